/- GaugeOrder: the walk. -/
import Derived.Test.YtbpgbjhjnemaoaaGgFixed
namespace Go.Proofs.Ytbpgbjhjnemaoaa
open Go Go.RowKit
set_option maxRecDepth 100000 in
set_option maxHeartbeats 2000000 in
theorem order_x (a b c : Nat) (x y p q bq : Bool) (ab bb : Nat) (wA : World)
    (H1 : ∀ W : World, Calls Try.prog 13 #[.float .f64 a, .float .f64 b] W fun e w' => e = .returned (.bool x) ∧ w' = W)
    (H2 : ∀ W : World, Calls Try.prog 13 #[.float .f64 b, .float .f64 a] W fun e w' => e = .returned (.bool y) ∧ w' = W)
    (H3 : ∀ W : World, Calls Try.prog 13 #[.float .f64 b, .float .f64 c] W fun e w' => e = .returned (.bool p) ∧ w' = W)
    (H4 : ∀ W : World, Calls Try.prog 13 #[.float .f64 a, .float .f64 c] W fun e w' => e = .returned (.bool q) ∧ w' = W)
    (H5 : ∀ W : World, Calls Try.prog 13 #[.float .f64 a, .float .f64 a] W fun e w' => e = .returned (.bool false) ∧ w' = W)
    (H6 : ∀ W : World, Calls Try.prog 11 #[.float .f64 a] W fun e w' => e = .returned (.int .u64 (ab : Int)) ∧ w' = W)
    (H7 : ∀ W : World, Calls Try.prog 11 #[.float .f64 b] W fun e w' => e = .returned (.int .u64 (bb : Int)) ∧ w' = W)
    (hb : ((ab : Int) == (bb : Int)) = bq) (hxy : (x && y) = false) (hx : (x || y) = !bq) (hq : x = true → p = true → q = true) :
    Calls Try.prog 6 #[.float .f64 a, .float .f64 b, .float .f64 c] wA fun e w' => e = .returned (.bool true) ∧ Touch [] wA w' := by
  have h1 := Lib.hid H1
  have h2 := Lib.hid H2
  have h3 := Lib.hid H3
  have h4 := Lib.hid H4
  have h5 := Lib.hid H5
  have h6 := Lib.hid H6
  have h7 := Lib.hid H7
  have HF := Lib.hid (fun W : World => fixed_any W)
  clear H1 H2 H3 H4 H5 H6 H7
  have hbq : bq = !(x || y) := by rw [hx, Bool.not_not]
  clear hx
  subst hbq
  cases x <;> cases y
  · clear hq hxy
    go_enter Try.func6, Try.ntmps6
    go_wp2_with fail
    refine (h1.out _).mono ?_
    rintro e w1 ⟨rfl, hw⟩
    rw [hw]
    clear hw w1
    go_wp2_with fail
    refine (h2.out _).mono ?_
    rintro e w1 ⟨rfl, hw⟩
    rw [hw]
    clear hw w1
    go_wp2_with fail
    refine (h6.out _).mono ?_
    rintro e w1 ⟨rfl, hw⟩
    rw [hw]
    clear hw w1
    go_wp2_with fail
    refine (h7.out _).mono ?_
    rintro e w1 ⟨rfl, hw⟩
    rw [hw]
    clear hw w1
    go_wp2_with fail
    refine (h5.out _).mono ?_
    rintro e w1 ⟨rfl, hw⟩
    rw [hw]
    clear hw w1
    go_wp2_with fail
    refine (HF.out _).mono ?_
    rintro e w1 ⟨rfl, ht⟩
    have HT := Lib.hid ht
    clear ht
    go_wp2_with fail
    go_ret
    exact ⟨rfl, HT.out⟩
  · clear hq hxy
    go_enter Try.func6, Try.ntmps6
    go_wp2_with fail
    refine (h1.out _).mono ?_
    rintro e w1 ⟨rfl, hw⟩
    rw [hw]
    clear hw w1
    go_wp2_with fail
    refine (h2.out _).mono ?_
    rintro e w1 ⟨rfl, hw⟩
    rw [hw]
    clear hw w1
    go_wp2_with fail
    refine (h6.out _).mono ?_
    rintro e w1 ⟨rfl, hw⟩
    rw [hw]
    clear hw w1
    go_wp2_with fail
    refine (h7.out _).mono ?_
    rintro e w1 ⟨rfl, hw⟩
    rw [hw]
    clear hw w1
    go_wp2_with fail
    refine (h5.out _).mono ?_
    rintro e w1 ⟨rfl, hw⟩
    rw [hw]
    clear hw w1
    go_wp2_with fail
    refine (HF.out _).mono ?_
    rintro e w1 ⟨rfl, ht⟩
    have HT := Lib.hid ht
    clear ht
    go_wp2_with fail
    go_ret
    exact ⟨rfl, HT.out⟩
  · cases p
    · clear hq hxy
      go_enter Try.func6, Try.ntmps6
      go_wp2_with fail
      refine (h1.out _).mono ?_
      rintro e w1 ⟨rfl, hw⟩
      rw [hw]
      clear hw w1
      go_wp2_with fail
      refine (h2.out _).mono ?_
      rintro e w1 ⟨rfl, hw⟩
      rw [hw]
      clear hw w1
      go_wp2_with fail
      refine (h6.out _).mono ?_
      rintro e w1 ⟨rfl, hw⟩
      rw [hw]
      clear hw w1
      go_wp2_with fail
      refine (h7.out _).mono ?_
      rintro e w1 ⟨rfl, hw⟩
      rw [hw]
      clear hw w1
      go_wp2_with fail
      refine (h3.out _).mono ?_
      rintro e w1 ⟨rfl, hw⟩
      rw [hw]
      clear hw w1
      go_wp2_with fail
      refine (h5.out _).mono ?_
      rintro e w1 ⟨rfl, hw⟩
      rw [hw]
      clear hw w1
      go_wp2_with fail
      refine (HF.out _).mono ?_
      rintro e w1 ⟨rfl, ht⟩
      have HT := Lib.hid ht
      clear ht
      go_wp2_with fail
      go_ret
      exact ⟨rfl, HT.out⟩
    · obtain rfl : q = true := hq rfl rfl
      clear hq hxy
      go_enter Try.func6, Try.ntmps6
      go_wp2_with fail
      refine (h1.out _).mono ?_
      rintro e w1 ⟨rfl, hw⟩
      rw [hw]
      clear hw w1
      go_wp2_with fail
      refine (h2.out _).mono ?_
      rintro e w1 ⟨rfl, hw⟩
      rw [hw]
      clear hw w1
      go_wp2_with fail
      refine (h6.out _).mono ?_
      rintro e w1 ⟨rfl, hw⟩
      rw [hw]
      clear hw w1
      go_wp2_with fail
      refine (h7.out _).mono ?_
      rintro e w1 ⟨rfl, hw⟩
      rw [hw]
      clear hw w1
      go_wp2_with fail
      refine (h3.out _).mono ?_
      rintro e w1 ⟨rfl, hw⟩
      rw [hw]
      clear hw w1
      go_wp2_with fail
      refine (h4.out _).mono ?_
      rintro e w1 ⟨rfl, hw⟩
      rw [hw]
      clear hw w1
      go_wp2_with fail
      refine (h5.out _).mono ?_
      rintro e w1 ⟨rfl, hw⟩
      rw [hw]
      clear hw w1
      go_wp2_with fail
      refine (HF.out _).mono ?_
      rintro e w1 ⟨rfl, ht⟩
      have HT := Lib.hid ht
      clear ht
      go_wp2_with fail
      go_ret
      exact ⟨rfl, HT.out⟩
  · cases hxy
theorem order_walk (a b c : Nat) (ha : a < 18446744073709551616) (hb : b < 18446744073709551616) (hc : c < 18446744073709551616) (w : World) :
    Calls Try.prog 6 #[.float .f64 a, .float .f64 b, .float .f64 c] w fun e w' => e = .returned (.bool true) ∧ Touch [] w w' := by
  have hk := kf_bits ha hb
  refine order_x a b c (flt a b) (flt b a) (flt b c) (flt a c) (decide (bitsF a = bitsF b)) (bitsF a) (bitsF b) w (less_any a b ha hb) (less_any b a hb ha) (less_any b c hb hc) (less_any a c ha hc) (fun W => ?_) (bits_any a ha) (bits_any b hb) ?_ ?_ ?_ ?_
  · have := less_any a a ha ha W
    rw [show flt a a = false by unfold flt; exact decide_eq_false (by omega)] at this
    exact this
  · by_cases h : bitsF a = bitsF b
    · rw [h]; simp
    · rw [decide_eq_false h]; exact beq_eq_false_iff_ne.2 (by omega)
  · unfold flt
    by_cases h : kf a < kf b
    · rw [decide_eq_false (show ¬ kf b < kf a by omega)]; simp
    · rw [decide_eq_false h]; simp
  · unfold flt
    by_cases h : bitsF a = bitsF b
    · have := hk.1 h
      rw [decide_eq_true h, decide_eq_false (show ¬ kf a < kf b by omega), decide_eq_false (show ¬ kf b < kf a by omega)]; rfl
    · have : kf a ≠ kf b := fun h' => h (hk.2 h')
      rw [decide_eq_false h]
      by_cases h2 : kf a < kf b
      · rw [decide_eq_true h2]; simp
      · rw [decide_eq_true (show kf b < kf a by omega)]; simp
  · unfold flt
    intro h1 h2
    have h1 := of_decide_eq_true h1
    have h2 := of_decide_eq_true h2
    exact decide_eq_true (by omega)
end Go.Proofs.Ytbpgbjhjnemaoaa
