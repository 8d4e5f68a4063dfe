/- Turns, comparing, insertion: the walks. -/
import Derived.Test.YtbpgbjhjnemaoaaGgSwap
namespace Go.Proofs.Ytbpgbjhjnemaoaa
open Go Go.RowKit
set_option maxRecDepth 100000 in
set_option maxHeartbeats 2000000 in
theorem rotate_any (g off n c : Nat) (d : Nat → Nat) (a m b : Nat) (cf : Value) (ham : a < m) (hmb : m < b) (hb : b ≤ n) (hn : n < 1000000) (wA : World) (h : Arr wA g off n d) :
    Calls Try.prog 44 #[.slice (some ⟨g, off, none⟩) n c, .int .i64 (a : Int), .int .i64 (m : Int), .int .i64 (b : Int), cf] wA fun e w' => e = .returned (.tuple #[]) ∧ Arr w' g off n (rot d a m b) ∧ In d (rot d a m b) a b n ∧ Touch [g] wA w' := by
  have HA := Lib.hid h
  have m1 : IntKind.i64.wrap ((m : Int) - (a : Int)) = ((m - a : Nat) : Int) := by rw [IntWalk.i64_in _ (by omega)]; omega
  have m2 : IntKind.i64.wrap ((b : Int) - (m : Int)) = ((b - m : Nat) : Int) := by rw [IntWalk.i64_in _ (by omega)]; omega
  have HS := Lib.hid (fun (d : Nat → Nat) (x y k : Nat) (h1 : x + k ≤ y) (h2 : y + k ≤ n) (W : World) (h : Arr W g off n d) => swapRange_any g off n c d x y k cf h1 h2 hn W h)
  clear h
  go_enter Try.func44, Try.ntmps44
  go_wp2_with fail
  clear m1 m2
  go_loopw [10, 11] (fun vi vj wr => ∃ (i j : Nat) (e : Nat → Nat), 0 < i ∧ 0 < j ∧ i ≤ m - a ∧ j ≤ b - m ∧ vi = .int .i64 (i : Int) ∧ vj = .int .i64 (j : Int) ∧ Arr wr g off n e ∧ In d e a b n ∧ rot e (m - i) m (m + j) = rot d a m b ∧ Touch [g] wA wr) (fun vi vj _ => (intOf vi).toNat + (intOf vj).toNat)
  case atStart => exact ⟨m - a, b - m, d, by omega, by omega, by omega, by omega, rfl, rfl, HA.out, In.refl _ _ _ _, by rw [show m - (m - a) = a by omega, show m + (b - m) = b by omega], Touch.refl _ _⟩
  case round =>
    obtain ⟨i, j, e, hi0, hj0, hi, hj, rfl, rfl, ha, hin, hr, ht⟩ := hrel
    clear HA
    have HA := Lib.hid ha
    have HI := Lib.hid hin
    have HR := Lib.hid hr
    have HT := Lib.hid ht
    clear ha hin hr ht
    have m3 : IntKind.i64.wrap ((m : Int) - (i : Int)) = ((m - i : Nat) : Int) := by rw [IntWalk.i64_in _ (by omega)]; omega
    by_cases heq : i = j
    · subst heq
      have t1 : (!((i : Int) == (i : Int))) = false := by simp
      have t2 : ((i : Int) == (i : Int)) = true := by simp
      go_wp2_with fail
      refine (HS.out e (m - i) m i (by omega) (by omega) _ HA.out).mono ?_
      rintro e2 w1 ⟨rfl, ha, ht⟩
      have he := rot_eq e m i (by omega)
      rw [HR.out] at he
      have hin2 := HI.out.trans (In.swR e (a := a) (b := b) (n := n) (x := m - i) (y := m) (k := i) (by omega) (by omega) (by omega) hb)
      rw [he] at ha hin2
      have HA2 := Lib.hid ha
      have HI2 := Lib.hid hin2
      have HT2 := Lib.hid (HT.out.trans ht)
      clear ha hin2 he ht
      go_wp2_with fail
      go_end0
      exact ⟨rfl, HA2.out, HI2.out, HT2.out⟩
    · have t2 : ((i : Int) == (j : Int)) = false := beq_eq_false_iff_ne.2 (by omega)
      by_cases hgt : j < i
      · have t3 : decide ((j : Int) < (i : Int)) = true := decide_eq_true (by omega)
        have m4 : IntKind.i64.wrap ((i : Int) - (j : Int)) = ((i - j : Nat) : Int) := by rw [IntWalk.i64_in _ (by omega)]; omega
        go_wp2_with fail
        refine (HS.out e (m - i) m j (by omega) (by omega) _ HA.out).mono ?_
        rintro e2 w1 ⟨rfl, ha, ht⟩
        have hr2 := rot_gt e m i j (by omega) hgt
        rw [HR.out] at hr2
        have HA2 := Lib.hid ha
        have HI2 := Lib.hid (HI.out.trans (In.swR e (a := a) (b := b) (n := n) (x := m - i) (y := m) (k := j) (by omega) (by omega) (by omega) hb))
        have HT2 := Lib.hid (HT.out.trans ht)
        have HR2 := Lib.hid hr2
        clear ha ht hr2 HA HI HT HR
        go_wp2_with fail
        go_roundw
        case rel => exact ⟨i - j, j, _, by omega, hj0, by omega, hj, rfl, rfl, HA2.out, HI2.out, HR2.out, HT2.out⟩
        case measure => simp [intOf]; omega
      · have t3 : decide ((j : Int) < (i : Int)) = false := decide_eq_false (by omega)
        have m4 : IntKind.i64.wrap ((j : Int) - (i : Int)) = ((j - i : Nat) : Int) := by rw [IntWalk.i64_in _ (by omega)]; omega
        go_wp2_with fail
        rw [show (m : Int) + (j : Int) - (i : Int) = ((m + j - i : Nat) : Int) by omega]
        refine (HS.out e (m - i) (m + j - i) i (by omega) (by omega) _ HA.out).mono ?_
        rintro e2 w1 ⟨rfl, ha, ht⟩
        have hr2 := rot_lt e m i j (by omega) (by omega)
        rw [HR.out] at hr2
        have HA2 := Lib.hid ha
        have HI2 := Lib.hid (HI.out.trans (In.swR e (a := a) (b := b) (n := n) (x := m - i) (y := m + j - i) (k := i) (by omega) (by omega) (by omega) hb))
        have HT2 := Lib.hid (HT.out.trans ht)
        have HR2 := Lib.hid hr2
        clear ha ht hr2 HA HI HT HR
        go_wp2_with fail
        go_roundw
        case rel => exact ⟨i, j - i, _, hi0, by omega, hi, by omega, rfl, rfl, HA2.out, HI2.out, HR2.out, HT2.out⟩
        case measure => simp [intOf]; omega
def cmpF (a b : Nat) : Int := if flt a b then -1 else if flt b a then 1 else 0
theorem cmpF_lt (a b : Nat) : decide (cmpF a b < 0) = decide (kf a < kf b) := by
  unfold cmpF flt
  by_cases h : kf a < kf b
  · simp [h]
  · rw [decide_eq_false h]
    simp only [Bool.false_eq_true, if_false]
    split <;> rfl
theorem cmp_any (a b : Nat) (ha : a < 18446744073709551616) (hb : b < 18446744073709551616) (w : World) : Calls Try.prog 37 #[.float .f64 a, .float .f64 b] w fun e w' => e = .returned (.int .i64 (cmpF a b)) ∧ w' = w := by
  have H1 := Lib.hid (fun W : World => less_any a b ha hb W)
  have H2 := Lib.hid (fun W : World => less_any b a hb ha W)
  unfold cmpF
  clear ha hb
  generalize flt a b = x at *
  generalize flt b a = y at *
  cases x
  · cases y
    all_goals
      go_enter Try.func37, Try.ntmps37
      go_wp2_with fail
      refine (H1.out _).mono ?_
      rintro e w1 ⟨rfl, rfl⟩
      go_wp2_with fail
      refine (H2.out _).mono ?_
      rintro e w1 ⟨rfl, rfl⟩
      go_wp2_with fail
      go_ret
      exact ⟨rfl, rfl⟩
  · go_enter Try.func37, Try.ntmps37
    go_wp2_with fail
    refine (H1.out _).mono ?_
    rintro e w1 ⟨rfl, rfl⟩
    go_wp2_with fail
    go_ret
    exact ⟨rfl, rfl⟩
end Go.Proofs.Ytbpgbjhjnemaoaa
