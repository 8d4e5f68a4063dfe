/- The document's kind and order; the program's order. -/
import Derived.Test.YtbpgbjhjnemaoaaGgLess
namespace Go.Proofs.Ytbpgbjhjnemaoaa
open Go Go.RowKit
/-- A kind out of four answers. -/
def kOf (a b z m : Bool) : Int := if a then 7 else if b then (if m then 1 else 6) else if z then (if m then 3 else 4) else if m then 2 else 5
set_option maxRecDepth 100000 in
set_option maxHeartbeats 1000000 in
theorem rkind_x (x y : Int) (p : Value) (m a b z : Bool) (w : World) (H : ∀ W : World, Calls Try.prog 12 #[p] W fun e w' => e = .returned (.int .u64 x) ∧ w' = W)
    (h1 : decide ((9223372036854775808 : Int) ≤ x) = m) (h2 : x.tmod 9223372036854775808 = y) (h3 : decide ((9218868437227405312 : Int) < y) = a) (h4 : (y == 9218868437227405312) = b) (h5 : (y == 0) = z) :
    Calls Try.prog 10 #[p] w fun e w' => e = .returned (.int .i64 (kOf a b z m)) ∧ w' = w := by
  have HH := Lib.hid H
  clear H
  unfold kOf
  cases a
  · cases b
    · cases z
      all_goals
        cases m
        all_goals
          go_enter Try.func10, Try.ntmps10
          go_wp2_with fail
          refine (HH.out _).mono ?_
          rintro e w1 ⟨rfl, rfl⟩
          go_wp2_with fail
          go_ret
          exact ⟨rfl, rfl⟩
    · cases m
      all_goals
        go_enter Try.func10, Try.ntmps10
        go_wp2_with fail
        refine (HH.out _).mono ?_
        rintro e w1 ⟨rfl, rfl⟩
        go_wp2_with fail
        go_ret
        exact ⟨rfl, rfl⟩
  · go_enter Try.func10, Try.ntmps10
    go_wp2_with fail
    refine (HH.out _).mono ?_
    rintro e w1 ⟨rfl, rfl⟩
    go_wp2_with fail
    go_ret
    exact ⟨rfl, rfl⟩
theorem rkind_any (b : Nat) (h : b < 18446744073709551616) (w : World) : Calls Try.prog 10 #[.float .f64 b] w fun e w' => e = .returned (.int .i64 (fk b)) ∧ w' = w := by
  have := rkind_x (bitsF b) ((bitsF b : Int).tmod 9223372036854775808) (.float .f64 b) _ _ _ _ w (rbits_any b h) rfl rfl rfl rfl rfl
  refine this.mono ?_
  rintro e w' ⟨rfl, rfl⟩
  refine ⟨ret_int ?_, rfl⟩
  have hm := mg_lt b
  rw [Int.tmod_eq_emod_of_nonneg (by omega)]
  unfold kOf bitsF fk
  by_cases hn : isN b = true
  · rw [if_pos hn, if_pos hn]; decide
  · have : mg b ≤ 9218868437227405312 := Nat.le_of_not_lt (fun h => hn (decide_eq_true h))
    rw [if_neg hn, if_neg hn]
    have e : ((b : Int) % 9223372036854775808) = (mg b : Int) := by unfold mg; omega
    have e2 : decide ((9223372036854775808 : Int) ≤ (b : Int)) = sg b := by unfold sg; exact decide_eq_decide.2 (by omega)
    rw [e, e2]
    by_cases hi : mg b = 9218868437227405312
    · rw [hi]
      cases sg b <;> decide
    · rw [if_neg (by simp; omega), if_neg (by simp; omega), if_neg hi]
      by_cases hz : mg b = 0
      · rw [hz]; cases sg b <;> decide
      · rw [if_neg (by simp; omega), if_neg hz]
theorem fk_7 (b : Nat) : fk b = 7 ↔ isN b = true := by
  unfold fk
  by_cases hn : isN b = true
  · simp [hn]
  · simp only [hn, Bool.false_eq_true, if_false, iff_false]
    (repeat' split) <;> decide
theorem less_any (a b : Nat) (ha : a < 18446744073709551616) (hb : b < 18446744073709551616) (w : World) : Calls Try.prog 13 #[.float .f64 a, .float .f64 b] w fun e w' => e = .returned (.bool (flt a b)) ∧ w' = w := by
  have H1 := Lib.hid (fun W : World => kind_any a ha W)
  have H2 := Lib.hid (fun W : World => kind_any b hb W)
  have ho := ordf_lt a b ha hb
  have hfk := fk_kf a b
  have hx : (decide (fk a < fk b) || (decide (fk a = fk b) && (FloatKind.f64.format.order a b == some .lt))) = flt a b := by
    rw [ho, hfk]
    by_cases he : fk a = fk b
    · have hn : isN b = isN a := by
        have h1 := fk_7 a
        have h2 := fk_7 b
        rw [he] at h1
        cases h : isN a <;> cases h' : isN b <;> simp_all
      rw [hn, decide_eq_true he]
      cases isN a <;> simp
    · rw [decide_eq_false he]; simp
  have hl := Lib.hid hx
  clear hx hfk ho ha hb
  obtain ⟨j, hj⟩ : ∃ j, j = fk a := ⟨_, rfl⟩
  obtain ⟨k, hk⟩ : ∃ k, k = fk b := ⟨_, rfl⟩
  rw [← hj, ← hk] at hl
  rw [← hj] at H1
  rw [← hk] at H2
  clear hj hk
  obtain ⟨r, hr⟩ : ∃ r, r = flt a b := ⟨_, rfl⟩
  rw [← hr] at hl ⊢
  clear hr
  by_cases c1 : j < k
  · have d1 : decide (j < k) = true := decide_eq_true c1
    have hrr : r = true := by rw [← hl.out, d1]; rfl
    go_enter Try.func13, Try.ntmps13
    go_wp2_with fail
    refine (H1.out _).mono ?_
    rintro e w1 ⟨rfl, rfl⟩
    go_wp2_with fail
    refine (H2.out _).mono ?_
    rintro e w1 ⟨rfl, rfl⟩
    go_wp2_with fail
    go_ret
    exact ⟨ret_bool hrr.symm, rfl⟩
  · have d1 : decide (j < k) = false := decide_eq_false c1
    by_cases c2 : j = k
    · subst c2
      have d2 : (j == j) = true := by simp
      have hrr : r = (FloatKind.f64.format.order a b == some .lt) := by rw [← hl.out, d1]; simp
      have HR := Lib.hid hrr
      clear hrr hl
      go_enter Try.func13, Try.ntmps13
      go_wp2_with fail
      refine (H1.out _).mono ?_
      rintro e w1 ⟨rfl, rfl⟩
      go_wp2_with fail
      refine (H2.out _).mono ?_
      rintro e w1 ⟨rfl, rfl⟩
      go_wp2_with fail
      go_ret
      exact ⟨ret_bool HR.out.symm, rfl⟩
    · have d2 : (j == k) = false := by simpa using c2
      have hrr : r = false := by rw [← hl.out, d1, decide_eq_false c2]; rfl
      have HR := Lib.hid hrr
      clear hrr hl
      go_enter Try.func13, Try.ntmps13
      go_wp2_with fail
      refine (H1.out _).mono ?_
      rintro e w1 ⟨rfl, rfl⟩
      go_wp2_with fail
      refine (H2.out _).mono ?_
      rintro e w1 ⟨rfl, rfl⟩
      go_wp2_with fail
      go_ret
      exact ⟨ret_bool HR.out.symm, rfl⟩
/-- The document's order, by kinds and digits. -/
theorem flt_r1 {a b : Nat} (h : fk a ≠ fk b) : decide (fk a < fk b) = flt a b := by
  rw [fk_kf, decide_eq_false h]; simp
theorem flt_r2 {a b : Nat} (ha : a < 18446744073709551616) (hb : b < 18446744073709551616) (h : fk a = fk b) : (if fk a = 2 then decide (bitsF b < bitsF a) else decide (bitsF a < bitsF b)) = flt a b := by
  have ea := sg_eq ha
  have eb := sg_eq hb
  have la := mg_lt a
  have lb := mg_lt b
  have h1 := fk_7 a
  have h2 := fk_7 b
  rw [fk_kf, h]
  by_cases na : isN a = true
  · have nb : isN b = true := h2.1 (h ▸ h1.2 na)
    have e7 := h2.2 nb
    unfold bitsF
    rw [e7, if_pos na, if_pos nb, na]
    simp
  · have nb : ¬ isN b = true := fun hn => na (h1.1 (h.trans (h2.2 hn)))
    have ma : mg a ≤ 9218868437227405312 := Nat.le_of_not_lt (fun h => na (decide_eq_true h))
    have mb : mg b ≤ 9218868437227405312 := Nat.le_of_not_lt (fun h => nb (decide_eq_true h))
    unfold bitsF sv
    rw [if_neg na, if_neg nb]
    unfold fk at h ⊢
    rw [if_neg na, if_neg nb] at h
    rw [if_neg nb]
    simp only [na, Bool.not_false, Bool.true_and]
    cases hs : sg a <;> cases ht : sg b <;> rw [hs] at ea h <;> (try rw [ht] at eb h) <;> simp only [if_true, Bool.false_eq_true, if_false] at ea eb h ⊢ <;>
      (by_cases i1 : mg a = 9218868437227405312 <;> by_cases i2 : mg b = 9218868437227405312 <;> by_cases i3 : mg a = 0 <;> by_cases i4 : mg b = 0 <;> simp [i1, i2, i3, i4] at h ⊢ <;> omega)
theorem rless_any (a b : Nat) (ha : a < 18446744073709551616) (hb : b < 18446744073709551616) (w : World) : Calls Try.prog 14 #[.float .f64 a, .float .f64 b] w fun e w' => e = .returned (.bool (flt a b)) ∧ w' = w := by
  have H1 := Lib.hid (fun W : World => rkind_any a ha W)
  have H2 := Lib.hid (fun W : World => rkind_any b hb W)
  have B1 := Lib.hid (fun W : World => rbits_any a ha W)
  have B2 := Lib.hid (fun W : World => rbits_any b hb W)
  have R1 := @flt_r1 a b
  have R2 := flt_r2 ha hb
  clear ha hb
  obtain ⟨r, hr⟩ : ∃ r, r = flt a b := ⟨_, rfl⟩
  rw [← hr] at R1 R2 ⊢
  clear hr
  obtain ⟨j, hj⟩ : ∃ j, j = fk a := ⟨_, rfl⟩
  obtain ⟨k, hk⟩ : ∃ k, k = fk b := ⟨_, rfl⟩
  obtain ⟨x, hx⟩ : ∃ x, x = bitsF a := ⟨_, rfl⟩
  obtain ⟨y, hy⟩ : ∃ y, y = bitsF b := ⟨_, rfl⟩
  rw [← hj] at H1 R1 R2
  rw [← hk] at H2 R1 R2
  rw [← hx] at B1 R2
  rw [← hy] at B2 R2
  clear hj hk hx hy
  by_cases c1 : j = k
  · subst c1
    have hr := R2 rfl
    clear R1 R2
    by_cases c2 : j = 2
    · subst c2
      rw [if_pos rfl] at hr
      have HR := Lib.hid hr
      clear hr
      go_enter Try.func14, Try.ntmps14
      go_wp2_with fail
      refine (H1.out _).mono ?_
      rintro e w1 ⟨rfl, rfl⟩
      go_wp2_with fail
      refine (H2.out _).mono ?_
      rintro e w1 ⟨rfl, rfl⟩
      go_wp2_with fail
      refine (H1.out _).mono ?_
      rintro e w1 ⟨rfl, rfl⟩
      go_wp2_with fail
      refine (B1.out _).mono ?_
      rintro e w1 ⟨rfl, rfl⟩
      go_wp2_with fail
      refine (B2.out _).mono ?_
      rintro e w1 ⟨rfl, rfl⟩
      go_wp2_with fail
      go_ret
      exact ⟨ret_bool (by rw [← HR.out]), rfl⟩
    · rw [if_neg c2] at hr
      have HR := Lib.hid hr
      have d2 : (j == 2) = false := by simpa using c2
      clear hr
      go_enter Try.func14, Try.ntmps14
      go_wp2_with fail
      refine (H1.out _).mono ?_
      rintro e w1 ⟨rfl, rfl⟩
      go_wp2_with fail
      refine (H2.out _).mono ?_
      rintro e w1 ⟨rfl, rfl⟩
      go_wp2_with fail
      refine (H1.out _).mono ?_
      rintro e w1 ⟨rfl, rfl⟩
      go_wp2_with fail
      refine (B1.out _).mono ?_
      rintro e w1 ⟨rfl, rfl⟩
      go_wp2_with fail
      refine (B2.out _).mono ?_
      rintro e w1 ⟨rfl, rfl⟩
      go_wp2_with fail
      go_ret
      exact ⟨ret_bool (by rw [← HR.out]), rfl⟩
  · have HR := Lib.hid (R1 c1)
    have d1 : (j == k) = false := by simpa using c1
    clear R1 R2
    go_enter Try.func14, Try.ntmps14
    go_wp2_with fail
    refine (H1.out _).mono ?_
    rintro e w1 ⟨rfl, rfl⟩
    go_wp2_with fail
    refine (H2.out _).mono ?_
    rintro e w1 ⟨rfl, rfl⟩
    go_wp2_with fail
    refine (H1.out _).mono ?_
    rintro e w1 ⟨rfl, rfl⟩
    go_wp2_with fail
    refine (H2.out _).mono ?_
    rintro e w1 ⟨rfl, rfl⟩
    go_wp2_with fail
    go_ret
    exact ⟨ret_bool HR.out, rfl⟩
end Go.Proofs.Ytbpgbjhjnemaoaa
