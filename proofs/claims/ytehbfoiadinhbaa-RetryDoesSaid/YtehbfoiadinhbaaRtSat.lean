/- Numbers that are cut to what there is (joined). -/
import Derived.Test.YtehbfoiadinhbaaRows
import Derived.Test.YtehbfoiadinhbaaRtTimer
import Derived.WalkKit
import Derived.WalkLawsBesides
import Derived.Lib.Hide
import Derived.Laws.Externs
import Derived.Lib.Mul64
import Derived.Laws.Bits64b
namespace Go.Proofs.Ytehbfoiadinhbaa
open Go Go.RowKit
/-! Add -/
def addS (x y : Int) : Int := if x + y < 18446744073709551616 then x + y else 18446744073709551615
theorem run_Add64 (x y c : Int) (hx : 0 ≤ x) (hy : 0 ≤ y) (hc0 : 0 ≤ c) (hc : c ≤ 1) (w : World) :
    (callFunc 30 #[.int .u64 x, .int .u64 y, .int .u64 c]).run Try.prog w =
      .ok (.value (.tuple #[.int .u64 ((x + y + c) % 18446744073709551616), .int .u64 ((x + y + c) / 18446744073709551616)])) w := by
  rw [run_callFunc_extern Try.func30 (by kernel_rfl) (by kernel_rfl) (by kernel_rfl) (e := add64Entry) (by kernel_rfl), run_add64 x y c hx hy hc0 hc]
  rfl
theorem satAdd_any (x y : Int) (hx : 0 ≤ x) (hx' : x < 18446744073709551616) (hy : 0 ≤ y) (hy' : y < 18446744073709551616) (w : World) :
    Calls Try.prog 15 #[.int .u64 x, .int .u64 y] w fun e w' => e = .returned (.int .u64 (addS x y)) ∧ w = w' := by
  have hrun : ∃ s c : Int, (∀ W : World, (callFunc 30 #[.int .u64 x, .int .u64 y, .int .u64 0]).run Try.prog W = .ok (.value (.tuple #[.int .u64 s, .int .u64 c])) W) ∧ ((c = 0 ∧ addS x y = s) ∨ (c = 1 ∧ addS x y = 18446744073709551615)) := by
    refine ⟨_, _, fun W => run_Add64 x y 0 hx hy (by omega) (by omega) W, ?_⟩
    unfold addS
    by_cases h : x + y < 18446744073709551616
    · exact .inl ⟨by omega, by rw [if_pos h]; omega⟩
    · exact .inr ⟨by omega, by rw [if_neg h]⟩
  obtain ⟨s, c, hrun, hc⟩ := hrun
  clear hx hx' hy hy'
  rcases hc with ⟨rfl, hs⟩ | ⟨rfl, hs⟩
  · have Hs := Lib.hid hs; clear hs
    go_enter Try.func15, Try.ntmps15
    go_wp2
    go_ret
    exact ⟨ret_int Hs.out.symm, rfl⟩
  · have Hs := Lib.hid hs; clear hs
    go_enter Try.func15, Try.ntmps15
    go_wp2
    go_ret
    exact ⟨ret_int Hs.out.symm, rfl⟩
/-! SatA -/
theorem refAdd_any (x y : Int) (hx : 0 ≤ x) (hx' : x < 18446744073709551616) (hy : 0 ≤ y) (hy' : y < 18446744073709551616) (w : World) :
    Calls Try.prog 34 #[.int .u64 x, .int .u64 y] w fun e w' => e = .returned (.int .u64 (addS x y)) ∧ w = w' := by
  by_cases h : x + y < 18446744073709551616
  · go_enter Try.func34, Try.ntmps34
    go_wp2
    go_ret
    exact ⟨ret_int (by unfold addS; rw [if_pos h]), rfl⟩
  · go_enter Try.func34, Try.ntmps34
    go_wp2
    go_ret
    exact ⟨ret_int (by unfold addS; rw [if_neg (by omega)]), rfl⟩
namespace Mul
end Mul
def mulS (x y : Int) : Int := if x * y < 18446744073709551616 then x * y else 18446744073709551615
theorem refMul_any (x y : Int) (hx : 0 ≤ x) (hx' : x < 18446744073709551616) (hy : 0 ≤ y) (hy' : y < 18446744073709551616) (w : World) :
    Calls Try.prog 44 #[.int .u64 x, .int .u64 y] w fun e w' => e = .returned (.int .u64 (mulS x y)) ∧ w = w' := by
  have _ := hx'
  by_cases h0 : y = 0
  · subst h0
    go_enter Try.func44, Try.ntmps44
    go_wp2
    go_ret
    exact ⟨ret_int (by unfold mulS; simp), rfl⟩
  have hq : ∃ q : Int, q = 18446744073709551615 / y := ⟨_, rfl⟩
  obtain ⟨q, hq⟩ := hq
  have hiff : x ≤ q ↔ x * y ≤ 18446744073709551615 := by
    rw [hq]; exact Int.le_ediv_iff_mul_le (by omega)
  by_cases h : x ≤ q
  · have hm : x * y < 18446744073709551616 := by have := hiff.1 h; omega
    have hm0 : 0 ≤ x * y := Int.mul_nonneg hx hy
    have hw : IntKind.u64.wrap (x * y) = x * y := by rw [IntKind.wrap_u64]; omega
    clear hiff
    go_enter Try.func44, Try.ntmps44
    go_wp2
    go_ret
    exact ⟨ret_int (by unfold mulS; rw [if_pos hm]), rfl⟩
  · have hm : ¬ x * y < 18446744073709551616 := by have := mt hiff.2 h; omega
    have Hm := Lib.hid hm; clear hm
    clear hiff
    go_enter Try.func44, Try.ntmps44
    go_wp2
    go_ret
    exact ⟨ret_int (by unfold mulS; have := Hm.out; rw [if_neg (by omega)]), rfl⟩
/-! SatB -/
def spreadS (s d : Int) : Int := if s = 18446744073709551615 then d else d % (s + 1)
theorem satSpread_any (s d : Int) (hs : 0 ≤ s) (hs' : s < 18446744073709551616) (hd : 0 ≤ d) (hd' : d < 18446744073709551616) (w : World) :
    Calls Try.prog 32 #[.int .u64 s, .int .u64 d] w fun e w' => e = .returned (.int .u64 (spreadS s d)) ∧ w = w' := by
  have _ := hd; have _ := hd'
  by_cases h : s = 18446744073709551615
  · subst h
    go_enter Try.func32, Try.ntmps32
    go_wp2
    go_ret
    exact ⟨ret_int (by unfold spreadS; rw [if_pos rfl]), rfl⟩
  · go_enter Try.func32, Try.ntmps32
    go_wp2
    go_ret
    exact ⟨ret_int (by unfold spreadS; rw [if_neg h]), rfl⟩
theorem spread_wrap {s d : Int} (hs : 0 ≤ s) (hd : 0 ≤ d) (hd' : d < 18446744073709551616) :
    IntKind.u64.wrap (d - IntKind.u64.wrap (d / (s + 1) * (s + 1))) = d % (s + 1) := by
  have h1 : 0 ≤ d / (s + 1) * (s + 1) := Int.mul_nonneg (Int.ediv_nonneg hd (by omega)) (by omega)
  have h2 := Int.ediv_mul_add_emod d (s + 1)
  have h3 := Int.emod_nonneg d (b := s + 1) (by omega)
  generalize d / (s + 1) * (s + 1) = q at h1 h2 ⊢
  generalize d % (s + 1) = r at h2 h3 ⊢
  have e1 : IntKind.u64.wrap q = q := by rw [IntKind.wrap_u64]; omega
  rw [e1, IntKind.wrap_u64]
  omega
theorem refSpread_any (s d : Int) (hs : 0 ≤ s) (hs' : s < 18446744073709551616) (hd : 0 ≤ d) (hd' : d < 18446744073709551616) (w : World) :
    Calls Try.prog 38 #[.int .u64 s, .int .u64 d] w fun e w' => e = .returned (.int .u64 (spreadS s d)) ∧ w = w' := by
  have _ := hd; have _ := hd'
  by_cases h : s = 18446744073709551615
  · subst h
    go_enter Try.func38, Try.ntmps38
    go_wp2
    go_ret
    exact ⟨ret_int (by unfold spreadS; rw [if_pos rfl]), rfl⟩
  · go_enter Try.func38, Try.ntmps38
    go_wp2
    go_ret
    exact ⟨ret_int (by unfold spreadS; rw [if_neg h]; exact spread_wrap hs hd hd'), rfl⟩
/-- A number doubled so often, cut to what there is. -/
def dbl : Nat → Int → Int
  | 0, n => n
  | j + 1, n => dbl j (addS n n)
theorem dbl_add (i j : Nat) (n : Int) : dbl (i + j) n = dbl j (dbl i n) := by
  induction i generalizing n with
  | zero => rw [Nat.zero_add]; rfl
  | succ i ih => rw [show i + 1 + j = (i + j) + 1 by omega]; exact ih _
theorem dbl_succ (i : Nat) (n : Int) : dbl (i + 1) n = addS (dbl i n) (dbl i n) := dbl_add i 1 n
theorem addS_ge {n : Int} (h : 0 ≤ n) (h' : n < 18446744073709551616) : n ≤ addS n n := by unfold addS; split <;> omega
theorem addS_rng {x y : Int} (h : 0 ≤ x) (h' : 0 ≤ y) : 0 ≤ addS x y ∧ addS x y < 18446744073709551616 := by unfold addS; split <;> omega
theorem dbl_rng {n : Int} (h : 0 ≤ n) (h' : n < 18446744073709551616) (j : Nat) : n ≤ dbl j n ∧ dbl j n < 18446744073709551616 := by
  induction j with
  | zero => exact ⟨Int.le_refl _, h'⟩
  | succ j ih =>
    rw [dbl_succ]
    have h1 := addS_ge (n := dbl j n) (by omega) ih.2
    have h2 := addS_rng (x := dbl j n) (y := dbl j n) (by omega) (by omega)
    exact ⟨by omega, h2.2⟩
theorem dbl_zero (j : Nat) : dbl j 0 = 0 := by
  induction j with
  | zero => rfl
  | succ j ih => rw [dbl_succ, ih]; rfl
theorem dbl_top (j : Nat) : dbl j 18446744073709551615 = 18446744073709551615 := by
  induction j with
  | zero => rfl
  | succ j ih => rw [dbl_succ, ih]; rfl
theorem dbl_pow {n : Int} (h : 1 ≤ n) (h' : n < 18446744073709551616) (j : Nat) (hj : j ≤ 64) : min ((2 : Int) ^ j) 18446744073709551615 ≤ dbl j n := by
  induction j with
  | zero => show min 1 _ ≤ n; omega
  | succ j ih =>
    have h1 := ih (by omega)
    have h2 : (2 : Int) ^ (j + 1) = 2 * 2 ^ j := by rw [Int.pow_succ]; omega
    rw [dbl_succ, h2]
    unfold addS
    split <;> omega
theorem dbl_64 {n : Int} (h : 0 ≤ n) (h' : n < 18446744073709551616) (j : Nat) (hj : 64 ≤ j) : dbl j n = dbl 64 n := by
  obtain ⟨i, rfl⟩ : ∃ i, j = 64 + i := ⟨j - 64, by omega⟩
  rw [dbl_add]
  by_cases h0 : n = 0
  · rw [h0, dbl_zero, dbl_zero]
  · have h1 := dbl_pow (n := n) (by omega) h' 64 (by omega)
    have h2 := dbl_rng h h' 64
    have h3 : dbl 64 n = 18446744073709551615 := by
      have : (2 : Int) ^ 64 = 18446744073709551616 := by decide
      omega
    rw [h3, dbl_top]
def backS (n k m : Int) : Int := if dbl k.toNat n < m then dbl k.toNat n else m
theorem mulS_two {n : Int} : mulS n 2 = addS n n := by unfold mulS addS; rw [show n * 2 = n + n by omega]
theorem backS_stop {n k m : Int} {i : Nat} (hn : 0 ≤ n) (hn' : n < 18446744073709551616) (hi : (i : Int) ≤ k) (h : m ≤ dbl i n ∨ dbl i n = 0) :
    backS n k m = if dbl i n < m then dbl i n else m := by
  obtain ⟨j, hj⟩ : ∃ j : Nat, k.toNat = i + j := ⟨k.toNat - i, by omega⟩
  unfold backS
  rw [hj, dbl_add]
  have h0 := dbl_rng hn hn' i
  rcases h with h | h
  · have h1 := dbl_rng (n := dbl i n) (by omega) h0.2 j
    rw [if_neg (by omega), if_neg (by omega)]
  · rw [h, dbl_zero]
set_option maxRecDepth 100000 in
theorem satBack_any (n k m : Int) (hn : 0 ≤ n) (hn' : n < 18446744073709551616) (hk : -9223372036854775808 ≤ k) (hk' : k < 9223372036854775808) (hm : 0 ≤ m) (hm' : m < 18446744073709551616) (w : World) :
    Calls Try.prog 12 #[.int .u64 n, .int .i64 k, .int .u64 m] w fun e w' => e = .returned (.int .u64 (backS n k m)) ∧ w = w' := by
  go_enter Try.func12, Try.ntmps12
  go_wp2_with fail
  go_step3
  go_wp2_with fail
  go_step3
  go_wp2_with fail
  · go_loopw [7, 11] (fun vn vi wr => ∃ i : Nat, (i : Int) ≤ k ∧ vn = .int .u64 (dbl i n) ∧ vi = .int .i64 i ∧ w = wr) (fun _ vi _ => k.toNat - (intOf vi).toNat)
    case atStart => exact ⟨0, by omega, rfl, rfl, rfl⟩
    case round =>
      obtain ⟨i, hi, rfl, rfl, rfl⟩ := hrel
      obtain ⟨x, hx⟩ : ∃ x, x = dbl i n := ⟨_, rfl⟩
      have hxr := dbl_rng hn hn' i
      have hsucc : dbl (i + 1) n = addS x x := by rw [dbl_succ, hx]
      have hst : m ≤ x ∨ x = 0 → backS n k m = if x < m then x else m := fun h => by rw [hx]; exact backS_stop hn hn' hi (by rw [hx] at h; exact h)
      rw [← hx] at hxr ⊢
      have Hx := Lib.hid hx; clear hx
      have Hsucc := Lib.hid hsucc; clear hsucc
      have Hst := Lib.hid hst; clear hst
      by_cases hik : (i : Int) < k
      · by_cases hmx : m ≤ x
        · go_wp2_with fail
          all_goals first | (exfalso; omega) | (rw [Exit.noGoto_ret]; go_ret; exact ⟨ret_int (by rw [Hst.out (.inl hmx)]; split <;> omega), rfl⟩) | (go_ret; exact ⟨ret_int (by rw [Hst.out (.inl hmx)]; split <;> omega), rfl⟩)
        · by_cases hx0 : x = 0
          · have Hst2 := Lib.hid (Hst.out (.inr hx0))
            subst hx0
            clear Hst
            go_wp2_with fail
            all_goals first | (exfalso; omega) | (rw [Exit.noGoto_ret]; go_ret; exact ⟨ret_int (by rw [Hst2.out]; split <;> omega), rfl⟩) | (go_ret; exact ⟨ret_int (by rw [Hst2.out]; split <;> omega), rfl⟩)
          · clear Hst
            go_wp2_with fail
            refine (satAdd_any x x (by omega) (by omega) (by omega) (by omega) _).mono ?_
            rintro e w' ⟨rfl, rfl⟩
            go_wp2_with fail
            go_roundw
            case rel => exact ⟨i + 1, by omega, congrArg _ Hsucc.out.symm, by go_num, trivial⟩
            case measure => simp [intOf]; omega
      · have hend : backS n k m = if x < m then x else m := by unfold backS; rw [show k.toNat = i by omega, ← Hx.out]
        have Hend := Lib.hid hend; clear hend Hst
        go_wp2_with fail
        all_goals (go_ret; exact ⟨ret_int (by rw [Hend.out]; split <;> omega), rfl⟩)
  · have hend : backS n k m = if n < m then n else m := by unfold backS; rw [show k.toNat = 0 by omega]; rfl
    have Hend := Lib.hid hend; clear hend
    refine wp_loop_rounds 1 ?_
    rw [rounds_succ]
    go_wp2_with fail
    all_goals (go_ret; exact ⟨ret_int (by rw [Hend.out]; split <;> omega), rfl⟩)
set_option maxRecDepth 100000 in
theorem refBack_any (n k m : Int) (hn : 0 ≤ n) (hn' : n < 18446744073709551616) (hk : -9223372036854775808 ≤ k) (hk' : k < 9223372036854775808) (hm : 0 ≤ m) (hm' : m < 18446744073709551616) (w : World) :
    Calls Try.prog 37 #[.int .u64 n, .int .i64 k, .int .u64 m] w fun e w' => e = .returned (.int .u64 (backS n k m)) ∧ w = w' := by
  have _ := hk; have _ := hm; have _ := hm'
  go_enter Try.func37, Try.ntmps37
  go_wp2_with fail
  go_loopw [7, 8] (fun vn vi wr => ∃ i : Nat, ((i : Int) ≤ k ∨ i = 0) ∧ i ≤ 64 ∧ vn = .int .u64 (dbl i n) ∧ vi = .int .i64 i ∧ w = wr) (fun _ vi _ => 64 - (intOf vi).toNat)
  case atStart => exact ⟨0, .inr rfl, by omega, rfl, rfl, rfl⟩
  case round =>
    obtain ⟨i, hi, hi64, rfl, rfl, rfl⟩ := hrel
    obtain ⟨x, hx⟩ : ∃ x, x = dbl i n := ⟨_, rfl⟩
    have hxr := dbl_rng hn hn' i
    have hsucc : dbl (i + 1) n = mulS x 2 := by rw [dbl_succ, hx, mulS_two]
    have hend : ¬ ((i : Int) < k ∧ i < 64) → backS n k m = if x < m then x else m := fun h => by
      unfold backS
      by_cases h64 : 64 ≤ k
      · rw [dbl_64 hn hn' _ (by omega), hx, show i = 64 by omega]
      · rw [hx, show k.toNat = i by omega]
    rw [← hx] at hxr ⊢
    clear hx
    have Hsucc := Lib.hid hsucc; clear hsucc
    have Hend := Lib.hid hend; clear hend
    by_cases hik : (i : Int) < k ∧ i < 64
    · obtain ⟨hik, hi6⟩ := hik
      clear Hend
      go_wp2_with fail
      refine (refMul_any x 2 (by omega) (by omega) (by omega) (by omega) _).mono ?_
      rintro e w' ⟨rfl, rfl⟩
      go_wp2_with fail
      go_roundw
      case rel => exact ⟨i + 1, by omega, by omega, congrArg _ Hsucc.out.symm, by go_num, trivial⟩
      case measure => simp [intOf]; omega
    · have Hend2 := Lib.hid (Hend.out hik)
      clear Hend
      by_cases hik2 : (i : Int) < k
      · obtain rfl : i = 64 := by omega
        go_wp2_with fail
        all_goals (go_ret; exact ⟨ret_int (by rw [Hend2.out]; split <;> omega), rfl⟩)
      · go_wp2_with fail
        all_goals (go_ret; exact ⟨ret_int (by rw [Hend2.out]; split <;> omega), rfl⟩)
end Go.Proofs.Ytehbfoiadinhbaa
