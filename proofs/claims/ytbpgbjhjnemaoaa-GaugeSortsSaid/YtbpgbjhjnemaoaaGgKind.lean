/- Kinds and digits: what the functions tell. -/
import Derived.Test.YtbpgbjhjnemaoaaMem
import Derived.Test.YtbpgbjhjnemaoaaGgFloat
import Derived.Test.YtbpgbjhjnemaoaaProg
import Derived.WalkLawsBesides
import Derived.IntWalk
import Derived.Lib.Hide
import Derived.Deep.QuietTactic
import Derived.BigQuiet
namespace Go.Proofs.Ytbpgbjhjnemaoaa
open Go Go.RowKit
section
variable {P : Program} {w : World} {a : Addr} {m : Mode}
@[go_sem] theorem run_store_float (k : FloatKind) (n : Nat) : (store a (.float k n) m).run P w = stored P w a (.float k n) m := run_store P w a _ m rfl
end
theorem ordf (a b : Nat) (ha : a < 18446744073709551616) (hb : b < 18446744073709551616) : FloatKind.f64.format.order a b = if isN a || isN b then none else some (ordI (sv a) (sv b)) := order_eq a b ha hb
theorem ordI_lt (a b : Int) : (ordI a b == .lt) = decide (a < b) := by
  unfold ordI
  (repeat' split) <;> simp [*]
theorem ordI_gt (a b : Int) : (ordI a b == .gt) = decide (b < a) := by
  unfold ordI
  (repeat' split) <;> simp <;> omega
theorem ordI_eq' (a b : Int) : (ordI a b == .eq) = decide (a = b) := by
  unfold ordI
  (repeat' split) <;> simp <;> omega
theorem some_ord (x y : Ordering) : (some x == some y) = (x == y) := by cases x <;> cases y <;> rfl
theorem ordf_lt (a b : Nat) (ha : a < 18446744073709551616) (hb : b < 18446744073709551616) : (FloatKind.f64.format.order a b == some .lt) = (!isN a && !isN b && decide (sv a < sv b)) := by
  rw [ordf a b ha hb]
  cases isN a <;> cases isN b <;> simp [ordI_lt]
theorem ordf_gt (a b : Nat) (ha : a < 18446744073709551616) (hb : b < 18446744073709551616) : (FloatKind.f64.format.order a b == some .gt) = (!isN a && !isN b && decide (sv b < sv a)) := by
  rw [ordf a b ha hb]
  cases isN a <;> cases isN b <;> simp [ordI_gt]
theorem ordf_eq (a b : Nat) (ha : a < 18446744073709551616) (hb : b < 18446744073709551616) : (FloatKind.f64.format.order a b == some .eq) = (!isN a && !isN b && decide (sv a = sv b)) := by
  rw [ordf a b ha hb]
  cases isN a <;> cases isN b <;> simp [ordI_eq']
theorem ord_self (b : Nat) (h : b < 18446744073709551616) : (FloatKind.f64.format.order b b != some .eq) = isN b := by
  have := ordf_eq b b h h
  unfold bne
  rw [this]
  cases isN b <;> simp
theorem bits_run (b : Nat) (w : World) : (callFunc 29 #[.float .f64 b]).run Try.prog w = .ok (.value (.int .u64 (b : Int))) w := by
  rw [run_callFunc_extern Try.func29 (by kernel_rfl) (by kernel_rfl) (by kernel_rfl) (e := Extern.MathFloatBits.float64bits) (by kernel_rfl)]
  rfl
theorem frombits_run (b : Nat) (w : World) : (callFunc 39 #[.int .u64 (b : Int)]).run Try.prog w = .ok (.value (.float .f64 b)) w := by
  rw [run_callFunc_extern Try.func39 (by kernel_rfl) (by kernel_rfl) (by kernel_rfl) (e := Extern.MathFloatBits.float64frombits) (by kernel_rfl)]
  rfl
theorem isNaN_any (b : Nat) (h : b < 18446744073709551616) (w : World) : Calls Try.prog 26 #[.float .f64 b] w fun e w' => e = .returned (.bool (isN b)) ∧ w' = w := by
  have H := Lib.hid (ord_self b h)
  clear h
  go_enter Try.func26, Try.ntmps26
  go_wp2_with fail
  go_ret
  exact ⟨ret_bool H.out, rfl⟩
theorem wrap_sg (b : Nat) (h : b < 18446744073709551616) : decide (IntKind.i64.wrap (b : Int) < 0) = sg b := by
  unfold sg
  rw [IntKind.wrap_i64]
  by_cases h2 : 9223372036854775808 ≤ b
  · rw [decide_eq_true h2]; exact decide_eq_true (by omega)
  · rw [decide_eq_false h2]; exact decide_eq_false (by omega)
theorem signbit_any (b : Nat) (h : b < 18446744073709551616) (w : World) : Calls Try.prog 28 #[.float .f64 b] w fun e w' => e = .returned (.bool (sg b)) ∧ w' = w := by
  have hr := bits_run b
  obtain ⟨x, hx⟩ : ∃ x : Int, x = (b : Int) := ⟨_, rfl⟩
  have hw := wrap_sg b h
  rw [← hx] at hr hw
  obtain ⟨y, hy⟩ : ∃ y : Int, IntKind.i64.wrap x = y := ⟨_, rfl⟩
  rw [hy] at hw
  have HW := Lib.hid hw
  clear hw hx h
  go_enter Try.func28, Try.ntmps28
  go_wp2_with fail
  go_ret
  exact ⟨ret_bool HW.out, rfl⟩
theorem xor_top (b : Nat) (h : b < 18446744073709551616) : Op.negFloat .f64 b = if sg b then b - 9223372036854775808 else b + 9223372036854775808 := by
  show b ^^^ 2 ^ 63 = _
  have h1 : (b ^^^ 2 ^ 63) % 2 ^ 63 = b % 2 ^ 63 := by
    rw [Nat.xor_mod_two_pow, Nat.mod_self, Nat.xor_zero]
  have h2 : (b ^^^ 2 ^ 63) / 2 ^ 63 = (b / 2 ^ 63) ^^^ 1 := by
    rw [Nat.xor_div_two_pow]
  unfold sg
  generalize b ^^^ 2 ^ 63 = x at *
  by_cases h3 : 9223372036854775808 ≤ b
  · have e : b / 2 ^ 63 = 1 := by omega
    rw [e] at h2
    simp at h2
    rw [if_pos (by simpa using h3)]
    omega
  · have e : b / 2 ^ 63 = 0 := by omega
    rw [e] at h2
    simp at h2
    rw [if_neg (by simpa using h3)]
    omega
theorem neg_lt (b : Nat) (h : b < 18446744073709551616) : Op.negFloat .f64 b < 18446744073709551616 := by
  rw [xor_top b h]
  by_cases h3 : 9223372036854775808 ≤ b
  · rw [if_pos (by unfold sg; simpa using h3)]; omega
  · rw [if_neg (by unfold sg; simpa using h3)]; omega
theorem neg_mg (b : Nat) (h : b < 18446744073709551616) : mg (Op.negFloat .f64 b) = mg b := by
  rw [xor_top b h]
  unfold mg
  by_cases h3 : 9223372036854775808 ≤ b
  · rw [if_pos (by unfold sg; simpa using h3)]; omega
  · rw [if_neg (by unfold sg; simpa using h3)]; omega
theorem neg_sg (b : Nat) (h : b < 18446744073709551616) : sg (Op.negFloat .f64 b) = !sg b := by
  rw [xor_top b h]
  by_cases h3 : 9223372036854775808 ≤ b
  · rw [if_pos (by unfold sg; simpa using h3)]; unfold sg; rw [decide_eq_true h3]; exact decide_eq_false (by omega)
  · rw [if_neg (by unfold sg; simpa using h3)]; unfold sg; rw [decide_eq_false h3]; exact decide_eq_true (by omega)
theorem neg_isN (b : Nat) (h : b < 18446744073709551616) : isN (Op.negFloat .f64 b) = isN b := by
  unfold isN
  rw [neg_mg b h]
theorem neg_sv (b : Nat) (h : b < 18446744073709551616) : sv (Op.negFloat .f64 b) = - sv b := by
  unfold sv
  rw [neg_mg b h, neg_sg b h]
  cases sg b <;> simp
def infP (b : Nat) : Bool := !isN b && !sg b && decide (mg b = 9218868437227405312)
def infM (b : Nat) : Bool := !isN b && sg b && decide (mg b = 9218868437227405312)
theorem max_gt (b : Nat) (h : b < 18446744073709551616) : (FloatKind.f64.format.order b 9218868437227405311 == some .gt) = infP b := by
  rw [ordf_gt b _ h (by decide)]
  unfold infP
  have e1 : isN 9218868437227405311 = false := by decide
  have e2 : sv 9218868437227405311 = 9218868437227405311 := by decide
  rw [e1, e2]
  unfold sv isN
  by_cases hn : 9218868437227405312 < mg b
  · rw [decide_eq_true hn]; rfl
  · rw [decide_eq_false hn]
    cases sg b <;> simp <;> omega
theorem neg_run (b : Nat) (w : World) : (Op.unary .neg (.float .f64 b)).run Try.prog w = .ok (.float .f64 (Op.negFloat .f64 b)) w := rfl
set_option maxRecDepth 100000 in
theorem isInf_p (b : Nat) (h : b < 18446744073709551616) (w : World) : Calls Try.prog 27 #[.float .f64 b, .int .i64 1] w fun e w' => e = .returned (.bool (infP b)) ∧ w' = w := by
  have H := Lib.hid (max_gt b h)
  clear h
  go_enter Try.func27, Try.ntmps27
  go_wp2_with fail
  go_ret
  exact ⟨ret_bool H.out, rfl⟩
set_option maxRecDepth 100000 in
theorem isInf_m (b : Nat) (h : b < 18446744073709551616) (w : World) : Calls Try.prog 27 #[.float .f64 b, .int .i64 (-1)] w fun e w' => e = .returned (.bool (infM b)) ∧ w' = w := by
  have hm : infP (Op.negFloat .f64 b) = infM b := by
    unfold infP infM
    rw [neg_isN b h, neg_sg b h, neg_mg b h, Bool.not_not]
  have H := Lib.hid ((max_gt _ (neg_lt b h)).trans hm)
  have hr := neg_run b w
  obtain ⟨c, hc⟩ : ∃ c, c = Op.negFloat .f64 b := ⟨_, rfl⟩
  rw [← hc] at hr H
  clear h hm hc
  go_enter Try.func27, Try.ntmps27
  go_wp2_with fail
  go_ret
  exact ⟨ret_bool H.out, rfl⟩
end Go.Proofs.Ytbpgbjhjnemaoaa
