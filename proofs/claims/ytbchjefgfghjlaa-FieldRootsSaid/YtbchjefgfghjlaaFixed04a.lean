/- syngraphlaw04.fixed answers true. -/
import Derived.Test.YtbchjefgfghjlaaFixed04
import Derived.Test.YtbchjefgfghjlaaSeqFlow
import Derived.Test.YtbchjefgfghjlaaFField
namespace Go.Proofs.Ytbchjefgfghjlaa
open Go.RowKit
theorem OpTo.indexS {P : Program} {o : Oper} {a : Act} {w : World} {R : Value → World → Prop} {x y : Operand} {t1 : TypeId} (ht : P.underlying t1 = some .string) (s : ByteArray) (n : Nat) {k : IntKind} (ho : o.op = .index t1 x y) (hx : a.eval x = .string s) (hy : a.eval y = .int k (n : Int)) (hn : n < s.size) (hR : R (.int .u8 ((bl s).getD n 0 : Nat)) w) : OpTo P o a w R :=
  OpTo.val (v := .int .u8 ((bl s).getD n 0 : Nat)) (by
    have e : (bl s).getD n 0 = (s[n]'hn).toNat := by
      unfold bl
      have h2 : n < s.data.toList.length := by simpa using hn
      rw [List.getD_eq_getElem?_getD, List.getElem?_map, List.getElem?_eq_getElem h2]
      rfl
    rw [e]
    have := run_index_string (P := P) w t1 s k (n : Int) ht
    rw [dif_pos ⟨Int.natCast_nonneg _, by omega⟩] at this
    unfold execOp
    simp only [ho, hx, hy]
    go_simp) hR
/-- field.Of of bytes whose answer is known. -/
theorem of_lit (s : ByteArray) (c : Int) (n : Nat) (hc : ofC s = c) (hn : ofN s = n) (w : World) : Calls Try.prog 28 #[.string s] w fun e w' => ∃ r, Red r ∧ fe r = n ∧ e = .returned (.tuple #[elV r, .int .i64 c]) ∧ Touch [] w w' := by
  subst hc hn
  exact of_any s w
theorem root_b' {l : List Int} (hl : Red l) {b : Bool} (hb : isN (fe l) = b) (w : World) : Calls Try.prog 31 #[elV l] w fun e w' => ∃ r, Red r ∧ fe r = rootN (fe l) ∧ e = .returned (.tuple #[elV r, .bool b]) ∧ Touch [] w w' := by
  subst hb
  exact root_any l hl w
theorem isN_4 : isN 4 = true := sq_isN (y := 2) (by decide) (by decide)
theorem root_two {r : Nat} (h1 : r ≠ 2 → negF r = 2) (h2 : ¬ r % 2 = 1) (h3 : r < PP) : r = 2 := by
  by_cases h : r = 2
  · exact h
  · have := h1 h
    unfold negF at this
    unfold PP at this h3
    omega
theorem mulF_22 : mulF 2 2 = 4 := by decide
theorem rootN_of {a : Nat} (ha : mulF 2 2 = a) : rootN a = 2 := by
  refine root_two (fun h => ?_) (root_even a) (rootN_lt a)
  subst ha
  exact root_of_sq (by decide) h
theorem rootN_4 : rootN 4 = 2 := rootN_of mulF_22
theorem isN_2 : isN 2 = false := by
  cases h : isN 2 with
  | false => rfl
  | true =>
    exfalso
    obtain ⟨y, hy, hyy⟩ := isN_iff.1 h
    have h0 : y ≠ 0 := by
      rintro rfl
      rw [mulF_zero] at hyy
      exact absurd hyy (by decide)
    have hf := pr_PP.fermat1 (not_dvd hy h0)
    have e1 : ∀ k, 2 * k = PP - 1 → 2 ^ k % PP = 1 := fun k hk => by
      rw [← hyy]
      unfold mulF
      rw [← Nat.pow_mod, Nat.mul_pow, ← Nat.pow_add, ← Nat.two_mul, hk]
      exact hf
    have e2 := e1 28948022309329048855892746252171976963317496166410141009864396001978282409974 (by decide)
    rw [← pm_eq PP 256 2 28948022309329048855892746252171976963317496166410141009864396001978282409974 (by decide)] at e2
    exact absurd e2 (by decide +kernel)
def s2 : ByteArray := ⟨#[2, 0, 0, 0, 0, 0, 0, 0, 0, 0, 0, 0, 0, 0, 0, 0, 0, 0, 0, 0, 0, 0, 0, 0, 0, 0, 0, 0, 0, 0, 0, 0]⟩
def sP : ByteArray := ⟨#[237, 255, 255, 255, 255, 255, 255, 255, 255, 255, 255, 255, 255, 255, 255, 255, 255, 255, 255, 255, 255, 255, 255, 255, 255, 255, 255, 255, 255, 255, 255, 127]⟩
theorem of_2 : ofC s2 = 0 ∧ ofN s2 = 2 := by decide +kernel
theorem of_P : ofC sP = 3 ∧ ofN sP = 0 := by decide +kernel
theorem of_x : ofC ⟨#[120]⟩ = 2 ∧ ofN ⟨#[120]⟩ = 0 := by decide +kernel
theorem at_2 : (bl (toS 2)).getD 0 0 = 2 ∧ 0 < (toS 2).size ∧ ((toS 2).size : Int) = 32 := by decide +kernel
end Go.Proofs.Ytbchjefgfghjlaa
