/- Which point bytes are. -/
import Derived.Test.YtbgpgbfiadhddaaDoorPtEncL
namespace Go.Proofs.YtbgpgbfiadhddaaDoor
open Go Go.RowKit
def dnS (s : ByteArray) : Nat := leN (bl s)
def dyN (s : ByteArray) : Nat := dnS s % 2 ^ 255
def oddS (s : ByteArray) : Bool := decide (128 ≤ (bl s).getD 31 0)
def argN (y : Nat) : Nat := mulF (subF (mulF y y) 1) (invF (addF (mulF DN (mulF y y)) 1))
theorem last_split {s : ByteArray} (h : s.size = 32) : dnS s = leN ((bl s).take 31) + 2 ^ 248 * (bl s).getD 31 0 := by
  have hl : 31 < (bl s).length := by rw [bl_len, h]; decide
  have h2 := leN_take_succ hl
  rw [List.take_of_length_le (by rw [bl_len, h]; omega)] at h2
  unfold dnS
  rw [h2, show (256 : Nat) ^ 31 = 2 ^ 248 by decide]
theorem low_lt {s : ByteArray} (h : s.size = 32) : leN ((bl s).take 31) < 2 ^ 248 := by
  have h2 := leN_lt (l := (bl s).take 31) (fun b hb => bl_lt s b (List.mem_of_mem_take hb))
  rwa [List.length_take, bl_len, h, show min 31 32 = 31 from rfl, show (256 : Nat) ^ 31 = 2 ^ 248 by decide] at h2
theorem byte_lt (s : ByteArray) (i : Nat) : (bl s).getD i 0 < 256 := by
  rw [List.getD_eq_getElem?_getD]
  cases h : (bl s)[i]? with
  | none => simp
  | some b => exact bl_lt s b (List.mem_of_getElem? h)
theorem split_gen {L b : Nat} (hL : L < 2 ^ 248) : (L + 2 ^ 248 * b) % 2 ^ 255 = L + 2 ^ 248 * (b % 128) ∧ (L + 2 ^ 248 * b) / 2 ^ 255 = b / 128 := by
  have e : (2 : Nat) ^ 255 = 2 ^ 248 * 128 := by decide
  rw [e]
  generalize (2 : Nat) ^ 248 = p at *
  have hp : 0 < p := by omega
  have h1 : L + p * b = (L + p * (b % 128)) + (p * 128) * (b / 128) := by
    have : b = b % 128 + 128 * (b / 128) := (Nat.mod_add_div b 128).symm
    rw [Nat.mul_assoc, Nat.add_assoc, ← Nat.mul_add, ← this]
  have h2 : L + p * (b % 128) < p * 128 := by
    have h3 : b % 128 + 1 ≤ 128 := by omega
    have h4 : p * (b % 128 + 1) ≤ p * 128 := Nat.mul_le_mul_left _ h3
    rw [Nat.mul_add, Nat.mul_one] at h4
    omega
  rw [h1]
  exact ⟨by rw [Nat.add_mul_mod_self_left, Nat.mod_eq_of_lt h2], by rw [Nat.add_mul_div_left _ _ (by omega), Nat.div_eq_of_lt h2, Nat.zero_add]⟩
theorem dyN_eq {s : ByteArray} (h : s.size = 32) : dyN s = leN ((bl s).take 31) + 2 ^ 248 * ((bl s).getD 31 0 % 128) := by
  unfold dyN
  rw [last_split h]
  exact (split_gen (low_lt h)).1
theorem dyN_lt (s : ByteArray) : dyN s < 2 ^ 255 := Nat.mod_lt _ (Nat.two_pow_pos 255)
theorem oddS_eq {s : ByteArray} (h : s.size = 32) : dnS s = dyN s + 2 ^ 255 * (if oddS s then 1 else 0) := by
  have h1 := (split_gen (b := (bl s).getD 31 0) (low_lt h)).2
  rw [← last_split h] at h1
  have h2 := Nat.mod_add_div (dnS s) (2 ^ 255)
  rw [h1] at h2
  have h3 := byte_lt s 31
  unfold dyN oddS
  rw [← h2]
  congr 1
  · rw [Nat.add_mul_mod_self_left, Nat.mod_mod]
  · congr 1
    by_cases hb : 128 ≤ (bl s).getD 31 0
    · rw [decide_eq_true hb, if_pos rfl]; omega
    · rw [decide_eq_false hb, if_neg (by simp)]; omega
/-- The bytes without the highest binary digit. -/
theorem yS_eq {s : ByteArray} (h : s.size = 32) : s.extract 0 31 ++ strOfNums [(((bl s).getD 31 0 % 128 : Nat) : Int)] = toS (dyN s) := by
  have hb : bl (strOfNums [(((bl s).getD 31 0 % 128 : Nat) : Int)]) = [(bl s).getD 31 0 % 128] := bl_strOfNums [(bl s).getD 31 0 % 128] (fun b hb => by simp at hb; omega)
  have h1 : bl (s.extract 0 31 ++ strOfNums [(((bl s).getD 31 0 % 128 : Nat) : Int)]) = (bl s).take 31 ++ [(bl s).getD 31 0 % 128] := by
    rw [← hb, ← bl_extractE]
    unfold bl
    rw [ByteArray.data_append]
    simp
  have hs : (s.extract 0 31 ++ strOfNums [(((bl s).getD 31 0 % 128 : Nat) : Int)]).size = 32 := by
    rw [← bl_len, h1]
    simp [bl_len, h]
  rw [← toS_leN hs, h1, leN_append, List.length_take, bl_len, h, dyN_eq h, show min 31 32 = 31 from rfl, show (256 : Nat) ^ 31 = 2 ^ 248 by decide]
  simp [leN]
theorem yS_size {s : ByteArray} (h : s.size = 32) : (s.extract 0 31).size + (strOfNums [(((bl s).getD 31 0 % 128 : Nat) : Int)]).size ≤ 9223372036854775807 := by
  have := congrArg ByteArray.size (yS_eq h)
  rw [ByteArray.size_append, toS_size] at this
  omega
theorem ofC_toS {n : Nat} (hn : n < 2 ^ 255) : ofC (toS n) = if n < PP then 0 else 3 := by
  have hb : n < 115792089237316195423570985008687907853269984665640564039457584007913129639936 := Nat.lt_trans hn (by decide)
  have hc : cutN (toS n) = n % PP := by
    unfold cutN
    rw [List.take_of_length_le (by rw [bl_len, toS_size]; omega), leN_toS, Nat.mod_eq_of_lt hb]
  unfold ofC
  rw [if_neg (by rw [toS_size]; omega), if_neg (by rw [toS_size]; omega), hc]
  by_cases h : n < PP
  · rw [if_pos (by rw [Nat.mod_eq_of_lt h]), if_pos h]
  · have hm : n % PP < PP := Nat.mod_lt _ PP_pos
    have hP : PP < 115792089237316195423570985008687907853269984665640564039457584007913129639936 := by decide
    rw [if_neg (fun e => h ((toS_inj (Nat.lt_trans hm hP) hb e) ▸ hm)), if_neg h]
theorem ofN_toS {n : Nat} (hn : n < PP) : ofN (toS n) = n := by
  have hb : n < 115792089237316195423570985008687907853269984665640564039457584007913129639936 := Nat.lt_trans hn (by decide)
  unfold ofN
  rw [ofC_toS (Nat.lt_trans hn PP_255), if_pos hn, if_pos rfl]
  unfold cutN
  rw [List.take_of_length_le (by rw [bl_len, toS_size]; omega), leN_toS, Nat.mod_eq_of_lt hb, Nat.mod_eq_of_lt hn]
theorem dec_id {N0 : Nat} [NeZero N0] {d y r k : Fin N0} (hr : r*r = (y*y - 1)*k) (hk : (d*(y*y) + 1)*k = 1) : y^2 - r^2 - 1 - d*r^2*y^2 = 0 := by
  have e : y^2 - r^2 - 1 - d*r^2*y^2 = (y*y - 1) - (r*r)*(d*(y*y)+1) := by clear hr hk; grind
  have e2 : (y*y - 1) - ((y*y - 1)*k)*(d*(y*y)+1) = (y*y - 1) - (y*y-1)*((d*(y*y)+1)*k) := by clear hr hk; grind
  rw [e, hr, e2, hk]
  clear e e2 hr hk
  grind
theorem gz1 {N0 : Nat} [NeZero N0] (d : Fin N0) : (1 : Fin N0) = d*(0*0) + 1 := by grind
theorem gz2 {N0 : Nat} [NeZero N0] (d i y : Fin N0) : i^2 - d*y^2 = (i^2 + 1) - (d*(y*y) + 1) := by grind
theorem gz3 {N0 : Nat} [NeZero N0] : (0 : Fin N0) - 0 = 0 := by grind
theorem dec_den (y : FF) : dF*(y*y) + 1 ≠ 0 := fun h => by
  by_cases hy : y = 0
  · rw [hy] at h
    refine one_ne ?_
    rw [gz1 dF, h]
  · have hs := ed.sq
    refine ed.nosq2 (u := y) (v := dI) hy ?_
    rw [gz2, hs, h]
    exact gz3
theorem dec_on {y : Nat} (h : isN (argN y) = true) : Cv (ff (rootN (argN y))) (ff y) := by
  have h1 := congrArg ff (root_sq h)
  generalize rootN (argN y) = r at *
  unfold argN at h1
  rw [ff_mul, ff_mul, ff_sub (by decide), ff_mul, ff_one, ff_invF (addF_lt ..), ff_add, ff_mul, ff_mul, ff_one] at h1
  have hk := mul_iF (dec_den (ff y))
  exact dec_id h1 hk
/-- Whether bytes are a point. -/
def decOK (s : ByteArray) : Prop := s.size = 32 ∧ dyN s < PP ∧ isN (argN (dyN s)) = true ∧ ¬ (oddS s = true ∧ rootN (argN (dyN s)) = 0)
instance (s : ByteArray) : Decidable (decOK s) := by unfold decOK; exact inferInstance
def decX (s : ByteArray) : Nat := if oddS s then negF (rootN (argN (dyN s))) else rootN (argN (dyN s))
theorem decX_lt (s : ByteArray) : decX s < PP := by
  unfold decX
  split
  · exact negF_lt _
  · exact rootN_lt _
theorem dec_cv {s : ByteArray} (h : decOK s) : Cv (ff (decX s)) (ff (dyN s)) := by
  have h1 := dec_on h.2.2.1
  unfold decX
  split
  · rw [ff_neg (rootN_lt _)]; exact neg_on h1
  · exact h1
def decP (s : ByteArray) : Pt := if h : decOK s then ⟨ff (decX s), ff (dyN s), dec_cv h⟩ else pzero
def decC (s : ByteArray) : Int := if decOK s then 0 else 9
theorem decP_no {s : ByteArray} (h : ¬ decOK s) : decP s = pzero := by unfold decP; rw [dif_neg h]
theorem decC_no {s : ByteArray} (h : ¬ decOK s) : decC s = 9 := by unfold decC; rw [if_neg h]
theorem decC_yes {s : ByteArray} (h : decOK s) : decC s = 0 := by unfold decC; rw [if_pos h]
theorem decP_yes {s : ByteArray} (h : decOK s) : decP s = ⟨ff (decX s), ff (dyN s), dec_cv h⟩ := by unfold decP; rw [dif_pos h]
theorem dec_rep {s : ByteArray} (h : decOK s) : QRep (decP s) (decX s) (dyN s) 1 (mulF (decX s) (dyN s)) := by
  rw [decP_yes h]
  exact rep_of (decX_lt s) h.2.1 (dec_cv h)
set_option maxRecDepth 100000 in
theorem and128_all : ∀ y : Fin 256, bits .and .u8 (y.val : Int) 128 = ((y.val / 128 * 128 : Nat) : Int) ∧ bits .andNot .u8 (y.val : Int) 128 = ((y.val % 128 : Nat) : Int) := by decide
theorem OpTo.indexS {P : Program} {o : Oper} {a : Act} {w : World} {R : Value → World → Prop} {x y : Operand} {t1 : TypeId} (ht : P.underlying t1 = some .string) (s : ByteArray) (n : Nat) {k : IntKind} (ho : o.op = .index t1 x y) (hx : a.eval x = .string s) (hy : a.eval y = .int k (n : Int)) (hn : n < s.size) (hR : R (.int .u8 ((bl s).getD n 0 : Nat)) w) : OpTo P o a w R :=
  OpTo.val (v := .int .u8 ((bl s).getD n 0 : Nat)) (by
    have e : (bl s).getD n 0 = (s[n]'hn).toNat := by
      unfold bl
      have h2 : n < s.data.toList.length := by simpa using hn
      rw [List.getD_eq_getElem?_getD, List.getElem?_map, List.getElem?_eq_getElem h2]
      rfl
    rw [e]
    have := run_index_string (P := P) w t1 s k (n : Int) ht
    rw [dif_pos ⟨Int.natCast_nonneg _, by omega⟩] at this
    unfold execOp
    simp only [ho, hx, hy]
    go_simp) hR
/-- field.Of of bytes whose answer is known. -/
theorem of_v {s : ByteArray} {x : Value} (hx : isS s x) {n : Nat} {c : Int} (hn : ofN s = n) (hc : ofC s = c) (w : World) : Calls Tryd.prog 36 #[x] w (Gives w (Tup (EV n) (.int .i64 c))) := by
  obtain rfl : x = .string s := hx
  subst hn hc
  refine (of_any s w).mono ?_
  rintro e w' ⟨r, hr, hf, rfl, ht⟩
  exact ⟨_, rfl, ⟨elV r, ⟨r, hr, hf, rfl⟩, rfl⟩, ht⟩
theorem dec_ret {fn : Func} {p q : Tmp} (hres : fn.results = #[.cell p 29, .tmp q]) {w w' : World} {R : Value → Prop} {g : Nat} {b : Bool} {l : List Int} {c : Value} (hl : l.length = 64) {tmps : Array Value} (hp : tmps.getD p undef = .pointer (some ⟨g, 0, none⟩)) (hq : tmps.getD q undef = c) (t : TypeId) (hB : Blk w' g t (ptA b l)) (hT : Touch [] w w') (hR : R (ptV b l)) :
    bodyPost Tryd.prog fn (Gives w (Tup R c)) Exit.ret { tmps := tmps, defers := [] } w' :=
  bodyPost_ret (results_row_tmp hres _ _ g t (ptA b l) (0, 0) _ hp hB Tryd.underlying29 rfl (by rw [ptA_size hl]; exact infoP)) rfl ⟨_, rfl, ⟨_, hR, by rw [hq]; rfl⟩, hT⟩
theorem oddS_no {s : ByteArray} (h : ¬ 128 ≤ (bl s).getD 31 0) : oddS s = false := by unfold oddS; rw [decide_eq_false h]
theorem oddS_yes {s : ByteArray} (h : 128 ≤ (bl s).getD 31 0) : oddS s = true := by unfold oddS; rw [decide_eq_true h]
end Go.Proofs.YtbgpgbfiadhddaaDoor
