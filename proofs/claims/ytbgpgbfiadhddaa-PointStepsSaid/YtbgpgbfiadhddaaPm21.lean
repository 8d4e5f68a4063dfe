/- RefFc: joined. -/
import Derived.Test.YtbgpgbfiadhddaaPm19
import Derived.Test.YtbgpgbfiadhddaaPm20
/- The document's digits to the base 65536: as text. -/
namespace Go.Proofs.Ytbgpgbfiadhddaa
open Go.RowKit
def textB : Nat → Nat
  | 0 => 57896044618658097711785492504343953926634992332820282019728792003956564819968
  | 1 => 57896044618658097711785492504343953926634992332820282019728792003956564819987
  | _ => 65536 ^ 16
structure TextS (k V : Nat) (q : List Nat) : Prop where
  len : q.length = 16
  dig : DigN q
  mod : dN q % PP = V % PP
  lt : dN q < textB k
theorem TextS.start {V : Nat} {q : List Nat} (h : Dig16 V q) : TextS 2 V q := ⟨h.len, h.dig, h.mod, by have := dN_lt h.dig; rw [h.len] at this; exact this⟩
theorem dN_15 {q : List Nat} (hl : q.length = 16) (hd : DigN q) : dN q = dN (q.take 15) + 65536 ^ 15 * q.getD 15 0 ∧ dN (q.take 15) < 65536 ^ 15 := by
  have h := dN_take_succ (l := q) (k := 15) (by omega)
  rw [List.take_of_length_le (by omega)] at h
  have h2 := dN_lt (l := q.take 15) (fun x hx => hd x (List.mem_of_mem_take hx))
  rw [List.length_take, hl] at h2
  exact ⟨h, h2⟩
/-- What a round writes, ahead of carrying. -/
def sub15 (q : List Nat) : List Nat := (q.set 15 (q.getD 15 0 - 32768)).set 0 (q.getD 0 0 + 19)
theorem sub15_val {q : List Nat} (hl : q.length = 16) (h : 32768 ≤ q.getD 15 0) : dN (sub15 q) + 57896044618658097711785492504343953926634992332820282019728792003956564819968 = dN q + 19 := by
  have e1 := dN_set (l := q) (k := 15) (by omega) (q.getD 15 0 - 32768)
  have e2 := dN_set (l := q.set 15 (q.getD 15 0 - 32768)) (k := 0) (by rw [List.length_set]; omega) (q.getD 0 0 + 19)
  have e3 : (q.set 15 (q.getD 15 0 - 32768)).getD 0 0 = q.getD 0 0 := by simp [List.getD]
  rw [e3] at e2
  unfold sub15
  have e4 : (65536 : Nat) ^ 15 * 32768 = 57896044618658097711785492504343953926634992332820282019728792003956564819968 := by decide
  rw [← e4]
  obtain ⟨x, hx⟩ : ∃ x, q.getD 15 0 = x + 32768 := ⟨q.getD 15 0 - 32768, by omega⟩
  rw [hx] at e1 e2 ⊢
  simp only [Nat.add_sub_cancel] at e1 e2 ⊢
  generalize (65536 : Nat) ^ 15 = P at *
  generalize dN (q.set 15 x) = A at *
  generalize dN ((q.set 15 x).set 0 (q.getD 0 0 + 19)) = B at *
  generalize q.getD 0 0 = z at *
  grind
theorem TextS.round {k V : Nat} {q p : List Nat} (h : TextS k V q) (h15 : 32768 ≤ q.getD 15 0) (hp : CarP (sub15 q) p) : ∃ k', k = k' + 1 ∧ TextS k' V p := by
  have hv := sub15_val h.len h15
  have hpv := hp.val
  have hlen : (sub15 q).length = 16 := by unfold sub15; rw [List.length_set, List.length_set]; exact h.len
  have hq := h.lt
  have hq16 := dN_lt h.dig
  rw [h.len] at hq16
  have hB : (65536 : Nat) ^ 16 = 115792089237316195423570985008687907853269984665640564039457584007913129639936 := by decide
  have hp16 : dN p < 65536 ^ 16 := by rw [hB] at *; omega
  have hpl : p.length = 16 := by
    have h1 := hp.len
    rw [hlen] at h1
    apply Classical.byContradiction
    intro hc
    have h2 := hp.top (by rw [hlen]; omega)
    have h3 : (65536 : Nat) ^ 16 ≤ 65536 ^ (p.length - 1) := Nat.pow_le_pow_right (by decide) (by omega)
    omega
  have hge : 57896044618658097711785492504343953926634992332820282019728792003956564819968 ≤ dN q := by
    have := (dN_15 h.len h.dig).1
    have e4 : (65536 : Nat) ^ 15 * 32768 = 57896044618658097711785492504343953926634992332820282019728792003956564819968 := by decide
    have h2 : 65536 ^ 15 * 32768 ≤ 65536 ^ 15 * q.getD 15 0 := Nat.mul_le_mul_left _ h15
    omega
  have hm : dN p % PP = V % PP := by
    rw [← h.mod, hpv]
    have : dN q = dN (sub15 q) + PP := by unfold PP; omega
    rw [this, Nat.add_mod_right]
  match k, hq with
  | 0, hq => simp only [textB] at hq; omega
  | 1, hq => simp only [textB] at hq; exact ⟨0, rfl, hpl, hp.dig, hm, by simp only [textB]; omega⟩
  | k + 2, hq =>
    refine ⟨k + 1, rfl, hpl, hp.dig, hm, ?_⟩
    have h1 : dN p < textB 1 := by simp only [textB]; rw [hB] at hq16; omega
    match k with
    | 0 => exact h1
    | k + 1 => exact hp16
theorem TextS.done {k V : Nat} {q : List Nat} (h : TextS k V q) (h15 : q.getD 15 0 < 32768) : dN q < 57896044618658097711785492504343953926634992332820282019728792003956564819968 := by
  obtain ⟨h1, h2⟩ := dN_15 h.len h.dig
  have e4 : (65536 : Nat) ^ 15 * 32768 = 57896044618658097711785492504343953926634992332820282019728792003956564819968 := by decide
  have h3 : 65536 ^ 15 * q.getD 15 0 ≤ 65536 ^ 15 * 32767 := Nat.mul_le_mul_left _ (by omega)
  omega
/-- Whether p can still be taken away, as far as it was looked. -/
def topB (q : List Nat) : Nat → Bool
  | 0 => decide (q.getD 15 0 = 32767) && decide (65517 ≤ q.getD 0 0)
  | i + 1 => topB q i && decide (q.getD (i + 1) 0 = 65535)
theorem max_iff {m : List Nat} (h : DigN m) : dN m + 1 = 65536 ^ m.length ↔ ∀ j, j < m.length → m.getD j 0 = 65535 := by
  induction m with
  | nil => simp [dN]
  | cons x m ih =>
    have h1 := ih (fun y hy => h y (List.mem_cons_of_mem _ hy))
    have h2 := dN_lt (l := m) (fun y hy => h y (List.mem_cons_of_mem _ hy))
    have h3 := h x List.mem_cons_self
    rw [dN, List.length_cons, Nat.pow_succ]
    constructor
    · intro he j hj
      have hx : x = 65535 := by omega
      cases j with
      | zero => simpa [List.getD] using hx
      | succ j =>
        have := h1.1 (by omega) j (by omega)
        simpa [List.getD] using this
    · intro he
      have hx : x = 65535 := by have := he 0 (by omega); simpa [List.getD] using this
      have := h1.2 (fun j hj => by have := he (j + 1) (by omega); simpa [List.getD] using this)
      omega
theorem topB_iff (q : List Nat) (i : Nat) : topB q i = true ↔ (q.getD 15 0 = 32767 ∧ 65517 ≤ q.getD 0 0) ∧ ∀ j, j < i → q.getD (j + 1) 0 = 65535 := by
  induction i with
  | zero => simp [topB]
  | succ i ih =>
    simp only [topB, Bool.and_eq_true, decide_eq_true_eq, ih]
    constructor
    · rintro ⟨⟨h1, h2⟩, h3⟩
      refine ⟨h1, fun j hj => ?_⟩
      by_cases hji : j = i
      · rw [hji]; exact h3
      · exact h2 j (by omega)
    · rintro ⟨h1, h2⟩
      exact ⟨⟨h1, fun j hj => h2 j (by omega)⟩, h2 i (by omega)⟩
theorem top_num {D M a b : Nat} (hD : D = a + 65536 * (M + 26959946667150639794667015087019630673637144422540572481103610249216 * b)) (ha : a < 65536) (hM : M < 26959946667150639794667015087019630673637144422540572481103610249216)
    (hlt : D < 57896044618658097711785492504343953926634992332820282019728792003956564819968) : (b = 32767 ∧ 65517 ≤ a) ∧ M + 1 = 26959946667150639794667015087019630673637144422540572481103610249216 ↔ PP ≤ D := by
  unfold PP
  omega
theorem top_iff {q : List Nat} (hl : q.length = 16) (hd : DigN q) (hlt : dN q < 57896044618658097711785492504343953926634992332820282019728792003956564819968) : topB q 14 = decide (PP ≤ dN q) := by
  have e1 := dN_drop (l := q) (k := 0) (by omega)
  rw [List.drop_zero] at e1
  have e2 := dN_take_succ (l := q.drop 1) (k := 14) (by rw [List.length_drop]; omega)
  rw [List.take_of_length_le (by rw [List.length_drop]; omega)] at e2
  have e3 : (q.drop 1).getD 14 0 = q.getD 15 0 := by simp [List.getD]
  have hm : DigN ((q.drop 1).take 14) := fun x hx => hd x (List.mem_of_mem_drop (List.mem_of_mem_take hx))
  have hml : ((q.drop 1).take 14).length = 14 := by rw [List.length_take, List.length_drop, hl]; rfl
  have hM := dN_lt hm
  have hx := max_iff hm
  rw [hml] at hM hx
  have e4 : (65536 : Nat) ^ 14 = 26959946667150639794667015087019630673637144422540572481103610249216 := by decide
  rw [e4] at hM hx e2
  rw [Nat.zero_add, e2, e3] at e1
  rw [Bool.eq_iff_iff, topB_iff, decide_eq_true_eq, ← top_num e1 (hd.at_ 0) hM hlt, hx]
  refine and_congr_right fun _ => ⟨fun h j hj => ?_, fun h j hj => ?_⟩
  · have := h j hj
    simp only [List.getD, List.getElem?_take, List.getElem?_drop]
    rw [if_pos hj, Nat.add_comm 1 j]
    simpa [List.getD] using this
  · have := h j hj
    simp only [List.getD, List.getElem?_take, List.getElem?_drop] at this
    rw [if_pos hj, Nat.add_comm 1 j] at this
    simpa [List.getD] using this
/-- What is told as bytes. -/
structure Fin16 (n : Nat) (q : List Nat) : Prop where
  len : q.length = 16
  dig : DigN q
  val : dN q = n
theorem TextS.keep {k V : Nat} {q : List Nat} (h : TextS k V q) (h15 : q.getD 15 0 < 32768) (ht : topB q 14 = false) : Fin16 (V % PP) q := by
  have hlt := h.done h15
  rw [top_iff h.len h.dig hlt] at ht
  refine ⟨h.len, h.dig, ?_⟩
  rw [← h.mod, Nat.mod_eq_of_lt (by have := of_decide_eq_false ht; omega)]
theorem cut_num {D M a b : Nat} (hD : D = a + 65536 * (M + 26959946667150639794667015087019630673637144422540572481103610249216 * b)) (hM : M + 1 = 26959946667150639794667015087019630673637144422540572481103610249216)
    (hb : b = 32767) (ha : 65517 ≤ a) : D = (a - 65517) + PP := by
  unfold PP
  omega
theorem TextS.cut {k V : Nat} {q : List Nat} (h : TextS k V q) (h15 : q.getD 15 0 < 32768) (ht : topB q 14 = true) : 65517 ≤ q.getD 0 0 ∧ Fin16 (V % PP) ((List.replicate 16 0).set 0 (q.getD 0 0 - 65517)) := by
  have hlt := h.done h15
  have hb := (topB_iff q 14).1 ht
  rw [top_iff h.len h.dig hlt] at ht
  have hge := of_decide_eq_true ht
  have e1 := dN_drop (l := q) (k := 0) (by have := h.len; omega)
  rw [List.drop_zero, Nat.zero_add] at e1
  have e2 := dN_take_succ (l := q.drop 1) (k := 14) (by rw [List.length_drop, h.len]; omega)
  rw [List.take_of_length_le (by rw [List.length_drop, h.len]; omega)] at e2
  have e3 : (q.drop 1).getD 14 0 = q.getD 15 0 := by simp [List.getD]
  have hm : DigN ((q.drop 1).take 14) := fun x hx => h.dig x (List.mem_of_mem_drop (List.mem_of_mem_take hx))
  have hml : ((q.drop 1).take 14).length = 14 := by rw [List.length_take, List.length_drop, h.len]; rfl
  have hx := (max_iff hm).2 (fun j hj => by
    rw [hml] at hj
    have hbj := hb.2 j hj
    simp only [List.getD, List.getElem?_take, List.getElem?_drop]
    rw [if_pos hj, Nat.add_comm 1 j]
    simpa [List.getD] using hbj)
  rw [hml] at hx
  have e4 : (65536 : Nat) ^ 14 = 26959946667150639794667015087019630673637144422540572481103610249216 := by decide
  rw [e4] at hx e2
  rw [e2, e3] at e1
  have hv := cut_num e1 hx hb.1.1 hb.1.2
  have h0 := h.dig.at_ 0
  have hb0 := hb.1.2
  have hpp : 65536 < PP := by decide
  clear e1 e2 hx e4 hlt hge hb ht
  obtain ⟨a, ha⟩ : ∃ a, a = q.getD 0 0 - 65517 := ⟨_, rfl⟩
  have ha2 : a < 65536 := by omega
  rw [← ha] at hv ⊢
  clear ha
  refine ⟨hb0, by simp, fun x hx => ?_, ?_⟩
  · rcases List.mem_or_eq_of_mem_set hx with h1 | h1
    · rw [(List.mem_replicate.1 h1).2]; omega
    · omega
  · have e5 := dN_set (l := List.replicate 16 0) (k := 0) (by simp) a
    rw [dN_zeros, Nat.pow_zero] at e5
    have e6 : (List.replicate 16 0).getD 0 0 = 0 := rfl
    rw [e6] at e5
    rw [← h.mod]
    rw [hv, Nat.add_mod_right, Nat.mod_eq_of_lt (by omega)]
    omega
/-- The bytes of digits. -/
def byL (l : List Nat) : List Nat := l.flatMap fun x => [x % 256, x / 256]
theorem byL_cons (x : Nat) (l : List Nat) : byL (x :: l) = x % 256 :: x / 256 :: byL l := rfl
theorem byL_len (l : List Nat) : (byL l).length = 2 * l.length := by
  induction l with
  | nil => rfl
  | cons x l ih => rw [byL_cons, List.length_cons, List.length_cons, ih, List.length_cons]; omega
theorem byL_snoc (l : List Nat) (x : Nat) : byL (l ++ [x]) = byL l ++ [x % 256, x / 256] := by simp [byL]
theorem leN_byL (l : List Nat) : leN (byL l) = dN l := by
  induction l with
  | nil => rfl
  | cons x l ih => rw [byL_cons, leN, leN, ih, dN]; omega
theorem byL_lt {l : List Nat} (h : DigN l) : ∀ b ∈ byL l, b < 256 := by
  intro b hb
  obtain ⟨x, hx, hb⟩ := List.mem_flatMap.1 hb
  have := h x hx
  simp only [List.mem_cons, List.not_mem_nil, or_false] at hb
  omega
theorem str_byL {n : Nat} {q : List Nat} (h : Fin16 n q) : strOfNums ((byL q).map fun (n : Nat) => (n : Int)) = toS n := by
  apply bl_inj
  rw [bl_strOfNums _ (byL_lt h.dig), bl_toS]
  have := byN_leN (byL_lt h.dig)
  rw [byL_len, h.len, leN_byL, h.val] at this
  exact this.symm
end Go.Proofs.Ytbgpgbfiadhddaa
