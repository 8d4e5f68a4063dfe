/- Alarms 0, 1, .. that are set one behind the other: the plain law. -/
import Derived.Test.YtammlneapiafeaaFixed16
namespace Go.Proofs.Ytammlneapiafeaa
open Go.RowKit
/-- The alarms 0 to i - 1, at the ticks T. -/
def allS (T : List Int) : Nat → List Al
  | 0 => []
  | i + 1 => insS (allS T i) (T.getD i 0, i)
theorem allS_len (T : List Int) (i : Nat) : (allS T i).length = i := by
  induction i with
  | zero => rfl
  | succ i ih => rw [allS, insS_len, ih]
theorem allS_mem (T : List Int) (i : Nat) (a : Al) : a ∈ allS T i ↔ ∃ j, j < i ∧ a = (T.getD j 0, (j : Int)) := by
  induction i with
  | zero => simp [allS]
  | succ i ih =>
    rw [allS, (insS_perm _ _).mem_iff, List.mem_cons, ih]
    constructor
    · rintro (rfl | ⟨j, hj, rfl⟩)
      · exact ⟨i, by omega, rfl⟩
      · exact ⟨j, by omega, rfl⟩
    · rintro ⟨j, hj, rfl⟩
      by_cases hji : j = i
      · subst hji; exact .inl rfl
      · exact .inr ⟨j, by omega, rfl⟩
theorem allS_no (T : List Int) (i k : Nat) (h : i ≤ k) : hasA (allS T i) (k : Int) = false := by
  rw [hasA_no]
  intro hm
  obtain ⟨a, ha, he⟩ := List.mem_map.1 hm
  obtain ⟨j, hj, rfl⟩ := (allS_mem T i a).1 ha
  simp only at he
  omega
theorem allS_ok (T : List Int) (i : Nat) : SOk (allS T i) := by
  induction i with
  | zero => exact SOk.nil
  | succ i ih => exact ih.ins (allS_no T i i (Nat.le_refl _))
theorem allS_code (T : List Int) (i : Nat) (h : i < 40) : setCode (allS T i) 40 i = 0 := by
  unfold setCode
  rw [allS_no T i i (Nat.le_refl _), allS_len, if_neg (by simp), if_neg (by omega)]
theorem allS_set (T : List Int) (i : Nat) (h : i < 40) : setS (allS T i) 40 i (T.getD i 0) = allS T (i + 1) := by
  unfold setS
  rw [allS_no T i i (Nat.le_refl _), allS_len, if_neg (by simp), if_neg (by omega)]
  rfl
/-- The least of the ticks. -/
def leastT (T : List Int) : Nat → Int
  | 0 => 1048576
  | i + 1 => if leastT T i ≤ T.getD i 0 then leastT T i else T.getD i 0
theorem insS_head (S : List Al) (a : Al) : (atA (insS S a) 0).1 = if S = [] then a.1 else if (atA S 0).1 ≤ a.1 then (atA S 0).1 else a.1 := by
  cases S with
  | nil => rfl
  | cons b S =>
    have e0 : ∀ (x : Al) l, atA (x :: l) 0 = x := fun _ _ => rfl
    have e1 : (b :: S = []) = False := by simp
    rw [insS_cons]
    by_cases hb : ltA b a
    · rw [if_pos hb, e0, e0]
      unfold ltA at hb
      simp only [e1, if_false]
      split <;> omega
    · rw [if_neg hb, e0, e0]
      unfold ltA at hb
      simp only [e1, if_false]
      split <;> omega
theorem allS_head (T : List Int) (hT : ∀ k, T.getD k 0 < 65536) (i : Nat) (h : 0 < i) : (atA (allS T i) 0).1 = leastT T i := by
  induction i with
  | zero => omega
  | succ i ih =>
    rw [allS, insS_head, leastT]
    by_cases h0 : i = 0
    · subst h0
      have := hT 0
      have e1 : allS T 0 = [] := rfl
      have e2 : leastT T 0 = 1048576 := rfl
      rw [if_pos e1, e2, if_neg (by omega)]
    · rw [if_neg (by intro e; have := congrArg List.length e; rw [allS_len] at this; simp at this; omega), ih (by omega)]
theorem nextV_all (T : List Int) (hT : ∀ k, T.getD k 0 < 65536) (i : Nat) : nextV (allS T (i + 1)) = .tuple #[.int .u64 (leastT T (i + 1)), .bool true] := by
  unfold nextV
  rw [allS_head T hT (i + 1) (by omega)]
  have : (allS T (i + 1)).isEmpty = false := by
    have := allS_len T (i + 1)
    cases h : allS T (i + 1) with
    | nil => rw [h] at this; simp at this
    | cons a l => rfl
  rw [this]; rfl
theorem leastT_rng (T : List Int) (hT : ∀ k, 0 ≤ T.getD k 0) (i : Nat) : 0 ≤ leastT T i ∧ leastT T i ≤ 1048576 := by
  induction i with
  | zero => simp [leastT]
  | succ i ih =>
    have := hT i
    rw [leastT]
    split <;> omega
theorem rng16 {T : List Int} {n : Nat} (h : ∀ k, k < n → 0 ≤ T.getD k 0 ∧ T.getD k 0 < 65536) : ∃ T' : List Int, (∀ k, k < n → T'.getD k 0 = T.getD k 0) ∧ ∀ k, 0 ≤ T'.getD k 0 ∧ T'.getD k 0 < 65536 := by
  refine ⟨(List.range n).map fun k => T.getD k 0, fun k hk => by simp [List.getD, hk], fun k => ?_⟩
  by_cases hk : k < n
  · have := h k hk
    simpa [List.getD, hk] using this
  · simp [List.getD, hk]
end Go.Proofs.Ytammlneapiafeaa
