/- Alarms in another order, and all but one: the plain law. -/
import Derived.Test.YtammlneapiafeaaNextWalk
namespace Go.Proofs.Ytammlneapiafeaa
open Go.RowKit
theorem SOk.nodup {S : List Al} (h : SOk S) : S.Nodup := h.sorted.imp (fun {a b} hab e => by subst e; exact ltA_irrefl a hab)
/-- What stands in order is told by what stands there. -/
theorem same_mem {S T : List Al} (h : SOk S) (k : SOk T) (hm : ∀ a, a ∈ S ↔ a ∈ T) : S = T :=
  sorted_unique h.sorted k.sorted ((List.perm_ext_iff_of_nodup h.nodup k.nodup).2 hm)
theorem dropS_insS {S : List Al} {a : Al} (h : hasA S a.2 = false) : dropS (insS S a) a.2 = S := by
  have h2 := dropS_none h
  unfold dropS insS at *
  rw [List.filter_append, List.filter_cons_of_neg (by simp), ← List.filter_append, List.takeWhile_append_dropWhile, h2]
/-- The alarms m - d to m - 1. -/
def backS (T : List Int) (m : Nat) : Nat → List Al
  | 0 => []
  | d + 1 => insS (backS T m d) (T.getD (m - 1 - d) 0, ((m - 1 - d : Nat) : Int))
theorem backS_len (T : List Int) (m d : Nat) : (backS T m d).length = d := by
  induction d with
  | zero => rfl
  | succ d ih => rw [backS, insS_len, ih]
theorem backS_mem (T : List Int) (m d : Nat) (hd : d ≤ m) (a : Al) : a ∈ backS T m d ↔ ∃ j, m - d ≤ j ∧ j < m ∧ a = (T.getD j 0, (j : Int)) := by
  induction d with
  | zero => simp [backS]; omega
  | succ d ih =>
    rw [backS, (insS_perm _ _).mem_iff, List.mem_cons, ih (by omega)]
    constructor
    · rintro (rfl | ⟨j, hj, hj2, rfl⟩)
      · exact ⟨m - 1 - d, by omega, by omega, rfl⟩
      · exact ⟨j, by omega, hj2, rfl⟩
    · rintro ⟨j, hj, hj2, rfl⟩
      by_cases hji : j = m - 1 - d
      · subst hji; exact .inl rfl
      · exact .inr ⟨j, by omega, hj2, rfl⟩
theorem backS_no (T : List Int) (m d : Nat) (hd : d < m) : hasA (backS T m d) ((m - 1 - d : Nat) : Int) = false := by
  rw [hasA_no]
  intro hm
  obtain ⟨a, ha, he⟩ := List.mem_map.1 hm
  obtain ⟨j, hj, hj2, rfl⟩ := (backS_mem T m d (by omega) a).1 ha
  simp only at he
  omega
theorem backS_ok (T : List Int) (m d : Nat) (hd : d ≤ m) : SOk (backS T m d) := by
  induction d with
  | zero => exact SOk.nil
  | succ d ih => exact (ih (by omega)).ins (backS_no T m d (by omega))
theorem back_all (T : List Int) (m : Nat) : backS T m m = allS T m :=
  same_mem (backS_ok T m m (Nat.le_refl _)) (allS_ok T m) fun a => by
    rw [backS_mem T m m (Nat.le_refl _), allS_mem]
    exact ⟨fun ⟨j, _, h2, h3⟩ => ⟨j, h2, h3⟩, fun ⟨j, h2, h3⟩ => ⟨j, by omega, h2, h3⟩⟩
theorem back_set1 (T : List Int) (m d : Nat) (hd : d < m) (hm : m ≤ 40) (at_ : Int) : setS (backS T m d) 40 ((m - 1 - d : Nat) : Int) at_ = insS (backS T m d) (at_, ((m - 1 - d : Nat) : Int)) := by
  unfold setS
  rw [backS_no T m d hd, backS_len, if_neg (by simp), if_neg (by omega)]
theorem back_drop (T : List Int) (m d : Nat) (hd : d < m) : dropS (insS (backS T m d) (1, ((m - 1 - d : Nat) : Int))) ((m - 1 - d : Nat) : Int) = backS T m d := dropS_insS (backS_no T m d hd)
/-- All but k. -/
def butS (T : List Int) (k : Nat) : Nat → List Al
  | 0 => []
  | i + 1 => if i = k then butS T k i else insS (butS T k i) (T.getD i 0, i)
theorem butS_mem (T : List Int) (k i : Nat) (a : Al) : a ∈ butS T k i ↔ ∃ j, j < i ∧ j ≠ k ∧ a = (T.getD j 0, (j : Int)) := by
  induction i with
  | zero => simp [butS]
  | succ i ih =>
    rw [butS]
    by_cases hik : i = k
    · rw [if_pos hik, ih]
      exact ⟨fun ⟨j, h1, h2, h3⟩ => ⟨j, by omega, h2, h3⟩, fun ⟨j, h1, h2, h3⟩ => ⟨j, by omega, h2, h3⟩⟩
    · rw [if_neg hik, (insS_perm _ _).mem_iff, List.mem_cons, ih]
      constructor
      · rintro (rfl | ⟨j, hj, hjk, rfl⟩)
        · exact ⟨i, by omega, hik, rfl⟩
        · exact ⟨j, by omega, hjk, rfl⟩
      · rintro ⟨j, hj, hjk, rfl⟩
        by_cases hji : j = i
        · subst hji; exact .inl rfl
        · exact .inr ⟨j, by omega, hjk, rfl⟩
theorem butS_no (T : List Int) (k i : Nat) (n : Nat) (h : i ≤ n ∨ n = k) : hasA (butS T k i) (n : Int) = false := by
  rw [hasA_no]
  intro hm
  obtain ⟨a, ha, he⟩ := List.mem_map.1 hm
  obtain ⟨j, hj, hj2, rfl⟩ := (butS_mem T k i a).1 ha
  simp only at he
  omega
theorem butS_ok (T : List Int) (k i : Nat) : SOk (butS T k i) := by
  induction i with
  | zero => exact SOk.nil
  | succ i ih =>
    rw [butS]
    split
    · exact ih
    · exact ih.ins (butS_no T k i i (.inl (Nat.le_refl _)))
theorem butS_len (T : List Int) (k i : Nat) : (butS T k i).length ≤ i := by
  induction i with
  | zero => exact Nat.le_refl _
  | succ i ih =>
    rw [butS]
    split
    · omega
    · rw [insS_len]; omega
theorem drop_all (T : List Int) (k m : Nat) : dropS (allS T m) (k : Int) = butS T k m :=
  same_mem ((allS_ok T m).drop _) (butS_ok T k m) fun a => by
    unfold dropS
    rw [List.mem_filter, allS_mem, butS_mem]
    constructor
    · rintro ⟨⟨j, h1, rfl⟩, h2⟩
      refine ⟨j, h1, ?_, rfl⟩
      rintro rfl
      simp at h2
    · rintro ⟨j, h1, h2, rfl⟩
      refine ⟨⟨j, h1, rfl⟩, ?_⟩
      simp; omega
theorem but_code (T : List Int) (k i : Nat) (h : i < 40) : setCode (butS T k i) 40 i = 0 := by
  have := butS_len T k i
  unfold setCode
  rw [butS_no T k i i (.inl (Nat.le_refl _)), if_neg (by simp), if_neg (by omega)]
theorem but_set (T : List Int) (k i : Nat) (h : i < 40) (hik : i ≠ k) : setS (butS T k i) 40 i (T.getD i 0) = butS T k (i + 1) := by
  have := butS_len T k i
  rw [butS, if_neg hik]
  unfold setS
  rw [butS_no T k i i (.inl (Nat.le_refl _)), if_neg (by simp), if_neg (by omega)]
theorem all_has (T : List Int) (m k : Nat) : hasA (allS T m) (k : Int) = decide (k < m) := by
  by_cases h : k < m
  · rw [decide_eq_true h, hasA_iff]
    exact List.mem_map.2 ⟨(T.getD k 0, (k : Int)), (allS_mem T m _).2 ⟨k, h, rfl⟩, rfl⟩
  · rw [decide_eq_false h]
    exact allS_no T m k (by omega)
theorem but_set3 (T : List Int) (k m : Nat) (h : m < 40) (at_ : Int) : setCode (butS T k m) 40 k = 0 ∧ (setS (butS T k m) 40 k at_).length = (butS T k m).length + 1 := by
  have := butS_len T k m
  have h2 := butS_no T k m k (.inr rfl)
  unfold setCode setS
  rw [h2, if_neg (by simp), if_neg (by omega), if_neg (by simp), if_neg (by omega)]
  exact ⟨rfl, insS_len _ _⟩
/-- Nothing is left behind the last tick. -/
theorem left_none {S : List Al} {now : Int} (h : ∀ a ∈ S, a.1 ≤ now) : leftS S now = [] := by
  unfold leftS
  rw [List.filter_eq_nil_iff]
  intro a ha
  have := h a ha
  simp; omega
theorem all_le {T : List Int} (hT : ∀ k, 0 ≤ T.getD k 0 ∧ T.getD k 0 < 65536) (m : Nat) (now : Int) (hn : 65535 ≤ now) : ∀ a ∈ allS T m, a.1 ≤ now := by
  intro a ha
  obtain ⟨j, _, rfl⟩ := (allS_mem T m a).1 ha
  have := hT j
  simp only
  omega
theorem left_left (S : List Al) (a b : Int) (h : ∀ x ∈ S, x.1 ≤ b) : leftS (leftS S a) b = [] :=
  left_none fun x hx => h x (List.mem_filter.1 hx).1
end Go.Proofs.Ytammlneapiafeaa
