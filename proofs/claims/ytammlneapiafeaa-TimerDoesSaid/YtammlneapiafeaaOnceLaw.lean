/- Each alarm goes off once: the plain law; storing into a list that is an object. -/
import Derived.Test.YtammlneapiafeaaDropsWalk
namespace Go.Proofs.Ytammlneapiafeaa
open Go.RowKit
def cellsB (L : List Bool) : List Value := L.map .bool
theorem cellsB_at {L : List Bool} {j : Nat} (h : j < L.length) : (cellsB L)[j]? = some (.bool (L.getD j false)) := by simp [cellsB, List.getD, h]
theorem cellsB_set (L : List Bool) (j : Nat) (b : Bool) : (cellsB L).set j (.bool b) = cellsB (L.set j b) := by simp [cellsB]
theorem cellsI_at {L : List Int} {j : Nat} (h : j < L.length) : (cellsI L)[j]? = some (.int .i64 (L.getD j 0)) := by simp [cellsI, List.getD, h]
theorem Own.store {w : World} {e n : Nat} {xs : List Value} {row : Option Nat} {g off c : Nat} (h : Own w e 1 (.slice (some ⟨g, off, none⟩) n c) n xs row) {j : Nat} (hj : j < n) (u : Value) :
    Own (w.setCell ⟨g, off + j, none⟩ u) e 1 (.slice (some ⟨g, off, none⟩) n c) n (xs.set j u) row ∧ row = some g ∧ w.frozen? ⟨g, off + j, none⟩ = false := by
  obtain ⟨g', off', c', cur, hv, hr, hb, hc0, hnc, hcm, hcs, hx⟩ := h.at_ (by omega)
  injection hv with ha _ hcc
  injection ha with ha
  injection ha with h1 h2
  subst h1; subst h2; subst hcc
  refine ⟨⟨by rw [List.length_set]; exact h.1, .inr ⟨g, off, c, _, rfl, hr, hb.set_ _ u, hc0, hnc, hcm, by simpa using hcs, fun i v hv => ?_⟩⟩, hr, hb.frozen _⟩
  have hl := h.1
  by_cases hij : i = j
  · subst hij
    rw [List.getElem?_set_self (by omega)] at hv
    injection hv with hv
    subst hv
    rw [Array.getElem?_setIfInBounds_self_of_lt (by omega)]
  · rw [List.getElem?_set_ne (Ne.symm hij)] at hv
    rw [Array.getElem?_setIfInBounds_ne (by omega)]
    exact hx i v hv
theorem Sep.store {w0 w : World} {B : Nat} {rs : List Res} (h : Sep w0 B w rs) (i : Nat) {e n c g off : Nat} {xs : List Value} (hi : rs[i]? = some (slRes e 1 (.slice (some ⟨g, off, none⟩) n c) n xs)) {j : Nat} (hj : j < n) (u : Value) :
    Sep w0 B (w.setCell ⟨g, off + j, none⟩ u) (rs.set i (slRes e 1 (.slice (some ⟨g, off, none⟩) n c) n (xs.set j u))) ∧ w.frozen? ⟨g, off + j, none⟩ = false := by
  obtain ⟨F, ⟨row, rfl, ho⟩, hset⟩ := h.focus i hi
  obtain ⟨h1, h2, h3⟩ := ho.store hj u
  refine ⟨hset _ _ _ ⟨row, rfl, h1⟩ ((Touch.refl _ _).setCell (p := ⟨g, off + j, none⟩) (.inl (by rw [h2]; simp)) u) (fun k hk => .inl hk), h3⟩

/-- What was marked so far. -/
structure Inv (T : List Int) (m : Nat) (O : List Bool) (S : List Al) (many : Nat) : Prop where
  len : O.length = 40
  mem : ∀ a, a ∈ S ↔ ∃ j, j < m ∧ a = (T.getD j 0, (j : Int)) ∧ O.getD j false = false
  cnt : S.length + many = m
theorem Inv.start (T : List Int) (m : Nat) : Inv T m (List.replicate 40 false) (allS T m) 0 :=
  ⟨by simp, fun a => by
    rw [allS_mem]
    constructor
    · rintro ⟨j, hj, rfl⟩
      refine ⟨j, hj, rfl, ?_⟩
      rw [List.getD_eq_getElem?_getD, List.getElem?_replicate]
      split <;> rfl
    · rintro ⟨j, hj, rfl, _⟩
      exact ⟨j, hj, rfl⟩, by rw [allS_len]; rfl⟩
/-- The marks behind the first ones of those that went off. -/
def marks (O : List Bool) : List Al → List Bool
  | [] => O
  | a :: D => marks (O.set a.2.toNat true) D
theorem marks_snoc (O : List Bool) (D : List Al) (a : Al) : marks O (D ++ [a]) = (marks O D).set a.2.toNat true := by
  induction D generalizing O with
  | nil => rfl
  | cons b D ih => exact ih _
theorem marks_len (O : List Bool) (D : List Al) : (marks O D).length = O.length := by
  induction D generalizing O with
  | nil => rfl
  | cons b D ih => rw [marks, ih, List.length_set]
theorem marks_at (O : List Bool) (D : List Al) (hD : ∀ a ∈ D, 0 ≤ a.2) (j : Nat) (hj : j < O.length) : (marks O D).getD j false = false ↔ O.getD j false = false ∧ (j : Int) ∉ D.map Prod.snd := by
  induction D generalizing O with
  | nil => simp [marks]
  | cons a D ih =>
    rw [marks, ih (O.set a.2.toNat true) (fun b hb => hD b (List.mem_cons_of_mem _ hb)) (by rw [List.length_set]; exact hj), List.map_cons, List.mem_cons, not_or]
    have ha := hD a List.mem_cons_self
    by_cases hja : a.2.toNat = j
    · subst hja
      have h1 : (O.set a.2.toNat true).getD a.2.toNat false = true := by simp [List.getD, hj]
      rw [h1]
      constructor
      · rintro ⟨h, _⟩; cases h
      · rintro ⟨_, h, _⟩
        exact absurd (Int.toNat_of_nonneg ha) h
    · have h1 : (O.set a.2.toNat true).getD j false = O.getD j false := by simp [List.getD, List.getElem?_set_ne hja]
      rw [h1]
      constructor
      · rintro ⟨h, h2⟩
        exact ⟨h, fun e => hja (by omega), h2⟩
      · rintro ⟨h, _, h2⟩
        exact ⟨h, h2⟩
section
variable {T : List Int} {m : Nat} {O : List Bool} {S : List Al} {many : Nat}
theorem gone_mem {a : Al} {now : Int} : a ∈ goneS S now ↔ a ∈ S ∧ a.1 ≤ now := by unfold goneS; rw [List.mem_filter]; simp
theorem left_mem {a : Al} {now : Int} : a ∈ leftS S now ↔ a ∈ S ∧ now < a.1 := by unfold leftS; rw [List.mem_filter]; simp
/-- One that goes off: its place, its tick, that it is not marked, that it is not ahead of the last one. -/
theorem Inv.one (h : Inv T m O S many) (hok : SOk S) {now : Int} {k : Nat} (hk : k < (goneS S now).length) :
    ∃ j, j < m ∧ atA (goneS S now) k = (T.getD j 0, (j : Int)) ∧ T.getD j 0 ≤ now ∧ (m ≤ 40 → (marks O ((goneS S now).take k)).getD j false = false) := by
  have ha : atA (goneS S now) k ∈ goneS S now := by rw [atA_get hk]; exact List.getElem_mem hk
  obtain ⟨h1, h2⟩ := gone_mem.1 ha
  obtain ⟨j, hj, he, ho⟩ := (h.mem _).1 h1
  refine ⟨j, hj, he, by rw [he] at h2; exact h2, fun hm => ?_⟩
  rw [marks_at O _ (fun a ha => ?_) j (by rw [h.len]; omega)]
  · refine ⟨ho, fun hmem => ?_⟩
    have hnd : ((goneS S now).map Prod.snd).Nodup := (hok.sub List.filter_sublist).ids
    have h3 : (goneS S now).take k ++ [(goneS S now)[k]] = (goneS S now).take (k + 1) := List.take_append_getElem hk
    have h4 : ((goneS S now).take (k + 1)).map Prod.snd = ((goneS S now).take k).map Prod.snd ++ [(j : Int)] := by
      rw [← h3, List.map_append, ← atA_get hk, he]; rfl
    have h5 : (((goneS S now).take (k + 1)).map Prod.snd).Nodup := hnd.sublist ((List.take_sublist _ _).map _)
    rw [h4] at h5
    exact (List.nodup_append.1 h5).2.2 _ hmem _ (by simp) rfl
  · obtain ⟨h1, _⟩ := gone_mem.1 (List.mem_of_mem_take ha)
    obtain ⟨i, _, rfl, _⟩ := (h.mem _).1 h1
    simp
theorem gone_sorted (hok : SOk S) {now : Int} {k : Nat} (hk : k + 1 < (goneS S now).length) : (atA (goneS S now) k).1 ≤ (atA (goneS S now) (k + 1)).1 := by
  have hs : (goneS S now).Pairwise ltA := (hok.sub List.filter_sublist).sorted
  have := List.pairwise_iff_getElem.1 hs k (k + 1) (by omega) hk (by omega)
  rw [atA_get hk, atA_get (by omega)]
  unfold ltA at this
  omega
/-- Behind a pop. -/
theorem Inv.next (h : Inv T m O S many) (hok : SOk S) (now : Int) (hm : m ≤ 40) : Inv T m (marks O (goneS S now)) (leftS S now) (many + (goneS S now).length) := by
  have hpos : ∀ a ∈ goneS S now, 0 ≤ a.2 := fun a ha => by
    obtain ⟨h1, _⟩ := gone_mem.1 ha
    obtain ⟨i, _, rfl, _⟩ := (h.mem _).1 h1
    simp
  refine ⟨by rw [marks_len, h.len], fun a => ?_, ?_⟩
  · rw [left_mem, h.mem]
    constructor
    · rintro ⟨⟨j, hj, rfl, ho⟩, hn⟩
      refine ⟨j, hj, rfl, (marks_at O _ hpos j (by rw [h.len]; omega)).2 ⟨ho, fun hmem => ?_⟩⟩
      obtain ⟨b, hb, hbj⟩ := List.mem_map.1 hmem
      obtain ⟨h1, h2⟩ := gone_mem.1 hb
      obtain ⟨i, _, rfl, _⟩ := (h.mem _).1 h1
      simp only at hbj h2 hn
      have : i = j := by omega
      subst this
      omega
    · rintro ⟨j, hj, rfl, ho⟩
      obtain ⟨h1, h2⟩ := (marks_at O _ hpos j (by rw [h.len]; omega)).1 ho
      refine ⟨⟨j, hj, rfl, h1⟩, ?_⟩
      simp only
      by_cases hn : now < T.getD j 0
      · exact hn
      · exact absurd (List.mem_map.2 ⟨(T.getD j 0, (j : Int)), gone_mem.2 ⟨(h.mem _).2 ⟨j, hj, rfl, h1⟩, by simp only; omega⟩, rfl⟩) h2
  · have h1 := congrArg List.length (gone_left hok.sorted now)
    rw [List.length_append] at h1
    have := h.cnt
    omega
/-- What is not marked is due later. -/
theorem Inv.later (h : Inv T m O S many) (hok : SOk S) (now : Int) (hm : m ≤ 40) {k : Nat} (hk : k < m) (ho : (marks O (goneS S now)).getD k false = false) : now < T.getD k 0 := by
  have h1 := ((h.next hok now hm).mem (T.getD k 0, (k : Int))).2 ⟨k, hk, rfl, ho⟩
  exact (left_mem.1 h1).2
end
end Go.Proofs.Ytammlneapiafeaa
