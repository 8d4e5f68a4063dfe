/- Alarms in order, no id twice: what is set, dropped and popped. -/
import Derived.Test.YtammlneapiafeaaFind
namespace Go.Proofs.Ytammlneapiafeaa
open Go.RowKit
def hasA (S : List Al) (id : Int) : Bool := S.any (fun a => a.2 == id)
def insS (S : List Al) (a : Al) : List Al := S.takeWhile (fun b => decide (ltA b a)) ++ a :: S.dropWhile (fun b => decide (ltA b a))
def dropS (S : List Al) (id : Int) : List Al := S.filter (fun a => !(a.2 == id))
def goneS (S : List Al) (now : Int) : List Al := S.filter (fun a => decide (a.1 ≤ now))
def leftS (S : List Al) (now : Int) : List Al := S.filter (fun a => decide (now < a.1))
theorem ltA_trans {a b c : Al} (h : ltA a b) (k : ltA b c) : ltA a c := by unfold ltA at *; omega
theorem ltA_irrefl (a : Al) : ¬ ltA a a := by unfold ltA; omega
theorem ltA_of_not {a b : Al} (h : ¬ ltA a b) (hne : a.2 ≠ b.2) : ltA b a := by unfold ltA at *; omega
structure SOk (S : List Al) : Prop where
  sorted : S.Pairwise ltA
  ids : (S.map Prod.snd).Nodup
theorem hasA_iff (S : List Al) (id : Int) : hasA S id = true ↔ id ∈ S.map Prod.snd := by
  unfold hasA
  rw [List.any_eq_true, List.mem_map]
  exact ⟨fun ⟨a, h1, h2⟩ => ⟨a, h1, beq_iff_eq.1 h2⟩, fun ⟨a, h1, h2⟩ => ⟨a, h1, beq_iff_eq.2 h2⟩⟩
theorem hasA_no {S : List Al} {id : Int} : hasA S id = false ↔ id ∉ S.map Prod.snd := by
  rw [← hasA_iff, Bool.not_eq_true]
theorem hasA_perm {S T : List Al} (h : S.Perm T) (id : Int) : hasA S id = hasA T id := by
  have := (h.map Prod.snd).mem_iff (a := id)
  rw [← hasA_iff, ← hasA_iff] at this
  cases h1 : hasA S id <;> cases h2 : hasA T id <;> simp_all
theorem insS_cons (b : Al) (S : List Al) (a : Al) : insS (b :: S) a = if ltA b a then b :: insS S a else a :: b :: S := by
  unfold insS
  by_cases h : ltA b a <;> simp [h]
theorem insS_perm (S : List Al) (a : Al) : (insS S a).Perm (a :: S) := by
  unfold insS
  exact List.perm_middle.trans (by rw [List.takeWhile_append_dropWhile])
theorem insS_sorted {S : List Al} {a : Al} (h : S.Pairwise ltA) (hn : a.2 ∉ S.map Prod.snd) : (insS S a).Pairwise ltA := by
  induction S with
  | nil => simp [insS]
  | cons b S ih =>
    rw [List.map_cons, List.mem_cons, not_or] at hn
    obtain ⟨h1, h2⟩ := List.pairwise_cons.1 h
    rw [insS_cons]
    by_cases hb : ltA b a
    · rw [if_pos hb]
      refine List.pairwise_cons.2 ⟨fun c hc => ?_, ih h2 hn.2⟩
      rcases List.mem_cons.1 ((insS_perm S a).mem_iff.1 hc) with rfl | hc
      · exact hb
      · exact h1 c hc
    · rw [if_neg hb]
      have hab : ltA a b := ltA_of_not hb (Ne.symm hn.1)
      refine List.pairwise_cons.2 ⟨fun c hc => ?_, h⟩
      rcases List.mem_cons.1 hc with rfl | hc
      · exact hab
      · exact ltA_trans hab (h1 c hc)
theorem SOk.nil : SOk [] := ⟨.nil, .nil⟩
theorem SOk.ins {S : List Al} {a : Al} (h : SOk S) (hn : hasA S a.2 = false) : SOk (insS S a) := by
  have hn := hasA_no.1 hn
  refine ⟨insS_sorted h.sorted hn, ((insS_perm S a).map Prod.snd).nodup_iff.2 ?_⟩
  rw [List.map_cons]
  exact List.nodup_cons.2 ⟨hn, h.ids⟩
theorem SOk.sub {S T : List Al} (h : SOk S) (ht : T.Sublist S) : SOk T := ⟨h.sorted.sublist ht, h.ids.sublist (ht.map _)⟩
theorem SOk.drop {S : List Al} (h : SOk S) (id : Int) : SOk (dropS S id) := h.sub List.filter_sublist
theorem SOk.left {S : List Al} (h : SOk S) (now : Int) : SOk (leftS S now) := h.sub List.filter_sublist
theorem insS_len (S : List Al) (a : Al) : (insS S a).length = S.length + 1 := by rw [(insS_perm S a).length_eq]; rfl
theorem dropS_len (S : List Al) (id : Int) : (dropS S id).length ≤ S.length := List.length_filter_le _ _
theorem leftS_len (S : List Al) (now : Int) : (leftS S now).length ≤ S.length := List.length_filter_le _ _
theorem goneS_len (S : List Al) (now : Int) : (goneS S now).length ≤ S.length := List.length_filter_le _ _
theorem sorted_unique {S T : List Al} (h : S.Pairwise ltA) (k : T.Pairwise ltA) (hp : S.Perm T) : S = T := by
  induction S generalizing T with
  | nil => exact hp.nil_eq
  | cons a S ih =>
    cases T with
    | nil => exact absurd hp.symm.nil_eq (by simp)
    | cons b T =>
      obtain ⟨h1, h2⟩ := List.pairwise_cons.1 h
      obtain ⟨k1, k2⟩ := List.pairwise_cons.1 k
      have hab : a = b := by
        rcases List.mem_cons.1 (hp.mem_iff.1 List.mem_cons_self) with e | ha
        · exact e
        · rcases List.mem_cons.1 (hp.mem_iff.2 List.mem_cons_self) with e | hb
          · exact e.symm
          · exact absurd (ltA_trans (h1 b hb) (k1 a ha)) (ltA_irrefl a)
      subst hab
      rw [ih h2 k2 (List.perm_cons a |>.1 hp)]
/-- A sorted list, parted at a tick. -/
theorem gone_left {S : List Al} (h : S.Pairwise ltA) (now : Int) : goneS S now ++ leftS S now = S := by
  induction S with
  | nil => rfl
  | cons a S ih =>
    obtain ⟨h1, h2⟩ := List.pairwise_cons.1 h
    by_cases ha : a.1 ≤ now
    · have e1 : goneS (a :: S) now = a :: goneS S now := by simp [goneS, ha]
      have e2 : leftS (a :: S) now = leftS S now := by
        unfold leftS
        rw [List.filter_cons_of_neg (by simp; omega)]
      rw [e1, e2, List.cons_append, ih h2]
    · have e1 : goneS (a :: S) now = [] := by
        unfold goneS
        rw [List.filter_eq_nil_iff]
        intro b hb
        rcases List.mem_cons.1 hb with rfl | hb
        · simpa using ha
        · have := h1 b hb
          unfold ltA at this
          simp; omega
      have e2 : leftS (a :: S) now = a :: S := by
        unfold leftS
        rw [List.filter_eq_self]
        intro b hb
        rcases List.mem_cons.1 hb with rfl | hb
        · simp; omega
        · have := h1 b hb
          unfold ltA at this
          simp; omega
      rw [e1, e2]; rfl
/-- What was popped so far, and what still is there. -/
theorem parted {S D T : List Al} {now : Int} (h : S = D ++ T) (hd : ∀ a ∈ D, a.1 ≤ now) (ht : ∀ a ∈ T, now < a.1) : goneS S now = D ∧ leftS S now = T := by
  subst h
  constructor
  · unfold goneS
    rw [List.filter_append, List.filter_eq_self.2 (fun a ha => by simpa using hd a ha), List.filter_eq_nil_iff.2 (fun a ha => by simpa using ht a ha), List.append_nil]
  · unfold leftS
    rw [List.filter_append, List.filter_eq_nil_iff.2 (fun a ha => by simpa using hd a ha), List.filter_eq_self.2 (fun a ha => by simpa using ht a ha), List.nil_append]
/-- The head of what stands in order is the head of the heap. -/
theorem heap_head {M S : List Al} {a : Al} (hh : HeapOk M) (hp : M.Perm (a :: S)) (hs : (a :: S).Pairwise ltA) : 0 < M.length ∧ atA M 0 = a ∧ (M.eraseIdx 0).Perm S := by
  have hlen : M.length = S.length + 1 := hp.length_eq
  obtain ⟨m, M', rfl⟩ : ∃ m M', M = m :: M' := by
    cases M with
    | nil => simp at hlen
    | cons m M' => exact ⟨m, M', rfl⟩
  obtain ⟨h1, h2⟩ := List.pairwise_cons.1 hs
  have hma : m = a := by
    have e0 : atA (m :: M') 0 = m := rfl
    rcases List.mem_cons.1 (hp.mem_iff.1 (List.mem_cons_self (a := m) (l := M'))) with e | hm
    · exact e
    · have hlt := h1 m hm
      obtain ⟨j, hj, hja⟩ := List.getElem_of_mem (hp.mem_iff.2 (List.mem_cons_self (a := a) (l := S)))
      have hle := hh.min j hj
      rw [atA_get hj, hja, e0] at hle
      exact absurd hlt hle
  subst hma
  exact ⟨by simp, rfl, (List.perm_cons m).1 hp⟩
theorem erase_place {M : List Al} {id : Int} (h : (M.map Prod.snd).Nodup) : M.eraseIdx (placeA M id) = dropS M id := by
  induction M with
  | nil => rfl
  | cons a M ih =>
    rw [List.map_cons] at h
    obtain ⟨h1, h2⟩ := List.nodup_cons.1 h
    by_cases ha : a.2 = id
    · have e1 : placeA (a :: M) id = 0 := by simp [placeA, List.findIdx_cons, ha]
      have e2 : dropS (a :: M) id = dropS M id := by simp [dropS, ha]
      rw [e1, e2, List.eraseIdx_cons_zero]
      symm
      unfold dropS
      rw [List.filter_eq_self]
      intro b hb
      have : b.2 ≠ id := fun e => h1 (List.mem_map.2 ⟨b, hb, by rw [e, ha]⟩)
      simpa using this
    · have e1 : placeA (a :: M) id = placeA M id + 1 := by
        unfold placeA
        rw [List.findIdx_cons, beq_false_of_ne ha]; rfl
      have e2 : dropS (a :: M) id = a :: dropS M id := by simp [dropS, ha]
      rw [e1, e2, List.eraseIdx_cons_succ, ih h2]
theorem dropS_perm {M S : List Al} (h : M.Perm S) (id : Int) : (dropS M id).Perm (dropS S id) := h.filter _
theorem dropS_none {S : List Al} {id : Int} (h : hasA S id = false) : dropS S id = S := by
  unfold dropS
  rw [List.filter_eq_self]
  intro a ha
  have : a.2 ≠ id := fun e => hasA_no.1 h (List.mem_map.2 ⟨a, ha, e⟩)
  simpa using this
theorem findA_yes {M : List Al} {id : Int} (h : hasA M id = true) : placeA M id < M.length ∧ findA M id = placeA M id := by
  have hl : placeA M id < M.length := by
    unfold placeA
    rw [List.findIdx_lt_length]
    obtain ⟨a, h1, h2⟩ := List.mem_map.1 ((hasA_iff M id).1 h)
    exact ⟨a, h1, beq_iff_eq.2 h2⟩
  exact ⟨hl, by unfold findA; rw [if_pos hl]⟩
theorem findA_no {M : List Al} {id : Int} (h : hasA M id = false) : findA M id = -1 := by
  have hn := hasA_no.1 h
  have : placeA M id = M.length := placeA_none fun j hj e => hn (List.mem_map.2 ⟨_, (by rw [atA_get hj]; exact List.getElem_mem hj), e⟩)
  unfold findA
  rw [this, if_neg (by omega)]
end Go.Proofs.Ytammlneapiafeaa
