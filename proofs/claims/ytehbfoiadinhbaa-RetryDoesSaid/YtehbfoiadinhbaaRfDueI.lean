/- What is due, one request behind the other. -/
import Derived.Test.YtehbfoiadinhbaaRfBase
namespace Go.Proofs.Ytehbfoiadinhbaa
open Go Go.RowKit
theorem leftS_take {S : List Al} {k : Nat} (hk : k < S.length) (now : Int) : leftS (S.take (k + 1)) now = if decide (now < (atA S k).1) = true then leftS (S.take k) now ++ [atA S k] else leftS (S.take k) now := filter_take hk _
theorem goneS_take {S : List Al} {k : Nat} (hk : k < S.length) (now : Int) : goneS (S.take (k + 1)) now = if decide ((atA S k).1 ≤ now) = true then goneS (S.take k) now ++ [atA S k] else goneS (S.take k) now := filter_take hk _
theorem atA_ids {S : List Al} {k m : Nat} (h : SOk S) (hk : k < S.length) (hm : m < S.length) (he : (atA S k).2 = (atA S m).2) : k = m := by
  have hn := h.ids
  rw [atA_get hk, atA_get hm] at he
  have h1 : (S.map Prod.snd)[k]'(by simpa using hk) = (S.map Prod.snd)[m]'(by simpa using hm) := by simpa using he
  exact (List.getElem_inj hn).1 h1
theorem atA_notake {S : List Al} {k : Nat} (h : SOk S) (hk : k < S.length) : (atA S k).2 ∉ idsA (S.take k) := by
  intro hm
  obtain ⟨a, ha, he⟩ := List.mem_map.1 hm
  obtain ⟨m, hml, rfl⟩ := List.getElem_of_mem ha
  rw [List.length_take] at hml
  rw [List.getElem_take, ← atA_get (show m < S.length by omega)] at he
  have := atA_ids h (by omega) hk he
  omega
theorem atA_noleft {S : List Al} {k : Nat} {now : Int} (h : SOk S) (hk : k < S.length) (hg : (atA S k).1 ≤ now) : (atA S k).2 ∉ idsA (leftS S now) := by
  intro hm
  obtain ⟨a, ha, he⟩ := List.mem_map.1 hm
  obtain ⟨h1, h2⟩ := List.mem_filter.1 ha
  obtain ⟨m, hml, rfl⟩ := List.getElem_of_mem h1
  rw [← atA_get hml] at he h2
  have := atA_ids h hml hk he
  subst this
  simp at h2
  omega
theorem idsA_filter {S : List Al} {f : Al → Bool} {a : Int} (h : a ∈ idsA (S.filter f)) : a ∈ idsA S := by
  obtain ⟨b, hb, he⟩ := List.mem_map.1 h
  exact List.mem_map.2 ⟨b, (List.mem_filter.1 hb).1, he⟩
theorem idsA_append (S S' : List Al) : idsA (S ++ S') = idsA S ++ idsA S' := List.map_append
/-- Behind k requests of the list. -/
structure RdI (c : Cf) (now draw : Int) (S : List Al) (T : Int → Int) (k : Nat) (d : DS) : Prop where
  ds : d = (idsA (goneS (S.take k) now)).foldl (dueStep c now draw) ⟨leftS S now, T, [], []⟩
  ln : d.ag.length + d.lo.length ≤ k
  sl : d.S.length ≤ (leftS S now).length + (goneS (S.take k) now).length
  rg : ∀ a, 0 ≤ d.T a ∧ d.T a ≤ 1000
  tt : ∀ m, k ≤ m → m < S.length → d.T (atA S m).2 = T (atA S m).2
  ni : ∀ a, a ∈ idsA d.S → a ∈ idsA (leftS S now) ∨ a ∈ idsA (goneS (S.take k) now)
section
variable {c : Cf} {now draw : Int} {S : List Al} {T : Int → Int} {k : Nat} {d : DS}
theorem RdI.start (hT : ∀ a, 0 ≤ T a ∧ T a ≤ 1000) : RdI c now draw S T 0 ⟨leftS S now, T, [], []⟩ := ⟨rfl, by simp, by simp, hT, fun _ _ _ => rfl, fun _ h => .inl h⟩
theorem RdI.len (h : RdI c now draw S T k d) : d.S.length ≤ S.length := by
  have h1 := h.sl
  have h2 := (gone_left S now).length_eq
  rw [List.length_append] at h2
  have h3 : (goneS (S.take k) now).length ≤ (goneS S now).length := ((List.take_sublist k S).filter _).length_le
  omega
theorem RdI.end_ (h : RdI c now draw S T S.length d) : d = dueAll c now draw S T := by
  have := h.ds
  rw [List.take_length] at this
  exact this
theorem RdI.keep (h : RdI c now draw S T k d) (hk : k < S.length) (hl : now < (atA S k).1) : RdI c now draw S T (k + 1) d := by
  have e : goneS (S.take (k + 1)) now = goneS (S.take k) now := by rw [goneS_take hk, if_neg (by simp; omega)]
  exact ⟨by rw [e]; exact h.ds, by have := h.ln; omega, by rw [e]; exact h.sl, h.rg, fun m h1 h2 => h.tt m (by omega) h2, by rw [e]; exact h.ni⟩
theorem RdI.new (h : RdI c now draw S T k d) (hok : SOk S) (hk : k < S.length) (hl : (atA S k).1 ≤ now) : (atA S k).2 ∉ idsA d.S := fun hm => by
  rcases h.ni _ hm with h1 | h1
  · exact atA_noleft hok hk hl h1
  · exact atA_notake hok hk (idsA_filter h1)
theorem RdI.step (h : RdI c now draw S T k d) (hk : k < S.length) (hl : (atA S k).1 ≤ now) : goneS (S.take (k + 1)) now = goneS (S.take k) now ++ [atA S k] ∧ dueStep c now draw d (atA S k).2 = (idsA (goneS (S.take (k + 1)) now)).foldl (dueStep c now draw) ⟨leftS S now, T, [], []⟩ := by
  have e : goneS (S.take (k + 1)) now = goneS (S.take k) now ++ [atA S k] := by rw [goneS_take hk, if_pos (by simpa using hl)]
  refine ⟨e, ?_⟩
  rw [e, idsA, List.map_append, List.map_singleton, List.foldl_append, List.foldl_cons, List.foldl_nil, h.ds]
  rfl
theorem RdI.lost (h : RdI c now draw S T k d) (hk : k < S.length) (hl : (atA S k).1 ≤ now) (ht : c.tries ≤ T (atA S k).2) : RdI c now draw S T (k + 1) ⟨d.S, d.T, d.ag, d.lo ++ [(atA S k).2]⟩ := by
  obtain ⟨e, e2⟩ := h.step hk hl
  have ht' : c.tries ≤ d.T (atA S k).2 := by rw [h.tt k (Nat.le_refl _) hk]; exact ht
  rw [dueStep_lost ht'] at e2
  refine ⟨e2, by have := h.ln; simp; omega, by rw [e]; have := h.sl; simp; omega, h.rg, fun m h1 h2 => h.tt m (by omega) h2, fun a ha => ?_⟩
  rw [e, idsA_append]
  exact (h.ni a ha).elim .inl fun h => .inr (List.mem_append_left _ h)
theorem RdI.again (h : RdI c now draw S T k d) (hok : SOk S) (hk : k < S.length) (hl : (atA S k).1 ≤ now) (ht : ¬ c.tries ≤ T (atA S k).2) (hc : c.tries ≤ 1000) :
    RdI c now draw S T (k + 1) ⟨insS d.S (addS now (waitV c (T (atA S k).2) draw), (atA S k).2), upd d.T (atA S k).2 (T (atA S k).2 + 1), d.ag ++ [(atA S k).2], d.lo⟩ := by
  obtain ⟨e, e2⟩ := h.step hk hl
  have hTk := h.tt k (Nat.le_refl _) hk
  have ht' : ¬ c.tries ≤ d.T (atA S k).2 := by rw [hTk]; exact ht
  rw [dueStep_again ht', hTk] at e2
  refine ⟨e2, by have := h.ln; simp; omega, by rw [e]; have := h.sl; simp [insS_len]; omega, upd_rng h.rg (by have := h.rg (atA S k).2; rw [hTk] at this; omega), fun m h1 h2 => ?_, fun a ha => ?_⟩
  · show upd d.T (atA S k).2 _ (atA S m).2 = _
    rw [upd, if_neg (fun he => by have := atA_ids hok h2 hk he; omega)]
    exact h.tt m (by omega) h2
  · rw [e, idsA_append]
    rcases List.mem_cons.1 ((insS_ids d.S _).mem_iff.2 ha) with h1 | h1
    · exact .inr (List.mem_append_right _ (by rw [h1]; simp [idsA]))
    · exact (h.ni a h1).elim .inl fun h => .inr (List.mem_append_left _ h)
end
end Go.Proofs.Ytehbfoiadinhbaa
