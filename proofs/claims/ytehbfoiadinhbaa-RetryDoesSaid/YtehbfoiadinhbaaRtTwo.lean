/- Two tables, one of which was never asked for one id. -/
import Derived.Test.YtehbfoiadinhbaaRtTame
namespace Go.Proofs.Ytehbfoiadinhbaa
open Go Go.RowKit
theorem insS_front {S : List Al} {a : Al} (h : ∀ x, x ∈ S → ¬ ltA x a) : insS S a = a :: S := by
  cases S with
  | nil => rfl
  | cons b S => rw [insS_cons, if_neg (h b (by simp))]
theorem drop_ins_same (S : List Al) (a : Al) : dropS (insS S a) a.2 = dropS S a.2 := by
  induction S with
  | nil => simp [insS, dropS]
  | cons b S ih =>
    rw [insS_cons]
    split
    · unfold dropS at ih ⊢
      rw [List.filter_cons, List.filter_cons, ih]
    · unfold dropS
      rw [List.filter_cons, if_neg (by simp)]
theorem drop_ins {S : List Al} {a : Al} {id : Int} (h : S.Pairwise ltA) (hne : a.2 ≠ id) : dropS (insS S a) id = insS (dropS S id) a := by
  induction S with
  | nil => simp [insS, dropS, hne]
  | cons b S ih =>
    have ih' := ih (List.pairwise_cons.1 h).2
    have hb := (List.pairwise_cons.1 h).1
    have hk : (!(a.2 == id)) = true := by simp [hne]
    rw [insS_cons]
    by_cases hl : ltA b a
    · rw [if_pos hl]
      by_cases hbi : b.2 = id
      · have h1 : (!(b.2 == id)) = false := by simp [hbi]
        unfold dropS at ih' ⊢
        rw [List.filter_cons, List.filter_cons, if_neg (by simp [h1]), if_neg (by simp [h1]), ih']
      · have h1 : (!(b.2 == id)) = true := by simp [hbi]
        unfold dropS at ih' ⊢
        rw [List.filter_cons, List.filter_cons, if_pos h1, if_pos h1, ih', insS_cons, if_pos hl]
    · rw [if_neg hl]
      have hall : ∀ x, x ∈ dropS (b :: S) id → ¬ ltA x a := by
        intro x hx hxa
        have hx' := (List.mem_filter.1 hx).1
        rcases List.mem_cons.1 hx' with rfl | hx'
        · exact hl hxa
        · exact hl (ltA_trans (hb x hx') hxa)
      rw [insS_front hall]
      show (a :: b :: S).filter _ = a :: (b :: S).filter _
      rw [List.filter_cons, if_pos hk]
/-- One of the two was asked for all ids, the other one for all but 'out'. -/
structure TwI (out : Int) (m : Nat) (Sa Sb : List Al) (Ta Tb : Int → Int) : Prop where
  drop : dropS Sa out = Sb
  t : ∀ a, a ∈ idsA Sb → Ta a = Tb a
  la : Sa.length ≤ m
  ra : ∀ a, 0 ≤ Ta a ∧ Ta a ≤ 1000
  ia : ∀ a, a ∈ idsA Sa → 0 ≤ a ∧ a ≤ 255
theorem TwI.lb {out : Int} {m : Nat} {Sa Sb : List Al} {Ta Tb : Int → Int} (h : TwI out m Sa Sb Ta Tb) : Sb.length ≤ m := by
  have h1 := dropS_len Sa out
  have h2 := h.la
  rw [h.drop] at h1
  omega
theorem drop_hasA {S : List Al} {id out : Int} (hne : id ≠ out) : hasA (dropS S out) id = hasA S id := by
  unfold hasA dropS
  rw [List.any_filter]
  congr 1
  funext a
  by_cases h : a.2 = id
  · have : a.2 ≠ out := by omega
    simp [this]
  · simp [h]
theorem drop_notin {S : List Al} {out : Int} : out ∉ idsA (dropS S out) := by
  unfold idsA dropS
  intro h
  obtain ⟨a, ha, he⟩ := List.mem_map.1 h
  have := (List.mem_filter.1 ha).2
  simp [he] at this
theorem ids_ask {S : List Al} {c : Cf} {id now draw a : Int} (h : a ∈ idsA (askS S c id now draw)) : a = id ∨ a ∈ idsA S := by
  rcases setCode_cases S c.room id with ⟨h1, _⟩ | ⟨h1, _⟩ | ⟨h1, _⟩
  · rw [show askS S c id now draw = S from setS_not (by omega)] at h
    exact .inr h
  · rw [show askS S c id now draw = S from setS_not (by omega)] at h
    exact .inr h
  · rw [show askS S c id now draw = insS S (addS now (waitV c 0 draw), id) from setS_yes h1] at h
    rcases List.mem_cons.1 ((insS_ids S _).mem_iff.2 h) with h | h
    · exact .inl h
    · exact .inr h
theorem ask_len {S : List Al} {c : Cf} {id now draw : Int} : (askS S c id now draw).length ≤ S.length + 1 := by
  rcases setCode_cases S c.room id with ⟨h1, _⟩ | ⟨h1, _⟩ | ⟨h1, _⟩
  · rw [show askS S c id now draw = S from setS_not (by omega)]; omega
  · rw [show askS S c id now draw = S from setS_not (by omega)]; omega
  · rw [show askS S c id now draw = insS S (addS now (waitV c 0 draw), id) from setS_yes h1, insS_len]; omega
theorem ask_rng {S : List Al} {T : Int → Int} {room id : Int} (h : ∀ a, 0 ≤ T a ∧ T a ≤ 1000) : ∀ a, 0 ≤ askT S T room id a ∧ askT S T room id a ≤ 1000 := by
  unfold askT
  split
  · exact upd_rng h (by omega)
  · exact h
theorem TwI.start (out : Int) : TwI out 0 [] [] T0 T0 := ⟨rfl, fun _ _ => rfl, by simp, htT0, fun a h => by simp [idsA] at h⟩
section
variable {c : Cf} {out id now : Int} {m : Nat} {Sa Sb : List Al} {Ta Tb : Int → Int}
/-- The one is asked for 'out'. -/
theorem TwI.one (h : TwI out m Sa Sb Ta Tb) (ho : 0 ≤ out ∧ out ≤ 255) (now draw : Int) : TwI out (m + 1) (askS Sa c out now draw) Sb (askT Sa Ta c.room out) Tb := by
  refine ⟨?_, fun a ha => ?_, by have := ask_len (S := Sa) (c := c) (id := out) (now := now) (draw := draw); have := h.la; omega, ask_rng h.ra, fun a ha => ?_⟩
  · rcases setCode_cases Sa c.room out with ⟨h1, _⟩ | ⟨h1, _⟩ | ⟨h1, _⟩
    · rw [show askS Sa c out now draw = Sa from setS_not (by omega)]; exact h.drop
    · rw [show askS Sa c out now draw = Sa from setS_not (by omega)]; exact h.drop
    · rw [show askS Sa c out now draw = insS Sa (addS now (waitV c 0 draw), out) from setS_yes h1]
      exact (drop_ins_same Sa (addS now (waitV c 0 draw), out)).trans h.drop
  · have hne : a ≠ out := fun e => by
      rw [e, ← h.drop] at ha
      exact drop_notin ha
    unfold askT
    split
    · rw [upd, if_neg hne]
      exact h.t a ha
    · exact h.t a ha
  · rcases ids_ask ha with rfl | h1
    · exact ho
    · exact h.ia a h1
theorem TwI.code (h : TwI out m Sa Sb Ta Tb) (hm : (m : Int) < c.room) (hne : id ≠ out) : setCode Sb c.room id = setCode Sa c.room id := by
  have h1 := drop_hasA (S := Sa) hne
  rw [h.drop] at h1
  have h2 := h.la
  have h3 := h.lb
  unfold setCode
  rw [h1]
  split
  · rfl
  · rw [if_neg (by omega), if_neg (by omega)]
/-- Both are asked for another id. -/
theorem TwI.both (h : TwI out m Sa Sb Ta Tb) (hs : SOk Sa) (hm : (m : Int) < c.room) (hne : id ≠ out) (ho : 0 ≤ id ∧ id ≤ 255) (now draw : Int) :
    TwI out (m + 1) (askS Sa c id now draw) (askS Sb c id now draw) (askT Sa Ta c.room id) (askT Sb Tb c.room id) := by
  have hc := h.code hm hne
  refine ⟨?_, fun a ha => ?_, by have := ask_len (S := Sa) (c := c) (id := id) (now := now) (draw := draw); have := h.la; omega, ask_rng h.ra, fun a ha => ?_⟩
  · by_cases h0 : setCode Sa c.room id = 0
    · rw [show askS Sa c id now draw = insS Sa (addS now (waitV c 0 draw), id) from setS_yes h0, show askS Sb c id now draw = insS Sb (addS now (waitV c 0 draw), id) from setS_yes (hc.trans h0), drop_ins hs.sorted hne, h.drop]
    · rw [show askS Sa c id now draw = Sa from setS_not h0, show askS Sb c id now draw = Sb from setS_not (by rw [hc]; exact h0)]
      exact h.drop
  · unfold askT
    rw [hc]
    by_cases h0 : setCode Sa c.room id = 0
    · rw [if_pos h0, if_pos h0]
      unfold upd
      split
      · rfl
      · rename_i hai
        rcases ids_ask ha with h1 | h1
        · exact absurd h1 hai
        · exact h.t a h1
    · rw [if_neg h0, if_neg h0]
      rw [show askS Sb c id now draw = Sb from setS_not (by rw [hc]; exact h0)] at ha
      exact h.t a ha
  · rcases ids_ask ha with rfl | h1
    · exact ho
    · exact h.ia a h1
end
/-- What is due leaves no new ids, and no wide numbers. -/
theorem due_fold (c : Cf) (hc : c.tries ≤ 999) (now draw : Int) (L : List Int) : ∀ (d : DS), (∀ a, 0 ≤ d.T a ∧ d.T a ≤ 1000) →
    (∀ a, 0 ≤ (L.foldl (dueStep c now draw) d).T a ∧ (L.foldl (dueStep c now draw) d).T a ≤ 1000) ∧ ∀ a, a ∈ idsA (L.foldl (dueStep c now draw) d).S → a ∈ L ∨ a ∈ idsA d.S := by
  induction L with
  | nil => exact fun d h => ⟨h, fun a ha => .inr ha⟩
  | cons x L ih =>
    intro d h
    rw [List.foldl_cons]
    by_cases hx : c.tries ≤ d.T x
    · rw [dueStep_lost hx]
      obtain ⟨h1, h2⟩ := ih ⟨d.S, d.T, d.ag, d.lo ++ [x]⟩ h
      exact ⟨h1, fun a ha => (h2 a ha).elim (fun h => .inl (List.mem_cons_of_mem _ h)) .inr⟩
    · rw [dueStep_again hx]
      obtain ⟨h1, h2⟩ := ih ⟨insS d.S (addS now (waitV c (d.T x) draw), x), upd d.T x (d.T x + 1), d.ag ++ [x], d.lo⟩ (upd_rng h (by have := h x; omega))
      refine ⟨h1, fun a ha => (h2 a ha).elim (fun h => .inl (List.mem_cons_of_mem _ h)) fun h => ?_⟩
      rcases List.mem_cons.1 ((insS_ids d.S _).mem_iff.2 h) with h | h
      · exact .inl (by rw [h]; exact List.mem_cons_self)
      · exact .inr h
theorem due_rng {c : Cf} (hc : c.tries ≤ 999) (now draw : Int) (S : List Al) {T : Int → Int} (h : ∀ a, 0 ≤ T a ∧ T a ≤ 1000) : ∀ a, 0 ≤ (dueAll c now draw S T).T a ∧ (dueAll c now draw S T).T a ≤ 1000 :=
  (due_fold c hc now draw _ _ h).1
theorem due_ids {c : Cf} (hc : c.tries ≤ 999) (now draw : Int) (S : List Al) {T : Int → Int} (h : ∀ a, 0 ≤ T a ∧ T a ≤ 1000) (a : Int) (ha : a ∈ idsA (dueAll c now draw S T).S) : a ∈ idsA S := by
  have hp := ((gone_left S now).map Prod.snd).mem_iff (a := a)
  rw [List.map_append, List.mem_append] at hp
  exact hp.2 ((due_fold c hc now draw _ _ h).2 a ha)
end Go.Proofs.Ytehbfoiadinhbaa
