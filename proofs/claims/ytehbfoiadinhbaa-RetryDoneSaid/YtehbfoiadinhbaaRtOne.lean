/- A table of one request: what is due. -/
import Derived.Test.YtehbfoiadinhbaaRtTame
namespace Go.Proofs.Ytehbfoiadinhbaa
open Go Go.RowKit
section
variable (c : Cf) (now draw : Int) (T : Int → Int) (id due : Int)
theorem due_none : dueAll c now draw [] T = ⟨[], T, [], []⟩ := rfl
theorem due_early (h : now < due) : dueAll c now draw [(due, id)] T = ⟨[(due, id)], T, [], []⟩ := by
  have h1 : goneS [(due, id)] now = [] := by unfold goneS; simp; omega
  have h2 : leftS [(due, id)] now = [(due, id)] := by unfold leftS; simp; omega
  unfold dueAll
  rw [h1, h2]
  rfl
theorem due_one (h : due ≤ now) : dueAll c now draw [(due, id)] T = dueStep c now draw ⟨[], T, [], []⟩ id := by
  have h1 : goneS [(due, id)] now = [(due, id)] := by unfold goneS; simp; omega
  have h2 : leftS [(due, id)] now = [] := by unfold leftS; simp; omega
  unfold dueAll
  rw [h1, h2]
  rfl
theorem due_again (h : due ≤ now) (ht : T id < c.tries) : dueAll c now draw [(due, id)] T = ⟨[(addS now (waitV c (T id) draw), id)], upd T id (T id + 1), [id], []⟩ := by
  rw [due_one c now draw T id due h, dueStep_again (by show ¬ c.tries ≤ T id; omega)]
  rfl
theorem due_lost (h : due ≤ now) (ht : c.tries ≤ T id) : dueAll c now draw [(due, id)] T = ⟨[], T, [], [id]⟩ := by
  rw [due_one c now draw T id due h, dueStep_lost (show c.tries ≤ T id from ht)]
  rfl
end
/-- RetrySpaces: behind some looks. -/
structure SpI (c : Cf) (now last k : Int) (gone : Bool) (S : List Al) (T : Int → Int) : Prop where
  t : ∀ a, 0 ≤ T a ∧ T a ≤ 1000
  l0 : 0 ≤ last
  ln : last ≤ now
  k0 : 0 ≤ k
  on : gone = false → ∃ due, S = [(due, 1)] ∧ T 1 = k + 1 ∧ last + min c.most (backS c.base k c.most) ≤ due ∧ k + 1 ≤ c.tries
  off : gone = true → S = [] ∧ k = c.tries - 1
theorem back_tame {c : Cf} (h : TameC c) (k : Int) : 0 ≤ backS c.base k c.most ∧ backS c.base k c.most ≤ c.most := by
  obtain ⟨b0, b1, m0, m1, s0, s1, t0, t1, r⟩ := h
  have hr := dbl_rng (n := c.base) (by omega) (by omega) k.toNat
  unfold backS
  split <;> omega
/-- No wait is as long as numbers are; what is due is due behind it. -/
theorem due_far {c : Cf} (h : TameC c) (k draw now : Int) (hn : 0 ≤ now) (hn' : now ≤ 100000) : now + min c.most (backS c.base k c.most) ≤ addS now (waitV c k draw) := by
  have h1 := back_tame h k
  have h2 : 0 ≤ spreadS c.span draw ∧ spreadS c.span draw ≤ c.span := by
    have s0 := h.s0
    have s1 := h.s1
    unfold spreadS
    rw [if_neg (by omega)]
    have a1 := Int.emod_nonneg draw (show c.span + 1 ≠ 0 by omega)
    have a2 := Int.emod_lt_of_pos draw (show 0 < c.span + 1 by omega)
    omega
  obtain ⟨b0, b1, m0, m1, s0, s1, t0, t1, r⟩ := h
  unfold waitV
  generalize backS c.base k c.most = p at *
  generalize spreadS c.span draw = s at *
  unfold addS
  (repeat' split) <;> omega
theorem spI_start {c : Cf} (h : TameC c) : SpI c 0 0 0 false [(addS 0 (waitV c 0 0), 1)] (upd T0 1 1) := by
  have h1 := due_far h 0 0 0 (by omega) (by omega)
  refine ⟨upd_rng htT0 (by omega), by omega, by omega, by omega, fun _ => ⟨_, rfl, upd_self _ _ _, by omega, ?_⟩, fun h => by cases h⟩
  have := h.t0
  omega
section
variable {c : Cf} {now last k : Int} {S : List Al} {T : Int → Int}
theorem SpI.later {gone : Bool} (h : SpI c now last k gone S T) {now' : Int} (hn : now ≤ now') : SpI c now' last k gone S T := ⟨h.t, h.l0, by have := h.ln; omega, h.k0, h.on, h.off⟩
/-- Tried again. -/
theorem SpI.again (hc : TameC c) (h : SpI c now last k false S T) {due : Int} (hS : S = [(due, 1)]) (hd : due ≤ now) (ht : T 1 < c.tries) (hn : now ≤ 100000) (draw : Int) :
    decide (now - last < min c.most (backS c.base k c.most)) = false ∧ SpI c now now (k + 1) false [(addS now (waitV c (T 1) draw), 1)] (upd T 1 (T 1 + 1)) := by
  obtain ⟨due', hS', hT, hl, hk⟩ := h.on rfl
  rw [hS] at hS'
  simp only [List.cons.injEq, Prod.mk.injEq, and_true] at hS'
  subst hS'
  have h1 := h.l0
  have h2 := h.ln
  have h3 := h.k0
  have h4 := hc.t1
  rw [hT] at ht ⊢
  refine ⟨decide_eq_false (by omega), upd_rng h.t (by omega), by omega, by omega, by omega, fun _ => ⟨_, rfl, upd_self _ _ _, due_far hc (k + 1) draw now (by omega) hn, by omega⟩, fun h => by cases h⟩
/-- Lost. -/
theorem SpI.lost (h : SpI c now last k false S T) (ht : c.tries ≤ T 1) : SpI c now last k true [] T := by
  obtain ⟨due', hS', hT, hl, hk⟩ := h.on rfl
  exact ⟨h.t, h.l0, h.ln, h.k0, fun h => (by cases h), fun _ => ⟨rfl, by omega⟩⟩
theorem SpI.few (h : SpI c now last k false S T) : k < c.tries := by
  obtain ⟨due', hS', hT, hl, hk⟩ := h.on rfl
  omega
end
end Go.Proofs.Ytehbfoiadinhbaa
