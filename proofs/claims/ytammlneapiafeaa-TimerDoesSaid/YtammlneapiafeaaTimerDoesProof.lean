/- 'syngraphlaw16.TimerDoes' returns true for every input, and leaves its arguments as they were. -/
import Derived.Test.YtammlneapiafeaaLaw
import Derived.Test.YtammlneapiafeaaDoesWalkT
namespace Go.Proofs.Ytammlneapiafeaa.timerDoes
open Go.ChangeShapes Go.WideShapes Go.ChangeAt Go.RowKit
theorem own : ownKnob Try.prog.godebug = none := by kernel_rfl
theorem readable : ∀ t, t ∈ Try.f6.params.toList → Try.prog.readableRec t = true ∧ t < Try.prog.types.size := by
  intro t ht
  rw [Try.params6] at ht
  simp only [List.mem_cons, List.not_mem_nil, or_false] at ht
  rcases ht with rfl | rfl
  · exact ⟨by kernel_rfl, of_decide_eq_true (by kernel_rfl)⟩
  · exact ⟨by kernel_rfl, of_decide_eq_true (by kernel_rfl)⟩
set_option maxRecDepth 100000 in
theorem lifted (os : Os) (started : os.Started) (H : Type) (enc : TypeId × Value → H) :
    ReturnsInHanded {} Try.checked os 6 .any (Rows.timerDoesSpec.pre6 enc Try.prog Try.f6 Rows.timerDoesRow.domain false) (Rows.timerDoesSpec.post enc Try.prog Try.f6 false true false false) := by
  refine law_returns (C := Try.checked) (tb := 4) own started (by kernel_rfl) Try.func6
    (ChangeSpec.witness6 (enc := enc) (C := Try.checked) false ⟨#[], #[.int .i64 0, .slice none 0 0], []⟩ 8 (by kernel_rfl) (by kernel_rfl) (by kernel_rfl) (by kernel_rfl))
    (by kernel_rfl) readable Try.underlying4 rfl rfl (fun ds h => ?_) ?_
  · match ds, h with
    | [d0, d1], _ => rfl
  · intro W base args ds ps hval0 hA0 hlt
    have hval : ∀ (j : Nat) t v, Try.f6.params[j]? = some t → args[j]? = some v → Value.okWide Try.prog W .any base t v := hval0
    have hA : DataW.TrodAll enc Try.prog W 0 (fun _ => true) true Try.f6.params.toList args.toList ds ps := hA0
    rw [Try.params6] at hA hval
    obtain ⟨v0, vs0, d0, ds0, p0, q0, hargs, rfl, rfl, h0, r0⟩ := trodAll_cons hA
    obtain ⟨v1, vs1, d1, ds1, p1, q1, rfl, rfl, rfl, h1, r1⟩ := trodAll_cons r0
    obtain ⟨rfl, rfl, rfl⟩ := trodAll_nil r1
    obtain rfl : args = #[v0, v1] := by cases args; simp_all
    obtain ⟨a0, rfl, rfl, rfl, w0⟩ := open_int Try.underlying3 (hval 0 3 v0 rfl rfl) h0
    obtain ⟨A1, n1, c1, rfl, hn1, hS1⟩ := open_structs Try.underlying41 Try.underlying46 (by kernel_rfl) (by kernel_rfl) (by decide) (hval 1 41 v1 rfl rfl) h1
    exact does_walk a0 A1 n1 c1 W hn1 (fun k hk => by
      obtain ⟨g, o, hA, hg, hf⟩ := hS1 k hk
      obtain ⟨u0, y0, m0, hc0, ht0⟩ := hf 0 _ rfl
      obtain ⟨u1, y1, m1, hc1, ht1⟩ := hf 1 _ rfl
      obtain ⟨u2, y2, m2, hc2, ht2⟩ := hf 2 _ rfl
      obtain ⟨kd, hk0, _⟩ := DataW.trod_int Try.underlying3 ht0
      obtain ⟨s, hk1, _⟩ := DataW.trod_int Try.underlying3 ht1
      obtain ⟨s2, hk2, _⟩ := DataW.trod_int Try.underlying28 ht2
      have e0 : u0 = .int .i64 kd := by simpa using hk0
      have e1 : u1 = .int .i64 s := by simpa using hk1
      have e2 : u2 = .int .u64 s2 := by simpa using hk2
      subst e0; subst e1; subst e2
      exact ⟨g, o, kd, s, s2, hA, hg, hc0, hc1, hc2⟩)
theorem over : Rows.timerDoesRow.holds Try.pinned (OpenSpec.ofChange Rows.timerDoesSpec) :=
  OpenClaim.holds_of_wide 6 Try.f6 rfl rfl rfl rfl rfl rfl rfl ⟨rfl, rfl, rfl, rfl, rfl⟩ rfl rfl rfl rfl rfl (by kernel_rfl) Try.func6 (by kernel_rfl)
    (of_decide_eq_true (by kernel_rfl)) (by unfold Func.isWrapper; first | (rw [if_pos (by decide +kernel)]; kernel_rfl) | (rw [if_neg (by decide +kernel)]; exact ⟨rfl, rfl⟩))
    (fun os started H enc _ => lifted os started H enc)
theorem proved : Rows.TimerDoesSaid := over
#print axioms proved
end Go.Proofs.Ytammlneapiafeaa.timerDoes
