/- 'syngraphlaw17.RetryDoes' returns true for every input, and leaves its arguments as they were. -/
import Derived.Test.YtehbfoiadinhbaaRtLaw
import Derived.Test.YtehbfoiadinhbaaRtArg
import Derived.Test.YtehbfoiadinhbaaRtDoesWalk
import Derived.Test.YtehbfoiadinhbaaWf
namespace Go.Proofs.Ytehbfoiadinhbaa.retryDoes
open Go.ChangeShapes Go.WideShapes Go.ChangeAt Go.RowKit
theorem own : ownKnob Try.prog.godebug = none := by kernel_rfl
theorem readable : ∀ t, t ∈ Try.f7.params.toList → Try.prog.readableRec t = true ∧ t < Try.prog.types.size := by
  intro t ht
  rw [Try.params7] at ht
  simp only [List.mem_cons, List.not_mem_nil, or_false] at ht
  rcases ht with rfl | rfl
  · exact ⟨by kernel_rfl, of_decide_eq_true (by kernel_rfl)⟩
  · exact ⟨by kernel_rfl, of_decide_eq_true (by kernel_rfl)⟩
set_option maxRecDepth 100000 in
theorem lifted (os : Os) (started : os.Started) (H : Type) (enc : TypeId × Value → H) :
    ReturnsInHanded {} Try.checked os 7 .any (Rows.retryDoesSpec.pre6 enc Try.prog Try.f7 Rows.retryDoesRow.domain false) (Rows.retryDoesSpec.post enc Try.prog Try.f7 false true false false) := by
  refine law_returns (C := Try.checked) (tb := 4) own started (by kernel_rfl) Try.func7
    (ChangeSpec.witness6 (enc := enc) (C := Try.checked) false ⟨#[], #[.agg #[.int .u64 0, .int .u64 0, .int .u64 0, .int .i64 0, .int .i64 0], .slice none 0 0], []⟩ 8 (by kernel_rfl) (by kernel_rfl) (by kernel_rfl) (by kernel_rfl))
    (by kernel_rfl) readable Try.underlying4 rfl rfl (fun ds h => ?_) ?_
  · match ds, h with
    | [d0, d1], _ => rfl
  · intro W base args ds ps hval0 hA0 hlt
    have hval : ∀ (j : Nat) t v, Try.f7.params[j]? = some t → args[j]? = some v → Value.okWide Try.prog W .any base t v := hval0
    have hA : DataW.TrodAll enc Try.prog W 0 (fun _ => true) true Try.f7.params.toList args.toList ds ps := hA0
    rw [Try.params7] at hA hval
    obtain ⟨v0, vs0, d0, ds0, p0, q0, hargs, rfl, rfl, h0, r0⟩ := trodAll_cons hA
    obtain ⟨v1, vs1, d1, ds1, p1, q1, rfl, rfl, rfl, h1, r1⟩ := trodAll_cons r0
    obtain ⟨rfl, rfl, rfl⟩ := trodAll_nil r1
    obtain rfl : args = #[v0, v1] := by cases args; simp_all
    obtain ⟨c0, rfl, hc0⟩ := open_cfg (hval 0 24 v0 rfl rfl) h0
    obtain ⟨A1, n1, c1, rfl, hn1, hS1⟩ := open_structs Try.underlying50 Try.underlying57 (by kernel_rfl) (by kernel_rfl) (by decide) (hval 1 50 v1 rfl rfl) h1
    exact rdoes_walk c0 hc0 A1 n1 c1 W ⟨fun k hk => by
      obtain ⟨g, o, hA, hg, hf⟩ := hS1 k hk
      obtain ⟨u0, y0, m0, hc0, ht0⟩ := hf 0 _ rfl
      obtain ⟨u1, y1, m1, hc1, ht1⟩ := hf 1 _ rfl
      obtain ⟨u2, y2, m2, hc2, ht2⟩ := hf 2 _ rfl
      obtain ⟨u3, y3, m3, hc3, ht3⟩ := hf 3 _ rfl
      obtain ⟨kd, hk0, _, x0⟩ := DataW.trod_int Try.underlying3 ht0
      obtain ⟨s1, hk1, _, x1⟩ := DataW.trod_int Try.underlying3 ht1
      obtain ⟨s2, hk2, _, x2⟩ := DataW.trod_int Try.underlying22 ht2
      obtain ⟨s3, hk3, _, x3⟩ := DataW.trod_int Try.underlying22 ht3
      have e0 : u0 = .int .i64 kd := by simpa using hk0
      have e1 : u1 = .int .i64 s1 := by simpa using hk1
      have e2 : u2 = .int .u64 s2 := by simpa using hk2
      have e3 : u3 = .int .u64 s3 := by simpa using hk3
      subst e0; subst e1; subst e2; subst e3
      exact ⟨g, o, kd, s1, s2, s3, hA, hg, hc0, hc1, hc2, hc3, by have := wf_i64 x1; omega, wf_u64 x2, wf_u64 x3⟩⟩
theorem over : Rows.retryDoesRow.holds Try.pinned (OpenSpec.ofChange Rows.retryDoesSpec) :=
  OpenClaim.holds_of_wide 7 Try.f7 rfl rfl rfl rfl rfl rfl rfl ⟨rfl, rfl, rfl, rfl, rfl⟩ rfl rfl rfl rfl rfl (by kernel_rfl) Try.func7 (by kernel_rfl)
    (of_decide_eq_true (by kernel_rfl)) (by unfold Func.isWrapper; first | (rw [if_pos (by decide +kernel)]; kernel_rfl) | (rw [if_neg (by decide +kernel)]; exact ⟨rfl, rfl⟩))
    (fun os started H enc _ => lifted os started H enc)
theorem proved : Rows.RetryDoesSaid := over
#print axioms proved
end Go.Proofs.Ytehbfoiadinhbaa.retryDoes
