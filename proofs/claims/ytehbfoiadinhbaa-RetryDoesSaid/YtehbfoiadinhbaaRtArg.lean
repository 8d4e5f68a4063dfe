/- A config as an argument. -/
import Derived.Test.YtehbfoiadinhbaaRtWait
import Derived.Test.YtehbfoiadinhbaaWf
import Derived.Lib.SmallJoins
namespace Go.Proofs.Ytehbfoiadinhbaa
open Go Go.Joins Go.ChangeShapes Go.WideShapes Go.RowKit Go.Deep
/-- A config by value: its five numbers. -/
theorem open_cfg {H : Type} {enc : TypeId × Value → H} {w : World} {base : Nat} {spare : Nat → Bool} {held : Bool} {r : Reach} {b0 : Nat} {v : Value} {d : DataW H} {p : List MemPlace}
    (hv : Value.okWide Try.prog w r b0 24 v) (h : DataW.Trod enc Try.prog w base spare held 24 v d p) : ∃ c, v = cfV c ∧ CfT c := by
  obtain ⟨cs, rfl, hsz⟩ := okWide_struct Try.underlying24 hv
  obtain ⟨l⟩ := cs
  match l, hsz.trans (show Try.prog.cellsOf 24 = 5 by kernel_rfl) with
  | [c0, c1, c2, c3, c4], _ =>
    obtain ⟨fuel, hf⟩ := h
    obtain ⟨xs, n, _, _, _, hlen, hg⟩ := DataW.trod_struct Try.underlying24 hf
    match xs, hlen with
    | [y0, y1, y2, y3, y4], _ =>
      have g0 : DataW.trod enc Try.prog w base spare held n 22 [c0] = some y0 := by simpa [Value.cells, show Try.prog.cellsOf 22 = 1 by kernel_rfl] using hg 0 _ rfl
      have g1 : DataW.trod enc Try.prog w base spare held n 22 [c1] = some y1 := by simpa [Value.cells, show Try.prog.cellsOf 22 = 1 by kernel_rfl] using hg 1 _ rfl
      have g2 : DataW.trod enc Try.prog w base spare held n 22 [c2] = some y2 := by simpa [Value.cells, show Try.prog.cellsOf 22 = 1 by kernel_rfl] using hg 2 _ rfl
      have g3 : DataW.trod enc Try.prog w base spare held n 3 [c3] = some y3 := by simpa [Value.cells, show Try.prog.cellsOf 3 = 1 by kernel_rfl] using hg 3 _ rfl
      have g4 : DataW.trod enc Try.prog w base spare held n 3 [c4] = some y4 := by simpa [Value.cells, show Try.prog.cellsOf 3 = 1 by kernel_rfl] using hg 4 _ rfl
      obtain ⟨a0, e0, _, w0⟩ := DataW.trod_int Try.underlying22 g0
      obtain ⟨a1, e1, _, w1⟩ := DataW.trod_int Try.underlying22 g1
      obtain ⟨a2, e2, _, w2⟩ := DataW.trod_int Try.underlying22 g2
      obtain ⟨a3, e3, _, w3⟩ := DataW.trod_int Try.underlying3 g3
      obtain ⟨a4, e4, _, w4⟩ := DataW.trod_int Try.underlying3 g4
      simp only [List.cons.injEq, and_true] at e0 e1 e2 e3 e4
      subst e0 e1 e2 e3 e4
      exact ⟨⟨a0, a1, a2, a3, a4⟩, rfl, (wf_u64 w0).1, (wf_u64 w0).2, (wf_u64 w1).1, (wf_u64 w1).2, (wf_u64 w2).1, (wf_u64 w2).2, (wf_i64 w3).1, (wf_i64 w3).2, (wf_i64 w4).1, (wf_i64 w4).2⟩
end Go.Proofs.Ytehbfoiadinhbaa
