/- RetryDone: its arguments. -/
import Derived.Test.YtehbfoiadinhbaaRtDoneWalk
import Derived.Test.YtehbfoiadinhbaaRtNums
import Derived.Test.YtehbfoiadinhbaaRtArg
import Derived.Laws.IdiomArrays
namespace Go.Proofs.Ytehbfoiadinhbaa
open Go Go.Joins Go.ChangeShapes Go.WideShapes Go.RowKit Go.Deep
/-- Four bytes by value. -/
theorem open_four {H : Type} {enc : TypeId × Value → H} {w : World} {base : Nat} {spare : Nat → Bool} {held : Bool} {r : Reach} {b0 : Nat} {v : Value} {d : DataW H} {p : List MemPlace}
    (hv : Value.okWide Try.prog w r b0 45 v) (h : DataW.Trod enc Try.prog w base spare held 45 v d p) :
    ∃ a0 a1 a2 a3, v = .agg #[.int .u8 a0, .int .u8 a1, .int .u8 a2, .int .u8 a3] ∧ (0 ≤ a0 ∧ a0 ≤ 255) ∧ (0 ≤ a1 ∧ a1 ≤ 255) ∧ (0 ≤ a2 ∧ a2 ≤ 255) ∧ (0 ≤ a3 ∧ a3 ≤ 255) := by
  simp only [Value.okWide, Try.underlying45] at hv
  obtain ⟨cs, rfl, hsz, _⟩ := hv
  obtain ⟨l⟩ := cs
  match l, hsz.trans (show Try.prog.cellsOf 45 = 4 by kernel_rfl) with
  | [c0, c1, c2, c3], _ =>
    obtain ⟨fuel, hf⟩ := h
    obtain ⟨y0, y1, y2, y3, n, _, g0, g1, g2, g3⟩ := trod_array4 Try.underlying45 (by kernel_rfl) hf
    obtain ⟨a0, e0, _, w0⟩ := DataW.trod_int Try.underlying5 g0
    obtain ⟨a1, e1, _, w1⟩ := DataW.trod_int Try.underlying5 g1
    obtain ⟨a2, e2, _, w2⟩ := DataW.trod_int Try.underlying5 g2
    obtain ⟨a3, e3, _, w3⟩ := DataW.trod_int Try.underlying5 g3
    simp only [List.cons.injEq, and_true] at e0 e1 e2 e3
    subst e0 e1 e2 e3
    have v0 := wf_u8 w0
    have v1 := wf_u8 w1
    have v2 := wf_u8 w2
    have v3 := wf_u8 w3
    exact ⟨a0, a1, a2, a3, rfl, by omega, by omega, by omega, by omega⟩
theorem retryDone_row (c : Cf) (hc : CfT c) (i0 i1 i2 i3 : Int) (h0 : 0 ≤ i0 ∧ i0 ≤ 255) (h1 : 0 ≤ i1 ∧ i1 ≤ 255) (h2 : 0 ≤ i2 ∧ i2 ≤ 255) (h3 : 0 ≤ i3 ∧ i3 ≤ 255) (A : Option Addr) (n cp : Nat) (L0 : List Int) (w : World)
    (hS0 : ∀ k, k < n → ∃ g o, A = some ⟨g, o, none⟩ ∧ g < w.heap.size ∧ w.cell? ⟨g, o + k, none⟩ = some (.int .u16 (L0.getD k 0)) ∧ (Lit.int .u16 (L0.getD k 0)).wf = true) :
    Calls Try.prog 5 #[cfV c, .agg #[.int .u8 i0, .int .u8 i1, .int .u8 i2, .int .u8 i3], .slice A n cp] w fun e w' => e = .returned (.bool true) ∧ Touch [] w w' := by
  obtain ⟨L, hL⟩ := Nums.of (top := 65536) (by omega) (fun _ => wf_u16) hS0
  exact retryDone_walk c hc i0 i1 i2 i3 h0 h1 h2 h3 w A n cp L hL
end Go.Proofs.Ytehbfoiadinhbaa
