/- A gauge, a float, a slice of floats, as arguments. -/
import Derived.Test.YtbpgbjhjnemaoaaGgSorted
import Derived.Test.YtbpgbjhjnemaoaaWf
import Derived.Test.YtbpgbjhjnemaoaaLaw
import Derived.Lib.SmallJoins
import Derived.Laws.Cover2
namespace Go.Proofs.Ytbpgbjhjnemaoaa
open Go Go.Joins Go.ChangeShapes Go.WideShapes Go.RowKit Go.Deep
theorem wf_f64 {b : Nat} (h : (Lit.float .f64 b).wf = true) : b < 18446744073709551616 := by simpa [Lit.wf] using h
section
variable {H : Type} {enc : TypeId × Value → H} {P : Program} {w : World} {base : Nat} {spare : Nat → Bool} {held : Bool} {t : TypeId} {cs : List Value} {x : DataW H × List MemPlace} {fuel : Nat}
theorem trod_float {k : FloatKind} (ht : P.underlying t = some (.float k)) (h : DataW.trod enc P w base spare held fuel t cs = some x) : ∃ n, cs = [.float k n] ∧ x = (.lit (.float k n), []) ∧ (Lit.float k n).wf = true := by
  cases fuel with
  | zero => simp [DataW.trod] at h
  | succ n =>
    unfold DataW.trod at h
    rw [ht] at h
    split at h <;> simp_all
end
theorem open_gauge {H : Type} {enc : TypeId × Value → H} {w : World} {base : Nat} {spare : Nat → Bool} {held : Bool} {r : Reach} {b0 : Nat} {v : Value} {d : DataW H} {p : List MemPlace}
    (hv : Value.okWide Try.prog w r b0 31 v) (h : DataW.Trod enc Try.prog w base spare held 31 v d p) :
    ∃ (m l hh : Nat) (n : Int), v = .agg #[.float .f64 m, .float .f64 l, .float .f64 hh, .int .u64 n] ∧ m < 18446744073709551616 ∧ l < 18446744073709551616 ∧ hh < 18446744073709551616 ∧ 0 ≤ n ∧ n < 18446744073709551616 := by
  obtain ⟨cs, rfl, hsz⟩ := okWide_struct Try.underlying31 hv
  obtain ⟨l⟩ := cs
  match l, hsz.trans (show Try.prog.cellsOf 31 = 4 by kernel_rfl) with
  | [c0, c1, c2, c3], _ =>
    obtain ⟨fuel, hf⟩ := h
    obtain ⟨xs, n, _, _, _, hlen, hg⟩ := DataW.trod_struct Try.underlying31 hf
    match xs, hlen with
    | [y0, y1, y2, y3], _ =>
      have g0 : DataW.trod enc Try.prog w base spare held n 22 [c0] = some y0 := by simpa [Value.cells, show Try.prog.cellsOf 22 = 1 by kernel_rfl] using hg 0 _ rfl
      have g1 : DataW.trod enc Try.prog w base spare held n 22 [c1] = some y1 := by simpa [Value.cells, show Try.prog.cellsOf 22 = 1 by kernel_rfl] using hg 1 _ rfl
      have g2 : DataW.trod enc Try.prog w base spare held n 22 [c2] = some y2 := by simpa [Value.cells, show Try.prog.cellsOf 22 = 1 by kernel_rfl] using hg 2 _ rfl
      have g3 : DataW.trod enc Try.prog w base spare held n 24 [c3] = some y3 := by simpa [Value.cells, show Try.prog.cellsOf 22 = 1 by kernel_rfl, show Try.prog.cellsOf 24 = 1 by kernel_rfl] using hg 3 _ rfl
      obtain ⟨a0, e0, _, w0⟩ := trod_float Try.underlying22 g0
      obtain ⟨a1, e1, _, w1⟩ := trod_float Try.underlying22 g1
      obtain ⟨a2, e2, _, w2⟩ := trod_float Try.underlying22 g2
      obtain ⟨a3, e3, _, w3⟩ := DataW.trod_int Try.underlying24 g3
      simp only [List.cons.injEq, and_true] at e0 e1 e2 e3
      subst e0 e1 e2 e3
      exact ⟨a0, a1, a2, a3, rfl, wf_f64 w0, wf_f64 w1, wf_f64 w2, (wf_u64 w3).1, (wf_u64 w3).2⟩
theorem open_floats {H : Type} {enc : TypeId × Value → H} {W : World} {r : Reach} {b0 : Nat} {v : Value} {d : DataW H} {ps : List MemPlace}
    (hval : Value.okWide Try.prog W r b0 42 v) (h : DataW.Trod enc Try.prog W 0 (fun _ => true) true 42 v d ps) :
    ∃ (A : Option Addr) (n c : Nat) (S : Nat → Nat), v = .slice A n c ∧ (n ≤ c ∧ c ≤ maxLen) ∧ RowF W A n S := by
  obtain ⟨A, n, c, V, D, rfl, hn, hcm, hS⟩ := open_cells Try.underlying42 (by kernel_rfl) hval h
  refine ⟨A, n, c, fun k => match V k with | .float _ s => s | _ => 0, rfl, ⟨hn, hcm⟩, fun k hk => ?_⟩
  obtain ⟨g, o, mm, hA, hg, hcell, ht⟩ := hS k hk
  obtain ⟨s, hs, _, hw⟩ := trod_float Try.underlying22 ht
  have hs' : V k = .float .f64 s := by simpa using hs
  exact ⟨g, o, hA, hg, by rw [hcell]; simp [hs'], by simpa [hs'] using wf_f64 hw⟩
end Go.Proofs.Ytbpgbjhjnemaoaa
