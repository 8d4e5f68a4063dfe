/- From a walk to a row that lists a variable: scalar.order reads as the text lays it. -/
import Derived.Test.YtbgpgbfiadhddaaDoorLaw
import Derived.Test.YtbgpgbfiadhddaaDoorPtSc
import Derived.LaidMore
import Derived.Lib.LaidTab
import Derived.Stop.Joined
namespace Go.Proofs.YtbgpgbfiadhddaaDoor
open Go.ChangeShapes Go.WideShapes Go.ChangeAt Go.RowKit
def laidOrd : List (String × DataW Unit) := [("syngraph/scalar.order", Rows.laid_syngraph_scalar_order)]
theorem gOrd : Tryd.prog.globalNamed "syngraph/scalar.order" = some 0 := by kernel_rfl
theorem gOrdT : (Tryd.prog.globals[0]?).map (·.type) = some 39 := by kernel_rfl
theorem ord_of_laid {W : World} (h : laidMetH Tryd.prog laidOrd W) : Ord W := by
  rw [MakeChecks.laidMetH_plain _ _ _ (by kernel_rfl)] at h
  have hT : Lib.TabIs Tryd.prog W "syngraph/scalar.order" .u64 [6346243789798364141, 1503914060200516822, 0, 1152921504606846976] :=
    Lib.tabIs_of_head (rest := []) gOrd gOrdT Tryd.underlying39 Tryd.underlying37 (by kernel_rfl) (by kernel_rfl) h
  have hc := fun i hi => hT.cell gOrd i hi
  refine ⟨World.block_lt_of_cell? _ _ (hc 0 (by simp)), fun j hj => ?_⟩
  have := hc j (by simpa using hj)
  rw [this]
  have : j = 0 ∨ j = 1 ∨ j = 2 ∨ j = 3 := by omega
  rcases this with rfl | rfl | rfl | rfl <;> rfl
theorem door_met (os : Os) (args : Array Value) : laidMetH Tryd.prog laidOrd ((World.doorLaid Tryd.prog 14 os).forCall (fun _ _ => 0) ⟨#[], args, []⟩).memory :=
  laidMetH_of_parts3 (fuel := 8) (laidMet_of_run' 8 (by kernel_rfl) (by kernel_rfl)) (by kernel_rfl) (by kernel_rfl)
theorem law_returns_laid {H : Type} {enc : TypeId × Value → H} {os : Os} {f : FuncId} {fn : Func} {s : ChangeSpec} {tb : TypeId}
    (own : ownKnob Tryd.checked.prog.godebug = none) (started : os.Started) (noInit : Tryd.checked.prog.inits.idxOf? f = none) (hfn : Tryd.checked.prog.funcs[f]? = some fn)
    (witness : ∃ (w : World) (tape : Tape) (i : Input), w.os = os ∧ (w.forCall tape i).Shaped Tryd.checked.prog ∧ i.vars = [] ∧ Input.okWide Tryd.checked.prog (w.forCall tape i) .any w.heap.size f i ∧
      ((s.pre enc Tryd.checked.prog fn [] false (w.forCall tape i).memory i.args ∧ laidMetH Tryd.prog laidOrd (w.forCall tape i).memory) ∧ sizedMet enc Tryd.checked.prog fn (OpenSpec.ofChange s) false (w.forCall tape i).memory i.args) ∧ ({} : Assume).holds Tryd.checked.prog (lone (Frame.enter Tryd.checked.prog f i.args .normal) [] (w.forCall tape i)))
    (hl : laidOutB Tryd.checked.prog = true) (hr : ∀ t, t ∈ fn.params.toList → Tryd.checked.prog.readableRec t = true ∧ t < Tryd.checked.prog.types.size) (htb : Tryd.checked.prog.underlying tb = some .bool) (hres : fn.resultTypes = #[tb])
    (hsv : s.vars = []) (hf : ∀ ds : List (DataW H), ds.length = fn.params.size → (s.fn H (ds ++ [])) = { results := [.lit (.bool true)], args := ds })
    (walk : ∀ (W : World) (base : Nat) (args : Array Value) (ds : List (DataW H)) (ps : List MemPlace), Ord W →
      (∀ (j : Nat) t v, fn.params[j]? = some t → args[j]? = some v → Value.okWide Tryd.checked.prog W .any base t v) →
      DataW.TrodAll enc Tryd.checked.prog W 0 (fun _ => true) true fn.params.toList args.toList ds ps → (∀ x ∈ ps, x.block < W.heap.size) →
      Calls Tryd.checked.prog f args W fun e W' => e = .returned (.bool true) ∧ Touch [] W W') :
    ReturnsInHanded {} Tryd.checked os f .any (fun w args => (s.pre enc Tryd.checked.prog fn [] false w args ∧ laidMetH Tryd.prog laidOrd w) ∧ sizedMet enc Tryd.checked.prog fn (OpenSpec.ofChange s) false w args) (s.post enc Tryd.checked.prog fn false true false false) := by
  refine returnsInHanded_of_change_and (C := Tryd.checked) (X := fun w _ => laidMetH Tryd.prog laidOrd w) (fun _ _ _ hh h => h.of_heap hh) own started noInit hfn witness ?_
  intro W base args ds gs before hval hW _ _ hL _
  have hlt := hW.lt
  obtain ⟨p, q, hA, hV, rfl, hfz, _⟩ := hW
  rw [hsv] at hV
  obtain ⟨rfl, rfl⟩ := trodVars_none hV
  rw [List.append_nil] at hlt hfz
  refine (walk W base args ds p (ord_of_laid hL) hval hA hlt).mono fun e W' ⟨he, ht⟩ => ?_
  subst he
  refine ⟨_, rfl, law_post hl hr htb hres hsv (hf ds ?_) hA hlt hfz (ht.below (Nat.le_refl _) (by simp))⟩
  have := trodAll_length _ _ _ _ hA
  simpa using this
end Go.Proofs.YtbgpgbfiadhddaaDoor
