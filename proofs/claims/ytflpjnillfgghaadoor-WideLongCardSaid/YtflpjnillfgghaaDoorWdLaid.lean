/- From a walk to a row that lists variables: wide.begin and wide.key read as the text lays them. -/
import Derived.Test.YtflpjnillfgghaaDoorLaw
import Derived.Test.YtflpjnillfgghaaDoorWdEat
import Derived.LaidMore
import Derived.Lib.LaidTab
import Derived.Stop.Joined
namespace Go.Proofs.YtflpjnillfgghaaDoor
open Go.ChangeShapes Go.WideShapes Go.ChangeAt Go.RowKit
def laidOrd : List (String × DataW Unit) := [("syngraph/wide.begin", Rows.laid_syngraph_wide_begin), ("syngraph/wide.key", Rows.laid_syngraph_wide_key)]
theorem gBeg : Tryd.prog.globalNamed "syngraph/wide.begin" = some 0 := by kernel_rfl
theorem gBegT : (Tryd.prog.globals[0]?).map (·.type) = some 37 := by kernel_rfl
theorem gKey : Tryd.prog.globalNamed "syngraph/wide.key" = some 1 := by kernel_rfl
theorem gKeyT : (Tryd.prog.globals[1]?).map (·.type) = some 58 := by kernel_rfl
theorem laid_tail {P : Program} {W : World} {x : String × DataW Unit} {rest : List (String × DataW Unit)} (h : laidMet P (x :: rest) W) : laidMet P rest W := by
  obtain ⟨ps, ⟨g, t, cs, fuel, p, q, hg, ht, hvar, hd, h1, h2⟩, hn, hc⟩ := h
  subst h2
  exact ⟨q, h1, (List.nodup_append.1 hn).2.1, fun b off hm => hc b off (List.mem_append_right _ hm)⟩
def begI : List Int := [7640891576956012808, 13503953896175478587, 4354685564936845355, 11912009170470909681, 5840696475078001361, 11170449401992604703, 2270897969802886507, 6620516959819538809]
def keyI : List Int := [4794697086780616226, 8158064640168781261, 13096744586834688815, 16840607885511220156, 4131703408338449720, 6480981068601479193, 10538285296894168987, 12329834152419229976, 15566598209576043074, 1334009975649890238, 2608012711638119052, 6128411473006802146, 8268148722764581231, 9286055187155687089, 11230858885718282805, 13951009754708518548, 16472876342353939154, 17275323862435702243, 1135362057144423861, 2597628984639134821, 3308224258029322869, 5365058923640841347, 6679025012923562964, 8573033837759648693, 10970295158949994411, 12119686244451234320, 12683024718118986047, 13788192230050041572, 14330467153632333762, 15395433587784984357, 489312712824947311, 1452737877330783856, 2861767655752347644, 3322285676063803686, 5560940570517711597, 5996557281743188959, 7280758554555802590, 8532644243296465576, 9350256976987008742, 10552545826968843579, 11727347734174303076, 12113106623233404929, 14000437183269869457, 14369950271660146224, 15101387698204529176, 15463397548674623760, 17586052441742319658, 1182934255886127544, 1847814050463011016, 2177327727835720531, 2830643537854262169, 3796741975233480872, 4115178125766777443, 5681478168544905931, 6601373596472566643, 7507060721942968483, 8399075790359081724, 8693463985226723168, 9568029438360202098, 10144078919501101548, 10430055236837252648, 11840083180663258601, 13761210420658862357, 14299343276471374635, 14566680578165727644, 15097957966210449927, 16922976911328602910, 17689382322260857208, 500013540394364858, 748580250866718886, 1242879168328830382, 1977374033974150939, 2944078676154940804, 3659926193048069267, 4368137639120453308, 4836135668995329356, 5532061633213252278, 6448918945643986474, 6902733635092675308, 7801388544844847127]
theorem begI_at : ∀ j : Fin 8, begI.getD j.val 0 = ((begS.getD j.val 0 : Nat) : Int) := by decide +kernel
theorem keyI_at : ∀ j : Fin 80, keyI.getD j.val 0 = ((keyS.getD j.val 0 : Nat) : Int) := by decide +kernel
set_option maxRecDepth 100000 in
theorem ord_of_laid {W : World} (h : laidMetH Tryd.prog laidOrd W) : WideV W := by
  rw [MakeChecks.laidMetH_plain _ _ _ (by kernel_rfl)] at h
  have hB : Lib.TabIs Tryd.prog W "syngraph/wide.begin" .u64 begI :=
    Lib.tabIs_of_head (rest := [("syngraph/wide.key", Rows.laid_syngraph_wide_key)]) gBeg gBegT Tryd.underlying37 Tryd.underlying36 (by kernel_rfl) (by kernel_rfl) h
  have hK : Lib.TabIs Tryd.prog W "syngraph/wide.key" .u64 keyI :=
    Lib.tabIs_of_head (rest := []) gKey gKeyT Tryd.underlying58 Tryd.underlying36 (by kernel_rfl) (by kernel_rfl) (laid_tail h)
  have hb := fun j (hj : j < 8) => (hB.cell gBeg j hj).trans (by rw [begI_at ⟨j, hj⟩])
  have hk := fun j (hj : j < 80) => (hK.cell gKey j hj).trans (by rw [keyI_at ⟨j, hj⟩])
  exact ⟨hb, hk, World.block_lt_of_cell? _ _ (hb 0 (by omega)), World.block_lt_of_cell? _ _ (hk 0 (by omega))⟩
theorem door_met (os : Os) (args : Array Value) : laidMetH Tryd.prog laidOrd ((World.doorLaid Tryd.prog 14 os).forCall (fun _ _ => 0) ⟨#[], args, []⟩).memory :=
  laidMetH_of_parts3 (fuel := 8) (laidMet_of_run' 8 (by kernel_rfl) (by kernel_rfl)) (by kernel_rfl) (by kernel_rfl)
theorem law_returns_laid {H : Type} {enc : TypeId × Value → H} {os : Os} {f : FuncId} {fn : Func} {s : ChangeSpec} {tb : TypeId}
    (own : ownKnob Tryd.checked.prog.godebug = none) (started : os.Started) (noInit : Tryd.checked.prog.inits.idxOf? f = none) (hfn : Tryd.checked.prog.funcs[f]? = some fn)
    (witness : ∃ (w : World) (tape : Tape) (i : Input), w.os = os ∧ (w.forCall tape i).Shaped Tryd.checked.prog ∧ i.vars = [] ∧ Input.okWide Tryd.checked.prog (w.forCall tape i) .any w.heap.size f i ∧
      ((s.pre enc Tryd.checked.prog fn [] false (w.forCall tape i).memory i.args ∧ laidMetH Tryd.prog laidOrd (w.forCall tape i).memory) ∧ sizedMet enc Tryd.checked.prog fn (OpenSpec.ofChange s) false (w.forCall tape i).memory i.args) ∧ ({} : Assume).holds Tryd.checked.prog (lone (Frame.enter Tryd.checked.prog f i.args .normal) [] (w.forCall tape i)))
    (hl : laidOutB Tryd.checked.prog = true) (hr : ∀ t, t ∈ fn.params.toList → Tryd.checked.prog.readableRec t = true ∧ t < Tryd.checked.prog.types.size) (htb : Tryd.checked.prog.underlying tb = some .bool) (hres : fn.resultTypes = #[tb])
    (hsv : s.vars = []) (hf : ∀ ds : List (DataW H), ds.length = fn.params.size → (s.fn H (ds ++ [])) = { results := [.lit (.bool true)], args := ds })
    (walk : ∀ (W : World) (base : Nat) (args : Array Value) (ds : List (DataW H)) (ps : List MemPlace), WideV W →
      (∀ (j : Nat) t v, fn.params[j]? = some t → args[j]? = some v → Value.okWide Tryd.checked.prog W .any base t v) →
      DataW.TrodAll enc Tryd.checked.prog W 0 (fun _ => true) true fn.params.toList args.toList ds ps → (∀ x ∈ ps, x.block < W.heap.size) →
      Calls Tryd.checked.prog f args W fun e W' => e = .returned (.bool true) ∧ Touch [] W W') :
    ReturnsInHanded {} Tryd.checked os f .any (fun w args => (s.pre enc Tryd.checked.prog fn [] false w args ∧ laidMetH Tryd.prog laidOrd w) ∧ sizedMet enc Tryd.checked.prog fn (OpenSpec.ofChange s) false w args) (s.post enc Tryd.checked.prog fn false true false false) := by
  refine returnsInHanded_of_change_and (C := Tryd.checked) (X := fun w _ => laidMetH Tryd.prog laidOrd w) (fun _ _ _ hh h => h.of_heap hh) own started noInit hfn witness ?_
  intro W base args ds gs before hval hW _ _ hL _
  have hlt := hW.lt
  obtain ⟨p, q, hA, hV, rfl, hfz, _⟩ := hW
  rw [hsv] at hV
  obtain ⟨rfl, rfl⟩ := trodVars_none hV
  rw [List.append_nil] at hlt hfz
  refine (walk W base args ds p (ord_of_laid hL) hval hA hlt).mono fun e W' ⟨he, ht⟩ => ?_
  subst he
  refine ⟨_, rfl, law_post hl hr htb hres hsv (hf ds ?_) hA hlt hfz (ht.below (Nat.le_refl _) (by simp))⟩
  have := trodAll_length _ _ _ _ hA
  simpa using this
end Go.Proofs.YtflpjnillfgghaaDoor
