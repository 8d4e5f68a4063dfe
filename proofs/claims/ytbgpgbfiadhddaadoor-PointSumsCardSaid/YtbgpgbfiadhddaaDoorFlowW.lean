/- The laws of XFlow and XSeqFlow once more, where what is known of a slot may speak of memory: facts that stay true as new blocks are made. -/
import Derived.Test.YtbgpgbfiadhddaaDoorSeqFlow
import Derived.Test.YtbgpgbfiadhddaaDoorMem
namespace Go.Proofs.YtbgpgbfiadhddaaDoor
open Go

/-- What is known of a value in a world, and stays so while only new blocks come. -/
structure SP where
  p : Value → World → Prop
  st : ∀ v w w', p v w → Touch [] w w' → p v w'
def pu (q : Value → Prop) : SP := ⟨fun v _ => q v, fun _ _ _ h _ => h⟩
def topSP : SP := ⟨fun _ _ => True, fun _ _ _ _ _ => trivial⟩
def lookW : List (Nat × SP) → Tmp → SP
  | [], _ => topSP
  | p :: r, t => match Nat.beq p.1 t with
    | true => p.2
    | false => lookW r t

section
variable {P : Program} {ops : Array Oper} {Q : Exit → Act → World → Prop}
def dOfW (o : Oper) (T : Tmp → SP) (v : Value) (w : World) : Prop := ∀ d, o.dst = some d → (T d).p v w
theorem dOfW.of {o : Oper} {T : Tmp → SP} {v : Value} {w : World} (d : Tmp) (hd : o.dst = some d) (h : (T d).p v w) : dOfW o T v w := fun d' hd' => by
  rw [hd] at hd'
  cases hd'
  exact h
theorem dOfW.none {o : Oper} {T : Tmp → SP} {v : Value} {w : World} (hd : o.dst = none) : dOfW o T v w := fun d' hd' => by
  rw [hd] at hd'
  cases hd'
abbrev knownW (ops : Array Oper) (T : Tmp → SP) (o : Oper) (a : Act) (w : World) : Prop := ∀ t, (o.looksAt ops).contains t = true → (T t).p (a.tmps.getD t undef) w

def FStepW (P : Program) (ops : Array Oper) (w0 : World) (T : Tmp → SP) (o : Oper) : Prop :=
  ∀ a w, Touch [] w0 w → knownW ops T o a w →
    (Region.wanted o (yielded ops a.tmps) = true → OpTo P o a w (fun v w' => dOfW o T v w' ∧ Touch [] w w')) ∧
    (Region.wanted o (yielded ops a.tmps) = false → dOfW o T undef w)

def FStepsW (P : Program) (ops : Array Oper) (w0 : World) (T : Tmp → SP) : List Oper → Prop
  | [] => True
  | o :: r => FStepW P ops w0 T o ∧ FStepsW P ops w0 T r
theorem FStepsW.at {w0 : World} {T : Tmp → SP} (l : List Oper) (h : FStepsW P ops w0 T l) (o : Oper) (ho : o ∈ l) : FStepW P ops w0 T o := by
  induction l with
  | nil => cases ho
  | cons x r ih =>
    rcases List.mem_cons.1 ho with rfl | hm
    · exact h.1
    · exact ih h.2 hm

structure FInvW (ops : Array Oper) (w0 : World) (T : Tmp → SP) (a0 : Act) (listed : Array Bool) (a : Act) (w : World) : Prop where
  s : Touch [] w0 w
  ls : listed.size = ops.size
  size : a.tmps.size = a0.tmps.size
  defers : a.defers = a0.defers
  old : ∀ t, t ∉ dsts ops → a.tmps.getD t undef = a0.tmps.getD t undef
  got : ∀ (i : Nat) (o : Oper) (d : Tmp), ops[i]? = some o → listed.getD i false = true → o.dst = some d → (T d).p (a.tmps.getD d undef) w

theorem FInvW.put {w0 : World} {T : Tmp → SP} {a0 a : Act} {listed : Array Bool} {w w' : World} (hf : FlowOk ops a0.tmps.size) (h : FInvW ops w0 T a0 listed a w) {i : Nat} {o : Oper} (ho : ops[i]? = some o)
    {v : Value} (hv : dOfW o T v w') (hS : Touch [] w w') : FInvW ops w0 T a0 (listed.setIfInBounds i true) (a.put o.dst v) w' := by
  cases hd : o.dst with
  | none =>
    refine ⟨h.s.trans hS, by rw [Array.size_setIfInBounds]; exact h.ls, h.size, h.defers, h.old, fun j oj d hj hl hdj => ?_⟩
    by_cases hij : i = j
    · subst hij
      rw [ho] at hj; cases hj
      rw [hd] at hdj; cases hdj
    · exact (T d).st _ _ _ (h.got j oj d hj (by rwa [getD_set_ne false hij] at hl) hdj) hS
  | some d =>
    refine ⟨h.s.trans hS, by rw [Array.size_setIfInBounds]; exact h.ls, (by show (a.tmps.setIfInBounds d v).size = _; rw [Array.size_setIfInBounds]; exact h.size), h.defers, fun t ht => ?_, fun j oj d' hj hl hdj => ?_⟩
    · show (a.tmps.setIfInBounds d v).getD t undef = _
      rw [getD_put_ne _ (fun e : d = t => ht (by rw [← e]; exact mem_dsts ho hd))]
      exact h.old t ht
    · show (T d').p ((a.tmps.setIfInBounds d v).getD d' undef) w'
      by_cases hij : i = j
      · subst hij
        rw [ho] at hj; cases hj
        rw [hd] at hdj; cases hdj
        rw [getD_put_same _ (by rw [h.size]; exact hf.lt i o d ho hd)]
        exact hv d hd
      · rw [getD_put_ne _ (fun e : d = d' => hij (hf.one j i oj o d' hj ho hdj (by rw [← e]; exact hd)))]
        exact (T d').st _ _ _ (h.got j oj d' hj (by rwa [getD_set_ne false hij] at hl) hdj) hS

theorem wpAny_flowW {w0 : World} {T : Tmp → SP} {a0 : Act} (hf : FlowOk ops a0.tmps.size) (hst : ∀ o, o ∈ ops.toList → FStepW P ops w0 T o)
    (hout : ∀ t, t ∈ outer ops → (T t).p (a0.tmps.getD t undef) w0)
    (hQ : ∀ a w, FInvW ops w0 T a0 (Array.replicate ops.size true) a w → Q .normal a w) :
    ∀ (fuel : Nat) (listed : Array Bool) (a : Act) (w : World), listed.toList.count false ≤ fuel → FInvW ops w0 T a0 listed a w → wpAny P .any ops Q fuel listed a w := by
  have fin : ∀ (listed : Array Bool) (a : Act) (w : World), Region.ready .any ops listed = [] → FInvW ops w0 T a0 listed a w → Q .normal a w := fun listed a w hr h =>
    hQ a w ⟨h.s, by simp, h.size, h.defers, h.old, fun i o d ho _ hd => h.got i o d ho (unlisted_ready hf h.ls hr i (Array.getElem?_eq_some_iff.1 ho).1) hd⟩
  intro fuel
  induction fuel with
  | zero =>
    intro listed a w hc h
    have hr : Region.ready .any ops listed = [] := by
      refine List.eq_nil_iff_forall_not_mem.2 fun i hi => ?_
      obtain ⟨hu, o, ho, _⟩ := mem_ready.1 hi
      have hil : i < listed.size := by rw [h.ls]; exact (Array.getElem?_eq_some_iff.1 ho).1
      have hmem : false ∈ listed.toList := by
        simp only [Array.getD_eq_getD_getElem?, Array.getElem?_eq_getElem hil, Option.getD_some] at hu
        rw [← hu]
        exact Array.mem_toList_iff.2 (Array.getElem_mem hil)
      have := List.count_pos_iff.2 hmem
      omega
    exact ⟨hr, fin listed a w hr h⟩
  | succ fuel ih =>
    intro listed a w hc h
    refine ⟨fun hr => fin listed a w hr h, fun i hi => ?_⟩
    obtain ⟨hu, o, ho, hall⟩ := mem_ready.1 hi
    have hil : i < listed.size := by rw [h.ls]; exact (Array.getElem?_eq_some_iff.1 ho).1
    have hc' : (listed.setIfInBounds i true).toList.count false ≤ fuel := by
      have hu' : listed.toList[i]? = some false := by
        simp only [Array.getD_eq_getD_getElem?, Array.getElem?_eq_getElem hil, Option.getD_some] at hu
        simp [hil, hu]
      have := count_set listed.toList i hu'
      rw [Array.toList_setIfInBounds]
      omega
    have hlook : ∀ t, (o.looksAt ops).contains t = true → (T t).p (a.tmps.getD t undef) w := fun t ht => by
      by_cases hd : t ∈ dsts ops
      · obtain ⟨j, oj, hj, hdj⟩ := dsts_mem hd
        obtain ⟨e, he, hb, hon⟩ := hf.dep i j o oj t ho hj ht hdj
        exact h.got j oj t hj (hon ▸ hall e he hb) hdj
      · rw [h.old t hd]
        refine (T t).st _ _ _ (hout t ?_) h.s
        have hm : o ∈ ops.toList := by simpa using Array.mem_of_getElem? ho
        exact List.mem_filter.2 ⟨List.mem_flatMap.2 ⟨o, hm, by simpa using ht⟩, by simpa using hd⟩
    obtain ⟨h1, h2⟩ := hst o (by simpa using Array.mem_of_getElem? ho) a w h.s hlook
    unfold wpOp
    rw [ho]
    show if Region.wanted o (yielded ops a.tmps) = true then _ else _
    split
    · rename_i hw
      exact .inl (h1 hw _ _ fun v w' hv => ih _ _ _ hc' (h.put hf ho hv.1 hv.2))
    · rename_i hw
      exact ih _ _ _ hc' (h.put hf ho (h2 (by simpa using hw)) (Touch.refl _ _))

/-- **THE LAW**: the region from what is known of its slots: 'T' says it of each, 'S' of the world; 'keep' are the slots that the walk goes on with. -/
theorem wp_region_flowW {id : Nat} {a : Act} {w : World} (hm : P.follows .mixedOrders = true) (T : Tmp → SP) (outs ds keep : List Tmp)
    (hok : flowOk ops a.tmps.size = true) (houts : ((outer ops).all fun t => outs.contains t) = true) (hds : dsts ops = ds) (hkeep : (keep.all fun t => ds.contains t) = true)
    (hout : FAll (fun t => (T t).p (a.tmps.getD t undef) w) outs) (hst : FStepsW P ops w T ops.toList)
    (hQ : ∀ (f : Tmp → Value) w', Touch [] w w' → FAll (fun t => (T t).p (f t) w') keep → Q .normal { tmps := setAll f ds a.tmps, defers := a.defers } w') : (Code.region id ops true).wp P Q a w := by
  subst hds
  have hf := FlowOk.of hok
  refine wp_region_any hm (wpAny_flowW hf (fun o ho => hst.at _ o ho) (fun t ht => hout.at _ t (by simpa using (List.all_eq_true.1 houts) t ht)) (fun a' w' h => ?_) ops.size _ a w.drew (by simp) ⟨(Touch.refl _ _).drew, by simp, rfl, rfl, fun _ _ => rfl, fun i o d ho hl _ => ?_⟩)
  · have he : a' = { tmps := setAll (fun t => a'.tmps.getD t undef) (dsts ops) a.tmps, defers := a.defers } := by
      obtain ⟨tm, df⟩ := a'
      have h1 : df = a.defers := h.defers
      have h2 : tm.size = a.tmps.size := h.size
      have h3 : tm = setAll (fun t => tm.getD t undef) (dsts ops) a.tmps := by
        refine Array.ext_getElem? fun t => ?_
        by_cases ht : t < a.tmps.size
        · have ht' : t < tm.size := by omega
          by_cases hd : t ∈ dsts ops
          · rw [setAll_in _ _ _ t hd ht]
            simp [ht']
          · rw [setAll_out _ _ _ t hd]
            have := h.old t hd
            simp only [Array.getD_eq_getD_getElem?, Array.getElem?_eq_getElem ht', Array.getElem?_eq_getElem ht, Option.getD_some] at this
            rw [Array.getElem?_eq_getElem ht', Array.getElem?_eq_getElem ht, this]
        · rw [Array.getElem?_eq_none (by omega), Array.getElem?_eq_none (by rw [setAll_size]; omega)]
      rw [h1]
      exact congrArg (fun x => ({ tmps := x, defers := a.defers } : Act)) h3
    rw [he]
    refine hQ _ w' h.s (FAll.of _ fun t ht => ?_)
    have hmem : t ∈ dsts ops := by simpa using (List.all_eq_true.1 hkeep) t ht
    obtain ⟨i, o, ho, hd⟩ := dsts_mem hmem
    have hi : i < ops.size := (Array.getElem?_eq_some_iff.1 ho).1
    exact h.got i o t ho (by simp [hi]) hd
  · have hi : i < ops.size := (Array.getElem?_eq_some_iff.1 ho).1
    simp [hi] at hl

theorem wpList_seqW {w0 : World} {T : Tmp → SP} {n : Nat} : ∀ (rest : List Oper) (known : List Tmp) (a : Act) (w : World), a.tmps.size = n → seqOk ops n known rest = true →
    (∀ t, t ∈ known → (T t).p (a.tmps.getD t undef) w) → FStepsW P ops w0 T rest → Touch [] w0 w →
    (∀ a' w', Touch [] w w' → a'.tmps.size = a.tmps.size → a'.defers = a.defers → (∀ t, t ∉ dstsL rest → a'.tmps.getD t undef = a.tmps.getD t undef) → (∀ t, t ∈ dstsL rest → (T t).p (a'.tmps.getD t undef) w') → Q .normal a' w') →
    wpList P ops Q rest a w := by
  intro rest
  induction rest with
  | nil => intro known a w _ _ _ _ hS hQ; exact hQ a w (Touch.refl _ _) rfl rfl (fun _ _ => rfl) (fun _ h => by cases h)
  | cons o r ih =>
    intro known a w hn hok hk hst hS hQ
    have hlook : ∀ t, (o.looksAt ops).contains t = true → (T t).p (a.tmps.getD t undef) w := fun t ht => by
      have h1 : (o.looksAt ops).all (fun t => known.contains t) = true := by
        unfold seqOk at hok
        exact (Bool.and_eq_true_iff.1 hok).1
      exact hk t (by simpa using (List.all_eq_true.1 h1) t (by simpa using ht))
    obtain ⟨h1, h2⟩ := hst.1 a w hS hlook
    have step : ∀ v w', dOfW o T v w' → Touch [] w w' → wpList P ops Q r (a.put o.dst v) w' := by
      intro v w' hv hS'
      cases hd : o.dst with
      | none =>
        have hok' : seqOk ops n known r = true := by
          unfold seqOk at hok
          simp only [hd] at hok
          exact (Bool.and_eq_true_iff.1 hok).2
        refine ih known a w' hn hok' (fun t ht => (T t).st _ _ _ (hk t ht) hS') hst.2 (hS.trans hS') fun a' w'' hS'' hs hdf hout hin => ?_
        have e : dstsL (o :: r) = dstsL r := by unfold dstsL; rw [List.filterMap_cons_none hd]
        exact hQ a' w'' (hS'.trans hS'') hs hdf (by rw [e]; exact hout) (by rw [e]; exact hin)
      | some d =>
        have hok' : d < n ∧ ¬ d ∈ known ∧ seqOk ops n (d :: known) r = true := by
          unfold seqOk at hok
          simp only [hd, Bool.and_eq_true, decide_eq_true_eq, Bool.not_eq_true'] at hok
          exact ⟨hok.2.1.1, by simpa using hok.2.1.2, hok.2.2⟩
        have e : dstsL (o :: r) = d :: dstsL r := by unfold dstsL; rw [List.filterMap_cons_some hd]
        have hget : (a.tmps.setIfInBounds d v).getD d undef = v := getD_put_same _ (by rw [hn]; exact hok'.1) v
        refine ih (d :: known) (a.put (some d) v) w' (by show (a.tmps.setIfInBounds d v).size = n; rw [Array.size_setIfInBounds]; exact hn) hok'.2.2 (fun t ht => ?_) hst.2 (hS.trans hS') fun a' w'' hS'' hs hdf hout hin => ?_
        · show (T t).p ((a.tmps.setIfInBounds d v).getD t undef) w'
          by_cases htd : t = d
          · subst htd; rw [hget]; exact hv t hd
          · rw [getD_put_ne _ (Ne.symm htd)]
            rcases List.mem_cons.1 ht with h | h
            · exact absurd h htd
            · exact (T t).st _ _ _ (hk t h) hS'
        · refine hQ a' w'' (hS'.trans hS'') (hs.trans (by show (a.tmps.setIfInBounds d v).size = _; rw [Array.size_setIfInBounds])) hdf (fun t ht => ?_) (fun t ht => ?_)
          · rw [e] at ht
            rw [hout t (fun h => ht (List.mem_cons_of_mem _ h))]
            show (a.tmps.setIfInBounds d v).getD t undef = _
            exact getD_put_ne _ (fun h : d = t => ht (by rw [h]; exact List.mem_cons_self ..)) v
          · rw [e] at ht
            by_cases hr : t ∈ dstsL r
            · exact hin t hr
            · rcases List.mem_cons.1 ht with h | h
              · subst h
                rw [hout t hr]
                show (T t).p ((a.tmps.setIfInBounds t v).getD t undef) w''
                rw [hget]; exact (T t).st _ _ _ (hv t hd) hS''
              · exact absurd h hr
    unfold wpList
    split
    · rename_i hw
      exact .inl (h1 hw _ _ fun v w' hv => step v w' hv.1 hv.2)
    · rename_i hw
      exact step undef w (h2 (by simpa using hw)) (Touch.refl _ _)

/-- **THE LAW**: operations in their own order, from what is known of their slots. -/
theorem wpList_flowW {rest : List Oper} {a : Act} {w : World} (T : Tmp → SP) (outs ds keep : List Tmp)
    (hok : seqOk ops a.tmps.size outs rest = true) (hds : dstsL rest = ds) (hkeep : (keep.all fun t => ds.contains t) = true)
    (hout : FAll (fun t => (T t).p (a.tmps.getD t undef) w) outs) (hst : FStepsW P ops w T rest)
    (hQ : ∀ (f : Tmp → Value) w', Touch [] w w' → FAll (fun t => (T t).p (f t) w') keep → Q .normal { tmps := setAll f ds a.tmps, defers := a.defers } w') : wpList P ops Q rest a w := by
  subst hds
  refine wpList_seqW rest outs a w rfl hok (fun t ht => hout.at _ t ht) hst (Touch.refl _ _) fun a' w' hS' hs hdf ho hi => ?_
  have he : a' = { tmps := setAll (fun t => a'.tmps.getD t undef) (dstsL rest) a.tmps, defers := a.defers } := by
    obtain ⟨tm, df⟩ := a'
    have h1 : df = a.defers := hdf
    have h2 : tm.size = a.tmps.size := hs
    have h3 : tm = setAll (fun t => tm.getD t undef) (dstsL rest) a.tmps := by
      refine Array.ext_getElem? fun t => ?_
      by_cases ht : t < a.tmps.size
      · have ht' : t < tm.size := by omega
        by_cases hd : t ∈ dstsL rest
        · rw [setAll_in _ _ _ t hd ht]
          simp [ht']
        · rw [setAll_out _ _ _ t hd]
          have := ho t hd
          simp only [Array.getD_eq_getD_getElem?, Array.getElem?_eq_getElem ht', Array.getElem?_eq_getElem ht, Option.getD_some] at this
          rw [Array.getElem?_eq_getElem ht', Array.getElem?_eq_getElem ht, this]
      · rw [Array.getElem?_eq_none (by omega), Array.getElem?_eq_none (by rw [setAll_size]; omega)]
    rw [h1]
    exact congrArg (fun x => ({ tmps := x, defers := a.defers } : Act)) h3
  rw [he]
  refine hQ _ w' hS' (FAll.of _ fun t ht => ?_)
  exact hi t (by simpa using (List.all_eq_true.1 hkeep) t ht)

theorem FStepsW.cons {w0 : World} {T : Tmp → SP} {o : Oper} {r : List Oper} (h1 : FStepW P ops w0 T o) (h2 : FStepsW P ops w0 T r) : FStepsW P ops w0 T (o :: r) := ⟨h1, h2⟩
theorem FStepsW.nil {w0 : World} {T : Tmp → SP} : FStepsW P ops w0 T [] := trivial
theorem FStepW.plain {w0 : World} {T : Tmp → SP} {o : Oper} (hg : o.guard = none)
    (h : ∀ a w, Touch [] w0 w → knownW ops T o a w → OpTo P o a w (fun v w' => dOfW o T v w' ∧ Touch [] w w')) : FStepW P ops w0 T o := fun a w hS hE =>
  ⟨fun _ => h a w hS hE, fun hw => by simp [Region.wanted, hg] at hw⟩
theorem FStepW.go {w0 : World} {T : Tmp → SP} {o : Oper} {g : Nat} {b : Bool} (d : Tmp) (hg : o.guard = some (g, b)) (hd : (ops[g]?).bind (·.dst) = some d) (hT : ∀ v w, (T d).p v w → v = .bool b)
    (h : ∀ a w, Touch [] w0 w → knownW ops T o a w → OpTo P o a w (fun v w' => dOfW o T v w' ∧ Touch [] w w')) : FStepW P ops w0 T o := fun a w hS hE =>
  ⟨fun _ => h a w hS hE, fun hw => by rw [wanted_of hg hd (hT _ _ (hE d (looks_guard hg hd)))] at hw; simp at hw⟩
theorem FStepW.no {w0 : World} {T : Tmp → SP} {o : Oper} {g : Nat} {b : Bool} (d : Tmp) (hg : o.guard = some (g, b)) (hd : (ops[g]?).bind (·.dst) = some d) (hT : ∀ v w, (T d).p v w → v = .bool (!b))
    (hu : ∀ w, dOfW o T undef w) : FStepW P ops w0 T o := fun a w hS hE =>
  ⟨fun hw => by rw [wanted_of hg hd (hT _ _ (hE d (looks_guard hg hd)))] at hw; cases b <;> simp at hw, fun _ => hu w⟩
theorem FStepW.noU {w0 : World} {T : Tmp → SP} {o : Oper} {g : Nat} {b : Bool} (d : Tmp) (hg : o.guard = some (g, b)) (hd : (ops[g]?).bind (·.dst) = some d) (hT : ∀ v w, (T d).p v w → v = undef)
    (hu : ∀ w, dOfW o T undef w) : FStepW P ops w0 T o := fun a w hS hE =>
  ⟨fun hw => by
    have h : a.tmps.getD d undef = undef := hT _ _ (hE d (looks_guard hg hd))
    unfold Region.wanted at hw
    rw [hg] at hw
    simp [yielded_undef hd h] at hw, fun _ => hu w⟩
/-- An operation that leaves the world alone. -/
theorem OpTo.here {o : Oper} {a : Act} {w : World} {T : Tmp → SP} {v : Value} (h : (execOp a.eval o).run P w = .ok (.value v) w) (hv : dOfW o T v w) : OpTo P o a w (fun v w' => dOfW o T v w' ∧ Touch [] w w') :=
  OpTo.val h ⟨hv, Touch.refl _ _⟩
end
end Go.Proofs.YtbgpgbfiadhddaaDoor
