/- A region that draws its order, by what is known of each slot: each operation is shown ONCE, in whatever state its own operands are as known. No branching over orders. -/
import Derived.Orders
import Derived.RegionTactic
import Derived.Deep.MidRow
namespace Go.Proofs.YtbgpgbfiadhddaaDoor
open Go

section
variable {P : Program} {ops : Array Oper} {Q : Exit → Act → World → Prop}

/-- An operation ends, with a value and a world of R. -/
def OpTo (P : Program) (o : Oper) (a : Act) (w : World) (R : Value → World → Prop) : Prop :=
  ∀ (K : Act → World → Prop) (Q : Exit → Act → World → Prop), (∀ v w', R v w' → K (a.put o.dst v) w') → Oper.wp P o a w K Q

def dOf (o : Oper) (T : Tmp → Value → Prop) (v : Value) : Prop := ∀ d, o.dst = some d → T d v

def FStep (P : Program) (ops : Array Oper) (S : World → Prop) (T : Tmp → Value → Prop) (o : Oper) : Prop :=
  ∀ a w, S w → (∀ t, (o.looksAt ops).contains t = true → T t (a.tmps.getD t undef)) →
    (Region.wanted o (yielded ops a.tmps) = true → OpTo P o a w (fun v w' => dOf o T v ∧ S w')) ∧
    (Region.wanted o (yielded ops a.tmps) = false → dOf o T undef)

def FSteps (P : Program) (ops : Array Oper) (S : World → Prop) (T : Tmp → Value → Prop) : List Oper → Prop
  | [] => True
  | o :: r => FStep P ops S T o ∧ FSteps P ops S T r

theorem FSteps.at {S : World → Prop} {T : Tmp → Value → Prop} (l : List Oper) (h : FSteps P ops S T l) (o : Oper) (ho : o ∈ l) : FStep P ops S T o := by
  induction l with
  | nil => cases ho
  | cons x r ih =>
    rcases List.mem_cons.1 ho with rfl | hm
    · exact h.1
    · exact ih h.2 hm

def FAll (p : Tmp → Prop) : List Tmp → Prop
  | [] => True
  | t :: r => p t ∧ FAll p r
theorem FAll.at {p : Tmp → Prop} (l : List Tmp) (h : FAll p l) (t : Tmp) (ht : t ∈ l) : p t := by
  induction l with
  | nil => cases ht
  | cons x r ih =>
    rcases List.mem_cons.1 ht with rfl | hm
    · exact h.1
    · exact ih h.2 hm
theorem FAll.of {p : Tmp → Prop} (l : List Tmp) (h : ∀ t, t ∈ l → p t) : FAll p l := by
  induction l with
  | nil => trivial
  | cons x r ih => exact ⟨h _ (List.mem_cons_self ..), ih fun t ht => h t (List.mem_cons_of_mem _ ht)⟩

def dsts (ops : Array Oper) : List Tmp := ops.toList.filterMap (·.dst)
def outer (ops : Array Oper) : List Tmp := (ops.toList.flatMap fun o => o.looksAt ops).filter fun t => !(dsts ops).contains t

/-- The region's form: what an operation looks at was made by one that it waits for; no slot is written twice; each waits for earlier ones alone. -/
def flowOk (ops : Array Oper) (n : Nat) : Bool :=
  (List.range ops.size).all fun i => match ops[i]? with
    | none => true
    | some o =>
      (match o.dst with
       | none => true
       | some d => decide (d < n) && (List.range ops.size).all fun j => j == i || (ops[j]?).bind (·.dst) != some d) &&
      ((o.looksAt ops).all fun t => (List.range ops.size).all fun j => (ops[j]?).bind (·.dst) != some t || o.after.any fun e => Region.binds .any e && e.on == j) &&
      o.after.all fun e => !Region.binds .any e || decide (e.on < i)

structure FlowOk (ops : Array Oper) (n : Nat) : Prop where
  lt : ∀ (i : Nat) (o : Oper) (d : Tmp), ops[i]? = some o → o.dst = some d → d < n
  one : ∀ (i j : Nat) (o o' : Oper) (d : Tmp), ops[i]? = some o → ops[j]? = some o' → o.dst = some d → o'.dst = some d → j = i
  dep : ∀ (i j : Nat) (o o' : Oper) (t : Tmp), ops[i]? = some o → ops[j]? = some o' → (o.looksAt ops).contains t = true → o'.dst = some t → ∃ e ∈ o.after, Region.binds .any e = true ∧ e.on = j
  back : ∀ (i : Nat) (o : Oper) (e : Edge), ops[i]? = some o → e ∈ o.after → Region.binds .any e = true → e.on < i

theorem FlowOk.of {n : Nat} (h : flowOk ops n = true) : FlowOk ops n := by
  have key : ∀ (i : Nat) (o : Oper), ops[i]? = some o → _ := fun i o ho => by
    have hi : i < ops.size := (Array.getElem?_eq_some_iff.1 ho).1
    have := (List.all_eq_true.1 h) i (List.mem_range.2 hi)
    simp only [ho, Bool.and_eq_true] at this
    exact this
  refine ⟨fun i o d ho hd => ?_, fun i j o o' d ho ho' hd hd' => ?_, fun i j o o' t ho ho' ht hd' => ?_, fun i o e ho he hb => ?_⟩
  · have := (key i o ho).1.1
    simp only [hd, Bool.and_eq_true, decide_eq_true_eq] at this
    exact this.1
  · have := (key i o ho).1.1
    simp only [hd, Bool.and_eq_true] at this
    have h2 := (List.all_eq_true.1 this.2) j (List.mem_range.2 (Array.getElem?_eq_some_iff.1 ho').1)
    simp only [ho', Option.bind_some, hd', Bool.or_eq_true, beq_iff_eq, bne_self_eq_false, Bool.false_eq_true, or_false] at h2
    exact h2
  · have := (key i o ho).1.2
    have h1 := (List.all_eq_true.1 this) t (by simpa using ht)
    have h2 := (List.all_eq_true.1 h1) j (List.mem_range.2 (Array.getElem?_eq_some_iff.1 ho').1)
    simp only [ho', Option.bind_some, hd', bne_self_eq_false, Bool.false_or] at h2
    obtain ⟨e, he, hh⟩ := Array.any_eq_true'.1 h2
    simp only [Bool.and_eq_true, beq_iff_eq] at hh
    exact ⟨e, he, hh.1, hh.2⟩
  · have := (key i o ho).2
    have h1 := (Array.all_eq_true_iff_forall_mem.1 this) e he
    simpa [hb] using h1

structure FInv (ops : Array Oper) (S : World → Prop) (T : Tmp → Value → Prop) (a0 : Act) (listed : Array Bool) (a : Act) (w : World) : Prop where
  s : S w
  ls : listed.size = ops.size
  size : a.tmps.size = a0.tmps.size
  defers : a.defers = a0.defers
  old : ∀ t, t ∉ dsts ops → a.tmps.getD t undef = a0.tmps.getD t undef
  got : ∀ (i : Nat) (o : Oper) (d : Tmp), ops[i]? = some o → listed.getD i false = true → o.dst = some d → T d (a.tmps.getD d undef)

theorem mem_dsts {i : Nat} {o : Oper} {d : Tmp} (ho : ops[i]? = some o) (hd : o.dst = some d) : d ∈ dsts ops :=
  List.mem_filterMap.2 ⟨o, by simpa using Array.mem_of_getElem? ho, hd⟩
theorem dsts_mem {d : Tmp} (h : d ∈ dsts ops) : ∃ (i : Nat) (o : Oper), ops[i]? = some o ∧ o.dst = some d := by
  obtain ⟨o, ho, hd⟩ := List.mem_filterMap.1 h
  obtain ⟨i, hi⟩ := Array.getElem?_of_mem (Array.mem_toList_iff.1 ho)
  exact ⟨i, o, hi, hd⟩

theorem getD_put_same (a : Array Value) {d : Nat} (h : d < a.size) (v : Value) : (a.setIfInBounds d v).getD d undef = v := by simp [h]
theorem getD_put_ne (a : Array Value) {d t : Nat} (h : d ≠ t) (v : Value) : (a.setIfInBounds d v).getD t undef = a.getD t undef := by
  simp [Array.getD_eq_getD_getElem?, Array.getElem?_setIfInBounds_ne h]

theorem FInv.put {S : World → Prop} {T : Tmp → Value → Prop} {a0 a : Act} {listed : Array Bool} {w w' : World} (hf : FlowOk ops a0.tmps.size) (h : FInv ops S T a0 listed a w) {i : Nat} {o : Oper} (ho : ops[i]? = some o)
    {v : Value} (hv : dOf o T v) (hS : S w') : FInv ops S T a0 (listed.setIfInBounds i true) (a.put o.dst v) w' := by
  cases hd : o.dst with
  | none =>
    refine ⟨hS, by rw [Array.size_setIfInBounds]; exact h.ls, h.size, h.defers, h.old, fun j oj d hj hl hdj => ?_⟩
    by_cases hij : i = j
    · subst hij
      rw [ho] at hj; cases hj
      rw [hd] at hdj; cases hdj
    · exact h.got j oj d hj (by rwa [getD_set_ne false hij] at hl) hdj
  | some d =>
    refine ⟨hS, by rw [Array.size_setIfInBounds]; exact h.ls, (by show (a.tmps.setIfInBounds d v).size = _; rw [Array.size_setIfInBounds]; exact h.size), h.defers, fun t ht => ?_, fun j oj d' hj hl hdj => ?_⟩
    · show (a.tmps.setIfInBounds d v).getD t undef = _
      rw [getD_put_ne _ (fun e : d = t => ht (by rw [← e]; exact mem_dsts ho hd))]
      exact h.old t ht
    · show T d' ((a.tmps.setIfInBounds d v).getD d' undef)
      by_cases hij : i = j
      · subst hij
        rw [ho] at hj; cases hj
        rw [hd] at hdj; cases hdj
        rw [getD_put_same _ (by rw [h.size]; exact hf.lt i o d ho hd)]
        exact hv d hd
      · rw [getD_put_ne _ (fun e : d = d' => hij (hf.one j i oj o d' hj ho hdj (by rw [← e]; exact hd)))]
        exact h.got j oj d' hj (by rwa [getD_set_ne false hij] at hl) hdj

theorem unlisted_ready {listed : Array Bool} {n : Nat} (hf : FlowOk ops n) (hls : listed.size = ops.size) (hr : Region.ready .any ops listed = []) : ∀ i, i < ops.size → listed.getD i false = true := by
  intro i
  induction i using Nat.strongRecOn with
  | ind i ih =>
    intro hi
    cases hl : listed.getD i false with
    | true => rfl
    | false =>
      have ho : ops[i]? = some ops[i] := Array.getElem?_eq_getElem hi
      have hm : i ∈ Region.ready .any ops listed := mem_ready.2 ⟨by
        have hi' : i < listed.size := by omega
        simp only [Array.getD_eq_getD_getElem?, Array.getElem?_eq_getElem hi', Option.getD_some] at hl ⊢
        exact hl, ops[i], ho, fun e he hb => by
        have := hf.back i _ e ho he hb
        exact ih e.on this (by omega)⟩
      rw [hr] at hm
      cases hm

theorem count_set (l : List Bool) : ∀ i, l[i]? = some false → (l.set i true).count false + 1 = l.count false := by
  induction l with
  | nil => intro i h; simp at h
  | cons b l ih =>
    intro i h
    cases i with
    | zero =>
      simp only [List.getElem?_cons_zero, Option.some.injEq] at h
      subst h
      simp
    | succ i =>
      simp only [List.getElem?_cons_succ] at h
      have := ih i h
      simp only [List.set_cons_succ, List.count_cons]
      omega

theorem wpAny_flow {S : World → Prop} {T : Tmp → Value → Prop} {a0 : Act} (hf : FlowOk ops a0.tmps.size) (hst : ∀ o, o ∈ ops.toList → FStep P ops S T o)
    (hout : ∀ t, t ∈ outer ops → T t (a0.tmps.getD t undef))
    (hQ : ∀ a w, FInv ops S T a0 (Array.replicate ops.size true) a w → Q .normal a w) :
    ∀ (fuel : Nat) (listed : Array Bool) (a : Act) (w : World), listed.toList.count false ≤ fuel → FInv ops S T a0 listed a w → wpAny P .any ops Q fuel listed a w := by
  have fin : ∀ (listed : Array Bool) (a : Act) (w : World), Region.ready .any ops listed = [] → FInv ops S T a0 listed a w → Q .normal a w := fun listed a w hr h =>
    hQ a w ⟨h.s, by simp, h.size, h.defers, h.old, fun i o d ho _ hd => h.got i o d ho (unlisted_ready hf h.ls hr i (Array.getElem?_eq_some_iff.1 ho).1) hd⟩
  intro fuel
  induction fuel with
  | zero =>
    intro listed a w hc h
    have hr : Region.ready .any ops listed = [] := by
      refine List.eq_nil_iff_forall_not_mem.2 fun i hi => ?_
      obtain ⟨hu, o, ho, _⟩ := mem_ready.1 hi
      have hil : i < listed.size := by rw [h.ls]; exact (Array.getElem?_eq_some_iff.1 ho).1
      have hmem : false ∈ listed.toList := by
        simp only [Array.getD_eq_getD_getElem?, Array.getElem?_eq_getElem hil, Option.getD_some] at hu
        rw [← hu]
        exact Array.mem_toList_iff.2 (Array.getElem_mem hil)
      have := List.count_pos_iff.2 hmem
      omega
    exact ⟨hr, fin listed a w hr h⟩
  | succ fuel ih =>
    intro listed a w hc h
    refine ⟨fun hr => fin listed a w hr h, fun i hi => ?_⟩
    obtain ⟨hu, o, ho, hall⟩ := mem_ready.1 hi
    have hil : i < listed.size := by rw [h.ls]; exact (Array.getElem?_eq_some_iff.1 ho).1
    have hc' : (listed.setIfInBounds i true).toList.count false ≤ fuel := by
      have hu' : listed.toList[i]? = some false := by
        simp only [Array.getD_eq_getD_getElem?, Array.getElem?_eq_getElem hil, Option.getD_some] at hu
        simp [hil, hu]
      have := count_set listed.toList i hu'
      rw [Array.toList_setIfInBounds]
      omega
    have hlook : ∀ t, (o.looksAt ops).contains t = true → T t (a.tmps.getD t undef) := fun t ht => by
      by_cases hd : t ∈ dsts ops
      · obtain ⟨j, oj, hj, hdj⟩ := dsts_mem hd
        obtain ⟨e, he, hb, hon⟩ := hf.dep i j o oj t ho hj ht hdj
        exact h.got j oj t hj (hon ▸ hall e he hb) hdj
      · rw [h.old t hd]
        refine hout t ?_
        have hm : o ∈ ops.toList := by simpa using Array.mem_of_getElem? ho
        exact List.mem_filter.2 ⟨List.mem_flatMap.2 ⟨o, hm, by simpa using ht⟩, by simpa using hd⟩
    obtain ⟨h1, h2⟩ := hst o (by simpa using Array.mem_of_getElem? ho) a w h.s hlook
    unfold wpOp
    rw [ho]
    show if Region.wanted o (yielded ops a.tmps) = true then _ else _
    split
    · rename_i hw
      exact .inl (h1 hw _ _ fun v w' hv => ih _ _ _ hc' (h.put hf ho hv.1 hv.2))
    · rename_i hw
      exact ih _ _ _ hc' (h.put hf ho (h2 (by simpa using hw)) h.s)

def setAll (f : Tmp → Value) : List Tmp → Array Value → Array Value
  | [], a => a
  | d :: r, a => setAll f r (a.setIfInBounds d (f d))

theorem setAll_size (f : Tmp → Value) : ∀ (l : List Tmp) (a : Array Value), (setAll f l a).size = a.size
  | [], _ => rfl
  | _ :: r, a => by rw [setAll, setAll_size f r, Array.size_setIfInBounds]
theorem setAll_out (f : Tmp → Value) : ∀ (l : List Tmp) (a : Array Value) (t : Nat), t ∉ l → (setAll f l a)[t]? = a[t]?
  | [], _, _, _ => rfl
  | d :: r, a, t, h => by
    rw [setAll, setAll_out f r _ t (fun hm => h (List.mem_cons_of_mem _ hm)), Array.getElem?_setIfInBounds_ne (fun e : d = t => h (by rw [e]; exact List.mem_cons_self ..))]
theorem setAll_in (f : Tmp → Value) : ∀ (l : List Tmp) (a : Array Value) (t : Nat), t ∈ l → t < a.size → (setAll f l a)[t]? = some (f t)
  | d :: r, a, t, h, hs => by
    rw [setAll]
    by_cases hr : t ∈ r
    · exact setAll_in f r _ t hr (by rw [Array.size_setIfInBounds]; exact hs)
    · rcases List.mem_cons.1 h with rfl | h'
      · rw [setAll_out f r _ t hr]
        simp [hs]
      · exact absurd h' hr

/-- **THE LAW**: the region from what is known of its slots: 'T' says it of each, 'S' of the world; 'keep' are the slots that the walk goes on with. -/
theorem wp_region_flow {id : Nat} {a : Act} {w : World} (hm : P.follows .mixedOrders = true) (S : World → Prop) (T : Tmp → Value → Prop) (outs ds keep : List Tmp)
    (hok : flowOk ops a.tmps.size = true) (houts : ((outer ops).all fun t => outs.contains t) = true) (hds : dsts ops = ds) (hkeep : (keep.all fun t => ds.contains t) = true)
    (hS : S w.drew) (hout : FAll (fun t => T t (a.tmps.getD t undef)) outs) (hst : FSteps P ops S T ops.toList)
    (hQ : ∀ (f : Tmp → Value) w', S w' → FAll (fun t => T t (f t)) keep → Q .normal { tmps := setAll f ds a.tmps, defers := a.defers } w') : (Code.region id ops true).wp P Q a w := by
  subst hds
  have hf := FlowOk.of hok
  refine wp_region_any hm (wpAny_flow hf (fun o ho => hst.at _ o ho) (fun t ht => hout.at _ t (by simpa using (List.all_eq_true.1 houts) t ht)) (fun a' w' h => ?_) ops.size _ a w.drew (by simp) ⟨hS, by simp, rfl, rfl, fun _ _ => rfl, fun i o d ho hl _ => ?_⟩)
  · have he : a' = { tmps := setAll (fun t => a'.tmps.getD t undef) (dsts ops) a.tmps, defers := a.defers } := by
      obtain ⟨tm, df⟩ := a'
      have h1 : df = a.defers := h.defers
      have h2 : tm.size = a.tmps.size := h.size
      have h3 : tm = setAll (fun t => tm.getD t undef) (dsts ops) a.tmps := by
        refine Array.ext_getElem? fun t => ?_
        by_cases ht : t < a.tmps.size
        · have ht' : t < tm.size := by omega
          by_cases hd : t ∈ dsts ops
          · rw [setAll_in _ _ _ t hd ht]
            simp [ht']
          · rw [setAll_out _ _ _ t hd]
            have := h.old t hd
            simp only [Array.getD_eq_getD_getElem?, Array.getElem?_eq_getElem ht', Array.getElem?_eq_getElem ht, Option.getD_some] at this
            rw [Array.getElem?_eq_getElem ht', Array.getElem?_eq_getElem ht, this]
        · rw [Array.getElem?_eq_none (by omega), Array.getElem?_eq_none (by rw [setAll_size]; omega)]
      rw [h1]
      exact congrArg (fun x => ({ tmps := x, defers := a.defers } : Act)) h3
    rw [he]
    refine hQ _ w' h.s (FAll.of _ fun t ht => ?_)
    have hmem : t ∈ dsts ops := by simpa using (List.all_eq_true.1 hkeep) t ht
    obtain ⟨i, o, ho, hd⟩ := dsts_mem hmem
    have hi : i < ops.size := (Array.getElem?_eq_some_iff.1 ho).1
    exact h.got i o t ho (by simp [hi]) hd
  · have hi : i < ops.size := (Array.getElem?_eq_some_iff.1 ho).1
    simp [hi] at hl

/-! ### The operations -/
theorem yielded_of {tmps : Array Value} {g : Nat} {d : Tmp} {b : Bool} (hd : (ops[g]?).bind (·.dst) = some d) (h : tmps.getD d undef = .bool b) : yielded ops tmps g = some b := by
  unfold yielded
  rw [hd]
  cases hx : tmps[d]? with
  | none =>
    rw [Array.getD_eq_getD_getElem?, hx] at h
    cases h
  | some v =>
    rw [Array.getD_eq_getD_getElem?, hx] at h
    simp only [Option.getD_some] at h
    subst h
    simp [hx]

theorem OpTo.val {o : Oper} {a : Act} {w : World} {R : Value → World → Prop} {v : Value} (h : (execOp a.eval o).run P w = .ok (.value v) w) (hR : R v w) : OpTo P o a w R := fun K Q hK => by
  unfold Oper.wp
  rw [h]
  exact hK v w hR

theorem OpTo.call {o : Oper} {a : Act} {w : World} {R : Value → World → Prop} {f : FuncId} {fn : Func} {xs : Array Operand} {ts : Array TypeId} (args : Array Value) (ho : o.op = .call { callee := .value (.func f), args := xs, argTypes := ts })
    (hf : P.funcs[f]? = some fn) (hname : (fn.name == "runtime.NumGoroutine") = false) (hb : fn.body.isSome = true)
    (hx : xs.map a.eval = args) (h : Calls P f args w fun e w' => ∃ v, e = .returned v ∧ R v w') : OpTo P o a w R := fun K Q hK => by
  have h1 : fn.name ≠ "runtime.NumGoroutine" := by simpa using hname
  obtain ⟨c, hb⟩ := Option.isSome_iff_exists.1 hb
  have hc : (callFunc f args).run P w = .ok (.enter f args) w := by simp [callFunc, hf, h1, hb]
  have he : execOp a.eval o = callFunc f (#[] ++ args ++ #[]) := by
    unfold execOp
    simp only [ho, resolve, hx]
    rfl
  unfold Oper.wp
  rw [he, Array.empty_append, Array.append_empty, hc, Oper.upon_enter]
  refine Calls.mono h fun e w' he => ?_
  obtain ⟨v, rfl, hv⟩ := he
  exact hK v w' hv
theorem args0 (ρ : Operand → Value) : (#[] : Array Operand).map ρ = #[] := by simp
theorem args1 (ρ : Operand → Value) (x : Operand) : #[x].map ρ = #[ρ x] := by simp
theorem args2 (ρ : Operand → Value) (x y : Operand) : #[x, y].map ρ = #[ρ x, ρ y] := by simp
theorem args3 (ρ : Operand → Value) (x y z : Operand) : #[x, y, z].map ρ = #[ρ x, ρ y, ρ z] := by simp
theorem OpTo.move {o : Oper} {a : Act} {w : World} {R : Value → World → Prop} {x : Operand} (ho : o.op = .move x) (hR : R (a.eval x) w) : OpTo P o a w R :=
  OpTo.val (by unfold execOp; simp only [ho]; rfl) hR
theorem OpTo.assign {o : Oper} {a : Act} {w : World} {R : Value → World → Prop} {x : Operand} (ho : o.op = .assign x) (hR : R (a.eval x) w) : OpTo P o a w R :=
  OpTo.val (by unfold execOp; simp only [ho]; rfl) hR
theorem OpTo.not {o : Oper} {a : Act} {w : World} {R : Value → World → Prop} {x : Operand} {ty : TypeId} (b : Bool) (ho : o.op = .unOp .not ty x) (hx : a.eval x = .bool b) (hR : R (.bool (!b)) w) : OpTo P o a w R :=
  OpTo.val (v := .bool (!b)) (by unfold execOp; simp only [ho, hx]; rfl) hR
theorem OpTo.pick {o : Oper} {a : Act} {w : World} {R : Value → World → Prop} {c x y : Operand} (b : Bool) (ho : o.op = .pick c x y) (hx : a.eval c = .bool b) (hR : R (if b then a.eval x else a.eval y) w) : OpTo P o a w R :=
  OpTo.val (v := if b then a.eval x else a.eval y) (by unfold execOp; simp only [ho, hx]; rfl) hR
theorem OpTo.row {o : Oper} {a : Act} {w : World} {R : Value → World → Prop} (ty : TypeId) (x : Operand) (ho : o.op = .load ty x)
    (b : Nat) (hx : a.eval x = .pointer (some ⟨b, 0, none⟩)) (cs : List Value) (d : TypeDesc) (hc : w.rangeAt b 0 cs)
    (hu : P.underlying ty = some d) (hd : d.isRow = true) (hi : (P.info? ty).map (·.size) = some cs.length) (hR : R (.agg cs.toArray) w) : OpTo P o a w R := fun K Q hK =>
  wp_load_mid (K := K) (Q := Q) ty x ho b 0 hx cs d hc hu hd hi (hK _ _ hR)

theorem FSteps.cons {S : World → Prop} {T : Tmp → Value → Prop} {o : Oper} {r : List Oper} (h1 : FStep P ops S T o) (h2 : FSteps P ops S T r) : FSteps P ops S T (o :: r) := ⟨h1, h2⟩
theorem FSteps.nil {S : World → Prop} {T : Tmp → Value → Prop} : FSteps P ops S T [] := trivial

theorem FStep.plain {S : World → Prop} {T : Tmp → Value → Prop} {o : Oper} (hg : o.guard = none)
    (h : ∀ a w, S w → (∀ t, (o.looksAt ops).contains t = true → T t (a.tmps.getD t undef)) → OpTo P o a w (fun v w' => dOf o T v ∧ S w')) : FStep P ops S T o := fun a w hS hE =>
  ⟨fun _ => h a w hS hE, fun hw => by simp [Region.wanted, hg] at hw⟩

theorem looks_guard {o : Oper} {g : Nat} {b : Bool} {d : Tmp} (hg : o.guard = some (g, b)) (hd : (ops[g]?).bind (·.dst) = some d) : (o.looksAt ops).contains d = true := by
  unfold Oper.looksAt
  rw [hg]
  simp only [hd]
  simp

theorem wanted_of {o : Oper} {a : Act} {g : Nat} {b b' : Bool} {d : Tmp} (hg : o.guard = some (g, b)) (hd : (ops[g]?).bind (·.dst) = some d) (h : a.tmps.getD d undef = .bool b') : Region.wanted o (yielded ops a.tmps) = (b' == b) := by
  unfold Region.wanted
  rw [hg]
  simp only [yielded_of hd h]
  cases b <;> cases b' <;> rfl

theorem FStep.go {S : World → Prop} {T : Tmp → Value → Prop} {o : Oper} {g : Nat} {b : Bool} (d : Tmp) (hg : o.guard = some (g, b)) (hd : (ops[g]?).bind (·.dst) = some d) (hT : ∀ v, T d v → v = .bool b)
    (h : ∀ a w, S w → (∀ t, (o.looksAt ops).contains t = true → T t (a.tmps.getD t undef)) → OpTo P o a w (fun v w' => dOf o T v ∧ S w')) : FStep P ops S T o := fun a w hS hE =>
  ⟨fun _ => h a w hS hE, fun hw => by rw [wanted_of hg hd (hT _ (hE d (looks_guard hg hd)))] at hw; simp at hw⟩

theorem FStep.no {S : World → Prop} {T : Tmp → Value → Prop} {o : Oper} {g : Nat} {b : Bool} (d : Tmp) (hg : o.guard = some (g, b)) (hd : (ops[g]?).bind (·.dst) = some d) (hT : ∀ v, T d v → v = .bool (!b))
    (hu : dOf o T undef) : FStep P ops S T o := fun a w hS hE =>
  ⟨fun hw => by rw [wanted_of hg hd (hT _ (hE d (looks_guard hg hd)))] at hw; cases b <;> simp at hw, fun _ => hu⟩

theorem dOf.of {o : Oper} {T : Tmp → Value → Prop} {v : Value} (d : Tmp) (hd : o.dst = some d) (h : T d v) : dOf o T v := fun d' hd' => by
  rw [hd] at hd'
  cases hd'
  exact h

/-- What is known of the slots, as a list. -/
def look : List (Nat × (Value → Prop)) → Tmp → Value → Prop
  | [], _, _ => True
  | p :: r, t, v => match Nat.beq p.1 t with
    | true => p.2 v
    | false => look r t v
def isB (b : Bool) (v : Value) : Prop := v = .bool b
def isS (s : ByteArray) (v : Value) : Prop := v = .string s
def isP (g : Nat) (v : Value) : Prop := v = .pointer (some ⟨g, 0, none⟩)
def isV (u v : Value) : Prop := v = u
def isU (v : Value) : Prop := v = undef
end
end Go.Proofs.YtbgpgbfiadhddaaDoor
