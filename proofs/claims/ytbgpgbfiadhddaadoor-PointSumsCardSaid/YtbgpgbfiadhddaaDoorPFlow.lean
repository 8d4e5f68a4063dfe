/- Regions by their slots: general helpers, and the law for regions that make blocks anywhere, whose pure operations may float behind stores. -/
import Derived.Test.YtbgpgbfiadhddaaDoorFlowT
import Derived.Test.YtbgpgbfiadhddaaDoorSeqFlow
namespace Go.Proofs.YtbgpgbfiadhddaaDoor
open Go Go.RowKit
/-! ### General helpers -/
section
variable {P : Program} {o : Oper} {a : Act} {w : World} {T : Tmp → SP}
theorem OpTo.moveG {x : Operand} (d : Tmp) (ho : o.op = .move x) (hd : o.dst = some d) (h : (T d).p (a.eval x) w) : OpTo P o a w (fun v w' => dOfW o T v w' ∧ Touch [] w w') :=
  OpTo.move ho ⟨dOfW.of d hd h, Touch.refl _ _⟩
theorem OpTo.assignG {x : Operand} (d : Tmp) (ho : o.op = .assign x) (hd : o.dst = some d) (h : (T d).p (a.eval x) w) : OpTo P o a w (fun v w' => dOfW o T v w' ∧ Touch [] w w') :=
  OpTo.assign ho ⟨dOfW.of d hd h, Touch.refl _ _⟩
theorem OpTo.notG {x : Operand} {ty : TypeId} (b : Bool) (d : Tmp) (ho : o.op = .unOp .not ty x) (hd : o.dst = some d) (hx : a.eval x = .bool b) (h : (T d).p (.bool (!b)) w) : OpTo P o a w (fun v w' => dOfW o T v w' ∧ Touch [] w w') :=
  OpTo.not b ho hx ⟨dOfW.of d hd h, Touch.refl _ _⟩
theorem OpTo.pickG {c x y : Operand} (b : Bool) (d : Tmp) (ho : o.op = .pick c x y) (hd : o.dst = some d) (hx : a.eval c = .bool b) (h : (T d).p (if b then a.eval x else a.eval y) w) : OpTo P o a w (fun v w' => dOfW o T v w' ∧ Touch [] w w') :=
  OpTo.pick b ho hx ⟨dOfW.of d hd h, Touch.refl _ _⟩
/-- Whatever leaves the world alone. -/
theorem OpTo.pureG {v : Value} (d : Tmp) (hd : o.dst = some d) (h : (execOp a.eval o).run P w = .ok (.value v) w) (hv : (T d).p v w) : OpTo P o a w (fun v w' => dOfW o T v w' ∧ Touch [] w w') :=
  OpTo.val h ⟨dOfW.of d hd hv, Touch.refl _ _⟩
theorem OpTo.callG {f : FuncId} {fn : Func} {xs : Array Operand} {ts : Array TypeId} {v : Value} (args : Array Value) (d : Tmp) (ho : o.op = .call { callee := .value (.func f), args := xs, argTypes := ts }) (hd : o.dst = some d)
    (hf : P.funcs[f]? = some fn) (hname : (fn.name == "runtime.NumGoroutine") = false) (hb : fn.body.isSome = true) (hx : xs.map a.eval = args) (h : Calls P f args w fun e w' => e = .returned v ∧ Touch [] w w') (hv : ∀ w', (T d).p v w') :
    OpTo P o a w (fun v w' => dOfW o T v w' ∧ Touch [] w w') :=
  OpTo.call args ho hf hname hb hx (h.mono fun _ w' ⟨h1, h2⟩ => ⟨v, h1, dOfW.of d hd (hv w'), h2⟩)
/-- A call whose answer is known by a predicate. -/
theorem OpTo.callP {f : FuncId} {fn : Func} {xs : Array Operand} {ts : Array TypeId} {p : Value → World → Prop} (args : Array Value) (d : Tmp) (ho : o.op = .call { callee := .value (.func f), args := xs, argTypes := ts }) (hd : o.dst = some d)
    (hf : P.funcs[f]? = some fn) (hname : (fn.name == "runtime.NumGoroutine") = false) (hb : fn.body.isSome = true) (hx : xs.map a.eval = args) (h : Calls P f args w fun e w' => ∃ v, e = .returned v ∧ p v w' ∧ Touch [] w w') (hv : ∀ v w', p v w' → (T d).p v w') :
    OpTo P o a w (fun v w' => dOfW o T v w' ∧ Touch [] w w') :=
  OpTo.call args ho hf hname hb hx (h.mono fun _ w' ⟨v, h1, h3, h2⟩ => ⟨v, h1, dOfW.of d hd (hv v w' h3), h2⟩)
/-- A whole row that is loaded. -/
theorem OpTo.rowG (d : Tmp) (ty : TypeId) (x : Operand) (ho : o.op = .load ty x) (hd : o.dst = some d) (g : Nat) (hx : a.eval x = .pointer (some ⟨g, 0, none⟩)) (t : TypeId) (cs : Array Value) (D : TypeDesc) (hb : Blk w g t cs)
    (hu : P.underlying ty = some D) (hD : (match D with | .struct _ | .array _ _ => true | _ => false) = true) (hi : (P.info? ty).map (·.size) = some cs.size) (h : (T d).p (.agg cs) w) : OpTo P o a w (fun v w' => dOfW o T v w' ∧ Touch [] w w') :=
  OpTo.val (v := .agg cs) (by
    unfold execOp
    simp only [ho, hx, Instr.loadAt, Instr.sureAddr, Sem.run_bind, Sem.run_pure, Result.andThen_ok, run_loadVar_row w g t ty cs (0, 0) D hb hu hD hi]) ⟨dOfW.of d hd h, Touch.refl _ _⟩
theorem OpTo.negF {x : Operand} {ty : TypeId} (b c : Nat) (d : Tmp) (ho : o.op = .unOp .neg ty x) (hd : o.dst = some d) (hx : a.eval x = .float .f64 b) (hc : Op.negFloat .f64 b = c) (h : (T d).p (.float .f64 c) w) : OpTo P o a w (fun v w' => dOfW o T v w' ∧ Touch [] w w') :=
  OpTo.val (v := .float .f64 c) (by
    have hr : (Op.unary .neg (.float .f64 b)).run P w = .ok (.float .f64 (Op.negFloat .f64 b)) w := rfl
    unfold execOp
    simp only [ho, hx, Sem.run_bind, Sem.run_pure, hr, hc, Result.andThen_ok]) ⟨dOfW.of d hd h, Touch.refl _ _⟩
/-- A call of a function that a slot holds. -/
theorem OpTo.callV {f : FuncId} {fn : Func} {x : Operand} {xs : Array Operand} {ts : Array TypeId} {v : Value} (args : Array Value) (d : Tmp) (ho : o.op = .call { callee := .value x, args := xs, argTypes := ts }) (hd : o.dst = some d) (hxf : a.eval x = .func (.func f) #[] #[])
    (hf : P.funcs[f]? = some fn) (hname : (fn.name == "runtime.NumGoroutine") = false) (hb : fn.body.isSome = true) (hx : xs.map a.eval = args) (h : Calls P f args w fun e w' => e = .returned v ∧ Touch [] w w') (hv : ∀ w', (T d).p v w') :
    OpTo P o a w (fun v w' => dOfW o T v w' ∧ Touch [] w w') := fun K Q hK => by
  have h1 : fn.name ≠ "runtime.NumGoroutine" := by simpa using hname
  obtain ⟨c, hb⟩ := Option.isSome_iff_exists.1 hb
  have hc : (callFunc f args).run P w = .ok (.enter f args) w := by simp [callFunc, hf, h1, hb]
  have he : (execOp a.eval o).run P w = (callFunc f args).run P w := by
    unfold execOp
    simp only [ho, hxf, resolve, hx]
    simp [invoke, Deferred.ofValue]
  unfold Oper.wp
  rw [he, hc, Oper.upon_enter]
  refine Calls.mono h fun e w' he => ?_
  obtain ⟨rfl, ht⟩ := he
  exact hK v w' ⟨dOfW.of d hd (hv w'), ht⟩
theorem argE0 {ρ : Operand → Value} : (#[] : Array Operand).map ρ = #[] := by simp
theorem argE1 {ρ : Operand → Value} {x : Operand} {u : Value} (hx : ρ x = u) : (#[x] : Array Operand).map ρ = #[u] := by simp [hx]
theorem argE2 {ρ : Operand → Value} {x y : Operand} {u v : Value} (hx : ρ x = u) (hy : ρ y = v) : (#[x, y] : Array Operand).map ρ = #[u, v] := by simp [hx, hy]
theorem argE3 {ρ : Operand → Value} {x y z : Operand} {u v t : Value} (hx : ρ x = u) (hy : ρ y = v) (hz : ρ z = t) : (#[x, y, z] : Array Operand).map ρ = #[u, v, t] := by simp [hx, hy, hz]
theorem argE4 {ρ : Operand → Value} {x y z p : Operand} {u v t q : Value} (hx : ρ x = u) (hy : ρ y = v) (hz : ρ z = t) (hp : ρ p = q) : (#[x, y, z, p] : Array Operand).map ρ = #[u, v, t, q] := by simp [hx, hy, hz, hp]
theorem argE5 {ρ : Operand → Value} {x y z p r : Operand} {u v t q s : Value} (hx : ρ x = u) (hy : ρ y = v) (hz : ρ z = t) (hp : ρ p = q) (hr : ρ r = s) : (#[x, y, z, p, r] : Array Operand).map ρ = #[u, v, t, q, s] := by simp [hx, hy, hz, hp, hr]
end
/-- A pointer to a new block that is known whole. -/
def newS (B : Nat) (t : TypeId) (cs : Array Value) : SP := ⟨fun v w => ∃ g, v = .pointer (some ⟨g, 0, none⟩) ∧ Blk w g t cs ∧ B ≤ g, fun _ _ _ ⟨g, hv, hb, hB⟩ ht => ⟨g, hv, hb.touch ht (by simp), hB⟩⟩
theorem OpTo.allocG {P : Program} {o : Oper} {a : Act} {w w0 : World} {T : Tmp → SP} (d : Nat) (t : TypeId) (cs : Array Value) (hd : o.dst = some d) (hS : Touch [] w0 w)
    (h : (execOp a.eval o).run P w = .ok (.value (.pointer (some ⟨w.heap.size, 0, none⟩))) (w.alloc (.cells cs t))) (hT : T d = newS w0.heap.size t cs) : OpTo P o a w (fun v w' => dOfW o T v w' ∧ Touch [] w w') := by
  intro K Q hK
  unfold Oper.wp
  rw [h]
  exact hK _ _ ⟨dOfW.of d hd (by rw [hT]; exact ⟨w.heap.size, rfl, Blk.new _ _ _, hS.size⟩), (Touch.refl _ _).alloc _⟩
/-- Contracts as a flow asks them. -/
theorem cT {P : Program} {f : FuncId} {args : Array Value} {w : World} {v : Value} (h : Calls P f args w fun e w' => e = .returned v ∧ w' = w) : Calls P f args w fun e w' => e = .returned v ∧ Touch [] w w' :=
  h.mono fun _ _ ⟨h1, h2⟩ => ⟨h1, by rw [h2]; exact Touch.refl _ _⟩
theorem cTr {P : Program} {f : FuncId} {args : Array Value} {w : World} {v : Value} (h : Calls P f args w fun e w' => e = .returned v ∧ w = w') : Calls P f args w fun e w' => e = .returned v ∧ Touch [] w w' :=
  h.mono fun _ _ ⟨h1, h2⟩ => ⟨h1, by rw [h2]; exact Touch.refl _ _⟩
theorem cN {P : Program} {f : FuncId} {args : Array Value} {w : World} {v : Value} (h : Calls P f args w fun e w' => e = .returned v ∧ ∃ n, w' = w.drewN n) : Calls P f args w fun e w' => e = .returned v ∧ Touch [] w w' :=
  h.mono fun _ _ ⟨h1, n, h2⟩ => ⟨h1, by rw [h2]; exact (Touch.refl _ _).drewN n⟩
section
variable {P : Program} {ops : Array Oper} {Q : Exit → Act → World → Prop}
/-- An operation that only reckons: its value is known, whatever the world. -/
def LateStep (P : Program) (ops : Array Oper) (T : Tmp → SP) (o : Oper) : Prop := ∀ a w, (∀ t, (o.looksAt ops).contains t = true → (T t).p (a.tmps.getD t undef) w) → ∃ v, Yields P ops o v a ∧ ∀ w', dOfW o T v w'
/-- What an operation waits for. -/
def markL (ops : Array Oper) (l : Nat) : Array Bool := ((List.range ops.size).map fun j => (clos ops l (depsOf ops l)).contains j).toArray
def flowOkL (ops : Array Oper) (L : List Nat) (m n : Nat) : Bool :=
  ((List.range m).all fun i => match ops[i]? with
    | none => true
    | some o =>
      (match o.dst with
       | none => true
       | some d => decide (d < n) && (List.range m).all fun j => j == i || (ops[j]?).bind (·.dst) != some d) &&
      ((o.looksAt ops).all fun t => (List.range m).all fun j => (ops[j]?).bind (·.dst) != some t || o.after.any fun e => Region.binds .any e && e.on == j)) &&
  ((List.range ops.size).all fun i => (depsOf ops i).all fun j => decide (j < i)) &&
  ((List.range ops.size).all fun i => decide (i < m) || (let c := clos ops i (depsOf ops i); ((List.range i).all fun j => c.contains j || L.contains j) && L.all fun l => (depsOf ops l).all fun j => c.contains j)) && decide (m ≤ ops.size) &&
  Region.noSelect ops && L.all fun l => decide (l < m) && Region.free .any ops (markL ops l) l
structure FlowOkL (ops : Array Oper) (L : List Nat) (m n : Nat) : Prop where
  lt : ∀ (i : Nat) (o : Oper) (d : Tmp), i < m → ops[i]? = some o → o.dst = some d → d < n
  one : ∀ (i j : Nat) (o o' : Oper) (d : Tmp), i < m → j < m → ops[i]? = some o → ops[j]? = some o' → o.dst = some d → o'.dst = some d → j = i
  dep : ∀ (i j : Nat) (o o' : Oper) (t : Tmp), i < m → j < m → ops[i]? = some o → ops[j]? = some o' → (o.looksAt ops).contains t = true → o'.dst = some t → ∃ e ∈ o.after, Region.binds .any e = true ∧ e.on = j
  back : ∀ (i : Nat) (o : Oper) (e : Edge), ops[i]? = some o → e ∈ o.after → Region.binds .any e = true → e.on < i
  tail : ∀ (i : Nat), m ≤ i → i < ops.size → ∀ j, j < i → j ∈ clos ops i (depsOf ops i) ∨ j ∈ L
  lateDep : ∀ l, l ∈ L → ∀ (i : Nat), m ≤ i → i < ops.size → ∀ j, j ∈ depsOf ops l → j ∈ clos ops i (depsOf ops i)
  late : ∀ l, l ∈ L → l < m
  free : ∀ l, l ∈ L → Region.free .any ops (markL ops l) l = true
  sel : Region.noSelect ops = true
  le : m ≤ ops.size
theorem FlowOkL.of {L : List Nat} {m n : Nat} (h : flowOkL ops L m n = true) : FlowOkL ops L m n := by
  unfold flowOkL at h
  simp only [Bool.and_eq_true] at h
  obtain ⟨⟨⟨⟨⟨h1, h2⟩, h3⟩, h4⟩, h5⟩, h6⟩ := h
  have key : ∀ (i : Nat) (o : Oper), i < m → ops[i]? = some o → _ := fun i o hi ho => by
    have := (List.all_eq_true.1 h1) i (List.mem_range.2 hi)
    simp only [ho, Bool.and_eq_true] at this
    exact this
  refine ⟨fun i o d hi ho hd => ?_, fun i j o o' d hi hj ho ho' hd hd' => ?_, fun i j o o' t hi hj ho ho' ht hd' => ?_, fun i o e ho he hb => ?_, fun i hi hs j hj => ?_, fun l hl i hi hs j hj => ?_, fun l hl => ?_, fun l hl => ?_, h5, by simpa using h4⟩
  · have := (key i o hi ho).1
    simp only [hd, Bool.and_eq_true, decide_eq_true_eq] at this
    exact this.1
  · have := (key i o hi ho).1
    simp only [hd, Bool.and_eq_true] at this
    have h2 := (List.all_eq_true.1 this.2) j (List.mem_range.2 hj)
    simp only [ho', Option.bind_some, hd', Bool.or_eq_true, beq_iff_eq, bne_self_eq_false, Bool.false_eq_true, or_false] at h2
    exact h2
  · have := (key i o hi ho).2
    have h1 := (List.all_eq_true.1 this) t (by simpa using ht)
    have h2 := (List.all_eq_true.1 h1) j (List.mem_range.2 hj)
    simp only [ho', Option.bind_some, hd', bne_self_eq_false, Bool.false_or] at h2
    obtain ⟨e, he, hh⟩ := Array.any_eq_true'.1 h2
    simp only [Bool.and_eq_true, beq_iff_eq] at hh
    exact ⟨e, he, hh.1, hh.2⟩
  · have hi : i < ops.size := (Array.getElem?_eq_some_iff.1 ho).1
    have := (List.all_eq_true.1 h2) i (List.mem_range.2 hi)
    simpa using (List.all_eq_true.1 this) e.on (depsOf_mem ho he hb)
  · have := (List.all_eq_true.1 h3) i (List.mem_range.2 hs)
    simp only [Bool.or_eq_true, decide_eq_true_eq] at this
    rcases this with h | h
    · omega
    · have h := (List.all_eq_true.1 (Bool.and_eq_true_iff.1 h).1) j (List.mem_range.2 hj)
      rcases Bool.or_eq_true_iff.1 h with h | h
      · exact .inl (by simpa using h)
      · exact .inr (by simpa using h)
  · have := (List.all_eq_true.1 h3) i (List.mem_range.2 hs)
    simp only [Bool.or_eq_true, decide_eq_true_eq] at this
    rcases this with h | h
    · omega
    · have h := (List.all_eq_true.1 (List.all_eq_true.1 (Bool.and_eq_true_iff.1 h).2 l hl)) j hj
      simpa using h
  · exact of_decide_eq_true (Bool.and_eq_true_iff.1 ((List.all_eq_true.1 h6) l hl)).1
  · exact (Bool.and_eq_true_iff.1 ((List.all_eq_true.1 h6) l hl)).2
theorem FInvT.putL {L : List Nat} {m : Nat} {w0 : World} {T : Tmp → SP} {a0 a : Act} {listed : Array Bool} {w w' : World} (hf : FlowOkL ops L m a0.tmps.size) (h : FInvT ops m w0 T a0 listed a w) {i : Nat} {o : Oper} (hi : i < m) (ho : ops[i]? = some o)
    (hdeps : ∀ j, j ∈ depsOf ops i → listed.getD j false = true) {v : Value} (hv : dOfW o T v w') (hS : Touch [] w w') : FInvT ops m w0 T a0 (listed.setIfInBounds i true) (a.put o.dst v) w' := by
  have hcl : ∀ k, (listed.setIfInBounds i true).getD k false = true → ∀ j, j ∈ depsOf ops k → (listed.setIfInBounds i true).getD j false = true := fun k hk j hj => by
    rcases set_listed hk with rfl | hk
    · exact listed_set (hdeps j hj)
    · exact listed_set (h.closed k hk j hj)
  have hnone : ∀ k, m ≤ k → (listed.setIfInBounds i true).getD k false = false := fun k hk => by
    rw [getD_set_ne false (by omega : i ≠ k)]; exact h.none k hk
  cases hd : o.dst with
  | none =>
    refine ⟨h.s.trans hS, by rw [Array.size_setIfInBounds]; exact h.ls, h.size, h.defers, h.old, fun j oj d hjm hj hl hdj => ?_, hcl, hnone⟩
    rcases set_listed hl with rfl | hl
    · rw [ho] at hj; cases hj
      rw [hd] at hdj; cases hdj
    · exact (T d).st _ _ _ (h.got j oj d hjm hj hl hdj) hS
  | some d =>
    refine ⟨h.s.trans hS, by rw [Array.size_setIfInBounds]; exact h.ls, (by show (a.tmps.setIfInBounds d v).size = _; rw [Array.size_setIfInBounds]; exact h.size), h.defers, fun t ht => ?_, fun j oj d' hjm hj hl hdj => ?_, hcl, hnone⟩
    · show (a.tmps.setIfInBounds d v).getD t undef = _
      rw [getD_put_ne _ (fun e : d = t => ht (by rw [← e]; exact mem_dstsT hi ho hd))]
      exact h.old t ht
    · show (T d').p ((a.tmps.setIfInBounds d v).getD d' undef) w'
      by_cases hij : j = i
      · subst hij
        rw [ho] at hj; cases hj
        rw [hd] at hdj; cases hdj
        rw [getD_put_same _ (by rw [h.size]; exact hf.lt j o d hi ho hd)]
        exact hv d hd
      · rw [getD_put_ne _ (fun e : d = d' => hij (hf.one i j o oj d' hi hjm ho hj (by rw [← e]; exact hd) hdj))]
        rcases set_listed hl with rfl | hl
        · exact absurd rfl hij
        · exact (T d').st _ _ _ (h.got j oj d' hjm hj hl hdj) hS
theorem wpAny_tailL {m n : Nat} {L : List Nat} (hf : FlowOkL ops L m n) : ∀ (fuel k : Nat) (listed : Array Bool) (a : Act) (w : World), m ≤ k → k ≤ ops.size → listed.size = ops.size → (∀ j, j < ops.size → (listed.getD j false = true ↔ j < k)) → ops.size - k ≤ fuel →
    wpList P ops Q (ops.toList.drop k) a w → wpAny P .any ops Q fuel listed a w := by
  have one : ∀ (k : Nat) (listed : Array Bool), m ≤ k → listed.size = ops.size → (∀ j, j < ops.size → (listed.getD j false = true ↔ j < k)) → ∀ i, i ∈ Region.ready .any ops listed → i = k ∧ k < ops.size := by
    intro k listed hmk hls hl i hi
    obtain ⟨hu, o, ho, hall⟩ := mem_ready.1 hi
    have his : i < ops.size := (Array.getElem?_eq_some_iff.1 ho).1
    have hu' := getD_tf hu (by omega)
    have hik : ¬ i < k := fun h => by rw [(hl i his).2 h] at hu'; cases hu'
    have hdep : ∀ j, j ∈ depsOf ops i → listed.getD j false = true := fun j hj => by
      obtain ⟨o', e, ho', he, hb, rfl⟩ := depsOf_of hj
      rw [ho] at ho'; cases ho'
      exact hall e he hb
    have hcl := clos_listed (ops := ops) (listed := fun j => listed.getD j false = true) (fun x hx j hj => by
      have hxs : x < ops.size := by
        obtain ⟨o', _, ho', _⟩ := depsOf_of hj
        exact (Array.getElem?_eq_some_iff.1 ho').1
      have hxk := (hl x hxs).1 hx
      obtain ⟨o', e, ho', he, hb, rfl⟩ := depsOf_of hj
      have := hf.back x o' e ho' he hb
      exact (hl _ (by omega)).2 (by omega)) i (depsOf ops i) hdep
    have hall' : ∀ j, j < i → j < k := fun j hj => by
      rcases hf.tail i (by omega) his j hj with h1 | h1
      · exact (hl j (by omega)).1 (hcl j h1)
      · have := hf.late j h1
        omega
    refine ⟨?_, ?_⟩
    · apply Classical.byContradiction
      intro hne
      have := hall' k (by omega)
      omega
    · apply Classical.byContradiction
      intro hne
      omega
  intro fuel
  induction fuel with
  | zero =>
    intro k listed a w hmk hks hls hl hfu h
    have hr : Region.ready .any ops listed = [] := by
      refine List.eq_nil_iff_forall_not_mem.2 fun i hi => ?_
      have := one k listed hmk hls hl i hi
      omega
    rw [List.drop_of_length_le (by simp; omega)] at h
    exact ⟨hr, h⟩
  | succ fuel ih =>
    intro k listed a w hmk hks hls hl hfu h
    refine ⟨fun hr => ?_, fun i hi => ?_⟩
    · have hk : k = ops.size := by
        apply Classical.byContradiction
        intro hne
        have := (hl k (by omega)).1 (all_listed hf.back hls hr k (by omega))
        omega
      rw [List.drop_of_length_le (by simp; omega)] at h
      exact h
    · obtain ⟨rfl, hks'⟩ := one k listed hmk hls hl i hi
      have ho : ops[i]? = some ops[i] := Array.getElem?_eq_getElem hks'
      have hd : ops.toList.drop i = ops[i] :: ops.toList.drop (i + 1) := by
        rw [List.drop_eq_getElem_cons (by simpa using hks')]
        simp
      rw [hd] at h
      have step : ∀ a' w', wpList P ops Q (ops.toList.drop (i + 1)) a' w' → wpAny P .any ops Q fuel (listed.setIfInBounds i true) a' w' := fun a' w' h' => by
        refine ih (i + 1) _ a' w' (by omega) (by omega) (by rw [Array.size_setIfInBounds]; exact hls) (fun j hj => ?_) (by omega) h'
        by_cases hij : i = j
        · subst hij
          simp [Array.getD_eq_getD_getElem?, hls, hj]
        · rw [getD_set_ne false hij, hl j hj]
          omega
      unfold wpList at h
      unfold wpOp
      rw [ho]
      show if Region.wanted ops[i] (yielded ops a.tmps) = true then _ else _
      split
      · rename_i hw
        rw [if_pos hw] at h
        exact h.imp (Oper.wp_mono step) id
      · rename_i hw
        rw [if_neg hw] at h
        exact step _ _ h
/-! ### With new blocks that are made anywhere -/
def isNew (o : Oper) : Bool := o.guard.isNone && match o.op with | .alloc _ => true | _ => false
/-- A step; if it makes a block, the new one. -/
def FStepX (P : Program) (ops : Array Oper) (w0 : World) (T : Tmp → SP) (o : Oper) : Prop :=
  ∀ a w, Touch [] w0 w → (∀ t, (o.looksAt ops).contains t = true → (T t).p (a.tmps.getD t undef) w) →
    (Region.wanted o (yielded ops a.tmps) = true → OpTo P o a w (fun v w' => dOfW o T v w' ∧ Touch [] w w' ∧ (isNew o = true → v = .pointer (some ⟨w.heap.size, 0, none⟩) ∧ w.heap.size < w'.heap.size))) ∧
    (Region.wanted o (yielded ops a.tmps) = false → isNew o = false ∧ dOfW o T undef w)
def FStepsX (P : Program) (ops : Array Oper) (w0 : World) (T : Tmp → SP) : List Oper → Prop
  | [] => True
  | o :: r => FStepX P ops w0 T o ∧ FStepsX P ops w0 T r
theorem FStepsX.at {w0 : World} {T : Tmp → SP} (l : List Oper) (h : FStepsX P ops w0 T l) (o : Oper) (ho : o ∈ l) : FStepX P ops w0 T o := by
  induction l with
  | nil => cases ho
  | cons x r ih =>
    rcases List.mem_cons.1 ho with rfl | hm
    · exact h.1
    · exact ih h.2 hm
theorem FStepsX.nil {w0 : World} {T : Tmp → SP} : FStepsX P ops w0 T [] := trivial
theorem OpTo.monoR {o : Oper} {a : Act} {w : World} {R R' : Value → World → Prop} (h : OpTo P o a w R) (hR : ∀ v w', R v w' → R' v w') : OpTo P o a w R' := fun K Q hK => h K Q fun v w' hv => hK v w' (hR v w' hv)
theorem FStepsX.cons {w0 : World} {T : Tmp → SP} {o : Oper} {r : List Oper} (hn : isNew o = false) (h1 : FStepW P ops w0 T o) (h2 : FStepsX P ops w0 T r) : FStepsX P ops w0 T (o :: r) :=
  ⟨fun a w hS hE => ⟨fun hw => ((h1 a w hS hE).1 hw).monoR fun _ _ h => ⟨h.1, h.2, fun e => by rw [hn] at e; cases e⟩, fun hw => ⟨hn, (h1 a w hS hE).2 hw⟩⟩, h2⟩
theorem FStepsX.new {w0 : World} {T : Tmp → SP} {o : Oper} {r : List Oper} (d : Nat) (t : TypeId) (cs : Array Value) (hg : o.guard = none) (hd : o.dst = some d)
    (h : ∀ (a : Act) (w : World), (execOp a.eval o).run P w = .ok (.value (.pointer (some ⟨w.heap.size, 0, none⟩))) (w.alloc (.cells cs t))) (hT : T d = newS w0.heap.size t cs) (h2 : FStepsX P ops w0 T r) : FStepsX P ops w0 T (o :: r) :=
  ⟨fun a w hS _ => ⟨fun _ K Q hK => by
    unfold Oper.wp
    rw [h a w]
    exact hK _ _ ⟨dOfW.of d hd (by rw [hT]; exact ⟨w.heap.size, rfl, Blk.new _ _ _, hS.size⟩), (Touch.refl _ _).alloc _, fun _ => ⟨rfl, by simp⟩⟩, fun hw => by simp [Region.wanted, hg] at hw⟩, h2⟩
structure FInvX (ops : Array Oper) (m : Nat) (w0 : World) (T : Tmp → SP) (a0 : Act) (listed : Array Bool) (a : Act) (w : World) : Prop where
  base : FInvT ops m w0 T a0 listed a w
  fresh : ∀ (i : Nat) (o : Oper) (d : Tmp), i < m → ops[i]? = some o → listed.getD i false = true → isNew o = true → o.dst = some d → ∃ g, a.tmps.getD d undef = .pointer (some ⟨g, 0, none⟩) ∧ g < w.heap.size
  dist : ∀ (i j : Nat) (o o' : Oper) (d d' : Tmp), i < m → j < m → ops[i]? = some o → ops[j]? = some o' → listed.getD i false = true → listed.getD j false = true → isNew o = true → isNew o' = true → o.dst = some d → o'.dst = some d' → i ≠ j → a.tmps.getD d undef ≠ a.tmps.getD d' undef
theorem FInvX.putL {L : List Nat} {m : Nat} {w0 : World} {T : Tmp → SP} {a0 a : Act} {listed : Array Bool} {w w' : World} (hf : FlowOkL ops L m a0.tmps.size) (h : FInvX ops m w0 T a0 listed a w) {i : Nat} {o : Oper} (hi : i < m) (ho : ops[i]? = some o)
    (hdeps : ∀ j, j ∈ depsOf ops i → listed.getD j false = true) {v : Value} (hv : dOfW o T v w') (hS : Touch [] w w') (hn : isNew o = true → v = .pointer (some ⟨w.heap.size, 0, none⟩) ∧ w.heap.size < w'.heap.size) : FInvX ops m w0 T a0 (listed.setIfInBounds i true) (a.put o.dst v) w' := by
  have hval : ∀ (k : Nat) (ok : Oper) (d : Tmp), k < m → ops[k]? = some ok → ok.dst = some d → (k = i ∧ ok = o ∧ (a.put o.dst v).tmps.getD d undef = v) ∨ (k ≠ i ∧ (a.put o.dst v).tmps.getD d undef = a.tmps.getD d undef) := fun k ok d hk hok hd => by
    by_cases hki : k = i
    · subst hki
      rw [ho] at hok; cases hok
      refine .inl ⟨rfl, rfl, ?_⟩
      rw [hd]
      exact getD_put_same _ (by rw [h.base.size]; exact hf.lt k o d hi ho hd) v
    · refine .inr ⟨hki, ?_⟩
      cases hod : o.dst with
      | none => rfl
      | some d' => exact getD_put_ne _ (fun e : d' = d => hki (hf.one i k o ok d' hi hk ho hok hod (by rw [e]; exact hd))) v
  refine ⟨h.base.putL hf hi ho hdeps hv hS, fun k ok d hk hok hl hnk hd => ?_, fun k j ok oj d d' hk hj hok hoj hlk hlj hnk hnj hd hd' hne => ?_⟩
  · rcases hval k ok d hk hok hd with ⟨rfl, rfl, e⟩ | ⟨hki, e⟩
    · obtain ⟨hv', hlt⟩ := hn hnk
      exact ⟨w.heap.size, by rw [e, hv'], hlt⟩
    · rcases set_listed hl with e' | hl
      · exact absurd e' hki
      · obtain ⟨g, hg, hlt⟩ := h.fresh k ok d hk hok hl hnk hd
        exact ⟨g, by rw [e, hg], Nat.lt_of_lt_of_le hlt hS.size⟩
  · rcases hval k ok d hk hok hd with ⟨rfl, rfl, e⟩ | ⟨hki, e⟩
    · rcases hval j oj d' hj hoj hd' with ⟨rfl, _, _⟩ | ⟨hji, e'⟩
      · exact absurd rfl hne
      · rcases set_listed hlj with e'' | hlj
        · exact absurd e'' hji
        · obtain ⟨hv', hlt⟩ := hn hnk
          obtain ⟨g, hg, hlt'⟩ := h.fresh j oj d' hj hoj hlj hnj hd'
          rw [e, e', hv', hg]
          intro hc
          injection hc with hc
          injection hc with hc
          injection hc with hc
          omega
    · rcases hval j oj d' hj hoj hd' with ⟨rfl, rfl, e'⟩ | ⟨hji, e'⟩
      · rcases set_listed hlk with e'' | hlk
        · exact absurd e'' hki
        · obtain ⟨hv', hlt⟩ := hn hnj
          obtain ⟨g, hg, hlt'⟩ := h.fresh k ok d hk hok hlk hnk hd
          rw [e, e', hv', hg]
          intro hc
          injection hc with hc
          injection hc with hc
          injection hc with hc
          omega
      · rw [e, e']
        rcases set_listed hlk with e'' | hlk
        · exact absurd e'' hki
        · rcases set_listed hlj with e'' | hlj
          · exact absurd e'' hji
          · exact h.dist k j ok oj d d' hk hj hok hoj hlk hlj hnk hnj hd hd' hne
theorem wpAny_flowX {m : Nat} {L : List Nat} {w0 : World} {T : Tmp → SP} {a0 : Act} (hf : FlowOkL ops L m a0.tmps.size) (hP : ∀ d v c a w, Q (.panic c) (a.put d v) w → Q (.panic c) a w) (hL : ∀ l, l ∈ L → ∀ o, ops[l]? = some o → LateStep P ops T o) (hst : ∀ o, o ∈ preL ops m → FStepX P ops w0 T o)
    (hLn : ∀ l, l ∈ L → ∀ o, ops[l]? = some o → isNew o = false)
    (hout : ∀ t, t ∈ outerT ops m → (T t).p (a0.tmps.getD t undef) w0)
    (hQ : ∀ a w listed, (∀ i, i < m → listed.getD i false = true) → FInvX ops m w0 T a0 listed a w → wpList P ops Q (ops.toList.drop m) a w) :
    ∀ (fuel : Nat) (listed : Array Bool) (a : Act) (w : World), listed.toList.count false ≤ fuel → FInvX ops m w0 T a0 listed a w → wpAny P .any ops Q fuel listed a w := by
  have fin : ∀ (fuel : Nat) (listed : Array Bool) (a : Act) (w : World), (∀ i, i < m → listed.getD i false = true) → ops.size - m ≤ fuel → FInvX ops m w0 T a0 listed a w → wpAny P .any ops Q fuel listed a w := fun fuel listed a w hall hfu h =>
    wpAny_tailL hf fuel m listed a w (Nat.le_refl _) hf.le h.base.ls (fun j _ => ⟨fun hj => Classical.byContradiction fun hn => absurd (hj.symm.trans (h.base.none j (by omega))) (by simp), hall j⟩) hfu (hQ a w listed hall h)
  have cnt : ∀ (listed : Array Bool), listed.size = ops.size → (∀ i, m ≤ i → listed.getD i false = false) → ops.size - m ≤ listed.toList.count false := fun listed hls hn => by
    have h1 : (listed.toList.drop m).count false = ops.size - m := by
      rw [List.count_eq_length.2]
      · simp [hls]
      · intro b hb
        obtain ⟨j, hj, rfl⟩ := List.getElem_of_mem hb
        have hj' : m + j < listed.size := by simp at hj; omega
        have := hn (m + j) (by omega)
        simp only [Array.getD_eq_getD_getElem?, Array.getElem?_eq_getElem hj', Option.getD_some] at this
        simp [this]
    have h2 := List.count_append (a := false) (l₁ := listed.toList.take m) (l₂ := listed.toList.drop m)
    rw [List.take_append_drop] at h2
    omega
  intro fuel
  induction fuel with
  | zero =>
    intro listed a w hc h
    have h1 := cnt listed h.base.ls h.base.none
    refine fin 0 listed a w (fun i hi => ?_) (by omega) h
    cases hl : listed.getD i false with
    | true => rfl
    | false =>
      exfalso
      have hil : i < listed.size := by rw [h.base.ls]; have := hf.le; omega
      simp only [Array.getD_eq_getD_getElem?, Array.getElem?_eq_getElem hil, Option.getD_some] at hl
      have hmem : false ∈ listed.toList := by
        rw [← hl]
        exact Array.mem_toList_iff.2 (Array.getElem_mem hil)
      have := List.count_pos_iff.2 hmem
      omega
  | succ fuel ih =>
    intro listed a w hc h
    by_cases hall : ∀ i, i < m → listed.getD i false = true
    · exact fin _ listed a w hall (Nat.le_trans (cnt listed h.base.ls h.base.none) hc) h
    · have look : ∀ (i : Nat) (o : Oper), i < m → ops[i]? = some o → (∀ e ∈ o.after, Region.binds .any e = true → listed.getD e.on false = true) → ∀ t, (o.looksAt ops).contains t = true → (T t).p (a.tmps.getD t undef) w := fun i o him ho hrd t ht => by
        by_cases hd : t ∈ dstsT ops m
        · obtain ⟨j, oj, hjm, hj, hdj⟩ := dstsT_mem hd
          obtain ⟨e, he, hb, hon⟩ := hf.dep i j o oj t him hjm ho hj ht hdj
          exact h.base.got j oj t hjm hj (hon ▸ hrd e he hb) hdj
        · rw [h.base.old t hd]
          refine (T t).st _ _ _ (hout t ?_) h.base.s
          exact List.mem_filter.2 ⟨List.mem_flatMap.2 ⟨o, mem_preL him ho, by simpa using ht⟩, by simpa using hd⟩
      by_cases hlate : ∃ l, l ∈ L ∧ l ∈ Region.ready .any ops listed
      · obtain ⟨l, hlL, hlr⟩ := hlate
        obtain ⟨hu, o, ho, hrd⟩ := mem_ready.1 hlr
        have hlm := hf.late l hlL
        have his : l < ops.size := (Array.getElem?_eq_some_iff.1 ho).1
        have hil : l < listed.size := by rw [h.base.ls]; exact his
        obtain ⟨v, hy, hv⟩ := hL l hlL o ho a w (look l o hlm ho hrd)
        have hdep : ∀ j, j ∈ depsOf ops l → listed.getD j false = true := fun j hj => by
          obtain ⟨o', e, ho', he, hb, rfl⟩ := depsOf_of hj
          rw [ho] at ho'; cases ho'
          exact hrd e he hb
        have hc' : (listed.setIfInBounds l true).toList.count false ≤ fuel := by
          have hu' : listed.toList[l]? = some false := by
            simp only [Array.getD_eq_getD_getElem?, Array.getElem?_eq_getElem hil, Option.getD_some] at hu
            simp [hil, hu]
          have := count_set listed.toList l hu'
          rw [Array.toList_setIfInBounds]
          omega
        exact wpAny_first ho (Region.noSelect_spec hf.sel) (fun c a w => hP o.dst v c a w) fuel listed a w (fun j oj hj hne hun hno => Region.free_spec ho (hf.free l hlL) j oj hj hne (by
            have hjs := (Array.getElem?_eq_some_iff.1 hj).1
            unfold markL
            simp only [Array.getD_eq_getD_getElem?, List.getElem?_toArray, List.getElem?_map, List.getElem?_range hjs, Option.map_some, Option.getD_some]
            cases hm : (clos ops l (depsOf ops l)).contains j with
            | false => rfl
            | true =>
              have h1 := clos_listed (ops := ops) (listed := fun j => listed.getD j false = true) (fun x hx j hj => h.base.closed x hx j hj) l (depsOf ops l) hdep j (by simpa using hm)
              have h2 := getD_tf hun (by rw [h.base.ls]; exact hjs)
              rw [h1] at h2
              cases h2) hno) hlr hy
          (ih _ _ _ hc' (h.putL hf hlm ho hdep (hv w) (Touch.refl _ _) (fun e => by rw [hLn l hlL o ho] at e; cases e)))
      refine ⟨fun hr => absurd (fun i hi => all_listed hf.back h.base.ls hr i (Nat.lt_of_lt_of_le hi hf.le)) hall, fun i hi => ?_⟩
      obtain ⟨hu, o, ho, hrd⟩ := mem_ready.1 hi
      have his : i < ops.size := (Array.getElem?_eq_some_iff.1 ho).1
      have hil : i < listed.size := by rw [h.base.ls]; exact his
      have hdep : ∀ j, j ∈ depsOf ops i → listed.getD j false = true := fun j hj => by
        obtain ⟨o', e, ho', he, hb, rfl⟩ := depsOf_of hj
        rw [ho] at ho'; cases ho'
        exact hrd e he hb
      have him : i < m := by
        apply Classical.byContradiction
        intro hn
        have hcl := clos_listed (ops := ops) (listed := fun j => listed.getD j false = true) (fun x hx j hj => h.base.closed x hx j hj) i (depsOf ops i) hdep
        refine hall fun j hj => ?_
        rcases hf.tail i (by omega) his j (by omega) with h1 | h1
        · exact hcl j h1
        · cases hlj : listed.getD j false with
          | true => rfl
          | false =>
            exfalso
            have hjs : j < ops.size := by omega
            refine hlate ⟨j, h1, mem_ready.2 ⟨?_, ops[j], Array.getElem?_eq_getElem hjs, fun e he hb => ?_⟩⟩
            · have hjl : j < listed.size := by rw [h.base.ls]; exact hjs
              simp only [Array.getD_eq_getD_getElem?, Array.getElem?_eq_getElem hjl, Option.getD_some] at hlj ⊢
              exact hlj
            · exact hcl e.on (hf.lateDep j h1 i (by omega) his e.on (depsOf_mem (Array.getElem?_eq_getElem hjs) he hb))
      have hc' : (listed.setIfInBounds i true).toList.count false ≤ fuel := by
        have hu' : listed.toList[i]? = some false := by
          simp only [Array.getD_eq_getD_getElem?, Array.getElem?_eq_getElem hil, Option.getD_some] at hu
          simp [hil, hu]
        have := count_set listed.toList i hu'
        rw [Array.toList_setIfInBounds]
        omega
      have hlook := look i o him ho hrd
      obtain ⟨h1, h2⟩ := hst o (mem_preL him ho) a w h.base.s hlook
      unfold wpOp
      rw [ho]
      show if Region.wanted o (yielded ops a.tmps) = true then _ else _
      split
      · rename_i hw
        exact .inl (h1 hw _ _ fun v w' hv => ih _ _ _ hc' (h.putL hf him ho hdep hv.1 hv.2.1 hv.2.2))
      · rename_i hw
        exact ih _ _ _ hc' (h.putL hf him ho hdep (h2 (by simpa using hw)).2 (Touch.refl _ _) (fun e => by rw [(h2 (by simpa using hw)).1] at e; cases e))
/-- **THE LAW**: the first m operations by their slots (those of L may float behind the others), the others in their own order. -/
theorem wp_region_flowX {id : Nat} {a : Act} {w : World} (T : Tmp → SP) (hm : P.follows .mixedOrders = true) (m : Nat) (L : List Nat) (hP : ∀ d v c a w, Q (.panic c) (a.put d v) w → Q (.panic c) a w) (hL : ∀ l, l ∈ L → ∀ o, ops[l]? = some o → LateStep P ops T o) (outs ds keep : List Tmp) (al : List (Nat × Tmp))
    (hok : flowOkL ops L m a.tmps.size = true) (houts : ((outerT ops m).all fun t => outs.contains t) = true) (hds : dstsT ops m = ds) (hkeep : (keep.all fun t => ds.contains t) = true)
    (hLn : (L.all fun l => match ops[l]? with | some o => !isNew o | none => true) = true) (hal : (al.all fun p => decide (p.1 < m) && match ops[p.1]? with | some o => isNew o && o.dst == some p.2 | none => false) = true)
    (hout : FAll (fun t => (T t).p (a.tmps.getD t undef) w) outs) (hst : FStepsX P ops w T (preL ops m))
    (hQ : ∀ (f : Tmp → Value) w', Touch [] w w' → FAll (fun t => (T t).p (f t) w') keep → (∀ p, p ∈ al → ∀ q, q ∈ al → p.1 ≠ q.1 → f p.2 ≠ f q.2) → wpList P ops Q (ops.toList.drop m) { tmps := setAll f ds a.tmps, defers := a.defers } w') : (Code.region id ops true).wp P Q a w := by
  subst hds
  have hf := FlowOkL.of hok
  have hrep : ∀ i, (Array.replicate ops.size false).getD i false = false := fun i => by
    rw [Array.getD_eq_getD_getElem?]
    by_cases hi : i < ops.size
    · simp [hi]
    · rw [Array.getElem?_eq_none (by simpa using hi)]
      rfl
  refine wp_region_any hm (wpAny_flowX hf hP hL (fun o ho => hst.at _ o ho) (fun l hl o ho => by have := (List.all_eq_true.1 hLn) l hl; simpa [ho] using this) (fun t ht => hout.at _ t (by simpa using (List.all_eq_true.1 houts) t ht)) (fun a' w' listed hall h => ?_) ops.size _ a w.drew (by simp)
    ⟨⟨(Touch.refl _ _).drew, by simp, rfl, rfl, fun _ _ => rfl, fun i o d _ ho hl _ => absurd (hl.symm.trans (hrep i)) (by simp), fun i hl => absurd (hl.symm.trans (hrep i)) (by simp), fun i _ => hrep i⟩, fun i o d _ _ hl _ _ => absurd (hl.symm.trans (hrep i)) (by simp), fun i j o o' d d' _ _ _ _ hl _ _ _ _ _ => absurd (hl.symm.trans (hrep i)) (by simp)⟩)
  have he : a' = { tmps := setAll (fun t => a'.tmps.getD t undef) (dstsT ops m) a.tmps, defers := a.defers } := by
    obtain ⟨tm, df⟩ := a'
    have h1 : df = a.defers := h.base.defers
    have h2 : tm.size = a.tmps.size := h.base.size
    have h3 : tm = setAll (fun t => tm.getD t undef) (dstsT ops m) a.tmps := by
      refine Array.ext_getElem? fun t => ?_
      by_cases ht : t < a.tmps.size
      · have ht' : t < tm.size := by omega
        by_cases hd : t ∈ dstsT ops m
        · rw [setAll_in _ _ _ t hd ht]
          simp [ht']
        · rw [setAll_out _ _ _ t hd]
          have := h.base.old t hd
          simp only [Array.getD_eq_getD_getElem?, Array.getElem?_eq_getElem ht', Array.getElem?_eq_getElem ht, Option.getD_some] at this
          rw [Array.getElem?_eq_getElem ht', Array.getElem?_eq_getElem ht, this]
      · rw [Array.getElem?_eq_none (by omega), Array.getElem?_eq_none (by rw [setAll_size]; omega)]
    rw [h1]
    exact congrArg (fun x => ({ tmps := x, defers := a.defers } : Act)) h3
  rw [he]
  refine hQ _ w' h.base.s (FAll.of _ fun t ht => ?_) (fun p hp q hq hne => ?_)
  · have hmem : t ∈ dstsT ops m := by simpa using (List.all_eq_true.1 hkeep) t ht
    obtain ⟨i, o, hi, ho, hd⟩ := dstsT_mem hmem
    exact h.base.got i o t hi ho (hall i hi) hd
  · have key : ∀ p, p ∈ al → p.1 < m ∧ ∃ o, ops[p.1]? = some o ∧ isNew o = true ∧ o.dst = some p.2 := fun p hp => by
      have h1 := (List.all_eq_true.1 hal) p hp
      rw [Bool.and_eq_true] at h1
      refine ⟨of_decide_eq_true h1.1, ?_⟩
      have h2 := h1.2
      cases ho : ops[p.1]? with
      | none => rw [ho] at h2; cases h2
      | some o =>
        rw [ho] at h2
        simp only [Bool.and_eq_true, beq_iff_eq] at h2
        exact ⟨o, rfl, h2.1, h2.2⟩
    obtain ⟨hpm, o, ho, hn, hd⟩ := key p hp
    obtain ⟨hqm, o', ho', hn', hd'⟩ := key q hq
    exact h.dist p.1 q.1 o o' p.2 q.2 hpm hqm ho ho' (hall _ hpm) (hall _ hqm) hn hn' hd hd' hne
end
/-! ### A list whose first operations go by their slots -/
section
variable {P : Program} {ops : Array Oper} {Q : Exit → Act → World → Prop}
theorem wpList_seqP {w0 : World} {T : Tmp → SP} {n : Nat} {tl : List Oper} : ∀ (rest : List Oper) (known : List Tmp) (a : Act) (w : World), a.tmps.size = n → seqOk ops n known rest = true →
    (∀ t, t ∈ known → (T t).p (a.tmps.getD t undef) w) → FStepsW P ops w0 T rest → Touch [] w0 w →
    (∀ a' w', Touch [] w w' → a'.tmps.size = a.tmps.size → a'.defers = a.defers → (∀ t, t ∉ dstsL rest → a'.tmps.getD t undef = a.tmps.getD t undef) → (∀ t, t ∈ dstsL rest → (T t).p (a'.tmps.getD t undef) w') → wpList P ops Q tl a' w') →
    wpList P ops Q (rest ++ tl) a w := by
  intro rest
  induction rest with
  | nil => intro known a w _ _ _ _ hS hQ; exact hQ a w (Touch.refl _ _) rfl rfl (fun _ _ => rfl) (fun _ h => by cases h)
  | cons o r ih =>
    intro known a w hn hok hk hst hS hQ
    have hlook : ∀ t, (o.looksAt ops).contains t = true → (T t).p (a.tmps.getD t undef) w := fun t ht => by
      have h1 : (o.looksAt ops).all (fun t => known.contains t) = true := by
        unfold seqOk at hok
        exact (Bool.and_eq_true_iff.1 hok).1
      exact hk t (by simpa using (List.all_eq_true.1 h1) t (by simpa using ht))
    obtain ⟨h1, h2⟩ := hst.1 a w hS hlook
    have step : ∀ v w', dOfW o T v w' → Touch [] w w' → wpList P ops Q (r ++ tl) (a.put o.dst v) w' := by
      intro v w' hv hS'
      cases hd : o.dst with
      | none =>
        have hok' : seqOk ops n known r = true := by
          unfold seqOk at hok
          simp only [hd] at hok
          exact (Bool.and_eq_true_iff.1 hok).2
        refine ih known a w' hn hok' (fun t ht => (T t).st _ _ _ (hk t ht) hS') hst.2 (hS.trans hS') fun a' w'' hS'' hs hdf hout hin => ?_
        have e : dstsL (o :: r) = dstsL r := by unfold dstsL; rw [List.filterMap_cons_none hd]
        exact hQ a' w'' (hS'.trans hS'') hs hdf (by rw [e]; exact hout) (by rw [e]; exact hin)
      | some d =>
        have hok' : d < n ∧ ¬ d ∈ known ∧ seqOk ops n (d :: known) r = true := by
          unfold seqOk at hok
          simp only [hd, Bool.and_eq_true, decide_eq_true_eq, Bool.not_eq_true'] at hok
          exact ⟨hok.2.1.1, by simpa using hok.2.1.2, hok.2.2⟩
        have e : dstsL (o :: r) = d :: dstsL r := by unfold dstsL; rw [List.filterMap_cons_some hd]
        have hget : (a.tmps.setIfInBounds d v).getD d undef = v := getD_put_same _ (by rw [hn]; exact hok'.1) v
        refine ih (d :: known) (a.put (some d) v) w' (by show (a.tmps.setIfInBounds d v).size = n; rw [Array.size_setIfInBounds]; exact hn) hok'.2.2 (fun t ht => ?_) hst.2 (hS.trans hS') fun a' w'' hS'' hs hdf hout hin => ?_
        · show (T t).p ((a.tmps.setIfInBounds d v).getD t undef) w'
          by_cases htd : t = d
          · subst htd; rw [hget]; exact hv t hd
          · rw [getD_put_ne _ (Ne.symm htd)]
            rcases List.mem_cons.1 ht with h | h
            · exact absurd h htd
            · exact (T t).st _ _ _ (hk t h) hS'
        · refine hQ a' w'' (hS'.trans hS'') (hs.trans (by show (a.tmps.setIfInBounds d v).size = _; rw [Array.size_setIfInBounds])) hdf (fun t ht => ?_) (fun t ht => ?_)
          · rw [e] at ht
            rw [hout t (fun h => ht (List.mem_cons_of_mem _ h))]
            show (a.tmps.setIfInBounds d v).getD t undef = _
            exact getD_put_ne _ (fun h : d = t => ht (by rw [h]; exact List.mem_cons_self ..)) v
          · rw [e] at ht
            by_cases hr : t ∈ dstsL r
            · exact hin t hr
            · rcases List.mem_cons.1 ht with h | h
              · subst h
                rw [hout t hr]
                show (T t).p ((a.tmps.setIfInBounds t v).getD t undef) w''
                rw [hget]; exact (T t).st _ _ _ (hv t hd) hS''
              · exact absurd h hr
    show wpList P ops Q (o :: (r ++ tl)) a w
    unfold wpList
    split
    · rename_i hw
      exact .inl (h1 hw _ _ fun v w' hv => step v w' hv.1 hv.2)
    · rename_i hw
      exact step undef w (h2 (by simpa using hw)) (Touch.refl _ _)
/-- **THE LAW**: the first m operations of a list by their slots. -/
theorem wpList_flowP {rest : List Oper} {a : Act} {w : World} (m : Nat) (T : Tmp → SP) (outs ds keep : List Tmp)
    (hok : seqOk ops a.tmps.size outs (rest.take m) = true) (hds : dstsL (rest.take m) = ds) (hkeep : (keep.all fun t => ds.contains t) = true)
    (hout : FAll (fun t => (T t).p (a.tmps.getD t undef) w) outs) (hst : FStepsW P ops w T (rest.take m))
    (hQ : ∀ (f : Tmp → Value) w', Touch [] w w' → FAll (fun t => (T t).p (f t) w') keep → wpList P ops Q (rest.drop m) { tmps := setAll f ds a.tmps, defers := a.defers } w') : wpList P ops Q rest a w := by
  subst hds
  rw [← List.take_append_drop m rest]
  refine wpList_seqP (rest.take m) outs a w rfl hok (fun t ht => hout.at _ t ht) hst (Touch.refl _ _) fun a' w' hS' hs hdf ho hi => ?_
  have he : a' = { tmps := setAll (fun t => a'.tmps.getD t undef) (dstsL (rest.take m)) a.tmps, defers := a.defers } := by
    obtain ⟨tm, df⟩ := a'
    have h1 : df = a.defers := hdf
    have h2 : tm.size = a.tmps.size := hs
    have h3 : tm = setAll (fun t => tm.getD t undef) (dstsL (rest.take m)) a.tmps := by
      refine Array.ext_getElem? fun t => ?_
      by_cases ht : t < a.tmps.size
      · have ht' : t < tm.size := by omega
        by_cases hd : t ∈ dstsL (rest.take m)
        · rw [setAll_in _ _ _ t hd ht]
          simp [ht']
        · rw [setAll_out _ _ _ t hd]
          have := ho t hd
          simp only [Array.getD_eq_getD_getElem?, Array.getElem?_eq_getElem ht', Array.getElem?_eq_getElem ht, Option.getD_some] at this
          rw [Array.getElem?_eq_getElem ht', Array.getElem?_eq_getElem ht, this]
      · rw [Array.getElem?_eq_none (by omega), Array.getElem?_eq_none (by rw [setAll_size]; omega)]
    rw [h1]
    exact congrArg (fun x => ({ tmps := x, defers := a.defers } : Act)) h3
  rw [he]
  refine hQ _ w' hS' (FAll.of _ fun t ht => ?_)
  exact hi t (by simpa using (List.all_eq_true.1 hkeep) t ht)
theorem wpList_nil {a : Act} {w : World} (h : Q .normal a w) : wpList P ops Q [] a w := h
/-- An operation whose outcome is known. -/
theorem wpList_run {o : Oper} {rest : List Oper} {a : Act} {w w' : World} {v : Value} (hg : o.guard = none) (h : (execOp a.eval o).run P w = .ok (.value v) w') (k : wpList P ops Q rest (a.put o.dst v) w') : wpList P ops Q (o :: rest) a w :=
  wpList_plain hg fun _ hK => by
    unfold Oper.wp
    rw [h]
    exact hK _ _ k
end
end Go.Proofs.YtbgpgbfiadhddaaDoor
