/- A region that draws its order, whose last operations wait for all others: the first ones by what is known of their slots, the last ones in their own order. -/
import Derived.Test.YtbgpgbfiadhddaaDoorFlowW
namespace Go.Proofs.YtbgpgbfiadhddaaDoor
open Go
section
variable {P : Program} {ops : Array Oper} {Q : Exit → Act → World → Prop}
def preL (ops : Array Oper) (m : Nat) : List Oper := ops.toList.take m
def depsOf (ops : Array Oper) (i : Nat) : List Nat := match ops[i]? with
  | none => []
  | some o => (o.after.toList.filter fun e => Region.binds .any e).map (·.on)
def clos (ops : Array Oper) : Nat → List Nat → List Nat
  | 0, s => s
  | j + 1, s => clos ops j (if s.contains j then depsOf ops j ++ s else s)
/-- The first m: as flowOk; the others wait for all ahead of them. -/
def flowOkT (ops : Array Oper) (m n : Nat) : Bool :=
  ((List.range m).all fun i => match ops[i]? with
    | none => true
    | some o =>
      (match o.dst with
       | none => true
       | some d => decide (d < n) && (List.range m).all fun j => j == i || (ops[j]?).bind (·.dst) != some d) &&
      ((o.looksAt ops).all fun t => (List.range m).all fun j => (ops[j]?).bind (·.dst) != some t || o.after.any fun e => Region.binds .any e && e.on == j)) &&
  ((List.range ops.size).all fun i => (depsOf ops i).all fun j => decide (j < i)) &&
  ((List.range ops.size).all fun i => decide (i < m) || (let c := clos ops i (depsOf ops i); (List.range i).all fun j => c.contains j)) && decide (m ≤ ops.size)
structure FlowOkT (ops : Array Oper) (m n : Nat) : Prop where
  lt : ∀ (i : Nat) (o : Oper) (d : Tmp), i < m → ops[i]? = some o → o.dst = some d → d < n
  one : ∀ (i j : Nat) (o o' : Oper) (d : Tmp), i < m → j < m → ops[i]? = some o → ops[j]? = some o' → o.dst = some d → o'.dst = some d → j = i
  dep : ∀ (i j : Nat) (o o' : Oper) (t : Tmp), i < m → j < m → ops[i]? = some o → ops[j]? = some o' → (o.looksAt ops).contains t = true → o'.dst = some t → ∃ e ∈ o.after, Region.binds .any e = true ∧ e.on = j
  back : ∀ (i : Nat) (o : Oper) (e : Edge), ops[i]? = some o → e ∈ o.after → Region.binds .any e = true → e.on < i
  tail : ∀ (i : Nat), m ≤ i → i < ops.size → ∀ j, j < i → j ∈ clos ops i (depsOf ops i)
  le : m ≤ ops.size
theorem depsOf_mem {i : Nat} {o : Oper} {e : Edge} (ho : ops[i]? = some o) (he : e ∈ o.after) (hb : Region.binds .any e = true) : e.on ∈ depsOf ops i := by
  unfold depsOf
  rw [ho]
  exact List.mem_map.2 ⟨e, List.mem_filter.2 ⟨by simpa using he, hb⟩, rfl⟩
theorem depsOf_of {i j : Nat} (h : j ∈ depsOf ops i) : ∃ o e, ops[i]? = some o ∧ e ∈ o.after ∧ Region.binds .any e = true ∧ e.on = j := by
  unfold depsOf at h
  cases ho : ops[i]? with
  | none => rw [ho] at h; cases h
  | some o =>
    rw [ho] at h
    obtain ⟨e, he, rfl⟩ := List.mem_map.1 h
    obtain ⟨h1, h2⟩ := List.mem_filter.1 he
    exact ⟨o, e, rfl, by simpa using h1, h2, rfl⟩
theorem FlowOkT.of {m n : Nat} (h : flowOkT ops m n = true) : FlowOkT ops m n := by
  unfold flowOkT at h
  simp only [Bool.and_eq_true] at h
  obtain ⟨⟨⟨h1, h2⟩, h3⟩, h4⟩ := h
  have key : ∀ (i : Nat) (o : Oper), i < m → ops[i]? = some o → _ := fun i o hi ho => by
    have := (List.all_eq_true.1 h1) i (List.mem_range.2 hi)
    simp only [ho, Bool.and_eq_true] at this
    exact this
  refine ⟨fun i o d hi ho hd => ?_, fun i j o o' d hi hj ho ho' hd hd' => ?_, fun i j o o' t hi hj ho ho' ht hd' => ?_, fun i o e ho he hb => ?_, fun i hi hs j hj => ?_, by simpa using h4⟩
  · have := (key i o hi ho).1
    simp only [hd, Bool.and_eq_true, decide_eq_true_eq] at this
    exact this.1
  · have := (key i o hi ho).1
    simp only [hd, Bool.and_eq_true] at this
    have h2 := (List.all_eq_true.1 this.2) j (List.mem_range.2 hj)
    simp only [ho', Option.bind_some, hd', Bool.or_eq_true, beq_iff_eq, bne_self_eq_false, Bool.false_eq_true, or_false] at h2
    exact h2
  · have := (key i o hi ho).2
    have h1 := (List.all_eq_true.1 this) t (by simpa using ht)
    have h2 := (List.all_eq_true.1 h1) j (List.mem_range.2 hj)
    simp only [ho', Option.bind_some, hd', bne_self_eq_false, Bool.false_or] at h2
    obtain ⟨e, he, hh⟩ := Array.any_eq_true'.1 h2
    simp only [Bool.and_eq_true, beq_iff_eq] at hh
    exact ⟨e, he, hh.1, hh.2⟩
  · have hi : i < ops.size := (Array.getElem?_eq_some_iff.1 ho).1
    have := (List.all_eq_true.1 h2) i (List.mem_range.2 hi)
    simpa using (List.all_eq_true.1 this) e.on (depsOf_mem ho he hb)
  · have := (List.all_eq_true.1 h3) i (List.mem_range.2 hs)
    simp only [Bool.or_eq_true, decide_eq_true_eq] at this
    rcases this with h | h
    · omega
    · simpa using (List.all_eq_true.1 h) j (List.mem_range.2 hj)
theorem clos_listed {listed : Nat → Prop} (hc : ∀ i, listed i → ∀ j, j ∈ depsOf ops i → listed j) : ∀ (k : Nat) (s : List Nat), (∀ j, j ∈ s → listed j) → ∀ j, j ∈ clos ops k s → listed j := by
  intro k
  induction k with
  | zero => intro s hs j hj; exact hs j hj
  | succ k ih =>
    intro s hs j hj
    unfold clos at hj
    refine ih _ ?_ j hj
    intro x hx
    split at hx
    · rename_i hk
      rcases List.mem_append.1 hx with h | h
      · exact hc k (hs k (by simpa using hk)) x h
      · exact hs x h
    · exact hs x hx

def dstsT (ops : Array Oper) (m : Nat) : List Tmp := (preL ops m).filterMap (·.dst)
def outerT (ops : Array Oper) (m : Nat) : List Tmp := ((preL ops m).flatMap fun o => o.looksAt ops).filter fun t => !(dstsT ops m).contains t
theorem mem_preL {m i : Nat} {o : Oper} (hi : i < m) (ho : ops[i]? = some o) : o ∈ preL ops m := by
  unfold preL
  refine List.mem_iff_getElem?.2 ⟨i, ?_⟩
  rw [List.getElem?_take, if_pos hi]
  simpa using ho
theorem preL_mem {m : Nat} {o : Oper} (h : o ∈ preL ops m) : ∃ i, i < m ∧ ops[i]? = some o := by
  obtain ⟨i, hi⟩ := List.mem_iff_getElem?.1 h
  unfold preL at hi
  rw [List.getElem?_take] at hi
  split at hi
  · rename_i hlt
    exact ⟨i, hlt, by simpa using hi⟩
  · cases hi
theorem mem_dstsT {m i : Nat} {o : Oper} {d : Tmp} (hi : i < m) (ho : ops[i]? = some o) (hd : o.dst = some d) : d ∈ dstsT ops m :=
  List.mem_filterMap.2 ⟨o, mem_preL hi ho, hd⟩
theorem dstsT_mem {m : Nat} {d : Tmp} (h : d ∈ dstsT ops m) : ∃ (i : Nat) (o : Oper), i < m ∧ ops[i]? = some o ∧ o.dst = some d := by
  obtain ⟨o, ho, hd⟩ := List.mem_filterMap.1 h
  obtain ⟨i, hi, h⟩ := preL_mem ho
  exact ⟨i, o, hi, h, hd⟩

structure FInvT (ops : Array Oper) (m : Nat) (w0 : World) (T : Tmp → SP) (a0 : Act) (listed : Array Bool) (a : Act) (w : World) : Prop where
  s : Touch [] w0 w
  ls : listed.size = ops.size
  size : a.tmps.size = a0.tmps.size
  defers : a.defers = a0.defers
  old : ∀ t, t ∉ dstsT ops m → a.tmps.getD t undef = a0.tmps.getD t undef
  got : ∀ (i : Nat) (o : Oper) (d : Tmp), i < m → ops[i]? = some o → listed.getD i false = true → o.dst = some d → (T d).p (a.tmps.getD d undef) w
  closed : ∀ i, listed.getD i false = true → ∀ j, j ∈ depsOf ops i → listed.getD j false = true
  none : ∀ i, m ≤ i → listed.getD i false = false

theorem set_listed {listed : Array Bool} {i j : Nat} (h : (listed.setIfInBounds i true).getD j false = true) : j = i ∨ listed.getD j false = true := by
  by_cases hij : i = j
  · exact .inl hij.symm
  · exact .inr (by rwa [getD_set_ne false hij] at h)
theorem listed_set {listed : Array Bool} {i j : Nat} (h : listed.getD j false = true) : (listed.setIfInBounds i true).getD j false = true := by
  by_cases hij : i = j
  · subst hij
    have hj : i < listed.size := by
      apply Classical.byContradiction
      intro hn
      rw [Array.getD_eq_getD_getElem?, Array.getElem?_eq_none (by omega)] at h
      cases h
    simp [Array.getD_eq_getD_getElem?, hj]
  · rw [getD_set_ne false hij]; exact h

theorem FInvT.put {m : Nat} {w0 : World} {T : Tmp → SP} {a0 a : Act} {listed : Array Bool} {w w' : World} (hf : FlowOkT ops m a0.tmps.size) (h : FInvT ops m w0 T a0 listed a w) {i : Nat} {o : Oper} (hi : i < m) (ho : ops[i]? = some o)
    (hdeps : ∀ j, j ∈ depsOf ops i → listed.getD j false = true) {v : Value} (hv : dOfW o T v w') (hS : Touch [] w w') : FInvT ops m w0 T a0 (listed.setIfInBounds i true) (a.put o.dst v) w' := by
  have hcl : ∀ k, (listed.setIfInBounds i true).getD k false = true → ∀ j, j ∈ depsOf ops k → (listed.setIfInBounds i true).getD j false = true := fun k hk j hj => by
    rcases set_listed hk with rfl | hk
    · exact listed_set (hdeps j hj)
    · exact listed_set (h.closed k hk j hj)
  have hnone : ∀ k, m ≤ k → (listed.setIfInBounds i true).getD k false = false := fun k hk => by
    rw [getD_set_ne false (by omega : i ≠ k)]; exact h.none k hk
  cases hd : o.dst with
  | none =>
    refine ⟨h.s.trans hS, by rw [Array.size_setIfInBounds]; exact h.ls, h.size, h.defers, h.old, fun j oj d hjm hj hl hdj => ?_, hcl, hnone⟩
    rcases set_listed hl with rfl | hl
    · rw [ho] at hj; cases hj
      rw [hd] at hdj; cases hdj
    · exact (T d).st _ _ _ (h.got j oj d hjm hj hl hdj) hS
  | some d =>
    refine ⟨h.s.trans hS, by rw [Array.size_setIfInBounds]; exact h.ls, (by show (a.tmps.setIfInBounds d v).size = _; rw [Array.size_setIfInBounds]; exact h.size), h.defers, fun t ht => ?_, fun j oj d' hjm hj hl hdj => ?_, hcl, hnone⟩
    · show (a.tmps.setIfInBounds d v).getD t undef = _
      rw [getD_put_ne _ (fun e : d = t => ht (by rw [← e]; exact mem_dstsT hi ho hd))]
      exact h.old t ht
    · show (T d').p ((a.tmps.setIfInBounds d v).getD d' undef) w'
      by_cases hij : j = i
      · subst hij
        rw [ho] at hj; cases hj
        rw [hd] at hdj; cases hdj
        rw [getD_put_same _ (by rw [h.size]; exact hf.lt j o d hi ho hd)]
        exact hv d hd
      · rw [getD_put_ne _ (fun e : d = d' => hij (hf.one i j o oj d' hi hjm ho hj (by rw [← e]; exact hd) hdj))]
        rcases set_listed hl with rfl | hl
        · exact absurd rfl hij
        · exact (T d').st _ _ _ (h.got j oj d' hjm hj hl hdj) hS

theorem all_listed {listed : Array Bool} (hb : ∀ (i : Nat) (o : Oper) (e : Edge), ops[i]? = some o → e ∈ o.after → Region.binds .any e = true → e.on < i) (hls : listed.size = ops.size) (hr : Region.ready .any ops listed = []) : ∀ i, i < ops.size → listed.getD i false = true := by
  intro i
  induction i using Nat.strongRecOn with
  | ind i ih =>
    intro hi
    cases hl : listed.getD i false with
    | true => rfl
    | false =>
      have ho : ops[i]? = some ops[i] := Array.getElem?_eq_getElem hi
      have hm : i ∈ Region.ready .any ops listed := mem_ready.2 ⟨by
        have hi' : i < listed.size := by omega
        simp only [Array.getD_eq_getD_getElem?, Array.getElem?_eq_getElem hi', Option.getD_some] at hl ⊢
        exact hl, ops[i], ho, fun e he hbi => by
        have := hb i _ e ho he hbi
        exact ih e.on this (by omega)⟩
      rw [hr] at hm
      cases hm
theorem getD_tf {listed : Array Bool} {i : Nat} (h : listed.getD i true = false) (hs : i < listed.size) : listed.getD i false = false := by
  simp only [Array.getD_eq_getD_getElem?, Array.getElem?_eq_getElem hs, Option.getD_some] at h ⊢
  exact h

theorem wpAny_tail {m n : Nat} (hf : FlowOkT ops m n) : ∀ (fuel k : Nat) (listed : Array Bool) (a : Act) (w : World), m ≤ k → k ≤ ops.size → listed.size = ops.size → (∀ j, j < ops.size → (listed.getD j false = true ↔ j < k)) → ops.size - k ≤ fuel →
    wpList P ops Q (ops.toList.drop k) a w → wpAny P .any ops Q fuel listed a w := by
  have one : ∀ (k : Nat) (listed : Array Bool), m ≤ k → listed.size = ops.size → (∀ j, j < ops.size → (listed.getD j false = true ↔ j < k)) → ∀ i, i ∈ Region.ready .any ops listed → i = k ∧ k < ops.size := by
    intro k listed hmk hls hl i hi
    obtain ⟨hu, o, ho, hall⟩ := mem_ready.1 hi
    have his : i < ops.size := (Array.getElem?_eq_some_iff.1 ho).1
    have hu' := getD_tf hu (by omega)
    have hik : ¬ i < k := fun h => by rw [(hl i his).2 h] at hu'; cases hu'
    have hdep : ∀ j, j ∈ depsOf ops i → listed.getD j false = true := fun j hj => by
      obtain ⟨o', e, ho', he, hb, rfl⟩ := depsOf_of hj
      rw [ho] at ho'; cases ho'
      exact hall e he hb
    have hcl := clos_listed (ops := ops) (listed := fun j => listed.getD j false = true) (fun x hx j hj => by
      have hxs : x < ops.size := by
        obtain ⟨o', _, ho', _⟩ := depsOf_of hj
        exact (Array.getElem?_eq_some_iff.1 ho').1
      have hxk := (hl x hxs).1 hx
      obtain ⟨o', e, ho', he, hb, rfl⟩ := depsOf_of hj
      have := hf.back x o' e ho' he hb
      exact (hl _ (by omega)).2 (by omega)) i (depsOf ops i) hdep
    have hall' : ∀ j, j < i → j < k := fun j hj => (hl j (by omega)).1 (hcl j (hf.tail i (by omega) his j hj))
    refine ⟨?_, ?_⟩
    · apply Classical.byContradiction
      intro hne
      have := hall' k (by omega)
      omega
    · apply Classical.byContradiction
      intro hne
      omega
  intro fuel
  induction fuel with
  | zero =>
    intro k listed a w hmk hks hls hl hfu h
    have hr : Region.ready .any ops listed = [] := by
      refine List.eq_nil_iff_forall_not_mem.2 fun i hi => ?_
      have := one k listed hmk hls hl i hi
      omega
    rw [List.drop_of_length_le (by simp; omega)] at h
    exact ⟨hr, h⟩
  | succ fuel ih =>
    intro k listed a w hmk hks hls hl hfu h
    refine ⟨fun hr => ?_, fun i hi => ?_⟩
    · have hk : k = ops.size := by
        apply Classical.byContradiction
        intro hne
        have := (hl k (by omega)).1 (all_listed hf.back hls hr k (by omega))
        omega
      rw [List.drop_of_length_le (by simp; omega)] at h
      exact h
    · obtain ⟨rfl, hks'⟩ := one k listed hmk hls hl i hi
      have ho : ops[i]? = some ops[i] := Array.getElem?_eq_getElem hks'
      have hd : ops.toList.drop i = ops[i] :: ops.toList.drop (i + 1) := by
        rw [List.drop_eq_getElem_cons (by simpa using hks')]
        simp
      rw [hd] at h
      have step : ∀ a' w', wpList P ops Q (ops.toList.drop (i + 1)) a' w' → wpAny P .any ops Q fuel (listed.setIfInBounds i true) a' w' := fun a' w' h' => by
        refine ih (i + 1) _ a' w' (by omega) (by omega) (by rw [Array.size_setIfInBounds]; exact hls) (fun j hj => ?_) (by omega) h'
        by_cases hij : i = j
        · subst hij
          simp [Array.getD_eq_getD_getElem?, hls, hj]
        · rw [getD_set_ne false hij, hl j hj]
          omega
      unfold wpList at h
      unfold wpOp
      rw [ho]
      show if Region.wanted ops[i] (yielded ops a.tmps) = true then _ else _
      split
      · rename_i hw
        rw [if_pos hw] at h
        exact h.imp (Oper.wp_mono step) id
      · rename_i hw
        rw [if_neg hw] at h
        exact step _ _ h

theorem wpAny_flowT {m : Nat} {w0 : World} {T : Tmp → SP} {a0 : Act} (hf : FlowOkT ops m a0.tmps.size) (hst : ∀ o, o ∈ preL ops m → FStepW P ops w0 T o)
    (hout : ∀ t, t ∈ outerT ops m → (T t).p (a0.tmps.getD t undef) w0)
    (hQ : ∀ a w listed, (∀ i, i < m → listed.getD i false = true) → FInvT ops m w0 T a0 listed a w → wpList P ops Q (ops.toList.drop m) a w) :
    ∀ (fuel : Nat) (listed : Array Bool) (a : Act) (w : World), listed.toList.count false ≤ fuel → FInvT ops m w0 T a0 listed a w → wpAny P .any ops Q fuel listed a w := by
  have fin : ∀ (fuel : Nat) (listed : Array Bool) (a : Act) (w : World), (∀ i, i < m → listed.getD i false = true) → ops.size - m ≤ fuel → FInvT ops m w0 T a0 listed a w → wpAny P .any ops Q fuel listed a w := fun fuel listed a w hall hfu h =>
    wpAny_tail hf fuel m listed a w (Nat.le_refl _) hf.le h.ls (fun j _ => ⟨fun hj => Classical.byContradiction fun hn => absurd (hj.symm.trans (h.none j (by omega))) (by simp), hall j⟩) hfu (hQ a w listed hall h)
  have cnt : ∀ (listed : Array Bool), listed.size = ops.size → (∀ i, m ≤ i → listed.getD i false = false) → ops.size - m ≤ listed.toList.count false := fun listed hls hn => by
    have h1 : (listed.toList.drop m).count false = ops.size - m := by
      rw [List.count_eq_length.2]
      · simp [hls]
      · intro b hb
        obtain ⟨j, hj, rfl⟩ := List.getElem_of_mem hb
        have hj' : m + j < listed.size := by simp at hj; omega
        have := hn (m + j) (by omega)
        simp only [Array.getD_eq_getD_getElem?, Array.getElem?_eq_getElem hj', Option.getD_some] at this
        simp [this]
    have h2 := List.count_append (a := false) (l₁ := listed.toList.take m) (l₂ := listed.toList.drop m)
    rw [List.take_append_drop] at h2
    omega
  intro fuel
  induction fuel with
  | zero =>
    intro listed a w hc h
    have h1 := cnt listed h.ls h.none
    refine fin 0 listed a w (fun i hi => ?_) (by omega) h
    cases hl : listed.getD i false with
    | true => rfl
    | false =>
      exfalso
      have hil : i < listed.size := by rw [h.ls]; have := hf.le; omega
      simp only [Array.getD_eq_getD_getElem?, Array.getElem?_eq_getElem hil, Option.getD_some] at hl
      have hmem : false ∈ listed.toList := by
        rw [← hl]
        exact Array.mem_toList_iff.2 (Array.getElem_mem hil)
      have := List.count_pos_iff.2 hmem
      omega
  | succ fuel ih =>
    intro listed a w hc h
    by_cases hall : ∀ i, i < m → listed.getD i false = true
    · exact fin _ listed a w hall (Nat.le_trans (cnt listed h.ls h.none) hc) h
    · refine ⟨fun hr => absurd (fun i hi => all_listed hf.back h.ls hr i (Nat.lt_of_lt_of_le hi hf.le)) hall, fun i hi => ?_⟩
      obtain ⟨hu, o, ho, hrd⟩ := mem_ready.1 hi
      have his : i < ops.size := (Array.getElem?_eq_some_iff.1 ho).1
      have hil : i < listed.size := by rw [h.ls]; exact his
      have hdep : ∀ j, j ∈ depsOf ops i → listed.getD j false = true := fun j hj => by
        obtain ⟨o', e, ho', he, hb, rfl⟩ := depsOf_of hj
        rw [ho] at ho'; cases ho'
        exact hrd e he hb
      have him : i < m := by
        apply Classical.byContradiction
        intro hn
        exact hall fun j hj => clos_listed (ops := ops) (listed := fun j => listed.getD j false = true) (fun x hx j hj => h.closed x hx j hj) i (depsOf ops i) hdep j (hf.tail i (by omega) his j (by omega))
      have hc' : (listed.setIfInBounds i true).toList.count false ≤ fuel := by
        have hu' : listed.toList[i]? = some false := by
          simp only [Array.getD_eq_getD_getElem?, Array.getElem?_eq_getElem hil, Option.getD_some] at hu
          simp [hil, hu]
        have := count_set listed.toList i hu'
        rw [Array.toList_setIfInBounds]
        omega
      have hlook : ∀ t, (o.looksAt ops).contains t = true → (T t).p (a.tmps.getD t undef) w := fun t ht => by
        by_cases hd : t ∈ dstsT ops m
        · obtain ⟨j, oj, hjm, hj, hdj⟩ := dstsT_mem hd
          obtain ⟨e, he, hb, hon⟩ := hf.dep i j o oj t him hjm ho hj ht hdj
          exact h.got j oj t hjm hj (hon ▸ hrd e he hb) hdj
        · rw [h.old t hd]
          refine (T t).st _ _ _ (hout t ?_) h.s
          exact List.mem_filter.2 ⟨List.mem_flatMap.2 ⟨o, mem_preL him ho, by simpa using ht⟩, by simpa using hd⟩
      obtain ⟨h1, h2⟩ := hst o (mem_preL him ho) a w h.s hlook
      unfold wpOp
      rw [ho]
      show if Region.wanted o (yielded ops a.tmps) = true then _ else _
      split
      · rename_i hw
        exact .inl (h1 hw _ _ fun v w' hv => ih _ _ _ hc' (h.put hf him ho hdep hv.1 hv.2))
      · rename_i hw
        exact ih _ _ _ hc' (h.put hf him ho hdep (h2 (by simpa using hw)) (Touch.refl _ _))

/-- **THE LAW**: the first m operations by their slots, the others in their own order. -/
theorem wp_region_flowT {id : Nat} {a : Act} {w : World} (hm : P.follows .mixedOrders = true) (m : Nat) (T : Tmp → SP) (outs ds keep : List Tmp)
    (hok : flowOkT ops m a.tmps.size = true) (houts : ((outerT ops m).all fun t => outs.contains t) = true) (hds : dstsT ops m = ds) (hkeep : (keep.all fun t => ds.contains t) = true)
    (hout : FAll (fun t => (T t).p (a.tmps.getD t undef) w) outs) (hst : FStepsW P ops w T (preL ops m))
    (hQ : ∀ (f : Tmp → Value) w', Touch [] w w' → FAll (fun t => (T t).p (f t) w') keep → wpList P ops Q (ops.toList.drop m) { tmps := setAll f ds a.tmps, defers := a.defers } w') : (Code.region id ops true).wp P Q a w := by
  subst hds
  have hf := FlowOkT.of hok
  have hrep : ∀ i, (Array.replicate ops.size false).getD i false = false := fun i => by
    rw [Array.getD_eq_getD_getElem?]
    by_cases hi : i < ops.size
    · simp [hi]
    · rw [Array.getElem?_eq_none (by simpa using hi)]
      rfl
  refine wp_region_any hm (wpAny_flowT hf (fun o ho => hst.at _ o ho) (fun t ht => hout.at _ t (by simpa using (List.all_eq_true.1 houts) t ht)) (fun a' w' listed hall h => ?_) ops.size _ a w.drew (by simp)
    ⟨(Touch.refl _ _).drew, by simp, rfl, rfl, fun _ _ => rfl, fun i o d _ ho hl _ => absurd (hl.symm.trans (hrep i)) (by simp), fun i hl => absurd (hl.symm.trans (hrep i)) (by simp), fun i _ => hrep i⟩)
  have he : a' = { tmps := setAll (fun t => a'.tmps.getD t undef) (dstsT ops m) a.tmps, defers := a.defers } := by
    obtain ⟨tm, df⟩ := a'
    have h1 : df = a.defers := h.defers
    have h2 : tm.size = a.tmps.size := h.size
    have h3 : tm = setAll (fun t => tm.getD t undef) (dstsT ops m) a.tmps := by
      refine Array.ext_getElem? fun t => ?_
      by_cases ht : t < a.tmps.size
      · have ht' : t < tm.size := by omega
        by_cases hd : t ∈ dstsT ops m
        · rw [setAll_in _ _ _ t hd ht]
          simp [ht']
        · rw [setAll_out _ _ _ t hd]
          have := h.old t hd
          simp only [Array.getD_eq_getD_getElem?, Array.getElem?_eq_getElem ht', Array.getElem?_eq_getElem ht, Option.getD_some] at this
          rw [Array.getElem?_eq_getElem ht', Array.getElem?_eq_getElem ht, this]
      · rw [Array.getElem?_eq_none (by omega), Array.getElem?_eq_none (by rw [setAll_size]; omega)]
    rw [h1]
    exact congrArg (fun x => ({ tmps := x, defers := a.defers } : Act)) h3
  rw [he]
  refine hQ _ w' h.s (FAll.of _ fun t ht => ?_)
  have hmem : t ∈ dstsT ops m := by simpa using (List.all_eq_true.1 hkeep) t ht
  obtain ⟨i, o, hi, ho, hd⟩ := dstsT_mem hmem
  exact h.got i o t hi ho (hall i hi) hd
end
end Go.Proofs.YtbgpgbfiadhddaaDoor
