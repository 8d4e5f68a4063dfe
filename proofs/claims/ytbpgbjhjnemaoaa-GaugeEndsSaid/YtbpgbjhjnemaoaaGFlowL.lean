/- A drawn region, as XGFlow's, where some operations that only reckon may float behind the stores. -/
import Derived.Test.YtbpgbjhjnemaoaaGFlow
namespace Go.Proofs.Ytbpgbjhjnemaoaa
open Go Go.RowKit
section
variable {P : Program} {ops : Array Oper} {Q : Exit → Act → World → Prop}
/-- An operation that only reckons: its value is known, whatever the world. -/
def LateStep (P : Program) (ops : Array Oper) (T : Tmp → SP) (o : Oper) : Prop := ∀ a w, knownW ops T o a w → ∃ v, Yields P ops o v a ∧ ∀ w', dOfW o T v w'
/-- What an operation waits for. -/
def markL (ops : Array Oper) (l : Nat) : Array Bool := ((List.range ops.size).map fun j => (clos ops l (depsOf ops l)).contains j).toArray
def flowOkL (ops : Array Oper) (L : List Nat) (m n : Nat) : Bool :=
  ((List.range m).all fun i => match ops[i]? with
    | none => true
    | some o =>
      (match o.dst with
       | none => true
       | some d => decide (d < n) && (List.range m).all fun j => j == i || (ops[j]?).bind (·.dst) != some d) &&
      ((o.looksAt ops).all fun t => (List.range m).all fun j => (ops[j]?).bind (·.dst) != some t || o.after.any fun e => Region.binds .any e && e.on == j)) &&
  ((List.range ops.size).all fun i => (depsOf ops i).all fun j => decide (j < i)) &&
  ((List.range ops.size).all fun i => decide (i < m) || (let c := clos ops i (depsOf ops i); ((List.range i).all fun j => c.contains j || L.contains j) && L.all fun l => (depsOf ops l).all fun j => c.contains j)) && decide (m ≤ ops.size) &&
  Region.noSelect ops && L.all fun l => decide (l < m) && Region.free .any ops (markL ops l) l
structure FlowOkL (ops : Array Oper) (L : List Nat) (m n : Nat) : Prop where
  lt : ∀ (i : Nat) (o : Oper) (d : Tmp), i < m → ops[i]? = some o → o.dst = some d → d < n
  one : ∀ (i j : Nat) (o o' : Oper) (d : Tmp), i < m → j < m → ops[i]? = some o → ops[j]? = some o' → o.dst = some d → o'.dst = some d → j = i
  dep : ∀ (i j : Nat) (o o' : Oper) (t : Tmp), i < m → j < m → ops[i]? = some o → ops[j]? = some o' → (o.looksAt ops).contains t = true → o'.dst = some t → ∃ e ∈ o.after, Region.binds .any e = true ∧ e.on = j
  back : ∀ (i : Nat) (o : Oper) (e : Edge), ops[i]? = some o → e ∈ o.after → Region.binds .any e = true → e.on < i
  tail : ∀ (i : Nat), m ≤ i → i < ops.size → ∀ j, j < i → j ∈ clos ops i (depsOf ops i) ∨ j ∈ L
  lateDep : ∀ l, l ∈ L → ∀ (i : Nat), m ≤ i → i < ops.size → ∀ j, j ∈ depsOf ops l → j ∈ clos ops i (depsOf ops i)
  late : ∀ l, l ∈ L → l < m
  free : ∀ l, l ∈ L → Region.free .any ops (markL ops l) l = true
  sel : Region.noSelect ops = true
  le : m ≤ ops.size
theorem FlowOkL.of {L : List Nat} {m n : Nat} (h : flowOkL ops L m n = true) : FlowOkL ops L m n := by
  unfold flowOkL at h
  simp only [Bool.and_eq_true] at h
  obtain ⟨⟨⟨⟨⟨h1, h2⟩, h3⟩, h4⟩, h5⟩, h6⟩ := h
  have key : ∀ (i : Nat) (o : Oper), i < m → ops[i]? = some o → _ := fun i o hi ho => by
    have := (List.all_eq_true.1 h1) i (List.mem_range.2 hi)
    simp only [ho, Bool.and_eq_true] at this
    exact this
  refine ⟨fun i o d hi ho hd => ?_, fun i j o o' d hi hj ho ho' hd hd' => ?_, fun i j o o' t hi hj ho ho' ht hd' => ?_, fun i o e ho he hb => ?_, fun i hi hs j hj => ?_, fun l hl i hi hs j hj => ?_, fun l hl => ?_, fun l hl => ?_, h5, by simpa using h4⟩
  · have := (key i o hi ho).1
    simp only [hd, Bool.and_eq_true, decide_eq_true_eq] at this
    exact this.1
  · have := (key i o hi ho).1
    simp only [hd, Bool.and_eq_true] at this
    have h2 := (List.all_eq_true.1 this.2) j (List.mem_range.2 hj)
    simp only [ho', Option.bind_some, hd', Bool.or_eq_true, beq_iff_eq, bne_self_eq_false, Bool.false_eq_true, or_false] at h2
    exact h2
  · have := (key i o hi ho).2
    have h1 := (List.all_eq_true.1 this) t (by simpa using ht)
    have h2 := (List.all_eq_true.1 h1) j (List.mem_range.2 hj)
    simp only [ho', Option.bind_some, hd', bne_self_eq_false, Bool.false_or] at h2
    obtain ⟨e, he, hh⟩ := Array.any_eq_true'.1 h2
    simp only [Bool.and_eq_true, beq_iff_eq] at hh
    exact ⟨e, he, hh.1, hh.2⟩
  · have hi : i < ops.size := (Array.getElem?_eq_some_iff.1 ho).1
    have := (List.all_eq_true.1 h2) i (List.mem_range.2 hi)
    simpa using (List.all_eq_true.1 this) e.on (depsOf_mem ho he hb)
  · have := (List.all_eq_true.1 h3) i (List.mem_range.2 hs)
    simp only [Bool.or_eq_true, decide_eq_true_eq] at this
    rcases this with h | h
    · omega
    · have h := (List.all_eq_true.1 (Bool.and_eq_true_iff.1 h).1) j (List.mem_range.2 hj)
      rcases Bool.or_eq_true_iff.1 h with h | h
      · exact .inl (by simpa using h)
      · exact .inr (by simpa using h)
  · have := (List.all_eq_true.1 h3) i (List.mem_range.2 hs)
    simp only [Bool.or_eq_true, decide_eq_true_eq] at this
    rcases this with h | h
    · omega
    · have h := (List.all_eq_true.1 (List.all_eq_true.1 (Bool.and_eq_true_iff.1 h).2 l hl)) j hj
      simpa using h
  · exact of_decide_eq_true (Bool.and_eq_true_iff.1 ((List.all_eq_true.1 h6) l hl)).1
  · exact (Bool.and_eq_true_iff.1 ((List.all_eq_true.1 h6) l hl)).2
theorem FInvT.putL {L : List Nat} {m : Nat} {w0 : World} {T : Tmp → SP} {a0 a : Act} {listed : Array Bool} {w w' : World} (hf : FlowOkL ops L m a0.tmps.size) (h : FInvT ops m w0 T a0 listed a w) {i : Nat} {o : Oper} (hi : i < m) (ho : ops[i]? = some o)
    (hdeps : ∀ j, j ∈ depsOf ops i → listed.getD j false = true) {v : Value} (hv : dOfW o T v w') (hS : Touch [] w w') : FInvT ops m w0 T a0 (listed.setIfInBounds i true) (a.put o.dst v) w' := by
  have hcl : ∀ k, (listed.setIfInBounds i true).getD k false = true → ∀ j, j ∈ depsOf ops k → (listed.setIfInBounds i true).getD j false = true := fun k hk j hj => by
    rcases set_listed hk with rfl | hk
    · exact listed_set (hdeps j hj)
    · exact listed_set (h.closed k hk j hj)
  have hnone : ∀ k, m ≤ k → (listed.setIfInBounds i true).getD k false = false := fun k hk => by
    rw [getD_set_ne false (by omega : i ≠ k)]; exact h.none k hk
  cases hd : o.dst with
  | none =>
    refine ⟨h.s.trans hS, by rw [Array.size_setIfInBounds]; exact h.ls, h.size, h.defers, h.old, fun j oj d hjm hj hl hdj => ?_, hcl, hnone⟩
    rcases set_listed hl with rfl | hl
    · rw [ho] at hj; cases hj
      rw [hd] at hdj; cases hdj
    · exact (T d).st _ _ _ (h.got j oj d hjm hj hl hdj) hS
  | some d =>
    refine ⟨h.s.trans hS, by rw [Array.size_setIfInBounds]; exact h.ls, (by show (a.tmps.setIfInBounds d v).size = _; rw [Array.size_setIfInBounds]; exact h.size), h.defers, fun t ht => ?_, fun j oj d' hjm hj hl hdj => ?_, hcl, hnone⟩
    · show (a.tmps.setIfInBounds d v).getD t undef = _
      rw [getD_put_ne _ (fun e : d = t => ht (by rw [← e]; exact mem_dstsT hi ho hd))]
      exact h.old t ht
    · show (T d').p ((a.tmps.setIfInBounds d v).getD d' undef) w'
      by_cases hij : j = i
      · subst hij
        rw [ho] at hj; cases hj
        rw [hd] at hdj; cases hdj
        rw [getD_put_same _ (by rw [h.size]; exact hf.lt j o d hi ho hd)]
        exact hv d hd
      · rw [getD_put_ne _ (fun e : d = d' => hij (hf.one i j o oj d' hi hjm ho hj (by rw [← e]; exact hd) hdj))]
        rcases set_listed hl with rfl | hl
        · exact absurd rfl hij
        · exact (T d').st _ _ _ (h.got j oj d' hjm hj hl hdj) hS
theorem wpAny_tailL {m n : Nat} {L : List Nat} (hf : FlowOkL ops L m n) : ∀ (fuel k : Nat) (listed : Array Bool) (a : Act) (w : World), m ≤ k → k ≤ ops.size → listed.size = ops.size → (∀ j, j < ops.size → (listed.getD j false = true ↔ j < k)) → ops.size - k ≤ fuel →
    wpList P ops Q (ops.toList.drop k) a w → wpAny P .any ops Q fuel listed a w := by
  have one : ∀ (k : Nat) (listed : Array Bool), m ≤ k → listed.size = ops.size → (∀ j, j < ops.size → (listed.getD j false = true ↔ j < k)) → ∀ i, i ∈ Region.ready .any ops listed → i = k ∧ k < ops.size := by
    intro k listed hmk hls hl i hi
    obtain ⟨hu, o, ho, hall⟩ := mem_ready.1 hi
    have his : i < ops.size := (Array.getElem?_eq_some_iff.1 ho).1
    have hu' := getD_tf hu (by omega)
    have hik : ¬ i < k := fun h => by rw [(hl i his).2 h] at hu'; cases hu'
    have hdep : ∀ j, j ∈ depsOf ops i → listed.getD j false = true := fun j hj => by
      obtain ⟨o', e, ho', he, hb, rfl⟩ := depsOf_of hj
      rw [ho] at ho'; cases ho'
      exact hall e he hb
    have hcl := clos_listed (ops := ops) (listed := fun j => listed.getD j false = true) (fun x hx j hj => by
      have hxs : x < ops.size := by
        obtain ⟨o', _, ho', _⟩ := depsOf_of hj
        exact (Array.getElem?_eq_some_iff.1 ho').1
      have hxk := (hl x hxs).1 hx
      obtain ⟨o', e, ho', he, hb, rfl⟩ := depsOf_of hj
      have := hf.back x o' e ho' he hb
      exact (hl _ (by omega)).2 (by omega)) i (depsOf ops i) hdep
    have hall' : ∀ j, j < i → j < k := fun j hj => by
      rcases hf.tail i (by omega) his j hj with h1 | h1
      · exact (hl j (by omega)).1 (hcl j h1)
      · have := hf.late j h1
        omega
    refine ⟨?_, ?_⟩
    · apply Classical.byContradiction
      intro hne
      have := hall' k (by omega)
      omega
    · apply Classical.byContradiction
      intro hne
      omega
  intro fuel
  induction fuel with
  | zero =>
    intro k listed a w hmk hks hls hl hfu h
    have hr : Region.ready .any ops listed = [] := by
      refine List.eq_nil_iff_forall_not_mem.2 fun i hi => ?_
      have := one k listed hmk hls hl i hi
      omega
    rw [List.drop_of_length_le (by simp; omega)] at h
    exact ⟨hr, h⟩
  | succ fuel ih =>
    intro k listed a w hmk hks hls hl hfu h
    refine ⟨fun hr => ?_, fun i hi => ?_⟩
    · have hk : k = ops.size := by
        apply Classical.byContradiction
        intro hne
        have := (hl k (by omega)).1 (all_listed hf.back hls hr k (by omega))
        omega
      rw [List.drop_of_length_le (by simp; omega)] at h
      exact h
    · obtain ⟨rfl, hks'⟩ := one k listed hmk hls hl i hi
      have ho : ops[i]? = some ops[i] := Array.getElem?_eq_getElem hks'
      have hd : ops.toList.drop i = ops[i] :: ops.toList.drop (i + 1) := by
        rw [List.drop_eq_getElem_cons (by simpa using hks')]
        simp
      rw [hd] at h
      have step : ∀ a' w', wpList P ops Q (ops.toList.drop (i + 1)) a' w' → wpAny P .any ops Q fuel (listed.setIfInBounds i true) a' w' := fun a' w' h' => by
        refine ih (i + 1) _ a' w' (by omega) (by omega) (by rw [Array.size_setIfInBounds]; exact hls) (fun j hj => ?_) (by omega) h'
        by_cases hij : i = j
        · subst hij
          simp [Array.getD_eq_getD_getElem?, hls, hj]
        · rw [getD_set_ne false hij, hl j hj]
          omega
      unfold wpList at h
      unfold wpOp
      rw [ho]
      show if Region.wanted ops[i] (yielded ops a.tmps) = true then _ else _
      split
      · rename_i hw
        rw [if_pos hw] at h
        exact h.imp (Oper.wp_mono step) id
      · rename_i hw
        rw [if_neg hw] at h
        exact step _ _ h
theorem wpAny_flowL {m : Nat} {L : List Nat} {w0 : World} {T : Tmp → SP} {a0 : Act} (hf : FlowOkL ops L m a0.tmps.size) (hP : ∀ d v c a w, Q (.panic c) (a.put d v) w → Q (.panic c) a w) (hL : ∀ l, l ∈ L → ∀ o, ops[l]? = some o → LateStep P ops T o) (hst : ∀ o, o ∈ preL ops m → FStepW P ops w0 T o)
    (hout : ∀ t, t ∈ outerT ops m → (T t).p (a0.tmps.getD t undef) w0)
    (hQ : ∀ a w listed, (∀ i, i < m → listed.getD i false = true) → FInvT ops m w0 T a0 listed a w → wpList P ops Q (ops.toList.drop m) a w) :
    ∀ (fuel : Nat) (listed : Array Bool) (a : Act) (w : World), listed.toList.count false ≤ fuel → FInvT ops m w0 T a0 listed a w → wpAny P .any ops Q fuel listed a w := by
  have fin : ∀ (fuel : Nat) (listed : Array Bool) (a : Act) (w : World), (∀ i, i < m → listed.getD i false = true) → ops.size - m ≤ fuel → FInvT ops m w0 T a0 listed a w → wpAny P .any ops Q fuel listed a w := fun fuel listed a w hall hfu h =>
    wpAny_tailL hf fuel m listed a w (Nat.le_refl _) hf.le h.ls (fun j _ => ⟨fun hj => Classical.byContradiction fun hn => absurd (hj.symm.trans (h.none j (by omega))) (by simp), hall j⟩) hfu (hQ a w listed hall h)
  have cnt : ∀ (listed : Array Bool), listed.size = ops.size → (∀ i, m ≤ i → listed.getD i false = false) → ops.size - m ≤ listed.toList.count false := fun listed hls hn => by
    have h1 : (listed.toList.drop m).count false = ops.size - m := by
      rw [List.count_eq_length.2]
      · simp [hls]
      · intro b hb
        obtain ⟨j, hj, rfl⟩ := List.getElem_of_mem hb
        have hj' : m + j < listed.size := by simp at hj; omega
        have := hn (m + j) (by omega)
        simp only [Array.getD_eq_getD_getElem?, Array.getElem?_eq_getElem hj', Option.getD_some] at this
        simp [this]
    have h2 := List.count_append (a := false) (l₁ := listed.toList.take m) (l₂ := listed.toList.drop m)
    rw [List.take_append_drop] at h2
    omega
  intro fuel
  induction fuel with
  | zero =>
    intro listed a w hc h
    have h1 := cnt listed h.ls h.none
    refine fin 0 listed a w (fun i hi => ?_) (by omega) h
    cases hl : listed.getD i false with
    | true => rfl
    | false =>
      exfalso
      have hil : i < listed.size := by rw [h.ls]; have := hf.le; omega
      simp only [Array.getD_eq_getD_getElem?, Array.getElem?_eq_getElem hil, Option.getD_some] at hl
      have hmem : false ∈ listed.toList := by
        rw [← hl]
        exact Array.mem_toList_iff.2 (Array.getElem_mem hil)
      have := List.count_pos_iff.2 hmem
      omega
  | succ fuel ih =>
    intro listed a w hc h
    by_cases hall : ∀ i, i < m → listed.getD i false = true
    · exact fin _ listed a w hall (Nat.le_trans (cnt listed h.ls h.none) hc) h
    · have look : ∀ (i : Nat) (o : Oper), i < m → ops[i]? = some o → (∀ e ∈ o.after, Region.binds .any e = true → listed.getD e.on false = true) → ∀ t, (o.looksAt ops).contains t = true → (T t).p (a.tmps.getD t undef) w := fun i o him ho hrd t ht => by
        by_cases hd : t ∈ dstsT ops m
        · obtain ⟨j, oj, hjm, hj, hdj⟩ := dstsT_mem hd
          obtain ⟨e, he, hb, hon⟩ := hf.dep i j o oj t him hjm ho hj ht hdj
          exact h.got j oj t hjm hj (hon ▸ hrd e he hb) hdj
        · rw [h.old t hd]
          refine (T t).st _ _ _ (hout t ?_) h.s
          exact List.mem_filter.2 ⟨List.mem_flatMap.2 ⟨o, mem_preL him ho, by simpa using ht⟩, by simpa using hd⟩
      by_cases hlate : ∃ l, l ∈ L ∧ l ∈ Region.ready .any ops listed
      · obtain ⟨l, hlL, hlr⟩ := hlate
        obtain ⟨hu, o, ho, hrd⟩ := mem_ready.1 hlr
        have hlm := hf.late l hlL
        have his : l < ops.size := (Array.getElem?_eq_some_iff.1 ho).1
        have hil : l < listed.size := by rw [h.ls]; exact his
        obtain ⟨v, hy, hv⟩ := hL l hlL o ho a w (look l o hlm ho hrd)
        have hdep : ∀ j, j ∈ depsOf ops l → listed.getD j false = true := fun j hj => by
          obtain ⟨o', e, ho', he, hb, rfl⟩ := depsOf_of hj
          rw [ho] at ho'; cases ho'
          exact hrd e he hb
        have hc' : (listed.setIfInBounds l true).toList.count false ≤ fuel := by
          have hu' : listed.toList[l]? = some false := by
            simp only [Array.getD_eq_getD_getElem?, Array.getElem?_eq_getElem hil, Option.getD_some] at hu
            simp [hil, hu]
          have := count_set listed.toList l hu'
          rw [Array.toList_setIfInBounds]
          omega
        exact wpAny_first ho (Region.noSelect_spec hf.sel) (fun c a w => hP o.dst v c a w) fuel listed a w (fun j oj hj hne hun hno => Region.free_spec ho (hf.free l hlL) j oj hj hne (by
            have hjs := (Array.getElem?_eq_some_iff.1 hj).1
            unfold markL
            simp only [Array.getD_eq_getD_getElem?, List.getElem?_toArray, List.getElem?_map, List.getElem?_range hjs, Option.map_some, Option.getD_some]
            cases hm : (clos ops l (depsOf ops l)).contains j with
            | false => rfl
            | true =>
              have h1 := clos_listed (ops := ops) (listed := fun j => listed.getD j false = true) (fun x hx j hj => h.closed x hx j hj) l (depsOf ops l) hdep j (by simpa using hm)
              have h2 := getD_tf hun (by rw [h.ls]; exact hjs)
              rw [h1] at h2
              cases h2) hno) hlr hy
          (ih _ _ _ hc' (h.putL hf hlm ho hdep (hv w) (Touch.refl _ _)))
      refine ⟨fun hr => absurd (fun i hi => all_listed hf.back h.ls hr i (Nat.lt_of_lt_of_le hi hf.le)) hall, fun i hi => ?_⟩
      obtain ⟨hu, o, ho, hrd⟩ := mem_ready.1 hi
      have his : i < ops.size := (Array.getElem?_eq_some_iff.1 ho).1
      have hil : i < listed.size := by rw [h.ls]; exact his
      have hdep : ∀ j, j ∈ depsOf ops i → listed.getD j false = true := fun j hj => by
        obtain ⟨o', e, ho', he, hb, rfl⟩ := depsOf_of hj
        rw [ho] at ho'; cases ho'
        exact hrd e he hb
      have him : i < m := by
        apply Classical.byContradiction
        intro hn
        have hcl := clos_listed (ops := ops) (listed := fun j => listed.getD j false = true) (fun x hx j hj => h.closed x hx j hj) i (depsOf ops i) hdep
        refine hall fun j hj => ?_
        rcases hf.tail i (by omega) his j (by omega) with h1 | h1
        · exact hcl j h1
        · cases hlj : listed.getD j false with
          | true => rfl
          | false =>
            exfalso
            have hjs : j < ops.size := by omega
            refine hlate ⟨j, h1, mem_ready.2 ⟨?_, ops[j], Array.getElem?_eq_getElem hjs, fun e he hb => ?_⟩⟩
            · have hjl : j < listed.size := by rw [h.ls]; exact hjs
              simp only [Array.getD_eq_getD_getElem?, Array.getElem?_eq_getElem hjl, Option.getD_some] at hlj ⊢
              exact hlj
            · exact hcl e.on (hf.lateDep j h1 i (by omega) his e.on (depsOf_mem (Array.getElem?_eq_getElem hjs) he hb))
      have hc' : (listed.setIfInBounds i true).toList.count false ≤ fuel := by
        have hu' : listed.toList[i]? = some false := by
          simp only [Array.getD_eq_getD_getElem?, Array.getElem?_eq_getElem hil, Option.getD_some] at hu
          simp [hil, hu]
        have := count_set listed.toList i hu'
        rw [Array.toList_setIfInBounds]
        omega
      have hlook := look i o him ho hrd
      obtain ⟨h1, h2⟩ := hst o (mem_preL him ho) a w h.s hlook
      unfold wpOp
      rw [ho]
      show if Region.wanted o (yielded ops a.tmps) = true then _ else _
      split
      · rename_i hw
        exact .inl (h1 hw _ _ fun v w' hv => ih _ _ _ hc' (h.putL hf him ho hdep hv.1 hv.2))
      · rename_i hw
        exact ih _ _ _ hc' (h.putL hf him ho hdep (h2 (by simpa using hw)) (Touch.refl _ _))
/-- **THE LAW**: the first m operations by their slots (those of L may float behind the others), the others in their own order. -/
theorem wp_region_flowL {id : Nat} {a : Act} {w : World} (T : Tmp → SP) (hm : P.follows .mixedOrders = true) (m : Nat) (L : List Nat) (hP : ∀ d v c a w, Q (.panic c) (a.put d v) w → Q (.panic c) a w) (hL : ∀ l, l ∈ L → ∀ o, ops[l]? = some o → LateStep P ops T o) (outs ds keep : List Tmp)
    (hok : flowOkL ops L m a.tmps.size = true) (houts : ((outerT ops m).all fun t => outs.contains t) = true) (hds : dstsT ops m = ds) (hkeep : (keep.all fun t => ds.contains t) = true)
    (hout : FAll (fun t => (T t).p (a.tmps.getD t undef) w) outs) (hst : FStepsW P ops w T (preL ops m))
    (hQ : ∀ (f : Tmp → Value) w', Touch [] w w' → FAll (fun t => (T t).p (f t) w') keep → wpList P ops Q (ops.toList.drop m) { tmps := setAll f ds a.tmps, defers := a.defers } w') : (Code.region id ops true).wp P Q a w := by
  subst hds
  have hf := FlowOkL.of hok
  have hrep : ∀ i, (Array.replicate ops.size false).getD i false = false := fun i => by
    rw [Array.getD_eq_getD_getElem?]
    by_cases hi : i < ops.size
    · simp [hi]
    · rw [Array.getElem?_eq_none (by simpa using hi)]
      rfl
  refine wp_region_any hm (wpAny_flowL hf hP hL (fun o ho => hst.at _ o ho) (fun t ht => hout.at _ t (by simpa using (List.all_eq_true.1 houts) t ht)) (fun a' w' listed hall h => ?_) ops.size _ a w.drew (by simp)
    ⟨(Touch.refl _ _).drew, by simp, rfl, rfl, fun _ _ => rfl, fun i o d _ ho hl _ => absurd (hl.symm.trans (hrep i)) (by simp), fun i hl => absurd (hl.symm.trans (hrep i)) (by simp), fun i _ => hrep i⟩)
  have he : a' = { tmps := setAll (fun t => a'.tmps.getD t undef) (dstsT ops m) a.tmps, defers := a.defers } := by
    obtain ⟨tm, df⟩ := a'
    have h1 : df = a.defers := h.defers
    have h2 : tm.size = a.tmps.size := h.size
    have h3 : tm = setAll (fun t => tm.getD t undef) (dstsT ops m) a.tmps := by
      refine Array.ext_getElem? fun t => ?_
      by_cases ht : t < a.tmps.size
      · have ht' : t < tm.size := by omega
        by_cases hd : t ∈ dstsT ops m
        · rw [setAll_in _ _ _ t hd ht]
          simp [ht']
        · rw [setAll_out _ _ _ t hd]
          have := h.old t hd
          simp only [Array.getD_eq_getD_getElem?, Array.getElem?_eq_getElem ht', Array.getElem?_eq_getElem ht, Option.getD_some] at this
          rw [Array.getElem?_eq_getElem ht', Array.getElem?_eq_getElem ht, this]
      · rw [Array.getElem?_eq_none (by omega), Array.getElem?_eq_none (by rw [setAll_size]; omega)]
    rw [h1]
    exact congrArg (fun x => ({ tmps := x, defers := a.defers } : Act)) h3
  rw [he]
  refine hQ _ w' h.s (FAll.of _ fun t ht => ?_)
  have hmem : t ∈ dstsT ops m := by simpa using (List.all_eq_true.1 hkeep) t ht
  obtain ⟨i, o, hi, ho, hd⟩ := dstsT_mem hmem
  exact h.got i o t hi ho (hall i hi) hd
end
end Go.Proofs.Ytbpgbjhjnemaoaa
