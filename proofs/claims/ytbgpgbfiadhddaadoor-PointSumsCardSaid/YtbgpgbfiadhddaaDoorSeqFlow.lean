/- A list of operations in its own order, by what is known of each slot (beside XFlow: the regions that draw no order). -/
import Derived.Test.YtbgpgbfiadhddaaDoorFlow
import Derived.WalkKit
namespace Go.Proofs.YtbgpgbfiadhddaaDoor
open Go

section
variable {P : Program} {ops : Array Oper} {Q : Exit → Act → World → Prop}

def dstsL (l : List Oper) : List Tmp := l.filterMap (·.dst)

/-- Each operation looks at known slots alone, and writes one that is not yet known. -/
def seqOk (ops : Array Oper) (n : Nat) : List Tmp → List Oper → Bool
  | _, [] => true
  | known, o :: r => (o.looksAt ops).all (fun t => known.contains t) &&
    (match o.dst with
     | none => seqOk ops n known r
     | some d => decide (d < n) && !known.contains d && seqOk ops n (d :: known) r)

theorem wpList_seq {S : World → Prop} {T : Tmp → Value → Prop} {n : Nat} : ∀ (rest : List Oper) (known : List Tmp) (a : Act) (w : World), a.tmps.size = n → seqOk ops n known rest = true →
    (∀ t, t ∈ known → T t (a.tmps.getD t undef)) → FSteps P ops S T rest → S w →
    (∀ a' w', S w' → a'.tmps.size = a.tmps.size → a'.defers = a.defers → (∀ t, t ∉ dstsL rest → a'.tmps.getD t undef = a.tmps.getD t undef) → (∀ t, t ∈ dstsL rest → T t (a'.tmps.getD t undef)) → Q .normal a' w') →
    wpList P ops Q rest a w := by
  intro rest
  induction rest with
  | nil => intro known a w _ _ _ _ hS hQ; exact hQ a w hS rfl rfl (fun _ _ => rfl) (fun _ h => by cases h)
  | cons o r ih =>
    intro known a w hn hok hk hst hS hQ
    have hlook : ∀ t, (o.looksAt ops).contains t = true → T t (a.tmps.getD t undef) := fun t ht => by
      have h1 : (o.looksAt ops).all (fun t => known.contains t) = true := by
        unfold seqOk at hok
        exact (Bool.and_eq_true_iff.1 hok).1
      exact hk t (by simpa using (List.all_eq_true.1 h1) t (by simpa using ht))
    obtain ⟨h1, h2⟩ := hst.1 a w hS hlook
    have step : ∀ v w', dOf o T v → S w' → wpList P ops Q r (a.put o.dst v) w' := by
      intro v w' hv hS'
      cases hd : o.dst with
      | none =>
        have hok' : seqOk ops n known r = true := by
          unfold seqOk at hok
          simp only [hd] at hok
          exact (Bool.and_eq_true_iff.1 hok).2
        refine ih known a w' hn hok' hk hst.2 hS' fun a' w'' hS'' hs hdf hout hin => ?_
        have e : dstsL (o :: r) = dstsL r := by unfold dstsL; rw [List.filterMap_cons_none hd]
        exact hQ a' w'' hS'' hs hdf (by rw [e]; exact hout) (by rw [e]; exact hin)
      | some d =>
        have hok' : d < n ∧ ¬ d ∈ known ∧ seqOk ops n (d :: known) r = true := by
          unfold seqOk at hok
          simp only [hd, Bool.and_eq_true, decide_eq_true_eq, Bool.not_eq_true'] at hok
          exact ⟨hok.2.1.1, by simpa using hok.2.1.2, hok.2.2⟩
        have e : dstsL (o :: r) = d :: dstsL r := by unfold dstsL; rw [List.filterMap_cons_some hd]
        have hget : (a.tmps.setIfInBounds d v).getD d undef = v := getD_put_same _ (by rw [hn]; exact hok'.1) v
        refine ih (d :: known) (a.put (some d) v) w' (by show (a.tmps.setIfInBounds d v).size = n; rw [Array.size_setIfInBounds]; exact hn) hok'.2.2 (fun t ht => ?_) hst.2 hS' fun a' w'' hS'' hs hdf hout hin => ?_
        · show T t ((a.tmps.setIfInBounds d v).getD t undef)
          by_cases htd : t = d
          · subst htd; rw [hget]; exact hv t hd
          · rw [getD_put_ne _ (Ne.symm htd)]
            rcases List.mem_cons.1 ht with h | h
            · exact absurd h htd
            · exact hk t h
        · refine hQ a' w'' hS'' (hs.trans (by show (a.tmps.setIfInBounds d v).size = _; rw [Array.size_setIfInBounds])) hdf (fun t ht => ?_) (fun t ht => ?_)
          · rw [e] at ht
            rw [hout t (fun h => ht (List.mem_cons_of_mem _ h))]
            show (a.tmps.setIfInBounds d v).getD t undef = _
            exact getD_put_ne _ (fun h : d = t => ht (by rw [h]; exact List.mem_cons_self ..)) v
          · rw [e] at ht
            by_cases hr : t ∈ dstsL r
            · exact hin t hr
            · rcases List.mem_cons.1 ht with h | h
              · subst h
                rw [hout t hr]
                show T t ((a.tmps.setIfInBounds t v).getD t undef)
                rw [hget]; exact hv t hd
              · exact absurd h hr
    unfold wpList
    split
    · rename_i hw
      exact .inl (h1 hw _ _ fun v w' hv => step v w' hv.1 hv.2)
    · rename_i hw
      exact step undef w (h2 (by simpa using hw)) hS

/-- **THE LAW**: operations in their own order, from what is known of their slots. -/
theorem wpList_flow {rest : List Oper} {a : Act} {w : World} (S : World → Prop) (T : Tmp → Value → Prop) (outs ds keep : List Tmp)
    (hok : seqOk ops a.tmps.size outs rest = true) (hds : dstsL rest = ds) (hkeep : (keep.all fun t => ds.contains t) = true)
    (hS : S w) (hout : FAll (fun t => T t (a.tmps.getD t undef)) outs) (hst : FSteps P ops S T rest)
    (hQ : ∀ (f : Tmp → Value) w', S w' → FAll (fun t => T t (f t)) keep → Q .normal { tmps := setAll f ds a.tmps, defers := a.defers } w') : wpList P ops Q rest a w := by
  subst hds
  refine wpList_seq rest outs a w rfl hok (fun t ht => hout.at _ t ht) hst hS fun a' w' hS' hs hdf ho hi => ?_
  have he : a' = { tmps := setAll (fun t => a'.tmps.getD t undef) (dstsL rest) a.tmps, defers := a.defers } := by
    obtain ⟨tm, df⟩ := a'
    have h1 : df = a.defers := hdf
    have h2 : tm.size = a.tmps.size := hs
    have h3 : tm = setAll (fun t => tm.getD t undef) (dstsL rest) a.tmps := by
      refine Array.ext_getElem? fun t => ?_
      by_cases ht : t < a.tmps.size
      · have ht' : t < tm.size := by omega
        by_cases hd : t ∈ dstsL rest
        · rw [setAll_in _ _ _ t hd ht]
          simp [ht']
        · rw [setAll_out _ _ _ t hd]
          have := ho t hd
          simp only [Array.getD_eq_getD_getElem?, Array.getElem?_eq_getElem ht', Array.getElem?_eq_getElem ht, Option.getD_some] at this
          rw [Array.getElem?_eq_getElem ht', Array.getElem?_eq_getElem ht, this]
      · rw [Array.getElem?_eq_none (by omega), Array.getElem?_eq_none (by rw [setAll_size]; omega)]
    rw [h1]
    exact congrArg (fun x => ({ tmps := x, defers := a.defers } : Act)) h3
  rw [he]
  refine hQ _ w' hS' (FAll.of _ fun t ht => ?_)
  exact hi t (by simpa using (List.all_eq_true.1 hkeep) t ht)

/-! ### Further operations -/
theorem yielded_undef {tmps : Array Value} {g : Nat} {d : Tmp} (hd : (ops[g]?).bind (·.dst) = some d) (h : tmps.getD d undef = undef) : yielded ops tmps g = none := by
  unfold yielded
  rw [hd]
  cases hx : tmps[d]? with
  | none => simp [hx]
  | some v =>
    rw [Array.getD_eq_getD_getElem?, hx] at h
    simp only [Option.getD_some] at h
    subst h
    simp [hx, undef]
theorem FStep.noU {S : World → Prop} {T : Tmp → Value → Prop} {o : Oper} {g : Nat} {b : Bool} (d : Tmp) (hg : o.guard = some (g, b)) (hd : (ops[g]?).bind (·.dst) = some d) (hT : ∀ v, T d v → v = undef)
    (hu : dOf o T undef) : FStep P ops S T o := fun a w hS hE =>
  ⟨fun hw => by
    have h : a.tmps.getD d undef = undef := hT _ (hE d (looks_guard hg hd))
    unfold Region.wanted at hw
    rw [hg] at hw
    simp [yielded_undef hd h] at hw, fun _ => hu⟩
theorem OpTo.eqB {o : Oper} {a : Act} {w : World} {R : Value → World → Prop} {x y : Operand} {t1 t2 : TypeId} (ht : P.underlying t1 = some .bool) (b c : Bool) (ho : o.op = .binOp .eql t1 x y t2) (hx : a.eval x = .bool b) (hy : a.eval y = .bool c) (hR : R (.bool (b == c)) w) : OpTo P o a w R :=
  OpTo.val (v := .bool (b == c)) (by unfold execOp; simp only [ho, hx, hy]; go_simp) hR
theorem OpTo.eqI {o : Oper} {a : Act} {w : World} {R : Value → World → Prop} {x y : Operand} {t1 t2 : TypeId} (k : IntKind) (i j : Int) (ho : o.op = .binOp .eql t1 x y t2) (hx : a.eval x = .int k i) (hy : a.eval y = .int k j) (hR : R (.bool (decide (i = j))) w) : OpTo P o a w R :=
  OpTo.val (v := .bool (decide (i = j))) (by unfold execOp; simp only [ho, hx, hy]; go_simp; rfl) hR
theorem OpTo.eqS {o : Oper} {a : Act} {w : World} {R : Value → World → Prop} {x y : Operand} {t1 t2 : TypeId} (s u : ByteArray) (ho : o.op = .binOp .eql t1 x y t2) (hx : a.eval x = .string s) (hy : a.eval y = .string u) (hR : R (.bool (s.toList == u.toList)) w) : OpTo P o a w R :=
  OpTo.val (v := .bool (s.toList == u.toList)) (by unfold execOp; simp only [ho, hx, hy]; go_simp) hR
theorem OpTo.lenS {o : Oper} {a : Act} {w : World} {R : Value → World → Prop} {x : Operand} {t1 : TypeId} (ht : P.underlying t1 = some .string) (s : ByteArray) (ho : o.op = .call { callee := .builtin .len, args := #[x], argTypes := #[t1] }) (hx : a.eval x = .string s) (hR : R (.int .i64 (s.size : Int)) w) : OpTo P o a w R :=
  OpTo.val (v := .int .i64 (s.size : Int)) (by unfold execOp; simp only [ho, resolve]; simp only [List.map_toArray, List.map_cons, List.map_nil, hx]; go_simp) hR
end
end Go.Proofs.YtbgpgbfiadhddaaDoor
