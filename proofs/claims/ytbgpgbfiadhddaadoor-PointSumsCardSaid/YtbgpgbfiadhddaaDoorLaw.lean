/- From a walk to the row: a law of any readable arguments that answers true and changes nothing that was there. -/
import Derived.Test.YtbgpgbfiadhddaaDoorRows
import Derived.Test.YtbgpgbfiadhddaaDoorMem
import Derived.ProofKit
import Derived.OpenShut
import Derived.SizedLaws
import Derived.Deep.Slices
import Derived.Deep.Fields
import Derived.ChangeSame
namespace Go.Proofs.YtbgpgbfiadhddaaDoor
open Go.ChangeShapes Go.WideShapes Go.ChangeAt Go.RowKit
section
variable {H : Type} {enc : TypeId × Value → H} {P : Program}
/-- What was read reads as it did, where nothing old has turned. -/
theorem trodAll_stays (hl : laidOutB P = true) {W W' : World} {sp : Nat → Bool} (hb : Below W.heap.size W W') : ∀ (ts : List TypeId) (vs : List Value) (ds : List (DataW H)) (ps : List MemPlace),
    (∀ t, t ∈ ts → P.readableRec t = true ∧ t < P.types.size) → DataW.TrodAll enc P W 0 (fun _ => true) true ts vs ds ps → (∀ x ∈ ps, x.block < W.heap.size) → (∀ x ∈ ps, sp x.block = true) →
    DataW.TrodAll enc P W' 0 sp true ts vs ds ps
  | [], [], [], _, _, h, _, _ => h
  | [], [], _ :: _, _, _, h, _, _ => h.elim
  | [], _ :: _, _, _, _, h, _, _ => h.elim
  | _ :: _, [], _, _, _, h, _, _ => h.elim
  | _ :: _, _ :: _, [], _, _, h, _, _ => h.elim
  | t :: ts, v :: vs, d :: ds, ps, hr, h, hlt, hs => by
    obtain ⟨p, q, h1, h2, rfl⟩ := h
    obtain ⟨hrt, hrow⟩ := hr t (by simp)
    refine ⟨p, q, WideElems.Trod_stays hl hrt hrow h1 (fun x hx => hb.same (hlt x (by simp [hx]))) (fun x hx => hs x (by simp [hx])), ?_, rfl⟩
    exact trodAll_stays hl hb ts vs ds q (fun t ht => hr t (by simp [ht])) h2 (fun x hx => hlt x (by simp [hx])) (fun x hx => hs x (by simp [hx]))
theorem trodAll_length {w : World} {base : Nat} {sp : Nat → Bool} {hd : Bool} : ∀ (ts : List TypeId) (vs : List Value) (ds : List (DataW H)) (ps : List MemPlace), DataW.TrodAll enc P w base sp hd ts vs ds ps → ds.length = ts.length
  | [], [], [], _, _ => rfl
  | [], [], _ :: _, _, h => h.elim
  | [], _ :: _, _, _, h => h.elim
  | _ :: _, [], _, _, h => h.elim
  | _ :: _, _ :: _, [], _, h => h.elim
  | t :: ts, v :: vs, d :: ds, ps, h => by
    obtain ⟨p, q, _, h2, _⟩ := h
    simp [trodAll_length ts vs ds q h2]

theorem law_post {f : Func} {s : ChangeSpec} {W W' : World} {args : Array Value} {ds : List (DataW H)} {ps : List MemPlace} {tb : TypeId}
    (hl : laidOutB P = true) (hr : ∀ t, t ∈ f.params.toList → P.readableRec t = true ∧ t < P.types.size) (htb : P.underlying tb = some .bool) (hres : f.resultTypes = #[tb])
    (hsv : s.vars = []) (hf : (s.fn H (ds ++ [])) = { results := [.lit (.bool true)], args := ds })
    (hA : DataW.TrodAll enc P W 0 (fun _ => true) true f.params.toList args.toList ds ps) (hlt : ∀ x ∈ ps, x.block < W.heap.size) (hz : W.noneFrozen ps) (hb : Below W.heap.size W W') :
    s.post enc P f false true false false W args (.bool true) W' := by
  have hstay := fun (sp : Nat → Bool) (hs : ∀ x ∈ ps, sp x.block = true) => trodAll_stays (enc := enc) hl hb f.params.toList args.toList ds ps hr hA hlt hs
  refine ⟨ds, [], ps, [], ps, [], ?_, ?_, ?_, ?_, ?_, fun h => by cases h⟩
  · exact ⟨ps, [], hA, by rw [hsv]; rfl, by simp, hz, fun h => by cases h⟩
  · rw [hf, hres]
    exact trodAll_cons_mk (shut_bool htb _) trodAll_mk0
  · rw [hf]
    exact hstay _ (fun x hx => by simpa using hlt x hx)
  · rw [hf, hsv]
    rfl
  · exact World.keptBut_mono (fun p hp => ⟨hp, .inr (.inl hp)⟩) (hb.frame (· ∈ ps))
end

/-- The row's step, of a law. -/
theorem law_returns {H : Type} {enc : TypeId × Value → H} {C : Checked} {os : Os} {f : FuncId} {fn : Func} {s : ChangeSpec} {tb : TypeId}
    (own : ownKnob C.prog.godebug = none) (started : os.Started) (noInit : C.prog.inits.idxOf? f = none) (hfn : C.prog.funcs[f]? = some fn)
    (witness : ∃ (w : World) (tape : Tape) (i : Input), w.os = os ∧ (w.forCall tape i).Shaped C.prog ∧ i.vars = [] ∧ Input.okWide C.prog (w.forCall tape i) .any w.heap.size f i ∧
      s.pre6 enc C.prog fn [] false (w.forCall tape i).memory i.args ∧ ({} : Assume).holds C.prog (lone (Frame.enter C.prog f i.args .normal) [] (w.forCall tape i)))
    (hl : laidOutB C.prog = true) (hr : ∀ t, t ∈ fn.params.toList → C.prog.readableRec t = true ∧ t < C.prog.types.size) (htb : C.prog.underlying tb = some .bool) (hres : fn.resultTypes = #[tb])
    (hsv : s.vars = []) (hf : ∀ ds : List (DataW H), ds.length = fn.params.size → (s.fn H (ds ++ [])) = { results := [.lit (.bool true)], args := ds })
    (walk : ∀ (W : World) (base : Nat) (args : Array Value) (ds : List (DataW H)) (ps : List MemPlace),
      (∀ (j : Nat) t v, fn.params[j]? = some t → args[j]? = some v → Value.okWide C.prog W .any base t v) →
      DataW.TrodAll enc C.prog W 0 (fun _ => true) true fn.params.toList args.toList ds ps → (∀ x ∈ ps, x.block < W.heap.size) →
      Calls C.prog f args W fun e W' => e = .returned (.bool true) ∧ Touch [] W W') :
    ReturnsInHanded {} C os f .any (s.pre6 enc C.prog fn [] false) (s.post enc C.prog fn false true false false) := by
  refine returnsInHanded_of_change own started noInit hfn witness ?_
  intro W base args ds gs before hval hW _ _
  have hlt := hW.lt
  obtain ⟨p, q, hA, hV, rfl, hfz, _⟩ := hW
  rw [hsv] at hV
  obtain ⟨rfl, rfl⟩ := trodVars_none hV
  rw [List.append_nil] at hlt hfz
  refine (walk W base args ds p hval hA hlt).mono fun e W' ⟨he, ht⟩ => ?_
  subst he
  refine ⟨_, rfl, law_post hl hr htb hres hsv (hf ds ?_) hA hlt hfz (ht.below (Nat.le_refl _) (by simp))⟩
  have := trodAll_length _ _ _ _ hA
  simpa using this

/-! ### Opening the arguments -/
section
variable {H : Type} {enc : TypeId × Value → H} {P : Program} {W : World}
/-- A slice of elements of one cell: each cell, as the walk asks for it. -/
theorem open_cells {r : Reach} {b0 : Nat} {t e : TypeId} {v : Value} {d : DataW H} {ps : List MemPlace} (ht : P.underlying t = some (.slice e)) (hc : P.cellsOf e = 1)
    (hval : Value.okWide P W r b0 t v) (h : DataW.Trod enc P W 0 (fun _ => true) true t v d ps) :
    ∃ (A : Option Addr) (n c : Nat) (V : Nat → Value) (D : Nat → DataW H × List MemPlace), v = .slice A n c ∧ n ≤ c ∧ c ≤ maxLen ∧
      ∀ k, k < n → ∃ g o m, A = some ⟨g, o, none⟩ ∧ g < W.heap.size ∧ W.cell? ⟨g, o + k, none⟩ = some (V k) ∧ DataW.trod enc P W 0 (fun _ => true) true m e [V k] = some (D k) := by
  obtain ⟨A, n, c, rfl⟩ := okWide_slice ht hval
  obtain ⟨fuel, hf⟩ := h
  rcases Go.Deep.open_slice1 ht hc hf with ⟨hcs, _⟩ | ⟨a, len, cap, m, mm, V, D, Pl, hcs, _, hl, hm, hmm, hx, hi⟩
  · simp only [Value.cells] at hcs
    injection hcs with hcs _
    injection hcs with h1 h2 h3
    subst h2
    exact ⟨A, 0, c, fun _ => undef, fun _ => (.nil, []), rfl, by omega, by subst h3; unfold maxLen; omega, fun k hk => by omega⟩
  · simp only [Value.cells] at hcs
    injection hcs with hcs _
    injection hcs with h1 h2 h3
    subst h1; subst h2; subst h3
    simp only [if_true] at hmm
    refine ⟨some a, n, c, V, fun i => (D i, Pl i), rfl, hl, hm, fun k hk => ?_⟩
    obtain ⟨hcell, ht'⟩ := hi k (by omega)
    obtain ⟨ab, ao, asp⟩ := a
    have hspot : asp = none := by
      have h0 := (hi 0 (by omega)).1
      cases asp with
      | none => rfl
      | some x =>
        unfold Addr.add at h0
        simp only [if_true] at h0
        unfold World.cell? at h0
        split at h0 <;> simp_all
    subst hspot
    have hadd : (⟨ab, ao, none⟩ : Addr).add k = ⟨ab, ao + k, none⟩ := by unfold Addr.add; split <;> simp_all
    rw [hadd] at hcell
    exact ⟨ab, ao, mm, rfl, World.block_lt_of_cell? W _ hcell, hcell, ht'⟩
/-- A list of texts. -/
theorem open_strs {r : Reach} {b0 : Nat} {t e : TypeId} {v : Value} {d : DataW H} {ps : List MemPlace} (ht : P.underlying t = some (.slice e)) (he : P.underlying e = some .string) (hc : P.cellsOf e = 1)
    (hval : Value.okWide P W r b0 t v) (h : DataW.Trod enc P W 0 (fun _ => true) true t v d ps) :
    ∃ (A : Option Addr) (n c : Nat) (S : List ByteArray), v = .slice A n c ∧ n ≤ maxLen ∧ ∀ k, k < n → ∃ g o, A = some ⟨g, o, none⟩ ∧ g < W.heap.size ∧ W.cell? ⟨g, o + k, none⟩ = some (.string (S.getD k ⟨#[]⟩)) := by
  obtain ⟨A, n, c, V, D, rfl, hn, hcm, hS⟩ := open_cells ht hc hval h
  refine ⟨A, n, c, (List.range n).map fun k => match V k with | .string s => s | _ => ⟨#[]⟩, rfl, by omega, fun k hk => ?_⟩
  obtain ⟨g, o, mm, hA, hg, hcell, ht⟩ := hS k hk
  obtain ⟨s, hs, _⟩ := DataW.trod_string he ht
  have hs' : V k = .string s := by simpa using hs
  exact ⟨g, o, hA, hg, by rw [hcell]; simp [hk, hs']⟩
/-- A list of yes and no. -/
theorem open_bools {r : Reach} {b0 : Nat} {t e : TypeId} {v : Value} {d : DataW H} {ps : List MemPlace} (ht : P.underlying t = some (.slice e)) (he : P.underlying e = some .bool) (hc : P.cellsOf e = 1)
    (hval : Value.okWide P W r b0 t v) (h : DataW.Trod enc P W 0 (fun _ => true) true t v d ps) :
    ∃ (A : Option Addr) (n c : Nat) (S : List Bool), v = .slice A n c ∧ n ≤ maxLen ∧ ∀ k, k < n → ∃ g o, A = some ⟨g, o, none⟩ ∧ g < W.heap.size ∧ W.cell? ⟨g, o + k, none⟩ = some (.bool (S.getD k false)) := by
  obtain ⟨A, n, c, V, D, rfl, hn, hcm, hS⟩ := open_cells ht hc hval h
  refine ⟨A, n, c, (List.range n).map fun k => match V k with | .bool s => s | _ => false, rfl, by omega, fun k hk => ?_⟩
  obtain ⟨g, o, mm, hA, hg, hcell, ht⟩ := hS k hk
  obtain ⟨s, hs, _⟩ := DataW.trod_bool he ht
  have hs' : V k = .bool s := by simpa using hs
  exact ⟨g, o, hA, hg, by rw [hcell]; simp [hk, hs']⟩
/-- A list of integers of one kind. -/
theorem open_nums {r : Reach} {b0 : Nat} {t e : TypeId} {kd : IntKind} {v : Value} {d : DataW H} {ps : List MemPlace} (ht : P.underlying t = some (.slice e)) (he : P.underlying e = some (.int kd)) (hc : P.cellsOf e = 1)
    (hval : Value.okWide P W r b0 t v) (h : DataW.Trod enc P W 0 (fun _ => true) true t v d ps) :
    ∃ (A : Option Addr) (n c : Nat) (S : List Int), v = .slice A n c ∧ n ≤ maxLen ∧ ∀ k, k < n → ∃ g o, A = some ⟨g, o, none⟩ ∧ g < W.heap.size ∧ W.cell? ⟨g, o + k, none⟩ = some (.int kd (S.getD k 0)) ∧ (Lit.int kd (S.getD k 0)).wf = true := by
  obtain ⟨A, n, c, V, D, rfl, hn, hcm, hS⟩ := open_cells ht hc hval h
  refine ⟨A, n, c, (List.range n).map fun k => match V k with | .int _ s => s | _ => 0, rfl, by omega, fun k hk => ?_⟩
  obtain ⟨g, o, mm, hA, hg, hcell, ht⟩ := hS k hk
  obtain ⟨s, hs, _, hw⟩ := DataW.trod_int he ht
  have hs' : V k = .int kd s := by simpa using hs
  exact ⟨g, o, hA, hg, by rw [hcell]; simp [hk, hs'], by simpa [hk, hs'] using hw⟩
/-- The same, with its room. -/
theorem open_numsc {r : Reach} {b0 : Nat} {t e : TypeId} {kd : IntKind} {v : Value} {d : DataW H} {ps : List MemPlace} (ht : P.underlying t = some (.slice e)) (he : P.underlying e = some (.int kd)) (hc : P.cellsOf e = 1)
    (hval : Value.okWide P W r b0 t v) (h : DataW.Trod enc P W 0 (fun _ => true) true t v d ps) :
    ∃ (A : Option Addr) (n c : Nat) (S : List Int), v = .slice A n c ∧ (n ≤ c ∧ c ≤ maxLen) ∧ ∀ k, k < n → ∃ g o, A = some ⟨g, o, none⟩ ∧ g < W.heap.size ∧ W.cell? ⟨g, o + k, none⟩ = some (.int kd (S.getD k 0)) ∧ (Lit.int kd (S.getD k 0)).wf = true := by
  obtain ⟨A, n, c, V, D, rfl, hn, hcm, hS⟩ := open_cells ht hc hval h
  refine ⟨A, n, c, (List.range n).map fun k => match V k with | .int _ s => s | _ => 0, rfl, ⟨hn, hcm⟩, fun k hk => ?_⟩
  obtain ⟨g, o, mm, hA, hg, hcell, ht⟩ := hS k hk
  obtain ⟨s, hs, _, hw⟩ := DataW.trod_int he ht
  have hs' : V k = .int kd s := by simpa using hs
  exact ⟨g, o, hA, hg, by rw [hcell]; simp [hk, hs'], by simpa [hk, hs'] using hw⟩
/-- A slice of structs whose fields have one cell each: every field's cell, and how it reads. -/
theorem open_structs {r : Reach} {b0 : Nat} {t e : TypeId} {fs : Array Field} {v : Value} {d : DataW H} {ps : List MemPlace} (ht : P.underlying t = some (.slice e)) (he : P.underlying e = some (.struct fs))
    (hone : Go.Deep.oneCellFields P fs = true) (hC : P.cellsOf e = fs.size) (hpos : 0 < fs.size) (hval : Value.okWide P W r b0 t v) (h : DataW.Trod enc P W 0 (fun _ => true) true t v d ps) :
    ∃ (A : Option Addr) (n c : Nat), v = .slice A n c ∧ n ≤ maxLen ∧ ∀ k, k < n → ∃ g o, A = some ⟨g, o, none⟩ ∧ g < W.heap.size ∧
      ∀ (j : Nat) (f : Field), fs[j]? = some f → ∃ (u : Value) (y : DataW H × List MemPlace) (m : Nat), W.cell? ⟨g, o + (k * fs.size + j), none⟩ = some u ∧ DataW.trod enc P W 0 (fun _ => true) true m f.type [u] = some y := by
  obtain ⟨A, n, c, rfl⟩ := okWide_slice ht hval
  obtain ⟨fuel, hf⟩ := h
  rcases Go.Deep.open_slice ht hf with ⟨hcs, _⟩ | ⟨a, len, cap, m, mm, D, Pl, hcs, _, hl, hm, hmm, hx, hi⟩
  · simp only [Value.cells] at hcs
    injection hcs with hcs _
    injection hcs with h1 h2 h3
    subst h2
    exact ⟨A, 0, c, rfl, by unfold maxLen; omega, fun k hk => by omega⟩
  · simp only [Value.cells] at hcs
    injection hcs with hcs _
    injection hcs with h1 h2 h3
    subst h1; subst h2; subst h3
    simp only [if_true] at hmm
    refine ⟨some a, n, c, rfl, by omega, fun k hk => ?_⟩
    obtain ⟨cs', hc, ht'⟩ := hi k (by omega)
    rw [hC] at hc
    obtain ⟨ys, n', hn', hy, hlen, hyl, hfl⟩ := DataW.trod_struct he ht'
    obtain ⟨_, hcl, hat⟩ := World.cells?_some hc
    obtain ⟨ab, ao, asp⟩ := a
    have hspot : asp = none := by
      obtain ⟨cs0, hc0, _⟩ := hi 0 (by omega)
      rw [hC] at hc0
      obtain ⟨_, hcl0, hat0⟩ := World.cells?_some hc0
      have h0 := hat0 0 hpos
      have hv0 : cs0[0]? = some (cs0[0]'(by omega)) := List.getElem?_eq_getElem (by omega)
      rw [hv0] at h0
      cases asp with
      | none => rfl
      | some x =>
        unfold Addr.add at h0
        simp only [Nat.zero_mul, if_true] at h0
        unfold World.cell? at h0
        split at h0 <;> simp_all
    subst hspot
    have hadd : ∀ q, (⟨ab, ao, none⟩ : Addr).add q = ⟨ab, ao + q, none⟩ := fun q => by unfold Addr.add; split <;> simp_all
    have hlt : ab < W.heap.size := by
      have h0 := hat 0 hpos
      have hv0 : cs'[0]? = some (cs'[0]'(by omega)) := List.getElem?_eq_getElem (by omega)
      rw [hv0, Go.Deep.add_add, hadd] at h0
      exact World.block_lt_of_cell? W _ h0
    refine ⟨ab, ao, rfl, hlt, fun j f hj => ?_⟩
    obtain ⟨ho, hk1⟩ := Go.Deep.hone_of hone j f hj
    have hjl : j < fs.size := (Array.getElem?_eq_some_iff.1 hj).1
    have hcell := hat j hjl
    have hv : cs'[j]? = some (cs'[j]'(by omega)) := List.getElem?_eq_getElem (by omega)
    have h1 := hfl j f hj
    rw [ho, hk1] at h1
    have hone' : (cs'.drop j).take 1 = [cs'[j]'(by omega)] := by
      rw [List.drop_eq_getElem_cons (by omega)]
      rfl
    rw [hone'] at h1
    have hys : ys[j]? = some (ys[j]'(by omega)) := List.getElem?_eq_getElem (by omega)
    rw [hv, Go.Deep.add_add, hadd] at hcell
    exact ⟨_, _, _, hcell, h1.trans hys⟩
end
end Go.Proofs.YtbgpgbfiadhddaaDoor
