/- A map from ints to ints, as an object that lies apart. -/
import Derived.Test.YtehbfoiadinhbaaRtTimer
import Derived.Maps.Own
import Derived.Maps.OwnOps
import Derived.Maps.OwnSet
namespace Go.Proofs.Ytehbfoiadinhbaa
open Go Go.RowKit Go.Maps Go.ChangeMaps Go.MapKept
abbrev DU := DataW Unit
theorem keyInt : Keyed Try.prog 3 := int_keyed Try.underlying3
theorem zeroInt (w : World) : (zeroValue 3).run Try.prog w = .ok (.int .i64 0) w := by kernel_rfl
abbrev kI (a : Int) : Lit := .int .i64 a
theorem kI_key (a : Int) : WideAt.IsKeyLit (kI a) := by trivial
theorem kI_ne {a b : Int} (h : a ≠ b) : kI a ≠ kI b := fun e => by injection e with _ e; exact h e
/-- The map holds the ids I, each once, and of each one what T says. -/
structure RtD (D : DU) (I : List Int) (T : Int → Int) : Prop where
  nodup : I.Nodup
  has_ : ∀ a, has D (kI a) = decide (a ∈ I)
  at_ : ∀ a, a ∈ I → ∀ z, D.atKey (kI a) z = .lit (.int .i64 (T a))
  size_ : size D = I.length
def upd (T : Int → Int) (a v : Int) (b : Int) : Int := if b = a then v else T b
theorem upd_self (T : Int → Int) (a v : Int) : upd T a v a = v := if_pos rfl
theorem upd_ne (T : Int → Int) {a v b : Int} (h : b ≠ a) : upd T a v b = T b := if_neg h
section
variable {D : DU} {I : List Int} {T : Int → Int}
theorem RtD.perm {J : List Int} (h : RtD D I T) (hp : I.Perm J) : RtD D J T :=
  ⟨hp.nodup h.nodup, fun a => by rw [h.has_]; exact decide_eq_decide.2 hp.mem_iff, fun a ha => h.at_ a (hp.mem_iff.2 ha), by rw [h.size_, hp.length_eq]⟩
theorem RtD.same {U : Int → Int} (h : RtD D I T) (hu : ∀ a, a ∈ I → T a = U a) : RtD D I U := ⟨h.nodup, h.has_, fun a ha z => by rw [h.at_ a ha z, hu a ha], h.size_⟩
theorem RtD.empty (T : Int → Int) : RtD (.map []) [] T := ⟨.nil, fun _ => rfl, fun _ h => (by cases h), rfl⟩
theorem RtD.add (h : RtD D I T) (ht : Tidy D) (a v : Int) (ha : a ∉ I) : RtD (D.put (kI a) (.lit (.int .i64 v))) (a :: I) (upd T a v) := by
  refine ⟨List.nodup_cons.2 ⟨ha, h.nodup⟩, fun b => ?_, fun b hb z => ?_, ?_⟩
  · by_cases hba : b = a
    · subst hba
      rw [has_put_same ht.isMap (kI_key _)]
      simp
    · rw [has_put_other (kI_ne hba), h.has_]
      exact decide_eq_decide.2 (by simp [hba])
  · by_cases hba : b = a
    · subst hba
      rw [atKey_put_same ht.isMap (kI_key _), upd_self]
    · rw [atKey_put_other (kI_ne hba), upd_ne _ hba]
      exact h.at_ b ((List.mem_cons.1 hb).resolve_left hba) z
  · rw [size_put ht, h.has_, decide_eq_false ha, h.size_]
    simp
theorem RtD.again (h : RtD D I T) (ht : Tidy D) (a v : Int) (ha : a ∈ I) : RtD (D.put (kI a) (.lit (.int .i64 v))) I (upd T a v) := by
  refine ⟨h.nodup, fun b => ?_, fun b hb z => ?_, ?_⟩
  · by_cases hba : b = a
    · subst hba
      rw [has_put_same ht.isMap (kI_key _)]
      exact (decide_eq_true ha).symm
    · rw [has_put_other (kI_ne hba), h.has_]
  · by_cases hba : b = a
    · subst hba
      rw [atKey_put_same ht.isMap (kI_key _), upd_self]
    · rw [atKey_put_other (kI_ne hba), upd_ne _ hba]
      exact h.at_ b hb z
  · rw [size_put ht, h.has_, decide_eq_true ha, h.size_, if_pos rfl]
theorem RtD.del (h : RtD D I T) (ht : Tidy D) (a : Int) : RtD (D.del (kI a)) (I.erase a) T := by
  by_cases ha : a ∈ I
  · refine ⟨h.nodup.erase a, fun b => ?_, fun b hb z => ?_, ?_⟩
    · by_cases hba : b = a
      · subst hba
        rw [has_del_same]
        exact (decide_eq_false (fun hm => ((h.nodup.mem_erase_iff).1 hm).1 rfl)).symm
      · rw [has_del_other (kI_ne hba), h.has_]
        exact decide_eq_decide.2 (by rw [h.nodup.mem_erase_iff]; simp [hba])
    · have hb2 := (h.nodup.mem_erase_iff).1 hb
      rw [atKey_del_other (kI_ne hb2.1)]
      exact h.at_ b hb2.2 z
    · have := size_del (k := kI a) ht
      rw [h.has_, decide_eq_true ha, if_pos rfl, h.size_] at this
      rw [List.length_erase_of_mem ha]
      omega
  · rw [del_of_not_has (by rw [h.has_]; exact decide_eq_false ha), List.erase_of_not_mem ha]
    exact h
end
abbrev ownI (w : World) (b n : Nat) (D : DU) : Prop := w.ownsMap Try.prog 3 (plainElem (H := Unit) Try.prog 3) b n D
theorem own_tight {w : World} {b n : Nat} {D : DU} (h : ownI w b n D) : ownI w b (size D) D := by
  obtain ⟨es, clock, hb, hf, hs, rfl⟩ := h
  exact ⟨es, clock, hb, hf, by simp [size, length_sorted], rfl⟩
/-- The map as an object. -/
def mapRes (b : Nat) (I : List Int) (T : Int → Int) : Res where
  P F w := F = [b] ∧ ∃ D, ownI w b I.length D ∧ I.length ≤ 10000 ∧ RtD D I T
  loc F w w' h hk := by
    obtain ⟨rfl, D, ⟨es, clock, hb, hf, hs, hd⟩, hn, hr⟩ := h
    exact ⟨rfl, D, ⟨es, clock, (hk b (by simp)).trans hb, hf, hs, hd⟩, hn, hr⟩
  lt F w h k hk := by
    obtain ⟨rfl, D, hm, _⟩ := h
    simp at hk
    subst hk
    exact hm.lt
theorem Touch.turned {w w' : World} {b : Nat} (h : w.mapTurned w' b) : Touch [b] w w' := by
  obtain ⟨es, clock, es', clock', hb, rfl⟩ := h
  refine ⟨rfl, rfl, rfl, by simp [setBlock], fun k hk hn => ?_⟩
  have hkb : k ≠ b := by simpa using hn
  simp [setBlock, Array.getElem?_setIfInBounds_ne (Ne.symm hkb)]
theorem wf64 {a : Int} (h : -9223372036854775808 ≤ a ∧ a ≤ 9223372036854775807) : (Lit.int .i64 a).wf = true := by
  have e1 : IntKind.i64.min = -9223372036854775808 := by decide
  have e2 : IntKind.i64.max = 9223372036854775807 := by decide
  simp [Lit.wf, e1, e2, h]
section
variable {w w0 : World} {B : Nat} {rs : List Res} {b : Nat} {I : List Int} {T : Int → Int} {ops : Array Oper} {rest : List Oper} {o : Oper} {a : Act} {Q : Exit → Act → World → Prop}
theorem keyAt {v : Int} (h : -9223372036854775808 ≤ v ∧ v ≤ 9223372036854775807) : keyOf Try.prog 3 (.int .i64 v) = some (kI v) := keyOf_int_mk Try.underlying3 (wf64 h)
/-- A new key. -/
theorem wpList_put_new (hgd : o.guard = none) (m x v : Operand) (hop : o.op = .mapUpdate 67 m x v) (hsep : Sep w0 B w rs) (ix : Nat) (hix : rs[ix]? = some (mapRes b I T)) (hm : a.eval m = .map (some b))
    (key val : Int) (hx : a.eval x = .int .i64 key) (hk : -9223372036854775808 ≤ key ∧ key ≤ 9223372036854775807) (hv : a.eval v = .int .i64 val) (hvv : -9223372036854775808 ≤ val ∧ val ≤ 9223372036854775807) (hn : key ∉ I) (hI : I.length < 10000)
    (h : ∀ w', Sep w0 B w' (rs.set ix (mapRes b (key :: I) (upd T key val))) → wpList Try.prog ops Q rest (a.put o.dst undef) w') : wpList Try.prog ops Q (o :: rest) a w := by
  obtain ⟨F, ⟨rfl, D, hown, hl, hr⟩, hset⟩ := hsep.focus ix hix
  refine wpList_mapUpdate_in w hgd m x v 67 hop 3 3 keyInt Try.underlying67 _ b I.length D hm hown (by unfold maxLen; omega) _ _ (kI key) hx hv (keyAt hk) _ [] (plainElem_int Try.underlying3 (wf64 hvv)) fun w' h1 h2 => ?_
  exact h w' (hset w' _ [b] ⟨rfl, _, by rw [List.length_cons]; exact h1, by rw [List.length_cons]; omega, hr.add (hown.tidy keyInt) key val hn⟩ (Touch.turned h2) (fun k hk => .inl hk))
/-- A key that is there. -/
theorem wpList_put_old (hgd : o.guard = none) (m x v : Operand) (hop : o.op = .mapUpdate 67 m x v) (hsep : Sep w0 B w rs) (ix : Nat) (hix : rs[ix]? = some (mapRes b I T)) (hm : a.eval m = .map (some b))
    (key val : Int) (hx : a.eval x = .int .i64 key) (hk : -9223372036854775808 ≤ key ∧ key ≤ 9223372036854775807) (hv : a.eval v = .int .i64 val) (hvv : -9223372036854775808 ≤ val ∧ val ≤ 9223372036854775807) (hn : key ∈ I)
    (h : ∀ w', Sep w0 B w' (rs.set ix (mapRes b I (upd T key val))) → wpList Try.prog ops Q rest (a.put o.dst undef) w') : wpList Try.prog ops Q (o :: rest) a w := by
  obtain ⟨F, ⟨rfl, D, hown, hl, hr⟩, hset⟩ := hsep.focus ix hix
  refine wpList_mapUpdate_in w hgd m x v 67 hop 3 3 keyInt Try.underlying67 _ b I.length D hm hown (by unfold maxLen; omega) _ _ (kI key) hx hv (keyAt hk) _ [] (plainElem_int Try.underlying3 (wf64 hvv)) fun w' h1 h2 => ?_
  have hr2 := hr.again (hown.tidy keyInt) key val hn
  have h3 := own_tight h1
  rw [hr2.size_] at h3
  exact h w' (hset w' _ [b] ⟨rfl, _, h3, hl, hr2⟩ (Touch.turned h2) (fun k hk => .inl hk))
theorem wpList_del_key (hgd : o.guard = none) (m x : Operand) (hop : o.op = .call { callee := .builtin .delete, args := #[m, x], argTypes := #[67, 3] }) (hsep : Sep w0 B w rs) (ix : Nat) (hix : rs[ix]? = some (mapRes b I T)) (hm : a.eval m = .map (some b))
    (key : Int) (hx : a.eval x = .int .i64 key) (hk : -9223372036854775808 ≤ key ∧ key ≤ 9223372036854775807)
    (h : ∀ w', Sep w0 B w' (rs.set ix (mapRes b (I.erase key) T)) → wpList Try.prog ops Q rest (a.put o.dst (.tuple #[])) w') : wpList Try.prog ops Q (o :: rest) a w := by
  obtain ⟨F, ⟨rfl, D, hown, hl, hr⟩, hset⟩ := hsep.focus ix hix
  refine wpList_delete_own w hgd m x 67 3 hop 3 keyInt Try.underlying67 _ b I.length D hm hown _ (kI key) hx (keyAt hk) fun w' h1 h2 => ?_
  have hr2 := hr.del (hown.tidy keyInt) key
  have h3 := own_tight h1
  rw [hr2.size_] at h3
  exact h w' (hset w' _ [b] ⟨rfl, _, h3, Nat.le_trans List.length_erase_le hl, hr2⟩ (Touch.turned h2) (fun k hk => .inl hk))
theorem wpList_get_key (hgd : o.guard = none) (m x : Operand) (hop : o.op = .lookup 67 m x false) (hsep : Sep w0 B w rs) (ix : Nat) (hix : rs[ix]? = some (mapRes b I T)) (hm : a.eval m = .map (some b))
    (key : Int) (hx : a.eval x = .int .i64 key) (hk : -9223372036854775808 ≤ key ∧ key ≤ 9223372036854775807) (hn : key ∈ I)
    (h : wpList Try.prog ops Q rest (a.put o.dst (.int .i64 (T key))) w) : wpList Try.prog ops Q (o :: rest) a w := by
  obtain ⟨F, rfl, D, hown, hl, hr⟩ := hsep.look ix hix
  refine wpList_lookup_own_int w hgd m x 67 hop 3 3 .i64 keyInt Try.underlying67 Try.underlying3 (zeroInt w) b I.length D hm hown _ (kI key) hx (keyAt hk) fun c hc _ => ?_
  rw [hr.at_ key hn] at hc
  injection hc with hc
  injection hc with _ hc
  subst hc
  exact h
theorem wpList_len_map (hgd : o.guard = none) (m : Operand) (hop : o.op = .call { callee := .builtin .len, args := #[m], argTypes := #[67] }) (hsep : Sep w0 B w rs) (ix : Nat) (hix : rs[ix]? = some (mapRes b I T)) (hm : a.eval m = .map (some b))
    (h : wpList Try.prog ops Q rest (a.put o.dst (.int .i64 (I.length : Int))) w) : wpList Try.prog ops Q (o :: rest) a w := by
  obtain ⟨F, rfl, D, hown, hl, hr⟩ := hsep.look ix hix
  refine wpList_len_own w hgd m 67 hop 3 3 Try.underlying67 _ b I.length D hm hown ?_
  rw [hr.size_]
  exact h
end
/-- A map that was just made. -/
theorem Sep.newMap {w0 w : World} {B : Nat} {rs : List Res} (h : Sep w0 B w rs) (T : Int → Int) : Sep w0 B (w.alloc (.map #[] 0)) (mapRes w.heap.size [] T :: rs) :=
  h.add (r := mapRes w.heap.size [] T) ⟨rfl, .map [], World.ownsMap_made _ _ _ _, by simp, RtD.empty T⟩ ((Touch.refl _ _).alloc _) (by simp)
end Go.Proofs.Ytehbfoiadinhbaa
