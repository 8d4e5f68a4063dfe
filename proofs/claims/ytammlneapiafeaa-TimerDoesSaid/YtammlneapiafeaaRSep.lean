/- The document's heap among other objects. -/
import Derived.Test.YtammlneapiafeaaRef16c
import Derived.Test.YtammlneapiafeaaOnceWalkT
namespace Go.Proofs.Ytammlneapiafeaa
open Go.RowKit
/-- One object is worked on, and makes another one in new memory; its own row may be new, too. -/
theorem Sep.focusNew {w0 w : World} {B : Nat} {rs : List Res} (h : Sep w0 B w rs) (i : Nat) {r : Res} (hi : rs[i]? = some r) :
    ∃ F, r.P F w ∧ ∀ (w' : World) (r' q : Res) (F' G : List Nat), r'.P F' w' → q.P G w' → Touch F w w' → (∀ k, k ∈ F' → k ∈ F ∨ w.heap.size ≤ k) → (∀ k, k ∈ G → w.heap.size ≤ k) → (∀ k, k ∈ G → k ∉ F') → Sep w0 B w' (q :: rs.set i r') := by
  obtain ⟨hb, hB, F, h1, h2⟩ := h
  have hil : i < rs.length := (List.getElem?_eq_some_iff.1 hi).1
  have hBw : B ≤ w.heap.size := Nat.le_trans hB hb.size
  have hlt : ∀ m, m < rs.length → ∀ k, k ∈ F m → k < w.heap.size := fun m hm k hk => (rs[m]).lt _ _ (h1 m rs[m] (List.getElem?_eq_getElem hm)).1 k hk
  refine ⟨F i, (h1 i r hi).1, fun w' r' q F' G hP hq ht hn' hn hGF => ⟨hb.trans (ht.below hBw (h1 i r hi).2), hB, fun j => match j with | 0 => G | j + 1 => if j = i then F' else F j, fun j s hs => ?_, fun j l hj hl hne k hk => ?_⟩⟩
  · match j, hs with
    | 0, hs =>
      simp at hs
      subst hs
      exact ⟨hq, fun k hk => Nat.le_trans hBw (hn k hk)⟩
    | j + 1, hs =>
      simp only [List.getElem?_cons_succ] at hs
      by_cases hji : j = i
      · subst hji
        rw [List.getElem?_set_self hil] at hs
        injection hs with hs
        subst hs
        simp only [if_true]
        exact ⟨hP, fun k hk => (hn' k hk).elim ((h1 j r hi).2 k) (fun h => Nat.le_trans hBw h)⟩
      · rw [List.getElem?_set_ne (Ne.symm hji)] at hs
        simp only [hji, if_false]
        refine ⟨s.loc _ _ _ (h1 j s hs).1 (fun k hk => ht.block k (s.lt _ _ (h1 j s hs).1 k hk) ?_), (h1 j s hs).2⟩
        exact h2 j i (List.getElem?_eq_some_iff.1 hs).1 hil hji k hk
  · simp only [List.length_cons, List.length_set] at hj hl
    match j, l, hj, hl, hne, hk with
    | 0, 0, _, _, hne, _ => exact absurd rfl hne
    | 0, l + 1, _, hl, _, hk =>
      intro hkl
      by_cases hli : l = i
      · simp only [hli, if_true] at hkl
        exact hGF k hk hkl
      · simp only [hli, if_false] at hkl
        have h3 := hlt l (by omega) k hkl
        have h4 := hn k hk
        omega
    | j + 1, 0, hj, _, _, hk =>
      intro hkl
      by_cases hji : j = i
      · simp only [hji, if_true] at hk
        exact hGF k hkl hk
      · simp only [hji, if_false] at hk
        have h3 := hlt j (by omega) k hk
        have h4 := hn k hkl
        omega
    | j + 1, l + 1, hj, hl, hne, hk =>
      by_cases hji : j = i
      · have hli : l ≠ i := fun e => hne (by rw [hji, e])
        simp only [hji, if_true] at hk
        simp only [hli, if_false]
        intro hkl
        rcases hn' k hk with h | h
        · exact h2 l i (by omega) hil hli k hkl h
        · have := hlt l (by omega) k hkl
          omega
      · simp only [hji, if_false] at hk
        by_cases hli : l = i
        · simp only [hli, if_true]
          intro hkl
          rcases hn' k hkl with h | h
          · exact h2 j i (by omega) hil hji k hk h
          · have := hlt j (by omega) k hk
            omega
        · simp only [hli, if_false]
          exact h2 j l (by omega) (by omega) (fun e => hne (by rw [e])) k hk
theorem Sep.pick2 {w0 w : World} {B : Nat} {rs : List Res} (h : Sep w0 B w rs) (i j : Nat) (hij : i ≠ j) {r s : Res} (hi : rs[i]? = some r) (hj : rs[j]? = some s) : Sep w0 B w [r, s] := by
  obtain ⟨hb, hB, F, h1, h2⟩ := h
  have hil : i < rs.length := (List.getElem?_eq_some_iff.1 hi).1
  have hjl : j < rs.length := (List.getElem?_eq_some_iff.1 hj).1
  refine ⟨hb, hB, fun m => F (match m with | 0 => i | _ + 1 => j), fun m q hq => ?_, fun m l hm hl hne k hk => ?_⟩
  · match m, hq with
    | 0, hq => simp at hq; subst hq; exact h1 i _ hi
    | 1, hq => simp at hq; subst hq; exact h1 j _ hj
  · match m, l, hm, hl, hne, hk with
    | 0, 0, _, _, hne, _ => exact absurd rfl hne
    | 1, 1, _, _, hne, _ => exact absurd rfl hne
    | 0, 1, _, _, _, hk => exact h2 i j hil hjl hij k hk
    | 1, 0, _, _, _, hk => exact h2 j i hjl hil (Ne.symm hij) k hk
    | 0, l + 2, _, hl, _, _ => exact absurd hl (by simp)
    | m + 2, _, hm, _, _, _ => exact absurd hm (by simp)
theorem Sep.blk {w0 w : World} {B : Nat} {rs : List Res} (h : Sep w0 B w rs) (i : Nat) {g : Nat} {t : TypeId} {cs : Array Value} (hi : rs[i]? = some (blkRes g t cs)) : Blk w g t cs := by
  obtain ⟨F, _, hb⟩ := h.look i hi
  exact hb
def rhRes (q : Nat) (S : List Al) (most : Int) : Res where
  P F w := (∃ row, F = q :: Option.toList row ∧ RAt w q S most row) ∧ S.length ≤ 10000
  loc F w w' h hk := by
    obtain ⟨⟨row, rfl, A, c, hb, ho⟩, h3⟩ := h
    obtain ⟨row', hr', ho'⟩ := (slRes 63 2 (.slice A S.length c) S.length (cellsA S)).loc (Option.toList row) w w' ⟨row, rfl, ho⟩ (fun k hk' => hk k (List.mem_cons_of_mem _ hk'))
    have : row = row' := by cases row <;> cases row' <;> simp_all
    subst this
    exact ⟨⟨row, rfl, A, c, (hk q (by simp)).trans hb, ho'⟩, h3⟩
  lt F w h k hk := by
    obtain ⟨⟨row, rfl, A, c, hb, ho⟩, _⟩ := h
    rcases List.mem_cons.1 hk with rfl | hk
    · exact hb.lt
    · exact ho.lt (Option.mem_toList.1 hk)
section
variable {w0 w : World} {B : Nat} {rs : List Res} {q : Nat} {S : List Al} {most : Int}
def NewRef (S : List Al) (most : Int) (w0 : World) (B : Nat) (rs : List Res) (e : Ending) (w' : World) : Prop := ∃ p', e = .returned (.tuple #[.pointer (some ⟨p', 0, none⟩), .int .i64 0]) ∧ Sep w0 B w' (rhRes p' S most :: rs)
theorem refNew_sep (h : Sep w0 B w rs) (m : Int) (h1 : 1 ≤ m) (h2 : m ≤ 10000) :
    Calls Try.prog 16 #[.int .i64 m] w (NewRef [] m w0 B rs) :=
  (refNew_ok m w h1 h2).mono fun e w' ⟨he, hw⟩ => by
    subst hw
    exact ⟨w.heap.size, he, h.add (r := rhRes w.heap.size [] m) ⟨⟨none, rfl, none, 0, Blk.new w _ _, Own.nil _ _ _ _⟩, by simp⟩ ((Touch.refl _ _).alloc _) (by simp)⟩
theorem rset_sep (h : Sep w0 B w rs) (i : Nat) (hi : rs[i]? = some (rhRes q S most)) (id at_ : Int) (hm : (S.length : Int) ≤ most) (hm2 : most ≤ 10000) :
    Calls Try.prog 17 #[.pointer (some ⟨q, 0, none⟩), .int .i64 id, .int .u64 at_] w (Gives (.int .i64 (setCode S most id)) w0 B (rs.set i (rhRes q (setS S most id at_) most))) := by
  obtain ⟨F, ⟨⟨row, rfl, hq⟩, hl⟩, hset⟩ := h.focus i hi
  exact (rset_any q S most row id at_ w hq hl).mono fun e w' ⟨row', he, hq', ht, hn⟩ => ⟨he, hset w' _ _ ⟨⟨row', rfl, hq'⟩, by have := setS_max hm id at_; omega⟩ ht (h_foot hn)⟩
theorem rdrop_sep (h : Sep w0 B w rs) (i : Nat) (hi : rs[i]? = some (rhRes q S most)) (id : Int) :
    Calls Try.prog 18 #[.pointer (some ⟨q, 0, none⟩), .int .i64 id] w (Gives (.int .i64 (dropCode S id)) w0 B (rs.set i (rhRes q (dropS S id) most))) := by
  obtain ⟨F, ⟨⟨row, rfl, hq⟩, hl⟩, hset⟩ := h.focus i hi
  exact (rdrop_any q S most row id w hq hl).mono fun e w' ⟨row', he, hq', ht, hn⟩ => ⟨he, hset w' _ _ ⟨⟨row', rfl, hq'⟩, by have := dropS_len S id; omega⟩ ht (h_foot hn)⟩
def RPops (D T : List Al) (q : Nat) (most : Int) (i : Nat) (w0 : World) (B : Nat) (rs : List Res) (e : Ending) (w' : World) : Prop :=
  ∃ A c, e = .returned (.slice A D.length c) ∧ Sep w0 B w' (iRes (.slice A D.length c) (D.map Prod.snd) :: rs.set i (rhRes q T most))
theorem rpop_sep (h : Sep w0 B w rs) (i : Nat) (hi : rs[i]? = some (rhRes q S most)) (now : Int) :
    Calls Try.prog 19 #[.pointer (some ⟨q, 0, none⟩), .int .u64 now] w (RPops (goneS S now) (leftS S now) q most i w0 B rs) := by
  obtain ⟨F, ⟨⟨row, rfl, hq⟩, hl⟩, hset⟩ := h.focusNew i hi
  have hql : q < w.heap.size := by obtain ⟨A, c, hb, ho⟩ := hq; exact hb.lt
  refine (rpop_any q S most row now w hq hl).mono fun e w' ⟨A, c, rowo, row', he, hq', ho, ht, hn, hn'⟩ => ⟨A, c, he, hset w' _ _ (q :: row'.toList) rowo.toList ⟨⟨row', rfl, hq'⟩, by have := leftS_len S now; omega⟩ ⟨rowo, rfl, ?_⟩ ht (h_foot hn'.of_none) (fun k hk => (hn k (Option.mem_toList.1 hk)).elim (fun e => by cases e) id) (fun k hk hm => ?_)⟩
  · rw [List.length_map]
    exact ho
  · rcases List.mem_cons.1 hm with rfl | hm
    · rcases hn _ (Option.mem_toList.1 hk) with h | h
      · cases h
      · exact absurd hql (Nat.not_lt.2 h)
    · obtain ⟨A', c', hb, ho'⟩ := hq'
      exact Own.ne_own ho ho' (by decide) k (Option.mem_toList.1 hk) hm
theorem rnext_sep (h : Sep w0 B w rs) (i : Nat) (hi : rs[i]? = some (rhRes q S most)) :
    Calls Try.prog 21 #[.pointer (some ⟨q, 0, none⟩)] w fun e w' => e = .returned (nextV S) ∧ w = w' := by
  obtain ⟨F, ⟨row, rfl, hq⟩, hl⟩ := h.look i hi
  exact rnext_any q S most row w hq hl
/-- The cell of the document's list. -/
theorem r_cell (h : Sep w0 B w rs) (i : Nat) (hi : rs[i]? = some (rhRes q S most)) : ∃ A c, w.cell? ⟨q, 0, none⟩ = some (.slice A S.length c) := by
  obtain ⟨F, ⟨row, rfl, A, c, hb, ho⟩, hl⟩ := h.look i hi
  exact ⟨A, c, hb.cell 0⟩
end
end Go.Proofs.Ytammlneapiafeaa
