/- The document's heap: what its methods do. -/
import Derived.Test.YtammlneapiafeaaTSep
namespace Go.Proofs.Ytammlneapiafeaa
open Go.RowKit
theorem infoAr : (Try.prog.info? 63).map (fun i => (i.zero, i.size, i.bytes)) = some (some (.agg #[.int .u64 0, .int .i64 0]), 2, 16) := by kernel_rfl
def RAt (w : World) (q : Nat) (S : List Al) (most : Int) (row : Option Nat) : Prop :=
  ∃ A c, Blk w q 50 #[.slice A S.length c, .int .i64 most] ∧ Own w 63 2 (.slice A S.length c) S.length (cellsA S) row
def RDid (w : World) (q : Nat) (row : Option Nat) (S : List Al) (most : Int) (v : Value) (e : Ending) (w' : World) : Prop :=
  ∃ row', e = .returned v ∧ RAt w' q S most row' ∧ Touch (q :: row.toList) w w' ∧ NewRow w row row'
theorem filter_take {S : List Al} {k : Nat} (hk : k < S.length) (f : Al → Bool) : (S.take (k + 1)).filter f = if f (atA S k) then (S.take k).filter f ++ [atA S k] else (S.take k).filter f := by
  have h : S.take k ++ [S[k]] = S.take (k + 1) := List.take_append_getElem hk
  rw [← h, List.filter_append, atA_get hk]
  by_cases hf : f S[k] = true
  · rw [if_pos hf]; simp [hf]
  · rw [if_neg hf]; simp [hf]
theorem NewRow.of_none {w : World} {row row' : Option Nat} (h : NewRow w Option.none row') : NewRow w row row' := fun g e => (h g e).elim (fun e => by cases e) .inr
/-- The cells of one alarm of a row. -/
theorem Own.alarm {w : World} {e : TypeId} {v : Value} {S : List Al} {row : Option Nat} (h : Own w e 2 v S.length (cellsA S) row) {k : Nat} (hk : k < S.length) :
    ∃ g off c, v = .slice (some ⟨g, off, none⟩) S.length c ∧ row = some g ∧ g < w.heap.size ∧ S.length ≤ c ∧ w.cell? ⟨g, off + k * 2, none⟩ = some (.int .u64 (atA S k).1) ∧ w.cell? ⟨g, off + k * 2 + 1, none⟩ = some (.int .i64 (atA S k).2) := by
  obtain ⟨g, off, c, cur, rfl, hrow, hb, _, hnc, _, _, hx⟩ := h.at_ (by omega)
  obtain ⟨h1, h2⟩ := cellsA_at S k hk
  exact ⟨g, off, c, rfl, hrow, hb.lt, hnc, (hb.cell _).trans (hx _ _ h1), (hb.cell _).trans (hx _ _ h2)⟩
theorem refNew_bad (m : Int) (w : World) (h : m < 1 ∨ 10000 < m) :
    Calls Try.prog 16 #[.int .i64 m] w fun e w' => e = .returned (.tuple #[.pointer none, .int .i64 1]) ∧ w = w' := by
  by_cases h1 : m < 1
  · go_enter Try.func16, Try.ntmps16
    go_wp2
    go_ret2
    exact ⟨rfl, rfl⟩
  · have h2 : 10000 < m := by omega
    go_enter Try.func16, Try.ntmps16
    go_wp2
    go_ret2
    exact ⟨rfl, rfl⟩
theorem refNew_ok (m : Int) (w : World) (h1 : 1 ≤ m) (h2 : m ≤ 10000) :
    Calls Try.prog 16 #[.int .i64 m] w fun e w' => e = .returned (.tuple #[.pointer (some ⟨w.heap.size, 0, none⟩), .int .i64 0]) ∧ w.alloc (.cells #[.slice none 0 0, .int .i64 m] 50) = w' := by
  have h1' : ¬ m < 1 := by omega
  have h2' : ¬ 10000 < m := by omega
  go_enter Try.func16, Try.ntmps16
  go_wp2
  go_ret2
  exact ⟨rfl, rfl⟩
theorem rnext_any (q : Nat) (S : List Al) (most : Int) (row : Option Nat) (w : World) (h : RAt w q S most row) (hlen : S.length ≤ 10000) :
    Calls Try.prog 21 #[.pointer (some ⟨q, 0, none⟩)] w fun e w' => e = .returned (nextV S) ∧ w = w' := by
  obtain ⟨A, c, hb, ho⟩ := h
  cases S with
  | nil =>
    have hc0 : w.cell? ⟨q, 0, none⟩ = some (.slice A 0 c) := hb.cell 0
    clear hb ho
    go_enter Try.func21, Try.ntmps21
    go_wp2_with fail
    go_ret2
    exact ⟨rfl, rfl⟩
  | cons a S =>
    obtain ⟨g, off, c', hv, hrw, hg, hnc, c1, _⟩ := ho.alarm (k := 0) (by simp)
    injection hv with hA _ hcc
    subst hA; subst hcc
    have hc0 : w.cell? ⟨q, 0, none⟩ = some (.slice (some ⟨g, off, none⟩) (a :: S).length c) := hb.cell 0
    obtain ⟨m, hm⟩ : ∃ m, m = (a :: S).length := ⟨_, rfl⟩
    rw [← hm] at hc0 hlen hnc
    have hm0 : ((m : Int) == 0) = false := beq_false_of_ne (by rw [hm]; simp; omega)
    have hmp : 0 < m := by rw [hm]; simp
    have e0 : atA (a :: S) 0 = a := rfl
    rw [e0] at c1
    simp only [Nat.zero_mul, Nat.add_zero] at c1
    clear hb ho hrw hm e0
    go_enter Try.func21, Try.ntmps21
    go_wp2_with fail
    go_ret2
    exact ⟨rfl, rfl⟩
set_option maxRecDepth 100000 in
set_option maxHeartbeats 1000000 in
theorem rdrop_any (q : Nat) (S : List Al) (most : Int) (row : Option Nat) (id : Int) (w : World) (h : RAt w q S most row) (hlen : S.length ≤ 10000) :
    Calls Try.prog 18 #[.pointer (some ⟨q, 0, none⟩), .int .i64 id] w (RDid w q row (dropS S id) most (.int .i64 (dropCode S id))) := by
  obtain ⟨A, c, hb, ho⟩ := h
  have Hb := Lib.hid hb
  have Ho := Lib.hid ho
  obtain ⟨i0, hi0, hz0, hz1, hz2⟩ := info_parts infoAr
  have hca : ∀ o : Obj, (w.alloc o).cell? ⟨q, 0, none⟩ = some (.slice A S.length c) := fun o => (hb.alloc o).cell 0
  clear hb ho
  go_enter Try.func18, Try.ntmps18
  go_wp2_with fail
  go_loopw [5, 6] (fun vo vi wr => ∃ (k : Nat) (A' : Option Addr) (c' : Nat) (rowo : Option Nat), k ≤ S.length ∧ vi = .int .i64 k ∧ vo = .slice A' (dropS (S.take k) id).length c' ∧
    Own wr 63 2 (.slice A' (dropS (S.take k) id).length c') (dropS (S.take k) id).length (cellsA (dropS (S.take k) id)) rowo ∧ Touch [] w wr ∧ NewRow w none rowo) (fun _ vi _ => S.length - (intOf vi).toNat)
  case atStart => exact ⟨0, _, 0, none, by omega, rfl, rfl, Own.nil _ _ _ _, (Touch.refl _ _).alloc _, .refl _ _⟩
  case round =>
    obtain ⟨k, A', c', rowo, hk, rfl, rfl, hown, ht, hnew⟩ := hrel
    clear hca
    have hc0 : wr.cell? ⟨q, 0, none⟩ = some (.slice A S.length c) := (Hb.out.touch ht (by simp)).cell 0
    have Hbr := Lib.hid (Hb.out.touch ht (by simp))
    have hor := Ho.out.touch ht (by simp)
    have hdl := dropS_len (S.take k) id
    have Hown := Lib.hid hown
    have Ht := Lib.hid ht
    have Hnew := Lib.hid hnew
    have hdn : (dropS (S.take k) id).length ≤ 10000 := by rw [List.length_take] at hdl; omega
    by_cases hkl : k < S.length
    · obtain ⟨g, off, c2, hv, hrw, hg, hnc, c3, c4⟩ := hor.alarm hkl
      injection hv with hA _ hcc
      subst hA; subst hcc
      have Hf : Hid (dropS (S.take (k + 1)) id = if (!((atA S k).2 == id)) = true then dropS (S.take k) id ++ [atA S k] else dropS (S.take k) id) := Lib.hid (filter_take hkl _)
      obtain ⟨x, hx⟩ : ∃ x, x = atA S k := ⟨_, rfl⟩
      rw [← hx] at c3 c4 Hf
      obtain ⟨D, hD⟩ : ∃ D, D = dropS (S.take k) id := ⟨_, rfl⟩
      rw [← hD] at Hown Hf hdn ⊢
      obtain ⟨x1, x2⟩ := x
      simp only at c3 c4 Hf
      clear hown ht hnew hor hrw hdl hx hD
      by_cases hid : x2 = id
      · have hb : (x2 != id) = false := by rw [hid]; simp
        have Hf2 : Hid (dropS (S.take (k + 1)) id = D) := Lib.hid (by rw [Hf.out, hid]; simp)
        clear hid Hf
        go_wp2_with fail
        go_roundw
        case rel => exact ⟨k + 1, A', c', rowo, by omega, by go_num, by rw [Hf2.out], by rw [Hf2.out]; exact Hown.out, Ht.out, Hnew.out⟩
        case measure => simp [intOf]; omega
      · have hb : (x2 != id) = true := by rw [bne_iff_ne]; exact hid
        have Hf2 : Hid (dropS (S.take (k + 1)) id = D ++ [(x1, x2)]) := Lib.hid (by rw [Hf.out]; simp [hid])
        clear hid Hf
        go_wp2_with (at_builtin; refine wpList_append_Own _ rfl (.tmp 27) (.tmp 35) 48 48 rfl 63 i0 _ 2 16 Try.underlying48 hi0 hz0 hz1 hz2 rfl _ D.length (cellsA D) rowo rfl (Hown.out.alloc _) _ 1 _ rfl (Src.al Try.underlying48 wr _ x1 x2) (by unfold maxLen; omega) (by omega) ?_)
        intro v' w2 row' hown' ht2 hrow2
        obtain ⟨A2, c2, rfl, _⟩ := hown'.shape
        have Ht2 : Hid (Touch [] w w2) := Lib.hid (Touch.trans_new' (Ht.out.alloc _) ht2 Hnew.out)
        have Hnew2 : Hid (NewRow w none row') := Lib.hid (Hnew.out.trans hrow2 (by have := Ht.out.size; simp; omega))
        have Hown2 := Lib.hid hown'
        clear hown' ht2 hrow2 hc0 c3 c4
        go_wp2_with fail
        go_roundw
        case rel =>
          have hl : (D ++ [(x1, x2)]).length = D.length + 1 := by simp
          exact ⟨k + 1, A2, c2, row', by omega, by go_num, by rw [Hf2.out, hl], by rw [Hf2.out, hl, cellsA_snoc]; exact Hown2.out, Ht2.out, Hnew2.out⟩
        case measure => simp [intOf]; omega
    · obtain rfl : k = S.length := by omega
      rw [List.take_length] at *
      clear hown ht hnew hor hdl
      cases hs : hasA S id with
      | false =>
        have e1 := dropS_none hs
        have e2 : dropCode S id = 5 := by unfold dropCode; rw [hs]; rfl
        have E1 := Lib.hid e1
        have E2 := Lib.hid e2
        rw [e1] at Hown hdn ⊢
        clear e1 e2 hs
        go_wp2_with fail
        go_ret
        rw [E1.out, E2.out]
        exact ⟨row, rfl, ⟨A, c, Hbr.out, Ho.out.touch Ht.out (by simp)⟩, Ht.out.mono (fun _ h => by simp at h), .refl _ _⟩
      | true =>
        have hne : (((dropS S id).length : Int) == (S.length : Int)) = false := by
          refine beq_false_of_ne fun e => ?_
          obtain ⟨a, ha, he⟩ := List.mem_map.1 ((hasA_iff S id).1 hs)
          have hlt : (dropS S id).length < S.length := by
            unfold dropS
            refine Nat.lt_of_le_of_ne (List.length_filter_le _ _) (fun h => ?_)
            have := List.length_filter_eq_length_iff.1 h a ha
            rw [he] at this
            simp at this
          omega
        have e2 : dropCode S id = 0 := by unfold dropCode; rw [hs]; rfl
        obtain ⟨D, hD⟩ : ∃ D, D = dropS S id := ⟨_, rfl⟩
        rw [← hD] at Hown hdn hne ⊢
        have E1 := Lib.hid hD
        have E2 := Lib.hid e2
        have hf0 : wr.frozen? ⟨q, 0, none⟩ = false := Hbr.out.frozen 0
        clear e2 hs hD
        go_wp2_with fail
        go_ret
        rw [← E1.out, E2.out]
        refine ⟨rowo, rfl, ⟨A', c', Hbr.out.set_ 0 _, Hown.out.far (a := ⟨q, 0, none⟩) (Hown.out.ne_ Hbr.out (by decide)) _⟩, (Ht.out.mono (T := q :: row.toList) (fun _ h => by simp at h)).setCell (p := ⟨q, 0, none⟩) (.inl (by simp)) _, Hnew.out.of_none⟩
end Go.Proofs.Ytammlneapiafeaa
