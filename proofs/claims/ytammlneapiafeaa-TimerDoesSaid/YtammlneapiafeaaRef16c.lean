/- The document's heap: Set. -/
import Derived.Test.YtammlneapiafeaaRef16b
namespace Go.Proofs.Ytammlneapiafeaa
open Go.RowKit
theorem cellsA_drop (S : List Al) (k : Nat) : (cellsA S).drop (k * 2) = cellsA (S.drop k) := by
  induction S generalizing k with
  | nil => simp [cellsA]
  | cons a S ih =>
    cases k with
    | zero => simp
    | succ k =>
      have e : cellsA (a :: S) = .int .u64 a.1 :: .int .i64 a.2 :: cellsA S := rfl
      rw [e, show (k + 1) * 2 = k * 2 + 1 + 1 by omega, List.drop_succ_cons, List.drop_succ_cons, ih k, List.drop_succ_cons]
theorem hasA_take {S : List Al} {k : Nat} (hk : k < S.length) (id : Int) (h : hasA (S.take k) id = false) (hne : (atA S k).2 ≠ id) : hasA (S.take (k + 1)) id = false := by
  have e : S.take k ++ [S[k]] = S.take (k + 1) := List.take_append_getElem hk
  rw [atA_get hk] at hne
  unfold hasA at *
  rw [← e, List.any_append, h]
  simp [hne]
set_option maxRecDepth 100000 in
set_option maxHeartbeats 4000000 in
theorem rset_any (q : Nat) (S : List Al) (most : Int) (row : Option Nat) (id at_ : Int) (w : World) (h : RAt w q S most row) (hlen : S.length ≤ 10000) :
    Calls Try.prog 17 #[.pointer (some ⟨q, 0, none⟩), .int .i64 id, .int .u64 at_] w (RDid w q row (setS S most id at_) most (.int .i64 (setCode S most id))) := by
  obtain ⟨A, c, hb, ho⟩ := h
  have Hb := Lib.hid hb
  have Ho := Lib.hid ho
  obtain ⟨i0, hi0, hz0, hz1, hz2⟩ := info_parts infoAr
  have hc00 : ∀ o : Obj, (w.alloc o).cell? ⟨q, 0, none⟩ = some (.slice A S.length c) := fun o => (hb.alloc o).cell 0
  have hc10 : ∀ o : Obj, (w.alloc o).cell? ⟨q, 1, none⟩ = some (.int .i64 most) := fun o => (hb.alloc o).cell 1
  clear hb ho
  go_enter Try.func17, Try.ntmps17
  go_upto_block 0 with fail
  have Ht0 : Hid (Touch [] w (w.alloc (.cells #[] 63))) := Lib.hid ((Touch.refl _ _).alloc _)
  obtain ⟨g0, hg0⟩ : ∃ g0, g0 = w.heap.size := ⟨_, rfl⟩
  obtain ⟨w1, hw1⟩ : ∃ w1, w1 = w.alloc (.cells #[] 63) := ⟨_, rfl⟩
  have hc0 := hc00 (.cells #[] 63)
  have hc1 := hc10 (.cells #[] 63)
  rw [← hw1] at Ht0 hc0 hc1
  rw [← hw1, ← hg0]
  have Hb1 := Lib.hid (Hb.out.touch Ht0.out (by simp))
  have Ho1 := Lib.hid (Ho.out.touch Ht0.out (by simp))
  clear hw1 hg0 hc00 hc10
  go_cut [9] (fun _ wx => wx = w1 ∧ hasA S id = false)
  case first =>
    go_wp2_with fail
    go_loopw [9] (fun vi wr => ∃ k : Nat, k ≤ S.length ∧ vi = .int .i64 k ∧ hasA (S.take k) id = false ∧ wr = w1) (fun vi _ => S.length - (intOf vi).toNat)
    case atStart => exact ⟨0, by omega, rfl, rfl, rfl⟩
    case round =>
      obtain ⟨k, hk, rfl, hno, rfl⟩ := hrel
      have Hno := Lib.hid hno
      clear hno
      by_cases hkl : k < S.length
      · obtain ⟨g, off, c2, hv, hrw, hg, hnc, c3, c4⟩ := Ho1.out.alarm hkl
        injection hv with hA _ hcc
        subst hA; subst hcc
        have Hn : Hid ((atA S k).2 ≠ id → hasA (S.take (k + 1)) id = false) := Lib.hid (hasA_take hkl id Hno.out)
        have Hy : Hid ((atA S k).2 = id → hasA S id = true) := Lib.hid (fun e => (hasA_iff S id).2 (List.mem_map.2 ⟨_, (by rw [atA_get hkl]; exact List.getElem_mem hkl), e⟩))
        obtain ⟨x, hx⟩ : ∃ x, x = atA S k := ⟨_, rfl⟩
        rw [← hx] at c3 c4 Hn Hy
        clear hrw hx Hno
        by_cases hid : x.2 = id
        · have hb : (x.2 == id) = true := beq_iff_eq.2 hid
          have E1 : Hid (setS S most id at_ = S ∧ setCode S most id = 6) := Lib.hid (by unfold setS setCode; rw [if_pos (Hy.out hid), if_pos (Hy.out hid)]; exact ⟨rfl, rfl⟩)
          clear hid Hy Hn
          go_wp2_with fail
          go_ret
          rw [E1.out.1, E1.out.2]
          exact ⟨row, rfl, ⟨_, c, Hb1.out, Ho1.out⟩, Ht0.out.mono (fun _ h => by simp at h), .refl _ _⟩
        · have hb : (x.2 == id) = false := beq_false_of_ne hid
          have Hn' := Lib.hid (Hn.out hid)
          clear hid Hy Hn
          go_wp2_with fail
          go_roundw
          case rel => exact ⟨k + 1, by omega, by go_num, Hn'.out, trivial⟩
          case measure => simp [intOf]; omega
      · obtain rfl : k = S.length := by omega
        rw [List.take_length] at Hno
        go_wp2_with fail
        go_meet
        exact ⟨rfl, Hno.out⟩
  case rest =>
    obtain ⟨hwx, hno⟩ := hcut
    subst hwx
    have Hno := Lib.hid hno
    clear hno
    by_cases hfull : most ≤ S.length
    · have E1 : Hid (setS S most id at_ = S ∧ setCode S most id = 8) := Lib.hid (by unfold setS setCode; simp only [Hno.out, Bool.false_eq_true, if_false, hfull, if_true]; exact ⟨trivial, trivial⟩)
      go_wp2_with fail
      go_quiet (fail)
      go_wp2_with fail
      go_ret
      rw [E1.out.1, E1.out.2]
      have hfin : RAt wc q S most row := ⟨_, c, Hb1.out, Ho1.out⟩
      exact ⟨row, rfl, hfin, (Ht0.out.mono (fun _ h => by simp at h)).drewN _, .refl _ _⟩
    · have E1 : Hid (setS S most id at_ = insS S (at_, id) ∧ setCode S most id = 0) := Lib.hid (by unfold setS setCode; simp only [Hno.out, Bool.false_eq_true, if_false, hfull]; exact ⟨trivial, trivial⟩)
      go_wp2_with fail
      go_quiet (fail)
      go_wp2_with fail
      have Ht1 : Hid (Touch [] w (wc.drewN nq)) := Lib.hid (Ht0.out.drewN _)
      have Hb2 : Hid (Blk (wc.drewN nq) q 50 #[.slice A S.length c, .int .i64 most]) := Lib.hid Hb1.out
      have Ho2 : Hid (Own (wc.drewN nq) 63 2 (.slice A S.length c) S.length (cellsA S) row) := Lib.hid Ho1.out
      obtain ⟨w2, hw2⟩ : ∃ w2, w2 = wc.drewN nq := ⟨_, rfl⟩
      rw [← hw2] at Ht1 Hb2 Ho2 ⊢
      clear hw2 hc0 hc1 Hb1 Ho1 Ht0
      go_loopw [7, 8] (fun vo vi wr => ∃ (k : Nat) (A' : Option Addr) (c' : Nat) (rowo : Option Nat), k ≤ S.length ∧ vi = .int .i64 k ∧ vo = .slice A' k c' ∧ (∀ j, j < k → ltA (atA S j) (at_, id)) ∧
        Own wr 63 2 (.slice A' k c') k (cellsA (S.take k)) rowo ∧ Touch [] w wr ∧ NewRow w none rowo) (fun _ vi _ => S.length - (intOf vi).toNat)
      case atStart => exact ⟨0, _, 0, none, by omega, rfl, rfl, fun _ h => by omega, Own.nil _ _ _ _, Ht1.out, .refl _ _⟩
      case round =>
        obtain ⟨k, A', c', rowo, hk, rfl, rfl, hltk, hown, ht, hnew⟩ := hrel
        have hcq : wr.cell? ⟨q, 0, none⟩ = some (.slice A S.length c) := (Hb.out.touch ht (by simp)).cell 0
        have Hbr := Lib.hid (Hb.out.touch ht (by simp))
        have Hor := Lib.hid (Ho.out.touch ht (by simp))
        have Hlt := Lib.hid hltk
        have Hown := Lib.hid hown
        have Ht := Lib.hid ht
        have Hnew := Lib.hid hnew
        clear hltk hown ht hnew
        go_upto_region 9 with fail
        go_cut [82] (fun v wx => wx = wr ∧ v = .bool (decide (k < S.length ∧ ltA (atA S k) (at_, id))))
        case first =>
          by_cases hkl : k < S.length
          · obtain ⟨g, off, c2, hv, hrw, hg, hnc, c3, c4⟩ := Hor.out.alarm hkl
            injection hv with hA _ hcc
            subst hA; subst hcc
            obtain ⟨x, hx⟩ : ∃ x, x = atA S k := ⟨_, rfl⟩
            rw [← hx] at c3 c4
            obtain ⟨x1, x2⟩ := x
            have Hx := Lib.hid hx
            simp only at c3 c4
            clear hrw hx
            by_cases h1 : x1 < at_
            · have Hd : Hid (decide (k < S.length ∧ ltA (x1, x2) (at_, id)) = true) := Lib.hid (decide_eq_true ⟨hkl, .inl h1⟩)
              go_wp2_with fail
              go_meet
              exact ⟨rfl, by rw [← Hx.out, Hd.out]⟩
            · have h1' : decide (x1 < at_) = false := decide_eq_false h1
              by_cases h2 : x1 = at_
              · have Hd : Hid (decide (k < S.length ∧ ltA (x1, x2) (at_, id)) = decide (x2 < id)) := Lib.hid (decide_eq_decide.2 ⟨fun h => h.2.elim (fun h => absurd h h1) (fun h => h.2), fun h => ⟨hkl, .inr ⟨h2, h⟩⟩⟩)
                have h2' : ((x1 : Int) == at_) = true := beq_iff_eq.2 h2
                clear h2
                go_wp2_with fail
                go_meet
                exact ⟨rfl, by rw [← Hx.out, Hd.out]⟩
              · have Hd : Hid (decide (k < S.length ∧ ltA (x1, x2) (at_, id)) = false) := Lib.hid (decide_eq_false (fun h => h.2.elim h1 (fun h => h2 h.1)))
                have h2' : ((x1 : Int) == at_) = false := beq_false_of_ne h2
                go_wp2_with fail
                go_meet
                exact ⟨rfl, by rw [← Hx.out, Hd.out]⟩
          · have Hd : Hid (decide (k < S.length ∧ ltA (atA S k) (at_, id)) = false) := Lib.hid (decide_eq_false (fun h => hkl h.1))
            go_wp2_with fail
            go_meet
            exact ⟨rfl, by rw [Hd.out]⟩
        case rest =>
          obtain ⟨hwx, hv⟩ := hcut
          subst hwx
          subst hv
          by_cases hgo : k < S.length ∧ ltA (atA S k) (at_, id)
          · have hd : decide (k < S.length ∧ ltA (atA S k) (at_, id)) = true := decide_eq_true hgo
            rw [hd]
            obtain ⟨hkl, hltx⟩ := hgo
            obtain ⟨g, off, c2, hv, hrw, hg, hnc, c3, c4⟩ := Hor.out.alarm hkl
            injection hv with hA _ hcc
            subst hA; subst hcc
            have Hs : Hid (cellsA (S.take (k + 1)) = cellsA (S.take k) ++ [.int .u64 (atA S k).1, .int .i64 (atA S k).2]) := Lib.hid (by
              have e : S.take k ++ [S[k]] = S.take (k + 1) := List.take_append_getElem hkl
              rw [← e, cellsA_snoc, atA_get hkl])
            have Hlx := Lib.hid hltx
            have Hlt2 : Hid (∀ j, j < k + 1 → ltA (atA S j) (at_, id)) := Lib.hid (fun j hj => by
              by_cases hjk : j = k
              · rw [hjk]; exact Hlx.out
              · exact Hlt.out j (by omega))
            obtain ⟨x, hx⟩ : ∃ x, x = atA S k := ⟨_, rfl⟩
            rw [← hx] at c3 c4 Hs
            obtain ⟨x1, x2⟩ := x
            simp only at c3 c4 Hs
            clear hrw hx hd hltx
            go_wp2_with (at_builtin; refine wpList_append_Own _ rfl (.tmp 83) (.tmp 91) 48 48 rfl 63 i0 _ 2 16 Try.underlying48 hi0 hz0 hz1 hz2 rfl _ k (cellsA (S.take k)) rowo rfl (Hown.out.alloc _) _ 1 _ rfl (Src.al Try.underlying48 _ _ x1 x2) (by unfold maxLen; omega) (by omega) ?_)
            intro v' w3 row' hown' ht2 hrow2
            obtain ⟨A2, c2, rfl, _⟩ := hown'.shape
            have Ht2 : Hid (Touch [] w w3) := Lib.hid (Touch.trans_new' (Ht.out.alloc _) ht2 Hnew.out)
            have Hnew2 : Hid (NewRow w none row') := Lib.hid (Hnew.out.trans hrow2 (by have := Ht.out.size; simp; omega))
            have Hown2 := Lib.hid hown'
            clear hown' ht2 hrow2 hcq c3 c4
            go_wp2_with fail
            go_roundw
            case rel => exact ⟨k + 1, A2, c2, row', by omega, by go_num, rfl, Hlt2.out, by rw [Hs.out]; exact Hown2.out, Ht2.out, Hnew2.out⟩
            case measure => simp [intOf]; omega
          · have hd : decide (k < S.length ∧ ltA (atA S k) (at_, id)) = false := decide_eq_false hgo
            rw [hd]
            have Hins : Hid (insS S (at_, id) = S.take k ++ (at_, id) :: S.drop k) := Lib.hid (insS_at hk Hlt.out (fun h h2 => hgo ⟨h, h2⟩))
            clear hd hgo
            go_wp2_with (at_builtin; refine wpList_append_Own _ rfl (.tmp 95) (.tmp 99) 48 48 rfl 63 i0 _ 2 16 Try.underlying48 hi0 hz0 hz1 hz2 rfl _ k (cellsA (S.take k)) rowo rfl (Hown.out.alloc _) _ 1 _ rfl (Src.al Try.underlying48 _ _ at_ id) (by unfold maxLen; omega) (by omega) ?_)
            intro v' w3 row' hown' ht2 hrow2
            obtain ⟨A2, c2, rfl, _⟩ := hown'.shape
            have Ht2 : Hid (Touch [] w w3) := Lib.hid (Touch.trans_new' (Ht.out.alloc _) ht2 Hnew.out)
            have Hnew2 : Hid (NewRow w none row') := Lib.hid (Hnew.out.trans hrow2 (by have := Ht.out.size; simp; omega))
            have Hown2 := Lib.hid hown'
            have Hb3 := Lib.hid (Hb.out.touch Ht2.out (by simp))
            have Ho3 := Lib.hid (Ho.out.touch Ht2.out (by simp))
            clear hown' ht2 hrow2 hcq
            have hc3 : w3.cell? ⟨q, 0, none⟩ = some (.slice A S.length c) := Hb3.out.cell 0
            have hfinal : ∀ (n' : Nat) (xs' : List Value) (v : Value) (w4 : World) (row'' : Option Nat), n' = S.length + 1 → xs' = cellsA (S.take k) ++ .int .u64 at_ :: .int .i64 id :: cellsA (S.drop k) → Own w4 63 2 v n' xs' row'' → Touch row'.toList w3 w4 → NewRow w3 row' row'' →
                (∃ A4 c4, v = .slice A4 n' c4) ∧ w4.cell? ⟨q, 0, none⟩ = some (.slice A S.length c) ∧ w4.frozen? ⟨q, 0, none⟩ = false ∧ Hid (RDid w q row (setS S most id at_) most (.int .i64 (setCode S most id)) (.returned (.int .i64 0)) (w4.setCell ⟨q, 0, none⟩ v)) := by
              intro n' xs' v w4 row'' hn' hxs' ho4 ht4 hr4
              have ht5 : Touch [] w w4 := Touch.trans_new' Ht2.out ht4 Hnew2.out
              have hb4 := Hb.out.touch ht5 (by simp)
              have hn4 : NewRow w none row'' := Hnew2.out.trans hr4 Ht2.out.size
              obtain ⟨A4, c4, rfl, _⟩ := ho4.shape
              refine ⟨⟨A4, c4, rfl⟩, hb4.cell 0, hb4.frozen 0, Lib.hid ?_⟩
              have hl : (insS S (at_, id)).length = n' := by rw [insS_len, hn']
              have hcs : cellsA (insS S (at_, id)) = xs' := by rw [Hins.out, hxs']; simp [cellsA]
              rw [E1.out.1, E1.out.2]
              refine ⟨row'', rfl, ⟨A4, c4, ?_, ?_⟩, (ht5.mono (T := q :: row.toList) (fun _ h => by simp at h)).setCell (p := ⟨q, 0, none⟩) (.inl (by simp)) _, hn4.of_none⟩
              · rw [hl]; exact hb4.set_ 0 _
              · rw [hl, hcs]; exact ho4.far (a := ⟨q, 0, none⟩) (ho4.ne_ hb4 (by decide)) _
            have Hfinal := Lib.hid hfinal
            clear hfinal
            by_cases hkc : k < c
            · have hsh : ∃ g off, A = some ⟨g, off, none⟩ := by
                rcases Ho3.out.2 with ⟨A', hv, _, _⟩ | ⟨g, off, c', cur, hv, _⟩
                · injection hv with _ _ hcc; omega
                · injection hv with hA _ _; exact ⟨g, off, hA⟩
              obtain ⟨g, off, rfl⟩ := hsh
              have hcutk := Ho3.out.cut hk hkc
              rw [cellsA_drop] at hcutk
              have Hcut := Lib.hid hcutk
              have hnc : S.length ≤ c := by obtain ⟨A', c', hv, hc'⟩ := Ho3.out.shape; injection hv with _ _ hcc; omega
              clear hcutk
              go_wp2_with (at_builtin; refine wpList_append_Own _ rfl (.tmp 101) (.tmp 107) 48 48 rfl 63 i0 _ 2 16 Try.underlying48 hi0 hz0 hz1 hz2 rfl _ (k + 1) _ row' rfl Hown2.out _ (S.length - k) (cellsA (S.drop k)) rfl (Hcut.out.src cellsA_one Try.underlying48) (by unfold maxLen; omega) (by omega) ?_)
              intro v4 w4 row4 ho4 ht4 hr4
              obtain ⟨⟨A4, c4, rfl⟩, hc4, hf4, HR⟩ := Hfinal.out _ _ v4 w4 row4 (by omega) rfl ho4 ht4 hr4
              clear ho4 ht4 hr4 hc3
              go_wp2_with fail
              go_ret
              exact HR.out
            · have hkn : k = S.length ∧ k = c := by obtain ⟨A', c', hv, hc'⟩ := Ho3.out.shape; injection hv with _ _ hcc; omega
              obtain ⟨hk1, rfl⟩ := hkn
              have hnil : S.drop k = [] := List.drop_of_length_le (by omega)
              have Hsrc : Hid (Src Try.prog 2 48 (.slice A 0 0) 0 [] w3) := Lib.hid ((Own.nil w3 63 2 A).src (by simp) Try.underlying48)
              have Hfin2 : Hid (S.length - k = 0 ∧ cellsA (S.drop k) = []) := Lib.hid ⟨by omega, by rw [hnil]; rfl⟩
              rw [← hk1] at hc3
              clear hnil
              go_wp2_with (at_builtin; refine wpList_append_Own _ rfl (.tmp 101) (.tmp 107) 48 48 rfl 63 i0 _ 2 16 Try.underlying48 hi0 hz0 hz1 hz2 rfl _ (k + 1) _ row' rfl Hown2.out _ 0 [] rfl Hsrc.out (by unfold maxLen; omega) (by omega) ?_)
              intro v4 w4 row4 ho4 ht4 hr4
              obtain ⟨⟨A4, c4, rfl⟩, hc4, hf4, HR⟩ := Hfinal.out _ _ v4 w4 row4 (by omega) (by rw [Hfin2.out.2, List.take_of_length_le (by omega)]) ho4 ht4 hr4
              clear ho4 ht4 hr4 hc3
              go_wp2_with fail
              go_ret
              exact HR.out
end Go.Proofs.Ytammlneapiafeaa
