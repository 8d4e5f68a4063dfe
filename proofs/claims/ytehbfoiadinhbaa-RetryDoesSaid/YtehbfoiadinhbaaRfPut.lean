/- The document's table: a request in its place. -/
import Derived.Test.YtehbfoiadinhbaaRfBase
namespace Go.Proofs.Ytehbfoiadinhbaa
open Go Go.RowKit
set_option maxRecDepth 100000 in
set_option maxHeartbeats 4000000 in
theorem put_sep {w w0 : World} {B : Nat} {rs : List Res} {i j q : Nat} {c : Cf} {A : Option Addr} {cap : Nat} {S : List Al} {T : Int → Int} (hsep : Sep w0 B w rs) (hrf : RfAt rs i j q c A cap S T)
    (id tried due : Int) (hlen : S.length ≤ 10000) (hno : id ∉ idsA S) :
    Calls Try.prog 33 #[.pointer (some ⟨q, 0, none⟩), .agg #[.int .i64 id, .int .i64 tried, .int .u64 due]] w fun e w' =>
      e = .returned (.tuple #[]) ∧ ∃ A' cap', Sep w0 B w' (setRf rs i j q c A' cap' (insS S (due, id)) (upd T id tried)) := by
  obtain ⟨i0, hi0, hz0, hz1, hz2⟩ := info_parts infoRq
  obtain ⟨U, hU⟩ : ∃ U, U = upd T id tried := ⟨_, rfl⟩
  have hUid : U id = tried := by rw [hU]; exact upd_self _ _ _
  have hsame : ∀ a, a ∈ idsA S → T a = U a := fun a ha => by
    rw [hU, upd, if_neg (fun e : a = id => hno (e ▸ ha))]
  have hrf2 : RfAt rs i j q c A cap S U := ⟨hrf.b, by rw [rowQ, ← cellsQ_same hsame]; exact hrf.r, hrf.ne⟩
  rw [← hU]
  have Hr := Lib.hid hrf2
  have HU := Lib.hid hUid
  have hs1 := hsep.add (w' := w.alloc (.cells #[.int .i64 id, .int .i64 tried, .int .u64 due] 75)) (r := blkRes w.heap.size 75 #[.int .i64 id, .int .i64 tried, .int .u64 due]) (F := [w.heap.size]) ⟨rfl, Blk.new _ _ _⟩ ((Touch.refl _ _).alloc _) (by simp)
  have Hs1 := Lib.hid hs1
  clear hsep hrf hrf2 hsame hU hs1 hUid hno
  go_enter Try.func33, Try.ntmps33
  go_wp2_with fail
  obtain ⟨gq, hgq⟩ : ∃ gq, gq = w.heap.size := ⟨_, rfl⟩
  obtain ⟨w1, hw1⟩ : ∃ w1, w1 = w.alloc (.cells #[.int .i64 id, .int .i64 tried, .int .u64 due] 75) := ⟨_, rfl⟩
  have Hs2 := Lib.hid ((Hs1.out.alloc (.cells #[] 75)).bare 75 3 (some ⟨w.heap.size + 1, 0, none⟩))
  rw [← hw1, ← hgq] at Hs2
  rw [← hw1, ← hgq]
  clear hw1 hgq Hs1
  go_loopw [4, 5] (fun vo vi wr => ∃ (k : Nat) (A' : Option Addr) (c' : Nat), k ≤ S.length ∧ vi = .int .i64 k ∧ vo = .slice A' k c' ∧ (∀ j, j < k → ltA (atA S j) (due, id)) ∧
    Sep w0 B wr (slRes 75 3 (.slice A' k c') k (cellsQ (S.take k) U) :: blkRes gq 75 #[.int .i64 id, .int .i64 tried, .int .u64 due] :: rs)) (fun _ vi _ => S.length - (intOf vi).toNat)
  case atStart => exact ⟨0, _, 0, by omega, rfl, rfl, fun _ h => by omega, Hs2.out⟩
  case round =>
    obtain ⟨k, A', c', hk, rfl, rfl, hltk, hs⟩ := hrel
    have Hlt := Lib.hid hltk
    have Hs := Lib.hid hs
    have hcq : wr.cell? ⟨q, 5, none⟩ = some (.slice A S.length cap) := rf_cell hs (i := i + 2) Hr.out.b
    have d0 : wr.cell? ⟨gq, 0, none⟩ = some (.int .i64 id) := (hs.blkAt 1 rfl).cell 0
    have d2 : wr.cell? ⟨gq, 2, none⟩ = some (.int .u64 due) := (hs.blkAt 1 rfl).cell 2
    clear Hs2 hltk hs
    go_upto_region 2 with fail
    go_cut [52] (fun v wx => (∃ m, wx = wr.drewN m) ∧ v = .bool (decide (k < S.length ∧ ltA (atA S k) (due, id))))
    case first =>
      by_cases hkl : k < S.length
      · obtain ⟨g, off, rfl, hnc, c3, c4, c5⟩ := Hs.out.req (j + 2) Hr.out.r hkl
        obtain ⟨x, hx⟩ : ∃ x, x = atA S k := ⟨_, rfl⟩
        rw [← hx] at c3 c4 c5
        obtain ⟨x1, x2⟩ := x
        have Hx := Lib.hid hx
        simp only at c3 c4 c5
        clear hx
        by_cases h1 : x1 < due
        · have Hd : Hid (decide (k < S.length ∧ ltA (x1, x2) (due, id)) = true) := Lib.hid (decide_eq_true ⟨hkl, .inl h1⟩)
          go_wp2_with fail
          go_quiet (fail)
          go_wp2_with fail
          go_meet
          exact ⟨⟨nq, rfl⟩, by rw [← Hx.out, Hd.out]⟩
        · have h1' : decide (x1 < due) = false := decide_eq_false h1
          by_cases h2 : x1 = due
          · have Hd : Hid (decide (k < S.length ∧ ltA (x1, x2) (due, id)) = decide (x2 < id)) := Lib.hid (decide_eq_decide.2 ⟨fun h => h.2.elim (fun h => absurd h h1) (fun h => h.2), fun h => ⟨hkl, .inr ⟨h2, h⟩⟩⟩)
            have h2' : ((x1 : Int) == due) = true := beq_iff_eq.2 h2
            clear h2
            go_wp2_with fail
            go_quiet (fail)
            go_wp2_with fail
            go_meet
            exact ⟨⟨nq, rfl⟩, by rw [← Hx.out, Hd.out]⟩
          · have Hd : Hid (decide (k < S.length ∧ ltA (x1, x2) (due, id)) = false) := Lib.hid (decide_eq_false (fun h => h.2.elim h1 (fun h => h2 h.1)))
            have h2' : ((x1 : Int) == due) = false := beq_false_of_ne h2
            go_wp2_with fail
            go_quiet (fail)
            go_wp2_with fail
            go_meet
            exact ⟨⟨nq, rfl⟩, by rw [← Hx.out, Hd.out]⟩
      · have Hd : Hid (decide (k < S.length ∧ ltA (atA S k) (due, id)) = false) := Lib.hid (decide_eq_false (fun h => hkl h.1))
        go_wp2_with fail
        go_quiet (fail)
        go_wp2_with fail
        go_meet
        exact ⟨⟨nq, rfl⟩, by rw [Hd.out]⟩
    case rest =>
      obtain ⟨⟨m, hwx⟩, hv⟩ := hcut
      subst hwx
      subst hv
      have hs2 := Hs.out.drewN m
      clear Hs hcq d0 d2
      generalize wr.drewN m = w2 at *
      have Hs := Lib.hid hs2
      have hcq : w2.cell? ⟨q, 5, none⟩ = some (.slice A S.length cap) := rf_cell hs2 (i := i + 2) Hr.out.b
      clear hs2
      by_cases hgo : k < S.length ∧ ltA (atA S k) (due, id)
      · have hd : decide (k < S.length ∧ ltA (atA S k) (due, id)) = true := decide_eq_true hgo
        rw [hd]
        obtain ⟨hkl, hltx⟩ := hgo
        obtain ⟨g, off, rfl, hnc, c3, c4, c5⟩ := Hs.out.req (j + 2) Hr.out.r hkl
        have Hsn : Hid (cellsQ (S.take (k + 1)) U = cellsQ (S.take k) U ++ [.int .i64 (atA S k).2, .int .i64 (U (atA S k).2), .int .u64 (atA S k).1]) := Lib.hid (by rw [take_snoc hkl, cellsQ_snoc])
        have Hlx := Lib.hid hltx
        have Hlt2 : Hid (∀ j, j < k + 1 → ltA (atA S j) (due, id)) := Lib.hid (fun j hj => by
          by_cases hjk : j = k
          · rw [hjk]; exact Hlx.out
          · exact Hlt.out j (by omega))
        obtain ⟨x, hx⟩ : ∃ x, x = atA S k := ⟨_, rfl⟩
        rw [← hx] at c3 c4 c5 Hsn
        obtain ⟨x1, x2⟩ := x
        simp only at c3 c4 c5 Hsn
        obtain ⟨tx, htx⟩ : ∃ tx, tx = U x2 := ⟨_, rfl⟩
        rw [← htx] at c4 Hsn
        clear hx hd hltx htx Hlt
        go_wp2_with (at_builtin; refine wpList_append_sep _ rfl (.tmp 53) (.tmp 61) 59 59 rfl 75 i0 _ 3 24 Try.underlying59 hi0 hz0 hz1 hz2 rfl (Hs.out.alloc _) 0 (.slice A' k c') k (cellsQ (S.take k) U) rfl rfl _ 1 _ rfl (Src.rq Try.underlying59 w2 _ x2 tx x1) (by unfold maxLen; omega) (by omega) ?_)
        intro A2 c2 w3 hs3
        have Hs3 := Lib.hid hs3
        clear hs3 Hs hcq c3 c4 c5
        go_wp2_with fail
        go_roundw
        case rel => exact ⟨k + 1, A2, c2, by omega, by go_num, rfl, Hlt2.out, by rw [Hsn.out]; exact Hs3.out⟩
        case measure => simp [intOf]; omega
      · have hd : decide (k < S.length ∧ ltA (atA S k) (due, id)) = false := decide_eq_false hgo
        rw [hd]
        have Hins : Hid (cellsQ (insS S (due, id)) U = (cellsQ (S.take k) U ++ [.int .i64 id, .int .i64 tried, .int .u64 due]) ++ cellsQ (S.drop k) U) := Lib.hid (by
          rw [insS_at hk Hlt.out (fun h h2 => hgo ⟨h, h2⟩), cellsQ_append, cellsQ_cons, HU.out, List.append_assoc]
          rfl)
        have d0 : w2.cell? ⟨gq, 0, none⟩ = some (.int .i64 id) := (Hs.out.blkAt 1 rfl).cell 0
        have d1 : w2.cell? ⟨gq, 1, none⟩ = some (.int .i64 tried) := (Hs.out.blkAt 1 rfl).cell 1
        have d2 : w2.cell? ⟨gq, 2, none⟩ = some (.int .u64 due) := (Hs.out.blkAt 1 rfl).cell 2
        clear hd hgo
        go_wp2_with (at_builtin; refine wpList_append_sep _ rfl (.tmp 65) (.tmp 67) 59 59 rfl 75 i0 _ 3 24 Try.underlying59 hi0 hz0 hz1 hz2 rfl (Hs.out.alloc _) 0 (.slice A' k c') k (cellsQ (S.take k) U) rfl rfl _ 1 _ rfl (Src.rq Try.underlying59 w2 _ id tried due) (by unfold maxLen; omega) (by omega) ?_)
        intro A2 c2 w3 hs3
        have Hs3 := Lib.hid hs3
        have hcq3 : w3.cell? ⟨q, 5, none⟩ = some (.slice A S.length cap) := rf_cell hs3 (i := i + 2) Hr.out.b
        clear hs3 Hs hcq d0 d1 d2 HU Hlt
        have Hfin : Hid (∀ (A4 : Option Addr) (c4 n4 : Nat) (w4 : World) (xs : List Value),
            Sep w0 B w4 (slRes 75 3 (.slice A4 n4 c4) n4 xs :: blkRes gq 75 #[.int .i64 id, .int .i64 tried, .int .u64 due] :: rs) → n4 = S.length + 1 → xs = (cellsQ (S.take k) U ++ [.int .i64 id, .int .i64 tried, .int .u64 due]) ++ cellsQ (S.drop k) U →
            w4.frozen? ⟨q, 5, none⟩ = false ∧ Hid (∃ A' cap', Sep w0 B (w4.setCell ⟨q, 5, none⟩ (.slice A4 n4 c4)) (setRf rs i j q c A' cap' (insS S (due, id)) U))) := Lib.hid (by
          intro A4 c4 n4 w4 xs h4 hn4 hxs
          refine ⟨(rf_blk h4 (i := i + 2) Hr.out.b).frozen 5, Lib.hid ⟨A4, c4, ?_⟩⟩
          have h5 := h4.drop1.setAt (i + 1) (g := q) (t := 61) (cs := rqC c (.slice A S.length cap)) Hr.out.b 5 (.slice A4 n4 c4)
          have hjl : j < (rs.set i (rqRes q c (.slice A4 n4 c4))).length := by rw [List.length_set]; exact (List.getElem?_eq_some_iff.1 Hr.out.r).1
          have h6 := Sep.lay (rs := rs.set i (rqRes q c (.slice A4 n4 c4))) h5 j hjl
          have hl : (insS S (due, id)).length = n4 := by rw [insS_len, hn4]
          unfold setRf rowQ
          rw [hl, Hins.out, ← hxs]
          exact h6)
        clear Hins
        by_cases hkc : k < cap
        · obtain ⟨F, row, hF, ho⟩ := Hs3.out.look (j + 2) (r := rowQ (.slice A S.length cap) S U) Hr.out.r
          have hsh : ∃ g off, A = some ⟨g, off, none⟩ := by
            rcases ho.2 with ⟨A', hv, _, _⟩ | ⟨g, off, c', cur, hv, _⟩
            · injection hv with _ _ hcc; omega
            · injection hv with hA _ _; exact ⟨g, off, hA⟩
          obtain ⟨g, off, rfl⟩ := hsh
          have hcutk := ho.cut hk hkc
          rw [cellsQ_drop] at hcutk
          have Hcut := Lib.hid hcutk
          have hnc : S.length ≤ cap := by obtain ⟨A', c', hv, hc'⟩ := ho.shape; injection hv with _ _ hcc; omega
          clear hcutk ho hF
          go_wp2_with (at_builtin; refine wpList_append_sep _ rfl (.tmp 69) (.tmp 75) 59 59 rfl 75 i0 _ 3 24 Try.underlying59 hi0 hz0 hz1 hz2 rfl Hs3.out 0 (.slice A2 (k + 1) c2) (k + 1) _ rfl rfl _ (S.length - k) (cellsQ (S.drop k) U) rfl (Hcut.out.src (cellsQ_one _ _) Try.underlying59) (by unfold maxLen; omega) (by omega) ?_)
          intro A4 c4 w4 h4
          obtain ⟨hf4, HR⟩ := Hfin.out A4 c4 _ w4 _ h4 (by omega) (by simp)
          have hc4 := rf_cell h4 (i := i + 2) Hr.out.b
          clear h4 hcq3
          go_wp2_with fail
          go_end0
          exact ⟨rfl, HR.out⟩
        · obtain ⟨F, row, hF, ho⟩ := Hs3.out.look (j + 2) (r := rowQ (.slice A S.length cap) S U) Hr.out.r
          have hkn : k = S.length ∧ k = cap := by obtain ⟨A', c', hv, hc'⟩ := ho.shape; injection hv with _ _ hcc; omega
          obtain ⟨hk1, rfl⟩ := hkn
          have hnil : S.drop k = [] := List.drop_of_length_le (by omega)
          have Hsrc : Hid (Src Try.prog 3 59 (.slice A 0 0) 0 [] w3) := Lib.hid ((Own.nil w3 75 3 A).src (by simp) Try.underlying59)
          have Hfin2 : Hid (cellsQ (S.drop k) U = []) := Lib.hid (by rw [hnil]; rfl)
          rw [← hk1] at hcq3
          clear hnil ho hF
          go_wp2_with (at_builtin; refine wpList_append_sep _ rfl (.tmp 69) (.tmp 75) 59 59 rfl 75 i0 _ 3 24 Try.underlying59 hi0 hz0 hz1 hz2 rfl Hs3.out 0 (.slice A2 (k + 1) c2) (k + 1) _ rfl rfl _ 0 [] rfl Hsrc.out (by unfold maxLen; omega) (by omega) ?_)
          intro A4 c4 w4 h4
          obtain ⟨hf4, HR⟩ := Hfin.out A4 c4 _ w4 _ h4 (by omega) (by rw [Hfin2.out, List.take_of_length_le (by omega)]; simp)
          have hc4 := rf_cell h4 (i := i + 2) Hr.out.b
          clear h4 hcq3
          go_wp2_with fail
          go_end0
          exact ⟨rfl, HR.out⟩
end Go.Proofs.Ytehbfoiadinhbaa
