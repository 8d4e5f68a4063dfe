/- The document's table: Done. -/
import Derived.Test.YtehbfoiadinhbaaRfAsk
namespace Go.Proofs.Ytehbfoiadinhbaa
open Go Go.RowKit
/-- A list that was made in front becomes the table's. -/
theorem rf_store {w w0 : World} {B : Nat} {rs : List Res} {i j q : Nat} {c : Cf} {A : Option Addr} {cap : Nat} {S S' : List Al} {T T' : Int → Int} {A' : Option Addr} {c' : Nat} (hr : RfAt rs i j q c A cap S T)
    (h : Sep w0 B w (slRes 75 3 (.slice A' S'.length c') S'.length (cellsQ S' T') :: rs)) : Sep w0 B (w.setCell ⟨q, 5, none⟩ (.slice A' S'.length c')) (setRf rs i j q c A' c' S' T') := by
  have h5 := h.setAt (i + 1) (g := q) (t := 61) (cs := rqC c (.slice A S.length cap)) hr.b 5 (.slice A' S'.length c')
  have hjl : j < (rs.set i (rqRes q c (.slice A' S'.length c'))).length := by rw [List.length_set]; exact (List.getElem?_eq_some_iff.1 hr.r).1
  exact Sep.lay (rs := rs.set i (rqRes q c (.slice A' S'.length c'))) h5 j hjl
set_option maxRecDepth 100000 in
set_option maxHeartbeats 2000000 in
theorem rfDone_sep {w w0 : World} {B : Nat} {rs : List Res} {i j q : Nat} {c : Cf} {A : Option Addr} {cap : Nat} {S : List Al} {T : Int → Int} (hsep : Sep w0 B w rs) (hrf : RfAt rs i j q c A cap S T)
    (hlen : S.length ≤ 10000) (id : Int) :
    Calls Try.prog 22 #[.pointer (some ⟨q, 0, none⟩), .int .i64 id] w fun e w' =>
      e = .returned (.int .i64 (dropCode S id)) ∧ ∃ A' cap', Sep w0 B w' (setRf rs i j q c A' cap' (dropS S id) T) := by
  obtain ⟨i0, hi0, hz0, hz1, hz2⟩ := info_parts infoRq
  have Hr := Lib.hid hrf
  have Hs0 := Lib.hid ((hsep.alloc (.cells #[] 75)).bare 75 3 (some ⟨w.heap.size, 0, none⟩))
  clear hsep hrf
  go_enter Try.func22, Try.ntmps22
  go_wp2_with fail
  go_loopw [5, 6] (fun vo vi wr => ∃ (k : Nat) (A' : Option Addr) (c' : Nat), k ≤ S.length ∧ vi = .int .i64 k ∧ vo = .slice A' (dropS (S.take k) id).length c' ∧
    Sep w0 B wr (slRes 75 3 (.slice A' (dropS (S.take k) id).length c') (dropS (S.take k) id).length (cellsQ (dropS (S.take k) id) T) :: rs)) (fun _ vi _ => S.length - (intOf vi).toNat)
  case atStart => exact ⟨0, _, 0, by omega, rfl, rfl, Hs0.out⟩
  case round =>
    obtain ⟨k, A', c', hk, rfl, rfl, hs⟩ := hrel
    have hcq : wr.cell? ⟨q, 5, none⟩ = some (.slice A S.length cap) := rf_cell hs (i := i + 1) Hr.out.b
    have hdl := dropS_len (S.take k) id
    have hdn : (dropS (S.take k) id).length ≤ 10000 := by rw [List.length_take] at hdl; omega
    have Hs := Lib.hid hs
    clear Hs0 hs hdl
    by_cases hkl : k < S.length
    · obtain ⟨g, off, rfl, hnc, c3, c4, c5⟩ := Hs.out.req (j + 1) Hr.out.r hkl
      have Hf : Hid (dropS (S.take (k + 1)) id = if (!((atA S k).2 == id)) = true then dropS (S.take k) id ++ [atA S k] else dropS (S.take k) id) := Lib.hid (filter_take hkl _)
      obtain ⟨x, hx⟩ : ∃ x, x = atA S k := ⟨_, rfl⟩
      rw [← hx] at c3 c4 c5 Hf
      obtain ⟨D, hD⟩ : ∃ D, D = dropS (S.take k) id := ⟨_, rfl⟩
      rw [← hD] at Hs Hf hdn ⊢
      obtain ⟨x1, x2⟩ := x
      simp only at c3 c4 c5 Hf
      obtain ⟨tx, htx⟩ : ∃ tx, tx = T x2 := ⟨_, rfl⟩
      have Htx := Lib.hid htx
      rw [← htx] at c4
      clear hx hD htx
      by_cases hid : x2 = id
      · have hb : (x2 != id) = false := by rw [hid]; simp
        have Hf2 : Hid (dropS (S.take (k + 1)) id = D) := Lib.hid (by rw [Hf.out, hid]; simp)
        clear hid Hf
        go_wp2_with fail
        go_roundw
        case rel => exact ⟨k + 1, A', c', by omega, by go_num, by rw [Hf2.out], by rw [Hf2.out]; exact Hs.out⟩
        case measure => simp [intOf]; omega
      · have hb : (x2 != id) = true := by rw [bne_iff_ne]; exact hid
        have Hf2 : Hid (dropS (S.take (k + 1)) id = D ++ [(x1, x2)]) := Lib.hid (by rw [Hf.out]; simp [hid])
        clear hid Hf
        go_wp2_with (at_builtin; refine wpList_append_sep _ rfl (.tmp 27) (.tmp 35) 59 59 rfl 75 i0 _ 3 24 Try.underlying59 hi0 hz0 hz1 hz2 rfl (Hs.out.alloc _) 0 (.slice A' D.length c') D.length (cellsQ D T) rfl rfl _ 1 _ rfl (Src.rq Try.underlying59 wr _ x2 tx x1) (by unfold maxLen; omega) (by omega) ?_)
        intro A2 c2 w3 hs3
        have Hs3 := Lib.hid hs3
        clear hs3 Hs hcq c3 c4 c5
        go_wp2_with fail
        go_roundw
        case rel =>
          have hl : (D ++ [(x1, x2)]).length = D.length + 1 := by simp
          exact ⟨k + 1, A2, c2, by omega, by go_num, by rw [Hf2.out, hl], by rw [Hf2.out, hl, cellsQ_snoc, ← Htx.out]; exact Hs3.out⟩
        case measure => simp [intOf]; omega
    · obtain rfl : k = S.length := by omega
      rw [List.take_length] at *
      cases hs : hasA S id with
      | false =>
        have e1 := dropS_none hs
        have e2 : dropCode S id = 5 := by unfold dropCode; rw [hs]; rfl
        have E1 := Lib.hid e1
        have E2 := Lib.hid e2
        have Hs2 := Lib.hid Hs.out.forget
        rw [e1]
        clear e1 e2 hs Hs hdn
        go_wp2_with fail
        go_ret
        rw [E2.out, E1.out]
        exact ⟨rfl, _, _, by rw [Hr.out.same]; exact Hs2.out⟩
      | true =>
        have hne : (((dropS S id).length : Int) == (S.length : Int)) = false := by
          refine beq_false_of_ne fun e => ?_
          obtain ⟨a, ha, he⟩ := List.mem_map.1 ((hasA_iff S id).1 hs)
          have hlt : (dropS S id).length < S.length := by
            unfold dropS
            refine Nat.lt_of_le_of_ne (List.length_filter_le _ _) (fun h => ?_)
            have := List.length_filter_eq_length_iff.1 h a ha
            rw [he] at this
            simp at this
          omega
        have e2 : dropCode S id = 0 := by unfold dropCode; rw [hs]; rfl
        have E2 := Lib.hid e2
        have hf0 : wr.frozen? ⟨q, 5, none⟩ = false := (rf_blk Hs.out (i := i + 1) Hr.out.b).frozen 5
        have HF := Lib.hid (rf_store Hr.out Hs.out)
        obtain ⟨D, hD⟩ : ∃ D, D = dropS S id := ⟨_, rfl⟩
        rw [← hD] at Hs hdn hne HF ⊢
        have HD := Lib.hid hD
        clear e2 hs hD Hs
        go_wp2_with fail
        go_ret
        rw [E2.out, ← HD.out]
        exact ⟨rfl, A', c', HF.out⟩
end Go.Proofs.Ytehbfoiadinhbaa
