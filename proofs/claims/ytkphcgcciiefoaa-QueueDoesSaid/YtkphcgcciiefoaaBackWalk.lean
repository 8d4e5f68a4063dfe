/- syngraphlaw18.QueueBack: the walk. -/
import Derived.Test.YtkphcgcciiefoaaFixed18
import Derived.Deep.DeepCutAuto
import Derived.Deep.CutBlock
import Derived.Deep.LoopGhost
import Derived.WalkLawsBesides
namespace Go.Proofs.Ytkphcgcciiefoaa
open Go.RowKit
theorem putL_nodup {L : List ByteArray} {N : Int} {t : ByteArray} (h : L.Nodup) : (putL L N t).Nodup := by
  unfold putL
  split
  · exact h
  · rename_i h1
    split
    · exact h
    · rw [List.nodup_append]
      refine ⟨h, by simp, fun a ha b hb e => ?_⟩
      rw [List.mem_singleton] at hb
      subst hb; subst e
      exact h1 ((hasS_iff L a).2 ha)
theorem putL_len (L : List ByteArray) (N : Int) (t : ByteArray) : (putL L N t).length ≤ L.length + 1 := by
  unfold putL; split
  · omega
  · split
    · omega
    · simp
theorem putLost_zero {L : List ByteArray} {N : Int} {t : ByteArray} (h : (L.length : Int) < N) : putLost L N 0 t = 0 := by
  unfold putLost; split
  · rfl
  · rw [if_neg (by omega)]
/-- The list, i texts turned round. -/
def turned (L : List ByteArray) (i : Nat) : List ByteArray := L.drop i ++ L.take i
theorem turned_len (L : List ByteArray) (i : Nat) : (turned L i).length = L.length := by unfold turned; simp; omega
theorem turned_zero (L : List ByteArray) : turned L 0 = L := by unfold turned; simp
theorem turned_all (L : List ByteArray) {i : Nat} (h : L.length ≤ i) : turned L i = L := by unfold turned; rw [List.drop_of_length_le h, List.take_of_length_le h]; rfl
theorem turned_head {L : List ByteArray} {i : Nat} (h : i < L.length) : turned L i = L[i] :: (L.drop (i + 1) ++ L.take i) := by
  unfold turned; rw [List.drop_eq_getElem_cons h]; rfl
theorem turned_put {L : List ByteArray} {i : Nat} (h : i < L.length) (hn : L.Nodup) (hl : L.length ≤ 20) :
    putCode (turned L i).tail 20 L[i] = 0 ∧ putL (turned L i).tail 20 L[i] = turned L (i + 1) ∧ putLost (turned L i).tail 20 0 L[i] = 0 := by
  have hm : L[i] ∉ L.drop (i + 1) ++ L.take i := by
    have h2 : (L[i] :: (L.drop (i + 1) ++ L.take i)).Nodup := by
      rw [← turned_head h]
      unfold turned
      have h3 : (L.take i ++ L.drop i).Nodup := by rw [List.take_append_drop]; exact hn
      exact (List.perm_append_comm.nodup_iff).1 h3
    exact (List.nodup_cons.1 h2).1
  have hlen : (L.drop (i + 1) ++ L.take i).length < 20 := by simp; omega
  rw [turned_head h, List.tail_cons]
  unfold putCode putL putLost
  rw [hasS_no hm]
  simp only [Bool.false_eq_true, if_false]
  rw [if_neg (by omega), if_neg (by omega), if_neg (by omega)]
  refine ⟨rfl, ?_, rfl⟩
  unfold turned
  rw [List.take_succ_eq_append_getElem h, List.append_assoc]
set_option maxRecDepth 100000 in
set_option maxHeartbeats 1000000 in
theorem back_walk (A1 : Option Addr) (n1 c1 : Nat) (S : List ByteArray) (w : World) (hn1 : n1 ≤ maxLen)
    (hS : ∀ k, k < n1 → ∃ g o, A1 = some ⟨g, o, none⟩ ∧ g < w.heap.size ∧ w.cell? ⟨g, o + k, none⟩ = some (.string (S.getD k ⟨#[]⟩))) :
    Calls Try.prog 5 #[.slice A1 n1 c1] w fun e w' => e = .returned (.bool true) ∧ Touch [] w w' := by
  have hs0 := Sep.start w
  unfold maxLen at hn1
  go_enter Try.func5, Try.ntmps5
  go_wp2_with fail
  refine (new_sep hs0 20 (by omega) (by omega)).mono ?_
  rintro e w1 ⟨p, rfl, hs1⟩
  clear hs0
  go_upto_block 0 with fail
  go_cut [5] (fun _ wx => ∃ L : List ByteArray, L.length ≤ 20 ∧ L.Nodup ∧ Sep w w.heap.size wx [qRes p L 20 0])
  case first =>
    go_wp2_with fail
    go_loopw [5] (fun vk wr => ∃ (k : Nat) (L : List ByteArray), k ≤ n1 ∧ k ≤ 20 ∧ vk = .int .i64 k ∧ L.length ≤ k ∧ L.Nodup ∧ Sep w w.heap.size wr [qRes p L 20 0]) (fun vk _ => 20 - (intOf vk).toNat)
    case atStart => exact ⟨0, [], by omega, by omega, rfl, by simp, by simp, hs1⟩
    case round =>
      obtain ⟨k, L, hk, hk20, rfl, hL, hnd, hs⟩ := hrel
      have Hnd := Lib.hid hnd
      clear hs1 hnd
      by_cases hlt : k < n1 ∧ k < 20
      · obtain ⟨hlt, hlt20⟩ := hlt
        obtain ⟨g, o, rfl, hg, hcell⟩ := hS k hlt
        have hcell' : wr.cell? ⟨g, o + k, none⟩ = some (.string (S.getD k ⟨#[]⟩)) := (hs.below.cell (p := ⟨g, o + k, none⟩) hg).trans hcell
        obtain ⟨s, hs'⟩ : ∃ s, s = S.getD k ⟨#[]⟩ := ⟨_, rfl⟩
        rw [← hs'] at hcell' hcell
        have Hcell := Lib.hid hcell
        have hz1 : (0 : Int) ≤ (s.size : Int) := by omega
        have hz2 : (s.size : Int) ≤ (s.size : Int) := by omega
        clear hs' hcell hS
        have Hput : Hid ((putL L 20 (cut60 s)).length ≤ k + 1 ∧ (putL L 20 (cut60 s)).Nodup ∧ putLost L 20 0 (cut60 s) = 0) := ⟨by have := putL_len L 20 (cut60 s); omega, putL_nodup Hnd.out, putLost_zero (by omega)⟩
        have fin : ∀ w2, Sep w w.heap.size w2 [qRes p (putL L 20 (cut60 s)) 20 (putLost L 20 0 (cut60 s))] → ∃ (k' : Nat) (L' : List ByteArray), k' ≤ n1 ∧ k' ≤ 20 ∧ Value.int .i64 ((k : Int) + 1) = .int .i64 k' ∧ L'.length ≤ k' ∧ L'.Nodup ∧ Sep w w.heap.size w2 [qRes p L' 20 0] := fun w2 h => ⟨k + 1, putL L 20 (cut60 s), by omega, by omega, by go_num, Hput.out.1, Hput.out.2.1, by rw [Hput.out.2.2] at h; exact h⟩
        have Fin := Lib.hid fin
        clear fin
        by_cases h60 : (s.size : Int) ≤ 60
        · have Hc := Lib.hid (cut60_le h60)
          have hn60 : ((60 : Int) < (s.size : Int)) = False := eq_false (by omega)
          go_wp2_with fail
          go_region_held3 (fun W => W.cell? ⟨g, o + k, none⟩ = some (.string s)) (first | go_keep | exact (hs2.below.cell (p := ⟨g, o + k, none⟩) hg).trans Hcell.out) (first | (go_at_call 9; refine (put_sep hs.drew 0 rfl s (by omega) (by omega) (by omega)).mono ?_; rintro e w2 ⟨rfl, hs2⟩))
          rename_i hHeld
          clear hHeld
          go_wp2_with fail
          go_roundw
          case rel => exact Fin.out _ (by rw [← Hc.out]; exact hs2)
          case measure => simp [intOf]; omega
        · have h60' : (60 : Int) < (s.size : Int) := by omega
          have Hc := Lib.hid (cut60_gt h60')
          have hn60 : (60 : Int) ≤ (s.size : Int) := by omega
          have hn61 : (60 : Nat) ≤ s.size := by omega
          go_wp2_with fail
          go_region_held3 (fun W => W.cell? ⟨g, o + k, none⟩ = some (.string s)) (first | go_keep | exact (hs2.below.cell (p := ⟨g, o + k, none⟩) hg).trans Hcell.out) (first | (go_at_call 9; refine (put_sep hs.drew 0 rfl (s.extract 0 60) (by omega) (by omega) (by omega)).mono ?_; rintro e w2 ⟨rfl, hs2⟩))
          rename_i hHeld
          clear hHeld
          go_wp2_with fail
          go_roundw
          case rel => exact Fin.out _ (by rw [← Hc.out]; exact hs2)
          case measure => simp [intOf]; omega
      · clear hS
        by_cases h1 : k < n1
        · have h2 : ¬ k < 20 := fun h => hlt ⟨h1, h⟩
          clear hlt
          go_wp2_with fail
          go_meet
          exact ⟨L, by omega, Hnd.out, hs⟩
        · clear hlt
          go_wp2_with fail
          go_meet
          exact ⟨L, by omega, Hnd.out, hs⟩
  case rest =>
    obtain ⟨L, hL, hnd, hs⟩ := hcut
    have Hnd := Lib.hid hnd
    clear hS hs1 hnd
    go_wp2_with fail
    refine (all_sep hs 0 rfl (by omega)).mono ?_
    rintro e w2 ⟨A, c, rfl, hs2⟩
    clear hs
    go_upto_block 2 with fail
    go_cut [7] (fun _ wx => Sep w w.heap.size wx [slRes 9 1 (.slice A L.length c) L.length (cellsS L), qRes p L 20 0])
    case first =>
      go_wp2_with fail
      go_loopw [7] (fun vk wr => ∃ k : Nat, k ≤ L.length ∧ vk = .int .i64 k ∧ Sep w w.heap.size wr [slRes 9 1 (.slice A L.length c) L.length (cellsS L), qRes p (turned L k) 20 0]) (fun vk _ => L.length - (intOf vk).toNat)
      case atStart => exact ⟨0, by omega, rfl, by rw [turned_zero]; exact hs2⟩
      case round =>
        obtain ⟨k, hk, rfl, hs3⟩ := hrel
        clear hs2
        by_cases hlt : k < L.length
        · have htp := turned_put hlt Hnd.out hL
          have htl := turned_len L k
          have htl1 := turned_len L (k + 1)
          obtain ⟨g, off, rfl⟩ := hs3.addr 0 rfl (by omega)
          have hj : (cellsS L)[k]? = some (.string L[k]) := by simp [cellsS, hlt]
          have hhd : (turned L k).headD ⟨#[]⟩ = L[k] := by rw [turned_head hlt]; rfl
          have hie : (turned L k).isEmpty = false := by rw [turned_head hlt]; rfl
          have htt : (turned L k).tail.length + 1 = L.length := by rw [turned_head hlt, List.tail_cons]; simp; omega
          have Htp := Lib.hid htp
          have Hj := Lib.hid hj
          have hbq : (L[k].toList == L[k].toList) = true := by simp
          clear htp hj
          obtain ⟨x, hx⟩ : ∃ x, x = L[k] := ⟨_, rfl⟩
          rw [← hx] at hhd hbq
          have Hx := Lib.hid hx
          clear hx
          go_wp2_with fail
          refine (take_sep hs3 1 rfl (by omega)).mono ?_
          rintro e w3 ⟨rfl, hs⟩
          have hs4 : Sep w w.heap.size w3 [slRes 9 1 (.slice (some ⟨g, off, none⟩) L.length c) L.length (cellsS L), qRes p (turned L k).tail 20 0] := hs
          rw [hhd, hie]
          have hcell : w3.cell? ⟨g, off + k, none⟩ = some (.string x) := by rw [Hx.out]; exact hs4.cell 0 rfl k Hj.out
          clear hs hs3 hhd hie
          go_wp2_with fail
          refine (put_sep hs4 1 rfl x (by omega) (by omega) (by omega)).mono ?_
          rintro e w4 ⟨rfl, hs⟩
          have hs5 : Sep w w.heap.size w4 [slRes 9 1 (.slice (some ⟨g, off, none⟩) L.length c) L.length (cellsS L), qRes p (turned L (k + 1)) 20 0] := by
            have h := hs
            rw [Hx.out, Htp.out.2.1, Htp.out.2.2] at h
            exact h
          rw [show putCode (turned L k).tail 20 x = 0 by rw [Hx.out]; exact Htp.out.1]
          clear hs hs4 hcell
          go_wp2_with fail
          refine (len_sep hs5 1 rfl).mono ?_
          rintro e w5 ⟨rfl, rfl⟩
          rw [htl1]
          clear htl htl1 htt
          go_wp2_with fail
          go_roundw
          case rel => exact ⟨k + 1, by omega, by go_num, hs5⟩
          case measure => simp [intOf]; omega
        · have hkL : k = L.length := by omega
          have hs4 : Sep w w.heap.size wr [slRes 9 1 (.slice A L.length c) L.length (cellsS L), qRes p L 20 0] := by rw [turned_all L (by omega)] at hs3; exact hs3
          clear hs3 hkL
          go_wp2_with fail
          go_meet
          exact hs4
    case rest =>
      clear hs2
      go_wp2_with fail
      refine (all_sep hcut 1 rfl (by omega)).mono ?_
      rintro e w3 ⟨A', c', rfl, hs3⟩
      clear hcut
      go_wp2_with fail
      go_loopw [11] (fun vk wr => ∃ k : Nat, k ≤ L.length ∧ vk = .int .i64 k ∧ Sep w w.heap.size wr [slRes 9 1 (.slice A' L.length c') L.length (cellsS L), slRes 9 1 (.slice A L.length c) L.length (cellsS L), qRes p L 20 0]) (fun vk _ => L.length - (intOf vk).toNat)
      case atStart => exact ⟨0, by omega, rfl, hs3⟩
      case round =>
        obtain ⟨k, hk, rfl, hs4⟩ := hrel
        clear hs3
        by_cases hlt : k < L.length
        · obtain ⟨g, off, rfl⟩ := hs4.addr 1 rfl (by omega)
          obtain ⟨g', off', rfl⟩ := hs4.addr 0 rfl (by omega)
          have hj : (cellsS L)[k]? = some (.string L[k]) := by simp [cellsS, hlt]
          have hcell : wr.cell? ⟨g, off + k, none⟩ = some (.string L[k]) := hs4.cell 1 rfl k hj
          have hcell' : wr.cell? ⟨g', off' + k, none⟩ = some (.string L[k]) := hs4.cell 0 rfl k hj
          obtain ⟨x, hx⟩ : ∃ x, x = L[k] := ⟨_, rfl⟩
          rw [← hx] at hcell hcell'
          clear hx hj
          have hbq : (x.toList == x.toList) = true := by simp
          have hd : decide ((L.length : Int) ≤ (k : Int)) = false := by simp; omega
          go_wp2_with fail
          go_quiet (fail)
          go_wp2_with fail
          go_roundw
          case rel => exact ⟨k + 1, by omega, by go_num, hs4.drewN _⟩
          case measure => simp [intOf]; omega
        · go_wp2_with fail
          refine (lost_sep hs4 2 rfl).mono ?_
          rintro e w5 ⟨rfl, rfl⟩
          go_wp2_with fail
          refine (fixed_any _).mono ?_
          rintro e w6 ⟨rfl, ht⟩
          have Hs := Lib.hid (hs4.touch ht)
          clear hs4 ht
          go_wp2_with fail
          go_ret
          exact ⟨rfl, Touch.of_below Hs.out.below⟩
end Go.Proofs.Ytkphcgcciiefoaa
