/- syngraphlaw18.QueueCopies: the walk. -/
import Derived.Test.YtkphcgcciiefoaaBackWalk
namespace Go.Proofs.Ytkphcgcciiefoaa
open Go.RowKit
set_option maxRecDepth 100000 in
set_option maxHeartbeats 1000000 in
theorem copies_walk (A1 : Option Addr) (n1 c1 : Nat) (S : List ByteArray) (z : ByteArray) (w : World) (hn1 : n1 ≤ maxLen)
    (hS : ∀ k, k < n1 → ∃ g o, A1 = some ⟨g, o, none⟩ ∧ g < w.heap.size ∧ w.cell? ⟨g, o + k, none⟩ = some (.string (S.getD k ⟨#[]⟩))) :
    Calls Try.prog 7 #[.slice A1 n1 c1, .string z] w fun e w' => e = .returned (.bool true) ∧ Touch [] w w' := by
  have hs0 := Sep.start w
  unfold maxLen at hn1
  go_enter Try.func7, Try.ntmps7
  go_wp2_with fail
  refine (new_sep hs0 25 (by omega) (by omega)).mono ?_
  rintro e w1 ⟨p, rfl, hs1⟩
  clear hs0
  go_upto_block 0 with fail
  go_cut [7] (fun _ wx => ∃ L : List ByteArray, L.length ≤ 20 ∧ L.Nodup ∧ Sep w w.heap.size wx [qRes p L 25 0])
  case first =>
    go_wp2_with fail
    go_loopw [7] (fun vk wr => ∃ (k : Nat) (L : List ByteArray), k ≤ n1 ∧ k ≤ 20 ∧ vk = .int .i64 k ∧ L.length ≤ k ∧ L.Nodup ∧ Sep w w.heap.size wr [qRes p L 25 0]) (fun vk _ => 20 - (intOf vk).toNat)
    case atStart => exact ⟨0, [], by omega, by omega, rfl, by simp, by simp, hs1⟩
    case round =>
      obtain ⟨k, L, hk, hk20, rfl, hL, hnd, hs⟩ := hrel
      have Hnd := Lib.hid hnd
      clear hs1 hnd
      by_cases hlt : k < n1 ∧ k < 20
      · obtain ⟨hlt, hlt20⟩ := hlt
        obtain ⟨g, o, rfl, hg, hcell⟩ := hS k hlt
        have hcell' : wr.cell? ⟨g, o + k, none⟩ = some (.string (S.getD k ⟨#[]⟩)) := (hs.below.cell (p := ⟨g, o + k, none⟩) hg).trans hcell
        obtain ⟨s, hs'⟩ : ∃ s, s = S.getD k ⟨#[]⟩ := ⟨_, rfl⟩
        rw [← hs'] at hcell' hcell
        have Hcell := Lib.hid hcell
        have hz1 : (0 : Int) ≤ (s.size : Int) := by omega
        have hz2 : (s.size : Int) ≤ (s.size : Int) := by omega
        clear hs' hcell hS
        have Hput : Hid ((putL L 25 (cut60 s)).length ≤ k + 1 ∧ (putL L 25 (cut60 s)).Nodup ∧ putLost L 25 0 (cut60 s) = 0) := ⟨by have := putL_len L 25 (cut60 s); omega, putL_nodup Hnd.out, putLost_zero (by omega)⟩
        have fin : ∀ w2, Sep w w.heap.size w2 [qRes p (putL L 25 (cut60 s)) 25 (putLost L 25 0 (cut60 s))] → ∃ (k' : Nat) (L' : List ByteArray), k' ≤ n1 ∧ k' ≤ 20 ∧ Value.int .i64 ((k : Int) + 1) = .int .i64 k' ∧ L'.length ≤ k' ∧ L'.Nodup ∧ Sep w w.heap.size w2 [qRes p L' 25 0] := fun w2 h => ⟨k + 1, putL L 25 (cut60 s), by omega, by omega, by go_num, Hput.out.1, Hput.out.2.1, by rw [Hput.out.2.2] at h; exact h⟩
        have Fin := Lib.hid fin
        clear fin
        by_cases h60 : (s.size : Int) ≤ 60
        · have Hc := Lib.hid (cut60_le h60)
          have hn60 : ((60 : Int) < (s.size : Int)) = False := eq_false (by omega)
          go_wp2_with fail
          go_region_held3 (fun W => W.cell? ⟨g, o + k, none⟩ = some (.string s)) (first | go_keep | exact (hs2.below.cell (p := ⟨g, o + k, none⟩) hg).trans Hcell.out) (first | (go_at_call 9; refine (put_sep hs.drew 0 rfl s (by omega) (by omega) (by omega)).mono ?_; rintro e w2 ⟨rfl, hs2⟩))
          rename_i hHeld
          clear hHeld
          go_wp2_with fail
          go_roundw
          case rel => exact Fin.out _ (by rw [← Hc.out]; exact hs2)
          case measure => simp [intOf]; omega
        · have h60' : (60 : Int) < (s.size : Int) := by omega
          have Hc := Lib.hid (cut60_gt h60')
          have hn60 : (60 : Int) ≤ (s.size : Int) := by omega
          have hn61 : (60 : Nat) ≤ s.size := by omega
          go_wp2_with fail
          go_region_held3 (fun W => W.cell? ⟨g, o + k, none⟩ = some (.string s)) (first | go_keep | exact (hs2.below.cell (p := ⟨g, o + k, none⟩) hg).trans Hcell.out) (first | (go_at_call 9; refine (put_sep hs.drew 0 rfl (s.extract 0 60) (by omega) (by omega) (by omega)).mono ?_; rintro e w2 ⟨rfl, hs2⟩))
          rename_i hHeld
          clear hHeld
          go_wp2_with fail
          go_roundw
          case rel => exact Fin.out _ (by rw [← Hc.out]; exact hs2)
          case measure => simp [intOf]; omega
      · clear hS
        by_cases h1 : k < n1
        · have h2 : ¬ k < 20 := fun h => hlt ⟨h1, h⟩
          clear hlt
          go_wp2_with fail
          go_meet
          exact ⟨L, by omega, Hnd.out, hs⟩
        · clear hlt
          go_wp2_with fail
          go_meet
          exact ⟨L, by omega, Hnd.out, hs⟩
  case rest =>
    obtain ⟨L, hL, hnd, hs⟩ := hcut
    clear hS hs1 hnd
    go_wp2_with fail
    refine (copy_sep hs 0 rfl (by omega)).mono ?_
    rintro e w2 ⟨p2, rfl, hs2⟩
    clear hs
    go_wp2_with fail
    refine (all_sep hs2 1 rfl (by omega)).mono ?_
    rintro e w3 ⟨A, c, rfl, hs3⟩
    clear hs2
    go_wp2_with fail
    refine (take_sep hs3 1 rfl (by omega)).mono ?_
    rintro e w4 ⟨rfl, hs⟩
    have hs4 : Sep w w.heap.size w4 [slRes 9 1 (.slice A L.length c) L.length (cellsS L), qRes p2 L.tail 25 0, qRes p L 25 0] := hs
    obtain ⟨x0, hx0⟩ : ∃ x0, x0 = L.headD ⟨#[]⟩ := ⟨_, rfl⟩
    obtain ⟨b0, hb0⟩ : ∃ b0, b0 = !L.isEmpty := ⟨_, rfl⟩
    rw [← hx0, ← hb0]
    have Hx0 := Lib.hid hx0
    have Hb0 := Lib.hid hb0
    clear hs hs3 hx0 hb0
    have hlt : L.tail.length ≤ 20 := by rw [List.length_tail]; omega
    go_upto_region 13 with fail
    go_cut [] (fun wx => ∃ (L' : List ByteArray) (l' : Int), Sep w w.heap.size wx [slRes 9 1 (.slice A L.length c) L.length (cellsS L), qRes p2 L' 25 l', qRes p L 25 0])
    case first =>
      by_cases h60 : (z.size : Int) ≤ 60
      · have hn60 : ((60 : Int) < (z.size : Int)) = False := eq_false (by omega)
        go_wp2_with (go_at_call 9; refine (put_sep hs4 1 rfl _ (by omega) (by omega) (by omega)).mono ?_; rintro e w5 ⟨rfl, hs5⟩)
        go_meet
        exact ⟨_, _, hs5⟩
      · have h60' : (60 : Int) < (z.size : Int) := by omega
        have hn60 : (60 : Int) ≤ (z.size : Int) := by omega
        have hn61 : (60 : Nat) ≤ z.size := by omega
        go_wp2_with (go_at_call 9; refine (put_sep hs4 1 rfl _ (by omega) (by omega) (by omega)).mono ?_; rintro e w5 ⟨rfl, hs5⟩)
        go_meet
        exact ⟨_, _, hs5⟩
    case rest =>
      obtain ⟨L', l', hs5⟩ := hcut
      clear hs4 hlt
      go_wp2_with fail
      refine (all_sep hs5 2 rfl (by omega)).mono ?_
      rintro e w6 ⟨A', c', rfl, hs6⟩
      clear hs5
      go_wp2_with fail
      go_loopw [13] (fun vk wr => ∃ k : Nat, k ≤ L.length ∧ vk = .int .i64 k ∧ Sep w w.heap.size wr [slRes 9 1 (.slice A' L.length c') L.length (cellsS L), slRes 9 1 (.slice A L.length c) L.length (cellsS L), qRes p2 L' 25 l', qRes p L 25 0]) (fun vk _ => L.length - (intOf vk).toNat)
      case atStart => exact ⟨0, by omega, rfl, hs6⟩
      case round =>
        obtain ⟨k, hk, rfl, hs7⟩ := hrel
        clear hs6
        by_cases hlt : k < L.length
        · obtain ⟨g, off, rfl⟩ := hs7.addr 1 rfl (by omega)
          obtain ⟨g', off', rfl⟩ := hs7.addr 0 rfl (by omega)
          have hj : (cellsS L)[k]? = some (.string L[k]) := by simp [cellsS, hlt]
          have hcell : wr.cell? ⟨g, off + k, none⟩ = some (.string L[k]) := hs7.cell 1 rfl k hj
          have hcell' : wr.cell? ⟨g', off' + k, none⟩ = some (.string L[k]) := hs7.cell 0 rfl k hj
          obtain ⟨x, hx⟩ : ∃ x, x = L[k] := ⟨_, rfl⟩
          rw [← hx] at hcell hcell'
          clear hx hj
          have hbq : (x.toList == x.toList) = true := by simp
          have hd : decide ((L.length : Int) ≤ (k : Int)) = false := by simp; omega
          go_wp2_with fail
          go_quiet (fail)
          go_wp2_with fail
          go_roundw
          case rel => exact ⟨k + 1, by omega, by go_num, hs7.drewN _⟩
          case measure => simp [intOf]; omega
        · cases L with
          | nil =>
            obtain rfl : b0 = false := Hb0.out
            go_wp2_with fail
            refine (fixed_any _).mono ?_
            rintro e w8 ⟨rfl, ht⟩
            have Hs := Lib.hid (hs7.touch ht)
            clear hs7 ht
            go_wp2_with fail
            go_ret
            exact ⟨rfl, Touch.of_below Hs.out.below⟩
          | cons x L =>
            obtain ⟨g, off, rfl⟩ := hs7.addr 1 rfl (by simp)
            have hcell : wr.cell? ⟨g, off, none⟩ = some (.string x) := hs7.cell 1 rfl 0 rfl
            have hbq : (x.toList == x.toList) = true := by simp
            obtain rfl : b0 = true := Hb0.out
            obtain rfl : x0 = x := Hx0.out
            simp only [List.length_cons] at hlt hk hL
            go_wp2_with fail
            refine (fixed_any _).mono ?_
            rintro e w8 ⟨rfl, ht⟩
            have Hs := Lib.hid (hs7.touch ht)
            clear hs7 ht
            go_wp2_with fail
            go_ret
            exact ⟨rfl, Touch.of_below Hs.out.below⟩
end Go.Proofs.Ytkphcgcciiefoaa
