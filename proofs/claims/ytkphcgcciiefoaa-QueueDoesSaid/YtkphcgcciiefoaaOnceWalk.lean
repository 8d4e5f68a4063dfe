/- syngraphlaw18.QueueOnce: the walk. -/
import Derived.Test.YtkphcgcciiefoaaFixed18
import Derived.Deep.DeepCutAuto
import Derived.Deep.CutBlock
import Derived.Deep.LoopGhost
import Derived.WalkLawsBesides
namespace Go.Proofs.Ytkphcgcciiefoaa
open Go.RowKit
theorem hasS_snoc {L : List ByteArray} {t : ByteArray} {i : Nat} (h : i < L.length) : hasS (L.take (i + 1)) t = (hasS (L.take i) t || decide (t = L[i])) := by
  unfold hasS
  rw [List.take_succ_eq_append_getElem h, List.any_append]
  simp
theorem put_max {L : List ByteArray} {N : Int} {t : ByteArray} (h : (L.length : Int) ≤ N) : ((putL L N t).length : Int) ≤ N := by
  unfold putL; split
  · exact h
  · split
    · exact h
    · rw [List.length_append]; simp; omega
theorem put_lost {L : List ByteArray} {N : Int} {t : ByteArray} {lost : Nat} (h : lost ≤ 100) : ∃ l : Nat, putLost L N lost t = l ∧ l ≤ lost + 1 := by
  unfold putLost addS; split
  · exact ⟨lost, rfl, by omega⟩
  · split
    · rw [if_pos (by omega)]; exact ⟨lost + 1, by omega, by omega⟩
    · exact ⟨lost, rfl, by omega⟩
set_option maxRecDepth 100000 in
set_option maxHeartbeats 1000000 in
theorem once_walk (m : Int) (hm0 : 0 ≤ m) (hm1 : m ≤ 255) (A1 : Option Addr) (n1 c1 : Nat) (S : List ByteArray) (w : World) (hn1 : n1 ≤ maxLen)
    (hS : ∀ k, k < n1 → ∃ g o, A1 = some ⟨g, o, none⟩ ∧ g < w.heap.size ∧ w.cell? ⟨g, o + k, none⟩ = some (.string (S.getD k ⟨#[]⟩))) :
    Calls Try.prog 4 #[.int .u8 m, .slice A1 n1 c1] w fun e w' => e = .returned (.bool true) ∧ Touch [] w w' := by
  have hs0 := Sep.start w
  unfold maxLen at hn1
  obtain ⟨N, hN⟩ : ∃ N : Int, N = 1 + m % 12 := ⟨_, rfl⟩
  have hN1 : 1 ≤ N := by omega
  have hN2 : N ≤ 12 := by omega
  have HN := Lib.hid hN
  clear hN
  go_enter Try.func4, Try.ntmps4
  go_wp2_with fail
  rw [← HN.out]
  clear HN
  refine (new_sep hs0 N hN1 (by omega)).mono ?_
  rintro e w1 ⟨p, rfl, hs1⟩
  clear hs0
  go_wp2_with fail
  go_loopw [8] (fun vk wr => ∃ (k lost : Nat) (L : List ByteArray), k ≤ n1 ∧ k ≤ 60 ∧ vk = .int .i64 k ∧ lost ≤ k ∧ (L.length : Int) ≤ N ∧ Sep w w.heap.size wr [qRes p L N lost]) (fun vk _ => 60 - (intOf vk).toNat)
  case atStart => exact ⟨0, 0, [], by omega, by omega, rfl, by omega, by simp; omega, hs1⟩
  case round =>
    obtain ⟨k, lost, L, hk, hk60, rfl, hlost, hL, hs⟩ := hrel
    clear hs1
    by_cases hlt : k < n1 ∧ k < 60
    · obtain ⟨hlt, hlt60⟩ := hlt
      obtain ⟨g, o, rfl, hg, hcell⟩ := hS k hlt
      have hcell' : wr.cell? ⟨g, o + k, none⟩ = some (.string (S.getD k ⟨#[]⟩)) := (hs.below.cell (p := ⟨g, o + k, none⟩) hg).trans hcell
      obtain ⟨s, hs'⟩ : ∃ s, s = S.getD k ⟨#[]⟩ := ⟨_, rfl⟩
      rw [← hs'] at hcell' hcell
      have Hcell := Lib.hid hcell
      clear hs' hcell hS
      go_upto_region 8 with fail
      go_cut [9, 10] (fun vs vw wx => vs = .string (cut60 s) ∧ ∃ A c, vw = .slice A L.length c ∧ Sep w w.heap.size wx [slRes 9 1 (.slice A L.length c) L.length (cellsS L), qRes p L N lost])
      case first =>
        by_cases h60 : (s.size : Int) ≤ 60
        · have Hc := Lib.hid (cut60_le h60)
          have hn60 : ((60 : Int) < (s.size : Int)) = False := eq_false (by omega)
          have hz1 : (0 : Int) ≤ (s.size : Int) := by omega
          have hz2 : (s.size : Int) ≤ (s.size : Int) := by omega
          go_region_held3 (fun W => W.cell? ⟨g, o + k, none⟩ = some (.string s)) (first | go_keep | exact (hs2.below.cell (p := ⟨g, o + k, none⟩) hg).trans Hcell.out) (first | (go_at_call 15; refine (all_sep hs.drew 0 rfl (by omega)).mono ?_; rintro e w2 ⟨A, c, rfl, hs2⟩))
          all_goals
            rename_i hHeld
            clear hHeld
            go_wp2_with fail
            go_meet
            exact ⟨by rw [← Hc.out], A, c, rfl, hs2⟩
        · have h60' : (60 : Int) < (s.size : Int) := by omega
          have Hc := Lib.hid (cut60_gt h60')
          have hn60 : (60 : Int) ≤ (s.size : Int) := by omega
          have hn61 : (60 : Nat) ≤ s.size := by omega
          go_region_held3 (fun W => W.cell? ⟨g, o + k, none⟩ = some (.string s)) (first | go_keep | exact (hs2.below.cell (p := ⟨g, o + k, none⟩) hg).trans Hcell.out) (first | (go_at_call 15; refine (all_sep hs.drew 0 rfl (by omega)).mono ?_; rintro e w2 ⟨A, c, rfl, hs2⟩))
          all_goals
            rename_i hHeld
            clear hHeld
            go_wp2_with fail
            go_meet
            exact ⟨by rw [← Hc.out], A, c, rfl, hs2⟩
      case rest =>
        obtain ⟨rfl, A, c, rfl, hs2⟩ := hcut
        clear hcell' Hcell hs
        obtain ⟨t, ht⟩ : ∃ t, t = cut60 s := ⟨_, rfl⟩
        rw [← ht]
        clear ht
        go_wp2_with fail
        go_loopw [11, 12] (fun vh vi wr => ∃ i : Nat, i ≤ L.length ∧ vi = .int .i64 i ∧ vh = .bool (hasS (L.take i) t) ∧ Sep w w.heap.size wr [slRes 9 1 (.slice A L.length c) L.length (cellsS L), qRes p L N lost]) (fun _ vi _ => L.length - (intOf vi).toNat)
        case atStart => exact ⟨0, by omega, rfl, rfl, hs2⟩
        case round =>
          obtain ⟨i, hi, rfl, rfl, hs3⟩ := hrel
          clear hs2
          by_cases hil : i < L.length
          · obtain ⟨g2, off, rfl⟩ := hs3.addr 0 rfl (by omega)
            have hj : (cellsS L)[i]? = some (.string L[i]) := by simp [cellsS, hil]
            have hcell : wr.cell? ⟨g2, off + i, none⟩ = some (.string L[i]) := hs3.cell 0 rfl i hj
            have Hsn := Lib.hid (hasS_snoc (t := t) hil)
            have hbq := str_beq L[i] t
            obtain ⟨x, hx⟩ : ∃ x, x = L[i] := ⟨_, rfl⟩
            rw [← hx] at hcell hbq
            have Hx := Lib.hid hx
            have Hbq := Lib.hid hbq
            clear hx hj hbq
            obtain ⟨b, hb⟩ : ∃ b, b = hasS (L.take i) t := ⟨_, rfl⟩
            rw [← hb]
            have Hb := Lib.hid hb
            clear hb
            cases b with
            | true =>
              go_wp2_with fail
              go_roundw
              case rel => exact ⟨i + 1, by omega, by go_num, by rw [Hsn.out, ← Hb.out]; rfl, hs3⟩
              case measure => simp [intOf]; omega
            | false =>
              go_wp2_with fail
              go_roundw
              case rel => exact ⟨i + 1, by omega, by go_num, by rw [Hsn.out, ← Hb.out, Hbq.out, Hx.out, Bool.false_or]; exact congrArg Value.bool (decide_eq_decide.2 ⟨Eq.symm, Eq.symm⟩), hs3⟩
              case measure => simp [intOf]; omega
          · have hh : L.take i = L := List.take_of_length_le (by omega)
            rw [hh]
            clear hh hi
            obtain ⟨l', hl', hl2⟩ := put_lost (L := L) (N := N) (t := t) (lost := lost) (by omega)
            have hmx := put_max (t := t) hL
            have Hl := Lib.hid hl'
            clear hl'
            go_wp2_with fail
            refine (put_sep hs3 1 rfl t (by omega) (by omega) (by omega)).mono ?_
            rintro e w3 ⟨rfl, hs⟩
            have hs4 : Sep w w.heap.size w3 [slRes 9 1 (.slice A L.length c) L.length (cellsS L), qRes p (putL L N t) N l'] := by rw [← Hl.out]; exact hs
            clear hs hs3
            obtain ⟨b, hb⟩ : ∃ b, b = hasS L t := ⟨_, rfl⟩
            obtain ⟨cc, hcc⟩ : ∃ cc, cc = putCode L N t := ⟨_, rfl⟩
            rw [← hb, ← hcc]
            have Hcc : Hid (cc = if b = true then 6 else if N ≤ (L.length : Int) then 8 else 0) := by rw [hcc, hb]; rfl
            clear hb hcc
            go_upto_region 15 with fail
            go_cut [105] (fun v wx => v = .bool false ∧ Sep w w.heap.size wx [slRes 9 1 (.slice A L.length c) L.length (cellsS L), qRes p (putL L N t) N l'])
            case first =>
              have hg : ¬ N < ((putL L N t).length : Int) := by omega
              cases b with
              | true =>
                obtain rfl : cc = 6 := Hcc.out
                go_wp2_with (go_at_call 11; refine (len_sep hs4 1 rfl).mono ?_; rintro e w' ⟨rfl, rfl⟩)
                go_meet
                exact ⟨congrArg Value.bool (decide_eq_false (by omega)), hs4⟩
              | false =>
                by_cases hf : N ≤ (L.length : Int)
                · obtain rfl : cc = 8 := by rw [Hcc.out, if_neg (by simp), if_pos hf]
                  have he : (L.length : Int) = N := by omega
                  have h1 : ((L.length : Int) == N) = true := by simp [he]
                  have h2 : decide ((L.length : Int) < N) = false := by simp; omega
                  clear he
                  go_wp2_with (go_at_call 11; refine (len_sep hs4 1 rfl).mono ?_; rintro e w' ⟨rfl, rfl⟩)
                  go_meet
                  exact ⟨congrArg Value.bool (decide_eq_false (by omega)), hs4⟩
                · obtain rfl : cc = 0 := by rw [Hcc.out, if_neg (by simp), if_neg hf]
                  have h1 : ((L.length : Int) == N) = false := by simp; omega
                  have h2 : (L.length : Int) < N := by omega
                  go_wp2_with (go_at_call 11; refine (len_sep hs4 1 rfl).mono ?_; rintro e w' ⟨rfl, rfl⟩)
                  go_meet
                  exact ⟨congrArg Value.bool (decide_eq_false (by omega)), hs4⟩
            case rest =>
              obtain ⟨rfl, hs5⟩ := hcut
              clear hs4
              by_cases h3 : ((k : Int) % 3 == 2) = true
              · go_wp2_with fail
                refine (take_sep hs5 1 rfl (by omega)).mono ?_
                rintro e w4 ⟨rfl, hs⟩
                have hs6 : Sep w w.heap.size w4 [slRes 9 1 (.slice A L.length c) L.length (cellsS L), qRes p (putL L N t).tail N l'] := hs
                clear hs hs5
                go_wp2_with fail
                go_roundw
                case rel => exact ⟨k + 1, l', (putL L N t).tail, by omega, by omega, by go_num, by omega, by rw [List.length_tail]; omega, hs6.forget⟩
                case measure => simp [intOf]; omega
              · rw [Bool.not_eq_true] at h3
                go_wp2_with fail
                go_roundw
                case rel => exact ⟨k + 1, l', putL L N t, by omega, by omega, by go_num, by omega, by omega, hs5.forget⟩
                case measure => simp [intOf]; omega
    · clear hS
      by_cases h1 : k < n1
      · have h2 : ¬ k < 60 := fun h => hlt ⟨h1, h⟩
        clear hlt
        go_wp2_with fail
        refine (fixed_any _).mono ?_
        rintro e w6 ⟨rfl, ht⟩
        have Hs := Lib.hid (hs.touch ht)
        clear hs ht
        go_wp2_with fail
        go_ret
        exact ⟨rfl, Touch.of_below Hs.out.below⟩
      · clear hlt
        go_wp2_with fail
        refine (fixed_any _).mono ?_
        rintro e w6 ⟨rfl, ht⟩
        have Hs := Lib.hid (hs.touch ht)
        clear hs ht
        go_wp2_with fail
        go_ret
        exact ⟨rfl, Touch.of_below Hs.out.below⟩
end Go.Proofs.Ytkphcgcciiefoaa
