/- syngraphlaw18.QueueDoes: the walk. -/
import Derived.Test.YtkphcgcciiefoaaRef18
import Derived.Test.YtkphcgcciiefoaaOnceWalk
import Derived.Test.YtkphcgcciiefoaaBackWalk
import Derived.Deep.DeepCutAuto
import Derived.Deep.CutBlock
import Derived.Deep.LoopGhost
import Derived.WalkLawsBesides
namespace Go.Proofs.Ytkphcgcciiefoaa
open Go.RowKit
set_option maxRecDepth 100000 in
set_option maxHeartbeats 1000000 in
theorem does_bad (m : Int) (hm : m < 1 ∨ 1000 < m) (A1 : Option Addr) (n1 c1 : Nat) (w : World) :
    Calls Try.prog 6 #[.int .i64 m, .slice A1 n1 c1] w fun e w' => e = .returned (.bool true) ∧ Touch [] w w' := by
  have Hm := Lib.hid hm
  clear hm
  go_enter Try.func6, Try.ntmps6
  go_wp2_with fail
  refine (queueNew_bad m _ Hm.out).mono ?_
  rintro e w1 ⟨rfl, rfl⟩
  go_wp2_with fail
  refine (refNew_bad m _ Hm.out).mono ?_
  rintro e w1 ⟨rfl, rfl⟩
  go_wp2_with fail
  refine wp_loop_rounds 1 ?_; rw [rounds_succ]
  go_wp2_with fail
  refine (fixed_any _).mono ?_
  rintro e w8 ⟨rfl, ht⟩
  have Ht := Lib.hid ht
  clear ht
  go_wp2_with fail
  go_ret
  exact ⟨rfl, Ht.out⟩
set_option maxRecDepth 100000 in
set_option maxHeartbeats 1000000 in
theorem does_good (N : Int) (hN1 : 1 ≤ N) (hN2 : N ≤ 1000) (A1 : Option Addr) (n1 c1 : Nat) (w : World) (hn1 : n1 ≤ maxLen)
    (hS : ∀ k, k < n1 → ∃ g o kd s, A1 = some ⟨g, o, none⟩ ∧ g < w.heap.size ∧ w.cell? ⟨g, o + k * 2, none⟩ = some (.int .i64 kd) ∧ w.cell? ⟨g, o + (k * 2 + 1), none⟩ = some (.string s)) :
    Calls Try.prog 6 #[.int .i64 N, .slice A1 n1 c1] w fun e w' => e = .returned (.bool true) ∧ Touch [] w w' := by
  have hs0 := Sep.start w
  unfold maxLen at hn1
  go_enter Try.func6, Try.ntmps6
  go_wp2_with fail
  refine (new_sep hs0 N hN1 hN2).mono ?_
  rintro e w1 ⟨p, rfl, hs1⟩
  clear hs0
  go_wp2_with fail
  refine (refNew_sep hs1 N hN1 hN2).mono ?_
  rintro e w2 ⟨r, rfl, hs2⟩
  clear hs1
  go_wp2_with fail
  go_loopw [5, 9] (fun vp vk wr => ∃ (k lost p : Nat) (L : List ByteArray), k ≤ n1 ∧ k ≤ 60 ∧ vk = .int .i64 k ∧ vp = .pointer (some ⟨p, 0, none⟩) ∧ lost ≤ k ∧ L.length ≤ k ∧ Sep w w.heap.size wr [rRes r L N lost, qRes p L N lost]) (fun _ vk _ => 60 - (intOf vk).toNat)
  case atStart => exact ⟨0, 0, p, [], by omega, by omega, rfl, rfl, by omega, by simp, hs2⟩
  case round =>
    obtain ⟨k, lost, p, L, hk, hk60, rfl, rfl, hlost, hL, hs⟩ := hrel
    clear hs2
    by_cases hlt : k < n1 ∧ k < 60
    · obtain ⟨hlt, hlt60⟩ := hlt
      obtain ⟨g, o, kd, s, rfl, hg, hcell1, hcell2⟩ := hS k hlt
      have hc1 : wr.cell? ⟨g, o + k * 2, none⟩ = some (.int .i64 kd) := (hs.below.cell (p := ⟨g, _, none⟩) hg).trans hcell1
      have hc2 : wr.cell? ⟨g, o + (k * 2 + 1), none⟩ = some (.string s) := (hs.below.cell (p := ⟨g, _, none⟩) hg).trans hcell2
      have hc3 : wr.cell? ⟨g, o + k * 2 + 1, none⟩ = some (.string s) := hc2
      clear hcell1 hcell2 hS
      go_upto_region 8 with fail
      go_cut [10] (fun v wx => v = .string (cut60 s) ∧ ∃ q, wr.drewN q = wx)
      case first =>
        go_quiet (fail)
        all_goals go_wp2_with fail
        all_goals go_meet
        · have h : (60 : Int) < s.size := by assumption
          exact ⟨by rw [cut60_gt h], _, rfl⟩
        · have h : (s.size : Int) ≤ 60 := by assumption
          exact ⟨by rw [← cut60_le h], _, rfl⟩
      case rest =>
        obtain ⟨rfl, q, rfl⟩ := hcut
        obtain ⟨t, ht⟩ : ∃ t, t = cut60 s := ⟨_, rfl⟩
        rw [← ht]
        clear ht hc2 hc3
        have hs3 := hs.drewN q
        clear hs
        go_upto_block 2 with fail
        go_cut [5] (fun vp wx => ∃ (p' l' : Nat) (L' : List ByteArray), vp = .pointer (some ⟨p', 0, none⟩) ∧ l' ≤ k + 1 ∧ L'.length ≤ k + 1 ∧ Sep w w.heap.size wx [rRes r L' N l', qRes p' L' N l'])
        case first =>
          by_cases h0 : kd = 0
          · subst h0
            obtain ⟨l', hl', hl2⟩ := put_lost (L := L) (N := N) (t := t) (lost := lost) (by omega)
            have hlen := putL_len L N t
            have Hl := Lib.hid hl'
            clear hl'
            go_wp2_with fail
            refine (put_sep hs3 1 rfl t (by omega) (by omega) (by omega)).mono ?_
            rintro e w3 ⟨rfl, hs4⟩
            clear hs3
            go_wp2_with fail
            refine (rput_sep hs4 0 rfl t (by omega) (by omega)).mono ?_
            rintro e w4 ⟨rfl, hs⟩
            have hs5 : Sep w w.heap.size w4 [rRes r (putL L N t) N l', qRes p (putL L N t) N l'] := by rw [← Hl.out]; exact hs
            obtain ⟨cc, hcc⟩ : ∃ cc, cc = putCode L N t := ⟨_, rfl⟩
            rw [← hcc]
            have hb : (cc != cc) = false := by simp
            clear hs hs4 hcc
            go_wp2_with fail
            go_meet
            exact ⟨p, l', putL L N t, rfl, by omega, by omega, hs5⟩
          · by_cases h1 : kd = 1
            · subst h1
              go_wp2_with fail
              refine (take_sep hs3 1 rfl (by omega)).mono ?_
              rintro e w3 ⟨rfl, hs4⟩
              clear hs3
              obtain ⟨x0, hx0⟩ : ∃ x0, x0 = L.headD ⟨#[]⟩ := ⟨_, rfl⟩
              obtain ⟨b0, hb0⟩ : ∃ b0, b0 = !L.isEmpty := ⟨_, rfl⟩
              rw [← hx0, ← hb0]
              have Hx0 := Lib.hid hx0
              have Hb0 := Lib.hid hb0
              clear hx0 hb0
              go_wp2_with fail
              refine (rtake_sep hs4 0 rfl (by omega)).mono ?_
              rintro e w4 ⟨rfl, hs⟩
              rw [← Hx0.out, ← Hb0.out]
              have hs5 : Sep w w.heap.size w4 [rRes r L.tail N lost, qRes p L.tail N lost] := hs
              have hbq : (x0.toList == x0.toList) = true := by simp
              have hbb : (b0 != b0) = false := by simp
              have hlt2 : L.tail.length ≤ k + 1 := by rw [List.length_tail]; omega
              clear hs hs4
              go_wp2_with fail
              go_meet
              exact ⟨p, lost, L.tail, rfl, by omega, hlt2, hs5⟩
            · have hb0 : (kd == 0) = false := by simp [h0]
              have hb1 : (kd == 1) = false := by simp [h1]
              clear h0 h1
              go_wp2_with fail
              refine (copy_sep hs3 1 rfl (by omega)).mono ?_
              rintro e w3 ⟨p', rfl, hs4⟩
              clear hs3
              go_wp2_with fail
              refine (take_sep hs4 2 rfl (by omega)).mono ?_
              rintro e w4 ⟨rfl, hs⟩
              have hs5 : Sep w w.heap.size w4 [qRes p' L N lost, rRes r L N lost, qRes p L.tail N lost] := hs
              have hlt2 : L.tail.length ≤ 60 := by rw [List.length_tail]; omega
              clear hs hs4
              go_wp2_with fail
              refine (put_sep hs5 2 rfl _ (by omega) (by omega) (by omega)).mono ?_
              rintro e w5 ⟨rfl, hs⟩
              have hs6 := (Sep.perm3 hs).forget.swap
              clear hs hs5
              go_wp2_with fail
              go_meet
              exact ⟨p', lost, L, rfl, by omega, by omega, hs6⟩
        case rest =>
          obtain ⟨p', l', L', rfl, hl', hL', hs4⟩ := hcut
          clear hs3 hc1
          obtain ⟨A, c, hr0, hr2, row, hro⟩ := r_cells hs4 0 rfl
          have Hro := Lib.hid hro
          clear hro
          have hnl : ((L'.length : Int) != (L'.length : Int)) = false := by simp
          have hll : ((l' : Int) != (l' : Int)) = false := by simp
          go_upto_region 22 with fail
          have hrl : r < wc.heap.size := World.block_lt_of_cell? _ _ hr0
          have HA := Lib.hid hr0
          have HB := Lib.hid hr2
          have hlen2 : L'.length ≤ 1000 := by omega
          have heq := eqL_self L'
          go_region_held3 (fun W => W.cell? ⟨r, 0, none⟩ = some (.slice A L'.length c) ∧ W.cell? ⟨r, 2, none⟩ = some (.int .u64 l'))
            (first | go_keep | exact ⟨(ht7.cell (p := ⟨r, 0, none⟩) hrl List.not_mem_nil).trans HA.out, (ht7.cell (p := ⟨r, 2, none⟩) hrl List.not_mem_nil).trans HB.out⟩)
            (first | (go_at_call 11; refine (len_sep hs4.drew 1 rfl).mono ?_; rintro e w6 ⟨rfl, rfl⟩) | (go_at_call 12; refine (lost_sep hs4.drew 1 rfl).mono ?_; rintro e w6 ⟨rfl, rfl⟩) | (go_at_call 15; refine (all_touch hs4.drew 1 rfl hlen2).mono ?_; rintro e w7 ⟨A7, c7, rfl, hs7, ht7⟩) | (go_at_call 13; refine (same_mix (L := L') (M := L') hs7 0 rfl (Hro.out.drew.touch ht7 (fun _ _ => List.not_mem_nil))).mono ?_; rintro e w8 ⟨rfl, m8, rfl⟩; rw [heq]))
          rename_i hHeld
          clear hHeld hr0 hr2 HA HB Hro
          have hs8 := hs7.forget.drewN m8
          clear hs7 ht7 hs4
          go_wp2_with fail
          go_roundw
          case rel => exact ⟨k + 1, l', p', L', by omega, by omega, by go_num, rfl, by omega, by omega, hs8⟩
          case measure => simp [intOf]; omega
    · clear hS
      by_cases h1 : k < n1
      · have h2 : ¬ k < 60 := fun h => hlt ⟨h1, h⟩
        clear hlt
        go_wp2_with fail
        refine (fixed_any _).mono ?_
        rintro e w6 ⟨rfl, ht⟩
        have Hs := Lib.hid (hs.touch ht)
        clear hs ht
        go_wp2_with fail
        go_ret
        exact ⟨rfl, Touch.of_below Hs.out.below⟩
      · clear hlt
        go_wp2_with fail
        refine (fixed_any _).mono ?_
        rintro e w6 ⟨rfl, ht⟩
        have Hs := Lib.hid (hs.touch ht)
        clear hs ht
        go_wp2_with fail
        go_ret
        exact ⟨rfl, Touch.of_below Hs.out.below⟩
theorem does_walk (N : Int) (A1 : Option Addr) (n1 c1 : Nat) (w : World) (hn1 : n1 ≤ maxLen)
    (hS : ∀ k, k < n1 → ∃ g o kd s, A1 = some ⟨g, o, none⟩ ∧ g < w.heap.size ∧ w.cell? ⟨g, o + k * 2, none⟩ = some (.int .i64 kd) ∧ w.cell? ⟨g, o + (k * 2 + 1), none⟩ = some (.string s)) :
    Calls Try.prog 6 #[.int .i64 N, .slice A1 n1 c1] w fun e w' => e = .returned (.bool true) ∧ Touch [] w w' := by
  by_cases h : 1 ≤ N ∧ N ≤ 1000
  · exact does_good N h.1 h.2 A1 n1 c1 w hn1 hS
  · exact does_bad N (by omega) A1 n1 c1 w
end Go.Proofs.Ytkphcgcciiefoaa
