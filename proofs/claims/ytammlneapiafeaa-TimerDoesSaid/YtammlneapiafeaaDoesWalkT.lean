/- syngraphlaw16.TimerDoes: the walk. -/
import Derived.Test.YtammlneapiafeaaRSep
namespace Go.Proofs.Ytammlneapiafeaa
open Go.RowKit
set_option maxRecDepth 100000 in
set_option maxHeartbeats 1000000 in
theorem does_bad (m : Int) (hm : m < 1 ∨ 10000 < m) (A1 : Option Addr) (n1 c1 : Nat) (w : World) :
    Calls Try.prog 6 #[.int .i64 m, .slice A1 n1 c1] w fun e w' => e = .returned (.bool true) ∧ Touch [] w w' := by
  have Hm := Lib.hid hm
  clear hm
  go_enter Try.func6, Try.ntmps6
  go_wp2_with fail
  refine (timerNew_bad m _ Hm.out).mono ?_
  rintro e w1 ⟨rfl, rfl⟩
  go_wp2_with fail
  refine (refNew_bad m _ Hm.out).mono ?_
  rintro e w1 ⟨rfl, rfl⟩
  go_wp2_with fail
  refine wp_loop_rounds 1 ?_; rw [rounds_succ]
  go_wp2_with fail
  refine (fixed_any _).mono ?_
  rintro e w8 ⟨rfl, ht⟩
  have Ht := Lib.hid ht
  clear ht
  go_wp2_with fail
  go_ret
  exact ⟨rfl, Ht.out⟩
set_option maxRecDepth 100000 in
set_option maxHeartbeats 4000000 in
theorem does_good (N : Int) (hN1 : 1 ≤ N) (hN2 : N ≤ 10000) (A1 : Option Addr) (n1 c1 : Nat) (w : World) (hn1 : n1 ≤ maxLen)
    (hS : ∀ k, k < n1 → ∃ g o kd id at_, A1 = some ⟨g, o, none⟩ ∧ g < w.heap.size ∧ w.cell? ⟨g, o + k * 3, none⟩ = some (.int .i64 kd) ∧ w.cell? ⟨g, o + (k * 3 + 1), none⟩ = some (.int .i64 id) ∧ w.cell? ⟨g, o + (k * 3 + 2), none⟩ = some (.int .u64 at_)) :
    Calls Try.prog 6 #[.int .i64 N, .slice A1 n1 c1] w fun e w' => e = .returned (.bool true) ∧ Touch [] w w' := by
  have hs0 := Sep.start w
  unfold maxLen at hn1
  go_enter Try.func6, Try.ntmps6
  go_wp2_with fail
  refine (newT_sep hs0 N hN1 hN2).mono ?_
  rintro e w1 ⟨p, rfl, hs1⟩
  clear hs0
  go_wp2_with fail
  refine (refNew_sep hs1 N hN1 hN2).mono ?_
  rintro e w2 ⟨r, rfl, hs2⟩
  clear hs1
  go_wp2_with fail
  go_loopw [5, 9] (fun vp vk wr => ∃ (k p : Nat) (S : List Al), k ≤ n1 ∧ k ≤ 40 ∧ vk = .int .i64 k ∧ vp = .pointer (some ⟨p, 0, none⟩) ∧ Sep w w.heap.size wr [rhRes r S N, hRes p S N]) (fun _ vk _ => 40 - (intOf vk).toNat)
  case atStart => exact ⟨0, p, [], by omega, by omega, rfl, rfl, hs2⟩
  case round =>
    obtain ⟨k, p, S, hk, hk40, rfl, rfl, hs⟩ := hrel
    clear hs2
    by_cases hlt : k < n1 ∧ k < 40
    · obtain ⟨hlt, hlt40⟩ := hlt
      obtain ⟨g, o, kd, id, at_, rfl, hg, hcell1, hcell2, hcell3⟩ := hS k hlt
      have hc1 : wr.cell? ⟨g, o + k * 3, none⟩ = some (.int .i64 kd) := (hs.below.cell (p := ⟨g, _, none⟩) hg).trans hcell1
      have hc2 : wr.cell? ⟨g, o + k * 3 + 1, none⟩ = some (.int .i64 id) := (hs.below.cell (p := ⟨g, _, none⟩) hg).trans hcell2
      have hc3 : wr.cell? ⟨g, o + k * 3 + 2, none⟩ = some (.int .u64 at_) := (hs.below.cell (p := ⟨g, _, none⟩) hg).trans hcell3
      clear hcell1 hcell2 hcell3 hS
      go_upto_region 9 with fail
      have hs3 : Sep w w.heap.size _ [blkRes wr.heap.size 46 #[.int .i64 kd, .int .i64 id, .int .u64 at_], rhRes r S N, hRes p S N] := hs.add (r := blkRes wr.heap.size 46 #[.int .i64 kd, .int .i64 id, .int .u64 at_]) ⟨rfl, Blk.new wr _ _⟩ ((Touch.refl _ _).alloc _) (by simp)
      obtain ⟨q, hq⟩ : ∃ q, q = wr.heap.size := ⟨_, rfl⟩
      obtain ⟨w3, hw3⟩ : ∃ w3, w3 = wr.alloc (.cells #[.int .i64 kd, .int .i64 id, .int .u64 at_] 46) := ⟨_, rfl⟩
      rw [← hq, ← hw3] at hs3 ⊢
      have hm := (heap_facts hs 1 rfl).2
      clear hq hw3 hs hc1 hc2 hc3 hg
      have hb := hs3.blk 0 rfl
      have hk0 : w3.cell? ⟨q, 0, none⟩ = some (.int .i64 kd) := hb.cell 0
      have hk1 : w3.cell? ⟨q, 1, none⟩ = some (.int .i64 id) := hb.cell 1
      have hk2 : w3.cell? ⟨q, 2, none⟩ = some (.int .u64 at_) := hb.cell 2
      clear hb
      go_upto_block 2 with fail
      go_cut [5, 11] (fun vp vok wx => ∃ (p' : Nat) (S' : List Al), vp = .pointer (some ⟨p', 0, none⟩) ∧ vok = .bool true ∧ Sep w w.heap.size wx [rhRes r S' N, hRes p' S' N])
      case first =>
        by_cases h0 : kd = 0
        · subst h0
          have heq : ((setCode S N id : Int) == setCode S N id) = true := by simp
          obtain ⟨z, hz⟩ : ∃ z, z = setCode S N id := ⟨_, rfl⟩
          have Hz := Lib.hid hz
          rw [← hz] at heq
          clear hz
          go_wp2_with fail
          go_region_held3 (fun W => W.cell? ⟨q, 1, none⟩ = some (.int .i64 id) ∧ W.cell? ⟨q, 2, none⟩ = some (.int .u64 at_))
            (first | go_keep | exact ⟨(hs5.blk 0 rfl).cell 1, (hs5.blk 0 rfl).cell 2⟩ | exact ⟨(hs4.blk 0 rfl).cell 1, (hs4.blk 0 rfl).cell 2⟩)
            (first | (go_at_call 9; refine (setT_sep hs3.drew 2 rfl id at_).mono ?_; rintro e w4 ⟨rfl, hs4⟩; rw [← Hz.out]) | (go_at_call 17; refine (rset_sep hs4 1 rfl id at_ hm hN2).mono ?_; rintro e w5 ⟨rfl, hs5⟩; rw [← Hz.out]))
          rename_i hHeld
          clear hHeld
          go_wp2_with fail
          go_meet
          exact ⟨p, setS S N id at_, rfl, rfl, hs5.forget⟩
        · by_cases h1 : kd = 1
          · subst h1
            have heq : ((dropCode S id : Int) == dropCode S id) = true := by simp
            obtain ⟨z, hz⟩ : ∃ z, z = dropCode S id := ⟨_, rfl⟩
            have Hz := Lib.hid hz
            rw [← hz] at heq
            clear hz h0
            go_wp2_with fail
            go_region_held3 (fun W => W.cell? ⟨q, 1, none⟩ = some (.int .i64 id))
              (first | go_keep | exact (hs5.blk 0 rfl).cell 1 | exact (hs4.blk 0 rfl).cell 1)
              (first | (go_at_call 14; refine (dropT_sep hs3.drew 2 rfl id).mono ?_; rintro e w4 ⟨rfl, hs4⟩; rw [← Hz.out]) | (go_at_call 18; refine (rdrop_sep hs4 1 rfl id).mono ?_; rintro e w5 ⟨rfl, hs5⟩; rw [← Hz.out]))
            rename_i hHeld
            clear hHeld
            go_wp2_with fail
            go_meet
            exact ⟨p, dropS S id, rfl, rfl, hs5.forget⟩
          · by_cases h2 : kd = 2
            · subst h2
              have heq := eqI_self ((goneS S at_).map Prod.snd)
              clear h0 h1
              go_wp2_with fail
              go_region_held3 (fun W => W.cell? ⟨q, 2, none⟩ = some (.int .u64 at_))
                (first | go_keep | exact (hs6.blk 2 rfl).cell 2 | exact (hs5.blk 2 rfl).cell 2 | exact (hs4.blk 1 rfl).cell 2)
                (first | (go_at_call 10; refine (popT_sep hs3.drew 2 rfl at_).mono ?_; rintro e w4 ⟨A4, c4, rfl, hs4⟩) | (go_at_call 19; refine (rpop_sep hs4 2 rfl at_).mono ?_; rintro e w5 ⟨A5, c5, rfl, hs5⟩) | (go_at_call 15; refine (ints_sep hs5 1 0 rfl rfl).mono ?_; rintro e w6 ⟨rfl, hs6⟩; rw [heq]))
              rename_i hHeld
              clear hHeld
              go_wp2_with fail
              go_meet
              exact ⟨p, leftS S at_, rfl, rfl, hs6.forget.forget.forget⟩
            · have hb0 : (kd == 0) = false := beq_false_of_ne h0
              have hb1 : (kd == 1) = false := beq_false_of_ne h1
              have hb2 : (kd == 2) = false := beq_false_of_ne h2
              clear h0 h1 h2
              go_wp2_with fail
              refine (copyT_sep hs3 2 rfl).mono ?_
              rintro e w4 ⟨p', rfl, hs4⟩
              clear hs3 hk0 hk1 hk2
              go_wp2_with fail
              refine (popT_sep hs4 3 rfl 18446744073709551615).mono ?_
              rintro e w5 ⟨A5, c5, rfl, hs5⟩
              have hk1 : w5.cell? ⟨q, 1, none⟩ = some (.int .i64 id) := (hs5.blk 2 rfl).cell 1
              clear hs4
              go_wp2_with fail
              refine (setT_sep hs5 4 rfl id 1).mono ?_
              rintro e w6 ⟨rfl, hs6⟩
              clear hs5 hk1
              go_wp2_with fail
              go_meet
              exact ⟨p', S, rfl, rfl, hs6.pick2 3 1 (by omega) rfl rfl⟩
      case rest =>
        obtain ⟨p', S', rfl, rfl, hs4⟩ := hcut
        clear hs3 hk0 hk1 hk2 hm
        obtain ⟨A, c, hr0⟩ := r_cell hs4 0 rfl
        have hnl : ((S'.length : Int) != (S'.length : Int)) = false := by simp
        have HA := Lib.hid hr0
        go_upto_region 20 with fail
        go_region_held3 (fun W => W.cell? ⟨r, 0, none⟩ = some (.slice A S'.length c))
          (first | go_keep | exact HA.out)
          (first | (go_at_call 11; refine (lenT_sep hs4.drew 1 rfl).mono ?_; rintro e w6 ⟨rfl, rfl⟩))
        rename_i hHeld
        clear hHeld hr0 HA
        have hs5 := hs4.drew
        obtain ⟨a, b, hab⟩ : ∃ a b, nextV S' = .tuple #[.int .u64 a, .bool b] := ⟨_, _, rfl⟩
        have Hab := Lib.hid hab
        have haa : ((a : Int) != a) = false := by simp
        have hbb : ((b : Bool) != b) = false := by simp
        clear hs4 hab
        go_wp2_with fail
        refine (nextT_sep hs5 1 rfl).mono ?_
        rintro e w6 ⟨rfl, rfl⟩
        rw [Hab.out]
        go_wp2_with fail
        refine (rnext_sep hs5 0 rfl).mono ?_
        rintro e w6 ⟨rfl, rfl⟩
        rw [Hab.out]
        go_wp2_with fail
        go_roundw
        case rel => exact ⟨k + 1, p', S', by omega, by omega, by go_num, rfl, hs5⟩
        case measure => simp [intOf]; omega
    · clear hS
      by_cases h1 : k < n1
      · have h2 : ¬ k < 40 := fun h => hlt ⟨h1, h⟩
        clear hlt
        go_wp2_with fail
        refine (fixed_any _).mono ?_
        rintro e w6 ⟨rfl, ht⟩
        have Hs := Lib.hid (hs.touch ht)
        clear hs ht
        go_wp2_with fail
        go_ret
        exact ⟨rfl, Touch.of_below Hs.out.below⟩
      · clear hlt
        go_wp2_with fail
        refine (fixed_any _).mono ?_
        rintro e w6 ⟨rfl, ht⟩
        have Hs := Lib.hid (hs.touch ht)
        clear hs ht
        go_wp2_with fail
        go_ret
        exact ⟨rfl, Touch.of_below Hs.out.below⟩
theorem does_walk (N : Int) (A1 : Option Addr) (n1 c1 : Nat) (w : World) (hn1 : n1 ≤ maxLen)
    (hS : ∀ k, k < n1 → ∃ g o kd id at_, A1 = some ⟨g, o, none⟩ ∧ g < w.heap.size ∧ w.cell? ⟨g, o + k * 3, none⟩ = some (.int .i64 kd) ∧ w.cell? ⟨g, o + (k * 3 + 1), none⟩ = some (.int .i64 id) ∧ w.cell? ⟨g, o + (k * 3 + 2), none⟩ = some (.int .u64 at_)) :
    Calls Try.prog 6 #[.int .i64 N, .slice A1 n1 c1] w fun e w' => e = .returned (.bool true) ∧ Touch [] w w' := by
  by_cases h : 1 ≤ N ∧ N ≤ 10000
  · exact does_good N h.1 h.2 A1 n1 c1 w hn1 hS
  · exact does_bad N (by omega) A1 n1 c1 w
end Go.Proofs.Ytammlneapiafeaa
