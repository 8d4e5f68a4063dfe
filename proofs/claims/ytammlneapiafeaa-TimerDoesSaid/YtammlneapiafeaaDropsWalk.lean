/- syngraphlaw16.TimerDrops: the walk. -/
import Derived.Test.YtammlneapiafeaaAgainWalk
namespace Go.Proofs.Ytammlneapiafeaa
open Go.RowKit
set_option maxRecDepth 100000 in
set_option maxHeartbeats 2000000 in
theorem drops_walk (A : Option Addr) (n c : Nat) (T0 : List Int) (which : Int) (hnc : n ≤ c) (hc : c ≤ maxLen) (hw0 : 0 ≤ which) (hw1 : which < 256) (w : World)
    (hS0 : ∀ k, k < n → ∃ g o, A = some ⟨g, o, none⟩ ∧ g < w.heap.size ∧ w.cell? ⟨g, o + k, none⟩ = some (.int .u16 (T0.getD k 0)) ∧ (Lit.int .u16 (T0.getD k 0)).wf = true) :
    Calls Try.prog 7 #[.slice A n c, .int .u8 which] w fun e w' => e = .returned (.bool true) ∧ Touch [] w w' := by
  obtain ⟨T, hT⟩ := Ticks.of hS0
  have HT := Lib.hid hT
  clear hS0 hT
  have hs0 := Sep.start w
  unfold maxLen at hc
  go_enter Try.func7, Try.ntmps7
  go_wp2_with fail
  refine (newT_sep hs0 40 (by omega) (by omega)).mono ?_
  rintro e w1 ⟨p, rfl, hs1⟩
  clear hs0
  go_wp2_with fail
  refine (newT_sep hs1 40 (by omega) (by omega)).mono ?_
  rintro e w2 ⟨q, rfl, hs2⟩
  clear hs1
  go_upto_region 5 with fail
  go_cut [9] (fun v wx => ∃ m : Nat, v = .slice A m c ∧ m ≤ n ∧ m ≤ 30 ∧ Sep w w.heap.size wx [hRes q [] 40, hRes p [] 40])
  case first =>
    by_cases h30 : n ≤ 30
    · go_wp2_with fail
      go_meet
      exact ⟨n, rfl, by omega, h30, hs2⟩
    · go_wp2_with fail
      go_meet
      exact ⟨30, rfl, by omega, by omega, hs2⟩
  case rest =>
    obtain ⟨m, rfl, hmn, hm30, hs3⟩ := hcut
    clear hs2
    go_upto_region 6 with fail
    go_cut [10] (fun v wx => ∃ k : Nat, v = .int .i64 k ∧ k ≤ m ∧ Sep w w.heap.size wx [hRes q [] 40, hRes p [] 40])
    case first =>
      have hz : ((m : Int) + 1 == 0) = false := beq_false_of_ne (by omega)
      go_wp2_with fail
      go_meet
      have h1 := Int.emod_nonneg which (show (m : Int) + 1 ≠ 0 by omega)
      have h2 := Int.emod_lt_of_pos which (show (0 : Int) < (m : Int) + 1 by omega)
      exact ⟨(which % ((m : Int) + 1)).toNat, by rw [Int.toNat_of_nonneg h1], by omega, hs3⟩
    case rest =>
      obtain ⟨i, rfl, him, hs4⟩ := hcut
      clear hs3
      go_upto_block 0 with fail
      go_cut [11] (fun _ wx => Sep w w.heap.size wx [hRes q (butS T i m) 40, hRes p (allS T m) 40])
      case first =>
        go_wp2_with fail
        go_loopw [11] (fun vk wr => ∃ k : Nat, k ≤ m ∧ vk = .int .i64 k ∧ Sep w w.heap.size wr [hRes q (butS T i k) 40, hRes p (allS T k) 40]) (fun vk _ => 40 - (intOf vk).toNat)
        case atStart => exact ⟨0, by omega, rfl, hs4⟩
        case round =>
          obtain ⟨k, hk, rfl, hs⟩ := hrel
          clear hs4
          by_cases hlt : k < m
          · obtain ⟨g, o, rfl, hcell⟩ := HT.out.at_ hs k (by omega)
            have Hset := Lib.hid (allS_set T k (by omega))
            have Hc := Lib.hid (allS_code T k (by omega))
            obtain ⟨t0, t1⟩ := HT.out.rng k
            obtain ⟨x, hx⟩ : ∃ x, x = T.getD k 0 := ⟨_, rfl⟩
            rw [← hx] at hcell t0 t1 Hset
            have Hx := Lib.hid hx
            clear hx
            by_cases hki : k = i
            · have Hb : Hid (butS T i (k + 1) = butS T i k) := Lib.hid (by rw [butS, if_pos hki])
              have hki' : ((k : Int) != (i : Int)) = false := by rw [hki]; simp
              have Hki := Lib.hid hki
              clear hki
              go_wp2_with fail
              refine (setT_sep hs 1 rfl k x).mono ?_
              rintro e w3 ⟨rfl, hs3⟩
              rw [Hset.out] at hs3
              rw [Hc.out]
              clear hs hcell
              go_wp2_with fail
              go_roundw
              case rel => exact ⟨k + 1, by omega, by go_num, by rw [Hb.out]; exact hs3⟩
              case measure => simp [intOf]; omega
            · have Hb := Lib.hid (but_set T i k (by omega) hki)
              have Hbc := Lib.hid (but_code T i k (by omega))
              rw [← Hx.out] at Hb
              have hki' : ((k : Int) != (i : Int)) = true := by rw [bne_iff_ne]; omega
              clear hki
              go_wp2_with fail
              refine (setT_sep hs 1 rfl k x).mono ?_
              rintro e w3 ⟨rfl, hs3⟩
              rw [Hset.out] at hs3
              rw [Hc.out]
              clear hs hcell
              obtain ⟨g', o', hgo, hcell⟩ := HT.out.at_ hs3 k (by omega)
              injection hgo with hgo
              injection hgo with h1 h2
              subst h1; subst h2
              rw [← Hx.out] at hcell
              go_wp2_with fail
              refine (setT_sep hs3 0 rfl k x).mono ?_
              rintro e w4 ⟨rfl, hs4⟩
              rw [Hb.out] at hs4
              rw [Hbc.out]
              clear hs3 hcell
              go_wp2_with fail
              go_roundw
              case rel => exact ⟨k + 1, by omega, by go_num, hs4⟩
              case measure => simp [intOf]; omega
          · obtain rfl : k = m := by omega
            go_wp2_with fail
            go_meet
            exact hs
      case rest =>
        have hs := hcut
        clear hcut hs4
        have Hdrop := Lib.hid (drop_all T i m)
        have Hhas := Lib.hid (all_has T m i)
        have Hset := Lib.hid (but_set3 T i m (by omega) 3)
        have hbl := butS_len T i m
        obtain ⟨z, hz⟩ : ∃ z, z = dropCode (allS T m) i := ⟨_, rfl⟩
        have hz2 : ((z : Int) == 0) = decide ((i : Int) < m) := by
          rw [hz]
          unfold dropCode
          rw [Hhas.out]
          by_cases h : i < m
          · have h' : ((i : Int) < m) := by omega
            simp [h]
          · have h' : ¬ ((i : Int) < m) := by omega
            simp [h]
        obtain ⟨S, hS⟩ : ∃ S, S = butS T i m := ⟨_, rfl⟩
        rw [← hS] at hs Hdrop Hset hbl
        clear hS
        go_wp2_with fail
        refine (dropT_sep hs 1 rfl i).mono ?_
        rintro e w3 ⟨rfl, hs3⟩
        rw [← hz]
        replace hs3 : Sep w w.heap.size w3 [hRes q S 40, hRes p S 40] := by
          have h := hs3
          rw [Hdrop.out] at h
          exact h
        clear hs hz
        go_wp2_with fail
        refine (copyT_sep hs3 1 rfl).mono ?_
        rintro e w4 ⟨p2, rfl, hs4⟩
        clear hs3
        go_wp2_with fail
        refine (copyT_sep hs4 1 rfl).mono ?_
        rintro e w5 ⟨q2, rfl, hs5⟩
        clear hs4
        go_wp2_with fail
        refine (popT_sep hs5 1 rfl 65536).mono ?_
        rintro e w6 ⟨A1, c1, rfl, hs6⟩
        clear hs5
        go_wp2_with fail
        refine (popT_sep hs6 1 rfl 65536).mono ?_
        rintro e w7 ⟨A2, c2, rfl, hs7⟩
        clear hs6
        go_wp2_with fail
        refine (ints_sep hs7 1 0 rfl rfl).mono ?_
        rintro e w8 ⟨rfl, hs8⟩
        rw [eqI_self]
        replace hs8 : Sep w w.heap.size w8 [hRes q S 40, hRes p S 40] := hs8.forget.forget.forget.forget
        clear hs7
        go_wp2_with fail
        refine (setT_sep hs8 1 rfl i 3).mono ?_
        rintro e w9 ⟨rfl, hs9⟩
        rw [Hset.out.1]
        replace hs9 : Sep w w.heap.size w9 [hRes q S 40, hRes p (setS S 40 i 3) 40] := hs9
        clear hs8
        go_wp2_with fail
        refine (lenT_sep hs9 1 rfl).mono ?_
        rintro e w10 ⟨rfl, rfl⟩
        rw [Hset.out.2]
        go_wp2_with fail
        refine (lenT_sep hs9 0 rfl).mono ?_
        rintro e w10 ⟨rfl, rfl⟩
        go_wp2_with fail
        refine (fixed_any _).mono ?_
        rintro e w11 ⟨rfl, ht⟩
        have Ht := Lib.hid (hs9.touch ht)
        clear ht
        go_wp2_with fail
        go_ret
        exact ⟨rfl, Touch.of_below Ht.out.below⟩
end Go.Proofs.Ytammlneapiafeaa
