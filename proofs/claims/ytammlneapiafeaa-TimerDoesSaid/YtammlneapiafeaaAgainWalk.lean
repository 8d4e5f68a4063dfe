/- syngraphlaw16.TimerAgain: the walk. -/
import Derived.Test.YtammlneapiafeaaAgain
namespace Go.Proofs.Ytammlneapiafeaa
open Go.RowKit
/-- The ticks that were handed in. -/
structure Ticks (A : Option Addr) (n : Nat) (T : List Int) (w : World) : Prop where
  cell : ∀ k, k < n → ∃ g o, A = some ⟨g, o, none⟩ ∧ g < w.heap.size ∧ w.cell? ⟨g, o + k, none⟩ = some (.int .u16 (T.getD k 0))
  rng : ∀ k, 0 ≤ T.getD k 0 ∧ T.getD k 0 < 65536
theorem Ticks.of {A : Option Addr} {n : Nat} {T0 : List Int} {w : World}
    (hS0 : ∀ k, k < n → ∃ g o, A = some ⟨g, o, none⟩ ∧ g < w.heap.size ∧ w.cell? ⟨g, o + k, none⟩ = some (.int .u16 (T0.getD k 0)) ∧ (Lit.int .u16 (T0.getD k 0)).wf = true) : ∃ T, Ticks A n T w := by
  obtain ⟨T, hT1, hT⟩ := rng16 (T := T0) (n := n) (fun k hk => by obtain ⟨_, _, _, _, _, h⟩ := hS0 k hk; exact wf_u16 h)
  exact ⟨T, fun k hk => by
    obtain ⟨g, o, h1, h2, h3, _⟩ := hS0 k hk
    exact ⟨g, o, h1, h2, by rw [hT1 k hk]; exact h3⟩, hT⟩
theorem Ticks.at_ {A : Option Addr} {n : Nat} {T : List Int} {w wr : World} {rs : List Res} (h : Ticks A n T w) (hs : Sep w w.heap.size wr rs) (k : Nat) (hk : k < n) :
    ∃ g o, A = some ⟨g, o, none⟩ ∧ wr.cell? ⟨g, o + k, none⟩ = some (.int .u16 (T.getD k 0)) := by
  obtain ⟨g, o, h1, h2, h3⟩ := h.cell k hk
  exact ⟨g, o, h1, (hs.below.cell (p := ⟨g, o + k, none⟩) h2).trans h3⟩
set_option maxRecDepth 100000 in
set_option maxHeartbeats 2000000 in
theorem again_walk (A : Option Addr) (n c : Nat) (T0 : List Int) (now : Int) (hnc : n ≤ c) (hc : c ≤ maxLen) (hnow : 0 ≤ now) (hnow' : now < 65536) (w : World)
    (hS0 : ∀ k, k < n → ∃ g o, A = some ⟨g, o, none⟩ ∧ g < w.heap.size ∧ w.cell? ⟨g, o + k, none⟩ = some (.int .u16 (T0.getD k 0)) ∧ (Lit.int .u16 (T0.getD k 0)).wf = true) :
    Calls Try.prog 5 #[.slice A n c, .int .u16 now] w fun e w' => e = .returned (.bool true) ∧ Touch [] w w' := by
  obtain ⟨T, hT⟩ := Ticks.of hS0
  have HT := Lib.hid hT
  clear hS0 hT
  have hs0 := Sep.start w
  unfold maxLen at hc
  go_enter Try.func5, Try.ntmps5
  go_wp2_with fail
  refine (newT_sep hs0 40 (by omega) (by omega)).mono ?_
  rintro e w1 ⟨p, rfl, hs1⟩
  clear hs0
  go_wp2_with fail
  refine (newT_sep hs1 40 (by omega) (by omega)).mono ?_
  rintro e w2 ⟨q, rfl, hs2⟩
  clear hs1
  go_upto_region 5 with fail
  go_cut [9] (fun v wx => ∃ m : Nat, v = .slice A m c ∧ m ≤ n ∧ m ≤ 30 ∧ Sep w w.heap.size wx [hRes q [] 40, hRes p [] 40])
  case first =>
    by_cases h30 : n ≤ 30
    · go_wp2_with fail
      go_meet
      exact ⟨n, rfl, by omega, h30, hs2⟩
    · go_wp2_with fail
      go_meet
      exact ⟨30, rfl, by omega, by omega, hs2⟩
  case rest =>
    obtain ⟨m, rfl, hmn, hm30, hs3⟩ := hcut
    clear hs2
    go_upto_block 0 with fail
    go_cut [10] (fun _ wx => Sep w w.heap.size wx [hRes q [] 40, hRes p (allS T m) 40])
    case first =>
      go_wp2_with fail
      go_loopw [10] (fun vk wr => ∃ k : Nat, k ≤ m ∧ vk = .int .i64 k ∧ Sep w w.heap.size wr [hRes q [] 40, hRes p (allS T k) 40]) (fun vk _ => 40 - (intOf vk).toNat)
      case atStart => exact ⟨0, by omega, rfl, hs3⟩
      case round =>
        obtain ⟨k, hk, rfl, hs⟩ := hrel
        clear hs3
        by_cases hlt : k < m
        · obtain ⟨g, o, rfl, hcell⟩ := HT.out.at_ hs k (by omega)
          have Hset := Lib.hid (allS_set T k (by omega))
          obtain ⟨t0, t1⟩ := HT.out.rng k
          obtain ⟨x, hx⟩ : ∃ x, x = T.getD k 0 := ⟨_, rfl⟩
          rw [← hx] at hcell t0 t1 Hset
          clear hx
          go_wp2_with fail
          refine (setT_sep hs 1 rfl k x).mono ?_
          rintro e w3 ⟨rfl, hs3⟩
          rw [Hset.out] at hs3
          clear hs hcell
          obtain ⟨z, hz⟩ : ∃ z, z = setCode (allS T k) 40 k := ⟨_, rfl⟩
          rw [← hz]
          clear hz
          go_wp2_with fail
          go_roundw
          case rel => exact ⟨k + 1, by omega, by go_num, hs3⟩
          case measure => simp [intOf]; omega
        · obtain rfl : k = m := by omega
          go_wp2_with fail
          go_meet
          exact hs
    case rest =>
      clear hs3
      have hs4 := hcut
      clear hcut
      go_upto_block 2 with fail
      go_cut [11] (fun _ wx => Sep w w.heap.size wx [hRes q (allS T m) 40, hRes p (allS T m) 40])
      case first =>
        go_wp2_with fail
        go_loopw [11] (fun vk wr => ∃ d : Nat, d ≤ m ∧ vk = .int .i64 ((m : Int) - 1 - d) ∧ Sep w w.heap.size wr [hRes q (backS T m d) 40, hRes p (allS T m) 40]) (fun vk _ => (intOf vk + 1).toNat)
        case atStart => exact ⟨0, by omega, by simp, hs4⟩
        case round =>
          obtain ⟨d, hd, rfl, hs⟩ := hrel
          clear hs4
          by_cases hlt : d < m
          · obtain ⟨k, hk⟩ : ∃ k, k = m - 1 - d := ⟨_, rfl⟩
            have hkd : (m : Int) - 1 - d = (k : Nat) := by omega
            have Hset1 := Lib.hid (back_set1 T m d hlt (by omega) 1)
            have Hdrop := Lib.hid (back_drop T m d hlt)
            have Hset := Lib.hid (back_set1 T m d hlt (by omega) (T.getD (m - 1 - d) 0))
            have Hb : Hid (backS T m (d + 1) = insS (backS T m d) (T.getD (m - 1 - d) 0, ((m - 1 - d : Nat) : Int))) := Lib.hid rfl
            rw [hkd]
            rw [← hk] at Hset1 Hdrop Hset Hb
            have hkm : k < m := by omega
            have Hkd := Lib.hid hkd
            have Hk := Lib.hid hk
            clear hkd hk
            obtain ⟨g, o, rfl, hcell⟩ := HT.out.at_ hs k (by omega)
            obtain ⟨t0, t1⟩ := HT.out.rng k
            obtain ⟨x, hx⟩ : ∃ x, x = T.getD k 0 := ⟨_, rfl⟩
            rw [← hx] at t0 t1 Hset Hb
            have Hx := Lib.hid hx
            clear hx hcell
            go_wp2_with fail
            refine (setT_sep hs 0 rfl k 1).mono ?_
            rintro e w3 ⟨rfl, hs3⟩
            rw [Hset1.out] at hs3
            obtain ⟨z, hz⟩ : ∃ z, z = setCode (backS T m d) 40 k := ⟨_, rfl⟩
            rw [← hz]
            clear hz hs
            go_wp2_with fail
            refine (dropT_sep hs3 0 rfl k).mono ?_
            rintro e w4 ⟨rfl, hs4⟩
            replace hs4 : Sep w w.heap.size w4 [hRes q (backS T m d) 40, hRes p (allS T m) 40] := by
              have h := hs4
              rw [Hdrop.out] at h
              exact h
            obtain ⟨z, hz⟩ : ∃ z, z = dropCode (insS (backS T m d) (1, (k : Int))) k := ⟨_, rfl⟩
            rw [← hz]
            clear hz hs3
            obtain ⟨g', o', hgo, hcell⟩ := HT.out.at_ hs4 k (by omega)
            injection hgo with hgo
            injection hgo with h1 h2
            subst h1; subst h2
            rw [← Hx.out] at hcell
            go_wp2_with fail
            refine (setT_sep hs4 0 rfl k x).mono ?_
            rintro e w5 ⟨rfl, hs5⟩
            replace hs5 : Sep w w.heap.size w5 [hRes q (backS T m (d + 1)) 40, hRes p (allS T m) 40] := by
              have h := hs5
              rw [Hset.out, ← Hb.out] at h
              exact h
            obtain ⟨z, hz⟩ : ∃ z, z = setCode (backS T m d) 40 k := ⟨_, rfl⟩
            rw [← hz]
            clear hz hs4 hcell
            go_wp2_with fail
            go_roundw
            case rel => exact ⟨d + 1, by omega, by have := Hkd.out; go_num, hs5⟩
            case measure => have := Hkd.out; first | (simp [intOf]; done) | (simp [intOf]; omega)
          · obtain rfl : d = m := by omega
            have hkd : (d : Int) - 1 - d = -1 := by omega
            rw [hkd]
            rw [back_all] at hs
            go_wp2_with fail
            go_meet
            exact hs
      case rest =>
        have hs := hcut
        clear hcut hs4
        have Hl : Hid (leftS (leftS (allS T m) now) 1048576 = []) := Lib.hid (left_left _ _ _ (all_le HT.out.rng m 1048576 (by omega)))
        obtain ⟨S, hS⟩ : ∃ S, S = allS T m := ⟨_, rfl⟩
        rw [← hS] at hs Hl
        clear hS
        go_wp2_with fail
        refine (popT_sep hs 1 rfl now).mono ?_
        rintro e w3 ⟨A1, c1, rfl, hs3⟩
        clear hs
        go_wp2_with fail
        refine (popT_sep hs3 1 rfl now).mono ?_
        rintro e w4 ⟨A2, c2, rfl, hs4⟩
        clear hs3
        go_wp2_with fail
        refine (ints_sep hs4 1 0 rfl rfl).mono ?_
        rintro e w5 ⟨rfl, hs5⟩
        rw [eqI_self]
        replace hs5 : Sep w w.heap.size w5 [hRes q (leftS S now) 40, hRes p (leftS S now) 40] := hs5.forget.forget
        clear hs4
        go_wp2_with fail
        refine (lenT_sep hs5 1 rfl).mono ?_
        rintro e w6 ⟨rfl, rfl⟩
        go_wp2_with fail
        refine (lenT_sep hs5 0 rfl).mono ?_
        rintro e w6 ⟨rfl, rfl⟩
        go_wp2_with fail
        refine (popT_sep hs5 1 rfl 1048576).mono ?_
        rintro e w6 ⟨A1, c1, rfl, hs6⟩
        clear hs5
        go_wp2_with fail
        refine (popT_sep hs6 1 rfl 1048576).mono ?_
        rintro e w7 ⟨A2, c2, rfl, hs7⟩
        clear hs6
        go_wp2_with fail
        refine (ints_sep hs7 1 0 rfl rfl).mono ?_
        rintro e w8 ⟨rfl, hs8⟩
        rw [eqI_self]
        rw [Hl.out] at hs8
        replace hs8 : Sep w w.heap.size w8 [hRes q [] 40, hRes p [] 40] := hs8.forget.forget
        clear hs7
        go_wp2_with fail
        refine (lenT_sep hs8 1 rfl).mono ?_
        rintro e w9 ⟨rfl, rfl⟩
        go_wp2_with fail
        refine (fixed_any _).mono ?_
        rintro e w10 ⟨rfl, ht⟩
        have Ht := Lib.hid (hs8.touch ht)
        clear ht
        go_wp2_with fail
        go_ret
        exact ⟨rfl, Touch.of_below Ht.out.below⟩
end Go.Proofs.Ytammlneapiafeaa
