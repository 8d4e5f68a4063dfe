/- The document's sum: words. -/
import Derived.Test.YtflpjnillfgghaaDoorWrB
namespace Go.Proofs.YtflpjnillfgghaaDoor
open Go Go.RowKit
theorem bit_lt (x : Nat) : x % 18446744073709551616 < 2 ^ 64 := Nat.mod_lt _ (by decide)
theorem orr_lt (a b : Nat) : orr a b < 18446744073709551616 := Nat.or_lt_two_pow (n := 64) (bit_lt a) (bit_lt b)
theorem xo_lt (a b : Nat) : xo a b < 18446744073709551616 := Nat.xor_lt_two_pow (n := 64) (bit_lt a) (bit_lt b)
theorem beS_lt (l : List Nat) : beS l < 18446744073709551616 := by
  have h : ∀ (l : List Nat) (n : Nat), n < 18446744073709551616 → l.foldl (fun n c => orr (n * 256 % 18446744073709551616) c) n < 18446744073709551616 := by
    intro l
    induction l with
    | nil => exact fun n h => h
    | cons c l ih => exact fun n _ => ih _ (orr_lt _ _)
  exact h l 0 (by decide)
theorem wpre_words (B : List Nat) (i : Nat) : Words (wpre B i) := by
  induction i with
  | zero => intro x hx; cases hx
  | succ i ih =>
    intro x hx
    rcases List.mem_append.1 hx with h | h
    · exact ih x h
    · rw [List.mem_singleton] at h
      rw [h]
      split
      · exact beS_lt _
      · exact ad_lt _ _
theorem cellsN_oneL (l : List Nat) : ∀ u ∈ cellsN l, u.oneCell' = true := by
  intro u hu
  obtain ⟨x, _, rfl⟩ := List.mem_map.1 hu
  rfl
theorem cellsN_snoc (l : List Nat) (x : Nat) : cellsN (l ++ [x]) = cellsN l ++ [.int .u64 (x : Int)] := by simp [cellsN]
theorem wpre_low {B : List Nat} {i : Nat} (h : i < 16) : wpre B (i + 1) = wpre B i ++ [beS ((B.drop (8 * i)).take 8)] := by rw [wpre, if_pos h]
theorem wpre_high {B : List Nat} {i : Nat} (h : ¬ i < 16) : wpre B (i + 1) = wpre B i ++ [wnext (wpre B i)] := by rw [wpre, if_neg h]
theorem wnext_ref {B : List Nat} {i : Nat} : wnext (wpre B i) = ad (ad (ad ((wpre B i).getD (i - 16) 0) (xo (xo (rot ((wpre B i).getD (i - 15) 0) 1) (rot ((wpre B i).getD (i - 15) 0) 8)) (((wpre B i).getD (i - 15) 0) / 128))) ((wpre B i).getD (i - 7) 0))
    (xo (xo (rot ((wpre B i).getD (i - 2) 0) 19) (rot ((wpre B i).getD (i - 2) 0) 61)) (((wpre B i).getD (i - 2) 0) / 64)) := by
  unfold wnext
  simp only [wpre_len]
  rw [show (2 : Nat) ^ 7 = 128 by decide, show (2 : Nat) ^ 6 = 64 by decide]
  generalize (wpre B i).getD (i - 16) 0 = a
  generalize (wpre B i).getD (i - 7) 0 = b
  generalize xo (xo (rot ((wpre B i).getD (i - 15) 0) 1) (rot ((wpre B i).getD (i - 15) 0) 8)) (((wpre B i).getD (i - 15) 0) / 128) = c
  generalize xo (xo (rot ((wpre B i).getD (i - 2) 0) 19) (rot ((wpre B i).getD (i - 2) 0) 61)) (((wpre B i).getD (i - 2) 0) / 64) = d
  unfold ad
  omega
set_option maxRecDepth 100000 in
set_option maxHeartbeats 4000000 in
theorem words_any (b : ByteArray) (hb : b.size = 128) (w : World) :
    Calls Tryd.prog 17 #[.string b] w fun e w' => ∃ v, e = .returned v ∧ Rd w' v (wpre (bl b) 80) ∧ Touch [] w w' := by
  obtain ⟨i0, hi0, hz0, hz1, hz2⟩ := info_partsW infoU
  have HRi := Lib.hid (fun (x n : Nat) (h0 : 0 < n) (h1 : n < 64) (W : World) => right_any x n h0 h1 W)
  have Hs0 := Lib.hid (((Sep.start w).alloc (.cells #[] 36)).bare 36 1 (some ⟨w.heap.size, 0, none⟩))
  obtain ⟨B, hB⟩ : ∃ B, B = bl b := ⟨_, rfl⟩
  have HB := Lib.hid hB
  rw [← hB]
  clear hB
  go_enter Tryd.func17, Tryd.ntmps17
  go_upto_block 0 with fail
  go_cut [3] (fun v3 wx => ∃ (A : Option Addr) (c : Nat), v3 = .slice A 16 c ∧ Sep w w.heap.size wx [slRes 36 1 (.slice A 16 c) 16 (cellsN (wpre B 16))])
  case first =>
    go_wp2_with fail
    go_loopw [3, 4] (fun v3 v4 wr => ∃ (i : Nat) (A : Option Addr) (c : Nat), i ≤ 16 ∧ v4 = .int .i64 i ∧ v3 = .slice A i c ∧ Sep w w.heap.size wr [slRes 36 1 (.slice A i c) i (cellsN (wpre B i))]) (fun _ v4 _ => 16 - (intOf v4).toNat)
    case atStart => exact ⟨0, _, 0, by omega, rfl, rfl, Hs0.out⟩
    case round =>
      obtain ⟨i, A, c, hi, rfl, rfl, hs⟩ := hrel
      clear Hs0
      have Hs := Lib.hid hs
      clear hs
      by_cases hlt : i < 16
      · have Hnx := Lib.hid (wpre_low (B := B) hlt)
        obtain ⟨D, hD⟩ : ∃ D, D = (B.drop (8 * i)).take 8 := ⟨_, rfl⟩
        have hDl : D.length = 8 := by rw [hD, List.length_take, List.length_drop, HB.out, bl_len, hb]; omega
        have HD : Hid (∀ k, k < 8 → D.getD k 0 = (bl b).getD (8 * i + k) 0) := Lib.hid (fun k hk => by
          rw [hD, HB.out]
          simp [List.getD, hk])
        rw [← hD] at Hnx
        have HDl := Lib.hid hDl
        clear hD hDl
        go_wp2_with fail
        go_loopw [5, 6] (fun v5 v6 wq => ∃ k : Nat, k ≤ 8 ∧ v6 = .int .i64 k ∧ v5 = .int .u64 ((beS (D.take k) : Nat) : Int) ∧ wq = wr) (fun _ v6 _ => 8 - (intOf v6).toNat)
        case atStart => exact ⟨0, by omega, rfl, rfl, rfl⟩
        case round =>
          obtain ⟨k, hk, rfl, rfl, rfl⟩ := hrel
          by_cases hk8 : k < 8
          · have hix := index_blW b (8 * i + k) (by omega)
            rw [← HD.out k hk8, show ((8 * i + k : Nat) : Int) = 8 * (i : Int) + (k : Int) by omega] at hix
            have Hst := Lib.hid (beS_take (l := D) (k := k) (by rw [HDl.out]; exact hk8))
            have hc256 : D.getD k 0 < 256 := by
              rw [HD.out k hk8, List.getD, List.getElem?_eq_getElem (show 8 * i + k < (bl b).length by rw [bl_len]; omega)]
              exact bl_lt b _ (List.getElem_mem _)
            obtain ⟨x, hx⟩ : ∃ x, x = beS (D.take k) := ⟨_, rfl⟩
            obtain ⟨d, hd⟩ : ∃ d, d = D.getD k 0 := ⟨_, rfl⟩
            rw [← hd] at hix Hst hc256
            rw [← hx] at Hst ⊢
            rw [orr_ad x d hc256] at Hst
            have m1 := IntWalk.i64_in (8 * (i : Int)) (by omega)
            have m2 := IntWalk.i64_in (8 * (i : Int) + (k : Int)) (by omega)
            have k0 := shl_c x 8
            rw [show (2 : Int) ^ 8 = 256 by decide, show (2 : Nat) ^ 8 = 256 by decide] at k0
            obtain ⟨y, hy⟩ : ∃ y, y = x * 256 % 18446744073709551616 := ⟨_, rfl⟩
            rw [← hy] at k0 Hst
            have k1 := add_c y d
            have m3 := IntWalk.u64_in (d : Int) (by omega)
            clear hx hd hy
            go_wp2_with fail
            go_roundw
            case rel => exact ⟨k + 1, by omega, by go_num, by rw [Hst.out], trivial⟩
            case measure => simp [intOf]; omega
          · obtain rfl : k = 8 := by omega
            have HDe : Hid (D.take 8 = D) := Lib.hid (List.take_of_length_le (by rw [HDl.out]; omega))
            rw [HDe.out]
            obtain ⟨x, hx⟩ : ∃ x, x = beS D := ⟨_, rfl⟩
            rw [← hx] at Hnx ⊢
            clear hx
            go_wp2_with (at_builtin; refine wpList_append_sep _ rfl (.tmp 29) (.tmp 31) 39 39 rfl 36 i0 _ 1 8 Tryd.underlying39 hi0 hz0 hz1 hz2 rfl (Hs.out.alloc _) 0 (.slice A i c) i (cellsN (wpre B i)) rfl rfl _ 1 [.int .u64 (x : Int)] rfl (Src.one Tryd.underlying39 _ _ _ rfl) (by unfold maxLen; omega) (by omega) ?_)
            intro A2 c2 w3 hs3
            have hs4 : Sep w w.heap.size w3 [slRes 36 1 (.slice A2 (i + 1) c2) (i + 1) (cellsN (wpre B (i + 1)))] := by
              rw [Hnx.out, cellsN_snoc]
              exact hs3
            have Hs4 := Lib.hid hs4
            clear hs3 hs4 Hs
            go_wp2_with fail
            go_roundw
            case rel => exact ⟨i + 1, A2, c2, by omega, by go_num, rfl, Hs4.out⟩
            case measure => simp [intOf]; omega
      · obtain rfl : i = 16 := by omega
        go_wp2_with fail
        go_meet
        exact ⟨A, c, rfl, Hs.out⟩
  case rest =>
    obtain ⟨A, c, rfl, hs⟩ := hcut
    have Hs1 := Lib.hid hs
    clear Hs0 hs HB hb
    go_wp2_with fail
    go_loopw [3, 7] (fun v3 v7 wr => ∃ (i : Nat) (A : Option Addr) (c : Nat), 16 ≤ i ∧ i ≤ 80 ∧ v7 = .int .i64 i ∧ v3 = .slice A i c ∧ Sep w w.heap.size wr [slRes 36 1 (.slice A i c) i (cellsN (wpre B i))]) (fun _ v7 _ => 80 - (intOf v7).toNat)
    case atStart => exact ⟨16, A, c, by omega, by omega, rfl, rfl, Hs1.out⟩
    case round =>
      obtain ⟨i, A, c, h16, hi, rfl, rfl, hs⟩ := hrel
      clear Hs1
      have Hs := Lib.hid hs
      have Hrd := Lib.hid (hs.rd 0 rfl (wpre_len B i) (by omega))
      clear hs
      by_cases hlt : i < 80
      · obtain ⟨g, off, c', hv, hnc, hg, hcells⟩ := Hrd.out
        rw [wpre_len] at hv hnc hcells
        injection hv with hA _ hcc
        subst hA
        subst hcc
        have HC : Hid (∀ W, Touch [] wr W → ∀ j, j < i → W.cell? ⟨g, off + j, none⟩ = some (.int .u64 (((wpre B i).getD j 0 : Nat) : Int))) := Lib.hid (fun W h j hj => (h.cell (p := ⟨g, off + j, none⟩) hg (by simp)).trans (hcells j hj))
        have HWd := Lib.hid (wpre_words B i)
        have Hnx := Lib.hid ((wpre_high (B := B) (i := i) (by omega)).trans (by rw [wnext_ref]))
        clear hcells hg hnc Hrd
        go_wp2_with fail
        go_upto_region 14 with fail
        -- WFLOW wr14
        refine wp_region_flowT (by kernel_rfl) 21 (lookW [(3, pu (isV (.slice (some ⟨g, off, none⟩) i c))), (7, pu (isV (.int .i64 ((i : Nat) : Int)))), (37, pu (isV (.slice (some ⟨g, off, none⟩) i c))), (38, pu (isV (.int .i64 ((i : Nat) : Int)))), (39, pu (isV (.int .i64 ((i - 15 : Nat) : Int)))), (40, pu (isV (.pointer (some ⟨g, off + (i - 15), none⟩)))), (41, pu (isV (.int .u64 (((wpre B i).getD (i - 15) 0 : Nat) : Int)))), (42, pu (isV (.int .u64 ((rot ((wpre B i).getD (i - 15) 0) 1 : Nat) : Int)))), (43, pu (isV (.slice (some ⟨g, off, none⟩) i c))), (44, pu (isV (.int .i64 ((i : Nat) : Int)))), (45, pu (isV (.int .i64 ((i - 15 : Nat) : Int)))), (46, pu (isV (.pointer (some ⟨g, off + (i - 15), none⟩)))), (47, pu (isV (.int .u64 (((wpre B i).getD (i - 15) 0 : Nat) : Int)))), (48, pu (isV (.int .u64 ((rot ((wpre B i).getD (i - 15) 0) 8 : Nat) : Int)))), (49, pu (isV (.int .u64 ((xo (rot ((wpre B i).getD (i - 15) 0) 1) (rot ((wpre B i).getD (i - 15) 0) 8) : Nat) : Int)))), (50, pu (isV (.slice (some ⟨g, off, none⟩) i c))), (51, pu (isV (.int .i64 ((i : Nat) : Int)))), (52, pu (isV (.int .i64 ((i - 15 : Nat) : Int)))), (53, pu (isV (.pointer (some ⟨g, off + (i - 15), none⟩)))), (54, pu (isV (.int .u64 (((wpre B i).getD (i - 15) 0 : Nat) : Int)))), (55, pu (isV (.int .u64 ((((wpre B i).getD (i - 15) 0) / 128 : Nat) : Int)))), (56, pu (isV (.int .u64 ((xo (xo (rot ((wpre B i).getD (i - 15) 0) 1) (rot ((wpre B i).getD (i - 15) 0) 8)) (((wpre B i).getD (i - 15) 0) / 128) : Nat) : Int)))), (8, pu (isV (.int .u64 ((xo (xo (rot ((wpre B i).getD (i - 15) 0) 1) (rot ((wpre B i).getD (i - 15) 0) 8)) (((wpre B i).getD (i - 15) 0) / 128) : Nat) : Int))))]) [3, 7] [37, 38, 39, 40, 41, 42, 43, 44, 45, 46, 47, 48, 49, 50, 51, 52, 53, 54, 55, 56, 8] [8] (by kernel_rfl) (by kernel_rfl) (by kernel_rfl) (by kernel_rfl) ⟨rfl, rfl, trivial⟩ ?_ ?_
        · refine FStepsW.cons (FStepW.plain rfl fun a w hS hE => OpTo.move rfl ⟨dOfW.of 37 rfl (hE 3 (by kernel_rfl)), Touch.refl _ _⟩) ?_
          refine FStepsW.cons (FStepW.plain rfl fun a w hS hE => OpTo.move rfl ⟨dOfW.of 38 rfl (hE 7 (by kernel_rfl)), Touch.refl _ _⟩) ?_
          refine FStepsW.cons (FStepW.plain rfl fun a w hS hE => OpTo.subN i 15 (by omega) (by omega) rfl (hE 38 (by kernel_rfl)) rfl ⟨dOfW.of 39 rfl rfl, Touch.refl _ _⟩) ?_
          refine FStepsW.cons (FStepW.plain rfl fun a w hS hE => OpTo.ixL g off i c (i - 15) rfl (hE 37 (by kernel_rfl)) (hE 39 (by kernel_rfl)) (by omega) ⟨dOfW.of 40 rfl rfl, Touch.refl _ _⟩) ?_
          refine FStepsW.cons (FStepW.plain rfl fun a w hS hE => OpTo.ldU g (off + (i - 15)) _ rfl (hE 40 (by kernel_rfl)) (HC.out w hS (i - 15) (by omega)) ⟨dOfW.of 41 rfl rfl, Touch.refl _ _⟩) ?_
          refine FStepsW.cons (FStepW.plain rfl fun a w hS hE => OpTo.call #[.int .u64 (((wpre B i).getD (i - 15) 0 : Nat) : Int), .int .i64 ((1 : Nat) : Int)] rfl Tryd.func29 (by kernel_rfl) (by kernel_rfl) (argsW2 (hE 41 (by kernel_rfl)) rfl) ((HRi.out ((wpre B i).getD (i - 15) 0) 1 (by decide) (by decide) w).mono fun _ _ h => callsW 42 rfl (fun _ _ h => h) h)) ?_
          refine FStepsW.cons (FStepW.plain rfl fun a w hS hE => OpTo.move rfl ⟨dOfW.of 43 rfl (hE 3 (by kernel_rfl)), Touch.refl _ _⟩) ?_
          refine FStepsW.cons (FStepW.plain rfl fun a w hS hE => OpTo.move rfl ⟨dOfW.of 44 rfl (hE 7 (by kernel_rfl)), Touch.refl _ _⟩) ?_
          refine FStepsW.cons (FStepW.plain rfl fun a w hS hE => OpTo.subN i 15 (by omega) (by omega) rfl (hE 44 (by kernel_rfl)) rfl ⟨dOfW.of 45 rfl rfl, Touch.refl _ _⟩) ?_
          refine FStepsW.cons (FStepW.plain rfl fun a w hS hE => OpTo.ixL g off i c (i - 15) rfl (hE 43 (by kernel_rfl)) (hE 45 (by kernel_rfl)) (by omega) ⟨dOfW.of 46 rfl rfl, Touch.refl _ _⟩) ?_
          refine FStepsW.cons (FStepW.plain rfl fun a w hS hE => OpTo.ldU g (off + (i - 15)) _ rfl (hE 46 (by kernel_rfl)) (HC.out w hS (i - 15) (by omega)) ⟨dOfW.of 47 rfl rfl, Touch.refl _ _⟩) ?_
          refine FStepsW.cons (FStepW.plain rfl fun a w hS hE => OpTo.call #[.int .u64 (((wpre B i).getD (i - 15) 0 : Nat) : Int), .int .i64 ((8 : Nat) : Int)] rfl Tryd.func29 (by kernel_rfl) (by kernel_rfl) (argsW2 (hE 47 (by kernel_rfl)) rfl) ((HRi.out ((wpre B i).getD (i - 15) 0) 8 (by decide) (by decide) w).mono fun _ _ h => callsW 48 rfl (fun _ _ h => h) h)) ?_
          refine FStepsW.cons (FStepW.plain rfl fun a w hS hE => OpTo.xorN (rot ((wpre B i).getD (i - 15) 0) 1) (rot ((wpre B i).getD (i - 15) 0) 8) rfl (hE 42 (by kernel_rfl)) (hE 48 (by kernel_rfl)) ⟨dOfW.of 49 rfl rfl, Touch.refl _ _⟩) ?_
          refine FStepsW.cons (FStepW.plain rfl fun a w hS hE => OpTo.move rfl ⟨dOfW.of 50 rfl (hE 3 (by kernel_rfl)), Touch.refl _ _⟩) ?_
          refine FStepsW.cons (FStepW.plain rfl fun a w hS hE => OpTo.move rfl ⟨dOfW.of 51 rfl (hE 7 (by kernel_rfl)), Touch.refl _ _⟩) ?_
          refine FStepsW.cons (FStepW.plain rfl fun a w hS hE => OpTo.subN i 15 (by omega) (by omega) rfl (hE 51 (by kernel_rfl)) rfl ⟨dOfW.of 52 rfl rfl, Touch.refl _ _⟩) ?_
          refine FStepsW.cons (FStepW.plain rfl fun a w hS hE => OpTo.ixL g off i c (i - 15) rfl (hE 50 (by kernel_rfl)) (hE 52 (by kernel_rfl)) (by omega) ⟨dOfW.of 53 rfl rfl, Touch.refl _ _⟩) ?_
          refine FStepsW.cons (FStepW.plain rfl fun a w hS hE => OpTo.ldU g (off + (i - 15)) _ rfl (hE 53 (by kernel_rfl)) (HC.out w hS (i - 15) (by omega)) ⟨dOfW.of 54 rfl rfl, Touch.refl _ _⟩) ?_
          refine FStepsW.cons (FStepW.plain rfl fun a w hS hE => OpTo.quoN ((wpre B i).getD (i - 15) 0) 128 (by decide) rfl (hE 54 (by kernel_rfl)) rfl (HWd.out.at_ _) ⟨dOfW.of 55 rfl rfl, Touch.refl _ _⟩) ?_
          refine FStepsW.cons (FStepW.plain rfl fun a w hS hE => OpTo.xorN (xo (rot ((wpre B i).getD (i - 15) 0) 1) (rot ((wpre B i).getD (i - 15) 0) 8)) (((wpre B i).getD (i - 15) 0) / 128) rfl (hE 49 (by kernel_rfl)) (hE 55 (by kernel_rfl)) ⟨dOfW.of 56 rfl rfl, Touch.refl _ _⟩) ?_
          refine FStepsW.cons (FStepW.plain rfl fun a w hS hE => OpTo.assign rfl ⟨dOfW.of 8 rfl (hE 56 (by kernel_rfl)), Touch.refl _ _⟩) ?_
          exact FStepsW.nil
        intro f wx hS hF
        obtain ⟨h8, -⟩ := hF
        replace h8 : f 8 = .int .u64 ((xo (xo (rot ((wpre B i).getD (i - 15) 0) 1) (rot ((wpre B i).getD (i - 15) 0) 8)) (((wpre B i).getD (i - 15) 0) / 128) : Nat) : Int) := h8
        simp only [setAll, List.setIfInBounds_toArray, List.set_cons_zero, List.set_cons_succ, h8]
        show wpList _ _ _ [] _ _
        -- END
        obtain ⟨s0, hs0⟩ : ∃ s0, s0 = xo (xo (rot ((wpre B i).getD (i - 15) 0) 1) (rot ((wpre B i).getD (i - 15) 0) 8)) (((wpre B i).getD (i - 15) 0) / 128) := ⟨_, rfl⟩
        rw [← hs0] at Hnx ⊢
        have Hs2 := Lib.hid (Hs.out.touch hS)
        have HC2 := HC
        clear HC
        have HC : Hid (∀ W, Touch [] wx W → ∀ j, j < i → W.cell? ⟨g, off + j, none⟩ = some (.int .u64 (((wpre B i).getD j 0 : Nat) : Int))) := Lib.hid (fun W h => HC2.out W (hS.trans h))
        clear hs0 h8 hS Hs HC2
        go_wp2_with fail
        go_upto_region 15 with fail
        -- WFLOW wr15
        refine wp_region_flowT (by kernel_rfl) 21 (lookW [(3, pu (isV (.slice (some ⟨g, off, none⟩) i c))), (7, pu (isV (.int .i64 ((i : Nat) : Int)))), (57, pu (isV (.slice (some ⟨g, off, none⟩) i c))), (58, pu (isV (.int .i64 ((i : Nat) : Int)))), (59, pu (isV (.int .i64 ((i - 2 : Nat) : Int)))), (60, pu (isV (.pointer (some ⟨g, off + (i - 2), none⟩)))), (61, pu (isV (.int .u64 (((wpre B i).getD (i - 2) 0 : Nat) : Int)))), (62, pu (isV (.int .u64 ((rot ((wpre B i).getD (i - 2) 0) 19 : Nat) : Int)))), (63, pu (isV (.slice (some ⟨g, off, none⟩) i c))), (64, pu (isV (.int .i64 ((i : Nat) : Int)))), (65, pu (isV (.int .i64 ((i - 2 : Nat) : Int)))), (66, pu (isV (.pointer (some ⟨g, off + (i - 2), none⟩)))), (67, pu (isV (.int .u64 (((wpre B i).getD (i - 2) 0 : Nat) : Int)))), (68, pu (isV (.int .u64 ((rot ((wpre B i).getD (i - 2) 0) 61 : Nat) : Int)))), (69, pu (isV (.int .u64 ((xo (rot ((wpre B i).getD (i - 2) 0) 19) (rot ((wpre B i).getD (i - 2) 0) 61) : Nat) : Int)))), (70, pu (isV (.slice (some ⟨g, off, none⟩) i c))), (71, pu (isV (.int .i64 ((i : Nat) : Int)))), (72, pu (isV (.int .i64 ((i - 2 : Nat) : Int)))), (73, pu (isV (.pointer (some ⟨g, off + (i - 2), none⟩)))), (74, pu (isV (.int .u64 (((wpre B i).getD (i - 2) 0 : Nat) : Int)))), (75, pu (isV (.int .u64 ((((wpre B i).getD (i - 2) 0) / 64 : Nat) : Int)))), (76, pu (isV (.int .u64 ((xo (xo (rot ((wpre B i).getD (i - 2) 0) 19) (rot ((wpre B i).getD (i - 2) 0) 61)) (((wpre B i).getD (i - 2) 0) / 64) : Nat) : Int)))), (9, pu (isV (.int .u64 ((xo (xo (rot ((wpre B i).getD (i - 2) 0) 19) (rot ((wpre B i).getD (i - 2) 0) 61)) (((wpre B i).getD (i - 2) 0) / 64) : Nat) : Int))))]) [3, 7] [57, 58, 59, 60, 61, 62, 63, 64, 65, 66, 67, 68, 69, 70, 71, 72, 73, 74, 75, 76, 9] [9] (by kernel_rfl) (by kernel_rfl) (by kernel_rfl) (by kernel_rfl) ⟨rfl, rfl, trivial⟩ ?_ ?_
        · refine FStepsW.cons (FStepW.plain rfl fun a w hS hE => OpTo.move rfl ⟨dOfW.of 57 rfl (hE 3 (by kernel_rfl)), Touch.refl _ _⟩) ?_
          refine FStepsW.cons (FStepW.plain rfl fun a w hS hE => OpTo.move rfl ⟨dOfW.of 58 rfl (hE 7 (by kernel_rfl)), Touch.refl _ _⟩) ?_
          refine FStepsW.cons (FStepW.plain rfl fun a w hS hE => OpTo.subN i 2 (by omega) (by omega) rfl (hE 58 (by kernel_rfl)) rfl ⟨dOfW.of 59 rfl rfl, Touch.refl _ _⟩) ?_
          refine FStepsW.cons (FStepW.plain rfl fun a w hS hE => OpTo.ixL g off i c (i - 2) rfl (hE 57 (by kernel_rfl)) (hE 59 (by kernel_rfl)) (by omega) ⟨dOfW.of 60 rfl rfl, Touch.refl _ _⟩) ?_
          refine FStepsW.cons (FStepW.plain rfl fun a w hS hE => OpTo.ldU g (off + (i - 2)) _ rfl (hE 60 (by kernel_rfl)) (HC.out w hS (i - 2) (by omega)) ⟨dOfW.of 61 rfl rfl, Touch.refl _ _⟩) ?_
          refine FStepsW.cons (FStepW.plain rfl fun a w hS hE => OpTo.call #[.int .u64 (((wpre B i).getD (i - 2) 0 : Nat) : Int), .int .i64 ((19 : Nat) : Int)] rfl Tryd.func29 (by kernel_rfl) (by kernel_rfl) (argsW2 (hE 61 (by kernel_rfl)) rfl) ((HRi.out ((wpre B i).getD (i - 2) 0) 19 (by decide) (by decide) w).mono fun _ _ h => callsW 62 rfl (fun _ _ h => h) h)) ?_
          refine FStepsW.cons (FStepW.plain rfl fun a w hS hE => OpTo.move rfl ⟨dOfW.of 63 rfl (hE 3 (by kernel_rfl)), Touch.refl _ _⟩) ?_
          refine FStepsW.cons (FStepW.plain rfl fun a w hS hE => OpTo.move rfl ⟨dOfW.of 64 rfl (hE 7 (by kernel_rfl)), Touch.refl _ _⟩) ?_
          refine FStepsW.cons (FStepW.plain rfl fun a w hS hE => OpTo.subN i 2 (by omega) (by omega) rfl (hE 64 (by kernel_rfl)) rfl ⟨dOfW.of 65 rfl rfl, Touch.refl _ _⟩) ?_
          refine FStepsW.cons (FStepW.plain rfl fun a w hS hE => OpTo.ixL g off i c (i - 2) rfl (hE 63 (by kernel_rfl)) (hE 65 (by kernel_rfl)) (by omega) ⟨dOfW.of 66 rfl rfl, Touch.refl _ _⟩) ?_
          refine FStepsW.cons (FStepW.plain rfl fun a w hS hE => OpTo.ldU g (off + (i - 2)) _ rfl (hE 66 (by kernel_rfl)) (HC.out w hS (i - 2) (by omega)) ⟨dOfW.of 67 rfl rfl, Touch.refl _ _⟩) ?_
          refine FStepsW.cons (FStepW.plain rfl fun a w hS hE => OpTo.call #[.int .u64 (((wpre B i).getD (i - 2) 0 : Nat) : Int), .int .i64 ((61 : Nat) : Int)] rfl Tryd.func29 (by kernel_rfl) (by kernel_rfl) (argsW2 (hE 67 (by kernel_rfl)) rfl) ((HRi.out ((wpre B i).getD (i - 2) 0) 61 (by decide) (by decide) w).mono fun _ _ h => callsW 68 rfl (fun _ _ h => h) h)) ?_
          refine FStepsW.cons (FStepW.plain rfl fun a w hS hE => OpTo.xorN (rot ((wpre B i).getD (i - 2) 0) 19) (rot ((wpre B i).getD (i - 2) 0) 61) rfl (hE 62 (by kernel_rfl)) (hE 68 (by kernel_rfl)) ⟨dOfW.of 69 rfl rfl, Touch.refl _ _⟩) ?_
          refine FStepsW.cons (FStepW.plain rfl fun a w hS hE => OpTo.move rfl ⟨dOfW.of 70 rfl (hE 3 (by kernel_rfl)), Touch.refl _ _⟩) ?_
          refine FStepsW.cons (FStepW.plain rfl fun a w hS hE => OpTo.move rfl ⟨dOfW.of 71 rfl (hE 7 (by kernel_rfl)), Touch.refl _ _⟩) ?_
          refine FStepsW.cons (FStepW.plain rfl fun a w hS hE => OpTo.subN i 2 (by omega) (by omega) rfl (hE 71 (by kernel_rfl)) rfl ⟨dOfW.of 72 rfl rfl, Touch.refl _ _⟩) ?_
          refine FStepsW.cons (FStepW.plain rfl fun a w hS hE => OpTo.ixL g off i c (i - 2) rfl (hE 70 (by kernel_rfl)) (hE 72 (by kernel_rfl)) (by omega) ⟨dOfW.of 73 rfl rfl, Touch.refl _ _⟩) ?_
          refine FStepsW.cons (FStepW.plain rfl fun a w hS hE => OpTo.ldU g (off + (i - 2)) _ rfl (hE 73 (by kernel_rfl)) (HC.out w hS (i - 2) (by omega)) ⟨dOfW.of 74 rfl rfl, Touch.refl _ _⟩) ?_
          refine FStepsW.cons (FStepW.plain rfl fun a w hS hE => OpTo.quoN ((wpre B i).getD (i - 2) 0) 64 (by decide) rfl (hE 74 (by kernel_rfl)) rfl (HWd.out.at_ _) ⟨dOfW.of 75 rfl rfl, Touch.refl _ _⟩) ?_
          refine FStepsW.cons (FStepW.plain rfl fun a w hS hE => OpTo.xorN (xo (rot ((wpre B i).getD (i - 2) 0) 19) (rot ((wpre B i).getD (i - 2) 0) 61)) (((wpre B i).getD (i - 2) 0) / 64) rfl (hE 69 (by kernel_rfl)) (hE 75 (by kernel_rfl)) ⟨dOfW.of 76 rfl rfl, Touch.refl _ _⟩) ?_
          refine FStepsW.cons (FStepW.plain rfl fun a w hS hE => OpTo.assign rfl ⟨dOfW.of 9 rfl (hE 76 (by kernel_rfl)), Touch.refl _ _⟩) ?_
          exact FStepsW.nil
        intro f wx hS hF
        obtain ⟨h9, -⟩ := hF
        replace h9 : f 9 = .int .u64 ((xo (xo (rot ((wpre B i).getD (i - 2) 0) 19) (rot ((wpre B i).getD (i - 2) 0) 61)) (((wpre B i).getD (i - 2) 0) / 64) : Nat) : Int) := h9
        simp only [setAll, List.setIfInBounds_toArray, List.set_cons_zero, List.set_cons_succ, h9]
        show wpList _ _ _ [] _ _
        -- END
        obtain ⟨s1, hs1⟩ : ∃ s1, s1 = xo (xo (rot ((wpre B i).getD (i - 2) 0) 19) (rot ((wpre B i).getD (i - 2) 0) 61)) (((wpre B i).getD (i - 2) 0) / 64) := ⟨_, rfl⟩
        rw [← hs1] at Hnx ⊢
        have Hs3 := Lib.hid (Hs2.out.touch hS)
        have HC2 := HC
        clear HC
        have HC : Hid (∀ W, Touch [] wx W → ∀ j, j < i → W.cell? ⟨g, off + j, none⟩ = some (.int .u64 (((wpre B i).getD j 0 : Nat) : Int))) := Lib.hid (fun W h => HC2.out W (hS.trans h))
        clear hs1 h9 hS Hs2 HC2
        go_wp2_with fail
        go_upto_region 16 with fail
        -- WFLOW wr16
        refine wp_region_flowT (by kernel_rfl) 17 (lookW [(3, pu (isV (.slice (some ⟨g, off, none⟩) i c))), (7, pu (isV (.int .i64 ((i : Nat) : Int)))), (8, pu (isV (.int .u64 ((s0 : Nat) : Int)))), (9, pu (isV (.int .u64 ((s1 : Nat) : Int)))), (77, pu (isV (.slice (some ⟨g, off, none⟩) i c))), (78, pu (isV (.slice (some ⟨g, off, none⟩) i c))), (79, pu (isV (.int .i64 ((i : Nat) : Int)))), (80, pu (isV (.int .i64 ((i - 16 : Nat) : Int)))), (81, pu (isV (.pointer (some ⟨g, off + (i - 16), none⟩)))), (82, pu (isV (.int .u64 (((wpre B i).getD (i - 16) 0 : Nat) : Int)))), (83, pu (isV (.int .u64 ((s0 : Nat) : Int)))), (84, pu (isV (.int .u64 ((ad ((wpre B i).getD (i - 16) 0) (s0) : Nat) : Int)))), (85, pu (isV (.slice (some ⟨g, off, none⟩) i c))), (86, pu (isV (.int .i64 ((i : Nat) : Int)))), (87, pu (isV (.int .i64 ((i - 7 : Nat) : Int)))), (88, pu (isV (.pointer (some ⟨g, off + (i - 7), none⟩)))), (89, pu (isV (.int .u64 (((wpre B i).getD (i - 7) 0 : Nat) : Int)))), (90, pu (isV (.int .u64 ((ad (ad ((wpre B i).getD (i - 16) 0) (s0)) ((wpre B i).getD (i - 7) 0) : Nat) : Int)))), (91, pu (isV (.int .u64 ((s1 : Nat) : Int)))), (92, pu (isV (.int .u64 ((ad (ad (ad ((wpre B i).getD (i - 16) 0) (s0)) ((wpre B i).getD (i - 7) 0)) (s1) : Nat) : Int)))), (93, slU (ad (ad (ad ((wpre B i).getD (i - 16) 0) (s0)) ((wpre B i).getD (i - 7) 0)) (s1)))]) [3, 7, 8, 9] [77, 78, 79, 80, 81, 82, 83, 84, 85, 86, 87, 88, 89, 90, 91, 92, 93] [77, 93] (by kernel_rfl) (by kernel_rfl) (by kernel_rfl) (by kernel_rfl) ⟨rfl, rfl, rfl, rfl, trivial⟩ ?_ ?_
        · refine FStepsW.cons (FStepW.plain rfl fun a w hS hE => OpTo.move rfl ⟨dOfW.of 77 rfl (hE 3 (by kernel_rfl)), Touch.refl _ _⟩) ?_
          refine FStepsW.cons (FStepW.plain rfl fun a w hS hE => OpTo.move rfl ⟨dOfW.of 78 rfl (hE 3 (by kernel_rfl)), Touch.refl _ _⟩) ?_
          refine FStepsW.cons (FStepW.plain rfl fun a w hS hE => OpTo.move rfl ⟨dOfW.of 79 rfl (hE 7 (by kernel_rfl)), Touch.refl _ _⟩) ?_
          refine FStepsW.cons (FStepW.plain rfl fun a w hS hE => OpTo.subN i 16 (by omega) (by omega) rfl (hE 79 (by kernel_rfl)) rfl ⟨dOfW.of 80 rfl rfl, Touch.refl _ _⟩) ?_
          refine FStepsW.cons (FStepW.plain rfl fun a w hS hE => OpTo.ixL g off i c (i - 16) rfl (hE 78 (by kernel_rfl)) (hE 80 (by kernel_rfl)) (by omega) ⟨dOfW.of 81 rfl rfl, Touch.refl _ _⟩) ?_
          refine FStepsW.cons (FStepW.plain rfl fun a w hS hE => OpTo.ldU g (off + (i - 16)) _ rfl (hE 81 (by kernel_rfl)) (HC.out w hS (i - 16) (by omega)) ⟨dOfW.of 82 rfl rfl, Touch.refl _ _⟩) ?_
          refine FStepsW.cons (FStepW.plain rfl fun a w hS hE => OpTo.move rfl ⟨dOfW.of 83 rfl (hE 8 (by kernel_rfl)), Touch.refl _ _⟩) ?_
          refine FStepsW.cons (FStepW.plain rfl fun a w hS hE => OpTo.addN ((wpre B i).getD (i - 16) 0) (s0) rfl (hE 82 (by kernel_rfl)) (hE 83 (by kernel_rfl)) ⟨dOfW.of 84 rfl rfl, Touch.refl _ _⟩) ?_
          refine FStepsW.cons (FStepW.plain rfl fun a w hS hE => OpTo.move rfl ⟨dOfW.of 85 rfl (hE 3 (by kernel_rfl)), Touch.refl _ _⟩) ?_
          refine FStepsW.cons (FStepW.plain rfl fun a w hS hE => OpTo.move rfl ⟨dOfW.of 86 rfl (hE 7 (by kernel_rfl)), Touch.refl _ _⟩) ?_
          refine FStepsW.cons (FStepW.plain rfl fun a w hS hE => OpTo.subN i 7 (by omega) (by omega) rfl (hE 86 (by kernel_rfl)) rfl ⟨dOfW.of 87 rfl rfl, Touch.refl _ _⟩) ?_
          refine FStepsW.cons (FStepW.plain rfl fun a w hS hE => OpTo.ixL g off i c (i - 7) rfl (hE 85 (by kernel_rfl)) (hE 87 (by kernel_rfl)) (by omega) ⟨dOfW.of 88 rfl rfl, Touch.refl _ _⟩) ?_
          refine FStepsW.cons (FStepW.plain rfl fun a w hS hE => OpTo.ldU g (off + (i - 7)) _ rfl (hE 88 (by kernel_rfl)) (HC.out w hS (i - 7) (by omega)) ⟨dOfW.of 89 rfl rfl, Touch.refl _ _⟩) ?_
          refine FStepsW.cons (FStepW.plain rfl fun a w hS hE => OpTo.addN (ad ((wpre B i).getD (i - 16) 0) (s0)) ((wpre B i).getD (i - 7) 0) rfl (hE 84 (by kernel_rfl)) (hE 89 (by kernel_rfl)) ⟨dOfW.of 90 rfl rfl, Touch.refl _ _⟩) ?_
          refine FStepsW.cons (FStepW.plain rfl fun a w hS hE => OpTo.move rfl ⟨dOfW.of 91 rfl (hE 9 (by kernel_rfl)), Touch.refl _ _⟩) ?_
          refine FStepsW.cons (FStepW.plain rfl fun a w hS hE => OpTo.addN (ad (ad ((wpre B i).getD (i - 16) 0) (s0)) ((wpre B i).getD (i - 7) 0)) (s1) rfl (hE 90 (by kernel_rfl)) (hE 91 (by kernel_rfl)) ⟨dOfW.of 92 rfl rfl, Touch.refl _ _⟩) ?_
          refine FStepsW.cons (FStepW.plain rfl fun a w hS hE => OpTo.bldU (ad (ad (ad ((wpre B i).getD (i - 16) 0) (s0)) ((wpre B i).getD (i - 7) 0)) (s1)) rfl (hE 92 (by kernel_rfl)) (fun v w' h => dOfW.of 93 rfl h)) ?_
          exact FStepsW.nil
        intro f wx hS hF
        obtain ⟨h77, h93, -⟩ := hF
        replace h77 : f 77 = .slice (some ⟨g, off, none⟩) i c := h77
        obtain ⟨g93, h93, hb93⟩ : ∃ g', f 93 = .slice (some ⟨g', 0, none⟩) 1 1 ∧ Blk wx g' 36 #[.int .u64 ((ad (ad (ad ((wpre B i).getD (i - 16) 0) (s0)) ((wpre B i).getD (i - 7) 0)) (s1) : Nat) : Int)] := h93
        simp only [setAll, List.setIfInBounds_toArray, List.set_cons_zero, List.set_cons_succ, h77, h93]
        show wpList _ _ _ [_, _] _ _
        -- END
        obtain ⟨X, hX⟩ : ∃ X, X = ad (ad (ad ((wpre B i).getD (i - 16) 0) s0) ((wpre B i).getD (i - 7) 0)) s1 := ⟨_, rfl⟩
        rw [← hX] at Hnx hb93
        have HSrc : Hid (Src Tryd.prog 1 39 (.slice (some ⟨g93, 0, none⟩) 1 1) 1 [.int .u64 (X : Int)] wx) := Lib.hid (Src.ofSlice _ Tryd.underlying39 ⟨g93, 0, none⟩ 1 1 [.int .u64 (X : Int)] rfl (fun j u hj => by
          match j, hj with
          | 0, hj => simp at hj; subst hj; exact hb93.cell 0) (fun u hu => by simp at hu; subst hu; rfl))
        have Hs4 := Lib.hid (Hs3.out.touch hS)
        clear hX h77 h93 hb93 hS Hs3 HC HWd
        go_wp2_with (at_builtin; refine wpList_append_sep _ rfl (.tmp 77) (.tmp 93) 39 39 rfl 36 i0 _ 1 8 Tryd.underlying39 hi0 hz0 hz1 hz2 rfl Hs4.out 0 (.slice (some ⟨g, off, none⟩) i c) i (cellsN (wpre B i)) rfl rfl _ 1 [.int .u64 (X : Int)] rfl HSrc.out (by unfold maxLen; omega) (by omega) ?_)
        intro A2 c2 w3 hs3
        have hs5 : Sep w w.heap.size w3 [slRes 36 1 (.slice A2 (i + 1) c2) (i + 1) (cellsN (wpre B (i + 1)))] := by
          rw [Hnx.out, cellsN_snoc]
          exact hs3
        have Hs5 := Lib.hid hs5
        clear hs3 hs5 Hs4
        go_wp2_with fail
        go_roundw
        case rel => exact ⟨i + 1, A2, c2, by omega, by omega, by go_num, rfl, Hs5.out⟩
        case measure => simp [intOf]; omega
      · obtain rfl : i = 80 := by omega
        go_wp2_with fail
        go_ret
        exact ⟨_, rfl, Hrd.out, Touch.of_below Hs.out.below⟩
end Go.Proofs.YtflpjnillfgghaaDoor
