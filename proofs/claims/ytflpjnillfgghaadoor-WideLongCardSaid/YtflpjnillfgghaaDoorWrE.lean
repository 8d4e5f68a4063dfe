/- The document's sum. -/
import Derived.Test.YtflpjnillfgghaaDoorWrD
namespace Go.Proofs.YtflpjnillfgghaaDoor
open Go Go.RowKit
theorem ad_comm (a b : Nat) : ad a b = ad b a := by unfold ad; rw [Nat.add_comm]
theorem padS_128 (m : List Nat) : (padS m).length % 128 = 0 := by
  unfold padS fillS
  simp only [List.length_append, List.length_replicate, smS_len, List.length_singleton]
  split <;> simp <;> omega
theorem rnd_words {s : List Nat} (hs : Words s) (k x : Nat) : Words (rnd s k x) := by
  intro y hy
  have h := fun i => hs.at_ i
  unfold rnd at hy
  simp only [List.mem_cons, List.not_mem_nil, or_false] at hy
  rcases hy with rfl | rfl | rfl | rfl | rfl | rfl | rfl | rfl <;> first | exact ad_lt _ _ | exact h _
theorem rnds_words {s : List Nat} (hs : Words s) (W : List Nat) (i : Nat) : Words (rnds s W i) := by
  induction i with
  | zero => exact hs
  | succ i ih => exact rnd_words ih _ _
theorem zip_words (l m : List Nat) : Words (List.zipWith ad l m) := by
  intro y hy
  obtain ⟨i, hi, rfl⟩ := List.getElem_of_mem hy
  rw [List.getElem_zipWith]
  exact ad_lt _ _
theorem blkS_words (P : List Nat) (i : Nat) : Words (blkS P i) := by
  cases i with
  | zero => intro x hx; have : ∀ x ∈ begS, x < 18446744073709551616 := by decide
            exact this x hx
  | succ i => exact zip_words _ _
theorem eat_ref (st b : List Nat) : eatS st b = List.zipWith ad st (rnds st (wpre b 80) 80) := by
  unfold eatS
  rw [List.zipWith_comm]
  congr 1
  funext a b
  exact ad_comm _ _
theorem keys_x (w : World) : Calls Tryd.prog 15 #[] w fun e w' => ∃ gk, e = .returned (.slice (some ⟨gk, 0, none⟩) 80 80) ∧ Blk w' gk 36 (cellsN keyS).toArray ∧ w.heap.size ≤ gk ∧ Touch [] w w' :=
  (keys_any w).mono fun _ _ ⟨h1, h2⟩ => ⟨w.heap.size, h1, by rw [h2]; exact Blk.new w _ _, Nat.le_refl _, by rw [h2]; exact (Touch.refl [] w).alloc _⟩
theorem Own.blkRd {w : World} {v : Value} {l : List Nat} {row : Option Nat} (h : Own w 36 1 v (0 + l.length) ([] ++ cellsN l) row) (h0 : 0 < l.length) : Rd w v l := by
  rw [Nat.zero_add, List.nil_append] at h
  exact h.rd h0
theorem rnds_zero (s W : List Nat) : rnds s W 0 = s := rfl
theorem rnds_succ (s W : List Nat) (i : Nat) : rnds s W (i + 1) = rnd (rnds s W i) (keyS.getD i 0) (W.getD i 0) := rfl
set_option maxRecDepth 100000 in
set_option maxHeartbeats 8000000 in
theorem refSum_any (m : ByteArray) (hm : m.size ≤ 100000) (w : World) :
    Calls Tryd.prog 9 #[.string m] w fun e w' => e = .returned (.string (stB (sumS (bl m)))) ∧ Touch [] w w' := by
  obtain ⟨i0, hi0, hz0, hz1, hz2⟩ := info_partsW infoU
  have HPd := Lib.hid (fun W : World => padded_any m hm W)
  have HBy := Lib.hid (fun (n : Nat) (h : n < 18446744073709551616) (W : World) => bytes_any n h W)
  have HRo := Lib.hid (fun (v : Value) (s : List Nat) (hs : s.length = 8) (hw : Words s) (k x : Nat) (W : World) (h : Rd W v s) => round_any v s hs hw k x W h)
  have HWo := Lib.hid (fun (b : ByteArray) (h : b.size = 128) (W : World) => words_any b h W)
  go_enter Tryd.func9, Tryd.ntmps9
  go_wp2_with fail
  refine (keys_x _).mono ?_
  rintro e w1 ⟨gk, rfl, hK, hk, ht⟩
  have hH : Blk w1 w.heap.size 36 (cellsN begS).toArray := Blk.touch (S := []) (Blk.new w 36 (cellsN begS).toArray) ht (by simp)
  have hT : Touch [] w w1 := ((Touch.refl [] w).alloc (.cells (cellsN begS).toArray 36)).trans ht
  have hne : w.heap.size < gk := Nat.lt_of_lt_of_le (Blk.new w 36 (cellsN begS).toArray).lt hk
  obtain ⟨gh, hgh⟩ : ∃ gh, gh = w.heap.size := ⟨_, rfl⟩
  have Hgw := Lib.hid (show w.heap.size ≤ gh by omega)
  rw [← hgh] at hH hne ⊢
  have Hgn := Lib.hid (show gk ≠ gh by omega)
  have HH0 := Lib.hid hH
  have HK0 := Lib.hid hK
  have HT0 := Lib.hid hT
  clear hH hK hT hne hgh hk ht
  go_wp2_with fail
  refine (HPd.out _).mono ?_
  rintro e w2 ⟨t, rfl, hbt, ht⟩
  have HH := Lib.hid (HH0.out.touch ht (by simp))
  have HK := Lib.hid (HK0.out.touch ht (by simp))
  have HT := Lib.hid (HT0.out.trans ht)
  clear ht HH0 HK0 HT0 HPd
  obtain ⟨P, hP⟩ : ∃ P, P = padS (bl m) := ⟨_, rfl⟩
  have hts : t.size % 128 = 0 := by rw [← bl_len, hbt]; exact padS_128 _
  have hts2 : t.size ≤ 100300 := by
    have := padS_len (bl m)
    rw [← hbt, bl_len, bl_len] at this
    omega
  have HP := Lib.hid hP
  rw [← hP] at hbt
  have Hbt := Lib.hid hbt
  have HPl := Lib.hid (show P.length = t.size by rw [← hbt, bl_len])
  clear hP hbt
  go_upto_region 2 with fail
  go_wp2_with fail
  go_loopw [6] (fun vi wr => ∃ i : Nat, 128 * i ≤ t.size ∧ vi = .int .i64 ((128 * i : Nat) : Int) ∧ Blk wr gh 36 (cellsN (blkS P i)).toArray ∧ Blk wr gk 36 (cellsN keyS).toArray ∧ Touch [] w wr) (fun vi _ => t.size - (intOf vi).toNat)
  case atStart => exact ⟨0, by omega, rfl, HH.out, HK.out, HT.out⟩
  case round =>
    obtain ⟨i, hi, rfl, hH, hK, hT⟩ := hrel
    clear HH HK HT
    have HH := Lib.hid hH
    have HK := Lib.hid hK
    have HT := Lib.hid hT
    clear hH hK hT
    obtain ⟨hl, hhl⟩ : ∃ hl, hl = blkS P i := ⟨_, rfl⟩
    have HL8 := Lib.hid (show hl.length = 8 by rw [hhl]; exact blkS_len P i)
    have HLw := Lib.hid (show Words hl by rw [hhl]; exact blkS_words P i)
    by_cases hlt : 128 * i < t.size
    · obtain ⟨a, ha⟩ : ∃ a, a = 128 * i := ⟨_, rfl⟩
      have Ha := Lib.hid ha
      have ha2 : a + 128 ≤ t.size := by omega
      have hesz : (t.extract a (a + 128)).size = 128 := by simp; omega
      have Hnx : Hid (blkS P (i + 1) = eatS hl (bl (t.extract a (a + 128)))) := Lib.hid (by
        rw [bl_extract2, Hbt.out, show a + 128 - a = 128 by omega, hhl, ha]
        rfl)
      rw [← hhl] at HH
      rw [← ha] at hlt ⊢
      clear hhl ha hi
      have q1 : decide ((a : Int) < (t.size : Int)) = true := decide_eq_true (by omega)
      have m1 : IntKind.i64.wrap ((a : Int) + 128) = (a : Int) + 128 := IntWalk.i64_in _ (by omega)
      have hsl := fun W : World => run_slice_string (P := Tryd.prog) (w := W) 9 t .i64 .i64 (a : Int) ((a : Int) + 128) Tryd.underlying9 (by omega) (by omega) (by omega)
      rw [show (a : Int).toNat = a by omega, show ((a : Int) + 128).toNat = a + 128 by omega] at hsl
      obtain ⟨b, hb⟩ : ∃ b, b = t.extract a (a + 128) := ⟨_, rfl⟩
      rw [← hb] at hesz Hnx hsl
      have HW1 := Lib.hid (fun W => HWo.out b hesz W)
      clear hb
      go_wp2_with fail
      refine (HW1.out _).mono ?_
      rintro e w3 ⟨vW, rfl, hRW, ht⟩
      have HH1 := Lib.hid (HH.out.touch ht (by simp))
      have HK1 := Lib.hid (HK.out.touch ht (by simp))
      have HT1 := Lib.hid (HT.out.trans ht)
      have HRW := Lib.hid hRW
      clear ht hRW HH HK HT HW1
      have HSrc : Hid (Src Tryd.prog 1 39 (.slice (some ⟨gh, 0, none⟩) 8 8) 8 (cellsN hl) (w3.alloc (.cells #[] 36))) := Lib.hid (Src.ofSlice _ Tryd.underlying39 ⟨gh, 0, none⟩ 8 8 (cellsN hl) (by simp [cellsN, HL8.out]) (fun j u hj => by rw [show (({ block := gh, off := 0 } : Addr).add j) = ⟨gh, j, none⟩ by unfold Addr.add; split <;> simp_all, (HH1.out.alloc _).cell, List.getElem?_toArray]; exact hj) (cellsN_oneL hl))
      go_wp2_with (at_builtin; refine wpList_append_Own _ rfl (.tmp 29) (.tmp 30) 39 39 rfl 36 i0 _ 1 8 Tryd.underlying39 hi0 hz0 hz1 hz2 rfl _ 0 [] none rfl (Own.nil _ _ _ _) _ 8 (cellsN hl) rfl HSrc.out (by unfold maxLen; omega) (by omega) ?_)
      intro v8 w4 row8 hO ht4 _
      have hR8 : Rd w4 v8 hl := Own.blkRd (by rw [HL8.out]; exact hO) (by rw [HL8.out]; omega)
      have ht5 : Touch [] w3 w4 := ((Touch.refl [] w3).alloc (.cells #[] 36)).trans ht4
      have HH2 := Lib.hid (HH1.out.touch ht5 (by simp))
      have HK2 := Lib.hid (HK1.out.touch ht5 (by simp))
      have HT2 := Lib.hid (HT1.out.trans ht5)
      have HR8 := Lib.hid hR8
      have HRW2 := Lib.hid (HRW.out.touch ht5)
      have HW80w := Lib.hid (wpre_words (bl b) 80)
      have HW80l := Lib.hid (wpre_len (bl b) 80)
      have Heat := Lib.hid (eat_ref hl (bl b))
      obtain ⟨W80, hW80⟩ : ∃ W80, W80 = wpre (bl b) 80 := ⟨_, rfl⟩
      rw [← hW80] at HRW2 HW80w HW80l Heat
      obtain ⟨gw, ow, cw, rfl, hcw, hgw, hcells⟩ := HRW2.out
      rw [HW80l.out] at hcells hcw ⊢
      have HWc0 : Hid (∀ W, Touch [] w4 W → ∀ j, j < 80 → W.cell? ⟨gw, ow + j, none⟩ = some (.int .u64 ((W80.getD j 0 : Nat) : Int))) := Lib.hid (fun W h j hj => (h.cell (p := ⟨gw, ow + j, none⟩) hgw (by simp)).trans (hcells j hj))
      have HKc0 : Hid (∀ W, Touch [] w4 W → ∀ j, j < 80 → W.cell? ⟨gk, 0 + j, none⟩ = some (.int .u64 ((keyS.getD j 0 : Nat) : Int))) := Lib.hid (fun W h j hj => ((HK2.out.touch h (by simp)).cell _).trans (by rw [Nat.zero_add, List.getElem?_toArray]; exact cellsN_at hj))
      clear hW80 hcells hcw hgw hO ht4 ht5 hR8 HH1 HK1 HT1 HSrc HRW HRW2 hsl q1 m1
      go_wp2_with fail
      go_loopw [8, 9] (fun v vj wq => ∃ j : Nat, j ≤ 80 ∧ vj = .int .i64 j ∧ Rd wq v (rnds hl W80 j) ∧ (0 < j → ∃ g', v = .slice (some ⟨g', 0, none⟩) 8 8 ∧ gh < g') ∧ Touch [] w4 wq) (fun _ vj _ => 80 - (intOf vj).toNat)
      case atStart => exact ⟨0, by omega, rfl, HR8.out, fun h => by omega, Touch.refl _ _⟩
      case round =>
        obtain ⟨j, hj, rfl, hR, hg', hT⟩ := hrel
        clear HR8
        have HT5 := Lib.hid hT
        have HR := Lib.hid hR
        have Hg' := Lib.hid hg'
        clear hT hR hg'
        have Hl := Lib.hid (rnds_len HL8.out W80 j)
        have Hwd := Lib.hid (rnds_words HLw.out W80 j)
        by_cases hj80 : j < 80
        · have HKc : Hid (∀ W, Touch [] wr W → ∀ j, j < 80 → W.cell? ⟨gk, 0 + j, none⟩ = some (.int .u64 ((keyS.getD j 0 : Nat) : Int))) := Lib.hid (fun W h => HKc0.out W (HT5.out.trans h))
          have HWc : Hid (∀ W, Touch [] wr W → ∀ j, j < 80 → W.cell? ⟨gw, ow + j, none⟩ = some (.int .u64 ((W80.getD j 0 : Nat) : Int))) := Lib.hid (fun W h => HWc0.out W (HT5.out.trans h))
          have HRn := Lib.hid (fun (W : World) (h : Rd W u8 (rnds hl W80 j)) => HRo.out u8 (rnds hl W80 j) Hl.out Hwd.out (keyS.getD j 0) (W80.getD j 0) W h)
          have Hnj := Lib.hid (rnds_succ hl W80 j)
          go_wp2_with fail
          go_upto_region 9 with fail
          -- WFLOW rs9
          refine wp_region_flowT (by kernel_rfl) 9 (lookW [(8, pu (isV (u8))), (4, pu (isV (.slice (some ⟨gk, 0, none⟩) 80 80))), (9, pu (isV (.int .i64 ((j : Nat) : Int)))), (7, pu (isV (.slice (some ⟨gw, ow, none⟩) 80 cw))), (36, pu (isV (u8))), (37, pu (isV (.slice (some ⟨gk, 0, none⟩) 80 80))), (38, pu (isV (.int .i64 ((j : Nat) : Int)))), (39, pu (isV (.pointer (some ⟨gk, 0 + j, none⟩)))), (40, pu (isV (.int .u64 ((keyS.getD j 0 : Nat) : Int)))), (41, pu (isV (.slice (some ⟨gw, ow, none⟩) 80 cw))), (42, pu (isV (.int .i64 ((j : Nat) : Int)))), (43, pu (isV (.pointer (some ⟨gw, ow + j, none⟩)))), (44, pu (isV (.int .u64 ((W80.getD j 0 : Nat) : Int))))]) [8, 4, 9, 7] [36, 37, 38, 39, 40, 41, 42, 43, 44] [36, 40, 44] (by kernel_rfl) (by kernel_rfl) (by kernel_rfl) (by kernel_rfl) ⟨rfl, rfl, rfl, rfl, trivial⟩ ?_ ?_
          · refine FStepsW.cons (FStepW.plain rfl fun a w hS hE => OpTo.move rfl ⟨dOfW.of 36 rfl (hE 8 (by kernel_rfl)), Touch.refl _ _⟩) ?_
            refine FStepsW.cons (FStepW.plain rfl fun a w hS hE => OpTo.move rfl ⟨dOfW.of 37 rfl (hE 4 (by kernel_rfl)), Touch.refl _ _⟩) ?_
            refine FStepsW.cons (FStepW.plain rfl fun a w hS hE => OpTo.move rfl ⟨dOfW.of 38 rfl (hE 9 (by kernel_rfl)), Touch.refl _ _⟩) ?_
            refine FStepsW.cons (FStepW.plain rfl fun a w hS hE => OpTo.ixL gk 0 80 80 j rfl (hE 37 (by kernel_rfl)) (hE 38 (by kernel_rfl)) (by omega) ⟨dOfW.of 39 rfl rfl, Touch.refl _ _⟩) ?_
            refine FStepsW.cons (FStepW.plain rfl fun a w hS hE => OpTo.ldU gk (0 + j) _ rfl (hE 39 (by kernel_rfl)) (HKc.out w hS j (by omega)) ⟨dOfW.of 40 rfl rfl, Touch.refl _ _⟩) ?_
            refine FStepsW.cons (FStepW.plain rfl fun a w hS hE => OpTo.move rfl ⟨dOfW.of 41 rfl (hE 7 (by kernel_rfl)), Touch.refl _ _⟩) ?_
            refine FStepsW.cons (FStepW.plain rfl fun a w hS hE => OpTo.move rfl ⟨dOfW.of 42 rfl (hE 9 (by kernel_rfl)), Touch.refl _ _⟩) ?_
            refine FStepsW.cons (FStepW.plain rfl fun a w hS hE => OpTo.ixL gw ow 80 cw j rfl (hE 41 (by kernel_rfl)) (hE 42 (by kernel_rfl)) (by omega) ⟨dOfW.of 43 rfl rfl, Touch.refl _ _⟩) ?_
            refine FStepsW.cons (FStepW.plain rfl fun a w hS hE => OpTo.ldU gw (ow + j) _ rfl (hE 43 (by kernel_rfl)) (HWc.out w hS j (by omega)) ⟨dOfW.of 44 rfl rfl, Touch.refl _ _⟩) ?_
            exact FStepsW.nil
          intro f wx hS hF
          obtain ⟨h36, h40, h44, -⟩ := hF
          replace h36 : f 36 = u8 := h36
          replace h40 : f 40 = .int .u64 ((keyS.getD j 0 : Nat) : Int) := h40
          replace h44 : f 44 = .int .u64 ((W80.getD j 0 : Nat) : Int) := h44
          simp only [setAll, List.setIfInBounds_toArray, List.set_cons_zero, List.set_cons_succ, h36, h40, h44]
          show wpList _ _ _ [_, _] _ _
          -- END
          have HR2 := Lib.hid (HR.out.touch hS)
          have HT6 := Lib.hid (HT5.out.trans hS)
          clear hS HKc HWc HR HT5
          go_wp2_with fail
          refine (HRn.out _ HR2.out).mono ?_
          rintro e w6 ⟨g6, rfl, hb6, hg6, ht6⟩
          have HT7 := Lib.hid (HT6.out.trans ht6)
          have hlt6 : gh < g6 := Nat.lt_of_lt_of_le HH2.out.lt (Nat.le_trans HT6.out.size hg6)
          have HR7 := Lib.hid hb6.rd
          rw [← Hnj.out, rnds_len HL8.out W80 (j + 1)] at HR7
          clear ht6 hb6 hg6 HT6 HR2 HRn Hnj
          go_wp2_with fail
          go_roundw
          case rel => exact ⟨j + 1, by omega, by go_num, HR7.out, fun _ => ⟨g6, rfl, hlt6⟩, HT7.out⟩
          case measure => simp [intOf]; omega
        · obtain rfl : j = 80 := by omega
          obtain ⟨gv, rfl, hgv⟩ := Hg'.out (by omega)
          obtain ⟨s8, hs8⟩ : ∃ s8, s8 = rnds hl W80 80 := ⟨_, rfl⟩
          rw [← hs8] at HR Hl
          have Heat2 : Hid (blkS P (i + 1) = List.zipWith ad hl s8) := Lib.hid (by rw [hs8, ← Heat.out, Hnx.out])
          obtain ⟨g1, o1, c1, hv, -, hg1, hcells⟩ := HR.out
          injection hv with hv1 e1 e2
          clear e1 e2
          injection hv1 with hv2
          injection hv2 with hv3 hv4
          subst hv3
          subst hv4
          rw [Hl.out] at hcells
          have HVc0 : Hid (∀ W, Touch [gh] wr W → ∀ j, j < 8 → W.cell? ⟨gv, 0 + j, none⟩ = some (.int .u64 ((s8.getD j 0 : Nat) : Int))) := Lib.hid (fun W h j hj => (h.cell (p := ⟨gv, 0 + j, none⟩) hg1 (by simp; omega)).trans (hcells j hj))
          have HH3 := Lib.hid (HH2.out.touch HT5.out (by simp))
          have HK3 := Lib.hid (HK2.out.touch HT5.out (by simp))
          have HT6 := Lib.hid (HT2.out.trans HT5.out)
          clear hs8 hcells hg1 HKc0 HWc0 HR Hwd HT5 HH2 HK2 HT2 Heat Hnx Hg'
          go_wp2_with fail
          have HTr := Lib.hid (Touch.refl [gh] wr)
          go_loopw [10] (fun vj wq => ∃ (j : Nat) (u : List Nat), j ≤ 8 ∧ vj = .int .i64 (j : Int) ∧ AddI hl s8 j u ∧ Blk wq gh 36 (cellsN u).toArray ∧ Blk wq gk 36 (cellsN keyS).toArray ∧ Touch [gh] wr wq ∧ Touch [] w wq) (fun vj _ => 8 - (intOf vj).toNat)
          case atStart => exact ⟨0, hl, by omega, rfl, ⟨HL8.out, fun _ h => by omega, fun _ _ _ => rfl⟩, HH3.out, HK3.out, HTr.out, HT6.out⟩
          case round =>
            obtain ⟨j, u, hj8, rfl, hI, hH, hK, hTg, hT⟩ := hrel
            clear HH3 HK3 HTr HT6
            have HI := Lib.hid hI
            have HH := Lib.hid hH
            have HK := Lib.hid hK
            have HTg := Lib.hid hTg
            have HT := Lib.hid hT
            clear hI hH hK hTg hT
            by_cases hlt8 : j < 8
            · have HHc : Hid (∀ W, Touch [] wr W → ∀ j, j < 8 → W.cell? ⟨gh, 0 + j, none⟩ = some (.int .u64 ((u.getD j 0 : Nat) : Int))) := Lib.hid (fun W h j hj => ((HH.out.touch h (by simp)).cell _).trans (by rw [Nat.zero_add, List.getElem?_toArray]; exact cellsN_at (by rw [HI.out.len]; exact hj)))
              have HVc : Hid (∀ W, Touch [] wr W → ∀ j, j < 8 → W.cell? ⟨gv, 0 + j, none⟩ = some (.int .u64 ((s8.getD j 0 : Nat) : Int))) := Lib.hid (fun W h => HVc0.out W (HTg.out.trans (h.mono (fun _ h => by cases h))))
              have HI2 := Lib.hid (HI.out.step hlt8)
              go_wp2_with fail
              go_upto_region 13 with fail
              -- WFLOW rs13
              refine wp_region_flowT (by kernel_rfl) 12 (lookW [(3, pu (isV (.slice (some ⟨gh, 0, none⟩) 8 8))), (10, pu (isV (.int .i64 ((j : Nat) : Int)))), (8, pu (isV (.slice (some ⟨gv, 0, none⟩) 8 8))), (50, pu (isV (.slice (some ⟨gh, 0, none⟩) 8 8))), (51, pu (isV (.int .i64 ((j : Nat) : Int)))), (52, pu (isV (.slice (some ⟨gh, 0, none⟩) 8 8))), (53, pu (isV (.int .i64 ((j : Nat) : Int)))), (54, pu (isV (.pointer (some ⟨gh, 0 + j, none⟩)))), (55, pu (isV (.int .u64 ((u.getD j 0 : Nat) : Int)))), (56, pu (isV (.slice (some ⟨gv, 0, none⟩) 8 8))), (57, pu (isV (.int .i64 ((j : Nat) : Int)))), (58, pu (isV (.pointer (some ⟨gv, 0 + j, none⟩)))), (59, pu (isV (.int .u64 ((s8.getD j 0 : Nat) : Int)))), (60, pu (isV (.int .u64 ((ad (u.getD j 0) (s8.getD j 0) : Nat) : Int)))), (61, pu (isV (.pointer (some ⟨gh, 0 + j, none⟩))))]) [3, 10, 8] [50, 51, 52, 53, 54, 55, 56, 57, 58, 59, 60, 61] [60, 61] (by kernel_rfl) (by kernel_rfl) (by kernel_rfl) (by kernel_rfl) ⟨rfl, rfl, rfl, trivial⟩ ?_ ?_
              · refine FStepsW.cons (FStepW.plain rfl fun a w hS hE => OpTo.move rfl ⟨dOfW.of 50 rfl (hE 3 (by kernel_rfl)), Touch.refl _ _⟩) ?_
                refine FStepsW.cons (FStepW.plain rfl fun a w hS hE => OpTo.move rfl ⟨dOfW.of 51 rfl (hE 10 (by kernel_rfl)), Touch.refl _ _⟩) ?_
                refine FStepsW.cons (FStepW.plain rfl fun a w hS hE => OpTo.move rfl ⟨dOfW.of 52 rfl (hE 3 (by kernel_rfl)), Touch.refl _ _⟩) ?_
                refine FStepsW.cons (FStepW.plain rfl fun a w hS hE => OpTo.move rfl ⟨dOfW.of 53 rfl (hE 10 (by kernel_rfl)), Touch.refl _ _⟩) ?_
                refine FStepsW.cons (FStepW.plain rfl fun a w hS hE => OpTo.ixL gh 0 8 8 j rfl (hE 52 (by kernel_rfl)) (hE 53 (by kernel_rfl)) (by omega) ⟨dOfW.of 54 rfl rfl, Touch.refl _ _⟩) ?_
                refine FStepsW.cons (FStepW.plain rfl fun a w hS hE => OpTo.ldU gh (0 + j) _ rfl (hE 54 (by kernel_rfl)) (HHc.out w hS j (by omega)) ⟨dOfW.of 55 rfl rfl, Touch.refl _ _⟩) ?_
                refine FStepsW.cons (FStepW.plain rfl fun a w hS hE => OpTo.move rfl ⟨dOfW.of 56 rfl (hE 8 (by kernel_rfl)), Touch.refl _ _⟩) ?_
                refine FStepsW.cons (FStepW.plain rfl fun a w hS hE => OpTo.move rfl ⟨dOfW.of 57 rfl (hE 10 (by kernel_rfl)), Touch.refl _ _⟩) ?_
                refine FStepsW.cons (FStepW.plain rfl fun a w hS hE => OpTo.ixL gv 0 8 8 j rfl (hE 56 (by kernel_rfl)) (hE 57 (by kernel_rfl)) (by omega) ⟨dOfW.of 58 rfl rfl, Touch.refl _ _⟩) ?_
                refine FStepsW.cons (FStepW.plain rfl fun a w hS hE => OpTo.ldU gv (0 + j) _ rfl (hE 58 (by kernel_rfl)) (HVc.out w hS j (by omega)) ⟨dOfW.of 59 rfl rfl, Touch.refl _ _⟩) ?_
                refine FStepsW.cons (FStepW.plain rfl fun a w hS hE => OpTo.addN (u.getD j 0) (s8.getD j 0) rfl (hE 55 (by kernel_rfl)) (hE 59 (by kernel_rfl)) ⟨dOfW.of 60 rfl rfl, Touch.refl _ _⟩) ?_
                refine FStepsW.cons (FStepW.plain rfl fun a w hS hE => OpTo.ixL gh 0 8 8 j rfl (hE 50 (by kernel_rfl)) (hE 51 (by kernel_rfl)) (by omega) ⟨dOfW.of 61 rfl rfl, Touch.refl _ _⟩) ?_
                exact FStepsW.nil
              intro f wx hS hF
              obtain ⟨h60, h61, -⟩ := hF
              replace h60 : f 60 = .int .u64 ((ad (u.getD j 0) (s8.getD j 0) : Nat) : Int) := h60
              replace h61 : f 61 = .pointer (some ⟨gh, 0 + j, none⟩) := h61
              simp only [setAll, List.setIfInBounds_toArray, List.set_cons_zero, List.set_cons_succ, h60, h61]
              show wpList _ _ _ [_] _ _
              -- END
              have f1 : wx.cell? ⟨gh, j, none⟩ = some (.int .u64 ((u.getD j 0 : Nat) : Int)) := ((HH.out.touch hS (by simp)).cell j).trans (by rw [List.getElem?_toArray]; exact cellsN_at (by rw [HI.out.len]; exact hlt8))
              have f2 : wx.frozen? ⟨gh, j, none⟩ = false := (HH.out.touch hS (by simp)).frozen j
              rw [Nat.zero_add]
              obtain ⟨X, hX⟩ : ∃ X, X = ad (u.getD j 0) (s8.getD j 0) := ⟨_, rfl⟩
              rw [← hX] at HI2 ⊢
              have HHf := Lib.hid ((HH.out.touch hS (by simp)).set_ j (.int .u64 (X : Int)))
              rw [cellsN_seta] at HHf
              have HKf := Lib.hid ((HK.out.touch hS (by simp)).far (p := ⟨gh, j, none⟩) Hgn.out (.int .u64 (X : Int)))
              have HTgf := Lib.hid ((HTg.out.trans (hS.mono (fun _ h => by cases h))).setCell (p := ⟨gh, j, none⟩) (.inl (by simp)) (.int .u64 (X : Int)))
              have HTf := Lib.hid ((HT.out.trans hS).setCell (p := ⟨gh, j, none⟩) (.inr Hgw.out) (.int .u64 (X : Int)))
              clear hX h60 h61 hS HH HK HTg HT HHc HVc
              go_wp2_with fail
              go_roundw
              case rel => exact ⟨j + 1, u.set j X, by omega, by go_num, HI2.out, HHf.out, HKf.out, HTgf.out, HTf.out⟩
              case measure => simp [intOf]; omega
            · obtain rfl : j = 8 := by omega
              have hE := HI.out.end_ HL8.out Hl.out
              rw [← Heat2.out] at hE
              subst hE
              have m2 : IntKind.i64.wrap ((a : Int) + 128) = ((128 * (i + 1) : Nat) : Int) := by have := Ha.out; rw [IntWalk.i64_in _ (by omega)]; omega
              go_wp2_with fail
              go_roundw
              case rel => exact ⟨i + 1, by have := Ha.out; omega, rfl, HH.out, HK.out, HT.out⟩
              case measure =>
                have := Ha.out
                simp [intOf]
                omega
    · obtain rfl : i = t.size / 128 := by omega
      have Hsum : Hid (sumS (bl m) = hl.flatMap smS) := Lib.hid (by
        unfold sumS
        rw [← HP.out, HPl.out, hhl])
      rw [← hhl] at HH
      clear hhl HK hi
      have HCh : Hid (∀ j, j < 8 → (cellsN hl).toArray[j]? = some (.int .u64 ((hl.getD j 0 : Nat) : Int))) := Lib.hid (fun k hk => by rw [List.getElem?_toArray, cellsN_at (by rw [HL8.out]; exact hk)])
      obtain ⟨a, ha⟩ : ∃ a, a = 128 * (t.size / 128) := ⟨_, rfl⟩
      have q1 : ¬ a < t.size := by omega
      rw [← ha]
      clear ha hlt hts
      go_wp2_with fail
      go_loopw [11, 12] (fun vs vi wq => ∃ j : Nat, j ≤ 8 ∧ vi = .int .i64 j ∧ vs = .string (stB ((hl.take j).flatMap smS)) ∧ Blk wq gh 36 (cellsN hl).toArray ∧ Touch [] w wq) (fun _ vi _ => 8 - (intOf vi).toNat)
      case atStart => exact ⟨0, by omega, rfl, rfl, HH.out, HT.out⟩
      case round =>
        obtain ⟨j, hj, rfl, rfl, hH, hT⟩ := hrel
        clear HH HT
        have HT := Lib.hid hT
        have HH := Lib.hid hH
        clear hT hH
        by_cases hj8 : j < 8
        · have hcw := (HH.out.cell j).trans (HCh.out j hj8)
          have Hst := Lib.hid (out_step (st := hl) (j := j) (by rw [HL8.out]; exact hj8))
          have hsz1 : (stB ((hl.take j).flatMap smS)).size ≤ 64 := by rw [← bl_len, bl_stB (flat_lt _), flat_len, List.length_take]; omega
          have hsz2 : (stB (smS (hl.getD j 0))).size = 8 := by rw [← bl_len, bl_stB (smS_lt _), smS_len]
          obtain ⟨o1, ho1⟩ : ∃ o1, o1 = stB ((hl.take j).flatMap smS) := ⟨_, rfl⟩
          rw [← ho1] at hsz1 Hst ⊢
          have HS := Lib.hid (fun W => HBy.out (hl.getD j 0) (HLw.out.at_ _) W)
          obtain ⟨x, hx⟩ : ∃ x, x = hl.getD j 0 := ⟨_, rfl⟩
          rw [← hx] at HS hsz2 Hst hcw
          obtain ⟨o2, ho2⟩ : ∃ o2, o2 = stB (smS x) := ⟨_, rfl⟩
          rw [← ho2] at HS hsz2 Hst
          clear ho1 hx ho2
          go_wp2_with fail
          refine (HS.out _).mono ?_
          rintro e w5 ⟨rfl, ht5⟩
          have HHf := Lib.hid (HH.out.touch ht5 (by simp))
          have HTf := Lib.hid (HT.out.trans ht5)
          clear ht5 HT HS HH hcw
          go_wp2_with fail
          go_roundw
          case rel => exact ⟨j + 1, by omega, by go_num, by rw [Hst.out], HHf.out, HTf.out⟩
          case measure => simp [intOf]; omega
        · obtain rfl : j = 8 := by omega
          go_wp2_with fail
          go_ret
          have he : hl.take 8 = hl := List.take_of_length_le (by rw [HL8.out]; omega)
          rw [Hsum.out, he]
          exact ⟨rfl, HT.out⟩
end Go.Proofs.YtflpjnillfgghaaDoor
