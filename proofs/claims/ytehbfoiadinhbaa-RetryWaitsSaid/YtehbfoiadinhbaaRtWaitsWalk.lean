/- RetryWaits: the walk. -/
import Derived.Test.YtehbfoiadinhbaaRtTame
namespace Go.Proofs.Ytehbfoiadinhbaa
open Go Go.RowKit
theorem dbl_mono {n : Int} (h : 0 ≤ n) (h' : n < 18446744073709551616) (j : Nat) : dbl j n ≤ dbl (j + 1) n := by
  have := (dbl_rng h h' j)
  rw [dbl_succ]
  have h2 : 0 ≤ dbl j n := by omega
  unfold addS
  split <;> omega
theorem waits_law {c : Cf} (h : TameC c) (k draw : Int) (hk : 0 ≤ k) :
    decide (waitV c k draw < c.base) = false ∧ decide (addS c.most c.span < waitV c k draw) = false ∧ decide (waitV c (k + 1) draw < waitV c k draw) = false := by
  obtain ⟨b0, b1, m0, m1, s0, s1, t0, t1, r⟩ := h
  have hm := dbl_mono (n := c.base) (by omega) (by omega) k.toNat
  have hr := dbl_rng (n := c.base) (by omega) (by omega) k.toNat
  have hk1 : (k + 1).toNat = k.toNat + 1 := by omega
  have h1 : backS c.base k c.most ≤ backS c.base (k + 1) c.most ∧ c.base ≤ backS c.base k c.most ∧ backS c.base (k + 1) c.most ≤ c.most ∧ backS c.base k c.most ≤ c.most := by
    unfold backS
    rw [hk1]
    generalize dbl k.toNat c.base = p at *
    generalize dbl (k.toNat + 1) c.base = q at *
    split <;> split <;> omega
  have h2 : 0 ≤ spreadS c.span draw ∧ spreadS c.span draw ≤ c.span := by
    unfold spreadS
    rw [if_neg (by omega)]
    have a1 := Int.emod_nonneg draw (show c.span + 1 ≠ 0 by omega)
    have a2 := Int.emod_lt_of_pos draw (show 0 < c.span + 1 by omega)
    omega
  unfold waitV
  generalize backS c.base k c.most = p at *
  generalize backS c.base (k + 1) c.most = q at *
  generalize spreadS c.span draw = s at *
  refine ⟨decide_eq_false ?_, decide_eq_false ?_, decide_eq_false ?_⟩ <;> unfold addS <;> (repeat' split) <;> omega
set_option maxRecDepth 100000 in
theorem waits_walk (c : Cf) (hc : CfT c) (k draw : Int) (hk : 0 ≤ k ∧ k ≤ 255) (hd : 0 ≤ draw ∧ draw < 18446744073709551616) (wA : World) :
    Calls Try.prog 6 #[cfV c, .int .u8 k, .int .u64 draw] wA fun e w' => e = .returned (.bool true) ∧ Touch [] wA w' := by
  have HT := Lib.hid (fun W => tame_any c hc W)
  obtain ⟨V, hV⟩ : ∃ V, V = cfV c := ⟨_, rfl⟩
  have hV2 : V = .agg #[.int .u64 c.base, .int .u64 c.most, .int .u64 c.span, .int .i64 c.tries, .int .i64 c.room] := hV
  unfold cfV
  clear hc hV hV2
  go_enter Try.func6, Try.ntmps6
  go_wp2_with fail
  refine (HT.out _).mono ?_
  rintro e w1 ⟨c', rfl, ht', ht⟩
  have hs0 := ((Sep.start wA).add (w' := wA.alloc (.cells (cfC c).toArray 24)) (r := blkRes wA.heap.size 24 (cfC c).toArray) (F := [wA.heap.size]) ⟨rfl, Blk.new _ _ _⟩ ((Touch.refl _ _).alloc _) (by simp)).touch ht
  have hb := hs0.blkAt 0 rfl
  have hs1 := hs0.setCfg 0 rfl (cfC c').toArray
  have Hb := Lib.hid hb
  have Hs1 := Lib.hid hs1
  have Ht' := Lib.hid ht'
  clear hb hs0 hs1 ht ht' HT
  unfold cfV
  obtain ⟨a0, a1, a2, a3, a4⟩ := cfg_cells Hs1.out 0 rfl
  go_wp2_with (refine wpList_store_row rfl 24 (.tmp 3) (.tmp 14) rfl wA.heap.size (cfC c').toArray rfl rfl 24 _ Hb.out rfl rfl (cfC_one c') ?_)
  clear Hb
  generalize w1.setRow wA.heap.size (cfC c').toArray = w2 at *
  refine (newR_yes Hs1.out c' Ht'.out.ok).mono ?_
  rintro e w3 ⟨pt, pm, ph, rfl, hs2⟩
  clear a0 a1 a2 a3 a4 Hs1
  have Hs2 := Lib.hid hs2
  clear hs2
  have HB := Lib.hid (Hs2.out.blkAt 3 rfl)
  have HW1 := Lib.hid (fun W => wait_any c' Ht'.out.types k draw (by omega) hd W)
  have HW2 := Lib.hid (fun W => wait_any c' Ht'.out.types (k + 1) draw (by omega) hd W)
  have Hk1 := Lib.hid (IntWalk.i64_in k (by omega))
  have Hk2 := Lib.hid (IntWalk.i64_in (k + 1) (by omega))
  go_upto_region 5 with fail
  -- TFLOW waits
  refine wp_region_flowT (by kernel_rfl) 11 (lookW [(1, pu (isV (.int .u8 (k)))), (2, pu (isV (.int .u64 (draw)))), (3, pu (isV (.pointer (some ⟨wA.heap.size, 0, none⟩)))), (26, pu (isV (cfV c'))), (27, pu (isV (.int .u8 (k)))), (28, pu (isV (.int .i64 (k)))), (29, pu (isV (.int .u64 (draw)))), (30, pu (isV (.int .u64 (waitV c' k draw)))), (31, pu (isV (cfV c'))), (32, pu (isV (.int .u8 (k)))), (33, pu (isV (.int .i64 (k)))), (34, pu (isV (.int .i64 (k + 1)))), (35, pu (isV (.int .u64 (draw)))), (36, pu (isV (.int .u64 (waitV c' (k + 1) draw))))]) [1, 2, 3] [26, 27, 28, 29, 30, 31, 32, 33, 34, 35, 36] [30, 36] (by kernel_rfl) (by kernel_rfl) (by kernel_rfl) (by kernel_rfl) ⟨rfl, rfl, rfl, trivial⟩ ?_ ?_
  · refine FStepsW.cons (FStepW.plain rfl fun a w hS hE => OpTo.ldC (wA.heap.size) c' rfl (hE 3 (by kernel_rfl)) (cfg_range (HB.out.touch hS (by simp))) ⟨dOfW.of 26 rfl rfl, Touch.refl _ _⟩) ?_
    refine FStepsW.cons (FStepW.plain rfl fun a w hS hE => OpTo.move rfl ⟨dOfW.of 27 rfl (hE 1 (by kernel_rfl)), Touch.refl _ _⟩) ?_
    refine FStepsW.cons (FStepW.plain rfl fun a w hS hE => OpTo.cvI .i64 (k) (k) rfl (by kernel_rfl) Try.underlying3 (hE 27 (by kernel_rfl)) Hk1.out ⟨dOfW.of 28 rfl rfl, Touch.refl _ _⟩) ?_
    refine FStepsW.cons (FStepW.plain rfl fun a w hS hE => OpTo.move rfl ⟨dOfW.of 29 rfl (hE 2 (by kernel_rfl)), Touch.refl _ _⟩) ?_
    refine FStepsW.cons (FStepW.plain rfl fun a w hS hE => OpTo.call #[cfV c', .int .i64 (k), .int .u64 (draw)] rfl Try.func18 (by kernel_rfl) (by kernel_rfl) (args3e (hE 26 (by kernel_rfl)) (hE 28 (by kernel_rfl)) (hE 29 (by kernel_rfl))) ((HW1.out w).mono fun _ _ h => calls_w 30 rfl (fun _ _ h => h) h)) ?_
    refine FStepsW.cons (FStepW.plain rfl fun a w hS hE => OpTo.ldC (wA.heap.size) c' rfl (hE 3 (by kernel_rfl)) (cfg_range (HB.out.touch hS (by simp))) ⟨dOfW.of 31 rfl rfl, Touch.refl _ _⟩) ?_
    refine FStepsW.cons (FStepW.plain rfl fun a w hS hE => OpTo.move rfl ⟨dOfW.of 32 rfl (hE 1 (by kernel_rfl)), Touch.refl _ _⟩) ?_
    refine FStepsW.cons (FStepW.plain rfl fun a w hS hE => OpTo.cvI .i64 (k) (k) rfl (by kernel_rfl) Try.underlying3 (hE 32 (by kernel_rfl)) Hk1.out ⟨dOfW.of 33 rfl rfl, Touch.refl _ _⟩) ?_
    refine FStepsW.cons (FStepW.plain rfl fun a w hS hE => OpTo.addI (k) (1) (k + 1) rfl (hE 33 (by kernel_rfl)) rfl Hk2.out ⟨dOfW.of 34 rfl rfl, Touch.refl _ _⟩) ?_
    refine FStepsW.cons (FStepW.plain rfl fun a w hS hE => OpTo.move rfl ⟨dOfW.of 35 rfl (hE 2 (by kernel_rfl)), Touch.refl _ _⟩) ?_
    refine FStepsW.cons (FStepW.plain rfl fun a w hS hE => OpTo.call #[cfV c', .int .i64 (k + 1), .int .u64 (draw)] rfl Try.func18 (by kernel_rfl) (by kernel_rfl) (args3e (hE 31 (by kernel_rfl)) (hE 34 (by kernel_rfl)) (hE 35 (by kernel_rfl))) ((HW2.out w).mono fun _ _ h => calls_w 36 rfl (fun _ _ h => h) h)) ?_
    exact FStepsW.nil
  intro f wx hS hF
  obtain ⟨h30, h36, -⟩ := hF
  replace h30 : f 30 = .int .u64 (waitV c' k draw) := h30
  replace h36 : f 36 = .int .u64 (waitV c' (k + 1) draw) := h36
  simp only [setAll, List.setIfInBounds_toArray, List.set_cons_zero, List.set_cons_succ, h30, h36]
  -- END
  show wpList _ _ _ [_, _] _ _
  have HS := Lib.hid (Hs2.out.touch hS)
  clear Hs2 HB HW1 HW2 Hk1 Hk2
  have Hl := Lib.hid (waits_law Ht'.out k draw hk.1)
  clear h30 h36
  have hxr := waitV_rng Ht'.out.types (k := k) hd.1 hd.2
  obtain ⟨x, hx⟩ : ∃ x, x = waitV c' k draw := ⟨_, rfl⟩
  obtain ⟨y, hy⟩ : ∃ y, y = waitV c' (k + 1) draw := ⟨_, rfl⟩
  rw [← hx, ← hy] at Hl
  rw [← hx, ← hy]
  clear hx hy hxr
  obtain ⟨l1, l2, l3⟩ := Hl.out
  obtain ⟨z, hz⟩ : ∃ z, z = addS c'.most c'.span := ⟨_, rfl⟩
  have HA := Lib.hid (fun W => satAdd_any c'.most c'.span Ht'.out.types.m0 Ht'.out.types.m1 Ht'.out.types.s0 Ht'.out.types.s1 W)
  rw [← hz] at HA l2
  clear hz
  have hroom := Ht'.out.room
  have HF := Lib.hid (fun (rs : List Res) (W : World) (S : List Al) (T : Int → Int) (j : Nat) (h : Sep wA wA.heap.size W rs) (ht : TabAt rs 0 pt pm ph c' S T) (hj : j < 20) => ask_sep h ht Ht'.out.types (by omega) j j draw (by omega) (by omega) hd)
  obtain ⟨a0, a1, a2, a3, a4⟩ := cfg_cells HS.out 3 rfl
  rw [hroom] at HS a4 HF
  have Hroom := Lib.hid hroom
  have Hd := Lib.hid hd
  clear hroom hd hk Ht' Hl
  go_wp2_with fail
  refine (HA.out _).mono ?_
  rintro e wB ⟨rfl, rfl⟩
  go_wp2_with fail
  clear l1 l2 l3 HA a0 a1 a2 a3 a4
  go_loopw [11] (fun v11 wr => ∃ (i : Nat) (S : List Al) (T : Int → Int), i ≤ 20 ∧ v11 = .int .i64 i ∧ S.length = min i 5 ∧ (∀ a, a ∈ idsA S → a < i) ∧
    Sep wA wA.heap.size wr [tbRes pt c' pm ph, mapRes pm (idsA S) T, hRes ph S 5, blkRes wA.heap.size 24 (cfC c').toArray]) (fun v11 _ => 20 - (intOf v11).toNat)
  case atStart => exact ⟨0, [], fun _ => 0, by omega, rfl, rfl, fun a h => by simp [idsA] at h, HS.out⟩
  case round =>
    obtain ⟨i, S, T, hi, rfl, hl, hids, hs⟩ := hrel
    have Hs := Lib.hid hs
    have Hl := Lib.hid hl
    have Hids := Lib.hid hids
    clear HS hs hl hids
    by_cases hlt : i < 20
    · go_wp2_with fail
      refine (HF.out _ wr S T i Hs.out ⟨rfl, rfl, by rw [Hroom.out]; rfl⟩ hlt).mono ?_
      rintro e w4 ⟨rfl, hs4⟩
      have hn : hasA S i = false := by
        cases h : hasA S i with
        | false => rfl
        | true => have := Hids.out _ (hasA_mem.1 h); omega
      have HQ := Lib.hid (fun (w5 : World) (U : List Al) (U' : Int → Int) (h5 : Sep wA wA.heap.size w5 [tbRes pt c' pm ph, mapRes pm (idsA U) U', hRes ph U c'.room, blkRes wA.heap.size 24 (cfC c').toArray]) => left_t (i := 0) h5 (⟨rfl, rfl, rfl⟩ : TabAt _ 0 pt pm ph c' U U'))
      by_cases h5 : i < 5
      · have hc0 : setCode S 5 i = 0 := by
          unfold setCode
          have := Hl.out
          rw [hn, if_neg (by simp), if_neg (by omega)]
        have hS' : askS S c' i i draw = insS S (addS i (waitV c' 0 draw), (i : Int)) := by
          unfold askS
          rw [Hroom.out]
          exact setS_yes hc0
        obtain ⟨U, hU⟩ : ∃ U, U = askS S c' i i draw := ⟨_, rfl⟩
        have hlU : U.length = i + 1 := by rw [hU, hS', insS_len, Hl.out]; omega
        have hidU : ∀ a, a ∈ idsA U → a < ((i + 1 : Nat) : Int) := fun a ha => by
          rw [hU, hS'] at ha
          rcases List.mem_cons.1 ((insS_ids S _).mem_iff.2 ha) with h | h
          · rw [h]
            show (i : Int) < _
            omega
          · have := Hids.out a h
            omega
        have Hm := Lib.hid (show U.length = min (i + 1) 5 by omega)
        rw [← hU] at hs4
        have hs5 : Sep wA wA.heap.size w4 [tbRes pt c' pm ph, mapRes pm (idsA U) (askT S T 5 i), hRes ph U 5, blkRes wA.heap.size 24 (cfC c').toArray] := by
          unfold setTab at hs4
          rw [Hroom.out] at hs4
          exact hs4
        have HL := Lib.hid (fun m => HQ.out (w4.drewN m) U _ (by rw [Hroom.out]; exact hs5.drewN m))
        rw [hlU] at HL
        have Hs5 := Lib.hid hs5
        obtain ⟨a0, a1, a2, a3, a4⟩ := cfg_cells hs5 3 rfl
        rw [Hroom.out] at a4
        have t1 : decide ((i : Int) < 5) = true := decide_eq_true (by omega)
        have t2 : ((i : Int) + 1 != if 5 < (i : Int) + 1 then 5 else (i : Int) + 1) = false := by rw [if_neg (by omega)]; simp
        rw [hc0]
        clear hs4 hs5 hU hS' hn HQ HF Hs Hl Hids hc0 h5 a0 a1 a2 a3
        go_wp2_with fail
        go_quiet ((go_at_call 13; exact Calls.quiet_of_same (HL.out _)))
        go_wp2_with fail
        go_roundw
        case rel => exact ⟨i + 1, U, _, by omega, by go_num, Hm.out, hidU, Hs5.out.drewN _⟩
        case measure => simp [intOf]; omega
      · have hl5 : S.length = 5 := by have := Hl.out; omega
        have hc0 : setCode S 5 i = 8 := by
          unfold setCode
          rw [hn, if_neg (by simp), if_pos (by omega)]
        have hS' : askS S c' i i draw = S := by
          unfold askS
          rw [Hroom.out]
          exact setS_not (by rw [hc0]; omega)
        have hT' : askT S T c'.room i = T := by
          unfold askT
          rw [Hroom.out, hc0, if_neg (by omega)]
        have Hm := Lib.hid (show S.length = min (i + 1) 5 by omega)
        have hidU := Lib.hid (show ∀ a, a ∈ idsA S → a < ((i + 1 : Nat) : Int) from fun a ha => by have := Hids.out a ha; omega)
        have hs5 : Sep wA wA.heap.size w4 [tbRes pt c' pm ph, mapRes pm (idsA S) T, hRes ph S 5, blkRes wA.heap.size 24 (cfC c').toArray] := by
          rw [← Hroom.out] at hs4
          rw [hS', hT'] at hs4
          unfold setTab at hs4
          rw [Hroom.out] at hs4
          exact hs4
        have HL := Lib.hid (fun m => HQ.out (w4.drewN m) S _ (by rw [Hroom.out]; exact hs5.drewN m))
        rw [hl5] at HL
        have Hs5 := Lib.hid hs5
        obtain ⟨a0, a1, a2, a3, a4⟩ := cfg_cells hs5 3 rfl
        rw [Hroom.out] at a4
        have t1 : decide ((i : Int) < 5) = false := decide_eq_false (by omega)
        have t2 : ((5 : Int) != if 5 < (i : Int) + 1 then 5 else (i : Int) + 1) = false := by rw [if_pos (by omega)]; simp
        rw [hc0]
        clear hs4 hs5 hS' hT' hn HQ HF Hs Hl Hids hc0 h5 hl5 a0 a1 a2 a3
        go_wp2_with fail
        go_quiet ((go_at_call 13; exact Calls.quiet_of_same (HL.out _)))
        go_wp2_with fail
        go_roundw
        case rel => exact ⟨i + 1, S, _, by omega, by go_num, Hm.out, hidU.out, Hs5.out.drewN _⟩
        case measure => simp [intOf]; omega
    · obtain rfl : i = 20 := by omega
      go_wp2_with fail
      refine (fixed_any _).mono ?_
      rintro e wC ⟨rfl, ht⟩
      have Ht := Lib.hid (Hs.out.touch ht)
      clear ht
      go_wp2_with fail
      go_ret
      exact ⟨rfl, Touch.of_below Ht.out.below⟩
end Go.Proofs.Ytehbfoiadinhbaa
