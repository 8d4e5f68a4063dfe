/- wide.Sum. -/
import Derived.Test.YtflpjnillfgghaaDoorWdEat
import Derived.Test.YtflpjnillfgghaaDoorWdShelf
namespace Go.Proofs.YtflpjnillfgghaaDoor
open Go Go.RowKit
theorem bl_append (a b : ByteArray) : bl (a ++ b) = bl a ++ bl b := by
  unfold bl
  rw [ByteArray.data_append, Array.toList_append, List.map_append]
theorem bl_repeat (c : Nat) : bl ⟨(Lib.repeatL (⟨#[0]⟩ : ByteArray).data.toList c).toArray⟩ = List.replicate c 0 := by
  have h : (⟨#[0]⟩ : ByteArray).data.toList = List.replicate 1 0 := rfl
  rw [h, Lib.repeatL_replicate]
  unfold bl
  simp
theorem bl_stB {l : List Nat} (h : ∀ b ∈ l, b < 256) : bl (stB l) = l := bl_strOfNums l h
theorem padS_len (m : List Nat) : (padS m).length ≤ m.length + 300 := by
  unfold padS
  have h1 : fillS m.length < 128 := Nat.mod_lt _ (by decide)
  simp only [List.length_append, List.length_replicate, smS_len, List.length_singleton]
  split <;> simp <;> omega
theorem flat_lt (l : List Nat) : ∀ b ∈ l.flatMap smS, b < 256 := by
  intro b hb
  obtain ⟨x, _, hx⟩ := List.mem_flatMap.1 hb
  exact smS_lt x b hx
theorem stB_append {a b : List Nat} (ha : ∀ x ∈ a, x < 256) (hb : ∀ x ∈ b, x < 256) : stB a ++ stB b = stB (a ++ b) := by
  apply bl_inj
  rw [bl_append, bl_stB ha, bl_stB hb, bl_stB (fun x hx => (List.mem_append.1 hx).elim (ha x) (hb x))]
theorem out_step {st : List Nat} {j : Nat} (hj : j < st.length) : stB ((st.take j).flatMap smS) ++ stB (smS (st.getD j 0)) = stB ((st.take (j + 1)).flatMap smS) := by
  rw [stB_append (flat_lt _) (smS_lt _), ← List.take_append_getElem hj, List.flatMap_append]
  simp [List.getD, hj]
theorem flat_len (l : List Nat) : (l.flatMap smS).length = 8 * l.length := by
  induction l with
  | nil => rfl
  | cons x l ih => rw [List.flatMap_cons, List.length_append, ih, smS_len, List.length_cons]; omega
set_option maxRecDepth 100000 in
set_option maxHeartbeats 4000000 in
theorem sum_any (v : Value) (m : ByteArray) (hm : m.size ≤ 1000000) (w : World) (hV : WideV w) (hJ : Calls Tryd.prog 11 #[v, .string ⟨#[]⟩] w fun e w' => e = .returned (.string m) ∧ Touch [] w w') :
    Calls Tryd.prog 8 #[v] w fun e w' => e = .returned (.string (stB (sumS (bl m)))) ∧ Touch [] w w' := by
  have HV0 := Lib.hid hV
  have HJ := Lib.hid hJ
  have HRp := Lib.hid (fun (c : Nat) (h : c ≤ 1000) (W : World) => Tryd.strings_Repeat ⟨#[0]⟩ c W (by omega) (by show 1 * c ≤ _; omega))
  have HSm := Lib.hid (fun (n : Nat) (W : World) => small_any n W)
  clear hV hJ
  go_enter Tryd.func8, Tryd.ntmps8
  go_wp2_with fail
  refine HJ.out.mono ?_
  rintro e w1 ⟨rfl, ht1⟩
  have HT1 := Lib.hid ht1
  have qz : (247 - (m.size : Int) % 128) % 128 = ((fillS m.size : Nat) : Int) := by
    unfold fillS
    omega
  have hf : fillS m.size < 128 := Nat.mod_lt _ (by decide)
  obtain ⟨fl, hfl⟩ : ∃ fl, fl = fillS m.size := ⟨_, rfl⟩
  rw [← hfl] at qz hf
  have Hfl := Lib.hid hfl
  clear HJ ht1 hfl
  go_upto_region 3 with fail
  rw [qz]
  clear qz
  have hz1 : (Lib.repeatL (⟨#[0]⟩ : ByteArray).data.toList fl).toArray.size = fl := by
    have := congrArg List.length (bl_repeat fl)
    rw [bl_len, List.length_replicate] at this
    exact this
  have hz2 : (Lib.repeatL (⟨#[0]⟩ : ByteArray).data.toList 128).toArray.size = 128 := by
    have := congrArg List.length (bl_repeat 128)
    rw [bl_len, List.length_replicate] at this
    exact this
  obtain ⟨r1, hr1⟩ : ∃ r : ByteArray, r = ⟨(Lib.repeatL (⟨#[0]⟩ : ByteArray).data.toList fl).toArray⟩ := ⟨_, rfl⟩
  obtain ⟨r2, hr2⟩ : ∃ r : ByteArray, r = ⟨(Lib.repeatL (⟨#[0]⟩ : ByteArray).data.toList 128).toArray⟩ := ⟨_, rfl⟩
  have HR1 := Lib.hid (fun W => HRp.out fl (by omega) W)
  have HR2 := Lib.hid (fun W => HRp.out 128 (by omega) W)
  rw [← hr1] at HR1
  rw [← hr2] at HR2
  have Hb1 : Hid (bl r1 = List.replicate fl 0) := Lib.hid (by rw [hr1]; exact bl_repeat fl)
  have Hb2 : Hid (bl r2 = List.replicate 128 0) := Lib.hid (by rw [hr2]; exact bl_repeat 128)
  have hs1 : r1.size = fl := by rw [← bl_len, Hb1.out, List.length_replicate]
  have hs2 : r2.size = 128 := by rw [← bl_len, Hb2.out, List.length_replicate]
  clear hr1 hr2 hz1 hz2 HRp
  go_wp2_with fail
  refine (HR1.out _).mono ?_
  rintro e w2 ⟨rfl, ht2⟩
  have HT2 := Lib.hid (HT1.out.trans (Touch.of_below ht2))
  clear ht2 HT1 HR1
  have hms : (⟨#[128]⟩ : ByteArray).size = 1 := rfl
  have Hb0 : Hid (bl (m ++ ⟨#[128]⟩ ++ r1) = bl m ++ [128] ++ List.replicate fl 0) := Lib.hid (by rw [bl_append, bl_append, Hb1.out]; rfl)
  have ha1 : (m ++ ⟨#[128]⟩).size = m.size + 1 := ByteArray.size_append
  have ha2 : (m ++ ⟨#[128]⟩ ++ r1).size = m.size + 1 + fl := by rw [ByteArray.size_append, ha1, hs1]
  go_upto_if 24 with fail
  obtain ⟨t1, ht1⟩ : ∃ t1, t1 = m ++ ⟨#[128]⟩ ++ r1 := ⟨_, rfl⟩
  rw [← ht1] at Hb0 ha2 ⊢
  clear ht1 ha1 hs1 Hb1 hms
  go_cut [5] (fun v5 wx => ∃ t : ByteArray, v5 = .string t ∧ bl t = bl m ++ [128] ++ List.replicate fl 0 ++ (if fl < 8 then List.replicate 128 0 else []) ∧ Touch [] w wx)
  case first =>
    by_cases h8 : fl < 8
    · have Hb3 : Hid (bl (t1 ++ r2) = bl m ++ [128] ++ List.replicate fl 0 ++ (if fl < 8 then List.replicate 128 0 else [])) := Lib.hid (by rw [bl_append, Hb0.out, Hb2.out, if_pos h8])
      go_wp2_with fail
      refine (HR2.out _).mono ?_
      rintro e w3 ⟨rfl, ht3⟩
      have HT3 := Lib.hid (HT2.out.trans (Touch.of_below ht3))
      clear ht3
      go_wp2_with fail
      go_meet
      exact ⟨_, rfl, Hb3.out, HT3.out⟩
    · have Hb3 : Hid (bl t1 = bl m ++ [128] ++ List.replicate fl 0 ++ (if fl < 8 then List.replicate 128 0 else [])) := Lib.hid (by rw [Hb0.out, if_neg h8, List.append_nil])
      go_wp2_with fail
      go_meet
      exact ⟨_, rfl, Hb3.out, HT2.out⟩
  case rest =>
    obtain ⟨t, rfl, hbt, ht⟩ := hcut
    have HT3 := Lib.hid ht
    have hts : t.size ≤ 1000300 := by
      have := congrArg List.length hbt
      rw [bl_len] at this
      simp only [List.length_append, List.length_replicate, bl_len, List.length_singleton] at this
      split at this <;> simp at this <;> omega
    have Hbt := Lib.hid hbt
    have q5 := IntWalk.u64_in (m.size : Int) (by omega)
    have q6 := IntWalk.u64_in ((m.size : Int) * 8) (by omega)
    have HS := Lib.hid (fun W => HSm.out (m.size * 8) W)
    rw [show ((m.size * 8 : Nat) : Int) = (m.size : Int) * 8 by omega] at HS
    have hl8 : (stB (smS (m.size * 8))).size = 8 := by rw [← bl_len, bl_stB (smS_lt _), smS_len]
    clear hbt ht HT2 Hb0 Hb2 HR2 ha2 hs2
    go_wp2_with fail
    refine (HS.out _).mono ?_
    rintro e w3 ⟨rfl, ht3⟩
    have HT4 := Lib.hid (HT3.out.trans ht3)
    have Hpad : Hid (bl (t ++ stB (smS (m.size * 8))) = padS (bl m)) := Lib.hid (by
      rw [bl_append, Hbt.out, bl_stB (smS_lt _)]
      unfold padS
      rw [bl_len, Nat.mod_eq_of_lt (by omega), ← Hfl.out])
    clear ht3 HT3 Hbt HS
    go_upto_region 7 with fail
    obtain ⟨t4, ht4⟩ : ∃ t4, t4 = t ++ stB (smS (m.size * 8)) := ⟨_, rfl⟩
    have hts4 : t4.size ≤ 1000308 := by rw [ht4, ByteArray.size_append, hl8]; omega
    rw [← ht4] at Hpad ⊢
    clear ht4 q5 q6 hl8
    have HV3 := Lib.hid (HV0.out.touch HT4.out)
    have b0 := (HV3.out.beg 0 (by omega)).trans (show _ = some (Value.int .u64 7640891576956012808) from rfl)
    have b1 := (HV3.out.beg 1 (by omega)).trans (show _ = some (Value.int .u64 13503953896175478587) from rfl)
    have b2 := (HV3.out.beg 2 (by omega)).trans (show _ = some (Value.int .u64 4354685564936845355) from rfl)
    have b3 := (HV3.out.beg 3 (by omega)).trans (show _ = some (Value.int .u64 11912009170470909681) from rfl)
    have b4 := (HV3.out.beg 4 (by omega)).trans (show _ = some (Value.int .u64 5840696475078001361) from rfl)
    have b5 := (HV3.out.beg 5 (by omega)).trans (show _ = some (Value.int .u64 11170449401992604703) from rfl)
    have b6 := (HV3.out.beg 6 (by omega)).trans (show _ = some (Value.int .u64 2270897969802886507) from rfl)
    have b7 := (HV3.out.beg 7 (by omega)).trans (show _ = some (Value.int .u64 6620516959819538809) from rfl)
    have HL := Lib.hid (show (padS (bl m)).length = t4.size by rw [← Hpad.out, bl_len])
    go_wp2_with fail
    have HG0 := Lib.hid (Blk.new w3 37 (cellsN begS).toArray)
    have HT5 := Lib.hid (HT4.out.alloc (.cells (cellsN begS).toArray 37))
    change Code.wp _ _ _ _ (w3.alloc (.cells (cellsN begS).toArray 37))
    obtain ⟨g, hg⟩ : ∃ g, g = w3.heap.size := ⟨_, rfl⟩
    have Hgw := Lib.hid (show w.heap.size ≤ g by rw [hg]; exact HT4.out.size)
    rw [← hg] at HG0 ⊢
    generalize w3.alloc (.cells (cellsN begS).toArray 37) = w4 at *
    obtain ⟨P, hP⟩ : ∃ P, P = padS (bl m) := ⟨_, rfl⟩
    have HP := Lib.hid hP
    rw [← hP] at Hpad HL
    clear b0 b1 b2 b3 b4 b5 b6 b7 HV3 HT4 hg hP
    go_loopw [39] (fun vi wr => ∃ i : Nat, i ≤ t4.size / 128 ∧ vi = .int .i64 i ∧ Blk wr g 37 (cellsN (blkS P i)).toArray ∧ Touch [] w wr) (fun vi _ => t4.size / 128 - (intOf vi).toNat)
    case atStart => exact ⟨0, by omega, rfl, HG0.out, HT5.out⟩
    case round =>
      obtain ⟨i, hi, rfl, hG, hT⟩ := hrel
      clear HG0 HT5
      have HG := Lib.hid hG
      have HT := Lib.hid hT
      have HL8 := Lib.hid (blkS_len P i)
      clear hG hT
      by_cases hlt : i < t4.size / 128
      · have q1 : decide ((i : Int) < (t4.size : Int) / 128) = true := decide_eq_true (by omega)
        have HV := Lib.hid (HV0.out.touch HT.out)
        have Hnx : Hid (blkS P (i + 1) = eatS (blkS P i) (bl (t4.extract (128 * i) (128 * i + 128)))) := Lib.hid (by
          rw [bl_extract2, Hpad.out, show 128 * i + 128 - 128 * i = 128 by omega]
          rfl)
        have hesz : (t4.extract (128 * i) (128 * i + 128)).size = 128 := by simp; omega
        obtain ⟨st, hst⟩ : ∃ st, st = blkS P i := ⟨_, rfl⟩
        rw [← hst] at HG HL8 Hnx
        have HE := Lib.hid (fun (W : World) (h : WideV W) => eat_any st HL8.out (t4.extract (128 * i) (128 * i + 128)) hesz W h)
        obtain ⟨st2, hst2⟩ : ∃ st2, st2 = eatS st (bl (t4.extract (128 * i) (128 * i + 128))) := ⟨_, rfl⟩
        have HL9 := Lib.hid (show st2.length = 8 by rw [hst2]; exact eatS_len HL8.out _)
        rw [← hst2] at HE Hnx
        have Hq1 : Hid (IntKind.i64.wrap (128 * (i : Int)) = ((128 * i : Nat) : Int)) := Lib.hid (by rw [IntWalk.i64_in _ (by omega)]; omega)
        have Hq2 : Hid (IntKind.i64.wrap (((128 * i : Nat) : Int) + 128) = ((128 * i + 128 : Nat) : Int)) := Lib.hid (by rw [IntWalk.i64_in _ (by omega)]; omega)
        clear hst hst2 hesz
        go_upto_region 11 with fail
        refine wp_region_flowT (by kernel_rfl) 9 (lookW [(5, pu (isV (.string t4))), (6, pu (isV (.pointer (some ⟨g, 0, none⟩)))), (7, pu (isV (.int .i64 (i : Int)))), (42, pu (isV (.agg (cellsN st).toArray))), (43, pu (isV (.string t4))), (44, pu (isV (.int .i64 (i : Int)))), (45, pu (isV (.int .i64 ((128 * i : Nat) : Int)))), (46, pu (isV (.int .i64 (i : Int)))), (47, pu (isV (.int .i64 ((128 * i : Nat) : Int)))), (48, pu (isV (.int .i64 ((128 * i + 128 : Nat) : Int)))), (49, pu (isV (.string (t4.extract (128 * i) (128 * i + 128))))), (50, pu (isV (.agg (cellsN st2).toArray)))]) [5, 6, 7] [42, 43, 44, 45, 46, 47, 48, 49, 50] [50] (by kernel_rfl) (by kernel_rfl) (by kernel_rfl) (by kernel_rfl) ⟨rfl, rfl, rfl, trivial⟩ ?_ ?_
        · refine FStepsW.cons (FStepW.plain rfl fun a w hS hE => OpTo.ldS g st HL8.out rfl (hE 6 (by kernel_rfl)) (HG.out.touch hS (by simp)) ⟨dOfW.of 42 rfl rfl, Touch.refl _ _⟩) ?_
          refine FStepsW.cons (FStepW.plain rfl fun a w hS hE => OpTo.move rfl ⟨dOfW.of 43 rfl (hE 5 (by kernel_rfl)), Touch.refl _ _⟩) ?_
          refine FStepsW.cons (FStepW.plain rfl fun a w hS hE => OpTo.move rfl ⟨dOfW.of 44 rfl (hE 7 (by kernel_rfl)), Touch.refl _ _⟩) ?_
          refine FStepsW.cons (FStepW.plain rfl fun a w hS hE => OpTo.mulK 128 i _ rfl rfl (hE 44 (by kernel_rfl)) Hq1.out ⟨dOfW.of 45 rfl rfl, Touch.refl _ _⟩) ?_
          refine FStepsW.cons (FStepW.plain rfl fun a w hS hE => OpTo.move rfl ⟨dOfW.of 46 rfl (hE 7 (by kernel_rfl)), Touch.refl _ _⟩) ?_
          refine FStepsW.cons (FStepW.plain rfl fun a w hS hE => OpTo.mulK 128 i _ rfl rfl (hE 46 (by kernel_rfl)) Hq1.out ⟨dOfW.of 47 rfl rfl, Touch.refl _ _⟩) ?_
          refine FStepsW.cons (FStepW.plain rfl fun a w hS hE => OpTo.addK ((128 * i : Nat) : Int) 128 _ rfl (hE 47 (by kernel_rfl)) rfl Hq2.out ⟨dOfW.of 48 rfl rfl, Touch.refl _ _⟩) ?_
          refine FStepsW.cons (FStepW.plain rfl fun a w hS hE => OpTo.slT t4 (128 * i) (128 * i + 128) rfl (hE 43 (by kernel_rfl)) (hE 45 (by kernel_rfl)) (hE 48 (by kernel_rfl)) (by omega) (by omega) ⟨dOfW.of 49 rfl rfl, Touch.refl _ _⟩) ?_
          refine FStepsW.cons (FStepW.plain rfl fun a w hS hE => OpTo.call #[.agg (cellsN st).toArray, .string (t4.extract (128 * i) (128 * i + 128))] rfl Tryd.func14 (by kernel_rfl) (by kernel_rfl) (argsW2 (hE 42 (by kernel_rfl)) (hE 49 (by kernel_rfl))) ((HE.out w (HV.out.touch hS)).mono fun _ _ h => callsW 50 rfl (fun _ _ h => h) h)) ?_
          exact FStepsW.nil
        intro f wx hS hF
        obtain ⟨h50, -⟩ := hF
        replace h50 : f 50 = .agg (cellsN st2).toArray := h50
        simp only [setAll, List.setIfInBounds_toArray, List.set_cons_zero, List.set_cons_succ, h50]
        show wpList _ _ _ [_] _ _
        have HG2 := Lib.hid (HG.out.touch hS (by simp))
        have HT2 := Lib.hid (HT.out.trans hS)
        have hs8 : (cellsN st).toArray.size = 8 := by rw [cellsN_size]; exact HL8.out
        clear h50 hS HG HT HV HE Hq1 Hq2
        go_wp2_with (refine wpList_storeS rfl (.tmp 6) (.tmp 50) rfl g rfl st2 rfl 37 _ HL9.out hs8 HG2.out ?_)
        have HGf := Lib.hid (HG2.out.srow (cellsN st2).toArray)
        have HTf := Lib.hid (HT2.out.srow (g := g) (.inr Hgw.out) (cellsN st2).toArray)
        rw [← Hnx.out] at HGf HTf ⊢
        clear HG2 HT2
        go_wp2_with fail
        go_roundw
        case rel => exact ⟨i + 1, by omega, by go_num, HGf.out, HTf.out⟩
        case measure => simp [intOf]; omega
      · have q1 : decide ((i : Int) < (t4.size : Int) / 128) = false := decide_eq_false (by omega)
        obtain rfl : i = t4.size / 128 := by omega
        obtain ⟨st, hst⟩ : ∃ st, st = blkS P (t4.size / 128) := ⟨_, rfl⟩
        have Hsum : Hid (sumS (bl m) = st.flatMap smS) := Lib.hid (by
          unfold sumS
          rw [← HP.out, HL.out, hst])
        rw [← hst] at HG HL8
        clear hst
        go_wp2_with (refine wpList_loadS rfl (.tmp 6) rfl g rfl 37 st HL8.out HG.out ?_)
        have HT6 := HT
        go_loopw [8, 53] (fun vs vi wr => ∃ j : Nat, j ≤ 8 ∧ vi = .int .i64 j ∧ vs = .string (stB ((st.take j).flatMap smS)) ∧ Touch [] w wr) (fun _ vi _ => 8 - (intOf vi).toNat)
        case atStart => exact ⟨0, by omega, rfl, rfl, HT6.out⟩
        case round =>
          obtain ⟨j, hj, rfl, rfl, hT⟩ := hrel
          clear HT6 HT HG
          have HT := Lib.hid hT
          clear hT
          by_cases hj8 : j < 8
          · have hix := run_index8 st HL8.out j hj8
            have Hst := Lib.hid (out_step (st := st) (j := j) (by rw [HL8.out]; exact hj8))
            have hsz1 : (stB ((st.take j).flatMap smS)).size ≤ 64 := by rw [← bl_len, bl_stB (flat_lt _), flat_len, List.length_take]; omega
            have hsz2 : (stB (smS (st.getD j 0))).size = 8 := by rw [← bl_len, bl_stB (smS_lt _), smS_len]
            obtain ⟨o1, ho1⟩ : ∃ o1, o1 = stB ((st.take j).flatMap smS) := ⟨_, rfl⟩
            rw [← ho1] at hsz1 Hst ⊢
            have HS := Lib.hid (fun W => HSm.out (st.getD j 0) W)
            obtain ⟨x, hx⟩ : ∃ x, x = st.getD j 0 := ⟨_, rfl⟩
            rw [← hx] at HS hsz2 Hst hix
            obtain ⟨o2, ho2⟩ : ∃ o2, o2 = stB (smS x) := ⟨_, rfl⟩
            rw [← ho2] at HS hsz2 Hst
            clear ho1 hx ho2
            go_wp2_with fail
            refine (HS.out _).mono ?_
            rintro e w5 ⟨rfl, ht5⟩
            have HTf := Lib.hid (HT.out.trans ht5)
            clear ht5 HT HS
            go_wp2_with fail
            go_roundw
            case rel => exact ⟨j + 1, by omega, by go_num, by rw [Hst.out], HTf.out⟩
            case measure => simp [intOf]; omega
          · obtain rfl : j = 8 := by omega
            go_wp2_with fail
            go_ret
            have he : st.take 8 = st := List.take_of_length_le (by rw [HL8.out]; omega)
            rw [Hsum.out, he]
            exact ⟨rfl, HT.out⟩
end Go.Proofs.YtflpjnillfgghaaDoor
