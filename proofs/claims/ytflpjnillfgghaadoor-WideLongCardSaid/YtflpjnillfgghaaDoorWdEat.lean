/- wide.eat: a block. -/
import Derived.Test.YtflpjnillfgghaaDoorWdRow
namespace Go.Proofs.YtflpjnillfgghaaDoor
open Go Go.RowKit
/-- The variables of the package: the first state, the keys. -/
structure WideV (w : World) : Prop where
  beg : ∀ j, j < 8 → w.cell? ⟨0, j, none⟩ = some (.int .u64 ((begS.getD j 0 : Nat) : Int))
  key : ∀ j, j < 80 → w.cell? ⟨1, j, none⟩ = some (.int .u64 ((keyS.getD j 0 : Nat) : Int))
  lb : 0 < w.heap.size
  lk : 1 < w.heap.size
theorem WideV.touch {w w' : World} (h : WideV w) (ht : Touch [] w w') : WideV w' :=
  ⟨fun j hj => (ht.cell (p := ⟨0, j, none⟩) h.lb (by simp)).trans (h.beg j hj), fun j hj => (ht.cell (p := ⟨1, j, none⟩) h.lk (by simp)).trans (h.key j hj), Nat.lt_of_lt_of_le h.lb ht.size, Nat.lt_of_lt_of_le h.lk ht.size⟩
theorem getD_left {l m : List Nat} {k : Nat} (h : k < l.length) : (l ++ m).getD k 0 = l.getD k 0 := by simp [List.getD, List.getElem?_append_left h]
theorem getD_last (l : List Nat) (x : Nat) : (l ++ [x]).getD l.length 0 = x := by simp [List.getD]
theorem wpre_at (b : List Nat) {i j : Nat} (h : i ≤ j) (k : Nat) (hk : k < i) : (wpre b j).getD k 0 = (wpre b i).getD k 0 := by
  induction j with
  | zero => omega
  | succ j ih =>
    by_cases hij : i = j + 1
    · rw [hij]
    · rw [wpre, getD_left (by rw [wpre_len]; omega)]
      exact ih (by omega)
/-- The words so far, and nothing behind. -/
def wrow (b : List Nat) (i : Nat) : List Nat := wpre b i ++ List.replicate (80 - i) 0
theorem wrow_len (b : List Nat) {i : Nat} (h : i ≤ 80) : (wrow b i).length = 80 := by
  unfold wrow
  rw [List.length_append, wpre_len, List.length_replicate]
  omega
theorem wrow_at (b : List Nat) {i k : Nat} (hk : k < i) : (wrow b i).getD k 0 = (wpre b i).getD k 0 := by
  unfold wrow
  rw [getD_left (by rw [wpre_len]; exact hk)]
theorem wrow_step (b : List Nat) {i : Nat} (h : i < 80) : (wrow b i).set i ((wpre b (i + 1)).getD i 0) = wrow b (i + 1) := by
  unfold wrow
  obtain ⟨x, hx⟩ : ∃ x, wpre b (i + 1) = wpre b i ++ [x] := ⟨_, rfl⟩
  have h1 := getD_last (wpre b i) x
  rw [wpre_len] at h1
  rw [hx, h1, show 80 - i = (80 - (i + 1)) + 1 by omega, List.replicate_succ, List.set_append_right _ _ (by rw [wpre_len]; omega), wpre_len, Nat.sub_self, List.append_assoc]
  rfl
theorem bl_extract2 (s : ByteArray) (i m : Nat) : bl (s.extract i m) = ((bl s).drop i).take (m - i) := by
  unfold bl
  simp [ByteArray.data_extract, List.map_take, List.map_drop]
/-- The state's words, up to i added. -/
structure AddI (s st : List Nat) (i : Nat) (u : List Nat) : Prop where
  len : u.length = 8
  done : ∀ k, k < i → u.getD k 0 = ad (s.getD k 0) (st.getD k 0)
  left : ∀ k, i ≤ k → k < 8 → u.getD k 0 = s.getD k 0
theorem AddI.step {s st u : List Nat} {i : Nat} (h : AddI s st i u) (hi : i < 8) : AddI s st (i + 1) (u.set i (ad (u.getD i 0) (st.getD i 0))) := by
  have h1 := h.len
  refine ⟨by rw [List.length_set]; exact h1, fun k hk => ?_, fun k hk hk8 => ?_⟩
  · by_cases e : k = i
    · subst e
      rw [h.left k (Nat.le_refl _) hi]
      simp [List.getD, h1, hi]
    · have := h.done k (by omega)
      rw [← this]
      simp [List.getD, List.getElem?_set_ne (Ne.symm e)]
  · have := h.left k (by omega) hk8
    rw [← this]
    simp [List.getD, List.getElem?_set_ne (show i ≠ k by omega)]
theorem AddI.end_ {s st u : List Nat} (h : AddI s st 8 u) (hs : s.length = 8) (hst : st.length = 8) : u = List.zipWith ad s st := by
  refine List.ext_getElem (by rw [h.len, List.length_zipWith, hs, hst]; rfl) fun k h1 h2 => ?_
  have hk : k < 8 := by rw [h.len] at h1; exact h1
  have := h.done k hk
  simpa [List.getD, h1, hs, hst, hk] using this
set_option maxRecDepth 100000 in
set_option maxHeartbeats 4000000 in
theorem eat_any (st : List Nat) (hst : st.length = 8) (b : ByteArray) (hb : b.size = 128) (w : World) (hV : WideV w) :
    Calls Tryd.prog 14 #[.agg (cellsN st).toArray, .string b] w fun e w' => e = .returned (.agg (cellsN (eatS st (bl b))).toArray) ∧ Touch [] w w' := by
  have Hst := Lib.hid hst
  have Hb := Lib.hid hb
  have HV0 := Lib.hid hV
  have HTu := Lib.hid (fun (x n : Nat) (h0 : 0 < n) (h1 : n < 64) (W : World) => turn_t x n h0 h1 W)
  have HBg := Lib.hid (fun (s : ByteArray) (h : s.size = 8) (W : World) => big_any s h W)
  have hz80 : ∀ W : World, (zeroValue 58).run Tryd.prog W = .ok (.agg (cellsN (List.replicate 80 0)).toArray) W := fun W => by kernel_rfl
  obtain ⟨B, hB⟩ : ∃ B, B = bl b := ⟨_, rfl⟩
  rw [← hB]
  have HBb := Lib.hid hB
  clear hB hst hV
  go_enter Tryd.func14, Tryd.ntmps14
  go_upto_block 0 with fail
  clear hz80
  obtain ⟨w1, hw1⟩ : ∃ w1, w1 = ((w.alloc (.cells (cellsN st).toArray 37)).alloc (.cells (cellsN [0, 0, 0, 0, 0, 0, 0, 0]).toArray 37)).alloc (.cells (cellsN (wrow B 0)).toArray 58) := ⟨_, rfl⟩
  have hO : Blk w1 w.heap.size 37 (cellsN st).toArray := by rw [hw1]; exact ((Blk.new _ _ _).alloc _).alloc _
  have hR : Blk w1 (w.heap.size + 1) 37 (cellsN [0, 0, 0, 0, 0, 0, 0, 0]).toArray := by
    have := (Blk.new (w.alloc (.cells (cellsN st).toArray 37)) 37 (cellsN [0, 0, 0, 0, 0, 0, 0, 0]).toArray).alloc (.cells (cellsN (wrow B 0)).toArray 58)
    rw [hw1]; simpa using this
  have hW : Blk w1 (w.heap.size + 1 + 1) 58 (cellsN (wrow B 0)).toArray := by
    have := Blk.new ((w.alloc (.cells (cellsN st).toArray 37)).alloc (.cells (cellsN [0, 0, 0, 0, 0, 0, 0, 0]).toArray 37)) 58 (cellsN (wrow B 0)).toArray
    rw [hw1]; simpa using this
  have hT : Touch [] w w1 := by rw [hw1]; exact (((Touch.refl _ _).alloc _).alloc _).alloc _
  change Code.wp _ _ _ _ (((w.alloc (.cells (cellsN st).toArray 37)).alloc (.cells (cellsN [0, 0, 0, 0, 0, 0, 0, 0]).toArray 37)).alloc (.cells (cellsN (wrow B 0)).toArray 58))
  rw [← hw1]
  obtain ⟨gt, hgt⟩ : ∃ gt, gt = w.heap.size := ⟨_, rfl⟩
  obtain ⟨gW, hgW⟩ : ∃ gW, gW = w.heap.size + 1 + 1 := ⟨_, rfl⟩
  obtain ⟨gR, hgR⟩ : ∃ gR, gR = w.heap.size + 1 := ⟨_, rfl⟩
  have Hg := Lib.hid (And.intro hgt (And.intro hgW hgR))
  rw [← hgt] at hO
  rw [← hgW] at hW
  rw [← hgR] at hR
  rw [← hgW, ← hgR, ← hgt]
  have HO1 := Lib.hid hO
  have HR1 := Lib.hid hR
  have HW1 := Lib.hid hW
  have HT1 := Lib.hid hT
  clear hw1 hO hR hW hT hgt hgW hgR
  go_cut [16] (fun _ wx => Blk wx gW 58 (cellsN (wrow B 80)).toArray ∧ Blk wx gR 37 (cellsN [0, 0, 0, 0, 0, 0, 0, 0]).toArray ∧ Blk wx gt 37 (cellsN st).toArray ∧ Touch [] w wx)
  case first =>
    go_wp2_with fail
    go_loopw [16] (fun vi wr => ∃ i : Nat, i ≤ 80 ∧ vi = .int .i64 i ∧ Blk wr gW 58 (cellsN (wrow B i)).toArray ∧ Blk wr gR 37 (cellsN [0, 0, 0, 0, 0, 0, 0, 0]).toArray ∧ Blk wr gt 37 (cellsN st).toArray ∧ Touch [] w wr) (fun vi _ => 80 - (intOf vi).toNat)
    case atStart => exact ⟨0, by omega, rfl, HW1.out, HR1.out, HO1.out, HT1.out⟩
    case round =>
      obtain ⟨i, hi, rfl, hW, hR, hO, hT⟩ := hrel
      clear HW1 HR1 HO1 HT1
      have HW := Lib.hid hW
      have HR := Lib.hid hR
      have HO := Lib.hid hO
      have HT := Lib.hid hT
      clear hW hR hO hT
      by_cases hlt : i < 80
      · have HC : Hid (∀ j, j < i → (cellsN (wrow B i)).toArray[j]? = some (.int .u64 (((wpre B i).getD j 0 : Nat) : Int))) := Lib.hid (fun j hj => by
          rw [List.getElem?_toArray, cellsN_at (by rw [wrow_len B hi]; omega), wrow_at B hj])
        have HF : Hid (∀ (W : World) (X : Nat), X = (wpre B (i + 1)).getD i 0 → Blk W gW 58 (cellsN (wrow B i)).toArray → Blk W gR 37 (cellsN [0, 0, 0, 0, 0, 0, 0, 0]).toArray → Blk W gt 37 (cellsN st).toArray → Touch [] w W →
            W.cell? ⟨gW, i, none⟩ = some (.int .u64 (((wrow B i).getD i 0 : Nat) : Int)) ∧ W.frozen? ⟨gW, i, none⟩ = false ∧ Hid (Blk (W.setCell ⟨gW, i, none⟩ (.int .u64 (X : Int))) gW 58 (cellsN (wrow B (i + 1))).toArray ∧ Blk (W.setCell ⟨gW, i, none⟩ (.int .u64 (X : Int))) gR 37 (cellsN [0, 0, 0, 0, 0, 0, 0, 0]).toArray ∧ Blk (W.setCell ⟨gW, i, none⟩ (.int .u64 (X : Int))) gt 37 (cellsN st).toArray ∧ Touch [] w (W.setCell ⟨gW, i, none⟩ (.int .u64 (X : Int))))) := Lib.hid (by
          intro W X hX hW hR hO hT
          obtain ⟨e1, e2, e3⟩ := Hg.out
          refine ⟨by rw [hW.cell, List.getElem?_toArray, cellsN_at (by rw [wrow_len B hi]; omega)], hW.frozen i, Lib.hid ⟨?_, hR.far (p := ⟨gW, i, none⟩) (by simp; omega) _, hO.far (p := ⟨gW, i, none⟩) (by simp; omega) _, hT.setCell (p := ⟨gW, i, none⟩) (.inr (by rw [e2]; simp; omega)) _⟩⟩
          have h2 := hW.set_ i (.int .u64 (X : Int))
          rw [show (cellsN (wrow B i)).toArray.setIfInBounds i (.int .u64 (X : Int)) = (cellsN (wrow B (i + 1))).toArray by rw [← wrow_step B hlt, ← hX, ← cellsN_set]; simp] at h2
          exact h2)
        by_cases h16 : i < 16
        · have Hx : Hid (beS (bl (b.extract (8 * i) (8 * i + 8))) = (wpre B (i + 1)).getD i 0) := Lib.hid (by
            have h1 := getD_last (wpre B i) (if i < 16 then beS ((B.drop (8 * i)).take 8) else wnext (wpre B i))
            rw [wpre_len, if_pos h16] at h1
            rw [wpre, if_pos h16, h1, bl_extract2, HBb.out, show 8 * i + 8 - 8 * i = 8 by omega])
          have hsz : (b.extract (8 * i) (8 * i + 8)).size = 8 := by simp; omega
          have H8 := Lib.hid (HBg.out (b.extract (8 * i) (8 * i + 8)) hsz)
          have h1 := IntWalk.i64_in (8 * (i : Int)) (by omega)
          have h2 := IntWalk.i64_in (8 * (i : Int) + 8) (by omega)
          have hsl := fun W : World => run_slice_string (P := Tryd.prog) (w := W) 9 b .i64 .i64 (8 * (i : Int)) (8 * (i : Int) + 8) Tryd.underlying9 (by omega) (by omega) (by omega)
          rw [show (8 * (i : Int)).toNat = 8 * i by omega, show (8 * (i : Int) + 8).toNat = 8 * i + 8 by omega] at hsl
          clear hsz
          go_wp2_with fail
          refine (H8.out _).mono ?_
          rintro e w2 ⟨rfl, ht2⟩
          obtain ⟨f1, f2, HFin⟩ := HF.out w2 _ Hx.out (HW.out.touch ht2 (by simp)) (HR.out.touch ht2 (by simp)) (HO.out.touch ht2 (by simp)) (HT.out.trans ht2)
          clear ht2 HF
          go_wp2_with fail
          go_roundw
          case rel => exact ⟨i + 1, by omega, by go_num, HFin.out⟩
          case measure => simp [intOf]; omega
        · go_upto_region 7 with fail
          -- WFLOW eat7
          refine wp_region_flowT (by kernel_rfl) 10 (lookW [(5, pu (isV (.pointer (some ⟨gW, 0, none⟩)))), (6, pu (isV (.int .i64 ((i : Nat) : Int)))), (31, pu (isV (.int .i64 ((i : Nat) : Int)))), (32, pu (isV (.int .i64 ((i - 15 : Nat) : Int)))), (33, pu (isV (.pointer (some ⟨gW, i - 15, none⟩)))), (34, pu (isV (.int .u64 (((wpre B i).getD (i - 15) 0 : Nat) : Int)))), (35, pu (isV (.int .i64 ((i : Nat) : Int)))), (36, pu (isV (.int .i64 ((i - 2 : Nat) : Int)))), (37, pu (isV (.pointer (some ⟨gW, i - 2, none⟩)))), (38, pu (isV (.int .u64 (((wpre B i).getD (i - 2) 0 : Nat) : Int)))), (7, pu (isV (.int .u64 (((wpre B i).getD (i - 15) 0 : Nat) : Int)))), (8, pu (isV (.int .u64 (((wpre B i).getD (i - 2) 0 : Nat) : Int))))]) [5, 6] [31, 32, 33, 34, 35, 36, 37, 38, 7, 8] [7, 8] (by kernel_rfl) (by kernel_rfl) (by kernel_rfl) (by kernel_rfl) ⟨rfl, rfl, trivial⟩ ?_ ?_
          · refine FStepsW.cons (FStepW.plain rfl fun a w hS hE => OpTo.move rfl ⟨dOfW.of 31 rfl (hE 6 (by kernel_rfl)), Touch.refl _ _⟩) ?_
            refine FStepsW.cons (FStepW.plain rfl fun a w hS hE => OpTo.subN i 15 (by omega) (by omega) rfl (hE 31 (by kernel_rfl)) rfl ⟨dOfW.of 32 rfl rfl, Touch.refl _ _⟩) ?_
            refine FStepsW.cons (FStepW.plain rfl fun a w hS hE => OpTo.ixW gW (i - 15) (by omega) rfl (hE 5 (by kernel_rfl)) (hE 32 (by kernel_rfl)) ⟨dOfW.of 33 rfl rfl, Touch.refl _ _⟩) ?_
            refine FStepsW.cons (FStepW.plain rfl fun a w hS hE => OpTo.ldU gW (i - 15) _ rfl (hE 33 (by kernel_rfl)) (((HW.out.touch hS (by simp)).cell _).trans (HC.out (i - 15) (by omega))) ⟨dOfW.of 34 rfl rfl, Touch.refl _ _⟩) ?_
            refine FStepsW.cons (FStepW.plain rfl fun a w hS hE => OpTo.move rfl ⟨dOfW.of 35 rfl (hE 6 (by kernel_rfl)), Touch.refl _ _⟩) ?_
            refine FStepsW.cons (FStepW.plain rfl fun a w hS hE => OpTo.subN i 2 (by omega) (by omega) rfl (hE 35 (by kernel_rfl)) rfl ⟨dOfW.of 36 rfl rfl, Touch.refl _ _⟩) ?_
            refine FStepsW.cons (FStepW.plain rfl fun a w hS hE => OpTo.ixW gW (i - 2) (by omega) rfl (hE 5 (by kernel_rfl)) (hE 36 (by kernel_rfl)) ⟨dOfW.of 37 rfl rfl, Touch.refl _ _⟩) ?_
            refine FStepsW.cons (FStepW.plain rfl fun a w hS hE => OpTo.ldU gW (i - 2) _ rfl (hE 37 (by kernel_rfl)) (((HW.out.touch hS (by simp)).cell _).trans (HC.out (i - 2) (by omega))) ⟨dOfW.of 38 rfl rfl, Touch.refl _ _⟩) ?_
            refine FStepsW.cons (FStepW.plain rfl fun a w hS hE => OpTo.assign rfl ⟨dOfW.of 7 rfl (hE 34 (by kernel_rfl)), Touch.refl _ _⟩) ?_
            refine FStepsW.cons (FStepW.plain rfl fun a w hS hE => OpTo.assign rfl ⟨dOfW.of 8 rfl (hE 38 (by kernel_rfl)), Touch.refl _ _⟩) ?_
            exact FStepsW.nil
          intro f wx hS hF
          obtain ⟨h7, h8, -⟩ := hF
          replace h7 : f 7 = .int .u64 (((wpre B i).getD (i - 15) 0 : Nat) : Int) := h7
          replace h8 : f 8 = .int .u64 (((wpre B i).getD (i - 2) 0 : Nat) : Int) := h8
          simp only [setAll, List.setIfInBounds_toArray, List.set_cons_zero, List.set_cons_succ, h7, h8]
          show wpList _ _ _ [] _ _
          -- END
          obtain ⟨x, hx⟩ : ∃ x, x = (wpre B i).getD (i - 15) 0 := ⟨_, rfl⟩
          obtain ⟨y, hy⟩ : ∃ y, y = (wpre B i).getD (i - 2) 0 := ⟨_, rfl⟩
          rw [← hx, ← hy]
          have HW2 := Lib.hid (HW.out.touch hS (by simp))
          have HR2 := Lib.hid (HR.out.touch hS (by simp))
          have HO2 := Lib.hid (HO.out.touch hS (by simp))
          have HT2 := Lib.hid (HT.out.trans hS)
          have Hx : Hid (ad (ad (ad ((wpre B i).getD (i - 16) 0) ((wpre B i).getD (i - 7) 0)) (xo (xo (rot x 1) (rot x 8)) (x / 2 ^ 7))) (xo (xo (rot y 19) (rot y 61)) (y / 2 ^ 6)) = (wpre B (i + 1)).getD i 0) := Lib.hid (by
            have h1 := getD_last (wpre B i) (if i < 16 then beS ((B.drop (8 * i)).take 8) else wnext (wpre B i))
            rw [wpre_len, if_neg h16] at h1
            rw [wpre, if_neg h16, h1, wnext, wpre_len, hx, hy])
          clear hx hy h7 h8 hS HW HR HO HT
          go_wp2_with fail
          have HW := HW2
          clear HW2
          go_upto_region 8 with fail
          -- WFLOW eat8
          refine wp_region_flowT (by kernel_rfl) 29 (lookW [(5, pu (isV (.pointer (some ⟨gW, 0, none⟩)))), (6, pu (isV (.int .i64 ((i : Nat) : Int)))), (7, pu (isV (.int .u64 ((x : Nat) : Int)))), (8, pu (isV (.int .u64 ((y : Nat) : Int)))), (39, pu (isV (.int .i64 ((i : Nat) : Int)))), (40, pu (isV (.int .i64 ((i : Nat) : Int)))), (41, pu (isV (.int .i64 ((i - 16 : Nat) : Int)))), (42, pu (isV (.pointer (some ⟨gW, i - 16, none⟩)))), (43, pu (isV (.int .u64 (((wpre B i).getD (i - 16) 0 : Nat) : Int)))), (44, pu (isV (.int .i64 ((i : Nat) : Int)))), (45, pu (isV (.int .i64 ((i - 7 : Nat) : Int)))), (46, pu (isV (.pointer (some ⟨gW, i - 7, none⟩)))), (47, pu (isV (.int .u64 (((wpre B i).getD (i - 7) 0 : Nat) : Int)))), (48, pu (isV (.int .u64 ((ad ((wpre B i).getD (i - 16) 0) ((wpre B i).getD (i - 7) 0) : Nat) : Int)))), (49, pu (isV (.int .u64 ((x : Nat) : Int)))), (50, pu (isV (.int .u64 ((rot (x) 1 : Nat) : Int)))), (51, pu (isV (.int .u64 ((x : Nat) : Int)))), (52, pu (isV (.int .u64 ((rot (x) 8 : Nat) : Int)))), (53, pu (isV (.int .u64 ((xo (rot (x) 1) (rot (x) 8) : Nat) : Int)))), (54, pu (isV (.int .u64 ((x : Nat) : Int)))), (55, pu (isV (.int .u64 ((x / 2 ^ 7 : Nat) : Int)))), (56, pu (isV (.int .u64 ((xo (xo (rot (x) 1) (rot (x) 8)) (x / 2 ^ 7) : Nat) : Int)))), (57, pu (isV (.int .u64 ((ad (ad ((wpre B i).getD (i - 16) 0) ((wpre B i).getD (i - 7) 0)) (xo (xo (rot (x) 1) (rot (x) 8)) (x / 2 ^ 7)) : Nat) : Int)))), (58, pu (isV (.int .u64 ((y : Nat) : Int)))), (59, pu (isV (.int .u64 ((rot (y) 19 : Nat) : Int)))), (60, pu (isV (.int .u64 ((y : Nat) : Int)))), (61, pu (isV (.int .u64 ((rot (y) 61 : Nat) : Int)))), (62, pu (isV (.int .u64 ((xo (rot (y) 19) (rot (y) 61) : Nat) : Int)))), (63, pu (isV (.int .u64 ((y : Nat) : Int)))), (64, pu (isV (.int .u64 ((y / 2 ^ 6 : Nat) : Int)))), (65, pu (isV (.int .u64 ((xo (xo (rot (y) 19) (rot (y) 61)) (y / 2 ^ 6) : Nat) : Int)))), (66, pu (isV (.int .u64 ((ad (ad (ad ((wpre B i).getD (i - 16) 0) ((wpre B i).getD (i - 7) 0)) (xo (xo (rot (x) 1) (rot (x) 8)) (x / 2 ^ 7))) (xo (xo (rot (y) 19) (rot (y) 61)) (y / 2 ^ 6)) : Nat) : Int)))), (67, pu (isV (.pointer (some ⟨gW, i, none⟩))))]) [5, 6, 7, 8] [39, 40, 41, 42, 43, 44, 45, 46, 47, 48, 49, 50, 51, 52, 53, 54, 55, 56, 57, 58, 59, 60, 61, 62, 63, 64, 65, 66, 67] [66, 67] (by kernel_rfl) (by kernel_rfl) (by kernel_rfl) (by kernel_rfl) ⟨rfl, rfl, rfl, rfl, trivial⟩ ?_ ?_
          · refine FStepsW.cons (FStepW.plain rfl fun a w hS hE => OpTo.move rfl ⟨dOfW.of 39 rfl (hE 6 (by kernel_rfl)), Touch.refl _ _⟩) ?_
            refine FStepsW.cons (FStepW.plain rfl fun a w hS hE => OpTo.move rfl ⟨dOfW.of 40 rfl (hE 6 (by kernel_rfl)), Touch.refl _ _⟩) ?_
            refine FStepsW.cons (FStepW.plain rfl fun a w hS hE => OpTo.subN i 16 (by omega) (by omega) rfl (hE 40 (by kernel_rfl)) rfl ⟨dOfW.of 41 rfl rfl, Touch.refl _ _⟩) ?_
            refine FStepsW.cons (FStepW.plain rfl fun a w hS hE => OpTo.ixW gW (i - 16) (by omega) rfl (hE 5 (by kernel_rfl)) (hE 41 (by kernel_rfl)) ⟨dOfW.of 42 rfl rfl, Touch.refl _ _⟩) ?_
            refine FStepsW.cons (FStepW.plain rfl fun a w hS hE => OpTo.ldU gW (i - 16) _ rfl (hE 42 (by kernel_rfl)) (((HW.out.touch hS (by simp)).cell _).trans (HC.out (i - 16) (by omega))) ⟨dOfW.of 43 rfl rfl, Touch.refl _ _⟩) ?_
            refine FStepsW.cons (FStepW.plain rfl fun a w hS hE => OpTo.move rfl ⟨dOfW.of 44 rfl (hE 6 (by kernel_rfl)), Touch.refl _ _⟩) ?_
            refine FStepsW.cons (FStepW.plain rfl fun a w hS hE => OpTo.subN i 7 (by omega) (by omega) rfl (hE 44 (by kernel_rfl)) rfl ⟨dOfW.of 45 rfl rfl, Touch.refl _ _⟩) ?_
            refine FStepsW.cons (FStepW.plain rfl fun a w hS hE => OpTo.ixW gW (i - 7) (by omega) rfl (hE 5 (by kernel_rfl)) (hE 45 (by kernel_rfl)) ⟨dOfW.of 46 rfl rfl, Touch.refl _ _⟩) ?_
            refine FStepsW.cons (FStepW.plain rfl fun a w hS hE => OpTo.ldU gW (i - 7) _ rfl (hE 46 (by kernel_rfl)) (((HW.out.touch hS (by simp)).cell _).trans (HC.out (i - 7) (by omega))) ⟨dOfW.of 47 rfl rfl, Touch.refl _ _⟩) ?_
            refine FStepsW.cons (FStepW.plain rfl fun a w hS hE => OpTo.addN ((wpre B i).getD (i - 16) 0) ((wpre B i).getD (i - 7) 0) rfl (hE 43 (by kernel_rfl)) (hE 47 (by kernel_rfl)) ⟨dOfW.of 48 rfl rfl, Touch.refl _ _⟩) ?_
            refine FStepsW.cons (FStepW.plain rfl fun a w hS hE => OpTo.move rfl ⟨dOfW.of 49 rfl (hE 7 (by kernel_rfl)), Touch.refl _ _⟩) ?_
            refine FStepsW.cons (FStepW.plain rfl fun a w hS hE => OpTo.call #[.int .u64 ((x : Nat) : Int), .int .i64 ((1 : Nat) : Int)] rfl Tryd.func28 (by kernel_rfl) (by kernel_rfl) (argsW2 (hE 49 (by kernel_rfl)) rfl) ((HTu.out (x) 1 (by decide) (by decide) w).mono fun _ _ h => callsW 50 rfl (fun _ _ h => h) h)) ?_
            refine FStepsW.cons (FStepW.plain rfl fun a w hS hE => OpTo.move rfl ⟨dOfW.of 51 rfl (hE 7 (by kernel_rfl)), Touch.refl _ _⟩) ?_
            refine FStepsW.cons (FStepW.plain rfl fun a w hS hE => OpTo.call #[.int .u64 ((x : Nat) : Int), .int .i64 ((8 : Nat) : Int)] rfl Tryd.func28 (by kernel_rfl) (by kernel_rfl) (argsW2 (hE 51 (by kernel_rfl)) rfl) ((HTu.out (x) 8 (by decide) (by decide) w).mono fun _ _ h => callsW 52 rfl (fun _ _ h => h) h)) ?_
            refine FStepsW.cons (FStepW.plain rfl fun a w hS hE => OpTo.xorN (rot (x) 1) (rot (x) 8) rfl (hE 50 (by kernel_rfl)) (hE 52 (by kernel_rfl)) ⟨dOfW.of 53 rfl rfl, Touch.refl _ _⟩) ?_
            refine FStepsW.cons (FStepW.plain rfl fun a w hS hE => OpTo.move rfl ⟨dOfW.of 54 rfl (hE 7 (by kernel_rfl)), Touch.refl _ _⟩) ?_
            refine FStepsW.cons (FStepW.plain rfl fun a w hS hE => OpTo.shrN (x) 7 (by decide) rfl (hE 54 (by kernel_rfl)) rfl ⟨dOfW.of 55 rfl rfl, Touch.refl _ _⟩) ?_
            refine FStepsW.cons (FStepW.plain rfl fun a w hS hE => OpTo.xorN (xo (rot (x) 1) (rot (x) 8)) (x / 2 ^ 7) rfl (hE 53 (by kernel_rfl)) (hE 55 (by kernel_rfl)) ⟨dOfW.of 56 rfl rfl, Touch.refl _ _⟩) ?_
            refine FStepsW.cons (FStepW.plain rfl fun a w hS hE => OpTo.addN (ad ((wpre B i).getD (i - 16) 0) ((wpre B i).getD (i - 7) 0)) (xo (xo (rot (x) 1) (rot (x) 8)) (x / 2 ^ 7)) rfl (hE 48 (by kernel_rfl)) (hE 56 (by kernel_rfl)) ⟨dOfW.of 57 rfl rfl, Touch.refl _ _⟩) ?_
            refine FStepsW.cons (FStepW.plain rfl fun a w hS hE => OpTo.move rfl ⟨dOfW.of 58 rfl (hE 8 (by kernel_rfl)), Touch.refl _ _⟩) ?_
            refine FStepsW.cons (FStepW.plain rfl fun a w hS hE => OpTo.call #[.int .u64 ((y : Nat) : Int), .int .i64 ((19 : Nat) : Int)] rfl Tryd.func28 (by kernel_rfl) (by kernel_rfl) (argsW2 (hE 58 (by kernel_rfl)) rfl) ((HTu.out (y) 19 (by decide) (by decide) w).mono fun _ _ h => callsW 59 rfl (fun _ _ h => h) h)) ?_
            refine FStepsW.cons (FStepW.plain rfl fun a w hS hE => OpTo.move rfl ⟨dOfW.of 60 rfl (hE 8 (by kernel_rfl)), Touch.refl _ _⟩) ?_
            refine FStepsW.cons (FStepW.plain rfl fun a w hS hE => OpTo.call #[.int .u64 ((y : Nat) : Int), .int .i64 ((61 : Nat) : Int)] rfl Tryd.func28 (by kernel_rfl) (by kernel_rfl) (argsW2 (hE 60 (by kernel_rfl)) rfl) ((HTu.out (y) 61 (by decide) (by decide) w).mono fun _ _ h => callsW 61 rfl (fun _ _ h => h) h)) ?_
            refine FStepsW.cons (FStepW.plain rfl fun a w hS hE => OpTo.xorN (rot (y) 19) (rot (y) 61) rfl (hE 59 (by kernel_rfl)) (hE 61 (by kernel_rfl)) ⟨dOfW.of 62 rfl rfl, Touch.refl _ _⟩) ?_
            refine FStepsW.cons (FStepW.plain rfl fun a w hS hE => OpTo.move rfl ⟨dOfW.of 63 rfl (hE 8 (by kernel_rfl)), Touch.refl _ _⟩) ?_
            refine FStepsW.cons (FStepW.plain rfl fun a w hS hE => OpTo.shrN (y) 6 (by decide) rfl (hE 63 (by kernel_rfl)) rfl ⟨dOfW.of 64 rfl rfl, Touch.refl _ _⟩) ?_
            refine FStepsW.cons (FStepW.plain rfl fun a w hS hE => OpTo.xorN (xo (rot (y) 19) (rot (y) 61)) (y / 2 ^ 6) rfl (hE 62 (by kernel_rfl)) (hE 64 (by kernel_rfl)) ⟨dOfW.of 65 rfl rfl, Touch.refl _ _⟩) ?_
            refine FStepsW.cons (FStepW.plain rfl fun a w hS hE => OpTo.addN (ad (ad ((wpre B i).getD (i - 16) 0) ((wpre B i).getD (i - 7) 0)) (xo (xo (rot (x) 1) (rot (x) 8)) (x / 2 ^ 7))) (xo (xo (rot (y) 19) (rot (y) 61)) (y / 2 ^ 6)) rfl (hE 57 (by kernel_rfl)) (hE 65 (by kernel_rfl)) ⟨dOfW.of 66 rfl rfl, Touch.refl _ _⟩) ?_
            refine FStepsW.cons (FStepW.plain rfl fun a w hS hE => OpTo.ixW gW i (by omega) rfl (hE 5 (by kernel_rfl)) (hE 39 (by kernel_rfl)) ⟨dOfW.of 67 rfl rfl, Touch.refl _ _⟩) ?_
            exact FStepsW.nil
          intro f wx hS hF
          obtain ⟨h66, h67, -⟩ := hF
          replace h66 : f 66 = .int .u64 ((ad (ad (ad ((wpre B i).getD (i - 16) 0) ((wpre B i).getD (i - 7) 0)) (xo (xo (rot (x) 1) (rot (x) 8)) (x / 2 ^ 7))) (xo (xo (rot (y) 19) (rot (y) 61)) (y / 2 ^ 6)) : Nat) : Int) := h66
          replace h67 : f 67 = .pointer (some ⟨gW, i, none⟩) := h67
          simp only [setAll, List.setIfInBounds_toArray, List.set_cons_zero, List.set_cons_succ, h66, h67]
          show wpList _ _ _ [_] _ _
          -- END
          rw [Hx.out]
          obtain ⟨f1, f2, HFin⟩ := HF.out wx _ rfl (HW.out.touch hS (by simp)) (HR2.out.touch hS (by simp)) (HO2.out.touch hS (by simp)) (HT2.out.trans hS)
          clear h66 h67 hS HF HW HR2 HO2 HT2 Hx
          go_wp2_with fail
          go_roundw
          case rel => exact ⟨i + 1, by omega, by go_num, HFin.out⟩
          case measure => simp [intOf]; omega
      · obtain rfl : i = 80 := by omega
        go_wp2_with fail
        go_meet
        exact ⟨HW.out, HR.out, HO.out, HT.out⟩
  case rest =>
    obtain ⟨hW, hR, hO, hT⟩ := hcut
    clear HW1 HR1 HO1 HT1
    have HO := Lib.hid hO
    have HC : Hid (∀ j, j < 80 → (cellsN (wrow B 80)).toArray[j]? = some (.int .u64 (((wpre B 80).getD j 0 : Nat) : Int))) := Lib.hid (fun j hj => by
      rw [List.getElem?_toArray, cellsN_at (by rw [wrow_len B (by omega)]; exact hj), wrow_at B hj])
    have hgs : gW < wc.heap.size := hW.lt
    have hgs2 : gt < wc.heap.size := hO.lt
    have hgs3 : gR < wc.heap.size := hR.lt
    go_upto_region 10 with fail
    go_wp2_with (first | (refine wpList_loadS rfl (.tmp 2) rfl gt rfl 37 st Hst.out HO.out ?_) | (refine wpList_storeS rfl (.tmp 9) (.tmp 69) rfl _ rfl st rfl 37 _ Hst.out rfl (Blk.new _ _ _) ?_))
    have HG1 : Hid (Blk ((wc.alloc (.cells #[.int .u64 0, .int .u64 0, .int .u64 0, .int .u64 0, .int .u64 0, .int .u64 0, .int .u64 0, .int .u64 0] 37)).setRow wc.heap.size (cellsN st).toArray) wc.heap.size 37 (cellsN st).toArray) := Lib.hid ((Blk.new _ _ _).srow _)
    have HW1 := Lib.hid (((hW.alloc (.cells #[.int .u64 0, .int .u64 0, .int .u64 0, .int .u64 0, .int .u64 0, .int .u64 0, .int .u64 0, .int .u64 0] 37))).frow (Nat.ne_of_lt hgs) (cellsN st).toArray)
    have HR1 := Lib.hid (((hR.alloc (.cells #[.int .u64 0, .int .u64 0, .int .u64 0, .int .u64 0, .int .u64 0, .int .u64 0, .int .u64 0, .int .u64 0] 37))).frow (Nat.ne_of_lt hgs3) (cellsN st).toArray)
    have HO1 := Lib.hid (((hO.alloc (.cells #[.int .u64 0, .int .u64 0, .int .u64 0, .int .u64 0, .int .u64 0, .int .u64 0, .int .u64 0, .int .u64 0] 37))).frow (Nat.ne_of_lt hgs2) (cellsN st).toArray)
    have HT1 := Lib.hid ((hT.alloc (.cells #[.int .u64 0, .int .u64 0, .int .u64 0, .int .u64 0, .int .u64 0, .int .u64 0, .int .u64 0, .int .u64 0] 37)).srow (g := wc.heap.size) (.inr hT.size) (cellsN st).toArray)
    obtain ⟨gs, hge⟩ : ∃ gs, gs = wc.heap.size := ⟨_, rfl⟩
    have hgw : w.heap.size ≤ gs := by rw [hge]; exact hT.size
    rw [← hge] at HG1 HW1 HR1 HO1 HT1 hgs hgs2 hgs3 ⊢
    generalize (wc.alloc (.cells #[.int .u64 0, .int .u64 0, .int .u64 0, .int .u64 0, .int .u64 0, .int .u64 0, .int .u64 0, .int .u64 0] 37)).setRow gs (cellsN st).toArray = w2 at *
    have Hgn := Lib.hid (And.intro hgs (And.intro hgs2 (And.intro hgs3 hgw)))
    clear hW hR hO hT HO hgs hgs2 hgs3 hge hgw
    have H8 : Hid (∀ s : List Nat, s.length = 8 → ∀ k, k < 8 → (cellsN s).toArray[k]? = some (.int .u64 ((s.getD k 0 : Nat) : Int))) := Lib.hid (fun s hs k hk => by rw [List.getElem?_toArray, cellsN_at (by omega)])
    go_loopw [70] (fun vi wr => ∃ i : Nat, i ≤ 80 ∧ vi = .int .i64 i ∧ Blk wr gs 37 (cellsN (rnds st (wpre B 80) i)).toArray ∧ Blk wr gW 58 (cellsN (wrow B 80)).toArray ∧ Blk wr gR 37 (cellsN [0, 0, 0, 0, 0, 0, 0, 0]).toArray ∧ Blk wr gt 37 (cellsN st).toArray ∧ Touch [] w wr) (fun vi _ => 80 - (intOf vi).toNat)
    case atStart => exact ⟨0, by omega, rfl, HG1.out, HW1.out, HR1.out, HO1.out, HT1.out⟩
    case round =>
      obtain ⟨i, hi, rfl, hG, hW, hR, hO, hT⟩ := hrel
      clear HG1 HW1 HR1 HO1 HT1
      have HG := Lib.hid hG
      have HW := Lib.hid hW
      have HR := Lib.hid hR
      have HO := Lib.hid hO
      have HT := Lib.hid hT
      have Hsl := Lib.hid (rnds_len Hst.out (wpre B 80) i)
      clear hG hW hR hO hT
      by_cases hlt : i < 80
      · have Hnx := Lib.hid (show rnds st (wpre B 80) (i + 1) = rnd (rnds st (wpre B 80) i) (keyS.getD i 0) ((wpre B 80).getD i 0) from rfl)
        obtain ⟨s, hs⟩ : ∃ s, s = rnds st (wpre B 80) i := ⟨_, rfl⟩
        rw [← hs] at HG Hsl Hnx
        have HCs := Lib.hid (H8.out s Hsl.out)
        have HV := Lib.hid (HV0.out.touch HT.out)
        clear hs
        go_upto_region 14 with fail
        -- WFLOW eat14
        refine wp_region_flowT (by kernel_rfl) 6 (lookW [(9, pu (isV (.pointer (some ⟨gs, 0, none⟩)))), (73, pu (isV (.pointer (some ⟨gs, 0, none⟩)))), (74, pu (isV (.int .u64 ((s.getD 0 0 : Nat) : Int)))), (75, pu (isV (.pointer (some ⟨gs, 4, none⟩)))), (76, pu (isV (.int .u64 ((s.getD 4 0 : Nat) : Int)))), (11, pu (isV (.int .u64 ((s.getD 0 0 : Nat) : Int)))), (12, pu (isV (.int .u64 ((s.getD 4 0 : Nat) : Int))))]) [9] [73, 74, 75, 76, 11, 12] [11, 12] (by kernel_rfl) (by kernel_rfl) (by kernel_rfl) (by kernel_rfl) ⟨rfl, trivial⟩ ?_ ?_
        · refine FStepsW.cons (FStepW.plain rfl fun a w hS hE => OpTo.ixS gs 0 (by omega) rfl (hE 9 (by kernel_rfl)) rfl ⟨dOfW.of 73 rfl rfl, Touch.refl _ _⟩) ?_
          refine FStepsW.cons (FStepW.plain rfl fun a w hS hE => OpTo.ldU gs (0) _ rfl (hE 73 (by kernel_rfl)) (((HG.out.touch hS (by simp)).cell _).trans (HCs.out 0 (by omega))) ⟨dOfW.of 74 rfl rfl, Touch.refl _ _⟩) ?_
          refine FStepsW.cons (FStepW.plain rfl fun a w hS hE => OpTo.ixS gs 4 (by omega) rfl (hE 9 (by kernel_rfl)) rfl ⟨dOfW.of 75 rfl rfl, Touch.refl _ _⟩) ?_
          refine FStepsW.cons (FStepW.plain rfl fun a w hS hE => OpTo.ldU gs (4) _ rfl (hE 75 (by kernel_rfl)) (((HG.out.touch hS (by simp)).cell _).trans (HCs.out 4 (by omega))) ⟨dOfW.of 76 rfl rfl, Touch.refl _ _⟩) ?_
          refine FStepsW.cons (FStepW.plain rfl fun a w hS hE => OpTo.assign rfl ⟨dOfW.of 11 rfl (hE 74 (by kernel_rfl)), Touch.refl _ _⟩) ?_
          refine FStepsW.cons (FStepW.plain rfl fun a w hS hE => OpTo.assign rfl ⟨dOfW.of 12 rfl (hE 76 (by kernel_rfl)), Touch.refl _ _⟩) ?_
          exact FStepsW.nil
        intro f wx hS hF
        obtain ⟨h11, h12, -⟩ := hF
        replace h11 : f 11 = .int .u64 ((s.getD 0 0 : Nat) : Int) := h11
        replace h12 : f 12 = .int .u64 ((s.getD 4 0 : Nat) : Int) := h12
        simp only [setAll, List.setIfInBounds_toArray, List.set_cons_zero, List.set_cons_succ, h11, h12]
        show wpList _ _ _ [] _ _
        -- END
        have HG2 := Lib.hid (HG.out.touch hS (by simp))
        have HW2 := Lib.hid (HW.out.touch hS (by simp))
        have HR2 := Lib.hid (HR.out.touch hS (by simp))
        have HO2 := Lib.hid (HO.out.touch hS (by simp))
        have HT2 := Lib.hid (HT.out.trans hS)
        have HV2 := Lib.hid (HV.out.touch hS)
        clear h11 h12 hS HG HW HR HO HT HV
        have HG := HG2
        have HW := HW2
        have HV := HV2
        clear HG2 HW2 HV2
        go_wp2_with fail
        go_upto_region 15 with fail
        -- WFLOW eat15
        refine wp_region_flowT (by kernel_rfl) 31 (lookW [(5, pu (isV (.pointer (some ⟨gW, 0, none⟩)))), (9, pu (isV (.pointer (some ⟨gs, 0, none⟩)))), (10, pu (isV (.int .i64 ((i : Nat) : Int)))), (12, pu (isV (.int .u64 ((s.getD 4 0 : Nat) : Int)))), (77, pu (isV (.pointer (some ⟨gs, 7, none⟩)))), (78, pu (isV (.int .u64 ((s.getD 7 0 : Nat) : Int)))), (79, pu (isV (.int .u64 ((s.getD 4 0 : Nat) : Int)))), (80, pu (isV (.int .u64 ((rot (s.getD 4 0) 14 : Nat) : Int)))), (81, pu (isV (.int .u64 ((s.getD 4 0 : Nat) : Int)))), (82, pu (isV (.int .u64 ((rot (s.getD 4 0) 18 : Nat) : Int)))), (83, pu (isV (.int .u64 ((xo (rot (s.getD 4 0) 14) (rot (s.getD 4 0) 18) : Nat) : Int)))), (84, pu (isV (.int .u64 ((s.getD 4 0 : Nat) : Int)))), (85, pu (isV (.int .u64 ((rot (s.getD 4 0) 41 : Nat) : Int)))), (86, pu (isV (.int .u64 ((xo (xo (rot (s.getD 4 0) 14) (rot (s.getD 4 0) 18)) (rot (s.getD 4 0) 41) : Nat) : Int)))), (87, pu (isV (.int .u64 ((ad (s.getD 7 0) (xo (xo (rot (s.getD 4 0) 14) (rot (s.getD 4 0) 18)) (rot (s.getD 4 0) 41)) : Nat) : Int)))), (88, pu (isV (.int .u64 ((s.getD 4 0 : Nat) : Int)))), (89, pu (isV (.pointer (some ⟨gs, 5, none⟩)))), (90, pu (isV (.int .u64 ((s.getD 5 0 : Nat) : Int)))), (91, pu (isV (.int .u64 ((an (s.getD 4 0) (s.getD 5 0) : Nat) : Int)))), (92, pu (isV (.int .u64 ((s.getD 4 0 : Nat) : Int)))), (93, pu (isV (.int .u64 ((nt (s.getD 4 0) : Nat) : Int)))), (94, pu (isV (.pointer (some ⟨gs, 6, none⟩)))), (95, pu (isV (.int .u64 ((s.getD 6 0 : Nat) : Int)))), (96, pu (isV (.int .u64 ((an (nt (s.getD 4 0)) (s.getD 6 0) : Nat) : Int)))), (97, pu (isV (.int .u64 ((xo (an (s.getD 4 0) (s.getD 5 0)) (an (nt (s.getD 4 0)) (s.getD 6 0)) : Nat) : Int)))), (98, pu (isV (.int .u64 ((ad (ad (s.getD 7 0) (xo (xo (rot (s.getD 4 0) 14) (rot (s.getD 4 0) 18)) (rot (s.getD 4 0) 41))) (xo (an (s.getD 4 0) (s.getD 5 0)) (an (nt (s.getD 4 0)) (s.getD 6 0))) : Nat) : Int)))), (99, pu (isV (.int .i64 ((i : Nat) : Int)))), (100, pu (isV (.pointer (some ⟨1, i, none⟩)))), (101, pu (isV (.int .u64 ((keyS.getD i 0 : Nat) : Int)))), (102, pu (isV (.int .u64 ((ad (ad (ad (s.getD 7 0) (xo (xo (rot (s.getD 4 0) 14) (rot (s.getD 4 0) 18)) (rot (s.getD 4 0) 41))) (xo (an (s.getD 4 0) (s.getD 5 0)) (an (nt (s.getD 4 0)) (s.getD 6 0)))) (keyS.getD i 0) : Nat) : Int)))), (103, pu (isV (.int .i64 ((i : Nat) : Int)))), (104, pu (isV (.pointer (some ⟨gW, i, none⟩)))), (105, pu (isV (.int .u64 (((wpre B 80).getD i 0 : Nat) : Int)))), (106, pu (isV (.int .u64 ((ad (ad (ad (ad (s.getD 7 0) (xo (xo (rot (s.getD 4 0) 14) (rot (s.getD 4 0) 18)) (rot (s.getD 4 0) 41))) (xo (an (s.getD 4 0) (s.getD 5 0)) (an (nt (s.getD 4 0)) (s.getD 6 0)))) (keyS.getD i 0)) ((wpre B 80).getD i 0) : Nat) : Int)))), (13, pu (isV (.int .u64 ((ad (ad (ad (ad (s.getD 7 0) (xo (xo (rot (s.getD 4 0) 14) (rot (s.getD 4 0) 18)) (rot (s.getD 4 0) 41))) (xo (an (s.getD 4 0) (s.getD 5 0)) (an (nt (s.getD 4 0)) (s.getD 6 0)))) (keyS.getD i 0)) ((wpre B 80).getD i 0) : Nat) : Int))))]) [5, 9, 10, 12] [77, 78, 79, 80, 81, 82, 83, 84, 85, 86, 87, 88, 89, 90, 91, 92, 93, 94, 95, 96, 97, 98, 99, 100, 101, 102, 103, 104, 105, 106, 13] [13] (by kernel_rfl) (by kernel_rfl) (by kernel_rfl) (by kernel_rfl) ⟨rfl, rfl, rfl, rfl, trivial⟩ ?_ ?_
        · refine FStepsW.cons (FStepW.plain rfl fun a w hS hE => OpTo.ixS gs 7 (by omega) rfl (hE 9 (by kernel_rfl)) rfl ⟨dOfW.of 77 rfl rfl, Touch.refl _ _⟩) ?_
          refine FStepsW.cons (FStepW.plain rfl fun a w hS hE => OpTo.ldU gs (7) _ rfl (hE 77 (by kernel_rfl)) (((HG.out.touch hS (by simp)).cell _).trans (HCs.out 7 (by omega))) ⟨dOfW.of 78 rfl rfl, Touch.refl _ _⟩) ?_
          refine FStepsW.cons (FStepW.plain rfl fun a w hS hE => OpTo.move rfl ⟨dOfW.of 79 rfl (hE 12 (by kernel_rfl)), Touch.refl _ _⟩) ?_
          refine FStepsW.cons (FStepW.plain rfl fun a w hS hE => OpTo.call #[.int .u64 ((s.getD 4 0 : Nat) : Int), .int .i64 ((14 : Nat) : Int)] rfl Tryd.func28 (by kernel_rfl) (by kernel_rfl) (argsW2 (hE 79 (by kernel_rfl)) rfl) ((HTu.out (s.getD 4 0) 14 (by decide) (by decide) w).mono fun _ _ h => callsW 80 rfl (fun _ _ h => h) h)) ?_
          refine FStepsW.cons (FStepW.plain rfl fun a w hS hE => OpTo.move rfl ⟨dOfW.of 81 rfl (hE 12 (by kernel_rfl)), Touch.refl _ _⟩) ?_
          refine FStepsW.cons (FStepW.plain rfl fun a w hS hE => OpTo.call #[.int .u64 ((s.getD 4 0 : Nat) : Int), .int .i64 ((18 : Nat) : Int)] rfl Tryd.func28 (by kernel_rfl) (by kernel_rfl) (argsW2 (hE 81 (by kernel_rfl)) rfl) ((HTu.out (s.getD 4 0) 18 (by decide) (by decide) w).mono fun _ _ h => callsW 82 rfl (fun _ _ h => h) h)) ?_
          refine FStepsW.cons (FStepW.plain rfl fun a w hS hE => OpTo.xorN (rot (s.getD 4 0) 14) (rot (s.getD 4 0) 18) rfl (hE 80 (by kernel_rfl)) (hE 82 (by kernel_rfl)) ⟨dOfW.of 83 rfl rfl, Touch.refl _ _⟩) ?_
          refine FStepsW.cons (FStepW.plain rfl fun a w hS hE => OpTo.move rfl ⟨dOfW.of 84 rfl (hE 12 (by kernel_rfl)), Touch.refl _ _⟩) ?_
          refine FStepsW.cons (FStepW.plain rfl fun a w hS hE => OpTo.call #[.int .u64 ((s.getD 4 0 : Nat) : Int), .int .i64 ((41 : Nat) : Int)] rfl Tryd.func28 (by kernel_rfl) (by kernel_rfl) (argsW2 (hE 84 (by kernel_rfl)) rfl) ((HTu.out (s.getD 4 0) 41 (by decide) (by decide) w).mono fun _ _ h => callsW 85 rfl (fun _ _ h => h) h)) ?_
          refine FStepsW.cons (FStepW.plain rfl fun a w hS hE => OpTo.xorN (xo (rot (s.getD 4 0) 14) (rot (s.getD 4 0) 18)) (rot (s.getD 4 0) 41) rfl (hE 83 (by kernel_rfl)) (hE 85 (by kernel_rfl)) ⟨dOfW.of 86 rfl rfl, Touch.refl _ _⟩) ?_
          refine FStepsW.cons (FStepW.plain rfl fun a w hS hE => OpTo.addN (s.getD 7 0) (xo (xo (rot (s.getD 4 0) 14) (rot (s.getD 4 0) 18)) (rot (s.getD 4 0) 41)) rfl (hE 78 (by kernel_rfl)) (hE 86 (by kernel_rfl)) ⟨dOfW.of 87 rfl rfl, Touch.refl _ _⟩) ?_
          refine FStepsW.cons (FStepW.plain rfl fun a w hS hE => OpTo.move rfl ⟨dOfW.of 88 rfl (hE 12 (by kernel_rfl)), Touch.refl _ _⟩) ?_
          refine FStepsW.cons (FStepW.plain rfl fun a w hS hE => OpTo.ixS gs 5 (by omega) rfl (hE 9 (by kernel_rfl)) rfl ⟨dOfW.of 89 rfl rfl, Touch.refl _ _⟩) ?_
          refine FStepsW.cons (FStepW.plain rfl fun a w hS hE => OpTo.ldU gs (5) _ rfl (hE 89 (by kernel_rfl)) (((HG.out.touch hS (by simp)).cell _).trans (HCs.out 5 (by omega))) ⟨dOfW.of 90 rfl rfl, Touch.refl _ _⟩) ?_
          refine FStepsW.cons (FStepW.plain rfl fun a w hS hE => OpTo.andN (s.getD 4 0) (s.getD 5 0) rfl (hE 88 (by kernel_rfl)) (hE 90 (by kernel_rfl)) ⟨dOfW.of 91 rfl rfl, Touch.refl _ _⟩) ?_
          refine FStepsW.cons (FStepW.plain rfl fun a w hS hE => OpTo.move rfl ⟨dOfW.of 92 rfl (hE 12 (by kernel_rfl)), Touch.refl _ _⟩) ?_
          refine FStepsW.cons (FStepW.plain rfl fun a w hS hE => OpTo.notN (s.getD 4 0) rfl (hE 92 (by kernel_rfl)) ⟨dOfW.of 93 rfl rfl, Touch.refl _ _⟩) ?_
          refine FStepsW.cons (FStepW.plain rfl fun a w hS hE => OpTo.ixS gs 6 (by omega) rfl (hE 9 (by kernel_rfl)) rfl ⟨dOfW.of 94 rfl rfl, Touch.refl _ _⟩) ?_
          refine FStepsW.cons (FStepW.plain rfl fun a w hS hE => OpTo.ldU gs (6) _ rfl (hE 94 (by kernel_rfl)) (((HG.out.touch hS (by simp)).cell _).trans (HCs.out 6 (by omega))) ⟨dOfW.of 95 rfl rfl, Touch.refl _ _⟩) ?_
          refine FStepsW.cons (FStepW.plain rfl fun a w hS hE => OpTo.andN (nt (s.getD 4 0)) (s.getD 6 0) rfl (hE 93 (by kernel_rfl)) (hE 95 (by kernel_rfl)) ⟨dOfW.of 96 rfl rfl, Touch.refl _ _⟩) ?_
          refine FStepsW.cons (FStepW.plain rfl fun a w hS hE => OpTo.xorN (an (s.getD 4 0) (s.getD 5 0)) (an (nt (s.getD 4 0)) (s.getD 6 0)) rfl (hE 91 (by kernel_rfl)) (hE 96 (by kernel_rfl)) ⟨dOfW.of 97 rfl rfl, Touch.refl _ _⟩) ?_
          refine FStepsW.cons (FStepW.plain rfl fun a w hS hE => OpTo.addN (ad (s.getD 7 0) (xo (xo (rot (s.getD 4 0) 14) (rot (s.getD 4 0) 18)) (rot (s.getD 4 0) 41))) (xo (an (s.getD 4 0) (s.getD 5 0)) (an (nt (s.getD 4 0)) (s.getD 6 0))) rfl (hE 87 (by kernel_rfl)) (hE 97 (by kernel_rfl)) ⟨dOfW.of 98 rfl rfl, Touch.refl _ _⟩) ?_
          refine FStepsW.cons (FStepW.plain rfl fun a w hS hE => OpTo.move rfl ⟨dOfW.of 99 rfl (hE 10 (by kernel_rfl)), Touch.refl _ _⟩) ?_
          refine FStepsW.cons (FStepW.plain rfl fun a w hS hE => OpTo.ixW 1 i (by omega) rfl rfl (hE 99 (by kernel_rfl)) ⟨dOfW.of 100 rfl rfl, Touch.refl _ _⟩) ?_
          refine FStepsW.cons (FStepW.plain rfl fun a w hS hE => OpTo.ldU 1 (i) _ rfl (hE 100 (by kernel_rfl)) ((HV.out.touch hS).key i (by omega)) ⟨dOfW.of 101 rfl rfl, Touch.refl _ _⟩) ?_
          refine FStepsW.cons (FStepW.plain rfl fun a w hS hE => OpTo.addN (ad (ad (s.getD 7 0) (xo (xo (rot (s.getD 4 0) 14) (rot (s.getD 4 0) 18)) (rot (s.getD 4 0) 41))) (xo (an (s.getD 4 0) (s.getD 5 0)) (an (nt (s.getD 4 0)) (s.getD 6 0)))) (keyS.getD i 0) rfl (hE 98 (by kernel_rfl)) (hE 101 (by kernel_rfl)) ⟨dOfW.of 102 rfl rfl, Touch.refl _ _⟩) ?_
          refine FStepsW.cons (FStepW.plain rfl fun a w hS hE => OpTo.move rfl ⟨dOfW.of 103 rfl (hE 10 (by kernel_rfl)), Touch.refl _ _⟩) ?_
          refine FStepsW.cons (FStepW.plain rfl fun a w hS hE => OpTo.ixW gW i (by omega) rfl (hE 5 (by kernel_rfl)) (hE 103 (by kernel_rfl)) ⟨dOfW.of 104 rfl rfl, Touch.refl _ _⟩) ?_
          refine FStepsW.cons (FStepW.plain rfl fun a w hS hE => OpTo.ldU gW (i) _ rfl (hE 104 (by kernel_rfl)) (((HW.out.touch hS (by simp)).cell _).trans (HC.out i (by omega))) ⟨dOfW.of 105 rfl rfl, Touch.refl _ _⟩) ?_
          refine FStepsW.cons (FStepW.plain rfl fun a w hS hE => OpTo.addN (ad (ad (ad (s.getD 7 0) (xo (xo (rot (s.getD 4 0) 14) (rot (s.getD 4 0) 18)) (rot (s.getD 4 0) 41))) (xo (an (s.getD 4 0) (s.getD 5 0)) (an (nt (s.getD 4 0)) (s.getD 6 0)))) (keyS.getD i 0)) ((wpre B 80).getD i 0) rfl (hE 102 (by kernel_rfl)) (hE 105 (by kernel_rfl)) ⟨dOfW.of 106 rfl rfl, Touch.refl _ _⟩) ?_
          refine FStepsW.cons (FStepW.plain rfl fun a w hS hE => OpTo.assign rfl ⟨dOfW.of 13 rfl (hE 106 (by kernel_rfl)), Touch.refl _ _⟩) ?_
          exact FStepsW.nil
        intro f wx hS hF
        obtain ⟨h13, -⟩ := hF
        replace h13 : f 13 = .int .u64 ((rndX s (keyS.getD i 0) ((wpre B 80).getD i 0) : Nat) : Int) := h13
        simp only [setAll, List.setIfInBounds_toArray, List.set_cons_zero, List.set_cons_succ, h13]
        show wpList _ _ _ [] _ _
        -- END
        obtain ⟨X, hX⟩ : ∃ X, X = rndX s (keyS.getD i 0) ((wpre B 80).getD i 0) := ⟨_, rfl⟩
        rw [← hX]
        have HX := Lib.hid hX
        clear hX
        have HG2 := Lib.hid (HG.out.touch hS (by simp))
        have HW2 := Lib.hid (HW.out.touch hS (by simp))
        have HR3 := Lib.hid (HR2.out.touch hS (by simp))
        have HO3 := Lib.hid (HO2.out.touch hS (by simp))
        have HT3 := Lib.hid (HT2.out.trans hS)
        have HV2 := Lib.hid (HV.out.touch hS)
        clear h13 hS HG HW HR2 HO2 HT2 HV
        have HG := HG2
        have HW := HW2
        have HV := HV2
        have HR2 := HR3
        have HO2 := HO3
        have HT2 := HT3
        clear HG2 HW2 HV2 HR3 HO3 HT3
        go_wp2_with fail
        go_upto_region 16 with fail
        -- WFLOW eat16
        refine wp_region_flowT (by kernel_rfl) 25 (lookW [(9, pu (isV (.pointer (some ⟨gs, 0, none⟩)))), (11, pu (isV (.int .u64 ((s.getD 0 0 : Nat) : Int)))), (107, pu (isV (.int .u64 ((s.getD 0 0 : Nat) : Int)))), (108, pu (isV (.int .u64 ((rot (s.getD 0 0) 28 : Nat) : Int)))), (109, pu (isV (.int .u64 ((s.getD 0 0 : Nat) : Int)))), (110, pu (isV (.int .u64 ((rot (s.getD 0 0) 34 : Nat) : Int)))), (111, pu (isV (.int .u64 ((xo (rot (s.getD 0 0) 28) (rot (s.getD 0 0) 34) : Nat) : Int)))), (112, pu (isV (.int .u64 ((s.getD 0 0 : Nat) : Int)))), (113, pu (isV (.int .u64 ((rot (s.getD 0 0) 39 : Nat) : Int)))), (114, pu (isV (.int .u64 ((xo (xo (rot (s.getD 0 0) 28) (rot (s.getD 0 0) 34)) (rot (s.getD 0 0) 39) : Nat) : Int)))), (115, pu (isV (.int .u64 ((s.getD 0 0 : Nat) : Int)))), (116, pu (isV (.pointer (some ⟨gs, 1, none⟩)))), (117, pu (isV (.int .u64 ((s.getD 1 0 : Nat) : Int)))), (118, pu (isV (.int .u64 ((an (s.getD 0 0) (s.getD 1 0) : Nat) : Int)))), (119, pu (isV (.int .u64 ((s.getD 0 0 : Nat) : Int)))), (120, pu (isV (.pointer (some ⟨gs, 2, none⟩)))), (121, pu (isV (.int .u64 ((s.getD 2 0 : Nat) : Int)))), (122, pu (isV (.int .u64 ((an (s.getD 0 0) (s.getD 2 0) : Nat) : Int)))), (123, pu (isV (.int .u64 ((xo (an (s.getD 0 0) (s.getD 1 0)) (an (s.getD 0 0) (s.getD 2 0)) : Nat) : Int)))), (124, pu (isV (.pointer (some ⟨gs, 1, none⟩)))), (125, pu (isV (.int .u64 ((s.getD 1 0 : Nat) : Int)))), (126, pu (isV (.pointer (some ⟨gs, 2, none⟩)))), (127, pu (isV (.int .u64 ((s.getD 2 0 : Nat) : Int)))), (128, pu (isV (.int .u64 ((an (s.getD 1 0) (s.getD 2 0) : Nat) : Int)))), (129, pu (isV (.int .u64 ((xo (xo (an (s.getD 0 0) (s.getD 1 0)) (an (s.getD 0 0) (s.getD 2 0))) (an (s.getD 1 0) (s.getD 2 0)) : Nat) : Int)))), (130, pu (isV (.int .u64 ((ad (xo (xo (rot (s.getD 0 0) 28) (rot (s.getD 0 0) 34)) (rot (s.getD 0 0) 39)) (xo (xo (an (s.getD 0 0) (s.getD 1 0)) (an (s.getD 0 0) (s.getD 2 0))) (an (s.getD 1 0) (s.getD 2 0))) : Nat) : Int)))), (14, pu (isV (.int .u64 ((ad (xo (xo (rot (s.getD 0 0) 28) (rot (s.getD 0 0) 34)) (rot (s.getD 0 0) 39)) (xo (xo (an (s.getD 0 0) (s.getD 1 0)) (an (s.getD 0 0) (s.getD 2 0))) (an (s.getD 1 0) (s.getD 2 0))) : Nat) : Int))))]) [9, 11] [107, 108, 109, 110, 111, 112, 113, 114, 115, 116, 117, 118, 119, 120, 121, 122, 123, 124, 125, 126, 127, 128, 129, 130, 14] [14] (by kernel_rfl) (by kernel_rfl) (by kernel_rfl) (by kernel_rfl) ⟨rfl, rfl, trivial⟩ ?_ ?_
        · refine FStepsW.cons (FStepW.plain rfl fun a w hS hE => OpTo.move rfl ⟨dOfW.of 107 rfl (hE 11 (by kernel_rfl)), Touch.refl _ _⟩) ?_
          refine FStepsW.cons (FStepW.plain rfl fun a w hS hE => OpTo.call #[.int .u64 ((s.getD 0 0 : Nat) : Int), .int .i64 ((28 : Nat) : Int)] rfl Tryd.func28 (by kernel_rfl) (by kernel_rfl) (argsW2 (hE 107 (by kernel_rfl)) rfl) ((HTu.out (s.getD 0 0) 28 (by decide) (by decide) w).mono fun _ _ h => callsW 108 rfl (fun _ _ h => h) h)) ?_
          refine FStepsW.cons (FStepW.plain rfl fun a w hS hE => OpTo.move rfl ⟨dOfW.of 109 rfl (hE 11 (by kernel_rfl)), Touch.refl _ _⟩) ?_
          refine FStepsW.cons (FStepW.plain rfl fun a w hS hE => OpTo.call #[.int .u64 ((s.getD 0 0 : Nat) : Int), .int .i64 ((34 : Nat) : Int)] rfl Tryd.func28 (by kernel_rfl) (by kernel_rfl) (argsW2 (hE 109 (by kernel_rfl)) rfl) ((HTu.out (s.getD 0 0) 34 (by decide) (by decide) w).mono fun _ _ h => callsW 110 rfl (fun _ _ h => h) h)) ?_
          refine FStepsW.cons (FStepW.plain rfl fun a w hS hE => OpTo.xorN (rot (s.getD 0 0) 28) (rot (s.getD 0 0) 34) rfl (hE 108 (by kernel_rfl)) (hE 110 (by kernel_rfl)) ⟨dOfW.of 111 rfl rfl, Touch.refl _ _⟩) ?_
          refine FStepsW.cons (FStepW.plain rfl fun a w hS hE => OpTo.move rfl ⟨dOfW.of 112 rfl (hE 11 (by kernel_rfl)), Touch.refl _ _⟩) ?_
          refine FStepsW.cons (FStepW.plain rfl fun a w hS hE => OpTo.call #[.int .u64 ((s.getD 0 0 : Nat) : Int), .int .i64 ((39 : Nat) : Int)] rfl Tryd.func28 (by kernel_rfl) (by kernel_rfl) (argsW2 (hE 112 (by kernel_rfl)) rfl) ((HTu.out (s.getD 0 0) 39 (by decide) (by decide) w).mono fun _ _ h => callsW 113 rfl (fun _ _ h => h) h)) ?_
          refine FStepsW.cons (FStepW.plain rfl fun a w hS hE => OpTo.xorN (xo (rot (s.getD 0 0) 28) (rot (s.getD 0 0) 34)) (rot (s.getD 0 0) 39) rfl (hE 111 (by kernel_rfl)) (hE 113 (by kernel_rfl)) ⟨dOfW.of 114 rfl rfl, Touch.refl _ _⟩) ?_
          refine FStepsW.cons (FStepW.plain rfl fun a w hS hE => OpTo.move rfl ⟨dOfW.of 115 rfl (hE 11 (by kernel_rfl)), Touch.refl _ _⟩) ?_
          refine FStepsW.cons (FStepW.plain rfl fun a w hS hE => OpTo.ixS gs 1 (by omega) rfl (hE 9 (by kernel_rfl)) rfl ⟨dOfW.of 116 rfl rfl, Touch.refl _ _⟩) ?_
          refine FStepsW.cons (FStepW.plain rfl fun a w hS hE => OpTo.ldU gs (1) _ rfl (hE 116 (by kernel_rfl)) (((HG.out.touch hS (by simp)).cell _).trans (HCs.out 1 (by omega))) ⟨dOfW.of 117 rfl rfl, Touch.refl _ _⟩) ?_
          refine FStepsW.cons (FStepW.plain rfl fun a w hS hE => OpTo.andN (s.getD 0 0) (s.getD 1 0) rfl (hE 115 (by kernel_rfl)) (hE 117 (by kernel_rfl)) ⟨dOfW.of 118 rfl rfl, Touch.refl _ _⟩) ?_
          refine FStepsW.cons (FStepW.plain rfl fun a w hS hE => OpTo.move rfl ⟨dOfW.of 119 rfl (hE 11 (by kernel_rfl)), Touch.refl _ _⟩) ?_
          refine FStepsW.cons (FStepW.plain rfl fun a w hS hE => OpTo.ixS gs 2 (by omega) rfl (hE 9 (by kernel_rfl)) rfl ⟨dOfW.of 120 rfl rfl, Touch.refl _ _⟩) ?_
          refine FStepsW.cons (FStepW.plain rfl fun a w hS hE => OpTo.ldU gs (2) _ rfl (hE 120 (by kernel_rfl)) (((HG.out.touch hS (by simp)).cell _).trans (HCs.out 2 (by omega))) ⟨dOfW.of 121 rfl rfl, Touch.refl _ _⟩) ?_
          refine FStepsW.cons (FStepW.plain rfl fun a w hS hE => OpTo.andN (s.getD 0 0) (s.getD 2 0) rfl (hE 119 (by kernel_rfl)) (hE 121 (by kernel_rfl)) ⟨dOfW.of 122 rfl rfl, Touch.refl _ _⟩) ?_
          refine FStepsW.cons (FStepW.plain rfl fun a w hS hE => OpTo.xorN (an (s.getD 0 0) (s.getD 1 0)) (an (s.getD 0 0) (s.getD 2 0)) rfl (hE 118 (by kernel_rfl)) (hE 122 (by kernel_rfl)) ⟨dOfW.of 123 rfl rfl, Touch.refl _ _⟩) ?_
          refine FStepsW.cons (FStepW.plain rfl fun a w hS hE => OpTo.ixS gs 1 (by omega) rfl (hE 9 (by kernel_rfl)) rfl ⟨dOfW.of 124 rfl rfl, Touch.refl _ _⟩) ?_
          refine FStepsW.cons (FStepW.plain rfl fun a w hS hE => OpTo.ldU gs (1) _ rfl (hE 124 (by kernel_rfl)) (((HG.out.touch hS (by simp)).cell _).trans (HCs.out 1 (by omega))) ⟨dOfW.of 125 rfl rfl, Touch.refl _ _⟩) ?_
          refine FStepsW.cons (FStepW.plain rfl fun a w hS hE => OpTo.ixS gs 2 (by omega) rfl (hE 9 (by kernel_rfl)) rfl ⟨dOfW.of 126 rfl rfl, Touch.refl _ _⟩) ?_
          refine FStepsW.cons (FStepW.plain rfl fun a w hS hE => OpTo.ldU gs (2) _ rfl (hE 126 (by kernel_rfl)) (((HG.out.touch hS (by simp)).cell _).trans (HCs.out 2 (by omega))) ⟨dOfW.of 127 rfl rfl, Touch.refl _ _⟩) ?_
          refine FStepsW.cons (FStepW.plain rfl fun a w hS hE => OpTo.andN (s.getD 1 0) (s.getD 2 0) rfl (hE 125 (by kernel_rfl)) (hE 127 (by kernel_rfl)) ⟨dOfW.of 128 rfl rfl, Touch.refl _ _⟩) ?_
          refine FStepsW.cons (FStepW.plain rfl fun a w hS hE => OpTo.xorN (xo (an (s.getD 0 0) (s.getD 1 0)) (an (s.getD 0 0) (s.getD 2 0))) (an (s.getD 1 0) (s.getD 2 0)) rfl (hE 123 (by kernel_rfl)) (hE 128 (by kernel_rfl)) ⟨dOfW.of 129 rfl rfl, Touch.refl _ _⟩) ?_
          refine FStepsW.cons (FStepW.plain rfl fun a w hS hE => OpTo.addN (xo (xo (rot (s.getD 0 0) 28) (rot (s.getD 0 0) 34)) (rot (s.getD 0 0) 39)) (xo (xo (an (s.getD 0 0) (s.getD 1 0)) (an (s.getD 0 0) (s.getD 2 0))) (an (s.getD 1 0) (s.getD 2 0))) rfl (hE 114 (by kernel_rfl)) (hE 129 (by kernel_rfl)) ⟨dOfW.of 130 rfl rfl, Touch.refl _ _⟩) ?_
          refine FStepsW.cons (FStepW.plain rfl fun a w hS hE => OpTo.assign rfl ⟨dOfW.of 14 rfl (hE 130 (by kernel_rfl)), Touch.refl _ _⟩) ?_
          exact FStepsW.nil
        intro f wx hS hF
        obtain ⟨h14, -⟩ := hF
        replace h14 : f 14 = .int .u64 ((rndY s : Nat) : Int) := h14
        simp only [setAll, List.setIfInBounds_toArray, List.set_cons_zero, List.set_cons_succ, h14]
        show wpList _ _ _ [] _ _
        -- END
        obtain ⟨Y, hY⟩ : ∃ Y, Y = rndY s := ⟨_, rfl⟩
        rw [← hY]
        have HY := Lib.hid hY
        clear hY
        have HG2 := Lib.hid (HG.out.touch hS (by simp))
        have HW2 := Lib.hid (HW.out.touch hS (by simp))
        have HR3 := Lib.hid (HR2.out.touch hS (by simp))
        have HO3 := Lib.hid (HO2.out.touch hS (by simp))
        have HT3 := Lib.hid (HT2.out.trans hS)
        have HV2 := Lib.hid (HV.out.touch hS)
        clear h14 hS HG HW HR2 HO2 HT2 HV
        have HG := HG2
        have HW := HW2
        have HV := HV2
        have HR2 := HR3
        have HO2 := HO3
        have HT2 := HT3
        clear HG2 HW2 HV2 HR3 HO3 HT3
        have k1 := add_c X Y
        have k2 := add_c (s.getD 3 0) X
        have c0 : wx.cell? ⟨gs, 0, none⟩ = some (.int .u64 ((s.getD 0 0 : Nat) : Int)) := (HG.out.cell 0).trans (HCs.out 0 (by omega))
        have c1 : wx.cell? ⟨gs, 1, none⟩ = some (.int .u64 ((s.getD 1 0 : Nat) : Int)) := (HG.out.cell 1).trans (HCs.out 1 (by omega))
        have c2 : wx.cell? ⟨gs, 2, none⟩ = some (.int .u64 ((s.getD 2 0 : Nat) : Int)) := (HG.out.cell 2).trans (HCs.out 2 (by omega))
        have c3 : wx.cell? ⟨gs, 3, none⟩ = some (.int .u64 ((s.getD 3 0 : Nat) : Int)) := (HG.out.cell 3).trans (HCs.out 3 (by omega))
        have c4 : wx.cell? ⟨gs, 4, none⟩ = some (.int .u64 ((s.getD 4 0 : Nat) : Int)) := (HG.out.cell 4).trans (HCs.out 4 (by omega))
        have c5 : wx.cell? ⟨gs, 5, none⟩ = some (.int .u64 ((s.getD 5 0 : Nat) : Int)) := (HG.out.cell 5).trans (HCs.out 5 (by omega))
        have c6 : wx.cell? ⟨gs, 6, none⟩ = some (.int .u64 ((s.getD 6 0 : Nat) : Int)) := (HG.out.cell 6).trans (HCs.out 6 (by omega))
        have Hrd : Hid ([ad X Y, s.getD 0 0, s.getD 1 0, s.getD 2 0, ad (s.getD 3 0) X, s.getD 4 0, s.getD 5 0, s.getD 6 0] = rnds st (wpre B 80) (i + 1)) := Lib.hid (by rw [Hnx.out, HX.out, HY.out]; rfl)
        have hs8 : (cellsN s).toArray.size = 8 := by rw [cellsN_size]; exact Hsl.out
        generalize s.getD 0 0 = s0 at *
        generalize s.getD 1 0 = s1 at *
        generalize s.getD 2 0 = s2 at *
        generalize s.getD 3 0 = s3 at *
        generalize s.getD 4 0 = s4 at *
        generalize s.getD 5 0 = s5 at *
        generalize s.getD 6 0 = s6 at *
        clear HX HY Hnx HV HCs
        go_wp2_with (refine wpList_storeS rfl (.tmp 9) (.tmp 150) rfl gs rfl [ad X Y, s0, s1, s2, ad s3 X, s4, s5, s6] rfl 37 _ rfl hs8 HG.out ?_)
        rw [Hrd.out]
        have HGf := Lib.hid (HG.out.srow (cellsN (rnds st (wpre B 80) (i + 1))).toArray)
        have HWf := Lib.hid (HW.out.frow (Nat.ne_of_lt Hgn.out.1) (cellsN (rnds st (wpre B 80) (i + 1))).toArray)
        have HRf := Lib.hid (HR2.out.frow (Nat.ne_of_lt Hgn.out.2.2.1) (cellsN (rnds st (wpre B 80) (i + 1))).toArray)
        have HOf := Lib.hid (HO2.out.frow (Nat.ne_of_lt Hgn.out.2.1) (cellsN (rnds st (wpre B 80) (i + 1))).toArray)
        have HTf := Lib.hid (HT2.out.srow (g := gs) (.inr Hgn.out.2.2.2) (cellsN (rnds st (wpre B 80) (i + 1))).toArray)
        clear HG HW HR2 HO2 HT2 c0 c1 c2 c3 c4 c5 c6 k1 k2 Hrd
        go_wp2_with fail
        go_roundw
        case rel => exact ⟨i + 1, by omega, by go_num, HGf.out, HWf.out, HRf.out, HOf.out, HTf.out⟩
        case measure => simp [intOf]; omega
      · obtain rfl : i = 80 := by omega
        have Heat := Lib.hid (show eatS st B = List.zipWith ad (rnds st (wpre B 80) 80) st from rfl)
        obtain ⟨s8, hs8⟩ : ∃ s8, s8 = rnds st (wpre B 80) 80 := ⟨_, rfl⟩
        rw [← hs8] at HG Hsl Heat
        clear hs8
        go_wp2_with fail
        go_loopw [152] (fun vi wr => ∃ (i : Nat) (u : List Nat), i ≤ 8 ∧ vi = .int .i64 i ∧ AddI s8 st i u ∧ Blk wr gs 37 (cellsN u).toArray ∧ Blk wr gR 37 (cellsN [0, 0, 0, 0, 0, 0, 0, 0]).toArray ∧ Blk wr gt 37 (cellsN st).toArray ∧ Touch [] w wr) (fun vi _ => 8 - (intOf vi).toNat)
        case atStart => exact ⟨0, s8, by omega, rfl, ⟨Hsl.out, fun _ h => by omega, fun _ _ _ => rfl⟩, HG.out, HR.out, HO.out, HT.out⟩
        case round =>
          obtain ⟨i, s, hi8, rfl, hI, hG, hR, hO, hT⟩ := hrel
          clear HG HR HO HT HW
          have HI := Lib.hid hI
          have HG := Lib.hid hG
          have HR := Lib.hid hR
          have HO := Lib.hid hO
          have HT := Lib.hid hT
          clear hI hG hR hO hT
          by_cases hlt8 : i < 8
          · have HCs := Lib.hid (H8.out s HI.out.len)
            have HCt := Lib.hid (H8.out st Hst.out)
            have HI2 := Lib.hid (HI.out.step hlt8)
            go_upto_region 22 with fail
            -- WFLOW eat22
            refine wp_region_flowT (by kernel_rfl) 8 (lookW [(2, pu (isV (.pointer (some ⟨gt, 0, none⟩)))), (9, pu (isV (.pointer (some ⟨gs, 0, none⟩)))), (15, pu (isV (.int .i64 ((i : Nat) : Int)))), (155, pu (isV (.int .i64 ((i : Nat) : Int)))), (156, pu (isV (.pointer (some ⟨gs, i, none⟩)))), (157, pu (isV (.int .u64 ((s.getD i 0 : Nat) : Int)))), (158, pu (isV (.int .i64 ((i : Nat) : Int)))), (159, pu (isV (.pointer (some ⟨gt, i, none⟩)))), (160, pu (isV (.int .u64 ((st.getD i 0 : Nat) : Int)))), (161, pu (isV (.int .u64 ((ad (s.getD i 0) (st.getD i 0) : Nat) : Int)))), (162, pu (isV (.pointer (some ⟨gs, i, none⟩))))]) [2, 9, 15] [155, 156, 157, 158, 159, 160, 161, 162] [161, 162] (by kernel_rfl) (by kernel_rfl) (by kernel_rfl) (by kernel_rfl) ⟨rfl, rfl, rfl, trivial⟩ ?_ ?_
            · refine FStepsW.cons (FStepW.plain rfl fun a w hS hE => OpTo.move rfl ⟨dOfW.of 155 rfl (hE 15 (by kernel_rfl)), Touch.refl _ _⟩) ?_
              refine FStepsW.cons (FStepW.plain rfl fun a w hS hE => OpTo.ixS gs i (by omega) rfl (hE 9 (by kernel_rfl)) (hE 155 (by kernel_rfl)) ⟨dOfW.of 156 rfl rfl, Touch.refl _ _⟩) ?_
              refine FStepsW.cons (FStepW.plain rfl fun a w hS hE => OpTo.ldU gs (i) _ rfl (hE 156 (by kernel_rfl)) (((HG.out.touch hS (by simp)).cell _).trans (HCs.out i (by omega))) ⟨dOfW.of 157 rfl rfl, Touch.refl _ _⟩) ?_
              refine FStepsW.cons (FStepW.plain rfl fun a w hS hE => OpTo.move rfl ⟨dOfW.of 158 rfl (hE 15 (by kernel_rfl)), Touch.refl _ _⟩) ?_
              refine FStepsW.cons (FStepW.plain rfl fun a w hS hE => OpTo.ixS gt i (by omega) rfl (hE 2 (by kernel_rfl)) (hE 158 (by kernel_rfl)) ⟨dOfW.of 159 rfl rfl, Touch.refl _ _⟩) ?_
              refine FStepsW.cons (FStepW.plain rfl fun a w hS hE => OpTo.ldU gt (i) _ rfl (hE 159 (by kernel_rfl)) (((HO.out.touch hS (by simp)).cell _).trans (HCt.out i (by omega))) ⟨dOfW.of 160 rfl rfl, Touch.refl _ _⟩) ?_
              refine FStepsW.cons (FStepW.plain rfl fun a w hS hE => OpTo.addN (s.getD i 0) (st.getD i 0) rfl (hE 157 (by kernel_rfl)) (hE 160 (by kernel_rfl)) ⟨dOfW.of 161 rfl rfl, Touch.refl _ _⟩) ?_
              refine FStepsW.cons (FStepW.plain rfl fun a w hS hE => OpTo.ixS gs i (by omega) rfl (hE 9 (by kernel_rfl)) (hE 155 (by kernel_rfl)) ⟨dOfW.of 162 rfl rfl, Touch.refl _ _⟩) ?_
              exact FStepsW.nil
            intro f wx hS hF
            obtain ⟨h161, h162, -⟩ := hF
            replace h161 : f 161 = .int .u64 ((ad (s.getD i 0) (st.getD i 0) : Nat) : Int) := h161
            replace h162 : f 162 = .pointer (some ⟨gs, i, none⟩) := h162
            simp only [setAll, List.setIfInBounds_toArray, List.set_cons_zero, List.set_cons_succ, h161, h162]
            show wpList _ _ _ [_] _ _
            -- END
            have f1 : wx.cell? ⟨gs, i, none⟩ = some (.int .u64 ((s.getD i 0 : Nat) : Int)) := ((HG.out.touch hS (by simp)).cell i).trans (HCs.out i hlt8)
            have f2 : wx.frozen? ⟨gs, i, none⟩ = false := (HG.out.touch hS (by simp)).frozen i
            obtain ⟨X, hX⟩ : ∃ X, X = ad (s.getD i 0) (st.getD i 0) := ⟨_, rfl⟩
            rw [← hX] at HI2 ⊢
            have HGf := Lib.hid ((HG.out.touch hS (by simp)).set_ i (.int .u64 (X : Int)))
            rw [cellsN_seta] at HGf
            have HRf := Lib.hid ((HR.out.touch hS (by simp)).far (p := ⟨gs, i, none⟩) (Nat.ne_of_lt Hgn.out.2.2.1) (.int .u64 (X : Int)))
            have HOf := Lib.hid ((HO.out.touch hS (by simp)).far (p := ⟨gs, i, none⟩) (Nat.ne_of_lt Hgn.out.2.1) (.int .u64 (X : Int)))
            have HTf := Lib.hid ((HT.out.trans hS).setCell (p := ⟨gs, i, none⟩) (.inr Hgn.out.2.2.2) (.int .u64 (X : Int)))
            clear hX h161 h162 hS HG HR HO HT HCs HCt
            go_wp2_with fail
            go_roundw
            case rel => exact ⟨i + 1, s.set i X, by omega, by go_num, HI2.out, HGf.out, HRf.out, HOf.out, HTf.out⟩
            case measure => simp [intOf]; omega
          · obtain rfl : i = 8 := by omega
            have hE := HI.out.end_ Hsl.out Hst.out
            rw [← Heat.out] at hE
            subst hE
            have HL := Lib.hid (eatS_len Hst.out B)
            go_wp2_with (first | (refine wpList_loadS rfl (.tmp 9) rfl gs rfl 37 _ HL.out HG.out ?_) | (refine wpList_storeS rfl (.tmp 4) (.tmp 164) rfl gR rfl (eatS st B) rfl 37 _ HL.out rfl HR.out ?_))
            refine bodyPost_ret (results_cell_row Tryd.results14 _ _ gR 37 (cellsN (eatS st B)).toArray (0, 0) _ rfl ?_ Tryd.underlying37 rfl ?_) rfl ⟨rfl, HT.out.srow (.inr ?_) _⟩
            · exact HR.out.srow _
            · rw [cellsN_size, HL.out]
              exact infoS
            · rw [Hg.out.2.2]; omega
end Go.Proofs.YtflpjnillfgghaaDoor
