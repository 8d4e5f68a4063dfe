/- WideParts: the walk. -/
import Derived.Test.YtflpjnillfgghaaDoorWdOps2
namespace Go.Proofs.YtflpjnillfgghaaDoor
open Go Go.RowKit
theorem infoSt : (Tryd.prog.info? 9).map (fun i => (i.zero, i.size, i.bytes)) = some (some (.string ⟨#[]⟩), 1, 16) := by kernel_rfl
theorem info_partsW {P : Program} {t : TypeId} {z : Value} {n b : Nat} (h : (P.info? t).map (fun i => (i.zero, i.size, i.bytes)) = some (some z, n, b)) :
    ∃ i, P.info? t = some i ∧ i.zero = some z ∧ i.size = n ∧ i.bytes = b := by
  cases hi : P.info? t with
  | none => rw [hi] at h; cases h
  | some i =>
    rw [hi] at h
    simp only [Option.map_some, Option.some.injEq, Prod.mk.injEq] at h
    exact ⟨i, rfl, h.1, h.2.1, h.2.2⟩
def cellsT (L : List ByteArray) : List Value := L.map Value.string
section
variable {o : Oper} {a : Act} {w : World} {R : Value → World → Prop} {x y : Operand}
theorem OpTo.ixT (g off n c i : Nat) (ho : o.op = .indexAddr 26 x y) (hx : a.eval x = .slice (some ⟨g, off, none⟩) n c) (hy : a.eval y = .int .i64 (i : Int)) (hi : i < n) (hR : R (.pointer (some ⟨g, off + i, none⟩)) w) : OpTo Tryd.prog o a w R :=
  OpTo.val (v := .pointer (some ⟨g, off + i, none⟩)) (by
    have h1 : (0 : Int) ≤ (i : Int) ∧ (i : Int) < (n : Int) := by omega
    unfold execOp
    simp only [ho, hx, hy]
    go_simp) hR
theorem OpTo.ldT (g j : Nat) (v : Value) (ho : o.op = .load 9 x) (hx : a.eval x = .pointer (some ⟨g, j, none⟩)) (hc : w.cell? ⟨g, j, none⟩ = some v) (hR : R v w) : OpTo Tryd.prog o a w R :=
  OpTo.val (v := v) (by
    unfold execOp
    simp only [ho, hx]
    go_simp) hR
theorem OpTo.minK (i j q : Nat) (hq : q = min i j) (ho : o.op = .call { callee := .builtin .min, args := #[x, y], argTypes := #[3, 3] }) (hx : a.eval x = .int .i64 (i : Int)) (hy : a.eval y = .int .i64 (j : Int)) (hR : R (.int .i64 (q : Int)) w) : OpTo Tryd.prog o a w R :=
  OpTo.val (v := .int .i64 (q : Int)) (by
    unfold execOp
    simp only [ho, resolve]
    simp only [List.map_toArray, List.map_cons, List.map_nil, hx, hy]
    go_simp
    omega) hR
end
/-- What was laid so far. -/
structure PaI (i : Nat) (xs : List ByteArray) (al : ByteArray) : Prop where
  len : xs.length = i
  all : bl al = xs.flatMap bl
  sz : al.size ≤ 200 * i
theorem PaI.step {i : Nat} {xs : List ByteArray} {al : ByteArray} (h : PaI i xs al) (x : ByteArray) (hx : x.size ≤ 200) : PaI (i + 1) (xs ++ [x]) (al ++ x) :=
  ⟨by rw [List.length_append, h.len]; rfl, by rw [bl_append, h.all]; simp, by rw [ByteArray.size_append]; have := h.sz; omega⟩
theorem Sep.str {w0 w : World} {B : Nat} {rs : List Res} (h : Sep w0 B w rs) (i : Nat) {A : Option Addr} {c : Nat} {xs : List ByteArray} {n : Nat} (hi : rs[i]? = some (slRes 9 1 (.slice A n c) n (cellsT xs))) (h0 : 0 < n) :
    ∃ g off, A = some ⟨g, off, none⟩ ∧ g < w.heap.size ∧ n ≤ c ∧ ∀ j x, xs[j]? = some x → w.cell? ⟨g, off + j, none⟩ = some (.string x) := by
  obtain ⟨F, row, rfl, ho⟩ := h.look i hi
  obtain ⟨g, off, c', cur, hv, hrow, hb, _, hnc, _, _, hx⟩ := ho.at_ h0
  injection hv with hA _ hc
  subst hA
  subst hc
  exact ⟨g, off, rfl, hb.lt, hnc, fun j x hj => (hb.cell _).trans (hx j _ (by simp [cellsT, hj]))⟩
set_option maxRecDepth 100000 in
set_option maxHeartbeats 4000000 in
theorem parts_walk (A : Option Addr) (n cp : Nat) (S : List ByteArray) (at_ : Int) (h0 : 0 ≤ at_) (h1 : at_ < 256) (w : World) (hV : WideV w)
    (hS : ∀ k, k < n → ∃ g o, A = some ⟨g, o, none⟩ ∧ g < w.heap.size ∧ w.cell? ⟨g, o + k, none⟩ = some (.string (S.getD k ⟨#[]⟩))) :
    Calls Tryd.prog 4 #[.slice A n cp, .int .u8 at_] w fun e w' => e = .returned (.bool true) ∧ Touch [] w w' := by
  have HV0 := Lib.hid hV
  have HA := Lib.hid hS
  have Hat := Lib.hid (And.intro h0 h1)
  obtain ⟨i0, hi0, hz0, hz1, hz2⟩ := info_partsW infoSt
  have Hs0 := Lib.hid (((Sep.start w).alloc (.cells #[] 9)).bare 9 1 (some ⟨w.heap.size, 0, none⟩))
  clear hV hS h0 h1
  go_enter Tryd.func4, Tryd.ntmps4
  go_upto_block 0 with fail
  go_cut [5, 6] (fun v5 v6 wx => ∃ (i : Nat) (xs : List ByteArray) (al : ByteArray) (A' : Option Addr) (c' : Nat), i ≤ 8 ∧ v5 = .slice A' i c' ∧ v6 = .string al ∧ PaI i xs al ∧ Sep w w.heap.size wx [slRes 9 1 (.slice A' i c') i (cellsT xs)])
  case first =>
    go_wp2_with fail
    go_loopw [5, 6, 7] (fun v5 v6 v7 wr => ∃ (i : Nat) (xs : List ByteArray) (al : ByteArray) (A' : Option Addr) (c' : Nat), i ≤ n ∧ i ≤ 8 ∧ v7 = .int .i64 i ∧ v5 = .slice A' i c' ∧ v6 = .string al ∧ PaI i xs al ∧
      Sep w w.heap.size wr [slRes 9 1 (.slice A' i c') i (cellsT xs)]) (fun _ _ v7 _ => 8 - (intOf v7).toNat)
    case atStart => exact ⟨0, [], ⟨#[]⟩, _, 0, by omega, by omega, rfl, rfl, rfl, ⟨rfl, rfl, by decide⟩, Hs0.out⟩
    case round =>
      obtain ⟨i, xs, al, A', c', hin, hi8, rfl, rfl, rfl, hI, hs⟩ := hrel
      clear Hs0
      have HI := Lib.hid hI
      have Hs := Lib.hid hs
      clear hI hs
      by_cases hlt : i < n ∧ i < 8
      · obtain ⟨hl1, hl2⟩ := hlt
        obtain ⟨g, o, rfl, hg, hcell⟩ := HA.out i hl1
        obtain ⟨x, hxe⟩ : ∃ x, x = S.getD i ⟨#[]⟩ := ⟨_, rfl⟩
        rw [← hxe] at hcell
        have HX := Lib.hid (fun (W : World) (h : Touch [] wr W) => (h.cell (p := ⟨g, o + i, none⟩) (Nat.lt_of_lt_of_le hg Hs.out.below.size) (by simp)).trans ((Hs.out.below.cell (p := ⟨g, o + i, none⟩) hg).trans hcell))
        obtain ⟨q, hq⟩ : ∃ q, q = min x.size 200 := ⟨_, rfl⟩
        have hqx : q ≤ x.size := by omega
        have Hst := Lib.hid (HI.out.step (x.extract 0 q) (by simp; omega))
        clear hxe hcell hg
        go_wp2_with fail
        go_upto_region 5 with fail
        -- XFLOW parts5
        refine wp_region_flowT (by kernel_rfl) 13 (lookW [(0, pu (isV (.slice (some ⟨g, o, none⟩) n cp))), (5, pu (isV (.slice A' i c'))), (7, pu (isV (.int .i64 (i : Int)))), (21, pu (isV (.slice A' i c'))), (22, pu (isV (.slice (some ⟨g, o, none⟩) n cp))), (23, pu (isV (.int .i64 (i : Int)))), (24, pu (isV (.pointer (some ⟨g, o + i, none⟩)))), (25, pu (isV (.string x))), (26, pu (isV (.slice (some ⟨g, o, none⟩) n cp))), (27, pu (isV (.int .i64 (i : Int)))), (28, pu (isV (.pointer (some ⟨g, o + i, none⟩)))), (29, pu (isV (.string x))), (30, pu (isV (.int .i64 (x.size : Int)))), (31, pu (isV (.int .i64 (q : Int)))), (32, pu (isV (.string (x.extract 0 q)))), (33, slS [(x.extract 0 q)])]) [0, 5, 7] [21, 22, 23, 24, 25, 26, 27, 28, 29, 30, 31, 32, 33] [21, 33] (by kernel_rfl) (by kernel_rfl) (by kernel_rfl) (by kernel_rfl) ⟨rfl, rfl, rfl, trivial⟩ ?_ ?_
        · refine FStepsW.cons (FStepW.plain rfl fun a w hS hE => OpTo.move rfl ⟨dOfW.of 21 rfl (hE 5 (by kernel_rfl)), Touch.refl _ _⟩) ?_
          refine FStepsW.cons (FStepW.plain rfl fun a w hS hE => OpTo.move rfl ⟨dOfW.of 22 rfl (hE 0 (by kernel_rfl)), Touch.refl _ _⟩) ?_
          refine FStepsW.cons (FStepW.plain rfl fun a w hS hE => OpTo.move rfl ⟨dOfW.of 23 rfl (hE 7 (by kernel_rfl)), Touch.refl _ _⟩) ?_
          refine FStepsW.cons (FStepW.plain rfl fun a w hS hE => OpTo.ixT g o n cp i rfl (hE 22 (by kernel_rfl)) (hE 23 (by kernel_rfl)) hl1 ⟨dOfW.of 24 rfl rfl, Touch.refl _ _⟩) ?_
          refine FStepsW.cons (FStepW.plain rfl fun a w hS hE => OpTo.ldT g (o + i) _ rfl (hE 24 (by kernel_rfl)) (HX.out w hS) ⟨dOfW.of 25 rfl rfl, Touch.refl _ _⟩) ?_
          refine FStepsW.cons (FStepW.plain rfl fun a w hS hE => OpTo.move rfl ⟨dOfW.of 26 rfl (hE 0 (by kernel_rfl)), Touch.refl _ _⟩) ?_
          refine FStepsW.cons (FStepW.plain rfl fun a w hS hE => OpTo.move rfl ⟨dOfW.of 27 rfl (hE 7 (by kernel_rfl)), Touch.refl _ _⟩) ?_
          refine FStepsW.cons (FStepW.plain rfl fun a w hS hE => OpTo.ixT g o n cp i rfl (hE 26 (by kernel_rfl)) (hE 27 (by kernel_rfl)) hl1 ⟨dOfW.of 28 rfl rfl, Touch.refl _ _⟩) ?_
          refine FStepsW.cons (FStepW.plain rfl fun a w hS hE => OpTo.ldT g (o + i) _ rfl (hE 28 (by kernel_rfl)) (HX.out w hS) ⟨dOfW.of 29 rfl rfl, Touch.refl _ _⟩) ?_
          refine FStepsW.cons (FStepW.plain rfl fun a w hS hE => OpTo.lenT x x.size rfl rfl (hE 29 (by kernel_rfl)) ⟨dOfW.of 30 rfl rfl, Touch.refl _ _⟩) ?_
          refine FStepsW.cons (FStepW.plain rfl fun a w hS hE => OpTo.minK x.size 200 q hq rfl (hE 30 (by kernel_rfl)) rfl ⟨dOfW.of 31 rfl rfl, Touch.refl _ _⟩) ?_
          refine FStepsW.cons (FStepW.plain rfl fun a w hS hE => OpTo.slHi x q rfl (hE 25 (by kernel_rfl)) (hE 31 (by kernel_rfl)) hqx ⟨dOfW.of 32 rfl rfl, Touch.refl _ _⟩) ?_
          refine FStepsW.cons (FStepW.plain rfl fun a w hS hE => OpTo.bld1 (x.extract 0 q) rfl (hE 32 (by kernel_rfl)) (fun v w' h => dOfW.of 33 rfl h)) ?_
          exact FStepsW.nil
        intro f wx hS hF
        obtain ⟨h21, h33, -⟩ := hF
        replace h21 : f 21 = .slice A' i c' := h21
        obtain ⟨g33, h33, hb33⟩ : ∃ g', f 33 = .slice (some ⟨g', 0, none⟩) 1 1 ∧ Blk wx g' 9 ([(x.extract 0 q)].map Value.string).toArray := h33
        simp only [setAll, List.setIfInBounds_toArray, List.set_cons_zero, List.set_cons_succ, h21, h33]
        show wpList _ _ _ [_, _] _ _
        -- END
        have Hs2 := Lib.hid (Hs.out.touch hS)
        obtain ⟨y, hy⟩ : ∃ y, y = x.extract 0 q := ⟨_, rfl⟩
        have hys : y.size ≤ 200 := by rw [hy]; simp; omega
        rw [← hy] at Hst hb33
        have HSrc : Hid (Src Tryd.prog 1 26 (.slice (some ⟨g33, 0, none⟩) 1 1) 1 [.string y] wx) := Lib.hid (Src.ofSlice _ Tryd.underlying26 ⟨g33, 0, none⟩ 1 1 [.string y] rfl (fun j u hj => by
          match j, hj with
          | 0, hj => simp at hj; subst hj; exact hb33.cell 0) (fun u hu => by simp at hu; subst hu; rfl))
        clear h21 h33 hb33 hS Hs HX hy
        go_wp2_with (at_builtin; refine wpList_append_sep _ rfl (.tmp 21) (.tmp 33) 26 26 rfl 9 i0 _ 1 16 Tryd.underlying26 hi0 hz0 hz1 hz2 rfl Hs2.out 0 (.slice A' i c') i (cellsT xs) rfl rfl _ 1 [.string y] rfl HSrc.out (by unfold maxLen; omega) (by omega) ?_)
        intro A2 c2 w3 hs3
        have hs4 : Sep w w.heap.size w3 [slRes 9 1 (.slice A2 (i + 1) c2) (i + 1) (cellsT (xs ++ [y]))] := by
          have h := hs3
          simp only [cellsT, List.map_append, List.map_cons, List.map_nil] at *
          exact h
        have Hs4 := Lib.hid hs4
        obtain ⟨g2, off2, rfl, hg2, hnc2, hcells2⟩ := hs4.str 0 rfl (by omega)
        have hc2 : w3.cell? ⟨g2, off2 + i, none⟩ = some (.string y) := hcells2 i y (by rw [List.getElem?_append_right (by rw [HI.out.len]; exact Nat.le_refl _), HI.out.len, Nat.sub_self]; rfl)
        have hsz : al.size ≤ 200 * i := HI.out.sz
        clear hs3 hs4 Hs2 hcells2 HI
        go_wp2_with fail
        go_roundw
        case rel => exact ⟨i + 1, xs ++ [y], al ++ y, _, c2, by omega, by omega, by go_num, rfl, rfl, Hst.out, Hs4.out⟩
        case measure => simp [intOf]; omega
      · by_cases h1 : i < n
        · have h2 : ¬ i < 8 := fun h => hlt ⟨h1, h⟩
          clear hlt
          go_wp2_with fail
          go_meet
          exact ⟨i, xs, al, A', c', hi8, rfl, rfl, HI.out, Hs.out⟩
        · clear hlt
          go_wp2_with fail
          go_meet
          exact ⟨i, xs, al, A', c', hi8, rfl, rfl, HI.out, Hs.out⟩
  case rest =>
    obtain ⟨i, xs, x, A', c', hi8, rfl, rfl, hI, hs⟩ := hcut
    have HI := Lib.hid hI
    have Hs := Lib.hid hs
    have hx : x.size ≤ 1600 := by have := hI.sz; omega
    have hL : (bl x).length ≤ 1000000 := by rw [bl_len]; omega
    clear Hs0 hI hs
    have HT0 : Hid (Touch [] w wc) := Lib.hid (Touch.of_below Hs.out.below)
    have HV := Lib.hid (HV0.out.touch HT0.out)
    have HJ : Hid (Calls Tryd.prog 8 #[.slice A' i c'] wc fun e w' => e = .returned (.string (stB (sumS (bl x)))) ∧ Touch [] wc w') := Lib.hid (by
      rw [HI.out.all]
      cases i with
      | zero =>
        have hx0 : xs = [] := List.eq_nil_of_length_eq_zero HI.out.len
        subst hx0
        exact sum_none A' c' wc HV.out
      | succ i =>
        obtain ⟨g, off, rfl, hg, hnc, hcells⟩ := Hs.out.str 0 rfl (by omega)
        have h := sum_parts g off c' xs wc hcells hg (by rw [HI.out.len]; omega) (by rw [HI.out.len]; exact hnc) (by rw [← HI.out.all]; exact hL) HV.out
        rw [HI.out.len] at h
        exact h)
    have hr := sum_size (bl x)
    have h0 := Hat.out.1
    obtain ⟨k, hk⟩ : ∃ k : Nat, at_ % ((x.size : Int) + 1) = (k : Int) := ⟨(at_ % ((x.size : Int) + 1)).toNat, by have := Int.emod_nonneg at_ (show (x.size : Int) + 1 ≠ 0 by omega); omega⟩
    have hkx : k ≤ x.size := by have := Int.emod_lt_of_pos at_ (show 0 < (x.size : Int) + 1 by omega); omega
    have H2 := Lib.hid (fun (g : Nat) (W : World) (hb : Blk W g 9 ([x].map Value.string).toArray) (h : WideV W) => sum_blk [x] (bl x) (by simp) (by simp) hL g W hb h)
    have H3 := Lib.hid (fun (g : Nat) (W : World) (hb : Blk W g 9 ([x.extract 0 k, ⟨#[]⟩, x.extract k x.size].map Value.string).toArray) (h : WideV W) => sum_blk [x.extract 0 k, ⟨#[]⟩, x.extract k x.size] (bl x) (by
      rw [← bl_cut x k]
      simp [show bl ⟨#[]⟩ = [] from rfl]) (by simp) hL g W hb h)
    obtain ⟨r, hre⟩ : ∃ r, r = stB (sumS (bl x)) := ⟨_, rfl⟩
    rw [← hre] at hr HJ H2 H3
    have h1 := Hat.out.2
    clear hre hL Hs HI HV
    go_upto_region 8 with fail
    rw [hk]
    clear hk h0 h1
    go_wp2_with fail
    refine (HJ.out).mono ?_
    rintro e w1 ⟨rfl, ht1⟩
    have HT1 := Lib.hid (HT0.out.trans ht1)
    clear ht1 HT0 HJ
    have HV := Lib.hid (HV0.out.touch HT1.out)
    go_wp2_with fail
    go_upto_region 9 with fail
    -- XFLOW parts9
    refine wp_region_flowT (by kernel_rfl) 26 (lookW [(6, pu (isV (.string x))), (8, pu (isV (.int .i64 (k : Int)))), (9, pu (isV (.string r))), (49, pu (isV (.string r))), (50, pu (isV (.string x))), (51, slS [x]), (52, pu (isV (.string r))), (53, pu (isV (.bool true))), (54, pu (isV (.bool true))), (55, pu (isV (.string r))), (56, pu (isV (.string x))), (57, pu (isV (.int .i64 (k : Int)))), (58, pu (isV (.string (x.extract 0 k)))), (59, pu (isV (.string x))), (60, pu (isV (.int .i64 (k : Int)))), (61, pu (isV (.string (x.extract k x.size)))), (62, slS [(x.extract 0 k), ⟨#[]⟩, (x.extract k x.size)]), (63, pu (isV (.string r))), (64, pu (isV (.bool true))), (65, pu (isV (.bool true))), (66, pu (isV (.bool true))), (67, pu (isV (.string r))), (68, pu (isV (.int .i64 (64 : Int)))), (69, pu (isV (.bool true))), (70, pu (isV (.bool true))), (71, pu (isV (.bool true))), (72, pu (isV (.bool true))), (73, pu (isV (.bool true))), (4, pu (isV (.bool true)))]) [6, 8, 9] [49, 50, 51, 52, 53, 54, 55, 56, 57, 58, 59, 60, 61, 62, 63, 64, 65, 66, 67, 68, 69, 70, 71, 72, 73, 4] [4] (by kernel_rfl) (by kernel_rfl) (by kernel_rfl) (by kernel_rfl) ⟨rfl, rfl, rfl, trivial⟩ ?_ ?_
    · refine FStepsW.cons (FStepW.plain rfl fun a w hS hE => OpTo.move rfl ⟨dOfW.of 49 rfl (hE 9 (by kernel_rfl)), Touch.refl _ _⟩) ?_
      refine FStepsW.cons (FStepW.plain rfl fun a w hS hE => OpTo.move rfl ⟨dOfW.of 50 rfl (hE 6 (by kernel_rfl)), Touch.refl _ _⟩) ?_
      refine FStepsW.cons (FStepW.plain rfl fun a w hS hE => OpTo.bld1 x rfl (hE 50 (by kernel_rfl)) (fun v w' h => dOfW.of 51 rfl h)) ?_
      refine FStepsW.cons (FStepW.plain rfl fun a w hS hE => OpTo.sum [x] r rfl (hE 51 (by kernel_rfl)) H2.out (HV.out.touch hS) (fun w' => dOfW.of 52 rfl rfl)) ?_
      refine FStepsW.cons (FStepW.plain rfl fun a w hS hE => OpTo.eqT r rfl (hE 49 (by kernel_rfl)) (hE 52 (by kernel_rfl)) ⟨dOfW.of 53 rfl rfl, Touch.refl _ _⟩) ?_
      refine FStepsW.cons (FStepW.plain rfl fun a w hS hE => OpTo.move rfl ⟨dOfW.of 54 rfl (hE 53 (by kernel_rfl)), Touch.refl _ _⟩) ?_
      refine FStepsW.cons (FStepW.go 54 rfl rfl (fun _ _ h => h) fun a w hS hE => OpTo.move rfl ⟨dOfW.of 55 rfl (hE 9 (by kernel_rfl)), Touch.refl _ _⟩) ?_
      refine FStepsW.cons (FStepW.go 54 rfl rfl (fun _ _ h => h) fun a w hS hE => OpTo.move rfl ⟨dOfW.of 56 rfl (hE 6 (by kernel_rfl)), Touch.refl _ _⟩) ?_
      refine FStepsW.cons (FStepW.go 54 rfl rfl (fun _ _ h => h) fun a w hS hE => OpTo.move rfl ⟨dOfW.of 57 rfl (hE 8 (by kernel_rfl)), Touch.refl _ _⟩) ?_
      refine FStepsW.cons (FStepW.go 54 rfl rfl (fun _ _ h => h) fun a w hS hE => OpTo.slHi x k rfl (hE 56 (by kernel_rfl)) (hE 57 (by kernel_rfl)) hkx ⟨dOfW.of 58 rfl rfl, Touch.refl _ _⟩) ?_
      refine FStepsW.cons (FStepW.go 54 rfl rfl (fun _ _ h => h) fun a w hS hE => OpTo.move rfl ⟨dOfW.of 59 rfl (hE 6 (by kernel_rfl)), Touch.refl _ _⟩) ?_
      refine FStepsW.cons (FStepW.go 54 rfl rfl (fun _ _ h => h) fun a w hS hE => OpTo.move rfl ⟨dOfW.of 60 rfl (hE 8 (by kernel_rfl)), Touch.refl _ _⟩) ?_
      refine FStepsW.cons (FStepW.go 54 rfl rfl (fun _ _ h => h) fun a w hS hE => OpTo.slLo x k rfl (hE 59 (by kernel_rfl)) (hE 60 (by kernel_rfl)) hkx ⟨dOfW.of 61 rfl rfl, Touch.refl _ _⟩) ?_
      refine FStepsW.cons (FStepW.go 54 rfl rfl (fun _ _ h => h) fun a w hS hE => OpTo.bld3 (x.extract 0 k) ⟨#[]⟩ (x.extract k x.size) rfl (hE 58 (by kernel_rfl)) rfl (hE 61 (by kernel_rfl)) (fun v w' h => dOfW.of 62 rfl h)) ?_
      refine FStepsW.cons (FStepW.go 54 rfl rfl (fun _ _ h => h) fun a w hS hE => OpTo.sum [(x.extract 0 k), ⟨#[]⟩, (x.extract k x.size)] r rfl (hE 62 (by kernel_rfl)) H3.out (HV.out.touch hS) (fun w' => dOfW.of 63 rfl rfl)) ?_
      refine FStepsW.cons (FStepW.go 54 rfl rfl (fun _ _ h => h) fun a w hS hE => OpTo.eqT r rfl (hE 55 (by kernel_rfl)) (hE 63 (by kernel_rfl)) ⟨dOfW.of 64 rfl rfl, Touch.refl _ _⟩) ?_
      refine FStepsW.cons (FStepW.plain rfl fun a w hS hE => OpTo.pick true rfl (hE 54 (by kernel_rfl)) ⟨dOfW.of 65 rfl (hE 64 (by kernel_rfl)), Touch.refl _ _⟩) ?_
      refine FStepsW.cons (FStepW.plain rfl fun a w hS hE => OpTo.move rfl ⟨dOfW.of 66 rfl (hE 65 (by kernel_rfl)), Touch.refl _ _⟩) ?_
      refine FStepsW.cons (FStepW.go 66 rfl rfl (fun _ _ h => h) fun a w hS hE => OpTo.move rfl ⟨dOfW.of 67 rfl (hE 9 (by kernel_rfl)), Touch.refl _ _⟩) ?_
      refine FStepsW.cons (FStepW.go 66 rfl rfl (fun _ _ h => h) fun a w hS hE => OpTo.lenT r 64 hr rfl (hE 67 (by kernel_rfl)) ⟨dOfW.of 68 rfl rfl, Touch.refl _ _⟩) ?_
      refine FStepsW.cons (FStepW.go 66 rfl rfl (fun _ _ h => h) fun a w hS hE => OpTo.eqK (64 : Int) rfl (hE 68 (by kernel_rfl)) rfl ⟨dOfW.of 69 rfl rfl, Touch.refl _ _⟩) ?_
      refine FStepsW.cons (FStepW.plain rfl fun a w hS hE => OpTo.pick true rfl (hE 66 (by kernel_rfl)) ⟨dOfW.of 70 rfl (hE 69 (by kernel_rfl)), Touch.refl _ _⟩) ?_
      refine FStepsW.cons (FStepW.plain rfl fun a w hS hE => OpTo.move rfl ⟨dOfW.of 71 rfl (hE 70 (by kernel_rfl)), Touch.refl _ _⟩) ?_
      refine FStepsW.cons (FStepW.go 71 rfl rfl (fun _ _ h => h) fun a w hS hE => OpTo.fixed rfl (HV.out.touch hS) (fun w' => dOfW.of 72 rfl rfl)) ?_
      refine FStepsW.cons (FStepW.plain rfl fun a w hS hE => OpTo.pick true rfl (hE 71 (by kernel_rfl)) ⟨dOfW.of 73 rfl (hE 72 (by kernel_rfl)), Touch.refl _ _⟩) ?_
      refine FStepsW.cons (FStepW.plain rfl fun a w hS hE => OpTo.assign rfl ⟨dOfW.of 4 rfl (hE 73 (by kernel_rfl)), Touch.refl _ _⟩) ?_
      exact FStepsW.nil
    intro f wx hS hF
    obtain ⟨h4, -⟩ := hF
    replace h4 : f 4 = .bool true := h4
    simp only [setAll, List.setIfInBounds_toArray, List.set_cons_zero, List.set_cons_succ, h4]
    show wpList _ _ _ [] _ _
    -- END
    have HT2 := Lib.hid (HT1.out.trans hS)
    clear hS h4
    go_wp2_with fail
    go_ret
    exact ⟨rfl, HT2.out⟩
end Go.Proofs.YtflpjnillfgghaaDoor
