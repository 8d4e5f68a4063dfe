/- WideLong: the walk. -/
import Derived.Test.YtflpjnillfgghaaDoorWrE
namespace Go.Proofs.YtflpjnillfgghaaDoor
open Go Go.RowKit
theorem infoB8 : (Tryd.prog.info? 5).map (fun i => (i.zero, i.size, i.bytes)) = some (some (.int .u8 0), 1, 1) := by kernel_rfl
def cellsZ (L : List Int) : List Value := L.map (Value.int .u8)
section
variable {o : Oper} {a : Act} {w : World} {R : Value → World → Prop} {x : Operand} {T : Tmp → SP}
theorem OpTo.cvB (g off n c : Nat) (xs : List Int) (hlen : xs.length = n) (ho : o.op = .convert 28 9 x) (hx : a.eval x = .slice (some ⟨g, off, none⟩) n c)
    (hc : ∀ i, i < n → w.cell? ⟨g, off + i, none⟩ = some (.int .u8 (xs.getD i 0))) (hR : R (.string (strOfNums xs)) w) : OpTo Tryd.prog o a w R :=
  OpTo.val (v := .string (strOfNums xs)) (by
    have := run_convert_bytes_arg (P := Tryd.prog) w 28 5 Tryd.underlying28 Tryd.underlying5 g off n c xs hlen hc 9 Tryd.underlying9
    unfold execOp
    simp only [ho, hx]
    go_simp) hR
theorem OpTo.ref (m r : ByteArray) {ts : Array TypeId} (ho : o.op = .call { callee := .value (.func 9), args := #[x], argTypes := ts }) (hx : a.eval x = .string m)
    (H : ∀ W : World, Calls Tryd.prog 9 #[.string m] W fun e w' => e = .returned (.string r) ∧ Touch [] W w') (hv : ∀ w', dOfW o T (.string r) w') : OpTo Tryd.prog o a w (fun v w' => dOfW o T v w' ∧ Touch [] w w') :=
  OpTo.call #[.string m] ho Tryd.func9 (by kernel_rfl) (by kernel_rfl) (by simp [hx]) ((H w).mono fun e w' ⟨h1, h2⟩ => ⟨_, h1, hv w', h2⟩)
end
theorem Sep.byt {w0 w : World} {B : Nat} {rs : List Res} (h : Sep w0 B w rs) (i : Nat) {A : Option Addr} {c : Nat} {xs : List Int} {n : Nat} (hi : rs[i]? = some (slRes 5 1 (.slice A n c) n (cellsZ xs))) (h0 : 0 < n) :
    ∃ g off, A = some ⟨g, off, none⟩ ∧ g < w.heap.size ∧ n ≤ c ∧ ∀ j x, xs[j]? = some x → w.cell? ⟨g, off + j, none⟩ = some (.int .u8 x) := by
  obtain ⟨F, row, rfl, ho⟩ := h.look i hi
  obtain ⟨g, off, c', cur, hv, hrow, hb, _, hnc, _, _, hx⟩ := ho.at_ h0
  injection hv with hA _ hc
  subst hA
  subst hc
  exact ⟨g, off, rfl, hb.lt, hnc, fun j x hj => (hb.cell _).trans (hx j _ (by simp [cellsZ, hj]))⟩
theorem strOfNums_size (l : List Int) : (strOfNums l).size = l.length := by
  show ((l.map fun x => x.toNat.toUInt8).toArray).size = _
  simp
set_option maxRecDepth 100000 in
set_option maxHeartbeats 4000000 in
theorem long_walk (c n : Int) (n0 : 0 ≤ n) (n1 : n < 256) (w : World) (hV : WideV w) :
    Calls Tryd.prog 5 #[.int .u8 c, .int .u8 n] w fun e w' => e = .returned (.bool true) ∧ Touch [] w w' := by
  obtain ⟨i0, hi0, hz0, hz1, hz2⟩ := info_partsW infoB8
  have HV0 := Lib.hid hV
  clear hV
  have q1 := IntWalk.i64_in n (by omega)
  obtain ⟨k, hk⟩ : ∃ k : Nat, n % 171 = (k : Int) := ⟨(n % 171).toNat, by omega⟩
  have hk2 : k ≤ 170 := by omega
  have q2 : n.tmod 171 = (k : Int) := by rw [Int.tmod_eq_emod_of_nonneg n0]; exact hk
  have q3 : IntKind.i64.wrap (100 + (k : Int)) = 100 + (k : Int) := IntWalk.i64_in _ (by omega)
  have Hs0 := Lib.hid (((Sep.start w).alloc (.cells #[] 5)).bare 5 1 (some ⟨w.heap.size, 0, none⟩))
  go_enter Tryd.func5, Tryd.ntmps5
  go_wp2_with fail
  go_loopw [5, 6] (fun vs vi wr => ∃ (j : Nat) (A : Option Addr) (cp : Nat) (L : List Int), j ≤ 100 + k ∧ vi = .int .i64 (j : Int) ∧ vs = .slice A j cp ∧ L.length = j ∧ Sep w w.heap.size wr [slRes 5 1 (.slice A j cp) j (cellsZ L)]) (fun _ vi _ => 100 + k - (intOf vi).toNat)
  case atStart => exact ⟨0, _, 0, [], by omega, rfl, rfl, rfl, Hs0.out⟩
  case round =>
    obtain ⟨j, A, cp, L, hj, rfl, rfl, hx, hs⟩ := hrel
    clear Hs0
    have Hs := Lib.hid hs
    have HX := Lib.hid hx
    clear hs hx
    by_cases hlt : j < 100 + k
    · have m1 : IntKind.i64.wrap (3 * (j : Int)) = 3 * (j : Int) := IntWalk.i64_in _ (by omega)
      have c1 : (j : Int) < 100 + (k : Int) := by omega
      go_upto_region 5 with fail
      go_wp2_with (at_builtin; refine wpList_append_sep _ rfl (.tmp 16) (.tmp 22) 28 28 rfl 5 i0 _ 1 1 Tryd.underlying28 hi0 hz0 hz1 hz2 rfl (Hs.out.alloc _) 0 (.slice A j cp) j (cellsZ L) rfl rfl _ 1 [.int .u8 _] rfl (Src.one Tryd.underlying28 _ _ _ rfl) (by unfold maxLen; omega) (by omega) ?_)
      intro A2 c2 w3 hs3
      have Hs3 := Lib.hid hs3
      clear hs3 Hs
      go_wp2_with fail
      go_roundw
      case rel => exact ⟨j + 1, A2, c2, L ++ [_], by omega, by go_num, rfl, by rw [List.length_append, HX.out]; rfl, by
        have := Hs3.out
        simp only [cellsZ, List.map_append, List.map_cons, List.map_nil] at this ⊢
        exact this⟩
      case measure => simp [intOf]; omega
    · obtain rfl : j = 100 + k := by omega
      have c1 : decide (((100 + k : Nat) : Int) < 100 + (k : Int)) = false := decide_eq_false (by omega)
      obtain ⟨g, o, rfl, hg, hnc, hcell⟩ := Hs.out.byt 0 rfl (by omega)
      have HT := Lib.hid (Touch.of_below (S := []) Hs.out.below)
      have HV := Lib.hid (HV0.out.touch HT.out)
      obtain ⟨x, hx⟩ : ∃ x, x = strOfNums L := ⟨_, rfl⟩
      have hxs : x.size ≤ 300 := by rw [hx, strOfNums_size, HX.out]; omega
      have hL : (bl x).length ≤ 1000000 := by rw [bl_len]; omega
      have HXe := Lib.hid (show isV (.string x) (.string (strOfNums L)) by rw [hx]; rfl)
      have HC := Lib.hid (fun (W : World) (h : Touch [] wr W) (i : Nat) (hi : i < 100 + k) => (h.cell (p := ⟨g, o + i, none⟩) hg (by simp)).trans (hcell i (L.getD i 0) (by
        rw [List.getD_eq_getElem?_getD, List.getElem?_eq_getElem (by rw [HX.out]; exact hi)]; rfl)))
      have H1 := Lib.hid (fun (g : Nat) (W : World) (hb : Blk W g 9 ([x].map Value.string).toArray) (h : WideV W) => sum_blk [x] (bl x) (by simp) (by simp) hL g W hb h)
      have H2 := Lib.hid (fun W : World => refSum_any x (by omega) W)
      obtain ⟨r, hre⟩ : ∃ r, r = stB (sumS (bl x)) := ⟨_, rfl⟩
      rw [← hre] at H1 H2
      clear hre hL hx hcell hg hnc hxs HV0
      go_wp2_with fail
      refine wp_region_flowT (by kernel_rfl) 12 (lookW [(5, pu (isV (.slice (some ⟨g, o, none⟩) (100 + k) cp))), (24, pu (isV (.slice (some ⟨g, o, none⟩) (100 + k) cp))), (25, pu (isV (.string x))), (26, slS [x]), (27, pu (isV (.string r))), (28, pu (isV (.slice (some ⟨g, o, none⟩) (100 + k) cp))), (29, pu (isV (.string x))), (30, pu (isV (.string r))), (31, pu (isV (.bool true))), (32, pu (isV (.bool true))), (33, pu (isV (.bool true))), (34, pu (isV (.bool true))), (4, pu (isV (.bool true)))]) [5] [24, 25, 26, 27, 28, 29, 30, 31, 32, 33, 34, 4] [4] (by kernel_rfl) (by kernel_rfl) (by kernel_rfl) (by kernel_rfl) ⟨rfl, trivial⟩ ?_ ?_
      · refine FStepsW.cons (FStepW.plain rfl fun a w hS hE => OpTo.move rfl ⟨dOfW.of 24 rfl (hE 5 (by kernel_rfl)), Touch.refl _ _⟩) ?_
        refine FStepsW.cons (FStepW.plain rfl fun a w hS hE => OpTo.cvB g o (100 + k) cp L HX.out rfl (hE 24 (by kernel_rfl)) (HC.out w hS) ⟨dOfW.of 25 rfl HXe.out, Touch.refl _ _⟩) ?_
        refine FStepsW.cons (FStepW.plain rfl fun a w hS hE => OpTo.bld1 x rfl (hE 25 (by kernel_rfl)) (fun v w' h => dOfW.of 26 rfl h)) ?_
        refine FStepsW.cons (FStepW.plain rfl fun a w hS hE => OpTo.sum [x] r rfl (hE 26 (by kernel_rfl)) H1.out (HV.out.touch hS) (fun w' => dOfW.of 27 rfl rfl)) ?_
        refine FStepsW.cons (FStepW.plain rfl fun a w hS hE => OpTo.move rfl ⟨dOfW.of 28 rfl (hE 5 (by kernel_rfl)), Touch.refl _ _⟩) ?_
        refine FStepsW.cons (FStepW.plain rfl fun a w hS hE => OpTo.cvB g o (100 + k) cp L HX.out rfl (hE 28 (by kernel_rfl)) (HC.out w hS) ⟨dOfW.of 29 rfl HXe.out, Touch.refl _ _⟩) ?_
        refine FStepsW.cons (FStepW.plain rfl fun a w hS hE => OpTo.ref x r rfl (hE 29 (by kernel_rfl)) H2.out (fun w' => dOfW.of 30 rfl rfl)) ?_
        refine FStepsW.cons (FStepW.plain rfl fun a w hS hE => OpTo.eqT r rfl (hE 27 (by kernel_rfl)) (hE 30 (by kernel_rfl)) ⟨dOfW.of 31 rfl rfl, Touch.refl _ _⟩) ?_
        refine FStepsW.cons (FStepW.plain rfl fun a w hS hE => OpTo.move rfl ⟨dOfW.of 32 rfl (hE 31 (by kernel_rfl)), Touch.refl _ _⟩) ?_
        refine FStepsW.cons (FStepW.go 32 rfl rfl (fun _ _ h => h) fun a w hS hE => OpTo.fixed rfl (HV.out.touch hS) (fun w' => dOfW.of 33 rfl rfl)) ?_
        refine FStepsW.cons (FStepW.plain rfl fun a w hS hE => OpTo.pick true rfl (hE 32 (by kernel_rfl)) ⟨dOfW.of 34 rfl (hE 33 (by kernel_rfl)), Touch.refl _ _⟩) ?_
        refine FStepsW.cons (FStepW.plain rfl fun a w hS hE => OpTo.assign rfl ⟨dOfW.of 4 rfl (hE 34 (by kernel_rfl)), Touch.refl _ _⟩) ?_
        exact FStepsW.nil
      intro f wx hS hF
      obtain ⟨h4, -⟩ := hF
      replace h4 : f 4 = .bool true := h4
      simp only [setAll, List.setIfInBounds_toArray, List.set_cons_zero, List.set_cons_succ, h4]
      show wpList _ _ _ [] _ _
      have HT2 := Lib.hid (HT.out.trans hS)
      clear hS h4
      go_wp2_with fail
      go_ret
      exact ⟨rfl, HT2.out⟩
end Go.Proofs.YtflpjnillfgghaaDoor
