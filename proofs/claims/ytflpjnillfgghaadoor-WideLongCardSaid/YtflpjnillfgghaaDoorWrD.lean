/- The document's sum: a round. -/
import Derived.Test.YtflpjnillfgghaaDoorWrC
namespace Go.Proofs.YtflpjnillfgghaaDoor
open Go Go.RowKit
theorem nt_sub (i : Nat) (hi : i < 18446744073709551616) : nt i = 18446744073709551615 - i := by
  have h : BitVec.allOnes 64 ^^^ BitVec.ofNat 64 i = ~~~ (BitVec.ofNat 64 i) := BitVec.allOnes_xor
  have h2 := congrArg BitVec.toNat h
  rw [BitVec.toNat_xor, BitVec.toNat_allOnes, BitVec.toNat_not, BitVec.toNat_ofNat, Nat.mod_eq_of_lt (show i < 2 ^ 64 by omega)] at h2
  unfold nt xo
  rw [Nat.mod_eq_of_lt hi, Nat.mod_eq_of_lt (by decide)]
  exact h2
theorem OpTo.subM {o : Oper} {a : Act} {w : World} {R : Value → World → Prop} {x y : Operand} {t1 t2 : TypeId} (i : Nat) (hi : i < 18446744073709551616) (ho : o.op = .binOp .sub t1 x y t2) (hx : a.eval x = .int .u64 18446744073709551615) (hy : a.eval y = .int .u64 (i : Int)) (hR : R (.int .u64 ((nt i : Nat) : Int)) w) : OpTo Tryd.prog o a w R :=
  OpTo.val (v := .int .u64 ((nt i : Nat) : Int)) (by
    have h1 := IntWalk.u64_in (18446744073709551615 - (i : Int)) (by omega)
    have h2 := nt_sub i hi
    obtain ⟨q, hq⟩ : ∃ q, q = nt i := ⟨_, rfl⟩
    rw [← hq] at h2 ⊢
    have h3 : (18446744073709551615 : Int) - (i : Int) = (q : Int) := by omega
    unfold execOp
    simp only [ho, hx, hy]
    clear hq h2 hR
    go_simp
    rw [← h3]
    exact h1) hR
set_option maxRecDepth 100000 in
set_option maxHeartbeats 4000000 in
theorem round_any (v : Value) (s : List Nat) (hs : s.length = 8) (hws : Words s) (kk x : Nat) (w : World) (hv : Rd w v s) :
    Calls Tryd.prog 18 #[v, .int .u64 (kk : Int), .int .u64 (x : Int)] w fun e w' => ∃ g', e = .returned (.slice (some ⟨g', 0, none⟩) 8 8) ∧ Blk w' g' 36 (cellsN (rnd s kk x)).toArray ∧ w.heap.size ≤ g' ∧ Touch [] w w' := by
  have HRi := Lib.hid (fun (x n : Nat) (h0 : 0 < n) (h1 : n < 64) (W : World) => right_any x n h0 h1 W)
  have HWs := Lib.hid hws
  obtain ⟨g, off, c, rfl, hnc, hg, hcells⟩ := hv
  rw [hs] at hnc hcells ⊢
  have HC0 : Hid (∀ W, Touch [] w W → ∀ j, j < 8 → W.cell? ⟨g, off + j, none⟩ = some (.int .u64 ((s.getD j 0 : Nat) : Int))) := Lib.hid (fun W h j hj => (h.cell (p := ⟨g, off + j, none⟩) hg (by simp)).trans (hcells j hj))
  have HC := HC0
  clear hcells hg hws
  go_enter Tryd.func18, Tryd.ntmps18
  go_upto_region 1 with fail
  -- WFLOW rr1
  refine wp_region_flowT (by kernel_rfl) 24 (lookW [(0, pu (isV (.slice (some ⟨g, off, none⟩) 8 c))), (15, pu (isV (.slice (some ⟨g, off, none⟩) 8 c))), (16, pu (isV (.pointer (some ⟨g, off + 0, none⟩)))), (17, pu (isV (.int .u64 ((s.getD 0 0 : Nat) : Int)))), (18, pu (isV (.slice (some ⟨g, off, none⟩) 8 c))), (19, pu (isV (.pointer (some ⟨g, off + 1, none⟩)))), (20, pu (isV (.int .u64 ((s.getD 1 0 : Nat) : Int)))), (21, pu (isV (.slice (some ⟨g, off, none⟩) 8 c))), (22, pu (isV (.pointer (some ⟨g, off + 2, none⟩)))), (23, pu (isV (.int .u64 ((s.getD 2 0 : Nat) : Int)))), (24, pu (isV (.slice (some ⟨g, off, none⟩) 8 c))), (25, pu (isV (.pointer (some ⟨g, off + 4, none⟩)))), (26, pu (isV (.int .u64 ((s.getD 4 0 : Nat) : Int)))), (27, pu (isV (.slice (some ⟨g, off, none⟩) 8 c))), (28, pu (isV (.pointer (some ⟨g, off + 5, none⟩)))), (29, pu (isV (.int .u64 ((s.getD 5 0 : Nat) : Int)))), (30, pu (isV (.slice (some ⟨g, off, none⟩) 8 c))), (31, pu (isV (.pointer (some ⟨g, off + 6, none⟩)))), (32, pu (isV (.int .u64 ((s.getD 6 0 : Nat) : Int)))), (7, pu (isV (.int .u64 ((s.getD 0 0 : Nat) : Int)))), (8, pu (isV (.int .u64 ((s.getD 1 0 : Nat) : Int)))), (9, pu (isV (.int .u64 ((s.getD 2 0 : Nat) : Int)))), (10, pu (isV (.int .u64 ((s.getD 4 0 : Nat) : Int)))), (11, pu (isV (.int .u64 ((s.getD 5 0 : Nat) : Int)))), (12, pu (isV (.int .u64 ((s.getD 6 0 : Nat) : Int))))]) [0] [15, 16, 17, 18, 19, 20, 21, 22, 23, 24, 25, 26, 27, 28, 29, 30, 31, 32, 7, 8, 9, 10, 11, 12] [7, 8, 9, 10, 11, 12] (by kernel_rfl) (by kernel_rfl) (by kernel_rfl) (by kernel_rfl) ⟨rfl, trivial⟩ ?_ ?_
  · refine FStepsW.cons (FStepW.plain rfl fun a w hS hE => OpTo.move rfl ⟨dOfW.of 15 rfl (hE 0 (by kernel_rfl)), Touch.refl _ _⟩) ?_
    refine FStepsW.cons (FStepW.plain rfl fun a w hS hE => OpTo.ixL g off 8 c 0 rfl (hE 15 (by kernel_rfl)) rfl (by omega) ⟨dOfW.of 16 rfl rfl, Touch.refl _ _⟩) ?_
    refine FStepsW.cons (FStepW.plain rfl fun a w hS hE => OpTo.ldU g (off + 0) _ rfl (hE 16 (by kernel_rfl)) (HC.out w hS 0 (by omega)) ⟨dOfW.of 17 rfl rfl, Touch.refl _ _⟩) ?_
    refine FStepsW.cons (FStepW.plain rfl fun a w hS hE => OpTo.move rfl ⟨dOfW.of 18 rfl (hE 0 (by kernel_rfl)), Touch.refl _ _⟩) ?_
    refine FStepsW.cons (FStepW.plain rfl fun a w hS hE => OpTo.ixL g off 8 c 1 rfl (hE 18 (by kernel_rfl)) rfl (by omega) ⟨dOfW.of 19 rfl rfl, Touch.refl _ _⟩) ?_
    refine FStepsW.cons (FStepW.plain rfl fun a w hS hE => OpTo.ldU g (off + 1) _ rfl (hE 19 (by kernel_rfl)) (HC.out w hS 1 (by omega)) ⟨dOfW.of 20 rfl rfl, Touch.refl _ _⟩) ?_
    refine FStepsW.cons (FStepW.plain rfl fun a w hS hE => OpTo.move rfl ⟨dOfW.of 21 rfl (hE 0 (by kernel_rfl)), Touch.refl _ _⟩) ?_
    refine FStepsW.cons (FStepW.plain rfl fun a w hS hE => OpTo.ixL g off 8 c 2 rfl (hE 21 (by kernel_rfl)) rfl (by omega) ⟨dOfW.of 22 rfl rfl, Touch.refl _ _⟩) ?_
    refine FStepsW.cons (FStepW.plain rfl fun a w hS hE => OpTo.ldU g (off + 2) _ rfl (hE 22 (by kernel_rfl)) (HC.out w hS 2 (by omega)) ⟨dOfW.of 23 rfl rfl, Touch.refl _ _⟩) ?_
    refine FStepsW.cons (FStepW.plain rfl fun a w hS hE => OpTo.move rfl ⟨dOfW.of 24 rfl (hE 0 (by kernel_rfl)), Touch.refl _ _⟩) ?_
    refine FStepsW.cons (FStepW.plain rfl fun a w hS hE => OpTo.ixL g off 8 c 4 rfl (hE 24 (by kernel_rfl)) rfl (by omega) ⟨dOfW.of 25 rfl rfl, Touch.refl _ _⟩) ?_
    refine FStepsW.cons (FStepW.plain rfl fun a w hS hE => OpTo.ldU g (off + 4) _ rfl (hE 25 (by kernel_rfl)) (HC.out w hS 4 (by omega)) ⟨dOfW.of 26 rfl rfl, Touch.refl _ _⟩) ?_
    refine FStepsW.cons (FStepW.plain rfl fun a w hS hE => OpTo.move rfl ⟨dOfW.of 27 rfl (hE 0 (by kernel_rfl)), Touch.refl _ _⟩) ?_
    refine FStepsW.cons (FStepW.plain rfl fun a w hS hE => OpTo.ixL g off 8 c 5 rfl (hE 27 (by kernel_rfl)) rfl (by omega) ⟨dOfW.of 28 rfl rfl, Touch.refl _ _⟩) ?_
    refine FStepsW.cons (FStepW.plain rfl fun a w hS hE => OpTo.ldU g (off + 5) _ rfl (hE 28 (by kernel_rfl)) (HC.out w hS 5 (by omega)) ⟨dOfW.of 29 rfl rfl, Touch.refl _ _⟩) ?_
    refine FStepsW.cons (FStepW.plain rfl fun a w hS hE => OpTo.move rfl ⟨dOfW.of 30 rfl (hE 0 (by kernel_rfl)), Touch.refl _ _⟩) ?_
    refine FStepsW.cons (FStepW.plain rfl fun a w hS hE => OpTo.ixL g off 8 c 6 rfl (hE 30 (by kernel_rfl)) rfl (by omega) ⟨dOfW.of 31 rfl rfl, Touch.refl _ _⟩) ?_
    refine FStepsW.cons (FStepW.plain rfl fun a w hS hE => OpTo.ldU g (off + 6) _ rfl (hE 31 (by kernel_rfl)) (HC.out w hS 6 (by omega)) ⟨dOfW.of 32 rfl rfl, Touch.refl _ _⟩) ?_
    refine FStepsW.cons (FStepW.plain rfl fun a w hS hE => OpTo.assign rfl ⟨dOfW.of 7 rfl (hE 17 (by kernel_rfl)), Touch.refl _ _⟩) ?_
    refine FStepsW.cons (FStepW.plain rfl fun a w hS hE => OpTo.assign rfl ⟨dOfW.of 8 rfl (hE 20 (by kernel_rfl)), Touch.refl _ _⟩) ?_
    refine FStepsW.cons (FStepW.plain rfl fun a w hS hE => OpTo.assign rfl ⟨dOfW.of 9 rfl (hE 23 (by kernel_rfl)), Touch.refl _ _⟩) ?_
    refine FStepsW.cons (FStepW.plain rfl fun a w hS hE => OpTo.assign rfl ⟨dOfW.of 10 rfl (hE 26 (by kernel_rfl)), Touch.refl _ _⟩) ?_
    refine FStepsW.cons (FStepW.plain rfl fun a w hS hE => OpTo.assign rfl ⟨dOfW.of 11 rfl (hE 29 (by kernel_rfl)), Touch.refl _ _⟩) ?_
    refine FStepsW.cons (FStepW.plain rfl fun a w hS hE => OpTo.assign rfl ⟨dOfW.of 12 rfl (hE 32 (by kernel_rfl)), Touch.refl _ _⟩) ?_
    exact FStepsW.nil
  intro f wx hS hF
  obtain ⟨h7, h8, h9, h10, h11, h12, -⟩ := hF
  replace h7 : f 7 = .int .u64 ((s.getD 0 0 : Nat) : Int) := h7
  replace h8 : f 8 = .int .u64 ((s.getD 1 0 : Nat) : Int) := h8
  replace h9 : f 9 = .int .u64 ((s.getD 2 0 : Nat) : Int) := h9
  replace h10 : f 10 = .int .u64 ((s.getD 4 0 : Nat) : Int) := h10
  replace h11 : f 11 = .int .u64 ((s.getD 5 0 : Nat) : Int) := h11
  replace h12 : f 12 = .int .u64 ((s.getD 6 0 : Nat) : Int) := h12
  simp only [setAll, List.setIfInBounds_toArray, List.set_cons_zero, List.set_cons_succ, h7, h8, h9, h10, h11, h12]
  show wpList _ _ _ [] _ _
  -- END
  have HT1 := Lib.hid hS
  clear HC h7 h8 h9 h10 h11 h12 hS
  have HC : Hid (∀ W, Touch [] wx W → ∀ j, j < 8 → W.cell? ⟨g, off + j, none⟩ = some (.int .u64 ((s.getD j 0 : Nat) : Int))) := Lib.hid (fun W h => HC0.out W (HT1.out.trans h))
  go_wp2_with fail
  go_upto_region 2 with fail
  -- WFLOW rr2
  refine wp_region_flowT (by kernel_rfl) 26 (lookW [(0, pu (isV (.slice (some ⟨g, off, none⟩) 8 c))), (1, pu (isV (.int .u64 ((kk : Nat) : Int)))), (2, pu (isV (.int .u64 ((x : Nat) : Int)))), (10, pu (isV (.int .u64 ((s.getD 4 0 : Nat) : Int)))), (11, pu (isV (.int .u64 ((s.getD 5 0 : Nat) : Int)))), (12, pu (isV (.int .u64 ((s.getD 6 0 : Nat) : Int)))), (33, pu (isV (.slice (some ⟨g, off, none⟩) 8 c))), (34, pu (isV (.pointer (some ⟨g, off + 7, none⟩)))), (35, pu (isV (.int .u64 ((s.getD 7 0 : Nat) : Int)))), (36, pu (isV (.int .u64 ((s.getD 4 0 : Nat) : Int)))), (37, pu (isV (.int .u64 ((rot (s.getD 4 0) 14 : Nat) : Int)))), (38, pu (isV (.int .u64 ((s.getD 4 0 : Nat) : Int)))), (39, pu (isV (.int .u64 ((rot (s.getD 4 0) 18 : Nat) : Int)))), (40, pu (isV (.int .u64 ((xo (rot (s.getD 4 0) 14) (rot (s.getD 4 0) 18) : Nat) : Int)))), (41, pu (isV (.int .u64 ((s.getD 4 0 : Nat) : Int)))), (42, pu (isV (.int .u64 ((rot (s.getD 4 0) 41 : Nat) : Int)))), (43, pu (isV (.int .u64 ((xo (xo (rot (s.getD 4 0) 14) (rot (s.getD 4 0) 18)) (rot (s.getD 4 0) 41) : Nat) : Int)))), (44, pu (isV (.int .u64 ((ad (s.getD 7 0) (xo (xo (rot (s.getD 4 0) 14) (rot (s.getD 4 0) 18)) (rot (s.getD 4 0) 41)) : Nat) : Int)))), (45, pu (isV (.int .u64 ((s.getD 4 0 : Nat) : Int)))), (46, pu (isV (.int .u64 ((s.getD 5 0 : Nat) : Int)))), (47, pu (isV (.int .u64 ((an (s.getD 4 0) (s.getD 5 0) : Nat) : Int)))), (48, pu (isV (.int .u64 ((s.getD 4 0 : Nat) : Int)))), (49, pu (isV (.int .u64 ((nt (s.getD 4 0) : Nat) : Int)))), (50, pu (isV (.int .u64 ((s.getD 6 0 : Nat) : Int)))), (51, pu (isV (.int .u64 ((an (nt (s.getD 4 0)) (s.getD 6 0) : Nat) : Int)))), (52, pu (isV (.int .u64 ((xo (an (s.getD 4 0) (s.getD 5 0)) (an (nt (s.getD 4 0)) (s.getD 6 0)) : Nat) : Int)))), (53, pu (isV (.int .u64 ((ad (ad (s.getD 7 0) (xo (xo (rot (s.getD 4 0) 14) (rot (s.getD 4 0) 18)) (rot (s.getD 4 0) 41))) (xo (an (s.getD 4 0) (s.getD 5 0)) (an (nt (s.getD 4 0)) (s.getD 6 0))) : Nat) : Int)))), (54, pu (isV (.int .u64 ((kk : Nat) : Int)))), (55, pu (isV (.int .u64 ((ad (ad (ad (s.getD 7 0) (xo (xo (rot (s.getD 4 0) 14) (rot (s.getD 4 0) 18)) (rot (s.getD 4 0) 41))) (xo (an (s.getD 4 0) (s.getD 5 0)) (an (nt (s.getD 4 0)) (s.getD 6 0)))) (kk) : Nat) : Int)))), (56, pu (isV (.int .u64 ((x : Nat) : Int)))), (57, pu (isV (.int .u64 ((ad (ad (ad (ad (s.getD 7 0) (xo (xo (rot (s.getD 4 0) 14) (rot (s.getD 4 0) 18)) (rot (s.getD 4 0) 41))) (xo (an (s.getD 4 0) (s.getD 5 0)) (an (nt (s.getD 4 0)) (s.getD 6 0)))) (kk)) (x) : Nat) : Int)))), (13, pu (isV (.int .u64 ((ad (ad (ad (ad (s.getD 7 0) (xo (xo (rot (s.getD 4 0) 14) (rot (s.getD 4 0) 18)) (rot (s.getD 4 0) 41))) (xo (an (s.getD 4 0) (s.getD 5 0)) (an (nt (s.getD 4 0)) (s.getD 6 0)))) (kk)) (x) : Nat) : Int))))]) [0, 1, 2, 10, 11, 12] [33, 34, 35, 36, 37, 38, 39, 40, 41, 42, 43, 44, 45, 46, 47, 48, 49, 50, 51, 52, 53, 54, 55, 56, 57, 13] [13] (by kernel_rfl) (by kernel_rfl) (by kernel_rfl) (by kernel_rfl) ⟨rfl, rfl, rfl, rfl, rfl, rfl, trivial⟩ ?_ ?_
  · refine FStepsW.cons (FStepW.plain rfl fun a w hS hE => OpTo.move rfl ⟨dOfW.of 33 rfl (hE 0 (by kernel_rfl)), Touch.refl _ _⟩) ?_
    refine FStepsW.cons (FStepW.plain rfl fun a w hS hE => OpTo.ixL g off 8 c 7 rfl (hE 33 (by kernel_rfl)) rfl (by omega) ⟨dOfW.of 34 rfl rfl, Touch.refl _ _⟩) ?_
    refine FStepsW.cons (FStepW.plain rfl fun a w hS hE => OpTo.ldU g (off + 7) _ rfl (hE 34 (by kernel_rfl)) (HC.out w hS 7 (by omega)) ⟨dOfW.of 35 rfl rfl, Touch.refl _ _⟩) ?_
    refine FStepsW.cons (FStepW.plain rfl fun a w hS hE => OpTo.move rfl ⟨dOfW.of 36 rfl (hE 10 (by kernel_rfl)), Touch.refl _ _⟩) ?_
    refine FStepsW.cons (FStepW.plain rfl fun a w hS hE => OpTo.call #[.int .u64 ((s.getD 4 0 : Nat) : Int), .int .i64 ((14 : Nat) : Int)] rfl Tryd.func29 (by kernel_rfl) (by kernel_rfl) (argsW2 (hE 36 (by kernel_rfl)) rfl) ((HRi.out (s.getD 4 0) 14 (by decide) (by decide) w).mono fun _ _ h => callsW 37 rfl (fun _ _ h => h) h)) ?_
    refine FStepsW.cons (FStepW.plain rfl fun a w hS hE => OpTo.move rfl ⟨dOfW.of 38 rfl (hE 10 (by kernel_rfl)), Touch.refl _ _⟩) ?_
    refine FStepsW.cons (FStepW.plain rfl fun a w hS hE => OpTo.call #[.int .u64 ((s.getD 4 0 : Nat) : Int), .int .i64 ((18 : Nat) : Int)] rfl Tryd.func29 (by kernel_rfl) (by kernel_rfl) (argsW2 (hE 38 (by kernel_rfl)) rfl) ((HRi.out (s.getD 4 0) 18 (by decide) (by decide) w).mono fun _ _ h => callsW 39 rfl (fun _ _ h => h) h)) ?_
    refine FStepsW.cons (FStepW.plain rfl fun a w hS hE => OpTo.xorN (rot (s.getD 4 0) 14) (rot (s.getD 4 0) 18) rfl (hE 37 (by kernel_rfl)) (hE 39 (by kernel_rfl)) ⟨dOfW.of 40 rfl rfl, Touch.refl _ _⟩) ?_
    refine FStepsW.cons (FStepW.plain rfl fun a w hS hE => OpTo.move rfl ⟨dOfW.of 41 rfl (hE 10 (by kernel_rfl)), Touch.refl _ _⟩) ?_
    refine FStepsW.cons (FStepW.plain rfl fun a w hS hE => OpTo.call #[.int .u64 ((s.getD 4 0 : Nat) : Int), .int .i64 ((41 : Nat) : Int)] rfl Tryd.func29 (by kernel_rfl) (by kernel_rfl) (argsW2 (hE 41 (by kernel_rfl)) rfl) ((HRi.out (s.getD 4 0) 41 (by decide) (by decide) w).mono fun _ _ h => callsW 42 rfl (fun _ _ h => h) h)) ?_
    refine FStepsW.cons (FStepW.plain rfl fun a w hS hE => OpTo.xorN (xo (rot (s.getD 4 0) 14) (rot (s.getD 4 0) 18)) (rot (s.getD 4 0) 41) rfl (hE 40 (by kernel_rfl)) (hE 42 (by kernel_rfl)) ⟨dOfW.of 43 rfl rfl, Touch.refl _ _⟩) ?_
    refine FStepsW.cons (FStepW.plain rfl fun a w hS hE => OpTo.addN (s.getD 7 0) (xo (xo (rot (s.getD 4 0) 14) (rot (s.getD 4 0) 18)) (rot (s.getD 4 0) 41)) rfl (hE 35 (by kernel_rfl)) (hE 43 (by kernel_rfl)) ⟨dOfW.of 44 rfl rfl, Touch.refl _ _⟩) ?_
    refine FStepsW.cons (FStepW.plain rfl fun a w hS hE => OpTo.move rfl ⟨dOfW.of 45 rfl (hE 10 (by kernel_rfl)), Touch.refl _ _⟩) ?_
    refine FStepsW.cons (FStepW.plain rfl fun a w hS hE => OpTo.move rfl ⟨dOfW.of 46 rfl (hE 11 (by kernel_rfl)), Touch.refl _ _⟩) ?_
    refine FStepsW.cons (FStepW.plain rfl fun a w hS hE => OpTo.andN (s.getD 4 0) (s.getD 5 0) rfl (hE 45 (by kernel_rfl)) (hE 46 (by kernel_rfl)) ⟨dOfW.of 47 rfl rfl, Touch.refl _ _⟩) ?_
    refine FStepsW.cons (FStepW.plain rfl fun a w hS hE => OpTo.move rfl ⟨dOfW.of 48 rfl (hE 10 (by kernel_rfl)), Touch.refl _ _⟩) ?_
    refine FStepsW.cons (FStepW.plain rfl fun a w hS hE => OpTo.subM (s.getD 4 0) (HWs.out.at_ _) rfl rfl (hE 48 (by kernel_rfl)) ⟨dOfW.of 49 rfl rfl, Touch.refl _ _⟩) ?_
    refine FStepsW.cons (FStepW.plain rfl fun a w hS hE => OpTo.move rfl ⟨dOfW.of 50 rfl (hE 12 (by kernel_rfl)), Touch.refl _ _⟩) ?_
    refine FStepsW.cons (FStepW.plain rfl fun a w hS hE => OpTo.andN (nt (s.getD 4 0)) (s.getD 6 0) rfl (hE 49 (by kernel_rfl)) (hE 50 (by kernel_rfl)) ⟨dOfW.of 51 rfl rfl, Touch.refl _ _⟩) ?_
    refine FStepsW.cons (FStepW.plain rfl fun a w hS hE => OpTo.xorN (an (s.getD 4 0) (s.getD 5 0)) (an (nt (s.getD 4 0)) (s.getD 6 0)) rfl (hE 47 (by kernel_rfl)) (hE 51 (by kernel_rfl)) ⟨dOfW.of 52 rfl rfl, Touch.refl _ _⟩) ?_
    refine FStepsW.cons (FStepW.plain rfl fun a w hS hE => OpTo.addN (ad (s.getD 7 0) (xo (xo (rot (s.getD 4 0) 14) (rot (s.getD 4 0) 18)) (rot (s.getD 4 0) 41))) (xo (an (s.getD 4 0) (s.getD 5 0)) (an (nt (s.getD 4 0)) (s.getD 6 0))) rfl (hE 44 (by kernel_rfl)) (hE 52 (by kernel_rfl)) ⟨dOfW.of 53 rfl rfl, Touch.refl _ _⟩) ?_
    refine FStepsW.cons (FStepW.plain rfl fun a w hS hE => OpTo.move rfl ⟨dOfW.of 54 rfl (hE 1 (by kernel_rfl)), Touch.refl _ _⟩) ?_
    refine FStepsW.cons (FStepW.plain rfl fun a w hS hE => OpTo.addN (ad (ad (s.getD 7 0) (xo (xo (rot (s.getD 4 0) 14) (rot (s.getD 4 0) 18)) (rot (s.getD 4 0) 41))) (xo (an (s.getD 4 0) (s.getD 5 0)) (an (nt (s.getD 4 0)) (s.getD 6 0)))) (kk) rfl (hE 53 (by kernel_rfl)) (hE 54 (by kernel_rfl)) ⟨dOfW.of 55 rfl rfl, Touch.refl _ _⟩) ?_
    refine FStepsW.cons (FStepW.plain rfl fun a w hS hE => OpTo.move rfl ⟨dOfW.of 56 rfl (hE 2 (by kernel_rfl)), Touch.refl _ _⟩) ?_
    refine FStepsW.cons (FStepW.plain rfl fun a w hS hE => OpTo.addN (ad (ad (ad (s.getD 7 0) (xo (xo (rot (s.getD 4 0) 14) (rot (s.getD 4 0) 18)) (rot (s.getD 4 0) 41))) (xo (an (s.getD 4 0) (s.getD 5 0)) (an (nt (s.getD 4 0)) (s.getD 6 0)))) (kk)) (x) rfl (hE 55 (by kernel_rfl)) (hE 56 (by kernel_rfl)) ⟨dOfW.of 57 rfl rfl, Touch.refl _ _⟩) ?_
    refine FStepsW.cons (FStepW.plain rfl fun a w hS hE => OpTo.assign rfl ⟨dOfW.of 13 rfl (hE 57 (by kernel_rfl)), Touch.refl _ _⟩) ?_
    exact FStepsW.nil
  intro f wx hS hF
  obtain ⟨h13, -⟩ := hF
  replace h13 : f 13 = .int .u64 ((rndX s kk x : Nat) : Int) := h13
  simp only [setAll, List.setIfInBounds_toArray, List.set_cons_zero, List.set_cons_succ, h13]
  show wpList _ _ _ [] _ _
  -- END
  obtain ⟨X, hX⟩ : ∃ X, X = rndX s kk x := ⟨_, rfl⟩
  rw [← hX]
  have HX := Lib.hid hX
  have HT2 := Lib.hid (HT1.out.trans hS)
  clear HC h13 hS hX HT1
  go_upto_region 3 with fail
  -- WFLOW rr3
  refine wp_region_list ?_
  refine wpList_flowW (lookW [(7, pu (isV (.int .u64 ((s.getD 0 0 : Nat) : Int)))), (8, pu (isV (.int .u64 ((s.getD 1 0 : Nat) : Int)))), (9, pu (isV (.int .u64 ((s.getD 2 0 : Nat) : Int)))), (58, pu (isV (.int .u64 ((s.getD 0 0 : Nat) : Int)))), (59, pu (isV (.int .u64 ((rot (s.getD 0 0) 28 : Nat) : Int)))), (60, pu (isV (.int .u64 ((s.getD 0 0 : Nat) : Int)))), (61, pu (isV (.int .u64 ((rot (s.getD 0 0) 34 : Nat) : Int)))), (62, pu (isV (.int .u64 ((xo (rot (s.getD 0 0) 28) (rot (s.getD 0 0) 34) : Nat) : Int)))), (63, pu (isV (.int .u64 ((s.getD 0 0 : Nat) : Int)))), (64, pu (isV (.int .u64 ((rot (s.getD 0 0) 39 : Nat) : Int)))), (65, pu (isV (.int .u64 ((xo (xo (rot (s.getD 0 0) 28) (rot (s.getD 0 0) 34)) (rot (s.getD 0 0) 39) : Nat) : Int)))), (66, pu (isV (.int .u64 ((s.getD 0 0 : Nat) : Int)))), (67, pu (isV (.int .u64 ((s.getD 1 0 : Nat) : Int)))), (68, pu (isV (.int .u64 ((an (s.getD 0 0) (s.getD 1 0) : Nat) : Int)))), (69, pu (isV (.int .u64 ((s.getD 0 0 : Nat) : Int)))), (70, pu (isV (.int .u64 ((s.getD 2 0 : Nat) : Int)))), (71, pu (isV (.int .u64 ((an (s.getD 0 0) (s.getD 2 0) : Nat) : Int)))), (72, pu (isV (.int .u64 ((xo (an (s.getD 0 0) (s.getD 1 0)) (an (s.getD 0 0) (s.getD 2 0)) : Nat) : Int)))), (73, pu (isV (.int .u64 ((s.getD 1 0 : Nat) : Int)))), (74, pu (isV (.int .u64 ((s.getD 2 0 : Nat) : Int)))), (75, pu (isV (.int .u64 ((an (s.getD 1 0) (s.getD 2 0) : Nat) : Int)))), (76, pu (isV (.int .u64 ((xo (xo (an (s.getD 0 0) (s.getD 1 0)) (an (s.getD 0 0) (s.getD 2 0))) (an (s.getD 1 0) (s.getD 2 0)) : Nat) : Int)))), (77, pu (isV (.int .u64 ((ad (xo (xo (rot (s.getD 0 0) 28) (rot (s.getD 0 0) 34)) (rot (s.getD 0 0) 39)) (xo (xo (an (s.getD 0 0) (s.getD 1 0)) (an (s.getD 0 0) (s.getD 2 0))) (an (s.getD 1 0) (s.getD 2 0))) : Nat) : Int)))), (14, pu (isV (.int .u64 ((ad (xo (xo (rot (s.getD 0 0) 28) (rot (s.getD 0 0) 34)) (rot (s.getD 0 0) 39)) (xo (xo (an (s.getD 0 0) (s.getD 1 0)) (an (s.getD 0 0) (s.getD 2 0))) (an (s.getD 1 0) (s.getD 2 0))) : Nat) : Int))))]) [7, 8, 9] [58, 59, 60, 61, 62, 63, 64, 65, 66, 67, 68, 69, 70, 71, 72, 73, 74, 75, 76, 77, 14] [14] (by kernel_rfl) (by kernel_rfl) (by kernel_rfl) ⟨rfl, rfl, rfl, trivial⟩ ?_ ?_
  · refine FStepsW.cons (FStepW.plain rfl fun a w hS hE => OpTo.move rfl ⟨dOfW.of 58 rfl (hE 7 (by kernel_rfl)), Touch.refl _ _⟩) ?_
    refine FStepsW.cons (FStepW.plain rfl fun a w hS hE => OpTo.call #[.int .u64 ((s.getD 0 0 : Nat) : Int), .int .i64 ((28 : Nat) : Int)] rfl Tryd.func29 (by kernel_rfl) (by kernel_rfl) (argsW2 (hE 58 (by kernel_rfl)) rfl) ((HRi.out (s.getD 0 0) 28 (by decide) (by decide) w).mono fun _ _ h => callsW 59 rfl (fun _ _ h => h) h)) ?_
    refine FStepsW.cons (FStepW.plain rfl fun a w hS hE => OpTo.move rfl ⟨dOfW.of 60 rfl (hE 7 (by kernel_rfl)), Touch.refl _ _⟩) ?_
    refine FStepsW.cons (FStepW.plain rfl fun a w hS hE => OpTo.call #[.int .u64 ((s.getD 0 0 : Nat) : Int), .int .i64 ((34 : Nat) : Int)] rfl Tryd.func29 (by kernel_rfl) (by kernel_rfl) (argsW2 (hE 60 (by kernel_rfl)) rfl) ((HRi.out (s.getD 0 0) 34 (by decide) (by decide) w).mono fun _ _ h => callsW 61 rfl (fun _ _ h => h) h)) ?_
    refine FStepsW.cons (FStepW.plain rfl fun a w hS hE => OpTo.xorN (rot (s.getD 0 0) 28) (rot (s.getD 0 0) 34) rfl (hE 59 (by kernel_rfl)) (hE 61 (by kernel_rfl)) ⟨dOfW.of 62 rfl rfl, Touch.refl _ _⟩) ?_
    refine FStepsW.cons (FStepW.plain rfl fun a w hS hE => OpTo.move rfl ⟨dOfW.of 63 rfl (hE 7 (by kernel_rfl)), Touch.refl _ _⟩) ?_
    refine FStepsW.cons (FStepW.plain rfl fun a w hS hE => OpTo.call #[.int .u64 ((s.getD 0 0 : Nat) : Int), .int .i64 ((39 : Nat) : Int)] rfl Tryd.func29 (by kernel_rfl) (by kernel_rfl) (argsW2 (hE 63 (by kernel_rfl)) rfl) ((HRi.out (s.getD 0 0) 39 (by decide) (by decide) w).mono fun _ _ h => callsW 64 rfl (fun _ _ h => h) h)) ?_
    refine FStepsW.cons (FStepW.plain rfl fun a w hS hE => OpTo.xorN (xo (rot (s.getD 0 0) 28) (rot (s.getD 0 0) 34)) (rot (s.getD 0 0) 39) rfl (hE 62 (by kernel_rfl)) (hE 64 (by kernel_rfl)) ⟨dOfW.of 65 rfl rfl, Touch.refl _ _⟩) ?_
    refine FStepsW.cons (FStepW.plain rfl fun a w hS hE => OpTo.move rfl ⟨dOfW.of 66 rfl (hE 7 (by kernel_rfl)), Touch.refl _ _⟩) ?_
    refine FStepsW.cons (FStepW.plain rfl fun a w hS hE => OpTo.move rfl ⟨dOfW.of 67 rfl (hE 8 (by kernel_rfl)), Touch.refl _ _⟩) ?_
    refine FStepsW.cons (FStepW.plain rfl fun a w hS hE => OpTo.andN (s.getD 0 0) (s.getD 1 0) rfl (hE 66 (by kernel_rfl)) (hE 67 (by kernel_rfl)) ⟨dOfW.of 68 rfl rfl, Touch.refl _ _⟩) ?_
    refine FStepsW.cons (FStepW.plain rfl fun a w hS hE => OpTo.move rfl ⟨dOfW.of 69 rfl (hE 7 (by kernel_rfl)), Touch.refl _ _⟩) ?_
    refine FStepsW.cons (FStepW.plain rfl fun a w hS hE => OpTo.move rfl ⟨dOfW.of 70 rfl (hE 9 (by kernel_rfl)), Touch.refl _ _⟩) ?_
    refine FStepsW.cons (FStepW.plain rfl fun a w hS hE => OpTo.andN (s.getD 0 0) (s.getD 2 0) rfl (hE 69 (by kernel_rfl)) (hE 70 (by kernel_rfl)) ⟨dOfW.of 71 rfl rfl, Touch.refl _ _⟩) ?_
    refine FStepsW.cons (FStepW.plain rfl fun a w hS hE => OpTo.xorN (an (s.getD 0 0) (s.getD 1 0)) (an (s.getD 0 0) (s.getD 2 0)) rfl (hE 68 (by kernel_rfl)) (hE 71 (by kernel_rfl)) ⟨dOfW.of 72 rfl rfl, Touch.refl _ _⟩) ?_
    refine FStepsW.cons (FStepW.plain rfl fun a w hS hE => OpTo.move rfl ⟨dOfW.of 73 rfl (hE 8 (by kernel_rfl)), Touch.refl _ _⟩) ?_
    refine FStepsW.cons (FStepW.plain rfl fun a w hS hE => OpTo.move rfl ⟨dOfW.of 74 rfl (hE 9 (by kernel_rfl)), Touch.refl _ _⟩) ?_
    refine FStepsW.cons (FStepW.plain rfl fun a w hS hE => OpTo.andN (s.getD 1 0) (s.getD 2 0) rfl (hE 73 (by kernel_rfl)) (hE 74 (by kernel_rfl)) ⟨dOfW.of 75 rfl rfl, Touch.refl _ _⟩) ?_
    refine FStepsW.cons (FStepW.plain rfl fun a w hS hE => OpTo.xorN (xo (an (s.getD 0 0) (s.getD 1 0)) (an (s.getD 0 0) (s.getD 2 0))) (an (s.getD 1 0) (s.getD 2 0)) rfl (hE 72 (by kernel_rfl)) (hE 75 (by kernel_rfl)) ⟨dOfW.of 76 rfl rfl, Touch.refl _ _⟩) ?_
    refine FStepsW.cons (FStepW.plain rfl fun a w hS hE => OpTo.addN (xo (xo (rot (s.getD 0 0) 28) (rot (s.getD 0 0) 34)) (rot (s.getD 0 0) 39)) (xo (xo (an (s.getD 0 0) (s.getD 1 0)) (an (s.getD 0 0) (s.getD 2 0))) (an (s.getD 1 0) (s.getD 2 0))) rfl (hE 65 (by kernel_rfl)) (hE 76 (by kernel_rfl)) ⟨dOfW.of 77 rfl rfl, Touch.refl _ _⟩) ?_
    refine FStepsW.cons (FStepW.plain rfl fun a w hS hE => OpTo.assign rfl ⟨dOfW.of 14 rfl (hE 77 (by kernel_rfl)), Touch.refl _ _⟩) ?_
    exact FStepsW.nil
  intro f wx hS hF
  obtain ⟨h14, -⟩ := hF
  replace h14 : f 14 = .int .u64 ((rndY s : Nat) : Int) := h14
  simp only [setAll, List.setIfInBounds_toArray, List.set_cons_zero, List.set_cons_succ, h14]
  -- END
  obtain ⟨Y, hY⟩ : ∃ Y, Y = rndY s := ⟨_, rfl⟩
  rw [← hY]
  have HY := Lib.hid hY
  have HT3 := Lib.hid (HT2.out.trans hS)
  clear h14 hS hY HT2
  have c3 : wx.cell? ⟨g, off + 3, none⟩ = some (.int .u64 ((s.getD 3 0 : Nat) : Int)) := HC0.out wx HT3.out 3 (by omega)
  have k1 := add_c X Y
  have k2 := add_c (s.getD 3 0) X
  have Hrd : Hid ([ad X Y, s.getD 0 0, s.getD 1 0, s.getD 2 0, ad (s.getD 3 0) X, s.getD 4 0, s.getD 5 0, s.getD 6 0] = rnd s kk x) := Lib.hid (by rw [HX.out, HY.out]; rfl)
  generalize s.getD 0 0 = s0 at *
  generalize s.getD 1 0 = s1 at *
  generalize s.getD 2 0 = s2 at *
  generalize s.getD 3 0 = s3 at *
  generalize s.getD 4 0 = s4 at *
  generalize s.getD 5 0 = s5 at *
  generalize s.getD 6 0 = s6 at *
  clear HX HY HC0
  go_wp2_with fail
  go_ret
  rw [← Hrd.out]
  exact ⟨_, rfl, Blk.new wx 36 (cellsN [ad X Y, s0, s1, s2, ad s3 X, s4, s5, s6]).toArray, HT3.out.size, HT3.out.alloc _⟩
end Go.Proofs.YtflpjnillfgghaaDoor
