/- Sorted of the document: the walk (printed by gen_rsorted.py). -/
import Derived.Test.YtbpgbjhjnemaoaaGgSameF
import Derived.Test.YtbpgbjhjnemaoaaGgPut
namespace Go.Proofs.Ytbpgbjhjnemaoaa
open Go Go.RowKit
theorem Own.rowF {w : World} {A : Option Addr} {n c : Nat} {d : Nat → Nat} {row : Option Nat} (h : Own w 22 1 (.slice A n c) n (cellsF n d) row) (hb : ∀ k, k < n → d k < 18446744073709551616) : RowF w A n d := fun k hk => by
  obtain ⟨g, off, c2, cur, hv, hr, hB, _, hnc, _, hsz, hx⟩ := h.at_ (by omega)
  injection hv with hA _ hc
  subst hA
  exact ⟨g, off, rfl, hB.lt, (hB.cell (off + k)).trans (hx k _ (cellsF_at hk)), hb k hk⟩
theorem put_bd {w : World} {B : Option Addr} {i j x : Nat} {e : Nat → Nat} (h : RowF w B i e) (hx : x < 18446744073709551616) (hj : j ≤ i) (k : Nat) (hk : k < i + 1) : putAt e j x k < 18446744073709551616 := by
  unfold putAt
  by_cases h1 : k < j
  · rw [if_pos h1]
    obtain ⟨g, o, _, _, _, h4⟩ := h k (by omega)
    exact h4
  · rw [if_neg h1]
    by_cases h2 : k = j
    · rw [if_pos h2]; exact hx
    · rw [if_neg h2]
      obtain ⟨g, o, _, _, _, h4⟩ := h (k - 1) (by omega)
      exact h4
theorem RowF.pre {w : World} {B : Option Addr} {n m : Nat} {e : Nat → Nat} (h : RowF w B n e) (hm : m ≤ n) : RowF w B m e := fun k hk => h k (by omega)
theorem RowF.post {w : World} {g o n j : Nat} {e : Nat → Nat} (h : RowF w (some ⟨g, o, none⟩) n e) (hj : j ≤ n) : RowF w (some ⟨g, o + j, none⟩) (n - j) (fun k => e (j + k)) := fun k hk => by
  obtain ⟨g', o', h1, h2, h3, h4⟩ := h (j + k) (by omega)
  injection h1 with h1
  injection h1 with hg ho
  subst hg; subst ho
  exact ⟨g, o + j, rfl, h2, by rw [Nat.add_assoc]; exact h3, h4⟩
theorem RowF.post2 {w : World} {g o n j cb : Nat} {e : Nat → Nat} (h : RowF w (some ⟨g, o, none⟩) n e) (hj : j ≤ n) (hc : n ≤ cb) : RowF w (if cb = j then some ⟨g, o, none⟩ else some ⟨g, o + j, none⟩) (n - j) (fun k => e (j + k)) := by
  by_cases h1 : cb = j
  · rw [if_pos h1]
    exact fun k hk => by omega
  · rw [if_neg h1]
    exact h.post hj
theorem cells_put (e : Nat → Nat) (i j x : Nat) (hj : j ≤ i) : (([] ++ cellsF j e) ++ [Value.float .f64 x]) ++ cellsF (i - j) (fun k => e (j + k)) = cellsF (i + 1) (putAt e j x) := by
  refine List.ext_getElem? fun k => ?_
  have hl : (([] : List Value) ++ cellsF j e ++ [Value.float .f64 x]).length = j + 1 := by simp [cellsF_len]
  rcases Nat.lt_or_ge k (i + 1) with hk | hk
  · rw [cellsF_at hk]
    unfold putAt
    rcases Nat.lt_or_ge k (j + 1) with h1 | h1
    · rw [List.getElem?_append_left (by rw [hl]; exact h1)]
      rcases Nat.lt_or_ge k j with h2 | h2
      · rw [if_pos h2, List.getElem?_append_left (by simp [cellsF_len]; exact h2), List.nil_append, cellsF_at h2]
      · obtain rfl : k = j := by omega
        rw [if_neg (by omega), if_pos rfl, List.getElem?_append_right (by simp [cellsF_len])]
        simp [cellsF_len]
    · rw [List.getElem?_append_right (by rw [hl]; exact h1), hl, cellsF_at (by omega), if_neg (by omega), if_neg (by omega)]
      exact congrArg (fun q => some (Value.float .f64 (e q))) (by omega)
  · rw [List.getElem?_eq_none (by simp [cellsF_len]; omega), List.getElem?_eq_none (by rw [cellsF_len]; exact hk)]
theorem touch_new {w w1 w2 : World} {S : List Nat} {row' : Option Nat} (h : Touch S w w1) (k : Touch row'.toList w1 w2) (hn : NewRow w none row') : Touch S w w2 :=
  ⟨k.os.trans h.os, k.tape.trans h.tape, k.output.trans h.output, Nat.le_trans h.size k.size, fun i hi hni => by
    refine (k.block i (Nat.lt_of_lt_of_le hi h.size) (fun hm => ?_)).trans (h.block i hi hni)
    rcases hn i (Option.mem_toList.1 hm) with h' | h'
    · cases h'
    · omega⟩
theorem src_one {P : Program} {tx e' : TypeId} (hk : P.underlying tx = some (.slice e')) (w : World) (t : TypeId) (v : Value) (h1 : v.oneCell' = true) :
    Src P 1 tx (.slice (some ⟨w.heap.size, 0, none⟩) 1 1) 1 [v] (w.alloc (.cells #[v] t)) :=
  Src.ofSlice _ hk ⟨w.heap.size, 0, none⟩ 1 1 [v] rfl (fun j u hj => by
    match j, hj with
    | 0, hj => simp at hj; subst hj; exact (Blk.new w _ _).cell 0) (fun u hu => by simp at hu; subst hu; exact h1)
set_option maxRecDepth 100000 in
set_option maxHeartbeats 8000000 in
theorem rsorted_any (A : Option Addr) (n c : Nat) (d : Nat → Nat) (hn : n ≤ 40) (wA : World) (h : RowF wA A n d) :
    Calls Try.prog 25 #[.slice A n c] wA (SortedOk n d wA) := by
  have HD := Lib.hid h
  clear h
  obtain ⟨i0, hi0, hz0, hz1, hz2⟩ := info_parts infoF
  go_enter Try.func25, Try.ntmps25
  go_wp2_with fail
  go_loopw [3, 4] (fun vs vi wr => ∃ (i g' o' cb : Nat) (e : Nat → Nat), i ≤ n ∧ i ≤ cb ∧ cb ≤ maxLen ∧ vs = .slice (some ⟨g', o', none⟩) i cb ∧ vi = .int .i64 (i : Int) ∧ RowF wr (some ⟨g', o', none⟩) i e ∧ Srt e 0 i ∧ (∀ t, cnt e t i = cnt d t i) ∧ Touch [] wA wr) (fun _ vi _ => n - (intOf vi).toNat)
  case atStart => exact ⟨0, _, _, 0, d, by omega, by omega, by unfold maxLen; omega, rfl, rfl, (fun k hk => by omega), srt_tiny _ (by omega), fun _ => rfl, (Touch.refl [] wA).alloc _⟩
  case round =>
    obtain ⟨i, g', o', cb, e, hin, hicb, hcb, rfl, rfl, hrow, hs, hc, ht⟩ := hrel
    have HR := Lib.hid hrow
    have HS := Lib.hid hs
    have HCn := Lib.hid hc
    have HT := Lib.hid ht
    clear hrow hs hc ht
    unfold maxLen at hcb
    by_cases hlt : i < n
    · obtain ⟨g, o, rfl, hg, hcell, hbd⟩ := HD.out i hlt
      obtain ⟨x, hx⟩ : ∃ x, x = d i := ⟨_, rfl⟩
      rw [← hx] at hcell hbd
      have HX := Lib.hid hx
      have HG := Lib.hid hg
      have HC0 := Lib.hid hcell
      have HBx := Lib.hid hbd
      clear hx hcell hbd hg
      obtain ⟨w0, hw0⟩ : ∃ w0 : World, w0 = wr := ⟨_, rfl⟩
      rw [← hw0] at HR HT ⊢
      clear hw0 wr
      go_wp2_with fail
      go_loopw [5] (fun vj wr => ∃ (j : Nat), j ≤ i ∧ vj = .int .i64 (j : Int) ∧ (∀ k, j ≤ k → k < i → kf x < kf (e k)) ∧ RowF wr (some ⟨g', o', none⟩) i e ∧ Touch [] wA wr) (fun vj _ => (intOf vj).toNat)
      case atStart => exact ⟨i, by omega, rfl, (fun k h1 h2 => by omega), HR.out, HT.out⟩
      case round =>
        obtain ⟨j, hji, rfl, hhi, hrow, ht⟩ := hrel
        clear HR HT
        have HR := Lib.hid hrow
        have HT := Lib.hid ht
        have HHI := Lib.hid hhi
        have HC := Lib.hid ((ht.cell (p := ⟨g, o + i, none⟩) HG.out (by simp)).trans HC0.out)
        have Hgl := Lib.hid (Nat.lt_of_lt_of_le HG.out ht.size)
        clear hrow ht hhi
        by_cases hj : 0 < j
        · obtain ⟨p, hp⟩ : ∃ p, p = j - 1 := ⟨_, rfl⟩
          obtain ⟨g2, o2, hB, hg', hcell', hbd'⟩ := HR.out p (by omega)
          injection hB with hB
          injection hB with hB1 hB2
          subst hB1
          subst hB2
          obtain ⟨y, hy⟩ : ∃ y, y = e p := ⟨_, rfl⟩
          rw [← hy] at hcell' hbd'
          have HC2 := Lib.hid hcell'
          have Hgl2 := Lib.hid hg'
          have hl := fun W : World => rless_any x y HBx.out hbd' W
          have m1 := Lib.hid (show IntKind.i64.wrap ((j : Int) - 1) = (p : Int) by rw [IntWalk.i64_in _ (by omega)]; omega)
          have q1 := Lib.hid (show (0 : Int) ≤ (i : Int) ∧ (i : Int) < (n : Int) by omega)
          have q2 := Lib.hid (show (0 : Int) ≤ (p : Int) ∧ (p : Int) < (i : Int) by omega)
          have q0 := Lib.hid (show decide ((0 : Int) < (j : Int)) = true from decide_eq_true (by omega))
          have hp1 := Lib.hid (show (j : Int) - 1 = (p : Int) by omega)
          have HP := Lib.hid hp
          have HY := Lib.hid hy
          clear hcell' hbd' hg' hy hp
          by_cases hcmp : kf x < kf y
          · rw [show flt x y = true from decide_eq_true hcmp] at hl
            have HL := Lib.hid hl
            have HK := Lib.hid hcmp
            clear hl hcmp
            go_upto_region 6 with fail
            -- GF rso6t
            refine wp_region_flowT (by kernel_rfl) 14 (lookW [(5, pu (isV (.int .i64 (j : Int)))), (0, pu (isV (.slice (some ⟨g, o, none⟩) n c))), (4, pu (isV (.int .i64 (i : Int)))), (3, pu (isV (.slice (some ⟨g', o', none⟩) i cb))), (16, pu (isV (.int .i64 (j : Int)))), (17, pu (isV (.bool true))), (18, pu (isV (.bool true))), (19, pu (isV (.slice (some ⟨g, o, none⟩) n c))), (20, pu (isV (.int .i64 (i : Int)))), (21, pu (isV (.pointer (some ⟨g, o + i, none⟩)))), (22, pu (isV (.float .f64 x))), (23, pu (isV (.slice (some ⟨g', o', none⟩) i cb))), (24, pu (isV (.int .i64 (j : Int)))), (25, pu (isV (.int .i64 (p : Int)))), (26, pu (isV (.pointer (some ⟨g', o' + p, none⟩)))), (27, pu (isV (.float .f64 y))), (28, pu (isV (.bool true))), (29, pu (isV (.bool true)))]) [5, 0, 4, 3] [16, 17, 18, 19, 20, 21, 22, 23, 24, 25, 26, 27, 28, 29] [29] (by kernel_rfl) (by kernel_rfl) (by kernel_rfl) (by kernel_rfl) ⟨rfl, rfl, rfl, rfl, trivial⟩ ?_ ?_
            · refine FStepsW.cons (FStepW.plain rfl fun ac w hS hE => OpTo.moveG 16 rfl rfl (hE 5 (by kernel_rfl))) ?_
              refine FStepsW.cons (FStepW.plain rfl fun ac w hS hE => OpTo.pureG (v := .bool true) 17 rfl (by have h16 : ac.eval (.tmp 16) = .int .i64 (j : Int) := hE 16 (by kernel_rfl); have q := q0.out; unfold execOp; simp only [h16]; go_simp) rfl) ?_
              refine FStepsW.cons (FStepW.plain rfl fun ac w hS hE => OpTo.moveG 18 rfl rfl (hE 17 (by kernel_rfl))) ?_
              refine FStepsW.cons (FStepW.go 18 rfl rfl (fun _ _ h => h) fun ac w hS hE => OpTo.moveG 19 rfl rfl (hE 0 (by kernel_rfl))) ?_
              refine FStepsW.cons (FStepW.go 18 rfl rfl (fun _ _ h => h) fun ac w hS hE => OpTo.moveG 20 rfl rfl (hE 4 (by kernel_rfl))) ?_
              refine FStepsW.cons (FStepW.go 18 rfl rfl (fun _ _ h => h) fun ac w hS hE => OpTo.pureG (v := .pointer (some ⟨g, o + i, none⟩)) 21 rfl (by have h19 : ac.eval (.tmp 19) = .slice (some ⟨g, o, none⟩) n c := hE 19 (by kernel_rfl); have h20 : ac.eval (.tmp 20) = .int .i64 (i : Int) := hE 20 (by kernel_rfl); have q := q1.out; unfold execOp; simp only [h19, h20]; go_simp) rfl) ?_
              refine FStepsW.cons (FStepW.go 18 rfl rfl (fun _ _ h => h) fun ac w hS hE => OpTo.pureG (v := .float .f64 x) 22 rfl (by have h21 : ac.eval (.tmp 21) = .pointer (some ⟨g, o + i, none⟩) := hE 21 (by kernel_rfl); have hcell : w.cell? ⟨g, o + i, none⟩ = some (.float .f64 x) := (hS.cell (p := ⟨g, o + i, none⟩) Hgl.out (by simp)).trans HC.out; unfold execOp; simp only [h21]; go_simp) rfl) ?_
              refine FStepsW.cons (FStepW.go 18 rfl rfl (fun _ _ h => h) fun ac w hS hE => OpTo.moveG 23 rfl rfl (hE 3 (by kernel_rfl))) ?_
              refine FStepsW.cons (FStepW.go 18 rfl rfl (fun _ _ h => h) fun ac w hS hE => OpTo.moveG 24 rfl rfl (hE 5 (by kernel_rfl))) ?_
              refine FStepsW.cons (FStepW.go 18 rfl rfl (fun _ _ h => h) fun ac w hS hE => OpTo.pureG (v := .int .i64 (p : Int)) 25 rfl (by have h24 : ac.eval (.tmp 24) = .int .i64 (j : Int) := hE 24 (by kernel_rfl); have q := m1.out; unfold execOp; simp only [h24]; go_simp) rfl) ?_
              refine FStepsW.cons (FStepW.go 18 rfl rfl (fun _ _ h => h) fun ac w hS hE => OpTo.pureG (v := .pointer (some ⟨g', o' + p, none⟩)) 26 rfl (by have h23 : ac.eval (.tmp 23) = .slice (some ⟨g', o', none⟩) i cb := hE 23 (by kernel_rfl); have h25 : ac.eval (.tmp 25) = .int .i64 (p : Int) := hE 25 (by kernel_rfl); have q := q2.out; unfold execOp; simp only [h23, h25]; go_simp) rfl) ?_
              refine FStepsW.cons (FStepW.go 18 rfl rfl (fun _ _ h => h) fun ac w hS hE => OpTo.pureG (v := .float .f64 y) 27 rfl (by have h26 : ac.eval (.tmp 26) = .pointer (some ⟨g', o' + p, none⟩) := hE 26 (by kernel_rfl); have hcell : w.cell? ⟨g', o' + p, none⟩ = some (.float .f64 y) := (hS.cell (p := ⟨g', o' + p, none⟩) Hgl2.out (by simp)).trans HC2.out; unfold execOp; simp only [h26]; go_simp) rfl) ?_
              refine FStepsW.cons (FStepW.go 18 rfl rfl (fun _ _ h => h) fun ac w hS hE => OpTo.callG #[.float .f64 x, .float .f64 y] 28 rfl rfl Try.func14 (by kernel_rfl) (by kernel_rfl) (argE2 (hE 22 (by kernel_rfl)) (hE 27 (by kernel_rfl))) (cT (HL.out w)) (fun _ => rfl)) ?_
              refine FStepsW.cons (FStepW.plain rfl fun ac w hS hE => OpTo.pickG true 29 rfl rfl (hE 18 (by kernel_rfl)) (hE 28 (by kernel_rfl))) ?_
              exact FStepsW.nil
            intro f wx hS hF
            obtain ⟨h29, -⟩ := hF
            replace h29 : f 29 = .bool true := h29
            simp only [setAll, List.setIfInBounds_toArray, List.set_cons_zero, List.set_cons_succ, h29]
            show wpList _ _ _ [] _ _
            -- END
            have HT2 := Lib.hid (HT.out.trans hS)
            have HR2 := Lib.hid (HR.out.touch hS)
            clear hS
            go_wp2_with fail
            go_roundw
            case rel => exact ⟨p, by have := HP.out; omega, by have := hp1.out; go_num, (fun k h1 h2 => by
              have h3 := HP.out
              rcases Nat.lt_or_ge k j with h4 | h4
              · rw [show k = p by omega, ← HY.out]; exact HK.out
              · exact HHI.out k h4 h2), HR2.out, HT2.out⟩
            case measure =>
              have := HP.out
              simp [intOf]; omega
          · rw [show flt x y = false from decide_eq_false hcmp] at hl
            have HL := Lib.hid hl
            have HLO := Lib.hid (show j = 0 ∨ ¬ kf x < kf (e (j - 1)) from .inr (by rw [← HP.out, ← HY.out]; exact hcmp))
            clear hl hcmp
            go_upto_region 6 with fail
            -- GF rso6f
            refine wp_region_flowT (by kernel_rfl) 14 (lookW [(5, pu (isV (.int .i64 (j : Int)))), (0, pu (isV (.slice (some ⟨g, o, none⟩) n c))), (4, pu (isV (.int .i64 (i : Int)))), (3, pu (isV (.slice (some ⟨g', o', none⟩) i cb))), (16, pu (isV (.int .i64 (j : Int)))), (17, pu (isV (.bool true))), (18, pu (isV (.bool true))), (19, pu (isV (.slice (some ⟨g, o, none⟩) n c))), (20, pu (isV (.int .i64 (i : Int)))), (21, pu (isV (.pointer (some ⟨g, o + i, none⟩)))), (22, pu (isV (.float .f64 x))), (23, pu (isV (.slice (some ⟨g', o', none⟩) i cb))), (24, pu (isV (.int .i64 (j : Int)))), (25, pu (isV (.int .i64 (p : Int)))), (26, pu (isV (.pointer (some ⟨g', o' + p, none⟩)))), (27, pu (isV (.float .f64 y))), (28, pu (isV (.bool false))), (29, pu (isV (.bool false)))]) [5, 0, 4, 3] [16, 17, 18, 19, 20, 21, 22, 23, 24, 25, 26, 27, 28, 29] [29] (by kernel_rfl) (by kernel_rfl) (by kernel_rfl) (by kernel_rfl) ⟨rfl, rfl, rfl, rfl, trivial⟩ ?_ ?_
            · refine FStepsW.cons (FStepW.plain rfl fun ac w hS hE => OpTo.moveG 16 rfl rfl (hE 5 (by kernel_rfl))) ?_
              refine FStepsW.cons (FStepW.plain rfl fun ac w hS hE => OpTo.pureG (v := .bool true) 17 rfl (by have h16 : ac.eval (.tmp 16) = .int .i64 (j : Int) := hE 16 (by kernel_rfl); have q := q0.out; unfold execOp; simp only [h16]; go_simp) rfl) ?_
              refine FStepsW.cons (FStepW.plain rfl fun ac w hS hE => OpTo.moveG 18 rfl rfl (hE 17 (by kernel_rfl))) ?_
              refine FStepsW.cons (FStepW.go 18 rfl rfl (fun _ _ h => h) fun ac w hS hE => OpTo.moveG 19 rfl rfl (hE 0 (by kernel_rfl))) ?_
              refine FStepsW.cons (FStepW.go 18 rfl rfl (fun _ _ h => h) fun ac w hS hE => OpTo.moveG 20 rfl rfl (hE 4 (by kernel_rfl))) ?_
              refine FStepsW.cons (FStepW.go 18 rfl rfl (fun _ _ h => h) fun ac w hS hE => OpTo.pureG (v := .pointer (some ⟨g, o + i, none⟩)) 21 rfl (by have h19 : ac.eval (.tmp 19) = .slice (some ⟨g, o, none⟩) n c := hE 19 (by kernel_rfl); have h20 : ac.eval (.tmp 20) = .int .i64 (i : Int) := hE 20 (by kernel_rfl); have q := q1.out; unfold execOp; simp only [h19, h20]; go_simp) rfl) ?_
              refine FStepsW.cons (FStepW.go 18 rfl rfl (fun _ _ h => h) fun ac w hS hE => OpTo.pureG (v := .float .f64 x) 22 rfl (by have h21 : ac.eval (.tmp 21) = .pointer (some ⟨g, o + i, none⟩) := hE 21 (by kernel_rfl); have hcell : w.cell? ⟨g, o + i, none⟩ = some (.float .f64 x) := (hS.cell (p := ⟨g, o + i, none⟩) Hgl.out (by simp)).trans HC.out; unfold execOp; simp only [h21]; go_simp) rfl) ?_
              refine FStepsW.cons (FStepW.go 18 rfl rfl (fun _ _ h => h) fun ac w hS hE => OpTo.moveG 23 rfl rfl (hE 3 (by kernel_rfl))) ?_
              refine FStepsW.cons (FStepW.go 18 rfl rfl (fun _ _ h => h) fun ac w hS hE => OpTo.moveG 24 rfl rfl (hE 5 (by kernel_rfl))) ?_
              refine FStepsW.cons (FStepW.go 18 rfl rfl (fun _ _ h => h) fun ac w hS hE => OpTo.pureG (v := .int .i64 (p : Int)) 25 rfl (by have h24 : ac.eval (.tmp 24) = .int .i64 (j : Int) := hE 24 (by kernel_rfl); have q := m1.out; unfold execOp; simp only [h24]; go_simp) rfl) ?_
              refine FStepsW.cons (FStepW.go 18 rfl rfl (fun _ _ h => h) fun ac w hS hE => OpTo.pureG (v := .pointer (some ⟨g', o' + p, none⟩)) 26 rfl (by have h23 : ac.eval (.tmp 23) = .slice (some ⟨g', o', none⟩) i cb := hE 23 (by kernel_rfl); have h25 : ac.eval (.tmp 25) = .int .i64 (p : Int) := hE 25 (by kernel_rfl); have q := q2.out; unfold execOp; simp only [h23, h25]; go_simp) rfl) ?_
              refine FStepsW.cons (FStepW.go 18 rfl rfl (fun _ _ h => h) fun ac w hS hE => OpTo.pureG (v := .float .f64 y) 27 rfl (by have h26 : ac.eval (.tmp 26) = .pointer (some ⟨g', o' + p, none⟩) := hE 26 (by kernel_rfl); have hcell : w.cell? ⟨g', o' + p, none⟩ = some (.float .f64 y) := (hS.cell (p := ⟨g', o' + p, none⟩) Hgl2.out (by simp)).trans HC2.out; unfold execOp; simp only [h26]; go_simp) rfl) ?_
              refine FStepsW.cons (FStepW.go 18 rfl rfl (fun _ _ h => h) fun ac w hS hE => OpTo.callG #[.float .f64 x, .float .f64 y] 28 rfl rfl Try.func14 (by kernel_rfl) (by kernel_rfl) (argE2 (hE 22 (by kernel_rfl)) (hE 27 (by kernel_rfl))) (cT (HL.out w)) (fun _ => rfl)) ?_
              refine FStepsW.cons (FStepW.plain rfl fun ac w hS hE => OpTo.pickG true 29 rfl rfl (hE 18 (by kernel_rfl)) (hE 28 (by kernel_rfl))) ?_
              exact FStepsW.nil
            intro f wx hS hF
            obtain ⟨h29, -⟩ := hF
            replace h29 : f 29 = .bool false := h29
            simp only [setAll, List.setIfInBounds_toArray, List.set_cons_zero, List.set_cons_succ, h29]
            show wpList _ _ _ [] _ _
            -- END
            have HT2 := Lib.hid (HT.out.trans hS)
            have HR2 := Lib.hid (HR.out.touch hS)
            clear hS
            have HS2 := Lib.hid (srt_put HS.out (by omega) HHI.out HLO.out)
            have HB2 := Lib.hid (fun k (hk : k < i + 1) => put_bd HR2.out HBx.out (j := j) (by omega) k hk)
            have HC2' := Lib.hid ((HT2.out.cell (p := ⟨g, o + i, none⟩) HG.out (by simp)).trans HC0.out)
            have Hgl2' := Lib.hid (Nat.lt_of_lt_of_le HG.out HT2.out.size)
            clear HHI HLO HS HT HR HC Hgl
            have hl1 := Lib.hid (show (0 : Int) ≤ (j : Int) ∧ (j : Int) ≤ (i : Int) by omega)
            have hl2 := hl1.out
            have hcbi : (i : Int) ≤ (cb : Int) := by omega
            have hjcb : (j : Int) ≤ (cb : Int) := by omega
            obtain ⟨w1, hw1⟩ : ∃ w1 : World, w1 = wx := ⟨_, rfl⟩
            rw [← hw1] at HT2 HR2 HC2' Hgl2' ⊢
            clear hw1 wx
            go_wp2_with (at_builtin; refine wpList_append_Own _ rfl (.tmp 32) (.tmp 35) 42 42 rfl 22 i0 _ 1 8 Try.underlying42 hi0 hz0 hz1 hz2 rfl _ 0 [] none rfl (Own.nil _ _ _ _) _ j (cellsF j e) rfl ((HR2.out.pre (m := j) (by omega)).touch ((Touch.refl [] w1).alloc _)).src ?c3 ?c4 ?_)
            case c3 => unfold maxLen; omega
            case c4 => omega
            intro v' w2 row' hown' ht hrow'
            try rw [Nat.zero_add] at hown'
            have Ho := Lib.hid hown'
            have Hrow := Lib.hid (show NewRow w1 none row' from NewRow.before hrow' (by simp))
            have HTa := Lib.hid (((Touch.refl [] w1).alloc _).trans ht)
            clear hown' hrow' ht
            obtain ⟨A', c', rfl, _⟩ := Ho.out.shape
            have hcx := (HTa.out.cell (p := ⟨g, o + i, none⟩) Hgl2'.out (by simp)).trans HC2'.out
            have hqi : (0 : Int) ≤ (i : Int) ∧ (i : Int) < (n : Int) := by omega
            go_wp2_with (at_builtin; refine wpList_append_Own _ rfl (.tmp 37) (.tmp 42) 42 42 rfl 22 i0 _ 1 8 Try.underlying42 hi0 hz0 hz1 hz2 rfl _ j _ row' rfl (Ho.out.alloc _) _ 1 [.float .f64 x] rfl (src_one Try.underlying42 w2 _ _ rfl) ?c3 ?c4 ?_)
            case c3 => unfold maxLen; omega
            case c4 => omega
            intro v2 w3 row2 hown' ht hrow'
            have Ho2 := Lib.hid hown'
            have Hrow2 := Lib.hid (Hrow.out.trans (show NewRow w2 row' row2 from NewRow.before hrow' (by simp)) HTa.out.size)
            have HTb := Lib.hid (touch_new (HTa.out.alloc _) ht Hrow.out)
            clear hown' hrow' ht hcx
            obtain ⟨A2, c2, rfl, _⟩ := Ho2.out.shape
            have hpost := (HR2.out.touch HTb.out).post2 (j := j) (cb := cb) (by omega) (by omega)
            have hT4 := HT2.out
            clear HT2 HR2
            go_wp2_with (at_builtin; refine wpList_append_Own _ rfl (.tmp 44) (.tmp 47) 42 42 rfl 22 i0 _ 1 8 Try.underlying42 hi0 hz0 hz1 hz2 rfl _ (j + 1) _ row2 rfl Ho2.out _ (i - j) (cellsF (i - j) (fun k => e (j + k))) rfl (RowF.src (by first | exact hpost | (simpa using hpost))) ?c3 ?c4 ?_)
            case c3 => unfold maxLen; omega
            case c4 => omega
            all_goals
              intro v3 w4 row3 hown' ht hrow'
              have hT5 := touch_new HTb.out ht Hrow2.out
              obtain ⟨m, hm⟩ : ∃ m, m = j + 1 + (i - j) := ⟨_, rfl⟩
              have h5 : Own w4 22 1 v3 m (cellsF (i + 1) (putAt e j x)) row3 := by
                rw [hm, ← cells_put e i j x (by omega)]
                simpa [List.append_assoc] using hown'
              obtain rfl : m = i + 1 := by omega
              clear hown' hrow' ht hm hpost
              obtain ⟨g3, o3, c3, cur, rfl, _, _, _, hnc, hcm, _, _⟩ := h5.at_ (by omega)
              have HR3 := Lib.hid (Own.rowF h5 HB2.out)
              have HT5 := Lib.hid (hT4.trans hT5)
              clear hT4 hT5 h5
              go_wp2_with fail
              go_roundw
              case rel => exact ⟨i + 1, g3, o3, c3, putAt e j x, by omega, hnc, hcm, rfl, by go_num, HR3.out, HS2.out, fun t => by rw [cnt_put' e t x (by omega), HCn.out, HX.out]; rfl, HT5.out⟩
              case measure => simp [intOf]; omega
        · obtain rfl : j = 0 := by omega
          have HLO := Lib.hid (show (0 : Nat) = 0 ∨ ¬ kf x < kf (e (0 - 1)) from .inl rfl)
          go_upto_region 6 with fail
          -- GF rso6n
          refine wp_region_flowT (by kernel_rfl) 14 (lookW [(5, pu (isV (.int .i64 0))), (0, pu (isV (.slice (some ⟨g, o, none⟩) n c))), (4, pu (isV (.int .i64 (i : Int)))), (3, pu (isV (.slice (some ⟨g', o', none⟩) i cb))), (16, pu (isV (.int .i64 0))), (17, pu (isV (.bool false))), (18, pu (isV (.bool false))), (19, pu (isV (undef))), (20, pu (isV (undef))), (21, pu (isV (undef))), (22, pu (isV (undef))), (23, pu (isV (undef))), (24, pu (isV (undef))), (25, pu (isV (undef))), (26, pu (isV (undef))), (27, pu (isV (undef))), (28, pu (isV (undef))), (29, pu (isV (.bool false)))]) [5, 0, 4, 3] [16, 17, 18, 19, 20, 21, 22, 23, 24, 25, 26, 27, 28, 29] [29] (by kernel_rfl) (by kernel_rfl) (by kernel_rfl) (by kernel_rfl) ⟨rfl, rfl, rfl, rfl, trivial⟩ ?_ ?_
          · refine FStepsW.cons (FStepW.plain rfl fun ac w hS hE => OpTo.moveG 16 rfl rfl (hE 5 (by kernel_rfl))) ?_
            refine FStepsW.cons (FStepW.plain rfl fun ac w hS hE => OpTo.pureG (v := .bool false) 17 rfl (by have h16 : ac.eval (.tmp 16) = .int .i64 0 := hE 16 (by kernel_rfl); unfold execOp; simp only [h16]; go_simp) rfl) ?_
            refine FStepsW.cons (FStepW.plain rfl fun ac w hS hE => OpTo.moveG 18 rfl rfl (hE 17 (by kernel_rfl))) ?_
            refine FStepsW.cons (FStepW.no 18 rfl rfl (fun _ _ h => h) (fun _ => dOfW.of 19 rfl rfl)) ?_
            refine FStepsW.cons (FStepW.no 18 rfl rfl (fun _ _ h => h) (fun _ => dOfW.of 20 rfl rfl)) ?_
            refine FStepsW.cons (FStepW.no 18 rfl rfl (fun _ _ h => h) (fun _ => dOfW.of 21 rfl rfl)) ?_
            refine FStepsW.cons (FStepW.no 18 rfl rfl (fun _ _ h => h) (fun _ => dOfW.of 22 rfl rfl)) ?_
            refine FStepsW.cons (FStepW.no 18 rfl rfl (fun _ _ h => h) (fun _ => dOfW.of 23 rfl rfl)) ?_
            refine FStepsW.cons (FStepW.no 18 rfl rfl (fun _ _ h => h) (fun _ => dOfW.of 24 rfl rfl)) ?_
            refine FStepsW.cons (FStepW.no 18 rfl rfl (fun _ _ h => h) (fun _ => dOfW.of 25 rfl rfl)) ?_
            refine FStepsW.cons (FStepW.no 18 rfl rfl (fun _ _ h => h) (fun _ => dOfW.of 26 rfl rfl)) ?_
            refine FStepsW.cons (FStepW.no 18 rfl rfl (fun _ _ h => h) (fun _ => dOfW.of 27 rfl rfl)) ?_
            refine FStepsW.cons (FStepW.no 18 rfl rfl (fun _ _ h => h) (fun _ => dOfW.of 28 rfl rfl)) ?_
            refine FStepsW.cons (FStepW.plain rfl fun ac w hS hE => OpTo.pickG false 29 rfl rfl (hE 18 (by kernel_rfl)) rfl) ?_
            exact FStepsW.nil
          intro f wx hS hF
          obtain ⟨h29, -⟩ := hF
          replace h29 : f 29 = .bool false := h29
          simp only [setAll, List.setIfInBounds_toArray, List.set_cons_zero, List.set_cons_succ, h29]
          show wpList _ _ _ [] _ _
          -- END
          have HT2 := Lib.hid (HT.out.trans hS)
          have HR2 := Lib.hid (HR.out.touch hS)
          clear hS
          have HS2 := Lib.hid (srt_put HS.out (by omega) HHI.out HLO.out)
          have HB2 := Lib.hid (fun k (hk : k < i + 1) => put_bd HR2.out HBx.out (j := 0) (by omega) k hk)
          have HC2' := Lib.hid ((HT2.out.cell (p := ⟨g, o + i, none⟩) HG.out (by simp)).trans HC0.out)
          have Hgl2' := Lib.hid (Nat.lt_of_lt_of_le HG.out HT2.out.size)
          clear HHI HLO HS HT HR HC Hgl
          have hl1 := Lib.hid (show (0 : Int) ≤ (0 : Int) ∧ (0 : Int) ≤ (i : Int) by omega)
          have hl2 := hl1.out
          have hcbi : (i : Int) ≤ (cb : Int) := by omega
          have hjcb : (0 : Int) ≤ (cb : Int) := by omega
          obtain ⟨w1, hw1⟩ : ∃ w1 : World, w1 = wx := ⟨_, rfl⟩
          rw [← hw1] at HT2 HR2 HC2' Hgl2' ⊢
          clear hw1 wx
          go_wp2_with (at_builtin; refine wpList_append_Own _ rfl (.tmp 32) (.tmp 35) 42 42 rfl 22 i0 _ 1 8 Try.underlying42 hi0 hz0 hz1 hz2 rfl _ 0 [] none rfl (Own.nil _ _ _ _) _ 0 (cellsF 0 e) rfl ((HR2.out.pre (m := 0) (by omega)).touch ((Touch.refl [] w1).alloc _)).src ?c3 ?c4 ?_)
          case c3 => unfold maxLen; omega
          case c4 => omega
          intro v' w2 row' hown' ht hrow'
          try rw [Nat.zero_add] at hown'
          have Ho := Lib.hid hown'
          have Hrow := Lib.hid (show NewRow w1 none row' from NewRow.before hrow' (by simp))
          have HTa := Lib.hid (((Touch.refl [] w1).alloc _).trans ht)
          clear hown' hrow' ht
          obtain ⟨A', c', rfl, _⟩ := Ho.out.shape
          have hcx := (HTa.out.cell (p := ⟨g, o + i, none⟩) Hgl2'.out (by simp)).trans HC2'.out
          have hqi : (0 : Int) ≤ (i : Int) ∧ (i : Int) < (n : Int) := by omega
          go_wp2_with (at_builtin; refine wpList_append_Own _ rfl (.tmp 37) (.tmp 42) 42 42 rfl 22 i0 _ 1 8 Try.underlying42 hi0 hz0 hz1 hz2 rfl _ 0 _ row' rfl (Ho.out.alloc _) _ 1 [.float .f64 x] rfl (src_one Try.underlying42 w2 _ _ rfl) ?c3 ?c4 ?_)
          case c3 => unfold maxLen; omega
          case c4 => omega
          intro v2 w3 row2 hown' ht hrow'
          have Ho2 := Lib.hid hown'
          have Hrow2 := Lib.hid (Hrow.out.trans (show NewRow w2 row' row2 from NewRow.before hrow' (by simp)) HTa.out.size)
          have HTb := Lib.hid (touch_new (HTa.out.alloc _) ht Hrow.out)
          clear hown' hrow' ht hcx
          obtain ⟨A2, c2, rfl, _⟩ := Ho2.out.shape
          have hpost := (HR2.out.touch HTb.out).post2 (j := 0) (cb := cb) (by omega) (by omega)
          have hT4 := HT2.out
          clear HT2 HR2
          go_wp2_with (at_builtin; refine wpList_append_Own _ rfl (.tmp 44) (.tmp 47) 42 42 rfl 22 i0 _ 1 8 Try.underlying42 hi0 hz0 hz1 hz2 rfl _ (0 + 1) _ row2 rfl Ho2.out _ (i - 0) (cellsF (i - 0) (fun k => e (0 + k))) rfl (RowF.src (by first | exact hpost | (simpa using hpost))) ?c3 ?c4 ?_)
          case c3 => unfold maxLen; omega
          case c4 => omega
          all_goals
            intro v3 w4 row3 hown' ht hrow'
            have hT5 := touch_new HTb.out ht Hrow2.out
            obtain ⟨m, hm⟩ : ∃ m, m = 0 + 1 + (i - 0) := ⟨_, rfl⟩
            have h5 : Own w4 22 1 v3 m (cellsF (i + 1) (putAt e 0 x)) row3 := by
              rw [hm, ← cells_put e i 0 x (by omega)]
              simpa [List.append_assoc] using hown'
            obtain rfl : m = i + 1 := by omega
            clear hown' hrow' ht hm hpost
            obtain ⟨g3, o3, c3, cur, rfl, _, _, _, hnc, hcm, _, _⟩ := h5.at_ (by omega)
            have HR3 := Lib.hid (Own.rowF h5 HB2.out)
            have HT5 := Lib.hid (hT4.trans hT5)
            clear hT4 hT5 h5
            go_wp2_with fail
            go_roundw
            case rel => exact ⟨i + 1, g3, o3, c3, putAt e 0 x, by omega, hnc, hcm, rfl, by go_num, HR3.out, HS2.out, fun t => by rw [cnt_put' e t x (by omega), HCn.out, HX.out]; rfl, HT5.out⟩
            case measure => simp [intOf]; omega
    · obtain rfl : i = n := by omega
      go_wp2_with fail
      go_ret
      exact ⟨_, cb, e, rfl, HR.out, HS.out, HCn.out, HT.out⟩
end Go.Proofs.Ytbpgbjhjnemaoaa
