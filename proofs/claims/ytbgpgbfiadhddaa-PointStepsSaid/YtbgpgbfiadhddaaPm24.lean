/- PtSome; PtFixed; PtLw: joined. -/
import Derived.Test.YtbgpgbfiadhddaaPm13
import Derived.Test.YtbgpgbfiadhddaaPm15
import Derived.Test.YtbgpgbfiadhddaaPm17
import Derived.Test.YtbgpgbfiadhddaaPm22
import Derived.Test.YtbgpgbfiadhddaaPm23
/- some: a point, and the document's. -/
namespace Go.Proofs.Ytbgpgbfiadhddaa
open Go Go.RowKit
theorem baseS_enc : baseS = encS pB := by
  unfold encS
  rw [encN_B]
  decide +kernel
theorem dec_base : decP baseS = pB := by rw [baseS_enc]; exact (dec_enc pB).2
theorem base_v (w : World) : Calls Try.prog 50 #[] w (Gives w (PtV pB)) := dec_base ▸ pbase_v w
theorem rbase_v (w : World) : Calls Try.prog 51 #[] w (Gives w (RfV pB)) := by
  have h := rpbase_v w
  rw [show decP baseR = pB from dec_base] at h
  exact h
/-- The point that a text stands for. -/
def someP (s : ByteArray) : Pt := if decOK s then decP s else pmul (lowN (s.extract 0 2)) pB
theorem someP_yes {s : ByteArray} (h : decOK s) : someP s = decP s := by unfold someP; rw [if_pos h]
theorem someP_no {s : ByteArray} (h : ¬ decOK s) : someP s = pmul (lowN (s.extract 0 2)) pB := by unfold someP; rw [if_neg h]
def SomV (P : Pt) (v : Value) : Prop := ∃ p q, PtV P p ∧ RfV P q ∧ v = .tuple #[p, q]
section
variable {o : Oper} {a : Act} {w : World} {T : Tmp → SP}
theorem OpTo.extS0 (d : Tmp) (x : Operand) (ho : o.op = .extract x 0) (hd : o.dst = some d) {P : Pt} (h : ∃ p q, PtV P p ∧ RfV P q ∧ a.eval x = .tuple #[p, q]) (hT : ∀ v, PtV P v → (T d).p v w) :
    OpTo Try.prog o a w (fun v w' => dOfW o T v w' ∧ Touch [] w w') := by
  obtain ⟨p, q, hp, hq, e⟩ := h
  exact OpTo.pureG (v := p) d hd (by unfold execOp; simp only [ho, e]; go_simp) (hT _ hp)
theorem OpTo.extS1 (d : Tmp) (x : Operand) (ho : o.op = .extract x 1) (hd : o.dst = some d) {P : Pt} (h : ∃ p q, PtV P p ∧ RfV P q ∧ a.eval x = .tuple #[p, q]) (hT : ∀ v, RfV P v → (T d).p v w) :
    OpTo Try.prog o a w (fun v w' => dOfW o T v w' ∧ Touch [] w w') := by
  obtain ⟨p, q, hp, hq, e⟩ := h
  exact OpTo.pureG (v := q) d hd (by unfold execOp; simp only [ho, e]; go_simp) (hT _ hq)
end
theorem results_two {P : Program} {fn : Func} {p q : Tmp} {tp tq : TypeId} (h : fn.results = #[.cell p tp, .cell q tq]) (tmps : Array Value) (w : World) (g g' : Nat) (t t' : TypeId) (cs cs' : Array Value) (d d' : TypeDesc)
    (hp : tmps.getD p undef = .pointer (some ⟨g, 0, none⟩)) (hq : tmps.getD q undef = .pointer (some ⟨g', 0, none⟩)) (hg : Blk w g t cs) (hg' : Blk w g' t' cs')
    (hu : P.underlying tp = some d) (hd : (match d with | .struct _ | .array _ _ => true | _ => false) = true) (hi : (P.info? tp).map (·.size) = some cs.size)
    (hu' : P.underlying tq = some d') (hd' : (match d' with | .struct _ | .array _ _ => true | _ => false) = true) (hi' : (P.info? tq).map (·.size) = some cs'.size) :
    (results fn tmps).run P w = .ok (.tuple #[.agg cs, .agg cs']) w := by
  have hp' : tmps[p]?.getD undef = .pointer (some ⟨g, 0, none⟩) := by simpa using hp
  have hq' : tmps[q]?.getD undef = .pointer (some ⟨g', 0, none⟩) := by simpa using hq
  simp [results, h, hp', hq', asAddr, run_loadVar_row w g t tp cs (0, 0) d hg hu hd hi, run_loadVar_row w g' t' tq cs' (0, 0) d' hg' hu' hd' hi']
theorem some_ret {fn : Func} {p q : Tmp} (hres : fn.results = #[.cell p 28, .cell q 33]) {w w' : World} {P : Pt} {g g' : Nat} {b : Bool} {l : List Int} {X Y Z : Nat} (hl : PtL P b l) (hr : RRep P X Y Z) {tmps : Array Value} (hp : tmps.getD p undef = .pointer (some ⟨g, 0, none⟩)) (hq : tmps.getD q undef = .pointer (some ⟨g', 0, none⟩)) (t t' : TypeId) (hB : Blk w' g t (ptA b l)) (hB' : Blk w' g' t' #[.string (toS X), .string (toS Y), .string (toS Z)]) (hT : Touch [] w w') :
    bodyPost Try.prog fn (Gives w (SomV P)) Exit.ret { tmps := tmps, defers := [] } w' :=
  bodyPost_ret (results_two hres _ _ g g' t t' _ _ _ _ hp hq hB hB' Try.underlying28 rfl (by rw [ptA_size hl.len]; exact infoP) Try.underlying33 rfl infoR) rfl ⟨_, rfl, ⟨_, _, ⟨b, l, hl, rfl⟩, ⟨X, Y, Z, hr, rfl⟩, rfl⟩, hT⟩
theorem range_of {w : World} {g : Nat} {t : TypeId} {cs : List Value} (h : Blk w g t cs.toArray) : w.rangeAt g 0 cs := fun j v hv => by
  rw [Nat.zero_add, h.cell, List.getElem?_toArray]
  exact hv
theorem extract_min (s : ByteArray) : s.extract 0 (min s.size 2) = s.extract 0 2 := by
  apply bl_inj
  rw [bl_extractE, bl_extractE, ← bl_len]
  by_cases h : (bl s).length ≤ 2
  · rw [Nat.min_eq_left h, List.take_of_length_le (Nat.le_refl _), List.take_of_length_le h]
  · rw [Nat.min_eq_right (by omega)]
theorem OpTo.min2 {P : Program} {o : Oper} {a : Act} {w : World} {T : Tmp → SP} {x y : Operand} {t1 t2 : TypeId} (d : Tmp) (i j r : Int) (ho : o.op = .call { callee := .builtin .min, args := #[x, y], argTypes := #[t1, t2] }) (hd : o.dst = some d) (hx : a.eval x = .int .i64 i) (hy : a.eval y = .int .i64 j) (hr : (if j < i then j else i) = r) (hT : (T d).p (.int .i64 r) w) :
    OpTo P o a w (fun v w' => dOfW o T v w' ∧ Touch [] w w') := by
  subst hr
  refine OpTo.pureG (v := .int .i64 (if j < i then j else i)) d hd ?_ hT
  unfold execOp
  simp only [ho, resolve]
  simp only [List.map_toArray, List.map_cons, List.map_nil, hx, hy]
  go_simp
  rw [Int.min_def]
  split <;> split <;> omega
theorem OpTo.sliceTo {o : Oper} {a : Act} {w : World} {T : Tmp → SP} {x y : Operand} (d : Tmp) (s : ByteArray) (m : Nat) (ho : o.op = .slice 9 x none (some y) none) (hd : o.dst = some d) (hx : a.eval x = .string s) (hy : a.eval y = .int .i64 (m : Int)) (hm : m ≤ s.size) (hT : (T d).p (.string (s.extract 0 m)) w) :
    OpTo Try.prog o a w (fun v w' => dOfW o T v w' ∧ Touch [] w w') := by
  refine OpTo.pureG (v := .string (s.extract 0 m)) d hd ?_ hT
  have hle : (m : Int) ≤ (s.size : Int) := by omega
  unfold execOp
  simp only [ho, hx, hy, Option.map_some, Option.map_none]
  go_simp
theorem extract_le (s : ByteArray) : (s.extract 0 2).size ≤ 140737488355328 := by rw [ByteArray.size_extract]; omega
set_option maxRecDepth 100000 in
set_option maxHeartbeats 4000000 in
theorem some_v {s : ByteArray} {x : Value} (hx : isS s x) (w : World) : Calls Try.prog 14 #[x] w (Gives w (SomV (someP s))) := by
  obtain rfl : x = .string s := hx
  by_cases hok : decOK s
  case pos =>
    have HC := Lib.hid (decC_yes hok)
    have HP := Lib.hid (someP_yes hok)
    clear hok
    go_enter Try.func14, Try.ntmps14
    go_upto_region 0 with fail
    refine wp_region_list ?_
    refine wpList_run rfl (exec_alloc_pt rfl) ?_
    refine wpList_run rfl (exec_alloc_rp rfl) ?_
    refine wpList_nil ?_
    simp only [Act.put, List.setIfInBounds_toArray, List.set_cons_zero, List.set_cons_succ]
    obtain ⟨w1, g2, g3, hW, eg2, eg3, b2, b3, ht, hb2, hb3, ne2_3⟩ := start2 w 28 (ptA false zl) 33 #[.string ⟨#[]⟩, .string ⟨#[]⟩, .string ⟨#[]⟩]
    rw [← hW]
    rw [← eg3]
    rw [← eg2]
    have HT := Lib.hid ht
    have B2 := Lib.hid b2
    have HB2 := Lib.hid hb2
    have B3 := Lib.hid b3
    have HB3 := Lib.hid hb3
    have NE2_3 := Lib.hid ne2_3
    clear hW eg2 eg3 b2 b3 ht hb2 hb3 ne2_3
    go_upto_region 1 with fail
    refine wp_region_list (wpList_flowP 6 (lookW [(0, pu (isS (s))), (4, newS w1.heap.size 28 (ptA false zl)), (9, pu (Tup (PtV (decP (s))) (.int .i64 (decC (s))))), (10, pu (isS (s))), (11, pu (Tup (PtV (decP (s))) (.int .i64 (decC (s))))), (12, pu (PtV (decP (s)))), (13, pu (isV (.int .i64 (decC (s)))))]) [0] [10, 11, 9, 12, 13, 4] [12, 13, 4] (by kernel_rfl) (by kernel_rfl) (by kernel_rfl) ⟨rfl, trivial⟩ ?_ ?_)
    · refine FStepsW.cons (FStepW.plain rfl fun a w hS hE => OpTo.move rfl ⟨dOfW.of 10 rfl (hE 0 (by kernel_rfl)), Touch.refl _ _⟩) ?_
      refine FStepsW.cons (FStepW.plain rfl fun a w hS hE => OpTo.call #[a.tmps.getD 10 undef] rfl Try.func9 (by kernel_rfl) (by kernel_rfl) (args1 ..) ((pdec_v (hE 10 (by kernel_rfl)) w).mono fun _ _ h => Gives.toW 11 rfl (fun _ _ h => h) h)) ?_
      refine FStepsW.cons (FStepW.plain rfl fun a w hS hE => OpTo.move rfl ⟨dOfW.of 9 rfl (hE 11 (by kernel_rfl)), Touch.refl _ _⟩) ?_
      refine FStepsW.cons (FStepW.plain rfl fun a w hS hE => OpTo.ext0 12 _ rfl rfl (hE 9 (by kernel_rfl)) (fun _ h => h)) ?_
      refine FStepsW.cons (FStepW.plain rfl fun a w hS hE => OpTo.ext1 13 _ rfl rfl (hE 9 (by kernel_rfl)) rfl) ?_
      refine FStepsW.cons (FStepW.plain rfl fun a w hS hE => OpTo.allocG 4 28 (ptA false zl) rfl hS (exec_alloc_pt rfl) rfl) ?_
      exact FStepsW.nil
    intro f w2 hS hF
    obtain ⟨h12, h13, h4, -⟩ := hF
    obtain ⟨b12, l12, q12, e12⟩ := h12
    have P12 := Lib.hid q12
    clear q12
    have e13 : f 13 = .int .i64 (decC (s)) := h13
    clear h13
    obtain ⟨g4, e4, z4, b4⟩ := h4
    have NE2_4 := Lib.hid (ne_new B2.out b4)
    have NE3_4 := Lib.hid (ne_new B3.out b4)
    replace B2 := Lib.hid (B2.out.touch hS notin_nil)
    replace B3 := Lib.hid (B3.out.touch hS notin_nil)
    have B4 := Lib.hid z4
    have HB4 := Lib.hid (Nat.le_trans HT.out.size b4)
    clear z4 b4
    replace HT := Lib.hid (HT.out.trans hS)
    clear hS
    simp only [setAll, List.setIfInBounds_toArray, List.set_cons_zero, List.set_cons_succ, e12, e13, e4]
    show wpList _ _ _ [_, _] _ _
    refine wpList_store_row rfl 28 (.tmp 4) (.tmp 12) rfl g4 (ptA b12 l12) rfl rfl 28 (ptA false zl) B4.out (by rw [ptA_size P12.out.len]; exact infoP) ((ptA_size zl_len).trans (ptA_size P12.out.len).symm) (ptA_one b12 l12) ?_
    refine wpList_run (v := .int .i64 (decC (s))) rfl (exec_assignV rfl rfl) ?_
    refine wpList_nil ?_
    simp only [Act.put, List.setIfInBounds_toArray, List.set_cons_zero, List.set_cons_succ]
    have B2' := (B2.out.frow NE2_4.out (ptA b12 l12))
    have B3' := (B3.out.frow NE3_4.out (ptA b12 l12))
    have B4' := (B4.out.setRow (ptA b12 l12))
    have HT' := (HT.out.setRowE (.inr HB4.out) (ptA b12 l12))
    obtain ⟨w3, hw3⟩ : ∃ w3, w3 = (w2.setRow g4 (ptA b12 l12)) := ⟨_, rfl⟩
    rw [← hw3] at HT' B2' B3' B4'
    rw [← hw3]
    clear hw3 HT B2 B3 B4
    have B2 := Lib.hid B2'
    clear B2'
    have B3 := Lib.hid B3'
    clear B3'
    have B4 := Lib.hid B4'
    clear B4'
    have HT := Lib.hid HT'
    clear HT'
    clear e12 e13 e4
    go_upto_region 2 with fail
    refine wp_region_list (wpList_flowP 2 (lookW [(5, pu (isV (.int .i64 (decC (s))))), (14, pu (isV (.int .i64 (decC (s))))), (15, pu (isB true))]) [5] [14, 15] [15] (by kernel_rfl) (by kernel_rfl) (by kernel_rfl) ⟨rfl, trivial⟩ ?_ ?_)
    · refine FStepsW.cons (FStepW.plain rfl fun a w hS hE => OpTo.move rfl ⟨dOfW.of 14 rfl (hE 5 (by kernel_rfl)), Touch.refl _ _⟩) ?_
      refine FStepsW.cons (FStepW.plain rfl fun a w hS hE => OpTo.eqI .i64 (decC (s)) (0) rfl (hE 14 (by kernel_rfl)) rfl ⟨dOfW.of 15 rfl (by rw [(decide_eq_true (by rw [HC.out]) : decide (decC (s) = 0) = true)]; rfl), Touch.refl _ _⟩) ?_
      exact FStepsW.nil
    intro f w4 hS hF
    obtain ⟨h15, -⟩ := hF
    have e15 : f 15 = .bool true := h15
    clear h15
    replace B2 := Lib.hid (B2.out.touch hS notin_nil)
    replace B3 := Lib.hid (B3.out.touch hS notin_nil)
    replace B4 := Lib.hid (B4.out.touch hS notin_nil)
    replace HT := Lib.hid (HT.out.trans hS)
    clear hS
    simp only [setAll, List.setIfInBounds_toArray, List.set_cons_zero, List.set_cons_succ, e15]
    show wpList _ _ _ [] _ _
    refine wpList_nil ?_
    clear e15
    go_upto_region 3 with fail
    refine wp_region_list (wpList_flowP 6 (lookW [(0, pu (isS (s))), (6, newS w4.heap.size 33 #[.string ⟨#[]⟩, .string ⟨#[]⟩, .string ⟨#[]⟩]), (16, pu (Tup (RfV (decP (s))) (.int .i64 (decC (s))))), (17, pu (isS (s))), (18, pu (Tup (RfV (decP (s))) (.int .i64 (decC (s))))), (19, pu (RfV (decP (s)))), (20, pu (isV (.int .i64 (decC (s)))))]) [0] [17, 18, 16, 19, 20, 6] [19, 20, 6] (by kernel_rfl) (by kernel_rfl) (by kernel_rfl) ⟨rfl, trivial⟩ ?_ ?_)
    · refine FStepsW.cons (FStepW.plain rfl fun a w hS hE => OpTo.move rfl ⟨dOfW.of 17 rfl (hE 0 (by kernel_rfl)), Touch.refl _ _⟩) ?_
      refine FStepsW.cons (FStepW.plain rfl fun a w hS hE => OpTo.call #[a.tmps.getD 17 undef] rfl Try.func10 (by kernel_rfl) (by kernel_rfl) (args1 ..) ((rpdec_v (hE 17 (by kernel_rfl)) w).mono fun _ _ h => Gives.toW 18 rfl (fun _ _ h => h) h)) ?_
      refine FStepsW.cons (FStepW.plain rfl fun a w hS hE => OpTo.move rfl ⟨dOfW.of 16 rfl (hE 18 (by kernel_rfl)), Touch.refl _ _⟩) ?_
      refine FStepsW.cons (FStepW.plain rfl fun a w hS hE => OpTo.ext0 19 _ rfl rfl (hE 16 (by kernel_rfl)) (fun _ h => h)) ?_
      refine FStepsW.cons (FStepW.plain rfl fun a w hS hE => OpTo.ext1 20 _ rfl rfl (hE 16 (by kernel_rfl)) rfl) ?_
      refine FStepsW.cons (FStepW.plain rfl fun a w hS hE => OpTo.allocG 6 33 #[.string ⟨#[]⟩, .string ⟨#[]⟩, .string ⟨#[]⟩] rfl hS (exec_alloc_rp rfl) rfl) ?_
      exact FStepsW.nil
    intro f w5 hS hF
    obtain ⟨h19, h20, h6, -⟩ := hF
    obtain ⟨X19, Y19, Z19, rr19, e19⟩ := h19
    have RR19 := Lib.hid rr19
    clear rr19
    have e20 : f 20 = .int .i64 (decC (s)) := h20
    clear h20
    obtain ⟨g6, e6, z6, b6⟩ := h6
    have NE2_6 := Lib.hid (ne_new B2.out b6)
    have NE3_6 := Lib.hid (ne_new B3.out b6)
    have NE4_6 := Lib.hid (ne_new B4.out b6)
    replace B2 := Lib.hid (B2.out.touch hS notin_nil)
    replace B3 := Lib.hid (B3.out.touch hS notin_nil)
    replace B4 := Lib.hid (B4.out.touch hS notin_nil)
    have B6 := Lib.hid z6
    have HB6 := Lib.hid (Nat.le_trans HT.out.size b6)
    clear z6 b6
    replace HT := Lib.hid (HT.out.trans hS)
    clear hS
    simp only [setAll, List.setIfInBounds_toArray, List.set_cons_zero, List.set_cons_succ, e19, e20, e6]
    show wpList _ _ _ [_, _] _ _
    refine wpList_store_row rfl 33 (.tmp 6) (.tmp 19) rfl g6 #[.string (toS X19), .string (toS Y19), .string (toS Z19)] rfl rfl 33 #[.string ⟨#[]⟩, .string ⟨#[]⟩, .string ⟨#[]⟩] B6.out infoR rfl (rp_one ..) ?_
    refine wpList_run (v := .int .i64 (decC (s))) rfl (exec_assignV rfl rfl) ?_
    refine wpList_nil ?_
    simp only [Act.put, List.setIfInBounds_toArray, List.set_cons_zero, List.set_cons_succ]
    have B2' := (B2.out.frow NE2_6.out #[.string (toS X19), .string (toS Y19), .string (toS Z19)])
    have B3' := (B3.out.frow NE3_6.out #[.string (toS X19), .string (toS Y19), .string (toS Z19)])
    have B4' := (B4.out.frow NE4_6.out #[.string (toS X19), .string (toS Y19), .string (toS Z19)])
    have B6' := (B6.out.setRow #[.string (toS X19), .string (toS Y19), .string (toS Z19)])
    have HT' := (HT.out.setRowE (.inr HB6.out) #[.string (toS X19), .string (toS Y19), .string (toS Z19)])
    obtain ⟨w6, hw6⟩ : ∃ w6, w6 = (w5.setRow g6 #[.string (toS X19), .string (toS Y19), .string (toS Z19)]) := ⟨_, rfl⟩
    rw [← hw6] at HT' B2' B3' B4' B6'
    rw [← hw6]
    clear hw6 HT B2 B3 B4 B6
    have B2 := Lib.hid B2'
    clear B2'
    have B3 := Lib.hid B3'
    clear B3'
    have B4 := Lib.hid B4'
    clear B4'
    have B6 := Lib.hid B6'
    clear B6'
    have HT := Lib.hid HT'
    clear HT'
    clear e19 e20 e6
    go_upto_region 4 with fail
    refine wp_region_held_drew (S := fun W => W.rangeAt g4 0 (.bool b12 :: cellsZ l12) ∧ W.rangeAt g6 0 [.string (toS X19), .string (toS Y19), .string (toS Z19)]) (by kernel_rfl) ⟨range_of B4.out.drew, range_of B6.out.drew⟩ (fun hHeld => ?_)
    refine' wpAnyH_take (i := 0) (v := .agg (ptA b12 l12)) rfl (by kernel_rfl) (by kernel_rfl) (by kernel_rfl) (fun _ _ _ h => h) (yieldsIf_load_mid (by rfl) _ _ rfl g4 0 rfl (.bool b12 :: cellsZ l12) _ (fun w h => h.1) Try.underlying28 rfl (by rw [List.length_cons, cellsZ_len, P12.out.len]; exact infoP)) hHeld ?_
    refine' wpAnyH_take (i := 1) (v := .agg #[.string (toS X19), .string (toS Y19), .string (toS Z19)]) rfl (by kernel_rfl) (by kernel_rfl) (by kernel_rfl) (fun _ _ _ h => h) (yieldsIf_load_mid (by rfl) _ _ rfl g6 0 rfl [.string (toS X19), .string (toS Y19), .string (toS Z19)] _ (fun w h => h.2) Try.underlying33 rfl infoR) hHeld ?_
    refine wpAnyH_ready (rs := [2]) (by kernel_rfl) (by simp) ?_
    refine AllReadyH.cons (o := _) rfl (fun K hK => ?_) AllReadyH.nil
    rw [if_pos (by rfl)]
    refine wp_store_row _ _ _ rfl g2 (ptA b12 l12) rfl rfl 28 _ B2.out.drew (by rw [ptA_size P12.out.len]; exact infoP) ((ptA_size zl_len).trans (ptA_size P12.out.len).symm) (ptA_one b12 l12) ?_
    have x4 := B4.out.drew.frow (Ne.symm NE2_4.out) (ptA b12 l12)
    have x6 := B6.out.drew.frow (Ne.symm NE2_6.out) (ptA b12 l12)
    have x3 := B3.out.drew.frow (Ne.symm NE2_3.out) (ptA b12 l12)
    have x2 := B2.out.drew.setRow (ptA b12 l12)
    have xt := HT.out.drew.setRowE (.inr HB2.out) (ptA b12 l12)
    refine hK.out _ _ ⟨range_of x4, range_of x6⟩ (fun hHeld => ?_)
    clear hK K
    refine wpAnyH_ready (rs := [3]) (by kernel_rfl) (by simp) ?_
    refine AllReadyH.cons (o := _) rfl (fun K hK => ?_) AllReadyH.nil
    rw [if_pos (by rfl)]
    refine wp_store_row _ _ _ rfl g3 #[.string (toS X19), .string (toS Y19), .string (toS Z19)] rfl rfl 33 _ x3 infoR rfl (rp_one ..) ?_
    have y4 := x4.frow (Ne.symm NE3_4.out) #[.string (toS X19), .string (toS Y19), .string (toS Z19)]
    have y6 := x6.frow (Ne.symm NE3_6.out) #[.string (toS X19), .string (toS Y19), .string (toS Z19)]
    have y2 := Lib.hid (x2.frow NE2_3.out #[.string (toS X19), .string (toS Y19), .string (toS Z19)])
    have y3 := Lib.hid (x3.setRow #[.string (toS X19), .string (toS Y19), .string (toS Z19)])
    have yt := Lib.hid (xt.setRowE (.inr HB3.out) #[.string (toS X19), .string (toS Y19), .string (toS Z19)])
    refine hK.out _ _ ⟨range_of y4, range_of y6⟩ (fun hHeld => ?_)
    clear hK K x2 x3 x4 x6 xt y4 y6 hHeld
    refine wpAnyH_done (by kernel_rfl) ?_ _
    go_wp2_with fail
    rw [HP.out]
    exact some_ret Try.results14 P12.out RR19.out rfl rfl 28 33 y2.out y3.out yt.out
  case neg =>
    have HC := Lib.hid (decC_no hok)
    have HP := Lib.hid (someP_no hok)
    clear hok
    go_enter Try.func14, Try.ntmps14
    go_upto_region 0 with fail
    refine wp_region_list ?_
    refine wpList_run rfl (exec_alloc_pt rfl) ?_
    refine wpList_run rfl (exec_alloc_rp rfl) ?_
    refine wpList_nil ?_
    simp only [Act.put, List.setIfInBounds_toArray, List.set_cons_zero, List.set_cons_succ]
    obtain ⟨w1, g2, g3, hW, eg2, eg3, b2, b3, ht, hb2, hb3, ne2_3⟩ := start2 w 28 (ptA false zl) 33 #[.string ⟨#[]⟩, .string ⟨#[]⟩, .string ⟨#[]⟩]
    rw [← hW]
    rw [← eg3]
    rw [← eg2]
    have HT := Lib.hid ht
    have B2 := Lib.hid b2
    have HB2 := Lib.hid hb2
    have B3 := Lib.hid b3
    have HB3 := Lib.hid hb3
    have NE2_3 := Lib.hid ne2_3
    clear hW eg2 eg3 b2 b3 ht hb2 hb3 ne2_3
    go_upto_region 1 with fail
    refine wp_region_list (wpList_flowP 6 (lookW [(0, pu (isS (s))), (4, newS w1.heap.size 28 (ptA false zl)), (9, pu (Tup (PtV (decP (s))) (.int .i64 (decC (s))))), (10, pu (isS (s))), (11, pu (Tup (PtV (decP (s))) (.int .i64 (decC (s))))), (12, pu (PtV (decP (s)))), (13, pu (isV (.int .i64 (decC (s)))))]) [0] [10, 11, 9, 12, 13, 4] [12, 13, 4] (by kernel_rfl) (by kernel_rfl) (by kernel_rfl) ⟨rfl, trivial⟩ ?_ ?_)
    · refine FStepsW.cons (FStepW.plain rfl fun a w hS hE => OpTo.move rfl ⟨dOfW.of 10 rfl (hE 0 (by kernel_rfl)), Touch.refl _ _⟩) ?_
      refine FStepsW.cons (FStepW.plain rfl fun a w hS hE => OpTo.call #[a.tmps.getD 10 undef] rfl Try.func9 (by kernel_rfl) (by kernel_rfl) (args1 ..) ((pdec_v (hE 10 (by kernel_rfl)) w).mono fun _ _ h => Gives.toW 11 rfl (fun _ _ h => h) h)) ?_
      refine FStepsW.cons (FStepW.plain rfl fun a w hS hE => OpTo.move rfl ⟨dOfW.of 9 rfl (hE 11 (by kernel_rfl)), Touch.refl _ _⟩) ?_
      refine FStepsW.cons (FStepW.plain rfl fun a w hS hE => OpTo.ext0 12 _ rfl rfl (hE 9 (by kernel_rfl)) (fun _ h => h)) ?_
      refine FStepsW.cons (FStepW.plain rfl fun a w hS hE => OpTo.ext1 13 _ rfl rfl (hE 9 (by kernel_rfl)) rfl) ?_
      refine FStepsW.cons (FStepW.plain rfl fun a w hS hE => OpTo.allocG 4 28 (ptA false zl) rfl hS (exec_alloc_pt rfl) rfl) ?_
      exact FStepsW.nil
    intro f w2 hS hF
    obtain ⟨h12, h13, h4, -⟩ := hF
    obtain ⟨b12, l12, q12, e12⟩ := h12
    have P12 := Lib.hid q12
    clear q12
    have e13 : f 13 = .int .i64 (decC (s)) := h13
    clear h13
    obtain ⟨g4, e4, z4, b4⟩ := h4
    have NE2_4 := Lib.hid (ne_new B2.out b4)
    have NE3_4 := Lib.hid (ne_new B3.out b4)
    replace B2 := Lib.hid (B2.out.touch hS notin_nil)
    replace B3 := Lib.hid (B3.out.touch hS notin_nil)
    have B4 := Lib.hid z4
    have HB4 := Lib.hid (Nat.le_trans HT.out.size b4)
    clear z4 b4
    replace HT := Lib.hid (HT.out.trans hS)
    clear hS
    simp only [setAll, List.setIfInBounds_toArray, List.set_cons_zero, List.set_cons_succ, e12, e13, e4]
    show wpList _ _ _ [_, _] _ _
    refine wpList_store_row rfl 28 (.tmp 4) (.tmp 12) rfl g4 (ptA b12 l12) rfl rfl 28 (ptA false zl) B4.out (by rw [ptA_size P12.out.len]; exact infoP) ((ptA_size zl_len).trans (ptA_size P12.out.len).symm) (ptA_one b12 l12) ?_
    refine wpList_run (v := .int .i64 (decC (s))) rfl (exec_assignV rfl rfl) ?_
    refine wpList_nil ?_
    simp only [Act.put, List.setIfInBounds_toArray, List.set_cons_zero, List.set_cons_succ]
    have B2' := (B2.out.frow NE2_4.out (ptA b12 l12))
    have B3' := (B3.out.frow NE3_4.out (ptA b12 l12))
    have B4' := (B4.out.setRow (ptA b12 l12))
    have HT' := (HT.out.setRowE (.inr HB4.out) (ptA b12 l12))
    obtain ⟨w3, hw3⟩ : ∃ w3, w3 = (w2.setRow g4 (ptA b12 l12)) := ⟨_, rfl⟩
    rw [← hw3] at HT' B2' B3' B4'
    rw [← hw3]
    clear hw3 HT B2 B3 B4
    have B2 := Lib.hid B2'
    clear B2'
    have B3 := Lib.hid B3'
    clear B3'
    have B4 := Lib.hid B4'
    clear B4'
    have HT := Lib.hid HT'
    clear HT'
    clear e12 e13 e4
    go_upto_region 2 with fail
    refine wp_region_list (wpList_flowP 2 (lookW [(5, pu (isV (.int .i64 (decC (s))))), (14, pu (isV (.int .i64 (decC (s))))), (15, pu (isB false))]) [5] [14, 15] [15] (by kernel_rfl) (by kernel_rfl) (by kernel_rfl) ⟨rfl, trivial⟩ ?_ ?_)
    · refine FStepsW.cons (FStepW.plain rfl fun a w hS hE => OpTo.move rfl ⟨dOfW.of 14 rfl (hE 5 (by kernel_rfl)), Touch.refl _ _⟩) ?_
      refine FStepsW.cons (FStepW.plain rfl fun a w hS hE => OpTo.eqI .i64 (decC (s)) (0) rfl (hE 14 (by kernel_rfl)) rfl ⟨dOfW.of 15 rfl (by rw [(decide_eq_false (by rw [HC.out]; decide) : decide (decC (s) = 0) = false)]; rfl), Touch.refl _ _⟩) ?_
      exact FStepsW.nil
    intro f w4 hS hF
    obtain ⟨h15, -⟩ := hF
    have e15 : f 15 = .bool false := h15
    clear h15
    replace B2 := Lib.hid (B2.out.touch hS notin_nil)
    replace B3 := Lib.hid (B3.out.touch hS notin_nil)
    replace B4 := Lib.hid (B4.out.touch hS notin_nil)
    replace HT := Lib.hid (HT.out.trans hS)
    clear hS
    simp only [setAll, List.setIfInBounds_toArray, List.set_cons_zero, List.set_cons_succ, e15]
    show wpList _ _ _ [] _ _
    refine wpList_nil ?_
    clear e15
    go_upto_region 5 with fail
    obtain ⟨m, hm⟩ : ∃ m, m = min s.size 2 := ⟨_, rfl⟩
    have M1 : Hid ((if (2 : Int) < (s.size : Int) then (2 : Int) else (s.size : Int)) = (m : Int)) := Lib.hid (by split <;> omega)
    have M2 := Lib.hid (show m ≤ s.size by omega)
    have M3 := Lib.hid (show s.extract 0 m = s.extract 0 2 by rw [hm, extract_min])
    clear hm
    refine wp_region_list (wpList_flowP 6 (lookW [(0, pu (isS (s))), (8, pu (isS (s.extract 0 2))), (23, pu (isS (s))), (24, pu (isS (s))), (25, pu (isV (.int .i64 (((s).size : Int))))), (26, pu (isV (.int .i64 ((m : Int))))), (27, pu (isS (s.extract 0 2)))]) [0] [23, 24, 25, 26, 27, 8] [8] (by kernel_rfl) (by kernel_rfl) (by kernel_rfl) ⟨rfl, trivial⟩ ?_ ?_)
    · refine FStepsW.cons (FStepW.plain rfl fun a w hS hE => OpTo.move rfl ⟨dOfW.of 23 rfl (hE 0 (by kernel_rfl)), Touch.refl _ _⟩) ?_
      refine FStepsW.cons (FStepW.plain rfl fun a w hS hE => OpTo.move rfl ⟨dOfW.of 24 rfl (hE 0 (by kernel_rfl)), Touch.refl _ _⟩) ?_
      refine FStepsW.cons (FStepW.plain rfl fun a w hS hE => OpTo.lenS Try.underlying9 (s) rfl (hE 24 (by kernel_rfl)) ⟨dOfW.of 25 rfl rfl, Touch.refl _ _⟩) ?_
      refine FStepsW.cons (FStepW.plain rfl fun a w hS hE => OpTo.min2 26 (s.size : Int) 2 (m : Int) rfl rfl (hE 25 (by kernel_rfl)) rfl M1.out rfl) ?_
      refine FStepsW.cons (FStepW.plain rfl fun a w hS hE => OpTo.sliceTo 27 s m rfl rfl (hE 23 (by kernel_rfl)) (hE 26 (by kernel_rfl)) M2.out (congrArg Value.string M3.out)) ?_
      refine FStepsW.cons (FStepW.plain rfl fun a w hS hE => OpTo.assign rfl ⟨dOfW.of 8 rfl (hE 27 (by kernel_rfl)), Touch.refl _ _⟩) ?_
      exact FStepsW.nil
    intro f w5 hS hF
    obtain ⟨h8, -⟩ := hF
    have e8 : f 8 = .string (s.extract 0 2) := h8
    clear h8
    replace B2 := Lib.hid (B2.out.touch hS notin_nil)
    replace B3 := Lib.hid (B3.out.touch hS notin_nil)
    replace B4 := Lib.hid (B4.out.touch hS notin_nil)
    replace HT := Lib.hid (HT.out.trans hS)
    clear hS
    simp only [setAll, List.setIfInBounds_toArray, List.set_cons_zero, List.set_cons_succ, e8]
    show wpList _ _ _ [] _ _
    refine wpList_nil ?_
    clear e8
    go_upto_region 6 with fail
    refine wp_region_list (wpList_flowP 6 (lookW [(8, pu (isS (s.extract 0 2))), (28, pu (PtV (pB))), (29, pu (isS (s.extract 0 2))), (30, pu (PtV (pmul (lowN (s.extract 0 2)) (pB)))), (31, pu (RfV (pB))), (32, pu (isS (s.extract 0 2))), (33, pu (RfV (pmul (lowN (s.extract 0 2)) (pB))))]) [8] [28, 29, 30, 31, 32, 33] [30, 33] (by kernel_rfl) (by kernel_rfl) (by kernel_rfl) ⟨rfl, trivial⟩ ?_ ?_)
    · refine FStepsW.cons (FStepW.plain rfl fun a w hS hE => OpTo.call #[] rfl Try.func50 (by kernel_rfl) (by kernel_rfl) (args0 ..) ((base_v w).mono fun _ _ h => Gives.toW 28 rfl (fun _ _ h => h) h)) ?_
      refine FStepsW.cons (FStepW.plain rfl fun a w hS hE => OpTo.move rfl ⟨dOfW.of 29 rfl (hE 8 (by kernel_rfl)), Touch.refl _ _⟩) ?_
      refine FStepsW.cons (FStepW.plain rfl fun a w hS hE => OpTo.call #[a.tmps.getD 28 undef, a.tmps.getD 29 undef] rfl Try.func21 (by kernel_rfl) (by kernel_rfl) (args2 ..) ((pmul_v (hE 28 (by kernel_rfl)) (hE 29 (by kernel_rfl)) w).mono fun _ _ h => Gives.toW 30 rfl (fun _ _ h => h) h)) ?_
      refine FStepsW.cons (FStepW.plain rfl fun a w hS hE => OpTo.call #[] rfl Try.func51 (by kernel_rfl) (by kernel_rfl) (args0 ..) ((rbase_v w).mono fun _ _ h => Gives.toW 31 rfl (fun _ _ h => h) h)) ?_
      refine FStepsW.cons (FStepW.plain rfl fun a w hS hE => OpTo.move rfl ⟨dOfW.of 32 rfl (hE 8 (by kernel_rfl)), Touch.refl _ _⟩) ?_
      refine FStepsW.cons (FStepW.plain rfl fun a w hS hE => OpTo.call #[a.tmps.getD 31 undef, a.tmps.getD 32 undef] rfl Try.func22 (by kernel_rfl) (by kernel_rfl) (args2 ..) ((rpmul_v (hE 31 (by kernel_rfl)) (hE 32 (by kernel_rfl)) (extract_le _) w).mono fun _ _ h => Gives.toW 33 rfl (fun _ _ h => h) h)) ?_
      exact FStepsW.nil
    intro f w6 hS hF
    obtain ⟨h30, h33, -⟩ := hF
    obtain ⟨b30, l30, q30, e30⟩ := h30
    have P30 := Lib.hid q30
    clear q30
    obtain ⟨X33, Y33, Z33, rr33, e33⟩ := h33
    have RR33 := Lib.hid rr33
    clear rr33
    replace B2 := Lib.hid (B2.out.touch hS notin_nil)
    replace B3 := Lib.hid (B3.out.touch hS notin_nil)
    replace B4 := Lib.hid (B4.out.touch hS notin_nil)
    replace HT := Lib.hid (HT.out.trans hS)
    clear hS
    simp only [setAll, List.setIfInBounds_toArray, List.set_cons_zero, List.set_cons_succ, e30, e33]
    show wpList _ _ _ [_, _] _ _
    refine wpList_store_row rfl 28 (.tmp 2) (.tmp 30) rfl g2 (ptA b30 l30) rfl rfl 28 (ptA false zl) B2.out (by rw [ptA_size P30.out.len]; exact infoP) ((ptA_size zl_len).trans (ptA_size P30.out.len).symm) (ptA_one b30 l30) ?_
    refine wpList_store_row rfl 33 (.tmp 3) (.tmp 33) rfl g3 #[.string (toS X33), .string (toS Y33), .string (toS Z33)] rfl rfl 33 #[.string ⟨#[]⟩, .string ⟨#[]⟩, .string ⟨#[]⟩] (B3.out.frow (Ne.symm NE2_3.out) (ptA b30 l30)) infoR rfl (rp_one ..) ?_
    refine wpList_nil ?_
    simp only [Act.put]
    have B2' := ((B2.out.setRow (ptA b30 l30)).frow NE2_3.out #[.string (toS X33), .string (toS Y33), .string (toS Z33)])
    have B3' := ((B3.out.frow (Ne.symm NE2_3.out) (ptA b30 l30)).setRow #[.string (toS X33), .string (toS Y33), .string (toS Z33)])
    have B4' := ((B4.out.frow (Ne.symm NE2_4.out) (ptA b30 l30)).frow (Ne.symm NE3_4.out) #[.string (toS X33), .string (toS Y33), .string (toS Z33)])
    have HT' := ((HT.out.setRowE (.inr HB2.out) (ptA b30 l30)).setRowE (.inr HB3.out) #[.string (toS X33), .string (toS Y33), .string (toS Z33)])
    obtain ⟨w7, hw7⟩ : ∃ w7, w7 = ((w6.setRow g2 (ptA b30 l30)).setRow g3 #[.string (toS X33), .string (toS Y33), .string (toS Z33)]) := ⟨_, rfl⟩
    rw [← hw7] at HT' B2' B3' B4'
    rw [← hw7]
    clear hw7 HT B2 B3 B4
    have B2 := Lib.hid B2'
    clear B2'
    have B3 := Lib.hid B3'
    clear B3'
    have B4 := Lib.hid B4'
    clear B4'
    have HT := Lib.hid HT'
    clear HT'
    clear e30 e33
    go_wp2_with fail
    rw [HP.out]
    exact some_ret Try.results14 P30.out RR33.out rfl rfl 28 33 B2.out B3.out HT.out
end Go.Proofs.Ytbgpgbfiadhddaa
/- The fixed calls. -/
namespace Go.Proofs.Ytbgpgbfiadhddaa
open Go Go.RowKit
theorem psame_b {P Q : Pt} {x y : Value} (hx : PtV P x) (hy : PtV Q y) {b : Bool} (hb : samePt P Q = b) (w : World) : Calls Try.prog 19 #[x, y] w (Gives w (isB b)) := hb ▸ psame_v hx hy w
theorem small_b {P : Pt} {x : Value} (hx : PtV P x) {b : Bool} (hb : samePt (pmul 8 P) pzero = b) (w : World) : Calls Try.prog 23 #[x] w (Gives w (isB b)) := hb ▸ small_v hx w
theorem encS_B : encS pB = toS BY := by unfold encS; rw [encN_B]
theorem encS_0 : encS pzero = toS 1 := by unfold encS; rw [encN_0]
theorem fx_len (P : Pt) : decide (((encS P).size : Int) = 32) = true := decide_eq_true (by rw [enc_size']; rfl)
theorem fx_lt (P : Pt) (i : Nat) (h : i < 32) : i < (encS P).size := by rw [enc_size']; exact h
theorem fx30 : (bl (encS pB)).getD 0 0 = 88 := by rw [encS_B]; decide +kernel
theorem fx35 : (bl (encS pB)).getD 31 0 = 102 := by rw [encS_B]; decide +kernel
theorem fx102 : (bl (encS pzero)).getD 0 0 = 1 := by rw [encS_0]; decide +kernel
theorem fx108 : (bl (encS pzero)).getD 31 0 = 0 := by rw [encS_0]; decide +kernel
theorem fx40 : decide (decC (encS pB) = 0) = true := decide_eq_true (decC_yes (dec_enc pB).1)
theorem fx45 : samePt (decP (encS pB)) pB = true := by rw [(dec_enc pB).2]; exact samePt_self _
theorem fx49 : decide (decC ⟨#[120]⟩ = 9) = true := decide_eq_true (decC_no fun h => absurd h.1 (by decide))
theorem fx54 : samePt pB pzero = false := samePt_no pB_ne
theorem fx61 : samePt (padd pB pB) (pmul (lowN ⟨#[2]⟩) pB) = true := by
  rw [show lowN ⟨#[2]⟩ = 2 by decide +kernel, pmul_2]
  exact samePt_self _
theorem fx66 : samePt (padd pB pB) pB = false := samePt_no (add_self_ne pB_ne)
theorem fx74 : samePt (padd pB pzero) pB = true := by rw [show padd pB pzero = pB from ed.add_zero pB]; exact samePt_self _
theorem fx82 : samePt (padd pB (pneg pB)) pzero = true := by rw [show padd pB (pneg pB) = pzero from ed.add_neg pB]; exact samePt_self _
theorem fx86 : samePt (pmul 8 pzero) pzero = true := by rw [show pmul 8 pzero = pzero from ed.mul_zero 8]; exact samePt_self _
theorem fx90 : samePt (pmul 8 pB) pzero = false := samePt_no pB_8
theorem fx117 : ((toS (mulF (DN) (121666))).toList == (toS (negF (121665))).toList) = true := (toS_beq (mulF_lt ..) (negF_lt _)).trans (by decide +kernel)
set_option maxRecDepth 100000 in
set_option maxHeartbeats 4000000 in
theorem fixed_v (w : World) : Calls Try.prog 13 #[] w (Gives w (isB true)) := by
  go_enter Try.func13, Try.ntmps13
  go_upto_region 0 with fail
  refine wp_region_list ?_
  refine wpList_run (v := .bool false) rfl (exec_assignV rfl rfl) ?_
  refine wpList_nil ?_
  simp only [Act.put, List.setIfInBounds_toArray, List.set_cons_zero]
  have HT := Lib.hid (Touch.refl [] w)
  go_upto_region 1 with fail
  refine wp_region_list (wpList_flowP 2 (lookW [(9, pu (PtV (pB))), (10, pu (PQv (0) (1) (1) (mulF (0) (1))))]) [] [9, 10] [9, 10] (by kernel_rfl) (by kernel_rfl) (by kernel_rfl) trivial ?_ ?_)
  · refine FStepsW.cons (FStepW.plain rfl fun a w hS hE => OpTo.call #[] rfl Try.func50 (by kernel_rfl) (by kernel_rfl) (args0 ..) ((base_v w).mono fun _ _ h => Gives.toW 9 rfl (fun _ _ h => h) h)) ?_
    refine FStepsW.cons (FStepW.plain rfl fun a w hS hE => OpTo.call #[] rfl Try.func25 (by kernel_rfl) (by kernel_rfl) (args0 ..) ((zero_q w).mono fun _ _ h => Gives.toW 10 rfl (fun _ _ h => h) h)) ?_
    exact FStepsW.nil
  intro f w1 hS hF
  obtain ⟨h9, h10, -⟩ := hF
  obtain ⟨b9, l9, q9, e9⟩ := h9
  have P9 := Lib.hid q9
  clear q9
  obtain ⟨l10, q10, e10⟩ := h10
  have Q10 := Lib.hid q10
  clear q10
  replace HT := Lib.hid (HT.out.trans hS)
  clear hS
  simp only [setAll, List.setIfInBounds_toArray, List.set_cons_zero, List.set_cons_succ, e9, e10]
  show wpList _ _ _ [_, _, _, _] _ _
  refine wpList_run rfl (exec_alloc_pt rfl) ?_
  refine wpList_run rfl (exec_alloc_pt rfl) ?_
  simp only [Act.put, List.setIfInBounds_toArray, List.set_cons_zero, List.set_cons_succ]
  obtain ⟨w2, g1, g2, hW, eg1, eg2, b1, b2, ht, hb1, hb2, ne1_2⟩ := start2 w1 28 (ptA false zl) 28 (ptA false zl)
  rw [← hW]
  rw [← eg2]
  rw [← eg1]
  have NE1_2 := Lib.hid ne1_2
  have B1 := Lib.hid b1
  have HB1 := Lib.hid (Nat.le_trans HT.out.size hb1)
  have B2 := Lib.hid b2
  have HB2 := Lib.hid (Nat.le_trans HT.out.size hb2)
  replace HT := Lib.hid (HT.out.trans ht)
  clear hW eg1 eg2 b1 b2 ht hb1 hb2 ne1_2
  refine wpList_store_row rfl 28 (.tmp 1) (.tmp 9) rfl g1 (ptA b9 l9) rfl rfl 28 (ptA false zl) B1.out (by rw [ptA_size P9.out.len]; exact infoP) ((ptA_size zl_len).trans (ptA_size P9.out.len).symm) (ptA_one b9 l9) ?_
  have P10 : Hid (PtL pzero true l10) := Lib.hid (.inl ⟨rfl, _, _, _, _, rep_zero, Q10.out⟩)
  refine wpList_store_row rfl 28 (.tmp 2) (.tmp 10) rfl g2 (ptA true l10) rfl rfl 28 (ptA false zl) (B2.out.frow (Ne.symm NE1_2.out) (ptA b9 l9)) (by rw [ptA_size Q10.out.len]; exact infoP) ((ptA_size zl_len).trans (ptA_size Q10.out.len).symm) (ptA_one true l10) ?_
  refine wpList_nil ?_
  simp only [Act.put]
  have B1' := ((B1.out.setRow (ptA b9 l9)).frow NE1_2.out (ptA true l10))
  have B2' := ((B2.out.frow (Ne.symm NE1_2.out) (ptA b9 l9)).setRow (ptA true l10))
  have HT' := ((HT.out.setRowE (.inr HB1.out) (ptA b9 l9)).setRowE (.inr HB2.out) (ptA true l10))
  obtain ⟨w3, hw3⟩ : ∃ w3, w3 = ((w2.setRow g1 (ptA b9 l9)).setRow g2 (ptA true l10)) := ⟨_, rfl⟩
  rw [← hw3] at HT' B1' B2'
  rw [← hw3]
  clear hw3 HT B1 B2
  have B1 := Lib.hid B1'
  clear B1'
  have B2 := Lib.hid B2'
  clear B2'
  have HT := Lib.hid HT'
  clear HT'
  clear e9 e10
  go_upto_region 2 with fail
  refine wp_region_list (wpList_flowP 2 (lookW [(1, pu (isP (g1))), (11, pu (PtV (pB))), (12, pu (isS (encS (pB))))]) [1] [11, 12] [12] (by kernel_rfl) (by kernel_rfl) (by kernel_rfl) ⟨rfl, trivial⟩ ?_ ?_)
  · refine FStepsW.cons (FStepW.plain rfl fun a w hS hE => OpTo.rdP 11 (.tmp 1) rfl rfl (g1) (hE 1 (by kernel_rfl)) (B1.out.touch hS notin_nil) P9.out (fun _ h => h)) ?_
    refine FStepsW.cons (FStepW.plain rfl fun a w hS hE => OpTo.call #[a.tmps.getD 11 undef] rfl Try.func11 (by kernel_rfl) (by kernel_rfl) (args1 ..) ((penc_v (hE 11 (by kernel_rfl)) w).mono fun _ _ h => Gives.toW 12 rfl (fun _ _ h => h) h)) ?_
    exact FStepsW.nil
  intro f w4 hS hF
  obtain ⟨h12, -⟩ := hF
  have e12 : f 12 = .string (encS (pB)) := h12
  clear h12
  replace B1 := Lib.hid (B1.out.touch hS notin_nil)
  replace B2 := Lib.hid (B2.out.touch hS notin_nil)
  replace HT := Lib.hid (HT.out.trans hS)
  clear hS
  simp only [setAll, List.setIfInBounds_toArray, List.set_cons_zero, List.set_cons_succ, e12]
  show wpList _ _ _ [_] _ _
  refine wpList_run (v := .string (encS (pB))) rfl (exec_assignV rfl rfl) ?_
  refine wpList_nil ?_
  simp only [Act.put, List.setIfInBounds_toArray, List.set_cons_zero, List.set_cons_succ]
  clear e12
  go_upto_region 3 with fail
  refine wp_region_list (wpList_flowP 6 (lookW [(3, pu (isS (encS (pB)))), (4, newS w4.heap.size 28 (ptA false zl)), (13, pu (Tup (PtV (decP (encS (pB)))) (.int .i64 (decC (encS (pB)))))), (14, pu (isS (encS (pB)))), (15, pu (Tup (PtV (decP (encS (pB)))) (.int .i64 (decC (encS (pB)))))), (16, pu (PtV (decP (encS (pB))))), (17, pu (isV (.int .i64 (decC (encS (pB))))))]) [3] [14, 15, 13, 16, 17, 4] [16, 17, 4] (by kernel_rfl) (by kernel_rfl) (by kernel_rfl) ⟨rfl, trivial⟩ ?_ ?_)
  · refine FStepsW.cons (FStepW.plain rfl fun a w hS hE => OpTo.move rfl ⟨dOfW.of 14 rfl (hE 3 (by kernel_rfl)), Touch.refl _ _⟩) ?_
    refine FStepsW.cons (FStepW.plain rfl fun a w hS hE => OpTo.call #[a.tmps.getD 14 undef] rfl Try.func9 (by kernel_rfl) (by kernel_rfl) (args1 ..) ((pdec_v (hE 14 (by kernel_rfl)) w).mono fun _ _ h => Gives.toW 15 rfl (fun _ _ h => h) h)) ?_
    refine FStepsW.cons (FStepW.plain rfl fun a w hS hE => OpTo.move rfl ⟨dOfW.of 13 rfl (hE 15 (by kernel_rfl)), Touch.refl _ _⟩) ?_
    refine FStepsW.cons (FStepW.plain rfl fun a w hS hE => OpTo.ext0 16 _ rfl rfl (hE 13 (by kernel_rfl)) (fun _ h => h)) ?_
    refine FStepsW.cons (FStepW.plain rfl fun a w hS hE => OpTo.ext1 17 _ rfl rfl (hE 13 (by kernel_rfl)) rfl) ?_
    refine FStepsW.cons (FStepW.plain rfl fun a w hS hE => OpTo.allocG 4 28 (ptA false zl) rfl hS (exec_alloc_pt rfl) rfl) ?_
    exact FStepsW.nil
  intro f w5 hS hF
  obtain ⟨h16, h17, h4, -⟩ := hF
  obtain ⟨b16, l16, q16, e16⟩ := h16
  have P16 := Lib.hid q16
  clear q16
  have e17 : f 17 = .int .i64 (decC (encS (pB))) := h17
  clear h17
  obtain ⟨g4, e4, z4, b4⟩ := h4
  have NE1_4 := Lib.hid (ne_new B1.out b4)
  have NE2_4 := Lib.hid (ne_new B2.out b4)
  replace B1 := Lib.hid (B1.out.touch hS notin_nil)
  replace B2 := Lib.hid (B2.out.touch hS notin_nil)
  have B4 := Lib.hid z4
  have HB4 := Lib.hid (Nat.le_trans HT.out.size b4)
  clear z4 b4
  replace HT := Lib.hid (HT.out.trans hS)
  clear hS
  simp only [setAll, List.setIfInBounds_toArray, List.set_cons_zero, List.set_cons_succ, e16, e17, e4]
  show wpList _ _ _ [_, _] _ _
  refine wpList_store_row rfl 28 (.tmp 4) (.tmp 16) rfl g4 (ptA b16 l16) rfl rfl 28 (ptA false zl) B4.out (by rw [ptA_size P16.out.len]; exact infoP) ((ptA_size zl_len).trans (ptA_size P16.out.len).symm) (ptA_one b16 l16) ?_
  refine wpList_run (v := .int .i64 (decC (encS (pB)))) rfl (exec_assignV rfl rfl) ?_
  refine wpList_nil ?_
  simp only [Act.put, List.setIfInBounds_toArray, List.set_cons_zero, List.set_cons_succ]
  have B1' := (B1.out.frow NE1_4.out (ptA b16 l16))
  have B2' := (B2.out.frow NE2_4.out (ptA b16 l16))
  have B4' := (B4.out.setRow (ptA b16 l16))
  have HT' := (HT.out.setRowE (.inr HB4.out) (ptA b16 l16))
  obtain ⟨w6, hw6⟩ : ∃ w6, w6 = (w5.setRow g4 (ptA b16 l16)) := ⟨_, rfl⟩
  rw [← hw6] at HT' B1' B2' B4'
  rw [← hw6]
  clear hw6 HT B1 B2 B4
  have B1 := Lib.hid B1'
  clear B1'
  have B2 := Lib.hid B2'
  clear B2'
  have B4 := Lib.hid B4'
  clear B4'
  have HT := Lib.hid HT'
  clear HT'
  clear e16 e17 e4
  go_upto_region 4 with fail
  refine wp_region_list (wpList_flowP 5 (lookW [(6, newS w6.heap.size 28 (ptA false zl)), (18, pu (Tup (PtV (decP (⟨#[120]⟩))) (.int .i64 (decC (⟨#[120]⟩))))), (19, pu (Tup (PtV (decP (⟨#[120]⟩))) (.int .i64 (decC (⟨#[120]⟩))))), (20, pu (PtV (decP (⟨#[120]⟩)))), (21, pu (isV (.int .i64 (decC (⟨#[120]⟩)))))]) [] [19, 18, 20, 21, 6] [20, 21, 6] (by kernel_rfl) (by kernel_rfl) (by kernel_rfl) trivial ?_ ?_)
  · refine FStepsW.cons (FStepW.plain rfl fun a w hS hE => OpTo.call #[.string ⟨#[120]⟩] rfl Try.func9 (by kernel_rfl) (by kernel_rfl) (args1 ..) ((pdec_v (Eq.refl (Value.string ⟨#[120]⟩)) w).mono fun _ _ h => Gives.toW 19 rfl (fun _ _ h => h) h)) ?_
    refine FStepsW.cons (FStepW.plain rfl fun a w hS hE => OpTo.move rfl ⟨dOfW.of 18 rfl (hE 19 (by kernel_rfl)), Touch.refl _ _⟩) ?_
    refine FStepsW.cons (FStepW.plain rfl fun a w hS hE => OpTo.ext0 20 _ rfl rfl (hE 18 (by kernel_rfl)) (fun _ h => h)) ?_
    refine FStepsW.cons (FStepW.plain rfl fun a w hS hE => OpTo.ext1 21 _ rfl rfl (hE 18 (by kernel_rfl)) rfl) ?_
    refine FStepsW.cons (FStepW.plain rfl fun a w hS hE => OpTo.allocG 6 28 (ptA false zl) rfl hS (exec_alloc_pt rfl) rfl) ?_
    exact FStepsW.nil
  intro f w7 hS hF
  obtain ⟨h20, h21, h6, -⟩ := hF
  obtain ⟨b20, l20, q20, e20⟩ := h20
  have P20 := Lib.hid q20
  clear q20
  have e21 : f 21 = .int .i64 (decC (⟨#[120]⟩)) := h21
  clear h21
  obtain ⟨g6, e6, z6, b6⟩ := h6
  have NE1_6 := Lib.hid (ne_new B1.out b6)
  have NE2_6 := Lib.hid (ne_new B2.out b6)
  have NE4_6 := Lib.hid (ne_new B4.out b6)
  replace B1 := Lib.hid (B1.out.touch hS notin_nil)
  replace B2 := Lib.hid (B2.out.touch hS notin_nil)
  replace B4 := Lib.hid (B4.out.touch hS notin_nil)
  have B6 := Lib.hid z6
  have HB6 := Lib.hid (Nat.le_trans HT.out.size b6)
  clear z6 b6
  replace HT := Lib.hid (HT.out.trans hS)
  clear hS
  simp only [setAll, List.setIfInBounds_toArray, List.set_cons_zero, List.set_cons_succ, e20, e21, e6]
  show wpList _ _ _ [_, _] _ _
  refine wpList_store_row rfl 28 (.tmp 6) (.tmp 20) rfl g6 (ptA b20 l20) rfl rfl 28 (ptA false zl) B6.out (by rw [ptA_size P20.out.len]; exact infoP) ((ptA_size zl_len).trans (ptA_size P20.out.len).symm) (ptA_one b20 l20) ?_
  refine wpList_run (v := .int .i64 (decC (⟨#[120]⟩))) rfl (exec_assignV rfl rfl) ?_
  refine wpList_nil ?_
  simp only [Act.put, List.setIfInBounds_toArray, List.set_cons_zero, List.set_cons_succ]
  have B1' := (B1.out.frow NE1_6.out (ptA b20 l20))
  have B2' := (B2.out.frow NE2_6.out (ptA b20 l20))
  have B4' := (B4.out.frow NE4_6.out (ptA b20 l20))
  have B6' := (B6.out.setRow (ptA b20 l20))
  have HT' := (HT.out.setRowE (.inr HB6.out) (ptA b20 l20))
  obtain ⟨w8, hw8⟩ : ∃ w8, w8 = (w7.setRow g6 (ptA b20 l20)) := ⟨_, rfl⟩
  rw [← hw8] at HT' B1' B2' B4' B6'
  rw [← hw8]
  clear hw8 HT B1 B2 B4 B6
  have B1 := Lib.hid B1'
  clear B1'
  have B2 := Lib.hid B2'
  clear B2'
  have B4 := Lib.hid B4'
  clear B4'
  have B6 := Lib.hid B6'
  clear B6'
  have HT := Lib.hid HT'
  clear HT'
  clear e20 e21 e6
  go_upto_region 5 with fail
  refine wp_region_list (wpList_flowP 4 (lookW [(1, pu (isP (g1))), (8, newS w8.heap.size 28 (ptA false zl)), (22, pu (PtV (pB))), (23, pu (PtV (pB))), (24, pu (PtV (padd (pB) (pB))))]) [1] [22, 23, 24, 8] [24, 8] (by kernel_rfl) (by kernel_rfl) (by kernel_rfl) ⟨rfl, trivial⟩ ?_ ?_)
  · refine FStepsW.cons (FStepW.plain rfl fun a w hS hE => OpTo.rdP 22 (.tmp 1) rfl rfl (g1) (hE 1 (by kernel_rfl)) (B1.out.touch hS notin_nil) P9.out (fun _ h => h)) ?_
    refine FStepsW.cons (FStepW.plain rfl fun a w hS hE => OpTo.rdP 23 (.tmp 1) rfl rfl (g1) (hE 1 (by kernel_rfl)) (B1.out.touch hS notin_nil) P9.out (fun _ h => h)) ?_
    refine FStepsW.cons (FStepW.plain rfl fun a w hS hE => OpTo.call #[a.tmps.getD 22 undef, a.tmps.getD 23 undef] rfl Try.func15 (by kernel_rfl) (by kernel_rfl) (args2 ..) ((padd_v (hE 22 (by kernel_rfl)) (hE 23 (by kernel_rfl)) w).mono fun _ _ h => Gives.toW 24 rfl (fun _ _ h => h) h)) ?_
    refine FStepsW.cons (FStepW.plain rfl fun a w hS hE => OpTo.allocG 8 28 (ptA false zl) rfl hS (exec_alloc_pt rfl) rfl) ?_
    exact FStepsW.nil
  intro f w9 hS hF
  obtain ⟨h24, h8, -⟩ := hF
  obtain ⟨b24, l24, q24, e24⟩ := h24
  have P24 := Lib.hid q24
  clear q24
  obtain ⟨g8, e8, z8, b8⟩ := h8
  have NE1_8 := Lib.hid (ne_new B1.out b8)
  have NE2_8 := Lib.hid (ne_new B2.out b8)
  have NE4_8 := Lib.hid (ne_new B4.out b8)
  have NE6_8 := Lib.hid (ne_new B6.out b8)
  replace B1 := Lib.hid (B1.out.touch hS notin_nil)
  replace B2 := Lib.hid (B2.out.touch hS notin_nil)
  replace B4 := Lib.hid (B4.out.touch hS notin_nil)
  replace B6 := Lib.hid (B6.out.touch hS notin_nil)
  have B8 := Lib.hid z8
  have HB8 := Lib.hid (Nat.le_trans HT.out.size b8)
  clear z8 b8
  replace HT := Lib.hid (HT.out.trans hS)
  clear hS
  simp only [setAll, List.setIfInBounds_toArray, List.set_cons_zero, List.set_cons_succ, e24, e8]
  show wpList _ _ _ [_] _ _
  refine wpList_store_row rfl 28 (.tmp 8) (.tmp 24) rfl g8 (ptA b24 l24) rfl rfl 28 (ptA false zl) B8.out (by rw [ptA_size P24.out.len]; exact infoP) ((ptA_size zl_len).trans (ptA_size P24.out.len).symm) (ptA_one b24 l24) ?_
  refine wpList_nil ?_
  simp only [Act.put]
  have B1' := (B1.out.frow NE1_8.out (ptA b24 l24))
  have B2' := (B2.out.frow NE2_8.out (ptA b24 l24))
  have B4' := (B4.out.frow NE4_8.out (ptA b24 l24))
  have B6' := (B6.out.frow NE6_8.out (ptA b24 l24))
  have B8' := (B8.out.setRow (ptA b24 l24))
  have HT' := (HT.out.setRowE (.inr HB8.out) (ptA b24 l24))
  obtain ⟨w10, hw10⟩ : ∃ w10, w10 = (w9.setRow g8 (ptA b24 l24)) := ⟨_, rfl⟩
  rw [← hw10] at HT' B1' B2' B4' B6' B8'
  rw [← hw10]
  clear hw10 HT B1 B2 B4 B6 B8
  have B1 := Lib.hid B1'
  clear B1'
  have B2 := Lib.hid B2'
  clear B2'
  have B4 := Lib.hid B4'
  clear B4'
  have B6 := Lib.hid B6'
  clear B6'
  have B8 := Lib.hid B8'
  clear B8'
  have HT := Lib.hid HT'
  clear HT'
  clear e24 e8
  go_upto_region 6 with fail
  refine wp_region_flowX (lookW [(0, pu (isB true)), (1, pu (isP (g1))), (2, pu (isP (g2))), (3, pu (isS (encS (pB)))), (4, pu (isP (g4))), (5, pu (isV (.int .i64 (decC (encS (pB)))))), (7, pu (isV (.int .i64 (decC (⟨#[120]⟩))))), (8, pu (isP (g8))), (25, pu (isS (encS (pB)))), (26, pu (isV (.int .i64 (((encS (pB)).size : Int))))), (27, pu (isB true)), (28, pu (isB true)), (29, pu (isS (encS (pB)))), (30, pu (isV (.int .u8 (((88 : Nat) : Int))))), (31, pu (isB true)), (32, pu (isB true)), (33, pu (isB true)), (34, pu (isS (encS (pB)))), (35, pu (isV (.int .u8 (((102 : Nat) : Int))))), (36, pu (isB true)), (37, pu (isB true)), (38, pu (isB true)), (39, pu (isV (.int .i64 (decC (encS (pB)))))), (40, pu (isB true)), (41, pu (isB true)), (42, pu (isB true)), (43, pu (PtV (decP (encS (pB))))), (44, pu (PtV (pB))), (45, pu (isB true)), (46, pu (isB true)), (47, pu (isB true)), (48, pu (isV (.int .i64 (decC (⟨#[120]⟩))))), (49, pu (isB true)), (50, pu (isB true)), (51, pu (isB true)), (52, pu (PtV (pB))), (53, pu (PtV (pzero))), (54, pu (isB false)), (55, pu (isB true)), (56, pu (isB true)), (57, pu (isB true)), (58, pu (PtV (padd (pB) (pB)))), (59, pu (PtV (pB))), (60, pu (PtV (pmul (lowN (⟨#[2]⟩)) (pB)))), (61, pu (isB true)), (62, pu (isB true)), (63, pu (isB true)), (64, pu (PtV (padd (pB) (pB)))), (65, pu (PtV (pB))), (66, pu (isB false)), (67, pu (isB true)), (68, pu (isB true)), (69, pu (isB true)), (70, pu (PtV (pB))), (71, pu (PtV (pzero))), (72, pu (PtV (padd (pB) (pzero)))), (73, pu (PtV (pB))), (74, pu (isB true)), (75, pu (isB true)), (76, pu (isB true)), (77, pu (PtV (pB))), (78, pu (PtV (pB))), (79, pu (PtV (pneg (pB)))), (80, pu (PtV (padd (pB) (pneg (pB))))), (81, pu (PtV (pzero))), (82, pu (isB true)), (83, pu (isB true)), (84, pu (isB true)), (85, pu (PtV (pzero))), (86, pu (isB true)), (87, pu (isB true)), (88, pu (isB true)), (89, pu (PtV (pB))), (90, pu (isB false)), (91, pu (isB true)), (92, pu (isB true)), (93, pu (isB true)), (94, pu (PtV (pzero))), (95, pu (isS (encS (pzero)))), (96, pu (isV (.int .i64 (((encS (pzero)).size : Int))))), (97, pu (isB true)), (98, pu (isB true)), (99, pu (isB true)), (100, pu (PtV (pzero))), (101, pu (isS (encS (pzero)))), (102, pu (isV (.int .u8 (((1 : Nat) : Int))))), (103, pu (isB true)), (104, pu (isB true)), (105, pu (isB true)), (106, pu (PtV (pzero))), (107, pu (isS (encS (pzero)))), (108, pu (isV (.int .u8 (((0 : Nat) : Int))))), (109, pu (isB true)), (110, pu (isB true)), (111, pu (isB true)), (112, pu (isS (toS (DN)))), (113, pu (isS (toS (121666)))), (114, pu (isS (toS (mulF (DN) (121666))))), (115, pu (isS (toS (121665)))), (116, pu (isS (toS (negF (121665))))), (117, pu (isB true)), (118, pu (isB true))]) (by kernel_rfl) 95 [] (fun d _ _ _ _ h => by cases d <;> exact h) (by intro l hl; cases hl) [1, 2, 3, 4, 5, 7, 8] [25, 26, 27, 28, 29, 30, 31, 32, 33, 34, 35, 36, 37, 38, 39, 40, 41, 42, 43, 44, 45, 46, 47, 48, 49, 50, 51, 52, 53, 54, 55, 56, 57, 58, 59, 60, 61, 62, 63, 64, 65, 66, 67, 68, 69, 70, 71, 72, 73, 74, 75, 76, 77, 78, 79, 80, 81, 82, 83, 84, 85, 86, 87, 88, 89, 90, 91, 92, 93, 94, 95, 96, 97, 98, 99, 100, 101, 102, 103, 104, 105, 106, 107, 108, 109, 110, 111, 112, 113, 114, 115, 116, 117, 118, 0] [0] [] (by kernel_rfl) (by kernel_rfl) (by kernel_rfl) (by kernel_rfl) (by kernel_rfl) (by kernel_rfl) ⟨rfl, rfl, rfl, rfl, rfl, rfl, rfl, trivial⟩ ?_ ?_
  · refine FStepsX.cons rfl (FStepW.plain rfl fun a w hS hE => OpTo.move rfl ⟨dOfW.of 25 rfl (hE 3 (by kernel_rfl)), Touch.refl _ _⟩) ?_
    refine FStepsX.cons rfl (FStepW.plain rfl fun a w hS hE => OpTo.lenS Try.underlying9 (encS (pB)) rfl (hE 25 (by kernel_rfl)) ⟨dOfW.of 26 rfl rfl, Touch.refl _ _⟩) ?_
    refine FStepsX.cons rfl (FStepW.plain rfl fun a w hS hE => OpTo.eqI .i64 (((encS (pB)).size : Int)) (32) rfl (hE 26 (by kernel_rfl)) rfl ⟨dOfW.of 27 rfl (by rw [fx_len pB]; rfl), Touch.refl _ _⟩) ?_
    refine FStepsX.cons rfl (FStepW.plain rfl fun a w hS hE => OpTo.move rfl ⟨dOfW.of 28 rfl (hE 27 (by kernel_rfl)), Touch.refl _ _⟩) ?_
    refine FStepsX.cons rfl (FStepW.go 28 rfl rfl (fun _ _ h => h) fun a w hS hE => OpTo.move rfl ⟨dOfW.of 29 rfl (hE 3 (by kernel_rfl)), Touch.refl _ _⟩) ?_
    refine FStepsX.cons rfl (FStepW.go 28 rfl rfl (fun _ _ h => h) fun a w hS hE => OpTo.indexS Try.underlying9 (encS (pB)) (0) rfl (hE 29 (by kernel_rfl)) rfl (fx_lt pB 0 (by decide)) ⟨dOfW.of 30 rfl (by rw [fx30]; rfl), Touch.refl _ _⟩) ?_
    refine FStepsX.cons rfl (FStepW.go 28 rfl rfl (fun _ _ h => h) fun a w hS hE => OpTo.eqI .u8 (((88 : Nat) : Int)) (88) rfl (hE 30 (by kernel_rfl)) rfl ⟨dOfW.of 31 rfl (by rw [(decide_eq_true rfl : decide (((88 : Nat) : Int) = 88) = true)]; rfl), Touch.refl _ _⟩) ?_
    refine FStepsX.cons rfl (FStepW.plain rfl fun a w hS hE => OpTo.pick true rfl (hE 28 (by kernel_rfl)) ⟨dOfW.of 32 rfl (hE 31 (by kernel_rfl)), Touch.refl _ _⟩) ?_
    refine FStepsX.cons rfl (FStepW.plain rfl fun a w hS hE => OpTo.move rfl ⟨dOfW.of 33 rfl (hE 32 (by kernel_rfl)), Touch.refl _ _⟩) ?_
    refine FStepsX.cons rfl (FStepW.go 33 rfl rfl (fun _ _ h => h) fun a w hS hE => OpTo.move rfl ⟨dOfW.of 34 rfl (hE 3 (by kernel_rfl)), Touch.refl _ _⟩) ?_
    refine FStepsX.cons rfl (FStepW.go 33 rfl rfl (fun _ _ h => h) fun a w hS hE => OpTo.indexS Try.underlying9 (encS (pB)) (31) rfl (hE 34 (by kernel_rfl)) rfl (fx_lt pB 31 (by decide)) ⟨dOfW.of 35 rfl (by rw [fx35]; rfl), Touch.refl _ _⟩) ?_
    refine FStepsX.cons rfl (FStepW.go 33 rfl rfl (fun _ _ h => h) fun a w hS hE => OpTo.eqI .u8 (((102 : Nat) : Int)) (102) rfl (hE 35 (by kernel_rfl)) rfl ⟨dOfW.of 36 rfl (by rw [(decide_eq_true rfl : decide (((102 : Nat) : Int) = 102) = true)]; rfl), Touch.refl _ _⟩) ?_
    refine FStepsX.cons rfl (FStepW.plain rfl fun a w hS hE => OpTo.pick true rfl (hE 33 (by kernel_rfl)) ⟨dOfW.of 37 rfl (hE 36 (by kernel_rfl)), Touch.refl _ _⟩) ?_
    refine FStepsX.cons rfl (FStepW.plain rfl fun a w hS hE => OpTo.move rfl ⟨dOfW.of 38 rfl (hE 37 (by kernel_rfl)), Touch.refl _ _⟩) ?_
    refine FStepsX.cons rfl (FStepW.go 38 rfl rfl (fun _ _ h => h) fun a w hS hE => OpTo.move rfl ⟨dOfW.of 39 rfl (hE 5 (by kernel_rfl)), Touch.refl _ _⟩) ?_
    refine FStepsX.cons rfl (FStepW.go 38 rfl rfl (fun _ _ h => h) fun a w hS hE => OpTo.eqI .i64 (decC (encS (pB))) (0) rfl (hE 39 (by kernel_rfl)) rfl ⟨dOfW.of 40 rfl (by rw [fx40]; rfl), Touch.refl _ _⟩) ?_
    refine FStepsX.cons rfl (FStepW.plain rfl fun a w hS hE => OpTo.pick true rfl (hE 38 (by kernel_rfl)) ⟨dOfW.of 41 rfl (hE 40 (by kernel_rfl)), Touch.refl _ _⟩) ?_
    refine FStepsX.cons rfl (FStepW.plain rfl fun a w hS hE => OpTo.move rfl ⟨dOfW.of 42 rfl (hE 41 (by kernel_rfl)), Touch.refl _ _⟩) ?_
    refine FStepsX.cons rfl (FStepW.go 42 rfl rfl (fun _ _ h => h) fun a w hS hE => OpTo.rdP 43 (.tmp 4) rfl rfl (g4) (hE 4 (by kernel_rfl)) (B4.out.touch hS notin_nil) P16.out (fun _ h => h)) ?_
    refine FStepsX.cons rfl (FStepW.go 42 rfl rfl (fun _ _ h => h) fun a w hS hE => OpTo.rdP 44 (.tmp 1) rfl rfl (g1) (hE 1 (by kernel_rfl)) (B1.out.touch hS notin_nil) P9.out (fun _ h => h)) ?_
    refine FStepsX.cons rfl (FStepW.go 42 rfl rfl (fun _ _ h => h) fun a w hS hE => OpTo.call #[a.tmps.getD 43 undef, a.tmps.getD 44 undef] rfl Try.func19 (by kernel_rfl) (by kernel_rfl) (args2 ..) ((psame_b (hE 43 (by kernel_rfl)) (hE 44 (by kernel_rfl)) fx45 w).mono fun _ _ h => Gives.toW 45 rfl (fun _ _ h => h) h)) ?_
    refine FStepsX.cons rfl (FStepW.plain rfl fun a w hS hE => OpTo.pick true rfl (hE 42 (by kernel_rfl)) ⟨dOfW.of 46 rfl (hE 45 (by kernel_rfl)), Touch.refl _ _⟩) ?_
    refine FStepsX.cons rfl (FStepW.plain rfl fun a w hS hE => OpTo.move rfl ⟨dOfW.of 47 rfl (hE 46 (by kernel_rfl)), Touch.refl _ _⟩) ?_
    refine FStepsX.cons rfl (FStepW.go 47 rfl rfl (fun _ _ h => h) fun a w hS hE => OpTo.move rfl ⟨dOfW.of 48 rfl (hE 7 (by kernel_rfl)), Touch.refl _ _⟩) ?_
    refine FStepsX.cons rfl (FStepW.go 47 rfl rfl (fun _ _ h => h) fun a w hS hE => OpTo.eqI .i64 (decC (⟨#[120]⟩)) (9) rfl (hE 48 (by kernel_rfl)) rfl ⟨dOfW.of 49 rfl (by rw [fx49]; rfl), Touch.refl _ _⟩) ?_
    refine FStepsX.cons rfl (FStepW.plain rfl fun a w hS hE => OpTo.pick true rfl (hE 47 (by kernel_rfl)) ⟨dOfW.of 50 rfl (hE 49 (by kernel_rfl)), Touch.refl _ _⟩) ?_
    refine FStepsX.cons rfl (FStepW.plain rfl fun a w hS hE => OpTo.move rfl ⟨dOfW.of 51 rfl (hE 50 (by kernel_rfl)), Touch.refl _ _⟩) ?_
    refine FStepsX.cons rfl (FStepW.go 51 rfl rfl (fun _ _ h => h) fun a w hS hE => OpTo.rdP 52 (.tmp 1) rfl rfl (g1) (hE 1 (by kernel_rfl)) (B1.out.touch hS notin_nil) P9.out (fun _ h => h)) ?_
    refine FStepsX.cons rfl (FStepW.go 51 rfl rfl (fun _ _ h => h) fun a w hS hE => OpTo.rdP 53 (.tmp 2) rfl rfl (g2) (hE 2 (by kernel_rfl)) (B2.out.touch hS notin_nil) P10.out (fun _ h => h)) ?_
    refine FStepsX.cons rfl (FStepW.go 51 rfl rfl (fun _ _ h => h) fun a w hS hE => OpTo.call #[a.tmps.getD 52 undef, a.tmps.getD 53 undef] rfl Try.func19 (by kernel_rfl) (by kernel_rfl) (args2 ..) ((psame_b (hE 52 (by kernel_rfl)) (hE 53 (by kernel_rfl)) fx54 w).mono fun _ _ h => Gives.toW 54 rfl (fun _ _ h => h) h)) ?_
    refine FStepsX.cons rfl (FStepW.go 51 rfl rfl (fun _ _ h => h) fun a w hS hE => OpTo.not false rfl (hE 54 (by kernel_rfl)) ⟨dOfW.of 55 rfl (Eq.refl (Value.bool true)), Touch.refl _ _⟩) ?_
    refine FStepsX.cons rfl (FStepW.plain rfl fun a w hS hE => OpTo.pick true rfl (hE 51 (by kernel_rfl)) ⟨dOfW.of 56 rfl (hE 55 (by kernel_rfl)), Touch.refl _ _⟩) ?_
    refine FStepsX.cons rfl (FStepW.plain rfl fun a w hS hE => OpTo.move rfl ⟨dOfW.of 57 rfl (hE 56 (by kernel_rfl)), Touch.refl _ _⟩) ?_
    refine FStepsX.cons rfl (FStepW.go 57 rfl rfl (fun _ _ h => h) fun a w hS hE => OpTo.rdP 58 (.tmp 8) rfl rfl (g8) (hE 8 (by kernel_rfl)) (B8.out.touch hS notin_nil) P24.out (fun _ h => h)) ?_
    refine FStepsX.cons rfl (FStepW.go 57 rfl rfl (fun _ _ h => h) fun a w hS hE => OpTo.rdP 59 (.tmp 1) rfl rfl (g1) (hE 1 (by kernel_rfl)) (B1.out.touch hS notin_nil) P9.out (fun _ h => h)) ?_
    refine FStepsX.cons rfl (FStepW.go 57 rfl rfl (fun _ _ h => h) fun a w hS hE => OpTo.call #[a.tmps.getD 59 undef, .string ⟨#[2]⟩] rfl Try.func21 (by kernel_rfl) (by kernel_rfl) (args2 ..) ((pmul_v (hE 59 (by kernel_rfl)) (Eq.refl (Value.string ⟨#[2]⟩)) w).mono fun _ _ h => Gives.toW 60 rfl (fun _ _ h => h) h)) ?_
    refine FStepsX.cons rfl (FStepW.go 57 rfl rfl (fun _ _ h => h) fun a w hS hE => OpTo.call #[a.tmps.getD 58 undef, a.tmps.getD 60 undef] rfl Try.func19 (by kernel_rfl) (by kernel_rfl) (args2 ..) ((psame_b (hE 58 (by kernel_rfl)) (hE 60 (by kernel_rfl)) fx61 w).mono fun _ _ h => Gives.toW 61 rfl (fun _ _ h => h) h)) ?_
    refine FStepsX.cons rfl (FStepW.plain rfl fun a w hS hE => OpTo.pick true rfl (hE 57 (by kernel_rfl)) ⟨dOfW.of 62 rfl (hE 61 (by kernel_rfl)), Touch.refl _ _⟩) ?_
    refine FStepsX.cons rfl (FStepW.plain rfl fun a w hS hE => OpTo.move rfl ⟨dOfW.of 63 rfl (hE 62 (by kernel_rfl)), Touch.refl _ _⟩) ?_
    refine FStepsX.cons rfl (FStepW.go 63 rfl rfl (fun _ _ h => h) fun a w hS hE => OpTo.rdP 64 (.tmp 8) rfl rfl (g8) (hE 8 (by kernel_rfl)) (B8.out.touch hS notin_nil) P24.out (fun _ h => h)) ?_
    refine FStepsX.cons rfl (FStepW.go 63 rfl rfl (fun _ _ h => h) fun a w hS hE => OpTo.rdP 65 (.tmp 1) rfl rfl (g1) (hE 1 (by kernel_rfl)) (B1.out.touch hS notin_nil) P9.out (fun _ h => h)) ?_
    refine FStepsX.cons rfl (FStepW.go 63 rfl rfl (fun _ _ h => h) fun a w hS hE => OpTo.call #[a.tmps.getD 64 undef, a.tmps.getD 65 undef] rfl Try.func19 (by kernel_rfl) (by kernel_rfl) (args2 ..) ((psame_b (hE 64 (by kernel_rfl)) (hE 65 (by kernel_rfl)) fx66 w).mono fun _ _ h => Gives.toW 66 rfl (fun _ _ h => h) h)) ?_
    refine FStepsX.cons rfl (FStepW.go 63 rfl rfl (fun _ _ h => h) fun a w hS hE => OpTo.not false rfl (hE 66 (by kernel_rfl)) ⟨dOfW.of 67 rfl (Eq.refl (Value.bool true)), Touch.refl _ _⟩) ?_
    refine FStepsX.cons rfl (FStepW.plain rfl fun a w hS hE => OpTo.pick true rfl (hE 63 (by kernel_rfl)) ⟨dOfW.of 68 rfl (hE 67 (by kernel_rfl)), Touch.refl _ _⟩) ?_
    refine FStepsX.cons rfl (FStepW.plain rfl fun a w hS hE => OpTo.move rfl ⟨dOfW.of 69 rfl (hE 68 (by kernel_rfl)), Touch.refl _ _⟩) ?_
    refine FStepsX.cons rfl (FStepW.go 69 rfl rfl (fun _ _ h => h) fun a w hS hE => OpTo.rdP 70 (.tmp 1) rfl rfl (g1) (hE 1 (by kernel_rfl)) (B1.out.touch hS notin_nil) P9.out (fun _ h => h)) ?_
    refine FStepsX.cons rfl (FStepW.go 69 rfl rfl (fun _ _ h => h) fun a w hS hE => OpTo.rdP 71 (.tmp 2) rfl rfl (g2) (hE 2 (by kernel_rfl)) (B2.out.touch hS notin_nil) P10.out (fun _ h => h)) ?_
    refine FStepsX.cons rfl (FStepW.go 69 rfl rfl (fun _ _ h => h) fun a w hS hE => OpTo.call #[a.tmps.getD 70 undef, a.tmps.getD 71 undef] rfl Try.func15 (by kernel_rfl) (by kernel_rfl) (args2 ..) ((padd_v (hE 70 (by kernel_rfl)) (hE 71 (by kernel_rfl)) w).mono fun _ _ h => Gives.toW 72 rfl (fun _ _ h => h) h)) ?_
    refine FStepsX.cons rfl (FStepW.go 69 rfl rfl (fun _ _ h => h) fun a w hS hE => OpTo.rdP 73 (.tmp 1) rfl rfl (g1) (hE 1 (by kernel_rfl)) (B1.out.touch hS notin_nil) P9.out (fun _ h => h)) ?_
    refine FStepsX.cons rfl (FStepW.go 69 rfl rfl (fun _ _ h => h) fun a w hS hE => OpTo.call #[a.tmps.getD 72 undef, a.tmps.getD 73 undef] rfl Try.func19 (by kernel_rfl) (by kernel_rfl) (args2 ..) ((psame_b (hE 72 (by kernel_rfl)) (hE 73 (by kernel_rfl)) fx74 w).mono fun _ _ h => Gives.toW 74 rfl (fun _ _ h => h) h)) ?_
    refine FStepsX.cons rfl (FStepW.plain rfl fun a w hS hE => OpTo.pick true rfl (hE 69 (by kernel_rfl)) ⟨dOfW.of 75 rfl (hE 74 (by kernel_rfl)), Touch.refl _ _⟩) ?_
    refine FStepsX.cons rfl (FStepW.plain rfl fun a w hS hE => OpTo.move rfl ⟨dOfW.of 76 rfl (hE 75 (by kernel_rfl)), Touch.refl _ _⟩) ?_
    refine FStepsX.cons rfl (FStepW.go 76 rfl rfl (fun _ _ h => h) fun a w hS hE => OpTo.rdP 77 (.tmp 1) rfl rfl (g1) (hE 1 (by kernel_rfl)) (B1.out.touch hS notin_nil) P9.out (fun _ h => h)) ?_
    refine FStepsX.cons rfl (FStepW.go 76 rfl rfl (fun _ _ h => h) fun a w hS hE => OpTo.rdP 78 (.tmp 1) rfl rfl (g1) (hE 1 (by kernel_rfl)) (B1.out.touch hS notin_nil) P9.out (fun _ h => h)) ?_
    refine FStepsX.cons rfl (FStepW.go 76 rfl rfl (fun _ _ h => h) fun a w hS hE => OpTo.call #[a.tmps.getD 78 undef] rfl Try.func17 (by kernel_rfl) (by kernel_rfl) (args1 ..) ((pneg_v (hE 78 (by kernel_rfl)) w).mono fun _ _ h => Gives.toW 79 rfl (fun _ _ h => h) h)) ?_
    refine FStepsX.cons rfl (FStepW.go 76 rfl rfl (fun _ _ h => h) fun a w hS hE => OpTo.call #[a.tmps.getD 77 undef, a.tmps.getD 79 undef] rfl Try.func15 (by kernel_rfl) (by kernel_rfl) (args2 ..) ((padd_v (hE 77 (by kernel_rfl)) (hE 79 (by kernel_rfl)) w).mono fun _ _ h => Gives.toW 80 rfl (fun _ _ h => h) h)) ?_
    refine FStepsX.cons rfl (FStepW.go 76 rfl rfl (fun _ _ h => h) fun a w hS hE => OpTo.rdP 81 (.tmp 2) rfl rfl (g2) (hE 2 (by kernel_rfl)) (B2.out.touch hS notin_nil) P10.out (fun _ h => h)) ?_
    refine FStepsX.cons rfl (FStepW.go 76 rfl rfl (fun _ _ h => h) fun a w hS hE => OpTo.call #[a.tmps.getD 80 undef, a.tmps.getD 81 undef] rfl Try.func19 (by kernel_rfl) (by kernel_rfl) (args2 ..) ((psame_b (hE 80 (by kernel_rfl)) (hE 81 (by kernel_rfl)) fx82 w).mono fun _ _ h => Gives.toW 82 rfl (fun _ _ h => h) h)) ?_
    refine FStepsX.cons rfl (FStepW.plain rfl fun a w hS hE => OpTo.pick true rfl (hE 76 (by kernel_rfl)) ⟨dOfW.of 83 rfl (hE 82 (by kernel_rfl)), Touch.refl _ _⟩) ?_
    refine FStepsX.cons rfl (FStepW.plain rfl fun a w hS hE => OpTo.move rfl ⟨dOfW.of 84 rfl (hE 83 (by kernel_rfl)), Touch.refl _ _⟩) ?_
    refine FStepsX.cons rfl (FStepW.go 84 rfl rfl (fun _ _ h => h) fun a w hS hE => OpTo.rdP 85 (.tmp 2) rfl rfl (g2) (hE 2 (by kernel_rfl)) (B2.out.touch hS notin_nil) P10.out (fun _ h => h)) ?_
    refine FStepsX.cons rfl (FStepW.go 84 rfl rfl (fun _ _ h => h) fun a w hS hE => OpTo.call #[a.tmps.getD 85 undef] rfl Try.func23 (by kernel_rfl) (by kernel_rfl) (args1 ..) ((small_b (hE 85 (by kernel_rfl)) fx86 w).mono fun _ _ h => Gives.toW 86 rfl (fun _ _ h => h) h)) ?_
    refine FStepsX.cons rfl (FStepW.plain rfl fun a w hS hE => OpTo.pick true rfl (hE 84 (by kernel_rfl)) ⟨dOfW.of 87 rfl (hE 86 (by kernel_rfl)), Touch.refl _ _⟩) ?_
    refine FStepsX.cons rfl (FStepW.plain rfl fun a w hS hE => OpTo.move rfl ⟨dOfW.of 88 rfl (hE 87 (by kernel_rfl)), Touch.refl _ _⟩) ?_
    refine FStepsX.cons rfl (FStepW.go 88 rfl rfl (fun _ _ h => h) fun a w hS hE => OpTo.rdP 89 (.tmp 1) rfl rfl (g1) (hE 1 (by kernel_rfl)) (B1.out.touch hS notin_nil) P9.out (fun _ h => h)) ?_
    refine FStepsX.cons rfl (FStepW.go 88 rfl rfl (fun _ _ h => h) fun a w hS hE => OpTo.call #[a.tmps.getD 89 undef] rfl Try.func23 (by kernel_rfl) (by kernel_rfl) (args1 ..) ((small_b (hE 89 (by kernel_rfl)) fx90 w).mono fun _ _ h => Gives.toW 90 rfl (fun _ _ h => h) h)) ?_
    refine FStepsX.cons rfl (FStepW.go 88 rfl rfl (fun _ _ h => h) fun a w hS hE => OpTo.not false rfl (hE 90 (by kernel_rfl)) ⟨dOfW.of 91 rfl (Eq.refl (Value.bool true)), Touch.refl _ _⟩) ?_
    refine FStepsX.cons rfl (FStepW.plain rfl fun a w hS hE => OpTo.pick true rfl (hE 88 (by kernel_rfl)) ⟨dOfW.of 92 rfl (hE 91 (by kernel_rfl)), Touch.refl _ _⟩) ?_
    refine FStepsX.cons rfl (FStepW.plain rfl fun a w hS hE => OpTo.move rfl ⟨dOfW.of 93 rfl (hE 92 (by kernel_rfl)), Touch.refl _ _⟩) ?_
    refine FStepsX.cons rfl (FStepW.go 93 rfl rfl (fun _ _ h => h) fun a w hS hE => OpTo.rdP 94 (.tmp 2) rfl rfl (g2) (hE 2 (by kernel_rfl)) (B2.out.touch hS notin_nil) P10.out (fun _ h => h)) ?_
    refine FStepsX.cons rfl (FStepW.go 93 rfl rfl (fun _ _ h => h) fun a w hS hE => OpTo.call #[a.tmps.getD 94 undef] rfl Try.func11 (by kernel_rfl) (by kernel_rfl) (args1 ..) ((penc_v (hE 94 (by kernel_rfl)) w).mono fun _ _ h => Gives.toW 95 rfl (fun _ _ h => h) h)) ?_
    refine FStepsX.cons rfl (FStepW.go 93 rfl rfl (fun _ _ h => h) fun a w hS hE => OpTo.lenS Try.underlying9 (encS (pzero)) rfl (hE 95 (by kernel_rfl)) ⟨dOfW.of 96 rfl rfl, Touch.refl _ _⟩) ?_
    refine FStepsX.cons rfl (FStepW.go 93 rfl rfl (fun _ _ h => h) fun a w hS hE => OpTo.eqI .i64 (((encS (pzero)).size : Int)) (32) rfl (hE 96 (by kernel_rfl)) rfl ⟨dOfW.of 97 rfl (by rw [fx_len pzero]; rfl), Touch.refl _ _⟩) ?_
    refine FStepsX.cons rfl (FStepW.plain rfl fun a w hS hE => OpTo.pick true rfl (hE 93 (by kernel_rfl)) ⟨dOfW.of 98 rfl (hE 97 (by kernel_rfl)), Touch.refl _ _⟩) ?_
    refine FStepsX.cons rfl (FStepW.plain rfl fun a w hS hE => OpTo.move rfl ⟨dOfW.of 99 rfl (hE 98 (by kernel_rfl)), Touch.refl _ _⟩) ?_
    refine FStepsX.cons rfl (FStepW.go 99 rfl rfl (fun _ _ h => h) fun a w hS hE => OpTo.rdP 100 (.tmp 2) rfl rfl (g2) (hE 2 (by kernel_rfl)) (B2.out.touch hS notin_nil) P10.out (fun _ h => h)) ?_
    refine FStepsX.cons rfl (FStepW.go 99 rfl rfl (fun _ _ h => h) fun a w hS hE => OpTo.call #[a.tmps.getD 100 undef] rfl Try.func11 (by kernel_rfl) (by kernel_rfl) (args1 ..) ((penc_v (hE 100 (by kernel_rfl)) w).mono fun _ _ h => Gives.toW 101 rfl (fun _ _ h => h) h)) ?_
    refine FStepsX.cons rfl (FStepW.go 99 rfl rfl (fun _ _ h => h) fun a w hS hE => OpTo.indexS Try.underlying9 (encS (pzero)) (0) rfl (hE 101 (by kernel_rfl)) rfl (fx_lt pzero 0 (by decide)) ⟨dOfW.of 102 rfl (by rw [fx102]; rfl), Touch.refl _ _⟩) ?_
    refine FStepsX.cons rfl (FStepW.go 99 rfl rfl (fun _ _ h => h) fun a w hS hE => OpTo.eqI .u8 (((1 : Nat) : Int)) (1) rfl (hE 102 (by kernel_rfl)) rfl ⟨dOfW.of 103 rfl (by rw [(decide_eq_true rfl : decide (((1 : Nat) : Int) = 1) = true)]; rfl), Touch.refl _ _⟩) ?_
    refine FStepsX.cons rfl (FStepW.plain rfl fun a w hS hE => OpTo.pick true rfl (hE 99 (by kernel_rfl)) ⟨dOfW.of 104 rfl (hE 103 (by kernel_rfl)), Touch.refl _ _⟩) ?_
    refine FStepsX.cons rfl (FStepW.plain rfl fun a w hS hE => OpTo.move rfl ⟨dOfW.of 105 rfl (hE 104 (by kernel_rfl)), Touch.refl _ _⟩) ?_
    refine FStepsX.cons rfl (FStepW.go 105 rfl rfl (fun _ _ h => h) fun a w hS hE => OpTo.rdP 106 (.tmp 2) rfl rfl (g2) (hE 2 (by kernel_rfl)) (B2.out.touch hS notin_nil) P10.out (fun _ h => h)) ?_
    refine FStepsX.cons rfl (FStepW.go 105 rfl rfl (fun _ _ h => h) fun a w hS hE => OpTo.call #[a.tmps.getD 106 undef] rfl Try.func11 (by kernel_rfl) (by kernel_rfl) (args1 ..) ((penc_v (hE 106 (by kernel_rfl)) w).mono fun _ _ h => Gives.toW 107 rfl (fun _ _ h => h) h)) ?_
    refine FStepsX.cons rfl (FStepW.go 105 rfl rfl (fun _ _ h => h) fun a w hS hE => OpTo.indexS Try.underlying9 (encS (pzero)) (31) rfl (hE 107 (by kernel_rfl)) rfl (fx_lt pzero 31 (by decide)) ⟨dOfW.of 108 rfl (by rw [fx108]; rfl), Touch.refl _ _⟩) ?_
    refine FStepsX.cons rfl (FStepW.go 105 rfl rfl (fun _ _ h => h) fun a w hS hE => OpTo.eqI .u8 (((0 : Nat) : Int)) (0) rfl (hE 108 (by kernel_rfl)) rfl ⟨dOfW.of 109 rfl (by rw [(decide_eq_true rfl : decide (((0 : Nat) : Int) = 0) = true)]; rfl), Touch.refl _ _⟩) ?_
    refine FStepsX.cons rfl (FStepW.plain rfl fun a w hS hE => OpTo.pick true rfl (hE 105 (by kernel_rfl)) ⟨dOfW.of 110 rfl (hE 109 (by kernel_rfl)), Touch.refl _ _⟩) ?_
    refine FStepsX.cons rfl (FStepW.plain rfl fun a w hS hE => OpTo.move rfl ⟨dOfW.of 111 rfl (hE 110 (by kernel_rfl)), Touch.refl _ _⟩) ?_
    refine FStepsX.cons rfl (FStepW.go 111 rfl rfl (fun _ _ h => h) fun a w hS hE => OpTo.call #[] rfl Try.func44 (by kernel_rfl) (by kernel_rfl) (args0 ..) ((rd_v w).mono fun _ _ h => Gives.toW 112 rfl (fun _ _ h => h) h)) ?_
    refine FStepsX.cons rfl (FStepW.go 111 rfl rfl (fun _ _ h => h) fun a w hS hE => OpTo.call #[.int .u64 121666] rfl Try.func41 (by kernel_rfl) (by kernel_rfl) (args1 ..) ((rnum_v 121666 (by decide) w).mono fun _ _ h => Gives.toW 113 rfl (fun _ _ h => h) h)) ?_
    refine FStepsX.cons rfl (FStepW.go 111 rfl rfl (fun _ _ h => h) fun a w hS hE => OpTo.call #[a.tmps.getD 112 undef, a.tmps.getD 113 undef] rfl Try.func38 (by kernel_rfl) (by kernel_rfl) (args2 ..) ((rmul_v (hE 112 (by kernel_rfl)) (hE 113 (by kernel_rfl)) DN_lt (by decide) w).mono fun _ _ h => Gives.toW 114 rfl (fun _ _ h => h) h)) ?_
    refine FStepsX.cons rfl (FStepW.go 111 rfl rfl (fun _ _ h => h) fun a w hS hE => OpTo.call #[.int .u64 121665] rfl Try.func41 (by kernel_rfl) (by kernel_rfl) (args1 ..) ((rnum_v 121665 (by decide) w).mono fun _ _ h => Gives.toW 115 rfl (fun _ _ h => h) h)) ?_
    refine FStepsX.cons rfl (FStepW.go 111 rfl rfl (fun _ _ h => h) fun a w hS hE => OpTo.call #[a.tmps.getD 115 undef] rfl Try.func45 (by kernel_rfl) (by kernel_rfl) (args1 ..) ((rneg_v (hE 115 (by kernel_rfl)) (by decide) w).mono fun _ _ h => Gives.toW 116 rfl (fun _ _ h => h) h)) ?_
    refine FStepsX.cons rfl (FStepW.go 111 rfl rfl (fun _ _ h => h) fun a w hS hE => OpTo.eqS (toS (mulF (DN) (121666))) (toS (negF (121665))) rfl (hE 114 (by kernel_rfl)) (hE 116 (by kernel_rfl)) ⟨dOfW.of 117 rfl (by rw [fx117]; rfl), Touch.refl _ _⟩) ?_
    refine FStepsX.cons rfl (FStepW.plain rfl fun a w hS hE => OpTo.pick true rfl (hE 111 (by kernel_rfl)) ⟨dOfW.of 118 rfl (hE 117 (by kernel_rfl)), Touch.refl _ _⟩) ?_
    refine FStepsX.cons rfl (FStepW.plain rfl fun a w hS hE => OpTo.assign rfl ⟨dOfW.of 0 rfl (hE 118 (by kernel_rfl)), Touch.refl _ _⟩) ?_
    exact FStepsX.nil
  intro f w11 hS hF hA
  obtain ⟨h0, -⟩ := hF
  have e0 : f 0 = .bool true := h0
  clear h0
  clear hA
  replace B1 := Lib.hid (B1.out.touch hS notin_nil)
  replace B2 := Lib.hid (B2.out.touch hS notin_nil)
  replace B4 := Lib.hid (B4.out.touch hS notin_nil)
  replace B6 := Lib.hid (B6.out.touch hS notin_nil)
  replace B8 := Lib.hid (B8.out.touch hS notin_nil)
  replace HT := Lib.hid (HT.out.trans hS)
  clear hS
  simp only [setAll, List.setIfInBounds_toArray, List.set_cons_zero, List.set_cons_succ, e0]
  show wpList _ _ _ [] _ _
  refine wpList_nil ?_
  clear e0
  go_wp2_with fail
  go_ret
  exact ⟨_, rfl, rfl, HT.out⟩
end Go.Proofs.Ytbgpgbfiadhddaa
/- What the laws' walks share. -/
namespace Go.Proofs.Ytbgpgbfiadhddaa
open Go Go.RowKit
theorem samePt_of {P Q : Pt} (h : P = Q) : samePt P Q = true := samePt_iff.2 h
theorem str_of {a b : ByteArray} (h : a = b) : (a.toList == b.toList) = true := by rw [h]; exact beq_self_eq_true _
theorem OpTo.neS {P : Program} {o : Oper} {a : Act} {w : World} {R : Value → World → Prop} {x y : Operand} {t1 t2 : TypeId} (s u : ByteArray) (ho : o.op = .binOp .neq t1 x y t2) (hx : a.eval x = .string s) (hy : a.eval y = .string u) (hR : R (.bool (!(s.toList == u.toList))) w) : OpTo P o a w R :=
  OpTo.val (v := .bool (!(s.toList == u.toList))) (by unfold execOp; simp only [ho, hx, hy]; go_simp) hR
theorem rpmul8_v {P : Pt} {x y : Value} (hx : RfV P x) (hy : isS ⟨#[8]⟩ y) (w : World) : Calls Try.prog 22 #[x, y] w (Gives w (RfV (pmul 8 P))) := lowN_8 ▸ rpmul_v hx hy (by decide) w
end Go.Proofs.Ytbgpgbfiadhddaa
