/- The document's table: Due. -/
import Derived.Test.YtehbfoiadinhbaaRfOps
import Derived.Test.YtehbfoiadinhbaaRfDueI
namespace Go.Proofs.Ytehbfoiadinhbaa
open Go Go.RowKit
/-- The third object and one behind change places. -/
theorem Sep.exch {w w0 : World} {B : Nat} {rs : List Res} {a b x r : Res} (h : Sep w0 B w (a :: b :: x :: rs)) (j : Nat) (hj : rs[j]? = some r) : Sep w0 B w (a :: b :: r :: rs.set j x) :=
  h.sel (fun k => if k = 2 then j + 3 else if k = j + 3 then 2 else k) (fun k s hs => by
    have hjl := (List.getElem?_eq_some_iff.1 hj).1
    match k, hs with
    | 0, hs => simpa using hs
    | 1, hs => simpa using hs
    | 2, hs =>
      simp only [if_true]
      simp only [List.getElem?_cons_succ, List.getElem?_cons_zero] at hs ⊢
      rw [← hs]
      exact hj
    | k + 3, hs =>
      simp only [List.getElem?_cons_succ] at hs
      by_cases hk : k = j
      · subst hk
        rw [List.getElem?_set_self hjl] at hs
        simpa using hs
      · rw [List.getElem?_set_ne (Ne.symm hk)] at hs
        have h1 : ¬ (k + 3 = 2) := by omega
        have h2 : ¬ (k + 3 = j + 3) := by omega
        simp only [h1, h2, if_false, List.getElem?_cons_succ]
        exact hs) (fun k l _ _ hne => by
    by_cases h1 : k = 2 <;> by_cases h2 : l = 2 <;> by_cases h3 : k = j + 3 <;> by_cases h4 : l = j + 3 <;> simp only [h1, h2, h3, h4, if_true, if_false] <;> first | omega | (split <;> omega) | (split <;> split <;> omega))
def RfOut (d : DS) (w0 : World) (B : Nat) (rs : List Res) (i j q : Nat) (c : Cf) (e : Ending) (w' : World) : Prop :=
  ∃ A1 c1 A2 c2 A' cap', e = .returned (.tuple #[.slice A1 d.ag.length c1, .slice A2 d.lo.length c2]) ∧ Sep w0 B w' (iRes (.slice A1 d.ag.length c1) d.ag :: iRes (.slice A2 d.lo.length c2) d.lo :: setRf rs i j q c A' cap' d.S d.T)
set_option maxRecDepth 100000 in
set_option maxHeartbeats 4000000 in
theorem rfDue_sep {w w0 : World} {B : Nat} {rs : List Res} {i j q : Nat} {c : Cf} {A : Option Addr} {cap : Nat} {S : List Al} {T : Int → Int} (hsep : Sep w0 B w rs) (hrf : RfAt rs i j q c A cap S T) (hc : CfT c)
    (htries : c.tries ≤ 1000) (hok : SOk S) (hlen : S.length ≤ 10000) (hT : ∀ a, 0 ≤ T a ∧ T a ≤ 1000) (now draw : Int) (hnow : 0 ≤ now ∧ now < 18446744073709551616) (hdraw : 0 ≤ draw ∧ draw < 18446744073709551616) :
    Calls Try.prog 23 #[.pointer (some ⟨q, 0, none⟩), .int .u64 now, .int .u64 draw] w (RfOut (dueAll c now draw S T) w0 B rs i j q c) := by
  obtain ⟨i0, hi0, hz0, hz1, hz2⟩ := info_parts infoRq
  obtain ⟨j0, hj0, hy0, hy1, hy2⟩ := info_parts infoInt
  have Hr := Lib.hid hrf
  have Hs := Lib.hid hsep
  have HT := Lib.hid (rf_blk hsep hrf.b)
  have Hc := Lib.hid hc
  have Htr := Lib.hid htries
  have Hok := Lib.hid hok
  have HTr := Lib.hid hT
  have Hnow := Lib.hid hnow
  have Hdraw := Lib.hid hdraw
  clear hsep hrf hc htries hok hT hnow hdraw
  go_enter Try.func23, Try.ntmps23
  go_upto_region 1 with fail
  refine wp_region_flowT (by kernel_rfl) 11 (lookW [(0, pu (isV (.pointer (some ⟨q, 0, none⟩)))), (15, noSl), (16, noSl), (17, pu (isV (.pointer (some ⟨q, 0, none⟩)))), (18, pu (isV (.pointer (some ⟨q, 0, none⟩)))), (19, pu (isV (.pointer (some ⟨q, 5, none⟩)))), (20, pu (isV (.slice A S.length cap))), (21, noSl), (8, noSl), (9, noSl), (10, pu (isV (.slice A S.length cap))), (11, noSl)]) [0] [15, 16, 17, 18, 19, 20, 21, 8, 9, 10, 11] [15, 16, 20, 21, 8, 9, 10, 11] (by kernel_rfl) (by kernel_rfl) (by kernel_rfl) (by kernel_rfl) ⟨rfl, trivial⟩ ?_ ?_
  · refine FStepsW.cons (FStepW.plain rfl fun a w hS hE => OpTo.nilI rfl (fun v w' h => dOfW.of 15 rfl h)) ?_
    refine FStepsW.cons (FStepW.plain rfl fun a w hS hE => OpTo.nilI rfl (fun v w' h => dOfW.of 16 rfl h)) ?_
    refine FStepsW.cons (FStepW.plain rfl fun a w hS hE => OpTo.move rfl ⟨dOfW.of 17 rfl (hE 0 (by kernel_rfl)), Touch.refl _ _⟩) ?_
    refine FStepsW.cons (FStepW.plain rfl fun a w hS hE => OpTo.nilc ⟨q, 0, none⟩ rfl (hE 17 (by kernel_rfl)) ⟨dOfW.of 18 rfl rfl, Touch.refl _ _⟩) ?_
    refine FStepsW.cons (FStepW.plain rfl fun a w hS hE => OpTo.fadT _ q 1 0 5 rfl (hE 18 (by kernel_rfl)) (rfield1 q) ⟨dOfW.of 19 rfl rfl, Touch.refl _ _⟩) ?_
    refine FStepsW.cons (FStepW.plain rfl fun a w hS hE => OpTo.ldL q 5 _ rfl (hE 19 (by kernel_rfl)) (((HT.out.touch hS (by simp)).cell 5).trans rfl) ⟨dOfW.of 20 rfl rfl, Touch.refl _ _⟩) ?_
    refine FStepsW.cons (FStepW.plain rfl fun a w hS hE => OpTo.nilQ rfl (fun v w' h => dOfW.of 21 rfl h)) ?_
    refine FStepsW.cons (FStepW.plain rfl fun a w hS hE => OpTo.assign rfl ⟨dOfW.of 8 rfl (hE 15 (by kernel_rfl)), Touch.refl _ _⟩) ?_
    refine FStepsW.cons (FStepW.plain rfl fun a w hS hE => OpTo.assign rfl ⟨dOfW.of 9 rfl (hE 16 (by kernel_rfl)), Touch.refl _ _⟩) ?_
    refine FStepsW.cons (FStepW.plain rfl fun a w hS hE => OpTo.assign rfl ⟨dOfW.of 10 rfl (hE 20 (by kernel_rfl)), Touch.refl _ _⟩) ?_
    refine FStepsW.cons (FStepW.plain rfl fun a w hS hE => OpTo.assign rfl ⟨dOfW.of 11 rfl (hE 21 (by kernel_rfl)), Touch.refl _ _⟩) ?_
    exact FStepsW.nil
  intro f wx hS hF
  obtain ⟨-, -, -, -, h15, h16, h20, h21, -⟩ := hF
  obtain ⟨A8, h15⟩ : ∃ A, f 8 = .slice A 0 0 := h15
  obtain ⟨A9, h16⟩ : ∃ A, f 9 = .slice A 0 0 := h16
  replace h20 : f 10 = .slice A S.length cap := h20
  obtain ⟨A11, h21⟩ : ∃ A, f 11 = .slice A 0 0 := h21
  simp only [setAll, List.setIfInBounds_toArray, List.set_cons_zero, List.set_cons_succ, h15, h16, h20, h21]
  show wpList _ _ _ [] _ _
  have Hs1 : Hid (Sep w0 B wx (iRes (.slice A8 0 0) [] :: iRes (.slice A9 0 0) [] :: slRes 75 3 (.slice A11 0 0) 0 [] :: rs)) := Lib.hid ((((Hs.out.touch hS).bare 75 3 A11).bare 3 1 A9).bare 3 1 A8)
  clear h15 h16 h20 h21 hS Hs HT
  go_wp2_with fail
  go_loopw [11, 12] (fun vr vi wr => ∃ (k : Nat) (A' : Option Addr) (c' : Nat), k ≤ S.length ∧ vi = .int .i64 k ∧ vr = .slice A' (leftS (S.take k) now).length c' ∧
    Sep w0 B wr (iRes (.slice A8 0 0) [] :: iRes (.slice A9 0 0) [] :: slRes 75 3 (.slice A' (leftS (S.take k) now).length c') (leftS (S.take k) now).length (cellsQ (leftS (S.take k) now) T) :: rs)) (fun _ vi _ => S.length - (intOf vi).toNat)
  case atStart => exact ⟨0, _, 0, by omega, rfl, rfl, Hs1.out⟩
  case round =>
    obtain ⟨k, A', c', hk, rfl, rfl, hs⟩ := hrel
    have hrl := leftS_len (S.take k) now
    have hrn : (leftS (S.take k) now).length ≤ 10000 := by rw [List.length_take] at hrl; omega
    have Hs := Lib.hid hs
    clear Hs1 hs hrl
    by_cases hkl : k < S.length
    · obtain ⟨g, off, rfl, hnc, c3, c4, c5⟩ := Hs.out.req (j + 3) Hr.out.r hkl
      have Hl := Lib.hid (leftS_take hkl now)
      obtain ⟨x, hx⟩ : ∃ x, x = atA S k := ⟨_, rfl⟩
      rw [← hx] at c3 c4 c5 Hl
      obtain ⟨R, hR⟩ : ∃ R, R = leftS (S.take k) now := ⟨_, rfl⟩
      rw [← hR] at Hs Hl hrn ⊢
      obtain ⟨x1, x2⟩ := x
      simp only at c3 c4 c5 Hl
      obtain ⟨tx, htx⟩ : ∃ tx, tx = T x2 := ⟨_, rfl⟩
      have Htx := Lib.hid htx
      rw [← htx] at c4
      clear hx hR htx
      by_cases hle : now < x1
      · have Hl2 : Hid (leftS (S.take (k + 1)) now = R ++ [(x1, x2)]) := Lib.hid (by rw [Hl.out, if_pos (by simpa using hle)])
        clear Hl
        go_wp2_with (at_builtin; refine wpList_append_sep _ rfl (.tmp 35) (.tmp 40) 59 59 rfl 75 i0 _ 3 24 Try.underlying59 hi0 hz0 hz1 hz2 rfl (Hs.out.alloc _) 2 (.slice A' R.length c') R.length (cellsQ R T) rfl rfl _ 1 _ rfl (Src.rq Try.underlying59 wr _ x2 tx x1) (by unfold maxLen; omega) (by omega) ?_)
        intro A2 c2 w3 hs3
        have Hs3 := Lib.hid hs3
        clear hs3 Hs c3 c4 c5
        go_wp2_with fail
        go_roundw
        case rel =>
          have hl : (R ++ [(x1, x2)]).length = R.length + 1 := by simp
          exact ⟨k + 1, A2, c2, by omega, by go_num, by rw [Hl2.out, hl], by rw [Hl2.out, hl, cellsQ_snoc, ← Htx.out]; exact Hs3.out⟩
        case measure => simp [intOf]; omega
      · have Hl2 : Hid (leftS (S.take (k + 1)) now = R) := Lib.hid (by rw [Hl.out, if_neg (by simpa using hle)])
        clear Hl
        go_wp2_with fail
        go_roundw
        case rel => exact ⟨k + 1, A', c', by omega, by go_num, by rw [Hl2.out], by rw [Hl2.out]; exact Hs.out⟩
        case measure => simp [intOf]; omega
    · obtain rfl : k = S.length := by omega
      rw [List.take_length] at *
      have hf0 : wr.frozen? ⟨q, 5, none⟩ = false := (rf_blk Hs.out (i := i + 3) Hr.out.b).frozen 5
      have HF := Lib.hid (((Hs.out.setAt (i + 3) (g := q) (t := 61) (cs := rqC c (.slice A S.length cap)) Hr.out.b 5 (.slice A' (leftS S now).length c'))))
      have HF2 : Hid (Sep w0 B (wr.setCell ⟨q, 5, none⟩ (.slice A' (leftS S now).length c')) (iRes (.slice A8 0 0) [] :: iRes (.slice A9 0 0) [] :: rowQ (.slice A S.length cap) S T :: setRf rs i j q c A' c' (leftS S now) T)) := Lib.hid (by
        have h := HF.out
        exact Sep.exch (rs := rs.set i (rqRes q c (.slice A' (leftS S now).length c'))) (x := rowQ (.slice A' (leftS S now).length c') (leftS S now) T) h j (by rw [List.getElem?_set_ne Hr.out.ne]; exact Hr.out.r))
      have hc5 : wr.cell? ⟨q, 5, none⟩ = some (.slice A S.length cap) := rf_cell Hs.out (i := i + 3) Hr.out.b
      have Hr2 : Hid (∀ (A' : Option Addr) (c' : Nat) (S' : List Al) (T' : Int → Int), RfAt (setRf rs i j q c A' c' S' T') i j q c A' c' S' T') := Lib.hid (fun _ _ _ _ => Hr.out.next)
      have Hr3 : Hid (∀ (A' A'' : Option Addr) (c' c'' : Nat) (S' S'' : List Al) (T' T'' : Int → Int), setRf (setRf rs i j q c A' c' S' T') i j q c A'' c'' S'' T'' = setRf rs i j q c A'' c'' S'' T'') := Lib.hid (fun _ _ _ _ _ _ _ _ => by
        unfold setRf
        rw [List.set_comm _ _ Hr.out.ne, List.set_set, List.set_comm _ _ (Ne.symm Hr.out.ne), List.set_set])
      clear HF Hs Hr
      go_wp2_with fail
      clear hc5 hf0
      generalize wr.setCell ⟨q, 5, none⟩ (.slice A' (leftS S now).length c') = w2 at *
      clear hrn
      go_loopw [8, 9, 13] (fun v8 v9 v13 wr => ∃ (k : Nat) (d : DS) (A1 : Option Addr) (c1 : Nat) (A2 : Option Addr) (c2 : Nat) (A3 : Option Addr) (c3 : Nat), k ≤ S.length ∧ v13 = .int .i64 k ∧ v8 = .slice A1 d.ag.length c1 ∧ v9 = .slice A2 d.lo.length c2 ∧ RdI c now draw S T k d ∧
        Sep w0 B wr (iRes (.slice A1 d.ag.length c1) d.ag :: iRes (.slice A2 d.lo.length c2) d.lo :: rowQ (.slice A S.length cap) S T :: setRf rs i j q c A3 c3 d.S d.T)) (fun _ _ v13 _ => S.length - (intOf v13).toNat)
      case atStart => exact ⟨0, _, A8, 0, A9, 0, A', c', by omega, rfl, rfl, rfl, RdI.start HTr.out, HF2.out⟩
      case round =>
        obtain ⟨k, d, A1, c1, A2, c2, A3, c3, hk, rfl, rfl, rfl, hI, hs⟩ := hrel
        have HI := Lib.hid hI
        have Hs := Lib.hid hs
        have hagn : d.ag.length ≤ 10000 := by have := hI.ln; omega
        have hlon : d.lo.length ≤ 10000 := by have := hI.ln; omega
        clear HF2 hI hs
        by_cases hkl : k < S.length
        · obtain ⟨g, off, rfl, hnc, e3, e4, e5⟩ := Hs.out.req 2 rfl hkl
          have Hkeep := Lib.hid (HI.out.keep hkl)
          have Hnew := Lib.hid (HI.out.new Hok.out hkl)
          have Hlost := Lib.hid (HI.out.lost hkl)
          have Hagain := Lib.hid (fun h h' => HI.out.again Hok.out hkl h h' Htr.out)
          have Hdl := Lib.hid HI.out.len
          obtain ⟨x, hx⟩ : ∃ x, x = atA S k := ⟨_, rfl⟩
          rw [← hx] at e3 e4 e5 Hkeep Hnew Hlost Hagain
          obtain ⟨x1, x2⟩ := x
          simp only at e3 e4 e5 Hkeep Hnew Hlost Hagain
          have Htx : Hid (0 ≤ T x2 ∧ T x2 ≤ 1000) := Lib.hid (HTr.out x2)
          obtain ⟨tx, htx⟩ : ∃ tx, tx = T x2 := ⟨_, rfl⟩
          rw [← htx] at e4 Hlost Hagain Htx
          clear hx htx HI
          go_upto_region 12 with fail
          have hs3 := Hs.out.add (w' := wr.alloc (.cells #[.int .i64 x2, .int .i64 tx, .int .u64 x1] 75)) (r := blkRes wr.heap.size 75 #[.int .i64 x2, .int .i64 tx, .int .u64 x1]) (F := [wr.heap.size]) ⟨rfl, Blk.new _ _ _⟩ ((Touch.refl _ _).alloc _) (by simp)
          obtain ⟨gx, hgx⟩ : ∃ gx, gx = wr.heap.size := ⟨_, rfl⟩
          obtain ⟨w3, hw3⟩ : ∃ w3, w3 = wr.alloc (.cells #[.int .i64 x2, .int .i64 tx, .int .u64 x1] 75) := ⟨_, rfl⟩
          rw [← hgx, ← hw3] at hs3 ⊢
          have d0 : w3.cell? ⟨gx, 0, none⟩ = some (.int .i64 x2) := (hs3.blkAt 0 rfl).cell 0
          have d1 : w3.cell? ⟨gx, 1, none⟩ = some (.int .i64 tx) := (hs3.blkAt 0 rfl).cell 1
          have d2 : w3.cell? ⟨gx, 2, none⟩ = some (.int .u64 x1) := (hs3.blkAt 0 rfl).cell 2
          have a3 : w3.cell? ⟨q, 3, none⟩ = some (.int .i64 c.tries) := (rf_blk hs3 (i := i + 4) (Hr2.out A3 c3 d.S d.T).b).cell 3
          have Hs3 := Lib.hid hs3
          clear hs3 hgx hw3 e3 e4 e5 Hs
          by_cases hle : now < x1
          · have HI2 := Lib.hid (Hkeep.out hle)
            clear Hkeep Hnew Hlost Hagain
            go_wp2_with fail
            go_roundw
            case rel => exact ⟨k + 1, d, A1, c1, A2, c2, A3, c3, by omega, by go_num, rfl, rfl, HI2.out, Hs3.out.forget⟩
            case measure => simp [intOf]; omega
          · have hle' : decide (now < x1) = false := decide_eq_false hle
            by_cases hts : c.tries ≤ tx
            · have hdc : decide (c.tries ≤ tx) = true := decide_eq_true hts
              have HI2 := Lib.hid (Hlost.out (by omega) hts)
              clear Hkeep Hnew Hlost Hagain hle hts
              go_wp2_with fail
              go_quiet (fail)
              have hs4 := Hs3.out.drewN nq
              clear Hs3 d1 d2 a3
              have d0' : (w3.drewN nq).cell? ⟨gx, 0, none⟩ = some (.int .i64 x2) := (hs4.blkAt 0 rfl).cell 0
              clear d0
              generalize w3.drewN nq = w4 at *
              have Hs4 := Lib.hid hs4
              clear hs4
              go_wp2_with (at_builtin; refine wpList_append_sep _ rfl (.tmp 68) (.tmp 71) 34 34 rfl 3 j0 _ 1 8 Try.underlying34 hj0 hy0 hy1 hy2 rfl (Hs4.out.alloc _) 2 (.slice A2 d.lo.length c2) d.lo.length (cellsI d.lo) rfl rfl _ 1 [.int .i64 x2] rfl (Src.one Try.underlying34 w4 _ _ rfl) (by unfold maxLen; omega) (by omega) ?_)
              intro A8 c8 w5 hs5
              have hs6 : Sep w0 B w5 (iRes (.slice A1 d.ag.length c1) d.ag :: iRes (.slice A8 (d.lo.length + 1) c8) (d.lo ++ [x2]) :: rowQ (.slice (some ⟨g, off, none⟩) S.length cap) S T :: setRf rs i j q c A3 c3 d.S d.T) := by
                have h := hs5.forget
                unfold iRes at *
                rw [List.length_append]
                simp only [cellsI, List.map_append, List.map_cons, List.map_nil] at *
                exact h
              have Hs6 := Lib.hid hs6
              clear hs5 hs6 Hs4 d0'
              go_wp2_with fail
              go_roundw
              case rel =>
                have hl : (d.lo ++ [x2]).length = d.lo.length + 1 := by simp
                exact ⟨k + 1, ⟨d.S, d.T, d.ag, d.lo ++ [x2]⟩, A1, c1, A8, c8, A3, c3, by omega, by go_num, rfl, by rw [hl], HI2.out, by rw [hl]; exact Hs6.out⟩
              case measure => simp [intOf]; omega
            · have hdc : decide (c.tries ≤ tx) = false := decide_eq_false hts
              have HI2 := Lib.hid (Hagain.out (by omega) hts)
              have HN2 := Lib.hid (Hnew.out (by omega))
              clear Hkeep Hnew Hlost Hagain hle hts
              go_wp2_with fail
              go_quiet (fail)
              have hs4 := Hs3.out.drewN nq
              clear Hs3 d1 d2 a3
              have d0' : (w3.drewN nq).cell? ⟨gx, 0, none⟩ = some (.int .i64 x2) := (hs4.blkAt 0 rfl).cell 0
              clear d0
              generalize w3.drewN nq = w4 at *
              have Hs4 := Lib.hid hs4
              clear hs4
              go_wp2_with (at_builtin; refine wpList_append_sep _ rfl (.tmp 73) (.tmp 76) 34 34 rfl 3 j0 _ 1 8 Try.underlying34 hj0 hy0 hy1 hy2 rfl (Hs4.out.alloc _) 1 (.slice A1 d.ag.length c1) d.ag.length (cellsI d.ag) rfl rfl _ 1 [.int .i64 x2] rfl (Src.one Try.underlying34 w4 _ _ rfl) (by unfold maxLen; omega) (by omega) ?_)
              intro A8 c8 w5 hs5
              have hs6 : Sep w0 B w5 (blkRes gx 75 #[.int .i64 x2, .int .i64 tx, .int .u64 x1] :: iRes (.slice A8 (d.ag.length + 1) c8) (d.ag ++ [x2]) :: iRes (.slice A2 d.lo.length c2) d.lo :: rowQ (.slice (some ⟨g, off, none⟩) S.length cap) S T :: setRf rs i j q c A3 c3 d.S d.T) := by
                have h := hs5
                unfold iRes at *
                rw [List.length_append]
                simp only [cellsI, List.map_append, List.map_cons, List.map_nil] at *
                exact h
              have HX := Lib.hid (hs6.blkAt 0 rfl)
              have HB := Lib.hid (rf_blk hs6 (i := i + 4) (Hr2.out A3 c3 d.S d.T).b)
              have HW := Lib.hid (fun W => rfWait_any c Hc.out tx draw (by have := Htx.out; omega) Hdraw.out W)
              have HA := Lib.hid (fun W => rfAdd_t Hnow.out (waitV_rng Hc.out (k := tx) Hdraw.out.1 Hdraw.out.2) W)
              have Hw1 := Lib.hid (IntWalk.i64_in (tx + 1) (by have := Htx.out; omega))
              have Hs6 := Lib.hid hs6
              clear hs5 hs6 Hs4 d0'
              go_upto_region 16 with fail
              refine wp_region_flowT (by kernel_rfl) 17 (lookW [(0, pu (isV (.pointer (some ⟨q, 0, none⟩)))), (1, pu (isV (.int .u64 now))), (2, pu (isV (.int .u64 draw))), (14, pu (isV (.pointer (some ⟨gx, 0, none⟩)))), (78, pu (isV (.pointer (some ⟨q, 0, none⟩)))), (79, pu (isV (.pointer (some ⟨gx, 0, none⟩)))), (80, pu (isV (.int .i64 x2))), (81, pu (isV (.pointer (some ⟨gx, 1, none⟩)))), (82, pu (isV (.int .i64 tx))), (83, pu (isV (.int .i64 (tx + 1)))), (84, pu (isV (.int .u64 now))), (85, pu (isV (.pointer (some ⟨q, 0, none⟩)))), (86, pu (isV (.pointer (some ⟨q, 0, none⟩)))), (87, pu (isV (.pointer (some ⟨q, 0, none⟩)))), (88, pu (isV (cfV c))), (89, pu (isV (.pointer (some ⟨gx, 1, none⟩)))), (90, pu (isV (.int .i64 tx))), (91, pu (isV (.int .u64 draw))), (92, pu (isV (.int .u64 (waitV c tx draw)))), (93, pu (isV (.int .u64 (addS now (waitV c tx draw))))), (94, pu (isV (.agg #[.int .i64 x2, .int .i64 (tx + 1), .int .u64 (addS now (waitV c tx draw))])))]) [0, 1, 2, 14] [78, 79, 80, 81, 82, 83, 84, 85, 86, 87, 88, 89, 90, 91, 92, 93, 94] [78, 94] (by kernel_rfl) (by kernel_rfl) (by kernel_rfl) (by kernel_rfl) ⟨rfl, rfl, rfl, rfl, trivial⟩ ?_ ?_
              · refine FStepsW.cons (FStepW.plain rfl fun a w hS hE => OpTo.move rfl ⟨dOfW.of 78 rfl (hE 0 (by kernel_rfl)), Touch.refl _ _⟩) ?_
                refine FStepsW.cons (FStepW.plain rfl fun a w hS hE => OpTo.fadT _ gx 0 0 0 rfl (hE 14 (by kernel_rfl)) (qfield0 gx) ⟨dOfW.of 79 rfl rfl, Touch.refl _ _⟩) ?_
                refine FStepsW.cons (FStepW.plain rfl fun a w hS hE => OpTo.ldN gx 0 _ rfl (hE 79 (by kernel_rfl)) (((HX.out.touch hS (by simp)).cell 0).trans rfl) ⟨dOfW.of 80 rfl rfl, Touch.refl _ _⟩) ?_
                refine FStepsW.cons (FStepW.plain rfl fun a w hS hE => OpTo.fadT _ gx 1 0 1 rfl (hE 14 (by kernel_rfl)) (qfield1 gx) ⟨dOfW.of 81 rfl rfl, Touch.refl _ _⟩) ?_
                refine FStepsW.cons (FStepW.plain rfl fun a w hS hE => OpTo.ldN gx 1 _ rfl (hE 81 (by kernel_rfl)) (((HX.out.touch hS (by simp)).cell 1).trans rfl) ⟨dOfW.of 82 rfl rfl, Touch.refl _ _⟩) ?_
                refine FStepsW.cons (FStepW.plain rfl fun a w hS hE => OpTo.addI tx 1 (tx + 1) rfl (hE 82 (by kernel_rfl)) rfl Hw1.out ⟨dOfW.of 83 rfl rfl, Touch.refl _ _⟩) ?_
                refine FStepsW.cons (FStepW.plain rfl fun a w hS hE => OpTo.move rfl ⟨dOfW.of 84 rfl (hE 1 (by kernel_rfl)), Touch.refl _ _⟩) ?_
                refine FStepsW.cons (FStepW.plain rfl fun a w hS hE => OpTo.move rfl ⟨dOfW.of 85 rfl (hE 0 (by kernel_rfl)), Touch.refl _ _⟩) ?_
                refine FStepsW.cons (FStepW.plain rfl fun a w hS hE => OpTo.nilc ⟨q, 0, none⟩ rfl (hE 85 (by kernel_rfl)) ⟨dOfW.of 86 rfl rfl, Touch.refl _ _⟩) ?_
                refine FStepsW.cons (FStepW.plain rfl fun a w hS hE => OpTo.fadT _ q 0 0 0 rfl (hE 86 (by kernel_rfl)) (rfield0 q) ⟨dOfW.of 87 rfl rfl, Touch.refl _ _⟩) ?_
                refine FStepsW.cons (FStepW.plain rfl fun a w hS hE => OpTo.ldC2 q c rfl (hE 87 (by kernel_rfl)) (rf_range (HB.out.touch hS (by simp))) ⟨dOfW.of 88 rfl rfl, Touch.refl _ _⟩) ?_
                refine FStepsW.cons (FStepW.plain rfl fun a w hS hE => OpTo.fadT _ gx 1 0 1 rfl (hE 14 (by kernel_rfl)) (qfield1 gx) ⟨dOfW.of 89 rfl rfl, Touch.refl _ _⟩) ?_
                refine FStepsW.cons (FStepW.plain rfl fun a w hS hE => OpTo.ldN gx 1 _ rfl (hE 89 (by kernel_rfl)) (((HX.out.touch hS (by simp)).cell 1).trans rfl) ⟨dOfW.of 90 rfl rfl, Touch.refl _ _⟩) ?_
                refine FStepsW.cons (FStepW.plain rfl fun a w hS hE => OpTo.move rfl ⟨dOfW.of 91 rfl (hE 2 (by kernel_rfl)), Touch.refl _ _⟩) ?_
                refine FStepsW.cons (FStepW.plain rfl fun a w hS hE => OpTo.call #[cfV c, .int .i64 tx, .int .u64 draw] rfl Try.func25 (by kernel_rfl) (by kernel_rfl) (args3e (hE 88 (by kernel_rfl)) (hE 90 (by kernel_rfl)) (hE 91 (by kernel_rfl))) ((HW.out w).mono fun _ _ h => calls_w 92 rfl (fun _ _ h => h) h)) ?_
                refine FStepsW.cons (FStepW.plain rfl fun a w hS hE => OpTo.call #[.int .u64 now, .int .u64 (waitV c tx draw)] rfl Try.func34 (by kernel_rfl) (by kernel_rfl) (args2e (hE 84 (by kernel_rfl)) (hE 92 (by kernel_rfl))) ((HA.out w).mono fun _ _ h => calls_w 93 rfl (fun _ _ h => h) h)) ?_
                refine FStepsW.cons (FStepW.plain rfl fun a w hS hE => OpTo.bldQ x2 (tx + 1) (addS now (waitV c tx draw)) rfl (hE 80 (by kernel_rfl)) (hE 83 (by kernel_rfl)) (hE 93 (by kernel_rfl)) ⟨dOfW.of 94 rfl rfl, Touch.refl _ _⟩) ?_
                exact FStepsW.nil
              intro f' wx' hS' hF'
              obtain ⟨h78, h94, -⟩ := hF'
              replace h78 : f' 78 = .pointer (some ⟨q, 0, none⟩) := h78
              replace h94 : f' 94 = .agg #[.int .i64 x2, .int .i64 (tx + 1), .int .u64 (addS now (waitV c tx draw))] := h94
              simp only [setAll, List.setIfInBounds_toArray, List.set_cons_zero, List.set_cons_succ, h78, h94]
              show wpList _ _ _ [_] _ _
              have Hs7 := Lib.hid (Hs6.out.touch hS')
              have hdl : d.S.length ≤ 10000 := by have := Hdl.out; omega
              clear h78 h94 Hs6 HX HB HW HA Hw1
              go_wp2_with fail
              have hra := Hr2.out A3 c3 d.S d.T
              refine (put_sep (i := i + 4) (j := j + 4) Hs7.out (⟨hra.b, hra.r, by have := hra.ne; omega⟩ : RfAt _ (i + 4) (j + 4) q c A3 c3 d.S d.T) x2 (tx + 1) (addS now (waitV c tx draw)) hdl HN2.out).mono ?_
              rintro e w8 ⟨rfl, A9, c9, hs8⟩
              have hs9 : Sep w0 B w8 (iRes (.slice A8 (d.ag.length + 1) c8) (d.ag ++ [x2]) :: iRes (.slice A2 d.lo.length c2) d.lo :: rowQ (.slice (some ⟨g, off, none⟩) S.length cap) S T :: setRf (setRf rs i j q c A3 c3 d.S d.T) i j q c A9 c9 (insS d.S (addS now (waitV c tx draw), x2)) (upd d.T x2 (tx + 1))) := hs8.forget
              rw [Hr3.out] at hs9
              have Hs9 := Lib.hid hs9
              clear hs8 hs9 Hs7 hra hdl
              go_wp2_with fail
              go_roundw
              case rel =>
                have hl : (d.ag ++ [x2]).length = d.ag.length + 1 := by simp
                exact ⟨k + 1, ⟨insS d.S (addS now (waitV c tx draw), x2), upd d.T x2 (tx + 1), d.ag ++ [x2], d.lo⟩, A8, c8, A2, c2, A9, c9, by omega, by go_num, by rw [hl], rfl, HI2.out, by rw [hl]; exact Hs9.out⟩
              case measure => simp [intOf]; omega
        · obtain rfl : k = S.length := by omega
          have He := Lib.hid HI.out.end_
          have Hs4 := Lib.hid (show Sep w0 B wr (iRes (.slice A1 d.ag.length c1) d.ag :: iRes (.slice A2 d.lo.length c2) d.lo :: setRf rs i j q c A3 c3 d.S d.T) from Hs.out.drop2)
          clear Hs HI
          go_wp2_with fail
          go_ret2
          rw [← He.out]
          exact ⟨A1, c1, A2, c2, A3, c3, rfl, Hs4.out⟩
end Go.Proofs.Ytehbfoiadinhbaa
