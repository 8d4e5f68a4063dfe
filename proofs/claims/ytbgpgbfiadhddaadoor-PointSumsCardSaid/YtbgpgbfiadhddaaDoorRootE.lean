/- (field.Elem).Root. -/
import Derived.Test.YtbgpgbfiadhddaaDoorInvE
import Derived.Test.YtbgpgbfiadhddaaDoorPowR1
import Derived.Test.YtbgpgbfiadhddaaDoorPowR2
import Derived.Deep.RegionHeld3
namespace Go.Proofs.YtbgpgbfiadhddaaDoor
open Go.RowKit
def skA (i : Nat) : Bool := decide (i = 1)
def skB (i : Nat) : Bool := decide (i = 2)
theorem skA_any (i : Nat) (W : World) : Calls Tryd.prog 58 #[.int .i64 (i : Int)] W fun e W' => e = .returned (.bool (skA i)) ∧ W = W' := by
  by_cases h2 : i = 1
  · subst h2
    go_enter Tryd.func58, Tryd.ntmps58
    go_wp2_with fail
    go_ret
    exact ⟨rfl, rfl⟩
  · have e2 : ((i : Int) == 1) = false := beq_false_of_ne (by omega)
    have e : Hid (skA i = false) := Lib.hid (decide_eq_false (by omega))
    clear h2
    go_enter Tryd.func58, Tryd.ntmps58
    go_wp2_with fail
    go_ret
    exact ⟨ret_bool e.out.symm, rfl⟩
theorem skB_any (i : Nat) (W : World) : Calls Tryd.prog 59 #[.int .i64 (i : Int)] W fun e W' => e = .returned (.bool (skB i)) ∧ W = W' := by
  by_cases h2 : i = 2
  · subst h2
    go_enter Tryd.func59, Tryd.ntmps59
    go_wp2_with fail
    go_ret
    exact ⟨rfl, rfl⟩
  · have e2 : ((i : Int) == 2) = false := beq_false_of_ne (by omega)
    have e : Hid (skB i = false) := Lib.hid (decide_eq_false (by omega))
    clear h2
    go_enter Tryd.func59, Tryd.ntmps59
    go_wp2_with fail
    go_ret
    exact ⟨ret_bool e.out.symm, rfl⟩
theorem skA_ex : exF skA 251 1 = 7237005577332262213973186563042994240829374041602535252466099000494570602493 := by decide +kernel
theorem skB_ex : exF skB 252 1 = 14474011154664524427946373126085988481658748083205070504932198000989141204987 := by decide +kernel
/-- The root that is tried first; that which is tried then. -/
def r1N (a : Nat) : Nat := mulF (a ^ 7237005577332262213973186563042994240829374041602535252466099000494570602493 % PP) a
def r2N (a : Nat) : Nat := if mulF (r1N a) (r1N a) = a then r1N a else mulF (r1N a) (2 ^ 14474011154664524427946373126085988481658748083205070504932198000989141204987 % PP)
def isN (a : Nat) : Bool := decide (mulF (r2N a) (r2N a) = a)
def rootN (a : Nat) : Nat := if isN a then (if r2N a % 2 = 1 then negF (r2N a) else r2N a) else 0
theorem r1N_eq (a : Nat) : r1N a = mulF (a ^ 7237005577332262213973186563042994240829374041602535252466099000494570602493 % PP) a := by rw [r1N]
theorem r2N_eq (a : Nat) : r2N a = if mulF (r1N a) (r1N a) = a then r1N a else mulF (r1N a) (2 ^ 14474011154664524427946373126085988481658748083205070504932198000989141204987 % PP) := by rw [r2N]
theorem isN_eq (a : Nat) : isN a = decide (mulF (r2N a) (r2N a) = a) := by rw [isN]
theorem rootN_eq (a : Nat) : rootN a = if isN a then (if r2N a % 2 = 1 then negF (r2N a) else r2N a) else 0 := by rw [rootN]
theorem rootN_f (a : Nat) {x : Nat} (h : rootN a = if isN a then x else 0) (hi : isN a = false) : rootN a = 0 := by rw [h, hi, if_neg (by decide)]
theorem rootN_t (a : Nat) {x : Nat} (h : rootN a = if isN a then x else 0) (hi : isN a = true) : rootN a = x := by rw [h, hi, if_pos (by decide)]
def RootPost (a : Nat) (w : World) (e : Ending) (w' : World) : Prop := ∃ r, Red r ∧ fe r = rootN a ∧ e = .returned (.tuple #[elV r, .bool (isN a)]) ∧ Touch [] w w'
theorem root_ret {fn : Func} {p q : Tmp} (hres : fn.results = #[.cell p 25, .tmp q]) {w w' : World} {a : Nat} {g : Nat} {l : List Int} (hl : Red l) (hn : fe l = rootN a) {tmps : Array Value} (hp : tmps.getD p undef = .pointer (some ⟨g, 0, none⟩)) (hq : tmps.getD q undef = .bool (isN a)) (t : TypeId) (hB : Blk w' g t (cellsZ l).toArray) (hT : Touch [] w w') :
    bodyPost Tryd.prog fn (RootPost a w) Exit.ret { tmps := tmps, defers := [] } w' :=
  bodyPost_ret (results_row_tmp hres _ _ g t (cellsZ l).toArray (0, 0) _ hp hB Tryd.underlying25 rfl (by rw [cellsZ_size, hl.len]; exact infoE)) rfl ⟨l, hl, hn, by rw [hq]; rfl, hT⟩
structure RootW (w : World) (ga gc : Nat) (l q : List Int) (wr : World) : Prop where
  ba : Blk wr ga 25 (cellsZ l).toArray
  bz : Blk wr (ga + 1) 25 (cellsZ (List.replicate 16 0)).toArray
  bc : Blk wr gc 25 (cellsZ q).toArray
  touch : Touch [] w wr
  new : w.heap.size ≤ ga
  far : ga + 1 < gc
theorem RootW.more {w wr w' : World} {ga gc : Nat} {l q : List Int} (h : RootW w ga gc l q wr) (ht : Touch [] wr w') : RootW w ga gc l q w' :=
  ⟨h.ba.touch ht (by simp), h.bz.touch ht (by simp), h.bc.touch ht (by simp), h.touch.trans ht, h.new, h.far⟩
theorem RootW.setC {w wr : World} {ga gc : Nat} {l q : List Int} (h : RootW w ga gc l q wr) (p : List Int) : RootW w ga gc l p (wr.setRow gc (cellsZ p).toArray) :=
  ⟨h.ba.frow (by have := h.far; omega) _, h.bz.frow (by have := h.far; omega) _, h.bc.setRow _, h.touch.setRowE (.inr (by have := h.new; have := h.far; omega)) _, h.new, h.far⟩
/-- The range of a block that lies there from w1 on. -/
theorem range_far {w1 : World} {g : Nat} {t : TypeId} {l : List Int} (h : Blk w1 g t (cellsZ l).toArray) : ∀ W, Touch [] w1 W → W.rangeAt g 0 (cellsZ l) := fun W ht j v hv => by
  have h2 : Blk W g t (cellsZ l).toArray := h.touch ht (by simp)
  rw [Nat.zero_add, h2.cell, List.getElem?_toArray]; exact hv
theorem infoL {l : List Int} (hl : Red l) : (Tryd.prog.info? 25).map (·.size) = some (cellsZ l).length := by rw [cellsZ_len, hl.len]; exact infoE
theorem notin_nil {g : Nat} : g ∉ ([] : List Nat) := by simp
theorem rootW_set {w w1 wb : World} {ga g : Nat} {l p : List Int} (h1 : Blk w1 ga 25 (cellsZ l).toArray) (h2 : Blk w1 (ga + 1) 25 (cellsZ (List.replicate 16 0)).toArray) (h3 : Touch [] w w1) (hg : w.heap.size ≤ ga) (hk : Touch [] w1 wb) {old : Array Value} (hz : Blk wb g 25 old) (hn : w1.heap.size ≤ g) :
    RootW w ga g l p (wb.setRow g (cellsZ p).toArray) := by
  have hlt := h2.lt
  exact ⟨Blk.frow (h1.touch hk notin_nil) (by omega) _, Blk.frow (h2.touch hk notin_nil) (by omega) _, hz.setRow _, (h3.trans hk).setRowE (.inr (by have := h3.size; omega)) _, hg, by omega⟩
set_option maxRecDepth 100000 in
set_option maxHeartbeats 4000000 in
theorem root_any (l : List Int) (hl : Red l) (w : World) :
    Calls Tryd.prog 39 #[elV l] w (RootPost (fe l) w) := by
  have hp1 : ∀ W, Calls Tryd.prog 57 #[.agg #[.int .i64 251, .func (Fn.func 58) #[] #[]], .agg (cellsZ l).toArray] W (EPost (fe l ^ 7237005577332262213973186563042994240829374041602535252466099000494570602493 % PP) W) := fun W => by
    have h := pow_R1 skA skA_any 251 (by omega) (by omega) l hl W
    rw [skA_ex] at h
    exact h
  have hp2 : ∀ p : List Int, Red p → fe p = 2 → ∀ W, Calls Tryd.prog 57 #[.agg #[.int .i64 252, .func (Fn.func 59) #[] #[]], elV p] W (EPost (2 ^ 14474011154664524427946373126085988481658748083205070504932198000989141204987 % PP) W) := fun p hp hf W => by
    have h := pow_R2 skB skB_any 252 (by omega) (by omega) p hp W
    rw [skB_ex, hf] at h
    exact h
  have hm1 : ∀ q : List Int, Red q → ∀ W, Calls Tryd.prog 23 #[elV q, .agg (cellsZ l).toArray] W (EPost (mulF (fe q) (fe l)) W) := fun q hq W => mul_any q l hq hl W
  have hs1 : ∀ (q : List Int) (n : Nat), Red q → fe q = n → ∀ W, Calls Tryd.prog 24 #[elV q, .agg (cellsZ l).toArray] W fun e w' => e = .returned (.bool (decide (n = fe l))) ∧ Touch [] W w' := fun q n hq hn W => hn ▸ same_any q l hq hl W
  have hn2 : ∀ W, Calls Tryd.prog 37 #[.int .u64 2] W (EPost 2 W) := fun W => num_any 2 (by omega) W
  have Hp1 := Lib.hid hp1
  have Hp2 := Lib.hid hp2
  have Hm1 := Lib.hid hm1
  have Hs1 := Lib.hid hs1
  have Hn2 := Lib.hid hn2
  have Hl := Lib.hid hl
  have hr1 := Lib.hid (r1N_eq (fe l))
  obtain ⟨X1, hX1⟩ : ∃ X1, X1 = fe l ^ 7237005577332262213973186563042994240829374041602535252466099000494570602493 % PP := ⟨_, rfl⟩
  have hr2 := Lib.hid (r2N_eq (fe l))
  obtain ⟨X2, hX2⟩ : ∃ X2, X2 = 2 ^ 14474011154664524427946373126085988481658748083205070504932198000989141204987 % PP := ⟨_, rfl⟩
  have hrn := Lib.hid (rootN_eq (fe l))
  have his := Lib.hid (isN_eq (fe l))
  rw [← hX1] at Hp1 hr1
  rw [← hX2] at Hp2 hr2
  obtain ⟨a, ha⟩ : ∃ a, a = fe l := ⟨_, rfl⟩
  rw [← ha] at Hm1 Hs1 hr1 hr2 hrn his
  rw [← ha]
  clear hX1 hX2 hp1 hp2 hm1 hs1 hn2 hl ha
  unfold elV
  go_enter Tryd.func39, Tryd.ntmps39
  go_upto_region 1 with fail
  rw [← zeroE_eq]
  obtain ⟨h1, h2, h3⟩ := box2 w l
  obtain ⟨w1, hw1⟩ : ∃ w1, w1 = (w.alloc (.cells (cellsZ l).toArray 25)).alloc (.cells (cellsZ (List.replicate 16 0)).toArray 25) := ⟨_, rfl⟩
  rw [← hw1] at h1 h2 h3 ⊢
  obtain ⟨ga, hga⟩ : ∃ ga, ga = w.heap.size := ⟨_, rfl⟩
  have Hga := Lib.hid (show w.heap.size ≤ ga by omega)
  rw [← hga] at h1 h2 ⊢
  have H1 := Lib.hid h1
  have H2 := Lib.hid h2
  have H3 := Lib.hid h3
  clear h1 h2 h3 hw1 hga
  go_cut [4] (fun v4 wx => ∃ gc q, v4 = .pointer (some ⟨gc, 0, none⟩) ∧ Red q ∧ fe q = r1N a ∧ RootW w ga gc l q wx)
  case first =>
    have hS : Touch [] w1 w1.drew := (Touch.refl _ _).drew
    have r1 := Lib.hid (range_far H1.out)
    have il := Lib.hid (infoL Hl.out)
    refine wp_region_held_drew (S := fun W => Touch [] w1 W) (by kernel_rfl) hS (fun hHeld => ?_)
    refine' wpAnyH_take (i := 0) (v := .agg #[.int .i64 251, .func (Fn.func 58) #[] #[]]) rfl (by kernel_rfl) (by kernel_rfl) (by kernel_rfl) (fun _ _ _ h => h) (.inl ⟨by rfl, fun W _ => by go_simp⟩) hHeld ?_
    refine' wpAnyH_take (i := 1) (v := _) rfl (by kernel_rfl) (by kernel_rfl) (by kernel_rfl) (fun _ _ _ h => h) (yieldsIf_load_mid (by rfl) _ _ rfl _ _ rfl _ _ (r1.out) Tryd.underlying25 rfl (il.out)) hHeld ?_
    refine' wpAnyH_take (i := 3) (v := _) rfl (by kernel_rfl) (by kernel_rfl) (by kernel_rfl) (fun _ _ _ h => h) (yieldsIf_load_mid (by rfl) _ _ rfl _ _ rfl _ _ (r1.out) Tryd.underlying25 rfl (il.out)) hHeld ?_
    refine wpAnyH_ready (rs := [2, 5]) (by kernel_rfl) (by simp) ?_
    refine AllReadyH.cons (o := _) rfl (fun K hK => ?_) (AllReadyH.cons (o := _) rfl (fun K hK => ?_) AllReadyH.nil)
    · go_simp
      refine (Hp1.out _).mono ?_
      rintro e wa ⟨q, hq, hf, rfl, ht⟩
      have hk : Touch [] w1 wa := hS.trans ht
      refine hK.out _ _ (hk) (fun hHeld => ?_)
      clear hK K
      refine wpAnyH_ready (rs := [4, 5]) (by kernel_rfl) (by simp) ?_
      refine AllReadyH.cons (o := _) rfl (fun K hK => ?_) (AllReadyH.cons (o := _) rfl (fun K hK => ?_) AllReadyH.nil)
      · go_simp
        refine (Hm1.out q hq _).mono ?_
        rintro e wb ⟨p, hp, hfp, rfl, ht2⟩
        have hfq : fe p = r1N a := by rw [hfp, hf, hr1.out]
        have hk2 : Touch [] w1 wb := hk.trans ht2
        refine hK.out _ _ (hk2) (fun hHeld => ?_)
        clear hK K
        refine wpAnyH_ready (rs := [5]) (by kernel_rfl) (by simp) ?_
        refine AllReadyH.cons (o := _) rfl (fun K hK => ?_) AllReadyH.nil
        go_simp
        refine hK.out _ _ (hk2.alloc _) (fun hHeld => ?_)
        clear hK K
        refine wpAnyH_ready (rs := [6]) (by kernel_rfl) (by simp) ?_
        refine AllReadyH.cons (o := _) rfl (fun K hK => ?_) AllReadyH.nil
        rw [if_pos (by rfl)]
        refine wp_store_row _ _ _ rfl _ (cellsZ p).toArray rfl rfl 25 _ (Blk.new _ _ (cellsZ (List.replicate 16 0)).toArray) (by rw [cellsZ_size, hp.len]; exact infoE) (by rw [cellsZ_size, cellsZ_size, hp.len]; rfl) (cellsZ_one p) ?_
        refine hK.out _ _ ((hk2.alloc _).setRowE (.inr hk2.size) _) (fun hHeld => ?_)
        clear hK K
        refine wpAnyH_done (by kernel_rfl) ?_ _
        go_wp2_with fail
        go_meet
        exact ⟨_, p, rfl, hp, hfq, rootW_set H1.out H2.out H3.out Hga.out (hk2.alloc _) (Blk.new _ _ _) hk2.size⟩
      · go_simp
        refine hK.out _ _ (hk.alloc _) (fun hHeld => ?_)
        clear hK K
        refine wpAnyH_ready (rs := [4]) (by kernel_rfl) (by simp) ?_
        refine AllReadyH.cons (o := _) rfl (fun K hK => ?_) AllReadyH.nil
        go_simp
        refine (Hm1.out q hq _).mono ?_
        rintro e wb ⟨p, hp, hfp, rfl, ht2⟩
        have hfq : fe p = r1N a := by rw [hfp, hf, hr1.out]
        have hz := (Blk.new wa 25 (cellsZ (List.replicate 16 0)).toArray).touch ht2 notin_nil
        have hk2 : Touch [] w1 wb := (hk.alloc _).trans ht2
        refine hK.out _ _ (hk2) (fun hHeld => ?_)
        clear hK K
        refine wpAnyH_ready (rs := [6]) (by kernel_rfl) (by simp) ?_
        refine AllReadyH.cons (o := _) rfl (fun K hK => ?_) AllReadyH.nil
        rw [if_pos (by rfl)]
        refine wp_store_row _ _ _ rfl _ (cellsZ p).toArray rfl rfl 25 _ hz (by rw [cellsZ_size, hp.len]; exact infoE) (by rw [cellsZ_size, cellsZ_size, hp.len]; rfl) (cellsZ_one p) ?_
        refine hK.out _ _ (hk2.setRowE (.inr hk.size) _) (fun hHeld => ?_)
        clear hK K
        refine wpAnyH_done (by kernel_rfl) ?_ _
        go_wp2_with fail
        go_meet
        exact ⟨_, p, rfl, hp, hfq, rootW_set H1.out H2.out H3.out Hga.out hk2 hz hk.size⟩
    · go_simp
      refine hK.out _ _ (hS.alloc _) (fun hHeld => ?_)
      clear hK K
      refine wpAnyH_ready (rs := [2]) (by kernel_rfl) (by simp) ?_
      refine AllReadyH.cons (o := _) rfl (fun K hK => ?_) AllReadyH.nil
      go_simp
      refine (Hp1.out _).mono ?_
      rintro e wa ⟨q, hq, hf, rfl, ht⟩
      have hz0 := (Blk.new w1.drew 25 (cellsZ (List.replicate 16 0)).toArray).touch ht notin_nil
      have hk : Touch [] w1 wa := (hS.alloc _).trans ht
      refine hK.out _ _ (hk) (fun hHeld => ?_)
      clear hK K
      refine wpAnyH_ready (rs := [4]) (by kernel_rfl) (by simp) ?_
      refine AllReadyH.cons (o := _) rfl (fun K hK => ?_) AllReadyH.nil
      go_simp
      refine (Hm1.out q hq _).mono ?_
      rintro e wb ⟨p, hp, hfp, rfl, ht2⟩
      have hfq : fe p = r1N a := by rw [hfp, hf, hr1.out]
      have hz := Blk.touch hz0 ht2 notin_nil
      have hk2 : Touch [] w1 wb := hk.trans ht2
      refine hK.out _ _ (hk2) (fun hHeld => ?_)
      clear hK K
      refine wpAnyH_ready (rs := [6]) (by kernel_rfl) (by simp) ?_
      refine AllReadyH.cons (o := _) rfl (fun K hK => ?_) AllReadyH.nil
      rw [if_pos (by rfl)]
      refine wp_store_row _ _ _ rfl _ (cellsZ p).toArray rfl rfl 25 _ hz (by rw [cellsZ_size, hp.len]; exact infoE) (by rw [cellsZ_size, cellsZ_size, hp.len]; rfl) (cellsZ_one p) ?_
      refine hK.out _ _ (hk2.setRowE (.inr (Nat.le_refl _)) _) (fun hHeld => ?_)
      clear hK K
      refine wpAnyH_done (by kernel_rfl) ?_ _
      go_wp2_with fail
      go_meet
      exact ⟨_, p, rfl, hp, hfq, rootW_set H1.out H2.out H3.out Hga.out hk2 hz (Nat.le_refl _)⟩
  case rest =>
    obtain ⟨gc, q, rfl, hq, hfq, hW⟩ := hcut
    have Hm2 := Lib.hid (fun W => show Calls Tryd.prog 23 #[.agg (cellsZ q).toArray, .agg (cellsZ q).toArray] W (EPost (mulF (r1N a) (r1N a)) W) from hfq ▸ mul_any q q hq hq W)
    obtain ⟨B1, hB1⟩ : ∃ b, b = decide (mulF (r1N a) (r1N a) = a) := ⟨_, rfl⟩
    have Hs3 := Lib.hid (fun (q : List Int) (h1 : Red q) (h2 : fe q = mulF (r1N a) (r1N a)) W => hB1 ▸ Hs1.out q _ h1 h2 W)
    have HB1 := Lib.hid hB1
    have Hq := Lib.hid hq
    have Hfq := Lib.hid hfq
    have HW := Lib.hid hW
    clear hB1 hq hfq hW
    go_upto_region 2 with fail
    have hS : Touch [] wc wc.drew := (Touch.refl _ _).drew
    have rc := Lib.hid (range_far HW.out.bc)
    have ra := Lib.hid (range_far HW.out.ba)
    have il := Lib.hid (infoL Hl.out)
    have iq := Lib.hid (infoL Hq.out)
    refine wp_region_held_drew (S := fun W => Touch [] wc W) (by kernel_rfl) hS (fun hHeld => ?_)
    refine' wpAnyH_take (i := 0) (v := _) rfl (by kernel_rfl) (by kernel_rfl) (by kernel_rfl) (fun _ _ _ h => h) (yieldsIf_load_mid (by rfl) _ _ rfl _ _ rfl _ _ (rc.out) Tryd.underlying25 rfl (iq.out)) hHeld ?_
    refine' wpAnyH_take (i := 1) (v := _) rfl (by kernel_rfl) (by kernel_rfl) (by kernel_rfl) (fun _ _ _ h => h) (yieldsIf_load_mid (by rfl) _ _ rfl _ _ rfl _ _ (rc.out) Tryd.underlying25 rfl (iq.out)) hHeld ?_
    refine' wpAnyH_take (i := 3) (v := _) rfl (by kernel_rfl) (by kernel_rfl) (by kernel_rfl) (fun _ _ _ h => h) (yieldsIf_load_mid (by rfl) _ _ rfl _ _ rfl _ _ (ra.out) Tryd.underlying25 rfl (il.out)) hHeld ?_
    refine wpAnyH_ready (rs := [2]) (by kernel_rfl) (by simp) ?_
    refine AllReadyH.cons (o := _) rfl (fun K hK => ?_) AllReadyH.nil
    go_simp
    refine (Hm2.out _).mono ?_
    rintro e wa ⟨p, hp, hfp, rfl, ht⟩
    have hk : Touch [] wc wa := hS.trans ht
    refine hK.out _ _ (hk) (fun hHeld => ?_)
    clear hK K
    refine wpAnyH_ready (rs := [4]) (by kernel_rfl) (by simp) ?_
    refine AllReadyH.cons (o := _) rfl (fun K hK => ?_) AllReadyH.nil
    go_simp
    refine (Hs3.out _ hp hfp _).mono ?_
    rintro e wb ⟨rfl, ht2⟩
    have hk2 : Touch [] wc wb := hk.trans ht2
    refine hK.out _ _ (hk2) (fun hHeld => ?_)
    clear hK K
    refine wpAnyH_ready (rs := [5]) (by kernel_rfl) (by simp) ?_
    refine AllReadyH.cons (o := _) rfl (fun K hK => ?_) AllReadyH.nil
    go_simp
    refine hK.out _ _ (hk2) (fun hHeld => ?_)
    clear hK K
    refine wpAnyH_done (by kernel_rfl) ?_ _
    have HW2 := Lib.hid (HW.out.more hk2)
    clear hS hHeld hk hk2 ht ht2 hp hfp HW rc ra il iq
    rename World => w2
    go_upto_if 15 with fail
    go_cut [] (fun wx => ∃ q2, Red q2 ∧ fe q2 = r2N a ∧ RootW w ga gc l q2 wx)
    case first =>
      cases B1 with
      | true =>
        have H1r := Lib.hid (show r2N a = r1N a by rw [hr2.out, if_pos (of_decide_eq_true HB1.out.symm)])
        go_wp2_with fail
        go_meet
        exact ⟨q, Hq.out, by rw [H1r.out]; exact Hfq.out, HW2.out⟩
      | false =>
        have H1r := Lib.hid (show r2N a = mulF (r1N a) X2 by rw [hr2.out, if_neg (of_decide_eq_false HB1.out.symm)])
        have Hm3 := Lib.hid (fun (p : List Int) (hp : Red p) (hf : fe p = X2) W => show Calls Tryd.prog 23 #[.agg (cellsZ q).toArray, elV p] W (EPost (r2N a) W) from by
          have h := mul_any q p Hq.out hp W
          rw [Hfq.out, hf, ← H1r.out] at h
          exact h)
        go_upto_region 3 with fail
        have hS : Touch [] w2 w2.drew := (Touch.refl _ _).drew
        refine wp_region_held_drew (S := fun _ => True) (by kernel_rfl) trivial (fun hHeld => ?_)
        refine' wpAnyH_take (i := 1) (v := .agg #[.int .i64 252, .func (Fn.func 59) #[] #[]]) rfl (by kernel_rfl) (by kernel_rfl) (by kernel_rfl) (fun _ _ _ h => h) (.inl ⟨by rfl, fun W _ => by go_simp⟩) hHeld ?_
        refine wpAnyH_ready (rs := [0, 2]) (by kernel_rfl) (by simp) ?_
        refine AllReadyH.cons (o := _) rfl (fun K hK => ?_) (AllReadyH.cons (o := _) rfl (fun K hK => ?_) AllReadyH.nil)
        · rw [if_pos (by rfl)]
          refine wp_load_row _ _ rfl gc rfl 25 (cellsZ q).toArray (0, 0) _ (HW2.out.bc.drew) Tryd.underlying25 rfl (by rw [cellsZ_size, Hq.out.len]; exact infoE) ?_
          refine hK.out _ _ (trivial) (fun hHeld => ?_)
          clear hK K
          refine wpAnyH_ready (rs := [2]) (by kernel_rfl) (by simp) ?_
          refine AllReadyH.cons (o := _) rfl (fun K hK => ?_) AllReadyH.nil
          go_simp
          refine (Hn2.out _).mono ?_
          rintro e wa ⟨p2, hp2, hf2, rfl, ht⟩
          have hk : Touch [] w2 wa := hS.trans ht
          refine hK.out _ _ (trivial) (fun hHeld => ?_)
          clear hK K
          refine wpAnyH_ready (rs := [3]) (by kernel_rfl) (by simp) ?_
          refine AllReadyH.cons (o := _) rfl (fun K hK => ?_) AllReadyH.nil
          go_simp
          refine (Hp2.out _ hp2 hf2 _).mono ?_
          rintro e wb ⟨p3, hp3, hf3, rfl, ht2⟩
          have hk2 : Touch [] w2 wb := hk.trans ht2
          refine hK.out _ _ (trivial) (fun hHeld => ?_)
          clear hK K
          refine wpAnyH_ready (rs := [4]) (by kernel_rfl) (by simp) ?_
          refine AllReadyH.cons (o := _) rfl (fun K hK => ?_) AllReadyH.nil
          go_simp
          refine (Hm3.out _ hp3 hf3 _).mono ?_
          rintro e wd ⟨p4, hp4, hf4, rfl, ht3⟩
          have hk3 : Touch [] w2 wd := hk2.trans ht3
          refine hK.out _ _ (trivial) (fun hHeld => ?_)
          clear hK K
          refine wpAnyH_ready (rs := [5]) (by kernel_rfl) (by simp) ?_
          refine AllReadyH.cons (o := _) rfl (fun K hK => ?_) AllReadyH.nil
          rw [if_pos (by rfl)]
          refine wp_store_row _ _ _ rfl gc (cellsZ p4).toArray rfl rfl 25 _ (Blk.touch HW2.out.bc hk3 notin_nil) (by rw [cellsZ_size, hp4.len]; exact infoE) (by rw [cellsZ_size, cellsZ_size, hp4.len]; exact Hq.out.len) (cellsZ_one p4) ?_
          refine hK.out _ _ (trivial) (fun hHeld => ?_)
          clear hK K
          refine wpAnyH_done (by kernel_rfl) ?_ _
          go_wp2_with fail
          go_meet
          exact ⟨p4, hp4, hf4, (HW2.out.more hk3).setC p4⟩
        · go_simp
          refine (Hn2.out _).mono ?_
          rintro e wa ⟨p2, hp2, hf2, rfl, ht⟩
          have hk : Touch [] w2 wa := hS.trans ht
          refine hK.out _ _ (trivial) (fun hHeld => ?_)
          clear hK K
          refine wpAnyH_ready (rs := [0, 3]) (by kernel_rfl) (by simp) ?_
          refine AllReadyH.cons (o := _) rfl (fun K hK => ?_) (AllReadyH.cons (o := _) rfl (fun K hK => ?_) AllReadyH.nil)
          · rw [if_pos (by rfl)]
            refine wp_load_row _ _ rfl gc rfl 25 (cellsZ q).toArray (0, 0) _ (Blk.touch HW2.out.bc hk notin_nil) Tryd.underlying25 rfl (by rw [cellsZ_size, Hq.out.len]; exact infoE) ?_
            refine hK.out _ _ (trivial) (fun hHeld => ?_)
            clear hK K
            refine wpAnyH_ready (rs := [3]) (by kernel_rfl) (by simp) ?_
            refine AllReadyH.cons (o := _) rfl (fun K hK => ?_) AllReadyH.nil
            go_simp
            refine (Hp2.out _ hp2 hf2 _).mono ?_
            rintro e wb ⟨p3, hp3, hf3, rfl, ht2⟩
            have hk2 : Touch [] w2 wb := hk.trans ht2
            refine hK.out _ _ (trivial) (fun hHeld => ?_)
            clear hK K
            refine wpAnyH_ready (rs := [4]) (by kernel_rfl) (by simp) ?_
            refine AllReadyH.cons (o := _) rfl (fun K hK => ?_) AllReadyH.nil
            go_simp
            refine (Hm3.out _ hp3 hf3 _).mono ?_
            rintro e wd ⟨p4, hp4, hf4, rfl, ht3⟩
            have hk3 : Touch [] w2 wd := hk2.trans ht3
            refine hK.out _ _ (trivial) (fun hHeld => ?_)
            clear hK K
            refine wpAnyH_ready (rs := [5]) (by kernel_rfl) (by simp) ?_
            refine AllReadyH.cons (o := _) rfl (fun K hK => ?_) AllReadyH.nil
            rw [if_pos (by rfl)]
            refine wp_store_row _ _ _ rfl gc (cellsZ p4).toArray rfl rfl 25 _ (Blk.touch HW2.out.bc hk3 notin_nil) (by rw [cellsZ_size, hp4.len]; exact infoE) (by rw [cellsZ_size, cellsZ_size, hp4.len]; exact Hq.out.len) (cellsZ_one p4) ?_
            refine hK.out _ _ (trivial) (fun hHeld => ?_)
            clear hK K
            refine wpAnyH_done (by kernel_rfl) ?_ _
            go_wp2_with fail
            go_meet
            exact ⟨p4, hp4, hf4, (HW2.out.more hk3).setC p4⟩
          · go_simp
            refine (Hp2.out _ hp2 hf2 _).mono ?_
            rintro e wb ⟨p3, hp3, hf3, rfl, ht2⟩
            have hk2 : Touch [] w2 wb := hk.trans ht2
            refine hK.out _ _ (trivial) (fun hHeld => ?_)
            clear hK K
            refine wpAnyH_ready (rs := [0]) (by kernel_rfl) (by simp) ?_
            refine AllReadyH.cons (o := _) rfl (fun K hK => ?_) AllReadyH.nil
            rw [if_pos (by rfl)]
            refine wp_load_row _ _ rfl gc rfl 25 (cellsZ q).toArray (0, 0) _ (Blk.touch HW2.out.bc hk2 notin_nil) Tryd.underlying25 rfl (by rw [cellsZ_size, Hq.out.len]; exact infoE) ?_
            refine hK.out _ _ (trivial) (fun hHeld => ?_)
            clear hK K
            refine wpAnyH_ready (rs := [4]) (by kernel_rfl) (by simp) ?_
            refine AllReadyH.cons (o := _) rfl (fun K hK => ?_) AllReadyH.nil
            go_simp
            refine (Hm3.out _ hp3 hf3 _).mono ?_
            rintro e wd ⟨p4, hp4, hf4, rfl, ht3⟩
            have hk3 : Touch [] w2 wd := hk2.trans ht3
            refine hK.out _ _ (trivial) (fun hHeld => ?_)
            clear hK K
            refine wpAnyH_ready (rs := [5]) (by kernel_rfl) (by simp) ?_
            refine AllReadyH.cons (o := _) rfl (fun K hK => ?_) AllReadyH.nil
            rw [if_pos (by rfl)]
            refine wp_store_row _ _ _ rfl gc (cellsZ p4).toArray rfl rfl 25 _ (Blk.touch HW2.out.bc hk3 notin_nil) (by rw [cellsZ_size, hp4.len]; exact infoE) (by rw [cellsZ_size, cellsZ_size, hp4.len]; exact Hq.out.len) (cellsZ_one p4) ?_
            refine hK.out _ _ (trivial) (fun hHeld => ?_)
            clear hK K
            refine wpAnyH_done (by kernel_rfl) ?_ _
            go_wp2_with fail
            go_meet
            exact ⟨p4, hp4, hf4, (HW2.out.more hk3).setC p4⟩
    case rest =>
      clear Hq Hfq HW2 Hm2 Hs3 HB1
      obtain ⟨q2, hq, hfq, hW⟩ := hcut
      rename List Int => q
      have Hm2 := Lib.hid (fun W => show Calls Tryd.prog 23 #[.agg (cellsZ q).toArray, .agg (cellsZ q).toArray] W (EPost (mulF (r2N a) (r2N a)) W) from hfq ▸ mul_any q q hq hq W)
      obtain ⟨B2, hB2⟩ : ∃ b, b = isN a := ⟨_, rfl⟩
      have Hs3 := Lib.hid (fun (q : List Int) (h1 : Red q) (h2 : fe q = mulF (r2N a) (r2N a)) W => (show decide (mulF (r2N a) (r2N a) = a) = B2 by rw [hB2, his.out]) ▸ Hs1.out q _ h1 h2 W)
      have HB2 := Lib.hid hB2
      have Hq := Lib.hid hq
      have Hfq := Lib.hid hfq
      have HW := Lib.hid hW
      clear hB2 hq hfq hW
      rename World => w4
      go_upto_region 4 with fail
      have hS : Touch [] w4 w4.drew := (Touch.refl _ _).drew
      have rc := Lib.hid (range_far HW.out.bc)
      have ra := Lib.hid (range_far HW.out.ba)
      have il := Lib.hid (infoL Hl.out)
      have iq := Lib.hid (infoL Hq.out)
      refine wp_region_held_drew (S := fun W => Touch [] w4 W) (by kernel_rfl) hS (fun hHeld => ?_)
      refine' wpAnyH_take (i := 0) (v := _) rfl (by kernel_rfl) (by kernel_rfl) (by kernel_rfl) (fun _ _ _ h => h) (yieldsIf_load_mid (by rfl) _ _ rfl _ _ rfl _ _ (rc.out) Tryd.underlying25 rfl (iq.out)) hHeld ?_
      refine' wpAnyH_take (i := 1) (v := _) rfl (by kernel_rfl) (by kernel_rfl) (by kernel_rfl) (fun _ _ _ h => h) (yieldsIf_load_mid (by rfl) _ _ rfl _ _ rfl _ _ (rc.out) Tryd.underlying25 rfl (iq.out)) hHeld ?_
      refine' wpAnyH_take (i := 3) (v := _) rfl (by kernel_rfl) (by kernel_rfl) (by kernel_rfl) (fun _ _ _ h => h) (yieldsIf_load_mid (by rfl) _ _ rfl _ _ rfl _ _ (ra.out) Tryd.underlying25 rfl (il.out)) hHeld ?_
      refine wpAnyH_ready (rs := [2]) (by kernel_rfl) (by simp) ?_
      refine AllReadyH.cons (o := _) rfl (fun K hK => ?_) AllReadyH.nil
      go_simp
      refine (Hm2.out _).mono ?_
      rintro e wa ⟨p, hp, hfp, rfl, ht⟩
      have hk : Touch [] w4 wa := hS.trans ht
      refine hK.out _ _ (hk) (fun hHeld => ?_)
      clear hK K
      refine wpAnyH_ready (rs := [4]) (by kernel_rfl) (by simp) ?_
      refine AllReadyH.cons (o := _) rfl (fun K hK => ?_) AllReadyH.nil
      go_simp
      refine (Hs3.out _ hp hfp _).mono ?_
      rintro e wb ⟨rfl, ht2⟩
      have hk2 : Touch [] w4 wb := hk.trans ht2
      refine hK.out _ _ (hk2) (fun hHeld => ?_)
      clear hK K
      refine wpAnyH_ready (rs := [5]) (by kernel_rfl) (by simp) ?_
      refine AllReadyH.cons (o := _) rfl (fun K hK => ?_) AllReadyH.nil
      go_simp
      refine hK.out _ _ (hk2) (fun hHeld => ?_)
      clear hK K
      refine wpAnyH_done (by kernel_rfl) ?_ _
      have HW5 := Lib.hid (HW.out.more hk2)
      clear hS hHeld hk hk2 ht ht2 hp hfp HW rc ra il iq
      rename World => w5
      cases B2 with
      | false =>
        have hr := Lib.hid (show rootN a = 0 from rootN_f a hrn.out HB2.out.symm)
        go_wp2_with (refine wpList_storeE rfl (.tmp 2) (.tmp 27) rfl (ga + 1) rfl (List.replicate 16 0) rfl 25 _ rfl rfl HW5.out.bz ?_)
        exact root_ret Tryd.results39 red0 (by rw [hr.out, fe0]) rfl (by rw [← HB2.out]; rfl) 25 (HW5.out.bz.setRow _) (HW5.out.touch.setRowE (.inr (by have := HW5.out.new; omega)) _)
      | true =>
        have hr := Lib.hid (show rootN a = if r2N a % 2 = 1 then negF (r2N a) else r2N a from rootN_t a hrn.out HB2.out.symm)
        go_wp2_with (refine wpList_loadE rfl (.tmp 4) rfl gc rfl 25 q Hq.out.len HW5.out.bc ?_)
        refine (odd_any q Hq.out w5).mono ?_
        rintro e w6 ⟨rfl, ht⟩
        have HW6 := Lib.hid (HW5.out.more ht)
        rw [Hfq.out]
        clear ht HW5
        by_cases hodd : r2N a % 2 = 1
        · have hr3 := Lib.hid (show rootN a = negF (r2N a) by rw [hr.out, if_pos hodd])
          rw [decide_eq_true hodd]
          clear hodd
          go_wp2_with (refine wpList_loadE rfl (.tmp 4) rfl gc rfl 25 q Hq.out.len HW6.out.bc ?_)
          refine (neg_anyE q Hq.out w6).mono ?_
          rintro e w7 ⟨p, hp, hfp, rfl, ht⟩
          have Hp := Lib.hid hp
          have Hfp := Lib.hid (show fe p = rootN a by rw [hfp, Hfq.out, hr3.out])
          have HW7 := Lib.hid (HW6.out.more ht)
          have HW8 := Lib.hid ((HW6.out.more ht).setC p)
          clear hp hfp ht HW6
          go_wp2_with (first | (refine wpList_storeE rfl (.tmp 4) (.tmp 31) rfl gc rfl p rfl 25 _ Hp.out.len (by rw [cellsZ_size]; exact Hq.out.len) HW7.out.bc ?_) | (refine wpList_loadE rfl (.tmp 4) rfl gc rfl 25 p Hp.out.len HW8.out.bc ?_) | (refine wpList_storeE rfl (.tmp 2) (.tmp 32) rfl (ga + 1) rfl p rfl 25 _ Hp.out.len rfl HW8.out.bz ?_))
          exact root_ret Tryd.results39 Hp.out Hfp.out rfl (by rw [← HB2.out]; rfl) 25 (HW8.out.bz.setRow _) (HW8.out.touch.setRowE (.inr (by have := HW8.out.new; omega)) _)
        · have hr3 := Lib.hid (show rootN a = r2N a by rw [hr.out, if_neg hodd])
          rw [decide_eq_false hodd]
          clear hodd
          go_wp2_with (first | (refine wpList_loadE rfl (.tmp 4) rfl gc rfl 25 q Hq.out.len HW6.out.bc ?_) | (refine wpList_storeE rfl (.tmp 2) (.tmp 32) rfl (ga + 1) rfl q rfl 25 _ Hq.out.len rfl HW6.out.bz ?_))
          exact root_ret Tryd.results39 Hq.out (by rw [Hfq.out, hr3.out]) rfl (by rw [← HB2.out]; rfl) 25 (HW6.out.bz.setRow _) (HW6.out.touch.setRowE (.inr (by have := HW6.out.new; omega)) _)
end Go.Proofs.YtbgpgbfiadhddaaDoor
