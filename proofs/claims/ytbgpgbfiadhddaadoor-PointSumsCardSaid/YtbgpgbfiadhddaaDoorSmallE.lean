/- (field.Elem).Neg, Same, Odd, Zero; field.Num. -/
import Derived.Test.YtbgpgbfiadhddaaDoorBytesE
import Derived.Lib.Strings
namespace Go.Proofs.YtbgpgbfiadhddaaDoor
open Go.RowKit
theorem red0 : Red (List.replicate 16 0) := ⟨by simp, fun x hx => by have := (List.mem_replicate.1 hx).2; omega⟩
theorem fe0 : fe (List.replicate 16 0) = 0 := by decide
theorem sub0 (x : Nat) : subF 0 x = negF x := by unfold subF addF negF PP; omega
theorem elV0 : elV (List.replicate 16 0) = .agg #[.int .i64 0, .int .i64 0, .int .i64 0, .int .i64 0, .int .i64 0, .int .i64 0, .int .i64 0, .int .i64 0, .int .i64 0, .int .i64 0, .int .i64 0, .int .i64 0, .int .i64 0, .int .i64 0, .int .i64 0, .int .i64 0] := rfl
theorem sub0_any (m : List Int) (hm : Red m) (w : World) :
    Calls Tryd.prog 25 #[.agg #[.int .i64 0, .int .i64 0, .int .i64 0, .int .i64 0, .int .i64 0, .int .i64 0, .int .i64 0, .int .i64 0, .int .i64 0, .int .i64 0, .int .i64 0, .int .i64 0, .int .i64 0, .int .i64 0, .int .i64 0, .int .i64 0], elV m] w (EPost (negF (fe m)) w) := by
  have h := sub_any (List.replicate 16 0) m red0 hm w
  rw [elV0, fe0, sub0] at h
  exact h
/-- The last steps of a function that gives a number: load, store, return. -/
theorem elem_ret {fn : Func} {p : Tmp} (hres : fn.results = #[.cell p 25]) {w w' : World} {n : Nat} {g : Nat} {l : List Int} (hl : Red l) (hn : fe l = n) {tmps : Array Value} (hp : tmps.getD p undef = .pointer (some ⟨g, 0, none⟩)) (t : TypeId) (hB : Blk w' g t (cellsZ l).toArray) (hT : Touch [] w w') :
    bodyPost Tryd.prog fn (EPost n w) Exit.ret { tmps := tmps, defers := [] } w' :=
  bodyPost_ret (results_cell_row hres _ _ g t (cellsZ l).toArray (0, 0) _ hp hB Tryd.underlying25 rfl (by rw [cellsZ_size, hl.len]; exact infoE)) rfl ⟨l, hl, hn, rfl, hT⟩
/-- Two boxes, the second one a result's. -/
theorem box2 (w : World) (l : List Int) : Blk ((w.alloc (.cells (cellsZ l).toArray 25)).alloc (.cells (cellsZ (List.replicate 16 0)).toArray 25)) w.heap.size 25 (cellsZ l).toArray ∧
    Blk ((w.alloc (.cells (cellsZ l).toArray 25)).alloc (.cells (cellsZ (List.replicate 16 0)).toArray 25)) (w.heap.size + 1) 25 (cellsZ (List.replicate 16 0)).toArray ∧
    Touch [] w ((w.alloc (.cells (cellsZ l).toArray 25)).alloc (.cells (cellsZ (List.replicate 16 0)).toArray 25)) := by
  refine ⟨(Blk.new _ _ _).alloc _, ?_, ((Touch.refl _ _).alloc _).alloc _⟩
  have := Blk.new (w.alloc (.cells (cellsZ l).toArray 25)) 25 (cellsZ (List.replicate 16 0)).toArray
  simpa using this
set_option maxRecDepth 100000 in
set_option maxHeartbeats 1000000 in
theorem neg_anyE (l : List Int) (hl : Red l) (w : World) :
    Calls Tryd.prog 29 #[elV l] w (EPost (negF (fe l)) w) := by
  have Hl := Lib.hid hl
  clear hl
  unfold elV
  go_enter Tryd.func29, Tryd.ntmps29
  go_upto_region 1 with fail
  rw [← zeroE_eq]
  obtain ⟨h1, h2, h3⟩ := box2 w l
  obtain ⟨w1, hw1⟩ : ∃ w1, w1 = (w.alloc (.cells (cellsZ l).toArray 25)).alloc (.cells (cellsZ (List.replicate 16 0)).toArray 25) := ⟨_, rfl⟩
  rw [← hw1] at h1 h2 h3 ⊢
  have H1 := Lib.hid h1
  have H2 := Lib.hid h2
  have H3 := Lib.hid h3
  clear h1 h2 h3 hw1
  go_wp2_with (refine wpList_loadE rfl (.tmp 1) rfl _ rfl 25 l Hl.out.len H1.out ?_)
  refine (sub0_any l Hl.out w1).mono ?_
  rintro e w5 ⟨r, hr, hf, rfl, hT⟩
  have Hr := Lib.hid hr
  have Hf := Lib.hid hf
  have HT := Lib.hid hT
  have HB := Lib.hid (H2.out.touch hT (by simp))
  clear hr hf hT
  go_wp2_with (refine wpList_storeE rfl (.tmp 2) (.tmp 5) rfl (w.heap.size + 1) rfl r rfl 25 _ Hr.out.len rfl HB.out ?_)
  exact elem_ret Tryd.results29 Hr.out Hf.out rfl 25 (HB.out.setRow _) ((H3.out.trans HT.out).setRowE (.inr (by simp)) _)
theorem str_beqE (a b : ByteArray) : (a.toList == b.toList) = decide (a = b) := by
  rw [Lib.toList_data, Lib.toList_data, Bool.eq_iff_iff]
  simp only [beq_iff_eq, decide_eq_true_eq]
  refine ⟨fun h => ?_, fun h => by rw [h]⟩
  cases a; cases b
  simp only [ByteArray.mk.injEq]
  exact Array.toList_inj.1 h
theorem PP_lt : PP < 115792089237316195423570985008687907853269984665640564039457584007913129639936 := by decide
theorem toS_beq {a b : Nat} (ha : a < PP) (hb : b < PP) : ((toS a).toList == (toS b).toList) = decide (a = b) := by
  rw [str_beqE]
  exact decide_eq_decide.2 ⟨fun h => toS_inj (Nat.lt_trans ha PP_lt) (Nat.lt_trans hb PP_lt) h, fun h => by rw [h]⟩
/-- The cells of a number, one by one. -/
theorem agg16 {l : List Int} (hl : l.length = 16) {c : Nat → Value} (hc : ∀ j, c j = .int .i64 (l.getD j 0)) : elV l = .agg #[c 0, c 1, c 2, c 3, c 4, c 5, c 6, c 7, c 8, c 9, c 10, c 11, c 12, c 13, c 14, c 15] := by
  simp only [hc]
  match l, hl with
  | [a0, a1, a2, a3, a4, a5, a6, a7, a8, a9, a10, a11, a12, a13, a14, a15], _ => rfl
/-- Sixteen cells lie in a block, from its head on. -/
def At16 (W : World) (g : Nat) (c : Nat → Value) : Prop := ∀ j, j < 16 → W.cell? ⟨g, j, none⟩ = some (c j)
theorem Blk.at16 {w : World} {g : Nat} {t : TypeId} {l : List Int} (h : Blk w g t (cellsZ l).toArray) (hl : l.length = 16) {c : Nat → Value} (hc : ∀ j, c j = .int .i64 (l.getD j 0)) : ∀ j, j < 16 → w.cell? ⟨g, j, none⟩ = some (c j) := fun j hj => by
  rw [h.cell, List.getElem?_toArray, hc]; exact cellsZ_at (by omega)
theorem at16_touch {w w' : World} {g : Nat} {c : Nat → Value} (h : ∀ j, j < 16 → w.cell? ⟨g, j, none⟩ = some (c j)) (ht : Touch [] w w') : ∀ j, j < 16 → w'.cell? ⟨g, j, none⟩ = some (c j) := fun j hj => by
  rw [ht.cell (World.block_lt_of_cell? w _ (h j hj)) (by simp)]; exact h j hj
theorem cells_fn (l : List Int) : ∃ c : Nat → Value, ∀ j, c j = .int .i64 (l.getD j 0) := ⟨_, fun _ => rfl⟩
set_option maxRecDepth 100000 in
set_option maxHeartbeats 1000000 in
theorem same_any (l m : List Int) (hl : Red l) (hm : Red m) (w : World) :
    Calls Tryd.prog 24 #[elV l, elV m] w fun e w' => e = .returned (.bool (decide (fe l = fe m))) ∧ Touch [] w w' := by
  obtain ⟨c, hc⟩ := cells_fn l
  obtain ⟨d, hd⟩ := cells_fn m
  have hbl : ∀ W, Calls Tryd.prog 51 #[.agg #[c 0, c 1, c 2, c 3, c 4, c 5, c 6, c 7, c 8, c 9, c 10, c 11, c 12, c 13, c 14, c 15]] W fun e w' => e = .returned (.string (toS (fe l))) ∧ Touch [] W w' := fun W => agg16 hl.len hc ▸ bytes_any l hl W
  have hbm : ∀ W, Calls Tryd.prog 51 #[.agg #[d 0, d 1, d 2, d 3, d 4, d 5, d 6, d 7, d 8, d 9, d 10, d 11, d 12, d 13, d 14, d 15]] W fun e w' => e = .returned (.string (toS (fe m))) ∧ Touch [] W w' := fun W => agg16 hm.len hd ▸ bytes_any m hm W
  have Hbl := Lib.hid hbl
  have Hbm := Lib.hid hbm
  have He := Lib.hid (toS_beq (fe_lt l) (fe_lt m))
  have Hc := Lib.hid hc
  have Hd := Lib.hid hd
  have Hl := Lib.hid hl
  have Hm := Lib.hid hm
  clear hbl hbm hl hm hc hd
  unfold elV
  go_enter Tryd.func24, Tryd.ntmps24
  go_upto_region 1 with fail
  obtain ⟨w1, hw1⟩ : ∃ w1, w1 = (w.alloc (.cells (cellsZ l).toArray 25)).alloc (.cells (cellsZ m).toArray 25) := ⟨_, rfl⟩
  have h1 : Blk w1 w.heap.size 25 (cellsZ l).toArray := by rw [hw1]; exact (Blk.new _ _ _).alloc _
  have h2 : Blk w1 (w.heap.size + 1) 25 (cellsZ m).toArray := by
    have := Blk.new (w.alloc (.cells (cellsZ l).toArray 25)) 25 (cellsZ m).toArray
    rw [hw1]; simpa using this
  have h3 : Touch [] w w1 := by rw [hw1]; exact ((Touch.refl _ _).alloc _).alloc _
  rw [← hw1]
  clear hw1
  have hS : (∀ j, j < 16 → w1.drew.cell? ⟨w.heap.size, j, none⟩ = some (c j)) ∧ (∀ j, j < 16 → w1.drew.cell? ⟨w.heap.size + 1, j, none⟩ = some (d j)) ∧ Touch [] w w1.drew := ⟨h1.drew.at16 Hl.out.len Hc.out, h2.drew.at16 Hm.out.len Hd.out, h3.drew⟩
  clear h1 h2 h3
  go_region_held3 (fun W => (∀ j, j < 16 → W.cell? ⟨w.heap.size, j, none⟩ = some (c j)) ∧ (∀ j, j < 16 → W.cell? ⟨w.heap.size + 1, j, none⟩ = some (d j)) ∧ Touch [] w W) (first | assumption | (go_split_ands; exact ⟨at16_touch (by assumption) ht, at16_touch (by assumption) ht, Touch.trans (by assumption) ht⟩))
    (first | (go_at_call 51; (with_reducible_and_instances refine (Hbl.out _).mono ?_); rintro e wa ⟨rfl, ht⟩) | (go_at_call 51; (with_reducible_and_instances refine (Hbm.out _).mono ?_); rintro e wa ⟨rfl, ht⟩))
  all_goals
    rename_i hHeld
    have HF := Lib.hid hHeld.2.2
    clear hHeld hS
    rw [He.out]
    go_wp2_with fail
    go_ret
    exact ⟨rfl, HF.out⟩
end Go.Proofs.YtbgpgbfiadhddaaDoor
