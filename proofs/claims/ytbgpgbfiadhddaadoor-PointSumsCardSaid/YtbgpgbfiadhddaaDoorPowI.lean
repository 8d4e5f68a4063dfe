/- (field.power).of, at one of its powers (I). -/
import Derived.Test.YtbgpgbfiadhddaaDoorPowE
namespace Go.Proofs.YtbgpgbfiadhddaaDoor
open Go.RowKit
set_option maxRecDepth 100000 in
set_option maxHeartbeats 2000000 in
theorem pow_I (skip : Nat → Bool) (hF : ∀ (i : Nat) (W : World), Calls Tryd.prog 56 #[.int .i64 (i : Int)] W fun e W' => e = .returned (.bool (skip i)) ∧ W = W') (top : Nat) (h0 : 0 < top) (h1 : top ≤ 300) (l : List Int) (hl : Red l) (w : World) :
    Calls Tryd.prog 57 #[.agg #[.int .i64 (top : Int), .func (Fn.func 56) #[] #[]], elV l] w (EPost (fe l ^ exF skip top 1 % PP) w) := by
  have Hl := Lib.hid hl
  have HF := Lib.hid hF
  clear hl hF
  obtain ⟨v, hv⟩ : ∃ v : Value, v = .func (Fn.func 56) #[] #[] := ⟨_, rfl⟩
  have Hv := Lib.hid hv
  rw [← hv]
  clear hv
  unfold elV
  go_enter Tryd.func57, Tryd.ntmps57
  go_upto_region 1 with fail
  rw [← zeroE_eq]
  have hW := PowW.start w top v l
  obtain ⟨w3, hw3⟩ : ∃ w3, w3 = ((w.alloc (.cells #[.int .i64 (top : Int), v] 89)).alloc (.cells (cellsZ l).toArray 25)).alloc (.cells (cellsZ (List.replicate 16 0)).toArray 25) := ⟨_, rfl⟩
  have hs3 : w3.heap.size = w.heap.size + 3 := by rw [hw3]; simp
  have ha3 : Blk w3 (w.heap.size + 1) 25 (cellsZ l).toArray := by
    have := (Blk.new (w.alloc (.cells #[.int .i64 (top : Int), v] 89)) 25 (cellsZ l).toArray).alloc (.cells (cellsZ (List.replicate 16 0)).toArray 25)
    rw [hw3]; simpa using this
  rw [← hw3] at hW ⊢
  have HW := Lib.hid hW
  have HS3 := Lib.hid hs3
  clear hW hw3 hs3
  go_upto_region 2 with (first | (refine wpList_loadE rfl (.tmp 3) rfl _ rfl 25 l Hl.out.len ha3 ?_) | (refine wpList_storeE rfl (.tmp 5) (.tmp 7) rfl _ rfl l rfl 25 _ Hl.out.len rfl (Blk.new _ _ _) ?_))
  rw [World.setRow_alloc_new, HS3.out]
  obtain ⟨w4, hw4⟩ : ∃ w4, w4 = w3.alloc (.cells (cellsZ l).toArray 25) := ⟨_, rfl⟩
  obtain ⟨gp, hgp⟩ : ∃ gp, gp = w.heap.size := ⟨_, rfl⟩
  rw [← hw4, ← hgp] at HW
  rw [← hw4, ← hgp]
  clear hw4 hgp ha3 HS3
  have hc0 : w4.cell? ⟨gp, 0, none⟩ = some (.int .i64 (top : Int)) := HW.out.bp.cell 0
  go_wp2_with fail
  clear hc0
  go_loopw [6] (fun vi wr => ∃ (k : Nat) (r : List Int) (e : Nat), k ≤ top ∧ vi = .int .i64 ((k : Int) - 1) ∧ Red r ∧ fe r = fe l ^ e % PP ∧ exF skip k e = exF skip top 1 ∧ PowW w gp top v l r wr) (fun vi _ => (intOf vi + 1).toNat)
  case atStart => exact ⟨top, l, 1, Nat.le_refl _, rfl, Hl.out, by rw [Nat.pow_one, Nat.mod_eq_of_lt (fe_lt l)], rfl, HW.out⟩
  case round =>
    clear HW
    obtain ⟨k, r, e, hk, rfl, hr, hf, he, hW⟩ := hrel
    have Hr := Lib.hid hr
    have Hf := Lib.hid hf
    have He := Lib.hid he
    have HW := Lib.hid hW
    clear hr hf he hW
    rcases k with _ | j
    · rw [show (((0 : Nat) : Int) - 1) = -1 by omega]
      go_wp2_with (first | (refine wpList_loadE rfl (.tmp 5) rfl (gp + 3) rfl 25 r Hr.out.len HW.out.bc ?_) | (refine wpList_storeE rfl (.tmp 4) (.tmp 26) rfl (gp + 2) rfl r rfl 25 _ Hr.out.len rfl HW.out.bz ?_))
      exact elem_ret Tryd.results57 Hr.out (by rw [Hf.out, ← He.out]; rfl) rfl 25 (HW.out.bz.setRow _) (HW.out.touch.setRowE (.inr (by have := HW.out.new; omega)) _)
    · rw [show (((j + 1 : Nat) : Int) - 1) = (j : Int) by omega]
      go_wp2_with (refine wpList_loadE rfl (.tmp 5) rfl (gp + 3) rfl 25 r Hr.out.len HW.out.bc ?_)
      refine (mul_any r r Hr.out Hr.out wr).mono ?_
      rintro e5 w5 ⟨q, hq, hfq, rfl, hT⟩
      have Hq := Lib.hid hq
      have Hfq := Lib.hid (show fe q = fe l ^ (2 * e) % PP by rw [hfq, Hf.out, mulF_pow, Nat.two_mul])
      have HW5 := Lib.hid (HW.out.more hT)
      clear hq hfq hT
      go_upto_region 6 with (refine wpList_storeE rfl (.tmp 5) (.tmp 17) rfl (gp + 3) rfl q rfl 25 _ Hq.out.len (by rw [cellsZ_size]; exact Hr.out.len) HW5.out.bc ?_)
      have hW6 := HW5.out.setC q
      obtain ⟨w6, hw6⟩ : ∃ w6, w6 = w5.setRow (gp + 3) (cellsZ q).toArray := ⟨_, rfl⟩
      rw [← hw6] at hW6 ⊢
      have HW6 := Lib.hid hW6
      clear hW6 hw6 HW5 HW
      have hc1 : w6.cell? ⟨gp, 1, none⟩ = some (.func (Fn.func 56) #[] #[]) := by rw [← Hv.out]; exact HW6.out.bp.cell 1
      go_wp2_with fail
      refine (HF.out j w6).mono ?_
      rintro e7 w7 ⟨rfl, rfl⟩
      clear hc1
      have Hex := Lib.hid (show exF skip j (2 * e + if skip j then 0 else 1) = exF skip top 1 from He.out)
      by_cases hsk : skip j = true
      · rw [hsk] at Hex
        rw [hsk]
        clear hsk
        go_wp2_with fail
        go_roundw
        case rel => first | exact ⟨j, q, 2 * e, by omega, rfl, Hq.out, Hfq.out, by have := Hex.out; simpa using this, HW6.out⟩ | ((repeat apply Exists.intro); exact ⟨⟨j, q, 2 * e, by omega, rfl, Hq.out, Hfq.out, by have := Hex.out; simpa using this, HW6.out⟩, rfl⟩)
        case measure => simp [intOf]
      · have hsf : skip j = false := by simpa using hsk
        rw [hsf] at Hex
        rw [hsf]
        clear hsk hsf
        go_wp2_with (first | (refine wpList_loadE rfl (.tmp 5) rfl (gp + 3) rfl 25 q Hq.out.len HW6.out.bc ?_) | (refine wpList_loadE rfl (.tmp 3) rfl (gp + 1) rfl 25 l Hl.out.len HW6.out.ba ?_))
        refine (mul_any q l Hq.out Hl.out w6).mono ?_
        rintro e8 w8 ⟨p, hp, hfp, rfl, hT⟩
        have Hp := Lib.hid hp
        have Hfp := Lib.hid (show fe p = fe l ^ (2 * e + 1) % PP by
          have h := mulF_pow (fe l) (2 * e) 1
          rw [Nat.pow_one, Nat.mod_eq_of_lt (fe_lt l)] at h
          rw [hfp, Hfq.out, h])
        have HW8 := Lib.hid (HW6.out.more hT)
        clear hp hfp hT
        go_wp2_with (refine wpList_storeE rfl (.tmp 5) (.tmp 25) rfl (gp + 3) rfl p rfl 25 _ Hp.out.len (by rw [cellsZ_size]; exact Hq.out.len) HW8.out.bc ?_)
        go_roundw
        case rel => first | exact ⟨j, p, 2 * e + 1, by omega, rfl, Hp.out, Hfp.out, by have := Hex.out; simpa using this, HW8.out.setC p⟩ | ((repeat apply Exists.intro); exact ⟨⟨j, p, 2 * e + 1, by omega, rfl, Hp.out, Hfp.out, by have := Hex.out; simpa using this, HW8.out.setC p⟩, rfl⟩)
        case measure => simp [intOf]
end Go.Proofs.YtbgpgbfiadhddaaDoor
