/- (field.power).of, at one of its powers (Inv). -/
import Derived.Test.YtbgpgbfiadhddaaDoorPowI
namespace Go.Proofs.YtbgpgbfiadhddaaDoor
open Go.RowKit
def skI (i : Nat) : Bool := decide (i = 2 ∨ i = 4)
theorem skI_any (i : Nat) (W : World) : Calls Tryd.prog 56 #[.int .i64 (i : Int)] W fun e W' => e = .returned (.bool (skI i)) ∧ W = W' := by
  by_cases h2 : i = 2
  · subst h2
    go_enter Tryd.func56, Tryd.ntmps56
    go_wp2_with fail
    go_ret
    exact ⟨rfl, rfl⟩
  · by_cases h4 : i = 4
    · subst h4
      go_enter Tryd.func56, Tryd.ntmps56
      go_wp2_with fail
      go_ret
      exact ⟨rfl, rfl⟩
    · have e2 : ((i : Int) == 2) = false := beq_false_of_ne (by omega)
      have e4 : ((i : Int) == 4) = false := beq_false_of_ne (by omega)
      have e : Hid (skI i = false) := Lib.hid (decide_eq_false (by omega))
      clear h2 h4
      go_enter Tryd.func56, Tryd.ntmps56
      go_wp2_with fail
      go_ret
      exact ⟨ret_bool e.out.symm, rfl⟩
theorem skI_ex : exF skI 254 1 = PP - 2 := by decide +kernel
set_option maxRecDepth 100000 in
theorem inv_any (l : List Int) (hl : Red l) (w : World) :
    Calls Tryd.prog 38 #[elV l] w (EPost (fe l ^ (PP - 2) % PP) w) := by
  have Hl := Lib.hid hl
  have hp : ∀ W, Calls Tryd.prog 57 #[.agg #[.int .i64 254, .func (Fn.func 56) #[] #[]], elV l] W (EPost (fe l ^ (PP - 2) % PP) W) := fun W => by
    have h := pow_I skI skI_any 254 (by omega) (by omega) l hl W
    rw [skI_ex] at h
    exact h
  have Hp := Lib.hid hp
  obtain ⟨n, hn⟩ : ∃ n, n = fe l ^ (PP - 2) % PP := ⟨_, rfl⟩
  rw [← hn] at Hp
  rw [← hn]
  clear hl hp hn
  unfold elV
  unfold elV at Hp
  go_enter Tryd.func38, Tryd.ntmps38
  go_upto_region 1 with fail
  rw [← zeroE_eq]
  obtain ⟨h1, h2, h3⟩ := box2 w l
  obtain ⟨w1, hw1⟩ : ∃ w1, w1 = (w.alloc (.cells (cellsZ l).toArray 25)).alloc (.cells (cellsZ (List.replicate 16 0)).toArray 25) := ⟨_, rfl⟩
  rw [← hw1] at h1 h2 h3 ⊢
  have H1 := Lib.hid h1
  have H2 := Lib.hid h2
  have H3 := Lib.hid h3
  clear h1 h2 h3 hw1
  go_wp2_with (refine wpList_loadE rfl (.tmp 1) rfl _ rfl 25 l Hl.out.len H1.out ?_)
  refine (Hp.out w1).mono ?_
  rintro e w5 ⟨r, hr, hf, rfl, hT⟩
  have Hr := Lib.hid hr
  have Hf := Lib.hid hf
  have HT := Lib.hid hT
  have HB := Lib.hid (H2.out.touch hT (by simp))
  clear hr hf hT
  go_wp2_with (refine wpList_storeE rfl (.tmp 2) (.tmp 5) rfl (w.heap.size + 1) rfl r rfl 25 _ Hr.out.len rfl HB.out ?_)
  exact elem_ret Tryd.results38 Hr.out Hf.out rfl 25 (HB.out.setRow _) ((H3.out.trans HT.out).setRowE (.inr (by simp)) _)
end Go.Proofs.YtbgpgbfiadhddaaDoor
