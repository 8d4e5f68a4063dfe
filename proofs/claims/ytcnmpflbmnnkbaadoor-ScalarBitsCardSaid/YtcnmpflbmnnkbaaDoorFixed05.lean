/- syngraphlaw05.fixed: the calls whose answers the document fixes. -/
import Derived.Test.YtcnmpflbmnnkbaaDoorClamp
namespace Go.Proofs.YtcnmpflbmnnkbaaDoor
open Go.RowKit
def zeroS : ByteArray := ⟨#[0, 0, 0, 0, 0, 0, 0, 0, 0, 0, 0, 0, 0, 0, 0, 0, 0, 0, 0, 0, 0, 0, 0, 0, 0, 0, 0, 0, 0, 0, 0, 0]⟩
theorem zero_any (w : World) : Calls Tryd.prog 22 #[] w fun e w' => e = .returned (.string ⟨#[0, 0, 0, 0, 0, 0, 0, 0, 0, 0, 0, 0, 0, 0, 0, 0, 0, 0, 0, 0, 0, 0, 0, 0, 0, 0, 0, 0, 0, 0, 0, 0]⟩) ∧ w = w' := by
  go_enter Tryd.func22, Tryd.ntmps22
  go_wp2_with fail
  go_ret
  exact ⟨rfl, rfl⟩
@[local simp, local go_sem] theorem cat1 : ((⟨#[10]⟩ : ByteArray) ++ (⟨#[0, 0, 0, 0, 0, 0, 0, 0, 0, 0, 0, 0, 0, 0, 0, 0, 0, 0, 0, 0, 0, 0, 0, 0, 0, 0, 0, 0, 0, 0, 0, 0]⟩ : ByteArray).extract 1 32 : ByteArray) = ⟨#[10, 0, 0, 0, 0, 0, 0, 0, 0, 0, 0, 0, 0, 0, 0, 0, 0, 0, 0, 0, 0, 0, 0, 0, 0, 0, 0, 0, 0, 0, 0, 0]⟩ := by decide +kernel
@[local simp, local go_sem] theorem cat2 : ((⟨#[236]⟩ : ByteArray) ++ (⟨#[237, 211, 245, 92, 26, 99, 18, 88, 214, 156, 247, 162, 222, 249, 222, 20, 0, 0, 0, 0, 0, 0, 0, 0, 0, 0, 0, 0, 0, 0, 0, 16]⟩ : ByteArray).extract 1 32 : ByteArray) = ⟨#[236, 211, 245, 92, 26, 99, 18, 88, 214, 156, 247, 162, 222, 249, 222, 20, 0, 0, 0, 0, 0, 0, 0, 0, 0, 0, 0, 0, 0, 0, 0, 16]⟩ := by decide +kernel
@[local simp, local go_sem] theorem cat3 : ((⟨#[248]⟩ : ByteArray) ++ (⟨#[0, 0, 0, 0, 0, 0, 0, 0, 0, 0, 0, 0, 0, 0, 0, 0, 0, 0, 0, 0, 0, 0, 0, 0, 0, 0, 0, 0, 0, 0, 0, 0]⟩ : ByteArray).extract 0 30 : ByteArray) = ⟨#[248, 0, 0, 0, 0, 0, 0, 0, 0, 0, 0, 0, 0, 0, 0, 0, 0, 0, 0, 0, 0, 0, 0, 0, 0, 0, 0, 0, 0, 0, 0]⟩ := by decide +kernel
@[local simp, local go_sem] theorem cat4 : ((⟨#[248, 0, 0, 0, 0, 0, 0, 0, 0, 0, 0, 0, 0, 0, 0, 0, 0, 0, 0, 0, 0, 0, 0, 0, 0, 0, 0, 0, 0, 0, 0]⟩ : ByteArray) ++ (⟨#[64]⟩ : ByteArray) : ByteArray) = ⟨#[248, 0, 0, 0, 0, 0, 0, 0, 0, 0, 0, 0, 0, 0, 0, 0, 0, 0, 0, 0, 0, 0, 0, 0, 0, 0, 0, 0, 0, 0, 0, 64]⟩ := by decide +kernel
set_option maxRecDepth 100000 in
set_option maxHeartbeats 40000000 in
theorem fixed_any (w : World) (hord : Ord w) : Calls Tryd.prog 17 #[] w fun e w' => e = .returned (.bool true) ∧ Touch [] w w' := by
  have c1 : ∀ W : World, Ord W → Calls Tryd.prog 13 #[.string ⟨#[2]⟩, .string ⟨#[3]⟩, .string ⟨#[4]⟩] W fun e w' => e = .returned (.string ⟨#[10, 0, 0, 0, 0, 0, 0, 0, 0, 0, 0, 0, 0, 0, 0, 0, 0, 0, 0, 0, 0, 0, 0, 0, 0, 0, 0, 0, 0, 0, 0, 0]⟩) ∧ Touch [] W w' := fun W ho => by
    have h := mulAdd_any ⟨#[2]⟩ ⟨#[3]⟩ ⟨#[4]⟩ W ho
    unfold MulAddPost at h
    rw [show toS ((leN ((bl ⟨#[2]⟩).take 32) * leN ((bl ⟨#[3]⟩).take 32) + leN ((bl ⟨#[4]⟩).take 32)) % ell) = ⟨#[10, 0, 0, 0, 0, 0, 0, 0, 0, 0, 0, 0, 0, 0, 0, 0, 0, 0, 0, 0, 0, 0, 0, 0, 0, 0, 0, 0, 0, 0, 0, 0]⟩ from by decide +kernel] at h
    exact h
  have c2 : ∀ W : World, Calls Tryd.prog 18 #[.string ⟨#[255]⟩] W fun e w' => e = .returned (.string ⟨#[248, 0, 0, 0, 0, 0, 0, 0, 0, 0, 0, 0, 0, 0, 0, 0, 0, 0, 0, 0, 0, 0, 0, 0, 0, 0, 0, 0, 0, 0, 0, 64]⟩) ∧ Touch [] W w' := fun W  => by
    have h := clamp_any ⟨#[255]⟩ W
    rw [show strOfNums ((clampL (bl ⟨#[255]⟩)).map fun (n : Nat) => (n : Int)) = ⟨#[248, 0, 0, 0, 0, 0, 0, 0, 0, 0, 0, 0, 0, 0, 0, 0, 0, 0, 0, 0, 0, 0, 0, 0, 0, 0, 0, 0, 0, 0, 0, 64]⟩ from by decide +kernel] at h
    exact h
  have c3 : ∀ W : World, Ord W → Calls Tryd.prog 11 #[.string ⟨#[237, 211, 245, 92, 26, 99, 18, 88, 214, 156, 247, 162, 222, 249, 222, 20, 0, 0, 0, 0, 0, 0, 0, 0, 0, 0, 0, 0, 0, 0, 0, 16]⟩] W fun e w' => e = .returned (.string ⟨#[0, 0, 0, 0, 0, 0, 0, 0, 0, 0, 0, 0, 0, 0, 0, 0, 0, 0, 0, 0, 0, 0, 0, 0, 0, 0, 0, 0, 0, 0, 0, 0]⟩) ∧ Touch [] W w' := fun W ho => by
    have h := cutS_any ⟨#[237, 211, 245, 92, 26, 99, 18, 88, 214, 156, 247, 162, 222, 249, 222, 20, 0, 0, 0, 0, 0, 0, 0, 0, 0, 0, 0, 0, 0, 0, 0, 16]⟩ W ho
    rw [show toS (numS ⟨#[237, 211, 245, 92, 26, 99, 18, 88, 214, 156, 247, 162, 222, 249, 222, 20, 0, 0, 0, 0, 0, 0, 0, 0, 0, 0, 0, 0, 0, 0, 0, 16]⟩ % ell) = ⟨#[0, 0, 0, 0, 0, 0, 0, 0, 0, 0, 0, 0, 0, 0, 0, 0, 0, 0, 0, 0, 0, 0, 0, 0, 0, 0, 0, 0, 0, 0, 0, 0]⟩ from by decide +kernel] at h
    exact h
  have c4 : ∀ W : World, Ord W → Calls Tryd.prog 9 #[.string ⟨#[237, 211, 245, 92, 26, 99, 18, 88, 214, 156, 247, 162, 222, 249, 222, 20, 0, 0, 0, 0, 0, 0, 0, 0, 0, 0, 0, 0, 0, 0, 0, 16]⟩] W fun e w' => e = .returned (.bool false) ∧ Touch [] W w' := fun W ho => by
    have h := right_any ⟨#[237, 211, 245, 92, 26, 99, 18, 88, 214, 156, 247, 162, 222, 249, 222, 20, 0, 0, 0, 0, 0, 0, 0, 0, 0, 0, 0, 0, 0, 0, 0, 16]⟩ W ho
    rw [show rightB ⟨#[237, 211, 245, 92, 26, 99, 18, 88, 214, 156, 247, 162, 222, 249, 222, 20, 0, 0, 0, 0, 0, 0, 0, 0, 0, 0, 0, 0, 0, 0, 0, 16]⟩ = false from by decide +kernel] at h
    exact h
  have c5 : ∀ W : World, Ord W → Calls Tryd.prog 9 #[.string ⟨#[0, 0, 0, 0, 0, 0, 0, 0, 0, 0, 0, 0, 0, 0, 0, 0, 0, 0, 0, 0, 0, 0, 0, 0, 0, 0, 0, 0, 0, 0, 0, 0]⟩] W fun e w' => e = .returned (.bool true) ∧ Touch [] W w' := fun W ho => by
    have h := right_any ⟨#[0, 0, 0, 0, 0, 0, 0, 0, 0, 0, 0, 0, 0, 0, 0, 0, 0, 0, 0, 0, 0, 0, 0, 0, 0, 0, 0, 0, 0, 0, 0, 0]⟩ W ho
    rw [show rightB ⟨#[0, 0, 0, 0, 0, 0, 0, 0, 0, 0, 0, 0, 0, 0, 0, 0, 0, 0, 0, 0, 0, 0, 0, 0, 0, 0, 0, 0, 0, 0, 0, 0]⟩ = true from by decide +kernel] at h
    exact h
  have c6 : ∀ W : World, Ord W → Calls Tryd.prog 9 #[.string ⟨#[120]⟩] W fun e w' => e = .returned (.bool false) ∧ Touch [] W w' := fun W ho => by
    have h := right_any ⟨#[120]⟩ W ho
    rw [show rightB ⟨#[120]⟩ = false from by decide +kernel] at h
    exact h
  have c7 : ∀ W : World, Ord W → Calls Tryd.prog 15 #[.string ⟨#[1]⟩] W fun e w' => e = .returned (.string ⟨#[236, 211, 245, 92, 26, 99, 18, 88, 214, 156, 247, 162, 222, 249, 222, 20, 0, 0, 0, 0, 0, 0, 0, 0, 0, 0, 0, 0, 0, 0, 0, 16]⟩) ∧ Touch [] W w' := fun W ho => by
    have h := neg_any ⟨#[1]⟩ W ho
    rw [show toS (negN (numS ⟨#[1]⟩)) = ⟨#[236, 211, 245, 92, 26, 99, 18, 88, 214, 156, 247, 162, 222, 249, 222, 20, 0, 0, 0, 0, 0, 0, 0, 0, 0, 0, 0, 0, 0, 0, 0, 16]⟩ from by decide +kernel] at h
    exact h
  have c8 : ∀ W : World, Ord W → Calls Tryd.prog 15 #[.string ⟨#[]⟩] W fun e w' => e = .returned (.string ⟨#[0, 0, 0, 0, 0, 0, 0, 0, 0, 0, 0, 0, 0, 0, 0, 0, 0, 0, 0, 0, 0, 0, 0, 0, 0, 0, 0, 0, 0, 0, 0, 0]⟩) ∧ Touch [] W w' := fun W ho => by
    have h := neg_any ⟨#[]⟩ W ho
    rw [show toS (negN (numS ⟨#[]⟩)) = ⟨#[0, 0, 0, 0, 0, 0, 0, 0, 0, 0, 0, 0, 0, 0, 0, 0, 0, 0, 0, 0, 0, 0, 0, 0, 0, 0, 0, 0, 0, 0, 0, 0]⟩ from by decide +kernel] at h
    exact h
  have b1 : ∀ W : World, Calls Tryd.prog 19 #[.string ⟨#[4, 128]⟩, .int .i64 (2)] W fun e w' => e = .returned (.int .i64 1) ∧ W = w' := fun W => by
    have h := bit_any ⟨#[4, 128]⟩ (2) (by omega) W
    rw [show bitS ⟨#[4, 128]⟩ (2) = 1 from by decide +kernel] at h
    exact h
  have b2 : ∀ W : World, Calls Tryd.prog 19 #[.string ⟨#[4, 128]⟩, .int .i64 (15)] W fun e w' => e = .returned (.int .i64 1) ∧ W = w' := fun W => by
    have h := bit_any ⟨#[4, 128]⟩ (15) (by omega) W
    rw [show bitS ⟨#[4, 128]⟩ (15) = 1 from by decide +kernel] at h
    exact h
  have b3 : ∀ W : World, Calls Tryd.prog 19 #[.string ⟨#[4, 128]⟩, .int .i64 (3)] W fun e w' => e = .returned (.int .i64 0) ∧ W = w' := fun W => by
    have h := bit_any ⟨#[4, 128]⟩ (3) (by omega) W
    rw [show bitS ⟨#[4, 128]⟩ (3) = 0 from by decide +kernel] at h
    exact h
  have b4 : ∀ W : World, Calls Tryd.prog 19 #[.string ⟨#[4, 128]⟩, .int .i64 (16)] W fun e w' => e = .returned (.int .i64 0) ∧ W = w' := fun W => by
    have h := bit_any ⟨#[4, 128]⟩ (16) (by omega) W
    rw [show bitS ⟨#[4, 128]⟩ (16) = 0 from by decide +kernel] at h
    exact h
  have b5 : ∀ W : World, Calls Tryd.prog 19 #[.string ⟨#[255]⟩, .int .i64 (-1)] W fun e w' => e = .returned (.int .i64 0) ∧ W = w' := fun W => by
    have h := bit_any ⟨#[255]⟩ (-1) (by omega) W
    rw [show bitS ⟨#[255]⟩ (-1) = 0 from by decide +kernel] at h
    exact h
  have Hord := Lib.hid hord
  have H := Lib.hid (And.intro c1 (And.intro c2 (And.intro c3 (And.intro c4 (And.intro c5 (And.intro c6 (And.intro c7 c8)))))))
  have K := Lib.hid (And.intro b1 (And.intro b2 (And.intro b3 (And.intro b4 b5))))
  clear hord c1 c2 c3 c4 c5 c6 c7 c8 b1 b2 b3 b4 b5
  go_enter Tryd.func17, Tryd.ntmps17
  go_wp2_with fail
  refine (H.out.1 _ (Hord.out.touch (Touch.refl [] w))).mono ?_
  rintro e w1 ⟨rfl, ht⟩
  have T1 := Lib.hid ((Touch.refl [] w).trans ht)
  clear ht
  go_wp2_with fail
  refine (H.out.2.1 _).mono ?_
  rintro e w2 ⟨rfl, ht⟩
  have T2 := Lib.hid (T1.out.trans ht)
  clear ht
  go_wp2_with fail
  have hT := T2.out.drew
  simp only [List.append_eq, List.cons_append, List.nil_append]
  go_region_held3 (fun W => Touch [] w W) (first | assumption | exact Touch.trans (by assumption) ht)
    (first | (go_at_call 11; with_reducible_and_instances refine (H.out.2.2.1 _ (Hord.out.touch (by assumption))).mono ?_; rintro e wz ⟨rfl, ht⟩) | (go_at_call 9; with_reducible_and_instances refine (H.out.2.2.2.1 _ (Hord.out.touch (by assumption))).mono ?_; rintro e wz ⟨rfl, ht⟩) | (go_at_call 9; with_reducible_and_instances refine (H.out.2.2.2.2.1 _ (Hord.out.touch (by assumption))).mono ?_; rintro e wz ⟨rfl, ht⟩) | (go_at_call 9; with_reducible_and_instances refine (H.out.2.2.2.2.2.1 _ (Hord.out.touch (by assumption))).mono ?_; rintro e wz ⟨rfl, ht⟩) | (go_at_call 15; with_reducible_and_instances refine (H.out.2.2.2.2.2.2.1 _ (Hord.out.touch (by assumption))).mono ?_; rintro e wz ⟨rfl, ht⟩) | (go_at_call 15; with_reducible_and_instances refine (H.out.2.2.2.2.2.2.2 _ (Hord.out.touch (by assumption))).mono ?_; rintro e wz ⟨rfl, ht⟩) | (go_at_call 22; refine (zero_any _).mono ?_; rintro e wz ⟨rfl, rfl⟩) | (go_at_call 19; with_reducible_and_instances refine (K.out.1 _).mono ?_; rintro e wz ⟨rfl, rfl⟩) | (go_at_call 19; with_reducible_and_instances refine (K.out.2.1 _).mono ?_; rintro e wz ⟨rfl, rfl⟩) | (go_at_call 19; with_reducible_and_instances refine (K.out.2.2.1 _).mono ?_; rintro e wz ⟨rfl, rfl⟩) | (go_at_call 19; with_reducible_and_instances refine (K.out.2.2.2.1 _).mono ?_; rintro e wz ⟨rfl, rfl⟩) | (go_at_call 19; with_reducible_and_instances refine (K.out.2.2.2.2 _).mono ?_; rintro e wz ⟨rfl, rfl⟩))
  rename_i hHeld
  go_wp2_with fail
  go_ret
  exact ⟨rfl, hHeld⟩
end Go.Proofs.YtcnmpflbmnnkbaaDoor
