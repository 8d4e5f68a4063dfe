/- A config that may be; a new table. -/
import Derived.Test.YtehbfoiadinhbaaRtWait
namespace Go.Proofs.Ytehbfoiadinhbaa
open Go Go.RowKit
def IsSo (b : Bool) (w : World) (e : Ending) (w' : World) : Prop := e = .returned (.bool b) ∧ Touch [] w w'
set_option maxRecDepth 100000 in
theorem right_0 (c : Cf) (h0 : decide (1 ≤ c.base) = false) (w : World) : Calls Try.prog 26 #[cfV c] w (IsSo false w) := by
  unfold cfV
  obtain ⟨cb, cm, cs, ct, cr⟩ := c
  simp only at h0 ⊢
  go_enter Try.func26, Try.ntmps26
  go_wp2_with fail
  go_ret
  exact ⟨rfl, (Touch.refl _ _).alloc _⟩
set_option maxRecDepth 100000 in
theorem right_1 (c : Cf) (h0 : decide (1 ≤ c.base) = true) (h1 : decide (c.base ≤ c.most) = false) (w : World) : Calls Try.prog 26 #[cfV c] w (IsSo false w) := by
  unfold cfV
  obtain ⟨cb, cm, cs, ct, cr⟩ := c
  simp only at h0 h1 ⊢
  go_enter Try.func26, Try.ntmps26
  go_wp2_with fail
  go_ret
  exact ⟨rfl, (Touch.refl _ _).alloc _⟩
set_option maxRecDepth 100000 in
theorem right_2 (c : Cf) (h0 : decide (1 ≤ c.base) = true) (h1 : decide (c.base ≤ c.most) = true) (h2 : decide (c.most ≤ 1099511627776) = false) (w : World) : Calls Try.prog 26 #[cfV c] w (IsSo false w) := by
  unfold cfV
  obtain ⟨cb, cm, cs, ct, cr⟩ := c
  simp only at h0 h1 h2 ⊢
  go_enter Try.func26, Try.ntmps26
  go_wp2_with fail
  go_ret
  exact ⟨rfl, (Touch.refl _ _).alloc _⟩
set_option maxRecDepth 100000 in
theorem right_3 (c : Cf) (h0 : decide (1 ≤ c.base) = true) (h1 : decide (c.base ≤ c.most) = true) (h2 : decide (c.most ≤ 1099511627776) = true) (h3 : decide (c.span ≤ 1099511627776) = false) (w : World) : Calls Try.prog 26 #[cfV c] w (IsSo false w) := by
  unfold cfV
  obtain ⟨cb, cm, cs, ct, cr⟩ := c
  simp only at h0 h1 h2 h3 ⊢
  go_enter Try.func26, Try.ntmps26
  go_wp2_with fail
  go_ret
  exact ⟨rfl, (Touch.refl _ _).alloc _⟩
set_option maxRecDepth 100000 in
theorem right_4 (c : Cf) (h0 : decide (1 ≤ c.base) = true) (h1 : decide (c.base ≤ c.most) = true) (h2 : decide (c.most ≤ 1099511627776) = true) (h3 : decide (c.span ≤ 1099511627776) = true) (h4 : decide (1 ≤ c.tries) = false) (w : World) : Calls Try.prog 26 #[cfV c] w (IsSo false w) := by
  unfold cfV
  obtain ⟨cb, cm, cs, ct, cr⟩ := c
  simp only at h0 h1 h2 h3 h4 ⊢
  go_enter Try.func26, Try.ntmps26
  go_wp2_with fail
  go_ret
  exact ⟨rfl, (Touch.refl _ _).alloc _⟩
set_option maxRecDepth 100000 in
theorem right_5 (c : Cf) (h0 : decide (1 ≤ c.base) = true) (h1 : decide (c.base ≤ c.most) = true) (h2 : decide (c.most ≤ 1099511627776) = true) (h3 : decide (c.span ≤ 1099511627776) = true) (h4 : decide (1 ≤ c.tries) = true) (h5 : decide (c.tries ≤ 1000) = false) (w : World) : Calls Try.prog 26 #[cfV c] w (IsSo false w) := by
  unfold cfV
  obtain ⟨cb, cm, cs, ct, cr⟩ := c
  simp only at h0 h1 h2 h3 h4 h5 ⊢
  go_enter Try.func26, Try.ntmps26
  go_wp2_with fail
  go_ret
  exact ⟨rfl, (Touch.refl _ _).alloc _⟩
set_option maxRecDepth 100000 in
theorem right_6 (c : Cf) (h0 : decide (1 ≤ c.base) = true) (h1 : decide (c.base ≤ c.most) = true) (h2 : decide (c.most ≤ 1099511627776) = true) (h3 : decide (c.span ≤ 1099511627776) = true) (h4 : decide (1 ≤ c.tries) = true) (h5 : decide (c.tries ≤ 1000) = true) (h6 : decide (1 ≤ c.room) = false) (w : World) : Calls Try.prog 26 #[cfV c] w (IsSo false w) := by
  unfold cfV
  obtain ⟨cb, cm, cs, ct, cr⟩ := c
  simp only at h0 h1 h2 h3 h4 h5 h6 ⊢
  go_enter Try.func26, Try.ntmps26
  go_wp2_with fail
  go_ret
  exact ⟨rfl, (Touch.refl _ _).alloc _⟩
set_option maxRecDepth 100000 in
theorem right_7 (c : Cf) (h0 : decide (1 ≤ c.base) = true) (h1 : decide (c.base ≤ c.most) = true) (h2 : decide (c.most ≤ 1099511627776) = true) (h3 : decide (c.span ≤ 1099511627776) = true) (h4 : decide (1 ≤ c.tries) = true) (h5 : decide (c.tries ≤ 1000) = true) (h6 : decide (1 ≤ c.room) = true) (h7 : decide (c.room ≤ 10000) = false) (w : World) : Calls Try.prog 26 #[cfV c] w (IsSo false w) := by
  unfold cfV
  obtain ⟨cb, cm, cs, ct, cr⟩ := c
  simp only at h0 h1 h2 h3 h4 h5 h6 h7 ⊢
  go_enter Try.func26, Try.ntmps26
  go_wp2_with fail
  go_ret
  exact ⟨rfl, (Touch.refl _ _).alloc _⟩
set_option maxRecDepth 100000 in
theorem right_8 (c : Cf) (h0 : decide (1 ≤ c.base) = true) (h1 : decide (c.base ≤ c.most) = true) (h2 : decide (c.most ≤ 1099511627776) = true) (h3 : decide (c.span ≤ 1099511627776) = true) (h4 : decide (1 ≤ c.tries) = true) (h5 : decide (c.tries ≤ 1000) = true) (h6 : decide (1 ≤ c.room) = true) (h7 : decide (c.room ≤ 10000) = true) (w : World) : Calls Try.prog 26 #[cfV c] w (IsSo true w) := by
  unfold cfV
  obtain ⟨cb, cm, cs, ct, cr⟩ := c
  simp only at h0 h1 h2 h3 h4 h5 h6 h7 ⊢
  go_enter Try.func26, Try.ntmps26
  go_wp2_with fail
  go_ret
  exact ⟨rfl, (Touch.refl _ _).alloc _⟩
theorem right_yes (c : Cf) (h : cfOk c) (w : World) : Calls Try.prog 26 #[cfV c] w (IsSo true w) := by
  obtain ⟨h0, h1, h2, h3, h4, h5, h6, h7⟩ := h
  exact right_8 c (decide_eq_true h0) (decide_eq_true h1) (decide_eq_true h2) (decide_eq_true h3) (decide_eq_true h4) (decide_eq_true h5) (decide_eq_true h6) (decide_eq_true h7) w
theorem right_no (c : Cf) (h : ¬ cfOk c) (w : World) : Calls Try.prog 26 #[cfV c] w (IsSo false w) := by
  by_cases n0 : ¬ (1 ≤ c.base)
  · exact right_0 c  (decide_eq_false n0) w
  have h0 := Decidable.of_not_not n0
  by_cases n1 : ¬ (c.base ≤ c.most)
  · exact right_1 c (decide_eq_true h0) (decide_eq_false n1) w
  have h1 := Decidable.of_not_not n1
  by_cases n2 : ¬ (c.most ≤ 1099511627776)
  · exact right_2 c (decide_eq_true h0) (decide_eq_true h1) (decide_eq_false n2) w
  have h2 := Decidable.of_not_not n2
  by_cases n3 : ¬ (c.span ≤ 1099511627776)
  · exact right_3 c (decide_eq_true h0) (decide_eq_true h1) (decide_eq_true h2) (decide_eq_false n3) w
  have h3 := Decidable.of_not_not n3
  by_cases n4 : ¬ (1 ≤ c.tries)
  · exact right_4 c (decide_eq_true h0) (decide_eq_true h1) (decide_eq_true h2) (decide_eq_true h3) (decide_eq_false n4) w
  have h4 := Decidable.of_not_not n4
  by_cases n5 : ¬ (c.tries ≤ 1000)
  · exact right_5 c (decide_eq_true h0) (decide_eq_true h1) (decide_eq_true h2) (decide_eq_true h3) (decide_eq_true h4) (decide_eq_false n5) w
  have h5 := Decidable.of_not_not n5
  by_cases n6 : ¬ (1 ≤ c.room)
  · exact right_6 c (decide_eq_true h0) (decide_eq_true h1) (decide_eq_true h2) (decide_eq_true h3) (decide_eq_true h4) (decide_eq_true h5) (decide_eq_false n6) w
  have h6 := Decidable.of_not_not n6
  by_cases n7 : ¬ (c.room ≤ 10000)
  · exact right_7 c (decide_eq_true h0) (decide_eq_true h1) (decide_eq_true h2) (decide_eq_true h3) (decide_eq_true h4) (decide_eq_true h5) (decide_eq_true h6) (decide_eq_false n7) w
  have h7 := Decidable.of_not_not n7
  exact absurd ⟨h0, h1, h2, h3, h4, h5, h6, h7⟩ h
end Go.Proofs.Ytehbfoiadinhbaa
