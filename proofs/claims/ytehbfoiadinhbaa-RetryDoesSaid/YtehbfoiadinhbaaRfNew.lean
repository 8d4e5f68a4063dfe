/- The document's table: New, Wait, and a config for it. -/
import Derived.Test.YtehbfoiadinhbaaRfPut
namespace Go.Proofs.Ytehbfoiadinhbaa
open Go Go.RowKit
def NoRf (w : World) (e : Ending) (w' : World) : Prop := e = .returned (.tuple #[.pointer none, .int .i64 1]) ∧ Touch [] w w'
set_option maxRecDepth 100000 in
theorem rfNew_0 (c : Cf) (h0 : decide (c.base < 1) = true) (w : World) : Calls Try.prog 19 #[cfV c] w (NoRf w) := by
  unfold cfV
  obtain ⟨cb, cm, cs, ct, cr⟩ := c
  simp only at h0 ⊢
  go_enter Try.func19, Try.ntmps19
  go_wp2_with fail
  go_ret2
  exact ⟨rfl, (Touch.refl _ _).alloc _⟩
set_option maxRecDepth 100000 in
theorem rfNew_1 (c : Cf) (h0 : decide (c.base < 1) = false) (h1 : decide (c.most < c.base) = true) (w : World) : Calls Try.prog 19 #[cfV c] w (NoRf w) := by
  unfold cfV
  obtain ⟨cb, cm, cs, ct, cr⟩ := c
  simp only at h0 h1 ⊢
  go_enter Try.func19, Try.ntmps19
  go_wp2_with fail
  go_ret2
  exact ⟨rfl, (Touch.refl _ _).alloc _⟩
set_option maxRecDepth 100000 in
theorem rfNew_2 (c : Cf) (h0 : decide (c.base < 1) = false) (h1 : decide (c.most < c.base) = false) (h2 : decide (1099511627776 < c.most) = true) (w : World) : Calls Try.prog 19 #[cfV c] w (NoRf w) := by
  unfold cfV
  obtain ⟨cb, cm, cs, ct, cr⟩ := c
  simp only at h0 h1 h2 ⊢
  go_enter Try.func19, Try.ntmps19
  go_wp2_with fail
  go_ret2
  exact ⟨rfl, (Touch.refl _ _).alloc _⟩
set_option maxRecDepth 100000 in
theorem rfNew_3 (c : Cf) (h0 : decide (c.base < 1) = false) (h1 : decide (c.most < c.base) = false) (h2 : decide (1099511627776 < c.most) = false) (h3 : decide (1099511627776 < c.span) = true) (w : World) : Calls Try.prog 19 #[cfV c] w (NoRf w) := by
  unfold cfV
  obtain ⟨cb, cm, cs, ct, cr⟩ := c
  simp only at h0 h1 h2 h3 ⊢
  go_enter Try.func19, Try.ntmps19
  go_wp2_with fail
  go_ret2
  exact ⟨rfl, (Touch.refl _ _).alloc _⟩
set_option maxRecDepth 100000 in
theorem rfNew_4 (c : Cf) (h0 : decide (c.base < 1) = false) (h1 : decide (c.most < c.base) = false) (h2 : decide (1099511627776 < c.most) = false) (h3 : decide (1099511627776 < c.span) = false) (h4 : decide (c.tries < 1) = true) (w : World) : Calls Try.prog 19 #[cfV c] w (NoRf w) := by
  unfold cfV
  obtain ⟨cb, cm, cs, ct, cr⟩ := c
  simp only at h0 h1 h2 h3 h4 ⊢
  go_enter Try.func19, Try.ntmps19
  go_wp2_with fail
  go_ret2
  exact ⟨rfl, (Touch.refl _ _).alloc _⟩
set_option maxRecDepth 100000 in
theorem rfNew_5 (c : Cf) (h0 : decide (c.base < 1) = false) (h1 : decide (c.most < c.base) = false) (h2 : decide (1099511627776 < c.most) = false) (h3 : decide (1099511627776 < c.span) = false) (h4 : decide (c.tries < 1) = false) (h5 : decide (1000 < c.tries) = true) (w : World) : Calls Try.prog 19 #[cfV c] w (NoRf w) := by
  unfold cfV
  obtain ⟨cb, cm, cs, ct, cr⟩ := c
  simp only at h0 h1 h2 h3 h4 h5 ⊢
  go_enter Try.func19, Try.ntmps19
  go_wp2_with fail
  go_ret2
  exact ⟨rfl, (Touch.refl _ _).alloc _⟩
set_option maxRecDepth 100000 in
theorem rfNew_6 (c : Cf) (h0 : decide (c.base < 1) = false) (h1 : decide (c.most < c.base) = false) (h2 : decide (1099511627776 < c.most) = false) (h3 : decide (1099511627776 < c.span) = false) (h4 : decide (c.tries < 1) = false) (h5 : decide (1000 < c.tries) = false) (h6 : decide (c.room < 1) = true) (w : World) : Calls Try.prog 19 #[cfV c] w (NoRf w) := by
  unfold cfV
  obtain ⟨cb, cm, cs, ct, cr⟩ := c
  simp only at h0 h1 h2 h3 h4 h5 h6 ⊢
  go_enter Try.func19, Try.ntmps19
  go_wp2_with fail
  go_ret2
  exact ⟨rfl, (Touch.refl _ _).alloc _⟩
set_option maxRecDepth 100000 in
theorem rfNew_7 (c : Cf) (h0 : decide (c.base < 1) = false) (h1 : decide (c.most < c.base) = false) (h2 : decide (1099511627776 < c.most) = false) (h3 : decide (1099511627776 < c.span) = false) (h4 : decide (c.tries < 1) = false) (h5 : decide (1000 < c.tries) = false) (h6 : decide (c.room < 1) = false) (h7 : decide (10000 < c.room) = true) (w : World) : Calls Try.prog 19 #[cfV c] w (NoRf w) := by
  unfold cfV
  obtain ⟨cb, cm, cs, ct, cr⟩ := c
  simp only at h0 h1 h2 h3 h4 h5 h6 h7 ⊢
  go_enter Try.func19, Try.ntmps19
  go_wp2_with fail
  go_ret2
  exact ⟨rfl, (Touch.refl _ _).alloc _⟩
set_option maxRecDepth 100000 in
theorem rfNew_8 (c : Cf) (h0 : decide (c.base < 1) = false) (h1 : decide (c.most < c.base) = false) (h2 : decide (1099511627776 < c.most) = false) (h3 : decide (1099511627776 < c.span) = false) (h4 : decide (c.tries < 1) = false) (h5 : decide (1000 < c.tries) = false) (h6 : decide (c.room < 1) = false) (h7 : decide (10000 < c.room) = false) (w : World) : Calls Try.prog 19 #[cfV c] w fun e w' => e = .returned (.tuple #[.pointer (some ⟨w.heap.size + 1, 0, none⟩), .int .i64 0]) ∧ (w.alloc (.cells (cfC c).toArray 54)).alloc (.cells (rqC c (.slice none 0 0)) 61) = w' := by
  unfold cfV cfC rqC
  obtain ⟨cb, cm, cs, ct, cr⟩ := c
  simp only at h0 h1 h2 h3 h4 h5 h6 h7 ⊢
  go_enter Try.func19, Try.ntmps19
  go_wp2_with fail
  go_ret2
  exact ⟨rfl, rfl⟩
def NewRf (c : Cf) (w0 : World) (B : Nat) (rs : List Res) (e : Ending) (w' : World) : Prop := ∃ q, e = .returned (.tuple #[.pointer (some ⟨q, 0, none⟩), .int .i64 0]) ∧ Sep w0 B w' (rqRes q c (.slice none 0 0) :: rowQ (.slice none 0 0) [] T0 :: rs)
theorem rfNew_yes {w0 w : World} {B : Nat} {rs : List Res} (h : Sep w0 B w rs) (c : Cf) (hc : cfOk c) : Calls Try.prog 19 #[cfV c] w (NewRf c w0 B rs) := by
  obtain ⟨h0, h1, h2, h3, h4, h5, h6, h7⟩ := hc
  refine (rfNew_8 c (decide_eq_false (by omega)) (decide_eq_false (by omega)) (decide_eq_false (by omega)) (decide_eq_false (by omega)) (decide_eq_false (by omega)) (decide_eq_false (by omega)) (decide_eq_false (by omega)) (decide_eq_false (by omega)) w).mono ?_
  rintro e w' ⟨he, hw⟩
  subst hw
  refine ⟨w.heap.size + 1, he, ?_⟩
  have hs1 := (h.alloc (.cells (cfC c).toArray 54)).bare 75 3 none
  exact hs1.add (r := rqRes (w.heap.size + 1) c (.slice none 0 0)) (F := [w.heap.size + 1]) ⟨rfl, by
    have := Blk.new (w.alloc (.cells (cfC c).toArray 54)) 61 (rqC c (.slice none 0 0))
    simpa using this⟩ ((Touch.refl _ _).alloc _) (by simp)
theorem rfNew_no (c : Cf) (h : ¬ cfOk c) (w : World) : Calls Try.prog 19 #[cfV c] w (NoRf w) := by
  by_cases h0 : c.base < 1
  · exact rfNew_0 c (decide_eq_true h0) w
  by_cases h1 : c.most < c.base
  · exact rfNew_1 c (decide_eq_false h0) (decide_eq_true h1) w
  by_cases h2 : 1099511627776 < c.most
  · exact rfNew_2 c (decide_eq_false h0) (decide_eq_false h1) (decide_eq_true h2) w
  by_cases h3 : 1099511627776 < c.span
  · exact rfNew_3 c (decide_eq_false h0) (decide_eq_false h1) (decide_eq_false h2) (decide_eq_true h3) w
  by_cases h4 : c.tries < 1
  · exact rfNew_4 c (decide_eq_false h0) (decide_eq_false h1) (decide_eq_false h2) (decide_eq_false h3) (decide_eq_true h4) w
  by_cases h5 : 1000 < c.tries
  · exact rfNew_5 c (decide_eq_false h0) (decide_eq_false h1) (decide_eq_false h2) (decide_eq_false h3) (decide_eq_false h4) (decide_eq_true h5) w
  by_cases h6 : c.room < 1
  · exact rfNew_6 c (decide_eq_false h0) (decide_eq_false h1) (decide_eq_false h2) (decide_eq_false h3) (decide_eq_false h4) (decide_eq_false h5) (decide_eq_true h6) w
  by_cases h7 : 10000 < c.room
  · exact rfNew_7 c (decide_eq_false h0) (decide_eq_false h1) (decide_eq_false h2) (decide_eq_false h3) (decide_eq_false h4) (decide_eq_false h5) (decide_eq_false h6) (decide_eq_true h7) w
  exact absurd ⟨by omega, by omega, by omega, by omega, by omega, by omega, by omega, by omega⟩ h
set_option maxRecDepth 100000 in
theorem conf_any (c : Cf) (w : World) : Calls Try.prog 20 #[cfV c] w fun e w' => e = .returned (cfV c) ∧ Touch [] w w' := by
  unfold cfV
  obtain ⟨cb, cm, cs, ct, cr⟩ := c
  simp only
  go_enter Try.func20, Try.ntmps20
  go_wp2_with fail
  refine bodyPost_ret (results_cell_row Try.results20 _ _ (w.heap.size + 1) 54 #[.int .u64 cb, .int .u64 cm, .int .u64 cs, .int .i64 ct, .int .i64 cr] (0, 0) _ rfl ?_ Try.underlying54 rfl rfl) rfl ⟨rfl, ((Touch.refl _ _).alloc _).alloc _⟩
  exact heap_alloc2_new _ _ _
set_option maxRecDepth 100000 in
theorem rfWait_any (c : Cf) (hc : CfT c) (k d : Int) (hk : -9223372036854775808 ≤ k ∧ k < 9223372036854775808) (hd : 0 ≤ d ∧ d < 18446744073709551616) (w : World) :
    Calls Try.prog 25 #[cfV c, .int .i64 k, .int .u64 d] w fun e w' => e = .returned (.int .u64 (waitV c k d)) ∧ Touch [] w w' := by
  have HB := Lib.hid (fun W => refBack_any c.base k c.most hc.b0 hc.b1 hk.1 hk.2 hc.m0 hc.m1 W)
  have HS := Lib.hid (fun W => refSpread_any c.span d hc.s0 hc.s1 hd.1 hd.2 W)
  have hb := backS_rng (k := k) hc.b0 hc.b1 hc.m0 hc.m1
  have hs := spreadS_rng hc.s0 hd.1 hd.2
  have HA := Lib.hid (fun W => refAdd_any (backS c.base k c.most) (spreadS c.span d) hb.1 hb.2 hs.1 hs.2 W)
  have HW := Lib.hid (show waitV c k d = addS (backS c.base k c.most) (spreadS c.span d) from rfl)
  rw [HW.out]
  obtain ⟨x, hx⟩ : ∃ x, x = backS c.base k c.most := ⟨_, rfl⟩
  obtain ⟨y, hy⟩ : ∃ y, y = spreadS c.span d := ⟨_, rfl⟩
  obtain ⟨z, hz⟩ : ∃ z, z = addS (backS c.base k c.most) (spreadS c.span d) := ⟨_, rfl⟩
  rw [← hz] at HA ⊢
  rw [← hx] at HA HB
  rw [← hy] at HA HS
  clear HW hx hy hz hb hs hc hk hd
  unfold cfV
  obtain ⟨cb, cm, cs, ct, cr⟩ := c
  simp only at HB HS ⊢
  go_enter Try.func25, Try.ntmps25
  go_upto_region 1 with fail
  go_quiet ((first | (go_at_call 37; exact Calls.quiet_of_same (same_sym (HB.out _))) | (go_at_call 38; exact Calls.quiet_of_same (same_sym (HS.out _))) | (go_at_call 34; exact Calls.quiet_of_same (same_sym (HA.out _)))))
  go_wp2_with fail
  go_ret
  exact ⟨rfl, ((Touch.refl _ _).alloc _).drewN nq⟩
theorem rfAdd_t {x y : Int} (hx : 0 ≤ x ∧ x < 18446744073709551616) (hy : 0 ≤ y ∧ y < 18446744073709551616) (w : World) : Calls Try.prog 34 #[.int .u64 x, .int .u64 y] w fun e w' => e = .returned (.int .u64 (addS x y)) ∧ Touch [] w w' :=
  (refAdd_any x y hx.1 hx.2 hy.1 hy.2 w).mono fun e w' ⟨h1, h2⟩ => by
    subst h2
    exact ⟨h1, Touch.refl _ _⟩
end Go.Proofs.Ytehbfoiadinhbaa
