/- retry.Wait, a config that may be. -/
import Derived.Test.YtehbfoiadinhbaaRtSat
import Derived.Test.YtehbfoiadinhbaaRtMap
import Derived.Deep.QuietTactic
import Derived.BigQuiet
import Derived.Deep.Cut
import Derived.Deep.DeepCutAuto
namespace Go.Proofs.Ytehbfoiadinhbaa
open Go Go.RowKit
structure Cf where
  base : Int
  most : Int
  span : Int
  tries : Int
  room : Int
def cfC (c : Cf) : List Value := [.int .u64 c.base, .int .u64 c.most, .int .u64 c.span, .int .i64 c.tries, .int .i64 c.room]
def cfV (c : Cf) : Value := .agg #[.int .u64 c.base, .int .u64 c.most, .int .u64 c.span, .int .i64 c.tries, .int .i64 c.room]
/-- What the types allow. -/
structure CfT (c : Cf) : Prop where
  b0 : 0 ≤ c.base
  b1 : c.base < 18446744073709551616
  m0 : 0 ≤ c.most
  m1 : c.most < 18446744073709551616
  s0 : 0 ≤ c.span
  s1 : c.span < 18446744073709551616
  t0 : -9223372036854775808 ≤ c.tries
  t1 : c.tries < 9223372036854775808
  r0 : -9223372036854775808 ≤ c.room
  r1 : c.room < 9223372036854775808
def cfOk (c : Cf) : Prop := 1 ≤ c.base ∧ c.base ≤ c.most ∧ c.most ≤ 1099511627776 ∧ c.span ≤ 1099511627776 ∧ 1 ≤ c.tries ∧ c.tries ≤ 1000 ∧ 1 ≤ c.room ∧ c.room ≤ 10000
instance (c : Cf) : Decidable (cfOk c) := by unfold cfOk; exact inferInstance
/-- How long one waits. -/
def waitV (c : Cf) (k draw : Int) : Int := addS (backS c.base k c.most) (spreadS c.span draw)
theorem backS_rng {n k m : Int} (hn : 0 ≤ n) (hn' : n < 18446744073709551616) (hm : 0 ≤ m) (hm' : m < 18446744073709551616) : 0 ≤ backS n k m ∧ backS n k m < 18446744073709551616 := by
  unfold backS
  have := dbl_rng hn hn' k.toNat
  split <;> omega
theorem spreadS_rng {s d : Int} (hs : 0 ≤ s) (hd : 0 ≤ d) (hd' : d < 18446744073709551616) : 0 ≤ spreadS s d ∧ spreadS s d < 18446744073709551616 := by
  unfold spreadS
  split
  · exact ⟨hd, hd'⟩
  · have h1 := Int.emod_nonneg d (show s + 1 ≠ 0 by omega)
    have h2 := Int.emod_lt_of_pos d (show 0 < s + 1 by omega)
    have h3 : d % (s + 1) ≤ d := by
      obtain ⟨n, rfl⟩ := Int.eq_ofNat_of_zero_le hd
      obtain ⟨m, hm⟩ := Int.eq_ofNat_of_zero_le (show 0 ≤ s + 1 by omega)
      rw [hm]
      have := Nat.mod_le n m
      omega
    omega
theorem waitV_rng {c : Cf} (h : CfT c) {k d : Int} (hd : 0 ≤ d) (hd' : d < 18446744073709551616) : 0 ≤ waitV c k d ∧ waitV c k d < 18446744073709551616 :=
  addS_rng (backS_rng h.b0 h.b1 h.m0 h.m1).1 (spreadS_rng h.s0 hd hd').1
theorem same_sym {f : FuncId} {xs : Array Value} {w : World} {v : Value} (h : Calls Try.prog f xs w fun e w' => e = .returned v ∧ w = w') : Calls Try.prog f xs w fun e w' => e = .returned v ∧ w' = w := h.mono fun _ _ ⟨a, b⟩ => ⟨a, b.symm⟩
set_option maxRecDepth 100000 in
theorem wait_any (c : Cf) (hc : CfT c) (k d : Int) (hk : -9223372036854775808 ≤ k ∧ k < 9223372036854775808) (hd : 0 ≤ d ∧ d < 18446744073709551616) (w : World) :
    Calls Try.prog 18 #[cfV c, .int .i64 k, .int .u64 d] w fun e w' => e = .returned (.int .u64 (waitV c k d)) ∧ Touch [] w w' := by
  have HB := Lib.hid (fun W => satBack_any c.base k c.most hc.b0 hc.b1 hk.1 hk.2 hc.m0 hc.m1 W)
  have HS := Lib.hid (fun W => satSpread_any c.span d hc.s0 hc.s1 hd.1 hd.2 W)
  have hb := backS_rng (k := k) hc.b0 hc.b1 hc.m0 hc.m1
  have hs := spreadS_rng hc.s0 hd.1 hd.2
  have HA := Lib.hid (fun W => satAdd_any (backS c.base k c.most) (spreadS c.span d) hb.1 hb.2 hs.1 hs.2 W)
  have HW := Lib.hid (show waitV c k d = addS (backS c.base k c.most) (spreadS c.span d) from rfl)
  rw [HW.out]
  obtain ⟨x, hx⟩ : ∃ x, x = backS c.base k c.most := ⟨_, rfl⟩
  obtain ⟨y, hy⟩ : ∃ y, y = spreadS c.span d := ⟨_, rfl⟩
  obtain ⟨z, hz⟩ : ∃ z, z = addS (backS c.base k c.most) (spreadS c.span d) := ⟨_, rfl⟩
  rw [← hz] at HA ⊢
  rw [← hx] at HA HB
  rw [← hy] at HA HS
  clear HW hx hy hz hb hs hc hk hd
  unfold cfV
  obtain ⟨cb, cm, cs, ct, cr⟩ := c
  simp only at HB HS ⊢
  go_enter Try.func18, Try.ntmps18
  go_upto_region 1 with fail
  go_quiet ((first | (go_at_call 12; exact Calls.quiet_of_same (same_sym (HB.out _))) | (go_at_call 32; exact Calls.quiet_of_same (same_sym (HS.out _))) | (go_at_call 15; exact Calls.quiet_of_same (same_sym (HA.out _)))))
  go_wp2_with fail
  go_ret
  exact ⟨rfl, ((Touch.refl _ _).alloc _).drewN nq⟩
end Go.Proofs.Ytehbfoiadinhbaa
