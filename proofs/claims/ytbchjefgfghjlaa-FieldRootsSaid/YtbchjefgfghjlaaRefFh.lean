/- The document's negatives and differences modulo p. -/
import Derived.Test.YtbchjefgfghjlaaRefFg
import Derived.Deep.QuietTactic
import Derived.BigQuiet
namespace Go.Proofs.Ytbchjefgfghjlaa
open Go.RowKit
/-- What is missing to p, digit by digit; c is borrowed. -/
structure NegS (x p r : List Nat) (k c : Nat) : Prop where
  len : r.length = 16
  drop : ∀ j, k ≤ j → r.getD j 0 = x.getD j 0
  dig : DigN r
  val : dN (r.take k) + dN (x.take k) = dN (p.take k) + c * 65536 ^ k
  one : c ≤ 1
theorem take_set_ge {r : List Nat} {k m z : Nat} (h : k ≤ m) : (r.set m z).take k = r.take k := by
  rw [List.take_set_of_le h]
theorem NegS.step {x p r : List Nat} {k c a b z c' : Nat} (h : NegS x p r k c) (hk : k < 16) (hxl : x.length = 16) (hpl : p.length = 16) (ha : a = r.getD k 0) (hb : b = p.getD k 0) (hz : z < 65536) (he : z + a + c = b + c' * 65536) (hc : c' ≤ 1) : NegS x p (r.set k z) (k + 1) c' := by
  have h1 := h.len
  have hax : a = x.getD k 0 := by rw [ha]; exact h.drop k (Nat.le_refl _)
  refine ⟨by rw [List.length_set]; exact h1, fun j hj => by rw [set_get (by omega)]; exact h.drop j (by omega), fun y hy => ?_, ?_, hc⟩
  · rcases List.mem_or_eq_of_mem_set hy with h2 | h2
    · exact h.dig y h2
    · omega
  · have e1 := dN_take_succ (l := r.set k z) (k := k) (by rw [List.length_set]; omega)
    have e2 := dN_take_succ (l := x) (k := k) (by omega)
    have e3 := dN_take_succ (l := p) (k := k) (by omega)
    have e4 : (r.set k z).getD k 0 = z := by simp [List.getD, h1, hk]
    rw [take_set_ge (Nat.le_refl _), e4] at e1
    rw [e1, e2, e3, ← hax, ← hb]
    have hv := h.val
    rw [Nat.pow_succ]
    generalize (65536 : Nat) ^ k = P at *
    have : P * (z + a + c) = P * (b + c' * 65536) := by rw [he]
    grind
theorem NegS.done {x p r : List Nat} {c : Nat} (h : NegS x p r 16 c) (hxl : x.length = 16) (hpl : p.length = 16) (hp : dN p = PP) (hx : dN x ≤ PP) : dN r = PP - dN x := by
  have hv := h.val
  rw [List.take_of_length_le (by rw [h.len]; omega), List.take_of_length_le (by omega), List.take_of_length_le (by omega), hp] at hv
  have hlt := dN_lt h.dig
  rw [h.len] at hlt
  have hpp : PP < 65536 ^ 16 := by decide
  have h1 := h.one
  have hc : c = 0 := by
    apply Classical.byContradiction
    intro hne
    have : c = 1 := by omega
    subst this
    rw [Nat.one_mul] at hv
    generalize (65536 : Nat) ^ 16 = B at *
    omega
  subst hc
  rw [Nat.zero_mul, Nat.add_zero] at hv
  omega
theorem dig_p : leN ((bl (⟨#[237, 255, 255, 255, 255, 255, 255, 255, 255, 255, 255, 255, 255, 255, 255, 255, 255, 255, 255, 255, 255, 255, 255, 255, 255, 255, 255, 255, 255, 255, 255, 127]⟩ : ByteArray)).take 32) = PP := by decide +kernel
set_option maxRecDepth 100000 in
set_option maxHeartbeats 1000000 in
theorem refNeg_any (a : ByteArray) (ha : lowB a ≤ PP) (w : World) : Calls Try.prog 21 #[.string a] w fun e w' => e = .returned (.string (toS ((PP - lowB a) % PP))) ∧ Touch [] w w' := by
  have Ha := Lib.hid ha
  clear ha
  go_enter Try.func21, Try.ntmps21
  go_wp2_with fail
  refine (digits_any a _).mono ?_
  rintro e w1 ⟨v1, x, rfl, hn1, hd1⟩
  obtain ⟨gx, ox, cx, rfl, hgx, hlx, hcx1, hcx2, hrx⟩ := hn1.rowA (by omega) hd1.len
  have Rx := Lib.hid hrx
  have Dx := Lib.hid hd1
  have T1 := Lib.hid hn1.touch
  clear hn1 hd1 hrx
  go_wp2_with fail
  refine (digits_any _ _).mono ?_
  rintro e w2 ⟨v2, y, rfl, hn2, hd2⟩
  obtain ⟨gy, oy, cy, rfl, hgy, hly, hcy1, hcy2, hry⟩ := hn2.rowA (by omega) hd2.len
  have Ry := Lib.hid hry
  have Dy := Lib.hid hd2
  have T2 := Lib.hid (T1.out.trans hn2.touch)
  replace Rx := Lib.hid (Rx.out.touch hn2.touch)
  have Hne := Lib.hid (show gx ≠ gy by omega)
  have HP := Lib.hid (show dN y = PP by rw [hd2.val]; exact dig_p)
  clear hn2 hd2 hry T1 hlx hly hgy
  go_wp2_with fail
  go_loopw [4, 6, 7] (fun vc vi _ wr => ∃ (k c : Nat) (r : List Nat), k ≤ 16 ∧ vi = .int .i64 k ∧ vc = .int .i64 c ∧ RowA wr gx ox cx 16 r ∧ NegS x y r k c ∧ RowA wr gy oy cy 16 y ∧ Touch [] w wr) (fun _ vi _ _ => 16 - (intOf vi).toNat)
  case atStart => exact ⟨0, 0, x, by omega, rfl, rfl, Rx.out, ⟨Dx.out.len, fun _ _ => rfl, Dx.out.dig, by simp [dN], by omega⟩, Ry.out, T2.out⟩
  case round =>
    clear Rx Ry T2
    obtain ⟨k, c, r, hk, rfl, rfl, hx, hS, hy, hT⟩ := hrel
    have Rx := Lib.hid hx
    have Ry := Lib.hid hy
    have HS := Lib.hid hS
    have HT := Lib.hid hT
    have hc1 := hS.one
    clear hx hy hS hT
    by_cases hk16 : k < 16
    · have hcx := Rx.out.cell k hk16
      have hcy := Ry.out.cell k hk16
      have hst := fun z c' => HS.out.step (z := z) (c' := c') hk16 Dx.out.len Dy.out.len (a := r.getD k 0) (b := y.getD k 0) rfl rfl
      have hab := HS.out.dig.at_ k
      have hbb := Dy.out.dig.at_ k
      obtain ⟨m, hm⟩ : ∃ m, m = r.getD k 0 := ⟨_, rfl⟩
      obtain ⟨n, hn⟩ : ∃ n, n = y.getD k 0 := ⟨_, rfl⟩
      rw [← hm] at hcx hst hab
      rw [← hn] at hcy hst hbb
      have Hst := Lib.hid hst
      clear hm hn hst
      by_cases hge : m + c ≤ n
      · obtain ⟨z, hz, hzz⟩ : ∃ z : Nat, (n : Int) - (m : Int) - (c : Int) = (z : Int) ∧ z + m + c = n := ⟨n - m - c, by omega, by omega⟩
        have hz0 : decide ((z : Int) < 0) = false := decide_eq_false (by omega)
        have HS2 := Lib.hid (Hst.out z 0 (by omega) (by omega) (by omega))
        clear hge hzz
        go_upto_region 6 with fail
        go_quiet (fail)
        go_upto_region 11 with fail
        have ht := (Touch.refl [] wr).drewN nq
        obtain ⟨wq, hwq⟩ : ∃ wq, wq = wr.drewN nq := ⟨_, rfl⟩
        rw [← hwq] at ht ⊢
        clear hwq
        replace Rx := Lib.hid (Rx.out.touch ht)
        replace Ry := Lib.hid (Ry.out.touch ht)
        replace HT := Lib.hid (HT.out.trans ht)
        have hcq := Rx.out.cell k hk16
        have hfq := Rx.out.free (by omega) (ox + k)
        clear hcx hcy ht hz hz0
        go_wp2_with fail
        go_roundw
        case rel => exact ⟨k + 1, 0, _, by omega, by go_num, rfl, Rx.out.set k z hk16, HS2.out, Ry.out.far (Ne.symm Hne.out) _, HT.out.setCell (.inr hgx) _⟩
        case measure => simp [intOf]; omega
      · obtain ⟨v0, hv0, hv1⟩ : ∃ v0 : Int, (n : Int) - (m : Int) - (c : Int) = v0 ∧ Hid (v0 < 0 ∧ -65537 < v0) := ⟨_, rfl, Lib.hid (by omega)⟩
        obtain ⟨z, hz, hzz⟩ : ∃ z : Nat, v0 + 65536 = (z : Int) ∧ Hid (z + m + c = n + 65536) := ⟨(v0 + 65536).toNat, by have := hv1.out; omega, Lib.hid (by have := hv1.out; omega)⟩
        have hz0 : decide (v0 < 0) = true := decide_eq_true hv1.out.1
        have hv2 : -65537 < v0 := hv1.out.2
        have hv3 : v0 < 0 := hv1.out.1
        have HS2 := Lib.hid (Hst.out z 1 (by have := hzz.out; omega) (by have := hzz.out; omega) (by omega))
        clear hge
        go_upto_region 6 with fail
        go_quiet (fail)
        go_upto_region 11 with fail
        have ht := (Touch.refl [] wr).drewN nq
        obtain ⟨wq, hwq⟩ : ∃ wq, wq = wr.drewN nq := ⟨_, rfl⟩
        rw [← hwq] at ht ⊢
        clear hwq
        replace Rx := Lib.hid (Rx.out.touch ht)
        replace Ry := Lib.hid (Ry.out.touch ht)
        replace HT := Lib.hid (HT.out.trans ht)
        have hcq := Rx.out.cell k hk16
        have hfq := Rx.out.free (by omega) (ox + k)
        clear hcx hcy ht hz hz0 hv0 hv2 hv3
        go_wp2_with fail
        go_roundw
        case rel => exact ⟨k + 1, 1, _, by omega, by go_num, rfl, Rx.out.set k z hk16, HS2.out, Ry.out.far (Ne.symm Hne.out) _, HT.out.setCell (.inr hgx) _⟩
        case measure => simp [intOf]; omega
    · obtain rfl : k = 16 := by omega
      have hv := HS.out.done Dx.out.len Dy.out.len HP.out (by rw [Dx.out.val]; exact Ha.out)
      rw [Dx.out.val] at hv
      have HTx := Lib.hid (fun W (h : W = wr) => h ▸ text_new (Rx.out.newI HT.out hgx) (by rw [Rx.out.len]; omega) (by rw [Rx.out.len]; omega) HS.out.dig.le (Nat.lt_trans (dN_lt HS.out.dig) (by rw [HS.out.len]; decide)))
      have Hv := Lib.hid hv
      clear hv hc1
      go_wp2_with fail
      refine (HTx.out _ rfl).mono ?_
      rintro e w3 ⟨rfl, ht⟩
      have Ht := Lib.hid ht
      clear ht HTx
      go_wp2_with fail
      go_ret
      exact ⟨by rw [Hv.out]; rfl, HT.out.trans Ht.out⟩
theorem refNeg_toS {n : Nat} (h : n < PP) (w : World) : Calls Try.prog 21 #[.string (toS n)] w fun e w' => e = .returned (.string (toS (negF n))) ∧ Touch [] w w' := by
  have := refNeg_any (toS n) (by rw [lowB_toS h]; omega) w
  rwa [lowB_toS h] at this
theorem refAdd_toS {n m : Nat} (hn : n < PP) (hm : m < PP) (w : World) : Calls Try.prog 15 #[.string (toS n), .string (toS m)] w fun e w' => e = .returned (.string (toS (addF n m))) ∧ Touch [] w w' := by
  have := refAdd_any (toS n) (toS m) w
  rwa [lowB_toS hn, lowB_toS hm] at this
set_option maxRecDepth 100000 in
theorem refSub_toS {n m : Nat} (hn : n < PP) (hm : m < PP) (w : World) : Calls Try.prog 17 #[.string (toS n), .string (toS m)] w fun e w' => e = .returned (.string (toS (subF n m))) ∧ Touch [] w w' := by
  have HN := Lib.hid (fun W => refNeg_toS hm W)
  have HA := Lib.hid (fun W => refAdd_toS hn (show negF m < PP from Nat.mod_lt _ (by decide)) W)
  have he := Lib.hid (show subF n m = addF n (negF m) from rfl)
  obtain ⟨s, hs⟩ : ∃ s, s = toS n := ⟨_, rfl⟩
  obtain ⟨t, ht⟩ : ∃ t, t = toS m := ⟨_, rfl⟩
  obtain ⟨u, hu⟩ : ∃ u, u = toS (negF m) := ⟨_, rfl⟩
  rw [he.out]
  rw [← hs] at HA ⊢
  rw [← ht] at HN ⊢
  rw [← hu] at HA HN
  clear hs ht hu hn hm
  go_enter Try.func17, Try.ntmps17
  go_wp2_with fail
  refine (HN.out _).mono ?_
  rintro e w1 ⟨rfl, ht1⟩
  have Ht1 := Lib.hid ht1
  clear ht1
  go_wp2_with fail
  refine (HA.out _).mono ?_
  rintro e w2 ⟨rfl, ht2⟩
  have Ht2 := Lib.hid ht2
  clear ht2
  go_wp2_with fail
  go_ret
  exact ⟨rfl, Ht1.out.trans Ht2.out⟩
end Go.Proofs.Ytbchjefgfghjlaa
