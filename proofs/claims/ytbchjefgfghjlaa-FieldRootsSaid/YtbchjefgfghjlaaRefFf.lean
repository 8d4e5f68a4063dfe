/- The document's numbers modulo p: cut, small ones, sums. -/
import Derived.Test.YtbchjefgfghjlaaRefFe
namespace Go.Proofs.Ytbchjefgfghjlaa
open Go.RowKit
def lowB (s : ByteArray) : Nat := leN ((bl s).take 32)
theorem lowB_lt (s : ByteArray) : lowB s < 65536 ^ 16 := by
  unfold lowB
  have h := leN_lt (l := (bl s).take 32) (fun b hb => bl_lt s b (List.mem_of_mem_take hb))
  refine Nat.lt_of_lt_of_le h (Nat.le_trans (Nat.pow_le_pow_right (by omega) (by rw [List.length_take]; exact Nat.min_le_left _ _)) (by decide))
theorem lowB_toS {n : Nat} (h : n < PP) : lowB (toS n) = n := by
  unfold lowB
  rw [List.take_of_length_le (by rw [bl_len, toS_size]; omega), leN_toS, Nat.mod_eq_of_lt (Nat.lt_trans h PP_lt)]
theorem lowB_cut (s : ByteArray) : lowB s % PP = cutN s := rfl
theorem text_new {w0 w : World} {v : Value} {q : List Nat} (h : NewI w0 w v q) (h0 : 0 < q.length) (hl : q.length ≤ 32) (hb : ∀ x ∈ q, x ≤ 1099511627776) (hv : dN q < 65536 ^ 32) :
    Calls Try.prog 35 #[v] w fun e w' => e = .returned (.string (toS (dN q % PP))) ∧ Touch [] w w' := by
  obtain ⟨row, ho⟩ := h.own
  exact text_any v q row w ho h0 hl hb hv
theorem DigN.le {q : List Nat} (h : DigN q) : ∀ x ∈ q, x ≤ 1099511627776 := fun x hx => by have := h x hx; omega
theorem pow_16_32 : (65536 : Nat) ^ 16 < 65536 ^ 32 := by decide
set_option maxRecDepth 100000 in
theorem refCut_any (s : ByteArray) (w : World) : Calls Try.prog 12 #[.string s] w fun e w' => e = .returned (.string (toS (lowB s % PP))) ∧ Touch [] w w' := by
  go_enter Try.func12, Try.ntmps12
  go_wp2_with fail
  refine (digits_any s _).mono ?_
  rintro e w1 ⟨v1, q, rfl, hn, hd⟩
  have HT := Lib.hid (fun W (h : W = w1) => h ▸ text_new hn (by rw [hd.len]; omega) (by rw [hd.len]; omega) hd.dig.le (by rw [hd.val]; exact Nat.lt_trans (lowB_lt s) pow_16_32))
  have Hn := Lib.hid hn.touch
  have Hv := Lib.hid hd.val
  clear hn hd
  go_wp2_with fail
  refine (HT.out _ rfl).mono ?_
  rintro e w2 ⟨rfl, ht⟩
  have Ht := Lib.hid ht
  clear ht HT
  go_wp2_with fail
  go_ret
  exact ⟨by rw [Hv.out]; rfl, Hn.out.trans Ht.out⟩
/-- The digits of a small number. -/
structure NumR (n j : Nat) (q : List Nat) (m : Nat) : Prop where
  len : q.length = j
  dig : DigN q
  val : dN q + 65536 ^ j * m = n
  lt : m < 65536 ^ (4 - j)
theorem NumR.step {n j m : Nat} {q : List Nat} (h : NumR n j q m) (hj : j < 4) : NumR n (j + 1) (q ++ [m % 65536]) (m / 65536) := by
  refine ⟨by simp [h.len], h.dig.snoc (Nat.mod_lt _ (by decide)), ?_, ?_⟩
  · rw [dN_pad, h.len, ← h.val, Nat.pow_succ]
    have e : m = m % 65536 + 65536 * (m / 65536) := by omega
    generalize m % 65536 = a at *
    generalize m / 65536 = b at *
    generalize (65536 : Nat) ^ j = P
    subst e
    grind
  · have h1 := h.lt
    rw [show 4 - j = 4 - (j + 1) + 1 by omega, Nat.pow_succ] at h1
    omega
set_option maxRecDepth 100000 in
set_option maxHeartbeats 1000000 in
theorem refNum_any (n : Nat) (hn : n < 18446744073709551616) (w : World) : Calls Try.prog 26 #[.int .u64 (n : Int)] w fun e w' => e = .returned (.string (toS (n % PP))) ∧ Touch [] w w' := by
  have hst := Lib.hid (show NumR n 0 [] n from ⟨rfl, fun x hx => (by cases hx), by simp [dN], hn⟩)
  clear hn
  go_enter Try.func26, Try.ntmps26
  go_wp2_with fail
  go_loopw [0, 3, 4] (fun v0 v3 vi wr => ∃ (j : Nat) (q : List Nat) (m : Nat), j ≤ 4 ∧ vi = .int .i64 j ∧ v0 = .int .u64 m ∧ NewI w wr v3 q ∧ NumR n j q m) (fun _ _ vi _ => 4 - (intOf vi).toNat)
  case atStart => exact ⟨0, [], n, by omega, rfl, rfl, ⟨none, Own.nil _ _ _ _, (Touch.refl _ _).alloc _, .refl _ _⟩, hst.out⟩
  case round =>
    clear hst
    obtain ⟨j, q, m, hj, rfl, rfl, hq, hN⟩ := hrel
    obtain ⟨A, c, rfl, _⟩ := hq.shape
    have hql := hN.len
    have hlt := hN.lt
    have HN := Lib.hid hN
    rw [hql]
    have Hq := Lib.hid hq
    rw [hql] at Hq
    have Hql := Lib.hid hql
    clear hN hq hql
    by_cases hj4 : j < 4
    · have hm64 : m < 18446744073709551616 := Nat.lt_of_lt_of_le hlt (Nat.le_trans (Nat.pow_le_pow_right (by decide) (show 4 - j ≤ 4 by omega)) (by decide))
      have hst := HN.out.step hj4
      obtain ⟨u, hu, hu2, hul⟩ : ∃ u : Nat, (m : Int) % 65536 = (u : Int) ∧ m % 65536 = u ∧ u < 65536 := ⟨m % 65536, by omega, rfl, by omega⟩
      obtain ⟨z, hz, hz2⟩ : ∃ z : Nat, (m : Int) / 65536 = (z : Int) ∧ m / 65536 = z := ⟨m / 65536, by omega, rfl⟩
      rw [hu2, hz2] at hst
      have HS := Lib.hid hst
      have HW := Lib.hid (show IntKind.u64.wrap (z : Int) = (z : Int) from IntWalk.u64_in _ (by omega))
      clear hst hu2 hz2 hlt hm64
      go_wp2_with (at_builtin; refine wpList_append_int w _ (.tmp 10) (.tmp 14) 55 Try.underlying55 rfl rfl Hq.out (by rw [Hql.out]; omega) u _ rfl rfl ?_)
      intro A2 c2 w2 h2
      have H2 := Lib.hid h2
      clear h2
      go_wp2_with fail
      go_roundw
      case rel => exact ⟨j + 1, _, z, by omega, by go_num, by rw [HW.out], H2.out, HS.out⟩
      case measure => simp [intOf]; omega
    · obtain rfl : j = 4 := by omega
      have hm0 : m = 0 := by simpa using hlt
      subst hm0
      have hv := HN.out.val
      rw [Nat.mul_zero, Nat.add_zero] at hv
      have HT := Lib.hid (fun W (h : W = wr) => h ▸ text_new (w0 := w) (v := .slice A 4 c) (q := q) Hq.out (by rw [Hql.out]; omega) (by rw [Hql.out]; omega) HN.out.dig.le (Nat.lt_trans (dN_lt HN.out.dig) (by rw [Hql.out]; decide)))
      have Hv := Lib.hid hv
      clear hv hlt
      go_wp2_with fail
      refine (HT.out _ rfl).mono ?_
      rintro e w2 ⟨rfl, ht⟩
      have Ht := Lib.hid ht
      clear ht HT
      go_wp2_with fail
      go_ret
      exact ⟨by rw [Hv.out]; rfl, Hq.out.touch.trans Ht.out⟩
end Go.Proofs.Ytbchjefgfghjlaa
