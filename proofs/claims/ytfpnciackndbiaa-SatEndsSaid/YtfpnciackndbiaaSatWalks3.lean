/- More statements of layer 1, walked: SatOrder, SatEnds, SatSpans. -/
import Derived.Test.YtfpnciackndbiaaFixed01
namespace Go.Proofs.Ytfpnciackndbiaa
open Go.RowKit
theorem addS_comm (x y : Int) : addS x y = addS y x := by unfold addS; rw [Int.add_comm]
theorem mulS_comm (x y : Int) : mulS x y = mulS y x := by unfold mulS; rw [Int.mul_comm]
theorem addS_ge2 {x y : Int} (h' : x < 18446744073709551616) (hy : 0 ≤ y) : x ≤ addS x y := by unfold addS; split <;> omega
theorem addS_assoc {x y z : Int} (h : 0 ≤ x) (hz : 0 ≤ z) (hx' : x < 18446744073709551616) (hz' : z < 18446744073709551616) : addS (addS x y) z = addS x (addS y z) := by
  unfold addS
  by_cases h1 : x + y < 18446744073709551616 <;> by_cases h2 : y + z < 18446744073709551616 <;> simp only [h1, h2, if_true, if_false] <;> split <;> split <;> omega
theorem subS_add {x y : Int} (h : 0 ≤ x) (hs : addS x y ≠ 18446744073709551615) : subS (addS x y) y = x := by
  unfold addS at *
  split at hs
  · rename_i h1
    unfold subS
    rw [if_pos h1, if_neg (by omega)]
    omega
  · exact absurd rfl hs
theorem mulS_rng {x y : Int} (h : 0 ≤ x) (hy : 0 ≤ y) : 0 ≤ mulS x y ∧ mulS x y < 18446744073709551616 := by
  have := Int.mul_nonneg h hy
  unfold mulS
  split <;> omega
theorem mulS_ge {x y : Int} (h : 0 ≤ x) (h' : x < 18446744073709551616) (hy : 0 < y) : x ≤ mulS x y := by
  have : x * 1 ≤ x * y := Int.mul_le_mul_of_nonneg_left (by omega) h
  unfold mulS
  split <;> omega

set_option maxRecDepth 100000 in
set_option maxHeartbeats 1000000 in
theorem ends_walk (a b c : Int) (ha : 0 ≤ a) (ha' : a < 18446744073709551616) (hb : 0 ≤ b) (hb' : b < 18446744073709551616) (hc : 0 ≤ c) (hc' : c < 18446744073709551616) (w : World) :
    Calls Try.prog 8 #[.int .u64 a, .int .u64 b, .int .u64 c] w fun e w' => e = .returned (.bool true) ∧ Touch [] w w' := by
  have h1 := satAdd_any a b ha ha' hb hb'
  have h2 := satAdd_any b a hb hb' ha ha'
  rw [addS_comm b a] at h2
  have h3 := satMul_any a b ha ha' hb hb'
  have h4 := satMul_any b a hb hb' ha ha'
  rw [mulS_comm b a] at h4
  have hs := addS_rng ha hb
  have hsa := addS_ge2 (x := a) (y := b) ha' hb
  have hsb := addS_ge2 (x := b) (y := a) hb' ha
  rw [addS_comm b a] at hsb
  have hbc := addS_rng hb hc
  have h5 := satSub_any (addS a b) b hs.1 hs.2 hb hb'
  have hsub := subS_add (x := a) (y := b) ha
  have h6 := satAdd_any (addS a b) c hs.1 hs.2 hc hc'
  have h7 := satAdd_any b c hb hb' hc hc'
  have h8 := satAdd_any a (addS b c) ha ha' hbc.1 hbc.2
  rw [← addS_assoc ha hc ha' hc'] at h8
  have h9 := satMul_any a c ha ha' hc hc'
  have hge : c ≠ 0 → a ≤ mulS a c := fun h => mulS_ge ha ha' (by omega)
  obtain ⟨d, hd⟩ : ∃ d, d = addS (addS a b) c := ⟨_, rfl⟩
  rw [← hd] at h6 h8
  clear hd
  obtain ⟨s, hse⟩ : ∃ s, s = addS a b := ⟨_, rfl⟩
  rw [← hse] at h1 h2 hs hsa hsb h5 hsub h6
  clear hse
  obtain ⟨p, hp⟩ : ∃ p, p = mulS a b := ⟨_, rfl⟩
  rw [← hp] at h3 h4
  clear hp
  obtain ⟨f, hf⟩ : ∃ f, f = addS b c := ⟨_, rfl⟩
  rw [← hf] at h7 h8
  clear hf hbc
  obtain ⟨q, hq⟩ : ∃ q, q = mulS a c := ⟨_, rfl⟩
  rw [← hq] at h9 hge
  clear hq
  obtain ⟨r, hr⟩ : ∃ r, r = subS s b := ⟨_, rfl⟩
  rw [← hr] at h5 hsub
  clear hr
  have Hsub := Lib.hid hsub; clear hsub
  have Hge := Lib.hid hge; clear hge
  go_enter Try.func8, Try.ntmps8
  go_wp2_with fail
  refine (h1 _).mono ?_
  rintro e w' ⟨rfl, rfl⟩
  go_wp2_with fail
  refine (h3 _).mono ?_
  rintro e w' ⟨rfl, rfl⟩
  go_wp2_with fail
  refine (h2 _).mono ?_
  rintro e w' ⟨rfl, rfl⟩
  go_wp2_with fail
  refine (h4 _).mono ?_
  rintro e w' ⟨rfl, rfl⟩
  have n1 : (s < a) = False := eq_false (by omega)
  have n2 : (s < b) = False := eq_false (by omega)
  have n3 : decide (s < a) = false := by simp; omega
  have n4 : decide (s < b) = false := by simp; omega
  clear h1 h2 h3 h4
  by_cases hs15 : s = 18446744073709551615
  · by_cases hc0 : c = 0
    · subst hs15
      subst hc0
      clear h5 h9
      go_wp2_with fail
      refine (h6 _).mono ?_
      rintro e w' ⟨rfl, rfl⟩
      go_wp2_with fail
      refine (h7 _).mono ?_
      rintro e w' ⟨rfl, rfl⟩
      go_wp2_with fail
      refine (h8 _).mono ?_
      rintro e w' ⟨rfl, rfl⟩
      go_wp2_with fail
      refine (fixed_any _).mono ?_
      rintro e w' ⟨rfl, ht⟩
      go_wp2_with fail
      go_ret
      exact ⟨rfl, ht⟩
    · have hg := Hge.out hc0
      have hcb : ((c : Int) == 0) = false := by simp; omega
      subst hs15
      clear h5
      go_wp2_with fail
      refine (h6 _).mono ?_
      rintro e w' ⟨rfl, rfl⟩
      go_wp2_with fail
      refine (h7 _).mono ?_
      rintro e w' ⟨rfl, rfl⟩
      go_wp2_with fail
      refine (h8 _).mono ?_
      rintro e w' ⟨rfl, rfl⟩
      go_wp2_with fail
      refine (h9 _).mono ?_
      rintro e w' ⟨rfl, rfl⟩
      go_wp2_with fail
      refine (fixed_any _).mono ?_
      rintro e w' ⟨rfl, ht⟩
      go_wp2_with fail
      go_ret
      exact ⟨rfl, ht⟩
  · have hra := Hsub.out hs15
    subst hra
    have hsb' : ((s : Int) == 18446744073709551615) = false := by simp; omega
    by_cases hc0 : c = 0
    · subst hc0
      clear h9
      go_wp2_with fail
      refine (h5 _).mono ?_
      rintro e w' ⟨rfl, rfl⟩
      go_wp2_with fail
      refine (h6 _).mono ?_
      rintro e w' ⟨rfl, rfl⟩
      go_wp2_with fail
      refine (h7 _).mono ?_
      rintro e w' ⟨rfl, rfl⟩
      go_wp2_with fail
      refine (h8 _).mono ?_
      rintro e w' ⟨rfl, rfl⟩
      go_wp2_with fail
      refine (fixed_any _).mono ?_
      rintro e w' ⟨rfl, ht⟩
      go_wp2_with fail
      go_ret
      exact ⟨rfl, ht⟩
    · have hg := Hge.out hc0
      have hcb : ((c : Int) == 0) = false := by simp; omega
      go_wp2_with fail
      refine (h5 _).mono ?_
      rintro e w' ⟨rfl, rfl⟩
      go_wp2_with fail
      refine (h6 _).mono ?_
      rintro e w' ⟨rfl, rfl⟩
      go_wp2_with fail
      refine (h7 _).mono ?_
      rintro e w' ⟨rfl, rfl⟩
      go_wp2_with fail
      refine (h8 _).mono ?_
      rintro e w' ⟨rfl, rfl⟩
      go_wp2_with fail
      refine (h9 _).mono ?_
      rintro e w' ⟨rfl, rfl⟩
      go_wp2_with fail
      refine (fixed_any _).mono ?_
      rintro e w' ⟨rfl, ht⟩
      go_wp2_with fail
      go_ret
      exact ⟨rfl, ht⟩
end Go.Proofs.Ytfpnciackndbiaa
