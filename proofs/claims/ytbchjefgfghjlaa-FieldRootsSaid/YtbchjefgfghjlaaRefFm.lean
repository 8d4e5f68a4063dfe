/- The document's root modulo p. -/
import Derived.Test.YtbchjefgfghjlaaRefFl
namespace Go.Proofs.Ytbchjefgfghjlaa
open Go.RowKit
def RtPost (x : Nat) (w : World) (e : Ending) (w' : World) : Prop := e = .returned (.tuple #[.string (toS (rootN x)), .bool (isN x)]) ∧ Touch [] w w'
theorem toS_eqE {a b : Nat} (ha : a < PP) (hb : b < PP) (h : a = b) : ((toS a).toList == (toS b).toList) = true := by rw [toS_beq ha hb]; exact decide_eq_true h
theorem toS_neE {a b : Nat} (ha : a < PP) (hb : b < PP) (h : a ≠ b) : ((toS a).toList == (toS b).toList) = false := by rw [toS_beq ha hb]; exact decide_eq_false h
theorem root_no {x : Nat} (h : isN x = false) : rootN x = 0 := by rw [rootN_eq, h]; rfl
theorem root_od {x : Nat} (h : isN x = true) (ho : r2N x % 2 = 1) : rootN x = negF (r2N x) := by rw [rootN_eq, if_pos h, if_pos ho]
theorem root_ev {x : Nat} (h : isN x = true) (ho : ¬ r2N x % 2 = 1) : rootN x = r2N x := by rw [rootN_eq, if_pos h, if_neg ho]
set_option maxRecDepth 100000 in
set_option maxHeartbeats 1000000 in
theorem rt_a1 {x : Nat} (hx : x < PP) (h1 : mulF (r1N x) (r1N x) = x) (h2 : isN x = true) (h3 : r2N x % 2 = 1) (w : World) : Calls Try.prog 32 #[.string (toS x)] w (RtPost x w) := by
  have hr1 := r1N_lt x
  have hr2 := r2N_lt x
  have er2 : r2N x = r1N x := by rw [r2N_pN, if_pos h1]
  have hsq : mulF (r2N x) (r2N x) = x := isN_sq h2
  have HO1 := Lib.hid (fun W => ones252_any W)
  have HP1 := Lib.hid (fun W => r1N_pN x ▸ refPow_any hx on252 on252_lt on252_len W)
  have HS1 := Lib.hid (fun W => refMul_toS hr1 hr1 W)
  have q1 := toS_eqE (mulF_lt (r1N x) (r1N x)) hx h1
  have HS2 := Lib.hid (fun W => refMul_toS hr2 hr2 W)
  have q2 := toS_eqE (mulF_lt (r2N x) (r2N x)) hx hsq
  have HD := Lib.hid (fun W => refOdd_toS (r2N x) W)
  rw [decide_eq_true h3] at HD
  have HG := Lib.hid (fun W => refNeg_toS hr2 W)
  have hroot := root_od h2 h3
  unfold RtPost
  rw [hroot, h2]
  rw [← er2] at HP1 HS1 q1
  obtain ⟨s, hs⟩ : ∃ s, s = toS x := ⟨_, rfl⟩
  obtain ⟨u, hu⟩ : ∃ u, u = strOfNums (on252.map fun (n : Nat) => (n : Int)) := ⟨_, rfl⟩
  obtain ⟨t2, ht2⟩ : ∃ t2, t2 = toS (r2N x) := ⟨_, rfl⟩
  obtain ⟨s2, hs2⟩ : ∃ s2, s2 = toS (mulF (r2N x) (r2N x)) := ⟨_, rfl⟩
  rw [← hs2] at HS2 q2
  rw [← hs] at HP1 q1 q2 ⊢
  rw [← hu] at HO1 HP1
  rw [← ht2] at HS2
  rw [← ht2] at HP1 HS1
  rw [← hs2] at HS1 q1
  rw [← ht2] at HD
  rw [← ht2] at HG
  obtain ⟨z, hz⟩ : ∃ z, z = toS (negF (r2N x)) := ⟨_, rfl⟩
  rw [← hz] at HG ⊢
  clear hs hu ht2 hs2 hr1 hr2 er2 hsq hroot h1 h2 h3 hx hz
  go_enter Try.func32, Try.ntmps32
  go_wp2_with fail
  refine (HO1.out _).mono ?_
  rintro _ w0 ⟨rfl, ht0⟩
  have Ht0 := Lib.hid ht0
  clear ht0
  go_wp2_with fail
  refine (HP1.out _).mono ?_
  rintro _ w1 ⟨rfl, ht1⟩
  have Ht1 := Lib.hid ht1
  clear ht1
  go_wp2_with fail
  refine (HS1.out _).mono ?_
  rintro _ w2 ⟨rfl, ht2⟩
  have Ht2 := Lib.hid ht2
  clear ht2
  go_wp2_with fail
  refine (HS2.out _).mono ?_
  rintro _ w3 ⟨rfl, ht3⟩
  have Ht3 := Lib.hid ht3
  clear ht3
  go_wp2_with fail
  refine (HD.out _).mono ?_
  rintro _ w80 ⟨rfl, rfl⟩
  go_wp2_with fail
  refine (HG.out _).mono ?_
  rintro _ w91 ⟨rfl, ht91⟩
  have Ht91 := Lib.hid ht91
  clear ht91
  go_wp2_with fail
  go_ret2
  exact ⟨rfl, ((((Ht0.out.trans Ht1.out).trans Ht2.out).trans Ht3.out).trans Ht91.out)⟩
set_option maxRecDepth 100000 in
set_option maxHeartbeats 1000000 in
theorem rt_a0 {x : Nat} (hx : x < PP) (h1 : mulF (r1N x) (r1N x) = x) (h2 : isN x = true) (h3 : ¬ r2N x % 2 = 1) (w : World) : Calls Try.prog 32 #[.string (toS x)] w (RtPost x w) := by
  have hr1 := r1N_lt x
  have hr2 := r2N_lt x
  have er2 : r2N x = r1N x := by rw [r2N_pN, if_pos h1]
  have hsq : mulF (r2N x) (r2N x) = x := isN_sq h2
  have HO1 := Lib.hid (fun W => ones252_any W)
  have HP1 := Lib.hid (fun W => r1N_pN x ▸ refPow_any hx on252 on252_lt on252_len W)
  have HS1 := Lib.hid (fun W => refMul_toS hr1 hr1 W)
  have q1 := toS_eqE (mulF_lt (r1N x) (r1N x)) hx h1
  have HS2 := Lib.hid (fun W => refMul_toS hr2 hr2 W)
  have q2 := toS_eqE (mulF_lt (r2N x) (r2N x)) hx hsq
  have HD := Lib.hid (fun W => refOdd_toS (r2N x) W)
  rw [decide_eq_false h3] at HD
  have hroot := root_ev h2 h3
  unfold RtPost
  rw [hroot, h2]
  rw [← er2] at HP1 HS1 q1
  obtain ⟨s, hs⟩ : ∃ s, s = toS x := ⟨_, rfl⟩
  obtain ⟨u, hu⟩ : ∃ u, u = strOfNums (on252.map fun (n : Nat) => (n : Int)) := ⟨_, rfl⟩
  obtain ⟨t2, ht2⟩ : ∃ t2, t2 = toS (r2N x) := ⟨_, rfl⟩
  obtain ⟨s2, hs2⟩ : ∃ s2, s2 = toS (mulF (r2N x) (r2N x)) := ⟨_, rfl⟩
  rw [← hs2] at HS2 q2
  rw [← hs] at HP1 q1 q2 ⊢
  rw [← hu] at HO1 HP1
  rw [← ht2] at HS2
  rw [← ht2] at HP1 HS1
  rw [← hs2] at HS1 q1
  rw [← ht2] at HD
  rw [← ht2]
  clear hs hu ht2 hs2 hr1 hr2 er2 hsq hroot h1 h2 h3 hx
  go_enter Try.func32, Try.ntmps32
  go_wp2_with fail
  refine (HO1.out _).mono ?_
  rintro _ w0 ⟨rfl, ht0⟩
  have Ht0 := Lib.hid ht0
  clear ht0
  go_wp2_with fail
  refine (HP1.out _).mono ?_
  rintro _ w1 ⟨rfl, ht1⟩
  have Ht1 := Lib.hid ht1
  clear ht1
  go_wp2_with fail
  refine (HS1.out _).mono ?_
  rintro _ w2 ⟨rfl, ht2⟩
  have Ht2 := Lib.hid ht2
  clear ht2
  go_wp2_with fail
  refine (HS2.out _).mono ?_
  rintro _ w3 ⟨rfl, ht3⟩
  have Ht3 := Lib.hid ht3
  clear ht3
  go_wp2_with fail
  refine (HD.out _).mono ?_
  rintro _ w80 ⟨rfl, rfl⟩
  go_wp2_with fail
  go_ret2
  exact ⟨rfl, (((Ht0.out.trans Ht1.out).trans Ht2.out).trans Ht3.out)⟩
set_option maxRecDepth 100000 in
set_option maxHeartbeats 1000000 in
theorem rt_bn {x : Nat} (hx : x < PP) (h1 : ¬ mulF (r1N x) (r1N x) = x) (h2 : isN x = false) (w : World) : Calls Try.prog 32 #[.string (toS x)] w (RtPost x w) := by
  have hr1 := r1N_lt x
  have hr2 := r2N_lt x
  have er2 : r2N x = mulF (r1N x) (pN 2 (leN on253)) := by rw [r2N_pN, if_neg h1]
  have hsq : ¬ mulF (r2N x) (r2N x) = x := fun h => absurd ((isN_eq x).trans (decide_eq_true h)) (by rw [h2]; simp)
  have HO1 := Lib.hid (fun W => ones252_any W)
  have HP1 := Lib.hid (fun W => r1N_pN x ▸ refPow_any hx on252 on252_lt on252_len W)
  have HS1 := Lib.hid (fun W => refMul_toS hr1 hr1 W)
  have q1 := toS_neE (mulF_lt (r1N x) (r1N x)) hx h1
  have HN2 := Lib.hid (fun W => refNum_any 2 (by decide) W)
  rw [(by decide : 2 % PP = 2)] at HN2
  have HO2 := Lib.hid (fun W => ones253_any W)
  have HP2 := Lib.hid (fun W => refPow_any (x := 2) (by decide) on253 on253_lt on253_len W)
  have HM2 := Lib.hid (fun W => refMul_toS hr1 (pN_lt 2 (leN on253)) W)
  rw [← er2] at HM2
  have HS2 := Lib.hid (fun W => refMul_toS hr2 hr2 W)
  have q2 := toS_neE (mulF_lt (r2N x) (r2N x)) hx hsq
  have HN0 := Lib.hid (fun W => refNum_any 0 (by decide) W)
  rw [(by decide : 0 % PP = 0)] at HN0
  have hroot := root_no h2
  unfold RtPost
  rw [hroot, h2]
  skip
  obtain ⟨s, hs⟩ : ∃ s, s = toS x := ⟨_, rfl⟩
  obtain ⟨u, hu⟩ : ∃ u, u = strOfNums (on252.map fun (n : Nat) => (n : Int)) := ⟨_, rfl⟩
  obtain ⟨t2, ht2⟩ : ∃ t2, t2 = toS (r2N x) := ⟨_, rfl⟩
  obtain ⟨s2, hs2⟩ : ∃ s2, s2 = toS (mulF (r2N x) (r2N x)) := ⟨_, rfl⟩
  rw [← hs2] at HS2 q2
  rw [← hs] at HP1 q1 q2 ⊢
  rw [← hu] at HO1 HP1
  rw [← ht2] at HS2
  obtain ⟨t1, ht1⟩ : ∃ t1, t1 = toS (r1N x) := ⟨_, rfl⟩
  obtain ⟨s1, hs1⟩ : ∃ s1, s1 = toS (mulF (r1N x) (r1N x)) := ⟨_, rfl⟩
  obtain ⟨u2, hu2⟩ : ∃ u2, u2 = strOfNums (on253.map fun (n : Nat) => (n : Int)) := ⟨_, rfl⟩
  obtain ⟨t3, ht3⟩ : ∃ t3, t3 = toS (pN 2 (leN on253)) := ⟨_, rfl⟩
  obtain ⟨n2, hn2⟩ : ∃ n2, n2 = toS 2 := ⟨_, rfl⟩
  rw [← ht1] at HP1 HS1 HM2
  rw [← hs1] at HS1 q1
  rw [← hu2] at HO2 HP2
  rw [← ht3] at HP2 HM2
  rw [← hn2] at HN2 HP2
  rw [← ht2] at HM2
  obtain ⟨z, hz⟩ : ∃ z, z = toS 0 := ⟨_, rfl⟩
  rw [← hz] at HN0 ⊢
  clear hs hu ht2 hs2 hr1 hr2 er2 hsq hroot h1 h2 hx ht1 hs1 hu2 ht3 hn2 hz
  go_enter Try.func32, Try.ntmps32
  go_wp2_with fail
  refine (HO1.out _).mono ?_
  rintro _ w0 ⟨rfl, ht0⟩
  have Ht0 := Lib.hid ht0
  clear ht0
  go_wp2_with fail
  refine (HP1.out _).mono ?_
  rintro _ w1 ⟨rfl, ht1⟩
  have Ht1 := Lib.hid ht1
  clear ht1
  go_wp2_with fail
  refine (HS1.out _).mono ?_
  rintro _ w2 ⟨rfl, ht2⟩
  have Ht2 := Lib.hid ht2
  clear ht2
  go_wp2_with fail
  refine (HN2.out _).mono ?_
  rintro _ w3 ⟨rfl, ht3⟩
  have Ht3 := Lib.hid ht3
  clear ht3
  go_wp2_with fail
  refine (HO2.out _).mono ?_
  rintro _ w4 ⟨rfl, ht4⟩
  have Ht4 := Lib.hid ht4
  clear ht4
  go_wp2_with fail
  refine (HP2.out _).mono ?_
  rintro _ w5 ⟨rfl, ht5⟩
  have Ht5 := Lib.hid ht5
  clear ht5
  go_wp2_with fail
  refine (HM2.out _).mono ?_
  rintro _ w6 ⟨rfl, ht6⟩
  have Ht6 := Lib.hid ht6
  clear ht6
  go_wp2_with fail
  refine (HS2.out _).mono ?_
  rintro _ w7 ⟨rfl, ht7⟩
  have Ht7 := Lib.hid ht7
  clear ht7
  go_wp2_with fail
  refine (HN0.out _).mono ?_
  rintro _ w90 ⟨rfl, ht90⟩
  have Ht90 := Lib.hid ht90
  clear ht90
  go_wp2_with fail
  go_ret2
  exact ⟨rfl, ((((((((Ht0.out.trans Ht1.out).trans Ht2.out).trans Ht3.out).trans Ht4.out).trans Ht5.out).trans Ht6.out).trans Ht7.out).trans Ht90.out)⟩
set_option maxRecDepth 100000 in
set_option maxHeartbeats 1000000 in
theorem rt_b1 {x : Nat} (hx : x < PP) (h1 : ¬ mulF (r1N x) (r1N x) = x) (h2 : isN x = true) (h3 : r2N x % 2 = 1) (w : World) : Calls Try.prog 32 #[.string (toS x)] w (RtPost x w) := by
  have hr1 := r1N_lt x
  have hr2 := r2N_lt x
  have er2 : r2N x = mulF (r1N x) (pN 2 (leN on253)) := by rw [r2N_pN, if_neg h1]
  have hsq : mulF (r2N x) (r2N x) = x := isN_sq h2
  have HO1 := Lib.hid (fun W => ones252_any W)
  have HP1 := Lib.hid (fun W => r1N_pN x ▸ refPow_any hx on252 on252_lt on252_len W)
  have HS1 := Lib.hid (fun W => refMul_toS hr1 hr1 W)
  have q1 := toS_neE (mulF_lt (r1N x) (r1N x)) hx h1
  have HN2 := Lib.hid (fun W => refNum_any 2 (by decide) W)
  rw [(by decide : 2 % PP = 2)] at HN2
  have HO2 := Lib.hid (fun W => ones253_any W)
  have HP2 := Lib.hid (fun W => refPow_any (x := 2) (by decide) on253 on253_lt on253_len W)
  have HM2 := Lib.hid (fun W => refMul_toS hr1 (pN_lt 2 (leN on253)) W)
  rw [← er2] at HM2
  have HS2 := Lib.hid (fun W => refMul_toS hr2 hr2 W)
  have q2 := toS_eqE (mulF_lt (r2N x) (r2N x)) hx hsq
  have HD := Lib.hid (fun W => refOdd_toS (r2N x) W)
  rw [decide_eq_true h3] at HD
  have HG := Lib.hid (fun W => refNeg_toS hr2 W)
  have hroot := root_od h2 h3
  unfold RtPost
  rw [hroot, h2]
  skip
  obtain ⟨s, hs⟩ : ∃ s, s = toS x := ⟨_, rfl⟩
  obtain ⟨u, hu⟩ : ∃ u, u = strOfNums (on252.map fun (n : Nat) => (n : Int)) := ⟨_, rfl⟩
  obtain ⟨t2, ht2⟩ : ∃ t2, t2 = toS (r2N x) := ⟨_, rfl⟩
  obtain ⟨s2, hs2⟩ : ∃ s2, s2 = toS (mulF (r2N x) (r2N x)) := ⟨_, rfl⟩
  rw [← hs2] at HS2 q2
  rw [← hs] at HP1 q1 q2 ⊢
  rw [← hu] at HO1 HP1
  rw [← ht2] at HS2
  obtain ⟨t1, ht1⟩ : ∃ t1, t1 = toS (r1N x) := ⟨_, rfl⟩
  obtain ⟨s1, hs1⟩ : ∃ s1, s1 = toS (mulF (r1N x) (r1N x)) := ⟨_, rfl⟩
  obtain ⟨u2, hu2⟩ : ∃ u2, u2 = strOfNums (on253.map fun (n : Nat) => (n : Int)) := ⟨_, rfl⟩
  obtain ⟨t3, ht3⟩ : ∃ t3, t3 = toS (pN 2 (leN on253)) := ⟨_, rfl⟩
  obtain ⟨n2, hn2⟩ : ∃ n2, n2 = toS 2 := ⟨_, rfl⟩
  rw [← ht1] at HP1 HS1 HM2
  rw [← hs1] at HS1 q1
  rw [← hu2] at HO2 HP2
  rw [← ht3] at HP2 HM2
  rw [← hn2] at HN2 HP2
  rw [← ht2] at HM2
  rw [← ht2] at HD
  rw [← ht2] at HG
  obtain ⟨z, hz⟩ : ∃ z, z = toS (negF (r2N x)) := ⟨_, rfl⟩
  rw [← hz] at HG ⊢
  clear hs hu ht2 hs2 hr1 hr2 er2 hsq hroot h1 h2 h3 hx ht1 hs1 hu2 ht3 hn2 hz
  go_enter Try.func32, Try.ntmps32
  go_wp2_with fail
  refine (HO1.out _).mono ?_
  rintro _ w0 ⟨rfl, ht0⟩
  have Ht0 := Lib.hid ht0
  clear ht0
  go_wp2_with fail
  refine (HP1.out _).mono ?_
  rintro _ w1 ⟨rfl, ht1⟩
  have Ht1 := Lib.hid ht1
  clear ht1
  go_wp2_with fail
  refine (HS1.out _).mono ?_
  rintro _ w2 ⟨rfl, ht2⟩
  have Ht2 := Lib.hid ht2
  clear ht2
  go_wp2_with fail
  refine (HN2.out _).mono ?_
  rintro _ w3 ⟨rfl, ht3⟩
  have Ht3 := Lib.hid ht3
  clear ht3
  go_wp2_with fail
  refine (HO2.out _).mono ?_
  rintro _ w4 ⟨rfl, ht4⟩
  have Ht4 := Lib.hid ht4
  clear ht4
  go_wp2_with fail
  refine (HP2.out _).mono ?_
  rintro _ w5 ⟨rfl, ht5⟩
  have Ht5 := Lib.hid ht5
  clear ht5
  go_wp2_with fail
  refine (HM2.out _).mono ?_
  rintro _ w6 ⟨rfl, ht6⟩
  have Ht6 := Lib.hid ht6
  clear ht6
  go_wp2_with fail
  refine (HS2.out _).mono ?_
  rintro _ w7 ⟨rfl, ht7⟩
  have Ht7 := Lib.hid ht7
  clear ht7
  go_wp2_with fail
  refine (HD.out _).mono ?_
  rintro _ w80 ⟨rfl, rfl⟩
  go_wp2_with fail
  refine (HG.out _).mono ?_
  rintro _ w91 ⟨rfl, ht91⟩
  have Ht91 := Lib.hid ht91
  clear ht91
  go_wp2_with fail
  go_ret2
  exact ⟨rfl, ((((((((Ht0.out.trans Ht1.out).trans Ht2.out).trans Ht3.out).trans Ht4.out).trans Ht5.out).trans Ht6.out).trans Ht7.out).trans Ht91.out)⟩
set_option maxRecDepth 100000 in
set_option maxHeartbeats 1000000 in
theorem rt_b0 {x : Nat} (hx : x < PP) (h1 : ¬ mulF (r1N x) (r1N x) = x) (h2 : isN x = true) (h3 : ¬ r2N x % 2 = 1) (w : World) : Calls Try.prog 32 #[.string (toS x)] w (RtPost x w) := by
  have hr1 := r1N_lt x
  have hr2 := r2N_lt x
  have er2 : r2N x = mulF (r1N x) (pN 2 (leN on253)) := by rw [r2N_pN, if_neg h1]
  have hsq : mulF (r2N x) (r2N x) = x := isN_sq h2
  have HO1 := Lib.hid (fun W => ones252_any W)
  have HP1 := Lib.hid (fun W => r1N_pN x ▸ refPow_any hx on252 on252_lt on252_len W)
  have HS1 := Lib.hid (fun W => refMul_toS hr1 hr1 W)
  have q1 := toS_neE (mulF_lt (r1N x) (r1N x)) hx h1
  have HN2 := Lib.hid (fun W => refNum_any 2 (by decide) W)
  rw [(by decide : 2 % PP = 2)] at HN2
  have HO2 := Lib.hid (fun W => ones253_any W)
  have HP2 := Lib.hid (fun W => refPow_any (x := 2) (by decide) on253 on253_lt on253_len W)
  have HM2 := Lib.hid (fun W => refMul_toS hr1 (pN_lt 2 (leN on253)) W)
  rw [← er2] at HM2
  have HS2 := Lib.hid (fun W => refMul_toS hr2 hr2 W)
  have q2 := toS_eqE (mulF_lt (r2N x) (r2N x)) hx hsq
  have HD := Lib.hid (fun W => refOdd_toS (r2N x) W)
  rw [decide_eq_false h3] at HD
  have hroot := root_ev h2 h3
  unfold RtPost
  rw [hroot, h2]
  skip
  obtain ⟨s, hs⟩ : ∃ s, s = toS x := ⟨_, rfl⟩
  obtain ⟨u, hu⟩ : ∃ u, u = strOfNums (on252.map fun (n : Nat) => (n : Int)) := ⟨_, rfl⟩
  obtain ⟨t2, ht2⟩ : ∃ t2, t2 = toS (r2N x) := ⟨_, rfl⟩
  obtain ⟨s2, hs2⟩ : ∃ s2, s2 = toS (mulF (r2N x) (r2N x)) := ⟨_, rfl⟩
  rw [← hs2] at HS2 q2
  rw [← hs] at HP1 q1 q2 ⊢
  rw [← hu] at HO1 HP1
  rw [← ht2] at HS2
  obtain ⟨t1, ht1⟩ : ∃ t1, t1 = toS (r1N x) := ⟨_, rfl⟩
  obtain ⟨s1, hs1⟩ : ∃ s1, s1 = toS (mulF (r1N x) (r1N x)) := ⟨_, rfl⟩
  obtain ⟨u2, hu2⟩ : ∃ u2, u2 = strOfNums (on253.map fun (n : Nat) => (n : Int)) := ⟨_, rfl⟩
  obtain ⟨t3, ht3⟩ : ∃ t3, t3 = toS (pN 2 (leN on253)) := ⟨_, rfl⟩
  obtain ⟨n2, hn2⟩ : ∃ n2, n2 = toS 2 := ⟨_, rfl⟩
  rw [← ht1] at HP1 HS1 HM2
  rw [← hs1] at HS1 q1
  rw [← hu2] at HO2 HP2
  rw [← ht3] at HP2 HM2
  rw [← hn2] at HN2 HP2
  rw [← ht2] at HM2
  rw [← ht2] at HD
  rw [← ht2]
  clear hs hu ht2 hs2 hr1 hr2 er2 hsq hroot h1 h2 h3 hx ht1 hs1 hu2 ht3 hn2
  go_enter Try.func32, Try.ntmps32
  go_wp2_with fail
  refine (HO1.out _).mono ?_
  rintro _ w0 ⟨rfl, ht0⟩
  have Ht0 := Lib.hid ht0
  clear ht0
  go_wp2_with fail
  refine (HP1.out _).mono ?_
  rintro _ w1 ⟨rfl, ht1⟩
  have Ht1 := Lib.hid ht1
  clear ht1
  go_wp2_with fail
  refine (HS1.out _).mono ?_
  rintro _ w2 ⟨rfl, ht2⟩
  have Ht2 := Lib.hid ht2
  clear ht2
  go_wp2_with fail
  refine (HN2.out _).mono ?_
  rintro _ w3 ⟨rfl, ht3⟩
  have Ht3 := Lib.hid ht3
  clear ht3
  go_wp2_with fail
  refine (HO2.out _).mono ?_
  rintro _ w4 ⟨rfl, ht4⟩
  have Ht4 := Lib.hid ht4
  clear ht4
  go_wp2_with fail
  refine (HP2.out _).mono ?_
  rintro _ w5 ⟨rfl, ht5⟩
  have Ht5 := Lib.hid ht5
  clear ht5
  go_wp2_with fail
  refine (HM2.out _).mono ?_
  rintro _ w6 ⟨rfl, ht6⟩
  have Ht6 := Lib.hid ht6
  clear ht6
  go_wp2_with fail
  refine (HS2.out _).mono ?_
  rintro _ w7 ⟨rfl, ht7⟩
  have Ht7 := Lib.hid ht7
  clear ht7
  go_wp2_with fail
  refine (HD.out _).mono ?_
  rintro _ w80 ⟨rfl, rfl⟩
  go_wp2_with fail
  go_ret2
  exact ⟨rfl, (((((((Ht0.out.trans Ht1.out).trans Ht2.out).trans Ht3.out).trans Ht4.out).trans Ht5.out).trans Ht6.out).trans Ht7.out)⟩
theorem refRoot_toS {x : Nat} (hx : x < PP) (w : World) : Calls Try.prog 32 #[.string (toS x)] w (RtPost x w) := by
  by_cases h1 : mulF (r1N x) (r1N x) = x
  · have h2 : isN x = true := sq_isN (r1N_lt x) h1
    by_cases h3 : r2N x % 2 = 1
    · exact rt_a1 hx h1 h2 h3 w
    · exact rt_a0 hx h1 h2 h3 w
  · cases h2 : isN x with
    | false => exact rt_bn hx h1 h2 w
    | true =>
      by_cases h3 : r2N x % 2 = 1
      · exact rt_b1 hx h1 h2 h3 w
      · exact rt_b0 hx h1 h2 h3 w
end Go.Proofs.Ytbchjefgfghjlaa
