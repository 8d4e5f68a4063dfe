/- The document's inverse, root, and reading, modulo p. -/
import Derived.Test.YtbchjefgfghjlaaRefFk
namespace Go.Proofs.Ytbchjefgfghjlaa
open Go.RowKit
theorem invF_pN (x : Nat) : pN x (leN on255) = invF x := by
  unfold pN
  rw [invF_eq, on255_val, (by decide : PP - 2 = 57896044618658097711785492504343953926634992332820282019728792003956564819947)]
theorem r1_gen (x : Nat) {e m : Nat} (h : m = e + 1) : pN x m = mulF (x ^ e % PP) x := by
  subst h
  rw [← pN_more]
  rw [pN]
theorem on252_succ : leN on252 = 7237005577332262213973186563042994240829374041602535252466099000494570602493 + 1 := on252_val.trans (by decide)
theorem r1N_pN (x : Nat) : pN x (leN on252) = r1N x := by
  have h := r1N_eq x
  have hk := on252_succ
  generalize 7237005577332262213973186563042994240829374041602535252466099000494570602493 = e at h hk
  rw [h]
  exact r1_gen x hk
theorem pN_gen (x : Nat) {m e : Nat} (h : m = e) : pN x m = x ^ e % PP := by
  subst h
  rw [pN]
theorem r2N_pN (a : Nat) : r2N a = if mulF (r1N a) (r1N a) = a then r1N a else mulF (r1N a) (pN 2 (leN on253)) := by
  have h := r2N_eq a
  have hk := on253_val
  generalize 14474011154664524427946373126085988481658748083205070504932198000989141204987 = e at h hk
  rw [h, pN_gen 2 hk]
set_option maxRecDepth 100000 in
theorem refInv_toS {x : Nat} (hx : x < PP) (w : World) : Calls Try.prog 34 #[.string (toS x)] w fun e w' => e = .returned (.string (toS (invF x))) ∧ Touch [] w w' := by
  have HP := Lib.hid (fun W => invF_pN x ▸ refPow_any hx on255 on255_lt on255_len W)
  obtain ⟨s, hs⟩ : ∃ s, s = toS x := ⟨_, rfl⟩
  obtain ⟨t, ht⟩ : ∃ t, t = toS (invF x) := ⟨_, rfl⟩
  have HO := Lib.hid (fun W => ones255_any W)
  obtain ⟨u, hu⟩ : ∃ u, u = strOfNums (on255.map fun (n : Nat) => (n : Int)) := ⟨_, rfl⟩
  rw [← hs, ← ht, ← hu] at HP
  rw [← hu] at HO
  rw [← hs, ← ht]
  clear hs ht hu hx
  go_enter Try.func34, Try.ntmps34
  go_wp2_with fail
  refine (HO.out _).mono ?_
  rintro e w1 ⟨rfl, ht1⟩
  have Ht1 := Lib.hid ht1
  clear ht1
  go_wp2_with fail
  refine (HP.out _).mono ?_
  rintro e w2 ⟨rfl, ht2⟩
  have Ht2 := Lib.hid ht2
  clear ht2
  go_wp2_with fail
  go_ret
  exact ⟨rfl, Ht1.out.trans Ht2.out⟩
set_option maxRecDepth 100000 in
theorem refOdd_toS (x : Nat) (w : World) : Calls Try.prog 24 #[.string (toS x)] w fun e w' => e = .returned (.bool (decide (x % 2 = 1))) ∧ w = w' := by
  have hix := index_blE (toS x) 0 0 rfl (by rw [toS_size]; omega)
  have hat := toS_at x 0 (by omega)
  have hlt := getD_lt (bl_lt (toS x)) 0
  obtain ⟨y, hy⟩ : ∃ y, y = (bl (toS x)).getD 0 0 := ⟨_, rfl⟩
  rw [← hy] at hix hat hlt
  have Hd : Hid (decide ((y : Int) % 2 = 1) = decide (x % 2 = 1)) := Lib.hid (decide_eq_decide.2 (by rw [Nat.mul_zero, Nat.pow_zero, Nat.div_one] at hat; omega))
  have hsz : 0 < (toS x).size := by rw [toS_size]; omega
  obtain ⟨s, hs⟩ : ∃ s, s = toS x := ⟨_, rfl⟩
  rw [← hs] at hix hsz ⊢
  clear hy hat hs
  by_cases hb : y % 2 = 1
  · have e1 : ((y : Int) % 2 == 1) = true := beq_iff_eq.2 (by omega)
    have e2 := Lib.hid (show decide (x % 2 = 1) = true by rw [← Hd.out]; exact decide_eq_true (by omega))
    clear hb
    go_enter Try.func24, Try.ntmps24
    go_wp2_with fail
    go_ret
    exact ⟨by rw [e2.out]; rfl, rfl⟩
  · have e1 : ((y : Int) % 2 == 1) = false := beq_eq_false_iff_ne.2 (by omega)
    have e2 := Lib.hid (show decide (x % 2 = 1) = false by rw [← Hd.out]; exact decide_eq_false (by omega))
    clear hb
    go_enter Try.func24, Try.ntmps24
    go_wp2_with fail
    go_ret
    exact ⟨by rw [e2.out]; rfl, rfl⟩
set_option maxRecDepth 100000 in
theorem refOf_any (s : ByteArray) (w : World) : Calls Try.prog 29 #[.string s] w fun e w' => e = .returned (.tuple #[.string (toS (ofN s)), .int .i64 (ofC s)]) ∧ Touch [] w w' := by
  have H0 := Lib.hid (fun W => refNum_any 0 (by decide) W)
  have hz := Lib.hid (show (0 : Nat) % PP = 0 from by decide)
  by_cases h1 : s.size < 32
  · have hc := Lib.hid (show ofC s = 2 by unfold ofC; rw [if_pos h1])
    have hn := Lib.hid (show ofN s = 0 by unfold ofN; rw [hc.out]; rfl)
    rw [hc.out, hn.out, ← hz.out]
    clear hc hn hz
    have h1' : (s.size : Int) < 32 := by omega
    clear h1
    go_enter Try.func29, Try.ntmps29
    go_wp2_with fail
    refine (H0.out _).mono ?_
    rintro e w1 ⟨rfl, ht⟩
    have Ht := Lib.hid ht
    clear ht
    go_wp2_with fail
    go_ret2
    exact ⟨rfl, Ht.out⟩
  · by_cases h2 : 32 < s.size
    · have hc := Lib.hid (show ofC s = 4 by unfold ofC; rw [if_neg h1, if_pos h2])
      have hn := Lib.hid (show ofN s = 0 by unfold ofN; rw [hc.out]; rfl)
      rw [hc.out, hn.out, ← hz.out]
      clear hc hn hz
      have e1 : decide ((s.size : Int) < 32) = false := decide_eq_false (by omega)
      have e2 : decide ((32 : Int) < s.size) = true := decide_eq_true (by omega)
      clear h1 h2
      go_enter Try.func29, Try.ntmps29
      go_wp2_with fail
      refine (H0.out _).mono ?_
      rintro e w1 ⟨rfl, ht⟩
      have Ht := Lib.hid ht
      clear ht
      go_wp2_with fail
      go_ret2
      exact ⟨rfl, Ht.out⟩
    · have hs : s.size = 32 := by omega
      have HC := Lib.hid (fun W => refCut_any s W)
      rw [lowB_cut] at HC
      have e1 : decide ((s.size : Int) < 32) = false := decide_eq_false (by omega)
      have e2 : decide ((32 : Int) < s.size) = false := decide_eq_false (by omega)
      by_cases h3 : toS (cutN s) = s
      · have hc := Lib.hid (show ofC s = 0 by unfold ofC; rw [if_neg h1, if_neg h2, if_pos h3])
        have hn := Lib.hid (show ofN s = cutN s by unfold ofN; rw [if_pos hc.out])
        rw [hc.out, hn.out, h3]
        rw [h3] at HC
        clear hc hn hz h1 h2 hs h3
        go_enter Try.func29, Try.ntmps29
        go_wp2_with fail
        refine (HC.out _).mono ?_
        rintro e w1 ⟨rfl, ht⟩
        have Ht := Lib.hid ht
        clear ht
        go_wp2_with fail
        go_ret2
        exact ⟨rfl, Ht.out⟩
      · have hc := Lib.hid (show ofC s = 3 by unfold ofC; rw [if_neg h1, if_neg h2, if_neg h3])
        have hn := Lib.hid (show ofN s = 0 by unfold ofN; rw [hc.out]; rfl)
        rw [hc.out, hn.out, ← hz.out]
        obtain ⟨t, ht⟩ : ∃ t, t = toS (cutN s) := ⟨_, rfl⟩
        rw [← ht] at HC h3
        have e3 : (t.toList == s.toList) = false := by rw [str_beqE]; exact decide_eq_false h3
        have e4 : (t.toList != s.toList) = true := by rw [bne, e3]; rfl
        clear hc hn hz h1 h2 hs h3 ht
        go_enter Try.func29, Try.ntmps29
        go_wp2_with fail
        refine (HC.out _).mono ?_
        rintro e w1 ⟨rfl, ht⟩
        have Ht := Lib.hid ht
        clear ht
        go_wp2_with fail
        refine (H0.out _).mono ?_
        rintro e w2 ⟨rfl, ht2⟩
        have Ht2 := Lib.hid ht2
        clear ht2
        go_wp2_with fail
        go_ret2
        exact ⟨rfl, Ht.out.trans Ht2.out⟩
end Go.Proofs.Ytbchjefgfghjlaa
