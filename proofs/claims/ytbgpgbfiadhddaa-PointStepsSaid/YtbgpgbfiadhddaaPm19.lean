/- RefFb: joined. -/
import Derived.BigRegion
import Derived.Deep.LoopGhost
import Derived.Test.YtbgpgbfiadhddaaPm03
import Derived.Test.YtbgpgbfiadhddaaPm18
/- The document's digits to the base 65536: folded. -/
namespace Go.Proofs.Ytbgpgbfiadhddaa
open Go.RowKit
abbrev B16 : Nat := 65536 ^ 16
theorem B16_mod : B16 = 2 * PP + 38 := by decide
def foldB : Nat → Nat
  | 0 => 65536 ^ 16
  | 1 => 65536 ^ 16 + 1445
  | 2 => 39 * 65536 ^ 16
  | _ => 65536 ^ 32
/-- While it is folded; k: so many rounds are left. -/
structure FoldS (k V : Nat) (q : List Nat) : Prop where
  dig : DigN q
  mod : dN q % PP = V % PP
  lt : dN q < foldB k
  len : q.length ≤ 32
  top : k ≤ 2 → 16 < q.length → 65536 ^ (q.length - 1) ≤ dN q
/-- What is added from above. -/
structure FoldI (q r : List Nat) (j : Nat) : Prop where
  len : r.length = 16
  drop : r.drop j = (q.take 16).drop j
  val : dN r = dN (q.take 16) + 38 * dN ((q.drop 16).take j)
  le : ∀ x ∈ r, x ≤ 2555865
theorem FoldI.start {q : List Nat} (h : DigN q) (hl : 16 ≤ q.length) : FoldI q (q.take 16) 0 :=
  ⟨by rw [List.length_take]; omega, rfl, by simp [dN], fun x hx => by have := h x (List.mem_of_mem_take hx); omega⟩
theorem FoldI.step {q r : List Nat} {j x y : Nat} (h : FoldI q r j) (hd : DigN q) (hj : j < 16) (hl : 16 + j < q.length) (hx : x = r.getD j 0) (hy : y = q.getD (16 + j) 0) : FoldI q (r.set j (x + 38 * y)) (j + 1) := by
  have h1 := h.len
  have hxl : x < 65536 := by
    have e := congrArg (fun m => m.getD 0 0) h.drop
    have e2 : (r.drop j).getD 0 0 = x := by rw [hx]; simp [List.getD]
    have e3 : ((q.take 16).drop j).getD 0 0 = q.getD j 0 := by
      simp only [List.getD, List.getElem?_drop, List.getElem?_take]
      rw [if_pos (by omega)]
      rfl
    have := hd.at_ j
    omega
  have hyl : y < 65536 := by rw [hy]; exact hd.at_ _
  refine ⟨by rw [List.length_set]; exact h1, ?_, ?_, fun z hz => ?_⟩
  · rw [List.drop_set, if_pos (by omega)]
    have e := congrArg (List.drop 1) h.drop
    rwa [List.drop_drop, List.drop_drop] at e
  · have e1 := dN_set (l := r) (k := j) (by omega) (x + 38 * y)
    have e2 := dN_take_succ (l := q.drop 16) (k := j) (by rw [List.length_drop]; omega)
    have e3 : (q.drop 16).getD j 0 = y := by rw [hy]; simp [List.getD]
    rw [e2, e3]
    rw [← hx, h.val] at e1
    generalize 65536 ^ j = P at *
    generalize dN (r.set j (x + 38 * y)) = R at *
    generalize dN ((q.drop 16).take j) = D at *
    generalize dN (q.take 16) = L at *
    grind
  · rcases List.mem_or_eq_of_mem_set hz with hz | rfl
    · exact h.le z hz
    · omega
theorem dN_split (q : List Nat) (h : 16 ≤ q.length) : dN q = dN (q.take 16) + 65536 ^ 16 * dN (q.drop 16) := by
  have e := dN_append (q.take 16) (q.drop 16)
  rwa [List.take_append_drop, List.length_take, Nat.min_eq_left h] at e
/-- A round. -/
theorem FoldS.round {k V : Nat} {q r p : List Nat} (h : FoldS k V q) (hl : 16 < q.length) (hi : FoldI q r (q.length - 16)) (hp : CarP r p) : ∃ k', k = k' + 1 ∧ FoldS k' V p := by
  have hs := dN_split q (by omega)
  have hv := hi.val
  rw [List.take_of_length_le (l := q.drop 16) (by rw [List.length_drop]; omega)] at hv
  have hlow : dN (q.take 16) < 65536 ^ 16 := by
    have := dN_lt (l := q.take 16) (fun x hx => h.dig x (List.mem_of_mem_take hx))
    rwa [List.length_take, Nat.min_eq_left (by omega)] at this
  have hhigh : dN (q.drop 16) < 65536 ^ 16 := by
    have h1 := dN_lt (l := q.drop 16) (fun x hx => h.dig x (List.mem_of_mem_drop hx))
    rw [List.length_drop] at h1
    exact Nat.lt_of_lt_of_le h1 (Nat.pow_le_pow_right (by decide) (by have := h.len; omega))
  have hm : dN p % PP = V % PP := by
    rw [hp.val, hv, ← h.mod, hs]
    have e : dN (q.take 16) + 65536 ^ 16 * dN (q.drop 16) = dN (q.take 16) + 38 * dN (q.drop 16) + PP * (2 * dN (q.drop 16)) := by
      have := B16_mod
      unfold B16 at this
      rw [this]
      generalize dN (q.drop 16) = D
      generalize PP = P
      grind
    rw [e, Nat.add_mul_mod_self_left]
  have hpv : dN p = dN (q.take 16) + 38 * dN (q.drop 16) := by rw [hp.val, hv]
  have ht := hp.top
  rw [hi.len] at ht
  have hB : (65536 : Nat) ^ 16 = 115792089237316195423570985008687907853269984665640564039457584007913129639936 := by decide
  have hlen : dN p < 39 * 65536 ^ 16 → p.length ≤ 32 := fun hlt => by
    apply Classical.byContradiction
    intro hc
    have h1 := ht (by omega)
    have h2 : (65536 : Nat) ^ 17 ≤ 65536 ^ (p.length - 1) := Nat.pow_le_pow_right (by decide) (by omega)
    have h3 : 39 * (65536 : Nat) ^ 16 < 65536 ^ 17 := by decide
    omega
  have hq := h.lt
  have htop : k ≤ 2 → 65536 ^ 16 ≤ dN q := fun hk => by
    have h1 := h.top hk hl
    exact Nat.le_trans (Nat.pow_le_pow_right (by decide) (by omega)) h1
  rw [hB] at hlow hhigh hs
  match k, hq, htop with
  | 0, hq, htop =>
    have := htop (by omega)
    simp only [foldB] at hq
    omega
  | 1, hq, htop =>
    have h1 := htop (by omega)
    simp only [foldB] at hq
    rw [hB] at h1 hq
    have hlt : dN p < 65536 ^ 16 := by rw [hpv, hB]; omega
    exact ⟨0, rfl, hp.dig, hm, hlt, hlen (Nat.lt_of_lt_of_le hlt (by decide)), fun _ hlp => ht hlp⟩
  | 2, hq, htop =>
    simp only [foldB] at hq
    rw [hB] at hq
    have hlt : dN p < 65536 ^ 16 + 1445 := by rw [hpv, hB]; omega
    exact ⟨1, rfl, hp.dig, hm, hlt, hlen (Nat.lt_of_lt_of_le hlt (by decide)), fun _ hlp => ht hlp⟩
  | k + 3, hq, htop =>
    have hlt : dN p < 39 * 65536 ^ 16 := by rw [hpv, hB]; omega
    have hfb : foldB 2 ≤ foldB (k + 2) := by
      match k with
      | 0 => exact Nat.le_refl _
      | k + 1 => show 39 * 65536 ^ 16 ≤ 65536 ^ 32; decide
    exact ⟨k + 2, rfl, hp.dig, hm, Nat.lt_of_lt_of_le hlt hfb, hlen hlt, fun _ hlp => ht hlp⟩
theorem FoldS.done {k V : Nat} {q : List Nat} (h : FoldS k V q) (hl : q.length ≤ 16) : dN q < 65536 ^ 16 := Nat.lt_of_lt_of_le (dN_lt h.dig) (Nat.pow_le_pow_right (by decide) hl)
theorem FoldS.start {l q : List Nat} (h : CarP l q) (hl : l.length ≤ 32) (hv : dN l < 65536 ^ 32) : FoldS 3 (dN l) q := by
  refine ⟨h.dig, by rw [h.val], by rw [h.val]; exact hv, ?_, fun h => by omega⟩
  apply Classical.byContradiction
  intro hc
  have h1 := h.top (by omega)
  rw [h.val] at h1
  have h2 : (65536 : Nat) ^ 32 ≤ 65536 ^ (q.length - 1) := Nat.pow_le_pow_right (by decide) (by omega)
  omega
/-- Sixteen digits, the same modulo p. -/
structure Dig16 (V : Nat) (q : List Nat) : Prop where
  len : q.length = 16
  dig : DigN q
  mod : dN q % PP = V % PP
theorem getD_drop0 {q : List Nat} {j : Nat} (h : j < q.length) : (cellsI q)[j]? = some (.int .i64 ((q.getD j 0 : Nat) : Int)) := cellsI_at h
theorem dN_pad {q : List Nat} (x : Nat) : dN (q ++ [x]) = dN q + 65536 ^ q.length * x := by rw [dN_append]; simp [dN]
set_option maxRecDepth 100000 in
set_option maxHeartbeats 4000000 in
theorem folded_any (v : Value) (l : List Nat) (row : Option Nat) (w : World) (ho : Own w 3 1 v l.length (cellsI l) row) (h0 : 0 < l.length) (hl : l.length ≤ 32) (hb : ∀ x ∈ l, x ≤ 1099511627776) (hv : dN l < 65536 ^ 32) :
    Calls Try.prog 67 #[v] w (RowPost (Dig16 (dN l)) w) := by
  have hcar := fun W (h : W = w) => h ▸ carried_any v l row w ho h0 (by omega) hb
  have HCar := Lib.hid hcar
  have Hst := Lib.hid (fun q h => FoldS.start (q := q) h hl hv)
  obtain ⟨V, hV⟩ : ∃ V, V = dN l := ⟨_, rfl⟩
  rw [← hV] at Hst ⊢
  clear hcar ho h0 hl hb hv hV
  go_enter Try.func67, Try.ntmps67
  go_wp2_with fail
  refine (HCar.out _ rfl).mono ?_
  rintro e w1 ⟨v1, q1, rfl, hn1, hc1⟩
  have HN := Lib.hid hn1
  have HF := Lib.hid (Hst.out q1 hc1)
  clear hn1 hc1 Hst HCar
  go_wp2_with fail
  go_loopg [0] 3 (fun gk v0 wr => ∃ q : List Nat, NewI w wr v0 q ∧ FoldS gk V q)
  case atStart => exact ⟨q1, HN.out, HF.out⟩
  case round =>
    clear HN HF
    obtain ⟨q, hq, hF⟩ := hrel
    rename World => wq
    have HF := Lib.hid hF
    obtain ⟨n, hn⟩ : ∃ n, n = q.length := ⟨_, rfl⟩
    have Hn := Lib.hid hn
    have hn32 : n ≤ 32 := by rw [hn]; exact hF.len
    clear hF
    by_cases h16 : 16 < n
    · obtain ⟨g, off, c, rfl, hg, hnc, hcm, _, _⟩ := hq.cells (by omega)
      have hcm' : c ≤ 9223372036854775807 := hcm
      obtain ⟨rq, hown⟩ := hq.own
      have Hq := Lib.hid hq
      rw [← hn] at hnc hown Hq ⊢
      have hpre := hown.pre (m := 16) (by omega) (by omega)
      have e1 : (cellsI q).take 16 = cellsI (q.take 16) := by simp [cellsI]
      have e2 : (q.take 16).length = 16 := by rw [List.length_take, ← hn]; omega
      rw [e1] at hpre
      have Hown := Lib.hid hown
      have Hpre := Lib.hid hpre
      have He2 := Lib.hid e2
      clear hpre hown e1 e2 hq hcm hn
      go_wp2_with (at_builtin; refine wpList_append_ints wq _ (.tmp 10) (.tmp 12) 79 Try.underlying79 rfl rfl (v := .slice (some ⟨wq.heap.size, 0, none⟩) 0 0) (l := []) ⟨none, Own.nil _ _ _ _, (Touch.refl _ _).alloc _, .refl _ _⟩ (by simp) (q.take 16) (by rw [He2.out]; omega) (xv := .slice (some ⟨g, off, none⟩) 16 c) (rx := rq) (by rw [He2.out]; exact Hpre.out.alloc _) rfl rfl ?_)
      intro A2 c2 w2 h2
      have hmin : min 16 q.length = 16 := by rw [← Hn.out]; omega
      rw [hmin] at h2 ⊢
      clear hmin
      have hI0 := Lib.hid (FoldI.start HF.out.dig (by rw [← Hn.out]; omega))
      obtain ⟨r0, hr0⟩ : ∃ r0, r0 = q.take 16 := ⟨_, rfl⟩
      rw [← hr0] at h2 hI0
      clear hr0 Hpre He2
      have hr0l := hI0.out.len
      rw [← hr0l] at h2
      obtain ⟨g2, o2, c3, hv2, hg2, hnc2, hcm2, _, _⟩ := h2.cells (by omega)
      injection hv2 with ha hb hc
      subst ha hc
      clear hb
      rw [hr0l] at h2 hnc2
      have hcm2' : c2 ≤ 9223372036854775807 := hcm2
      have H2 := Lib.hid h2
      clear h2 hcm2 hr0l
      go_wp2_with fail
      go_loopw [4] (fun vi wx => ∃ (j : Nat) (r : List Nat), j + 16 ≤ n ∧ vi = .int .i64 ((j : Int) + 16) ∧ NewI wq wx (.slice (some ⟨g2, o2, none⟩) 16 c2) r ∧ FoldI q r j) (fun vi _ => n - (intOf vi).toNat)
      case atStart => exact ⟨0, r0, by omega, rfl, H2.out, hI0.out⟩
      case round =>
        clear H2 hI0
        obtain ⟨j, r, hj, rfl, hr, hI⟩ := hrel
        have Hr := Lib.hid hr
        have HI := Lib.hid hI
        have hrl := hI.len
        clear hr hI
        by_cases hjn : j + 16 < n
        · have hcq := Own.cellAt (Hown.out.touch Hr.out.touch (by simp)) (by omega) (16 + j) _ (cellsI_at (by rw [← Hn.out]; omega))
          rw [show off + (16 + j) = off + (j + 16) by omega] at hcq
          have hrc := Hr.out
          rw [← hrl] at hrc
          obtain ⟨_, _, _, hvt, _, _, _, hft, hct⟩ := hrc.cells (by omega)
          injection hvt with ha hvl hcc
          clear hvl hrc
          injection ha with ha
          injection ha with h1 h2
          subst h1 h2 hcc
          have hcr := hct j (by omega)
          have hfr := hft (o2 + j)
          have Hrl := Lib.hid hrl
          clear hct hft hrl
          have hst := HI.out.step HF.out.dig (by omega) (by rw [← Hn.out]; omega) (x := r.getD j 0) (y := q.getD (16 + j) 0) rfl rfl
          have hxb := getD_le HI.out.le j
          have hyb := HF.out.dig.at_ (16 + j)
          obtain ⟨x, hx⟩ : ∃ x, x = r.getD j 0 := ⟨_, rfl⟩
          obtain ⟨y, hy⟩ : ∃ y, y = q.getD (16 + j) 0 := ⟨_, rfl⟩
          rw [← hx] at hcr hst hxb
          rw [← hy] at hcq hst hyb
          have HS := Lib.hid hst
          clear hst hx hy
          go_wp2_with fail
          go_region
          go_wp2_with fail
          go_roundw
          case rel =>
            have hcast : (x : Int) + 38 * (y : Int) = ((x + 38 * y : Nat) : Int) := by omega
            have hset := Hr.out
            rw [← Hrl.out] at hset
            have hset2 := hset.set j (x + 38 * y) (by rw [Hrl.out]; omega)
            rw [show (r.set j (x + 38 * y)).length = 16 by rw [List.length_set]; exact Hrl.out] at hset2
            rw [hcast]
            exact ⟨j + 1, _, by omega, congrArg (Value.int .i64) (by omega), hset2.more (Touch.refl _ _).drew, HS.out⟩
          case measure => simp [intOf]; omega
        · obtain rfl : n = j + 16 := by omega
          obtain ⟨rr, hor⟩ := Hr.out.own
          rw [hrl] at hor
          have hge := HI.out
          rw [show j = q.length - 16 by rw [← Hn.out]; omega] at hge
          have hle := HI.out.le
          have hcar := fun W (h : W = wr) => h ▸ carried_any _ r rr wr (by rw [hrl]; exact hor) (by omega) (by omega) (fun x hx => Nat.le_trans (hle x hx) (by decide))
          have HCar := Lib.hid hcar
          have HR := Lib.hid (fun p hp => HF.out.round (p := p) (by rw [← Hn.out]; omega) hge hp)
          clear hcar hle hge hor hrl
          go_wp2_with fail
          refine (HCar.out _ rfl).mono ?_
          rintro e w3 ⟨v3, p, rfl, hn3, hc3⟩
          obtain ⟨k', hk', hF'⟩ := HR.out p hc3
          have HN := Lib.hid (hn3.before (Hq.out.touch.trans Hr.out.touch))
          have HF' := Lib.hid hF'
          clear hn3 hc3 hF' HCar HR
          go_wp2_with fail
          go_roundg k'
          case measure => omega
          case rel => exact ⟨p, HN.out, HF'.out⟩
    · obtain ⟨A, c, rfl, hac⟩ := hq.shape
      have Hq := Lib.hid hq
      rw [← hn] at Hq ⊢
      have hd := HF.out.dig
      have hm := HF.out.mod
      have Hd := Lib.hid hd
      have Hm := Lib.hid hm
      clear hd hm hq hac hn
      go_wp2_with fail
      go_loopg [0] (16 - n) (fun gk v0 wr => ∃ p : List Nat, p.length + gk = 16 ∧ NewI w wr v0 p ∧ DigN p ∧ dN p % PP = V % PP)
      case atStart => exact ⟨q, by rw [← Hn.out]; omega, by rw [Hn.out] at Hq ⊢; exact Hq.out, Hd.out, Hm.out⟩
      case round =>
        clear HF Hn Hq Hd Hm
        obtain ⟨p, hp, hN, hD, hM⟩ := hrel
        obtain ⟨A2, c2, rfl, _⟩ := hN.shape
        have HN := Lib.hid hN
        have HD := Lib.hid hD
        have HM := Lib.hid hM
        clear hN hD hM
        by_cases hg0 : gk = 0
        · subst hg0
          have HP := Lib.hid (show p.length = 16 by omega)
          clear hp
          rw [HP.out] at HN ⊢
          go_wp2_with fail
          go_ret
          exact ⟨_, p, rfl, HN.out, HP.out, HD.out, HM.out⟩
        · obtain ⟨m, hm⟩ : ∃ m, m = p.length := ⟨_, rfl⟩
          have Hm := Lib.hid hm
          rw [← hm] at hp HN ⊢
          clear hm
          go_wp2_with (at_builtin; refine wpList_append_int w _ (.tmp 40) (.tmp 41) 79 Try.underlying79 rfl rfl HN.out (by rw [← Hm.out]; omega) 0 _ rfl rfl ?_)
          intro A3 c3 w3 h3
          have H3 := Lib.hid h3
          clear h3
          go_wp2_with fail
          go_roundg (gk - 1)
          case measure => omega
          case rel => exact ⟨p ++ [0], by rw [List.length_append, ← Hm.out]; simp; omega, H3.out, HD.out.snoc (by decide), by rw [dN_pad, Nat.mul_zero, Nat.add_zero]; exact HM.out⟩
end Go.Proofs.Ytbgpgbfiadhddaa
