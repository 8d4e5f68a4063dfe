/- The document's numbers by digits: less. -/
import Derived.Test.YtcnmpflbmnnkbaaDoorRefSb
namespace Go.Proofs.YtcnmpflbmnnkbaaDoor
open Go.RowKit
/-- Where the cells of a row lie. -/
theorem Own.cellAt {w : World} {e n g off c : Nat} {xs : List Value} {row : Option Nat} (h : Own w e 1 (.slice (some ⟨g, off, none⟩) n c) n xs row) (hn : 0 < n) : ∀ k u, xs[k]? = some u → w.cell? ⟨g, off + k, none⟩ = some u := by
  obtain ⟨g', off', c', hv, _, _, _, _, _, hx⟩ := h.cell1 hn
  injection hv with ha _ _
  injection ha with ha
  injection ha with h1 h2
  subst h1; subst h2
  exact hx
def LessPost (l : List Nat) (w : World) (e : Ending) (w' : World) : Prop :=
  ∃ v l', e = .returned v ∧ NewI w w' v l' ∧ l'.length = l.length ∧ (∀ b ∈ l', b < 256) ∧ leN l' + ell = leN l
theorem leN_snoc (o : List Nat) (x : Nat) : leN (o ++ [x]) = leN o + 256 ^ o.length * x := by rw [leN_append]; simp [leN]
theorem less_step {l o : List Nat} {n k c x y z c' : Nat} (hk : k < n) (hl : l.length = n) (ho : o.length = k) (hx : x = l.getD k 0) (hy : y = (ordL n).getD k 0)
    (hs : z + y + c = x + c' * 256) (hv : leN o + leN ((ordL n).take k) = leN (l.take k) + c * 256 ^ k) :
    leN (o ++ [z]) + leN ((ordL n).take (k + 1)) = leN (l.take (k + 1)) + c' * 256 ^ (k + 1) := by
  rw [leN_snoc, leN_take_succ (l := ordL n) (by rw [ordL_len]; omega), leN_take_succ (l := l) (by omega), ho, ← hx, ← hy, Nat.pow_succ]
  generalize 256 ^ k = P at *
  have h : P * (z + y + c) = P * (x + c' * 256) := by rw [hs]
  grind
theorem mem_snoc_lt {o : List Nat} {z : Nat} (ho : ∀ b ∈ o, b < 256) (hz : z < 256) : ∀ b ∈ o ++ [z], b < 256 := by
  intro b hb
  rcases List.mem_append.1 hb with hb | hb
  · exact ho b hb
  · rw [List.mem_singleton.1 hb]; exact hz
theorem less_last {l o : List Nat} {n c : Nat} (h32 : 32 ≤ n) (hl : l.length = n) (ho : o.length = n) (hob : ∀ b ∈ o, b < 256) (hge : ell ≤ leN l)
    (hv : leN o + leN ((ordL n).take n) = leN (l.take n) + c * 256 ^ n) : leN o + ell = leN l := by
  rw [List.take_of_length_le (by rw [ordL_len]; omega), List.take_of_length_le (by omega), ordL_num h32] at hv
  have h1 := leN_lt hob
  rw [ho] at h1
  rcases Nat.eq_zero_or_pos c with h0 | h0
  · subst h0; omega
  · have : 256 ^ n ≤ c * 256 ^ n := Nat.le_mul_of_pos_left _ h0
    omega
set_option maxRecDepth 100000 in
set_option maxHeartbeats 2000000 in
theorem less_any (v : Value) (l : List Nat) (row : Option Nat) (w : World) (ho : Own w 3 1 v l.length (cellsI l) row) (h32 : 32 ≤ l.length) (h100 : l.length ≤ 100) (hb : ∀ b ∈ l, b < 256) (hge : ell ≤ leN l) :
    Calls Tryd.prog 34 #[v] w (LessPost l w) := by
  have Hown := Lib.hid ho
  obtain ⟨g, off, c, rfl, hrow, hg, hnc, hcm, _, _⟩ := ho.cell1 (by omega)
  have hcm' : c ≤ 9223372036854775807 := hcm
  have Hb := Lib.hid hb
  have Hge := Lib.hid hge
  clear ho hb hcm hge
  obtain ⟨n, hn⟩ : ∃ n, n = l.length := ⟨_, rfl⟩
  have Hn := Lib.hid hn
  rw [← hn] at hnc h32 h100 Hown
  rw [← hn]
  clear hn hrow
  go_enter Tryd.func34, Tryd.ntmps34
  go_wp2_with fail
  go_loopw [3, 4, 5] (fun vo vc vi wr => ∃ (k c : Nat) (o : List Nat), k ≤ n ∧ vi = .int .i64 k ∧ vc = .int .i64 c ∧ c ≤ 1 ∧ NewI w wr vo o ∧ o.length = k ∧ (∀ b ∈ o, b < 256) ∧ leN o + leN ((ordL n).take k) = leN (l.take k) + c * 256 ^ k) (fun _ _ vi _ => n - (intOf vi).toNat)
  case atStart => exact ⟨0, 0, [], by omega, rfl, rfl, by omega, ⟨none, Own.nil _ _ _ _, (Touch.refl _ _).alloc _, .refl _ _⟩, rfl, by simp, by simp [leN]⟩
  case round =>
    obtain ⟨k, c1, o, hk, rfl, rfl, hc1, ho, hol, hob, hv⟩ := hrel
    obtain ⟨Ao, co, rfl, _⟩ := ho.shape
    have Ho := Lib.hid ho
    have Hol := Lib.hid hol
    have Hob := Lib.hid hob
    have Hv := Lib.hid hv
    clear ho hob hv
    by_cases hkn : k < n
    · have hcell := (Hown.out.touch Ho.out.touch (by simp)).cellAt (by omega) k _ (cellsI_at (by rw [← Hn.out]; exact hkn))
      have hxl := getD_lt Hb.out k
      have hyl := getD_lt (ordL_lt n) k
      have hstep := Lib.hid (fun z c' => less_step (l := l) (o := o) (n := n) (k := k) (c := c1) (z := z) (c' := c') hkn Hn.out.symm Hol.out rfl rfl)
      have hya := Lib.hid (ordL_at (n := n) hkn)
      obtain ⟨x, hx⟩ : ∃ x, x = l.getD k 0 := ⟨_, rfl⟩
      obtain ⟨y, hy⟩ : ∃ y, y = (ordL n).getD k 0 := ⟨_, rfl⟩
      rw [← hx, ← hy] at hstep
      rw [← hx] at hcell hxl
      rw [← hy] at hyl hya
      clear hx hy
      have hix := fun h => index_bl ⟨#[237, 211, 245, 92, 26, 99, 18, 88, 214, 156, 247, 162, 222, 249, 222, 20, 0, 0, 0, 0, 0, 0, 0, 0, 0, 0, 0, 0, 0, 0, 0, 16]⟩ (k : Int) k rfl h
      rw [← hya.out] at hix
      have hfar := Lib.hid (fun h => hya.out.trans (ord_far (j := k) h))
      clear hya
      have hol' : o.length ≤ 1000000 := by omega
      clear hol
      go_upto_if 21 with fail
      go_cut [6] (fun vx wx => vx = .int .i64 ((x : Int) - c1 - y) ∧ wr = wx)
      case first =>
        by_cases hj : k < 32
        · have hix' := hix hj
          clear hix
          go_wp2_with fail
          refine (order_any _).mono ?_
          rintro e wz ⟨rfl, rfl⟩
          go_wp2_with fail
          go_meet
          exact ⟨rfl, rfl⟩
        · have hy0 := hfar.out (by omega)
          clear hix
          go_wp2_with fail
          go_meet
          exact ⟨by subst hy0; simp, rfl⟩
      case rest =>
        obtain ⟨rfl, rfl⟩ := hcut
        clear hix hfar
        by_cases hneg : x < c1 + y
        · have hneg' : decide ((x : Int) - c1 - y < 0) = true := decide_eq_true (by omega)
          obtain ⟨z, hz⟩ : ∃ z, z = x + 256 - c1 - y := ⟨_, rfl⟩
          have hz1 : (x : Int) - c1 - y + 256 = (z : Int) := by omega
          have hz2 := Lib.hid (show z < 256 by omega)
          have hst := Lib.hid (hstep.out z 1 (by omega) Hv.out)
          clear hstep hz
          have Hz1 := Lib.hid hz1
          clear hz1
          go_upto_region 12 with fail
          rw [Hz1.out]
          go_wp2_with (at_builtin; refine wpList_append_int w _ (.tmp 32) (.tmp 34) 33 Tryd.underlying33 rfl rfl Ho.out hol' z _ rfl rfl ?_)
          intro A2 c2 w2 h2
          have H2 := Lib.hid h2
          clear h2
          go_wp2_with fail
          go_roundw
          case rel => exact ⟨k + 1, 1, o ++ [z], by omega, by go_num, rfl, by omega, H2.out, by rw [List.length_append, Hol.out]; rfl, mem_snoc_lt Hob.out hz2.out, hst.out⟩
          case measure => simp [intOf]; omega
        · have hneg' : decide ((x : Int) - c1 - y < 0) = false := decide_eq_false (by omega)
          obtain ⟨z, hz⟩ : ∃ z, z = x - c1 - y := ⟨_, rfl⟩
          have hz1 : (x : Int) - c1 - y = (z : Int) := by omega
          have hz2 := Lib.hid (show z < 256 by omega)
          have hst := Lib.hid (hstep.out z 0 (by omega) Hv.out)
          clear hstep hz
          have Hz1 := Lib.hid hz1
          clear hz1
          go_upto_region 12 with fail
          rw [Hz1.out]
          go_wp2_with (at_builtin; refine wpList_append_int w _ (.tmp 32) (.tmp 34) 33 Tryd.underlying33 rfl rfl Ho.out hol' z _ rfl rfl ?_)
          intro A2 c2 w2 h2
          have H2 := Lib.hid h2
          clear h2
          go_wp2_with fail
          go_roundw
          case rel => exact ⟨k + 1, 0, o ++ [z], by omega, by go_num, rfl, by omega, H2.out, by rw [List.length_append, Hol.out]; rfl, mem_snoc_lt Hob.out hz2.out, hst.out⟩
          case measure => simp [intOf]; omega
    · obtain rfl : k = n := by omega
      have hfin := Lib.hid (less_last (h32) Hn.out.symm Hol.out Hob.out Hge.out Hv.out)
      clear hcm'
      go_wp2_with fail
      go_ret
      exact ⟨_, o, rfl, Ho.out, by rw [Hol.out, Hn.out], Hob.out, hfin.out⟩
end Go.Proofs.YtcnmpflbmnnkbaaDoor
