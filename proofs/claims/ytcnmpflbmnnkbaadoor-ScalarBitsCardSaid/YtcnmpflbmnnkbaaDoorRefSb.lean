/- The document's numbers by digits: below, less. -/
import Derived.Test.YtcnmpflbmnnkbaaDoorRefSa
namespace Go.Proofs.YtcnmpflbmnnkbaaDoor
open Go.RowKit
theorem leN_split {l : List Nat} {j : Nat} (hj : j < l.length) : leN l = leN (l.take j) + 256 ^ j * (l.getD j 0 + 256 * leN (l.drop (j + 1))) := by
  conv => lhs; rw [← List.take_append_drop j l, leN_append, List.length_take, Nat.min_eq_left (by omega), List.drop_eq_getElem_cons hj]
  rw [leN]
  simp [List.getD, hj]
theorem take_lt {l : List Nat} (h : ∀ b ∈ l, b < 256) {j : Nat} (hj : j ≤ l.length) : leN (l.take j) < 256 ^ j := by
  have h1 := leN_lt (l := l.take j) (fun b hb => h b (List.mem_of_mem_take hb))
  rwa [List.length_take, Nat.min_eq_left hj] at h1
theorem leN_cmp {l m : List Nat} (hlm : l.length = m.length) (hl : ∀ b ∈ l, b < 256) (hm : ∀ b ∈ m, b < 256) {j : Nat} (hj : j < l.length) (hd : l.drop (j + 1) = m.drop (j + 1)) (hne : l.getD j 0 ≠ m.getD j 0) :
    decide (leN l < leN m) = decide (l.getD j 0 < m.getD j 0) := by
  have h1 := leN_split hj
  have h2 := leN_split (l := m) (by rw [← hlm]; exact hj)
  have b1 := take_lt hl (Nat.le_of_lt hj)
  have b2 := take_lt hm (j := j) (by omega)
  rw [hd] at h1
  rw [h1, h2]
  generalize leN (m.drop (j + 1)) = r at *
  generalize l.getD j 0 = x at *
  generalize m.getD j 0 = y at *
  generalize leN (l.take j) = a at *
  generalize leN (m.take j) = b at *
  generalize 256 ^ j = P at *
  apply decide_eq_decide.2
  constructor
  · intro h
    rcases Nat.lt_or_ge x y with h' | h'
    · exact h'
    · exfalso
      have : P * (y + 256 * r + 1) ≤ P * (x + 256 * r) := Nat.mul_le_mul_left _ (by omega)
      rw [Nat.mul_add P (y + 256 * r) 1] at this
      omega
  · intro h'
    have : P * (x + 256 * r + 1) ≤ P * (y + 256 * r) := Nat.mul_le_mul_left _ (by omega)
    rw [Nat.mul_add P (x + 256 * r) 1] at this
    omega
theorem drop_getD {l : List Nat} {j : Nat} (hj : j < l.length) : l.drop j = l.getD j 0 :: l.drop (j + 1) := by
  rw [List.drop_eq_getElem_cons hj]; simp [List.getD, hj]
/-- The order's digits. -/
def ordL (n : Nat) : List Nat := padN (bl (⟨#[237, 211, 245, 92, 26, 99, 18, 88, 214, 156, 247, 162, 222, 249, 222, 20, 0, 0, 0, 0, 0, 0, 0, 0, 0, 0, 0, 0, 0, 0, 0, 16]⟩ : ByteArray)) n
theorem ordL_len (n : Nat) : (ordL n).length = n := padN_len _ _
theorem ordL_lt (n : Nat) : ∀ b ∈ ordL n, b < 256 := padN_lt (bl_lt _) n
theorem ordL_num {n : Nat} (h : 32 ≤ n) : leN (ordL n) = ell := by
  unfold ordL
  rw [leN_padN, List.take_of_length_le (by rw [bl_len]; exact h)]
  decide +kernel
theorem ordL_at {n j : Nat} (h : j < n) : (ordL n).getD j 0 = (bl (⟨#[237, 211, 245, 92, 26, 99, 18, 88, 214, 156, 247, 162, 222, 249, 222, 20, 0, 0, 0, 0, 0, 0, 0, 0, 0, 0, 0, 0, 0, 0, 0, 16]⟩ : ByteArray)).getD j 0 := padN_at _ _ _ h
theorem ord_far {j : Nat} (h : 32 ≤ j) : (bl (⟨#[237, 211, 245, 92, 26, 99, 18, 88, 214, 156, 247, 162, 222, 249, 222, 20, 0, 0, 0, 0, 0, 0, 0, 0, 0, 0, 0, 0, 0, 0, 0, 16]⟩ : ByteArray)).getD j 0 = 0 := by rw [List.getD, List.getElem?_eq_none (by rw [bl_len]; exact h)]; rfl
set_option maxRecDepth 100000 in
set_option maxHeartbeats 1000000 in
theorem below_any (v : Value) (l : List Nat) (row : Option Nat) (w : World) (ho : Own w 3 1 v l.length (cellsI l) row) (h32 : 32 ≤ l.length) (h100 : l.length ≤ 100) (hb : ∀ b ∈ l, b < 256) :
    Calls Tryd.prog 23 #[v] w fun e w' => e = .returned (.bool (decide (leN l < ell))) ∧ w = w' := by
  obtain ⟨g, off, c, rfl, _, hg, hnc, hcm, _, hx⟩ := ho.cell1 (by omega)
  have hx2 := Lib.hid (fun k (hk : k < l.length) => hx k _ (cellsI_at hk))
  have Hb := Lib.hid hb
  have HO := Lib.hid (ordL_num h32)
  have hcm' : c ≤ 9223372036854775807 := hcm
  clear hx ho hb hcm
  obtain ⟨n, hn⟩ : ∃ n, n = l.length := ⟨_, rfl⟩
  have Hn := Lib.hid hn
  rw [← hn] at hnc h32 h100 HO
  rw [← hn]
  clear hn
  go_enter Tryd.func23, Tryd.ntmps23
  go_wp2_with fail
  go_loopw [3] (fun vi wr => ∃ k : Nat, k ≤ n ∧ vi = .int .i64 ((k : Int) - 1) ∧ l.drop k = (ordL n).drop k ∧ w = wr) (fun vi _ => (intOf vi + 1).toNat)
  case atStart => exact ⟨n, by omega, rfl, by rw [List.drop_of_length_le (by rw [Hn.out]; omega), List.drop_of_length_le (by rw [ordL_len]; omega)], rfl⟩
  case round =>
    obtain ⟨k, hk, rfl, hd, rfl⟩ := hrel
    have Hd := Lib.hid hd
    clear hd
    rcases k with _ | j
    · have he : Hid (decide (leN l < ell) = false) := Lib.hid (by
        have := Hd.out
        rw [List.drop_zero, List.drop_zero] at this
        rw [this, HO.out]; simp)
      rw [show (((0 : Nat) : Int) - 1) = -1 by omega]
      go_wp2_with fail
      go_ret
      exact ⟨ret_bool he.out.symm, rfl⟩
    · rw [show (((j + 1 : Nat) : Int) - 1) = (j : Int) by omega]
      have hc := hx2.out j (by rw [← Hn.out]; omega)
      have hxl := getD_lt Hb.out j
      have hyl := getD_lt (bl_lt ⟨#[237, 211, 245, 92, 26, 99, 18, 88, 214, 156, 247, 162, 222, 249, 222, 20, 0, 0, 0, 0, 0, 0, 0, 0, 0, 0, 0, 0, 0, 0, 0, 16]⟩) j
      have hcmp := Lib.hid (fun h => leN_cmp (l := l) (m := ordL n) (j := j) (by rw [ordL_len, Hn.out]) Hb.out (ordL_lt n) (by rw [← Hn.out]; omega) Hd.out h)
      have hstep := Lib.hid (fun (h : l.getD j 0 = (bl (⟨#[237, 211, 245, 92, 26, 99, 18, 88, 214, 156, 247, 162, 222, 249, 222, 20, 0, 0, 0, 0, 0, 0, 0, 0, 0, 0, 0, 0, 0, 0, 0, 16]⟩ : ByteArray)).getD j 0) => show l.drop j = (ordL n).drop j by
        rw [drop_getD (by rw [← Hn.out]; omega), drop_getD (l := ordL n) (by rw [ordL_len]; omega), Hd.out, ordL_at (by omega), h])
      rw [ordL_at (by omega), HO.out] at hcmp
      have hix := fun h => index_bl (⟨#[237, 211, 245, 92, 26, 99, 18, 88, 214, 156, 247, 162, 222, 249, 222, 20, 0, 0, 0, 0, 0, 0, 0, 0, 0, 0, 0, 0, 0, 0, 0, 16]⟩ : ByteArray) (j : Int) j rfl h
      have hfar := ord_far (j := j)
      obtain ⟨y, hy⟩ : ∃ y, y = (bl (⟨#[237, 211, 245, 92, 26, 99, 18, 88, 214, 156, 247, 162, 222, 249, 222, 20, 0, 0, 0, 0, 0, 0, 0, 0, 0, 0, 0, 0, 0, 0, 0, 16]⟩ : ByteArray)).getD j 0 := ⟨_, rfl⟩
      obtain ⟨x, hxe⟩ : ∃ x, x = l.getD j 0 := ⟨_, rfl⟩
      rw [← hy] at hix hyl hcmp hstep hfar
      rw [← hxe] at hc hxl hcmp hstep
      clear hy hxe
      have hk' : Hid (j ≤ n) := Lib.hid (by omega)
      by_cases hj : j < 32
      · have hix' := hix hj
        clear hix hfar
        go_upto_if 13 with fail
        go_cut [4] (fun vx wx => vx = .int .i64 (y : Int) ∧ w = wx)
        case first =>
          go_wp2_with fail
          refine (order_any _).mono ?_
          rintro e wz ⟨rfl, rfl⟩
          go_wp2_with fail
          go_meet
          exact ⟨rfl, rfl⟩
        case rest =>
          obtain ⟨rfl, rfl⟩ := hcut
          clear hix'
          by_cases hxy : x = y
          · subst hxy
            go_wp2_with fail
            go_roundw
            case rel => exact ⟨j, hk'.out, by go_num, hstep.out rfl, trivial⟩
            case measure => simp [intOf]
          · have h1 : (((x : Int) != (y : Int))) = true := by rw [bne_iff_ne]; omega
            have h2 := Lib.hid (hcmp.out hxy)
            clear hcmp hstep
            go_wp2_with fail
            go_ret
            exact ⟨ret_bool (by rw [h2.out]), rfl⟩
      · have hy0 := hfar (by omega)
        subst hy0
        clear hix hfar
        by_cases hxy : x = 0
        · subst hxy
          go_wp2_with fail
          go_roundw
          case rel => exact ⟨j, hk'.out, by go_num, hstep.out rfl, trivial⟩
          case measure => simp [intOf]
        · have h1 : (((x : Int) != 0)) = true := by rw [bne_iff_ne]; omega
          have h2 := Lib.hid (hcmp.out hxy)
          clear hcmp hstep
          go_wp2_with fail
          go_ret
          exact ⟨ret_bool (by rw [h2.out]; simp), rfl⟩
end Go.Proofs.YtcnmpflbmnnkbaaDoor
