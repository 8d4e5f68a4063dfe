/- The document's products modulo p. -/
import Derived.Test.YtbchjefgfghjlaaRefFh
import Derived.Deep.RegionHeld3
namespace Go.Proofs.Ytbchjefgfghjlaa
open Go.RowKit
theorem make_31 (w : World) : (Instr.makeSlice 55 (.int .i64 31) (.int .i64 31)).run Try.prog w =
    .ok (.slice (some ⟨w.heap.size, 0, none⟩) 31 31) (w.alloc (.cells (cellsI (List.replicate 31 0)).toArray 3)) := by kernel_rfl
/-- The rows of a product: the digits of both, and of the product, in a block of its own. -/
def MulR (a b : ByteArray) (w : World) (vx vy vt : Value) (wx : World) : Prop :=
  ∃ gx ox cx x gy oy cy y gt, vx = .slice (some ⟨gx, ox, none⟩) 16 cx ∧ vy = .slice (some ⟨gy, oy, none⟩) 16 cy ∧ vt = .slice (some ⟨gt, 0, none⟩) 31 31 ∧ 16 ≤ cx ∧ cx ≤ 9223372036854775807 ∧ 16 ≤ cy ∧ cy ≤ 9223372036854775807 ∧
    RowA wx gx ox cx 16 x ∧ RowA wx gy oy cy 16 y ∧ RowA wx gt 0 31 31 (List.replicate 31 0) ∧ DigS (bl a) x ∧ DigS (bl b) y ∧ gx ≠ gt ∧ gy ≠ gt ∧ w.heap.size ≤ gt ∧ Touch [] w wx
theorem rowA_made (w : World) : RowA (w.alloc (.cells (cellsI (List.replicate 31 0)).toArray 3)) w.heap.size 0 31 31 (List.replicate 31 0) := by
  obtain ⟨g, off, c, hv, _, _, _, _, hr⟩ := (NewI.made w w (Touch.refl _ _) (List.replicate 31 0) (by simp) (by simp)).rowA (n := 31) (by omega) (by simp)
  injection hv with ha _ hc
  injection ha with ha
  injection ha with h1 h2
  subst h1 h2
  obtain rfl : c = 31 := by simpa using hc.symm
  exact hr
section
variable {a b : ByteArray} {w w1 w2 : World} {v1 v2 : Value} {x y : List Nat}
theorem mulR1 (h1 : NewI w.drew w1 v1 x) (d1 : DigS (bl a) x) (h2 : NewI w1 w2 v2 y) (d2 : DigS (bl b) y) : MulR a b w v1 v2 (.slice (some ⟨w2.heap.size, 0, none⟩) 31 31) (w2.alloc (.cells (cellsI (List.replicate 31 0)).toArray 3)) := by
  obtain ⟨gx, ox, cx, rfl, _, hlx, hc1, hc2, hrx⟩ := h1.rowA (by omega) d1.len
  obtain ⟨gy, oy, cy, rfl, _, hly, hc3, hc4, hry⟩ := h2.rowA (by omega) d2.len
  have ht : Touch [] w w1 := ((Touch.refl [] w).drew).trans h1.touch
  have ha := (Touch.refl [] w2).alloc (.cells (cellsI (List.replicate 31 0)).toArray 3)
  have hs := h2.touch.size
  have hs1 := ht.size
  exact ⟨gx, ox, cx, x, gy, oy, cy, y, _, rfl, rfl, rfl, hc1, hc2, hc3, hc4, (hrx.touch h2.touch).touch ha, hry.touch ha, rowA_made w2, d1, d2, by omega, by omega, by omega, (ht.trans h2.touch).trans ha⟩
theorem mulR2 (h1 : NewI w.drew w1 v1 x) (d1 : DigS (bl a) x) (h2 : NewI (w1.alloc (.cells (cellsI (List.replicate 31 0)).toArray 3)) w2 v2 y) (d2 : DigS (bl b) y) : MulR a b w v1 v2 (.slice (some ⟨w1.heap.size, 0, none⟩) 31 31) w2 := by
  obtain ⟨gx, ox, cx, rfl, _, hlx, hc1, hc2, hrx⟩ := h1.rowA (by omega) d1.len
  obtain ⟨gy, oy, cy, rfl, hgy, hly, hc3, hc4, hry⟩ := h2.rowA (by omega) d2.len
  have ht : Touch [] w w1 := ((Touch.refl [] w).drew).trans h1.touch
  have ha := (Touch.refl [] w1).alloc (.cells (cellsI (List.replicate 31 0)).toArray 3)
  have hs1 := ht.size
  have hg2 : w1.heap.size + 1 ≤ gy := by simpa using hgy
  exact ⟨gx, ox, cx, x, gy, oy, cy, y, _, rfl, rfl, rfl, hc1, hc2, hc3, hc4, (hrx.touch ha).touch h2.touch, hry, (rowA_made w1).touch h2.touch, d1, d2, by omega, by omega, by omega, (ht.trans ha).trans h2.touch⟩
theorem mulR3 (h1 : NewI (w.alloc (.cells (cellsI (List.replicate 31 0)).toArray 3)).drew w1 v1 x) (d1 : DigS (bl a) x) (h2 : NewI w1 w2 v2 y) (d2 : DigS (bl b) y) : MulR a b w v1 v2 (.slice (some ⟨w.heap.size, 0, none⟩) 31 31) w2 := by
  obtain ⟨gx, ox, cx, rfl, hgx, hlx, hc1, hc2, hrx⟩ := h1.rowA (by omega) d1.len
  obtain ⟨gy, oy, cy, rfl, hgy, hly, hc3, hc4, hry⟩ := h2.rowA (by omega) d2.len
  have ha := (Touch.refl [] w).alloc (.cells (cellsI (List.replicate 31 0)).toArray 3)
  have hd := (Touch.refl [] (w.alloc (.cells (cellsI (List.replicate 31 0)).toArray 3))).drew
  have hg2 : w.heap.size + 1 ≤ gx := by simpa using hgx
  have hs := h1.touch.size
  have hs2 : w.heap.size + 1 ≤ w1.heap.size := by simpa using hs
  exact ⟨gx, ox, cx, x, gy, oy, cy, y, _, rfl, rfl, rfl, hc1, hc2, hc3, hc4, hrx.touch h2.touch, hry, (((rowA_made w).touch hd).touch h1.touch).touch h2.touch, d1, d2, by omega, by omega, by omega, ((ha.trans hd).trans h1.touch).trans h2.touch⟩
end
theorem getN_set_self {l : List Nat} {k : Nat} (hk : k < l.length) (x : Nat) : (l.set k x).getD k 0 = x := by simp [List.getD, hk]
/-- Products, digit by digit. -/
structure MulS (x y t : List Nat) (i : Nat) : Prop where
  len : t.length = 31
  val : dN t = dN (x.take i) * dN y
  le : ∀ k, t.getD k 0 ≤ 4294836225 * i
/-- A row of them: V is what was there. -/
structure MulI (y t : List Nat) (i m j V : Nat) : Prop where
  len : t.length = 31
  val : dN t = V + 65536 ^ i * (m * dN (y.take j))
  le : ∀ k, t.getD k 0 ≤ 4294836225 * (i + (if k < i + j then 1 else 0))
theorem mul_65535 {m n : Nat} (hm : m < 65536) (hn : n < 65536) : m * n ≤ 4294836225 := Nat.mul_le_mul (show m ≤ 65535 by omega) (show n ≤ 65535 by omega)
theorem MulI.step {y t : List Nat} {i m j V a n : Nat} (h : MulI y t i m j V) (hi : i < 16) (hj : j < 16) (hm : m < 65536) (hy : DigN y) (hyl : y.length = 16) (ha : a = t.getD (i + j) 0) (hn : n = y.getD j 0) : MulI y (t.set (i + j) (a + m * n)) i m (j + 1) V := by
  have h1 := h.len
  have hmn := mul_65535 hm (hn ▸ hy.at_ j)
  refine ⟨by rw [List.length_set]; exact h1, ?_, fun k => ?_⟩
  · have e1 := dN_set (l := t) (k := i + j) (by omega) (a + m * n)
    rw [← ha, h.val, Nat.pow_add] at e1
    rw [dN_take_succ (by omega), ← hn]
    generalize dN (t.set (i + j) (a + m * n)) = R at *
    generalize (65536 : Nat) ^ i = P at *
    generalize (65536 : Nat) ^ j = Q at *
    generalize dN (y.take j) = Y at *
    grind
  · have hk := h.le k
    by_cases hkk : k = i + j
    · subst hkk
      rw [getN_set_self (by omega)]
      rw [if_neg (by omega), ← ha] at hk
      rw [if_pos (by omega)]
      omega
    · rw [set_get (Ne.symm hkk)]
      split at hk
      · rw [if_pos (by omega)]; exact hk
      · rw [if_neg (by omega)]; exact hk
theorem MulS.inner {x y t : List Nat} {i : Nat} (h : MulS x y t i) (m : Nat) : MulI y t i m 0 (dN (x.take i) * dN y) :=
  ⟨h.len, by rw [h.val]; simp [dN], fun k => Nat.le_trans (h.le k) (Nat.mul_le_mul_left _ (Nat.le_add_right _ _))⟩
theorem MulI.outer {x y t : List Nat} {i m : Nat} (h : MulI y t i m 16 (dN (x.take i) * dN y)) (hi : i < 16) (hxl : x.length = 16) (hyl : y.length = 16) (hm : m = x.getD i 0) : MulS x y t (i + 1) := by
  refine ⟨h.len, ?_, fun k => Nat.le_trans (h.le k) (Nat.mul_le_mul_left _ (by split <;> omega))⟩
  have hv := h.val
  rw [List.take_of_length_le (l := y) (by omega)] at hv
  rw [hv, dN_take_succ (l := x) (by omega), ← hm]
  generalize (65536 : Nat) ^ i = P
  generalize dN (x.take i) = X
  grind
set_option maxRecDepth 100000 in
set_option maxHeartbeats 4000000 in
theorem refMul_any (a b : ByteArray) (w : World) : Calls Try.prog 19 #[.string a, .string b] w fun e w' => e = .returned (.string (toS ((lowB a * lowB b) % PP))) ∧ Touch [] w w' := by
  have hmk := make_31
  go_enter Try.func19, Try.ntmps19
  go_wp2_with fail
  go_upto_region 1 with fail
  go_cut [5, 6, 7] (fun v5 v6 v7 wx => MulR a b w v5 v6 v7 wx)
  case first =>
    go_region_held3 (fun _ => True) (first | trivial) (first | (go_at_call 36; (with_reducible_and_instances refine (digits_any a _).mono ?_); rintro e w1 ⟨v1, x, rfl, hn1, hd1⟩) | (go_at_call 36; (with_reducible_and_instances refine (digits_any b _).mono ?_); rintro e w2 ⟨v2, y, rfl, hn2, hd2⟩))
    all_goals
      go_wp2_with fail
      go_meet
      first | exact mulR1 hn1 hd1 hn2 hd2 | exact mulR2 hn1 hd1 hn2 hd2 | exact mulR3 hn1 hd1 hn2 hd2
  case rest =>
    clear hmk
    obtain ⟨gx, ox, cx, x, gy, oy, cy, y, gt, rfl, rfl, rfl, hcx1, hcx2, hcy1, hcy2, hx, hy, ht, hdx, hdy, hxt, hyt, hgt, hT⟩ := hcut
    have Rx := Lib.hid hx
    have Ry := Lib.hid hy
    have Rt := Lib.hid ht
    have Dx := Lib.hid hdx
    have Dy := Lib.hid hdy
    have Hxt := Lib.hid hxt
    have Hyt := Lib.hid hyt
    have HT := Lib.hid hT
    clear hx hy ht hdx hdy hxt hyt hT
    go_wp2_with fail
    go_loopw [8, 9] (fun vi _ wr => ∃ (i : Nat) (t : List Nat), i ≤ 16 ∧ vi = .int .i64 i ∧ RowA wr gx ox cx 16 x ∧ RowA wr gy oy cy 16 y ∧ RowA wr gt 0 31 31 t ∧ MulS x y t i ∧ Touch [] w wr) (fun vi _ _ => 16 - (intOf vi).toNat)
    case atStart => exact ⟨0, _, by omega, rfl, Rx.out, Ry.out, Rt.out, ⟨by simp, by rw [dN_zeros]; simp [dN], fun k => by
      by_cases hk : k < 31
      · rw [List.getD, List.getElem?_replicate, if_pos hk]; exact Nat.zero_le _
      · rw [List.getD, List.getElem?_replicate, if_neg hk]; exact Nat.zero_le _⟩, HT.out⟩
    case round =>
      clear Rx Ry Rt HT
      obtain ⟨i, t, hi, rfl, hx, hy, ht, hS, hT⟩ := hrel
      have Rx := Lib.hid hx
      have Ry := Lib.hid hy
      have Rt := Lib.hid ht
      have HS := Lib.hid hS
      have HT := Lib.hid hT
      clear hx hy ht hS hT
      by_cases hi16 : i < 16
      · obtain ⟨m, hm⟩ : ∃ m, m = x.getD i 0 := ⟨_, rfl⟩
        have Hm := Lib.hid hm
        have hml : m < 65536 := by rw [hm]; exact Dx.out.dig.at_ i
        have HI := Lib.hid (HS.out.inner m)
        have hdi : decide ((i : Int) < 16) = true := decide_eq_true (by omega)
        rename World => wo
        clear hm
        go_wp2_with fail
        go_loopw [9] (fun vj wr => ∃ (j : Nat) (t : List Nat), j ≤ 16 ∧ vj = .int .i64 j ∧ RowA wr gx ox cx 16 x ∧ RowA wr gy oy cy 16 y ∧ RowA wr gt 0 31 31 t ∧ MulI y t i m j (dN (x.take i) * dN y) ∧ Touch [] w wr) (fun vj _ => 16 - (intOf vj).toNat)
        case atStart => exact ⟨0, t, by omega, rfl, Rx.out, Ry.out, Rt.out, HI.out, HT.out⟩
        case round =>
          clear Rx Ry Rt HT HI HS
          obtain ⟨j, t, hj, rfl, hx, hy, ht, hI, hT⟩ := hrel
          have Rx := Lib.hid hx
          have Ry := Lib.hid hy
          have Rt := Lib.hid ht
          have HI := Lib.hid hI
          have HT := Lib.hid hT
          clear hx hy ht hI hT
          by_cases hj16 : j < 16
          · have hcx := Rx.out.cell i hi16
            have hcy := Ry.out.cell j hj16
            have hct := Rt.out.cell (i + j) (by omega)
            have hft := Rt.out.free (by omega) (i + j)
            rw [Nat.zero_add] at hct
            rw [← Hm.out] at hcx
            have hst := HI.out.step hi16 hj16 hml Dy.out.dig Dy.out.len (a := t.getD (i + j) 0) (n := y.getD j 0) rfl rfl
            have hab := HI.out.le (i + j)
            rw [if_neg (by omega)] at hab
            have hnl := Dy.out.dig.at_ j
            obtain ⟨n, hn⟩ : ∃ n, n = y.getD j 0 := ⟨_, rfl⟩
            obtain ⟨u, hu⟩ : ∃ u, u = t.getD (i + j) 0 := ⟨_, rfl⟩
            rw [← hn] at hcy hst hnl
            rw [← hu] at hct hst hab
            have Hst := Lib.hid hst
            have hmn := mul_65535 hml hnl
            have hmn0 : (0 : Int) ≤ (m : Int) * (n : Int) := by rw [← Int.natCast_mul]; omega
            have hmn1 : (m : Int) * (n : Int) ≤ 4294836225 := by rw [← Int.natCast_mul]; omega
            have hu1 : (u : Int) ≤ 68719476736 := by omega
            have Hij := Lib.hid (show i + j < 31 by omega)
            have Hml := Lib.hid hml
            clear hn hu hst hmn hab hnl hml
            go_wp2_with fail
            go_region
            go_wp2_with fail
            go_roundw
            case rel =>
              have hcast : (u : Int) + (m : Int) * (n : Int) = ((u + m * n : Nat) : Int) := by rw [Int.natCast_add, Int.natCast_mul]
              rw [hcast]
              have hset := Rt.out.set (i + j) (u + m * n) Hij.out
              rw [Nat.zero_add] at hset
              exact ⟨j + 1, _, by omega, by go_num, (Rx.out.far Hxt.out _).touch (Touch.refl _ _).drew, (Ry.out.far Hyt.out _).touch (Touch.refl _ _).drew, hset.touch (Touch.refl _ _).drew, Hst.out, (HT.out.setCell (.inr hgt) _).drew⟩
            case measure => simp [intOf]; omega
          · obtain rfl : j = 16 := by omega
            have HO := Lib.hid (HI.out.outer hi16 Dx.out.len Dy.out.len Hm.out)
            go_wp2_with fail
            go_roundw
            case rel => exact ⟨i + 1, t, by omega, by go_num, Rx.out, Ry.out, Rt.out, HO.out, HT.out⟩
            case measure => simp [intOf]; omega
      · obtain rfl : i = 16 := by omega
        have hv := HS.out.val
        rw [List.take_of_length_le (by rw [Dx.out.len]; omega), Dx.out.val, Dy.out.val] at hv
        have hlt : dN t < 65536 ^ 32 := by
          rw [hv, show (65536 : Nat) ^ 32 = 65536 ^ 16 * 65536 ^ 16 by rw [← Nat.pow_add]]
          exact Nat.mul_lt_mul_of_lt_of_lt (lowB_lt a) (lowB_lt b)
        have hle : ∀ z ∈ t, z ≤ 1099511627776 := fun z hz => by
          obtain ⟨k, hk, rfl⟩ := List.getElem_of_mem hz
          have := HS.out.le k
          rw [List.getD, List.getElem?_eq_getElem hk] at this
          exact Nat.le_trans this (by decide)
        have HTx := Lib.hid (fun W (h : W = wr) => h ▸ text_new (Rt.out.newI HT.out hgt) (by rw [Rt.out.len]; omega) (by rw [Rt.out.len]; omega) hle hlt)
        have Hv := Lib.hid hv
        clear hv hlt hle
        go_wp2_with fail
        refine (HTx.out _ rfl).mono ?_
        rintro e w3 ⟨rfl, ht⟩
        have Ht := Lib.hid ht
        clear ht HTx
        go_wp2_with fail
        go_ret
        exact ⟨by rw [Hv.out]; rfl, HT.out.trans Ht.out⟩
theorem refMul_toS {n m : Nat} (hn : n < PP) (hm : m < PP) (w : World) : Calls Try.prog 19 #[.string (toS n), .string (toS m)] w fun e w' => e = .returned (.string (toS (mulF n m))) ∧ Touch [] w w' := by
  have := refMul_any (toS n) (toS m) w
  rwa [lowB_toS hn, lowB_toS hm] at this
end Go.Proofs.Ytbchjefgfghjlaa
