/- scalar.cut: words, modulo the order. -/
import Derived.Test.YtcnmpflbmnnkbaaDoorSub
namespace Go.Proofs.YtcnmpflbmnnkbaaDoor
open Go.RowKit
def ordW : List Nat := [6346243789798364141, 1503914060200516822, 0, 1152921504606846976]
def ell : Nat := 7237005577332262213973186563042994240857116359379907606001950938285454250989
theorem val_ord : val ordW = ell := by decide
/-- The order lies in the program's variable. -/
def Ord (w : World) : Prop := 0 < w.heap.size ∧ ∀ j, j < 4 → w.cell? ⟨0, j, none⟩ = some (.int .u64 ((ordW.getD j 0 : Nat) : Int))
theorem Ord.touch {w w' : World} (h : Ord w) (ht : Touch [] w w') : Ord w' :=
  ⟨Nat.lt_of_lt_of_le h.1 ht.size, fun j hj => (ht.cell (p := ⟨0, j, none⟩) h.1 (by simp)).trans (h.2 j hj)⟩
/-- A binary digit of words. -/
theorem val_bit {ws : List Nat} (h : Words ws) (k : Nat) (hk : k / 64 < ws.length) : val ws / 2 ^ k % 2 = ws.getD (k / 64) 0 / 2 ^ (k % 64) % 2 := by
  induction ws generalizing k with
  | nil => simp at hk
  | cons x l ih =>
    have hx := h x List.mem_cons_self
    by_cases hk64 : k < 64
    · rw [show k / 64 = 0 by omega, show k % 64 = k by omega]
      show (x + 18446744073709551616 * val l) / 2 ^ k % 2 = x / 2 ^ k % 2
      have e : (18446744073709551616 : Nat) = 2 ^ k * (2 * 2 ^ (63 - k)) := by
        rw [← Nat.mul_assoc, Nat.mul_comm (2 ^ k) 2, Nat.mul_assoc, ← Nat.pow_add, show k + (63 - k) = 63 by omega]
      rw [e, Nat.mul_assoc, Nat.add_mul_div_left _ _ (Nat.two_pow_pos k), Nat.mul_assoc, Nat.add_mul_mod_self_left]
    · have e1 : k / 64 = (k - 64) / 64 + 1 := by omega
      have e2 : k % 64 = (k - 64) % 64 := by omega
      have e3 : (x :: l).getD ((k - 64) / 64 + 1) 0 = l.getD ((k - 64) / 64) 0 := by simp [List.getD]
      rw [e1, e2, e3, ← ih (fun y hy => h y (List.mem_cons_of_mem _ hy)) (k - 64) (by simp at hk; omega)]
      rw [show 2 ^ k = 18446744073709551616 * 2 ^ (k - 64) by rw [show (18446744073709551616 : Nat) = 2 ^ 64 by decide, ← Nat.pow_add]; congr 1; omega, ← Nat.div_div_eq_div_mul]
      rw [val, show (x + 18446744073709551616 * val l) / 18446744073709551616 = val l by omega]
theorem words0 : Words [0, 0, 0, 0] := fun x hx => by simp at hx; omega
theorem and_one (y : Nat) (hy : y < 18446744073709551616) : bits .and .u64 (y : Int) 1 = ((y % 2 : Nat) : Int) := by
  have h := bits_and_u64_nat y 1 hy (by omega)
  rw [Nat.and_one_is_mod] at h
  exact h
theorem index4 (a0 a1 a2 a3 j : Nat) (hj : j < 4) (W : World) :
    (Instr.index 37 (.agg #[.int .u64 (a0 : Int), .int .u64 (a1 : Int), .int .u64 (a2 : Int), .int .u64 (a3 : Int)]) (.int .i64 (j : Int))).run Tryd.prog W = .ok (.int .u64 (([a0, a1, a2, a3].getD j 0 : Nat) : Int)) W := by
  have : j = 0 ∨ j = 1 ∨ j = 2 ∨ j = 3 := by omega
  rcases this with rfl | rfl | rfl | rfl <;> rfl
theorem shl_or (y cy : Nat) (hc : cy ≤ 1) : bits .or .u64 (IntKind.u64.wrap ((y : Int) * 2)) (cy : Int) = ((2 * y % 18446744073709551616 + cy : Nat) : Int) := by
  have e : IntKind.u64.wrap ((y : Int) * 2) = ((2 * y % 18446744073709551616 : Nat) : Int) := by
    simp [IntKind.wrap, IntKind.signed, IntKind.bits]; omega
  rw [e, bits_or_u64_nat _ _ (by omega) (by omega)]
  have h := Nat.shiftLeft_add_eq_or_of_lt (i := 1) (b := cy) (by omega) (2 * y % 18446744073709551616 / 2)
  rw [Nat.shiftLeft_eq, show 2 * y % 18446744073709551616 / 2 * 2 ^ 1 = 2 * y % 18446744073709551616 by omega] at h
  rw [h]
theorem shl_step {a r : List Nat} {cy j y bit : Nat} (hj : j < 4) (ha : a.length = 4) (hr : r.length = 4) (wa : Words a) (hy : y = a.getD j 0)
    (hd : r.drop j = a.drop j) (hv : val (r.take j) + cy * 18446744073709551616 ^ j = 2 * val (a.take j) + bit) :
    (r.set j (2 * y % 18446744073709551616 + cy)).drop (j + 1) = a.drop (j + 1) ∧ val ((r.set j (2 * y % 18446744073709551616 + cy)).take (j + 1)) + y / 9223372036854775808 * 18446744073709551616 ^ (j + 1) = 2 * val (a.take (j + 1)) + bit := by
  have e1 : (r.set j (2 * y % 18446744073709551616 + cy)).getD j 0 = 2 * y % 18446744073709551616 + cy := by simp [List.getD, hr, hj]
  have e2 : (r.set j (2 * y % 18446744073709551616 + cy)).take j = r.take j := by simp [List.take_set_of_le]
  constructor
  · rw [List.drop_set, if_pos (by omega), ← List.drop_drop, ← List.drop_drop, hd]
  · rw [val_take_succ (by rw [List.length_set]; omega), val_take_succ (by omega), e1, e2, Nat.pow_succ, ← hy]
    have h1 := wa.at_ j
    rw [← hy] at h1
    have h3 : 2 * y % 18446744073709551616 + y / 9223372036854775808 * 18446744073709551616 = 2 * y := by omega
    generalize 2 * y % 18446744073709551616 = z at *
    generalize y / 9223372036854775808 = cz at *
    grind
/-- One binary digit more, modulo. -/
theorem cut_step {V k n d v bit : Nat} (hk : k = n - 1 - d) (hd : d < n) (hv : v = V / 2 ^ (n - d) % ell) (hb : bit = V / 2 ^ k % 2) :
    (2 * v + bit) % ell = V / 2 ^ (n - (d + 1)) % ell ∧ 2 * v + bit < 2 * ell := by
  have e1 : n - d = k + 1 := by omega
  have e2 : n - (d + 1) = k := by omega
  rw [e1, Nat.pow_succ, ← Nat.div_div_eq_div_mul] at hv
  rw [e2]
  generalize V / 2 ^ k = q at *
  have h : q = 2 * (q / 2) + q % 2 := by omega
  have hl : 0 < ell := by decide
  have hlt : v < ell := by rw [hv]; exact Nat.mod_lt _ hl
  constructor
  · subst hb
    conv => rhs; rw [h]
    rw [hv]
    conv => rhs; rw [Nat.add_mod, Nat.mul_mod]
    conv => lhs; rw [Nat.add_mod, Nat.mul_mod, Nat.mod_mod]
  · omega
theorem val4_lt {l : List Nat} (h : Words l) (hl : l.length = 4) : val l < 115792089237316195423570985008687907853269984665640564039457584007913129639936 := by
  have h1 := val_lt h
  rw [hl] at h1
  exact Nat.lt_of_lt_of_eq h1 (by decide)
theorem cut_less {s r l : Nat} (h : s + val ordW = r + 0 * 18446744073709551616 ^ 4) (hm : r % ell = l) (hl : r < 2 * ell) : s = l := by
  rw [val_ord, Nat.zero_mul, Nat.add_zero] at h
  rw [← h, Nat.add_mod_right, Nat.mod_eq_of_lt (by omega)] at hm
  exact hm
theorem cut_below {s r l : Nat} (h : s + val ordW = r + 1 * 18446744073709551616 ^ 4) (hs : s < 115792089237316195423570985008687907853269984665640564039457584007913129639936) (hm : r % ell = l) : r = l := by
  rw [val_ord, Nat.one_mul, show (18446744073709551616 : Nat) ^ 4 = 115792089237316195423570985008687907853269984665640564039457584007913129639936 by decide] at h
  rw [Nat.mod_eq_of_lt (by omega)] at hm
  exact hm
def CutPost (ws : List Nat) (w : World) (e : Ending) (w' : World) : Prop :=
  ∃ r : List Nat, r.length = 4 ∧ Words r ∧ val r = val ws % ell ∧ e = .returned (numV r) ∧ Touch [] w w'
set_option maxRecDepth 100000 in
set_option maxHeartbeats 2000000 in
theorem cut_any {te : TypeId} (v : Value) (ws : List Nat) (row : Option Nat) (hn : ws.length ≤ 9) (hw : Words ws) (w : World) (ho : Own w te 1 v ws.length (cellsN ws) row) (hord : Ord w) :
    Calls Tryd.prog 25 #[v] w (CutPost ws w) := by
  obtain ⟨A, c, rfl, hnc⟩ := ho.shape
  have Ho := Lib.hid ho
  have Hord := Lib.hid hord
  have Hw := Lib.hid hw
  clear ho hord hw
  go_enter Tryd.func25, Tryd.ntmps25
  go_wp2_with fail
  go_step3
  go_wp2_with fail
  go_step3
  go_wp2_with fail
  have hz0 : (cellsN [0, 0, 0, 0]).toArray = #[.int .u64 0, .int .u64 0, .int .u64 0, .int .u64 0] := rfl
  rw [← hz0]
  obtain ⟨w1, hw1⟩ : ∃ w1, w1 = (w.alloc (.cells (cellsN [0, 0, 0, 0]).toArray 37)).alloc (.cells (cellsN [0, 0, 0, 0]).toArray 37) := ⟨_, rfl⟩
  have hB : Blk w1 w.heap.size 37 (cellsN [0, 0, 0, 0]).toArray := by rw [hw1]; exact (Blk.new _ _ _).alloc _
  have hA : Blk w1 (w.heap.size + 1) 37 (cellsN [0, 0, 0, 0]).toArray := by
    have := Blk.new (w.alloc (.cells (cellsN [0, 0, 0, 0]).toArray 37)) 37 (cellsN [0, 0, 0, 0]).toArray
    rw [hw1]; simpa using this
  have hT : Touch [] w w1 := by rw [hw1]; exact ((Touch.refl _ _).alloc _).alloc _
  rw [← hw1]
  obtain ⟨gb, hgb⟩ : ∃ gb, gb = w.heap.size := ⟨_, rfl⟩
  have Hgb := Lib.hid hgb
  rw [← hgb] at hA hB
  rw [← hgb]
  clear hw1 hz0 hgb
  go_loopw [4] (fun vi wr => ∃ (d : Nat) (a : List Nat), d ≤ 64 * ws.length ∧ vi = .int .i64 (64 * (ws.length : Int) - 1 - d) ∧ a.length = 4 ∧ Words a ∧ val a = val ws / 2 ^ (64 * ws.length - d) % ell ∧
    Blk wr gb 37 (cellsN [0, 0, 0, 0]).toArray ∧ Blk wr (gb + 1) 37 (cellsN a).toArray ∧ Touch [] w wr) (fun vi _ => (intOf vi + 1).toNat)
  case atStart =>
    refine ⟨0, [0, 0, 0, 0], by omega, by simp, rfl, words0, ?_, hB, hA, hT⟩
    have := val_lt Hw.out
    rw [show (18446744073709551616 : Nat) = 2 ^ 64 by decide, ← Nat.pow_mul] at this
    rw [Nat.sub_zero, Nat.div_eq_of_lt this]; decide
  case round =>
    obtain ⟨d, a, hd, rfl, ha, wa, hv, hB', hA', hT'⟩ := hrel
    clear hA hB hT
    have Ha := Lib.hid ha
    have Wa := Lib.hid wa
    have Hv := Lib.hid hv
    have HA := Lib.hid hA'
    have HB := Lib.hid hB'
    have HT := Lib.hid hT'
    clear ha wa hv hA' hB' hT'
    by_cases hlt : d < 64 * ws.length
    · obtain ⟨k, hk⟩ : ∃ k, k = 64 * ws.length - 1 - d := ⟨_, rfl⟩
      have hkd : (64 * (ws.length : Int) - 1 - d) = (k : Nat) := by omega
      have hkl : k < 64 * ws.length := by omega
      have hk64 : k / 64 < ws.length := by omega
      rw [hkd]
      have Hkd := Lib.hid hkd
      have Hk := Lib.hid hk
      clear hkd hk
      have hor := Ho.out.touch HT.out (by simp)
      obtain ⟨g, off, c', cur, hv, hrw, hg, _, _, _, _, hx⟩ := hor.at_ (by omega)
      injection hv with hA _ hcc
      subst hA; subst hcc
      have hcw : wr.cell? ⟨g, off + k / 64, none⟩ = some (.int .u64 ((ws.getD (k / 64) 0 : Nat) : Int)) := (hg.cell _).trans (hx _ _ (cellsN_at hk64))
      have hxw := Hw.out.at_ (k / 64)
      obtain ⟨x, hxe⟩ : ∃ x, x = ws.getD (k / 64) 0 := ⟨_, rfl⟩
      rw [← hxe] at hcw hxw
      have Hxe := Lib.hid hxe
      clear hxe hor hrw hg hx
      obtain ⟨a0, a1, a2, a3, rfl⟩ : ∃ a0 a1 a2 a3, a = [a0, a1, a2, a3] := by
        have := Ha.out
        match a, this with
        | [a0, a1, a2, a3], _ => exact ⟨a0, a1, a2, a3, rfl⟩
      have c0 : wr.cell? ⟨gb + 1, 0, none⟩ = some (.int .u64 (a0 : Int)) := HA.out.cell 0
      have c1 : wr.cell? ⟨gb + 1, 1, none⟩ = some (.int .u64 (a1 : Int)) := HA.out.cell 1
      have c2 : wr.cell? ⟨gb + 1, 2, none⟩ = some (.int .u64 (a2 : Int)) := HA.out.cell 2
      have c3 : wr.cell? ⟨gb + 1, 3, none⟩ = some (.int .u64 (a3 : Int)) := HA.out.cell 3
      have hq : ((k : Int)).tdiv 64 = ((k / 64 : Nat) : Int) := by rw [Int.tdiv_eq_ediv_of_nonneg (by omega)]; omega
      have hr : ((k : Int)).tmod 64 = ((k % 64 : Nat) : Int) := by rw [Int.tmod_eq_emod_of_nonneg (by omega)]; omega
      have hbit : bits .and .u64 ((x : Int) / 2 ^ (k % 64)) 1 = ((val ws / 2 ^ k % 2 : Nat) : Int) := by
        have e : ((x : Int) / 2 ^ (k % 64)) = ((x / 2 ^ (k % 64) : Nat) : Int) := by simp
        rw [e, and_one _ (Nat.lt_of_le_of_lt (Nat.div_le_self _ _) hxw), val_bit Hw.out k hk64, ← Hxe.out]
      obtain ⟨bit, hb⟩ : ∃ bit, bit = val ws / 2 ^ k % 2 := ⟨_, rfl⟩
      have hb1 : bit ≤ 1 := by omega
      rw [← hb] at hbit
      have Hb := Lib.hid hb
      have Hbit := Lib.hid hbit
      clear hb hbit hq hr
      go_wp2_with fail
      rw [Hbit.out]
      go_loopw [5, 28] (fun vc vj wz => ∃ (j cy : Nat) (r : List Nat), j ≤ 4 ∧ vj = .int .i64 j ∧ vc = .int .u64 (cy : Int) ∧ cy ≤ 1 ∧ r.length = 4 ∧ Words r ∧ r.drop j = [a0, a1, a2, a3].drop j ∧ val (r.take j) + cy * 18446744073709551616 ^ j = 2 * val ([a0, a1, a2, a3].take j) + bit ∧
        Blk wz gb 37 (cellsN [0, 0, 0, 0]).toArray ∧ Blk wz (gb + 1) 37 (cellsN r).toArray ∧ Touch [] w wz) (fun _ vj _ => 4 - (intOf vj).toNat)
      case atStart => exact ⟨0, bit, [a0, a1, a2, a3], by omega, rfl, rfl, hb1, rfl, Wa.out, rfl, by simp [val], HB.out, HA.out, HT.out⟩
      case round =>
        clear c0 c1 c2 c3 hcw
        obtain ⟨j, cy, r, hj, rfl, rfl, hcy, hr, wr2, hdr, hvr, hB2, hA2, hT2⟩ := hrel
        have Hr := Lib.hid hr
        have Wr := Lib.hid wr2
        have Hdr := Lib.hid hdr
        have Hvr := Lib.hid hvr
        have HA2 := Lib.hid hA2
        have HB2 := Lib.hid hB2
        have HT2 := Lib.hid hT2
        clear hr wr2 hdr hvr hA2 hB2 hT2
        by_cases hj4 : j < 4
        · obtain ⟨y, hy⟩ : ∃ y, y = [a0, a1, a2, a3].getD j 0 := ⟨_, rfl⟩
          have hidx := index4 a0 a1 a2 a3 j hj4
          rw [← hy] at hidx
          have hyw : y < 18446744073709551616 := by rw [hy]; exact Wa.out.at_ j
          have hfr : wr.frozen? ⟨gb + 1, j, none⟩ = false := HA2.out.frozen j
          have hcz : wr.cell? ⟨gb + 1, j, none⟩ = some (.int .u64 ((r.getD j 0 : Nat) : Int)) := by
            rw [HA2.out.cell, List.getElem?_toArray]; exact cellsN_at (by rw [Hr.out]; exact hj4)
          have Hy := Lib.hid hy
          clear hy
          have Hstep := Lib.hid (shl_step hj4 rfl Hr.out Wa.out Hy.out Hdr.out Hvr.out)
          go_wp2_with fail
          go_roundw
          case rel =>
            have hor := shl_or y cy hcy
            rw [hor]
            have hz1 : 2 * y % 18446744073709551616 + cy < 18446744073709551616 := by omega
            have hset : (cellsN r).toArray.setIfInBounds j (.int .u64 ((2 * y % 18446744073709551616 + cy : Nat) : Int)) = (cellsN (r.set j (2 * y % 18446744073709551616 + cy))).toArray := by rw [← cellsN_set]; simp
            have hA3 := HA2.out.set_ j (.int .u64 ((2 * y % 18446744073709551616 + cy : Nat) : Int))
            rw [hset] at hA3
            refine ⟨j + 1, y / 9223372036854775808, _, by omega, by go_num, by simp, by omega, by rw [List.length_set]; exact Hr.out, Wr.out.set j hz1, Hstep.out.1, Hstep.out.2, HB2.out.far (p := ⟨gb + 1, j, none⟩) (by simp) _, hA3, HT2.out.setCell (p := ⟨gb + 1, j, none⟩) (.inr (by have := Hgb.out; simp only; omega)) _⟩
          case measure => simp [intOf]; omega
        · obtain rfl : j = 4 := by omega
          obtain ⟨hmod, hlt2⟩ := cut_step (n := 64 * ws.length) Hk.out hlt Hv.out Hb.out
          have hvr : val r + cy * 18446744073709551616 ^ 4 = 2 * val [a0, a1, a2, a3] + bit := by
            have h := Hvr.out
            rw [List.take_of_length_le (by rw [Hr.out]; omega), List.take_of_length_le (by simp)] at h
            exact h
          have hcy0 : cy = 0 := by
            have : (18446744073709551616 : Nat) ^ 4 = 115792089237316195423570985008687907853269984665640564039457584007913129639936 := by decide
            have : ell = 7237005577332262213973186563042994240857116359379907606001950938285454250989 := rfl
            rcases (show cy = 0 ∨ cy = 1 by omega) with h | h
            · exact h
            · subst h; omega
          subst hcy0
          rw [Nat.zero_mul, Nat.add_zero] at hvr
          rw [← hvr] at hmod hlt2
          have Hmod := Lib.hid hmod
          have Hlt2 := Lib.hid hlt2
          have hr := Hr.out
          obtain ⟨r0, r1, r2, r3, rfl⟩ : ∃ r0 r1 r2 r3, r = [r0, r1, r2, r3] := by
            match r, hr with
            | [r0, r1, r2, r3], _ => exact ⟨r0, r1, r2, r3, rfl⟩
          have c0 : wr.cell? ⟨gb + 1, 0, none⟩ = some (.int .u64 (r0 : Int)) := HA2.out.cell 0
          have c1 : wr.cell? ⟨gb + 1, 1, none⟩ = some (.int .u64 (r1 : Int)) := HA2.out.cell 1
          have c2 : wr.cell? ⟨gb + 1, 2, none⟩ = some (.int .u64 (r2 : Int)) := HA2.out.cell 2
          have c3 : wr.cell? ⟨gb + 1, 3, none⟩ = some (.int .u64 (r3 : Int)) := HA2.out.cell 3
          have hordr := (Hord.out.touch HT2.out).2
          have o0 : wr.cell? ⟨0, 0, none⟩ = some (.int .u64 6346243789798364141) := hordr 0 (by omega)
          have o1 : wr.cell? ⟨0, 1, none⟩ = some (.int .u64 1503914060200516822) := hordr 1 (by omega)
          have o2 : wr.cell? ⟨0, 2, none⟩ = some (.int .u64 0) := hordr 2 (by omega)
          have o3 : wr.cell? ⟨0, 3, none⟩ = some (.int .u64 1152921504606846976) := hordr 3 (by omega)
          clear hmod hlt2 hvr hr hordr
          go_wp2_with fail
          refine (sub_any [r0, r1, r2, r3] ordW rfl rfl Wr.out (by intro x hx; simp [ordW] at hx; omega) wr).mono ?_
          rintro e w4 ⟨s, u, hs, ws', hu, hvs, rfl, ht4⟩
          clear c0 c1 c2 c3 o0 o1 o2 o3
          have HA4 := Lib.hid (HA2.out.touch ht4 (by simp))
          have HB4 := Lib.hid (HB2.out.touch ht4 (by simp))
          have HT4 := Lib.hid (HT2.out.trans ht4)
          have Hvs := Lib.hid hvs
          have Ws := Lib.hid ws'
          clear hvs ws' ht4
          unfold numV
          obtain ⟨s0, s1, s2, s3, rfl⟩ : ∃ s0 s1 s2 s3, s = [s0, s1, s2, s3] := by
            match s, hs with
            | [s0, s1, s2, s3], _ => exact ⟨s0, s1, s2, s3, rfl⟩
          have f0 : ∀ o j, (w4.alloc o).frozen? ⟨gb + 1, j, none⟩ = false := fun o j => (HA4.out.alloc o).frozen j
          have d0 : ∀ o, (w4.alloc o).cell? ⟨gb + 1, 0, none⟩ = some (.int .u64 (r0 : Int)) := fun o => (HA4.out.alloc o).cell 0
          have d1 : ∀ o, (w4.alloc o).cell? ⟨gb + 1, 1, none⟩ = some (.int .u64 (r1 : Int)) := fun o => (HA4.out.alloc o).cell 1
          have d2 : ∀ o, (w4.alloc o).cell? ⟨gb + 1, 2, none⟩ = some (.int .u64 (r2 : Int)) := fun o => (HA4.out.alloc o).cell 2
          have d3 : ∀ o, (w4.alloc o).cell? ⟨gb + 1, 3, none⟩ = some (.int .u64 (r3 : Int)) := fun o => (HA4.out.alloc o).cell 3
          have hcs : (cellsN [s0, s1, s2, s3]).toArray = #[.int .u64 (s0 : Int), .int .u64 (s1 : Int), .int .u64 (s2 : Int), .int .u64 (s3 : Int)] := rfl
          rw [hcs]
          clear hcs hs
          rcases (show u = 0 ∨ u = 1 by omega) with h | h
          · subst h
            go_wp2_with fail
            go_roundw
            case rel =>
              have hval := cut_less Hvs.out Hmod.out Hlt2.out
              have hA5 := ((((HA4.out.alloc (.cells #[.int .u64 (s0 : Int), .int .u64 (s1 : Int), .int .u64 (s2 : Int), .int .u64 (s3 : Int)] 37)).set_ 0 (.int .u64 (s0 : Int))).set_ 1 (.int .u64 (s1 : Int))).set_ 2 (.int .u64 (s2 : Int))).set_ 3 (.int .u64 (s3 : Int))
              have hne : gb ≠ gb + 1 := by omega
              have hB5 := ((((HB4.out.alloc (.cells #[.int .u64 (s0 : Int), .int .u64 (s1 : Int), .int .u64 (s2 : Int), .int .u64 (s3 : Int)] 37)).far (p := ⟨gb + 1, 0, none⟩) hne (.int .u64 (s0 : Int))).far (p := ⟨gb + 1, 1, none⟩) hne (.int .u64 (s1 : Int))).far (p := ⟨gb + 1, 2, none⟩) hne (.int .u64 (s2 : Int))).far (p := ⟨gb + 1, 3, none⟩) hne (.int .u64 (s3 : Int))
              have hgx : gb + 1 ∈ ([] : List Nat) ∨ w.heap.size ≤ gb + 1 := .inr (by have := Hgb.out; omega)
              refine ⟨d + 1, [s0, s1, s2, s3], by omega, by have := Hkd.out; congr 1; omega, rfl, Ws.out, ?_, hB5, hA5, ((((HT4.out.alloc _).setCell (p := ⟨gb + 1, 0, none⟩) hgx _).setCell (p := ⟨gb + 1, 1, none⟩) hgx _).setCell (p := ⟨gb + 1, 2, none⟩) hgx _).setCell (p := ⟨gb + 1, 3, none⟩) hgx _⟩
              exact hval
            case measure => simp [intOf]
          · subst h
            go_wp2_with fail
            go_roundw
            case rel =>
              have h1 := cut_below Hvs.out (val4_lt Ws.out rfl) Hmod.out
              exact ⟨d + 1, [r0, r1, r2, r3], by omega, by have := Hkd.out; congr 1; omega, rfl, Wr.out, h1, HB4.out.alloc _, HA4.out.alloc _, HT4.out.alloc _⟩
            case measure => simp [intOf]
    · obtain rfl : d = 64 * ws.length := by omega
      have hkd : (64 * (ws.length : Int) - 1 - ((64 * ws.length : Nat) : Int)) = -1 := by omega
      rw [hkd]
      obtain ⟨a0, a1, a2, a3, rfl⟩ : ∃ a0 a1 a2 a3, a = [a0, a1, a2, a3] := by
        have := Ha.out
        match a, this with
        | [a0, a1, a2, a3], _ => exact ⟨a0, a1, a2, a3, rfl⟩
      have c0 : wr.cell? ⟨gb + 1, 0, none⟩ = some (.int .u64 (a0 : Int)) := HA.out.cell 0
      have c1 : wr.cell? ⟨gb + 1, 1, none⟩ = some (.int .u64 (a1 : Int)) := HA.out.cell 1
      have c2 : wr.cell? ⟨gb + 1, 2, none⟩ = some (.int .u64 (a2 : Int)) := HA.out.cell 2
      have c3 : wr.cell? ⟨gb + 1, 3, none⟩ = some (.int .u64 (a3 : Int)) := HA.out.cell 3
      have d0 : wr.cell? ⟨gb, 0, none⟩ = some (.int .u64 0) := HB.out.cell 0
      have d1 : wr.cell? ⟨gb, 1, none⟩ = some (.int .u64 0) := HB.out.cell 1
      have d2 : wr.cell? ⟨gb, 2, none⟩ = some (.int .u64 0) := HB.out.cell 2
      have d3 : wr.cell? ⟨gb, 3, none⟩ = some (.int .u64 0) := HB.out.cell 3
      have f0 : ∀ j, wr.frozen? ⟨gb, j, none⟩ = false := fun j => HB.out.frozen j
      have hfv : val [a0, a1, a2, a3] = val ws % ell := by
        have h := Hv.out
        rw [Nat.sub_self, Nat.pow_zero, Nat.div_one] at h
        exact h
      have Hfv := Lib.hid hfv
      clear hkd hfv
      go_wp2_with fail
      have hC5 := (((HB.out.set_ 0 (.int .u64 (a0 : Int))).set_ 1 (.int .u64 (a1 : Int))).set_ 2 (.int .u64 (a2 : Int))).set_ 3 (.int .u64 (a3 : Int))
      have hg : gb ∈ ([] : List Nat) ∨ w.heap.size ≤ gb := .inr (by have := Hgb.out; omega)
      have ht5 : Touch [] w _ := (((HT.out.setCell (p := ⟨gb, 0, none⟩) hg (.int .u64 (a0 : Int))).setCell (p := ⟨gb, 1, none⟩) hg (.int .u64 (a1 : Int))).setCell (p := ⟨gb, 2, none⟩) hg (.int .u64 (a2 : Int))).setCell (p := ⟨gb, 3, none⟩) hg (.int .u64 (a3 : Int))
      obtain ⟨w5, hw5⟩ : ∃ w5, w5 = (((wr.setCell ⟨gb, 0, none⟩ (.int .u64 (a0 : Int))).setCell ⟨gb, 1, none⟩ (.int .u64 (a1 : Int))).setCell ⟨gb, 2, none⟩ (.int .u64 (a2 : Int))).setCell ⟨gb, 3, none⟩ (.int .u64 (a3 : Int)) := ⟨_, rfl⟩
      rw [← hw5] at hC5 ht5 ⊢
      have e0 : w5.cell? ⟨gb, 0, none⟩ = some (.int .u64 (a0 : Int)) := hC5.cell 0
      have e1 : w5.cell? ⟨gb, 1, none⟩ = some (.int .u64 (a1 : Int)) := hC5.cell 1
      have e2 : w5.cell? ⟨gb, 2, none⟩ = some (.int .u64 (a2 : Int)) := hC5.cell 2
      have e3 : w5.cell? ⟨gb, 3, none⟩ = some (.int .u64 (a3 : Int)) := hC5.cell 3
      have hfin : CutPost ws w (.returned (.agg #[.int .u64 (a0 : Int), .int .u64 (a1 : Int), .int .u64 (a2 : Int), .int .u64 (a3 : Int)])) w5 := ⟨[a0, a1, a2, a3], rfl, Wa.out, Hfv.out, rfl, ht5⟩
      clear hC5 hw5 c0 c1 c2 c3 d0 d1 d2 d3 f0
      simp [bodyPost, results, Tryd.results25, go_sem, e0, e1, e2, e3]
      exact hfin
end Go.Proofs.YtcnmpflbmnnkbaaDoor
