/- scalar.MulAdd: a product, and one more, modulo the order. -/
import Derived.Test.YtcnmpflbmnnkbaaDoorMul64
import Derived.Laws.CopyRow
namespace Go.Proofs.YtcnmpflbmnnkbaaDoor
open Go.RowKit
theorem add64_0 (x y : Nat) (w : World) :
    (callFunc 30 #[.int .u64 (x : Int), .int .u64 (y : Int), .int .u64 0]).run Tryd.prog w =
      .ok (.value (.tuple #[.int .u64 (((x + y) % 18446744073709551616 : Nat) : Int), .int .u64 (((x + y) / 18446744073709551616 : Nat) : Int)])) w := by
  have := add64_run x y 0 (by omega) w
  simpa using this
/-- One product more in its place: what is kept, and what is carried. -/
theorem mac_step {t c p q B : Nat} (hB : B = 18446744073709551616) (ht : t < B) (hc : c < B) (hp : p < B) (hq : q < B) :
    ∃ t' c', t' = (t + (p * q % B + c) % B) % B ∧ c' = p * q / B + (p * q % B + c) / B + (t + (p * q % B + c) % B) / B ∧ t' < B ∧ c' < B ∧ p * q / B + (p * q % B + c) / B < B ∧ t' + c' * B = t + c + p * q := by
  have h1 : p * q ≤ 340282366920938463426481119284349108225 := by
    have := Nat.mul_le_mul (show p ≤ 18446744073709551615 by omega) (show q ≤ 18446744073709551615 by omega)
    omega
  generalize p * q = m at *
  subst hB
  refine ⟨_, _, rfl, rfl, ?_, ?_, ?_, ?_⟩ <;> omega
theorem mac_val {ts ys : List Nat} {i j t' c c' p C Z : Nat} (hl : ts.length = 9) (hly : ys.length = 4) (hi : i < 4) (hj : j < 4) (hs : t' + c' * 18446744073709551616 = ts.getD (i + j) 0 + c + p * ys.getD j 0)
    (hv : val ts + c * 18446744073709551616 ^ (i + j) = C + Z + p * val (ys.take j) * 18446744073709551616 ^ i) :
    val (ts.set (i + j) t') + c' * 18446744073709551616 ^ (i + (j + 1)) = C + Z + p * val (ys.take (j + 1)) * 18446744073709551616 ^ i := by
  have h1 := val_set (l := ts) (k := i + j) (by omega) t'
  rw [val_take_succ (by omega), show i + (j + 1) = (i + j) + 1 by omega, Nat.pow_succ]
  rw [Nat.pow_add] at h1 hv ⊢
  generalize 18446744073709551616 ^ i = P at *
  generalize 18446744073709551616 ^ j = Q at *
  generalize ts.getD (i + j) 0 = t at *
  generalize ys.getD j 0 = q at *
  generalize val (ts.set (i + j) t') = V' at *
  generalize val ts = V at *
  generalize val (ys.take j) = Yj at *
  grind
theorem carry_val {ts : List Nat} {k t' c c' T : Nat} (hk : k < ts.length) (hs : t' + c' * 18446744073709551616 = ts.getD k 0 + c)
    (hv : val ts + c * 18446744073709551616 ^ k = T) : val (ts.set k t') + c' * 18446744073709551616 ^ (k + 1) = T := by
  have h1 := val_set hk t'
  rw [Nat.pow_succ]
  generalize 18446744073709551616 ^ k = P at *
  generalize ts.getD k 0 = t at *
  generalize val (ts.set k t') = V' at *
  generalize val ts = V at *
  grind
theorem make_words9 (w : World) : (Instr.makeSlice 39 (.int .i64 9) (.int .i64 9)).run Tryd.prog w =
    .ok (.slice (some ⟨w.heap.size, 0, none⟩) 9 9) (w.alloc (.cells (cellsN [0, 0, 0, 0, 0, 0, 0, 0, 0]).toArray 35)) := make_words 9 (by omega) w
theorem Touch.setRow {S : List Nat} {a w : World} {g : Nat} (h : Touch S a w) (hg : g ∈ S ∨ a.heap.size ≤ g) (cs : Array Value) : Touch S a (w.setRow g cs) :=
  ⟨h.os, h.tape, h.output, by rw [setRow_size]; exact h.size, fun k hk hn => (setRow_other w g k cs (by
    rintro rfl
    rcases hg with hg | hg
    · exact hn hg
    · omega)).trans (h.block k hk hn)⟩
/-- A word of a list that nobody writes to. -/
theorem own_word {w wr : World} {g o c n gt : Nat} {xs : List Nat} {row : Option Nat} (h : Own w 35 1 (.slice (some ⟨g, o, none⟩) n c) n (cellsN xs) row) (hl : xs.length = n) (ht : Touch [gt] w wr) (hne : ∀ g, row = some g → g ≠ gt) (k : Nat) (hk : k < n) :
    wr.cell? ⟨g, o + k, none⟩ = some (.int .u64 ((xs.getD k 0 : Nat) : Int)) := by
  obtain ⟨g', o', c', cur, hv, _, hb, _, _, _, _, hx⟩ := (h.touch ht (fun g hg => by simpa using hne g hg)).at_ (by omega)
  injection hv with ha _ _
  injection ha with ha
  injection ha with h1 h2
  subst h1; subst h2
  exact (hb.cell _).trans (hx _ _ (cellsN_at (by omega)))
theorem touch_new {a b c : World} {gt : Nat} (h : Touch [] a b) (k : Touch [gt] b c) (hg : a.heap.size ≤ gt) : Touch [] a c :=
  ⟨k.os.trans h.os, k.tape.trans h.tape, k.output.trans h.output, Nat.le_trans h.size k.size, fun i hi hni => (k.block i (Nat.lt_of_lt_of_le hi h.size) (by simp; omega)).trans (h.block i hi hni)⟩
/-- A list of nine words that lies in its own block. -/
theorem own_nine {w : World} {gt : Nat} {ts : List Nat} (h : Blk w gt 35 (cellsN ts).toArray) (hl : ts.length = 9) : Own w 35 1 (.slice (some ⟨gt, 0, none⟩) 9 9) ts.length (cellsN ts) (some gt) :=
  ⟨by rw [cellsN_len, Nat.mul_one], .inr ⟨gt, 0, 9, _, by rw [hl], rfl, h, by omega, by omega, by unfold maxLen; omega, by simp [cellsN_len, hl], fun j u hj => by rw [Nat.zero_add, List.getElem?_toArray]; exact hj⟩⟩
def MulAddPost (a b c : ByteArray) (w : World) (e : Ending) (w' : World) : Prop :=
  e = .returned (.string (toS ((leN ((bl a).take 32) * leN ((bl b).take 32) + leN ((bl c).take 32)) % ell))) ∧ Touch [] w w'
set_option maxRecDepth 100000 in
set_option maxHeartbeats 4000000 in
theorem mulAdd_any (a b c : ByteArray) (w : World) (hord : Ord w) :
    Calls Tryd.prog 13 #[.string a, .string b, .string c] w (MulAddPost a b c w) := by
  have Hord := Lib.hid hord
  clear hord
  go_enter Tryd.func13, Tryd.ntmps13
  go_wp2_with fail
  refine (load_any a 4 (by omega) w).mono ?_
  rintro e w1 ⟨v1, xs, row1, rfl, hxl, hxw, hxv, hxo, ht1, hn1⟩
  obtain ⟨gx, ox, cx, curx, hvx, hrx, hbx, _, hncx, _, _, hxx⟩ := hxo.at_ (by omega)
  have hlt1 : ∀ g, row1 = some g → g < w1.heap.size := fun g hg => hxo.lt hg
  rw [hxl] at hvx hxo hncx
  subst hvx
  have Hxl := Lib.hid hxl
  have Hxw := Lib.hid hxw
  have Hxv := Lib.hid hxv
  have Hxo := Lib.hid hxo
  have Ht1 := Lib.hid ht1
  have Hlt1 := Lib.hid hlt1
  clear hxl hxw hxv hxo ht1 hn1 hrx hbx hlt1 hxx
  go_wp2_with fail
  refine (load_any b 4 (by omega) w1).mono ?_
  rintro e w2 ⟨v2, ys, row2, rfl, hyl, hyw, hyv, hyo, ht2, hn2⟩
  obtain ⟨gy, oy, cy, cury, hvy, hry, hby, _, hncy, _, _, hyy⟩ := hyo.at_ (by omega)
  have hlt2 : ∀ g, row2 = some g → g < w2.heap.size := fun g hg => hyo.lt hg
  rw [hyl] at hvy hyo hncy
  subst hvy
  have Hyl := Lib.hid hyl
  have Hyw := Lib.hid hyw
  have Hyv := Lib.hid hyv
  have Hyo := Lib.hid hyo
  have Ht2 := Lib.hid ht2
  have Hlt2 := Lib.hid hlt2
  clear hyl hyw hyv hyo ht2 hn2 hry hby hlt2 hyy
  have hmk := make_words9
  go_wp2_with fail
  have hB3 := Blk.new w2 35 (cellsN [0, 0, 0, 0, 0, 0, 0, 0, 0]).toArray
  have ht3 : Touch [] w2 _ := (Touch.refl [] w2).alloc (.cells (cellsN [0, 0, 0, 0, 0, 0, 0, 0, 0]).toArray 35)
  obtain ⟨w3, hw3⟩ : ∃ w3, w3 = w2.alloc (.cells (cellsN [0, 0, 0, 0, 0, 0, 0, 0, 0]).toArray 35) := ⟨_, rfl⟩
  obtain ⟨gt, hgt⟩ : ∃ gt, gt = w2.heap.size := ⟨_, rfl⟩
  rw [← hw3, ← hgt] at hB3
  rw [← hw3] at ht3
  have Hgt := Lib.hid hgt
  rw [← hw3, ← hgt]
  have HB3 := Lib.hid hB3
  have Ht3 := Lib.hid ht3
  clear hmk hw3 hgt hB3 ht3
  refine (load_any c 4 (by omega) w3).mono ?_
  rintro e w4 ⟨v3, zs, row3, rfl, hzl, hzw, hzv, hzo, ht4, hn4⟩
  have hB4 := HB3.out.touch ht4 (by simp)
  obtain ⟨gz, oz, cz, curz, hvz, hrz, hbz, _, _, _, _, hxz⟩ := hzo.at_ (by omega)
  rw [hzl] at hvz
  subst hvz
  have hz4 : (cellsN zs).length = 4 := by rw [cellsN_len, hzl]
  have hcp := fun ty => run_copy_row (P := Tryd.prog) w4 39 39 ty 35 gt 0 9 9 ⟨gz, oz, none⟩ 4 cz _ 35 (cellsN zs) Tryd.underlying39 (by kernel_rfl) hB4 (by rw [hz4]; rfl) (fun j v hj => by rw [Addr.add_lit]; exact (hbz.cell _).trans (hxz j v hj)) (by rw [hz4]; simp [cellsN_len]) (fun v hv => by obtain ⟨n, _, rfl⟩ := List.mem_map.1 hv; rfl)
  have hnew : (((cellsN [0, 0, 0, 0, 0, 0, 0, 0, 0]).toArray.toList.take 0 ++ cellsN zs ++ (cellsN [0, 0, 0, 0, 0, 0, 0, 0, 0]).toArray.toList.drop (0 + (cellsN zs).length)).toArray : Array Value) = (cellsN (zs ++ [0, 0, 0, 0, 0])).toArray := by
    rw [hz4]; simp [cellsN]
  rw [hnew, hz4] at hcp
  have hB5 : Blk (w4.setRow gt (cellsN (zs ++ [0, 0, 0, 0, 0])).toArray) gt 35 (cellsN (zs ++ [0, 0, 0, 0, 0])).toArray := setRow_heap w4 gt _ _ _ _ hB4
  have ht5 : Touch [] w2 (w4.setRow gt (cellsN (zs ++ [0, 0, 0, 0, 0])).toArray) := (Ht3.out.trans ht4).setRow (.inr (by rw [Hgt.out]; exact Nat.le_refl _)) _
  have hv5 : val (zs ++ [0, 0, 0, 0, 0]) = val zs := by rw [val_append]; simp [val]
  have hw5 : Words (zs ++ [0, 0, 0, 0, 0]) := fun x hx => by
    rcases List.mem_append.1 hx with h | h
    · exact hzw x h
    · simp at h; omega
  have hl5 : (zs ++ [0, 0, 0, 0, 0]).length = 9 := by simp [hzl]
  obtain ⟨t5, ht5e⟩ : ∃ t5, t5 = zs ++ [0, 0, 0, 0, 0] := ⟨_, rfl⟩
  rw [← ht5e] at hcp hB5 ht5 hv5 hw5 hl5
  obtain ⟨w5, hw5e⟩ : ∃ w5, w5 = w4.setRow gt (cellsN t5).toArray := ⟨_, rfl⟩
  rw [← hw5e] at hcp hB5 ht5
  have Hz : Hid (val zs = leN ((bl c).take 32)) := Lib.hid hzv
  have hzlt : val zs < 115792089237316195423570985008687907853269984665640564039457584007913129639936 := val4_lt hzw hzl
  have Hzlt := Lib.hid hzlt
  have HB5 := Lib.hid hB5
  have HT5 := Lib.hid ht5
  have Hv5 := Lib.hid hv5
  have Hw5 := Lib.hid hw5
  have Hl5 := Lib.hid hl5
  clear hnew hz4 hzl hzw hzv hzo ht4 hn4 hB4 hrz hbz hxz hw5e ht5e hB5 ht5 hv5 hw5 hl5 hzlt
  go_wp2_with fail
  clear hcp
  have HX : Hid (Own w5 35 1 (.slice (some ⟨gx, ox, none⟩) 4 cx) 4 (cellsN xs) row1) := Lib.hid (Hxo.out.touch (Ht2.out.trans HT5.out) (by simp))
  have HY : Hid (Own w5 35 1 (.slice (some ⟨gy, oy, none⟩) 4 cy) 4 (cellsN ys) row2) := Lib.hid (Hyo.out.touch HT5.out (by simp))
  have HXn : Hid (∀ g, row1 = some g → g ≠ gt) := Lib.hid (fun g hg e => by have h1 := Hlt1.out g hg; have h2 := Ht2.out.size; have h3 := Hgt.out; omega)
  have HYn : Hid (∀ g, row2 = some g → g ≠ gt) := Lib.hid (fun g hg e => by have h1 := Hlt2.out g hg; have h3 := Hgt.out; omega)
  clear hncx hncy
  go_loopw [30] (fun vi wr => ∃ (i : Nat) (ts : List Nat), i ≤ 4 ∧ vi = .int .i64 i ∧ ts.length = 9 ∧ Words ts ∧ val ts = val zs + val (xs.take i) * val ys ∧ Blk wr gt 35 (cellsN ts).toArray ∧ Touch [gt] w5 wr) (fun vi _ => 4 - (intOf vi).toNat)
  case atStart => exact ⟨0, t5, by omega, rfl, Hl5.out, Hw5.out, by rw [Hv5.out]; simp [val], HB5.out, Touch.refl _ _⟩
  case round =>
    obtain ⟨i, ts, hi, rfl, hl, hw, hv, hB, hT⟩ := hrel
    have Hl := Lib.hid hl
    have Hw := Lib.hid hw
    have Hv := Lib.hid hv
    have HB := Lib.hid hB
    have HT := Lib.hid hT
    clear hl hw hv hB hT
    by_cases hi4 : i < 4
    · have hcx := own_word HX.out Hxl.out HT.out HXn.out i hi4
      have hpw := Hxw.out.at_ i
      obtain ⟨p, hp⟩ : ∃ p, p = xs.getD i 0 := ⟨_, rfl⟩
      rw [← hp] at hcx hpw
      have Hp := Lib.hid hp
      clear hp
      obtain ⟨Z, hZ⟩ : ∃ Z, Z = val (xs.take i) * val ys := ⟨_, rfl⟩
      have HZ := Lib.hid hZ
      clear hZ
      go_upto_block 2 with fail
      simp only [show decide ((i : Int) < 4) = true from decide_eq_true (by omega)]
      go_cut [12] (fun vc wx => ∃ (cc : Nat) (ts : List Nat), vc = .int .u64 (cc : Int) ∧ cc < 18446744073709551616 ∧ ts.length = 9 ∧ Words ts ∧ val ts + cc * 18446744073709551616 ^ (i + 4) = val zs + Z + p * val ys * 18446744073709551616 ^ i ∧
        Blk wx gt 35 (cellsN ts).toArray ∧ Touch [gt] w5 wx)
      case first =>
        go_wp2_with fail
        go_loopw [12, 37] (fun vc vj wz => ∃ (j cc : Nat) (ts : List Nat), j ≤ 4 ∧ vj = .int .i64 j ∧ vc = .int .u64 (cc : Int) ∧ cc < 18446744073709551616 ∧ ts.length = 9 ∧ Words ts ∧ val ts + cc * 18446744073709551616 ^ (i + j) = val zs + Z + p * val (ys.take j) * 18446744073709551616 ^ i ∧
          Blk wz gt 35 (cellsN ts).toArray ∧ Touch [gt] w5 wz) (fun _ vj _ => 4 - (intOf vj).toNat)
        case atStart => exact ⟨0, 0, ts, by omega, rfl, rfl, by omega, Hl.out, Hw.out, by rw [Hv.out, HZ.out]; simp [val], HB.out, HT.out⟩
        case round =>
          clear hcx
          obtain ⟨j, cc, ts, hj, rfl, rfl, hcc, hl, hw, hv, hB, hT⟩ := hrel
          have Hl2 := Lib.hid hl
          have Hw2 := Lib.hid hw
          have Hv2 := Lib.hid hv
          have HB2 := Lib.hid hB
          have HT2 := Lib.hid hT
          clear hl hw hv hB hT
          by_cases hj4 : j < 4
          · have hcy := own_word HY.out Hyl.out HT2.out HYn.out j hj4
            have hqw := Hyw.out.at_ j
            have hct : wr.cell? ⟨gt, i + j, none⟩ = some (.int .u64 ((ts.getD (i + j) 0 : Nat) : Int)) := by
              rw [HB2.out.cell, List.getElem?_toArray]; exact cellsN_at (by rw [Hl2.out]; omega)
            have hft : wr.frozen? ⟨gt, i + j, none⟩ = false := HB2.out.frozen _
            have htw := Hw2.out.at_ (i + j)
            obtain ⟨q, hq⟩ : ∃ q, q = ys.getD j 0 := ⟨_, rfl⟩
            obtain ⟨t, ht⟩ : ∃ t, t = ts.getD (i + j) 0 := ⟨_, rfl⟩
            rw [← hq] at hcy hqw
            rw [← ht] at hct htw
            obtain ⟨t', c', e1, e2, b1, b2, b3, e3⟩ := mac_step rfl htw hcc hpw hqw
            have hval := mac_val Hl2.out Hyl.out hi4 hj4 (by rw [← ht, ← hq]; exact e3) Hv2.out
            have Hval := Lib.hid hval
            have E1 := Lib.hid e1
            have E2 := Lib.hid e2
            have B3 := Lib.hid b3
            obtain ⟨hi', hhi⟩ : ∃ hi', hi' = p * q / 18446744073709551616 := ⟨_, rfl⟩
            obtain ⟨lo, hlo⟩ : ∃ lo, lo = p * q % 18446744073709551616 := ⟨_, rfl⟩
            have Hmul := Lib.hid (mul64_any p q hpw hqw)
            rw [← hhi, ← hlo] at Hmul
            rw [← hlo] at E1
            rw [← hhi, ← hlo] at E2 B3
            have hadd1 := add64_0 lo cc
            obtain ⟨o1, ho1⟩ : ∃ o1, o1 = (lo + cc) / 18446744073709551616 := ⟨_, rfl⟩
            obtain ⟨l1, hl1⟩ : ∃ l1, l1 = (lo + cc) % 18446744073709551616 := ⟨_, rfl⟩
            rw [← ho1, ← hl1] at hadd1
            rw [← hl1] at E1
            rw [← ho1, ← hl1] at E2
            rw [← ho1] at B3
            have hadd2 := add64_0 t l1
            obtain ⟨o2, ho2⟩ : ∃ o2, o2 = (t + l1) / 18446744073709551616 := ⟨_, rfl⟩
            rw [← ho2] at hadd2 E2
            rw [← E1.out] at hadd2
            have hb3 := B3.out
            have hb2 : hi' + o1 + o2 < 18446744073709551616 := by rw [← E2.out]; exact b2
            clear hq ht hval e1 e2 e3 b3 hhi hlo ho1 hl1 ho2
            go_wp2_with fail
            refine (Hmul.out wr).mono ?_
            rintro e w6 ⟨rfl, rfl⟩
            go_wp2_with fail
            go_roundw
            case rel =>
              have hset : (cellsN ts).toArray.setIfInBounds (i + j) (.int .u64 (t' : Int)) = (cellsN (ts.set (i + j) t')).toArray := by rw [← cellsN_set]; simp
              have hB6 := HB2.out.set_ (i + j) (.int .u64 (t' : Int))
              rw [hset] at hB6
              exact ⟨j + 1, c', ts.set (i + j) t', by omega, by go_num, by rw [E2.out]; simp, b2, by rw [List.length_set]; exact Hl2.out, Hw2.out.set _ b1, Hval.out, hB6, HT2.out.setCell (p := ⟨gt, i + j, none⟩) (.inl (by simp)) _⟩
            case measure => simp [intOf]; omega
          · obtain rfl : j = 4 := by omega
            have hv4 := Hv2.out
            rw [List.take_of_length_le (by rw [Hyl.out]; omega)] at hv4
            have Hv4 := Lib.hid hv4
            clear hv4
            go_wp2_with fail
            go_meet
            exact ⟨cc, ts, rfl, hcc, Hl2.out, Hw2.out, Hv4.out, HB2.out, HT2.out⟩
      case rest =>
        obtain ⟨cc, ts2, rfl, hcc, hl, hw, hv, hB, hT⟩ := hcut
        have hsum : val zs + Z + p * val ys * 18446744073709551616 ^ i = val zs + val (xs.take (i + 1)) * val ys := by
          rw [val_take_succ (by rw [Hxl.out]; exact hi4), ← Hp.out, HZ.out, Nat.add_mul]
          generalize 18446744073709551616 ^ i = P
          grind
        rw [hsum] at hv
        have hTlt : val zs + val (xs.take (i + 1)) * val ys < 18446744073709551616 ^ 9 := by
          have h1 : val (xs.take (i + 1)) < 18446744073709551616 ^ 4 := by
            have hh := val_lt (l := xs.take (i + 1)) (fun x hx => Hxw.out x (List.mem_of_mem_take hx))
            refine Nat.lt_of_lt_of_le hh (Nat.pow_le_pow_right (by omega) (by rw [List.length_take, Hxl.out]; omega))
          have h2 := val4_lt Hyw.out Hyl.out
          have h3 := Hzlt.out
          rw [show (18446744073709551616 : Nat) ^ 4 = 115792089237316195423570985008687907853269984665640564039457584007913129639936 by decide] at h1
          have h4 := Nat.mul_le_mul (Nat.le_of_lt h1) (Nat.le_of_lt h2)
          rw [show (18446744073709551616 : Nat) ^ 9 = 247330401473104534060502521019647190035131349101211839914063056092897225106531867170316401061243044989597671426016139339351365034306751209967546155101893167916606772148699136 by decide]
          omega
        obtain ⟨T, hT'⟩ : ∃ T, T = val zs + val (xs.take (i + 1)) * val ys := ⟨_, rfl⟩
        rw [← hT'] at hv hTlt
        have HTe := Lib.hid hT'
        have Hl2 := Lib.hid hl
        have Hw2 := Lib.hid hw
        have Hv2 := Lib.hid hv
        have HB2 := Lib.hid hB
        have HT2 := Lib.hid hT
        have HTlt := Lib.hid hTlt
        clear hl hw hv hB hT hsum hT' hTlt hcx
        go_wp2_with fail
        try simp only [show decide ((i : Int) < 4) = true from decide_eq_true (by omega)]
        go_loopw [12, 18] (fun vc vk wz => ∃ (k cc : Nat) (ts : List Nat), k ≤ 9 ∧ vk = .int .i64 k ∧ vc = .int .u64 (cc : Int) ∧ cc < 18446744073709551616 ∧ ts.length = 9 ∧ Words ts ∧ val ts + cc * 18446744073709551616 ^ k = T ∧
          Blk wz gt 35 (cellsN ts).toArray ∧ Touch [gt] w5 wz) (fun _ vk _ => 9 - (intOf vk).toNat)
        case atStart => exact ⟨i + 4, cc, ts2, by omega, by simp, rfl, hcc, Hl2.out, Hw2.out, Hv2.out, HB2.out, HT2.out⟩
        case round =>
          clear hcc
          obtain ⟨k, cc, ts, hk, rfl, rfl, hcc, hl, hw, hv, hB, hT⟩ := hrel
          have Hl3 := Lib.hid hl
          have Hw3 := Lib.hid hw
          have Hv3 := Lib.hid hv
          have HB3 := Lib.hid hB
          have HT3 := Lib.hid hT
          clear hl hw hv hB hT
          by_cases hc0 : 0 < cc
          · have hk9 : k < 9 := by
              rcases Nat.lt_or_ge k 9 with h | h
              · exact h
              · obtain rfl : k = 9 := by omega
                have h1 := Hv3.out
                have h2 := HTlt.out
                have h3 : 1 * 18446744073709551616 ^ 9 ≤ cc * 18446744073709551616 ^ 9 := Nat.mul_le_mul_right _ hc0
                rw [Nat.one_mul] at h3
                exact absurd h2 (Nat.not_lt.2 (Nat.le_trans h3 (by rw [← h1]; exact Nat.le_add_left _ _)))
            have hct : wr.cell? ⟨gt, k, none⟩ = some (.int .u64 ((ts.getD k 0 : Nat) : Int)) := by
              rw [HB3.out.cell, List.getElem?_toArray]; exact cellsN_at (by rw [Hl3.out]; omega)
            have hft : wr.frozen? ⟨gt, k, none⟩ = false := HB3.out.frozen _
            have htw := Hw3.out.at_ k
            have hadd := add64_0 (ts.getD k 0) cc
            obtain ⟨t', ht'⟩ : ∃ t', t' = (ts.getD k 0 + cc) % 18446744073709551616 := ⟨_, rfl⟩
            obtain ⟨c', hc'⟩ : ∃ c', c' = (ts.getD k 0 + cc) / 18446744073709551616 := ⟨_, rfl⟩
            rw [← ht', ← hc'] at hadd
            have b1 : t' < 18446744073709551616 := by omega
            have b2 : c' < 18446744073709551616 := by omega
            have hval := carry_val (k := k) (by rw [Hl3.out]; exact hk9) (show t' + c' * 18446744073709551616 = ts.getD k 0 + cc by omega) Hv3.out
            have Hval := Lib.hid hval
            obtain ⟨t, ht⟩ : ∃ t, t = ts.getD k 0 := ⟨_, rfl⟩
            rw [← ht] at hct htw hadd
            clear ht' hc' hval ht
            go_wp2_with fail
            go_roundw
            case rel =>
              have hset : (cellsN ts).toArray.setIfInBounds k (.int .u64 (t' : Int)) = (cellsN (ts.set k t')).toArray := by rw [← cellsN_set]; simp
              have hB6 := HB3.out.set_ k (.int .u64 (t' : Int))
              rw [hset] at hB6
              exact ⟨k + 1, c', ts.set k t', by omega, by go_num, rfl, b2, by rw [List.length_set]; exact Hl3.out, Hw3.out.set _ b1, Hval.out, hB6, HT3.out.setCell (p := ⟨gt, k, none⟩) (.inl (by simp)) _⟩
            case measure => simp [intOf]; omega
          · obtain rfl : cc = 0 := by omega
            have hv4 := Hv3.out
            rw [Nat.zero_mul, Nat.add_zero] at hv4
            have Hv4 := Lib.hid hv4
            clear hv4
            go_wp2_with fail
            go_roundw
            case rel => exact ⟨i + 1, ts, by omega, by go_num, Hl3.out, Hw3.out, by rw [Hv4.out, HTe.out], HB3.out, HT3.out⟩
            case measure => simp [intOf]; omega
    · obtain rfl : i = 4 := by omega
      have hvf : val ts = leN ((bl a).take 32) * leN ((bl b).take 32) + leN ((bl c).take 32) := by
        have h1 := Hv.out
        have h2 := Hxv.out
        have h3 := Hyv.out
        rw [List.take_of_length_le (by rw [Hxl.out]; omega), Hz.out] at h1
        rw [h1, h2, h3, Nat.add_comm]
      have Hvf := Lib.hid hvf
      have hown := own_nine HB.out Hl.out
      have hgw : w2.heap.size ≤ gt := by rw [Hgt.out]; exact Nat.le_refl _
      have htt : Touch [] w wr := (Ht1.out.trans Ht2.out).trans (touch_new HT5.out HT.out hgw)
      have Htt := Lib.hid htt
      have Hown := Lib.hid hown
      clear hvf hown hgw htt
      go_wp2_with fail
      refine (cut_any _ ts (some gt) (by rw [Hl.out]; omega) Hw.out wr Hown.out (Hord.out.touch Htt.out)).mono ?_
      rintro e w6 ⟨r, hr, wr6, hvr, rfl, ht6⟩
      have Hr := Lib.hid hr
      have Wr := Lib.hid wr6
      have Hvr := Lib.hid hvr
      have Ht6 := Lib.hid ht6
      clear hr wr6 hvr ht6
      go_wp2_with fail
      refine (text_any r Hr.out Wr.out w6).mono ?_
      rintro e w7 ⟨rfl, ht7⟩
      have Ht7 := Lib.hid ht7
      clear ht7
      go_wp2_with fail
      go_ret
      exact ⟨ret_eq (by rw [Hvr.out, Hvf.out]; rfl), (Htt.out.trans Ht6.out).trans Ht7.out⟩
end Go.Proofs.YtcnmpflbmnnkbaaDoor
