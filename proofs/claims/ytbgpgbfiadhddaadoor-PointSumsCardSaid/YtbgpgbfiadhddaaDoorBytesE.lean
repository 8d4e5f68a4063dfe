/- (field.Elem).Bytes. -/
import Derived.Test.YtbgpgbfiadhddaaDoorLess
import Derived.Test.YtbgpgbfiadhddaaDoorMulE
import Derived.Test.YtbgpgbfiadhddaaDoorBytes
import Derived.Test.YtbgpgbfiadhddaaDoorGrow
namespace Go.Proofs.YtbgpgbfiadhddaaDoor
open Go.RowKit
theorem CarB.red {l r : List Int} (h : CarB l r) (hl : Red l) : Red r := ⟨h.len, (h.bound hl.len hl.bnd (by omega) (C := 2) (by omega)).mono (by omega)⟩
theorem car3_dig {l a b r : List Int} (hl : Red l) (h1 : CarB l a) (h2 : CarB a b) (h3 : CarB b r) : Dig r ∧ fe r = fe l := by
  refine ⟨?_, by rw [h3.fe, h2.fe, h1.fe]⟩
  have hbv := bnd_val hl.bnd
  rw [hl.len] at hbv
  obtain ⟨q1, c1, l1, d1, v1, rfl, e1⟩ := h1
  obtain ⟨q2, c2, l2, d2, v2, rfl, e2⟩ := h2
  obtain ⟨q3, c3, l3, d3, v3, rfl, e3⟩ := h3
  have s1 := vI_set (l := q1) (k := 0) (by omega) (q1.getD 0 0 + 38 * c1)
  have s2 := vI_set (l := q2) (k := 0) (by omega) (q2.getD 0 0 + 38 * c2)
  rw [Int.pow_zero, Int.one_mul, Int.one_mul] at s1 s2
  have b1 := vI_lt d1
  have b2 := vI_lt d2
  have b3 := vI_lt d3
  rw [l1] at b1
  rw [l2] at b2
  rw [l3] at b3
  have e : (65536 : Int) ^ 16 = 115792089237316195423570985008687907853269984665640564039457584007913129639936 := by decide
  rw [e] at *
  have hc3 : c3 = 0 := by omega
  subst hc3
  intro x hx
  rcases List.mem_or_eq_of_mem_set hx with hx | rfl
  · exact d3 x hx
  · have := d3.at_ 0; omega
/-- k times carried. -/
inductive Chain (l : List Int) : Nat → List Int → Prop
  | zero : Chain l 0 l
  | succ {k : Nat} {r s : List Int} : Chain l k r → CarB r s → Chain l (k + 1) s
theorem Chain.red {l r : List Int} {k : Nat} (hl : Red l) (h : Chain l k r) : Red r := by
  induction h with
  | zero => exact hl
  | succ _ hc ih => exact hc.red ih
theorem Chain.three {l r : List Int} (hl : Red l) (h : Chain l 3 r) : Dig r ∧ fe r = fe l := by
  cases h with
  | succ h c3 =>
    cases h with
    | succ h c2 =>
      cases h with
      | succ h c1 =>
        cases h with
        | zero => exact car3_dig hl c1 c2 c3
structure SubP (n : Nat) (r : List Int) (k : Nat) : Prop where
  len : r.length = 16
  dig : Dig r
  fe : fe r = n
  one : k = 1 → vI r < 57896044618658097711785492504343953926634992332820282019728792003956564819987
  two : k = 2 → vI r < 57896044618658097711785492504343953926634992332820282019728792003956564819949
theorem SubP.start {l r : List Int} (hl : Red l) (h : Chain l 3 r) : SubP (Go.Proofs.YtbgpgbfiadhddaaDoor.fe l) r 0 := ⟨(h.red hl).len, (h.three hl).1, (h.three hl).2, fun h => by omega, fun h => by omega⟩
theorem SubP.keep {n k : Nat} {r : List Int} (h : SubP n r k) (hv : vI r < 57896044618658097711785492504343953926634992332820282019728792003956564819949) : SubP n r (k + 1) := ⟨h.len, h.dig, h.fe, fun _ => by omega, fun _ => hv⟩
theorem SubP.less {n k : Nat} {r m : List Int} (h : SubP n r k) (hm : m.length = 16) (hd : Dig m) (hv : vI m = vI r - 57896044618658097711785492504343953926634992332820282019728792003956564819949) : SubP n m (k + 1) := by
  have hb := vI_lt h.dig
  rw [h.len] at hb
  have e : (65536 : Int) ^ 16 = 115792089237316195423570985008687907853269984665640564039457584007913129639936 := by decide
  rw [e] at hb
  refine ⟨hm, hd, ?_, fun _ => by omega, fun h2 => ?_⟩
  · rw [← h.fe]
    unfold Go.Proofs.YtbgpgbfiadhddaaDoor.fe fz
    omega
  · have := h.one (by omega)
    omega
theorem SubP.val {n : Nat} {r : List Int} (h : SubP n r 2) : vI r = n := by
  have h2 := h.two rfl
  have hb := vI_lt h.dig
  rw [← h.fe]
  unfold Go.Proofs.YtbgpgbfiadhddaaDoor.fe fz
  omega
theorem dig_at {l : List Int} (h : Dig l) (n : Nat) (hv : vI l = n) (k : Nat) (hk : k < l.length) : l.getD k 0 = ((n / 2 ^ (16 * k) % 65536 : Nat) : Int) := by
  induction l generalizing k n with
  | nil => simp at hk
  | cons x l ih =>
    have hx := h x List.mem_cons_self
    have hd : Dig l := fun y hy => h y (List.mem_cons_of_mem _ hy)
    have hb := vI_lt hd
    rw [vI] at hv
    cases k with
    | zero => simp [List.getD]; omega
    | succ k =>
      have e3 : (x :: l).getD (k + 1) 0 = l.getD k 0 := by simp [List.getD]
      rw [e3, ih hd (n / 65536) (by omega) k (by simpa using hk), show 16 * (k + 1) = 16 + 16 * k by omega, Nat.pow_add, ← Nat.div_div_eq_div_mul]
theorem getU_set_self {l : List Nat} {k : Nat} (hk : k < l.length) (x : Nat) : (l.set k x).getD k 0 = x := by simp [List.getD, hk]
theorem getU_set_ne {l : List Nat} {k j : Nat} (h : j ≠ k) (x : Nat) : (l.set k x).getD j 0 = l.getD j 0 := by
  simp [List.getD, List.getElem?_set_ne (Ne.symm h)]
theorem bytes_step {n k : Nat} {bs : List Nat} (hk : k < 16) (hl : bs.length = 32) (hc : ∀ j, j < 2 * k → bs.getD j 0 = n / 2 ^ (8 * j) % 256) {d : Nat} (hd : d = n / 2 ^ (16 * k) % 65536) :
    ∀ j, j < 2 * (k + 1) → ((bs.set (k + k) (d % 256)).set (k + k + 1) (d / 256 % 256)).getD j 0 = n / 2 ^ (8 * j) % 256 := by
  intro j hj
  by_cases h1 : j = k + k + 1
  · subst h1
    have : ((bs.set (k + k) (d % 256)).set (k + k + 1) (d / 256 % 256)).getD (k + k + 1) 0 = d / 256 % 256 := getU_set_self (by rw [List.length_set]; omega) _
    rw [this, hd, show 8 * (k + k + 1) = 16 * k + 8 by omega, Nat.pow_add, ← Nat.div_div_eq_div_mul]
    omega
  · by_cases h2 : j = k + k
    · subst h2
      have : ((bs.set (k + k) (d % 256)).set (k + k + 1) (d / 256 % 256)).getD (k + k) 0 = d % 256 := by rw [getU_set_ne (by omega), getU_set_self (by omega)]
      rw [this, hd, show 8 * (k + k) = 16 * k by omega]
      omega
    · rw [getU_set_ne h1, getU_set_ne h2]; exact hc j (by omega)
theorem cellsU8_set (l : List Nat) (j x : Nat) : (cellsU8 l).toArray.setIfInBounds j (.int .u8 (x : Int)) = (cellsU8 (l.set j x)).toArray := by simp [cellsU8]
theorem strOf_toS {n : Nat} {bs : List Nat} (hl : bs.length = 32) (hc : ∀ j, j < 32 → bs.getD j 0 = n / 2 ^ (8 * j) % 256) : strOfNums (bs.map fun (n : Nat) => (n : Int)) = toS n := by
  unfold toS
  congr 1
  apply List.ext_getElem?
  intro i
  by_cases hi : i < 32
  · have := hc i hi
    rw [List.getElem?_map, List.getElem?_map, List.getElem?_range hi]
    have hci : i < bs.length := by rw [hl]; exact hi
    rw [List.getElem?_eq_getElem hci]
    simp [List.getD, hci] at this
    simp [this]
  · rw [List.getElem?_eq_none (by rw [List.length_map, hl]; omega), List.getElem?_eq_none (by simp; omega)]
theorem getD_map_int' (l : List Nat) (i : Nat) : (l.map fun (n : Nat) => (n : Int)).getD i 0 = ((l.getD i 0 : Nat) : Int) := by
  simp only [List.getD, List.getElem?_map]
  cases l[i]? <;> rfl
set_option maxRecDepth 100000 in
set_option maxHeartbeats 2000000 in
theorem bytes_any (l : List Int) (hl : Red l) (w : World) :
    Calls Tryd.prog 51 #[elV l] w fun e w' => e = .returned (.string (toS (fe l))) ∧ Touch [] w w' := by
  have Hl := Lib.hid hl
  clear hl
  unfold elV
  go_enter Tryd.func51, Tryd.ntmps51
  go_wp2_with fail
  obtain ⟨w1, hw1⟩ : ∃ w1, w1 = w.alloc (.cells (cellsZ l).toArray 25) := ⟨_, rfl⟩
  have hB : Blk w1 w.heap.size 25 (cellsZ l).toArray := by rw [hw1]; exact Blk.new _ _ _
  have hT : Touch [] w w1 := by rw [hw1]; exact (Touch.refl _ _).alloc _
  rw [← hw1]
  obtain ⟨ga, hga⟩ : ∃ ga, ga = w.heap.size := ⟨_, rfl⟩
  have Hga := Lib.hid (show w.heap.size ≤ ga by omega)
  rw [← hga] at hB ⊢
  clear hw1 hga
  go_loopw [8] (fun vi wr => ∃ (k : Nat) (r : List Int), k ≤ 3 ∧ vi = .int .i64 k ∧ Chain l k r ∧ Blk wr ga 25 (cellsZ r).toArray ∧ Touch [] w wr) (fun vi _ => 3 - (intOf vi).toNat)
  case atStart => exact ⟨0, l, by omega, rfl, .zero, hB, hT⟩
  case round =>
    clear hB hT
    obtain ⟨k, r, hk, rfl, hC, hB, hT⟩ := hrel
    have HC := Lib.hid hC
    have HB := Lib.hid hB
    have HT := Lib.hid hT
    clear hC hB hT
    by_cases hk3 : k < 3
    · go_wp2_with fail
      refine (carry_any ga r (HC.out.red Hl.out).len ((HC.out.red Hl.out).bnd.mono (by omega)) wr HB.out).mono ?_
      rintro e w5 ⟨rfl, q, hq, hB5, hT5⟩
      have HB5 := Lib.hid hB5
      have HT5 := Lib.hid (touch_newE HT.out hT5 Hga.out)
      have HQ := Lib.hid (HC.out.succ hq)
      clear hB5 hT5 hq
      go_wp2_with fail
      go_roundw
      case rel => exact ⟨k + 1, q, by omega, by go_num, HQ.out, HB5.out, HT5.out⟩
      case measure => simp [intOf]; omega
    · obtain rfl : k = 3 := by omega
      have HS := Lib.hid (SubP.start Hl.out HC.out)
      obtain ⟨n, hn⟩ : ∃ n, n = fe l := ⟨_, rfl⟩
      have Hn := Lib.hid hn
      rw [← hn] at HS
      clear hn HC
      go_wp2_with fail
      go_loopw [12] (fun vi wr => ∃ (k : Nat) (r : List Int), k ≤ 2 ∧ vi = .int .i64 k ∧ SubP n r k ∧ Blk wr ga 25 (cellsZ r).toArray ∧ Touch [] w wr) (fun vi _ => 2 - (intOf vi).toNat)
      case atStart => exact ⟨0, r, by omega, rfl, HS.out, HB.out, HT.out⟩
      case round =>
        clear HS HB HT
        obtain ⟨k, r, hk, rfl, hS, hB, hT⟩ := hrel
        have HS := Lib.hid hS
        have HB := Lib.hid hB
        have HT := Lib.hid hT
        clear hS hB hT
        by_cases hk2 : k < 2
        · go_wp2_with (refine wpList_loadA rfl (.tmp 15) rfl ga rfl 25 r HS.out.len HB.out ?_)
          refine (less_any' r HS.out.len HS.out.dig wr).mono ?_
          rintro e w5 ⟨m, b, hm, hb, hmv, rfl, hT5⟩
          have Hm := Lib.hid hm
          have HT5 := Lib.hid (HT.out.trans hT5)
          have HB5 := Lib.hid (HB.out.touch hT5 (by simp))
          have hlt := HB5.out.lt
          have Hne : Hid (ga ≠ w5.heap.size) := Lib.hid (by omega)
          clear hm hT5 hlt
          cases b with
          | true =>
            have HN := Lib.hid (HS.out.keep (of_decide_eq_true hb.symm))
            clear hb hmv
            go_wp2_with (refine wpList_storeA rfl (.tmp 3) (.tmp 18) rfl _ rfl m rfl 23 _ Hm.out rfl (Blk.new _ _ _) ?_)
            go_roundw
            case rel => first | exact ⟨k + 1, r, by omega, by go_num, HN.out, (HB5.out.alloc _).frow Hne.out _, (HT5.out.alloc _).setRowE (.inr HT5.out.size) _⟩ | ((repeat apply Exists.intro); exact ⟨⟨k + 1, r, by omega, by go_num, HN.out, (HB5.out.alloc _).frow Hne.out _, (HT5.out.alloc _).setRowE (.inr HT5.out.size) _⟩, rfl⟩)
            case measure => simp [intOf]; omega
          | false =>
            have HN := Lib.hid (HS.out.less Hm.out (hmv rfl).1 (hmv rfl).2)
            clear hb hmv
            go_wp2_with (first | (refine wpList_storeA rfl (.tmp 3) (.tmp 18) rfl _ rfl m rfl 23 _ Hm.out rfl (Blk.new _ _ _) ?_) | (refine wpList_loadA rfl (.tmp 3) rfl _ rfl 23 m Hm.out ((Blk.new _ _ _).setRow _) ?_) | (refine wpList_storeA rfl (.tmp 23) (.tmp 22) rfl ga rfl m rfl 25 _ Hm.out (by rw [cellsZ_size]; exact HS.out.len) ((HB5.out.alloc _).frow Hne.out _) ?_))
            go_roundw
            case rel => first | exact ⟨k + 1, m, by omega, by go_num, HN.out, ((HB5.out.alloc _).frow Hne.out _).setRow _, ((HT5.out.alloc _).setRowE (.inr HT5.out.size) _).setRowE (.inr Hga.out) _⟩ | ((repeat apply Exists.intro); exact ⟨⟨k + 1, m, by omega, by go_num, HN.out, ((HB5.out.alloc _).frow Hne.out _).setRow _, ((HT5.out.alloc _).setRowE (.inr HT5.out.size) _).setRowE (.inr Hga.out) _⟩, rfl⟩)
            case measure => simp [intOf]; omega
        · obtain rfl : k = 2 := by omega
          have hlen := HS.out.len
          have HV := Lib.hid HS.out.val
          have HD := Lib.hid HS.out.dig
          have HL := Lib.hid hlen
          clear HS hlen
          go_upto_region 12 with fail
          have hz0 : (cellsU8 (List.replicate 32 0)).toArray = #[.int .u8 0, .int .u8 0, .int .u8 0, .int .u8 0, .int .u8 0, .int .u8 0, .int .u8 0, .int .u8 0, .int .u8 0, .int .u8 0, .int .u8 0, .int .u8 0, .int .u8 0, .int .u8 0, .int .u8 0, .int .u8 0, .int .u8 0, .int .u8 0, .int .u8 0, .int .u8 0, .int .u8 0, .int .u8 0, .int .u8 0, .int .u8 0, .int .u8 0, .int .u8 0, .int .u8 0, .int .u8 0, .int .u8 0, .int .u8 0, .int .u8 0, .int .u8 0] := rfl
          rw [← hz0]
          obtain ⟨w6, hw6⟩ : ∃ w6, w6 = wr.alloc (.cells (cellsU8 (List.replicate 32 0)).toArray 63) := ⟨_, rfl⟩
          have HB6 : Hid (Blk w6 ga 25 (cellsZ r).toArray) := Lib.hid (by rw [hw6]; exact HB.out.alloc _)
          have HU6 : Hid (Blk w6 wr.heap.size 63 (cellsU8 (List.replicate 32 0)).toArray) := Lib.hid (by rw [hw6]; exact Blk.new _ _ _)
          have HT6 : Hid (Touch [] w w6) := Lib.hid (by rw [hw6]; exact HT.out.alloc _)
          obtain ⟨gb, hgb⟩ : ∃ gb, gb = wr.heap.size := ⟨_, rfl⟩
          have Hgb : Hid (w.heap.size ≤ gb) := Lib.hid (by rw [hgb]; exact HT.out.size)
          rw [← hw6]
          rw [← hgb] at HU6 ⊢
          clear hz0 hw6 hgb HB HT
          go_wp2_with (refine wpList_loadA rfl (.tmp 25) rfl ga rfl 25 r HL.out HB6.out ?_)
          go_loopw [27] (fun vi wx => ∃ (k : Nat) (bs : List Nat), k ≤ 16 ∧ vi = .int .i64 k ∧ bs.length = 32 ∧ (∀ j, j < 2 * k → bs.getD j 0 = n / 2 ^ (8 * j) % 256) ∧ Blk wx gb 63 (cellsU8 bs).toArray ∧ Touch [] w wx) (fun vi _ => 16 - (intOf vi).toNat)
          case atStart => exact ⟨0, List.replicate 32 0, by omega, rfl, by simp, fun _ h => by omega, HU6.out, HT6.out⟩
          case round =>
            clear HU6 HT6 HB6
            obtain ⟨k, bs, hk, rfl, hl, hc, hB, hT⟩ := hrel
            have Hbl := Lib.hid hl
            have Hc := Lib.hid hc
            have HB := Lib.hid hB
            have HT := Lib.hid hT
            clear hl hc hB hT
            by_cases hk16 : k < 16
            · have hix := index16 r HL.out k hk16
              have hdg := dig_at HD.out n HV.out k (by rw [HL.out]; exact hk16)
              have hst := Lib.hid (fun d => bytes_step hk16 Hbl.out Hc.out (d := d))
              obtain ⟨d, hd⟩ : ∃ d, d = n / 2 ^ (16 * k) % 65536 := ⟨_, rfl⟩
              have HS := Lib.hid (hst.out d hd)
              have hd1 : d < 65536 := by omega
              rw [hdg, ← hd] at hix
              clear hst hdg hd
              have hc0 : wr.cell? ⟨gb, k + k, none⟩ = some (.int .u8 ((bs.getD (k + k) 0 : Nat) : Int)) := by
                rw [HB.out.cell, List.getElem?_toArray]; exact cellsU8_at (by rw [Hbl.out]; omega)
              have hc1 : wr.cell? ⟨gb, k + k + 1, none⟩ = some (.int .u8 ((bs.getD (k + k + 1) 0 : Nat) : Int)) := by
                rw [HB.out.cell, List.getElem?_toArray]; exact cellsU8_at (by rw [Hbl.out]; omega)
              have hf0 : wr.frozen? ⟨gb, k + k, none⟩ = false := HB.out.frozen _
              have hf1 : wr.frozen? ⟨gb, k + k + 1, none⟩ = false := HB.out.frozen _
              go_wp2_with fail
              go_roundw
              case rel =>
                have hB2 := (HB.out.set_ (k + k) (.int .u8 ((d % 256 : Nat) : Int))).set_ (k + k + 1) (.int .u8 ((d / 256 % 256 : Nat) : Int))
                rw [cellsU8_set, cellsU8_set] at hB2
                have hT2 := (HT.out.setCell (p := ⟨gb, k + k, none⟩) (.inr Hgb.out) (.int .u8 ((d % 256 : Nat) : Int))).setCell (p := ⟨gb, k + k + 1, none⟩) (.inr Hgb.out) (.int .u8 ((d / 256 % 256 : Nat) : Int))
                have e1 : (d : Int) % 256 = ((d % 256 : Nat) : Int) := by omega
                have e2 : (d : Int) / 256 = ((d / 256 % 256 : Nat) : Int) := by omega
                rw [e1, e2]
                first | exact ⟨k + 1, _, by omega, by go_num, by simp [Hbl.out], HS.out, hB2, hT2⟩ | ((repeat apply Exists.intro); exact ⟨⟨k + 1, _, by omega, by go_num, by simp [Hbl.out], HS.out, hB2, hT2⟩, rfl⟩)
              case measure => simp [intOf]; omega
            · obtain rfl : k = 16 := by omega
              have hconv := run_convert_bytes_arg (P := Tryd.prog) wr 62 5 Tryd.underlying62 Tryd.underlying5 gb 0 32 32 (bs.map fun (n : Nat) => (n : Int)) (by rw [List.length_map]; exact Hbl.out) (fun i hi => by
                rw [HB.out.cell, Nat.zero_add, List.getElem?_toArray, cellsU8_at (by rw [Hbl.out]; exact hi), getD_map_int']) 9 Tryd.underlying9
              rw [strOf_toS Hbl.out Hc.out] at hconv
              go_wp2_with fail
              go_ret
              exact ⟨ret_eq (by rw [Hn.out]; rfl), HT.out⟩
end Go.Proofs.YtbgpgbfiadhddaaDoor
