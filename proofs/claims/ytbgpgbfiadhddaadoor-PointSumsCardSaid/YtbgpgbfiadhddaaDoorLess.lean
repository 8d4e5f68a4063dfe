/- field.less: a number less p, and whether it is below. -/
import Derived.Test.YtbgpgbfiadhddaaDoorMulA
import Derived.Laws.Bits128
import Derived.Laws.CopyRow
import Derived.Deep.RegionHeld3
namespace Go.Proofs.YtbgpgbfiadhddaaDoor
open Go.RowKit
theorem i64_and1 (n : Int) : bits .and .i64 n 1 = n % 2 := by
  have h1 : (BitVec.ofInt 64 1).toNat = 2 ^ 1 - 1 := by decide
  have key : (BitVec.ofInt 64 n &&& BitVec.ofInt 64 1).toNat = (n % ((2 ^ 64 : Nat) : Int)).toNat % 2 ^ 1 := by
    rw [BitVec.toNat_and, BitVec.toNat_ofInt, h1, Nat.and_two_pow_sub_one_eq_mod]
  show IntKind.i64.wrap ((BitVec.ofInt 64 n &&& BitVec.ofInt 64 1).toNat : Nat) = n % 2
  rw [key, IntKind.wrap_i64]
  omega
theorem i64_and65535 (n : Int) : bits .and .i64 n 65535 = n % 65536 := by
  have h1 : (BitVec.ofInt 64 65535).toNat = 2 ^ 16 - 1 := by decide
  have key : (BitVec.ofInt 64 n &&& BitVec.ofInt 64 65535).toNat = (n % ((2 ^ 64 : Nat) : Int)).toNat % 2 ^ 16 := by
    rw [BitVec.toNat_and, BitVec.toNat_ofInt, h1, Nat.and_two_pow_sub_one_eq_mod]
  show IntKind.i64.wrap ((BitVec.ofInt 64 n &&& BitVec.ofInt 64 65535).toNat : Nat) = n % 65536
  rw [key, IntKind.wrap_i64]
  omega
def pL : List Int := [65517, 65535, 65535, 65535, 65535, 65535, 65535, 65535, 65535, 65535, 65535, 65535, 65535, 65535, 65535, 32767]
theorem pL_val : vI pL = 57896044618658097711785492504343953926634992332820282019728792003956564819949 := by decide
theorem pL_at (i : Nat) (h0 : 0 < i) (hi : i < 16) : pL.getD i 0 = if i < 15 then 65535 else 32767 := by
  have : i = 1 ∨ i = 2 ∨ i = 3 ∨ i = 4 ∨ i = 5 ∨ i = 6 ∨ i = 7 ∨ i = 8 ∨ i = 9 ∨ i = 10 ∨ i = 11 ∨ i = 12 ∨ i = 13 ∨ i = 14 ∨ i = 15 := by omega
  rcases this with rfl | rfl | rfl | rfl | rfl | rfl | rfl | rfl | rfl | rfl | rfl | rfl | rfl | rfl | rfl <;> rfl
structure LessA (t m : List Int) (i : Nat) : Prop where
  len : m.length = 16
  drop : m.drop (i + 1) = t.drop (i + 1)
  dig : ∀ j, j < i → 0 ≤ m.getD j 0 ∧ m.getD j 0 < 65536
  lo : -65536 ≤ m.getD i 0
  hi : m.getD i 0 ≤ 65535
  val : vI (m.take (i + 1)) = vI (t.take (i + 1)) - vI (pL.take (i + 1))
theorem LessA.start {t : List Int} (hl : t.length = 16) (hd : Dig t) {x : Int} (hx : x = t.getD 0 0) : LessA t (t.set 0 (x - 65517)) 0 := by
  have hb := hd.at_ 0
  rw [← hx] at hb
  refine ⟨by simp [hl], ?_, fun _ h => by omega, ?_, ?_, ?_⟩
  · rw [List.drop_set, if_pos (by omega)]
  · rw [getD_set_self (by omega)]; omega
  · rw [getD_set_self (by omega)]; omega
  · rw [vI_take_succ (by simp; omega), vI_take_succ (by omega), getD_set_self (by omega), ← hx]
    simp [vI, pL]
theorem LessA.next {t m : List Int} {i : Nat} (h : LessA t m i) (hd : Dig t) : 0 ≤ m.getD (i + 1) 0 ∧ m.getD (i + 1) 0 < 65536 := by
  have e := congrArg (fun m => m.getD 0 0) h.drop
  have e2 : m.getD (i + 1) 0 = t.getD (i + 1) 0 := by simpa [List.getD] using e
  rw [e2]; exact hd.at_ _
theorem LessA.step {t m : List Int} {i : Nat} (h : LessA t m i) (ht : t.length = 16) (hd : Dig t) (hi : i < 15) {x y q : Int} (hx : x = m.getD i 0) (hy : y = m.getD (i + 1) 0) (hq : q = if i + 1 < 15 then 65535 else 32767) :
    LessA t ((m.set (i + 1) (y - q - x / 65536 % 2)).set i (x % 65536)) (i + 1) := by
  have h1 := h.len
  have hlo := h.lo
  have hhi := h.hi
  have hyb := h.next hd
  have hyt : y = t.getD (i + 1) 0 := by
    have e := congrArg (fun m => m.getD 0 0) h.drop
    simpa [List.getD, hy] using e
  rw [← hy] at hyb
  rw [← hx] at hlo hhi
  have hq2 : q = 65535 ∨ q = 32767 := by rw [hq]; split <;> simp
  refine ⟨by simp [h1], ?_, ?_, ?_, ?_, ?_⟩
  · rw [List.drop_set, if_pos (by omega), List.drop_set, if_pos (by omega)]
    have e := congrArg (List.drop 1) h.drop
    rwa [List.drop_drop, List.drop_drop] at e
  · intro j hj
    by_cases hji : j = i
    · subst hji; rw [getD_set_self (by simp; omega)]; omega
    · rw [getD_set_ne hji, getD_set_ne (by omega)]; exact h.dig j (by omega)
  · rw [getD_set_ne (by omega), getD_set_self (by omega)]; omega
  · rw [getD_set_ne (by omega), getD_set_self (by omega)]; omega
  · have hv := h.val
    have hp := pL_at (i + 1) (by omega) (by omega)
    rw [← hq] at hp
    have hpl : pL.length = 16 := rfl
    rw [vI_take_succ (k := i + 1) (by simp; omega), vI_take_succ (k := i + 1) (by omega), vI_take_succ (k := i + 1) (by omega), getD_set_ne (by omega), getD_set_self (by omega), ← hyt, hp, vI_take_succ (by simp; omega), getD_set_self (by simp; omega), List.take_set_of_le (by omega), List.take_set_of_le (by omega)]
    rw [vI_take_succ (k := i) (by omega), ← hx] at hv
    rw [Int.pow_succ]
    generalize vI (t.take (i + 1)) = T at *
    generalize vI (pL.take (i + 1)) = Q at *
    generalize vI (m.take i) = M at *
    generalize (65536 : Int) ^ i = B at *
    have e : x = x % 65536 - 65536 * (x / 65536 % 2) := by omega
    generalize x / 65536 % 2 = b at *
    generalize x % 65536 = z at *
    subst e
    grind
theorem LessA.last {t m : List Int} (h : LessA t m 15) (ht : t.length = 16) {x : Int} (hx : x = m.getD 15 0) :
    decide (x / 65536 % 2 = 1) = decide (vI t < 57896044618658097711785492504343953926634992332820282019728792003956564819949) ∧ (¬ vI t < 57896044618658097711785492504343953926634992332820282019728792003956564819949 → Dig m ∧ vI m = vI t - 57896044618658097711785492504343953926634992332820282019728792003956564819949) := by
  have h1 := h.len
  have hlo := h.lo
  have hhi := h.hi
  rw [← hx] at hlo hhi
  have hv := h.val
  have hpl : pL.length = 16 := rfl
  rw [List.take_of_length_le (l := m) (by omega), List.take_of_length_le (l := t) (by omega), List.take_of_length_le (l := pL) (by omega), pL_val] at hv
  have hv2 : vI m = vI (m.take 15) + 65536 ^ 15 * x := by
    have := vI_take_succ (l := m) (k := 15) (by omega)
    rwa [List.take_of_length_le (by omega), ← hx] at this
  have hd15 : Dig (m.take 15) := dig_of_getD fun j hj => by
    have hj' : j < 15 := by rw [List.length_take] at hj; omega
    have : (m.take 15).getD j 0 = m.getD j 0 := by simp [List.getD, hj']
    rw [this]; exact h.dig j hj'
  have h3 := vI_lt hd15
  rw [List.length_take, show min 15 m.length = 15 by omega] at h3
  have e : (65536 : Int) ^ 15 = 1766847064778384329583297500742918515827483896875618958121606201292619776 := by decide
  rw [e] at h3 hv2
  constructor
  · apply decide_eq_decide.2
    omega
  · intro hn
    refine ⟨dig_of_getD fun j hj => ?_, by omega⟩
    by_cases hj15 : j = 15
    · subst hj15; rw [← hx]; omega
    · exact h.dig j (by omega)
theorem wpStill_load_row {P : Program} {ops : Array Oper} {rest : List Oper} {o : Oper} {a : Act} {w : World} {Q : Act → Prop} (hgd : o.guard = none) (ty : TypeId) (x : Operand) (ho : o.op = .load ty x)
    (g : Nat) (hx : a.eval x = .pointer (some ⟨g, 0, none⟩)) (t : TypeId) (cs : Array Value) (fr : Nat × Nat) (d : TypeDesc) (hg : w.heap[g]? = some (.cells cs t fr))
    (hu : P.underlying ty = some d) (hd : (match d with | .struct _ | .array _ _ => true | _ => false) = true) (hi : (P.info? ty).map (·.size) = some cs.size)
    (h : wpStill P ops w Q rest (a.put o.dst (.agg cs))) : wpStill P ops w Q (o :: rest) a := by
  refine wpStill_step (fun K hK => ?_)
  have hw : Region.wanted o (yielded ops a.tmps) = true := by simp [Region.wanted, hgd]
  rw [if_pos hw]
  unfold Oper.still execOp
  simp only [ho, hx, Instr.loadAt, Instr.sureAddr, Sem.run_bind, Sem.run_pure, Result.andThen_ok, run_loadVar_row w g t ty cs fr d hg hu hd hi]
  exact ⟨rfl, hK _ h⟩
theorem setCells_row {w : World} {g : Nat} {t : TypeId} {old : Array Value} {vs : List Value} (h : Blk w g t old) (hs : vs.length = old.size) : w.setCells g 0 vs = w.setRow g vs.toArray := by
  have key : ∀ (vs : List Value) (o : Nat) (w : World) (cs : Array Value), w.heap[g]? = some (.cells cs t (0, 0)) → o + vs.length = cs.size → w.setCells g o vs = w.setRow g (cs.toList.take o ++ vs).toArray := by
    intro vs
    induction vs with
    | nil =>
      intro o w cs hg ho
      rw [World.setCells, List.append_nil, List.take_of_length_le (by simp at ho ⊢; omega), Array.toArray_toList]
      exact (setRow_self w g cs t (0, 0) hg).symm
    | cons v r ih =>
      intro o w cs hg ho
      simp only [List.length_cons] at ho
      rw [World.setCells, setCell_eq_setRow w g o cs t (0, 0) v hg, ih (o + 1) _ _ (setRow_heap w g cs _ t _ hg) (by simp; omega), setRow_setRow]
      congr 2
      simp only [Array.toList_setIfInBounds]
      rw [List.take_succ_eq_append_getElem (by simp; omega), List.getElem_set_self, List.take_set_of_le (by omega), List.append_assoc]
      rfl
  have := key vs 0 w old h (by omega)
  simpa using this
theorem results_row_tmp {P : Program} {fn : Func} {p u : Tmp} {ty : TypeId} (h : fn.results = #[.cell p ty, .tmp u]) (tmps : Array Value) (w : World) (g : Nat) (t : TypeId) (cs : Array Value) (fr : Nat × Nat) (d : TypeDesc)
    (hp : tmps.getD p undef = .pointer (some ⟨g, 0, none⟩)) (hg : w.heap[g]? = some (.cells cs t fr))
    (hu : P.underlying ty = some d) (hd : (match d with | .struct _ | .array _ _ => true | _ => false) = true) (hi : (P.info? ty).map (·.size) = some cs.size) :
    (results fn tmps).run P w = .ok (.tuple #[.agg cs, tmps.getD u undef]) w := by
  have hp' : tmps[p]?.getD undef = .pointer (some ⟨g, 0, none⟩) := by simpa using hp
  simp [results, h, hp', asAddr, run_loadVar_row w g t ty cs fr d hg hu hd hi]
def LessPost' (t : List Int) (w : World) (e : Ending) (w' : World) : Prop :=
  ∃ m b, m.length = 16 ∧ b = decide (vI t < 57896044618658097711785492504343953926634992332820282019728792003956564819949) ∧ (b = false → Dig m ∧ vI m = vI t - 57896044618658097711785492504343953926634992332820282019728792003956564819949) ∧
    e = .returned (.tuple #[.agg (cellsZ m).toArray, .bool b]) ∧ Touch [] w w'
/-- The blocks under way. -/
structure LessW (w : World) (ga : Nat) (t m : List Int) (wr : World) : Prop where
  ba : Blk wr ga 23 (cellsZ t).toArray
  bb : Blk wr (ga + 1) 23 (cellsZ (List.replicate 16 0)).toArray
  bm : Blk wr (ga + 2) 23 (cellsZ m).toArray
  touch : Touch [] w wr
theorem LessW.setM {w wr : World} {ga : Nat} {t m : List Int} (h : LessW w ga t m wr) (hg : w.heap.size ≤ ga) (k : Nat) (x : Int) : LessW w ga t (m.set k x) (wr.setCell ⟨ga + 2, k, none⟩ (.int .i64 x)) :=
  ⟨h.ba.far (p := ⟨ga + 2, k, none⟩) (by simp) _, h.bb.far (p := ⟨ga + 2, k, none⟩) (by simp) _, by rw [← cellsZ_set]; exact h.bm.set_ k _, h.touch.setCell (.inr (by simp; omega)) _⟩
theorem LessW.drew {w wr : World} {ga : Nat} {t m : List Int} (h : LessW w ga t m wr) : LessW w ga t m wr.drew := ⟨h.ba, h.bb, h.bm, h.touch.drew⟩
theorem LessW.start (w : World) (t : List Int) : LessW w w.heap.size t t (((w.alloc (.cells (cellsZ t).toArray 23)).alloc (.cells (cellsZ (List.replicate 16 0)).toArray 23)).alloc (.cells (cellsZ t).toArray 23)) := by
  refine ⟨((Blk.new _ _ _).alloc _).alloc _, ?_, ?_, (((Touch.refl _ _).alloc _).alloc _).alloc _⟩
  · have := (Blk.new (w.alloc (.cells (cellsZ t).toArray 23)) 23 (cellsZ (List.replicate 16 0)).toArray).alloc (.cells (cellsZ t).toArray 23)
    simpa using this
  · have := Blk.new ((w.alloc (.cells (cellsZ t).toArray 23)).alloc (.cells (cellsZ (List.replicate 16 0)).toArray 23)) 23 (cellsZ t).toArray
    simpa using this
theorem wpList_storeA {w : World} {ops : Array Oper} {rest : List Oper} {o : Oper} {a : Act} {Q : Exit → Act → World → Prop} (hgd : o.guard = none) (x y : Operand) (ho : o.op = .store 23 x y) (g : Nat) (hx : a.eval x = .pointer (some ⟨g, 0, none⟩)) (l : List Int) (hy : a.eval y = .agg (cellsZ l).toArray) (t : TypeId) (old : Array Value) (hl : l.length = 16) (hs : old.size = 16) (hB : Blk w g t old)
    (h : wpList Tryd.prog ops Q rest (a.put o.dst undef) (w.setRow g (cellsZ l).toArray)) : wpList Tryd.prog ops Q (o :: rest) a w :=
  wpList_store_row hgd _ x y ho g (cellsZ l).toArray hx hy t old hB (by rw [cellsZ_size, hl]; exact infoA) (by rw [cellsZ_size, hl, hs]) (cellsZ_one l) h
set_option maxRecDepth 100000 in
set_option maxHeartbeats 2000000 in
theorem less_any' (t : List Int) (ht : t.length = 16) (hd : Dig t) (w : World) :
    Calls Tryd.prog 66 #[.agg (cellsZ t).toArray] w (LessPost' t w) := by
  have Ht := Lib.hid ht
  have Hd := Lib.hid hd
  clear ht hd
  go_enter Tryd.func66, Tryd.ntmps66
  go_upto_region 1 with fail
  rw [← zeroE_eq]
  obtain ⟨w2, hw2⟩ : ∃ w2, w2 = (w.alloc (.cells (cellsZ t).toArray 23)).alloc (.cells (cellsZ (List.replicate 16 0)).toArray 23) := ⟨_, rfl⟩
  have hs2 : w2.heap.size = w.heap.size + 2 := by rw [hw2]; simp
  have hA2 : Blk w2 w.heap.size 23 (cellsZ t).toArray := by rw [hw2]; exact (Blk.new _ _ _).alloc _
  have hW := LessW.start w t
  rw [← hw2] at hW ⊢
  have HW := Lib.hid hW
  have Hs2 := Lib.hid hs2
  clear hW hw2 hs2
  go_upto_region 2 with (first | (refine wpList_loadA rfl (.tmp 1) rfl _ rfl 23 t Ht.out hA2 ?_) | (refine wpList_storeA rfl (.tmp 4) (.tmp 6) rfl _ rfl t rfl 23 _ Ht.out rfl (Blk.new _ _ _) ?_))
  rw [World.setRow_alloc_new, Hs2.out]
  obtain ⟨w3, hw3⟩ : ∃ w3, w3 = w2.alloc (.cells (cellsZ t).toArray 23) := ⟨_, rfl⟩
  rw [← hw3] at HW ⊢
  obtain ⟨ga, hga⟩ : ∃ ga, ga = w.heap.size := ⟨_, rfl⟩
  have Hga := Lib.hid (show w.heap.size ≤ ga by omega)
  rw [← hga] at HW ⊢
  clear hw3 hga hA2 Hs2
  have hc0 : w3.cell? ⟨ga + 2, 0, none⟩ = some (.int .i64 (t.getD 0 0)) := by
    rw [HW.out.bm.cell, List.getElem?_toArray]; exact cellsZ_at (by rw [Ht.out]; omega)
  have hf0 : w3.frozen? ⟨ga + 2, 0, none⟩ = false := HW.out.bm.frozen _
  obtain ⟨hx1, hx2⟩ := Hd.out.at_ 0
  have hst := fun x => LessA.start Ht.out Hd.out (x := x)
  obtain ⟨x, hx⟩ : ∃ x, x = t.getD 0 0 := ⟨_, rfl⟩
  have HS := Lib.hid (hst x hx)
  rw [← hx] at hc0 hx1 hx2
  clear hst hx
  go_wp2_with fail
  go_loopw [5] (fun vi wr => ∃ (i : Nat) (m : List Int), i ≤ 15 ∧ vi = .int .i64 ((i + 1 : Nat) : Int) ∧ LessA t m i ∧ LessW w ga t m wr) (fun vi _ => 16 - (intOf vi).toNat)
  case atStart => exact ⟨0, _, by omega, rfl, HS.out, HW.out.setM Hga.out 0 (x - 65517)⟩
  case round =>
    clear HW HS hc0 hf0 hx1 hx2
    obtain ⟨i, m, hi, rfl, hA, hW⟩ := hrel
    have HA := Lib.hid hA
    have HW := Lib.hid hW
    clear hA hW
    by_cases hi15 : i < 15
    · have hcx : wr.cell? ⟨ga + 2, i, none⟩ = some (.int .i64 (m.getD i 0)) := by
        rw [HW.out.bm.cell, List.getElem?_toArray]; exact cellsZ_at (by rw [HA.out.len]; omega)
      have hcy : wr.cell? ⟨ga + 2, i + 1, none⟩ = some (.int .i64 (m.getD (i + 1) 0)) := by
        rw [HW.out.bm.cell, List.getElem?_toArray]; exact cellsZ_at (by rw [HA.out.len]; omega)
      have hf0 : wr.frozen? ⟨ga + 2, i, none⟩ = false := HW.out.bm.frozen _
      have hf1 : wr.frozen? ⟨ga + 2, i + 1, none⟩ = false := HW.out.bm.frozen _
      have hlo := HA.out.lo
      have hhi := HA.out.hi
      obtain ⟨hy1, hy2⟩ := HA.out.next Hd.out
      have hst := fun x y q => HA.out.step Ht.out Hd.out hi15 (x := x) (y := y) (q := q)
      obtain ⟨x, hx⟩ : ∃ x, x = m.getD i 0 := ⟨_, rfl⟩
      obtain ⟨y, hy⟩ : ∃ y, y = m.getD (i + 1) 0 := ⟨_, rfl⟩
      have hst2 := Lib.hid (fun q => hst x y q hx hy)
      rw [← hx] at hcx hlo hhi
      rw [← hy] at hcy hy1 hy2
      clear hst hx hy
      have hand1 := i64_and1 (x / 65536)
      have hand2 := i64_and65535 x
      by_cases hi14 : i + 1 < 15
      · have HS := Lib.hid (hst2.out 65535 (by rw [if_pos hi14]))
        clear hst2
        go_wp2_with fail
        go_region
        go_wp2_with fail
        go_roundw
        case rel =>
          have hW2 := (((HW.out.setM Hga.out (i + 1) (y - 65535)).setM Hga.out (i + 1) (y - 65535 - x / 65536 % 2)).drew.setM Hga.out i (x % 65536))
          rw [List.set_set] at hW2
          first | exact ⟨i + 1, _, by omega, by go_num, HS.out, hW2⟩ | ((repeat apply Exists.intro); exact ⟨⟨i + 1, _, by omega, by go_num, HS.out, hW2⟩, rfl⟩)
        case measure => simp [intOf]; omega
      · have HS := Lib.hid (hst2.out 32767 (by rw [if_neg hi14]))
        clear hst2
        go_wp2_with fail
        go_region
        go_wp2_with fail
        go_roundw
        case rel =>
          have hW2 := (((HW.out.setM Hga.out (i + 1) (y - 32767)).setM Hga.out (i + 1) (y - 32767 - x / 65536 % 2)).drew.setM Hga.out i (x % 65536))
          rw [List.set_set] at hW2
          first | exact ⟨i + 1, _, by omega, by go_num, HS.out, hW2⟩ | ((repeat apply Exists.intro); exact ⟨⟨i + 1, _, by omega, by go_num, HS.out, hW2⟩, rfl⟩)
        case measure => simp [intOf]; omega
    · obtain rfl : i = 15 := by omega
      have hcx : wr.cell? ⟨ga + 2, 15, none⟩ = some (.int .i64 (m.getD 15 0)) := by
        rw [HW.out.bm.cell, List.getElem?_toArray]; exact cellsZ_at (by rw [HA.out.len]; omega)
      have hlo := HA.out.lo
      have hhi := HA.out.hi
      have hst := fun x => HA.out.last Ht.out (x := x)
      obtain ⟨x, hx⟩ : ∃ x, x = m.getD 15 0 := ⟨_, rfl⟩
      have HF := Lib.hid (hst x hx)
      rw [← hx] at hcx hlo hhi
      clear hst hx
      have hand1 := i64_and1 (x / 65536)
      have HT := Lib.hid (HW.out.touch.drew)
      have hu := Tryd.underlying23
      have hlen : (cellsZ m).length = 16 := by rw [cellsZ_len]; exact HA.out.len
      have hi : (Tryd.prog.info? 23).map (·.size) = some (cellsZ m).length := by rw [hlen]; exact infoA
      have hone : ∀ v ∈ cellsZ m, v.oneCell' = true := fun v hv => (Array.all_eq_true_iff_forall_mem.1 (cellsZ_one m)) v (by simpa using hv)
      have hS : wr.drew.rangeAt (ga + 2) 0 (cellsZ m) ∧ wr.drew.cell? ⟨ga + 2, 15, none⟩ = some (.int .i64 x) ∧ wr.drew.there (ga + 1) 0 16 :=
        ⟨fun j v hv => by rw [Nat.zero_add, HW.out.bm.drew.cell, List.getElem?_toArray]; exact hv, hcx, fun j hj => ⟨by rw [Nat.zero_add, HW.out.bb.drew.cell, List.getElem?_toArray, cellsZ_at (by simpa using hj)]; rfl, HW.out.bb.drew.frozen _⟩⟩
      have hap : ga + 2 ≠ ga + 1 := by omega
      go_upto_region 11 with fail
      go_region_held3 (fun W => W.rangeAt (ga + 2) 0 (cellsZ m) ∧ W.cell? ⟨ga + 2, 15, none⟩ = some (.int .i64 x) ∧ W.there (ga + 1) 0 16) (first | assumption | (go_split_ands; refine ⟨World.rangeAt_setCells_apart (by assumption) _ _ _ (.inl hap), ?_, World.there_setCells (by assumption) _ _ _⟩; rw [World.cell?_setCells_out _ _ _ _ _ (fun h _ => absurd h hap)]; assumption)) (fail)
      clear hS
      rename_i hHeld
      clear hHeld hcx hand1 hu hlen hi hone hap
      have hset := setCells_row HW.out.bb.drew (vs := cellsZ m) (by rw [cellsZ_len, cellsZ_size, HA.out.len]; rfl)
      rw [hset]
      have HB := Lib.hid (HW.out.bb.drew.setRow (cellsZ m).toArray)
      have HT2 := Lib.hid (HT.out.setRowE (g := ga + 1) (.inr (by have := Hga.out; omega)) (cellsZ m).toArray)
      have HL := HA.out.len
      clear hset
      go_wp2_with fail
      refine bodyPost_ret (results_row_tmp Tryd.results66 _ _ (ga + 1) 23 (cellsZ m).toArray (0, 0) _ rfl HB.out Tryd.underlying23 rfl (by rw [cellsZ_size, HL]; exact infoA)) rfl ⟨m, decide (vI t < 57896044618658097711785492504343953926634992332820282019728792003956564819949), HL, rfl, fun hb => HF.out.2 (by simpa using hb), ?_, HT2.out⟩
      rw [← HF.out.1]
      rfl
end Go.Proofs.YtbgpgbfiadhddaaDoor
