/- Products, digit by digit. -/
import Derived.Test.YtbgpgbfiadhddaaDoorAddSub
namespace Go.Proofs.YtbgpgbfiadhddaaDoor
open Go.RowKit
structure MulA (l m t : List Int) (i : Nat) : Prop where
  len : t.length = 32
  val : vI t = vI (l.take i) * vI m
  bnd : Bnd (70830499600 * i) t
structure MulB (l m t : List Int) (i : Nat) (x : Int) (j : Nat) : Prop where
  len : t.length = 32
  val : vI t = vI (l.take i) * vI m + 65536 ^ i * x * vI (m.take j)
  bnd : Bnd (70830499600 * i + 4426906225 * j) t
theorem MulA.start {l m : List Int} : MulA l m (List.replicate 32 0) 0 := ⟨by simp, by simp [vI], fun x hx => by have := (List.mem_replicate.1 hx).2; omega⟩
theorem MulA.inner {l m t : List Int} {i : Nat} (h : MulA l m t i) (x : Int) : MulB l m t i x 0 := ⟨h.len, by rw [h.val]; simp [vI], by simpa using h.bnd⟩
theorem mul_abs {x y M : Int} (hx : -M ≤ x ∧ x ≤ M) (hy : -M ≤ y ∧ y ≤ M) : -(M * M) ≤ x * y ∧ x * y ≤ M * M := by
  obtain ⟨h1, h2⟩ := hx
  obtain ⟨h3, h4⟩ := hy
  have a1 : 0 ≤ (M - x) * (M - y) := Int.mul_nonneg (by omega) (by omega)
  have a2 : 0 ≤ (M + x) * (M + y) := Int.mul_nonneg (by omega) (by omega)
  have a3 : 0 ≤ (M - x) * (M + y) := Int.mul_nonneg (by omega) (by omega)
  have a4 : 0 ≤ (M + x) * (M - y) := Int.mul_nonneg (by omega) (by omega)
  rw [Int.sub_mul, Int.mul_sub, Int.mul_sub] at a1
  rw [Int.add_mul, Int.mul_add, Int.mul_add] at a2
  rw [Int.sub_mul, Int.mul_add, Int.mul_add] at a3
  rw [Int.add_mul, Int.mul_sub, Int.mul_sub] at a4
  rw [Int.mul_comm M y] at a1 a2 a3 a4
  omega
theorem mul_dig {x y : Int} (hx : -66535 ≤ x ∧ x ≤ 66535) (hy : -66535 ≤ y ∧ y ≤ 66535) : -4426906225 ≤ x * y ∧ x * y ≤ 4426906225 := by
  have := mul_abs hx hy
  omega
theorem MulB.step {l m t : List Int} {i j : Nat} {x y u : Int} (h : MulB l m t i x j) (hi : i < 16) (hj : j < 16) (hm : Red m) (hx : -66535 ≤ x ∧ x ≤ 66535) (hy : y = m.getD j 0) (hu : u = t.getD (i + j) 0) :
    MulB l m (t.set (i + j) (u + x * y)) i x (j + 1) := by
  have h1 := h.len
  have hyb := hm.bnd.at_ (by decide) j
  rw [← hy] at hyb
  have hxy := mul_dig hx hyb
  have hub := h.bnd.at_ (by omega) (i + j)
  rw [← hu] at hub
  refine ⟨by simp [h1], ?_, ?_⟩
  · have e1 := vI_set (l := t) (k := i + j) (by omega) (u + x * y)
    rw [vI_take_succ (by rw [hm.len]; omega), ← hy]
    rw [← hu, h.val, Int.pow_add] at e1
    generalize (65536 : Int) ^ i = P at *
    generalize (65536 : Int) ^ j = Q at *
    generalize vI (m.take j) = V at *
    generalize vI (l.take i) * vI m = L at *
    generalize vI (t.set (i + j) (u + x * y)) = R at *
    grind
  · have hb : Bnd (70830499600 * i + 4426906225 * (j + 1 : Nat)) t := h.bnd.mono (by omega)
    exact hb.set _ (by omega)
theorem MulB.big {l m t : List Int} {i j : Nat} {x : Int} (h : MulB l m t i x j) (hi : i < 16) (hj : j ≤ 16) (k : Nat) : -2000000000000 ≤ t.getD k 0 ∧ t.getD k 0 ≤ 2000000000000 := by
  have := h.bnd.at_ (by omega) k
  omega
theorem MulB.outer {l m t : List Int} {i : Nat} {x : Int} (h : MulB l m t i x 16) (hi : i < 16) (hl : Red l) (hm : Red m) (hx : x = l.getD i 0) : MulA l m t (i + 1) := by
  refine ⟨h.len, ?_, h.bnd.mono (by omega)⟩
  rw [h.val, List.take_of_length_le (l := m) (by rw [hm.len]; omega), vI_take_succ (by rw [hl.len]; omega), ← hx, Int.add_mul]
/-- What is folded. -/
structure FoldA (t l r : List Int) (k : Nat) : Prop where
  len : r.length = 16
  val : vI (r.take k) = vI (t.take k) + 38 * vI ((t.drop 16).take k)
  bnd : Bnd 65534999934465 r
theorem FoldA.start {t l : List Int} (hl : Red l) : FoldA t l l 0 := ⟨hl.len, by simp [vI], hl.bnd.mono (by omega)⟩
theorem FoldA.step {l m t r : List Int} {k : Nat} (h : FoldA t l r k) (ht : MulA l m t 16) (hk : k < 16) {x y : Int} (hx : x = t.getD k 0) (hy : y = t.getD (k + 16) 0) : FoldA t l (r.set k (x + 38 * y)) (k + 1) := by
  have h1 := h.len
  have h2 := ht.len
  have hxb := ht.bnd.at_ (by omega) k
  have hyb := ht.bnd.at_ (by omega) (k + 16)
  rw [← hx] at hxb
  rw [← hy] at hyb
  refine ⟨by simp [h1], ?_, h.bnd.set k (by omega)⟩
  have e : (t.drop 16).getD k 0 = y := by rw [hy]; simp [List.getD, Nat.add_comm]
  rw [vI_take_succ (by simp; omega), vI_take_succ (by omega), vI_take_succ (by simp; omega), getD_set_self (by omega), ← hx, e, List.take_set_of_le (by omega), h.val]
  generalize (65536 : Int) ^ k = P at *
  grind
theorem FoldA.xy {l m t : List Int} (ht : MulA l m t 16) (k : Nat) : -2000000000000 ≤ t.getD k 0 ∧ t.getD k 0 ≤ 2000000000000 := by
  have := ht.bnd.at_ (by omega) k
  omega
theorem FoldA.red {l m t r q s : List Int} (h : FoldA t l r 16) (ht : MulA l m t 16) (hl : Red l) (h1 : CarB r q) (h2 : CarB q s) : Red s ∧ fe s = mulF (fe l) (fe m) := by
  refine ⟨h1.bound2 h2 h.len (C := 999999999) h.bnd (by omega) (by omega), ?_⟩
  have e := h.val
  rw [List.take_of_length_le (by rw [h.len]; omega), List.take_of_length_le (l := t.drop 16) (by rw [List.length_drop, ht.len]; omega)] at e
  have e2 : vI t = vI (t.take 16) + 65536 ^ 16 * vI (t.drop 16) := by
    conv => lhs; rw [← List.take_append_drop 16 t, vI_append, List.length_take, ht.len]
    rfl
  have e3 := ht.val
  rw [List.take_of_length_le (by rw [hl.len]; omega)] at e3
  rw [h2.fe, h1.fe, fe, e, fz_fold, Int.mul_comm (vI (t.drop 16)), ← e2, e3, fz_mul]
  rfl
set_option maxRecDepth 100000 in
theorem index16 (l : List Int) (hl : l.length = 16) (j : Nat) (hj : j < 16) (W : World) :
    (Instr.index 23 (.agg (cellsZ l).toArray) (.int .i64 (j : Int))).run Tryd.prog W = .ok (.int .i64 (l.getD j 0)) W := by
  match l, hl with
  | [a0, a1, a2, a3, a4, a5, a6, a7, a8, a9, a10, a11, a12, a13, a14, a15], _ =>
    have : j = 0 ∨ j = 1 ∨ j = 2 ∨ j = 3 ∨ j = 4 ∨ j = 5 ∨ j = 6 ∨ j = 7 ∨ j = 8 ∨ j = 9 ∨ j = 10 ∨ j = 11 ∨ j = 12 ∨ j = 13 ∨ j = 14 ∨ j = 15 := by omega
    rcases this with rfl | rfl | rfl | rfl | rfl | rfl | rfl | rfl | rfl | rfl | rfl | rfl | rfl | rfl | rfl | rfl <;> rfl
theorem infoA : (Tryd.prog.info? 23).map (·.size) = some 16 := by kernel_rfl
theorem wpList_loadA {w : World} {ops : Array Oper} {rest : List Oper} {o : Oper} {a : Act} {Q : Exit → Act → World → Prop} (hgd : o.guard = none) (x : Operand) (ho : o.op = .load 23 x) (g : Nat) (hx : a.eval x = .pointer (some ⟨g, 0, none⟩)) (t : TypeId) (l : List Int) (hl : l.length = 16) (hB : Blk w g t (cellsZ l).toArray)
    (h : wpList Tryd.prog ops Q rest (a.put o.dst (.agg (cellsZ l).toArray)) w) : wpList Tryd.prog ops Q (o :: rest) a w :=
  wpList_load_row hgd _ x ho g hx t (cellsZ l).toArray (0, 0) _ hB Tryd.underlying23 rfl (by rw [cellsZ_size, hl]; exact infoA) h
theorem zero32_eq : (cellsZ (List.replicate 32 0)).toArray = #[.int .i64 0, .int .i64 0, .int .i64 0, .int .i64 0, .int .i64 0, .int .i64 0, .int .i64 0, .int .i64 0, .int .i64 0, .int .i64 0, .int .i64 0, .int .i64 0, .int .i64 0, .int .i64 0, .int .i64 0, .int .i64 0, .int .i64 0, .int .i64 0, .int .i64 0, .int .i64 0, .int .i64 0, .int .i64 0, .int .i64 0, .int .i64 0, .int .i64 0, .int .i64 0, .int .i64 0, .int .i64 0, .int .i64 0, .int .i64 0, .int .i64 0, .int .i64 0] := rfl
end Go.Proofs.YtbgpgbfiadhddaaDoor
