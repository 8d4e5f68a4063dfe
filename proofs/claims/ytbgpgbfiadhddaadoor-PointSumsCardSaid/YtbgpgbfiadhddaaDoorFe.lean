/- Numbers as 16 digits to the base 65536, the least first; digits may be below 0, or above the base. -/
import Derived.Test.YtbgpgbfiadhddaaDoorSep
namespace Go.Proofs.YtbgpgbfiadhddaaDoor
open Go.RowKit
def vI : List Int → Int
  | [] => 0
  | x :: l => x + 65536 * vI l
def cellsZ (l : List Int) : List Value := l.map fun (n : Int) => .int .i64 n
def elV (l : List Int) : Value := .agg (cellsZ l).toArray
/-- Each digit is one. -/
def Dig (l : List Int) : Prop := ∀ x ∈ l, 0 ≤ x ∧ x < 65536
theorem cellsZ_len (l : List Int) : (cellsZ l).length = l.length := by simp [cellsZ]
theorem cellsZ_size (l : List Int) : (cellsZ l).toArray.size = l.length := by simp [cellsZ]
theorem cellsZ_at {l : List Int} {j : Nat} (h : j < l.length) : (cellsZ l)[j]? = some (.int .i64 (l.getD j 0)) := by simp [cellsZ, List.getD, h]
theorem cellsZ_set (l : List Int) (j : Nat) (x : Int) : (cellsZ l).toArray.setIfInBounds j (.int .i64 x) = (cellsZ (l.set j x)).toArray := by simp [cellsZ]
theorem cellsZ_one (l : List Int) : (cellsZ l).toArray.all (·.oneCell') = true := by
  simp [cellsZ, Value.oneCell']
theorem vI_append (l m : List Int) : vI (l ++ m) = vI l + 65536 ^ l.length * vI m := by
  induction l with
  | nil => simp [vI]
  | cons x l ih => rw [List.cons_append, vI, vI, ih, List.length_cons, Int.pow_succ]; grind
theorem vI_take_succ {l : List Int} {k : Nat} (hk : k < l.length) : vI (l.take (k + 1)) = vI (l.take k) + 65536 ^ k * l.getD k 0 := by
  have h : l.take k ++ [l[k]] = l.take (k + 1) := List.take_append_getElem hk
  rw [← h, vI_append, List.length_take, Nat.min_eq_left (by omega)]
  simp [vI, List.getD, hk]
theorem vI_set {l : List Int} {k : Nat} (hk : k < l.length) (x : Int) : vI (l.set k x) + 65536 ^ k * l.getD k 0 = vI l + 65536 ^ k * x := by
  induction l generalizing k with
  | nil => simp at hk
  | cons y l ih =>
    cases k with
    | zero => simp [vI, List.getD]; omega
    | succ k =>
      have h := ih (k := k) (by simpa using hk)
      have e : (y :: l).getD (k + 1) 0 = l.getD k 0 := by simp [List.getD]
      rw [List.set_cons_succ, vI, vI, e, Int.pow_succ]
      grind
theorem vI_lt {l : List Int} (h : Dig l) : 0 ≤ vI l ∧ vI l < 65536 ^ l.length := by
  induction l with
  | nil => simp [vI]
  | cons x l ih =>
    have h1 := ih (fun y hy => h y (List.mem_cons_of_mem _ hy))
    have h2 := h x List.mem_cons_self
    rw [vI, List.length_cons, Int.pow_succ]
    omega
theorem getD_set_self {l : List Int} {k : Nat} (hk : k < l.length) (x : Int) : (l.set k x).getD k 0 = x := by simp [List.getD, hk]
theorem getD_set_ne {l : List Int} {k j : Nat} (h : j ≠ k) (x : Int) : (l.set k x).getD j 0 = l.getD j 0 := by
  simp [List.getD, List.getElem?_set_ne (Ne.symm h)]
theorem dig_of_getD {l : List Int} (h : ∀ j, j < l.length → 0 ≤ l.getD j 0 ∧ l.getD j 0 < 65536) : Dig l := by
  intro x hx
  obtain ⟨j, hj, rfl⟩ := List.getElem_of_mem hx
  have := h j hj
  simpa [List.getD, hj] using this
theorem Dig.at_ {l : List Int} (h : Dig l) (j : Nat) : 0 ≤ l.getD j 0 ∧ l.getD j 0 < 65536 := by
  by_cases hj : j < l.length
  · simp only [List.getD, List.getElem?_eq_getElem hj, Option.getD_some]; exact h _ (List.getElem_mem hj)
  · simp [List.getD, List.getElem?_eq_none (by omega : l.length ≤ j)]
/-- Each digit is small. -/
def Bnd (M : Int) (l : List Int) : Prop := ∀ x ∈ l, -M ≤ x ∧ x ≤ M
theorem Bnd.at_ {M : Int} {l : List Int} (h : Bnd M l) (hM : 0 ≤ M) (j : Nat) : -M ≤ l.getD j 0 ∧ l.getD j 0 ≤ M := by
  by_cases hj : j < l.length
  · simp only [List.getD, List.getElem?_eq_getElem hj, Option.getD_some]; exact h _ (List.getElem_mem hj)
  · simp [List.getD, List.getElem?_eq_none (by omega : l.length ≤ j)]; omega
/-- The digits below k are carried. -/
structure CarA (l r : List Int) (k : Nat) : Prop where
  len : r.length = 16
  drop : r.drop (k + 1) = l.drop (k + 1)
  dig : ∀ j, j < k → 0 ≤ r.getD j 0 ∧ r.getD j 0 < 65536
  val : vI r = vI l
  lo : -2305913377957871616 ≤ r.getD k 0
  hi : r.getD k 0 ≤ 2305913377957871616
theorem CarA.start {l : List Int} (hl : l.length = 16) (hb : Bnd 2305843009213693952 l) : CarA l l 0 :=
  ⟨hl, rfl, fun _ h => by omega, rfl, by have := hb.at_ (by decide) 0; omega, by have := hb.at_ (by decide) 0; omega⟩
/-- Once more. -/
theorem CarA.step {l r : List Int} {k : Nat} (h : CarA l r k) (hk : k < 15) (hb : Bnd 2305843009213693952 l) {x y : Int} (hx : x = r.getD k 0) (hy : y = r.getD (k + 1) 0) :
    CarA l ((r.set k (x % 65536)).set (k + 1) (y + x / 65536)) (k + 1) := by
  have h1 := h.len
  have hyl : y = l.getD (k + 1) 0 := by
    have e := congrArg (fun m => m.getD 0 0) h.drop
    simpa [List.getD, hy] using e
  have hyb := hb.at_ (by decide) (k + 1)
  rw [← hyl] at hyb
  have hlo := h.lo
  have hhi := h.hi
  rw [← hx] at hlo hhi
  refine ⟨by simp [h1], ?_, ?_, ?_, ?_, ?_⟩
  · rw [List.drop_set, if_pos (by omega), List.drop_set, if_pos (by omega)]
    have e := congrArg (List.drop 1) h.drop
    rwa [List.drop_drop, List.drop_drop] at e
  · intro j hj
    rw [getD_set_ne (by omega)]
    by_cases hjk : j = k
    · subst hjk
      rw [getD_set_self (by omega)]
      omega
    · rw [getD_set_ne hjk]; exact h.dig j (by omega)
  · have e1 := vI_set (l := r) (k := k) (by omega) (x % 65536)
    have e2 := vI_set (l := r.set k (x % 65536)) (k := k + 1) (by simp; omega) (y + x / 65536)
    rw [getD_set_ne (by omega), ← hy, Int.pow_succ] at e2
    rw [← hx] at e1
    have e3 := h.val
    have e4 : x = x % 65536 + 65536 * (x / 65536) := by omega
    generalize x / 65536 = q at *
    generalize x % 65536 = m at *
    subst e4
    grind
  · rw [getD_set_self (by simp; omega)]; omega
  · rw [getD_set_self (by simp; omega)]; omega
/-- All are carried; what went over the end comes back 38 times. -/
def CarB (l r : List Int) : Prop := ∃ (q : List Int) (c : Int), q.length = 16 ∧ Dig q ∧ vI q + c * 65536 ^ 16 = vI l ∧ r = q.set 0 (q.getD 0 0 + 38 * c) ∧ c = vI l / 65536 ^ 16
theorem CarA.last {l r : List Int} (h : CarA l r 15) {x y : Int} (hx : x = r.getD 15 0) (hy : y = r.getD 0 0) :
    CarB l ((r.set 15 (x % 65536)).set 0 (y + 38 * (x / 65536))) := by
  have h1 := h.len
  have hd : Dig (r.set 15 (x % 65536)) := dig_of_getD fun j hj => by
    by_cases hj15 : j = 15
    · subst hj15; rw [getD_set_self (by omega)]; omega
    · rw [getD_set_ne hj15]; exact h.dig j (by simp at hj; omega)
  have e1 := vI_set (l := r) (k := 15) (by omega) (x % 65536)
  rw [← hx, h.val] at e1
  have e2 : vI (r.set 15 (x % 65536)) + x / 65536 * 65536 ^ 16 = vI l := by
    have : (65536 : Int) ^ 16 = 65536 ^ 15 * 65536 := by rw [← Int.pow_succ]
    rw [this]
    have e4 : x = x % 65536 + 65536 * (x / 65536) := by omega
    generalize x / 65536 = q at *
    generalize x % 65536 = m at *
    subst e4
    generalize (65536 : Int) ^ 15 = P at *
    grind
  have h3 := vI_lt hd
  simp only [List.length_set, h1] at h3
  refine ⟨r.set 15 (x % 65536), x / 65536, by simp [h1], hd, e2, ?_, ?_⟩
  · rw [getD_set_ne (by omega), ← hy]
  · rw [← e2, Int.add_mul_ediv_right _ _ (by decide), Int.ediv_eq_zero_of_lt h3.1 h3.2, Int.zero_add]
end Go.Proofs.YtbgpgbfiadhddaaDoor
