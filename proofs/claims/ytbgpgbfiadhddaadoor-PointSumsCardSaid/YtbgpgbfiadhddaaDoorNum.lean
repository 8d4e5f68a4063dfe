/- Numbers as words, the least first. -/
import Derived.Test.YtbgpgbfiadhddaaDoorSep
namespace Go.Proofs.YtbgpgbfiadhddaaDoor
open Go.RowKit
def val : List Nat → Nat
  | [] => 0
  | x :: l => x + 18446744073709551616 * val l
def Words (l : List Nat) : Prop := ∀ x ∈ l, x < 18446744073709551616
def cellsN (l : List Nat) : List Value := l.map fun (n : Nat) => .int .u64 (n : Int)
theorem cellsN_len (l : List Nat) : (cellsN l).length = l.length := by simp [cellsN]
theorem cellsN_at {l : List Nat} {j : Nat} (h : j < l.length) : (cellsN l)[j]? = some (.int .u64 ((l.getD j 0 : Nat) : Int)) := by simp [cellsN, List.getD, h]
theorem cellsN_set (l : List Nat) (j x : Nat) : (cellsN l).set j (.int .u64 (x : Int)) = cellsN (l.set j x) := by simp [cellsN]
theorem Words.at_ {l : List Nat} (h : Words l) (j : Nat) : l.getD j 0 < 18446744073709551616 := by
  by_cases hj : j < l.length
  · simp only [List.getD, List.getElem?_eq_getElem hj, Option.getD_some]; exact h _ (List.getElem_mem hj)
  · simp [List.getD, List.getElem?_eq_none (by omega : l.length ≤ j)]
theorem Words.set {l : List Nat} (h : Words l) (j : Nat) {x : Nat} (hx : x < 18446744073709551616) : Words (l.set j x) := fun y hy => by
  rcases List.mem_or_eq_of_mem_set hy with h1 | rfl
  · exact h y h1
  · exact hx
theorem val_append (l m : List Nat) : val (l ++ m) = val l + 18446744073709551616 ^ l.length * val m := by
  induction l with
  | nil => simp [val]
  | cons x l ih => rw [List.cons_append, val, val, ih, List.length_cons, Nat.pow_succ]; grind
theorem val_take_succ {l : List Nat} {k : Nat} (hk : k < l.length) : val (l.take (k + 1)) = val (l.take k) + 18446744073709551616 ^ k * l.getD k 0 := by
  have h : l.take k ++ [l[k]] = l.take (k + 1) := List.take_append_getElem hk
  rw [← h, val_append, List.length_take, Nat.min_eq_left (by omega)]
  simp [val, List.getD, hk]
theorem val_set {l : List Nat} {k : Nat} (hk : k < l.length) (x : Nat) : val (l.set k x) + 18446744073709551616 ^ k * l.getD k 0 = val l + 18446744073709551616 ^ k * x := by
  induction l generalizing k with
  | nil => simp at hk
  | cons y l ih =>
    cases k with
    | zero => simp [val, List.getD]; omega
    | succ k =>
      have h := ih (k := k) (by simpa using hk)
      have e : (y :: l).getD (k + 1) 0 = l.getD k 0 := by simp [List.getD]
      rw [List.set_cons_succ, val, val, e, Nat.pow_succ]
      grind
theorem val_lt {l : List Nat} (h : Words l) : val l < 18446744073709551616 ^ l.length := by
  induction l with
  | nil => simp [val]
  | cons x l ih =>
    have h1 := ih (fun y hy => h y (List.mem_cons_of_mem _ hy))
    have h2 := h x List.mem_cons_self
    rw [val, List.length_cons, Nat.pow_succ]
    omega
/-- The words of a number. -/
def wds : Nat → Nat → List Nat
  | 0, _ => []
  | n + 1, N => N % 18446744073709551616 :: wds n (N / 18446744073709551616)
theorem wds_len (n N : Nat) : (wds n N).length = n := by
  induction n generalizing N with
  | zero => rfl
  | succ n ih => rw [wds, List.length_cons, ih]
theorem wds_words (n N : Nat) : Words (wds n N) := by
  induction n generalizing N with
  | zero => intro x hx; simp [wds] at hx
  | succ n ih =>
    intro x hx
    rcases List.mem_cons.1 hx with rfl | hx
    · omega
    · exact ih _ x hx
theorem val_wds (n N : Nat) : val (wds n N) = N % 18446744073709551616 ^ n := by
  induction n generalizing N with
  | zero => simp [wds, val]; omega
  | succ n ih =>
    rw [wds, val, ih, Nat.pow_succ, Nat.mul_comm (18446744073709551616 ^ n), Nat.mod_mul]
theorem wds_val {l : List Nat} (h : Words l) : wds l.length (val l) = l := by
  induction l with
  | nil => rfl
  | cons x l ih =>
    have h2 := h x List.mem_cons_self
    have h1 := ih (fun y hy => h y (List.mem_cons_of_mem _ hy))
    rw [List.length_cons, wds, val, show (x + 18446744073709551616 * val l) % 18446744073709551616 = x by omega, show (x + 18446744073709551616 * val l) / 18446744073709551616 = val l by omega, h1]
end Go.Proofs.YtbgpgbfiadhddaaDoor
