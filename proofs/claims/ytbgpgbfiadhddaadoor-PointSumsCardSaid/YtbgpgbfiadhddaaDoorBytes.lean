/- Bytes of texts, numbers of bytes. -/
import Derived.Test.YtbgpgbfiadhddaaDoorNum
import Derived.Laws.BytesArg
import Derived.Laws.IdiomStrings
import Derived.Laws.Bits64b
namespace Go.Proofs.YtbgpgbfiadhddaaDoor
open Go.RowKit
def leN : List Nat → Nat
  | [] => 0
  | b :: l => b + 256 * leN l
def bl (s : ByteArray) : List Nat := s.data.toList.map (·.toNat)
def toS (N : Nat) : ByteArray := strOfNums ((List.range 32).map fun i => ((N / 2 ^ (8 * i) % 256 : Nat) : Int))
theorem bl_len (s : ByteArray) : (bl s).length = s.size := by simp [bl]
theorem bl_lt (s : ByteArray) : ∀ b ∈ bl s, b < 256 := by
  intro b hb
  obtain ⟨x, _, rfl⟩ := List.mem_map.1 hb
  exact x.toNat_lt
theorem bl_inj {s t : ByteArray} (h : bl s = bl t) : s = t := by
  apply ByteArray.ext
  apply Array.ext'
  exact (List.map_inj_right (fun x y h => UInt8.toNat_inj.1 h)).1 h
theorem leN_append (l m : List Nat) : leN (l ++ m) = leN l + 256 ^ l.length * leN m := by
  induction l with
  | nil => simp [leN]
  | cons x l ih => rw [List.cons_append, leN, leN, ih, List.length_cons, Nat.pow_succ]; grind
theorem leN_lt {l : List Nat} (h : ∀ b ∈ l, b < 256) : leN l < 256 ^ l.length := by
  induction l with
  | nil => simp [leN]
  | cons x l ih =>
    have h1 := ih (fun y hy => h y (List.mem_cons_of_mem _ hy))
    have h2 := h x List.mem_cons_self
    rw [leN, List.length_cons, Nat.pow_succ]
    omega
theorem leN_take_succ {l : List Nat} {k : Nat} (hk : k < l.length) : leN (l.take (k + 1)) = leN (l.take k) + 256 ^ k * l.getD k 0 := by
  have h : l.take k ++ [l[k]] = l.take (k + 1) := List.take_append_getElem hk
  rw [← h, leN_append, List.length_take, Nat.min_eq_left (by omega)]
  simp [leN, List.getD, hk]
/-- n bytes of a number. -/
def byN : Nat → Nat → List Nat
  | 0, _ => []
  | n + 1, N => N % 256 :: byN n (N / 256)
theorem byN_len (n N : Nat) : (byN n N).length = n := by
  induction n generalizing N with
  | zero => rfl
  | succ n ih => rw [byN, List.length_cons, ih]
theorem leN_byN (n N : Nat) : leN (byN n N) = N % 256 ^ n := by
  induction n generalizing N with
  | zero => simp [byN, leN]; omega
  | succ n ih => rw [byN, leN, ih, Nat.pow_succ, Nat.mul_comm (256 ^ n), Nat.mod_mul]
theorem byN_leN {l : List Nat} (h : ∀ b ∈ l, b < 256) : byN l.length (leN l) = l := by
  induction l with
  | nil => rfl
  | cons x l ih =>
    have h2 := h x List.mem_cons_self
    have h1 := ih (fun y hy => h y (List.mem_cons_of_mem _ hy))
    rw [List.length_cons, byN, leN, show (x + 256 * leN l) % 256 = x by omega, show (x + 256 * leN l) / 256 = leN l by omega, h1]
theorem byN_at (n N i : Nat) (hi : i < n) : (byN n N)[i]? = some (N / 2 ^ (8 * i) % 256) := by
  induction n generalizing N i with
  | zero => omega
  | succ n ih =>
    cases i with
    | zero => simp [byN]
    | succ i =>
      rw [byN, List.getElem?_cons_succ, ih (N / 256) i (by omega), Nat.div_div_eq_div_mul]
      rw [show (256 : Nat) = 2 ^ 8 by decide, ← Nat.pow_add, show 8 + 8 * i = 8 * (i + 1) by omega]
theorem bl_strOfNums (l : List Nat) (h : ∀ b ∈ l, b < 256) : bl (strOfNums (l.map fun (n : Nat) => (n : Int))) = l := by
  unfold bl strOfNums
  simp only [List.map_map]
  conv => rhs; rw [← List.map_id l]
  apply List.map_congr_left
  intro b hb
  have := h b hb
  simp [UInt8.toNat_ofNat']
  omega
theorem bl_toS (N : Nat) : bl (toS N) = byN 32 N := by
  unfold toS
  have e : ((List.range 32).map fun i => ((N / 2 ^ (8 * i) % 256 : Nat) : Int)) = (byN 32 N).map fun (n : Nat) => (n : Int) := by
    apply List.ext_getElem?
    intro i
    by_cases hi : i < 32
    · rw [List.getElem?_map, List.getElem?_map, byN_at 32 N i hi, List.getElem?_range hi]; rfl
    · rw [List.getElem?_eq_none (by simp; omega), List.getElem?_eq_none (by rw [List.length_map, byN_len]; omega)]
  rw [e, bl_strOfNums]
  intro b hb
  obtain ⟨i, hi, rfl⟩ := List.getElem_of_mem hb
  have hi' : i < 32 := by rw [byN_len] at hi; exact hi
  have := byN_at 32 N i hi'
  rw [List.getElem?_eq_getElem hi] at this
  injection this with this
  omega
theorem toS_size (N : Nat) : (toS N).size = 32 := by rw [← bl_len, bl_toS, byN_len]
theorem leN_toS (N : Nat) : leN (bl (toS N)) = N % 115792089237316195423570985008687907853269984665640564039457584007913129639936 := by
  rw [bl_toS, leN_byN, show (256 : Nat) ^ 32 = 115792089237316195423570985008687907853269984665640564039457584007913129639936 by decide]
theorem toS_leN {s : ByteArray} (h : s.size = 32) : toS (leN (bl s)) = s := by
  apply bl_inj
  rw [bl_toS]
  have := byN_leN (bl_lt s)
  rw [bl_len, h] at this
  exact this
theorem toS_inj {a b : Nat} (ha : a < 115792089237316195423570985008687907853269984665640564039457584007913129639936) (hb : b < 115792089237316195423570985008687907853269984665640564039457584007913129639936) (h : toS a = toS b) : a = b := by
  have := congrArg (fun s => leN (bl s)) h
  simp only [leN_toS, Nat.mod_eq_of_lt ha, Nat.mod_eq_of_lt hb] at this
  exact this
/-- One word of a number. -/
theorem word_at {l : List Nat} (h : Words l) (k : Nat) (hk : k < l.length) : l.getD k 0 = val l / 2 ^ (64 * k) % 18446744073709551616 := by
  induction l generalizing k with
  | nil => simp at hk
  | cons x l ih =>
    have hx := h x List.mem_cons_self
    cases k with
    | zero => simp [val, List.getD]; omega
    | succ k =>
      have e3 : (x :: l).getD (k + 1) 0 = l.getD k 0 := by simp [List.getD]
      rw [e3, ih (fun y hy => h y (List.mem_cons_of_mem _ hy)) k (by simpa using hk), show 64 * (k + 1) = 64 + 64 * k by omega, Nat.pow_add, ← Nat.div_div_eq_div_mul]
      rw [val, show (2 : Nat) ^ 64 = 18446744073709551616 by decide, show (x + 18446744073709551616 * val l) / 18446744073709551616 = val l by omega]
/-- One byte of a number, out of its word. -/
theorem byte_at (N i : Nat) : N / 2 ^ (64 * (i / 8)) % 18446744073709551616 / 2 ^ (8 * (i % 8)) % 256 = N / 2 ^ (8 * i) % 256 := by
  have e : (18446744073709551616 : Nat) = 2 ^ (8 * (i % 8)) * (256 * 2 ^ (56 - 8 * (i % 8))) := by
    rw [show (256 : Nat) = 2 ^ 8 by decide, ← Nat.pow_add, ← Nat.pow_add, show 8 * (i % 8) + (8 + (56 - 8 * (i % 8))) = 64 by omega]
  rw [e, Nat.mod_mul_right_div_self, Nat.mod_mul_right_mod, Nat.div_div_eq_div_mul, ← Nat.pow_add, show 64 * (i / 8) + 8 * (i % 8) = 8 * i by omega]
end Go.Proofs.YtbgpgbfiadhddaaDoor
