/- Rows of ints, further words (some stand in the scalar's reference texts too). -/
import Derived.Test.YtbchjefgfghjlaaGrow
import Derived.Test.YtbchjefgfghjlaaBytes
namespace Go.Proofs.Ytbchjefgfghjlaa
open Go.RowKit
def padN (l : List Nat) (n : Nat) : List Nat := l.take n ++ List.replicate (n - l.length) 0
theorem padN_len (l : List Nat) (n : Nat) : (padN l n).length = n := by simp [padN]; omega
theorem padN_at (l : List Nat) (n i : Nat) (hi : i < n) : (padN l n).getD i 0 = l.getD i 0 := by
  unfold padN
  by_cases h : i < l.length
  · simp only [List.getD, List.getElem?_append, List.length_take, List.getElem?_take]
    rw [if_pos (by omega), if_pos hi]
  · simp only [List.getD, List.getElem?_append, List.length_take, List.getElem?_replicate]
    rw [if_neg (by omega), List.getElem?_eq_none (show l.length ≤ i by omega)]
    split <;> rfl
theorem leN_zeros (k : Nat) : leN (List.replicate k 0) = 0 := by
  induction k with
  | zero => rfl
  | succ k ih => rw [List.replicate_succ, leN, ih]
theorem leN_padN (l : List Nat) (n : Nat) : leN (padN l n) = leN (l.take n) := by unfold padN; rw [leN_append, leN_zeros, Nat.mul_zero, Nat.add_zero]
theorem padN_lt {l : List Nat} (h : ∀ b ∈ l, b < 256) (n : Nat) : ∀ b ∈ padN l n, b < 256 := by
  intro b hb
  rcases List.mem_append.1 hb with hb | hb
  · exact h b (List.mem_of_mem_take hb)
  · rw [(List.mem_replicate.1 hb).2]; omega
theorem take_snoc {l : List Nat} {k : Nat} (hk : k < l.length) : l.take (k + 1) = l.take k ++ [l.getD k 0] := by
  have h : l.take k ++ [l[k]] = l.take (k + 1) := List.take_append_getElem hk
  rw [← h]; simp [List.getD, hk]
theorem getD_lt {l : List Nat} (h : ∀ b ∈ l, b < 256) (k : Nat) : l.getD k 0 < 256 := by
  by_cases hk : k < l.length
  · rw [List.getD, List.getElem?_eq_getElem hk]; exact h _ (List.getElem_mem hk)
  · rw [List.getD, List.getElem?_eq_none (by omega)]; decide
theorem Own.cellAt {w : World} {e n g off c : Nat} {xs : List Value} {row : Option Nat} (h : Own w e 1 (.slice (some ⟨g, off, none⟩) n c) n xs row) (hn : 0 < n) : ∀ k u, xs[k]? = some u → w.cell? ⟨g, off + k, none⟩ = some u := by
  obtain ⟨g', off', c', hv, _, _, _, _, _, hx⟩ := h.cell1 hn
  injection hv with ha _ _
  injection ha with ha
  injection ha with h1 h2
  subst h1; subst h2
  exact hx
theorem NewI.made (w0 w : World) (k : Touch [] w0 w) (l : List Nat) (hl : 0 < l.length) (hm : l.length ≤ 1000000) :
    NewI w0 (w.alloc (.cells (cellsI l).toArray 3)) (.slice (some ⟨w.heap.size, 0, none⟩) l.length l.length) l := by
  have h := Own.built w 3 l.length (cellsI l).toArray (by simp [cellsI]) hl (by unfold maxLen; omega)
  rw [List.toList_toArray] at h
  exact ⟨_, h, k.alloc _, .fresh _ _ k.size⟩
theorem Own.pre {w : World} {e n g off c m : Nat} {xs : List Value} {row : Option Nat} (h : Own w e 1 (.slice (some ⟨g, off, none⟩) n c) n xs row) (hm : m ≤ n) (hn : 0 < n) :
    Own w e 1 (.slice (some ⟨g, off, none⟩) m c) m (xs.take m) row := by
  obtain ⟨g', off', c', cur, hv, hrow, hb, h0, hnc, hcm, hcs, hx⟩ := h.at_ hn
  injection hv with ha _ hcc
  injection ha with ha
  injection ha with h1 h2
  subst h1; subst h2; subst hcc
  refine ⟨by rw [List.length_take, h.1]; omega, .inr ⟨g, off, c, cur, rfl, hrow, hb, h0, by omega, hcm, hcs, fun j u hj => hx j u ?_⟩⟩
  rw [List.getElem?_take] at hj
  split at hj
  · exact hj
  · cases hj
theorem wpList_append_ints (w0 : World) {ops : Array Oper} {rest : List Oper} {o : Oper} {a : Act} {Q : Exit → Act → World → Prop} (w : World) (s x : Operand) (t : TypeId)
    (ht : Try.prog.underlying t = some (.slice 3)) (hgd : o.guard = none)
    (ho : o.op = .call { callee := .builtin .append, args := #[s, x], argTypes := #[t, t] })
    {v : Value} {l : List Nat} (hown : NewI w0 w v l) (hl : l.length ≤ 1000000) (m : List Nat) (hml : m.length ≤ 1000000) {xv : Value} {rx : Option Nat} (hsrc : Own w 3 1 xv m.length (cellsI m) rx)
    (hv : a.eval s = v) (hx : a.eval x = xv)
    (h : ∀ A c w', NewI w0 w' (.slice A (l ++ m).length c) (l ++ m) → wpList Try.prog ops Q rest (a.put o.dst (.slice A (l ++ m).length c)) w') :
    wpList Try.prog ops Q (o :: rest) a w := by
  obtain ⟨row, hw, hto, hn⟩ := hown
  obtain ⟨i, hi, hz, hs, hb⟩ := info_parts infoInt
  refine wpList_append_Own w hgd s x t t ho 3 i _ 1 8 ht hi hz hs hb rfl v l.length (cellsI l) row hv hw _ m.length (cellsI m) hx (hsrc.src (cellsI_one m) ht) (by unfold maxLen; omega) (by omega) ?_
  intro v' w' row' h1 h2 h3
  obtain ⟨A, c, rfl, _⟩ := h1.shape
  rw [← cellsI_append] at h1
  have hl : (l ++ m).length = l.length + m.length := by simp
  rw [← hl] at h1 ⊢
  have hto' : Touch [] w0 w' := ⟨h2.os.trans hto.os, h2.tape.trans hto.tape, h2.output.trans hto.output, Nat.le_trans hto.size h2.size, fun i hi hni => (h2.block i (Nat.lt_of_lt_of_le hi hto.size) (fun hm => by
    rcases hn i (Option.mem_toList.1 hm) with h' | h'
    · cases h'
    · omega)).trans (hto.block i hi hni)⟩
  exact h A c w' ⟨row', h1, hto', hn.trans h3 hto.size⟩
theorem getD_map_int (l : List Nat) (i : Nat) : (l.map fun (n : Nat) => (n : Int)).getD i 0 = ((l.getD i 0 : Nat) : Int) := by
  simp only [List.getD, List.getElem?_map]
  cases l[i]? <;> rfl
end Go.Proofs.Ytbchjefgfghjlaa
