/- Rows of numbers that a function builds: what an append leaves, how they are read. -/
import Derived.Test.YtbgpgbfiadhddaaDoorSep
import Derived.Test.YtbgpgbfiadhddaaDoorRows
import Derived.WalkKit
import Derived.WalkLawsBesides
import Derived.Lib.Hide
namespace Go.Proofs.YtbgpgbfiadhddaaDoor
open Go.RowKit
theorem info_parts {P : Program} {t : TypeId} {z : Value} {n b : Nat} (h : (P.info? t).map (fun i => (i.zero, i.size, i.bytes)) = some (some z, n, b)) :
    ∃ i, P.info? t = some i ∧ i.zero = some z ∧ i.size = n ∧ i.bytes = b := by
  cases hi : P.info? t with
  | none => rw [hi] at h; cases h
  | some i => rw [hi] at h; simp at h; exact ⟨i, rfl, h.1, h.2.1, h.2.2⟩
theorem infoInt : (Tryd.prog.info? 3).map (fun i => (i.zero, i.size, i.bytes)) = some (some (.int .i64 0), 1, 8) := by kernel_rfl
theorem infoU8 : (Tryd.prog.info? 5).map (fun i => (i.zero, i.size, i.bytes)) = some (some (.int .u8 0), 1, 1) := by kernel_rfl
theorem Touch.trans_new' {w w1 w2 : World} {S : List Nat} {row' : Option Nat} (h : Touch S w w1) (k : Touch row'.toList w1 w2) (hn : NewRow w none row') : Touch S w w2 :=
  ⟨k.os.trans h.os, k.tape.trans h.tape, k.output.trans h.output, Nat.le_trans h.size k.size, fun i hi hni => by
    refine (k.block i (Nat.lt_of_lt_of_le hi h.size) (fun hm => ?_)).trans (h.block i hi hni)
    rcases hn i (Option.mem_toList.1 hm) with h' | h'
    · cases h'
    · omega⟩
/-- A row of cells: where they lie. -/
theorem Own.cell1 {w : World} {e n : Nat} {v : Value} {xs : List Value} {row : Option Nat} (h : Own w e 1 v n xs row) (hn : 0 < n) :
    ∃ g off c, v = .slice (some ⟨g, off, none⟩) n c ∧ row = some g ∧ g < w.heap.size ∧ n ≤ c ∧ c ≤ maxLen ∧ (∀ i, w.frozen? ⟨g, i, none⟩ = false) ∧ ∀ k u, xs[k]? = some u → w.cell? ⟨g, off + k, none⟩ = some u := by
  obtain ⟨g, off, c, cur, rfl, hrow, hb, _, hnc, hcm, _, hx⟩ := h.at_ hn
  exact ⟨g, off, c, rfl, hrow, hb.lt, hnc, hcm, hb.frozen, fun k u hu => (hb.cell _).trans (hx _ _ hu)⟩
/-- One cell of it is written. -/
theorem Own.set1 {w : World} {e n g off c : Nat} {xs : List Value} {row : Option Nat} (h : Own w e 1 (.slice (some ⟨g, off, none⟩) n c) n xs row) (k : Nat) (hk : k < n) (u : Value) :
    Own (w.setCell ⟨g, off + k, none⟩ u) e 1 (.slice (some ⟨g, off, none⟩) n c) n (xs.set k u) row := by
  refine ⟨by rw [List.length_set]; exact h.1, ?_⟩
  obtain ⟨g', off', c', cur, hv, hrow, hb, h0, hnc, hcm, hcs, hx⟩ := h.at_ (by omega)
  injection hv with ha _ hcc
  injection ha with ha
  injection ha with h1 h2
  subst h1; subst h2; subst hcc
  refine .inr ⟨g, off, c, _, rfl, hrow, hb.set_ (off + k) u, h0, hnc, hcm, by simpa using hcs, fun j x hx' => ?_⟩
  by_cases hj : j = k
  · subst hj
    have hlen := h.1
    rw [List.getElem?_set_self (by omega)] at hx'
    rw [Array.getElem?_setIfInBounds_self_of_lt (by omega)]
    exact hx'
  · rw [List.getElem?_set_ne (Ne.symm hj)] at hx'
    rw [Array.getElem?_setIfInBounds_ne (by omega)]
    exact hx j x hx'
/-- Numbers as cells of a row of ints, of bytes. -/
def cellsI (l : List Nat) : List Value := l.map fun (n : Nat) => .int .i64 (n : Int)
theorem cellsI_len (l : List Nat) : (cellsI l).length = l.length := by simp [cellsI]
theorem cellsI_at {l : List Nat} {j : Nat} (h : j < l.length) : (cellsI l)[j]? = some (.int .i64 ((l.getD j 0 : Nat) : Int)) := by simp [cellsI, List.getD, h]
theorem cellsI_set (l : List Nat) (j x : Nat) : (cellsI l).set j (.int .i64 (x : Int)) = cellsI (l.set j x) := by simp [cellsI]
theorem cellsI_snoc (l : List Nat) (x : Nat) : cellsI (l ++ [x]) = cellsI l ++ [.int .i64 (x : Int)] := by simp [cellsI]
theorem cellsI_append (l m : List Nat) : cellsI (l ++ m) = cellsI l ++ cellsI m := by simp [cellsI]
theorem cellsI_one (l : List Nat) : ∀ u ∈ cellsI l, u.oneCell' = true := by
  intro u hu
  obtain ⟨n, _, rfl⟩ := List.mem_map.1 hu
  rfl
/-- A row of ints that is new behind w. -/
def NewI (w w' : World) (v : Value) (l : List Nat) : Prop := ∃ row, Own w' 3 1 v l.length (cellsI l) row ∧ Touch [] w w' ∧ NewRow w none row
theorem NewI.nil (w : World) (A : Option Addr) : NewI w w (.slice A 0 0) [] := ⟨none, Own.nil _ _ _ _, Touch.refl _ _, .refl _ _⟩
theorem NewI.more {w w1 w2 : World} {v : Value} {l : List Nat} (h : NewI w w1 v l) (k : Touch [] w1 w2) : NewI w w2 v l := by
  obtain ⟨row, ho, ht, hn⟩ := h
  exact ⟨row, ho.touch k (by simp), ht.trans k, hn⟩
theorem NewI.shape {w w1 : World} {v : Value} {l : List Nat} (h : NewI w w1 v l) : ∃ A c, v = .slice A l.length c ∧ l.length ≤ c := by
  obtain ⟨row, ho, _⟩ := h
  exact ho.shape
theorem NewI.own {w w1 : World} {v : Value} {l : List Nat} (h : NewI w w1 v l) : ∃ row, Own w1 3 1 v l.length (cellsI l) row := by
  obtain ⟨row, ho, _⟩ := h
  exact ⟨row, ho⟩
theorem NewI.touch {w w1 : World} {v : Value} {l : List Nat} (h : NewI w w1 v l) : Touch [] w w1 := by
  obtain ⟨row, _, ht, _⟩ := h
  exact ht
theorem NewI.before {w0 w w1 : World} {v : Value} {l : List Nat} (h : NewI w w1 v l) (k : Touch [] w0 w) : NewI w0 w1 v l := by
  obtain ⟨row, ho, ht, hn⟩ := h
  exact ⟨row, ho, k.trans ht, hn.before k.size⟩
theorem NewI.cells {w w1 : World} {v : Value} {l : List Nat} (h : NewI w w1 v l) (hl : 0 < l.length) :
    ∃ g off c, v = .slice (some ⟨g, off, none⟩) l.length c ∧ w.heap.size ≤ g ∧ l.length ≤ c ∧ c ≤ maxLen ∧ (∀ i, w1.frozen? ⟨g, i, none⟩ = false) ∧ ∀ k, k < l.length → w1.cell? ⟨g, off + k, none⟩ = some (.int .i64 ((l.getD k 0 : Nat) : Int)) := by
  obtain ⟨row, ho, ht, hn⟩ := h
  obtain ⟨g, off, c, hv, hr, _, hnc, hcm, hf, hx⟩ := ho.cell1 hl
  refine ⟨g, off, c, hv, ?_, hnc, hcm, hf, fun k hk => hx k _ (cellsI_at hk)⟩
  rcases hn g hr with h' | h'
  · cases h'
  · exact h'
theorem NewI.set {w w1 : World} {l : List Nat} {g off c : Nat} (h : NewI w w1 (.slice (some ⟨g, off, none⟩) l.length c) l) (k x : Nat) (hk : k < l.length) :
    NewI w (w1.setCell ⟨g, off + k, none⟩ (.int .i64 (x : Int))) (.slice (some ⟨g, off, none⟩) (l.set k x).length c) (l.set k x) := by
  obtain ⟨row, ho, ht, hn⟩ := h
  have hg : w.heap.size ≤ g := by
    obtain ⟨g', _, _, hv, hr, _⟩ := ho.cell1 (by omega)
    injection hv with ha _ _
    injection ha with ha
    injection ha with h1 _
    subst h1
    rcases hn g hr with h' | h'
    · cases h'
    · exact h'
  refine ⟨row, ?_, ht.setCell (.inr hg) _, hn⟩
  rw [List.length_set, ← cellsI_set]
  exact ho.set1 k hk _
/-- One number more. -/
theorem wpList_append_int (w0 : World) {ops : Array Oper} {rest : List Oper} {o : Oper} {a : Act} {Q : Exit → Act → World → Prop} (w : World) (s x : Operand) (t : TypeId)
    (ht : Tryd.prog.underlying t = some (.slice 3)) (hgd : o.guard = none)
    (ho : o.op = .call { callee := .builtin .append, args := #[s, x], argTypes := #[t, t] })
    {v : Value} {l : List Nat} (hown : NewI w0 w v l) (hl : l.length ≤ 1000000) (u : Nat) (ty : TypeId)
    (hv : a.eval s = v) (hx : a.eval x = .slice (some ⟨w.heap.size, 0, none⟩) 1 1)
    (h : ∀ A c w', NewI w0 w' (.slice A (l ++ [u]).length c) (l ++ [u]) → wpList Tryd.prog ops Q rest (a.put o.dst (.slice A (l ++ [u]).length c)) w') :
    wpList Tryd.prog ops Q (o :: rest) a (w.alloc (.cells #[.int .i64 (u : Int)] ty)) := by
  obtain ⟨row, hw, hto, hn⟩ := hown
  obtain ⟨i, hi, hz, hs, hb⟩ := info_parts infoInt
  refine wpList_append_Own _ hgd s x t t ho 3 i _ 1 8 ht hi hz hs hb rfl v l.length (cellsI l) row hv (hw.alloc _) _ 1 [.int .i64 (u : Int)] hx (Src.one ht w ty _ rfl) (by unfold maxLen; omega) (by omega) ?_
  intro v' w' row' h1 h2 h3
  obtain ⟨A, c, rfl, _⟩ := h1.shape
  rw [← cellsI_snoc] at h1
  have hl : (l ++ [u]).length = l.length + 1 := by simp
  rw [← hl] at h1 ⊢
  exact h A c w' ⟨row', h1, Touch.trans_new' (hto.alloc _) h2 hn, hn.trans h3 (by have := hto.size; simp; omega)⟩
/-- Bytes so. -/
def cellsU8 (l : List Nat) : List Value := l.map fun (n : Nat) => .int .u8 (n : Int)
def NewU (w w' : World) (v : Value) (l : List Nat) : Prop := ∃ row, Own w' 5 1 v l.length (cellsU8 l) row ∧ Touch [] w w' ∧ NewRow w none row
theorem NewU.nil (w : World) (A : Option Addr) : NewU w w (.slice A 0 0) [] := ⟨none, Own.nil _ _ _ _, Touch.refl _ _, .refl _ _⟩
theorem NewU.touch {w w1 : World} {v : Value} {l : List Nat} (h : NewU w w1 v l) : Touch [] w w1 := by
  obtain ⟨row, _, ht, _⟩ := h
  exact ht
theorem NewU.before {w0 w w1 : World} {v : Value} {l : List Nat} (h : NewU w w1 v l) (k : Touch [] w0 w) : NewU w0 w1 v l := by
  obtain ⟨row, ho, ht, hn⟩ := h
  exact ⟨row, ho, k.trans ht, hn.before k.size⟩
theorem NewU.more {w w1 w2 : World} {v : Value} {l : List Nat} (h : NewU w w1 v l) (k : Touch [] w1 w2) : NewU w w2 v l := by
  obtain ⟨row, ho, ht, hn⟩ := h
  exact ⟨row, ho.touch k (by simp), ht.trans k, hn⟩
theorem NewU.shape {w w1 : World} {v : Value} {l : List Nat} (h : NewU w w1 v l) : ∃ A c, v = .slice A l.length c ∧ l.length ≤ c := by
  obtain ⟨row, ho, _⟩ := h
  exact ho.shape
theorem cellsU8_at {l : List Nat} {j : Nat} (h : j < l.length) : (cellsU8 l)[j]? = some (.int .u8 ((l.getD j 0 : Nat) : Int)) := by simp [cellsU8, List.getD, h]
theorem NewU.cells {w w1 : World} {v : Value} {l : List Nat} (h : NewU w w1 v l) (hl : 0 < l.length) :
    ∃ g off c, v = .slice (some ⟨g, off, none⟩) l.length c ∧ w.heap.size ≤ g ∧ l.length ≤ c ∧ c ≤ maxLen ∧ (∀ i, w1.frozen? ⟨g, i, none⟩ = false) ∧ ∀ k, k < l.length → w1.cell? ⟨g, off + k, none⟩ = some (.int .u8 ((l.getD k 0 : Nat) : Int)) := by
  obtain ⟨row, ho, ht, hn⟩ := h
  obtain ⟨g, off, c, hv, hr, _, hnc, hcm, hf, hx⟩ := ho.cell1 hl
  refine ⟨g, off, c, hv, ?_, hnc, hcm, hf, fun k hk => hx k _ (cellsU8_at hk)⟩
  rcases hn g hr with h' | h'
  · cases h'
  · exact h'
theorem wpList_append_byte (w0 : World) {ops : Array Oper} {rest : List Oper} {o : Oper} {a : Act} {Q : Exit → Act → World → Prop} (w : World) (s x : Operand) (t : TypeId)
    (ht : Tryd.prog.underlying t = some (.slice 5)) (hgd : o.guard = none)
    (ho : o.op = .call { callee := .builtin .append, args := #[s, x], argTypes := #[t, t] })
    {v : Value} {l : List Nat} (hown : NewU w0 w v l) (hl : l.length ≤ 1000000) (u : Nat) (ty : TypeId)
    (hv : a.eval s = v) (hx : a.eval x = .slice (some ⟨w.heap.size, 0, none⟩) 1 1)
    (h : ∀ A c w', NewU w0 w' (.slice A (l ++ [u]).length c) (l ++ [u]) → wpList Tryd.prog ops Q rest (a.put o.dst (.slice A (l ++ [u]).length c)) w') :
    wpList Tryd.prog ops Q (o :: rest) a (w.alloc (.cells #[.int .u8 (u : Int)] ty)) := by
  obtain ⟨row, hw, hto, hn⟩ := hown
  obtain ⟨i, hi, hz, hs, hb⟩ := info_parts infoU8
  refine wpList_append_Own _ hgd s x t t ho 5 i _ 1 1 ht hi hz hs hb rfl v l.length (cellsU8 l) row hv (hw.alloc _) _ 1 [.int .u8 (u : Int)] hx (Src.one ht w ty _ rfl) (by unfold maxLen; omega) (by omega) ?_
  intro v' w' row' h1 h2 h3
  obtain ⟨A, c, rfl, _⟩ := h1.shape
  have hc : cellsU8 l ++ [.int .u8 (u : Int)] = cellsU8 (l ++ [u]) := by simp [cellsU8]
  rw [hc] at h1
  have hl : (l ++ [u]).length = l.length + 1 := by simp
  rw [← hl] at h1 ⊢
  exact h A c w' ⟨row', h1, Touch.trans_new' (hto.alloc _) h2 hn, hn.trans h3 (by have := hto.size; simp; omega)⟩
end Go.Proofs.YtbgpgbfiadhddaaDoor
