/- Eight words, read and laid whole. -/
import Derived.Test.YtflpjnillfgghaaDoorWdOps
import Derived.Laws.Rows
namespace Go.Proofs.YtflpjnillfgghaaDoor
open Go Go.RowKit
theorem cellsN_size (l : List Nat) : (cellsN l).toArray.size = l.length := by simp [cellsN]
theorem cellsN_one (l : List Nat) : (cellsN l).toArray.all (·.oneCell') = true := by simp [cellsN, Value.oneCell']
theorem cellsN_seta (l : List Nat) (j x : Nat) : (cellsN l).toArray.setIfInBounds j (.int .u64 (x : Int)) = (cellsN (l.set j x)).toArray := by rw [← cellsN_set]; simp
theorem Blk.srow {w : World} {g : Nat} {t : TypeId} {cs : Array Value} (h : Blk w g t cs) (cs' : Array Value) : Blk (w.setRow g cs') g t cs' := setRow_heap w g cs cs' t (0, 0) h
theorem infoS : (Tryd.prog.info? 37).map (·.size) = some 8 := by kernel_rfl
theorem Blk.frow {w : World} {g g' : Nat} {t : TypeId} {cs : Array Value} (h : Blk w g t cs) (hne : g ≠ g') (cs' : Array Value) : Blk (w.setRow g' cs') g t cs := (setRow_other w g' g cs' hne).trans h
theorem Touch.srow {w0 w : World} {S : List Nat} (h : Touch S w0 w) {g : Nat} (hg : g ∈ S ∨ w0.heap.size ≤ g) (cs : Array Value) : Touch S w0 (w.setRow g cs) :=
  ⟨h.os, h.tape, h.output, by simpa using h.size, fun k hk hn => (setRow_other w g k cs (by
    rintro rfl
    rcases hg with hg | hg
    · exact hn hg
    · omega)).trans (h.block k hk hn)⟩
theorem run_index8 (st : List Nat) (hl : st.length = 8) (j : Nat) (hj : j < 8) (W : World) : (Instr.index 37 (.agg (cellsN st).toArray) (.int .i64 (j : Int))).run Tryd.prog W = .ok (.int .u64 ((st.getD j 0 : Nat) : Int)) W := by
  have hc : (cellsN st)[j]? = some (.int .u64 ((st.getD j 0 : Nat) : Int)) := cellsN_at (by omega)
  have hn : (0 : Int) ≤ (j : Int) ∧ (j : Int) < 8 := by omega
  simp [Instr.index, run_underlying Tryd.underlying37, asIntOf, hn, go_sem]
  rw [if_pos hj, hc]
  simp only [List.getD]
  rfl
section
variable {w : World} {ops : Array Oper} {rest : List Oper} {o : Oper} {a : Act} {Q : Exit → Act → World → Prop}
theorem wpList_loadS (hgd : o.guard = none) (x : Operand) (ho : o.op = .load 37 x) (g : Nat) (hx : a.eval x = .pointer (some ⟨g, 0, none⟩)) (t : TypeId) (l : List Nat) (hl : l.length = 8) (hB : Blk w g t (cellsN l).toArray)
    (h : wpList Tryd.prog ops Q rest (a.put o.dst (.agg (cellsN l).toArray)) w) : wpList Tryd.prog ops Q (o :: rest) a w :=
  wpList_load_row hgd _ x ho g hx t (cellsN l).toArray (0, 0) _ hB Tryd.underlying37 rfl (by rw [cellsN_size, hl]; exact infoS) h
theorem wpList_storeS (hgd : o.guard = none) (x y : Operand) (ho : o.op = .store 37 x y) (g : Nat) (hx : a.eval x = .pointer (some ⟨g, 0, none⟩)) (l : List Nat) (hy : a.eval y = .agg (cellsN l).toArray) (t : TypeId) (old : Array Value) (hl : l.length = 8) (hs : old.size = 8) (hB : Blk w g t old)
    (h : wpList Tryd.prog ops Q rest (a.put o.dst undef) (w.setRow g (cellsN l).toArray)) : wpList Tryd.prog ops Q (o :: rest) a w :=
  wpList_store_row hgd _ x y ho g (cellsN l).toArray hx hy t old hB (by rw [cellsN_size, hl]; exact infoS) (by rw [cellsN_size, hl, hs]) (cellsN_one l) h
end
section
variable {o : Oper} {a : Act} {w : World} {R : Value → World → Prop} {x y z : Operand} {t1 t2 : TypeId}
theorem OpTo.mulK (i j r : Int) (ho : o.op = .binOp .mul t1 x y t2) (hx : a.eval x = .int .i64 i) (hy : a.eval y = .int .i64 j) (hr : IntKind.i64.wrap (i * j) = r) (hR : R (.int .i64 r) w) : OpTo Tryd.prog o a w R :=
  OpTo.val (v := .int .i64 r) (by unfold execOp; simp only [ho, hx, hy]; go_simp) hR
theorem OpTo.addK (i j r : Int) (ho : o.op = .binOp .add t1 x y t2) (hx : a.eval x = .int .i64 i) (hy : a.eval y = .int .i64 j) (hr : IntKind.i64.wrap (i + j) = r) (hR : R (.int .i64 r) w) : OpTo Tryd.prog o a w R :=
  OpTo.val (v := .int .i64 r) (by unfold execOp; simp only [ho, hx, hy]; go_simp) hR
theorem OpTo.slT (s : ByteArray) (i j : Nat) (ho : o.op = .slice 9 x (some y) (some z) none) (hx : a.eval x = .string s) (hy : a.eval y = .int .i64 (i : Int)) (hz : a.eval z = .int .i64 (j : Int)) (h1 : i ≤ j) (h2 : j ≤ s.size) (hR : R (.string (s.extract i j)) w) : OpTo Tryd.prog o a w R :=
  OpTo.val (v := .string (s.extract i j)) (by
    have h := run_slice_string (P := Tryd.prog) (w := w) 9 s .i64 .i64 (i : Int) (j : Int) Tryd.underlying9 (by omega) (by omega) (by omega)
    unfold execOp
    simp only [ho, hx, Option.map_some, hy, hz]
    go_simp) hR
theorem OpTo.ldS (g : Nat) (l : List Nat) (hl : l.length = 8) (ho : o.op = .load 37 x) (hx : a.eval x = .pointer (some ⟨g, 0, none⟩)) (hB : Blk w g 37 (cellsN l).toArray) (hR : R (.agg (cellsN l).toArray) w) : OpTo Tryd.prog o a w R :=
  OpTo.row _ x ho g hx (cellsN l) _ (fun j v hj => by rw [hB.cell, Nat.zero_add, List.getElem?_toArray]; exact hj) Tryd.underlying37 rfl (by rw [cellsN_len, hl]; exact infoS) hR
end
end Go.Proofs.YtflpjnillfgghaaDoor
