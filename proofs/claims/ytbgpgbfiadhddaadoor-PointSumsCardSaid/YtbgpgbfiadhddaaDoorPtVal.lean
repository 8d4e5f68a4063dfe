/- A point as a value: numbers in rows, and the operations on them. -/
import Derived.Test.YtbgpgbfiadhddaaDoorPFlow
import Derived.Test.YtbgpgbfiadhddaaDoorPtLaw
import Derived.Test.YtbgpgbfiadhddaaDoorElem
import Derived.Test.YtbgpgbfiadhddaaDoorOps
namespace Go.Proofs.YtbgpgbfiadhddaaDoor
open Go Go.RowKit
/-! ### What lies in a point -/
/-- Four numbers in a row. -/
def QL (X Y Z T : Nat) (l : List Int) : Prop := ∃ x y z t, (Red x ∧ Red y ∧ Red z ∧ Red t) ∧ (fe x = X ∧ fe y = Y ∧ fe z = Z ∧ fe t = T) ∧ l = x ++ y ++ z ++ t
/-- Fractions that stand for a point. -/
structure QRep (P : Pt) (X Y Z T : Nat) : Prop where
  lx : X < PP
  ly : Y < PP
  lz : Z < PP
  lt : T < PP
  z : ff Z ≠ 0
  x : ff X = P.x * ff Z
  y : ff Y = P.y * ff Z
  t : ff T = P.x * P.y * ff Z
def QP (P : Pt) (l : List Int) : Prop := ∃ X Y Z T, QRep P X Y Z T ∧ QL X Y Z T l
def zl : List Int := List.replicate 64 0
/-- The digits of a point, and whether it is on. -/
def PtL (P : Pt) (b : Bool) (l : List Int) : Prop := (b = true ∧ QP P l) ∨ (b = false ∧ P = pzero ∧ l = zl)
def ptA (b : Bool) (l : List Int) : Array Value := (.bool b :: cellsZ l).toArray
def ptV (b : Bool) (l : List Int) : Value := .agg (ptA b l)
def PtV (P : Pt) (v : Value) : Prop := ∃ b l, PtL P b l ∧ v = ptV b l
def QuV (P : Pt) (v : Value) : Prop := ∃ l, QP P l ∧ v = elV l
theorem QL.len {X Y Z T : Nat} {l : List Int} (h : QL X Y Z T l) : l.length = 64 := by
  obtain ⟨x, y, z, t, ⟨hx, hy, hz, ht⟩, _, rfl⟩ := h
  simp [hx.len, hy.len, hz.len, ht.len]
theorem QP.len {P : Pt} {l : List Int} (h : QP P l) : l.length = 64 := by
  obtain ⟨X, Y, Z, T, _, h⟩ := h
  exact h.len
theorem PtL.len {P : Pt} {b : Bool} {l : List Int} (h : PtL P b l) : l.length = 64 := by
  rcases h with ⟨_, h⟩ | ⟨_, _, rfl⟩
  · exact h.len
  · rfl
theorem QL.of {v1 v2 v3 v4 : Value} {X Y Z T : Nat} (h1 : EV X v1) (h2 : EV Y v2) (h3 : EV Z v3) (h4 : EV T v4) : ∃ x y z t, v1 = elV x ∧ v2 = elV y ∧ v3 = elV z ∧ v4 = elV t ∧ (x.length = 16 ∧ y.length = 16 ∧ z.length = 16 ∧ t.length = 16) ∧ QL X Y Z T (x ++ y ++ z ++ t) := by
  obtain ⟨x, hx, fx, rfl⟩ := h1
  obtain ⟨y, hy, fy, rfl⟩ := h2
  obtain ⟨z, hz, fz, rfl⟩ := h3
  obtain ⟨t, ht, ft, rfl⟩ := h4
  exact ⟨x, y, z, t, rfl, rfl, rfl, rfl, ⟨hx.len, hy.len, hz.len, ht.len⟩, x, y, z, t, ⟨hx, hy, hz, ht⟩, ⟨fx, fy, fz, ft⟩, rfl⟩
/-! ### Reading -/
def RdE (W : World) (g o n : Nat) : Prop := ∃ r, Red r ∧ fe r = n ∧ W.rangeAt g o (cellsZ r)
theorem RdE.of {W : World} {g : Nat} {t : TypeId} {l x : List Int} (hB : Blk W g t (cellsZ l).toArray) (o n : Nat) (hx : Red x) (hn : fe x = n) (h : ∀ j, j < 16 → l[o + j]? = x[j]?) : RdE W g o n :=
  ⟨x, hx, hn, fun j v hv => by
    have hj : j < 16 := by
      rw [← hx.len, ← cellsZ_len]
      exact (List.getElem?_eq_some_iff.1 hv).1
    rw [hB.cell, List.getElem?_toArray, ← hv]
    unfold cellsZ
    rw [List.getElem?_map, List.getElem?_map, h j hj]⟩
theorem RdE.el {W : World} {g n : Nat} {t : TypeId} {r : List Int} (hB : Blk W g t (cellsZ r).toArray) (hr : Red r) (hn : fe r = n) : RdE W g 0 n := RdE.of hB 0 n hr hn fun j _ => by rw [Nat.zero_add]
section
variable {W : World} {g : Nat} {ty : TypeId} {X Y Z T : Nat} {l : List Int}
theorem RdE.q0 (hB : Blk W g ty (cellsZ l).toArray) (h : QL X Y Z T l) : RdE W g 0 X := by
  obtain ⟨x, y, z, t, ⟨hx, hy, hz, ht⟩, ⟨fx, fy, fz, ft⟩, rfl⟩ := h
  refine RdE.of hB 0 X hx fx fun j hj => ?_
  rw [List.append_assoc, List.append_assoc, Nat.zero_add, List.getElem?_append_left (by rw [hx.len]; exact hj)]
theorem RdE.q1 (hB : Blk W g ty (cellsZ l).toArray) (h : QL X Y Z T l) : RdE W g 16 Y := by
  obtain ⟨x, y, z, t, ⟨hx, hy, hz, ht⟩, ⟨fx, fy, fz, ft⟩, rfl⟩ := h
  refine RdE.of hB 16 Y hy fy fun j hj => ?_
  rw [List.append_assoc, List.append_assoc, List.getElem?_append_right (by rw [hx.len]; omega), List.getElem?_append_left (by rw [hx.len, hy.len]; omega), hx.len, Nat.add_sub_cancel_left]
theorem RdE.q2 (hB : Blk W g ty (cellsZ l).toArray) (h : QL X Y Z T l) : RdE W g 32 Z := by
  obtain ⟨x, y, z, t, ⟨hx, hy, hz, ht⟩, ⟨fx, fy, fz, ft⟩, rfl⟩ := h
  refine RdE.of hB 32 Z hz fz fun j hj => ?_
  rw [List.append_assoc, List.getElem?_append_right (by rw [List.length_append, hx.len, hy.len]; omega), List.getElem?_append_left (by rw [List.length_append, hx.len, hy.len, hz.len]; omega), List.length_append, hx.len, hy.len]
  congr 1; omega
theorem RdE.q3 (hB : Blk W g ty (cellsZ l).toArray) (h : QL X Y Z T l) : RdE W g 48 T := by
  obtain ⟨x, y, z, t, ⟨hx, hy, hz, ht⟩, ⟨fx, fy, fz, ft⟩, rfl⟩ := h
  refine RdE.of hB 48 T ht ft fun j hj => ?_
  rw [List.getElem?_append_right (by rw [List.length_append, List.length_append, hx.len, hy.len, hz.len]; omega), List.length_append, List.length_append, hx.len, hy.len, hz.len]
  congr 1; omega
end
/-! ### Operations -/
section
variable {o : Oper} {a : Act} {w : World} {T : Tmp → SP}
/-- A number out of a row. -/
theorem OpTo.rdE (d : Tmp) (x : Operand) (ho : o.op = .load 25 x) (hd : o.dst = some d) (g off : Nat) (hx : a.eval x = .pointer (some ⟨g, off, none⟩)) {n : Nat} (h : RdE w g off n) (hT : ∀ v, EV n v → (T d).p v w) :
    OpTo Tryd.prog o a w (fun v w' => dOfW o T v w' ∧ Touch [] w w') := fun K Q hK => by
  obtain ⟨r, hr, hn, hc⟩ := h
  exact wp_load_mid (K := K) (Q := Q) 25 x ho g off hx (cellsZ r) _ hc Tryd.underlying25 rfl (by rw [cellsZ_len, hr.len]; exact infoE) (hK _ _ ⟨dOfW.of d hd (hT _ ⟨r, hr, hn, rfl⟩), Touch.refl _ _⟩)
theorem infoQ : (Tryd.prog.info? 27).map (·.size) = some 64 := by kernel_rfl
theorem infoP : (Tryd.prog.info? 29).map (·.size) = some 65 := by kernel_rfl
theorem ptA_size {b : Bool} {l : List Int} (h : l.length = 64) : (ptA b l).size = 65 := by simp [ptA, cellsZ, h]
theorem ptA_one (b : Bool) (l : List Int) : (ptA b l).all (·.oneCell') = true := by simp [ptA, cellsZ, Value.oneCell']
/-- A whole point. -/
theorem OpTo.rdP (d : Tmp) (x : Operand) (ho : o.op = .load 29 x) (hd : o.dst = some d) (g : Nat) (hx : a.eval x = .pointer (some ⟨g, 0, none⟩)) {t : TypeId} {b : Bool} {l : List Int} (hB : Blk w g t (ptA b l)) {P : Pt} (h : PtL P b l) (hT : ∀ v, PtV P v → (T d).p v w) :
    OpTo Tryd.prog o a w (fun v w' => dOfW o T v w' ∧ Touch [] w w') :=
  OpTo.rowG d 29 x ho hd g hx t (ptA b l) _ hB Tryd.underlying29 rfl (by rw [ptA_size h.len]; exact infoP) (hT _ ⟨b, l, h, rfl⟩)
theorem OpTo.rdQ (d : Tmp) (x : Operand) (ho : o.op = .load 27 x) (hd : o.dst = some d) (g : Nat) (hx : a.eval x = .pointer (some ⟨g, 0, none⟩)) {t : TypeId} {l : List Int} (hB : Blk w g t (cellsZ l).toArray) {P : Pt} (h : QP P l) (hT : ∀ v, QuV P v → (T d).p v w) :
    OpTo Tryd.prog o a w (fun v w' => dOfW o T v w' ∧ Touch [] w w') :=
  OpTo.rowG d 27 x ho hd g hx t (cellsZ l).toArray _ hB Tryd.underlying27 rfl (by rw [cellsZ_size, h.len]; exact infoQ) (hT _ ⟨l, h, rfl⟩)
end
set_option maxRecDepth 100000 in
theorem run_build_quad {x y z t : List Int} (h : x.length = 16 ∧ y.length = 16 ∧ z.length = 16 ∧ t.length = 16) (w : World) : (Instr.build 27 #[(0, elV x), (1, elV y), (2, elV z), (3, elV t)]).run Tryd.prog w = .ok (elV (x ++ y ++ z ++ t)) w := by
  obtain ⟨hx, hy, hz, ht⟩ := h
  match x, y, z, t, hx, hy, hz, ht with
  | [a0, a1, a2, a3, a4, a5, a6, a7, a8, a9, a10, a11, a12, a13, a14, a15], [b0, b1, b2, b3, b4, b5, b6, b7, b8, b9, b10, b11, b12, b13, b14, b15], [c0, c1, c2, c3, c4, c5, c6, c7, c8, c9, c10, c11, c12, c13, c14, c15], [d0, d1, d2, d3, d4, d5, d6, d7, d8, d9, d10, d11, d12, d13, d14, d15], _, _, _, _ =>
    show (_ : Result Value) = _
    kernel_rfl
theorem split64 {l : List Int} (h : l.length = 64) : ∃ x y z t : List Int, (x.length = 16 ∧ y.length = 16 ∧ z.length = 16 ∧ t.length = 16) ∧ l = x ++ y ++ z ++ t :=
  ⟨l.take 16, (l.drop 16).take 16, (l.drop 32).take 16, l.drop 48, ⟨by simp [h], by simp [h], by simp [h], by simp [h]⟩, by
    have e1 : l.drop 16 = (l.drop 16).take 16 ++ l.drop 32 := by
      have := List.take_append_drop 16 (l.drop 16)
      rw [List.drop_drop] at this
      exact this.symm
    have e2 : l.drop 32 = (l.drop 32).take 16 ++ l.drop 48 := by
      have := List.take_append_drop 16 (l.drop 32)
      rw [List.drop_drop] at this
      exact this.symm
    rw [List.append_assoc, List.append_assoc, ← e2, ← e1, List.take_append_drop]⟩
set_option maxRecDepth 100000 in
theorem run_build_pt {l : List Int} (h : l.length = 64) (w : World) : (Instr.build 29 #[(0, .bool true), (1, elV l)]).run Tryd.prog w = .ok (ptV true l) w := by
  obtain ⟨x, y, z, t, ⟨hx, hy, hz, ht⟩, rfl⟩ := split64 h
  match x, y, z, t, hx, hy, hz, ht with
  | [a0, a1, a2, a3, a4, a5, a6, a7, a8, a9, a10, a11, a12, a13, a14, a15], [b0, b1, b2, b3, b4, b5, b6, b7, b8, b9, b10, b11, b12, b13, b14, b15], [c0, c1, c2, c3, c4, c5, c6, c7, c8, c9, c10, c11, c12, c13, c14, c15], [d0, d1, d2, d3, d4, d5, d6, d7, d8, d9, d10, d11, d12, d13, d14, d15], _, _, _, _ =>
    show (_ : Result Value) = _
    kernel_rfl
set_option maxRecDepth 100000 in
theorem run_build_pt0 (w : World) : (Instr.build 29 #[]).run Tryd.prog w = .ok (ptV false zl) w := by
  show (_ : Result Value) = _
  kernel_rfl
set_option maxRecDepth 100000 in
theorem run_field_quad {b : Bool} {l : List Int} (h : l.length = 64) (w : World) : (Instr.field 29 (ptV b l) 1).run Tryd.prog w = .ok (elV l) w := by
  obtain ⟨x, y, z, t, ⟨hx, hy, hz, ht⟩, rfl⟩ := split64 h
  match x, y, z, t, hx, hy, hz, ht with
  | [a0, a1, a2, a3, a4, a5, a6, a7, a8, a9, a10, a11, a12, a13, a14, a15], [b0, b1, b2, b3, b4, b5, b6, b7, b8, b9, b10, b11, b12, b13, b14, b15], [c0, c1, c2, c3, c4, c5, c6, c7, c8, c9, c10, c11, c12, c13, c14, c15], [d0, d1, d2, d3, d4, d5, d6, d7, d8, d9, d10, d11, d12, d13, d14, d15], _, _, _, _ =>
    show (_ : Result Value) = _
    kernel_rfl
set_option maxRecDepth 100000 in
theorem run_alloc_quad (w : World) : (Instr.alloc 27 true (.tuple #[])).run Tryd.prog w = .ok (.pointer (some ⟨w.heap.size, 0, none⟩)) (w.alloc (.cells (cellsZ zl).toArray 27)) := by
  show (_ : Result Value) = _
  kernel_rfl
set_option maxRecDepth 100000 in
theorem run_alloc_pt (w : World) : (Instr.alloc 29 true (.tuple #[])).run Tryd.prog w = .ok (.pointer (some ⟨w.heap.size, 0, none⟩)) (w.alloc (.cells (ptA false zl) 29)) := by
  show (_ : Result Value) = _
  kernel_rfl
set_option maxRecDepth 100000 in
theorem run_alloc_el (w : World) : (Instr.alloc 25 true (.tuple #[])).run Tryd.prog w = .ok (.pointer (some ⟨w.heap.size, 0, none⟩)) (w.alloc (.cells (cellsZ (List.replicate 16 0)).toArray 25)) := by
  show (_ : Result Value) = _
  kernel_rfl
/-! ### The same, as steps -/
def QLv (X Y Z T : Nat) (v : Value) : Prop := ∃ l, QL X Y Z T l ∧ v = elV l
/-- A point that is on, of four numbers. -/
def PQv (X Y Z T : Nat) (v : Value) : Prop := ∃ l, QL X Y Z T l ∧ v = ptV true l
section
variable {o : Oper} {a : Act} {w : World} {T : Tmp → SP}
theorem OpTo.bldQ (d : Tmp) (x y z t : Operand) (ho : o.op = .build 27 #[(0, x), (1, y), (2, z), (3, t)]) (hd : o.dst = some d) {X Y Z U : Nat} (hx : EV X (a.eval x)) (hy : EV Y (a.eval y)) (hz : EV Z (a.eval z)) (ht : EV U (a.eval t)) (hT : ∀ v, QLv X Y Z U v → (T d).p v w) :
    OpTo Tryd.prog o a w (fun v w' => dOfW o T v w' ∧ Touch [] w w') := by
  obtain ⟨x', y', z', t', e1, e2, e3, e4, hl, hq⟩ := QL.of hx hy hz ht
  refine OpTo.pureG (v := elV (x' ++ y' ++ z' ++ t')) d hd ?_ (hT _ ⟨_, hq, rfl⟩)
  unfold execOp
  simp only [ho, List.map_toArray, List.map_cons, List.map_nil, e1, e2, e3, e4, Sem.run_bind, Sem.run_pure, run_build_quad hl, Result.andThen_ok]
theorem OpTo.bldP (d : Tmp) (x y : Operand) (ho : o.op = .build 29 #[(0, x), (1, y)]) (hd : o.dst = some d) (hx : a.eval x = .bool true) {X Y Z U : Nat} (hy : QLv X Y Z U (a.eval y)) (hT : ∀ v, PQv X Y Z U v → (T d).p v w) :
    OpTo Tryd.prog o a w (fun v w' => dOfW o T v w' ∧ Touch [] w w') := by
  obtain ⟨l, hq, e⟩ := hy
  refine OpTo.pureG (v := ptV true l) d hd ?_ (hT _ ⟨_, hq, rfl⟩)
  unfold execOp
  simp only [ho, List.map_toArray, List.map_cons, List.map_nil, hx, e, Sem.run_bind, Sem.run_pure, run_build_pt hq.len, Result.andThen_ok]
theorem exec_alloc_quad {ρ : Operand → Value} (ho : o.op = .alloc 27) : (execOp ρ o).run Tryd.prog w = .ok (.value (.pointer (some ⟨w.heap.size, 0, none⟩))) (w.alloc (.cells (cellsZ zl).toArray 27)) := by
  unfold execOp
  simp only [ho, Sem.run_bind, Sem.run_pure, run_alloc_quad, Result.andThen_ok]
theorem exec_alloc_pt {ρ : Operand → Value} (ho : o.op = .alloc 29) : (execOp ρ o).run Tryd.prog w = .ok (.value (.pointer (some ⟨w.heap.size, 0, none⟩))) (w.alloc (.cells (ptA false zl) 29)) := by
  unfold execOp
  simp only [ho, Sem.run_bind, Sem.run_pure, run_alloc_pt, Result.andThen_ok]
theorem exec_alloc_el {ρ : Operand → Value} (ho : o.op = .alloc 25) : (execOp ρ o).run Tryd.prog w = .ok (.value (.pointer (some ⟨w.heap.size, 0, none⟩))) (w.alloc (.cells (cellsZ (List.replicate 16 0)).toArray 25)) := by
  unfold execOp
  simp only [ho, Sem.run_bind, Sem.run_pure, run_alloc_el, Result.andThen_ok]
theorem exec_box {ρ : Operand → Value} {t : TypeId} {x : Operand} {cs : Array Value} (ho : o.op = .box t x) (hx : ρ x = .agg cs) : (execOp ρ o).run Tryd.prog w = .ok (.value (.pointer (some ⟨w.heap.size, 0, none⟩))) (w.alloc (.cells cs t)) := by
  unfold execOp
  simp only [ho, hx]
  go_simp
end
/-- What a number, a point leaves. -/
theorem EV.list {n : Nat} {v : Value} (h : EV n v) : ∃ l, v = elV l ∧ Red l ∧ fe l = n := by
  obtain ⟨l, h1, h2, h3⟩ := h
  exact ⟨l, h3, h1, h2⟩
theorem exec_assign {P : Program} {o : Oper} {w : World} {ρ : Operand → Value} {x : Operand} (ho : o.op = .assign x) : (execOp ρ o).run P w = .ok (.value (ρ x)) w := by
  unfold execOp
  simp only [ho]
  rfl
theorem exec_assignV {P : Program} {o : Oper} {w : World} {ρ : Operand → Value} {x : Operand} {v : Value} (ho : o.op = .assign x) (hx : ρ x = v) : (execOp ρ o).run P w = .ok (.value v) w := by
  rw [exec_assign ho, hx]
theorem zl_len : zl.length = 64 := by unfold zl; rw [List.length_replicate]
theorem ne_new {w : World} {g g' : Nat} {t : TypeId} {cs : Array Value} (h : Blk w g t cs) (h' : w.heap.size ≤ g') : g ≠ g' := by
  have := h.lt
  omega
theorem Blk.cell_at {w : World} {g : Nat} {t : TypeId} {cs : Array Value} {v : Value} (h : Blk w g t cs) (i : Nat) (hv : cs[i]? = some v) : w.cell? ⟨g, i, none⟩ = some v := by rw [h.cell, hv]
/-- A tuple whose first part is known by a predicate. -/
def Tup (p : Value → Prop) (y : Value) (v : Value) : Prop := ∃ x, p x ∧ v = .tuple #[x, y]
section
variable {P : Program} {o : Oper} {a : Act} {w : World} {T : Tmp → SP}
theorem OpTo.ext0 (d : Tmp) (x : Operand) (ho : o.op = .extract x 0) (hd : o.dst = some d) {p : Value → Prop} {y : Value} (h : ∃ u, p u ∧ a.eval x = .tuple #[u, y]) (hT : ∀ v, p v → (T d).p v w) :
    OpTo P o a w (fun v w' => dOfW o T v w' ∧ Touch [] w w') := by
  obtain ⟨u, hu, e⟩ := h
  exact OpTo.pureG (v := u) d hd (by unfold execOp; simp only [ho, e]; go_simp) (hT _ hu)
theorem OpTo.ext1 (d : Tmp) (x : Operand) (ho : o.op = .extract x 1) (hd : o.dst = some d) {p : Value → Prop} {y : Value} (h : ∃ u, p u ∧ a.eval x = .tuple #[u, y]) (hT : (T d).p y w) :
    OpTo P o a w (fun v w' => dOfW o T v w' ∧ Touch [] w w') := by
  obtain ⟨u, hu, e⟩ := h
  exact OpTo.pureG (v := y) d hd (by unfold execOp; simp only [ho, e]; go_simp) hT
end
/-! ### A function's first blocks -/
theorem start1 (w : World) (t0 : TypeId) (c0 : Array Value) : ∃ W g0, W = w.alloc (.cells c0 t0) ∧ g0 = w.heap.size ∧ Blk W g0 t0 c0 ∧ Touch [] w W ∧ w.heap.size ≤ g0 :=
  ⟨_, _, rfl, rfl, Blk.new _ _ _, (Touch.refl _ _).alloc _, Nat.le_refl _⟩
theorem start2 (w : World) (t0 : TypeId) (c0 : Array Value) (t1 : TypeId) (c1 : Array Value) : ∃ W g0 g1, W = (w.alloc (.cells c0 t0)).alloc (.cells c1 t1) ∧ g0 = w.heap.size ∧ g1 = (w.alloc (.cells c0 t0)).heap.size ∧ Blk W g0 t0 c0 ∧ Blk W g1 t1 c1 ∧ Touch [] w W ∧ w.heap.size ≤ g0 ∧ w.heap.size ≤ g1 ∧ g0 ≠ g1 :=
  ⟨_, _, _, rfl, rfl, rfl, (Blk.new _ _ _).alloc _, Blk.new _ _ _, ((Touch.refl _ _).alloc _).alloc _, Nat.le_refl _, by simp, by simp⟩
theorem start3 (w : World) (t0 : TypeId) (c0 : Array Value) (t1 : TypeId) (c1 : Array Value) (t2 : TypeId) (c2 : Array Value) : ∃ W g0 g1 g2, W = ((w.alloc (.cells c0 t0)).alloc (.cells c1 t1)).alloc (.cells c2 t2) ∧ g0 = w.heap.size ∧ g1 = (w.alloc (.cells c0 t0)).heap.size ∧ g2 = ((w.alloc (.cells c0 t0)).alloc (.cells c1 t1)).heap.size ∧ Blk W g0 t0 c0 ∧ Blk W g1 t1 c1 ∧ Blk W g2 t2 c2 ∧ Touch [] w W ∧ w.heap.size ≤ g0 ∧ w.heap.size ≤ g1 ∧ w.heap.size ≤ g2 ∧ g0 ≠ g1 ∧ g0 ≠ g2 ∧ g1 ≠ g2 :=
  ⟨_, _, _, _, rfl, rfl, rfl, rfl, ((Blk.new _ _ _).alloc _).alloc _, (Blk.new _ _ _).alloc _, Blk.new _ _ _, (((Touch.refl _ _).alloc _).alloc _).alloc _, Nat.le_refl _, by simp, by simp; omega, by simp, by simp; omega, by simp⟩
end Go.Proofs.YtbgpgbfiadhddaaDoor
