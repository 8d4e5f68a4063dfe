/- Operations on texts, and sums, for drawn regions. -/
import Derived.Test.YtflpjnillfgghaaDoorWdFixed
namespace Go.Proofs.YtflpjnillfgghaaDoor
open Go Go.RowKit
theorem bl_cut (x : ByteArray) (k : Nat) : bl (x.extract 0 k) ++ bl (x.extract k x.size) = bl x := by
  rw [bl_extract2, bl_extract2, List.drop_zero, Nat.sub_zero, ← bl_len, ← List.length_drop, List.take_length, List.take_append_drop]
theorem sum_size (L : List Nat) : (stB (sumS L)).size = 64 := by rw [← bl_len, bl_stB (sumS_lt _), sumS_len]
/-- A slice of texts that was built. -/
def slS (xs : List ByteArray) : SP := ⟨fun v w => ∃ g, v = .slice (some ⟨g, 0, none⟩) xs.length xs.length ∧ Blk w g 9 (xs.map Value.string).toArray, fun _ _ _ ⟨g, hv, hb⟩ ht => ⟨g, hv, hb.touch ht (by simp)⟩⟩
theorem sum_blk (xs : List ByteArray) (L : List Nat) (hL : xs.flatMap bl = L) (hN : xs.length ≤ 1000) (hl : L.length ≤ 1000000) (g : Nat) (w : World) (hb : Blk w g 9 (xs.map Value.string).toArray) (hV : WideV w) :
    Calls Tryd.prog 8 #[.slice (some ⟨g, 0, none⟩) xs.length xs.length] w fun e w' => e = .returned (.string (stB (sumS L))) ∧ Touch [] w w' := by
  subst hL
  refine sum_parts g 0 xs.length xs w (fun j x hj => ?_) hb.lt hN (Nat.le_refl _) hl hV
  rw [hb.cell, Nat.zero_add, List.getElem?_toArray, List.getElem?_map, hj]
  rfl
section
variable {o : Oper} {a : Act} {w : World} {R : Value → World → Prop} {x y z u v : Operand} {t1 t2 : TypeId}
theorem OpTo.slHi (s : ByteArray) (j : Nat) (ho : o.op = .slice 9 x none (some y) none) (hx : a.eval x = .string s) (hy : a.eval y = .int .i64 (j : Int)) (h : j ≤ s.size) (hR : R (.string (s.extract 0 j)) w) : OpTo Tryd.prog o a w R :=
  OpTo.val (v := .string (s.extract 0 j)) (by
    have h := run_slice_string_h w 9 s Tryd.underlying9 .i64 (j : Int) (by omega) (by omega)
    unfold execOp
    simp only [ho, hx, Option.map_some, Option.map_none, hy]
    go_simp) hR
theorem OpTo.slLo (s : ByteArray) (j : Nat) (ho : o.op = .slice 9 x (some y) none none) (hx : a.eval x = .string s) (hy : a.eval y = .int .i64 (j : Int)) (h : j ≤ s.size) (hR : R (.string (s.extract j s.size)) w) : OpTo Tryd.prog o a w R :=
  OpTo.val (v := .string (s.extract j s.size)) (by
    have h := run_slice_string_l w 9 s Tryd.underlying9 .i64 (j : Int) (by omega) (by omega)
    unfold execOp
    simp only [ho, hx, Option.map_some, Option.map_none, hy]
    go_simp) hR
theorem OpTo.addT (s t : ByteArray) (ho : o.op = .binOp .add t1 x y t2) (hx : a.eval x = .string s) (hy : a.eval y = .string t) (hn : s.size + t.size ≤ 9223372036854775807) (hR : R (.string (s ++ t)) w) : OpTo Tryd.prog o a w R :=
  OpTo.val (v := .string (s ++ t)) (by
    unfold execOp
    simp only [ho, hx, hy]
    have := run_string_add_sum (P := Tryd.prog) (w := w) s t hn
    go_simp) hR
theorem OpTo.eqT (s : ByteArray) (ho : o.op = .binOp .eql t1 x y t2) (hx : a.eval x = .string s) (hy : a.eval y = .string s) (hR : R (.bool true) w) : OpTo Tryd.prog o a w R := by
  refine OpTo.eqS s s ho hx hy ?_
  rw [show (s.toList == s.toList) = true by simp]
  exact hR
theorem OpTo.lenT (s : ByteArray) (n : Nat) (hn : s.size = n) (ho : o.op = .call { callee := .builtin .len, args := #[x], argTypes := #[9] }) (hx : a.eval x = .string s) (hR : R (.int .i64 (n : Int)) w) : OpTo Tryd.prog o a w R := by
  refine OpTo.lenS Tryd.underlying9 s ho hx ?_
  rw [hn]
  exact hR
theorem OpTo.eqK (i : Int) (ho : o.op = .binOp .eql t1 x y t2) (hx : a.eval x = .int .i64 i) (hy : a.eval y = .int .i64 i) (hR : R (.bool true) w) : OpTo Tryd.prog o a w R := by
  refine OpTo.eqI .i64 i i ho hx hy ?_
  rw [decide_eq_true rfl]
  exact hR
end
section
variable {o : Oper} {a : Act} {w : World} {T : Tmp → SP} {x y z u v : Operand}
theorem OpTo.bld1 (s0 : ByteArray) (ho : o.op = .buildSlice 26 1 #[(0, x)]) (hx : a.eval x = .string s0) (hv : ∀ v w', (slS [s0]).p v w' → dOfW o T v w') : OpTo Tryd.prog o a w (fun v w' => dOfW o T v w' ∧ Touch [] w w') := by
  have h : (execOp a.eval o).run Tryd.prog w = .ok (.value (.slice (some ⟨w.heap.size, 0, none⟩) 1 1)) (w.alloc (.cells #[.string s0] 9)) := by
    unfold execOp
    simp only [ho]
    simp only [List.map_toArray, List.map_cons, List.map_nil, hx]
    go_simp
  intro K Q hK
  unfold Oper.wp
  rw [h]
  exact hK _ _ ⟨hv _ _ ⟨w.heap.size, rfl, Blk.new _ _ _⟩, (Touch.refl _ _).alloc _⟩
theorem OpTo.bld2 (s0 s1 : ByteArray) (ho : o.op = .buildSlice 26 2 #[(0, x), (1, y)]) (hx : a.eval x = .string s0) (hy : a.eval y = .string s1) (hv : ∀ v w', (slS [s0, s1]).p v w' → dOfW o T v w') : OpTo Tryd.prog o a w (fun v w' => dOfW o T v w' ∧ Touch [] w w') := by
  have h : (execOp a.eval o).run Tryd.prog w = .ok (.value (.slice (some ⟨w.heap.size, 0, none⟩) 2 2)) (w.alloc (.cells #[.string s0, .string s1] 9)) := by
    unfold execOp
    simp only [ho]
    simp only [List.map_toArray, List.map_cons, List.map_nil, hx, hy]
    go_simp
  intro K Q hK
  unfold Oper.wp
  rw [h]
  exact hK _ _ ⟨hv _ _ ⟨w.heap.size, rfl, Blk.new _ _ _⟩, (Touch.refl _ _).alloc _⟩
theorem OpTo.bld3 (s0 s1 s2 : ByteArray) (ho : o.op = .buildSlice 26 3 #[(0, x), (1, y), (2, z)]) (hx : a.eval x = .string s0) (hy : a.eval y = .string s1) (hz : a.eval z = .string s2) (hv : ∀ v w', (slS [s0, s1, s2]).p v w' → dOfW o T v w') : OpTo Tryd.prog o a w (fun v w' => dOfW o T v w' ∧ Touch [] w w') := by
  have h : (execOp a.eval o).run Tryd.prog w = .ok (.value (.slice (some ⟨w.heap.size, 0, none⟩) 3 3)) (w.alloc (.cells #[.string s0, .string s1, .string s2] 9)) := by
    unfold execOp
    simp only [ho]
    simp only [List.map_toArray, List.map_cons, List.map_nil, hx, hy, hz]
    go_simp
  intro K Q hK
  unfold Oper.wp
  rw [h]
  exact hK _ _ ⟨hv _ _ ⟨w.heap.size, rfl, Blk.new _ _ _⟩, (Touch.refl _ _).alloc _⟩
theorem OpTo.bld5 (s0 s1 s2 s3 s4 : ByteArray) (ho : o.op = .buildSlice 26 5 #[(0, x), (1, y), (2, z), (3, u), (4, v)]) (hx : a.eval x = .string s0) (hy : a.eval y = .string s1) (hz : a.eval z = .string s2) (hu : a.eval u = .string s3) (hv5 : a.eval v = .string s4) (hv : ∀ v w', (slS [s0, s1, s2, s3, s4]).p v w' → dOfW o T v w') : OpTo Tryd.prog o a w (fun v w' => dOfW o T v w' ∧ Touch [] w w') := by
  have h : (execOp a.eval o).run Tryd.prog w = .ok (.value (.slice (some ⟨w.heap.size, 0, none⟩) 5 5)) (w.alloc (.cells #[.string s0, .string s1, .string s2, .string s3, .string s4] 9)) := by
    unfold execOp
    simp only [ho]
    simp only [List.map_toArray, List.map_cons, List.map_nil, hx, hy, hz, hu, hv5]
    go_simp
  intro K Q hK
  unfold Oper.wp
  rw [h]
  exact hK _ _ ⟨hv _ _ ⟨w.heap.size, rfl, Blk.new _ _ _⟩, (Touch.refl _ _).alloc _⟩
/-- The sum of a slice that was built. -/
theorem OpTo.sum (xs : List ByteArray) (r : ByteArray) {ts : Array TypeId} (ho : o.op = .call { callee := .value (.func 8), args := #[x], argTypes := ts }) (hx : (slS xs).p (a.eval x) w)
    (H : ∀ (g : Nat) (W : World), Blk W g 9 (xs.map Value.string).toArray → WideV W → Calls Tryd.prog 8 #[.slice (some ⟨g, 0, none⟩) xs.length xs.length] W fun e w' => e = .returned (.string r) ∧ Touch [] W w')
    (hV : WideV w) (hv : ∀ w', dOfW o T (.string r) w') : OpTo Tryd.prog o a w (fun v w' => dOfW o T v w' ∧ Touch [] w w') := by
  obtain ⟨g, hg, hb⟩ := hx
  exact OpTo.call #[.slice (some ⟨g, 0, none⟩) xs.length xs.length] ho Tryd.func8 (by kernel_rfl) (by kernel_rfl) (by simp [hg]) ((H g w hb hV).mono fun e w' ⟨h1, h2⟩ => ⟨_, h1, hv w', h2⟩)
theorem OpTo.fixed {ts : Array TypeId} (ho : o.op = .call { callee := .value (.func 10), args := #[], argTypes := ts }) (hV : WideV w) (hv : ∀ w', dOfW o T (.bool true) w') : OpTo Tryd.prog o a w (fun v w' => dOfW o T v w' ∧ Touch [] w w') :=
  OpTo.call #[] ho Tryd.func10 (by kernel_rfl) (by kernel_rfl) (by simp) ((fixed_any w hV).mono fun e w' ⟨h1, h2⟩ => ⟨_, h1, hv w', h2⟩)
end
end Go.Proofs.YtflpjnillfgghaaDoor
