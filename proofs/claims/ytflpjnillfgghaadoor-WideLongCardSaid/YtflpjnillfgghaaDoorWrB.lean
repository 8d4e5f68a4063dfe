/- The document's sum: keys, words. -/
import Derived.Test.YtflpjnillfgghaaDoorWrA
import Derived.Test.YtflpjnillfgghaaDoorWdPartsWalk
namespace Go.Proofs.YtflpjnillfgghaaDoor
open Go Go.RowKit
theorem infoU : (Tryd.prog.info? 36).map (fun i => (i.zero, i.size, i.bytes)) = some (some (.int .u64 0), 1, 8) := by kernel_rfl
/-- A slice of words that can be read. -/
def Rd (W : World) (v : Value) (l : List Nat) : Prop := ∃ g off c, v = .slice (some ⟨g, off, none⟩) l.length c ∧ l.length ≤ c ∧ g < W.heap.size ∧ ∀ j, j < l.length → W.cell? ⟨g, off + j, none⟩ = some (.int .u64 ((l.getD j 0 : Nat) : Int))
theorem Rd.touch {W W' : World} {v : Value} {l : List Nat} (h : Rd W v l) (ht : Touch [] W W') : Rd W' v l := by
  obtain ⟨g, off, c, hv, hc, hg, hcell⟩ := h
  exact ⟨g, off, c, hv, hc, Nat.lt_of_lt_of_le hg ht.size, fun j hj => (ht.cell (p := ⟨g, off + j, none⟩) hg (by simp)).trans (hcell j hj)⟩
theorem Own.rd {w : World} {v : Value} {l : List Nat} {row : Option Nat} (h : Own w 36 1 v l.length (cellsN l) row) (h0 : 0 < l.length) : Rd w v l := by
  obtain ⟨g, off, c, cur, hv, hrow, hb, _, hnc, _, _, hx⟩ := h.at_ h0
  exact ⟨g, off, c, hv, hnc, hb.lt, fun j hj => (hb.cell _).trans (hx j _ (cellsN_at hj))⟩
theorem Sep.rd {w0 w : World} {B : Nat} {rs : List Res} (h : Sep w0 B w rs) (i : Nat) {v : Value} {l : List Nat} {n : Nat} (hi : rs[i]? = some (slRes 36 1 v n (cellsN l))) (hn : l.length = n) (h0 : 0 < n) : Rd w v l := by
  obtain ⟨F, row, rfl, ho⟩ := h.look i hi
  subst hn
  exact ho.rd h0
theorem Blk.rd {w : World} {g : Nat} {t : TypeId} {l : List Nat} (h : Blk w g t (cellsN l).toArray) : Rd w (.slice (some ⟨g, 0, none⟩) l.length l.length) l :=
  ⟨g, 0, l.length, rfl, Nat.le_refl _, h.lt, fun j hj => by rw [h.cell, Nat.zero_add, List.getElem?_toArray]; exact cellsN_at hj⟩
set_option maxRecDepth 100000 in
set_option maxHeartbeats 2000000 in
theorem keys_any (w : World) : Calls Tryd.prog 15 #[] w fun e w' => e = .returned (.slice (some ⟨w.heap.size, 0, none⟩) 80 80) ∧ w' = w.alloc (.cells (cellsN keyS).toArray 36) := by
  go_enter Tryd.func15, Tryd.ntmps15
  go_wp2_with fail
  go_ret
  exact ⟨rfl, by kernel_rfl⟩
theorem orr_ad (x c : Nat) (hc : c < 256) : orr (x * 256 % 18446744073709551616) c = ad (x * 256 % 18446744073709551616) c := by
  unfold orr ad
  obtain ⟨y, hy⟩ : ∃ y, x * 256 % 18446744073709551616 = y * 256 := ⟨x % 72057594037927936, by omega⟩
  have hy2 : y < 72057594037927936 := by omega
  rw [hy, Nat.mod_eq_of_lt (by omega), Nat.mod_eq_of_lt (show c < 18446744073709551616 by omega), Nat.mod_eq_of_lt (show y * 256 + c < 18446744073709551616 by omega)]
  have h := Nat.shiftLeft_add_eq_or_of_lt (i := 8) (b := c) hc y
  rw [Nat.shiftLeft_eq, show 2 ^ 8 = 256 from rfl] at h
  exact h.symm
section
variable {o : Oper} {a : Act} {w : World} {R : Value → World → Prop} {x y : Operand} {t1 t2 : TypeId}
theorem OpTo.quoN (i j : Nat) (hj : 0 < j) (ho : o.op = .binOp .quo t1 x y t2) (hx : a.eval x = .int .u64 (i : Int)) (hy : a.eval y = .int .u64 (j : Int)) (hi : i < 18446744073709551616) (hR : R (.int .u64 ((i / j : Nat) : Int)) w) : OpTo Tryd.prog o a w R :=
  OpTo.val (v := .int .u64 ((i / j : Nat) : Int)) (by
    have h1 : (j : Int) ≠ 0 := by omega
    have h2 : (i : Int).tdiv (j : Int) = ((i / j : Nat) : Int) := by rw [Int.tdiv_eq_ediv_of_nonneg (by omega)]; rfl
    unfold execOp
    simp only [ho, hx, hy]
    go_simp
    have h4 : i / j ≤ i := Nat.div_le_self _ _
    have h5 : (i : Int) / (j : Int) = ((i / j : Nat) : Int) := rfl
    rw [if_neg (by omega), h5]
    clear h2 h5 hR
    generalize i / j = q at *
    rw [IntWalk.u64_in (q : Int) (by omega)]) hR
theorem OpTo.ixL (g off n c i : Nat) (ho : o.op = .indexAddr 39 x y) (hx : a.eval x = .slice (some ⟨g, off, none⟩) n c) (hy : a.eval y = .int .i64 (i : Int)) (hi : i < n) (hR : R (.pointer (some ⟨g, off + i, none⟩)) w) : OpTo Tryd.prog o a w R :=
  OpTo.val (v := .pointer (some ⟨g, off + i, none⟩)) (by
    have h1 : (0 : Int) ≤ (i : Int) ∧ (i : Int) < (n : Int) := by omega
    unfold execOp
    simp only [ho, hx, hy]
    go_simp) hR
end
def slU (X : Nat) : SP := ⟨fun v w => ∃ g, v = .slice (some ⟨g, 0, none⟩) 1 1 ∧ Blk w g 36 #[.int .u64 (X : Int)], fun _ _ _ ⟨g, hv, hb⟩ ht => ⟨g, hv, hb.touch ht (by simp)⟩⟩
theorem OpTo.bldU {o : Oper} {a : Act} {w : World} {T : Tmp → SP} {x : Operand} (X : Nat) (ho : o.op = .buildSlice 39 1 #[(0, x)]) (hx : a.eval x = .int .u64 (X : Int)) (hv : ∀ v w', (slU X).p v w' → dOfW o T v w') : OpTo Tryd.prog o a w (fun v w' => dOfW o T v w' ∧ Touch [] w w') := by
  have h : (execOp a.eval o).run Tryd.prog w = .ok (.value (.slice (some ⟨w.heap.size, 0, none⟩) 1 1)) (w.alloc (.cells #[.int .u64 (X : Int)] 36)) := by
    unfold execOp
    simp only [ho]
    simp only [List.map_toArray, List.map_cons, List.map_nil, hx]
    go_simp
  intro K Q hK
  unfold Oper.wp
  rw [h]
  exact hK _ _ ⟨hv _ _ ⟨w.heap.size, rfl, Blk.new _ _ _⟩, (Touch.refl _ _).alloc _⟩
end Go.Proofs.YtflpjnillfgghaaDoor
