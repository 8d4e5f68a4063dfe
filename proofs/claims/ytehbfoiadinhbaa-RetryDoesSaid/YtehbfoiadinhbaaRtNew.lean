/- A new table of requests. -/
import Derived.Test.YtehbfoiadinhbaaRtRight
import Derived.Carry
namespace Go.Proofs.Ytehbfoiadinhbaa
open Go Go.RowKit
/-- A table's cells. -/
def tbC (c : Cf) (pm ph : Nat) : Array Value := #[.int .u64 c.base, .int .u64 c.most, .int .u64 c.span, .int .i64 c.tries, .int .i64 c.room, .map (some pm), .pointer (some ⟨ph, 0, none⟩)]
abbrev tbRes (pt : Nat) (c : Cf) (pm ph : Nat) : Res := blkRes pt 69 (tbC c pm ph)
def NewTb (c : Cf) (w0 : World) (B : Nat) (rs : List Res) (e : Ending) (w' : World) : Prop :=
  ∃ pt pm ph, e = .returned (.tuple #[.pointer (some ⟨pt, 0, none⟩), .int .i64 0]) ∧ Sep w0 B w' (tbRes pt c pm ph :: mapRes pm [] (fun _ => 0) :: hRes ph [] c.room :: rs)
/-- Some of the objects, in another order. -/
theorem Sep.sel {w0 w : World} {B : Nat} {rs rs' : List Res} (h : Sep w0 B w rs) (f : Nat → Nat) (hf : ∀ i r, rs'[i]? = some r → rs[f i]? = some r) (hi : ∀ i j, i < rs'.length → j < rs'.length → i ≠ j → f i ≠ f j) : Sep w0 B w rs' := by
  obtain ⟨hb, hB, G, h1, h2⟩ := h
  have hl : ∀ i, i < rs'.length → f i < rs.length := fun i hi => (List.getElem?_eq_some_iff.1 (hf i _ (List.getElem?_eq_getElem hi))).1
  exact ⟨hb, hB, fun j => G (f j), fun j q hq => h1 (f j) q (hf j q hq), fun j l hj hl' hne k hk => h2 (f j) (f l) (hl j hj) (hl l hl') (hi j l hj hl' hne) k hk⟩
/-- The fourth object is nobody's any more. -/
theorem Sep.drop3 {w0 w : World} {B : Nat} {a b c d : Res} {rs : List Res} (h : Sep w0 B w (a :: b :: c :: d :: rs)) : Sep w0 B w (a :: b :: c :: rs) :=
  h.sel (fun i => if i < 3 then i else i + 1) (fun i r hr => by
    match i, hr with
    | 0, hr => exact hr
    | 1, hr => exact hr
    | 2, hr => exact hr
    | i + 3, hr =>
      simp only [show ¬ i + 3 < 3 by omega, if_false]
      simpa using hr) (fun i j _ _ hne => by
    by_cases h1 : i < 3 <;> by_cases h2 : j < 3 <;> simp only [h1, h2, if_true, if_false] <;> omega)
theorem Sep.cellAt {w0 w : World} {B : Nat} {rs : List Res} (h : Sep w0 B w rs) (i : Nat) {g : Nat} {t : TypeId} {cs : Array Value} (hi : rs[i]? = some (blkRes g t cs)) (k : Nat) {v : Value} (hk : cs[k]? = some v) : w.cell? ⟨g, k, none⟩ = some v := by
  obtain ⟨F, _, hb⟩ := h.look i hi
  rw [hb.cell, hk]
set_option maxRecDepth 100000 in
theorem newR_yes {w0 w : World} {B : Nat} {rs : List Res} (h : Sep w0 B w rs) (c : Cf) (hc : cfOk c) : Calls Try.prog 9 #[cfV c] w (NewTb c w0 B rs) := by
  have HR := Lib.hid (fun W => right_yes c hc W)
  have hr1 : 1 ≤ c.room := hc.2.2.2.2.2.2.1
  have hr2 : c.room ≤ 10000 := hc.2.2.2.2.2.2.2
  have hmm := @run_makeMap Try.prog
  clear hc
  unfold cfV at HR ⊢
  go_enter Try.func9, Try.ntmps9
  go_wp2_with fail
  refine (HR.out _).mono ?_
  rintro e w1 ⟨rfl, ht⟩
  have hs1 := (h.add (r := blkRes w.heap.size 24 (cfC c).toArray) (F := [w.heap.size]) ⟨rfl, Blk.new _ _ _⟩ ((Touch.refl _ _).alloc _) (by simp)).touch ht
  have hc4 : w1.cell? ⟨w.heap.size, 4, none⟩ = some (.int .i64 c.room) := hs1.cellAt 0 rfl 4 rfl
  have Hs1 := Lib.hid hs1
  clear hs1 ht h HR
  go_wp2_with fail
  refine (newT_sep Hs1.out c.room hr1 hr2).mono ?_
  rintro e w2 ⟨p, rfl, hs2⟩
  have h0 : w2.cell? ⟨w.heap.size, 0, none⟩ = some (.int .u64 c.base) := hs2.cellAt 1 rfl 0 rfl
  have h1 : w2.cell? ⟨w.heap.size, 1, none⟩ = some (.int .u64 c.most) := hs2.cellAt 1 rfl 1 rfl
  have h2 : w2.cell? ⟨w.heap.size, 2, none⟩ = some (.int .u64 c.span) := hs2.cellAt 1 rfl 2 rfl
  have h3 : w2.cell? ⟨w.heap.size, 3, none⟩ = some (.int .i64 c.tries) := hs2.cellAt 1 rfl 3 rfl
  have h4 : w2.cell? ⟨w.heap.size, 4, none⟩ = some (.int .i64 c.room) := hs2.cellAt 1 rfl 4 rfl
  have Hs2 := Lib.hid hs2
  clear hs2 hc4 Hs1 hr1 hr2
  go_wp2_with fail
  go_ret2
  have hs3 := Hs2.out.newMap (fun _ => 0)
  have hs4 := hs3.add (w' := (w2.alloc (.map #[] 0)).alloc (.cells (tbC c w2.heap.size p) 69)) (r := tbRes (w2.heap.size + 1) c w2.heap.size p) (F := [w2.heap.size + 1]) ⟨rfl, by
    have := Blk.new (w2.alloc (.map #[] 0)) 69 (tbC c w2.heap.size p)
    simpa using this⟩ ((Touch.refl _ _).alloc _) (by simp)
  exact ⟨w2.heap.size + 1, w2.heap.size, p, rfl, hs4.drop3⟩
theorem newR_no (c : Cf) (hc : ¬ cfOk c) (w : World) : Calls Try.prog 9 #[cfV c] w fun e w' => e = .returned (.tuple #[.pointer none, .int .i64 1]) ∧ Touch [] w w' := by
  have HR := Lib.hid (fun W => right_no c hc W)
  clear hc
  unfold cfV at HR ⊢
  go_enter Try.func9, Try.ntmps9
  go_wp2_with fail
  refine (HR.out _).mono ?_
  rintro e w1 ⟨rfl, ht⟩
  have HT := Lib.hid (((Touch.refl [] w).alloc _).trans ht)
  clear ht
  go_wp2_with fail
  go_ret2
  exact ⟨rfl, HT.out⟩
end Go.Proofs.Ytehbfoiadinhbaa
