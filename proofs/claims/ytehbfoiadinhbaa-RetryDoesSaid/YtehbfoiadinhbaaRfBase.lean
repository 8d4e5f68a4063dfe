/- The document's table of requests: its rows in memory. -/
import Derived.Test.YtehbfoiadinhbaaRtTwo
namespace Go.Proofs.Ytehbfoiadinhbaa
open Go Go.RowKit
theorem infoRq : (Try.prog.info? 75).map (fun i => (i.zero, i.size, i.bytes)) = some (some (.agg #[.int .i64 0, .int .i64 0, .int .u64 0]), 3, 24) := by kernel_rfl
def cellsQ (L : List Al) (T : Int → Int) : List Value := L.flatMap fun a => [.int .i64 a.2, .int .i64 (T a.2), .int .u64 a.1]
theorem cellsQ_nil (T : Int → Int) : cellsQ [] T = [] := rfl
theorem cellsQ_cons (a : Al) (L : List Al) (T : Int → Int) : cellsQ (a :: L) T = .int .i64 a.2 :: .int .i64 (T a.2) :: .int .u64 a.1 :: cellsQ L T := rfl
theorem cellsQ_len (L : List Al) (T : Int → Int) : (cellsQ L T).length = L.length * 3 := by
  induction L with
  | nil => rfl
  | cons a L ih => rw [cellsQ_cons]; simp only [List.length_cons]; omega
theorem cellsQ_at (L : List Al) (T : Int → Int) (j : Nat) (hj : j < L.length) : (cellsQ L T)[j * 3]? = some (.int .i64 (atA L j).2) ∧ (cellsQ L T)[j * 3 + 1]? = some (.int .i64 (T (atA L j).2)) ∧ (cellsQ L T)[j * 3 + 2]? = some (.int .u64 (atA L j).1) := by
  induction L generalizing j with
  | nil => simp at hj
  | cons a L ih =>
    cases j with
    | zero => exact ⟨rfl, rfl, rfl⟩
    | succ j =>
      have h := ih j (by simpa using hj)
      have e2 : atA (a :: L) (j + 1) = atA L j := by simp [atA, List.getD]
      rw [cellsQ_cons, e2, show (j + 1) * 3 = j * 3 + 1 + 1 + 1 by omega, show j * 3 + 1 + 1 + 1 + 1 = (j * 3 + 1) + 1 + 1 + 1 by omega, show j * 3 + 1 + 1 + 1 + 2 = (j * 3 + 2) + 1 + 1 + 1 by omega]
      simp only [List.getElem?_cons_succ]
      exact h
theorem cellsQ_one (L : List Al) (T : Int → Int) : ∀ u ∈ cellsQ L T, u.oneCell' = true := by
  intro u hu
  unfold cellsQ at hu
  rw [List.mem_flatMap] at hu
  obtain ⟨a, _, ha⟩ := hu
  simp at ha
  rcases ha with rfl | rfl | rfl <;> rfl
theorem cellsQ_append (L M : List Al) (T : Int → Int) : cellsQ (L ++ M) T = cellsQ L T ++ cellsQ M T := by unfold cellsQ; rw [List.flatMap_append]
theorem cellsQ_snoc (L : List Al) (T : Int → Int) (a : Al) : cellsQ (L ++ [a]) T = cellsQ L T ++ [.int .i64 a.2, .int .i64 (T a.2), .int .u64 a.1] := cellsQ_append _ _ _
theorem cellsQ_drop (S : List Al) (T : Int → Int) (k : Nat) : (cellsQ S T).drop (k * 3) = cellsQ (S.drop k) T := by
  induction S generalizing k with
  | nil => simp [cellsQ]
  | cons a S ih =>
    cases k with
    | zero => simp
    | succ k => rw [cellsQ_cons, show (k + 1) * 3 = k * 3 + 1 + 1 + 1 by omega, List.drop_succ_cons, List.drop_succ_cons, List.drop_succ_cons, ih k, List.drop_succ_cons]
theorem cellsQ_same {L : List Al} {T U : Int → Int} (h : ∀ a, a ∈ idsA L → T a = U a) : cellsQ L T = cellsQ L U := by
  induction L with
  | nil => rfl
  | cons a L ih =>
    rw [cellsQ_cons, cellsQ_cons, h a.2 (by simp [idsA]), ih (fun b hb => h b (by rw [idsA, List.map_cons]; exact List.mem_cons_of_mem _ hb))]
/-- A request that was just laid. -/
theorem Src.rq {P : Program} {tx e' : TypeId} (hk : P.underlying tx = some (.slice e')) (w : World) (t : TypeId) (x y z : Int) :
    Src P 3 tx (.slice (some ⟨w.heap.size, 0, none⟩) 1 1) 1 [.int .i64 x, .int .i64 y, .int .u64 z] (w.alloc (.cells #[.int .i64 x, .int .i64 y, .int .u64 z] t)) :=
  Src.ofSlice _ hk ⟨w.heap.size, 0, none⟩ 1 1 _ rfl (fun j u hj => by
    match j, hj with
    | 0, hj => simp at hj; subst hj; exact (Blk.new w _ _).cell 0
    | 1, hj => simp at hj; subst hj; exact (Blk.new w _ _).cell 1
    | 2, hj => simp at hj; subst hj; exact (Blk.new w _ _).cell 2) (fun u hu => by simp at hu; rcases hu with rfl | rfl | rfl <;> rfl)
def rowQ (v : Value) (S : List Al) (T : Int → Int) : Res := slRes 75 3 v S.length (cellsQ S T)
def rqC (c : Cf) (v : Value) : Array Value := #[.int .u64 c.base, .int .u64 c.most, .int .u64 c.span, .int .i64 c.tries, .int .i64 c.room, v]
def rqRes (q : Nat) (c : Cf) (v : Value) : Res := blkRes q 61 (rqC c v)
section
variable {w0 w : World} {B : Nat} {rs : List Res}
/-- The cells of one request of a row. -/
theorem Sep.req (h : Sep w0 B w rs) (i : Nat) {A : Option Addr} {c : Nat} {S : List Al} {T : Int → Int} (hi : rs[i]? = some (rowQ (.slice A S.length c) S T)) {k : Nat} (hk : k < S.length) :
    ∃ g off, A = some ⟨g, off, none⟩ ∧ S.length ≤ c ∧ w.cell? ⟨g, off + k * 3, none⟩ = some (.int .i64 (atA S k).2) ∧ w.cell? ⟨g, off + k * 3 + 1, none⟩ = some (.int .i64 (T (atA S k).2)) ∧ w.cell? ⟨g, off + k * 3 + 2, none⟩ = some (.int .u64 (atA S k).1) := by
  obtain ⟨F, row, rfl, ho⟩ := h.look i hi
  obtain ⟨g, off, c', cur, hv, hrow, hb, _, hnc, _, _, hx⟩ := ho.at_ (by omega)
  injection hv with hA _ hc
  subst hA
  subst hc
  obtain ⟨h1, h2, h3⟩ := cellsQ_at S T k hk
  exact ⟨g, off, rfl, hnc, (hb.cell _).trans (hx _ _ h1), (hb.cell _).trans (hx _ _ h2), (hb.cell _).trans (hx _ _ h3)⟩
/-- A cell of a block is written. -/
theorem Sep.setAt (h : Sep w0 B w rs) (i : Nat) {g : Nat} {t : TypeId} {cs : Array Value} (hi : rs[i]? = some (blkRes g t cs)) (j : Nat) (v : Value) :
    Sep w0 B (w.setCell ⟨g, j, none⟩ v) (rs.set i (blkRes g t (cs.setIfInBounds j v))) := by
  obtain ⟨F, ⟨rfl, hb⟩, hset⟩ := h.focus i hi
  exact hset _ _ [g] ⟨rfl, hb.set_ j v⟩ ((Touch.refl _ _).setCell (.inl (by simp)) v) (fun k hk => .inl hk)
/-- The first object takes another one's place. -/
theorem Sep.lay {x : Res} (h : Sep w0 B w (x :: rs)) (j : Nat) (hj : j < rs.length) : Sep w0 B w (rs.set j x) :=
  h.sel (fun k => if k = j then 0 else k + 1) (fun k r hr => by
    by_cases hk : k = j
    · subst hk
      rw [List.getElem?_set_self hj] at hr
      simpa using hr
    · rw [List.getElem?_set_ne (Ne.symm hk)] at hr
      simpa [hk] using hr) (fun k l _ _ hne => by
    by_cases h1 : k = j <;> by_cases h2 : l = j <;> simp only [h1, h2, if_true, if_false] <;> omega)
/-- The second object is nobody's any more. -/
theorem Sep.drop1 {a b : Res} (h : Sep w0 B w (a :: b :: rs)) : Sep w0 B w (a :: rs) :=
  h.sel (fun i => if i < 1 then i else i + 1) (fun i r hr => by
    match i, hr with
    | 0, hr => exact hr
    | i + 1, hr => simpa using hr) (fun i j _ _ hne => by
    by_cases h1 : i < 1 <;> by_cases h2 : j < 1 <;> simp only [h1, h2, if_true, if_false] <;> omega)
/-- A new slice of no element. -/
theorem Sep.none_ (h : Sep w0 B w rs) (e size : Nat) (o : Obj) : Sep w0 B (w.alloc o) (slRes e size (.slice (some ⟨w.heap.size, 0, none⟩) 0 0) 0 [] :: rs) := (h.alloc o).bare e size _
/-- Its table: the config's numbers, and the slice. -/
structure RfAt (rs : List Res) (i j q : Nat) (c : Cf) (A : Option Addr) (cap : Nat) (S : List Al) (T : Int → Int) : Prop where
  b : rs[i]? = some (rqRes q c (.slice A S.length cap))
  r : rs[j]? = some (rowQ (.slice A S.length cap) S T)
  ne : i ≠ j
def setRf (rs : List Res) (i j q : Nat) (c : Cf) (A : Option Addr) (cap : Nat) (S : List Al) (T : Int → Int) : List Res := (rs.set i (rqRes q c (.slice A S.length cap))).set j (rowQ (.slice A S.length cap) S T)
theorem RfAt.next {i j q : Nat} {c : Cf} {A A' : Option Addr} {cap cap' : Nat} {S S' : List Al} {T T' : Int → Int} (h : RfAt rs i j q c A cap S T) : RfAt (setRf rs i j q c A' cap' S' T') i j q c A' cap' S' T' := by
  have h1 := (List.getElem?_eq_some_iff.1 h.b).1
  have h2 := (List.getElem?_eq_some_iff.1 h.r).1
  refine ⟨?_, ?_, h.ne⟩
  · rw [setRf, List.getElem?_set_ne (Ne.symm h.ne), List.getElem?_set_self h1]
  · rw [setRf, List.getElem?_set_self (by rw [List.length_set]; exact h2)]
theorem rf_blk (h : Sep w0 B w rs) {i q : Nat} {c : Cf} {v : Value} (hi : rs[i]? = some (rqRes q c v)) : Blk w q 61 (rqC c v) := h.blkAt i hi
theorem rf_cell (h : Sep w0 B w rs) {i q : Nat} {c : Cf} {v : Value} (hi : rs[i]? = some (rqRes q c v)) : w.cell? ⟨q, 5, none⟩ = some v := (rf_blk h hi).cell 5
theorem rf_range {q : Nat} {c : Cf} {v : Value} (h : Blk w q 61 (rqC c v)) : w.rangeAt q 0 (cfC c) := by
  intro j u hj
  rw [h.cell, Nat.zero_add]
  match j, hj with
  | 0, hj => exact hj
  | 1, hj => exact hj
  | 2, hj => exact hj
  | 3, hj => exact hj
  | 4, hj => exact hj
end
theorem insS_at {S : List Al} {a : Al} {k : Nat} (hk : k ≤ S.length) (hb : ∀ j, j < k → ltA (atA S j) a) (he : k < S.length → ¬ ltA (atA S k) a) : insS S a = S.take k ++ a :: S.drop k := by
  have hs : ∀ b ∈ S.take k, decide (ltA b a) = true := fun b hb' => by
    obtain ⟨j, hj, rfl⟩ := List.getElem_of_mem hb'
    rw [List.length_take] at hj
    have := hb j (by omega)
    rw [atA_get (by omega)] at this
    simpa using this
  have hd : (S.drop k).takeWhile (fun b => decide (ltA b a)) = [] ∧ (S.drop k).dropWhile (fun b => decide (ltA b a)) = S.drop k := by
    by_cases hkl : k < S.length
    · have := he hkl
      rw [atA_get hkl] at this
      rw [List.drop_eq_getElem_cons hkl, List.takeWhile_cons_of_neg (by simpa using this), List.dropWhile_cons_of_neg (by simpa using this)]
      exact ⟨rfl, rfl⟩
    · rw [List.drop_of_length_le (by omega)]
      exact ⟨rfl, rfl⟩
  unfold insS
  conv => lhs; rw [← List.take_append_drop k S]
  rw [List.takeWhile_append_of_pos (fun b hb => hs b hb), List.dropWhile_append_of_pos (fun b hb => hs b hb), hd.1, hd.2, List.append_nil]
theorem hasA_take {S : List Al} {k : Nat} (hk : k < S.length) (id : Int) (h : hasA (S.take k) id = false) (hne : (atA S k).2 ≠ id) : hasA (S.take (k + 1)) id = false := by
  have e : S.take k ++ [S[k]] = S.take (k + 1) := List.take_append_getElem hk
  rw [atA_get hk] at hne
  unfold hasA at *
  rw [← e, List.any_append, h]
  simp [hne]
theorem filter_take {S : List Al} {k : Nat} (hk : k < S.length) (f : Al → Bool) : (S.take (k + 1)).filter f = if f (atA S k) then (S.take k).filter f ++ [atA S k] else (S.take k).filter f := by
  have h : S.take k ++ [S[k]] = S.take (k + 1) := List.take_append_getElem hk
  rw [← h, List.filter_append, atA_get hk]
  by_cases hf : f S[k] = true
  · rw [if_pos hf]; simp [hf]
  · rw [if_neg hf]; simp [hf]
theorem take_snoc {S : List Al} {k : Nat} (hk : k < S.length) : S.take (k + 1) = S.take k ++ [atA S k] := by rw [atA_get hk, List.take_append_getElem hk]
end Go.Proofs.Ytehbfoiadinhbaa
