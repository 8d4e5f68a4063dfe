/- Objects that lie apart: each has a footprint (blocks), is told by that alone, and no two share a block. -/
import Derived.Test.YtbgpgbfiadhddaaDoorMem
namespace Go.Proofs.YtbgpgbfiadhddaaDoor
open Go.RowKit
structure Res where
  P : List Nat → World → Prop
  loc : ∀ F w w', P F w → (∀ k, k ∈ F → w'.heap[k]? = w.heap[k]?) → P F w'
  lt : ∀ F w, P F w → ∀ k, k ∈ F → k < w.heap.size

/-- Since w0 nothing below B has turned; the objects rs lie in w, all from B on, apart from one another. -/
def Sep (w0 : World) (B : Nat) (w : World) (rs : List Res) : Prop :=
  Below B w0 w ∧ B ≤ w0.heap.size ∧ ∃ F : Nat → List Nat, (∀ i r, rs[i]? = some r → r.P (F i) w ∧ ∀ k, k ∈ F i → B ≤ k) ∧
    (∀ i j, i < rs.length → j < rs.length → i ≠ j → ∀ k, k ∈ F i → k ∉ F j)

theorem Sep.start (w : World) : Sep w w.heap.size w [] := ⟨Below.refl _ _, Nat.le_refl _, fun _ => [], fun _ _ h => by simp at h, fun _ _ h => by simp at h⟩
theorem Sep.below {w0 w : World} {B : Nat} {rs : List Res} (h : Sep w0 B w rs) : Below B w0 w := h.1
theorem Sep.size {w0 w : World} {B : Nat} {rs : List Res} (h : Sep w0 B w rs) : B ≤ w.heap.size := Nat.le_trans h.2.1 h.1.size
theorem Sep.drewN {w0 w : World} {B : Nat} {rs : List Res} (h : Sep w0 B w rs) (n : Nat) : Sep w0 B (w.drewN n) rs := by
  obtain ⟨hb, hB, F, h1, h2⟩ := h
  exact ⟨⟨hb.os, hb.tape, hb.output, hb.size, hb.block⟩, hB, F, fun i r hr => ⟨r.loc _ _ _ (h1 i r hr).1 (fun _ _ => rfl), (h1 i r hr).2⟩, h2⟩
theorem Sep.drew {w0 w : World} {B : Nat} {rs : List Res} (h : Sep w0 B w rs) : Sep w0 B w.drew rs := h.drewN 1
/-- Memory that is new, and nobody's. -/
theorem Sep.touch {w0 w w' : World} {B : Nat} {rs : List Res} (h : Sep w0 B w rs) (ht : Touch [] w w') : Sep w0 B w' rs := by
  obtain ⟨hb, hB, F, h1, h2⟩ := h
  refine ⟨hb.trans (ht.below (Nat.le_trans hB hb.size) (by simp)), hB, F, fun i r hr => ⟨r.loc _ _ _ (h1 i r hr).1 (fun k hk => ht.block k (r.lt _ _ (h1 i r hr).1 k hk) (by simp)), (h1 i r hr).2⟩, h2⟩
theorem Sep.alloc {w0 w : World} {B : Nat} {rs : List Res} (h : Sep w0 B w rs) (o : Obj) : Sep w0 B (w.alloc o) rs := h.touch ((Touch.refl [] w).alloc o)
/-- One object, and what becomes of the whole when it alone is worked on. -/
theorem Sep.focus {w0 w : World} {B : Nat} {rs : List Res} (h : Sep w0 B w rs) (i : Nat) {r : Res} (hi : rs[i]? = some r) :
    ∃ F, r.P F w ∧ ∀ (w' : World) (r' : Res) (F' : List Nat), r'.P F' w' → Touch F w w' → (∀ k, k ∈ F' → k ∈ F ∨ w.heap.size ≤ k) → Sep w0 B w' (rs.set i r') := by
  obtain ⟨hb, hB, F, h1, h2⟩ := h
  have hil : i < rs.length := (List.getElem?_eq_some_iff.1 hi).1
  refine ⟨F i, (h1 i r hi).1, fun w' r' F' hP ht hn => ?_⟩
  have hBw : B ≤ w.heap.size := Nat.le_trans hB hb.size
  refine ⟨hb.trans (ht.below hBw (h1 i r hi).2), hB, fun j => if j = i then F' else F j, fun j q hq => ?_, fun j l hj hl hne k hk => ?_⟩
  · by_cases hji : j = i
    · subst hji
      rw [List.getElem?_set_self hil] at hq
      injection hq with hq
      subst hq
      simp only [if_true]
      exact ⟨hP, fun k hk => (hn k hk).elim ((h1 j r hi).2 k) (fun hk => Nat.le_trans hBw hk)⟩
    · rw [List.getElem?_set_ne (Ne.symm hji)] at hq
      simp only [hji, if_false]
      refine ⟨q.loc _ _ _ (h1 j q hq).1 (fun k hk => ht.block k (q.lt _ _ (h1 j q hq).1 k hk) ?_), (h1 j q hq).2⟩
      exact h2 j i (List.getElem?_eq_some_iff.1 hq).1 hil hji k hk
  · rw [List.length_set] at hj hl
    have hlt : ∀ m, m < rs.length → ∀ k, k ∈ F m → k < w.heap.size := fun m hm k hk => (rs[m]).lt _ _ (h1 m rs[m] (List.getElem?_eq_getElem hm)).1 k hk
    by_cases hji : j = i
    · have hli : l ≠ i := fun e => hne (by rw [hji, e])
      simp only [hji, if_true] at hk
      simp only [hli, if_false]
      intro hkl
      rcases hn k hk with hk' | hk'
      · exact h2 i l hil hl (Ne.symm hli) k hk' hkl
      · have := hlt l hl k hkl; omega
    · simp only [hji, if_false] at hk
      by_cases hli : l = i
      · simp only [hli, if_true]
        intro hkl
        rcases hn k hkl with hk' | hk'
        · exact h2 j i hj hil hji k hk hk'
        · have := hlt j hj k hk; omega
      · simp only [hli, if_false]
        exact h2 j l hj hl hne k hk
/-- What one object is, for whoever only reads it. -/
theorem Sep.look {w0 w : World} {B : Nat} {rs : List Res} (h : Sep w0 B w rs) (i : Nat) {r : Res} (hi : rs[i]? = some r) : ∃ F, r.P F w := by
  obtain ⟨F, hF, _⟩ := h.focus i hi
  exact ⟨F, hF⟩
/-- One object more, in new memory. -/
theorem Sep.add {w0 w w' : World} {B : Nat} {rs : List Res} (h : Sep w0 B w rs) {r : Res} {F : List Nat} (hP : r.P F w') (ht : Touch [] w w') (hn : ∀ k, k ∈ F → w.heap.size ≤ k) : Sep w0 B w' (r :: rs) := by
  have hBw := h.size
  obtain ⟨hb, hB, G, h1, h2⟩ := h
  have hlt : ∀ m, m < rs.length → ∀ k, k ∈ G m → k < w.heap.size := fun m hm k hk => (rs[m]).lt _ _ (h1 m rs[m] (List.getElem?_eq_getElem hm)).1 k hk
  refine ⟨hb.trans (ht.below hBw (by simp)), hB, fun j => match j with | 0 => F | j + 1 => G j, fun j q hq => ?_, fun j l hj hl hne k hk => ?_⟩
  · match j, hq with
    | 0, hq =>
      simp at hq
      subst hq
      exact ⟨hP, fun k hk => Nat.le_trans hBw (hn k hk)⟩
    | j + 1, hq =>
      simp at hq
      exact ⟨q.loc _ _ _ (h1 j q hq).1 (fun k hk => ht.block k (q.lt _ _ (h1 j q hq).1 k hk) (by simp)), (h1 j q hq).2⟩
  · match j, l, hj, hl, hne, hk with
    | 0, 0, _, _, hne, _ => exact absurd rfl hne
    | 0, l + 1, _, hl, _, hk =>
      intro hkl
      have h3 := hlt l (by simpa using hl) k hkl
      have h4 := hn k hk
      omega
    | j + 1, 0, hj, _, _, hk =>
      intro hkl
      have h3 := hlt j (by simpa using hj) k hk
      have h4 := hn k hkl
      omega
    | j + 1, l + 1, hj, hl, hne, hk => exact h2 j l (by simpa using hj) (by simpa using hl) (fun e => hne (by rw [e])) k hk
/-- The first one is nobody's any more. -/
theorem Sep.forget {w0 w : World} {B : Nat} {rs : List Res} {r : Res} (h : Sep w0 B w (r :: rs)) : Sep w0 B w rs := by
  obtain ⟨hb, hB, G, h1, h2⟩ := h
  exact ⟨hb, hB, fun j => G (j + 1), fun j q hq => h1 (j + 1) q (by simpa using hq), fun j l hj hl hne k hk => h2 (j + 1) (l + 1) (by simpa using hj) (by simpa using hl) (by simpa using hne) k hk⟩
theorem Sep.swap {w0 w : World} {B : Nat} {rs : List Res} {r q : Res} (h : Sep w0 B w (r :: q :: rs)) : Sep w0 B w (q :: r :: rs) := by
  obtain ⟨hb, hB, G, h1, h2⟩ := h
  refine ⟨hb, hB, fun j => G (match j with | 0 => 1 | 1 => 0 | j + 2 => j + 2), fun j p hp => ?_, fun j l hj hl hne k hk => ?_⟩
  · match j, hp with
    | 0, hp => exact h1 1 p (by simpa using hp)
    | 1, hp => exact h1 0 p (by simpa using hp)
    | j + 2, hp => exact h1 (j + 2) p (by simpa using hp)
  · refine h2 _ _ ?_ ?_ ?_ k hk
    · match j, hj with
      | 0, _ => simp
      | 1, _ => simp
      | j + 2, hj => simpa using hj
    · match l, hl with
      | 0, _ => simp
      | 1, _ => simp
      | l + 2, hl => simpa using hl
    · match j, l, hne with
      | 0, 0, h => exact absurd rfl h
      | 0, 1, _ => simp
      | 0, l + 2, _ => simp
      | 1, 0, _ => simp
      | 1, 1, h => exact absurd rfl h
      | 1, l + 2, _ => simp
      | j + 2, 0, _ => simp
      | j + 2, 1, _ => simp
      | j + 2, l + 2, h => simpa using h

theorem Sep.perm3 {w0 w : World} {B : Nat} {rs : List Res} {r q p : Res} (h : Sep w0 B w (r :: q :: p :: rs)) : Sep w0 B w (p :: r :: q :: rs) := by
  obtain ⟨hb, hB, G, h1, h2⟩ := h
  refine ⟨hb, hB, fun j => G (match j with | 0 => 2 | 1 => 0 | 2 => 1 | j + 3 => j + 3), fun j q hq => ?_, fun j l hj hl hne k hk => ?_⟩
  · match j, hq with
    | 0, hq => exact h1 2 q (by simpa using hq)
    | 1, hq => exact h1 0 q (by simpa using hq)
    | 2, hq => exact h1 1 q (by simpa using hq)
    | j + 3, hq => exact h1 (j + 3) q (by simpa using hq)
  · refine h2 _ _ ?_ ?_ ?_ k hk
    · match j, hj with
      | 0, _ => simp
      | 1, _ => simp
      | 2, _ => simp
      | j + 3, hj => simpa using hj
    · match l, hl with
      | 0, _ => simp
      | 1, _ => simp
      | 2, _ => simp
      | l + 3, hl => simpa using hl
    · match j, l, hne with
      | 0, 0, h => exact absurd rfl h
      | 0, 1, _ => simp
      | 0, 2, _ => simp
      | 0, l + 3, _ => simp
      | 1, 0, _ => simp
      | 1, 1, h => exact absurd rfl h
      | 1, 2, _ => simp
      | 1, l + 3, _ => simp
      | 2, 0, _ => simp
      | 2, 1, _ => simp
      | 2, 2, h => exact absurd rfl h
      | 2, l + 3, _ => simp
      | j + 3, 0, _ => simp
      | j + 3, 1, _ => simp
      | j + 3, 2, _ => simp
      | j + 3, l + 3, h => simpa using h

/-- A slice that is owned, as an object. -/
def slRes (e size : Nat) (v : Value) (n : Nat) (xs : List Value) : Res where
  P F w := ∃ row, F = Option.toList row ∧ Own w e size v n xs row
  loc F w w' h hk := by
    obtain ⟨row, rfl, ho⟩ := h
    refine ⟨row, rfl, ho.1, ?_⟩
    rcases ho.2 with hn | ⟨g, off, c, cur, hv, hr, hb, rest⟩
    · exact .inl hn
    · exact .inr ⟨g, off, c, cur, hv, hr, (hk g (by rw [hr]; simp)).trans hb, rest⟩
  lt F w h k hk := by
    obtain ⟨row, rfl, ho⟩ := h
    exact ho.lt (Option.mem_toList.1 hk)
/-- A cell of a list that is owned. -/
theorem Sep.cell {w0 w : World} {B : Nat} {rs : List Res} (h : Sep w0 B w rs) (i : Nat) {e g off n c : Nat} {xs : List Value} (hi : rs[i]? = some (slRes e 1 (.slice (some ⟨g, off, none⟩) n c) n xs)) (j : Nat) {u : Value} (hj : xs[j]? = some u) :
    w.cell? ⟨g, off + j, none⟩ = some u := by
  obtain ⟨F, row, rfl, ho⟩ := h.look i hi
  have hlt : j < xs.length := (List.getElem?_eq_some_iff.1 hj).1
  rcases ho.2 with ⟨_, _, h0, _⟩ | ⟨g', off', c', cur, hv, _, hb, _, _, _, _, hx⟩
  · have := ho.1; omega
  · injection hv with ha _ _
    injection ha with ha
    injection ha with h1 h2
    subst h1; subst h2
    exact (hb.cell _).trans (hx j u hj)
/-- Where a list has an element, its address is known. -/
theorem Sep.addr {w0 w : World} {B : Nat} {rs : List Res} (h : Sep w0 B w rs) (i : Nat) {e n c : Nat} {A : Option Addr} {xs : List Value} (hi : rs[i]? = some (slRes e 1 (.slice A n c) n xs)) (hn : 0 < n) :
    ∃ g off, A = some ⟨g, off, none⟩ := by
  obtain ⟨F, row, rfl, ho⟩ := h.look i hi
  obtain ⟨g, off, c', cur, hv, _⟩ := ho.at_ hn
  injection hv with ha _ _
  exact ⟨g, off, ha⟩
/-- A block that is known whole, as an object. -/
def blkRes (g : Nat) (t : TypeId) (cs : Array Value) : Res where
  P F w := F = [g] ∧ Blk w g t cs
  loc F w w' h hk := ⟨h.1, (hk g (by rw [h.1]; simp)).trans h.2⟩
  lt F w h k hk := by
    rw [h.1] at hk
    simp at hk
    subst hk
    exact h.2.lt
theorem newRow_foot {w : World} {row row' : Option Nat} (h : NewRow w row row') : ∀ k, k ∈ row'.toList → k ∈ row.toList ∨ w.heap.size ≤ k := by
  intro k hk
  rw [Option.mem_toList] at hk
  exact (h k hk).elim (fun h => .inl (by rw [Option.mem_toList]; exact h)) .inr
/-- A slice that was just built of n elements of one cell. -/
theorem Own.built (w : World) (e : TypeId) (n : Nat) (cs : Array Value) (hn : cs.size = n) (h0 : 0 < n) (hm : n ≤ maxLen) :
    Own (w.alloc (.cells cs e)) e 1 (.slice (some ⟨w.heap.size, 0, none⟩) n n) n cs.toList (some w.heap.size) :=
  ⟨by simp [hn], .inr ⟨w.heap.size, 0, n, cs, rfl, rfl, Blk.new w e cs, h0, Nat.le_refl _, hm, by omega, fun j u hu => by rw [Nat.zero_add, ← Array.getElem?_toList]; exact hu⟩⟩
theorem Sep.built {w0 w : World} {B : Nat} {rs : List Res} (h : Sep w0 B w rs) (e : TypeId) (n : Nat) (cs : Array Value) (hn : cs.size = n) (h0 : 0 < n) (hm : n ≤ maxLen) :
    Sep w0 B (w.alloc (.cells cs e)) (slRes e 1 (.slice (some ⟨w.heap.size, 0, none⟩) n n) n cs.toList :: rs) :=
  h.add (r := slRes e 1 (.slice (some ⟨w.heap.size, 0, none⟩) n n) n cs.toList) ⟨_, rfl, Own.built w e n cs hn h0 hm⟩ ((Touch.refl _ _).alloc _) (by simp)
/-- A slice of length 0, wherever it points. -/
theorem Sep.bare {w0 w : World} {B : Nat} {rs : List Res} (h : Sep w0 B w rs) (e size : Nat) (A : Option Addr) : Sep w0 B w (slRes e size (.slice A 0 0) 0 [] :: rs) :=
  h.add (r := slRes e size (.slice A 0 0) 0 []) ⟨none, rfl, Own.nil _ _ _ _⟩ (Touch.refl _ _) (by simp)

section
variable {P : Program}
/-- append, to one of the objects. -/
theorem wpList_append_sep (w : World) {ops : Array Oper} {rest : List Oper} {o : Oper} {a : Act} {Q : Exit → Act → World → Prop} (hgd : o.guard = none) (s x : Operand) (t tx : TypeId)
    (ho : o.op = .call { callee := .builtin .append, args := #[s, x], argTypes := #[t, tx] })
    (e : TypeId) (i : TypeInfo) (z : Value) (size bytes : Nat) (ht : P.underlying t = some (.slice e)) (hi : P.info? e = some i) (hz : i.zero = some z)
    (hsize : i.size = size) (hby : i.bytes = bytes) (hzs : z.cells.size = size)
    {w0 : World} {B : Nat} {rs : List Res} (hsep : Sep w0 B w rs) (ix : Nat) (v : Value) (n : Nat) (xs : List Value) (hix : rs[ix]? = some (slRes e size v n xs)) (hv : a.eval s = v)
    (xv : Value) (m : Nat) (news : List Value) (hx : a.eval x = xv) (hs : Src P size tx xv m news w)
    (h63 : n + m ≤ maxLen) (hbytes : (n + m) * bytes ≤ 140737488355328)
    (h : ∀ A c w', Sep w0 B w' (rs.set ix (slRes e size (.slice A (n + m) c) (n + m) (xs ++ news))) → wpList P ops Q rest (a.put o.dst (.slice A (n + m) c)) w') : wpList P ops Q (o :: rest) a w := by
  obtain ⟨F, ⟨row, rfl, hown⟩, hset⟩ := hsep.focus ix hix
  refine wpList_append_Own w hgd s x t tx ho e i z size bytes ht hi hz hsize hby hzs v n xs row hv hown xv m news hx hs h63 hbytes fun v' w' row' hown' ht' hn => ?_
  obtain ⟨A, c, rfl, _⟩ := hown'.shape
  exact h A c w' (hset w' _ _ ⟨row', rfl, hown'⟩ ht' (newRow_foot hn))
end
/-- One element that was just laid. -/
theorem Src.one {P : Program} {tx e' : TypeId} (hk : P.underlying tx = some (.slice e')) (w : World) (t : TypeId) (v : Value) (h1 : v.oneCell' = true) :
    Src P 1 tx (.slice (some ⟨w.heap.size, 0, none⟩) 1 1) 1 [v] (w.alloc (.cells #[v] t)) :=
  Src.ofSlice _ hk ⟨w.heap.size, 0, none⟩ 1 1 [v] rfl (fun j u hj => by
    match j, hj with
    | 0, hj => simp at hj; subst hj; exact (Blk.new w _ _).cell 0) (fun u hu => by simp at hu; subst hu; exact h1)
/-- A list that is there can be appended from. -/
theorem Sep.src {P : Program} {w0 w : World} {B : Nat} {rs : List Res} (h : Sep w0 B w rs) (i : Nat) {e size n : Nat} {v : Value} {xs : List Value} (hi : rs[i]? = some (slRes e size v n xs)) (h1 : ∀ u ∈ xs, u.oneCell' = true)
    {tx e' : TypeId} (hk : P.underlying tx = some (.slice e')) : Src P size tx v n xs w := by
  obtain ⟨F, row, rfl, ho⟩ := h.look i hi
  exact ho.src h1 hk
end Go.Proofs.YtbgpgbfiadhddaaDoor
