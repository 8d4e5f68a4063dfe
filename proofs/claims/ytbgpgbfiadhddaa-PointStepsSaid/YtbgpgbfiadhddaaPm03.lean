/- Sep; Fe; Fe2; Num; Prime; PtGrp: joined. -/
import Derived.Test.YtbgpgbfiadhddaaPm01
import Derived.Test.YtbgpgbfiadhddaaPm02
/- Objects that lie apart: each has a footprint (blocks), is told by that alone, and no two share a block. -/
namespace Go.Proofs.Ytbgpgbfiadhddaa
open Go.RowKit
structure Res where
  P : List Nat → World → Prop
  loc : ∀ F w w', P F w → (∀ k, k ∈ F → w'.heap[k]? = w.heap[k]?) → P F w'
  lt : ∀ F w, P F w → ∀ k, k ∈ F → k < w.heap.size

/-- Since w0 nothing below B has turned; the objects rs lie in w, all from B on, apart from one another. -/
def Sep (w0 : World) (B : Nat) (w : World) (rs : List Res) : Prop :=
  Below B w0 w ∧ B ≤ w0.heap.size ∧ ∃ F : Nat → List Nat, (∀ i r, rs[i]? = some r → r.P (F i) w ∧ ∀ k, k ∈ F i → B ≤ k) ∧
    (∀ i j, i < rs.length → j < rs.length → i ≠ j → ∀ k, k ∈ F i → k ∉ F j)

theorem Sep.start (w : World) : Sep w w.heap.size w [] := ⟨Below.refl _ _, Nat.le_refl _, fun _ => [], fun _ _ h => by simp at h, fun _ _ h => by simp at h⟩
theorem Sep.below {w0 w : World} {B : Nat} {rs : List Res} (h : Sep w0 B w rs) : Below B w0 w := h.1
theorem Sep.size {w0 w : World} {B : Nat} {rs : List Res} (h : Sep w0 B w rs) : B ≤ w.heap.size := Nat.le_trans h.2.1 h.1.size
theorem Sep.drewN {w0 w : World} {B : Nat} {rs : List Res} (h : Sep w0 B w rs) (n : Nat) : Sep w0 B (w.drewN n) rs := by
  obtain ⟨hb, hB, F, h1, h2⟩ := h
  exact ⟨⟨hb.os, hb.tape, hb.output, hb.size, hb.block⟩, hB, F, fun i r hr => ⟨r.loc _ _ _ (h1 i r hr).1 (fun _ _ => rfl), (h1 i r hr).2⟩, h2⟩
theorem Sep.drew {w0 w : World} {B : Nat} {rs : List Res} (h : Sep w0 B w rs) : Sep w0 B w.drew rs := h.drewN 1
/-- Memory that is new, and nobody's. -/
theorem Sep.touch {w0 w w' : World} {B : Nat} {rs : List Res} (h : Sep w0 B w rs) (ht : Touch [] w w') : Sep w0 B w' rs := by
  obtain ⟨hb, hB, F, h1, h2⟩ := h
  refine ⟨hb.trans (ht.below (Nat.le_trans hB hb.size) (by simp)), hB, F, fun i r hr => ⟨r.loc _ _ _ (h1 i r hr).1 (fun k hk => ht.block k (r.lt _ _ (h1 i r hr).1 k hk) (by simp)), (h1 i r hr).2⟩, h2⟩
theorem Sep.alloc {w0 w : World} {B : Nat} {rs : List Res} (h : Sep w0 B w rs) (o : Obj) : Sep w0 B (w.alloc o) rs := h.touch ((Touch.refl [] w).alloc o)
/-- One object, and what becomes of the whole when it alone is worked on. -/
theorem Sep.focus {w0 w : World} {B : Nat} {rs : List Res} (h : Sep w0 B w rs) (i : Nat) {r : Res} (hi : rs[i]? = some r) :
    ∃ F, r.P F w ∧ ∀ (w' : World) (r' : Res) (F' : List Nat), r'.P F' w' → Touch F w w' → (∀ k, k ∈ F' → k ∈ F ∨ w.heap.size ≤ k) → Sep w0 B w' (rs.set i r') := by
  obtain ⟨hb, hB, F, h1, h2⟩ := h
  have hil : i < rs.length := (List.getElem?_eq_some_iff.1 hi).1
  refine ⟨F i, (h1 i r hi).1, fun w' r' F' hP ht hn => ?_⟩
  have hBw : B ≤ w.heap.size := Nat.le_trans hB hb.size
  refine ⟨hb.trans (ht.below hBw (h1 i r hi).2), hB, fun j => if j = i then F' else F j, fun j q hq => ?_, fun j l hj hl hne k hk => ?_⟩
  · by_cases hji : j = i
    · subst hji
      rw [List.getElem?_set_self hil] at hq
      injection hq with hq
      subst hq
      simp only [if_true]
      exact ⟨hP, fun k hk => (hn k hk).elim ((h1 j r hi).2 k) (fun hk => Nat.le_trans hBw hk)⟩
    · rw [List.getElem?_set_ne (Ne.symm hji)] at hq
      simp only [hji, if_false]
      refine ⟨q.loc _ _ _ (h1 j q hq).1 (fun k hk => ht.block k (q.lt _ _ (h1 j q hq).1 k hk) ?_), (h1 j q hq).2⟩
      exact h2 j i (List.getElem?_eq_some_iff.1 hq).1 hil hji k hk
  · rw [List.length_set] at hj hl
    have hlt : ∀ m, m < rs.length → ∀ k, k ∈ F m → k < w.heap.size := fun m hm k hk => (rs[m]).lt _ _ (h1 m rs[m] (List.getElem?_eq_getElem hm)).1 k hk
    by_cases hji : j = i
    · have hli : l ≠ i := fun e => hne (by rw [hji, e])
      simp only [hji, if_true] at hk
      simp only [hli, if_false]
      intro hkl
      rcases hn k hk with hk' | hk'
      · exact h2 i l hil hl (Ne.symm hli) k hk' hkl
      · have := hlt l hl k hkl; omega
    · simp only [hji, if_false] at hk
      by_cases hli : l = i
      · simp only [hli, if_true]
        intro hkl
        rcases hn k hkl with hk' | hk'
        · exact h2 j i hj hil hji k hk hk'
        · have := hlt j hj k hk; omega
      · simp only [hli, if_false]
        exact h2 j l hj hl hne k hk
/-- What one object is, for whoever only reads it. -/
theorem Sep.look {w0 w : World} {B : Nat} {rs : List Res} (h : Sep w0 B w rs) (i : Nat) {r : Res} (hi : rs[i]? = some r) : ∃ F, r.P F w := by
  obtain ⟨F, hF, _⟩ := h.focus i hi
  exact ⟨F, hF⟩
/-- One object more, in new memory. -/
theorem Sep.add {w0 w w' : World} {B : Nat} {rs : List Res} (h : Sep w0 B w rs) {r : Res} {F : List Nat} (hP : r.P F w') (ht : Touch [] w w') (hn : ∀ k, k ∈ F → w.heap.size ≤ k) : Sep w0 B w' (r :: rs) := by
  have hBw := h.size
  obtain ⟨hb, hB, G, h1, h2⟩ := h
  have hlt : ∀ m, m < rs.length → ∀ k, k ∈ G m → k < w.heap.size := fun m hm k hk => (rs[m]).lt _ _ (h1 m rs[m] (List.getElem?_eq_getElem hm)).1 k hk
  refine ⟨hb.trans (ht.below hBw (by simp)), hB, fun j => match j with | 0 => F | j + 1 => G j, fun j q hq => ?_, fun j l hj hl hne k hk => ?_⟩
  · match j, hq with
    | 0, hq =>
      simp at hq
      subst hq
      exact ⟨hP, fun k hk => Nat.le_trans hBw (hn k hk)⟩
    | j + 1, hq =>
      simp at hq
      exact ⟨q.loc _ _ _ (h1 j q hq).1 (fun k hk => ht.block k (q.lt _ _ (h1 j q hq).1 k hk) (by simp)), (h1 j q hq).2⟩
  · match j, l, hj, hl, hne, hk with
    | 0, 0, _, _, hne, _ => exact absurd rfl hne
    | 0, l + 1, _, hl, _, hk =>
      intro hkl
      have h3 := hlt l (by simpa using hl) k hkl
      have h4 := hn k hk
      omega
    | j + 1, 0, hj, _, _, hk =>
      intro hkl
      have h3 := hlt j (by simpa using hj) k hk
      have h4 := hn k hkl
      omega
    | j + 1, l + 1, hj, hl, hne, hk => exact h2 j l (by simpa using hj) (by simpa using hl) (fun e => hne (by rw [e])) k hk
/-- The first one is nobody's any more. -/
theorem Sep.forget {w0 w : World} {B : Nat} {rs : List Res} {r : Res} (h : Sep w0 B w (r :: rs)) : Sep w0 B w rs := by
  obtain ⟨hb, hB, G, h1, h2⟩ := h
  exact ⟨hb, hB, fun j => G (j + 1), fun j q hq => h1 (j + 1) q (by simpa using hq), fun j l hj hl hne k hk => h2 (j + 1) (l + 1) (by simpa using hj) (by simpa using hl) (by simpa using hne) k hk⟩
theorem Sep.swap {w0 w : World} {B : Nat} {rs : List Res} {r q : Res} (h : Sep w0 B w (r :: q :: rs)) : Sep w0 B w (q :: r :: rs) := by
  obtain ⟨hb, hB, G, h1, h2⟩ := h
  refine ⟨hb, hB, fun j => G (match j with | 0 => 1 | 1 => 0 | j + 2 => j + 2), fun j p hp => ?_, fun j l hj hl hne k hk => ?_⟩
  · match j, hp with
    | 0, hp => exact h1 1 p (by simpa using hp)
    | 1, hp => exact h1 0 p (by simpa using hp)
    | j + 2, hp => exact h1 (j + 2) p (by simpa using hp)
  · refine h2 _ _ ?_ ?_ ?_ k hk
    · match j, hj with
      | 0, _ => simp
      | 1, _ => simp
      | j + 2, hj => simpa using hj
    · match l, hl with
      | 0, _ => simp
      | 1, _ => simp
      | l + 2, hl => simpa using hl
    · match j, l, hne with
      | 0, 0, h => exact absurd rfl h
      | 0, 1, _ => simp
      | 0, l + 2, _ => simp
      | 1, 0, _ => simp
      | 1, 1, h => exact absurd rfl h
      | 1, l + 2, _ => simp
      | j + 2, 0, _ => simp
      | j + 2, 1, _ => simp
      | j + 2, l + 2, h => simpa using h

theorem Sep.perm3 {w0 w : World} {B : Nat} {rs : List Res} {r q p : Res} (h : Sep w0 B w (r :: q :: p :: rs)) : Sep w0 B w (p :: r :: q :: rs) := by
  obtain ⟨hb, hB, G, h1, h2⟩ := h
  refine ⟨hb, hB, fun j => G (match j with | 0 => 2 | 1 => 0 | 2 => 1 | j + 3 => j + 3), fun j q hq => ?_, fun j l hj hl hne k hk => ?_⟩
  · match j, hq with
    | 0, hq => exact h1 2 q (by simpa using hq)
    | 1, hq => exact h1 0 q (by simpa using hq)
    | 2, hq => exact h1 1 q (by simpa using hq)
    | j + 3, hq => exact h1 (j + 3) q (by simpa using hq)
  · refine h2 _ _ ?_ ?_ ?_ k hk
    · match j, hj with
      | 0, _ => simp
      | 1, _ => simp
      | 2, _ => simp
      | j + 3, hj => simpa using hj
    · match l, hl with
      | 0, _ => simp
      | 1, _ => simp
      | 2, _ => simp
      | l + 3, hl => simpa using hl
    · match j, l, hne with
      | 0, 0, h => exact absurd rfl h
      | 0, 1, _ => simp
      | 0, 2, _ => simp
      | 0, l + 3, _ => simp
      | 1, 0, _ => simp
      | 1, 1, h => exact absurd rfl h
      | 1, 2, _ => simp
      | 1, l + 3, _ => simp
      | 2, 0, _ => simp
      | 2, 1, _ => simp
      | 2, 2, h => exact absurd rfl h
      | 2, l + 3, _ => simp
      | j + 3, 0, _ => simp
      | j + 3, 1, _ => simp
      | j + 3, 2, _ => simp
      | j + 3, l + 3, h => simpa using h

/-- A slice that is owned, as an object. -/
def slRes (e size : Nat) (v : Value) (n : Nat) (xs : List Value) : Res where
  P F w := ∃ row, F = Option.toList row ∧ Own w e size v n xs row
  loc F w w' h hk := by
    obtain ⟨row, rfl, ho⟩ := h
    refine ⟨row, rfl, ho.1, ?_⟩
    rcases ho.2 with hn | ⟨g, off, c, cur, hv, hr, hb, rest⟩
    · exact .inl hn
    · exact .inr ⟨g, off, c, cur, hv, hr, (hk g (by rw [hr]; simp)).trans hb, rest⟩
  lt F w h k hk := by
    obtain ⟨row, rfl, ho⟩ := h
    exact ho.lt (Option.mem_toList.1 hk)
/-- A cell of a list that is owned. -/
theorem Sep.cell {w0 w : World} {B : Nat} {rs : List Res} (h : Sep w0 B w rs) (i : Nat) {e g off n c : Nat} {xs : List Value} (hi : rs[i]? = some (slRes e 1 (.slice (some ⟨g, off, none⟩) n c) n xs)) (j : Nat) {u : Value} (hj : xs[j]? = some u) :
    w.cell? ⟨g, off + j, none⟩ = some u := by
  obtain ⟨F, row, rfl, ho⟩ := h.look i hi
  have hlt : j < xs.length := (List.getElem?_eq_some_iff.1 hj).1
  rcases ho.2 with ⟨_, _, h0, _⟩ | ⟨g', off', c', cur, hv, _, hb, _, _, _, _, hx⟩
  · have := ho.1; omega
  · injection hv with ha _ _
    injection ha with ha
    injection ha with h1 h2
    subst h1; subst h2
    exact (hb.cell _).trans (hx j u hj)
/-- Where a list has an element, its address is known. -/
theorem Sep.addr {w0 w : World} {B : Nat} {rs : List Res} (h : Sep w0 B w rs) (i : Nat) {e n c : Nat} {A : Option Addr} {xs : List Value} (hi : rs[i]? = some (slRes e 1 (.slice A n c) n xs)) (hn : 0 < n) :
    ∃ g off, A = some ⟨g, off, none⟩ := by
  obtain ⟨F, row, rfl, ho⟩ := h.look i hi
  obtain ⟨g, off, c', cur, hv, _⟩ := ho.at_ hn
  injection hv with ha _ _
  exact ⟨g, off, ha⟩
/-- A block that is known whole, as an object. -/
def blkRes (g : Nat) (t : TypeId) (cs : Array Value) : Res where
  P F w := F = [g] ∧ Blk w g t cs
  loc F w w' h hk := ⟨h.1, (hk g (by rw [h.1]; simp)).trans h.2⟩
  lt F w h k hk := by
    rw [h.1] at hk
    simp at hk
    subst hk
    exact h.2.lt
theorem newRow_foot {w : World} {row row' : Option Nat} (h : NewRow w row row') : ∀ k, k ∈ row'.toList → k ∈ row.toList ∨ w.heap.size ≤ k := by
  intro k hk
  rw [Option.mem_toList] at hk
  exact (h k hk).elim (fun h => .inl (by rw [Option.mem_toList]; exact h)) .inr
/-- A slice that was just built of n elements of one cell. -/
theorem Own.built (w : World) (e : TypeId) (n : Nat) (cs : Array Value) (hn : cs.size = n) (h0 : 0 < n) (hm : n ≤ maxLen) :
    Own (w.alloc (.cells cs e)) e 1 (.slice (some ⟨w.heap.size, 0, none⟩) n n) n cs.toList (some w.heap.size) :=
  ⟨by simp [hn], .inr ⟨w.heap.size, 0, n, cs, rfl, rfl, Blk.new w e cs, h0, Nat.le_refl _, hm, by omega, fun j u hu => by rw [Nat.zero_add, ← Array.getElem?_toList]; exact hu⟩⟩
theorem Sep.built {w0 w : World} {B : Nat} {rs : List Res} (h : Sep w0 B w rs) (e : TypeId) (n : Nat) (cs : Array Value) (hn : cs.size = n) (h0 : 0 < n) (hm : n ≤ maxLen) :
    Sep w0 B (w.alloc (.cells cs e)) (slRes e 1 (.slice (some ⟨w.heap.size, 0, none⟩) n n) n cs.toList :: rs) :=
  h.add (r := slRes e 1 (.slice (some ⟨w.heap.size, 0, none⟩) n n) n cs.toList) ⟨_, rfl, Own.built w e n cs hn h0 hm⟩ ((Touch.refl _ _).alloc _) (by simp)
/-- A slice of length 0, wherever it points. -/
theorem Sep.bare {w0 w : World} {B : Nat} {rs : List Res} (h : Sep w0 B w rs) (e size : Nat) (A : Option Addr) : Sep w0 B w (slRes e size (.slice A 0 0) 0 [] :: rs) :=
  h.add (r := slRes e size (.slice A 0 0) 0 []) ⟨none, rfl, Own.nil _ _ _ _⟩ (Touch.refl _ _) (by simp)

section
variable {P : Program}
/-- append, to one of the objects. -/
theorem wpList_append_sep (w : World) {ops : Array Oper} {rest : List Oper} {o : Oper} {a : Act} {Q : Exit → Act → World → Prop} (hgd : o.guard = none) (s x : Operand) (t tx : TypeId)
    (ho : o.op = .call { callee := .builtin .append, args := #[s, x], argTypes := #[t, tx] })
    (e : TypeId) (i : TypeInfo) (z : Value) (size bytes : Nat) (ht : P.underlying t = some (.slice e)) (hi : P.info? e = some i) (hz : i.zero = some z)
    (hsize : i.size = size) (hby : i.bytes = bytes) (hzs : z.cells.size = size)
    {w0 : World} {B : Nat} {rs : List Res} (hsep : Sep w0 B w rs) (ix : Nat) (v : Value) (n : Nat) (xs : List Value) (hix : rs[ix]? = some (slRes e size v n xs)) (hv : a.eval s = v)
    (xv : Value) (m : Nat) (news : List Value) (hx : a.eval x = xv) (hs : Src P size tx xv m news w)
    (h63 : n + m ≤ maxLen) (hbytes : (n + m) * bytes ≤ 140737488355328)
    (h : ∀ A c w', Sep w0 B w' (rs.set ix (slRes e size (.slice A (n + m) c) (n + m) (xs ++ news))) → wpList P ops Q rest (a.put o.dst (.slice A (n + m) c)) w') : wpList P ops Q (o :: rest) a w := by
  obtain ⟨F, ⟨row, rfl, hown⟩, hset⟩ := hsep.focus ix hix
  refine wpList_append_Own w hgd s x t tx ho e i z size bytes ht hi hz hsize hby hzs v n xs row hv hown xv m news hx hs h63 hbytes fun v' w' row' hown' ht' hn => ?_
  obtain ⟨A, c, rfl, _⟩ := hown'.shape
  exact h A c w' (hset w' _ _ ⟨row', rfl, hown'⟩ ht' (newRow_foot hn))
end
/-- One element that was just laid. -/
theorem Src.one {P : Program} {tx e' : TypeId} (hk : P.underlying tx = some (.slice e')) (w : World) (t : TypeId) (v : Value) (h1 : v.oneCell' = true) :
    Src P 1 tx (.slice (some ⟨w.heap.size, 0, none⟩) 1 1) 1 [v] (w.alloc (.cells #[v] t)) :=
  Src.ofSlice _ hk ⟨w.heap.size, 0, none⟩ 1 1 [v] rfl (fun j u hj => by
    match j, hj with
    | 0, hj => simp at hj; subst hj; exact (Blk.new w _ _).cell 0) (fun u hu => by simp at hu; subst hu; exact h1)
/-- A list that is there can be appended from. -/
theorem Sep.src {P : Program} {w0 w : World} {B : Nat} {rs : List Res} (h : Sep w0 B w rs) (i : Nat) {e size n : Nat} {v : Value} {xs : List Value} (hi : rs[i]? = some (slRes e size v n xs)) (h1 : ∀ u ∈ xs, u.oneCell' = true)
    {tx e' : TypeId} (hk : P.underlying tx = some (.slice e')) : Src P size tx v n xs w := by
  obtain ⟨F, row, rfl, ho⟩ := h.look i hi
  exact ho.src h1 hk
end Go.Proofs.Ytbgpgbfiadhddaa
/- Numbers as 16 digits to the base 65536, the least first; digits may be below 0, or above the base. -/
namespace Go.Proofs.Ytbgpgbfiadhddaa
open Go.RowKit
def vI : List Int → Int
  | [] => 0
  | x :: l => x + 65536 * vI l
def cellsZ (l : List Int) : List Value := l.map fun (n : Int) => .int .i64 n
def elV (l : List Int) : Value := .agg (cellsZ l).toArray
/-- Each digit is one. -/
def Dig (l : List Int) : Prop := ∀ x ∈ l, 0 ≤ x ∧ x < 65536
theorem cellsZ_len (l : List Int) : (cellsZ l).length = l.length := by simp [cellsZ]
theorem cellsZ_size (l : List Int) : (cellsZ l).toArray.size = l.length := by simp [cellsZ]
theorem cellsZ_at {l : List Int} {j : Nat} (h : j < l.length) : (cellsZ l)[j]? = some (.int .i64 (l.getD j 0)) := by simp [cellsZ, List.getD, h]
theorem cellsZ_set (l : List Int) (j : Nat) (x : Int) : (cellsZ l).toArray.setIfInBounds j (.int .i64 x) = (cellsZ (l.set j x)).toArray := by simp [cellsZ]
theorem cellsZ_one (l : List Int) : (cellsZ l).toArray.all (·.oneCell') = true := by
  simp [cellsZ, Value.oneCell']
theorem vI_append (l m : List Int) : vI (l ++ m) = vI l + 65536 ^ l.length * vI m := by
  induction l with
  | nil => simp [vI]
  | cons x l ih => rw [List.cons_append, vI, vI, ih, List.length_cons, Int.pow_succ]; grind
theorem vI_take_succ {l : List Int} {k : Nat} (hk : k < l.length) : vI (l.take (k + 1)) = vI (l.take k) + 65536 ^ k * l.getD k 0 := by
  have h : l.take k ++ [l[k]] = l.take (k + 1) := List.take_append_getElem hk
  rw [← h, vI_append, List.length_take, Nat.min_eq_left (by omega)]
  simp [vI, List.getD, hk]
theorem vI_set {l : List Int} {k : Nat} (hk : k < l.length) (x : Int) : vI (l.set k x) + 65536 ^ k * l.getD k 0 = vI l + 65536 ^ k * x := by
  induction l generalizing k with
  | nil => simp at hk
  | cons y l ih =>
    cases k with
    | zero => simp [vI, List.getD]; omega
    | succ k =>
      have h := ih (k := k) (by simpa using hk)
      have e : (y :: l).getD (k + 1) 0 = l.getD k 0 := by simp [List.getD]
      rw [List.set_cons_succ, vI, vI, e, Int.pow_succ]
      grind
theorem vI_lt {l : List Int} (h : Dig l) : 0 ≤ vI l ∧ vI l < 65536 ^ l.length := by
  induction l with
  | nil => simp [vI]
  | cons x l ih =>
    have h1 := ih (fun y hy => h y (List.mem_cons_of_mem _ hy))
    have h2 := h x List.mem_cons_self
    rw [vI, List.length_cons, Int.pow_succ]
    omega
theorem getD_set_self {l : List Int} {k : Nat} (hk : k < l.length) (x : Int) : (l.set k x).getD k 0 = x := by simp [List.getD, hk]
theorem getD_set_ne {l : List Int} {k j : Nat} (h : j ≠ k) (x : Int) : (l.set k x).getD j 0 = l.getD j 0 := by
  simp [List.getD, List.getElem?_set_ne (Ne.symm h)]
theorem dig_of_getD {l : List Int} (h : ∀ j, j < l.length → 0 ≤ l.getD j 0 ∧ l.getD j 0 < 65536) : Dig l := by
  intro x hx
  obtain ⟨j, hj, rfl⟩ := List.getElem_of_mem hx
  have := h j hj
  simpa [List.getD, hj] using this
theorem Dig.at_ {l : List Int} (h : Dig l) (j : Nat) : 0 ≤ l.getD j 0 ∧ l.getD j 0 < 65536 := by
  by_cases hj : j < l.length
  · simp only [List.getD, List.getElem?_eq_getElem hj, Option.getD_some]; exact h _ (List.getElem_mem hj)
  · simp [List.getD, List.getElem?_eq_none (by omega : l.length ≤ j)]
/-- Each digit is small. -/
def Bnd (M : Int) (l : List Int) : Prop := ∀ x ∈ l, -M ≤ x ∧ x ≤ M
theorem Bnd.at_ {M : Int} {l : List Int} (h : Bnd M l) (hM : 0 ≤ M) (j : Nat) : -M ≤ l.getD j 0 ∧ l.getD j 0 ≤ M := by
  by_cases hj : j < l.length
  · simp only [List.getD, List.getElem?_eq_getElem hj, Option.getD_some]; exact h _ (List.getElem_mem hj)
  · simp [List.getD, List.getElem?_eq_none (by omega : l.length ≤ j)]; omega
/-- The digits below k are carried. -/
structure CarA (l r : List Int) (k : Nat) : Prop where
  len : r.length = 16
  drop : r.drop (k + 1) = l.drop (k + 1)
  dig : ∀ j, j < k → 0 ≤ r.getD j 0 ∧ r.getD j 0 < 65536
  val : vI r = vI l
  lo : -2305913377957871616 ≤ r.getD k 0
  hi : r.getD k 0 ≤ 2305913377957871616
theorem CarA.start {l : List Int} (hl : l.length = 16) (hb : Bnd 2305843009213693952 l) : CarA l l 0 :=
  ⟨hl, rfl, fun _ h => by omega, rfl, by have := hb.at_ (by decide) 0; omega, by have := hb.at_ (by decide) 0; omega⟩
/-- Once more. -/
theorem CarA.step {l r : List Int} {k : Nat} (h : CarA l r k) (hk : k < 15) (hb : Bnd 2305843009213693952 l) {x y : Int} (hx : x = r.getD k 0) (hy : y = r.getD (k + 1) 0) :
    CarA l ((r.set k (x % 65536)).set (k + 1) (y + x / 65536)) (k + 1) := by
  have h1 := h.len
  have hyl : y = l.getD (k + 1) 0 := by
    have e := congrArg (fun m => m.getD 0 0) h.drop
    simpa [List.getD, hy] using e
  have hyb := hb.at_ (by decide) (k + 1)
  rw [← hyl] at hyb
  have hlo := h.lo
  have hhi := h.hi
  rw [← hx] at hlo hhi
  refine ⟨by simp [h1], ?_, ?_, ?_, ?_, ?_⟩
  · rw [List.drop_set, if_pos (by omega), List.drop_set, if_pos (by omega)]
    have e := congrArg (List.drop 1) h.drop
    rwa [List.drop_drop, List.drop_drop] at e
  · intro j hj
    rw [getD_set_ne (by omega)]
    by_cases hjk : j = k
    · subst hjk
      rw [getD_set_self (by omega)]
      omega
    · rw [getD_set_ne hjk]; exact h.dig j (by omega)
  · have e1 := vI_set (l := r) (k := k) (by omega) (x % 65536)
    have e2 := vI_set (l := r.set k (x % 65536)) (k := k + 1) (by simp; omega) (y + x / 65536)
    rw [getD_set_ne (by omega), ← hy, Int.pow_succ] at e2
    rw [← hx] at e1
    have e3 := h.val
    have e4 : x = x % 65536 + 65536 * (x / 65536) := by omega
    generalize x / 65536 = q at *
    generalize x % 65536 = m at *
    subst e4
    grind
  · rw [getD_set_self (by simp; omega)]; omega
  · rw [getD_set_self (by simp; omega)]; omega
/-- All are carried; what went over the end comes back 38 times. -/
def CarB (l r : List Int) : Prop := ∃ (q : List Int) (c : Int), q.length = 16 ∧ Dig q ∧ vI q + c * 65536 ^ 16 = vI l ∧ r = q.set 0 (q.getD 0 0 + 38 * c) ∧ c = vI l / 65536 ^ 16
theorem CarA.last {l r : List Int} (h : CarA l r 15) {x y : Int} (hx : x = r.getD 15 0) (hy : y = r.getD 0 0) :
    CarB l ((r.set 15 (x % 65536)).set 0 (y + 38 * (x / 65536))) := by
  have h1 := h.len
  have hd : Dig (r.set 15 (x % 65536)) := dig_of_getD fun j hj => by
    by_cases hj15 : j = 15
    · subst hj15; rw [getD_set_self (by omega)]; omega
    · rw [getD_set_ne hj15]; exact h.dig j (by simp at hj; omega)
  have e1 := vI_set (l := r) (k := 15) (by omega) (x % 65536)
  rw [← hx, h.val] at e1
  have e2 : vI (r.set 15 (x % 65536)) + x / 65536 * 65536 ^ 16 = vI l := by
    have : (65536 : Int) ^ 16 = 65536 ^ 15 * 65536 := by rw [← Int.pow_succ]
    rw [this]
    have e4 : x = x % 65536 + 65536 * (x / 65536) := by omega
    generalize x / 65536 = q at *
    generalize x % 65536 = m at *
    subst e4
    generalize (65536 : Int) ^ 15 = P at *
    grind
  have h3 := vI_lt hd
  simp only [List.length_set, h1] at h3
  refine ⟨r.set 15 (x % 65536), x / 65536, by simp [h1], hd, e2, ?_, ?_⟩
  · rw [getD_set_ne (by omega), ← hy]
  · rw [← e2, Int.add_mul_ediv_right _ _ (by decide), Int.ediv_eq_zero_of_lt h3.1 h3.2, Int.zero_add]
end Go.Proofs.Ytbgpgbfiadhddaa
/- Numbers modulo p out of digits. -/
namespace Go.Proofs.Ytbgpgbfiadhddaa
open Go.RowKit
def PP : Nat := 57896044618658097711785492504343953926634992332820282019728792003956564819949
/-- What a number is modulo p. -/
def fz (z : Int) : Nat := (z % 57896044618658097711785492504343953926634992332820282019728792003956564819949).toNat
def fe (l : List Int) : Nat := fz (vI l)
def addF (x y : Nat) : Nat := (x + y) % PP
def negF (x : Nat) : Nat := (PP - x) % PP
def subF (x y : Nat) : Nat := addF x (negF y)
def mulF (x y : Nat) : Nat := x * y % PP
theorem fz_lt (z : Int) : fz z < PP := by unfold fz PP; omega
theorem fe_lt (l : List Int) : fe l < PP := fz_lt _
theorem fz_add (a b : Int) : fz (a + b) = addF (fz a) (fz b) := by unfold fz addF PP; omega
theorem fz_sub (a b : Int) : fz (a - b) = subF (fz a) (fz b) := by unfold fz subF addF negF PP; omega
theorem fz_mul (a b : Int) : fz (a * b) = mulF (fz a) (fz b) := by
  unfold mulF
  have ha : ((fz a : Nat) : Int) = a % 57896044618658097711785492504343953926634992332820282019728792003956564819949 := by unfold fz; omega
  have hb : ((fz b : Nat) : Int) = b % 57896044618658097711785492504343953926634992332820282019728792003956564819949 := by unfold fz; omega
  have h : ((fz (a * b) : Nat) : Int) = ((fz a * fz b % PP : Nat) : Int) := by
    rw [Int.natCast_emod, Int.natCast_mul, ha, hb]
    show _ = _ % (57896044618658097711785492504343953926634992332820282019728792003956564819949 : Int)
    rw [← Int.mul_emod]
    unfold fz; omega
  exact Int.ofNat.inj h
theorem fz_nat (n : Nat) : fz (n : Int) = n % PP := by unfold fz PP; omega
theorem fz_fold (a c : Int) : fz (a + 38 * c) = fz (a + c * 65536 ^ 16) := by
  have e : (65536 : Int) ^ 16 = 115792089237316195423570985008687907853269984665640564039457584007913129639936 := by decide
  rw [e]
  unfold fz
  omega
theorem CarB.fe {l r : List Int} (h : CarB l r) : fe r = fe l := by
  obtain ⟨q, c, hq, _, hv, rfl, _⟩ := h
  unfold Go.Proofs.Ytbgpgbfiadhddaa.fe
  have e1 := vI_set (l := q) (k := 0) (by omega) (q.getD 0 0 + 38 * c)
  rw [Int.pow_zero, Int.one_mul, Int.one_mul] at e1
  rw [show vI (q.set 0 (q.getD 0 0 + 38 * c)) = vI q + 38 * c by omega, fz_fold, hv]
theorem CarB.len {l r : List Int} (h : CarB l r) : r.length = 16 := by
  obtain ⟨q, c, hq, _, _, rfl, _⟩ := h
  rw [List.length_set, hq]
/-- Digits as all functions leave them. -/
structure Red (l : List Int) : Prop where
  len : l.length = 16
  bnd : Bnd 66535 l
theorem bnd_val {l : List Int} {M : Int} (h : Bnd M l) : M - M * 65536 ^ l.length ≤ 65535 * vI l ∧ 65535 * vI l ≤ M * 65536 ^ l.length - M := by
  induction l with
  | nil => simp [vI]
  | cons x l ih =>
    have h1 := ih (fun y hy => h y (List.mem_cons_of_mem _ hy))
    have h2 := h x List.mem_cons_self
    rw [vI, List.length_cons, Int.pow_succ, ← Int.mul_assoc]
    generalize M * 65536 ^ l.length = P at *
    omega
theorem CarB.bound {l r : List Int} {M C : Int} (h : CarB l r) (hl : l.length = 16) (hb : Bnd M l) (hM : 0 ≤ M) (hC : M ≤ 65535 * C) : Bnd (65535 + 38 * (C + 1)) r := by
  obtain ⟨q, c, hq, hd, hv, rfl, hc⟩ := h
  have h1 := bnd_val hb
  rw [hl] at h1
  have e : (65536 : Int) ^ 16 = 115792089237316195423570985008687907853269984665640564039457584007913129639936 := by decide
  rw [e] at h1 hc
  have h0 : 0 ≤ C := by omega
  have hc2 : -(C + 1) ≤ c ∧ c ≤ C + 1 := by omega
  intro x hx
  rcases List.mem_or_eq_of_mem_set hx with hx | rfl
  · have := hd x hx; omega
  · have := hd.at_ 0; omega
/-- A second time. -/
theorem CarB.bound2 {l r s : List Int} {C : Int} (h : CarB l r) (h2 : CarB r s) (hl : l.length = 16) (hb : Bnd (65535 * C) l) (h0 : 0 ≤ C) (hC : C ≤ 1000000000000) : Red s := by
  have hlen := h2.len
  obtain ⟨q, c, hq, hd, hv, rfl, hc⟩ := h
  obtain ⟨q2, c2, hq2, hd2, hv2, rfl, hc2⟩ := h2
  have h1 := bnd_val hb
  rw [hl] at h1
  have e : (65536 : Int) ^ 16 = 115792089237316195423570985008687907853269984665640564039457584007913129639936 := by decide
  have e1 := vI_set (l := q) (k := 0) (by omega) (q.getD 0 0 + 38 * c)
  rw [Int.pow_zero, Int.one_mul, Int.one_mul] at e1
  have h3 := vI_lt hd
  rw [hq] at h3
  rw [e] at h1 hc hc2 h3
  have hcb : -(C + 1) ≤ c ∧ c ≤ C + 1 := by omega
  have hc2b : -1 ≤ c2 ∧ c2 ≤ 1 := by omega
  refine ⟨hlen, fun x hx => ?_⟩
  rcases List.mem_or_eq_of_mem_set hx with hx | rfl
  · have := hd2 x hx; omega
  · have := hd2.at_ 0; omega
theorem Bnd.mono {M N : Int} {l : List Int} (h : Bnd M l) (hMN : M ≤ N) : Bnd N l := fun x hx => by have := h x hx; omega
theorem Bnd.set {M : Int} {l : List Int} (h : Bnd M l) (k : Nat) {x : Int} (hx : -M ≤ x ∧ x ≤ M) : Bnd M (l.set k x) := fun y hy => by
  rcases List.mem_or_eq_of_mem_set hy with hy | rfl
  · exact h y hy
  · exact hx
/-- Sums, digit by digit. -/
structure SumA (s : Int) (l m r : List Int) (k : Nat) : Prop where
  len : r.length = 16
  drop : r.drop k = l.drop k
  val : vI r = vI l + s * vI (m.take k)
  bnd : Bnd 133070 r
theorem SumA.start {s : Int} {l m : List Int} (hl : Red l) : SumA s l m l 0 := ⟨hl.len, rfl, by simp [vI], hl.bnd.mono (by omega)⟩
theorem SumA.step {s : Int} {l m r : List Int} {k : Nat} (h : SumA s l m r k) (hk : k < 16) (hl : Red l) (hm : Red m) (hs : s = 1 ∨ s = -1) {x y : Int} (hx : x = r.getD k 0) (hy : y = m.getD k 0) :
    SumA s l m (r.set k (x + s * y)) (k + 1) := by
  have h1 := h.len
  have hml := hm.len
  have hxl : x = l.getD k 0 := by
    have e := congrArg (fun m => m.getD 0 0) h.drop
    simpa [List.getD, hx] using e
  have hxb := hl.bnd.at_ (by decide) k
  have hyb := hm.bnd.at_ (by decide) k
  rw [← hxl] at hxb
  rw [← hy] at hyb
  refine ⟨by simp [h1], ?_, ?_, h.bnd.set k (by rcases hs with rfl | rfl <;> omega)⟩
  · rw [List.drop_set, if_pos (by omega)]
    have e := congrArg (List.drop 1) h.drop
    rwa [List.drop_drop, List.drop_drop] at e
  · have e1 := vI_set (l := r) (k := k) (by omega) (x + s * y)
    rw [vI_take_succ (by omega), ← hy]
    rw [← hx, h.val] at e1
    generalize (65536 : Int) ^ k = P at *
    generalize vI (m.take k) = V at *
    generalize vI l = L at *
    generalize vI (r.set k (x + s * y)) = R at *
    grind
theorem SumA.xy {s : Int} {l m r : List Int} {k : Nat} (h : SumA s l m r k) (hl : Red l) (hm : Red m) : -66535 ≤ r.getD k 0 ∧ r.getD k 0 ≤ 66535 ∧ -66535 ≤ m.getD k 0 ∧ m.getD k 0 ≤ 66535 := by
  have hxl : r.getD k 0 = l.getD k 0 := by
    have e := congrArg (fun m => m.getD 0 0) h.drop
    simpa [List.getD] using e
  have hxb := hl.bnd.at_ (by decide) k
  have hyb := hm.bnd.at_ (by decide) k
  rw [hxl]
  omega
theorem SumA.big {s : Int} {l m r : List Int} {k : Nat} (h : SumA s l m r k) : Bnd 2305843009213693952 r := h.bnd.mono (by omega)
theorem SumA.red {s : Int} {l m r q : List Int} (h : SumA s l m r 16) (hm : Red m) (hc : CarB r q) : Red q ∧ fe q = fz (vI l + s * vI m) := by
  refine ⟨⟨hc.len, (hc.bound h.len h.bnd (by omega) (C := 3) (by omega)).mono (by omega)⟩, ?_⟩
  rw [hc.fe, fe, h.val, List.take_of_length_le (by rw [hm.len]; omega)]
end Go.Proofs.Ytbgpgbfiadhddaa
/- Numbers as words, the least first. -/
namespace Go.Proofs.Ytbgpgbfiadhddaa
open Go.RowKit
def val : List Nat → Nat
  | [] => 0
  | x :: l => x + 18446744073709551616 * val l
def Words (l : List Nat) : Prop := ∀ x ∈ l, x < 18446744073709551616
def cellsN (l : List Nat) : List Value := l.map fun (n : Nat) => .int .u64 (n : Int)
theorem cellsN_len (l : List Nat) : (cellsN l).length = l.length := by simp [cellsN]
theorem cellsN_at {l : List Nat} {j : Nat} (h : j < l.length) : (cellsN l)[j]? = some (.int .u64 ((l.getD j 0 : Nat) : Int)) := by simp [cellsN, List.getD, h]
theorem cellsN_set (l : List Nat) (j x : Nat) : (cellsN l).set j (.int .u64 (x : Int)) = cellsN (l.set j x) := by simp [cellsN]
theorem Words.at_ {l : List Nat} (h : Words l) (j : Nat) : l.getD j 0 < 18446744073709551616 := by
  by_cases hj : j < l.length
  · simp only [List.getD, List.getElem?_eq_getElem hj, Option.getD_some]; exact h _ (List.getElem_mem hj)
  · simp [List.getD, List.getElem?_eq_none (by omega : l.length ≤ j)]
theorem Words.set {l : List Nat} (h : Words l) (j : Nat) {x : Nat} (hx : x < 18446744073709551616) : Words (l.set j x) := fun y hy => by
  rcases List.mem_or_eq_of_mem_set hy with h1 | rfl
  · exact h y h1
  · exact hx
theorem val_append (l m : List Nat) : val (l ++ m) = val l + 18446744073709551616 ^ l.length * val m := by
  induction l with
  | nil => simp [val]
  | cons x l ih => rw [List.cons_append, val, val, ih, List.length_cons, Nat.pow_succ]; grind
theorem val_take_succ {l : List Nat} {k : Nat} (hk : k < l.length) : val (l.take (k + 1)) = val (l.take k) + 18446744073709551616 ^ k * l.getD k 0 := by
  have h : l.take k ++ [l[k]] = l.take (k + 1) := List.take_append_getElem hk
  rw [← h, val_append, List.length_take, Nat.min_eq_left (by omega)]
  simp [val, List.getD, hk]
theorem val_set {l : List Nat} {k : Nat} (hk : k < l.length) (x : Nat) : val (l.set k x) + 18446744073709551616 ^ k * l.getD k 0 = val l + 18446744073709551616 ^ k * x := by
  induction l generalizing k with
  | nil => simp at hk
  | cons y l ih =>
    cases k with
    | zero => simp [val, List.getD]; omega
    | succ k =>
      have h := ih (k := k) (by simpa using hk)
      have e : (y :: l).getD (k + 1) 0 = l.getD k 0 := by simp [List.getD]
      rw [List.set_cons_succ, val, val, e, Nat.pow_succ]
      grind
theorem val_lt {l : List Nat} (h : Words l) : val l < 18446744073709551616 ^ l.length := by
  induction l with
  | nil => simp [val]
  | cons x l ih =>
    have h1 := ih (fun y hy => h y (List.mem_cons_of_mem _ hy))
    have h2 := h x List.mem_cons_self
    rw [val, List.length_cons, Nat.pow_succ]
    omega
/-- The words of a number. -/
def wds : Nat → Nat → List Nat
  | 0, _ => []
  | n + 1, N => N % 18446744073709551616 :: wds n (N / 18446744073709551616)
theorem wds_len (n N : Nat) : (wds n N).length = n := by
  induction n generalizing N with
  | zero => rfl
  | succ n ih => rw [wds, List.length_cons, ih]
theorem wds_words (n N : Nat) : Words (wds n N) := by
  induction n generalizing N with
  | zero => intro x hx; simp [wds] at hx
  | succ n ih =>
    intro x hx
    rcases List.mem_cons.1 hx with rfl | hx
    · omega
    · exact ih _ x hx
theorem val_wds (n N : Nat) : val (wds n N) = N % 18446744073709551616 ^ n := by
  induction n generalizing N with
  | zero => simp [wds, val]; omega
  | succ n ih =>
    rw [wds, val, ih, Nat.pow_succ, Nat.mul_comm (18446744073709551616 ^ n), Nat.mod_mul]
theorem wds_val {l : List Nat} (h : Words l) : wds l.length (val l) = l := by
  induction l with
  | nil => rfl
  | cons x l ih =>
    have h2 := h x List.mem_cons_self
    have h1 := ih (fun y hy => h y (List.mem_cons_of_mem _ hy))
    rw [List.length_cons, wds, val, show (x + 18446744073709551616 * val l) % 18446744073709551616 = x by omega, show (x + 18446744073709551616 * val l) / 18446744073709551616 = val l by omega, h1]
end Go.Proofs.Ytbgpgbfiadhddaa
/- 2^255 - 19 is prime. -/
namespace Go.Proofs.Ytbgpgbfiadhddaa
/-- Prime. -/
def Pr (p : Nat) : Prop := 2 ≤ p ∧ ∀ d, d ∣ p → d = 1 ∨ d = p
theorem Pr.cop {p : Nat} (h : Pr p) {x : Nat} (hx : ¬ p ∣ x) : Nat.Coprime x p := by
  rcases h.2 _ (Nat.gcd_dvd_right x p) with h1 | h1
  · exact h1
  · exact absurd (h1 ▸ Nat.gcd_dvd_left x p) hx
theorem Pr.euclid {p a b : Nat} (h : Pr p) (hd : p ∣ a * b) : p ∣ a ∨ p ∣ b := by
  by_cases ha : p ∣ a
  · exact .inl ha
  · exact .inr (Nat.Coprime.dvd_of_dvd_mul_left (Nat.Coprime.symm (h.cop ha)) hd)
theorem exists_prime {n : Nat} (h : 2 ≤ n) : ∃ r, Pr r ∧ r ∣ n := by
  induction n using Nat.strongRecOn with
  | _ n ih =>
    by_cases hp : Pr n
    · exact ⟨n, hp, Nat.dvd_refl n⟩
    · have : ∃ d, d ∣ n ∧ d ≠ 1 ∧ d ≠ n := by
        apply Classical.byContradiction
        intro hn
        apply hp
        refine ⟨h, fun d hd => ?_⟩
        apply Classical.byContradiction
        intro hc
        exact hn ⟨d, hd, fun e => hc (.inl e), fun e => hc (.inr e)⟩
      obtain ⟨d, hd, h1, h2⟩ := this
      have hle := Nat.le_of_dvd (by omega) hd
      have h0 : d ≠ 0 := by rintro rfl; have := Nat.eq_zero_of_zero_dvd hd; omega
      obtain ⟨r, hr, hrd⟩ := ih d (by omega) (by omega)
      exact ⟨r, hr, Nat.dvd_trans hrd hd⟩
def chs : Nat → Nat → Nat
  | _, 0 => 1
  | 0, _ + 1 => 0
  | n + 1, k + 1 => chs n k + chs n (k + 1)
theorem chs_0 (n : Nat) : chs n 0 = 1 := by cases n <;> rfl
theorem chs_gt (n : Nat) : ∀ k, n < k → chs n k = 0 := by
  induction n with
  | zero => intro k hk; cases k with | zero => omega | succ k => rfl
  | succ n ih => intro k hk; cases k with
    | zero => omega
    | succ k => rw [chs, ih k (by omega), ih (k + 1) (by omega)]
theorem chs_self (n : Nat) : chs n n = 1 := by
  induction n with
  | zero => rfl
  | succ n ih => rw [chs, ih, chs_gt n (n + 1) (by omega)]
theorem chs_mul (n : Nat) : ∀ k, (k + 1) * chs (n + 1) (k + 1) = (n + 1) * chs n k := by
  induction n with
  | zero =>
    intro k
    cases k with
    | zero => rfl
    | succ k => rw [chs_gt 0 (k + 1) (by omega), chs_gt (0 + 1) (k + 1 + 1) (by omega)]; simp
  | succ n ih =>
    intro k
    cases k with
    | zero =>
      have := ih 0
      have h4 : chs (n + 1 + 1) (0 + 1) = chs (n + 1) 0 + chs (n + 1) (0 + 1) := rfl
      rw [h4, chs_0]
      rw [chs_0] at this
      omega
    | succ k =>
      have h1 := ih k
      have h2 := ih (k + 1)
      have h3 : chs (n + 1) (k + 1) = chs n k + chs n (k + 1) := rfl
      have h4 : chs (n + 1 + 1) (k + 1 + 1) = chs (n + 1) (k + 1) + chs (n + 1) (k + 1 + 1) := rfl
      rw [h4, Nat.mul_add, h2]
      have h5 : (k + 1 + 1) * chs (n + 1) (k + 1) = (n + 1) * chs n k + chs (n + 1) (k + 1) := by rw [← h1]; grind
      rw [h5]
      have h6 : (n + 1) * chs (n + 1) (k + 1) = (n + 1) * chs n k + (n + 1) * chs n (k + 1) := by rw [h3, Nat.mul_add]
      grind
def sm (f : Nat → Nat) : Nat → Nat
  | 0 => 0
  | m + 1 => sm f m + f m
theorem binom_step (n a : Nat) : ∀ m, sm (fun k => chs (n + 1) k * a ^ k) (m + 1) = sm (fun k => chs n k * a ^ k) (m + 1) + a * sm (fun k => chs n k * a ^ k) m := by
  intro m
  induction m with
  | zero => simp [sm, chs_0]
  | succ m ih =>
    rw [sm, ih, sm, sm, sm]
    have h4 : chs (n + 1) (m + 1) = chs n m + chs n (m + 1) := rfl
    rw [h4, Nat.pow_succ]
    grind
theorem binom (n a : Nat) : (a + 1) ^ n = sm (fun k => chs n k * a ^ k) (n + 1) := by
  induction n with
  | zero => simp [sm, chs]
  | succ n ih =>
    rw [binom_step, sm, chs_gt n (n + 1) (by omega), ← ih, Nat.pow_succ]
    grind
theorem Pr.chs {p : Nat} (h : Pr p) {k : Nat} (h0 : 0 < k) (hk : k < p) : p ∣ chs p k := by
  obtain ⟨n, rfl⟩ : ∃ n, p = n + 1 := ⟨p - 1, by have := h.1; omega⟩
  obtain ⟨j, rfl⟩ : ∃ j, k = j + 1 := ⟨k - 1, by omega⟩
  have h1 : (n + 1) ∣ (j + 1) * Go.Proofs.Ytbgpgbfiadhddaa.chs (n + 1) (j + 1) := ⟨Go.Proofs.Ytbgpgbfiadhddaa.chs n j, chs_mul n j⟩
  rcases h.euclid h1 with h2 | h2
  · have := Nat.le_of_dvd (by omega) h2; omega
  · exact h2
theorem Pr.frob {p : Nat} (h : Pr p) (a : Nat) : (a + 1) ^ p % p = (a ^ p + 1) % p := by
  have h2 := h.1
  have mid : ∀ m, m < p → sm (fun k => Go.Proofs.Ytbgpgbfiadhddaa.chs p k * a ^ k) (m + 1) % p = 1 % p := by
    intro m
    induction m with
    | zero => intro _; simp [sm, chs_0]
    | succ m ih =>
      intro hm
      obtain ⟨c, hc⟩ := h.chs (k := m + 1) (by omega) hm
      rw [sm, hc, Nat.mul_assoc, Nat.add_mul_mod_self_left]
      exact ih (by omega)
  rw [binom, sm, chs_self, Nat.one_mul, Nat.add_mod]
  have := mid (p - 1) (by omega)
  rw [show p - 1 + 1 = p by omega] at this
  rw [this, ← Nat.add_mod, Nat.add_comm]
theorem Pr.fermat {p : Nat} (h : Pr p) (a : Nat) : a ^ p % p = a % p := by
  have h2 := h.1
  induction a with
  | zero => rw [Nat.zero_pow (by omega)]
  | succ a ih => rw [h.frob, Nat.add_mod, ih, ← Nat.add_mod]
theorem Pr.fermat1 {p : Nat} (h : Pr p) {a : Nat} (ha : ¬ p ∣ a) : a ^ (p - 1) % p = 1 := by
  have h2 := h.1
  have h3 := h.fermat a
  have hpos : 0 < a := Nat.pos_of_ne_zero (fun e => ha (e ▸ Nat.dvd_zero p))
  have h1 : 1 ≤ a ^ (p - 1) := Nat.pow_pos hpos
  have h4 : p ∣ a * (a ^ (p - 1) - 1) := by
    rw [Nat.mul_sub, Nat.mul_one, Nat.mul_comm, ← Nat.pow_succ, show (p - 1).succ = p by omega]
    have h5 : a ≤ a ^ p := by
      have := Nat.pow_le_pow_right hpos (show 1 ≤ p by omega)
      rwa [Nat.pow_one] at this
    exact (Nat.dvd_iff_mod_eq_zero).2 (Nat.sub_mod_eq_zero_of_mod_eq h3)
  rcases h.euclid h4 with h5 | h5
  · exact absurd h5 ha
  · obtain ⟨c, hc⟩ := h5
    rw [show a ^ (p - 1) = 1 + p * c by omega, Nat.add_mul_mod_self_left, Nat.mod_eq_of_lt (by omega)]
def pm (m : Nat) : Nat → Nat → Nat → Nat
  | 0, _, _ => 1 % m
  | f + 1, b, e => if e % 2 = 1 then pm m f (b * b % m) (e / 2) * b % m else pm m f (b * b % m) (e / 2)
theorem pm_eq (m : Nat) : ∀ f b e, e < 2 ^ f → pm m f b e = b ^ e % m := by
  intro f
  induction f with
  | zero => intro b e h; obtain rfl : e = 0 := by simpa using h
            rfl
  | succ f ih =>
    intro b e h
    have hh := ih (b * b % m) (e / 2) (by rw [Nat.pow_succ] at h; omega)
    rw [← Nat.pow_mod, ← Nat.pow_two, ← Nat.pow_mul] at hh
    rw [pm, Nat.pow_two] at *
    rw [hh]
    by_cases h1 : e % 2 = 1
    · rw [if_pos h1, Nat.mod_mul_mod, ← Nat.pow_succ, show (2 * (e / 2)).succ = e by omega]
    · rw [if_neg h1, show 2 * (e / 2) = e by omega]
theorem mod_of_dvd {a b r N : Nat} (hr : r ∣ N) (h : a % N = b % N) : a % r = b % r := by
  have := congrArg (· % r) h
  simpa [Nat.mod_mod_of_dvd _ hr] using this
theorem pow_one_mod {b k r : Nat} (h : b % r = 1 % r) : b ^ k % r = 1 % r := by
  rw [Nat.pow_mod, h, ← Nat.pow_mod, Nat.one_pow]
/-- q is a factor of r - 1 for each prime r of N. -/
theorem pock_div {N q m c : Nat} (f : Nat) (hq : Pr q) (hm : q * m = N - 1) (hN : 2 ≤ N) (hf : N - 1 < 2 ^ f) (h1 : pm N f c (N - 1) = 1) (hg : Nat.gcd (pm N f c m + N - 1) N = 1) :
    ∀ r, Pr r → r ∣ N → q ∣ r - 1 := by
  intro r hr hrN
  have hr2 := hr.1
  have hq2 := hq.1
  have hm1 : m ≤ N - 1 := by rw [← hm]; exact Nat.le_mul_of_pos_left m (by omega)
  rw [pm_eq N f c _ hf] at h1
  rw [pm_eq N f c m (by omega)] at hg
  apply Classical.byContradiction
  intro hnd
  have hcr : ¬ r ∣ c := by
    rintro ⟨t, rfl⟩
    have h2 : (r * t) ^ (N - 1) % r = 1 % r := mod_of_dvd hrN (by rw [h1, Nat.mod_eq_of_lt (by omega)])
    rw [Nat.mul_pow, show N - 1 = (N - 2) + 1 by omega, Nat.pow_succ r, Nat.mul_comm (r ^ (N - 2)) r, Nat.mul_assoc, Nat.mul_mod_right, Nat.mod_eq_of_lt (by omega)] at h2
    omega
  have hb : ¬ r ∣ c ^ m := by
    intro hd
    have : ∀ k, r ∣ c ^ k → r ∣ c := by
      intro k
      induction k with
      | zero => intro h; rw [Nat.pow_zero] at h; have := Nat.le_of_dvd (by omega) h; omega
      | succ k ih => intro h; rw [Nat.pow_succ] at h; exact (hr.euclid h).elim ih id
    exact hcr (this m hd)
  have e1 : (c ^ m) ^ q % r = 1 % r := by
    rw [← Nat.pow_mul, Nat.mul_comm, hm]
    exact mod_of_dvd hrN (by rw [h1, Nat.mod_eq_of_lt (by omega)])
  have e2 : (c ^ m) ^ (r - 1) % r = 1 % r := by rw [hr.fermat1 hb, Nat.mod_eq_of_lt (by omega)]
  -- gcd q (r-1) = 1
  have hcop : Nat.Coprime (r - 1) q := hq.cop hnd
  have e3 : (c ^ m) % r = 1 % r := by
    have key : ∀ n x y, x + y ≤ n → (c ^ m) ^ x % r = 1 % r → (c ^ m) ^ y % r = 1 % r → (c ^ m) ^ (Nat.gcd x y) % r = 1 % r := by
      intro n
      induction n with
      | zero =>
        intro x y h hx _
        have h0 : x + y ≤ 0 := h
        obtain rfl : x = 0 := by omega
        obtain rfl : y = 0 := by omega
        exact hx
      | succ n ih =>
        intro x y h hx hy
        by_cases h0 : x = 0
        · subst h0; rw [Nat.gcd_zero_left]; exact hy
        · by_cases h0' : y = 0
          · subst h0'; rw [Nat.gcd_zero_right]; exact hx
          · by_cases hxy : x ≤ y
            · have : (c ^ m) ^ (y - x) % r = 1 % r := by
                have e : (c ^ m) ^ y = (c ^ m) ^ (y - x) * (c ^ m) ^ x := by rw [← Nat.pow_add]; congr 1; omega
                rw [e, Nat.mul_mod, hx, ← Nat.mul_mod, Nat.mul_one] at hy
                exact hy
              have := ih x (y - x) (by omega) hx this
              rwa [Nat.gcd_sub_self_right hxy] at this
            · have : (c ^ m) ^ (x - y) % r = 1 % r := by
                have e : (c ^ m) ^ x = (c ^ m) ^ (x - y) * (c ^ m) ^ y := by rw [← Nat.pow_add]; congr 1; omega
                rw [e, Nat.mul_mod, hy, ← Nat.mul_mod, Nat.mul_one] at hx
                exact hx
              have := ih (x - y) y (by omega) this hy
              rwa [Nat.gcd_sub_self_left (by omega)] at this
    have := key _ _ _ (Nat.le_refl _) e2 e1
    rwa [show Nat.gcd (r - 1) q = 1 from hcop, Nat.pow_one] at this
  have hd : r ∣ c ^ m % N + N - 1 := by
    have h5 : (c ^ m % N) % r = 1 := by rw [Nat.mod_mod_of_dvd _ hrN, e3, Nat.mod_eq_of_lt (by omega)]
    obtain ⟨t, ht⟩ := hrN
    have h6 := Nat.div_add_mod (c ^ m % N) r
    rw [h5] at h6
    refine ⟨c ^ m % N / r + t, ?_⟩
    rw [Nat.mul_add, ← ht]
    omega
  have := Nat.dvd_gcd hd hrN
  rw [hg] at this
  have := Nat.le_of_dvd (by omega) this
  omega
theorem pr_pock {N a b : Nat} (ha : Pr a) (hb : Pr b) (hab : Nat.gcd a b = 1) (h1 : ∀ r, Pr r → r ∣ N → a ∣ r - 1) (h2 : ∀ r, Pr r → r ∣ N → b ∣ r - 1) (hN : 2 ≤ N) (hF : N < (a * b + 1) * (a * b + 1)) : Pr N := by
  have _ := ha
  have _ := hb
  refine ⟨hN, fun d hd => ?_⟩
  apply Classical.byContradiction
  intro hc
  obtain ⟨e, he⟩ := hd
  have hd0 : d ≠ 0 := by rintro rfl; omega
  have he0 : e ≠ 0 := by rintro rfl; omega
  have hd1 : d ≠ 1 := fun h => hc (.inl h)
  have he1 : e ≠ 1 := fun h => hc (.inr (by rw [h] at he; omega))
  have small : ∃ s, 2 ≤ s ∧ s ∣ N ∧ s * s ≤ N := by
    by_cases hde : d ≤ e
    · exact ⟨d, by omega, ⟨e, he⟩, by rw [he]; exact Nat.mul_le_mul_left d hde⟩
    · exact ⟨e, by omega, ⟨d, by rw [he, Nat.mul_comm]⟩, by rw [he]; exact Nat.mul_le_mul_right e (by omega)⟩
  obtain ⟨s, hs2, hsN, hss⟩ := small
  obtain ⟨r, hr, hrs⟩ := exists_prime hs2
  have hrN := Nat.dvd_trans hrs hsN
  have hr2 := hr.1
  have hdv : a * b ∣ r - 1 := Nat.Coprime.mul_dvd_of_dvd_of_dvd hab (h1 r hr hrN) (h2 r hr hrN)
  have h3 := Nat.le_of_dvd (by omega) hdv
  have h4 := Nat.le_of_dvd (by omega) hrs
  have h5 : (a * b + 1) * (a * b + 1) ≤ s * s := Nat.mul_le_mul (by omega) (by omega)
  omega
def noDiv (n : Nat) : Nat → Nat → Bool
  | 0, _ => true
  | f + 1, d => n % d != 0 && noDiv n f (d + 1)
theorem noDiv_at {n f d : Nat} (h : noDiv n f d = true) : ∀ k, d ≤ k → k < d + f → n % k ≠ 0 := by
  induction f generalizing d with
  | zero => intro k _ _; omega
  | succ f ih =>
    intro k h1 h2
    rw [noDiv, Bool.and_eq_true] at h
    by_cases hk : k = d
    · subst hk; simpa using h.1
    · exact ih h.2 k (by omega) (by omega)
theorem pr_trial {n : Nat} (hn : 2 ≤ n) (f : Nat) (hf : n < (f + 2) * (f + 2)) (h : noDiv n f 2 = true) : Pr n := by
  refine ⟨hn, fun d hd => ?_⟩
  apply Classical.byContradiction
  intro hc
  obtain ⟨e, he⟩ := hd
  have hd0 : d ≠ 0 := by rintro rfl; omega
  have he0 : e ≠ 0 := by rintro rfl; omega
  have hd1 : d ≠ 1 := fun h => hc (.inl h)
  have he1 : e ≠ 1 := fun h => hc (.inr (by rw [h] at he; omega))
  have small : ∃ s, 2 ≤ s ∧ s ∣ n ∧ s * s ≤ n := by
    by_cases hde : d ≤ e
    · exact ⟨d, by omega, ⟨e, he⟩, by rw [he]; exact Nat.mul_le_mul_left d hde⟩
    · exact ⟨e, by omega, ⟨d, by rw [he, Nat.mul_comm]⟩, by rw [he]; exact Nat.mul_le_mul_right e (by omega)⟩
  obtain ⟨s, hs2, hsN, hss⟩ := small
  have hs : s < f + 2 := by
    rcases Nat.lt_or_ge s (f + 2) with h | h
    · exact h
    · have := Nat.mul_le_mul h h; omega
  have := noDiv_at h s hs2 (by omega)
  exact this (Nat.mod_eq_zero_of_dvd hsN)
theorem pr8574133 : Pr 8574133 := pr_trial (by omega) 2927 (by decide) (by decide +kernel)
theorem pr7 : Pr 7 := pr_trial (by omega) 1 (by decide) (by decide +kernel)
theorem pr_2 : Pr 1919519569386763 := pr_pock (N := 1919519569386763) (a := 8574133) (b := 7) pr8574133 pr7 (by decide) (pock_div (q := 8574133) (m := 223873314) (c := 2) 51 pr8574133 (by decide) (by decide) (by decide) (by decide +kernel) (by decide +kernel)) (pock_div (q := 7) (m := 274217081340966) (c := 2) 51 pr7 (by decide) (by decide) (by decide) (by decide +kernel) (by decide +kernel)) (by decide) (by decide)
theorem pr75707 : Pr 75707 := pr_trial (by omega) 274 (by decide) (by decide +kernel)
theorem pr_4 : Pr 75445702479781427272750846543864801 := pr_pock (N := 75445702479781427272750846543864801) (a := 1919519569386763) (b := 75707) pr_2 pr75707 (by decide) (pock_div (q := 1919519569386763) (m := 39304471641247389600) (c := 2) 116 pr_2 (by decide) (by decide) (by decide) (by decide +kernel) (by decide +kernel)) (pock_div (q := 75707) (m := 996548568557483816196003626400) (c := 2) 116 pr75707 (by decide) (by decide) (by decide) (by decide +kernel) (by decide +kernel)) (by decide) (by decide)
theorem pr353 : Pr 353 := pr_trial (by omega) 17 (by decide) (by decide +kernel)
theorem pr_6 : Pr 74058212732561358302231226437062788676166966415465897661863160754340907 := pr_pock (N := 74058212732561358302231226437062788676166966415465897661863160754340907) (a := 75445702479781427272750846543864801) (b := 353) pr_4 pr353 (by decide) (pock_div (q := 75445702479781427272750846543864801) (m := 981609426360740691344999861639072106) (c := 2) 236 pr_4 (by decide) (by decide) (by decide) (by decide +kernel) (by decide +kernel)) (pock_div (q := 353) (m := 209796636636151156663544550813209033076960244803019540118592523383402) (c := 2) 236 pr353 (by decide) (by decide) (by decide) (by decide +kernel) (by decide +kernel)) (by decide) (by decide)
theorem pr2 : Pr 2 := pr_trial (by omega) 0 (by decide) (by decide +kernel)
theorem pr_8 : Pr 57896044618658097711785492504343953926634992332820282019728792003956564819949 := pr_pock (N := 57896044618658097711785492504343953926634992332820282019728792003956564819949) (a := 74058212732561358302231226437062788676166966415465897661863160754340907) (b := 2) pr_6 pr2 (by decide) (pock_div (q := 74058212732561358302231226437062788676166966415465897661863160754340907) (m := 781764) (c := 2) 255 pr_6 (by decide) (by decide) (by decide) (by decide +kernel) (by decide +kernel)) (pock_div (q := 2) (m := 28948022309329048855892746252171976963317496166410141009864396001978282409974) (c := 2) 255 pr2 (by decide) (by decide) (by decide) (by decide +kernel) (by decide +kernel)) (by decide) (by decide)
theorem pr_P : Pr 57896044618658097711785492504343953926634992332820282019728792003956564819949 := pr_8
end Go.Proofs.Ytbgpgbfiadhddaa
/- Sums on a curve over a ring without zero divisors: a group. -/
namespace Go.Proofs.Ytbgpgbfiadhddaa
section
variable {N0 : Nat} [NeZero N0]
theorem comp_id (d i x1 y1 x2 y2 : Fin N0) : (i*x1 + (d*x1*x2*y1*y2)*y1)^2 - d*(x1*y1*(i*x2+y2))^2 =
  (i^2+1)*(x1^2 - d*x1^2*x2^2*y1^2) + ((d*x1*x2*y1*y2)^2 - 1)*(y1^2-1) + (y1^2-x1^2-1-d*x1^2*y1^2) - d*x1^2*y1^2*(y2^2-x2^2-1-d*x2^2*y2^2) := by grind
theorem comp_id' (d i x1 y1 x2 y2 : Fin N0) : (i*x1 - (d*x1*x2*y1*y2)*y1)^2 - d*(x1*y1*(i*x2-y2))^2 =
  (i^2+1)*(x1^2 - d*x1^2*x2^2*y1^2) + ((d*x1*x2*y1*y2)^2 - 1)*(y1^2-1) + (y1^2-x1^2-1-d*x1^2*y1^2) - d*x1^2*y1^2*(y2^2-x2^2-1-d*x2^2*y2^2) := by grind
theorem asx {d x1 y1 x2 y2 x3 y3 u v u' v' s t : Fin N0} (hi : ((x1*y2+x2*y1)*(1-d*x1*x2*y1*y2)*y3+x3*(y1*y2+x1*x2)*(1+d*x1*x2*y1*y2))*((1-(d*x2*x3*y2*y3)^2)+d*(x2*y3+x3*y2)*(y2*y3+x2*x3)*x1*y1) - (x1*(y2*y3+x2*x3)*(1+d*x2*x3*y2*y3)+(x2*y3+x3*y2)*(1-d*x2*x3*y2*y3)*y1)*((1-(d*x1*x2*y1*y2)^2)+d*(x1*y2+x2*y1)*(y1*y2+x1*x2)*x3*y3) = 0)
    (hu : u * (1 + d*x1*x2*y1*y2) = x1*y2+x2*y1) (hv : v * (1 - d*x1*x2*y1*y2) = y1*y2+x1*x2)
    (hu' : u' * (1 + d*x2*x3*y2*y3) = x2*y3+x3*y2) (hv' : v' * (1 - d*x2*x3*y2*y3) = y2*y3+x2*x3)
    (hs : s * (1 + d*u*x3*v*y3) = u*y3+x3*v) (ht : t * (1 + d*x1*u'*y1*v') = x1*v'+u'*y1) :
    s * ((1 + d*x1*x2*y1*y2)*(1 - d*x1*x2*y1*y2)*(1 + d*u*x3*v*y3)*((1 + d*x2*x3*y2*y3)*(1 - d*x2*x3*y2*y3)*(1 + d*x1*u'*y1*v'))) =
    t * ((1 + d*x1*x2*y1*y2)*(1 - d*x1*x2*y1*y2)*(1 + d*u*x3*v*y3)*((1 + d*x2*x3*y2*y3)*(1 - d*x2*x3*y2*y3)*(1 + d*x1*u'*y1*v'))) := by
  rw [← hu, ← hv, ← hu', ← hv'] at hi
  generalize hm : d*x1*x2*y1*y2 = m at *
  generalize hn : d*x2*x3*y2*y3 = n at *
  have e1 : s * ((1 + m)*(1 - m)*(1 + d*u*x3*v*y3)*((1 + n)*(1 - n)*(1 + d*x1*u'*y1*v'))) = (s * (1 + d*u*x3*v*y3)) * ((1+m)*(1-m)*((1 + n)*(1 - n)*(1 + d*x1*u'*y1*v'))) := by clear hi hu hv hu' hv' hs ht hm hn; grind
  have e2 : t * ((1 + m)*(1 - m)*(1 + d*u*x3*v*y3)*((1 + n)*(1 - n)*(1 + d*x1*u'*y1*v'))) = (t * (1 + d*x1*u'*y1*v')) * ((1+m)*(1-m)*((1 + n)*(1 - n)*(1 + d*u*x3*v*y3))) := by clear hi hu hv hu' hv' hs ht hm hn; grind
  rw [e1, e2, hs, ht]
  clear hu hv hu' hv' hs ht hm hn e1 e2
  grind
theorem asy {d x1 y1 x2 y2 x3 y3 u v u' v' s t : Fin N0} (hi : ((y1*y2+x1*x2)*(1+d*x1*x2*y1*y2)*y3+(x1*y2+x2*y1)*(1-d*x1*x2*y1*y2)*x3)*((1-(d*x2*x3*y2*y3)^2)-d*(x2*y3+x3*y2)*(y2*y3+x2*x3)*x1*y1) - (y1*(y2*y3+x2*x3)*(1+d*x2*x3*y2*y3)+x1*(x2*y3+x3*y2)*(1-d*x2*x3*y2*y3))*((1-(d*x1*x2*y1*y2)^2)-d*(x1*y2+x2*y1)*(y1*y2+x1*x2)*x3*y3) = 0)
    (hu : u * (1 + d*x1*x2*y1*y2) = x1*y2+x2*y1) (hv : v * (1 - d*x1*x2*y1*y2) = y1*y2+x1*x2)
    (hu' : u' * (1 + d*x2*x3*y2*y3) = x2*y3+x3*y2) (hv' : v' * (1 - d*x2*x3*y2*y3) = y2*y3+x2*x3)
    (hs : s * (1 - d*u*x3*v*y3) = v*y3+u*x3) (ht : t * (1 - d*x1*u'*y1*v') = y1*v'+x1*u') :
    s * ((1 + d*x1*x2*y1*y2)*(1 - d*x1*x2*y1*y2)*(1 - d*u*x3*v*y3)*((1 + d*x2*x3*y2*y3)*(1 - d*x2*x3*y2*y3)*(1 - d*x1*u'*y1*v'))) =
    t * ((1 + d*x1*x2*y1*y2)*(1 - d*x1*x2*y1*y2)*(1 - d*u*x3*v*y3)*((1 + d*x2*x3*y2*y3)*(1 - d*x2*x3*y2*y3)*(1 - d*x1*u'*y1*v'))) := by
  rw [← hu, ← hv, ← hu', ← hv'] at hi
  generalize hm : d*x1*x2*y1*y2 = m at *
  generalize hn : d*x2*x3*y2*y3 = n at *
  have e1 : s * ((1 + m)*(1 - m)*(1 - d*u*x3*v*y3)*((1 + n)*(1 - n)*(1 - d*x1*u'*y1*v'))) = (s * (1 - d*u*x3*v*y3)) * ((1+m)*(1-m)*((1 + n)*(1 - n)*(1 - d*x1*u'*y1*v'))) := by clear hi hu hv hu' hv' hs ht hm hn; grind
  have e2 : t * ((1 + m)*(1 - m)*(1 - d*u*x3*v*y3)*((1 + n)*(1 - n)*(1 - d*x1*u'*y1*v'))) = (t * (1 - d*x1*u'*y1*v')) * ((1+m)*(1-m)*((1 + n)*(1 - n)*(1 - d*u*x3*v*y3))) := by clear hi hu hv hu' hv' hs ht hm hn; grind
  rw [e1, e2, hs, ht]
  clear hu hv hu' hv' hs ht hm hn e1 e2
  grind
/-- What the ring must have: no zero divisors, inverses, a root of -1, no root of d, 2 is not 0. -/
structure Ed (d i : Fin N0) (inv : Fin N0 → Fin N0) : Prop where
  dom : ∀ x y : Fin N0, x * y = 0 → x = 0 ∨ y = 0
  inv : ∀ x : Fin N0, x ≠ 0 → x * inv x = 1
  sq : i^2 + 1 = 0
  nosq : ∀ x : Fin N0, x * x ≠ d
  two : (2 : Fin N0) ≠ 0
  one : (1 : Fin N0) ≠ 0
variable {d i : Fin N0} {inv : Fin N0 → Fin N0}
theorem Ed.ne (E : Ed d i inv) {x y : Fin N0} (hx : x ≠ 0) (hy : y ≠ 0) : x * y ≠ 0 := fun h => (E.dom x y h).elim hx hy
theorem Ed.cancel (E : Ed d i inv) {x y z : Fin N0} (hz : z ≠ 0) (h : x * z = y * z) : x = y := by
  have h1 : (x - y) * z = 0 := by grind
  rcases E.dom _ _ h1 with h2 | h2
  · grind
  · exact absurd h2 hz
theorem Ed.nosq2 (E : Ed d i inv) {u v : Fin N0} (hu : u ≠ 0) (h : v^2 - d*u^2 = 0) : False := by
  refine E.nosq (v * inv u) ?_
  have h1 := E.inv u hu
  generalize inv u = k at *
  have : v * k * (v * k) = (v^2 - d*u^2) * k^2 + d * (u*k)^2 := by clear h h1; grind
  rw [this, h, h1]
  clear h h1 this
  grind
/-- The curve. -/
def CvG (d x y : Fin N0) : Prop := y^2 - x^2 - 1 - d*x^2*y^2 = 0
theorem Ed.den_sq (E : Ed d i inv) {x1 y1 x2 y2 : Fin N0} (h1 : CvG d x1 y1) (h2 : CvG d x2 y2) : (d*x1*x2*y1*y2)^2 - 1 ≠ 0 := fun hm => by
  unfold CvG at h1 h2
  have hi := E.sq
  have c1 := comp_id d i x1 y1 x2 y2
  have c2 := comp_id' d i x1 y1 x2 y2
  rw [hi, hm, h1, h2] at c1 c2
  have hx : x1 * y1 ≠ 0 := fun h => by
    have : (d*x1*x2*y1*y2)^2 - 1 = (d*x2*y2)^2*(x1*y1)^2 - 1 := by
      clear c1 c2 hm h1 h2 hi h
      grind
    rw [this, h] at hm
    refine E.one ?_
    clear c1 c2 this h h1 h2 hi
    grind
  have s1 : i * x2 + y2 = 0 := Classical.byContradiction fun hs => E.nosq2 (E.ne hx hs) (c1.trans (by clear c1 c2 hm h1 h2 hi hx hs; grind))
  have s2 : i * x2 - y2 = 0 := Classical.byContradiction fun hs => E.nosq2 (E.ne hx hs) (c2.trans (by clear c1 c2 hm h1 h2 hi hx hs s1; grind))
  clear c1 c2 hm h1 hx
  have y0 : y2 = 0 := by
    have : 2 * y2 = 0 := by clear h2 hi; grind
    rcases E.dom _ _ this with h | h
    · exact absurd h E.two
    · exact h
  have x0 : x2 = 0 := by
    have : x2 = (i^2+1)*x2 - i*(i*x2 + y2) + i*y2 := by clear h2 hi s1 s2 y0; grind
    rw [this, hi, s1, y0]; clear h2 hi s1 s2 y0 this; grind
  rw [x0, y0] at h2
  refine E.one ?_
  clear hi s1 s2 x0 y0
  grind
theorem Ed.den_p (E : Ed d i inv) {x1 y1 x2 y2 : Fin N0} (h1 : CvG d x1 y1) (h2 : CvG d x2 y2) : 1 + d*x1*x2*y1*y2 ≠ 0 := fun h => E.den_sq h1 h2 (by
  clear h1 h2
  generalize d*x1*x2*y1*y2 = m at *
  have : m^2 - 1 = (1+m)*(m-1) := by grind
  rw [this, h]; grind)
theorem Ed.den_m (E : Ed d i inv) {x1 y1 x2 y2 : Fin N0} (h1 : CvG d x1 y1) (h2 : CvG d x2 y2) : 1 - d*x1*x2*y1*y2 ≠ 0 := fun h => E.den_sq h1 h2 (by
  clear h1 h2
  generalize d*x1*x2*y1*y2 = m at *
  have : m^2 - 1 = -((1-m)*(1+m)) := by grind
  rw [this, h]; grind)
/-! ### Points and sums -/
structure PtG (N0 : Nat) [NeZero N0] (d : Fin N0) where
  x : Fin N0
  y : Fin N0
  on : CvG d x y
theorem PtG.ext' {p q : PtG N0 d} (hx : p.x = q.x) (hy : p.y = q.y) : p = q := by
  cases p; cases q
  cases hx; cases hy
  rfl
/-- What the two numbers of a sum are: the only ones. -/
structure SumOf (d x1 y1 x2 y2 u v : Fin N0) : Prop where
  x : u * (1 + d*x1*x2*y1*y2) = x1*y2+x2*y1
  y : v * (1 - d*x1*x2*y1*y2) = y1*y2+x1*x2
theorem Ed.sum_on (E : Ed d i inv) {x1 y1 x2 y2 u v : Fin N0} (h1 : CvG d x1 y1) (h2 : CvG d x2 y2) (h : SumOf d x1 y1 x2 y2 u v) : CvG d u v := by
  have hp := E.den_p h1 h2
  have hm := E.den_m h1 h2
  have c := close_id d x1 x2 y1 y2
  obtain ⟨hx, hy⟩ := h
  unfold CvG at *
  rw [h1, h2, ← hx, ← hy] at c
  clear h1 h2 hx hy
  generalize 1 + d*x1*x2*y1*y2 = p at *
  generalize 1 - d*x1*x2*y1*y2 = q at *
  have e : (v^2 - u^2 - 1 - d*u^2*v^2) * (p*q)^2 = 0 := by
    refine Eq.trans ?_ (c.trans ?_)
    · clear c hp hm; grind
    · clear c hp hm; grind
  rcases E.dom _ _ e with e | e
  · exact e
  · exfalso
    have : p*q*(p*q) = 0 := by clear c hp hm; grind
    exact E.ne (E.ne hp hm) (E.ne hp hm) this
theorem Ed.sum_one (E : Ed d i inv) {x1 y1 x2 y2 u v u' v' : Fin N0} (h1 : CvG d x1 y1) (h2 : CvG d x2 y2) (h : SumOf d x1 y1 x2 y2 u v) (h' : SumOf d x1 y1 x2 y2 u' v') : u = u' ∧ v = v' :=
  ⟨E.cancel (E.den_p h1 h2) (h.x.trans h'.x.symm), E.cancel (E.den_m h1 h2) (h.y.trans h'.y.symm)⟩
theorem Ed.sum_iF (E : Ed d i inv) {x1 y1 x2 y2 : Fin N0} (h1 : CvG d x1 y1) (h2 : CvG d x2 y2) : SumOf d x1 y1 x2 y2 ((x1*y2+x2*y1) * inv (1 + d*x1*x2*y1*y2)) ((y1*y2+x1*x2) * inv (1 - d*x1*x2*y1*y2)) := by
  have e1 := E.inv _ (E.den_p h1 h2)
  have e2 := E.inv _ (E.den_m h1 h2)
  clear h1 h2
  refine ⟨?_, ?_⟩
  · clear e2
    generalize 1 + d*x1*x2*y1*y2 = p at *
    generalize inv p = k at *
    grind
  · clear e1
    generalize 1 - d*x1*x2*y1*y2 = p at *
    generalize inv p = k at *
    grind
def paddG (E : Ed d i inv) (p q : PtG N0 d) : PtG N0 d := ⟨_, _, E.sum_on p.on q.on (E.sum_iF p.on q.on)⟩
theorem Ed.padd_sum (E : Ed d i inv) (p q : PtG N0 d) : SumOf d p.x p.y q.x q.y (paddG E p q).x (paddG E p q).y := E.sum_iF p.on q.on
/-- A point is a sum if it does what a sum does. -/
theorem Ed.padd_of (E : Ed d i inv) {p q r : PtG N0 d} (h : SumOf d p.x p.y q.x q.y r.x r.y) : paddG E p q = r := by
  obtain ⟨h1, h2⟩ := E.sum_one p.on q.on (E.padd_sum p q) h
  exact PtG.ext' h1 h2
def pzeroG (d : Fin N0) : PtG N0 d := ⟨0, 1, by unfold CvG; grind⟩
theorem neg_on {x y : Fin N0} (h : CvG d x y) : CvG d (-x) y := by
  unfold CvG at *
  grind
def pnegG (p : PtG N0 d) : PtG N0 d := ⟨-p.x, p.y, neg_on p.on⟩
theorem Ed.comm (E : Ed d i inv) (p q : PtG N0 d) : paddG E p q = paddG E q p := by
  refine E.padd_of ?_
  obtain ⟨h1, h2⟩ := E.padd_sum q p
  exact ⟨by rw [show d*p.x*q.x*p.y*q.y = d*q.x*p.x*q.y*p.y by clear h1 h2; grind, h1]; clear h1 h2; grind, by rw [show d*p.x*q.x*p.y*q.y = d*q.x*p.x*q.y*p.y by clear h1 h2; grind, h2]; clear h1 h2; grind⟩
theorem Ed.add_zero (E : Ed d i inv) (p : PtG N0 d) : paddG E p (pzeroG d) = p := by
  refine E.padd_of ⟨?_, ?_⟩
  · show p.x * (1 + d*p.x*0*p.y*1) = p.x*1 + 0*p.y
    grind
  · show p.y * (1 - d*p.x*0*p.y*1) = p.y*1 + p.x*0
    grind
theorem Ed.zero_add (E : Ed d i inv) (p : PtG N0 d) : paddG E (pzeroG d) p = p := by rw [E.comm, E.add_zero]
theorem Ed.add_neg (E : Ed d i inv) (p : PtG N0 d) : paddG E p (pnegG p) = pzeroG d := by
  have hc := p.on
  unfold CvG at hc
  refine E.padd_of ⟨?_, ?_⟩
  · show 0 * (1 + d*p.x*(-p.x)*p.y*p.y) = p.x*p.y + (-p.x)*p.y
    clear hc; grind
  · show 1 * (1 - d*p.x*(-p.x)*p.y*p.y) = p.y*p.y + p.x*(-p.x)
    generalize p.x = x at *
    generalize p.y = y at *
    grind
theorem pnegG_pnegG (p : PtG N0 d) : pnegG (pnegG p) = p := PtG.ext' (by show - -p.x = p.x; grind) rfl
theorem zmul3 (a b c : Fin N0) : a * 0 + b * 0 + c * 0 = 0 := by grind
theorem Ed.assoc (E : Ed d i inv) (p q r : PtG N0 d) : paddG E (paddG E p q) r = paddG E p (paddG E q r) := by
  have a1 := E.padd_sum p q
  have a2 := E.padd_sum q r
  have a3 := E.padd_sum (paddG E p q) r
  have a4 := E.padd_sum p (paddG E q r)
  have n1 := E.den_p p.on q.on
  have n1' := E.den_m p.on q.on
  have n2 := E.den_p q.on r.on
  have n2' := E.den_m q.on r.on
  have n3 := E.den_p (paddG E p q).on r.on
  have n3' := E.den_m (paddG E p q).on r.on
  have n4 := E.den_p p.on (paddG E q r).on
  have n4' := E.den_m p.on (paddG E q r).on
  have i1 := assoc_x d p.x q.x r.x p.y q.y r.y
  have i2 := assoc_y d p.x q.x r.x p.y q.y r.y
  have c1 := p.on
  have c2 := q.on
  have c3 := r.on
  unfold CvG at c1 c2 c3
  rw [c1, c2, c3, zmul3] at i1 i2
  obtain ⟨a1x, a1y⟩ := a1
  obtain ⟨a2x, a2y⟩ := a2
  obtain ⟨a3x, a3y⟩ := a3
  obtain ⟨a4x, a4y⟩ := a4
  refine PtG.ext' ?_ ?_
  · exact E.cancel (E.ne (E.ne (E.ne n1 n1') n3) (E.ne (E.ne n2 n2') n4)) (asx i1 a1x a1y a2x a2y a3x a4x)
  · exact E.cancel (E.ne (E.ne (E.ne n1 n1') n3') (E.ne (E.ne n2 n2') n4')) (asy i2 a1x a1y a2x a2y a3y a4y)
/-! ### As often as a number says -/
def pmulG (E : Ed d i inv) : Nat → PtG N0 d → PtG N0 d
  | 0, _ => pzeroG d
  | n + 1, p => paddG E (pmulG E n p) p
theorem Ed.mul_add (E : Ed d i inv) (m n : Nat) (p : PtG N0 d) : pmulG E (m + n) p = paddG E (pmulG E m p) (pmulG E n p) := by
  induction n with
  | zero => exact (E.add_zero _).symm
  | succ n ih => show paddG E (pmulG E (m + n) p) p = paddG E (pmulG E m p) (paddG E (pmulG E n p) p); rw [ih, E.assoc]
theorem Ed.mul_zero (E : Ed d i inv) (n : Nat) : pmulG E n (pzeroG d) = pzeroG d := by
  induction n with
  | zero => rfl
  | succ n ih => show paddG E (pmulG E n (pzeroG d)) (pzeroG d) = _; rw [ih, E.add_zero]
theorem Ed.one_mul (E : Ed d i inv) (p : PtG N0 d) : pmulG E 1 p = p := E.zero_add p
theorem Ed.add4 (E : Ed d i inv) (a b c e : PtG N0 d) : paddG E (paddG E a b) (paddG E c e) = paddG E (paddG E a c) (paddG E b e) := by
  rw [E.assoc, ← E.assoc b c e, E.comm b c, E.assoc c b e, ← E.assoc a c]
theorem Ed.mul_padd (E : Ed d i inv) (n : Nat) (p q : PtG N0 d) : pmulG E n (paddG E p q) = paddG E (pmulG E n p) (pmulG E n q) := by
  induction n with
  | zero => exact (E.add_zero _).symm
  | succ n ih => show paddG E (pmulG E n (paddG E p q)) (paddG E p q) = paddG E (paddG E (pmulG E n p) p) (paddG E (pmulG E n q) q); rw [ih, E.add4]
theorem Ed.mul_mul (E : Ed d i inv) (m n : Nat) (p : PtG N0 d) : pmulG E (m * n) p = pmulG E m (pmulG E n p) := by
  induction m with
  | zero => rw [Nat.zero_mul]; rfl
  | succ m ih => rw [Nat.succ_mul, E.mul_add, ih]; rfl
theorem pnegG_zero : pnegG (pzeroG d) = pzeroG d := PtG.ext' (by show -(0 : Fin N0) = 0; grind) rfl
/-- Of a point only one is the negative. -/
theorem Ed.neg_one (E : Ed d i inv) {p q : PtG N0 d} (h : paddG E p q = pzeroG d) : q = pnegG p := by
  rw [← E.zero_add q, ← E.add_neg p, E.comm p (pnegG p), E.assoc, h, E.add_zero]
theorem Ed.neg_padd (E : Ed d i inv) (p q : PtG N0 d) : pnegG (paddG E p q) = paddG E (pnegG p) (pnegG q) := by
  refine (E.neg_one ?_).symm
  rw [E.add4, E.add_neg, E.add_neg, E.add_zero]
theorem Ed.mul_neg (E : Ed d i inv) (n : Nat) (p : PtG N0 d) : pmulG E n (pnegG p) = pnegG (pmulG E n p) := by
  induction n with
  | zero => exact pnegG_zero.symm
  | succ n ih => show paddG E (pmulG E n (pnegG p)) (pnegG p) = _; rw [ih, ← E.neg_padd]; rfl
end
end Go.Proofs.Ytbgpgbfiadhddaa
