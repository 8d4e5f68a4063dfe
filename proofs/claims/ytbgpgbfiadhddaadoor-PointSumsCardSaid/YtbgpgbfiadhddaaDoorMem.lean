/- Words for memory: what a call may have changed, blocks that are known whole, slices that one object owns. -/
import Derived.WalkKit
import Derived.Deep.AppendSrc
import Derived.Deep.Draws
import Derived.Deep.Upon
namespace Go.Proofs.YtbgpgbfiadhddaaDoor
open Go.RowKit

/-! ## 1. What a call may have changed -/

/-- Only the blocks of S, and new ones, differ. -/
structure Touch (S : List Nat) (w w' : World) : Prop where
  os : w'.os = w.os
  tape : w'.tape = w.tape
  output : w'.output = w.output
  size : w.heap.size ≤ w'.heap.size
  block : ∀ k, k < w.heap.size → k ∉ S → w'.heap[k]? = w.heap[k]?

theorem Touch.refl (S : List Nat) (w : World) : Touch S w w := ⟨rfl, rfl, rfl, Nat.le_refl _, fun _ _ _ => rfl⟩
theorem Touch.trans {S : List Nat} {a b c : World} (h : Touch S a b) (k : Touch S b c) : Touch S a c :=
  ⟨k.os.trans h.os, k.tape.trans h.tape, k.output.trans h.output, Nat.le_trans h.size k.size,
    fun i hi hn => (k.block i (Nat.lt_of_lt_of_le hi h.size) hn).trans (h.block i hi hn)⟩
theorem Touch.mono {S T : List Nat} {w w' : World} (h : Touch S w w') (hS : ∀ k, k ∈ S → k < w.heap.size → k ∈ T) : Touch T w w' :=
  ⟨h.os, h.tape, h.output, h.size, fun i hi hn => h.block i hi (fun hm => hn (hS i hm hi))⟩
theorem Touch.drew {S : List Nat} {a w : World} (h : Touch S a w) : Touch S a w.drew := ⟨h.os, h.tape, h.output, h.size, h.block⟩
theorem Touch.alloc {S : List Nat} {a w : World} (h : Touch S a w) (o : Obj) : Touch S a (w.alloc o) :=
  ⟨h.os, h.tape, h.output, Nat.le_trans h.size (by simp), fun k hk hn => (Below.heap_alloc w o k (Nat.lt_of_lt_of_le hk h.size)).trans (h.block k hk hn)⟩
theorem Touch.setCell {S : List Nat} {a w : World} (h : Touch S a w) {p : Addr} (hp : p.block ∈ S ∨ a.heap.size ≤ p.block) (u : Value) : Touch S a (w.setCell p u) :=
  ⟨h.os, h.tape, h.output, by simpa using h.size, fun k hk hn => (Below.heap_setCell w p u k (by
    rintro rfl
    rcases hp with hp | hp
    · exact hn hp
    · omega)).trans (h.block k hk hn)⟩
theorem Touch.setCells {S : List Nat} {a : World} {b : Nat} (hp : b ∈ S ∨ a.heap.size ≤ b) : ∀ (vs : List Value) (o : Nat) (w : World), Touch S a w → Touch S a (w.setCells b o vs)
  | [], _, _, h => h
  | v :: r, o, w, h => by
    rw [World.setCells]
    exact Touch.setCells hp r (o + 1) _ (h.setCell (p := ⟨b, o, none⟩) hp v)
/-- All that is old stays. -/
theorem Touch.below {S : List Nat} {a w : World} {B : Nat} (h : Touch S a w) (hB : B ≤ a.heap.size) (hS : ∀ k ∈ S, B ≤ k) : Below B a w :=
  ⟨h.os, h.tape, h.output, h.size, fun k hk => h.block k (by omega) (fun hm => by have := hS k hm; omega)⟩
theorem Touch.of_below {S : List Nat} {a w : World} (h : Below a.heap.size a w) : Touch S a w :=
  ⟨h.os, h.tape, h.output, h.size, fun k hk _ => h.block k hk⟩
theorem Touch.cell {S : List Nat} {a w : World} (h : Touch S a w) {p : Addr} (hp : p.block < a.heap.size) (hn : p.block ∉ S) : w.cell? p = a.cell? p :=
  World.cell?_of_block (h.block _ hp hn)

theorem Touch.drewN {S : List Nat} {a w : World} (h : Touch S a w) (n : Nat) : Touch S a (w.drewN n) := ⟨h.os, h.tape, h.output, h.size, h.block⟩
theorem Touch.of_drewN {S : List Nat} {a w : World} (n : Nat) (h : Touch S (a.drewN n) w) : Touch S a w := ⟨h.os, h.tape, h.output, h.size, h.block⟩

/-! ## 2. A block that is known whole -/
def Blk (w : World) (g : Nat) (t : TypeId) (cs : Array Value) : Prop := w.heap[g]? = some (.cells cs t (0, 0))
section
variable {w w' : World} {g : Nat} {t : TypeId} {cs : Array Value}
theorem Blk.lt (h : Blk w g t cs) : g < w.heap.size := by
  rcases Nat.lt_or_ge g w.heap.size with hlt | hge
  · exact hlt
  · unfold Blk at h; rw [Array.getElem?_eq_none hge] at h; cases h
theorem Blk.cell (h : Blk w g t cs) (i : Nat) : w.cell? ⟨g, i, none⟩ = cs[i]? := cell_of_row w g i cs t (0, 0) h
theorem Blk.frozen (h : Blk w g t cs) (i : Nat) : w.frozen? ⟨g, i, none⟩ = false := by
  unfold Blk at h
  simp [World.frozen?, h]
theorem Blk.new (w : World) (t : TypeId) (cs : Array Value) : Blk (w.alloc (.cells cs t)) w.heap.size t cs := heap_alloc_new w _
theorem Blk.alloc (h : Blk w g t cs) (o : Obj) : Blk (w.alloc o) g t cs := (Below.heap_alloc w o g h.lt).trans h
theorem Blk.drew (h : Blk w g t cs) : Blk w.drew g t cs := h
theorem Blk.drewN (h : Blk w g t cs) (n : Nat) : Blk (w.drewN n) g t cs := h
theorem Blk.set_ (h : Blk w g t cs) (i : Nat) (u : Value) : Blk (w.setCell ⟨g, i, none⟩ u) g t (cs.setIfInBounds i u) := by
  unfold Blk at h ⊢
  simp [World.setCell, Array.getElem?_modify, h]
theorem Blk.far (h : Blk w g t cs) {p : Addr} (hp : g ≠ p.block) (u : Value) : Blk (w.setCell p u) g t cs := (Below.heap_setCell w p u g hp).trans h
theorem Blk.touch {S : List Nat} (h : Blk w g t cs) (hb : Touch S w w') (hn : g ∉ S) : Blk w' g t cs := (hb.block g h.lt hn).trans h
theorem Blk.ne_ {g' : Nat} {t' : TypeId} {cs' : Array Value} (h : Blk w g t cs) (h' : Blk w g' t' cs') (hne : t ≠ t') : g ≠ g' := by
  rintro rfl
  unfold Blk at h h'
  rw [h] at h'
  injection h' with h'
  injection h' with _ ht
  exact hne ht
theorem Blk.farCells (h : Blk w g t cs) {b : Nat} (hp : g ≠ b) : ∀ (vs : List Value) (o : Nat), Blk (w.setCells b o vs) g t cs := by
  intro vs
  induction vs generalizing w with
  | nil => intro o; exact h
  | cons v r ih => intro o; rw [World.setCells]; exact ih (h.far (p := ⟨b, o, none⟩) hp v) (o + 1)
theorem Blk.setCells (vs : List Value) : ∀ (o : Nat) (w : World) (cs : Array Value), Blk w g t cs →
    ∃ cs', Blk (w.setCells g o vs) g t cs' ∧ cs'.size = cs.size ∧ (∀ j, j < o ∨ o + vs.length ≤ j → cs'[j]? = cs[j]?) ∧ (∀ j u, vs[j]? = some u → o + j < cs.size → cs'[o + j]? = some u) := by
  induction vs with
  | nil => intro o w cs h; exact ⟨cs, h, rfl, fun _ _ => rfl, fun _ _ h => by cases h⟩
  | cons v r ih =>
    intro o w cs h
    obtain ⟨cs', h1, h2, h3, h4⟩ := ih (o + 1) _ _ (h.set_ o v)
    refine ⟨cs', h1, by simpa using h2, fun j hj => ?_, fun j u hu hlt => ?_⟩
    · rw [h3 j (by simp only [List.length_cons] at hj; omega), Array.getElem?_setIfInBounds_ne (by simp only [List.length_cons] at hj; omega)]
    · match j, hu with
      | 0, hu =>
        simp at hu
        subst hu
        rw [Nat.add_zero, h3 o (by omega), Array.getElem?_setIfInBounds_self_of_lt (by simpa using hlt)]
      | j + 1, hu =>
        have := h4 j u (by simpa using hu) (by simp; omega)
        rwa [show o + 1 + j = o + (j + 1) by omega] at this
end

/-- The new row is the old one, or a new block, or none. -/
def NewRow (w : World) (row row' : Option Nat) : Prop := ∀ g, row' = some g → row = some g ∨ w.heap.size ≤ g
theorem NewRow.refl (w : World) (row : Option Nat) : NewRow w row row := fun _ h => .inl h
theorem NewRow.none (w : World) (row : Option Nat) : NewRow w row .none := fun _ h => by cases h
theorem NewRow.fresh (w : World) (row : Option Nat) {g : Nat} (h : w.heap.size ≤ g) : NewRow w row (some g) := fun _ e => by cases e; exact .inr h
theorem NewRow.before {w w' : World} {row row' : Option Nat} (h : NewRow w' row row') (hs : w.heap.size ≤ w'.heap.size) : NewRow w row row' :=
  fun g e => (h g e).elim .inl (fun hg => .inr (Nat.le_trans hs hg))
theorem NewRow.trans {w w' : World} {a b c : Option Nat} (h : NewRow w a b) (k : NewRow w' b c) (hs : w.heap.size ≤ w'.heap.size) : NewRow w a c :=
  fun g e => (k g e).elim (h g) (fun hg => .inr (Nat.le_trans hs hg))

/-! ## 3. A slice that one object owns: it may be appended to -/
/-- The slice v of n elements holds the cells xs; 'row': the block that it may write to (none: no room at all). -/
def Own (w : World) (e size : Nat) (v : Value) (n : Nat) (xs : List Value) (row : Option Nat) : Prop :=
  xs.length = n * size ∧ ((∃ A, v = .slice A 0 0 ∧ n = 0 ∧ row = none) ∨
    ∃ g off c cur, v = .slice (some ⟨g, off, none⟩) n c ∧ row = some g ∧ Blk w g e cur ∧ 0 < c ∧ n ≤ c ∧ c ≤ maxLen ∧ off + c * size ≤ cur.size ∧ ∀ j u, xs[j]? = some u → cur[off + j]? = some u)

section
variable {w w' : World} {e size n : Nat} {v : Value} {xs : List Value} {row : Option Nat}
theorem Own.nil (w : World) (e size : Nat) (A : Option Addr) : Own w e size (.slice A 0 0) 0 [] none := ⟨by simp, .inl ⟨A, rfl, rfl, rfl⟩⟩
theorem Own.lt (h : Own w e size v n xs row) {g : Nat} (hg : row = some g) : g < w.heap.size := by
  rcases h.2 with ⟨_, _, _, hr⟩ | ⟨g', _, _, _, _, hr, hb, _⟩
  · rw [hr] at hg; cases hg
  · rw [hr] at hg; cases hg; exact hb.lt
theorem Own.touch {S : List Nat} (h : Own w e size v n xs row) (ht : Touch S w w') (hS : ∀ g, row = some g → g ∉ S) : Own w' e size v n xs row := by
  refine ⟨h.1, ?_⟩
  rcases h.2 with hn | ⟨g, off, c, cur, hv, hr, hb, rest⟩
  · exact .inl hn
  · exact .inr ⟨g, off, c, cur, hv, hr, hb.touch ht (hS g hr), rest⟩
theorem Own.drewN (h : Own w e size v n xs row) (k : Nat) : Own (w.drewN k) e size v n xs row := h
theorem Own.drew (h : Own w e size v n xs row) : Own w.drew e size v n xs row := h
theorem Own.alloc (h : Own w e size v n xs row) (o : Obj) : Own (w.alloc o) e size v n xs row := h.touch ((Touch.refl [] w).alloc o) (fun _ _ => by simp)
theorem Own.ne_ {p : Nat} {t : TypeId} {cs : Array Value} (h : Own w e size v n xs row) (hb : Blk w p t cs) (hne : e ≠ t) : ∀ g, row = some g → g ≠ p := by
  intro g hg
  rcases h.2 with ⟨_, _, _, hr⟩ | ⟨g', _, _, _, _, hr, hb', _⟩
  · rw [hr] at hg; cases hg
  · rw [hr] at hg; cases hg; exact hb'.ne_ hb hne
theorem notin_row {row : Option Nat} {p : Nat} (h : ∀ g, row = some g → g ≠ p) : p ∉ row.toList := by
  intro hm
  rw [Option.mem_toList] at hm
  exact h p hm rfl
theorem Own.far (h : Own w e size v n xs row) {a : Addr} (ha : ∀ g, row = some g → g ≠ a.block) (u : Value) : Own (w.setCell a u) e size v n xs row :=
  h.touch ((Touch.refl [a.block] w).setCell (.inl (by simp)) u) (fun g hg => by simpa using ha g hg)
theorem Own.shape (h : Own w e size v n xs row) : ∃ A c, v = .slice A n c ∧ n ≤ c := by
  rcases h.2 with ⟨A, hv, hn, _⟩ | ⟨g, off, c, cur, hv, _, _, _, hc, _⟩
  · subst hn; exact ⟨A, 0, hv, Nat.le_refl _⟩
  · exact ⟨_, c, hv, hc⟩
/-- Where an element is, there is a row. -/
theorem Own.at_ (h : Own w e size v n xs row) (hn : 0 < n) : ∃ g off c cur, v = .slice (some ⟨g, off, none⟩) n c ∧ row = some g ∧ Blk w g e cur ∧ 0 < c ∧ n ≤ c ∧ c ≤ maxLen ∧ off + c * size ≤ cur.size ∧ ∀ j u, xs[j]? = some u → cur[off + j]? = some u := by
  rcases h.2 with ⟨_, _, h0, _⟩ | h
  · omega
  · exact h
/-- s[k:] -/
theorem Own.cut {g off c : Nat} (h : Own w e size (.slice (some ⟨g, off, none⟩) n c) n xs row) {k : Nat} (hk : k ≤ n) (hkc : k < c) :
    Own w e size (.slice (some ⟨g, off + k * size, none⟩) (n - k) (c - k)) (n - k) (xs.drop (k * size)) row := by
  refine ⟨by rw [List.length_drop, h.1, Nat.sub_mul], ?_⟩
  rcases h.2 with ⟨A, hv, hn, hr⟩ | ⟨g', off', c', cur, hv, hr, hb, hc0, hnc, hcm, hcs, hx⟩
  · injection hv with _ _ hcc; omega
  · injection hv with ha _ hcc
    injection ha with ha
    injection ha with hg ho
    subst hg; subst ho; subst hcc
    refine .inr ⟨g, off + k * size, c - k, cur, rfl, hr, hb, by omega, by omega, by omega, ?_, fun j u hu => ?_⟩
    · have : k * size + (c - k) * size = c * size := by rw [← Nat.add_mul]; congr 1; omega
      omega
    · rw [List.getElem?_drop] at hu
      have := hx _ u hu
      rwa [show off + (k * size + j) = off + k * size + j by omega] at this
end

/-- What a slice that is owned yields to an append. -/
theorem Own.src {P : Program} {w : World} {e size n : Nat} {v : Value} {xs : List Value} {row : Option Nat} {tx e' : TypeId} (h : Own w e size v n xs row) (h1 : ∀ u ∈ xs, u.oneCell' = true)
    (hk : P.underlying tx = some (.slice e')) : Src P size tx v n xs w := by
  rcases h.2 with ⟨A, rfl, rfl, _⟩ | ⟨g, off, c, cur, rfl, _, hb, _, _, _, _, hx⟩
  · have hx : xs = [] := List.eq_nil_of_length_eq_zero (by simpa using h.1)
    subst hx
    cases A with
    | none => exact Src.ofNil w hk 0
    | some a => exact Src.ofSlice w hk a 0 0 [] (by simp) (by intro _ _ h'; simp at h') h1
  · exact Src.ofSlice w hk _ n c xs h.1 (fun j u hu => by rw [Addr.add_lit]; exact (hb.cell _).trans (hx j u hu)) h1

section
variable {P : Program}
/-- clear of a slice of one element of one cell. -/
theorem run_clear1 (w : World) (t ty e : TypeId) (i : TypeInfo) (z : Value) (ht : P.underlying t = some (.slice e)) (hi : P.info? e = some i) (hz : i.zero = some z) (h1 : z.cells = #[z]) (ho : z.oneCell' = true)
    (g off c : Nat) (cur : Array Value) (hb : Blk w g e cur) (hoff : off < cur.size) :
    (Builtin.clear_ #[t] ty #[.slice (some ⟨g, off, none⟩) 1 c]).run P w = .ok (.tuple #[]) (w.setCell ⟨g, off, none⟩ z) := by
  have hst := run_storeCells_cells (P := P) g off [z] 0 w (fun j hj => by
      have : j = 0 := by simpa using hj
      subst this
      rw [hb.cell, Array.getElem?_eq_getElem (by omega)]; rfl) (fun j _ => hb.frozen _) (by simpa using ho)
  have hzc : Builtin.zeroCells #[z] 1 = #[z] := by
    apply Array.ext
    · simp [Builtin.zeroCells]
    · intro i h1 h2
      have : i = 0 := by simpa using h2
      subst this
      simp [Builtin.zeroCells]
  simp only [Nat.add_zero] at hst
  simp [Builtin.clear_, run_underlying ht, zeroValue, typeInfo, hi, hz, h1, hzc, hst, World.setCells]
theorem wpList_clear1 (w : World) {ops : Array Oper} {rest : List Oper} {o : Oper} {a : Act} {Q : Exit → Act → World → Prop} (hgd : o.guard = none) (x : Operand) (t : TypeId)
    (hop : o.op = .call { callee := .builtin .clear, args := #[x], argTypes := #[t] })
    (e : TypeId) (i : TypeInfo) (z : Value) (ht : P.underlying t = some (.slice e)) (hi : P.info? e = some i) (hz : i.zero = some z) (h1 : z.cells = #[z]) (ho : z.oneCell' = true)
    (g off c : Nat) (cur : Array Value) (hx : a.eval x = .slice (some ⟨g, off, none⟩) 1 c) (hb : Blk w g e cur) (hoff : off < cur.size)
    (h : wpList P ops Q rest (a.put o.dst (.tuple #[])) (w.setCell ⟨g, off, none⟩ z)) : wpList P ops Q (o :: rest) a w :=
  wpList_plain hgd fun _ hK => by
    unfold Oper.wp execOp
    simp only [hop, resolve, invoke, builtin, Sem.run_bind, Sem.run_pure, Result.andThen_ok, List.map_toArray, List.map_cons, List.map_nil, hx, run_clear1 (P := P) w t o.type e i z ht hi hz h1 ho g off c cur hb hoff]
    exact hK _ _ h
/-- append: m elements more. -/
theorem run_append_Own (w : World) (t tx ty e : TypeId) (i : TypeInfo) (z : Value) (size bytes : Nat) (ht : P.underlying t = some (.slice e)) (hi : P.info? e = some i) (hz : i.zero = some z)
    (hsize : i.size = size) (hby : i.bytes = bytes) (hzs : z.cells.size = size)
    (v : Value) (n : Nat) (xs : List Value) (row : Option Nat) (hown : Own w e size v n xs row)
    (x : Value) (m : Nat) (news : List Value) (hs : Src P size tx x m news w)
    (h63 : n + m ≤ maxLen) (hbytes : (n + m) * bytes ≤ 140737488355328) :
    ∃ v' w' row', (Builtin.append_ #[t, tx] ty #[v, x]).run P w = .ok v' w' ∧ Own w' e size v' (n + m) (xs ++ news) row' ∧ Touch row.toList w w' ∧ NewRow w row row' := by
  subst hsize
  subst hby
  have hlen : (xs ++ news).length = (n + m) * i.size := by rw [List.length_append, hown.1, hs.newsLen, Nat.add_mul]
  have hsmall : ((n + m : Nat) : Int) ≤ 9223372036854775807 := by simp only [maxLen] at h63; omega
  have grow : ∀ (A : Option Addr) (c : Nat), v = .slice A n c → c < n + m →
      (Builtin.firstCells i.size n (.slice A n c)).run P w.drew = .ok xs.toArray w.drew →
      ∃ v' w' row', (Builtin.append_ #[t, tx] ty #[v, x]).run P w = .ok v' w' ∧ Own w' e i.size v' (n + m) (xs ++ news) row' ∧ Touch row.toList w w' ∧ NewRow w row row' := by
    rintro A c rfl hc hold
    have hr := run_append_grow_src (P := P) w t tx ty e i z ht hi hz A n c xs hold x m news hs hc hsmall (growslice_fits hc hbytes)
    have hge := grownCap_ge w (n + m) c e
    have hcm := grownCap_le_maxLen w (n + m) c e h63
    refine ⟨_, _, some w.heap.size, hr, ⟨hlen, .inr ⟨w.heap.size, 0, _, _, rfl, rfl, Blk.new w.drew _ _, by omega, hge, hcm, ?_, fun j u hu => ?_⟩⟩, ((Touch.refl _ w).drew.alloc _), .fresh _ _ (Nat.le_refl _)⟩
    · simp only [Array.size_append, List.size_toArray, size_zeroCells, hzs, hlen, ← Nat.add_mul]
      have : (n + m + (grownCap w (n + m) c e - (n + m))) = grownCap w (n + m) c e := by omega
      rw [this]; omega
    · have hj : j < (xs ++ news).length := (List.getElem?_eq_some_iff.1 hu).1
      rw [Nat.zero_add, Array.getElem?_append_left (by simpa using hj), List.getElem?_toArray]
      exact hu
  rcases hown.2 with ⟨A, rfl, rfl, rfl⟩ | ⟨g, off, c, cur, rfl, rfl, hb, hc0, hnc, hcm, hcs, hx⟩
  · have hx : xs = [] := List.eq_nil_of_length_eq_zero (by simpa using hown.1)
    subst hx
    by_cases hm0 : m = 0
    · subst hm0
      have hnews : news = [] := List.eq_nil_of_length_eq_zero (by simpa using hs.newsLen)
      subst hnews
      exact ⟨_, _, none, run_append_nothing (P := P) w t tx ty e i ht hi A 0 0 (Nat.le_refl _) x hs, Own.nil _ _ _ _, Touch.refl _ _, .refl _ _⟩
    refine grow A 0 rfl (by omega) ?_
    cases A with
    | none => exact run_firstCells_none w.drew i.size 0 0 0
    | some a => exact run_firstCells_some w.drew i.size 0 a 0 0 [] (by simp) (by intro _ _ h'; simp at h')
  · by_cases hroom : n + m ≤ c
    · have hmul : (n + m) * i.size ≤ c * i.size := Nat.mul_le_mul_right _ hroom
      rw [Nat.add_mul] at hmul
      have hnl := hs.newsLen
      have hr := run_append_room_src (P := P) w t tx ty e i ht hi g off n c x m news hs hroom
        (fun j hj => by rw [hb.cell]; rw [Array.getElem?_eq_getElem (by omega)]; rfl)
        (fun j hj => hb.frozen _)
      obtain ⟨cs', h1, h2, h3, h4⟩ := Blk.setCells news (off + n * i.size) w cur hb
      refine ⟨_, _, some g, hr, ⟨hlen, .inr ⟨g, off, c, cs', rfl, rfl, h1, hc0, hroom, hcm, by omega, fun j u hu => ?_⟩⟩, Touch.setCells (by simp) news _ w (Touch.refl _ w), .refl _ _⟩
      by_cases hj : j < xs.length
      · rw [List.getElem?_append_left hj] at hu
        rw [h3 _ (by rw [hown.1] at hj; omega)]
        exact hx j u hu
      · rw [List.getElem?_append_right (by omega)] at hu
        have hj2 : j - xs.length < news.length := (List.getElem?_eq_some_iff.1 hu).1
        have := h4 _ u hu (by omega)
        rwa [show off + n * i.size + (j - xs.length) = off + j by rw [hown.1] at *; omega] at this
    · refine grow _ c rfl (by omega) ?_
      refine run_firstCells_some w.drew i.size n ⟨g, off, none⟩ n c xs hown.1 (fun j u hu => ?_)
      rw [Addr.add_lit]
      exact (hb.drew.cell _).trans (hx j u hu)

theorem wp_append_Own (w : World) {o : Oper} {a : Act} {K : Act → World → Prop} {Q : Exit → Act → World → Prop} (s x : Operand) (t tx : TypeId)
    (ho : o.op = .call { callee := .builtin .append, args := #[s, x], argTypes := #[t, tx] })
    (e : TypeId) (i : TypeInfo) (z : Value) (size bytes : Nat) (ht : P.underlying t = some (.slice e)) (hi : P.info? e = some i) (hz : i.zero = some z)
    (hsize : i.size = size) (hby : i.bytes = bytes) (hzs : z.cells.size = size)
    (v : Value) (n : Nat) (xs : List Value) (row : Option Nat) (hv : a.eval s = v) (hown : Own w e size v n xs row)
    (xv : Value) (m : Nat) (news : List Value) (hx : a.eval x = xv) (hs : Src P size tx xv m news w)
    (h63 : n + m ≤ maxLen) (hbytes : (n + m) * bytes ≤ 140737488355328)
    (h : ∀ v' w' row', Own w' e size v' (n + m) (xs ++ news) row' → Touch row.toList w w' → NewRow w row row' → K (a.put o.dst v') w') : o.wp P a w K Q := by
  obtain ⟨v', w', row', hrun, h2, h3, h4⟩ := run_append_Own (P := P) w t tx o.type e i z size bytes ht hi hz hsize hby hzs v n xs row hown xv m news hs h63 hbytes
  unfold Oper.wp execOp
  simp only [ho, resolve, invoke, builtin, Sem.run_bind, Sem.run_pure, Result.andThen_ok, List.map_toArray, List.map_cons, List.map_nil, hv, hx, hrun]
  exact h v' w' row' h2 h3 h4

theorem wpList_append_Own (w : World) {ops : Array Oper} {rest : List Oper} {o : Oper} {a : Act} {Q : Exit → Act → World → Prop} (hgd : o.guard = none) (s x : Operand) (t tx : TypeId)
    (ho : o.op = .call { callee := .builtin .append, args := #[s, x], argTypes := #[t, tx] })
    (e : TypeId) (i : TypeInfo) (z : Value) (size bytes : Nat) (ht : P.underlying t = some (.slice e)) (hi : P.info? e = some i) (hz : i.zero = some z)
    (hsize : i.size = size) (hby : i.bytes = bytes) (hzs : z.cells.size = size)
    (v : Value) (n : Nat) (xs : List Value) (row : Option Nat) (hv : a.eval s = v) (hown : Own w e size v n xs row)
    (xv : Value) (m : Nat) (news : List Value) (hx : a.eval x = xv) (hs : Src P size tx xv m news w)
    (h63 : n + m ≤ maxLen) (hbytes : (n + m) * bytes ≤ 140737488355328)
    (h : ∀ v' w' row', Own w' e size v' (n + m) (xs ++ news) row' → Touch row.toList w w' → NewRow w row row' → wpList P ops Q rest (a.put o.dst v') w') : wpList P ops Q (o :: rest) a w :=
  wpList_plain hgd fun _ hK => wp_append_Own w s x t tx ho e i z size bytes ht hi hz hsize hby hzs v n xs row hv hown xv m news hx hs h63 hbytes fun v' w' row' h2 h3 h4 => hK _ _ (h v' w' row' h2 h3 h4)
end
theorem ret_int {k : IntKind} {a b : Int} (h : a = b) : Ending.returned (.int k a) = .returned (.int k b) := by rw [h]
theorem ret_bool {a b : Bool} (h : a = b) : Ending.returned (.bool a) = .returned (.bool b) := by rw [h]
theorem ret_eq {a b : Value} (h : a = b) : Ending.returned a = .returned b := by rw [h]
end Go.Proofs.YtbgpgbfiadhddaaDoor
