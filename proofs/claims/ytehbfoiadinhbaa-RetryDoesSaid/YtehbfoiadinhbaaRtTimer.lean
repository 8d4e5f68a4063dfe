/- The timer's heap, and what lies apart (joined). -/
import Derived.Test.YtehbfoiadinhbaaRows
import Derived.WalkKit
import Derived.Deep.AppendSrc
import Derived.Deep.Draws
import Derived.Deep.Upon
import Derived.WalkLawsBesides
import Derived.Lib.Hide
import Derived.Deep.QuietTactic
import Derived.BigQuiet
import Derived.Deep.RegionHeld3
import Derived.RegionTactic
import Derived.Deep.DeepCutAuto
import Derived.Deep.CutBlock
import Derived.Deep.LoopGhost
import Derived.Lib.SliceRun
namespace Go.Proofs.Ytehbfoiadinhbaa
open Go Go.RowKit
/-! Heap -/
abbrev Al := Int × Int
def ltA (a b : Al) : Prop := a.1 < b.1 ∨ (a.1 = b.1 ∧ a.2 < b.2)
instance (a b : Al) : Decidable (ltA a b) := by unfold ltA; exact inferInstance
def leA (a b : Al) : Prop := ¬ ltA b a
theorem leA_refl (a : Al) : leA a a := by unfold leA ltA; omega
theorem leA_of_lt {a b : Al} (h : ltA a b) : leA a b := by unfold leA; unfold ltA at *; omega
theorem leA_trans {a b c : Al} (h : leA a b) (k : leA b c) : leA a c := by unfold leA at *; unfold ltA at *; omega
def atA (L : List Al) (j : Nat) : Al := L.getD j (0, 0)
def swapL (L : List Al) (i k : Nat) : List Al := (L.set i (atA L k)).set k (atA L i)
theorem swapL_len (L : List Al) (i k : Nat) : (swapL L i k).length = L.length := by simp [swapL]
theorem atA_swap {L : List Al} {i k : Nat} (hi : i < L.length) (hk : k < L.length) (j : Nat) :
    atA (swapL L i k) j = if j = k then atA L i else if j = i then atA L k else atA L j := by
  unfold swapL
  by_cases h1 : j = k
  · subst h1
    rw [if_pos rfl]
    simp [atA, List.getD, hk]
  · rw [if_neg h1]
    by_cases h2 : j = i
    · subst h2
      rw [if_pos rfl]
      simp [atA, List.getD, hi, Ne.symm h1]
    · rw [if_neg h2]
      simp [atA, List.getD, Ne.symm h1, Ne.symm h2]
theorem atA_get {L : List Al} {i : Nat} (hi : i < L.length) : atA L i = L[i] := by simp [atA, List.getD, hi]
theorem swapL_perm {L : List Al} {i k : Nat} (hi : i < L.length) (hk : k < L.length) : (swapL L i k).Perm L := by
  unfold swapL
  rw [atA_get hi, atA_get hk]
  exact List.set_set_perm hi hk
def HeapOk (L : List Al) : Prop := ∀ j, 0 < j → j < L.length → leA (atA L ((j - 1) / 2)) (atA L j)
structure UpOk (L : List Al) (i : Nat) : Prop where
  rest : ∀ j, 0 < j → j < L.length → j ≠ i → leA (atA L ((j - 1) / 2)) (atA L j)
  over : ∀ j, 0 < j → j < L.length → (j - 1) / 2 = i → 0 < i → leA (atA L ((i - 1) / 2)) (atA L j)
structure DownOk (L : List Al) (i r : Nat) : Prop where
  rest : ∀ j, 0 < j → j < L.length → j ≠ i → (j - 1) / 2 ≠ i → leA (atA L ((j - 1) / 2)) (atA L j)
  over : ∀ j, 0 < j → j < L.length → (j - 1) / 2 = i → 0 < i → leA (atA L ((i - 1) / 2)) (atA L j)
  here : i = r ∨ (0 < i ∧ leA (atA L ((i - 1) / 2)) (atA L i))
theorem HeapOk.up {L : List Al} (h : HeapOk L) (i : Nat) (hi : i < L.length) : UpOk L i :=
  ⟨fun j h0 hj _ => h j h0 hj, fun j h0 hj hp hi0 => leA_trans (h i hi0 hi) (by have := h j h0 hj; rw [hp] at this; exact this)⟩
theorem UpOk.stop {L : List Al} {i : Nat} (h : UpOk L i) (hs : i = 0 ∨ ¬ ltA (atA L i) (atA L ((i - 1) / 2))) : HeapOk L := fun j h0 hj => by
  by_cases hji : j = i
  · subst hji
    rcases hs with hs | hs
    · omega
    · exact hs
  · exact h.rest j h0 hj hji
theorem UpOk.step {L : List Al} {i : Nat} (h : UpOk L i) (h0 : 0 < i) (hi : i < L.length) (hlt : ltA (atA L i) (atA L ((i - 1) / 2))) :
    UpOk (swapL L i ((i - 1) / 2)) ((i - 1) / 2) := by
  have hp : (i - 1) / 2 < L.length := by omega
  constructor
  · intro j hj0 hj hjp
    rw [swapL_len] at hj
    rw [atA_swap hi hp, atA_swap hi hp, if_neg hjp]
    by_cases hji : j = i
    · subst hji
      rw [if_pos rfl, if_pos rfl]
      exact leA_of_lt hlt
    · rw [if_neg hji]
      have hr := h.rest j hj0 hj hji
      by_cases hq : (j - 1) / 2 = (i - 1) / 2
      · rw [if_pos hq]
        rw [hq] at hr
        exact leA_trans (leA_of_lt hlt) hr
      · rw [if_neg hq]
        by_cases hq2 : (j - 1) / 2 = i
        · rw [if_pos hq2]
          exact h.over j hj0 hj hq2 h0
        · rw [if_neg hq2]
          exact hr
  · intro j hj0 hj hjp hp0
    rw [swapL_len] at hj
    rw [atA_swap hi hp, atA_swap hi hp, if_neg (by omega), if_neg (by omega), if_neg (by omega)]
    have hup := h.rest ((i - 1) / 2) hp0 hp (by omega)
    by_cases hji : j = i
    · rw [if_pos hji]
      exact hup
    · rw [if_neg hji]
      have hr := h.rest j hj0 hj hji
      rw [hjp] at hr
      exact leA_trans hup hr
theorem DownOk.stop {L : List Al} {i r : Nat} (h : DownOk L i r) (hi : i < L.length) (hr : r < L.length) (hs : ∀ j, 0 < j → j < L.length → (j - 1) / 2 = i → leA (atA L i) (atA L j)) : UpOk L r := by
  have hall : ∀ j, 0 < j → j < L.length → j ≠ i → leA (atA L ((j - 1) / 2)) (atA L j) := fun j h0 hj hji => by
    by_cases hq : (j - 1) / 2 = i
    · rw [hq]; exact hs j h0 hj hq
    · exact h.rest j h0 hj hji hq
  rcases h.here with rfl | ⟨hi0, hle⟩
  · exact ⟨hall, h.over⟩
  · refine HeapOk.up (fun j h0 hj => ?_) r hr
    by_cases hji : j = i
    · subst hji; exact hle
    · exact hall j h0 hj hji
theorem DownOk.step {L : List Al} {i r k : Nat} (h : DownOk L i r) (hi : i < L.length) (hk : k < L.length) (hk0 : 0 < k) (hki : (k - 1) / 2 = i) (hlt : ltA (atA L k) (atA L i))
    (hmin : ∀ j, 0 < j → j < L.length → (j - 1) / 2 = i → leA (atA L k) (atA L j)) : DownOk (swapL L k i) k r := by
  have hne : k ≠ i := by omega
  constructor
  · intro j hj0 hj hjk hjp
    rw [swapL_len] at hj
    rw [atA_swap hk hi, atA_swap hk hi]
    by_cases hji : j = i
    · subst hji
      rw [if_pos rfl, if_neg (by omega), if_neg (by omega)]
      exact h.over k hk0 hk hki hj0
    · rw [if_neg hji, if_neg hjk, if_neg hjp]
      by_cases hq : (j - 1) / 2 = i
      · rw [if_pos hq]
        exact hmin j hj0 hj hq
      · rw [if_neg hq]
        exact h.rest j hj0 hj hji hq
  · intro j hj0 hj hjp _
    rw [swapL_len] at hj
    rw [atA_swap hk hi, atA_swap hk hi, if_pos hki, if_neg (by omega), if_neg (by omega)]
    have := h.rest j hj0 hj (by omega) (by omega)
    rw [hjp] at this
    exact this
  · right
    refine ⟨hk0, ?_⟩
    rw [atA_swap hk hi, atA_swap hk hi, if_pos hki, if_neg hne, if_pos rfl]
    exact leA_of_lt hlt
theorem HeapOk.min {L : List Al} (h : HeapOk L) : ∀ j, j < L.length → leA (atA L 0) (atA L j) := by
  intro j
  induction j using Nat.strongRecOn with
  | _ j ih =>
    intro hj
    by_cases h0 : j = 0
    · subst h0; exact leA_refl _
    · exact leA_trans (ih ((j - 1) / 2) (by omega) (by omega)) (h j (by omega) hj)
theorem atA_append {L M : List Al} {j : Nat} (h : j < L.length) : atA (L ++ M) j = atA L j := by simp [atA, List.getD, List.getElem?_append_left h]
theorem HeapOk.push {L : List Al} (h : HeapOk L) (a : Al) : UpOk (L ++ [a]) L.length := by
  constructor
  · intro j hj0 hj hjl
    have hj' : j < L.length := by simp at hj; omega
    rw [atA_append hj', atA_append (by omega)]
    exact h j hj0 hj'
  · intro j hj0 hj hjp _
    simp at hj
    omega
theorem atA_take {L : List Al} {j m : Nat} (h : j < m) : atA (L.take m) j = atA L j := by simp [atA, List.getD, h]
theorem HeapOk.pull {L : List Al} (h : HeapOk L) {i : Nat} (hi : i + 1 < L.length) : DownOk ((swapL L i (L.length - 1)).take (L.length - 1)) i i := by
  have hl : ((swapL L i (L.length - 1)).take (L.length - 1)).length = L.length - 1 := by rw [List.length_take, swapL_len]; omega
  have hat : ∀ j, j < L.length - 1 → j ≠ i → atA ((swapL L i (L.length - 1)).take (L.length - 1)) j = atA L j := fun j hj hji => by
    rw [atA_take hj, atA_swap (by omega) (by omega), if_neg (by omega), if_neg hji]
  constructor
  · intro j hj0 hj hji hjp
    rw [hl] at hj
    rw [hat j hj hji, hat _ (by omega) hjp]
    exact h j hj0 (by omega)
  · intro j hj0 hj hjp hi0
    rw [hl] at hj
    rw [hat j hj (by omega), hat _ (by omega) (by omega)]
    have h1 := h j hj0 (by omega)
    rw [hjp] at h1
    exact leA_trans (h i hi0 (by omega)) h1
  · exact .inl rfl
theorem HeapOk.pullLast {L : List Al} (h : HeapOk L) {i : Nat} (hi : i + 1 = L.length) : HeapOk ((swapL L i (L.length - 1)).take (L.length - 1)) := by
  have hl : ((swapL L i (L.length - 1)).take (L.length - 1)).length = L.length - 1 := by rw [List.length_take, swapL_len]; omega
  intro j hj0 hj
  rw [hl] at hj
  rw [atA_take hj, atA_take (by omega), atA_swap (by omega) (by omega), atA_swap (by omega) (by omega), if_neg (by omega), if_neg (by omega), if_neg (by omega), if_neg (by omega)]
  exact h j hj0 (by omega)
/-! Mem -/
/-- Only the blocks of S, and new ones, differ. -/
structure Touch (S : List Nat) (w w' : World) : Prop where
  os : w'.os = w.os
  tape : w'.tape = w.tape
  output : w'.output = w.output
  size : w.heap.size ≤ w'.heap.size
  block : ∀ k, k < w.heap.size → k ∉ S → w'.heap[k]? = w.heap[k]?
theorem Touch.refl (S : List Nat) (w : World) : Touch S w w := ⟨rfl, rfl, rfl, Nat.le_refl _, fun _ _ _ => rfl⟩
theorem Touch.trans {S : List Nat} {a b c : World} (h : Touch S a b) (k : Touch S b c) : Touch S a c :=
  ⟨k.os.trans h.os, k.tape.trans h.tape, k.output.trans h.output, Nat.le_trans h.size k.size,
    fun i hi hn => (k.block i (Nat.lt_of_lt_of_le hi h.size) hn).trans (h.block i hi hn)⟩
theorem Touch.mono {S T : List Nat} {w w' : World} (h : Touch S w w') (hS : ∀ k, k ∈ S → k < w.heap.size → k ∈ T) : Touch T w w' :=
  ⟨h.os, h.tape, h.output, h.size, fun i hi hn => h.block i hi (fun hm => hn (hS i hm hi))⟩
theorem Touch.drew {S : List Nat} {a w : World} (h : Touch S a w) : Touch S a w.drew := ⟨h.os, h.tape, h.output, h.size, h.block⟩
theorem Touch.alloc {S : List Nat} {a w : World} (h : Touch S a w) (o : Obj) : Touch S a (w.alloc o) :=
  ⟨h.os, h.tape, h.output, Nat.le_trans h.size (by simp), fun k hk hn => (Below.heap_alloc w o k (Nat.lt_of_lt_of_le hk h.size)).trans (h.block k hk hn)⟩
theorem Touch.setCell {S : List Nat} {a w : World} (h : Touch S a w) {p : Addr} (hp : p.block ∈ S ∨ a.heap.size ≤ p.block) (u : Value) : Touch S a (w.setCell p u) :=
  ⟨h.os, h.tape, h.output, by simpa using h.size, fun k hk hn => (Below.heap_setCell w p u k (by
    rintro rfl
    rcases hp with hp | hp
    · exact hn hp
    · omega)).trans (h.block k hk hn)⟩
theorem Touch.setCells {S : List Nat} {a : World} {b : Nat} (hp : b ∈ S ∨ a.heap.size ≤ b) : ∀ (vs : List Value) (o : Nat) (w : World), Touch S a w → Touch S a (w.setCells b o vs)
  | [], _, _, h => h
  | v :: r, o, w, h => by
    rw [World.setCells]
    exact Touch.setCells hp r (o + 1) _ (h.setCell (p := ⟨b, o, none⟩) hp v)
/-- All that is old stays. -/
theorem Touch.below {S : List Nat} {a w : World} {B : Nat} (h : Touch S a w) (hB : B ≤ a.heap.size) (hS : ∀ k ∈ S, B ≤ k) : Below B a w :=
  ⟨h.os, h.tape, h.output, h.size, fun k hk => h.block k (by omega) (fun hm => by have := hS k hm; omega)⟩
theorem Touch.of_below {S : List Nat} {a w : World} (h : Below a.heap.size a w) : Touch S a w :=
  ⟨h.os, h.tape, h.output, h.size, fun k hk _ => h.block k hk⟩
theorem Touch.cell {S : List Nat} {a w : World} (h : Touch S a w) {p : Addr} (hp : p.block < a.heap.size) (hn : p.block ∉ S) : w.cell? p = a.cell? p :=
  World.cell?_of_block (h.block _ hp hn)
theorem Touch.drewN {S : List Nat} {a w : World} (h : Touch S a w) (n : Nat) : Touch S a (w.drewN n) := ⟨h.os, h.tape, h.output, h.size, h.block⟩
theorem Touch.of_drewN {S : List Nat} {a w : World} (n : Nat) (h : Touch S (a.drewN n) w) : Touch S a w := ⟨h.os, h.tape, h.output, h.size, h.block⟩
def Blk (w : World) (g : Nat) (t : TypeId) (cs : Array Value) : Prop := w.heap[g]? = some (.cells cs t (0, 0))
section
variable {w w' : World} {g : Nat} {t : TypeId} {cs : Array Value}
theorem Blk.lt (h : Blk w g t cs) : g < w.heap.size := by
  rcases Nat.lt_or_ge g w.heap.size with hlt | hge
  · exact hlt
  · unfold Blk at h; rw [Array.getElem?_eq_none hge] at h; cases h
theorem Blk.cell (h : Blk w g t cs) (i : Nat) : w.cell? ⟨g, i, none⟩ = cs[i]? := cell_of_row w g i cs t (0, 0) h
theorem Blk.frozen (h : Blk w g t cs) (i : Nat) : w.frozen? ⟨g, i, none⟩ = false := by
  unfold Blk at h
  simp [World.frozen?, h]
theorem Blk.new (w : World) (t : TypeId) (cs : Array Value) : Blk (w.alloc (.cells cs t)) w.heap.size t cs := heap_alloc_new w _
theorem Blk.alloc (h : Blk w g t cs) (o : Obj) : Blk (w.alloc o) g t cs := (Below.heap_alloc w o g h.lt).trans h
theorem Blk.drew (h : Blk w g t cs) : Blk w.drew g t cs := h
theorem Blk.drewN (h : Blk w g t cs) (n : Nat) : Blk (w.drewN n) g t cs := h
theorem Blk.set_ (h : Blk w g t cs) (i : Nat) (u : Value) : Blk (w.setCell ⟨g, i, none⟩ u) g t (cs.setIfInBounds i u) := by
  unfold Blk at h ⊢
  simp [World.setCell, Array.getElem?_modify, h]
theorem Blk.far (h : Blk w g t cs) {p : Addr} (hp : g ≠ p.block) (u : Value) : Blk (w.setCell p u) g t cs := (Below.heap_setCell w p u g hp).trans h
theorem Blk.touch {S : List Nat} (h : Blk w g t cs) (hb : Touch S w w') (hn : g ∉ S) : Blk w' g t cs := (hb.block g h.lt hn).trans h
theorem Blk.ne_ {g' : Nat} {t' : TypeId} {cs' : Array Value} (h : Blk w g t cs) (h' : Blk w g' t' cs') (hne : t ≠ t') : g ≠ g' := by
  rintro rfl
  unfold Blk at h h'
  rw [h] at h'
  injection h' with h'
  injection h' with _ ht
  exact hne ht
theorem Blk.farCells (h : Blk w g t cs) {b : Nat} (hp : g ≠ b) : ∀ (vs : List Value) (o : Nat), Blk (w.setCells b o vs) g t cs := by
  intro vs
  induction vs generalizing w with
  | nil => intro o; exact h
  | cons v r ih => intro o; rw [World.setCells]; exact ih (h.far (p := ⟨b, o, none⟩) hp v) (o + 1)
theorem Blk.setCells (vs : List Value) : ∀ (o : Nat) (w : World) (cs : Array Value), Blk w g t cs →
    ∃ cs', Blk (w.setCells g o vs) g t cs' ∧ cs'.size = cs.size ∧ (∀ j, j < o ∨ o + vs.length ≤ j → cs'[j]? = cs[j]?) ∧ (∀ j u, vs[j]? = some u → o + j < cs.size → cs'[o + j]? = some u) := by
  induction vs with
  | nil => intro o w cs h; exact ⟨cs, h, rfl, fun _ _ => rfl, fun _ _ h => by cases h⟩
  | cons v r ih =>
    intro o w cs h
    obtain ⟨cs', h1, h2, h3, h4⟩ := ih (o + 1) _ _ (h.set_ o v)
    refine ⟨cs', h1, by simpa using h2, fun j hj => ?_, fun j u hu hlt => ?_⟩
    · rw [h3 j (by simp only [List.length_cons] at hj; omega), Array.getElem?_setIfInBounds_ne (by simp only [List.length_cons] at hj; omega)]
    · match j, hu with
      | 0, hu =>
        simp at hu
        subst hu
        rw [Nat.add_zero, h3 o (by omega), Array.getElem?_setIfInBounds_self_of_lt (by simpa using hlt)]
      | j + 1, hu =>
        have := h4 j u (by simpa using hu) (by simp; omega)
        rwa [show o + 1 + j = o + (j + 1) by omega] at this
end
/-- The new row is the old one, or a new block, or none. -/
def NewRow (w : World) (row row' : Option Nat) : Prop := ∀ g, row' = some g → row = some g ∨ w.heap.size ≤ g
theorem NewRow.refl (w : World) (row : Option Nat) : NewRow w row row := fun _ h => .inl h
theorem NewRow.none (w : World) (row : Option Nat) : NewRow w row .none := fun _ h => by cases h
theorem NewRow.fresh (w : World) (row : Option Nat) {g : Nat} (h : w.heap.size ≤ g) : NewRow w row (some g) := fun _ e => by cases e; exact .inr h
theorem NewRow.before {w w' : World} {row row' : Option Nat} (h : NewRow w' row row') (hs : w.heap.size ≤ w'.heap.size) : NewRow w row row' :=
  fun g e => (h g e).elim .inl (fun hg => .inr (Nat.le_trans hs hg))
theorem NewRow.trans {w w' : World} {a b c : Option Nat} (h : NewRow w a b) (k : NewRow w' b c) (hs : w.heap.size ≤ w'.heap.size) : NewRow w a c :=
  fun g e => (k g e).elim (h g) (fun hg => .inr (Nat.le_trans hs hg))
/-- The slice v of n elements holds the cells xs; 'row': the block that it may write to (none: no room at all). -/
def Own (w : World) (e size : Nat) (v : Value) (n : Nat) (xs : List Value) (row : Option Nat) : Prop :=
  xs.length = n * size ∧ ((∃ A, v = .slice A 0 0 ∧ n = 0 ∧ row = none) ∨
    ∃ g off c cur, v = .slice (some ⟨g, off, none⟩) n c ∧ row = some g ∧ Blk w g e cur ∧ 0 < c ∧ n ≤ c ∧ c ≤ maxLen ∧ off + c * size ≤ cur.size ∧ ∀ j u, xs[j]? = some u → cur[off + j]? = some u)
section
variable {w w' : World} {e size n : Nat} {v : Value} {xs : List Value} {row : Option Nat}
theorem Own.nil (w : World) (e size : Nat) (A : Option Addr) : Own w e size (.slice A 0 0) 0 [] none := ⟨by simp, .inl ⟨A, rfl, rfl, rfl⟩⟩
theorem Own.lt (h : Own w e size v n xs row) {g : Nat} (hg : row = some g) : g < w.heap.size := by
  rcases h.2 with ⟨_, _, _, hr⟩ | ⟨g', _, _, _, _, hr, hb, _⟩
  · rw [hr] at hg; cases hg
  · rw [hr] at hg; cases hg; exact hb.lt
theorem Own.touch {S : List Nat} (h : Own w e size v n xs row) (ht : Touch S w w') (hS : ∀ g, row = some g → g ∉ S) : Own w' e size v n xs row := by
  refine ⟨h.1, ?_⟩
  rcases h.2 with hn | ⟨g, off, c, cur, hv, hr, hb, rest⟩
  · exact .inl hn
  · exact .inr ⟨g, off, c, cur, hv, hr, hb.touch ht (hS g hr), rest⟩
theorem Own.drewN (h : Own w e size v n xs row) (k : Nat) : Own (w.drewN k) e size v n xs row := h
theorem Own.drew (h : Own w e size v n xs row) : Own w.drew e size v n xs row := h
theorem Own.alloc (h : Own w e size v n xs row) (o : Obj) : Own (w.alloc o) e size v n xs row := h.touch ((Touch.refl [] w).alloc o) (fun _ _ => by simp)
theorem Own.ne_ {p : Nat} {t : TypeId} {cs : Array Value} (h : Own w e size v n xs row) (hb : Blk w p t cs) (hne : e ≠ t) : ∀ g, row = some g → g ≠ p := by
  intro g hg
  rcases h.2 with ⟨_, _, _, hr⟩ | ⟨g', _, _, _, _, hr, hb', _⟩
  · rw [hr] at hg; cases hg
  · rw [hr] at hg; cases hg; exact hb'.ne_ hb hne
theorem notin_row {row : Option Nat} {p : Nat} (h : ∀ g, row = some g → g ≠ p) : p ∉ row.toList := by
  intro hm
  rw [Option.mem_toList] at hm
  exact h p hm rfl
theorem Own.far (h : Own w e size v n xs row) {a : Addr} (ha : ∀ g, row = some g → g ≠ a.block) (u : Value) : Own (w.setCell a u) e size v n xs row :=
  h.touch ((Touch.refl [a.block] w).setCell (.inl (by simp)) u) (fun g hg => by simpa using ha g hg)
theorem Own.shape (h : Own w e size v n xs row) : ∃ A c, v = .slice A n c ∧ n ≤ c := by
  rcases h.2 with ⟨A, hv, hn, _⟩ | ⟨g, off, c, cur, hv, _, _, _, hc, _⟩
  · subst hn; exact ⟨A, 0, hv, Nat.le_refl _⟩
  · exact ⟨_, c, hv, hc⟩
/-- Where an element is, there is a row. -/
theorem Own.at_ (h : Own w e size v n xs row) (hn : 0 < n) : ∃ g off c cur, v = .slice (some ⟨g, off, none⟩) n c ∧ row = some g ∧ Blk w g e cur ∧ 0 < c ∧ n ≤ c ∧ c ≤ maxLen ∧ off + c * size ≤ cur.size ∧ ∀ j u, xs[j]? = some u → cur[off + j]? = some u := by
  rcases h.2 with ⟨_, _, h0, _⟩ | h
  · omega
  · exact h
/-- s[k:] -/
theorem Own.cut {g off c : Nat} (h : Own w e size (.slice (some ⟨g, off, none⟩) n c) n xs row) {k : Nat} (hk : k ≤ n) (hkc : k < c) :
    Own w e size (.slice (some ⟨g, off + k * size, none⟩) (n - k) (c - k)) (n - k) (xs.drop (k * size)) row := by
  refine ⟨by rw [List.length_drop, h.1, Nat.sub_mul], ?_⟩
  rcases h.2 with ⟨A, hv, hn, hr⟩ | ⟨g', off', c', cur, hv, hr, hb, hc0, hnc, hcm, hcs, hx⟩
  · injection hv with _ _ hcc; omega
  · injection hv with ha _ hcc
    injection ha with ha
    injection ha with hg ho
    subst hg; subst ho; subst hcc
    refine .inr ⟨g, off + k * size, c - k, cur, rfl, hr, hb, by omega, by omega, by omega, ?_, fun j u hu => ?_⟩
    · have : k * size + (c - k) * size = c * size := by rw [← Nat.add_mul]; congr 1; omega
      omega
    · rw [List.getElem?_drop] at hu
      have := hx _ u hu
      rwa [show off + (k * size + j) = off + k * size + j by omega] at this
end
/-- What a slice that is owned yields to an append. -/
theorem Own.src {P : Program} {w : World} {e size n : Nat} {v : Value} {xs : List Value} {row : Option Nat} {tx e' : TypeId} (h : Own w e size v n xs row) (h1 : ∀ u ∈ xs, u.oneCell' = true)
    (hk : P.underlying tx = some (.slice e')) : Src P size tx v n xs w := by
  rcases h.2 with ⟨A, rfl, rfl, _⟩ | ⟨g, off, c, cur, rfl, _, hb, _, _, _, _, hx⟩
  · have hx : xs = [] := List.eq_nil_of_length_eq_zero (by simpa using h.1)
    subst hx
    cases A with
    | none => exact Src.ofNil w hk 0
    | some a => exact Src.ofSlice w hk a 0 0 [] (by simp) (by intro _ _ h'; simp at h') h1
  · exact Src.ofSlice w hk _ n c xs h.1 (fun j u hu => by rw [Addr.add_lit]; exact (hb.cell _).trans (hx j u hu)) h1
section
variable {P : Program}
/-- clear of a slice of one element of one cell. -/
theorem run_clear1 (w : World) (t ty e : TypeId) (i : TypeInfo) (z : Value) (ht : P.underlying t = some (.slice e)) (hi : P.info? e = some i) (hz : i.zero = some z) (h1 : z.cells = #[z]) (ho : z.oneCell' = true)
    (g off c : Nat) (cur : Array Value) (hb : Blk w g e cur) (hoff : off < cur.size) :
    (Builtin.clear_ #[t] ty #[.slice (some ⟨g, off, none⟩) 1 c]).run P w = .ok (.tuple #[]) (w.setCell ⟨g, off, none⟩ z) := by
  have hst := run_storeCells_cells (P := P) g off [z] 0 w (fun j hj => by
      have : j = 0 := by simpa using hj
      subst this
      rw [hb.cell, Array.getElem?_eq_getElem (by omega)]; rfl) (fun j _ => hb.frozen _) (by simpa using ho)
  have hzc : Builtin.zeroCells #[z] 1 = #[z] := by
    apply Array.ext
    · simp [Builtin.zeroCells]
    · intro i h1 h2
      have : i = 0 := by simpa using h2
      subst this
      simp [Builtin.zeroCells]
  simp only [Nat.add_zero] at hst
  simp [Builtin.clear_, run_underlying ht, zeroValue, typeInfo, hi, hz, h1, hzc, hst, World.setCells]
theorem wpList_clear1 (w : World) {ops : Array Oper} {rest : List Oper} {o : Oper} {a : Act} {Q : Exit → Act → World → Prop} (hgd : o.guard = none) (x : Operand) (t : TypeId)
    (hop : o.op = .call { callee := .builtin .clear, args := #[x], argTypes := #[t] })
    (e : TypeId) (i : TypeInfo) (z : Value) (ht : P.underlying t = some (.slice e)) (hi : P.info? e = some i) (hz : i.zero = some z) (h1 : z.cells = #[z]) (ho : z.oneCell' = true)
    (g off c : Nat) (cur : Array Value) (hx : a.eval x = .slice (some ⟨g, off, none⟩) 1 c) (hb : Blk w g e cur) (hoff : off < cur.size)
    (h : wpList P ops Q rest (a.put o.dst (.tuple #[])) (w.setCell ⟨g, off, none⟩ z)) : wpList P ops Q (o :: rest) a w :=
  wpList_plain hgd fun _ hK => by
    unfold Oper.wp execOp
    simp only [hop, resolve, invoke, builtin, Sem.run_bind, Sem.run_pure, Result.andThen_ok, List.map_toArray, List.map_cons, List.map_nil, hx, run_clear1 (P := P) w t o.type e i z ht hi hz h1 ho g off c cur hb hoff]
    exact hK _ _ h
/-- append: m elements more. -/
theorem run_append_Own (w : World) (t tx ty e : TypeId) (i : TypeInfo) (z : Value) (size bytes : Nat) (ht : P.underlying t = some (.slice e)) (hi : P.info? e = some i) (hz : i.zero = some z)
    (hsize : i.size = size) (hby : i.bytes = bytes) (hzs : z.cells.size = size)
    (v : Value) (n : Nat) (xs : List Value) (row : Option Nat) (hown : Own w e size v n xs row)
    (x : Value) (m : Nat) (news : List Value) (hs : Src P size tx x m news w)
    (h63 : n + m ≤ maxLen) (hbytes : (n + m) * bytes ≤ 140737488355328) :
    ∃ v' w' row', (Builtin.append_ #[t, tx] ty #[v, x]).run P w = .ok v' w' ∧ Own w' e size v' (n + m) (xs ++ news) row' ∧ Touch row.toList w w' ∧ NewRow w row row' := by
  subst hsize
  subst hby
  have hlen : (xs ++ news).length = (n + m) * i.size := by rw [List.length_append, hown.1, hs.newsLen, Nat.add_mul]
  have hsmall : ((n + m : Nat) : Int) ≤ 9223372036854775807 := by simp only [maxLen] at h63; omega
  have grow : ∀ (A : Option Addr) (c : Nat), v = .slice A n c → c < n + m →
      (Builtin.firstCells i.size n (.slice A n c)).run P w.drew = .ok xs.toArray w.drew →
      ∃ v' w' row', (Builtin.append_ #[t, tx] ty #[v, x]).run P w = .ok v' w' ∧ Own w' e i.size v' (n + m) (xs ++ news) row' ∧ Touch row.toList w w' ∧ NewRow w row row' := by
    rintro A c rfl hc hold
    have hr := run_append_grow_src (P := P) w t tx ty e i z ht hi hz A n c xs hold x m news hs hc hsmall (growslice_fits hc hbytes)
    have hge := grownCap_ge w (n + m) c e
    have hcm := grownCap_le_maxLen w (n + m) c e h63
    refine ⟨_, _, some w.heap.size, hr, ⟨hlen, .inr ⟨w.heap.size, 0, _, _, rfl, rfl, Blk.new w.drew _ _, by omega, hge, hcm, ?_, fun j u hu => ?_⟩⟩, ((Touch.refl _ w).drew.alloc _), .fresh _ _ (Nat.le_refl _)⟩
    · simp only [Array.size_append, List.size_toArray, size_zeroCells, hzs, hlen, ← Nat.add_mul]
      have : (n + m + (grownCap w (n + m) c e - (n + m))) = grownCap w (n + m) c e := by omega
      rw [this]; omega
    · have hj : j < (xs ++ news).length := (List.getElem?_eq_some_iff.1 hu).1
      rw [Nat.zero_add, Array.getElem?_append_left (by simpa using hj), List.getElem?_toArray]
      exact hu
  rcases hown.2 with ⟨A, rfl, rfl, rfl⟩ | ⟨g, off, c, cur, rfl, rfl, hb, hc0, hnc, hcm, hcs, hx⟩
  · have hx : xs = [] := List.eq_nil_of_length_eq_zero (by simpa using hown.1)
    subst hx
    by_cases hm0 : m = 0
    · subst hm0
      have hnews : news = [] := List.eq_nil_of_length_eq_zero (by simpa using hs.newsLen)
      subst hnews
      exact ⟨_, _, none, run_append_nothing (P := P) w t tx ty e i ht hi A 0 0 (Nat.le_refl _) x hs, Own.nil _ _ _ _, Touch.refl _ _, .refl _ _⟩
    refine grow A 0 rfl (by omega) ?_
    cases A with
    | none => exact run_firstCells_none w.drew i.size 0 0 0
    | some a => exact run_firstCells_some w.drew i.size 0 a 0 0 [] (by simp) (by intro _ _ h'; simp at h')
  · by_cases hroom : n + m ≤ c
    · have hmul : (n + m) * i.size ≤ c * i.size := Nat.mul_le_mul_right _ hroom
      rw [Nat.add_mul] at hmul
      have hnl := hs.newsLen
      have hr := run_append_room_src (P := P) w t tx ty e i ht hi g off n c x m news hs hroom
        (fun j hj => by rw [hb.cell]; rw [Array.getElem?_eq_getElem (by omega)]; rfl)
        (fun j hj => hb.frozen _)
      obtain ⟨cs', h1, h2, h3, h4⟩ := Blk.setCells news (off + n * i.size) w cur hb
      refine ⟨_, _, some g, hr, ⟨hlen, .inr ⟨g, off, c, cs', rfl, rfl, h1, hc0, hroom, hcm, by omega, fun j u hu => ?_⟩⟩, Touch.setCells (by simp) news _ w (Touch.refl _ w), .refl _ _⟩
      by_cases hj : j < xs.length
      · rw [List.getElem?_append_left hj] at hu
        rw [h3 _ (by rw [hown.1] at hj; omega)]
        exact hx j u hu
      · rw [List.getElem?_append_right (by omega)] at hu
        have hj2 : j - xs.length < news.length := (List.getElem?_eq_some_iff.1 hu).1
        have := h4 _ u hu (by omega)
        rwa [show off + n * i.size + (j - xs.length) = off + j by rw [hown.1] at *; omega] at this
    · refine grow _ c rfl (by omega) ?_
      refine run_firstCells_some w.drew i.size n ⟨g, off, none⟩ n c xs hown.1 (fun j u hu => ?_)
      rw [Addr.add_lit]
      exact (hb.drew.cell _).trans (hx j u hu)
theorem wp_append_Own (w : World) {o : Oper} {a : Act} {K : Act → World → Prop} {Q : Exit → Act → World → Prop} (s x : Operand) (t tx : TypeId)
    (ho : o.op = .call { callee := .builtin .append, args := #[s, x], argTypes := #[t, tx] })
    (e : TypeId) (i : TypeInfo) (z : Value) (size bytes : Nat) (ht : P.underlying t = some (.slice e)) (hi : P.info? e = some i) (hz : i.zero = some z)
    (hsize : i.size = size) (hby : i.bytes = bytes) (hzs : z.cells.size = size)
    (v : Value) (n : Nat) (xs : List Value) (row : Option Nat) (hv : a.eval s = v) (hown : Own w e size v n xs row)
    (xv : Value) (m : Nat) (news : List Value) (hx : a.eval x = xv) (hs : Src P size tx xv m news w)
    (h63 : n + m ≤ maxLen) (hbytes : (n + m) * bytes ≤ 140737488355328)
    (h : ∀ v' w' row', Own w' e size v' (n + m) (xs ++ news) row' → Touch row.toList w w' → NewRow w row row' → K (a.put o.dst v') w') : o.wp P a w K Q := by
  obtain ⟨v', w', row', hrun, h2, h3, h4⟩ := run_append_Own (P := P) w t tx o.type e i z size bytes ht hi hz hsize hby hzs v n xs row hown xv m news hs h63 hbytes
  unfold Oper.wp execOp
  simp only [ho, resolve, invoke, builtin, Sem.run_bind, Sem.run_pure, Result.andThen_ok, List.map_toArray, List.map_cons, List.map_nil, hv, hx, hrun]
  exact h v' w' row' h2 h3 h4
theorem wpList_append_Own (w : World) {ops : Array Oper} {rest : List Oper} {o : Oper} {a : Act} {Q : Exit → Act → World → Prop} (hgd : o.guard = none) (s x : Operand) (t tx : TypeId)
    (ho : o.op = .call { callee := .builtin .append, args := #[s, x], argTypes := #[t, tx] })
    (e : TypeId) (i : TypeInfo) (z : Value) (size bytes : Nat) (ht : P.underlying t = some (.slice e)) (hi : P.info? e = some i) (hz : i.zero = some z)
    (hsize : i.size = size) (hby : i.bytes = bytes) (hzs : z.cells.size = size)
    (v : Value) (n : Nat) (xs : List Value) (row : Option Nat) (hv : a.eval s = v) (hown : Own w e size v n xs row)
    (xv : Value) (m : Nat) (news : List Value) (hx : a.eval x = xv) (hs : Src P size tx xv m news w)
    (h63 : n + m ≤ maxLen) (hbytes : (n + m) * bytes ≤ 140737488355328)
    (h : ∀ v' w' row', Own w' e size v' (n + m) (xs ++ news) row' → Touch row.toList w w' → NewRow w row row' → wpList P ops Q rest (a.put o.dst v') w') : wpList P ops Q (o :: rest) a w :=
  wpList_plain hgd fun _ hK => wp_append_Own w s x t tx ho e i z size bytes ht hi hz hsize hby hzs v n xs row hv hown xv m news hx hs h63 hbytes fun v' w' row' h2 h3 h4 => hK _ _ (h v' w' row' h2 h3 h4)
end
theorem ret_int {k : IntKind} {a b : Int} (h : a = b) : Ending.returned (.int k a) = .returned (.int k b) := by rw [h]
theorem ret_bool {a b : Bool} (h : a = b) : Ending.returned (.bool a) = .returned (.bool b) := by rw [h]
theorem ret_eq {a b : Value} (h : a = b) : Ending.returned a = .returned b := by rw [h]
/-! Sep -/
structure Res where
  P : List Nat → World → Prop
  loc : ∀ F w w', P F w → (∀ k, k ∈ F → w'.heap[k]? = w.heap[k]?) → P F w'
  lt : ∀ F w, P F w → ∀ k, k ∈ F → k < w.heap.size
/-- Since w0 nothing below B has turned; the objects rs lie in w, all from B on, apart from one another. -/
def Sep (w0 : World) (B : Nat) (w : World) (rs : List Res) : Prop :=
  Below B w0 w ∧ B ≤ w0.heap.size ∧ ∃ F : Nat → List Nat, (∀ i r, rs[i]? = some r → r.P (F i) w ∧ ∀ k, k ∈ F i → B ≤ k) ∧
    (∀ i j, i < rs.length → j < rs.length → i ≠ j → ∀ k, k ∈ F i → k ∉ F j)
theorem Sep.start (w : World) : Sep w w.heap.size w [] := ⟨Below.refl _ _, Nat.le_refl _, fun _ => [], fun _ _ h => by simp at h, fun _ _ h => by simp at h⟩
theorem Sep.below {w0 w : World} {B : Nat} {rs : List Res} (h : Sep w0 B w rs) : Below B w0 w := h.1
theorem Sep.size {w0 w : World} {B : Nat} {rs : List Res} (h : Sep w0 B w rs) : B ≤ w.heap.size := Nat.le_trans h.2.1 h.1.size
theorem Sep.drewN {w0 w : World} {B : Nat} {rs : List Res} (h : Sep w0 B w rs) (n : Nat) : Sep w0 B (w.drewN n) rs := by
  obtain ⟨hb, hB, F, h1, h2⟩ := h
  exact ⟨⟨hb.os, hb.tape, hb.output, hb.size, hb.block⟩, hB, F, fun i r hr => ⟨r.loc _ _ _ (h1 i r hr).1 (fun _ _ => rfl), (h1 i r hr).2⟩, h2⟩
theorem Sep.drew {w0 w : World} {B : Nat} {rs : List Res} (h : Sep w0 B w rs) : Sep w0 B w.drew rs := h.drewN 1
/-- Memory that is new, and nobody's. -/
theorem Sep.touch {w0 w w' : World} {B : Nat} {rs : List Res} (h : Sep w0 B w rs) (ht : Touch [] w w') : Sep w0 B w' rs := by
  obtain ⟨hb, hB, F, h1, h2⟩ := h
  refine ⟨hb.trans (ht.below (Nat.le_trans hB hb.size) (by simp)), hB, F, fun i r hr => ⟨r.loc _ _ _ (h1 i r hr).1 (fun k hk => ht.block k (r.lt _ _ (h1 i r hr).1 k hk) (by simp)), (h1 i r hr).2⟩, h2⟩
theorem Sep.alloc {w0 w : World} {B : Nat} {rs : List Res} (h : Sep w0 B w rs) (o : Obj) : Sep w0 B (w.alloc o) rs := h.touch ((Touch.refl [] w).alloc o)
/-- One object, and what becomes of the whole when it alone is worked on. -/
theorem Sep.focus {w0 w : World} {B : Nat} {rs : List Res} (h : Sep w0 B w rs) (i : Nat) {r : Res} (hi : rs[i]? = some r) :
    ∃ F, r.P F w ∧ ∀ (w' : World) (r' : Res) (F' : List Nat), r'.P F' w' → Touch F w w' → (∀ k, k ∈ F' → k ∈ F ∨ w.heap.size ≤ k) → Sep w0 B w' (rs.set i r') := by
  obtain ⟨hb, hB, F, h1, h2⟩ := h
  have hil : i < rs.length := (List.getElem?_eq_some_iff.1 hi).1
  refine ⟨F i, (h1 i r hi).1, fun w' r' F' hP ht hn => ?_⟩
  have hBw : B ≤ w.heap.size := Nat.le_trans hB hb.size
  refine ⟨hb.trans (ht.below hBw (h1 i r hi).2), hB, fun j => if j = i then F' else F j, fun j q hq => ?_, fun j l hj hl hne k hk => ?_⟩
  · by_cases hji : j = i
    · subst hji
      rw [List.getElem?_set_self hil] at hq
      injection hq with hq
      subst hq
      simp only [if_true]
      exact ⟨hP, fun k hk => (hn k hk).elim ((h1 j r hi).2 k) (fun hk => Nat.le_trans hBw hk)⟩
    · rw [List.getElem?_set_ne (Ne.symm hji)] at hq
      simp only [hji, if_false]
      refine ⟨q.loc _ _ _ (h1 j q hq).1 (fun k hk => ht.block k (q.lt _ _ (h1 j q hq).1 k hk) ?_), (h1 j q hq).2⟩
      exact h2 j i (List.getElem?_eq_some_iff.1 hq).1 hil hji k hk
  · rw [List.length_set] at hj hl
    have hlt : ∀ m, m < rs.length → ∀ k, k ∈ F m → k < w.heap.size := fun m hm k hk => (rs[m]).lt _ _ (h1 m rs[m] (List.getElem?_eq_getElem hm)).1 k hk
    by_cases hji : j = i
    · have hli : l ≠ i := fun e => hne (by rw [hji, e])
      simp only [hji, if_true] at hk
      simp only [hli, if_false]
      intro hkl
      rcases hn k hk with hk' | hk'
      · exact h2 i l hil hl (Ne.symm hli) k hk' hkl
      · have := hlt l hl k hkl; omega
    · simp only [hji, if_false] at hk
      by_cases hli : l = i
      · simp only [hli, if_true]
        intro hkl
        rcases hn k hkl with hk' | hk'
        · exact h2 j i hj hil hji k hk hk'
        · have := hlt j hj k hk; omega
      · simp only [hli, if_false]
        exact h2 j l hj hl hne k hk
/-- What one object is, for whoever only reads it. -/
theorem Sep.look {w0 w : World} {B : Nat} {rs : List Res} (h : Sep w0 B w rs) (i : Nat) {r : Res} (hi : rs[i]? = some r) : ∃ F, r.P F w := by
  obtain ⟨F, hF, _⟩ := h.focus i hi
  exact ⟨F, hF⟩
/-- One object more, in new memory. -/
theorem Sep.add {w0 w w' : World} {B : Nat} {rs : List Res} (h : Sep w0 B w rs) {r : Res} {F : List Nat} (hP : r.P F w') (ht : Touch [] w w') (hn : ∀ k, k ∈ F → w.heap.size ≤ k) : Sep w0 B w' (r :: rs) := by
  have hBw := h.size
  obtain ⟨hb, hB, G, h1, h2⟩ := h
  have hlt : ∀ m, m < rs.length → ∀ k, k ∈ G m → k < w.heap.size := fun m hm k hk => (rs[m]).lt _ _ (h1 m rs[m] (List.getElem?_eq_getElem hm)).1 k hk
  refine ⟨hb.trans (ht.below hBw (by simp)), hB, fun j => match j with | 0 => F | j + 1 => G j, fun j q hq => ?_, fun j l hj hl hne k hk => ?_⟩
  · match j, hq with
    | 0, hq =>
      simp at hq
      subst hq
      exact ⟨hP, fun k hk => Nat.le_trans hBw (hn k hk)⟩
    | j + 1, hq =>
      simp at hq
      exact ⟨q.loc _ _ _ (h1 j q hq).1 (fun k hk => ht.block k (q.lt _ _ (h1 j q hq).1 k hk) (by simp)), (h1 j q hq).2⟩
  · match j, l, hj, hl, hne, hk with
    | 0, 0, _, _, hne, _ => exact absurd rfl hne
    | 0, l + 1, _, hl, _, hk =>
      intro hkl
      have h3 := hlt l (by simpa using hl) k hkl
      have h4 := hn k hk
      omega
    | j + 1, 0, hj, _, _, hk =>
      intro hkl
      have h3 := hlt j (by simpa using hj) k hk
      have h4 := hn k hkl
      omega
    | j + 1, l + 1, hj, hl, hne, hk => exact h2 j l (by simpa using hj) (by simpa using hl) (fun e => hne (by rw [e])) k hk
/-- The first one is nobody's any more. -/
theorem Sep.forget {w0 w : World} {B : Nat} {rs : List Res} {r : Res} (h : Sep w0 B w (r :: rs)) : Sep w0 B w rs := by
  obtain ⟨hb, hB, G, h1, h2⟩ := h
  exact ⟨hb, hB, fun j => G (j + 1), fun j q hq => h1 (j + 1) q (by simpa using hq), fun j l hj hl hne k hk => h2 (j + 1) (l + 1) (by simpa using hj) (by simpa using hl) (by simpa using hne) k hk⟩
theorem Sep.swap {w0 w : World} {B : Nat} {rs : List Res} {r q : Res} (h : Sep w0 B w (r :: q :: rs)) : Sep w0 B w (q :: r :: rs) := by
  obtain ⟨hb, hB, G, h1, h2⟩ := h
  refine ⟨hb, hB, fun j => G (match j with | 0 => 1 | 1 => 0 | j + 2 => j + 2), fun j p hp => ?_, fun j l hj hl hne k hk => ?_⟩
  · match j, hp with
    | 0, hp => exact h1 1 p (by simpa using hp)
    | 1, hp => exact h1 0 p (by simpa using hp)
    | j + 2, hp => exact h1 (j + 2) p (by simpa using hp)
  · refine h2 _ _ ?_ ?_ ?_ k hk
    · match j, hj with
      | 0, _ => simp
      | 1, _ => simp
      | j + 2, hj => simpa using hj
    · match l, hl with
      | 0, _ => simp
      | 1, _ => simp
      | l + 2, hl => simpa using hl
    · match j, l, hne with
      | 0, 0, h => exact absurd rfl h
      | 0, 1, _ => simp
      | 0, l + 2, _ => simp
      | 1, 0, _ => simp
      | 1, 1, h => exact absurd rfl h
      | 1, l + 2, _ => simp
      | j + 2, 0, _ => simp
      | j + 2, 1, _ => simp
      | j + 2, l + 2, h => simpa using h
theorem Sep.perm3 {w0 w : World} {B : Nat} {rs : List Res} {r q p : Res} (h : Sep w0 B w (r :: q :: p :: rs)) : Sep w0 B w (p :: r :: q :: rs) := by
  obtain ⟨hb, hB, G, h1, h2⟩ := h
  refine ⟨hb, hB, fun j => G (match j with | 0 => 2 | 1 => 0 | 2 => 1 | j + 3 => j + 3), fun j q hq => ?_, fun j l hj hl hne k hk => ?_⟩
  · match j, hq with
    | 0, hq => exact h1 2 q (by simpa using hq)
    | 1, hq => exact h1 0 q (by simpa using hq)
    | 2, hq => exact h1 1 q (by simpa using hq)
    | j + 3, hq => exact h1 (j + 3) q (by simpa using hq)
  · refine h2 _ _ ?_ ?_ ?_ k hk
    · match j, hj with
      | 0, _ => simp
      | 1, _ => simp
      | 2, _ => simp
      | j + 3, hj => simpa using hj
    · match l, hl with
      | 0, _ => simp
      | 1, _ => simp
      | 2, _ => simp
      | l + 3, hl => simpa using hl
    · match j, l, hne with
      | 0, 0, h => exact absurd rfl h
      | 0, 1, _ => simp
      | 0, 2, _ => simp
      | 0, l + 3, _ => simp
      | 1, 0, _ => simp
      | 1, 1, h => exact absurd rfl h
      | 1, 2, _ => simp
      | 1, l + 3, _ => simp
      | 2, 0, _ => simp
      | 2, 1, _ => simp
      | 2, 2, h => exact absurd rfl h
      | 2, l + 3, _ => simp
      | j + 3, 0, _ => simp
      | j + 3, 1, _ => simp
      | j + 3, 2, _ => simp
      | j + 3, l + 3, h => simpa using h
/-- A slice that is owned, as an object. -/
def slRes (e size : Nat) (v : Value) (n : Nat) (xs : List Value) : Res where
  P F w := ∃ row, F = Option.toList row ∧ Own w e size v n xs row
  loc F w w' h hk := by
    obtain ⟨row, rfl, ho⟩ := h
    refine ⟨row, rfl, ho.1, ?_⟩
    rcases ho.2 with hn | ⟨g, off, c, cur, hv, hr, hb, rest⟩
    · exact .inl hn
    · exact .inr ⟨g, off, c, cur, hv, hr, (hk g (by rw [hr]; simp)).trans hb, rest⟩
  lt F w h k hk := by
    obtain ⟨row, rfl, ho⟩ := h
    exact ho.lt (Option.mem_toList.1 hk)
/-- A cell of a list that is owned. -/
theorem Sep.cell {w0 w : World} {B : Nat} {rs : List Res} (h : Sep w0 B w rs) (i : Nat) {e g off n c : Nat} {xs : List Value} (hi : rs[i]? = some (slRes e 1 (.slice (some ⟨g, off, none⟩) n c) n xs)) (j : Nat) {u : Value} (hj : xs[j]? = some u) :
    w.cell? ⟨g, off + j, none⟩ = some u := by
  obtain ⟨F, row, rfl, ho⟩ := h.look i hi
  have hlt : j < xs.length := (List.getElem?_eq_some_iff.1 hj).1
  rcases ho.2 with ⟨_, _, h0, _⟩ | ⟨g', off', c', cur, hv, _, hb, _, _, _, _, hx⟩
  · have := ho.1; omega
  · injection hv with ha _ _
    injection ha with ha
    injection ha with h1 h2
    subst h1; subst h2
    exact (hb.cell _).trans (hx j u hj)
/-- Where a list has an element, its address is known. -/
theorem Sep.addr {w0 w : World} {B : Nat} {rs : List Res} (h : Sep w0 B w rs) (i : Nat) {e n c : Nat} {A : Option Addr} {xs : List Value} (hi : rs[i]? = some (slRes e 1 (.slice A n c) n xs)) (hn : 0 < n) :
    ∃ g off, A = some ⟨g, off, none⟩ := by
  obtain ⟨F, row, rfl, ho⟩ := h.look i hi
  obtain ⟨g, off, c', cur, hv, _⟩ := ho.at_ hn
  injection hv with ha _ _
  exact ⟨g, off, ha⟩
/-- A block that is known whole, as an object. -/
def blkRes (g : Nat) (t : TypeId) (cs : Array Value) : Res where
  P F w := F = [g] ∧ Blk w g t cs
  loc F w w' h hk := ⟨h.1, (hk g (by rw [h.1]; simp)).trans h.2⟩
  lt F w h k hk := by
    rw [h.1] at hk
    simp at hk
    subst hk
    exact h.2.lt
theorem newRow_foot {w : World} {row row' : Option Nat} (h : NewRow w row row') : ∀ k, k ∈ row'.toList → k ∈ row.toList ∨ w.heap.size ≤ k := by
  intro k hk
  rw [Option.mem_toList] at hk
  exact (h k hk).elim (fun h => .inl (by rw [Option.mem_toList]; exact h)) .inr
/-- A slice that was just built of n elements of one cell. -/
theorem Own.built (w : World) (e : TypeId) (n : Nat) (cs : Array Value) (hn : cs.size = n) (h0 : 0 < n) (hm : n ≤ maxLen) :
    Own (w.alloc (.cells cs e)) e 1 (.slice (some ⟨w.heap.size, 0, none⟩) n n) n cs.toList (some w.heap.size) :=
  ⟨by simp [hn], .inr ⟨w.heap.size, 0, n, cs, rfl, rfl, Blk.new w e cs, h0, Nat.le_refl _, hm, by omega, fun j u hu => by rw [Nat.zero_add, ← Array.getElem?_toList]; exact hu⟩⟩
theorem Sep.built {w0 w : World} {B : Nat} {rs : List Res} (h : Sep w0 B w rs) (e : TypeId) (n : Nat) (cs : Array Value) (hn : cs.size = n) (h0 : 0 < n) (hm : n ≤ maxLen) :
    Sep w0 B (w.alloc (.cells cs e)) (slRes e 1 (.slice (some ⟨w.heap.size, 0, none⟩) n n) n cs.toList :: rs) :=
  h.add (r := slRes e 1 (.slice (some ⟨w.heap.size, 0, none⟩) n n) n cs.toList) ⟨_, rfl, Own.built w e n cs hn h0 hm⟩ ((Touch.refl _ _).alloc _) (by simp)
/-- A slice of length 0, wherever it points. -/
theorem Sep.bare {w0 w : World} {B : Nat} {rs : List Res} (h : Sep w0 B w rs) (e size : Nat) (A : Option Addr) : Sep w0 B w (slRes e size (.slice A 0 0) 0 [] :: rs) :=
  h.add (r := slRes e size (.slice A 0 0) 0 []) ⟨none, rfl, Own.nil _ _ _ _⟩ (Touch.refl _ _) (by simp)
section
variable {P : Program}
/-- append, to one of the objects. -/
theorem wpList_append_sep (w : World) {ops : Array Oper} {rest : List Oper} {o : Oper} {a : Act} {Q : Exit → Act → World → Prop} (hgd : o.guard = none) (s x : Operand) (t tx : TypeId)
    (ho : o.op = .call { callee := .builtin .append, args := #[s, x], argTypes := #[t, tx] })
    (e : TypeId) (i : TypeInfo) (z : Value) (size bytes : Nat) (ht : P.underlying t = some (.slice e)) (hi : P.info? e = some i) (hz : i.zero = some z)
    (hsize : i.size = size) (hby : i.bytes = bytes) (hzs : z.cells.size = size)
    {w0 : World} {B : Nat} {rs : List Res} (hsep : Sep w0 B w rs) (ix : Nat) (v : Value) (n : Nat) (xs : List Value) (hix : rs[ix]? = some (slRes e size v n xs)) (hv : a.eval s = v)
    (xv : Value) (m : Nat) (news : List Value) (hx : a.eval x = xv) (hs : Src P size tx xv m news w)
    (h63 : n + m ≤ maxLen) (hbytes : (n + m) * bytes ≤ 140737488355328)
    (h : ∀ A c w', Sep w0 B w' (rs.set ix (slRes e size (.slice A (n + m) c) (n + m) (xs ++ news))) → wpList P ops Q rest (a.put o.dst (.slice A (n + m) c)) w') : wpList P ops Q (o :: rest) a w := by
  obtain ⟨F, ⟨row, rfl, hown⟩, hset⟩ := hsep.focus ix hix
  refine wpList_append_Own w hgd s x t tx ho e i z size bytes ht hi hz hsize hby hzs v n xs row hv hown xv m news hx hs h63 hbytes fun v' w' row' hown' ht' hn => ?_
  obtain ⟨A, c, rfl, _⟩ := hown'.shape
  exact h A c w' (hset w' _ _ ⟨row', rfl, hown'⟩ ht' (newRow_foot hn))
end
/-- One element that was just laid. -/
theorem Src.one {P : Program} {tx e' : TypeId} (hk : P.underlying tx = some (.slice e')) (w : World) (t : TypeId) (v : Value) (h1 : v.oneCell' = true) :
    Src P 1 tx (.slice (some ⟨w.heap.size, 0, none⟩) 1 1) 1 [v] (w.alloc (.cells #[v] t)) :=
  Src.ofSlice _ hk ⟨w.heap.size, 0, none⟩ 1 1 [v] rfl (fun j u hj => by
    match j, hj with
    | 0, hj => simp at hj; subst hj; exact (Blk.new w _ _).cell 0) (fun u hu => by simp at hu; subst hu; exact h1)
/-- A list that is there can be appended from. -/
theorem Sep.src {P : Program} {w0 w : World} {B : Nat} {rs : List Res} (h : Sep w0 B w rs) (i : Nat) {e size n : Nat} {v : Value} {xs : List Value} (hi : rs[i]? = some (slRes e size v n xs)) (h1 : ∀ u ∈ xs, u.oneCell' = true)
    {tx e' : TypeId} (hk : P.underlying tx = some (.slice e')) : Src P size tx v n xs w := by
  obtain ⟨F, row, rfl, ho⟩ := h.look i hi
  exact ho.src h1 hk
/-! Row -/
def cellsA (L : List Al) : List Value := L.flatMap fun a => [.int .u64 a.1, .int .i64 a.2]
theorem cellsA_len (L : List Al) : (cellsA L).length = L.length * 2 := by
  induction L with
  | nil => rfl
  | cons a L ih => simp [cellsA] at *; omega
theorem cellsA_at (L : List Al) (j : Nat) (hj : j < L.length) : (cellsA L)[j * 2]? = some (.int .u64 (atA L j).1) ∧ (cellsA L)[j * 2 + 1]? = some (.int .i64 (atA L j).2) := by
  induction L generalizing j with
  | nil => simp at hj
  | cons a L ih =>
    cases j with
    | zero => exact ⟨rfl, rfl⟩
    | succ j =>
      have h := ih j (by simpa using hj)
      have e : cellsA (a :: L) = .int .u64 a.1 :: .int .i64 a.2 :: cellsA L := rfl
      have e2 : atA (a :: L) (j + 1) = atA L j := by simp [atA, List.getD]
      rw [e, e2, show (j + 1) * 2 = j * 2 + 1 + 1 by omega, show j * 2 + 1 + 1 + 1 = (j * 2 + 1) + 1 + 1 by omega]
      simp only [List.getElem?_cons_succ]
      exact h
/-- A row of alarms lies in memory. -/
def RowAt (w : World) (v : Value) (L : List Al) (row : Option Nat) : Prop := Own w 85 2 v L.length (cellsA L) row
theorem len_row (v : Value) (L : List Al) (row : Option Nat) (w : World) (h : RowAt w v L row) :
    Calls Try.prog 68 #[v] w fun e w' => e = .returned (.int .i64 L.length) ∧ w = w' := by
  obtain ⟨A, c, rfl, hc⟩ := Own.shape h
  go_enter Try.func68, Try.ntmps68
  go_wp2
  go_ret
  exact ⟨rfl, rfl⟩
set_option maxRecDepth 100000 in
set_option maxHeartbeats 400000 in
theorem less_row (v : Value) (L : List Al) (row : Option Nat) (i k : Nat) (hi : i < L.length) (hk : k < L.length) (w : World) (h : RowAt w v L row) :
    Calls Try.prog 69 #[v, .int .i64 i, .int .i64 k] w fun e w' => e = .returned (.bool (decide (ltA (atA L i) (atA L k)))) ∧ ∃ n, w' = w.drewN n := by
  obtain ⟨g, off, c, cur, rfl, _, hb, hc0, hnc, hcm, hcs, hx⟩ := Own.at_ h (by omega)
  obtain ⟨hi1, hi2⟩ := cellsA_at L i hi
  obtain ⟨hk1, hk2⟩ := cellsA_at L k hk
  have ci1 := (hb.cell _).trans (hx _ _ hi1)
  have ci2 : w.cell? ⟨g, off + i * 2 + 1, none⟩ = _ := (hb.cell _).trans (hx _ _ hi2)
  have ck1 := (hb.cell _).trans (hx _ _ hk1)
  have ck2 : w.cell? ⟨g, off + k * 2 + 1, none⟩ = _ := (hb.cell _).trans (hx _ _ hk2)
  clear hi1 hi2 hk1 hk2 hx hb
  obtain ⟨x, hxe⟩ : ∃ x, x = atA L i := ⟨_, rfl⟩
  obtain ⟨y, hye⟩ : ∃ y, y = atA L k := ⟨_, rfl⟩
  rw [← hxe] at ci1 ci2 ⊢
  rw [← hye] at ck1 ck2 ⊢
  clear hxe hye h
  obtain ⟨x1, x2⟩ := x
  obtain ⟨y1, y2⟩ := y
  simp only at ci1 ci2 ck1 ck2
  by_cases h1 : x1 < y1
  · have hd : decide (ltA (x1, x2) (y1, y2)) = true := decide_eq_true (.inl h1)
    have Hd := Lib.hid hd; clear hd
    go_enter Try.func69, Try.ntmps69
    go_wp2_with fail
    go_quiet (fail)
    go_wp2_with fail
    go_ret
    exact ⟨ret_bool Hd.out.symm, _, rfl⟩
  · by_cases h2 : x1 = y1
    · have hd : decide (ltA (x1, x2) (y1, y2)) = decide (x2 < y2) := decide_eq_decide.2 ⟨fun h => h.elim (fun h => absurd h h1) (fun h => h.2), fun h => .inr ⟨h2, h⟩⟩
      have Hd := Lib.hid hd; clear hd
      have h1' : decide (x1 < y1) = false := decide_eq_false h1
      have h2' : ((x1 : Int) == y1) = true := beq_iff_eq.2 h2
      clear h2
      go_enter Try.func69, Try.ntmps69
      go_wp2_with fail
      go_quiet (fail)
      go_wp2_with fail
      go_ret
      exact ⟨ret_bool Hd.out.symm, _, rfl⟩
    · have hd : decide (ltA (x1, x2) (y1, y2)) = false := decide_eq_false (fun h => h.elim h1 (fun h => h2 h.1))
      have Hd := Lib.hid hd; clear hd
      have h1' : decide (x1 < y1) = false := decide_eq_false h1
      have h2' : ((x1 : Int) == y1) = false := beq_false_of_ne h2
      go_enter Try.func69, Try.ntmps69
      go_wp2_with fail
      go_quiet (fail)
      go_wp2_with fail
      go_ret
      exact ⟨ret_bool Hd.out.symm, _, rfl⟩
theorem cells_set (L : List Al) (off : Nat) (cur : Array Value) (hx : ∀ j u, (cellsA L)[j]? = some u → cur[off + j]? = some u) (i : Nat) (hi : i < L.length) (a : Al) :
    ∀ j u, (cellsA (L.set i a))[j]? = some u → ((cur.setIfInBounds (off + i * 2) (.int .u64 a.1)).setIfInBounds (off + i * 2 + 1) (.int .i64 a.2))[off + j]? = some u := by
  intro j u hu
  have hj : j < (cellsA (L.set i a)).length := (List.getElem?_eq_some_iff.1 hu).1
  rw [cellsA_len, List.length_set] at hj
  have hs : ∀ m, m < L.length * 2 → off + m < cur.size := fun m hm => by
    have h := hx m _ (List.getElem?_eq_getElem (by rw [cellsA_len]; exact hm))
    exact (Array.getElem?_eq_some_iff.1 h).1
  have hset : ∀ q, q < L.length → atA (L.set i a) q = if q = i then a else atA L q := fun q hq => by
    by_cases hqi : q = i
    · subst hqi; simp [atA, List.getD, hq]
    · simp [atA, List.getD, hqi, Ne.symm hqi]
  obtain ⟨q, hq⟩ : ∃ q, q = j / 2 := ⟨_, rfl⟩
  have hql : q < L.length := by omega
  have h1 := cellsA_at (L.set i a) q (by rw [List.length_set]; exact hql)
  have h2 := cellsA_at L q hql
  rw [hset q hql] at h1
  have hi2 := hs (i * 2) (by omega)
  have hi3 := hs (i * 2 + 1) (by omega)
  by_cases hr : j % 2 = 0
  · obtain rfl : j = q * 2 := by omega
    rw [h1.1] at hu
    injection hu with hu
    subst hu
    rw [Array.getElem?_setIfInBounds, if_neg (by omega), Array.getElem?_setIfInBounds]
    by_cases hqi : q = i
    · subst hqi
      rw [if_pos rfl, if_pos (by omega), if_pos rfl]
    · rw [if_neg (by omega), if_neg hqi]
      exact hx _ _ h2.1
  · obtain rfl : j = q * 2 + 1 := by omega
    rw [h1.2] at hu
    injection hu with hu
    subst hu
    rw [Array.getElem?_setIfInBounds]
    by_cases hqi : q = i
    · subst hqi
      rw [if_pos (by omega), if_pos (by simp; omega), if_pos rfl]
    · rw [if_neg (by omega), Array.getElem?_setIfInBounds, if_neg (by omega), if_neg hqi]
      exact hx _ _ h2.2
set_option maxRecDepth 100000 in
set_option maxHeartbeats 400000 in
theorem swap_row (v : Value) (L : List Al) (row : Option Nat) (i k : Nat) (hi : i < L.length) (hk : k < L.length) (w : World) (h : RowAt w v L row) :
    Calls Try.prog 47 #[v, .int .i64 i, .int .i64 k] w fun e w' => e = .returned (.tuple #[]) ∧ RowAt w' v (swapL L i k) row ∧ Touch row.toList w w' := by
  obtain ⟨g, off, c, cur, rfl, hrow, hb, hc0, hnc, hcm, hcs, hx⟩ := Own.at_ h (by omega)
  obtain ⟨hi1, hi2⟩ := cellsA_at L i hi
  obtain ⟨hk1, hk2⟩ := cellsA_at L k hk
  have ci1 := (hb.cell _).trans (hx _ _ hi1)
  have ci2 : w.cell? ⟨g, off + i * 2 + 1, none⟩ = _ := (hb.cell _).trans (hx _ _ hi2)
  have ck1 := (hb.cell _).trans (hx _ _ hk1)
  have ck2 : w.cell? ⟨g, off + k * 2 + 1, none⟩ = _ := (hb.cell _).trans (hx _ _ hk2)
  have f1 := hb.frozen (off + i * 2)
  have f2 := hb.frozen (off + i * 2 + 1)
  have f3 := hb.frozen (off + k * 2)
  have f4 := hb.frozen (off + k * 2 + 1)
  have Hb := Lib.hid hb
  have hcells := cells_set _ off _ (cells_set L off cur hx i hi (atA L k)) k (by rw [List.length_set]; exact hk) (atA L i)
  have Hx := Lib.hid hcells
  clear hi1 hi2 hk1 hk2 hx hb hcells
  obtain ⟨x, hxe⟩ : ∃ x, x = atA L i := ⟨_, rfl⟩
  obtain ⟨y, hye⟩ : ∃ y, y = atA L k := ⟨_, rfl⟩
  rw [← hxe] at ci1 ci2
  rw [← hye] at ck1 ck2
  have Hxe := Lib.hid hxe; have Hye := Lib.hid hye
  clear hxe hye h
  obtain ⟨x1, x2⟩ := x
  obtain ⟨y1, y2⟩ := y
  simp only at ci1 ci2 ck1 ck2
  go_enter Try.func47, Try.ntmps47
  go_wp2_with fail
  have hsz : ∀ (cs : Array Value) (m : Nat), m < cs.size → ∃ u, cs[m]? = some u := fun cs m hm => ⟨cs[m], Array.getElem?_eq_getElem hm⟩
  obtain ⟨u1, hu1⟩ := hsz (cur.setIfInBounds (off + i * 2) (.int .u64 y1)) (off + k * 2) (by simp; omega)
  obtain ⟨u2, hu2⟩ := hsz ((cur.setIfInBounds (off + i * 2) (.int .u64 y1)).setIfInBounds (off + i * 2 + 1) (.int .i64 y2)) (off + k * 2 + 1) (by simp; omega)
  have d1 : (w.setCell ⟨g, off + i * 2, none⟩ (.int .u64 y1)).cell? ⟨g, off + k * 2, none⟩ = some u1 := ((Hb.out.set_ _ _).cell _).trans hu1
  have d2 : ((w.setCell ⟨g, off + i * 2, none⟩ (.int .u64 y1)).setCell ⟨g, off + i * 2 + 1, none⟩ (.int .i64 y2)).cell? ⟨g, off + k * 2 + 1, none⟩ = some u2 := (((Hb.out.set_ _ _).set_ _ _).cell _).trans hu2
  clear hu1 hu2 hsz
  go_region
  go_end0
  have hr1 : off + i * 2 + 1 < off + c * 2 := by omega
  refine ⟨rfl, ⟨by rw [cellsA_len, swapL_len], .inr ⟨g, off, c, _, by rw [swapL_len], hrow, ((((Hb.out.set_ _ _).set_ _ _).set_ _ _).set_ _ _).drew, hc0, by rw [swapL_len]; exact hnc, hcm, by simp; exact hcs, ?_⟩⟩, ?_⟩
  · have h := Hx.out
    rw [← Hxe.out, ← Hye.out] at h
    unfold swapL
    rw [← Hxe.out, ← Hye.out]
    exact h
  · have hg : g ∈ row.toList := by rw [hrow]; simp
    exact (((((Touch.refl _ w).setCell (p := ⟨g, _, none⟩) (.inl hg) _).setCell (p := ⟨g, _, none⟩) (.inl hg) _).setCell (p := ⟨g, _, none⟩) (.inl hg) _).setCell (p := ⟨g, _, none⟩) (.inl hg) _).drew
/-! UpDown -/
theorem method_Less (v : Value) (w : World) : (method 187 80 v "Less").run Try.prog w = .ok (69, v) w := by kernel_rfl
theorem method_Swap (v : Value) (w : World) : (method 187 80 v "Swap").run Try.prog w = .ok (47, v) w := by kernel_rfl
theorem method_Len (v : Value) (w : World) : (method 187 80 v "Len").run Try.prog w = .ok (68, v) w := by kernel_rfl
theorem RowAt.drewN {w : World} {v : Value} {L : List Al} {row : Option Nat} (h : RowAt w v L row) (n : Nat) : RowAt (w.drewN n) v L row := Own.drewN h n
set_option maxRecDepth 100000 in
set_option maxHeartbeats 1000000 in
theorem up_row (v : Value) (L : List Al) (row : Option Nat) (i : Nat) (hn : L.length ≤ 100000) (hi : i < L.length) (hu : UpOk L i) (w : World) (h : RowAt w v L row) :
    Calls Try.prog 40 #[.iface 80 v, .int .i64 i] w fun e w' => e = .returned (.tuple #[]) ∧ ∃ M : List Al, HeapOk M ∧ M.Perm L ∧ RowAt w' v M row ∧ Touch row.toList w w' := by
  go_enter Try.func40, Try.ntmps40
  go_wp2_with fail
  go_loopw [1] (fun vk wr => ∃ (i : Nat) (M : List Al), vk = .int .i64 i ∧ i < M.length ∧ UpOk M i ∧ M.Perm L ∧ RowAt wr v M row ∧ Touch row.toList w wr) (fun vk _ => (intOf vk).toNat)
  case atStart => exact ⟨i, L, rfl, hi, hu, .refl _, h, Touch.refl _ _⟩
  case round =>
    obtain ⟨k, M, rfl, hk, hu', hp, hr, ht⟩ := hrel
    clear h hu hi
    by_cases h0 : 0 < k
    · have hq : ((k : Int) - 1).tdiv 2 = (((k - 1) / 2 : Nat) : Int) := by rw [Int.tdiv_eq_ediv_of_nonneg (by omega)]; omega
      have hkb : M.length ≤ 100000 := by rw [hp.length_eq]; exact hn
      have m1 := method_Less
      have m2 := method_Swap
      have hkp : (k - 1) / 2 < M.length := by omega
      by_cases hlt : ltA (atA M k) (atA M ((k - 1) / 2))
      · have hd : decide (ltA (atA M k) (atA M ((k - 1) / 2))) = true := decide_eq_true hlt
        have hstep := hu'.step h0 hk hlt
        have hperm := (swapL_perm hk hkp).trans hp
        have Hstep := Lib.hid hstep
        have Hperm := Lib.hid hperm
        clear hstep hperm hu' hp
        go_wp2_with fail
        refine (less_row v M row k ((k - 1) / 2) hk hkp _ hr).mono ?_
        rintro e w1 ⟨rfl, n1, rfl⟩
        go_wp2_with fail
        refine (swap_row v M row k ((k - 1) / 2) hk hkp _ (hr.drewN n1)).mono ?_
        rintro e w2 ⟨rfl, hr2, ht2⟩
        clear hr
        go_wp2_with fail
        go_roundw
        case rel => exact ⟨(k - 1) / 2, _, by go_num, by rw [swapL_len]; exact hkp, Hstep.out, Hperm.out, hr2, (ht.drewN n1).trans ht2⟩
        case measure => simp [intOf]; omega
      · have hd : decide (ltA (atA M k) (atA M ((k - 1) / 2))) = false := decide_eq_false hlt
        have hfin := hu'.stop (.inr hlt)
        have Hfin := Lib.hid hfin
        clear hfin hu'
        go_wp2_with fail
        refine (less_row v M row k ((k - 1) / 2) hk hkp _ hr).mono ?_
        rintro e w1 ⟨rfl, n1, rfl⟩
        go_wp2_with fail
        go_end0
        exact ⟨rfl, M, Hfin.out, hp, hr.drewN n1, ht.drewN n1⟩
    · obtain rfl : k = 0 := by omega
      have hfin := hu'.stop (.inl rfl)
      have Hfin := Lib.hid hfin
      clear hfin hu'
      go_wp2_with fail
      go_end0
      exact ⟨rfl, M, Hfin.out, hp, hr, ht⟩
set_option maxRecDepth 100000 in
set_option maxHeartbeats 4000000 in
theorem down_row (v : Value) (L : List Al) (row : Option Nat) (r : Nat) (hn : L.length ≤ 100000) (hrl : r < L.length) (hu : DownOk L r r) (w : World) (h : RowAt w v L row) :
    Calls Try.prog 48 #[.iface 80 v, .int .i64 r] w fun e w' => e = .returned (.tuple #[]) ∧ ∃ M : List Al, UpOk M r ∧ M.Perm L ∧ RowAt w' v M row ∧ Touch row.toList w w' := by
  have m1 := method_Less
  have m2 := method_Swap
  have m3 := method_Len
  go_enter Try.func48, Try.ntmps48
  go_wp2_with fail
  go_loopw [1] (fun vk wr => ∃ (i : Nat) (M : List Al), vk = .int .i64 i ∧ i < M.length ∧ DownOk M i r ∧ M.Perm L ∧ RowAt wr v M row ∧ Touch row.toList w wr) (fun vk _ => L.length - (intOf vk).toNat)
  case atStart => exact ⟨r, L, rfl, hrl, hu, .refl _, h, Touch.refl _ _⟩
  case round =>
    obtain ⟨i, M, rfl, hi, hu', hp, hr, ht⟩ := hrel
    clear h hu
    have hkb : M.length ≤ 100000 := by rw [hp.length_eq]; exact hn
    have hml : M.length = L.length := hp.length_eq
    have Hml := Lib.hid hml; clear hml
    by_cases h1 : 2 * i + 1 + 1 < M.length
    · have hk1 : 2 * i + 1 < M.length := by omega
      by_cases hlt : ltA (atA M (2 * i + 1 + 1)) (atA M (2 * i + 1))
      · have hd : decide (ltA (atA M (2 * i + 1 + 1)) (atA M (2 * i + 1))) = true := decide_eq_true hlt
        have hrl' : r < M.length := by have := Hml.out; omega
        have hmin : ∀ j, 0 < j → j < M.length → (j - 1) / 2 = i → leA (atA M (2 * i + 1 + 1)) (atA M j) := fun j h0 hj hjp => by
          have : j = 2 * i + 1 ∨ j = 2 * i + 1 + 1 := by omega
          rcases this with rfl | rfl
          · exact leA_of_lt hlt
          · exact leA_refl _
        have hk : 2 * i + 1 + 1 < M.length := h1
        have hk0 : 0 < 2 * i + 1 + 1 := by omega
        have hki : (2 * i + 1 + 1 - 1) / 2 = i := by omega
        have hge : decide ((M.length : Int) ≤ 2 * (i : Int) + 1 + 1) = false := decide_eq_false (by omega)
        by_cases hlt2 : ltA (atA M (2 * i + 1 + 1)) (atA M i)
        · have hd2 : decide (ltA (atA M (2 * i + 1 + 1)) (atA M i)) = true := decide_eq_true hlt2
          have hstep := hu'.step hi hk hk0 hki hlt2 hmin
          have hperm := (swapL_perm hk hi).trans hp
          have Hstep := Lib.hid hstep
          have Hperm := Lib.hid hperm
          clear hstep hperm hu' hp hmin
          go_wp2_with fail
          refine (len_row v M row _ hr).mono ?_
          rintro e w1 ⟨rfl, rfl⟩
          go_wp2_with fail
          refine (less_row v M row (2 * i + 1 + 1) (2 * i + 1) h1 hk1 _ hr).mono ?_
          rintro e w2 ⟨rfl, n1, hw2⟩
          have HR : Hid (RowAt w2 v M row) := Lib.hid (by rw [hw2]; exact hr.drewN n1)
          have HT : Hid (Touch row.toList w w2) := Lib.hid (by rw [hw2]; exact ht.drewN n1)
          clear hr ht hw2
          go_wp2_with fail
          refine (len_row v M row _ HR.out).mono ?_
          rintro e w3 ⟨rfl, rfl⟩
          go_wp2_with fail
          refine (less_row v M row (2 * i + 1 + 1) i hk hi _ HR.out).mono ?_
          rintro e w4 ⟨rfl, n2, rfl⟩
          go_wp2_with fail
          refine (swap_row v M row (2 * i + 1 + 1) i hk hi _ (HR.out.drewN n2)).mono ?_
          rintro e w5 ⟨rfl, hr5, ht5⟩
          go_wp2_with fail
          go_roundw
          case rel => exact ⟨2 * i + 1 + 1, _, by go_num, by rw [swapL_len]; exact hk, Hstep.out, Hperm.out, hr5, (HT.out.drewN n2).trans ht5⟩
          case measure => have := Hml.out; simp [intOf]; omega
        · have hd2 : decide (ltA (atA M (2 * i + 1 + 1)) (atA M i)) = false := decide_eq_false hlt2
          have hfin := hu'.stop hi (by omega) (fun j h0 hj hjp => leA_trans hlt2 (hmin j h0 hj hjp))
          have Hfin := Lib.hid hfin
          clear hfin hu' hmin
          go_wp2_with fail
          refine (len_row v M row _ hr).mono ?_
          rintro e w1 ⟨rfl, rfl⟩
          go_wp2_with fail
          refine (less_row v M row (2 * i + 1 + 1) (2 * i + 1) h1 hk1 _ hr).mono ?_
          rintro e w2 ⟨rfl, n1, hw2⟩
          have HR : Hid (RowAt w2 v M row) := Lib.hid (by rw [hw2]; exact hr.drewN n1)
          have HT : Hid (Touch row.toList w w2) := Lib.hid (by rw [hw2]; exact ht.drewN n1)
          clear hr ht hw2
          go_wp2_with fail
          refine (len_row v M row _ HR.out).mono ?_
          rintro e w3 ⟨rfl, rfl⟩
          go_wp2_with fail
          refine (less_row v M row (2 * i + 1 + 1) i hk hi _ HR.out).mono ?_
          rintro e w4 ⟨rfl, n2, rfl⟩
          go_wp2_with fail
          refine bodyPost_ret (results_none rfl _ _ _) rfl ?_
          exact ⟨rfl, M, Hfin.out, hp, HR.out.drewN n2, HT.out.drewN n2⟩
      · have hd : decide (ltA (atA M (2 * i + 1 + 1)) (atA M (2 * i + 1))) = false := decide_eq_false hlt
        have hrl' : r < M.length := by have := Hml.out; omega
        have hmin : ∀ j, 0 < j → j < M.length → (j - 1) / 2 = i → leA (atA M (2 * i + 1)) (atA M j) := fun j h0 hj hjp => by
          have : j = 2 * i + 1 ∨ j = 2 * i + 1 + 1 := by omega
          rcases this with rfl | rfl
          · exact leA_refl _
          · exact hlt
        have hk : 2 * i + 1 < M.length := hk1
        have hk0 : 0 < 2 * i + 1 := by omega
        have hki : (2 * i + 1 - 1) / 2 = i := by omega
        have hge : decide ((M.length : Int) ≤ 2 * (i : Int) + 1) = false := decide_eq_false (by omega)
        by_cases hlt2 : ltA (atA M (2 * i + 1)) (atA M i)
        · have hd2 : decide (ltA (atA M (2 * i + 1)) (atA M i)) = true := decide_eq_true hlt2
          have hstep := hu'.step hi hk hk0 hki hlt2 hmin
          have hperm := (swapL_perm hk hi).trans hp
          have Hstep := Lib.hid hstep
          have Hperm := Lib.hid hperm
          clear hstep hperm hu' hp hmin
          go_wp2_with fail
          refine (len_row v M row _ hr).mono ?_
          rintro e w1 ⟨rfl, rfl⟩
          go_wp2_with fail
          refine (less_row v M row (2 * i + 1 + 1) (2 * i + 1) h1 hk1 _ hr).mono ?_
          rintro e w2 ⟨rfl, n1, hw2⟩
          have HR : Hid (RowAt w2 v M row) := Lib.hid (by rw [hw2]; exact hr.drewN n1)
          have HT : Hid (Touch row.toList w w2) := Lib.hid (by rw [hw2]; exact ht.drewN n1)
          clear hr ht hw2
          go_wp2_with fail
          refine (len_row v M row _ HR.out).mono ?_
          rintro e w3 ⟨rfl, rfl⟩
          go_wp2_with fail
          refine (less_row v M row (2 * i + 1) i hk hi _ HR.out).mono ?_
          rintro e w4 ⟨rfl, n2, rfl⟩
          go_wp2_with fail
          refine (swap_row v M row (2 * i + 1) i hk hi _ (HR.out.drewN n2)).mono ?_
          rintro e w5 ⟨rfl, hr5, ht5⟩
          go_wp2_with fail
          go_roundw
          case rel => exact ⟨2 * i + 1, _, by go_num, by rw [swapL_len]; exact hk, Hstep.out, Hperm.out, hr5, (HT.out.drewN n2).trans ht5⟩
          case measure => have := Hml.out; simp [intOf]; omega
        · have hd2 : decide (ltA (atA M (2 * i + 1)) (atA M i)) = false := decide_eq_false hlt2
          have hfin := hu'.stop hi (by omega) (fun j h0 hj hjp => leA_trans hlt2 (hmin j h0 hj hjp))
          have Hfin := Lib.hid hfin
          clear hfin hu' hmin
          go_wp2_with fail
          refine (len_row v M row _ hr).mono ?_
          rintro e w1 ⟨rfl, rfl⟩
          go_wp2_with fail
          refine (less_row v M row (2 * i + 1 + 1) (2 * i + 1) h1 hk1 _ hr).mono ?_
          rintro e w2 ⟨rfl, n1, hw2⟩
          have HR : Hid (RowAt w2 v M row) := Lib.hid (by rw [hw2]; exact hr.drewN n1)
          have HT : Hid (Touch row.toList w w2) := Lib.hid (by rw [hw2]; exact ht.drewN n1)
          clear hr ht hw2
          go_wp2_with fail
          refine (len_row v M row _ HR.out).mono ?_
          rintro e w3 ⟨rfl, rfl⟩
          go_wp2_with fail
          refine (less_row v M row (2 * i + 1) i hk hi _ HR.out).mono ?_
          rintro e w4 ⟨rfl, n2, rfl⟩
          go_wp2_with fail
          refine bodyPost_ret (results_none rfl _ _ _) rfl ?_
          exact ⟨rfl, M, Hfin.out, hp, HR.out.drewN n2, HT.out.drewN n2⟩
    · by_cases hk : 2 * i + 1 < M.length
      · have hrl' : r < M.length := by have := Hml.out; omega
        have hmin : ∀ j, 0 < j → j < M.length → (j - 1) / 2 = i → leA (atA M (2 * i + 1)) (atA M j) := fun j h0 hj hjp => by
          obtain rfl : j = 2 * i + 1 := by omega
          exact leA_refl _
        have hk0 : 0 < 2 * i + 1 := by omega
        have hki : (2 * i + 1 - 1) / 2 = i := by omega
        have hge : decide ((M.length : Int) ≤ 2 * (i : Int) + 1) = false := decide_eq_false (by omega)
        by_cases hlt2 : ltA (atA M (2 * i + 1)) (atA M i)
        · have hd2 : decide (ltA (atA M (2 * i + 1)) (atA M i)) = true := decide_eq_true hlt2
          have hstep := hu'.step hi hk hk0 hki hlt2 hmin
          have hperm := (swapL_perm hk hi).trans hp
          have Hstep := Lib.hid hstep
          have Hperm := Lib.hid hperm
          clear hstep hperm hu' hp hmin
          go_wp2_with fail
          refine (len_row v M row _ hr).mono ?_
          rintro e w1 ⟨rfl, rfl⟩
          have HR := Lib.hid hr
          have HT := Lib.hid ht
          clear hr ht
          go_wp2_with fail
          refine (len_row v M row _ HR.out).mono ?_
          rintro e w3 ⟨rfl, rfl⟩
          go_wp2_with fail
          refine (less_row v M row (2 * i + 1) i hk hi _ HR.out).mono ?_
          rintro e w4 ⟨rfl, n2, rfl⟩
          go_wp2_with fail
          refine (swap_row v M row (2 * i + 1) i hk hi _ (HR.out.drewN n2)).mono ?_
          rintro e w5 ⟨rfl, hr5, ht5⟩
          go_wp2_with fail
          go_roundw
          case rel => exact ⟨2 * i + 1, _, by go_num, by rw [swapL_len]; exact hk, Hstep.out, Hperm.out, hr5, (HT.out.drewN n2).trans ht5⟩
          case measure => have := Hml.out; simp [intOf]; omega
        · have hd2 : decide (ltA (atA M (2 * i + 1)) (atA M i)) = false := decide_eq_false hlt2
          have hfin := hu'.stop hi (by omega) (fun j h0 hj hjp => leA_trans hlt2 (hmin j h0 hj hjp))
          have Hfin := Lib.hid hfin
          clear hfin hu' hmin
          go_wp2_with fail
          refine (len_row v M row _ hr).mono ?_
          rintro e w1 ⟨rfl, rfl⟩
          have HR := Lib.hid hr
          have HT := Lib.hid ht
          clear hr ht
          go_wp2_with fail
          refine (len_row v M row _ HR.out).mono ?_
          rintro e w3 ⟨rfl, rfl⟩
          go_wp2_with fail
          refine (less_row v M row (2 * i + 1) i hk hi _ HR.out).mono ?_
          rintro e w4 ⟨rfl, n2, rfl⟩
          go_wp2_with fail
          refine bodyPost_ret (results_none rfl _ _ _) rfl ?_
          exact ⟨rfl, M, Hfin.out, hp, HR.out.drewN n2, HT.out.drewN n2⟩
      · have hfin := hu'.stop hi (by rw [Hml.out]; exact hrl) (fun j h0 hj hjp => by omega)
        have Hfin := Lib.hid hfin
        clear hfin hu'
        go_wp2_with fail
        refine (len_row v M row _ hr).mono ?_
        rintro e w1 ⟨rfl, rfl⟩
        go_wp2_with fail
        refine (len_row v M row _ hr).mono ?_
        rintro e w1 ⟨rfl, rfl⟩
        go_wp2_with fail
        refine bodyPost_ret (results_none rfl _ _ _) rfl ?_
        exact ⟨rfl, M, Hfin.out, hp, hr, ht⟩
/-! Remove -/
/-- A heap lies at block p: its row of alarms, how many there can be. -/
def HAt (w : World) (p : Nat) (L : List Al) (most : Int) (row : Option Nat) : Prop :=
  ∃ A c, Blk w p 82 #[.slice A L.length c, .int .i64 most] ∧ RowAt w (.slice A L.length c) L row
theorem HAt.touch {w w' : World} {p : Nat} {L : List Al} {most : Int} {row : Option Nat} {S : List Nat} (h : HAt w p L most row) (ht : Touch S w w')
    (hp : p ∉ S) (hr : ∀ g, row = some g → g ∉ S) : HAt w' p L most row := by
  obtain ⟨A, c, hb, ho⟩ := h
  exact ⟨A, c, hb.touch ht hp, ho.touch ht hr⟩
theorem HAt.lt {w : World} {p : Nat} {L : List Al} {most : Int} {row : Option Nat} (h : HAt w p L most row) : p < w.heap.size := by
  obtain ⟨A, c, hb, ho⟩ := h
  exact hb.lt
theorem HAt.rowLt {w : World} {p : Nat} {L : List Al} {most : Int} {row : Option Nat} (h : HAt w p L most row) {g : Nat} (hg : row = some g) : g < w.heap.size := by
  obtain ⟨A, c, hb, ho⟩ := h
  exact ho.lt hg
/-- v[:m] -/
theorem RowAt.take {w : World} {A : Option Addr} {n c m : Nat} {L : List Al} {row : Option Nat} (hn : L.length = n) (h : RowAt w (.slice A n c) L row) (hm : m ≤ n) (h0 : 0 < n) :
    RowAt w (.slice A m c) (L.take m) row := by
  unfold RowAt at *
  obtain ⟨g, off, c', cur, hv, hr, hb, hc0, hnc, hcm, hcs, hx⟩ := h.at_ (by omega)
  injection hv with hA _ hc
  subst hA; subst hc
  refine ⟨cellsA_len _, .inr ⟨g, off, c, cur, by rw [List.length_take, Nat.min_eq_left (by omega)], hr, hb, hc0, by rw [List.length_take]; omega, hcm, hcs, fun j u hu => ?_⟩⟩
  have hj : j < (cellsA (L.take m)).length := (List.getElem?_eq_some_iff.1 hu).1
  rw [cellsA_len, List.length_take] at hj
  have h1 := cellsA_at (L.take m) (j / 2) (by rw [List.length_take]; omega)
  have h2 := cellsA_at L (j / 2) (by omega)
  rw [atA_take (by omega)] at h1
  have hjj : j = j / 2 * 2 ∨ j = j / 2 * 2 + 1 := by omega
  rcases hjj with hjj | hjj
  · rw [hjj, h1.1] at hu
    rw [hjj]
    exact hx _ _ (h2.1.trans hu)
  · rw [hjj, h1.2] at hu
    rw [hjj]
    exact hx _ _ (h2.2.trans hu)
theorem pull_perm {L : List Al} {i m : Nat} (hm : L.length = m + 1) (hi : i < L.length) : ((swapL L i m).take m).Perm (L.eraseIdx i) := by
  have hl : (swapL L i m).length = m + 1 := by rw [swapL_len, hm]
  have h1 : swapL L i m = (swapL L i m).take m ++ [L[i]] := by
    have h := List.take_append_getElem (l := swapL L i m) (i := m) (by omega)
    rw [List.take_of_length_le (show (swapL L i m).length ≤ m + 1 by omega)] at h
    have h2 : (swapL L i m)[m]'(by omega) = L[i] := by
      rw [← atA_get (by omega), atA_swap hi (by omega), if_pos rfl, atA_get hi]
    rw [h2] at h
    exact h.symm
  have h2 := swapL_perm hi (show m < L.length by omega)
  rw [h1] at h2
  have h3 : (L[i] :: (swapL L i m).take m).Perm L := (List.perm_append_singleton _ _).symm.trans h2
  have h4 : (L[i] :: L.eraseIdx i).Perm L := by
    have e1 : L = L.take i ++ L[i] :: L.drop (i + 1) := by simp
    have e2 : L.eraseIdx i = L.take i ++ L.drop (i + 1) := List.eraseIdx_eq_take_drop_succ L i
    rw [e2]
    exact List.perm_middle.symm.trans (by rw [← e1])
  exact (h3.trans h4.symm).cons_inv
set_option maxRecDepth 100000 in
set_option maxHeartbeats 1000000 in
theorem remove_any (p : Nat) (L : List Al) (most : Int) (row : Option Nat) (i : Nat) (hn : L.length ≤ 100000) (hi : i < L.length) (hh : HeapOk L) (w : World) (h : HAt w p L most row) :
    Calls Try.prog 41 #[.pointer (some ⟨p, 0, none⟩), .int .i64 i] w fun e w' => e = .returned (.tuple #[]) ∧ ∃ M : List Al, HeapOk M ∧ M.Perm (L.eraseIdx i) ∧ HAt w' p M most row ∧ Touch (p :: row.toList) w w' := by
  obtain ⟨A, c, hb, ho⟩ := h
  obtain ⟨m, hm⟩ : ∃ m, L.length = m + 1 := ⟨L.length - 1, by omega⟩
  rw [hm] at hb ho
  have hperm := pull_perm hm hi
  have hpr := ho.ne_ hb (by decide)
  have hc0 : w.cell? ⟨p, 0, none⟩ = some (.slice A (m + 1) c) := hb.cell 0
  have hmc : m + 1 ≤ c := by obtain ⟨A', c', hv, hc'⟩ := ho.shape; injection hv with _ _ hcc; omega
  have hlen : ((swapL L i m).take m).length = m := by rw [List.length_take, swapL_len]; omega
  have Hm := Lib.hid hm
  have Hlen := Lib.hid hlen
  have Hb := Lib.hid hb
  have Hperm := Lib.hid hperm
  have Hpr := Lib.hid hpr
  clear hb hperm hpr hlen
  by_cases hlast : i = m
  · subst hlast
    have hfin := hh.pullLast (i := i) (by omega)
    rw [hm, show i + 1 - 1 = i by omega] at hfin
    have Hfin := Lib.hid hfin
    have Hh := Lib.hid hh
    clear hfin hh hm
    go_enter Try.func41, Try.ntmps41
    go_wp2_with fail
    refine (swap_row _ L row i i hi (by have := Hm.out; omega) _ ho).mono ?_
    rintro e w1 ⟨rfl, hr1, ht1⟩
    have hb1 := Hb.out.touch ht1 (notin_row Hpr.out)
    have hc1 : w1.cell? ⟨p, 0, none⟩ = some (.slice A (i + 1) c) := hb1.cell 0
    have hf1 : w1.frozen? ⟨p, 0, none⟩ = false := hb1.frozen 0
    have Hb1 := Lib.hid hb1
    have Hr1 := Lib.hid hr1
    have Ht1 := Lib.hid ht1
    clear hb1 hc0 ho hr1 ht1
    go_wp2_with fail
    go_end0
    have hr2 := Hr1.out.take (m := i) (by rw [swapL_len]; exact Hm.out) (by omega) (by omega)
    refine ⟨rfl, _, Hfin.out, Hperm.out, ⟨A, c, ?_, ?_⟩, (Ht1.out.mono (fun k hk _ => List.mem_cons_of_mem _ hk)).setCell (p := ⟨p, 0, none⟩) (.inl (by simp)) _⟩
    · rw [Hlen.out]; exact Hb1.out.set_ 0 _
    · rw [Hlen.out]; exact Own.far hr2 (a := ⟨p, 0, none⟩) Hpr.out _
  · have hfin := hh.pull (i := i) (by omega)
    rw [hm, show m + 1 - 1 = m by omega] at hfin
    have him : i < m := by omega
    have hmb : m ≤ 100000 := by omega
    have Hfin := Lib.hid hfin
    have Hh := Lib.hid hh
    clear hfin hh hm hlast
    go_enter Try.func41, Try.ntmps41
    go_wp2_with fail
    refine (swap_row _ L row i m hi (by have := Hm.out; omega) _ ho).mono ?_
    rintro e w1 ⟨rfl, hr1, ht1⟩
    have hb1 := Hb.out.touch ht1 (notin_row Hpr.out)
    have hc1 : w1.cell? ⟨p, 0, none⟩ = some (.slice A (m + 1) c) := hb1.cell 0
    have hf1 : w1.frozen? ⟨p, 0, none⟩ = false := hb1.frozen 0
    have hr2 := hr1.take (m := m) (by rw [swapL_len]; exact Hm.out) (by omega) (by omega)
    have hb2 := hb1.set_ 0 (.slice A m c)
    have hr3 : RowAt _ _ _ _ := Own.far hr2 (a := ⟨p, 0, none⟩) Hpr.out (.slice A m c)
    have ht3 : Touch (p :: row.toList) w _ := (ht1.mono (fun k hk _ => List.mem_cons_of_mem _ hk)).setCell (p := ⟨p, 0, none⟩) (.inl (by simp)) (.slice A m c)
    have Hb2 := Lib.hid hb2
    have Hr3 := Lib.hid hr3
    have Ht3 := Lib.hid ht3
    clear hb1 hc0 ho hr1 ht1 hr2 hb2 hr3 ht3
    go_wp2_with fail
    refine (down_row _ ((swapL L i m).take m) row i (by rw [Hlen.out]; omega) (by rw [Hlen.out]; exact him) Hfin.out _ Hr3.out).mono ?_
    rintro e w4 ⟨rfl, M4, hu4, hp4, hr4, ht4⟩
    have hb4 := Hb2.out.touch ht4 (notin_row Hpr.out)
    have hc4 : w4.cell? ⟨p, 0, none⟩ = some (.slice A m c) := hb4.cell 0
    have hl4 : M4.length = m := hp4.length_eq.trans Hlen.out
    have Hb4 := Lib.hid hb4
    have Hl4 := Lib.hid hl4
    have Hu4 := Lib.hid hu4
    have Hp4 := Lib.hid hp4
    have Hr4 := Lib.hid hr4
    have Ht4 := Lib.hid ht4
    clear hb4 hl4 hu4 hp4 hr4 ht4
    go_wp2_with fail
    refine (up_row _ M4 row i (by rw [Hl4.out]; omega) (by rw [Hl4.out]; exact him) Hu4.out _ Hr4.out).mono ?_
    rintro e w5 ⟨rfl, M5, hh5, hp5, hr5, ht5⟩
    have Hb5 := Lib.hid (Hb4.out.touch ht5 (notin_row Hpr.out))
    have Hl5 := Lib.hid (hp5.length_eq.trans Hl4.out)
    have Hh5 := Lib.hid hh5
    have Hp5 := Lib.hid hp5
    have Hr5 := Lib.hid hr5
    have Ht5 := Lib.hid ht5
    clear hh5 hp5 hr5 ht5
    go_wp2_with fail
    go_end0
    refine ⟨rfl, M5, Hh5.out, (Hp5.out.trans Hp4.out).trans Hperm.out, ⟨A, c, ?_, ?_⟩, (Ht3.out.trans (Ht4.out.mono (fun k hk _ => List.mem_cons_of_mem _ hk))).trans (Ht5.out.mono (fun k hk _ => List.mem_cons_of_mem _ hk))⟩
    · rw [Hl5.out]; exact Hb5.out
    · rw [Hl5.out]; exact Hr5.out
/-! Find -/
/-- The place of an id, or how many there are. -/
def placeA (L : List Al) (id : Int) : Nat := L.findIdx (fun a => a.2 == id)
theorem placeA_eq {L : List Al} {id : Int} {k : Nat} (hk : k < L.length) (h : (atA L k).2 = id) (hb : ∀ j, j < k → (atA L j).2 ≠ id) : placeA L id = k := by
  unfold placeA
  rw [List.findIdx_eq hk]
  refine ⟨by rw [← atA_get hk]; simpa using h, fun j hj => ?_⟩
  have := hb j hj
  rw [atA_get (by omega)] at this
  simpa using this
theorem placeA_none {L : List Al} {id : Int} (hb : ∀ j, j < L.length → (atA L j).2 ≠ id) : placeA L id = L.length := by
  unfold placeA
  rw [List.findIdx_eq_length]
  intro a ha
  obtain ⟨j, hj, rfl⟩ := List.getElem_of_mem ha
  have := hb j hj
  rw [atA_get hj] at this
  simpa using this
def findA (L : List Al) (id : Int) : Int := if placeA L id < L.length then placeA L id else -1
set_option maxRecDepth 100000 in
set_option maxHeartbeats 1000000 in
theorem find1_any (a : Al) (q : Nat) (id : Int) (w : World) (hq : Blk w q 3 #[.int .i64 id]) :
    Calls Try.prog 46 #[.agg #[.int .u64 a.1, .int .i64 a.2], .pointer (some ⟨q, 0, none⟩)] w fun e w' => e = .returned (.bool (a.2 == id)) ∧ Touch [] w w' := by
  obtain ⟨x, y⟩ := a
  have hc : ∀ o, (w.alloc o).cell? ⟨q, 0, none⟩ = some (.int .i64 id) := fun o => (hq.alloc o).cell 0
  clear hq
  go_enter Try.func46, Try.ntmps46
  go_wp2_with fail
  go_ret
  exact ⟨rfl, ((Touch.refl [] w).alloc _)⟩
set_option maxRecDepth 100000 in
set_option maxHeartbeats 1000000 in
theorem index_any (v : Value) (L : List Al) (row : Option Nat) (q : Nat) (id : Int) (hn : L.length ≤ 100000) (w : World) (h : RowAt w v L row) (hq : Blk w q 3 #[.int .i64 id]) :
    Calls Try.prog 45 #[v, .func (.func 46) #[] #[.pointer (some ⟨q, 0, none⟩)]] w fun e w' => e = .returned (.int .i64 (findA L id)) ∧ Touch [] w w' := by
  obtain ⟨A, c, hv, hnc⟩ := h.shape
  subst hv
  have HR := Lib.hid h
  have HQ := Lib.hid hq
  clear h hq
  go_enter Try.func45, Try.ntmps45
  go_wp2_with fail
  go_loopw [8] (fun vk wr => ∃ (k : Nat), vk = .int .i64 k ∧ k ≤ L.length ∧ (∀ j, j < k → (atA L j).2 ≠ id) ∧ Touch [] w wr) (fun vk _ => L.length - (intOf vk).toNat)
  case atStart => exact ⟨0, rfl, by omega, fun _ h => by omega, Touch.refl _ _⟩
  case round =>
    obtain ⟨k, rfl, hk, hno, ht⟩ := hrel
    have Hno := Lib.hid hno
    have hr := HR.out.touch ht (by simp)
    have hqq := HQ.out.touch ht (by simp)
    have Ht := Lib.hid ht
    have Hqq := Lib.hid hqq
    clear hno hqq ht
    by_cases hlt : k < L.length
    · obtain ⟨g, off, c', cur, hv, hrow, hb, hc0, hnc, hcm, hcs, hx⟩ := hr.at_ (by omega)
      injection hv with hA _ hcc
      subst hA; subst hcc
      obtain ⟨h1, h2⟩ := cellsA_at L k hlt
      have c1 := (hb.cell _).trans (hx _ _ h1)
      have c2 : wr.cell? ⟨g, off + k * 2 + 1, none⟩ = _ := (hb.cell _).trans (hx _ _ h2)
      clear hrow hb hx h1 h2 hr
      obtain ⟨x, hxe⟩ : ∃ x, x = atA L k := ⟨_, rfl⟩
      rw [← hxe] at c1 c2
      have Hxe := Lib.hid hxe
      clear hxe
      go_wp2_with fail
      refine (find1_any x q id wr Hqq.out).mono ?_
      rintro e w2 ⟨rfl, ht2⟩
      have Ht2 := Lib.hid ht2
      clear ht2 c1 c2 hc0 hcm hcs
      by_cases hid : x.2 = id
      · have hb1 : (x.2 == id) = true := beq_iff_eq.2 hid
        have Hid' := Lib.hid hid
        clear hid
        go_wp2_with fail
        go_ret
        have hp : placeA L id = k := placeA_eq hlt (by rw [← Hxe.out]; exact Hid'.out) Hno.out
        refine ⟨ret_int ?_, Ht.out.trans Ht2.out⟩
        unfold findA
        rw [hp, if_pos hlt]
      · have hb1 : (x.2 == id) = false := beq_false_of_ne hid
        have Hid' := Lib.hid hid
        clear hid
        go_wp2_with fail
        go_roundw
        case rel => exact ⟨k + 1, by go_num, by omega, fun j hj => (by
          by_cases hjk : j = k
          · rw [hjk, ← Hxe.out]; exact Hid'.out
          · exact Hno.out j (by omega)), Ht.out.trans Ht2.out⟩
        case measure => simp [intOf]; omega
    · obtain rfl : k = L.length := by omega
      clear hr
      go_wp2_with fail
      go_ret
      refine ⟨ret_int ?_, Ht.out⟩
      unfold findA
      rw [placeA_none Hno.out, if_neg (by omega)]
set_option maxRecDepth 100000 in
set_option maxHeartbeats 1000000 in
theorem find_any (p : Nat) (L : List Al) (most : Int) (row : Option Nat) (id : Int) (hn : L.length ≤ 100000) (w : World) (h : HAt w p L most row) :
    Calls Try.prog 39 #[.pointer (some ⟨p, 0, none⟩), .int .i64 id] w fun e w' => e = .returned (.int .i64 (findA L id)) ∧ Touch [] w w' := by
  obtain ⟨A, c, hb, ho⟩ := h
  have hc0 : ∀ o, (w.alloc o).cell? ⟨p, 0, none⟩ = some (.slice A L.length c) := fun o => (hb.alloc o).cell 0
  have Ho := Lib.hid ho
  clear hb ho
  go_enter Try.func39, Try.ntmps39
  go_wp2_with fail
  refine (index_any _ L row w.heap.size id hn _ (Own.alloc Ho.out _) (Blk.new _ _ _)).mono ?_
  rintro e w2 ⟨rfl, ht2⟩
  have Ht2 := Lib.hid ht2
  clear ht2 hc0
  go_wp2_with fail
  go_ret
  exact ⟨rfl, ((Touch.refl [] w).alloc _).trans Ht2.out⟩
/-! Ord -/
def hasA (S : List Al) (id : Int) : Bool := S.any (fun a => a.2 == id)
def insS (S : List Al) (a : Al) : List Al := S.takeWhile (fun b => decide (ltA b a)) ++ a :: S.dropWhile (fun b => decide (ltA b a))
def dropS (S : List Al) (id : Int) : List Al := S.filter (fun a => !(a.2 == id))
def goneS (S : List Al) (now : Int) : List Al := S.filter (fun a => decide (a.1 ≤ now))
def leftS (S : List Al) (now : Int) : List Al := S.filter (fun a => decide (now < a.1))
theorem ltA_trans {a b c : Al} (h : ltA a b) (k : ltA b c) : ltA a c := by unfold ltA at *; omega
theorem ltA_of_not {a b : Al} (h : ¬ ltA a b) (hne : a.2 ≠ b.2) : ltA b a := by unfold ltA at *; omega
structure SOk (S : List Al) : Prop where
  sorted : S.Pairwise ltA
  ids : (S.map Prod.snd).Nodup
theorem hasA_iff (S : List Al) (id : Int) : hasA S id = true ↔ id ∈ S.map Prod.snd := by
  unfold hasA
  rw [List.any_eq_true, List.mem_map]
  exact ⟨fun ⟨a, h1, h2⟩ => ⟨a, h1, beq_iff_eq.1 h2⟩, fun ⟨a, h1, h2⟩ => ⟨a, h1, beq_iff_eq.2 h2⟩⟩
theorem hasA_no {S : List Al} {id : Int} : hasA S id = false ↔ id ∉ S.map Prod.snd := by
  rw [← hasA_iff, Bool.not_eq_true]
theorem hasA_perm {S T : List Al} (h : S.Perm T) (id : Int) : hasA S id = hasA T id := by
  have := (h.map Prod.snd).mem_iff (a := id)
  rw [← hasA_iff, ← hasA_iff] at this
  cases h1 : hasA S id <;> cases h2 : hasA T id <;> simp_all
theorem insS_cons (b : Al) (S : List Al) (a : Al) : insS (b :: S) a = if ltA b a then b :: insS S a else a :: b :: S := by
  unfold insS
  by_cases h : ltA b a <;> simp [h]
theorem insS_perm (S : List Al) (a : Al) : (insS S a).Perm (a :: S) := by
  unfold insS
  exact List.perm_middle.trans (by rw [List.takeWhile_append_dropWhile])
theorem insS_sorted {S : List Al} {a : Al} (h : S.Pairwise ltA) (hn : a.2 ∉ S.map Prod.snd) : (insS S a).Pairwise ltA := by
  induction S with
  | nil => simp [insS]
  | cons b S ih =>
    rw [List.map_cons, List.mem_cons, not_or] at hn
    obtain ⟨h1, h2⟩ := List.pairwise_cons.1 h
    rw [insS_cons]
    by_cases hb : ltA b a
    · rw [if_pos hb]
      refine List.pairwise_cons.2 ⟨fun c hc => ?_, ih h2 hn.2⟩
      rcases List.mem_cons.1 ((insS_perm S a).mem_iff.1 hc) with rfl | hc
      · exact hb
      · exact h1 c hc
    · rw [if_neg hb]
      have hab : ltA a b := ltA_of_not hb (Ne.symm hn.1)
      refine List.pairwise_cons.2 ⟨fun c hc => ?_, h⟩
      rcases List.mem_cons.1 hc with rfl | hc
      · exact hab
      · exact ltA_trans hab (h1 c hc)
theorem SOk.nil : SOk [] := ⟨.nil, .nil⟩
theorem SOk.ins {S : List Al} {a : Al} (h : SOk S) (hn : hasA S a.2 = false) : SOk (insS S a) := by
  have hn := hasA_no.1 hn
  refine ⟨insS_sorted h.sorted hn, ((insS_perm S a).map Prod.snd).nodup_iff.2 ?_⟩
  rw [List.map_cons]
  exact List.nodup_cons.2 ⟨hn, h.ids⟩
theorem SOk.sub {S T : List Al} (h : SOk S) (ht : T.Sublist S) : SOk T := ⟨h.sorted.sublist ht, h.ids.sublist (ht.map _)⟩
theorem SOk.drop {S : List Al} (h : SOk S) (id : Int) : SOk (dropS S id) := h.sub List.filter_sublist
theorem SOk.left {S : List Al} (h : SOk S) (now : Int) : SOk (leftS S now) := h.sub List.filter_sublist
theorem insS_len (S : List Al) (a : Al) : (insS S a).length = S.length + 1 := by rw [(insS_perm S a).length_eq]; rfl
theorem dropS_len (S : List Al) (id : Int) : (dropS S id).length ≤ S.length := List.length_filter_le _ _
theorem leftS_len (S : List Al) (now : Int) : (leftS S now).length ≤ S.length := List.length_filter_le _ _
/-- What was popped so far, and what still is there. -/
theorem parted {S D T : List Al} {now : Int} (h : S = D ++ T) (hd : ∀ a ∈ D, a.1 ≤ now) (ht : ∀ a ∈ T, now < a.1) : goneS S now = D ∧ leftS S now = T := by
  subst h
  constructor
  · unfold goneS
    rw [List.filter_append, List.filter_eq_self.2 (fun a ha => by simpa using hd a ha), List.filter_eq_nil_iff.2 (fun a ha => by simpa using ht a ha), List.append_nil]
  · unfold leftS
    rw [List.filter_append, List.filter_eq_nil_iff.2 (fun a ha => by simpa using hd a ha), List.filter_eq_self.2 (fun a ha => by simpa using ht a ha), List.nil_append]
/-- The head of what stands in order is the head of the heap. -/
theorem heap_head {M S : List Al} {a : Al} (hh : HeapOk M) (hp : M.Perm (a :: S)) (hs : (a :: S).Pairwise ltA) : 0 < M.length ∧ atA M 0 = a ∧ (M.eraseIdx 0).Perm S := by
  have hlen : M.length = S.length + 1 := hp.length_eq
  obtain ⟨m, M', rfl⟩ : ∃ m M', M = m :: M' := by
    cases M with
    | nil => simp at hlen
    | cons m M' => exact ⟨m, M', rfl⟩
  obtain ⟨h1, h2⟩ := List.pairwise_cons.1 hs
  have hma : m = a := by
    have e0 : atA (m :: M') 0 = m := rfl
    rcases List.mem_cons.1 (hp.mem_iff.1 (List.mem_cons_self (a := m) (l := M'))) with e | hm
    · exact e
    · have hlt := h1 m hm
      obtain ⟨j, hj, hja⟩ := List.getElem_of_mem (hp.mem_iff.2 (List.mem_cons_self (a := a) (l := S)))
      have hle := hh.min j hj
      rw [atA_get hj, hja, e0] at hle
      exact absurd hlt hle
  subst hma
  exact ⟨by simp, rfl, (List.perm_cons m).1 hp⟩
theorem erase_place {M : List Al} {id : Int} (h : (M.map Prod.snd).Nodup) : M.eraseIdx (placeA M id) = dropS M id := by
  induction M with
  | nil => rfl
  | cons a M ih =>
    rw [List.map_cons] at h
    obtain ⟨h1, h2⟩ := List.nodup_cons.1 h
    by_cases ha : a.2 = id
    · have e1 : placeA (a :: M) id = 0 := by simp [placeA, List.findIdx_cons, ha]
      have e2 : dropS (a :: M) id = dropS M id := by simp [dropS, ha]
      rw [e1, e2, List.eraseIdx_cons_zero]
      symm
      unfold dropS
      rw [List.filter_eq_self]
      intro b hb
      have : b.2 ≠ id := fun e => h1 (List.mem_map.2 ⟨b, hb, by rw [e, ha]⟩)
      simpa using this
    · have e1 : placeA (a :: M) id = placeA M id + 1 := by
        unfold placeA
        rw [List.findIdx_cons, beq_false_of_ne ha]; rfl
      have e2 : dropS (a :: M) id = a :: dropS M id := by simp [dropS, ha]
      rw [e1, e2, List.eraseIdx_cons_succ, ih h2]
theorem dropS_perm {M S : List Al} (h : M.Perm S) (id : Int) : (dropS M id).Perm (dropS S id) := h.filter _
theorem dropS_none {S : List Al} {id : Int} (h : hasA S id = false) : dropS S id = S := by
  unfold dropS
  rw [List.filter_eq_self]
  intro a ha
  have : a.2 ≠ id := fun e => hasA_no.1 h (List.mem_map.2 ⟨a, ha, e⟩)
  simpa using this
theorem findA_yes {M : List Al} {id : Int} (h : hasA M id = true) : placeA M id < M.length ∧ findA M id = placeA M id := by
  have hl : placeA M id < M.length := by
    unfold placeA
    rw [List.findIdx_lt_length]
    obtain ⟨a, h1, h2⟩ := List.mem_map.1 ((hasA_iff M id).1 h)
    exact ⟨a, h1, beq_iff_eq.2 h2⟩
  exact ⟨hl, by unfold findA; rw [if_pos hl]⟩
theorem findA_no {M : List Al} {id : Int} (h : hasA M id = false) : findA M id = -1 := by
  have hn := hasA_no.1 h
  have : placeA M id = M.length := placeA_none fun j hj e => hn (List.mem_map.2 ⟨_, (by rw [atA_get hj]; exact List.getElem_mem hj), e⟩)
  unfold findA
  rw [this, if_neg (by omega)]
/-! Timer -/
theorem info_parts {P : Program} {t : TypeId} {z : Value} {n b : Nat} (h : (P.info? t).map (fun i => (i.zero, i.size, i.bytes)) = some (some z, n, b)) :
    ∃ i, P.info? t = some i ∧ i.zero = some z ∧ i.size = n ∧ i.bytes = b := by
  cases hi : P.info? t with
  | none => rw [hi] at h; cases h
  | some i => rw [hi] at h; simp at h; exact ⟨i, rfl, h.1, h.2.1, h.2.2⟩
theorem wrap_len (n : Nat) (h : n ≤ 100000) : IntKind.i64.wrap (n : Int) = n := by simp [IntKind.wrap, IntKind.signed, IntKind.bits]; omega
theorem infoAl : (Try.prog.info? 85).map (fun i => (i.zero, i.size, i.bytes)) = some (some (.agg #[.int .u64 0, .int .i64 0]), 2, 16) := by kernel_rfl
theorem infoInt : (Try.prog.info? 3).map (fun i => (i.zero, i.size, i.bytes)) = some (some (.int .i64 0), 1, 8) := by kernel_rfl
theorem cellsA_one {L : List Al} : ∀ u ∈ cellsA L, u.oneCell' = true := by
  intro u hu
  unfold cellsA at hu
  rw [List.mem_flatMap] at hu
  obtain ⟨a, _, ha⟩ := hu
  simp at ha
  rcases ha with rfl | rfl <;> rfl
theorem cellsA_snoc (L : List Al) (a : Al) : cellsA (L ++ [a]) = cellsA L ++ [.int .u64 a.1, .int .i64 a.2] := by simp [cellsA]
def cellsI (L : List Int) : List Value := L.map (.int .i64)
/-- One alarm that was just laid. -/
theorem Src.al {P : Program} {tx e' : TypeId} (hk : P.underlying tx = some (.slice e')) (w : World) (t : TypeId) (x y : Int) :
    Src P 2 tx (.slice (some ⟨w.heap.size, 0, none⟩) 1 1) 1 [.int .u64 x, .int .i64 y] (w.alloc (.cells #[.int .u64 x, .int .i64 y] t)) :=
  Src.ofSlice _ hk ⟨w.heap.size, 0, none⟩ 1 1 _ rfl (fun j u hj => by
    match j, hj with
    | 0, hj => simp at hj; subst hj; exact (Blk.new w _ _).cell 0
    | 1, hj => simp at hj; subst hj; exact (Blk.new w _ _).cell 1) (fun u hu => by simp at hu; rcases hu with rfl | rfl <;> rfl)
/-- What was written to a new row is new. -/
theorem Touch.trans_new {w w1 w2 : World} {p : Nat} {row row' : Option Nat} (h : Touch (p :: row.toList) w w1) (k : Touch row'.toList w1 w2) (hn : NewRow w row row') : Touch (p :: row.toList) w w2 :=
  ⟨k.os.trans h.os, k.tape.trans h.tape, k.output.trans h.output, Nat.le_trans h.size k.size, fun i hi hni => by
    refine (k.block i (Nat.lt_of_lt_of_le hi h.size) (fun hm => ?_)).trans (h.block i hi hni)
    rcases newRow_foot hn i hm with h' | h'
    · exact hni (List.mem_cons_of_mem _ h')
    · omega⟩
def STAt (w : World) (p : Nat) (S : List Al) (most : Int) (row : Option Nat) : Prop := ∃ M, HAt w p M most row ∧ HeapOk M ∧ M.Perm S
def TDid (w : World) (p : Nat) (row : Option Nat) (S : List Al) (most : Int) (v : Value) (e : Ending) (w' : World) : Prop :=
  ∃ row', e = .returned v ∧ STAt w' p S most row' ∧ Touch (p :: row.toList) w w' ∧ NewRow w row row'
theorem STAt.touch {w w' : World} {p : Nat} {S : List Al} {most : Int} {row : Option Nat} {T : List Nat} (h : STAt w p S most row) (ht : Touch T w w')
    (hp : p ∉ T) (hr : ∀ g, row = some g → g ∉ T) : STAt w' p S most row := by
  obtain ⟨M, h1, h2, h3⟩ := h
  exact ⟨M, h1.touch ht hp hr, h2, h3⟩
theorem STAt.drewN {w : World} {p : Nat} {S : List Al} {most : Int} {row : Option Nat} (h : STAt w p S most row) (n : Nat) : STAt (w.drewN n) p S most row := h
theorem timerNew_bad (m : Int) (w : World) (h : m < 1 ∨ 10000 < m) :
    Calls Try.prog 27 #[.int .i64 m] w fun e w' => e = .returned (.tuple #[.pointer none, .int .i64 1]) ∧ w = w' := by
  by_cases h1 : m < 1
  · go_enter Try.func27, Try.ntmps27
    go_wp2
    go_ret2
    exact ⟨rfl, rfl⟩
  · have h2 : 10000 < m := by omega
    go_enter Try.func27, Try.ntmps27
    go_wp2
    go_ret2
    exact ⟨rfl, rfl⟩
theorem timerNew_ok (m : Int) (w : World) (h1 : 1 ≤ m) (h2 : m ≤ 10000) :
    Calls Try.prog 27 #[.int .i64 m] w fun e w' => e = .returned (.tuple #[.pointer (some ⟨w.heap.size, 0, none⟩), .int .i64 0]) ∧ w.alloc (.cells #[.slice none 0 0, .int .i64 m] 82) = w' := by
  have h1' : ¬ m < 1 := by omega
  have h2' : ¬ 10000 < m := by omega
  go_enter Try.func27, Try.ntmps27
  go_wp2
  go_ret2
  exact ⟨rfl, rfl⟩
theorem STAt.new (w : World) (m : Int) : STAt (w.alloc (.cells #[.slice none 0 0, .int .i64 m] 82)) w.heap.size [] m none :=
  ⟨[], ⟨none, 0, Blk.new w _ _, Own.nil _ _ _ _⟩, fun j _ h => by simp at h, .refl _⟩
/-- What Set answers, and what there is behind it. -/
def setCode (S : List Al) (most : Int) (id : Int) : Int := if hasA S id then 6 else if most ≤ S.length then 8 else 0
def setS (S : List Al) (most : Int) (id at_ : Int) : List Al := if hasA S id then S else if most ≤ S.length then S else insS S (at_, id)
theorem setS_ok {S : List Al} (h : SOk S) (most id at_ : Int) : SOk (setS S most id at_) := by
  unfold setS
  split
  · exact h
  · rename_i h1
    split
    · exact h
    · exact h.ins (by simpa using h1)
def dropCode (S : List Al) (id : Int) : Int := if hasA S id then 0 else 5
set_option maxRecDepth 100000 in
set_option maxHeartbeats 2000000 in
theorem set_any (p : Nat) (S : List Al) (most : Int) (row : Option Nat) (id at_ : Int) (w : World) (h : STAt w p S most row) (hlen : S.length ≤ 10000) :
    Calls Try.prog 28 #[.pointer (some ⟨p, 0, none⟩), .int .i64 id, .int .u64 at_] w (TDid w p row (setS S most id at_) most (.int .i64 (setCode S most id))) := by
  obtain ⟨M, hh, hok, hp⟩ := h
  have hml : M.length = S.length := hp.length_eq
  have Hml := Lib.hid hml
  have Hh := Lib.hid hh
  have Hok := Lib.hid hok
  have Hp := Lib.hid hp
  have hmn : M.length ≤ 10000 := by omega
  clear hml hok hp
  cases hs : hasA S id with
  | true =>
    have hM : hasA M id = true := (hasA_perm Hp.out id).trans hs
    obtain ⟨k, hk⟩ : ∃ k : Nat, placeA M id = k := ⟨_, rfl⟩
    have hf := (findA_yes hM).2
    rw [hk] at hf
    have Hf := Lib.hid hf
    have e1 : setS S most id at_ = S := by unfold setS; rw [if_pos hs]
    have e2 : setCode S most id = 6 := by unfold setCode; rw [if_pos hs]
    rw [e1, e2]
    clear hM hk hf e1 e2 hs
    go_enter Try.func28, Try.ntmps28
    go_wp2_with fail
    refine (find_any p M most row id (by omega) w hh).mono ?_
    rintro e w1 ⟨rfl, ht1⟩
    rw [Hf.out]
    have Ht1 := Lib.hid ht1
    clear ht1 hh
    go_wp2_with fail
    go_ret
    exact ⟨row, rfl, ⟨M, Hh.out.touch Ht1.out (by simp) (by simp), Hok.out, Hp.out⟩, Ht1.out.mono (fun _ h => by simp at h), .refl _ _⟩
  | false =>
    have hM : hasA M id = false := (hasA_perm Hp.out id).trans hs
    have Hs := Lib.hid hs
    have Hf := Lib.hid (findA_no hM)
    clear hM hs
    obtain ⟨A, c, hb, ho⟩ := hh
    by_cases hfull : most ≤ M.length
    · have e1 : setS S most id at_ = S := by unfold setS; rw [Hs.out, if_neg (by simp), if_pos (by rw [← Hml.out]; exact hfull)]
      have e2 : setCode S most id = 8 := by unfold setCode; rw [Hs.out, if_neg (by simp), if_pos (by rw [← Hml.out]; exact hfull)]
      rw [e1, e2]
      clear e1 e2
      go_enter Try.func28, Try.ntmps28
      go_wp2_with fail
      refine (find_any p M most row id (by omega) w Hh.out).mono ?_
      rintro e w1 ⟨rfl, ht1⟩
      rw [Hf.out]
      have hb1 := hb.touch ht1 (by simp)
      have hc0 : w1.cell? ⟨p, 0, none⟩ = some (.slice A M.length c) := hb1.cell 0
      have hc1 : w1.cell? ⟨p, 1, none⟩ = some (.int .i64 most) := hb1.cell 1
      have Ht1 := Lib.hid ht1
      clear ht1 hb ho hb1
      go_wp2_with fail
      go_quiet (fail)
      go_wp2_with fail
      go_ret
      have hfin : STAt w1 p S most row := ⟨M, Hh.out.touch Ht1.out (by simp) (by simp), Hok.out, Hp.out⟩
      exact ⟨row, rfl, hfin.drewN _, (Ht1.out.mono (fun _ h => by simp at h)).drewN _, .refl _ _⟩
    · have e1 : setS S most id at_ = insS S (at_, id) := by unfold setS; rw [Hs.out, if_neg (by simp), if_neg (by rw [← Hml.out]; exact hfull)]
      have e2 : setCode S most id = 0 := by unfold setCode; rw [Hs.out, if_neg (by simp), if_neg (by rw [← Hml.out]; exact hfull)]
      rw [e1, e2]
      clear e1 e2
      obtain ⟨i0, hi0, hz0, hz1, hz2⟩ := info_parts infoAl
      go_enter Try.func28, Try.ntmps28
      go_wp2_with fail
      refine (find_any p M most row id (by omega) w Hh.out).mono ?_
      rintro e w1 ⟨rfl, ht1⟩
      rw [Hf.out]
      have hb1 := hb.touch ht1 (by simp)
      have ho1 : RowAt w1 _ _ _ := Own.touch ho ht1 (by simp)
      have hc0 : w1.cell? ⟨p, 0, none⟩ = some (.slice A M.length c) := hb1.cell 0
      have hc1 : w1.cell? ⟨p, 1, none⟩ = some (.int .i64 most) := hb1.cell 1
      have Ht1 := Lib.hid ht1
      have Hb1 := Lib.hid hb1
      have Ho1 := Lib.hid ho1
      clear ht1 hb ho hb1 ho1
      go_wp2_with fail
      go_quiet (fail)
      go_wp2_with (at_builtin; refine wpList_append_Own _ rfl (.tmp 27) (.tmp 31) 80 80 rfl 85 i0 _ 2 16 Try.underlying80 hi0 hz0 hz1 hz2 rfl _ M.length (cellsA M) row rfl ((Ho1.out.drewN _).alloc _) _ 1 _ rfl (Src.al Try.underlying80 (w1.drewN _) _ at_ id) (by unfold maxLen; omega) (by omega) ?_)
      intro v' w2 row' hown' ht2 hrow2
      obtain ⟨A', c', rfl, _⟩ := hown'.shape
      have hb2 : Blk w2 p 82 #[.slice A M.length c, .int .i64 most] := ((Hb1.out.drewN _).alloc _).touch ht2 (notin_row (Own.ne_ Ho1.out Hb1.out (by decide)))
      have hc2 : w2.cell? ⟨p, 0, none⟩ = some (.slice A M.length c) := hb2.cell 0
      have hf2 : w2.frozen? ⟨p, 0, none⟩ = false := hb2.frozen 0
      have hb3 := hb2.set_ 0 (.slice A' (M.length + 1) c')
      have ho3 : Own (w2.setCell ⟨p, 0, none⟩ (.slice A' (M.length + 1) c')) 85 2 (.slice A' (M.length + 1) c') (M.length + 1) (cellsA M ++ [.int .u64 at_, .int .i64 id]) row' := hown'.far (a := ⟨p, 0, none⟩) (hown'.ne_ hb2 (by decide)) _
      have hlen3 : (M ++ [(at_, id)]).length = M.length + 1 := by simp
      have hr3 : RowAt (w2.setCell ⟨p, 0, none⟩ (.slice A' (M.length + 1) c')) (.slice A' (M.length + 1) c') (M ++ [(at_, id)]) row' := by
        unfold RowAt
        rw [hlen3, cellsA_snoc]
        exact ho3
      have ht3 : Touch (p :: row.toList) w (w2.setCell ⟨p, 0, none⟩ (.slice A' (M.length + 1) c')) := ((((Ht1.out.mono (T := p :: row.toList) (fun _ h => by simp at h)).drewN nq).alloc _).trans (ht2.mono (fun k hk _ => List.mem_cons_of_mem _ hk))).setCell (p := ⟨p, 0, none⟩) (.inl (by simp)) _
      have hrow3 : NewRow w row row' := hrow2.before (by have := Ht1.out.size; simp; omega)
      have Hb3 := Lib.hid hb3
      have Hr3 := Lib.hid hr3
      have Ht3 := Lib.hid ht3
      have Hrow3 := Lib.hid hrow3
      have Hlen3 := Lib.hid hlen3
      clear hc0 hc1 hb2 hb3 ho3 hr3 ht3 hrow3 hlen3 hown' ht2 hrow2 Hb1 Ho1
      go_wp2_with fail
      obtain ⟨w3, hw3⟩ : ∃ w3, w3 = w2.setCell ⟨p, 0, none⟩ (.slice A' (M.length + 1) c') := ⟨_, rfl⟩
      rw [← hw3]
      have hb4 : Blk w3 p 82 #[.slice A' (M.length + 1) c', .int .i64 most] := by rw [hw3]; exact Hb3.out
      have Hr4 : Hid (RowAt w3 (.slice A' (M.length + 1) c') (M ++ [(at_, id)]) row') := by rw [hw3]; exact Hr3
      have Ht4 : Hid (Touch (p :: row.toList) w w3) := by rw [hw3]; exact Ht3
      have hc4 : w3.cell? ⟨p, 0, none⟩ = some (.slice A' (M.length + 1) c') := hb4.cell 0
      have Hb4 := Lib.hid hb4
      clear hc2 hf2 hw3 Hb3 Hr3 Ht3 hb4
      have Hpr := Lib.hid (Own.ne_ Hr4.out Hb4.out (by decide))
      go_region_held3 (fun W => W.cell? ⟨p, 0, none⟩ = some (.slice A' (M.length + 1) c'))
        (first | go_keep | exact ((Hb4.out.drew.touch H4.out (notin_row Hpr.out)).cell 0))
        (first | (go_at_call 40; rw [wrap_len M.length (by omega)]; refine (up_row _ (M ++ [(at_, id)]) row' M.length (by rw [Hlen3.out]; omega) (by rw [Hlen3.out]; omega) (Hok.out.push _) _ (Own.drew Hr4.out)).mono ?_; rintro e w5 ⟨rfl, M5, h1, h2, h3, h4⟩; have H1 := Lib.hid h1; have H2 := Lib.hid h2; have H3 := Lib.hid h3; have H4 := Lib.hid h4; clear h1 h2 h3 h4))
      go_wp2_with fail
      go_ret
      have hl5 : M5.length = M.length + 1 := H2.out.length_eq.trans Hlen3.out
      refine ⟨row', rfl, ⟨M5, ⟨A', c', ?_, ?_⟩, H1.out, ?_⟩, ?_, Hrow3.out⟩
      · rw [hl5]; exact Hb4.out.drew.touch H4.out (notin_row Hpr.out)
      · rw [hl5]; exact H3.out
      · exact (H2.out.trans (List.perm_append_singleton _ _)).trans (((List.perm_cons _).2 Hp.out).trans (insS_perm _ _).symm)
      · exact Touch.trans_new Ht4.out.drew H4.out Hrow3.out
/-! Timer2 -/
set_option maxRecDepth 100000 in
set_option maxHeartbeats 1000000 in
theorem drop_any (p : Nat) (S : List Al) (most : Int) (row : Option Nat) (id : Int) (w : World) (h : STAt w p S most row) (hok : SOk S) (hlen : S.length ≤ 10000) :
    Calls Try.prog 31 #[.pointer (some ⟨p, 0, none⟩), .int .i64 id] w (TDid w p row (dropS S id) most (.int .i64 (dropCode S id))) := by
  obtain ⟨M, hh, hheap, hp⟩ := h
  have hml : M.length = S.length := hp.length_eq
  have hmn : M.length ≤ 10000 := by omega
  have Hh := Lib.hid hh
  have Hheap := Lib.hid hheap
  have Hp := Lib.hid hp
  clear hml hheap hp
  cases hs : hasA S id with
  | false =>
    have hM : hasA M id = false := (hasA_perm Hp.out id).trans hs
    have Hf := Lib.hid (findA_no hM)
    have e2 : dropCode S id = 5 := by unfold dropCode; rw [hs]; rfl
    rw [dropS_none hs, e2]
    clear hM hs e2
    go_enter Try.func31, Try.ntmps31
    go_wp2_with fail
    refine (find_any p M most row id (by omega) w hh).mono ?_
    rintro e w1 ⟨rfl, ht1⟩
    rw [Hf.out]
    have Ht1 := Lib.hid ht1
    clear ht1 hh
    go_wp2_with fail
    go_ret
    exact ⟨row, rfl, ⟨M, Hh.out.touch Ht1.out (by simp) (by simp), Hheap.out, Hp.out⟩, Ht1.out.mono (fun _ h => by simp at h), .refl _ _⟩
  | true =>
    have hM : hasA M id = true := (hasA_perm Hp.out id).trans hs
    obtain ⟨k, hk⟩ : ∃ k : Nat, placeA M id = k := ⟨_, rfl⟩
    obtain ⟨hkl, hf⟩ := findA_yes hM
    have hids : (M.map Prod.snd).Nodup := (Hp.out.map Prod.snd).nodup_iff.2 hok.ids
    have her := erase_place (id := id) hids
    rw [hk] at hf hkl her
    have Hf := Lib.hid hf
    have Her := Lib.hid her
    have e2 : dropCode S id = 0 := by unfold dropCode; rw [hs]; rfl
    rw [e2]
    clear hM hk hf her e2 hs hids hok
    go_enter Try.func31, Try.ntmps31
    go_wp2_with fail
    refine (find_any p M most row id (by omega) w hh).mono ?_
    rintro e w1 ⟨rfl, ht1⟩
    rw [Hf.out]
    have Ht1 := Lib.hid ht1
    clear ht1 hh
    go_wp2_with fail
    refine (remove_any p M most row k (by omega) hkl Hheap.out w1 (Hh.out.touch Ht1.out (by simp) (by simp))).mono ?_
    rintro e w2 ⟨rfl, M2, h1, h2, h3, h4⟩
    have H1 := Lib.hid h1
    have H2 := Lib.hid h2
    have H3 := Lib.hid h3
    have H4 := Lib.hid h4
    clear h1 h2 h3 h4
    go_wp2_with fail
    go_ret
    exact ⟨row, rfl, ⟨M2, H3.out, H1.out, H2.out.trans (Her.out ▸ dropS_perm Hp.out id)⟩, (Ht1.out.mono (fun _ h => by simp at h)).trans H4.out, .refl _ _⟩
theorem len_any (p : Nat) (S : List Al) (most : Int) (row : Option Nat) (w : World) (h : STAt w p S most row) :
    Calls Try.prog 67 #[.pointer (some ⟨p, 0, none⟩)] w fun e w' => e = .returned (.int .i64 S.length) ∧ w = w' := by
  obtain ⟨M, ⟨A, c, hb, ho⟩, hheap, hp⟩ := h
  have hml : M.length = S.length := hp.length_eq
  rw [hml] at hb
  have hc0 : w.cell? ⟨p, 0, none⟩ = some (.slice A S.length c) := hb.cell 0
  clear hb ho hp hml
  go_enter Try.func67, Try.ntmps67
  go_wp2_with fail
  go_ret
  exact ⟨rfl, rfl⟩
/-- A new row of the same alarms. -/
def ClonedA (L : List Al) (w : World) (e : Ending) (w' : World) : Prop :=
  ∃ v row, e = .returned v ∧ RowAt w' v L row ∧ Touch [] w w' ∧ NewRow w none row
set_option maxRecDepth 100000 in
set_option maxHeartbeats 1000000 in
theorem cloneA_any {row : Option Nat} (v : Value) (L : List Al) (w : World) (h : RowAt w v L row) (hlen : L.length ≤ 100000) :
    Calls Try.prog 43 #[v] w (ClonedA L w) := by
  have H := Lib.hid h
  obtain ⟨A, c, rfl, _⟩ := h.shape
  clear h
  obtain ⟨i0, hi0, hz0, hz1, hz2⟩ := info_parts infoAl
  cases A with
  | none =>
    have hnil := fun W : World => Lib.run_eql_slice_nil (P := Try.prog) W 80 85 none L.length c 0 0 Try.underlying80
    go_enter Try.func43, Try.ntmps43
    go_wp2
    go_ret
    have h0 : L.length = 0 := by
      rcases H.out.2 with ⟨_, _, h0, _⟩ | ⟨_, _, _, _, hv, _⟩
      · exact h0
      · injection hv with hv; cases hv
    obtain rfl := List.eq_nil_of_length_eq_zero h0
    exact ⟨_, none, rfl, Own.nil _ _ _ _, Touch.refl _ _, .refl _ _⟩
  | some a =>
    have hnil := fun W : World => Lib.run_eql_slice_nil (P := Try.prog) W 80 85 (some a) L.length c 0 0 Try.underlying80
    go_enter Try.func43, Try.ntmps43
    go_wp2_with (at_builtin; refine wpList_append_Own _ rfl (.tmp 5) (.tmp 6) 80 80 rfl 85 i0 _ 2 16 Try.underlying80 hi0 hz0 hz1 hz2 rfl _ 0 [] none rfl (Own.nil _ _ _ _) _ L.length (cellsA L) rfl ((Own.alloc H.out _).src cellsA_one Try.underlying80) ?c3 ?c4 ?_)
    case c3 => unfold maxLen; omega
    case c4 => omega
    intro v' w1 row' hown' ht hrow
    have Ho := Lib.hid hown'
    have Hrow := Lib.hid hrow
    clear hown' hrow
    go_wp2
    go_ret
    exact ⟨v', row', rfl, Ho.out, ((Touch.refl [] _).alloc _).trans ht, Hrow.out.before (by simp)⟩
/-- A new heap of the same alarms. -/
def TCopied (S : List Al) (most : Int) (w : World) (e : Ending) (w' : World) : Prop :=
  ∃ p' row', e = .returned (.pointer (some ⟨p', 0, none⟩)) ∧ STAt w' p' S most row' ∧ Touch [] w w' ∧ w.heap.size ≤ p' ∧ NewRow w none row'
set_option maxRecDepth 100000 in
set_option maxHeartbeats 1000000 in
theorem copyT_any (p : Nat) (S : List Al) (most : Int) (row : Option Nat) (w : World) (h : STAt w p S most row) (hlen : S.length ≤ 10000) :
    Calls Try.prog 36 #[.pointer (some ⟨p, 0, none⟩)] w (TCopied S most w) := by
  obtain ⟨M, ⟨A, c, hb, ho⟩, hheap, hp⟩ := h
  have hml : M.length = S.length := hp.length_eq
  have hmn : M.length ≤ 10000 := by omega
  have hc0 : w.cell? ⟨p, 0, none⟩ = some (.slice A M.length c) := hb.cell 0
  have hc1 : w.cell? ⟨p, 1, none⟩ = some (.int .i64 most) := hb.cell 1
  have Hb := Lib.hid hb
  have Ho := Lib.hid ho
  have Hheap := Lib.hid hheap
  have Hp := Lib.hid hp
  clear hb ho hheap hp hml
  go_enter Try.func36, Try.ntmps36
  go_wp2_with fail
  go_region_held3 (fun W => W.cell? ⟨p, 0, none⟩ = some (.slice A M.length c) ∧ W.cell? ⟨p, 1, none⟩ = some (.int .i64 most))
    (first | go_keep | exact ⟨(Hb.out.drew.touch H2.out List.not_mem_nil).cell 0, (Hb.out.drew.touch H2.out List.not_mem_nil).cell 1⟩)
    (first | (go_at_call 43; refine (cloneA_any _ M _ (Own.drew Ho.out) (by omega)).mono ?_; rintro e w' ⟨v, row', rfl, h1, h2, h3⟩; obtain ⟨A', c', rfl, _⟩ := h1.shape; have H1 := Lib.hid h1; have H2 := Lib.hid h2; have H3 := Lib.hid h3; clear h1 h2 h3))
  go_wp2
  go_ret
  have ht : Touch [] w w' := (Touch.refl [] w).drew.trans H2.out
  exact ⟨w'.heap.size, row', rfl, ⟨M, ⟨A', c', Blk.new _ _ _, Own.alloc H1.out _⟩, Hheap.out, Hp.out⟩, ht.alloc _, ht.size, H3.out⟩
/-- What Pop leaves: what still is there, and a new list of the ids. -/
def TPopped (p : Nat) (row : Option Nat) (T D : List Al) (most : Int) (w : World) (e : Ending) (w' : World) : Prop :=
  ∃ A c rowo, e = .returned (.slice A D.length c) ∧ STAt w' p T most row ∧ Own w' 3 1 (.slice A D.length c) D.length (cellsI (D.map Prod.snd)) rowo ∧ Touch (p :: row.toList) w w' ∧ NewRow w none rowo
theorem Own.ne_own {w : World} {e e' s s' : Nat} {v v' : Value} {n n' : Nat} {xs xs' : List Value} {row row' : Option Nat} (h : Own w e s v n xs row) (k : Own w e' s' v' n' xs' row') (hne : e ≠ e') : ∀ g, row = some g → g ∉ row'.toList := by
  intro g hg hm
  rw [Option.mem_toList] at hm
  rcases k.2 with ⟨_, _, _, hr⟩ | ⟨g', _, _, _, _, hr, hb, _⟩
  · rw [hr] at hm; cases hm
  · rw [hr] at hm; cases hm
    exact h.ne_ hb hne g hg rfl
theorem Touch.trans_new' {w w1 w2 : World} {S : List Nat} {row' : Option Nat} (h : Touch S w w1) (k : Touch row'.toList w1 w2) (hn : NewRow w none row') : Touch S w w2 :=
  ⟨k.os.trans h.os, k.tape.trans h.tape, k.output.trans h.output, Nat.le_trans h.size k.size, fun i hi hni => by
    refine (k.block i (Nat.lt_of_lt_of_le hi h.size) (fun hm => ?_)).trans (h.block i hi hni)
    rcases hn i (Option.mem_toList.1 hm) with h' | h'
    · cases h'
    · omega⟩
def sliceLen : Value → Nat | .slice _ n _ => n | _ => 0
set_option maxRecDepth 100000 in
set_option maxHeartbeats 2000000 in
theorem pop_any (p : Nat) (S : List Al) (most : Int) (row : Option Nat) (now : Int) (w : World) (h : STAt w p S most row) (hok : SOk S) (hlen : S.length ≤ 10000) :
    Calls Try.prog 29 #[.pointer (some ⟨p, 0, none⟩), .int .u64 now] w (TPopped p row (leftS S now) (goneS S now) most w) := by
  have Hok := Lib.hid hok
  have hlt : p < w.heap.size := by obtain ⟨M, hh, _, _⟩ := h; exact hh.lt
  clear hok
  obtain ⟨i0, hi0, hz0, hz1, hz2⟩ := info_parts infoInt
  go_enter Try.func29, Try.ntmps29
  go_wp2_with fail
  go_loopw [5] (fun vo wr => ∃ (D T : List Al) (A : Option Addr) (c : Nat) (rowo : Option Nat), vo = .slice A D.length c ∧ S = D ++ T ∧ (∀ a ∈ D, a.1 ≤ now) ∧ STAt wr p T most row ∧
    Own wr 3 1 (.slice A D.length c) D.length (cellsI (D.map Prod.snd)) rowo ∧ Touch (p :: row.toList) w wr ∧ NewRow w none rowo) (fun vo _ => S.length - sliceLen vo)
  case atStart => exact ⟨[], S, none, 0, none, rfl, rfl, fun _ h => by simp at h, h, Own.nil _ _ _ _, Touch.refl _ _, .refl _ _⟩
  case round =>
    obtain ⟨D, T, A, c, rowo, rfl, hS, hD, hst, hown, ht, hrow⟩ := hrel
    have hTs : T.Pairwise ltA := (Hok.out.sub (by rw [hS]; exact List.sublist_append_right D T)).sorted
    have hdl : D.length + T.length = S.length := by rw [hS, List.length_append]
    obtain ⟨M, ⟨A1, c1, hb, ho⟩, hheap, hp⟩ := hst
    have HS := Lib.hid hS
    have HD := Lib.hid hD
    have Hown := Lib.hid hown
    have Ht := Lib.hid ht
    have Hrow := Lib.hid hrow
    have Hdl := Lib.hid hdl
    have hdn : D.length ≤ 10000 := by omega
    clear hS hD hown ht hrow hdl h
    cases T with
    | nil =>
      obtain rfl := hp.eq_nil
      have hc0 : wr.cell? ⟨p, 0, none⟩ = some (.slice A1 0 c1) := hb.cell 0
      have Hb := Lib.hid hb
      have Ho := Lib.hid ho
      clear hb ho
      go_wp2_with fail
      go_ret
      obtain ⟨e1, e2⟩ := parted HS.out HD.out (fun a h => by simp at h)
      rw [e1, e2]
      exact ⟨A, c, rowo, rfl, ⟨[], ⟨A1, c1, Hb.out, Ho.out⟩, hheap, .refl _⟩, Hown.out, Ht.out, Hrow.out⟩
    | cons a T =>
      obtain ⟨h0, ha, her⟩ := heap_head hheap hp hTs
      have hmn : M.length ≤ 10000 := by have := hp.length_eq; have := Hdl.out; simp at *; omega
      obtain ⟨g, off, c', cur, hv, hrw, hg, hcc0, hnc, hcm, hcs, hx⟩ := ho.at_ h0
      injection hv with hA _ hcc
      subst hA; subst hcc
      obtain ⟨h1, h2⟩ := cellsA_at M 0 h0
      have ca1 := (hg.cell _).trans (hx _ _ h1)
      have ca2 : wr.cell? ⟨g, off + 0 * 2 + 1, none⟩ = _ := (hg.cell _).trans (hx _ _ h2)
      rw [ha] at ca1 ca2
      simp only [Nat.zero_mul, Nat.add_zero] at ca1 ca2
      have hc0 : wr.cell? ⟨p, 0, none⟩ = some (.slice (some ⟨g, off, none⟩) M.length c1) := hb.cell 0
      have Hb := Lib.hid hb
      have Ho := Lib.hid ho
      have Hp := Lib.hid hp
      have Her := Lib.hid her
      have Hheap := Lib.hid hheap
      have HTs := Lib.hid hTs
      have Hrw := Lib.hid hrw
      clear hb ho hp her hheap hTs hg hx h1 h2 ha hrw
      by_cases hle : a.1 ≤ now
      · have hle' : decide (a.1 ≤ now) = true := decide_eq_true hle
        go_wp2_with (at_builtin; refine wpList_append_Own _ rfl (.tmp 23) (.tmp 31) 34 34 rfl 3 i0 _ 1 8 Try.underlying34 hi0 hz0 hz1 hz2 rfl _ D.length (cellsI (D.map Prod.snd)) rowo rfl (Hown.out.alloc _) _ 1 [.int .i64 a.2] rfl (Src.one Try.underlying34 wr _ _ rfl) (by unfold maxLen; omega) (by omega) ?_)
        intro v' w2 row' hown' ht2 hrow2
        obtain ⟨A', c', rfl, _⟩ := hown'.shape
        have hpo : p ∉ rowo.toList := notin_row (Hown.out.ne_ Hb.out (by decide))
        have hro : ∀ g', row = some g' → g' ∉ rowo.toList := Own.ne_own Ho.out Hown.out (by decide)
        have hh2 : HAt w2 p M most row := ⟨_, c1, (Hb.out.alloc _).touch ht2 hpo, Own.touch (Own.alloc Ho.out _) ht2 hro⟩
        have ht3 : Touch (p :: row.toList) w w2 := Touch.trans_new' (Ht.out.alloc _) ht2 Hrow.out
        have hrow3 : NewRow w none row' := Hrow.out.trans hrow2 (by have := Ht.out.size; simp; omega)
        have Hh2 := Lib.hid hh2
        have Ht3 := Lib.hid ht3
        have Hrow3 := Lib.hid hrow3
        have Hown2 := Lib.hid hown'
        clear hpo hro hh2 ht3 hrow3 hown' ht2 hrow2 ca1 ca2 hc0
        go_wp2_with fail
        refine (remove_any p M most row 0 (by omega) h0 Hheap.out w2 Hh2.out).mono ?_
        rintro e w3 ⟨rfl, M3, h1, h2, h3, h4⟩
        have H1 := Lib.hid h1
        have H2 := Lib.hid h2
        have H3 := Lib.hid h3
        have H4 := Lib.hid h4
        clear h1 h2 h3 h4
        go_wp2_with fail
        go_roundw
        case rel =>
          have hlen1 : (D ++ [a]).length = D.length + 1 := by simp
          refine ⟨D ++ [a], T, A', c', row', by rw [hlen1], by rw [HS.out]; simp, fun b hb => ?_, ⟨M3, H3.out, H1.out, H2.out.trans Her.out⟩, ?_, Ht3.out.trans H4.out, Hrow3.out⟩
          · rcases List.mem_append.1 hb with hb | hb
            · exact HD.out b hb
            · rw [List.mem_singleton.1 hb]; exact hle
          · rw [hlen1, show cellsI ((D ++ [a]).map Prod.snd) = cellsI (D.map Prod.snd) ++ [.int .i64 a.2] by simp [cellsI]]
            refine Own.touch Hown2.out H4.out (fun g' hg' hm => ?_)
            rcases List.mem_cons.1 hm with rfl | hm
            · have := Hrow3.out _ hg'
              rcases this with h | h
              · cases h
              · exact absurd hlt (Nat.not_lt.2 h)
            · exact Own.ne_own Hown2.out (Hh2.out.choose_spec.choose_spec.2) (by decide) g' hg' hm
        case measure => have := Hdl.out; rw [List.length_cons] at this; simp [sliceLen]; omega
      · have hgt : decide (a.1 ≤ now) = false := decide_eq_false hle
        go_wp2_with fail
        go_ret
        obtain ⟨e1, e2⟩ := parted HS.out HD.out (fun b hb => by
          rcases List.mem_cons.1 hb with rfl | hb
          · omega
          · have := (List.pairwise_cons.1 HTs.out).1 b hb
            unfold ltA at this
            omega)
        rw [e1, e2]
        exact ⟨A, c, rowo, rfl, ⟨M, ⟨_, c1, Hb.out, Ho.out⟩, Hheap.out, Hp.out⟩, Hown.out, Ht.out, Hrow.out⟩
/-! TSep -/
/-- One object is worked on, and makes another one in new memory. -/
theorem Sep.focusAdd {w0 w : World} {B : Nat} {rs : List Res} (h : Sep w0 B w rs) (i : Nat) {r : Res} (hi : rs[i]? = some r) :
    ∃ F, r.P F w ∧ ∀ (w' : World) (r' q : Res) (G : List Nat), r'.P F w' → q.P G w' → Touch F w w' → (∀ k, k ∈ G → w.heap.size ≤ k) → Sep w0 B w' (q :: rs.set i r') := by
  obtain ⟨hb, hB, F, h1, h2⟩ := h
  have hil : i < rs.length := (List.getElem?_eq_some_iff.1 hi).1
  have hBw : B ≤ w.heap.size := Nat.le_trans hB hb.size
  have hlt : ∀ m, m < rs.length → ∀ k, k ∈ F m → k < w.heap.size := fun m hm k hk => (rs[m]).lt _ _ (h1 m rs[m] (List.getElem?_eq_getElem hm)).1 k hk
  refine ⟨F i, (h1 i r hi).1, fun w' r' q G hP hq ht hn => ⟨hb.trans (ht.below hBw (h1 i r hi).2), hB, fun j => match j with | 0 => G | j + 1 => F j, fun j s hs => ?_, fun j l hj hl hne k hk => ?_⟩⟩
  · match j, hs with
    | 0, hs =>
      simp at hs
      subst hs
      exact ⟨hq, fun k hk => Nat.le_trans hBw (hn k hk)⟩
    | j + 1, hs =>
      simp only [List.getElem?_cons_succ] at hs
      by_cases hji : j = i
      · subst hji
        rw [List.getElem?_set_self hil] at hs
        injection hs with hs
        subst hs
        exact ⟨hP, (h1 j r hi).2⟩
      · rw [List.getElem?_set_ne (Ne.symm hji)] at hs
        refine ⟨s.loc _ _ _ (h1 j s hs).1 (fun k hk => ht.block k (s.lt _ _ (h1 j s hs).1 k hk) ?_), (h1 j s hs).2⟩
        exact h2 j i (List.getElem?_eq_some_iff.1 hs).1 hil hji k hk
  · simp only [List.length_cons, List.length_set] at hj hl
    match j, l, hj, hl, hne, hk with
    | 0, 0, _, _, hne, _ => exact absurd rfl hne
    | 0, l + 1, _, hl, _, hk =>
      intro hkl
      have h3 := hlt l (by omega) k hkl
      have h4 := hn k hk
      omega
    | j + 1, 0, hj, _, _, hk =>
      intro hkl
      have h3 := hlt j (by omega) k hk
      have h4 := hn k hkl
      omega
    | j + 1, l + 1, hj, hl, hne, hk => exact h2 j l (by omega) (by omega) (fun e => hne (by rw [e])) k hk
/-- A heap: its alarms in order, no id twice, no more than can be. -/
def hRes (p : Nat) (S : List Al) (most : Int) : Res where
  P F w := (∃ row, F = p :: Option.toList row ∧ STAt w p S most row) ∧ SOk S ∧ (S.length : Int) ≤ most ∧ most ≤ 10000
  loc F w w' h hk := by
    obtain ⟨⟨row, rfl, M, ⟨A, c, hb, ho⟩, h1, h2⟩, h3⟩ := h
    obtain ⟨row', hr', ho'⟩ := (slRes 85 2 (.slice A M.length c) M.length (cellsA M)).loc (Option.toList row) w w' ⟨row, rfl, ho⟩ (fun k hk' => hk k (List.mem_cons_of_mem _ hk'))
    have : row = row' := by cases row <;> cases row' <;> simp_all
    subst this
    exact ⟨⟨row, rfl, M, ⟨A, c, (hk p (by simp)).trans hb, ho'⟩, h1, h2⟩, h3⟩
  lt F w h k hk := by
    obtain ⟨⟨row, rfl, M, hh, _, _⟩, _⟩ := h
    rcases List.mem_cons.1 hk with rfl | hk
    · exact hh.lt
    · exact hh.rowLt (Option.mem_toList.1 hk)
theorem h_foot {w : World} {p : Nat} {row row' : Option Nat} (h : NewRow w row row') : ∀ k, k ∈ p :: row'.toList → k ∈ p :: row.toList ∨ w.heap.size ≤ k := by
  intro k hk
  rcases List.mem_cons.1 hk with rfl | hk
  · exact .inl (by simp)
  · exact (newRow_foot h k hk).elim (fun h => .inl (List.mem_cons_of_mem _ h)) .inr
section
variable {w0 w : World} {B : Nat} {rs : List Res} {p : Nat} {S : List Al} {most : Int}
def Gives (v : Value) (w0 : World) (B : Nat) (rs : List Res) (e : Ending) (w' : World) : Prop := e = .returned v ∧ Sep w0 B w' rs
def NewHeap (S : List Al) (most : Int) (w0 : World) (B : Nat) (rs : List Res) (e : Ending) (w' : World) : Prop := ∃ p', e = .returned (.tuple #[.pointer (some ⟨p', 0, none⟩), .int .i64 0]) ∧ Sep w0 B w' (hRes p' S most :: rs)
def CopyHeap (S : List Al) (most : Int) (w0 : World) (B : Nat) (rs : List Res) (e : Ending) (w' : World) : Prop := ∃ p', e = .returned (.pointer (some ⟨p', 0, none⟩)) ∧ Sep w0 B w' (hRes p' S most :: rs)
/-- A list of ints that is owned. -/
def iRes (v : Value) (L : List Int) : Res := slRes 3 1 v L.length (cellsI L)
def Pops (D T : List Al) (p : Nat) (most : Int) (i : Nat) (w0 : World) (B : Nat) (rs : List Res) (e : Ending) (w' : World) : Prop :=
  ∃ A c, e = .returned (.slice A D.length c) ∧ Sep w0 B w' (iRes (.slice A D.length c) (D.map Prod.snd) :: rs.set i (hRes p T most))
theorem newT_sep (h : Sep w0 B w rs) (m : Int) (h1 : 1 ≤ m) (h2 : m ≤ 10000) :
    Calls Try.prog 27 #[.int .i64 m] w (NewHeap [] m w0 B rs) :=
  (timerNew_ok m w h1 h2).mono fun e w' ⟨he, hw⟩ => by
    subst hw
    exact ⟨w.heap.size, he, h.add (r := hRes w.heap.size [] m) ⟨⟨none, rfl, STAt.new w m⟩, SOk.nil, by simp; omega, h2⟩ ((Touch.refl _ _).alloc _) (by simp)⟩
theorem setS_max {S : List Al} {most : Int} (h : (S.length : Int) ≤ most) (id at_ : Int) : ((setS S most id at_).length : Int) ≤ most := by
  unfold setS
  split
  · exact h
  · split
    · exact h
    · rw [insS_len]; omega
theorem setT_sep (h : Sep w0 B w rs) (i : Nat) (hi : rs[i]? = some (hRes p S most)) (id at_ : Int) :
    Calls Try.prog 28 #[.pointer (some ⟨p, 0, none⟩), .int .i64 id, .int .u64 at_] w (Gives (.int .i64 (setCode S most id)) w0 B (rs.set i (hRes p (setS S most id at_) most))) := by
  obtain ⟨F, ⟨⟨row, rfl, hq⟩, hok, hm, hm2⟩, hset⟩ := h.focus i hi
  exact (set_any p S most row id at_ w hq (by omega)).mono fun e w' ⟨row', he, hq', ht, hn⟩ => ⟨he, hset w' _ _ ⟨⟨row', rfl, hq'⟩, setS_ok hok _ _ _, setS_max hm _ _, hm2⟩ ht (h_foot hn)⟩
theorem dropT_sep (h : Sep w0 B w rs) (i : Nat) (hi : rs[i]? = some (hRes p S most)) (id : Int) :
    Calls Try.prog 31 #[.pointer (some ⟨p, 0, none⟩), .int .i64 id] w (Gives (.int .i64 (dropCode S id)) w0 B (rs.set i (hRes p (dropS S id) most))) := by
  obtain ⟨F, ⟨⟨row, rfl, hq⟩, hok, hm, hm2⟩, hset⟩ := h.focus i hi
  exact (drop_any p S most row id w hq hok (by omega)).mono fun e w' ⟨row', he, hq', ht, hn⟩ => ⟨he, hset w' _ _ ⟨⟨row', rfl, hq'⟩, hok.drop id, by have := dropS_len S id; omega, hm2⟩ ht (h_foot hn)⟩
theorem popT_sep (h : Sep w0 B w rs) (i : Nat) (hi : rs[i]? = some (hRes p S most)) (now : Int) :
    Calls Try.prog 29 #[.pointer (some ⟨p, 0, none⟩), .int .u64 now] w (Pops (goneS S now) (leftS S now) p most i w0 B rs) := by
  obtain ⟨F, ⟨⟨row, rfl, hq⟩, hok, hm, hm2⟩, hset⟩ := h.focusAdd i hi
  refine (pop_any p S most row now w hq hok (by omega)).mono fun e w' ⟨A, c, rowo, he, hq', ho, ht, hn⟩ => ⟨A, c, he, hset w' _ _ rowo.toList ⟨⟨row, rfl, hq'⟩, hok.left now, by have := leftS_len S now; omega, hm2⟩ ⟨rowo, rfl, ?_⟩ ht (fun k hk => (hn k (Option.mem_toList.1 hk)).elim (fun e => by cases e) id)⟩
  rw [List.length_map]
  exact ho
theorem lenT_sep (h : Sep w0 B w rs) (i : Nat) (hi : rs[i]? = some (hRes p S most)) :
    Calls Try.prog 67 #[.pointer (some ⟨p, 0, none⟩)] w fun e w' => e = .returned (.int .i64 S.length) ∧ w = w' := by
  obtain ⟨F, ⟨row, rfl, hq⟩, hok, hm, hm2⟩ := h.look i hi
  exact len_any p S most row w hq
theorem copyT_sep (h : Sep w0 B w rs) (i : Nat) (hi : rs[i]? = some (hRes p S most)) :
    Calls Try.prog 36 #[.pointer (some ⟨p, 0, none⟩)] w (CopyHeap S most w0 B rs) := by
  obtain ⟨F, ⟨row, rfl, hq⟩, hok, hm, hm2⟩ := h.look i hi
  refine (copyT_any p S most row w hq (by omega)).mono fun e w' ⟨p', row', he, hq', ht, hp, hn⟩ => ?_
  exact ⟨p', he, h.add (r := hRes p' S most) ⟨⟨row', rfl, hq'⟩, hok, hm, hm2⟩ ht (fun k hk => by
    rcases List.mem_cons.1 hk with rfl | hk
    · exact hp
    · exact (hn k (Option.mem_toList.1 hk)).elim (fun e => by cases e) id)⟩
/-- What is known of a heap's list. -/
theorem heap_facts (h : Sep w0 B w rs) (i : Nat) (hi : rs[i]? = some (hRes p S most)) : SOk S ∧ (S.length : Int) ≤ most := by
  obtain ⟨F, _, hok, hm, _⟩ := h.look i hi
  exact ⟨hok, hm⟩
end
def eqI (a b : List Int) : Bool := decide (a = b)
theorem eqI_self (a : List Int) : eqI a a = true := by unfold eqI; simp
theorem eqI_len {a b : List Int} (h : a.length ≠ b.length) : eqI a b = false := by
  unfold eqI; rw [decide_eq_false_iff_not]; intro e; exact h (by rw [e])
theorem eqI_of {a b : List Int} {n k : Nat} (ha : a.length = n) (hb : b.length = n) (hk : n ≤ k) (h : a.take k = b.take k) : eqI a b = true := by
  rw [List.take_of_length_le (by omega), List.take_of_length_le (by omega)] at h
  rw [h]; exact eqI_self b
theorem eqI_ne {a b : List Int} {k : Nat} (ha : k < a.length) (hb : k < b.length) (h : ¬ a[k] = b[k]) : eqI a b = false := by
  unfold eqI; rw [decide_eq_false_iff_not]; intro e; subst e; exact h rfl
theorem take_eqI {a b : List Int} {k : Nat} (ha : k < a.length) (hb : k < b.length) (h : a[k] = b[k]) (ht : a.take k = b.take k) : a.take (k + 1) = b.take (k + 1) := by
  rw [List.take_succ_eq_append_getElem ha, List.take_succ_eq_append_getElem hb, ht, h]
/-- It answers b, and only draws. -/
def Asked (b : Bool) (w : World) (e : Ending) (w' : World) : Prop := e = .returned (.bool b) ∧ ∃ m, w.drewN m = w'
theorem ints_len (A B : Option Addr) (n m c d : Nat) (L M : List Int) (hL : L.length = n) (hM : M.length = m) (h : n ≠ m) (w : World) :
    Calls Try.prog 16 #[.slice A n c, .slice B m d] w (Asked (eqI L M) w) := by
  have hh : ((n : Int) != (m : Int)) = true := by rw [bne_iff_ne]; omega
  have H := Lib.hid (eqI_len (a := L) (b := M) (by omega))
  clear hL hM h
  go_enter Try.func16, Try.ntmps16
  go_wp2
  go_ret
  exact ⟨ret_bool H.out.symm, 0, rfl⟩
theorem ints_zero (A B : Option Addr) (c d : Nat) (w : World) :
    Calls Try.prog 16 #[.slice A 0 c, .slice B 0 d] w (Asked true w) := by
  go_enter Try.func16, Try.ntmps16
  go_wp2
  refine wp_loop_rounds 1 ?_; rw [rounds_succ]; go_wp2
  go_ret
  exact ⟨rfl, 0, rfl⟩
set_option maxHeartbeats 400000 in
theorem ints_some (g off g' off' n c d : Nat) (L M : List Int) (w : World) (hL : L.length = n) (hM : M.length = n) (hn : n ≤ maxLen)
    (hc : ∀ j (h : j < L.length), w.cell? ⟨g, off + j, none⟩ = some (.int .i64 L[j])) (hd : ∀ j (h : j < M.length), w.cell? ⟨g', off' + j, none⟩ = some (.int .i64 M[j])) :
    Calls Try.prog 16 #[.slice (some ⟨g, off, none⟩) n c, .slice (some ⟨g', off', none⟩) n d] w (Asked (eqI L M) w) := by
  unfold maxLen at hn
  have HL := Lib.hid hL
  have HM := Lib.hid hM
  clear hL hM
  go_enter Try.func16, Try.ntmps16
  go_wp2
  go_loopw [5] (fun i wr => ∃ k m : Nat, k ≤ n ∧ i = .int .i64 k ∧ L.take k = M.take k ∧ wr = w.drewN m) (fun i _ => n - (intOf i).toNat)
  case atStart => exact ⟨0, 0, by omega, rfl, by simp, rfl⟩
  case round =>
    obtain ⟨k, m, hk, rfl, ht, rfl⟩ := hrel
    have Ht := Lib.hid ht; clear ht
    by_cases hlt : k < n
    · have hkL : k < L.length := by rw [HL.out]; exact hlt
      have hkM : k < M.length := by rw [HM.out]; exact hlt
      have h1 : w.cell? ⟨g, off + k, none⟩ = some (.int .i64 L[k]) := hc k _
      have h2 : w.cell? ⟨g', off' + k, none⟩ = some (.int .i64 M[k]) := hd k _
      clear hc hd
      by_cases hne : L[k] = M[k]
      · have hb : (L[k] != M[k]) = false := by rw [hne]; simp
        have Hne := Lib.hid hne
        clear hne
        go_wp2
        go_quiet (fail)
        go_wp2
        go_roundw
        case rel => exact ⟨k + 1, m + nq, by omega, by go_num, take_eqI hkL hkM Hne.out Ht.out, rfl⟩
        case measure => simp [intOf]; omega
      · have hb : (L[k] != M[k]) = true := by rw [bne_iff_ne]; exact hne
        have Hne := Lib.hid hne
        clear hne
        go_wp2
        go_quiet (fail)
        go_wp2
        go_ret
        exact ⟨ret_bool (eqI_ne hkL hkM Hne.out).symm, m + nq, (World.drewN_drewN _ _ _).symm⟩
    · go_wp2
      go_ret
      exact ⟨ret_bool (eqI_of HL.out HM.out (by omega) Ht.out).symm, m, rfl⟩
theorem ints_Own {r q : Option Nat} (v u : Value) (L M : List Int) (w : World) (h : Own w 3 1 v L.length (cellsI L) r) (k : Own w 3 1 u M.length (cellsI M) q) :
    Calls Try.prog 16 #[v, u] w (Asked (eqI L M) w) := by
  by_cases hlm : L.length = M.length
  · by_cases h0 : L.length = 0
    · obtain rfl := List.eq_nil_of_length_eq_zero h0
      obtain rfl := List.eq_nil_of_length_eq_zero (hlm.symm.trans h0)
      obtain ⟨A, c, rfl, _⟩ := h.shape
      obtain ⟨A', c', rfl, _⟩ := k.shape
      exact ints_zero A A' c c' w
    · obtain ⟨g, off, c, cur, rfl, _, hb, _, hnc, hcm, _, hx⟩ := h.at_ (by omega)
      obtain ⟨g', off', c', cur', rfl, _, hb', _, hnc', hcm', _, hx'⟩ := k.at_ (by omega)
      rw [← hlm]
      exact ints_some g off g' off' L.length c c' L M w rfl hlm.symm (by omega) (fun j hj => by rw [hb.cell]; exact hx j _ (by simp [cellsI, hj])) (fun j hj => by rw [hb'.cell]; exact hx' j _ (by simp [cellsI, hj]))
  · obtain ⟨A, c, rfl, _⟩ := h.shape
    obtain ⟨A', c', rfl, _⟩ := k.shape
    exact ints_len A A' _ _ c c' L M rfl rfl hlm w
theorem ints_sep {w w0 : World} {B : Nat} {rs : List Res} (h : Sep w0 B w rs) (i j : Nat) {v u : Value} {L M : List Int} (hi : rs[i]? = some (iRes v L)) (hj : rs[j]? = some (iRes u M)) :
    Calls Try.prog 16 #[v, u] w (Gives (.bool (eqI L M)) w0 B rs) := by
  obtain ⟨F, r, rfl, ho⟩ := h.look i hi
  obtain ⟨G, q, rfl, hp⟩ := h.look j hj
  exact (ints_Own v u L M w ho hp).mono fun e w' ⟨he, m, hm⟩ => by subst hm; exact ⟨he, h.drewN m⟩
end Go.Proofs.Ytehbfoiadinhbaa
