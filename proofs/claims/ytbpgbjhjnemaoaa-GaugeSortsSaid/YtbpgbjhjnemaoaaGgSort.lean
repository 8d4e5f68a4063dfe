/- Numbers in order: the plain law of the sort (swaps, turns, counts). -/
import Derived.Test.YtbpgbjhjnemaoaaGgFloat
namespace Go.Proofs.Ytbpgbjhjnemaoaa
/-- How many of the first n stand below t. -/
def cnt (d : Nat → Nat) (t : Int) : Nat → Nat
  | 0 => 0
  | n + 1 => cnt d t n + if kf (d n) < t then 1 else 0
def upd (d : Nat → Nat) (i v : Nat) : Nat → Nat := fun k => if k = i then v else d k
def swp (d : Nat → Nat) (i j : Nat) : Nat → Nat := fun k => if k = i then d j else if k = j then d i else d k
theorem cnt_congr {d e : Nat → Nat} {t : Int} {n : Nat} (h : ∀ i, i < n → d i = e i) : cnt d t n = cnt e t n := by
  induction n with
  | zero => rfl
  | succ n ih => unfold cnt; rw [ih (fun i hi => h i (by omega)), h n (by omega)]
theorem cnt_upd (d : Nat → Nat) (t : Int) (i v : Nat) (n : Nat) (hi : i < n) : cnt (upd d i v) t n + (if kf (d i) < t then 1 else 0) = cnt d t n + (if kf v < t then 1 else 0) := by
  induction n with
  | zero => omega
  | succ n ih =>
    unfold cnt
    by_cases h : i = n
    · subst h
      have e : cnt (upd d i v) t i = cnt d t i := cnt_congr fun k hk => by unfold upd; rw [if_neg (by omega)]
      have e2 : upd d i v i = v := by unfold upd; rw [if_pos rfl]
      rw [e, e2]
      omega
    · have e2 : upd d i v n = d n := by unfold upd; rw [if_neg (by omega)]
      have := ih (by omega)
      rw [e2]
      omega
theorem cnt_swp (d : Nat → Nat) (t : Int) (i j : Nat) (n : Nat) (hi : i < n) (hj : j < n) : cnt (swp d i j) t n = cnt d t n := by
  by_cases h : i = j
  · subst h
    exact cnt_congr fun k _ => by unfold swp; (repeat' split) <;> simp_all
  · have e : cnt (swp d i j) t n = cnt (upd (upd d i (d j)) j (d i)) t n := cnt_congr fun k _ => by
      unfold swp upd
      (repeat' split) <;> first | rfl | (exfalso; omega)
    have h1 := cnt_upd (upd d i (d j)) t j (d i) n hj
    have h2 := cnt_upd d t i (d j) n hi
    have e3 : upd d i (d j) j = d j := by unfold upd; rw [if_neg (by omega)]
    rw [e3] at h1
    rw [e]
    omega
def Srt (d : Nat → Nat) (a b : Nat) : Prop := ∀ i j, a ≤ i → i ≤ j → j < b → kf (d i) ≤ kf (d j)
theorem cnt_le (d : Nat → Nat) (t : Int) (n i : Nat) (hi : i ≤ n) (h : ∀ j, i ≤ j → j < n → ¬ kf (d j) < t) : cnt d t n ≤ i := by
  induction n with
  | zero => simp [cnt]
  | succ n ih =>
    unfold cnt
    by_cases hn : i = n + 1
    · have : cnt d t n ≤ n := by
        clear ih h hi hn
        induction n with
        | zero => simp [cnt]
        | succ n ih => unfold cnt; split <;> omega
      split <;> omega
    · rw [if_neg (h n (by omega) (by omega))]
      have := ih (by omega) (fun j h1 h2 => h j h1 (by omega))
      omega
theorem cnt_ge (d : Nat → Nat) (t : Int) (n i : Nat) (hi : i ≤ n) (h : ∀ j, j < i → kf (d j) < t) : i ≤ cnt d t n := by
  induction n generalizing i with
  | zero => omega
  | succ n ih =>
    unfold cnt
    by_cases hn : i = n + 1
    · subst hn
      rw [if_pos (h n (by omega))]
      have := ih n (by omega) (fun j h1 => h j (by omega))
      omega
    · have := ih i (by omega) h
      omega
/-- Two rows in order with the same counts have the same keys. -/
theorem srt_unique {d e : Nat → Nat} {n : Nat} (hd : Srt d 0 n) (he : Srt e 0 n) (hc : ∀ t, cnt d t n = cnt e t n) (i : Nat) (hi : i < n) : kf (d i) = kf (e i) := by
  have key : ∀ (d e : Nat → Nat), Srt d 0 n → Srt e 0 n → (∀ t, cnt d t n = cnt e t n) → ¬ kf (d i) < kf (e i) := fun d e hd he hc hlt => by
    have h1 := cnt_ge d (kf (e i)) n (i + 1) (by omega) (fun j hj => by have := hd j i (by omega) (by omega) hi; omega)
    have h2 := cnt_le e (kf (e i)) n i (by omega) (fun j h1 h2 => by have := he i j (by omega) h1 h2; omega)
    have := hc (kf (e i))
    omega
  have h1 := key d e hd he hc
  have h2 := key e d he hd (fun t => (hc t).symm)
  omega
/-- What a step on [a, b) of n leaves: the others are as they were, those within are of those within; the counts are the same. -/
structure In (d d' : Nat → Nat) (a b n : Nat) : Prop where
  out : ∀ i, i < a ∨ b ≤ i → d' i = d i
  of : ∀ i, a ≤ i → i < b → ∃ k, a ≤ k ∧ k < b ∧ d' i = d k
  cnt : ∀ t, cnt d' t n = cnt d t n
theorem In.refl (d : Nat → Nat) (a b n : Nat) : In d d a b n := ⟨fun _ _ => rfl, fun i h1 h2 => ⟨i, h1, h2, rfl⟩, fun _ => rfl⟩
theorem In.trans {d e f : Nat → Nat} {a b n : Nat} (h : In d e a b n) (k : In e f a b n) : In d f a b n :=
  ⟨fun i hi => (k.out i hi).trans (h.out i hi), fun i h1 h2 => by
    obtain ⟨j, j1, j2, e1⟩ := k.of i h1 h2
    obtain ⟨l, l1, l2, e2⟩ := h.of j j1 j2
    exact ⟨l, l1, l2, e1.trans e2⟩, fun t => (k.cnt t).trans (h.cnt t)⟩
theorem In.wide {d e : Nat → Nat} {a b a' b' n : Nat} (h : In d e a b n) (ha : a' ≤ a) (hb : b ≤ b') : In d e a' b' n :=
  ⟨fun i hi => h.out i (by omega), fun i h1 h2 => by
    by_cases hh : a ≤ i ∧ i < b
    · obtain ⟨k, k1, k2, e⟩ := h.of i hh.1 hh.2
      exact ⟨k, by omega, by omega, e⟩
    · exact ⟨i, h1, h2, h.out i (by omega)⟩, h.cnt⟩
theorem In.swp (d : Nat → Nat) {a b n i j : Nat} (hi : a ≤ i ∧ i < b) (hj : a ≤ j ∧ j < b) (hb : b ≤ n) : In d (swp d i j) a b n :=
  ⟨fun k hk => by unfold Go.Proofs.Ytbpgbjhjnemaoaa.swp; rw [if_neg (by omega), if_neg (by omega)], fun k h1 h2 => by
    unfold Go.Proofs.Ytbpgbjhjnemaoaa.swp
    by_cases e1 : k = i
    · exact ⟨j, hj.1, hj.2, by rw [if_pos e1]⟩
    · by_cases e2 : k = j
      · exact ⟨i, hi.1, hi.2, by rw [if_neg e1, if_pos e2]⟩
      · exact ⟨k, h1, h2, by rw [if_neg e1, if_neg e2]⟩, fun t => cnt_swp d t i j n (by omega) (by omega)⟩
/-! ### Insertion -/
/-- In order on [a, i] but for j, that goes down. -/
structure Ins (d : Nat → Nat) (a i j : Nat) : Prop where
  le : ∀ p q, a ≤ p → p ≤ q → q ≤ i → p ≠ j → q ≠ j → kf (d p) ≤ kf (d q)
  up : ∀ q, j < q → q ≤ i → kf (d j) < kf (d q)
theorem Ins.start {d : Nat → Nat} {a i : Nat} (h : Srt d a i) : Ins d a i i := ⟨fun p q h1 h2 h3 h4 h5 => h p q h1 h2 (by omega), fun q h1 h2 => by omega⟩
theorem Ins.step {d : Nat → Nat} {a i j : Nat} (h : Ins d a i j) (hj : a < j) (hji : j ≤ i) (hlt : kf (d j) < kf (d (j - 1))) : Ins (swp d j (j - 1)) a i (j - 1) := by
  have e0 : ∀ k, swp d j (j - 1) k = if k = j then d (j - 1) else if k = j - 1 then d j else d k := fun k => rfl
  refine ⟨fun p q h1 h2 h3 h4 h5 => ?_, fun q h1 h2 => ?_⟩
  · rw [e0, e0, if_neg h4, if_neg h5]
    by_cases c1 : p = j
    · by_cases c2 : q = j
      · rw [if_pos c1, if_pos c2]; exact Int.le_refl _
      · rw [if_pos c1, if_neg c2]; exact h.le (j - 1) q (by omega) (by omega) h3 (by omega) c2
    · by_cases c2 : q = j
      · rw [if_neg c1, if_pos c2]; exact h.le p (j - 1) h1 (by omega) (by omega) c1 (by omega)
      · rw [if_neg c1, if_neg c2]; exact h.le p q h1 h2 h3 c1 c2
  · rw [e0, e0, if_neg (by omega), if_pos rfl]
    by_cases c2 : q = j
    · rw [if_pos c2]; exact hlt
    · rw [if_neg c2, if_neg (by omega)]; exact h.up q (by omega) h2
theorem Ins.done {d : Nat → Nat} {a i j : Nat} (h : Ins d a i j) (haj : a ≤ j) (hji : j ≤ i) (hend : j = a ∨ ¬ kf (d j) < kf (d (j - 1))) : Srt d a (i + 1) := fun p q h1 h2 h3 => by
  by_cases c1 : p = j
  · by_cases c2 : q = j
    · rw [c1, c2]; exact Int.le_refl _
    · subst c1; exact Int.le_of_lt (h.up q (by omega) (by omega))
  · by_cases c2 : q = j
    · subst c2
      rcases hend with e | e
      · omega
      · have := h.le p (q - 1) h1 (by omega) (by omega) c1 (by omega)
        omega
    · exact h.le p q h1 h2 (by omega) c1 c2
/-! ### Ranges that change places, and turns -/
def swR (d : Nat → Nat) (x y n : Nat) : Nat → Nat := fun i => if x ≤ i ∧ i < x + n then d (i - x + y) else if y ≤ i ∧ i < y + n then d (i - y + x) else d i
theorem swR_zero (d : Nat → Nat) (x y : Nat) : swR d x y 0 = d := funext fun i => by unfold swR; rw [if_neg (by omega), if_neg (by omega)]
theorem swR_succ (d : Nat → Nat) (x y n : Nat) (h : x + n < y) : swp (swR d x y n) (x + n) (y + n) = swR d x y (n + 1) := funext fun i => by
  unfold swp swR
  (repeat' split) <;> first | rfl | (exfalso; omega) | (congr 1; omega)
theorem In.swR (d : Nat → Nat) {a b n x y k : Nat} (hx : a ≤ x) (hxy : x + k ≤ y) (hy : y + k ≤ b) (hb : b ≤ n) : In d (swR d x y k) a b n := by
  induction k with
  | zero => rw [swR_zero]; exact In.refl _ _ _ _
  | succ k ih => rw [← swR_succ d x y k (by omega)]; exact (ih (by omega) (by omega)).trans (In.swp _ (by omega) (by omega) hb)
def rot (d : Nat → Nat) (s m e : Nat) : Nat → Nat := fun i => if s ≤ i ∧ i < s + (e - m) then d (i - s + m) else if s + (e - m) ≤ i ∧ i < e then d (i - (e - m)) else d i
theorem rot_gt (d : Nat → Nat) (m i j : Nat) (hi : i ≤ m) (h : j < i) : rot (swR d (m - i) m j) (m - (i - j)) m (m + j) = rot d (m - i) m (m + j) := funext fun k => by
  unfold rot swR
  (repeat' split) <;> first | rfl | (exfalso; omega) | (congr 1; omega)
theorem rot_lt (d : Nat → Nat) (m i j : Nat) (hi : i ≤ m) (h : i < j) : rot (swR d (m - i) (m + j - i) i) (m - i) m (m + (j - i)) = rot d (m - i) m (m + j) := funext fun k => by
  unfold rot swR
  (repeat' split) <;> first | rfl | (exfalso; omega) | (congr 1; omega)
theorem rot_eq (d : Nat → Nat) (m i : Nat) (hi : i ≤ m) : swR d (m - i) m i = rot d (m - i) m (m + i) := funext fun k => by
  unfold rot swR
  (repeat' split) <;> first | rfl | (exfalso; omega) | (congr 1; omega)
theorem rot_none1 (d : Nat → Nat) (m e : Nat) (h : m ≤ e) : rot d m m e = d := funext fun k => by
  unfold rot
  (repeat' split) <;> first | rfl | (exfalso; omega) | (congr 1; omega)
theorem rot_none2 (d : Nat → Nat) (s m : Nat) : rot d s m m = d := funext fun k => by
  unfold rot
  (repeat' split) <;> first | rfl | (exfalso; omega) | (congr 1; omega)
/-! ### The symmetric merge -/
/-- What the search finds. -/
structure Cut (d : Nat → Nat) (a m b s0 r0 s : Nat) : Prop where
  lo : ∀ c, s0 ≤ c → c < s → kf (d c) ≤ kf (d ((a + b) / 2 + m - 1 - c))
  hi : ∀ c, s ≤ c → c < r0 → kf (d ((a + b) / 2 + m - 1 - c)) < kf (d c)
theorem merge_rot {d : Nat → Nat} {a m b s0 r0 s : Nat} (ham : a < m) (hmb : m < b) (h1 : Srt d a m) (h2 : Srt d m b)
    (hs : (m > (a + b) / 2 ∧ s0 = (a + b) / 2 + m - b ∧ r0 = (a + b) / 2) ∨ (m ≤ (a + b) / 2 ∧ s0 = a ∧ r0 = m)) (hs0 : s0 ≤ s) (hr0 : s ≤ r0) (hc : Cut d a m b s0 r0 s) :
    let f := rot d s m ((a + b) / 2 + m - s)
    Srt f a s ∧ Srt f s ((a + b) / 2) ∧ Srt f ((a + b) / 2) ((a + b) / 2 + m - s) ∧ Srt f ((a + b) / 2 + m - s) b ∧ (∀ i j, a ≤ i → i < (a + b) / 2 → (a + b) / 2 ≤ j → j < b → kf (f i) ≤ kf (f j)) := by
  intro f
  obtain ⟨mid, hmid⟩ : ∃ mid, mid = (a + b) / 2 := ⟨_, rfl⟩
  have hab : a ≤ mid ∧ mid < b := by omega
  have q : ∀ c, (a + b) / 2 + m - 1 - c = mid + m - 1 - c := fun c => by rw [hmid]
  have hlo := hc.lo
  have hhi := hc.hi
  simp only [q] at hlo hhi
  rw [← hmid] at hs ⊢
  obtain ⟨e, he⟩ : ∃ e, e = mid + m - s := ⟨_, rfl⟩
  have hsm : s ≤ m := by omega
  have hsmid : s ≤ mid := by omega
  have hme : m ≤ e := by omega
  have heb : e ≤ b := by omega
  have has : a ≤ s := by omega
  have hse : s + (e - m) = mid := by omega
  have fe : ∀ i, f i = if s ≤ i ∧ i < mid then d (i - s + m) else if mid ≤ i ∧ i < e then d (i - (e - m)) else d i := fun i => by
    show rot d s m ((a + b) / 2 + m - s) i = _
    unfold rot
    rw [← hmid, ← he, hse]
  have A : ∀ i, i < s → f i = d i := fun i hi => by rw [fe, if_neg (by omega), if_neg (by omega)]
  have B : ∀ i, s ≤ i → i < mid → f i = d (i - s + m) := fun i hi hj => by rw [fe, if_pos ⟨hi, hj⟩]
  have C : ∀ i, mid ≤ i → i < e → f i = d (i - (e - m)) := fun i hi hj => by rw [fe, if_neg (by omega), if_pos ⟨hi, hj⟩]
  have D : ∀ i, e ≤ i → f i = d i := fun i hi => by rw [fe, if_neg (by omega), if_neg (by omega)]
  rw [← he]
  refine ⟨fun i j hi hij hj => ?_, fun i j hi hij hj => ?_, fun i j hi hij hj => ?_, fun i j hi hij hj => ?_, fun i j hi hi2 hj hj2 => ?_⟩
  · rw [A i (by omega), A j hj]; exact h1 i j hi hij (by omega)
  · rw [B i hi (by omega), B j (by omega) hj]; exact h2 _ _ (by omega) (by omega) (by omega)
  · rw [C i hi (by omega), C j (by omega) hj]; exact h1 _ _ (by omega) (by omega) (by omega)
  · rw [D i hi, D j (by omega)]; exact h2 i j (by omega) hij hj
  · by_cases ci : i < s
    · rw [A i ci]
      by_cases cj : j < e
      · rw [C j hj cj]; exact h1 _ _ hi (by omega) (by omega)
      · rw [D j (by omega)]
        -- i below s, j from e on: the cut
        have hs1 : s0 < s := by omega
        have k := hlo (s - 1) (by omega) (by omega)
        rw [show mid + m - 1 - (s - 1) = e by omega] at k
        have k1 := h1 i (s - 1) hi (by omega) (by omega)
        have k2 := h2 e j (by omega) (by omega) hj2
        omega
    · rw [B i (by omega) hi2]
      by_cases cj : j < e
      · rw [C j hj cj]
        have hs1 : s < r0 := by omega
        have k := hhi s (by omega) hs1
        rw [show mid + m - 1 - s = e - 1 by omega] at k
        have k1 := h2 (i - s + m) (e - 1) (by omega) (by omega) (by omega)
        have k2 := h1 s (j - (e - m)) (by omega) (by omega) (by omega)
        omega
      · rw [D j (by omega)]; exact h2 _ _ (by omega) (by omega) hj2
theorem srt_join {d : Nat → Nat} {a m b : Nat} (h1 : Srt d a m) (h2 : Srt d m b) (h : ∀ i j, a ≤ i → i < m → m ≤ j → j < b → kf (d i) ≤ kf (d j)) : Srt d a b := fun i j hi hij hj => by
  by_cases c1 : j < m
  · exact h1 i j hi hij c1
  · by_cases c2 : i < m
    · exact h i j hi c2 (by omega) hj
    · exact h2 i j (by omega) hij hj
theorem srt_congr {d e : Nat → Nat} {a b : Nat} (h : Srt d a b) (he : ∀ i, a ≤ i → i < b → e i = d i) : Srt e a b := fun i j hi hij hj => by
  rw [he i hi (by omega), he j (by omega) hj]; exact h i j hi hij hj
theorem srt_tiny (d : Nat → Nat) {a b : Nat} (h : b ≤ a + 1) : Srt d a b := fun i j hi hij hj => by
  obtain rfl : i = j := by omega
  exact Int.le_refl _
/-- The two parts of a cut, each merged. -/
theorem merge_both {d f g : Nat → Nat} {a mid b n : Nat} (ha : a ≤ mid) (hb : mid ≤ b) (hx : ∀ i j, a ≤ i → i < mid → mid ≤ j → j < b → kf (d i) ≤ kf (d j))
    (i1 : In d f a mid n) (s1 : Srt f a mid) (i2 : In f g mid b n) (s2 : Srt g mid b) : In d g a b n ∧ Srt g a b := by
  refine ⟨(i1.wide (Nat.le_refl _) hb).trans (i2.wide ha (Nat.le_refl _)), srt_join (srt_congr s1 fun i _ h => i2.out i (.inl h)) s2 fun i j hi hi2 hj hj2 => ?_⟩
  obtain ⟨k, k1, k2, e1⟩ := i1.of i hi hi2
  obtain ⟨l, l1, l2, e2⟩ := i2.of j hj hj2
  rw [i2.out i (.inl hi2), e1, e2, i1.out l (.inr l1)]
  exact hx k l k1 k2 l1 l2
/-! ### One more, from below or from above -/
theorem one_up (d : Nat → Nat) (a k : Nat) (h : a ≤ k) : swp (rot d a (a + 1) (k + 1)) k (k + 1) = rot d a (a + 1) (k + 1 + 1) := funext fun i => by
  unfold swp rot
  (repeat' split) <;> first | rfl | (exfalso; omega) | (congr 1; omega)
theorem one_down (d : Nat → Nat) (m k : Nat) (h : k ≤ m) (h0 : 0 < k) : swp (rot d k m (m + 1)) k (k - 1) = rot d (k - 1) m (m + 1) := funext fun i => by
  unfold swp rot
  (repeat' split) <;> first | rfl | (exfalso; omega) | (congr 1; omega)
theorem srt_one_up {d : Nat → Nat} {a b i : Nat} (h2 : Srt d (a + 1) b) (hi : a + 1 ≤ i) (hb : i ≤ b) (lo : ∀ c, a + 1 ≤ c → c < i → kf (d c) < kf (d a)) (hh : ∀ c, i ≤ c → c < b → kf (d a) ≤ kf (d c)) : Srt (rot d a (a + 1) i) a b := by
  have fe : ∀ k, rot d a (a + 1) i k = if a ≤ k ∧ k < i - 1 then d (k + 1) else if k = i - 1 then d a else d k := fun k => by
    unfold rot
    (repeat' split) <;> first | rfl | (exfalso; omega) | (congr 1; omega)
  intro p q h1 hpq hq
  rw [fe, fe]
  by_cases c1 : a ≤ p ∧ p < i - 1
  · rw [if_pos c1]
    by_cases c2 : a ≤ q ∧ q < i - 1
    · rw [if_pos c2]; exact h2 _ _ (by omega) (by omega) (by omega)
    · rw [if_neg c2]
      by_cases c3 : q = i - 1
      · rw [if_pos c3]; exact Int.le_of_lt (lo _ (by omega) (by omega))
      · rw [if_neg c3]; exact h2 _ _ (by omega) (by omega) hq
  · rw [if_neg c1]
    by_cases c3 : p = i - 1
    · rw [if_pos c3, if_neg (by omega)]
      by_cases c4 : q = i - 1
      · rw [if_pos c4]; exact Int.le_refl _
      · rw [if_neg c4]; exact hh q (by omega) hq
    · rw [if_neg c3, if_neg (by omega), if_neg (by omega)]; exact h2 _ _ (by omega) hpq hq
theorem srt_one_down {d : Nat → Nat} {a m i : Nat} (h1 : Srt d a m) (hi : a ≤ i) (hm : i ≤ m) (lo : ∀ c, a ≤ c → c < i → kf (d c) ≤ kf (d m)) (hh : ∀ c, i ≤ c → c < m → kf (d m) < kf (d c)) : Srt (rot d i m (m + 1)) a (m + 1) := by
  have fe : ∀ k, rot d i m (m + 1) k = if k = i then d m else if i < k ∧ k < m + 1 then d (k - 1) else d k := fun k => by
    unfold rot
    (repeat' split) <;> first | rfl | (exfalso; omega) | (congr 1; omega)
  intro p q hp hpq hq
  rw [fe, fe]
  by_cases c1 : p = i
  · rw [if_pos c1]
    by_cases c2 : q = i
    · rw [if_pos c2]; exact Int.le_refl _
    · rw [if_neg c2, if_pos (by omega)]; exact Int.le_of_lt (hh _ (by omega) (by omega))
  · rw [if_neg c1]
    by_cases c3 : i < p ∧ p < m + 1
    · rw [if_pos c3, if_neg (by omega), if_pos (by omega)]; exact h1 _ _ (by omega) (by omega) (by omega)
    · rw [if_neg c3]
      by_cases c2 : q = i
      · rw [if_pos c2]; exact lo _ hp (by omega)
      · rw [if_neg c2]
        by_cases c4 : i < q ∧ q < m + 1
        · rw [if_pos c4]; exact h1 _ _ hp (by omega) (by omega)
        · rw [if_neg c4]; exact h1 _ _ hp hpq (by omega)
end Go.Proofs.Ytbpgbjhjnemaoaa
