/- Alarms in a row, each above no lesser one: the plain law of a heap. -/
import Derived.Test.YtammlneapiafeaaRows
namespace Go.Proofs.Ytammlneapiafeaa
abbrev Al := Int × Int
def ltA (a b : Al) : Prop := a.1 < b.1 ∨ (a.1 = b.1 ∧ a.2 < b.2)
instance (a b : Al) : Decidable (ltA a b) := by unfold ltA; exact inferInstance
def leA (a b : Al) : Prop := ¬ ltA b a
theorem leA_refl (a : Al) : leA a a := by unfold leA ltA; omega
theorem leA_of_lt {a b : Al} (h : ltA a b) : leA a b := by unfold leA; unfold ltA at *; omega
theorem leA_trans {a b c : Al} (h : leA a b) (k : leA b c) : leA a c := by unfold leA at *; unfold ltA at *; omega
theorem leA_total (a b : Al) : leA a b ∨ leA b a := by unfold leA ltA; omega
theorem leA_anti {a b : Al} (h : leA a b) (k : leA b a) : a = b := by
  unfold leA at *; unfold ltA at *
  have h1 : a.1 = b.1 := by omega
  have h2 : a.2 = b.2 := by omega
  exact Prod.ext h1 h2

def atA (L : List Al) (j : Nat) : Al := L.getD j (0, 0)
def swapL (L : List Al) (i k : Nat) : List Al := (L.set i (atA L k)).set k (atA L i)
theorem swapL_len (L : List Al) (i k : Nat) : (swapL L i k).length = L.length := by simp [swapL]
theorem atA_swap {L : List Al} {i k : Nat} (hi : i < L.length) (hk : k < L.length) (j : Nat) :
    atA (swapL L i k) j = if j = k then atA L i else if j = i then atA L k else atA L j := by
  unfold swapL
  by_cases h1 : j = k
  · subst h1
    rw [if_pos rfl]
    simp [atA, List.getD, hk]
  · rw [if_neg h1]
    by_cases h2 : j = i
    · subst h2
      rw [if_pos rfl]
      simp [atA, List.getD, hi, Ne.symm h1]
    · rw [if_neg h2]
      simp [atA, List.getD, Ne.symm h1, Ne.symm h2]
theorem atA_get {L : List Al} {i : Nat} (hi : i < L.length) : atA L i = L[i] := by simp [atA, List.getD, hi]
theorem swapL_perm {L : List Al} {i k : Nat} (hi : i < L.length) (hk : k < L.length) : (swapL L i k).Perm L := by
  unfold swapL
  rw [atA_get hi, atA_get hk]
  exact List.set_set_perm hi hk

def HeapOk (L : List Al) : Prop := ∀ j, 0 < j → j < L.length → leA (atA L ((j - 1) / 2)) (atA L j)
structure UpOk (L : List Al) (i : Nat) : Prop where
  rest : ∀ j, 0 < j → j < L.length → j ≠ i → leA (atA L ((j - 1) / 2)) (atA L j)
  over : ∀ j, 0 < j → j < L.length → (j - 1) / 2 = i → 0 < i → leA (atA L ((i - 1) / 2)) (atA L j)
structure DownOk (L : List Al) (i r : Nat) : Prop where
  rest : ∀ j, 0 < j → j < L.length → j ≠ i → (j - 1) / 2 ≠ i → leA (atA L ((j - 1) / 2)) (atA L j)
  over : ∀ j, 0 < j → j < L.length → (j - 1) / 2 = i → 0 < i → leA (atA L ((i - 1) / 2)) (atA L j)
  here : i = r ∨ (0 < i ∧ leA (atA L ((i - 1) / 2)) (atA L i))

theorem HeapOk.up {L : List Al} (h : HeapOk L) (i : Nat) (hi : i < L.length) : UpOk L i :=
  ⟨fun j h0 hj _ => h j h0 hj, fun j h0 hj hp hi0 => leA_trans (h i hi0 hi) (by have := h j h0 hj; rw [hp] at this; exact this)⟩
theorem UpOk.stop {L : List Al} {i : Nat} (h : UpOk L i) (hs : i = 0 ∨ ¬ ltA (atA L i) (atA L ((i - 1) / 2))) : HeapOk L := fun j h0 hj => by
  by_cases hji : j = i
  · subst hji
    rcases hs with hs | hs
    · omega
    · exact hs
  · exact h.rest j h0 hj hji
theorem UpOk.step {L : List Al} {i : Nat} (h : UpOk L i) (h0 : 0 < i) (hi : i < L.length) (hlt : ltA (atA L i) (atA L ((i - 1) / 2))) :
    UpOk (swapL L i ((i - 1) / 2)) ((i - 1) / 2) := by
  have hp : (i - 1) / 2 < L.length := by omega
  constructor
  · intro j hj0 hj hjp
    rw [swapL_len] at hj
    rw [atA_swap hi hp, atA_swap hi hp, if_neg hjp]
    by_cases hji : j = i
    · subst hji
      rw [if_pos rfl, if_pos rfl]
      exact leA_of_lt hlt
    · rw [if_neg hji]
      have hr := h.rest j hj0 hj hji
      by_cases hq : (j - 1) / 2 = (i - 1) / 2
      · rw [if_pos hq]
        rw [hq] at hr
        exact leA_trans (leA_of_lt hlt) hr
      · rw [if_neg hq]
        by_cases hq2 : (j - 1) / 2 = i
        · rw [if_pos hq2]
          exact h.over j hj0 hj hq2 h0
        · rw [if_neg hq2]
          exact hr
  · intro j hj0 hj hjp hp0
    rw [swapL_len] at hj
    rw [atA_swap hi hp, atA_swap hi hp, if_neg (by omega), if_neg (by omega), if_neg (by omega)]
    have hup := h.rest ((i - 1) / 2) hp0 hp (by omega)
    by_cases hji : j = i
    · rw [if_pos hji]
      exact hup
    · rw [if_neg hji]
      have hr := h.rest j hj0 hj hji
      rw [hjp] at hr
      exact leA_trans hup hr

theorem DownOk.stop {L : List Al} {i r : Nat} (h : DownOk L i r) (hi : i < L.length) (hr : r < L.length) (hs : ∀ j, 0 < j → j < L.length → (j - 1) / 2 = i → leA (atA L i) (atA L j)) : UpOk L r := by
  have hall : ∀ j, 0 < j → j < L.length → j ≠ i → leA (atA L ((j - 1) / 2)) (atA L j) := fun j h0 hj hji => by
    by_cases hq : (j - 1) / 2 = i
    · rw [hq]; exact hs j h0 hj hq
    · exact h.rest j h0 hj hji hq
  rcases h.here with rfl | ⟨hi0, hle⟩
  · exact ⟨hall, h.over⟩
  · refine HeapOk.up (fun j h0 hj => ?_) r hr
    by_cases hji : j = i
    · subst hji; exact hle
    · exact hall j h0 hj hji
theorem DownOk.step {L : List Al} {i r k : Nat} (h : DownOk L i r) (hi : i < L.length) (hk : k < L.length) (hk0 : 0 < k) (hki : (k - 1) / 2 = i) (hlt : ltA (atA L k) (atA L i))
    (hmin : ∀ j, 0 < j → j < L.length → (j - 1) / 2 = i → leA (atA L k) (atA L j)) : DownOk (swapL L k i) k r := by
  have hne : k ≠ i := by omega
  constructor
  · intro j hj0 hj hjk hjp
    rw [swapL_len] at hj
    rw [atA_swap hk hi, atA_swap hk hi]
    by_cases hji : j = i
    · subst hji
      rw [if_pos rfl, if_neg (by omega), if_neg (by omega)]
      exact h.over k hk0 hk hki hj0
    · rw [if_neg hji, if_neg hjk, if_neg hjp]
      by_cases hq : (j - 1) / 2 = i
      · rw [if_pos hq]
        exact hmin j hj0 hj hq
      · rw [if_neg hq]
        exact h.rest j hj0 hj hji hq
  · intro j hj0 hj hjp _
    rw [swapL_len] at hj
    rw [atA_swap hk hi, atA_swap hk hi, if_pos hki, if_neg (by omega), if_neg (by omega)]
    have := h.rest j hj0 hj (by omega) (by omega)
    rw [hjp] at this
    exact this
  · right
    refine ⟨hk0, ?_⟩
    rw [atA_swap hk hi, atA_swap hk hi, if_pos hki, if_neg hne, if_pos rfl]
    exact leA_of_lt hlt

theorem HeapOk.min {L : List Al} (h : HeapOk L) : ∀ j, j < L.length → leA (atA L 0) (atA L j) := by
  intro j
  induction j using Nat.strongRecOn with
  | _ j ih =>
    intro hj
    by_cases h0 : j = 0
    · subst h0; exact leA_refl _
    · exact leA_trans (ih ((j - 1) / 2) (by omega) (by omega)) (h j (by omega) hj)
theorem atA_append {L M : List Al} {j : Nat} (h : j < L.length) : atA (L ++ M) j = atA L j := by simp [atA, List.getD, List.getElem?_append_left h]
theorem HeapOk.push {L : List Al} (h : HeapOk L) (a : Al) : UpOk (L ++ [a]) L.length := by
  constructor
  · intro j hj0 hj hjl
    have hj' : j < L.length := by simp at hj; omega
    rw [atA_append hj', atA_append (by omega)]
    exact h j hj0 hj'
  · intro j hj0 hj hjp _
    simp at hj
    omega
theorem atA_take {L : List Al} {j m : Nat} (h : j < m) : atA (L.take m) j = atA L j := by simp [atA, List.getD, h]
theorem HeapOk.pull {L : List Al} (h : HeapOk L) {i : Nat} (hi : i + 1 < L.length) : DownOk ((swapL L i (L.length - 1)).take (L.length - 1)) i i := by
  have hl : ((swapL L i (L.length - 1)).take (L.length - 1)).length = L.length - 1 := by rw [List.length_take, swapL_len]; omega
  have hat : ∀ j, j < L.length - 1 → j ≠ i → atA ((swapL L i (L.length - 1)).take (L.length - 1)) j = atA L j := fun j hj hji => by
    rw [atA_take hj, atA_swap (by omega) (by omega), if_neg (by omega), if_neg hji]
  constructor
  · intro j hj0 hj hji hjp
    rw [hl] at hj
    rw [hat j hj hji, hat _ (by omega) hjp]
    exact h j hj0 (by omega)
  · intro j hj0 hj hjp hi0
    rw [hl] at hj
    rw [hat j hj (by omega), hat _ (by omega) (by omega)]
    have h1 := h j hj0 (by omega)
    rw [hjp] at h1
    exact leA_trans (h i hi0 (by omega)) h1
  · exact .inl rfl
theorem HeapOk.pullLast {L : List Al} (h : HeapOk L) {i : Nat} (hi : i + 1 = L.length) : HeapOk ((swapL L i (L.length - 1)).take (L.length - 1)) := by
  have hl : ((swapL L i (L.length - 1)).take (L.length - 1)).length = L.length - 1 := by rw [List.length_take, swapL_len]; omega
  intro j hj0 hj
  rw [hl] at hj
  rw [atA_take hj, atA_take (by omega), atA_swap (by omega) (by omega), atA_swap (by omega) (by omega), if_neg (by omega), if_neg (by omega), if_neg (by omega), if_neg (by omega)]
  exact h j hj0 (by omega)
end Go.Proofs.Ytammlneapiafeaa
