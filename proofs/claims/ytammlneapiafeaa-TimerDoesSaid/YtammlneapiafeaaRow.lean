/- The methods of timer.row on a row of alarms that lies in memory. -/
import Derived.Test.YtammlneapiafeaaHeap
import Derived.Test.YtammlneapiafeaaSep
import Derived.WalkKit
import Derived.WalkLawsBesides
import Derived.Lib.Hide
import Derived.Deep.QuietTactic
import Derived.BigQuiet
import Derived.Deep.RegionHeld3
import Derived.RegionTactic
namespace Go.Proofs.Ytammlneapiafeaa
open Go.RowKit
def cellsA (L : List Al) : List Value := L.flatMap fun a => [.int .u64 a.1, .int .i64 a.2]
theorem cellsA_len (L : List Al) : (cellsA L).length = L.length * 2 := by
  induction L with
  | nil => rfl
  | cons a L ih => simp [cellsA] at *; omega
theorem cellsA_at (L : List Al) (j : Nat) (hj : j < L.length) : (cellsA L)[j * 2]? = some (.int .u64 (atA L j).1) ∧ (cellsA L)[j * 2 + 1]? = some (.int .i64 (atA L j).2) := by
  induction L generalizing j with
  | nil => simp at hj
  | cons a L ih =>
    cases j with
    | zero => exact ⟨rfl, rfl⟩
    | succ j =>
      have h := ih j (by simpa using hj)
      have e : cellsA (a :: L) = .int .u64 a.1 :: .int .i64 a.2 :: cellsA L := rfl
      have e2 : atA (a :: L) (j + 1) = atA L j := by simp [atA, List.getD]
      rw [e, e2, show (j + 1) * 2 = j * 2 + 1 + 1 by omega, show j * 2 + 1 + 1 + 1 = (j * 2 + 1) + 1 + 1 by omega]
      simp only [List.getElem?_cons_succ]
      exact h

/-- A row of alarms lies in memory. -/
def RowAt (w : World) (v : Value) (L : List Al) (row : Option Nat) : Prop := Own w 59 2 v L.length (cellsA L) row

theorem len_row (v : Value) (L : List Al) (row : Option Nat) (w : World) (h : RowAt w v L row) :
    Calls Try.prog 47 #[v] w fun e w' => e = .returned (.int .i64 L.length) ∧ w = w' := by
  obtain ⟨A, c, rfl, hc⟩ := Own.shape h
  go_enter Try.func47, Try.ntmps47
  go_wp2
  go_ret
  exact ⟨rfl, rfl⟩

set_option maxRecDepth 100000 in
set_option maxHeartbeats 400000 in
theorem less_row (v : Value) (L : List Al) (row : Option Nat) (i k : Nat) (hi : i < L.length) (hk : k < L.length) (w : World) (h : RowAt w v L row) :
    Calls Try.prog 48 #[v, .int .i64 i, .int .i64 k] w fun e w' => e = .returned (.bool (decide (ltA (atA L i) (atA L k)))) ∧ ∃ n, w' = w.drewN n := by
  obtain ⟨g, off, c, cur, rfl, _, hb, hc0, hnc, hcm, hcs, hx⟩ := Own.at_ h (by omega)
  obtain ⟨hi1, hi2⟩ := cellsA_at L i hi
  obtain ⟨hk1, hk2⟩ := cellsA_at L k hk
  have ci1 := (hb.cell _).trans (hx _ _ hi1)
  have ci2 : w.cell? ⟨g, off + i * 2 + 1, none⟩ = _ := (hb.cell _).trans (hx _ _ hi2)
  have ck1 := (hb.cell _).trans (hx _ _ hk1)
  have ck2 : w.cell? ⟨g, off + k * 2 + 1, none⟩ = _ := (hb.cell _).trans (hx _ _ hk2)
  clear hi1 hi2 hk1 hk2 hx hb
  obtain ⟨x, hxe⟩ : ∃ x, x = atA L i := ⟨_, rfl⟩
  obtain ⟨y, hye⟩ : ∃ y, y = atA L k := ⟨_, rfl⟩
  rw [← hxe] at ci1 ci2 ⊢
  rw [← hye] at ck1 ck2 ⊢
  clear hxe hye h
  obtain ⟨x1, x2⟩ := x
  obtain ⟨y1, y2⟩ := y
  simp only at ci1 ci2 ck1 ck2
  by_cases h1 : x1 < y1
  · have hd : decide (ltA (x1, x2) (y1, y2)) = true := decide_eq_true (.inl h1)
    have Hd := Lib.hid hd; clear hd
    go_enter Try.func48, Try.ntmps48
    go_wp2_with fail
    go_quiet (fail)
    go_wp2_with fail
    go_ret
    exact ⟨ret_bool Hd.out.symm, _, rfl⟩
  · by_cases h2 : x1 = y1
    · have hd : decide (ltA (x1, x2) (y1, y2)) = decide (x2 < y2) := decide_eq_decide.2 ⟨fun h => h.elim (fun h => absurd h h1) (fun h => h.2), fun h => .inr ⟨h2, h⟩⟩
      have Hd := Lib.hid hd; clear hd
      have h1' : decide (x1 < y1) = false := decide_eq_false h1
      have h2' : ((x1 : Int) == y1) = true := beq_iff_eq.2 h2
      clear h2
      go_enter Try.func48, Try.ntmps48
      go_wp2_with fail
      go_quiet (fail)
      go_wp2_with fail
      go_ret
      exact ⟨ret_bool Hd.out.symm, _, rfl⟩
    · have hd : decide (ltA (x1, x2) (y1, y2)) = false := decide_eq_false (fun h => h.elim h1 (fun h => h2 h.1))
      have Hd := Lib.hid hd; clear hd
      have h1' : decide (x1 < y1) = false := decide_eq_false h1
      have h2' : ((x1 : Int) == y1) = false := beq_false_of_ne h2
      go_enter Try.func48, Try.ntmps48
      go_wp2_with fail
      go_quiet (fail)
      go_wp2_with fail
      go_ret
      exact ⟨ret_bool Hd.out.symm, _, rfl⟩

theorem cells_set (L : List Al) (off : Nat) (cur : Array Value) (hx : ∀ j u, (cellsA L)[j]? = some u → cur[off + j]? = some u) (i : Nat) (hi : i < L.length) (a : Al) :
    ∀ j u, (cellsA (L.set i a))[j]? = some u → ((cur.setIfInBounds (off + i * 2) (.int .u64 a.1)).setIfInBounds (off + i * 2 + 1) (.int .i64 a.2))[off + j]? = some u := by
  intro j u hu
  have hj : j < (cellsA (L.set i a)).length := (List.getElem?_eq_some_iff.1 hu).1
  rw [cellsA_len, List.length_set] at hj
  have hs : ∀ m, m < L.length * 2 → off + m < cur.size := fun m hm => by
    have h := hx m _ (List.getElem?_eq_getElem (by rw [cellsA_len]; exact hm))
    exact (Array.getElem?_eq_some_iff.1 h).1
  have hset : ∀ q, q < L.length → atA (L.set i a) q = if q = i then a else atA L q := fun q hq => by
    by_cases hqi : q = i
    · subst hqi; simp [atA, List.getD, hq]
    · simp [atA, List.getD, hqi, Ne.symm hqi]
  obtain ⟨q, hq⟩ : ∃ q, q = j / 2 := ⟨_, rfl⟩
  have hql : q < L.length := by omega
  have h1 := cellsA_at (L.set i a) q (by rw [List.length_set]; exact hql)
  have h2 := cellsA_at L q hql
  rw [hset q hql] at h1
  have hi2 := hs (i * 2) (by omega)
  have hi3 := hs (i * 2 + 1) (by omega)
  by_cases hr : j % 2 = 0
  · obtain rfl : j = q * 2 := by omega
    rw [h1.1] at hu
    injection hu with hu
    subst hu
    rw [Array.getElem?_setIfInBounds, if_neg (by omega), Array.getElem?_setIfInBounds]
    by_cases hqi : q = i
    · subst hqi
      rw [if_pos rfl, if_pos (by omega), if_pos rfl]
    · rw [if_neg (by omega), if_neg hqi]
      exact hx _ _ h2.1
  · obtain rfl : j = q * 2 + 1 := by omega
    rw [h1.2] at hu
    injection hu with hu
    subst hu
    rw [Array.getElem?_setIfInBounds]
    by_cases hqi : q = i
    · subst hqi
      rw [if_pos (by omega), if_pos (by simp; omega), if_pos rfl]
    · rw [if_neg (by omega), Array.getElem?_setIfInBounds, if_neg (by omega), if_neg hqi]
      exact hx _ _ h2.2

set_option maxRecDepth 100000 in
set_option maxHeartbeats 400000 in
theorem swap_row (v : Value) (L : List Al) (row : Option Nat) (i k : Nat) (hi : i < L.length) (hk : k < L.length) (w : World) (h : RowAt w v L row) :
    Calls Try.prog 28 #[v, .int .i64 i, .int .i64 k] w fun e w' => e = .returned (.tuple #[]) ∧ RowAt w' v (swapL L i k) row ∧ Touch row.toList w w' := by
  obtain ⟨g, off, c, cur, rfl, hrow, hb, hc0, hnc, hcm, hcs, hx⟩ := Own.at_ h (by omega)
  obtain ⟨hi1, hi2⟩ := cellsA_at L i hi
  obtain ⟨hk1, hk2⟩ := cellsA_at L k hk
  have ci1 := (hb.cell _).trans (hx _ _ hi1)
  have ci2 : w.cell? ⟨g, off + i * 2 + 1, none⟩ = _ := (hb.cell _).trans (hx _ _ hi2)
  have ck1 := (hb.cell _).trans (hx _ _ hk1)
  have ck2 : w.cell? ⟨g, off + k * 2 + 1, none⟩ = _ := (hb.cell _).trans (hx _ _ hk2)
  have f1 := hb.frozen (off + i * 2)
  have f2 := hb.frozen (off + i * 2 + 1)
  have f3 := hb.frozen (off + k * 2)
  have f4 := hb.frozen (off + k * 2 + 1)
  have Hb := Lib.hid hb
  have hcells := cells_set _ off _ (cells_set L off cur hx i hi (atA L k)) k (by rw [List.length_set]; exact hk) (atA L i)
  have Hx := Lib.hid hcells
  clear hi1 hi2 hk1 hk2 hx hb hcells
  obtain ⟨x, hxe⟩ : ∃ x, x = atA L i := ⟨_, rfl⟩
  obtain ⟨y, hye⟩ : ∃ y, y = atA L k := ⟨_, rfl⟩
  rw [← hxe] at ci1 ci2
  rw [← hye] at ck1 ck2
  have Hxe := Lib.hid hxe; have Hye := Lib.hid hye
  clear hxe hye h
  obtain ⟨x1, x2⟩ := x
  obtain ⟨y1, y2⟩ := y
  simp only at ci1 ci2 ck1 ck2
  go_enter Try.func28, Try.ntmps28
  go_wp2_with fail
  have hsz : ∀ (cs : Array Value) (m : Nat), m < cs.size → ∃ u, cs[m]? = some u := fun cs m hm => ⟨cs[m], Array.getElem?_eq_getElem hm⟩
  obtain ⟨u1, hu1⟩ := hsz (cur.setIfInBounds (off + i * 2) (.int .u64 y1)) (off + k * 2) (by simp; omega)
  obtain ⟨u2, hu2⟩ := hsz ((cur.setIfInBounds (off + i * 2) (.int .u64 y1)).setIfInBounds (off + i * 2 + 1) (.int .i64 y2)) (off + k * 2 + 1) (by simp; omega)
  have d1 : (w.setCell ⟨g, off + i * 2, none⟩ (.int .u64 y1)).cell? ⟨g, off + k * 2, none⟩ = some u1 := ((Hb.out.set_ _ _).cell _).trans hu1
  have d2 : ((w.setCell ⟨g, off + i * 2, none⟩ (.int .u64 y1)).setCell ⟨g, off + i * 2 + 1, none⟩ (.int .i64 y2)).cell? ⟨g, off + k * 2 + 1, none⟩ = some u2 := (((Hb.out.set_ _ _).set_ _ _).cell _).trans hu2
  clear hu1 hu2 hsz
  go_region
  go_end0
  have hr1 : off + i * 2 + 1 < off + c * 2 := by omega
  refine ⟨rfl, ⟨by rw [cellsA_len, swapL_len], .inr ⟨g, off, c, _, by rw [swapL_len], hrow, ((((Hb.out.set_ _ _).set_ _ _).set_ _ _).set_ _ _).drew, hc0, by rw [swapL_len]; exact hnc, hcm, by simp; exact hcs, ?_⟩⟩, ?_⟩
  · have h := Hx.out
    rw [← Hxe.out, ← Hye.out] at h
    unfold swapL
    rw [← Hxe.out, ← Hye.out]
    exact h
  · have hg : g ∈ row.toList := by rw [hrow]; simp
    exact (((((Touch.refl _ w).setCell (p := ⟨g, _, none⟩) (.inl hg) _).setCell (p := ⟨g, _, none⟩) (.inl hg) _).setCell (p := ⟨g, _, none⟩) (.inl hg) _).setCell (p := ⟨g, _, none⟩) (.inl hg) _).drew
end Go.Proofs.Ytammlneapiafeaa
