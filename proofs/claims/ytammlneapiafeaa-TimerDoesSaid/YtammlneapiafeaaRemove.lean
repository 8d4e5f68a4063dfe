/- timer.Heap in memory; remove takes the alarm at a place away. -/
import Derived.Test.YtammlneapiafeaaUpDown
namespace Go.Proofs.Ytammlneapiafeaa
open Go.RowKit
/-- A heap lies at block p: its row of alarms, how many there can be. -/
def HAt (w : World) (p : Nat) (L : List Al) (most : Int) (row : Option Nat) : Prop :=
  ∃ A c, Blk w p 56 #[.slice A L.length c, .int .i64 most] ∧ RowAt w (.slice A L.length c) L row
theorem HAt.touch {w w' : World} {p : Nat} {L : List Al} {most : Int} {row : Option Nat} {S : List Nat} (h : HAt w p L most row) (ht : Touch S w w')
    (hp : p ∉ S) (hr : ∀ g, row = some g → g ∉ S) : HAt w' p L most row := by
  obtain ⟨A, c, hb, ho⟩ := h
  exact ⟨A, c, hb.touch ht hp, ho.touch ht hr⟩
theorem HAt.lt {w : World} {p : Nat} {L : List Al} {most : Int} {row : Option Nat} (h : HAt w p L most row) : p < w.heap.size := by
  obtain ⟨A, c, hb, ho⟩ := h
  exact hb.lt
theorem HAt.rowLt {w : World} {p : Nat} {L : List Al} {most : Int} {row : Option Nat} (h : HAt w p L most row) {g : Nat} (hg : row = some g) : g < w.heap.size := by
  obtain ⟨A, c, hb, ho⟩ := h
  exact ho.lt hg

/-- v[:m] -/
theorem RowAt.take {w : World} {A : Option Addr} {n c m : Nat} {L : List Al} {row : Option Nat} (hn : L.length = n) (h : RowAt w (.slice A n c) L row) (hm : m ≤ n) (h0 : 0 < n) :
    RowAt w (.slice A m c) (L.take m) row := by
  unfold RowAt at *
  obtain ⟨g, off, c', cur, hv, hr, hb, hc0, hnc, hcm, hcs, hx⟩ := h.at_ (by omega)
  injection hv with hA _ hc
  subst hA; subst hc
  refine ⟨cellsA_len _, .inr ⟨g, off, c, cur, by rw [List.length_take, Nat.min_eq_left (by omega)], hr, hb, hc0, by rw [List.length_take]; omega, hcm, hcs, fun j u hu => ?_⟩⟩
  have hj : j < (cellsA (L.take m)).length := (List.getElem?_eq_some_iff.1 hu).1
  rw [cellsA_len, List.length_take] at hj
  have h1 := cellsA_at (L.take m) (j / 2) (by rw [List.length_take]; omega)
  have h2 := cellsA_at L (j / 2) (by omega)
  rw [atA_take (by omega)] at h1
  have hjj : j = j / 2 * 2 ∨ j = j / 2 * 2 + 1 := by omega
  rcases hjj with hjj | hjj
  · rw [hjj, h1.1] at hu
    rw [hjj]
    exact hx _ _ (h2.1.trans hu)
  · rw [hjj, h1.2] at hu
    rw [hjj]
    exact hx _ _ (h2.2.trans hu)

theorem pull_perm {L : List Al} {i m : Nat} (hm : L.length = m + 1) (hi : i < L.length) : ((swapL L i m).take m).Perm (L.eraseIdx i) := by
  have hl : (swapL L i m).length = m + 1 := by rw [swapL_len, hm]
  have h1 : swapL L i m = (swapL L i m).take m ++ [L[i]] := by
    have h := List.take_append_getElem (l := swapL L i m) (i := m) (by omega)
    rw [List.take_of_length_le (show (swapL L i m).length ≤ m + 1 by omega)] at h
    have h2 : (swapL L i m)[m]'(by omega) = L[i] := by
      rw [← atA_get (by omega), atA_swap hi (by omega), if_pos rfl, atA_get hi]
    rw [h2] at h
    exact h.symm
  have h2 := swapL_perm hi (show m < L.length by omega)
  rw [h1] at h2
  have h3 : (L[i] :: (swapL L i m).take m).Perm L := (List.perm_append_singleton _ _).symm.trans h2
  have h4 : (L[i] :: L.eraseIdx i).Perm L := by
    have e1 : L = L.take i ++ L[i] :: L.drop (i + 1) := by simp
    have e2 : L.eraseIdx i = L.take i ++ L.drop (i + 1) := List.eraseIdx_eq_take_drop_succ L i
    rw [e2]
    exact List.perm_middle.symm.trans (by rw [← e1])
  exact (h3.trans h4.symm).cons_inv

set_option maxRecDepth 100000 in
set_option maxHeartbeats 1000000 in
theorem remove_any (p : Nat) (L : List Al) (most : Int) (row : Option Nat) (i : Nat) (hn : L.length ≤ 100000) (hi : i < L.length) (hh : HeapOk L) (w : World) (h : HAt w p L most row) :
    Calls Try.prog 24 #[.pointer (some ⟨p, 0, none⟩), .int .i64 i] w fun e w' => e = .returned (.tuple #[]) ∧ ∃ M : List Al, HeapOk M ∧ M.Perm (L.eraseIdx i) ∧ HAt w' p M most row ∧ Touch (p :: row.toList) w w' := by
  obtain ⟨A, c, hb, ho⟩ := h
  obtain ⟨m, hm⟩ : ∃ m, L.length = m + 1 := ⟨L.length - 1, by omega⟩
  rw [hm] at hb ho
  have hperm := pull_perm hm hi
  have hpr := ho.ne_ hb (by decide)
  have hc0 : w.cell? ⟨p, 0, none⟩ = some (.slice A (m + 1) c) := hb.cell 0
  have hmc : m + 1 ≤ c := by obtain ⟨A', c', hv, hc'⟩ := ho.shape; injection hv with _ _ hcc; omega
  have hlen : ((swapL L i m).take m).length = m := by rw [List.length_take, swapL_len]; omega
  have Hm := Lib.hid hm
  have Hlen := Lib.hid hlen
  have Hb := Lib.hid hb
  have Hperm := Lib.hid hperm
  have Hpr := Lib.hid hpr
  clear hb hperm hpr hlen
  by_cases hlast : i = m
  · subst hlast
    have hfin := hh.pullLast (i := i) (by omega)
    rw [hm, show i + 1 - 1 = i by omega] at hfin
    have Hfin := Lib.hid hfin
    have Hh := Lib.hid hh
    clear hfin hh hm
    go_enter Try.func24, Try.ntmps24
    go_wp2_with fail
    refine (swap_row _ L row i i hi (by have := Hm.out; omega) _ ho).mono ?_
    rintro e w1 ⟨rfl, hr1, ht1⟩
    have hb1 := Hb.out.touch ht1 (notin_row Hpr.out)
    have hc1 : w1.cell? ⟨p, 0, none⟩ = some (.slice A (i + 1) c) := hb1.cell 0
    have hf1 : w1.frozen? ⟨p, 0, none⟩ = false := hb1.frozen 0
    have Hb1 := Lib.hid hb1
    have Hr1 := Lib.hid hr1
    have Ht1 := Lib.hid ht1
    clear hb1 hc0 ho hr1 ht1
    go_wp2_with fail
    go_end0
    have hr2 := Hr1.out.take (m := i) (by rw [swapL_len]; exact Hm.out) (by omega) (by omega)
    refine ⟨rfl, _, Hfin.out, Hperm.out, ⟨A, c, ?_, ?_⟩, (Ht1.out.mono (fun k hk _ => List.mem_cons_of_mem _ hk)).setCell (p := ⟨p, 0, none⟩) (.inl (by simp)) _⟩
    · rw [Hlen.out]; exact Hb1.out.set_ 0 _
    · rw [Hlen.out]; exact Own.far hr2 (a := ⟨p, 0, none⟩) Hpr.out _
  · have hfin := hh.pull (i := i) (by omega)
    rw [hm, show m + 1 - 1 = m by omega] at hfin
    have him : i < m := by omega
    have hmb : m ≤ 100000 := by omega
    have Hfin := Lib.hid hfin
    have Hh := Lib.hid hh
    clear hfin hh hm hlast
    go_enter Try.func24, Try.ntmps24
    go_wp2_with fail
    refine (swap_row _ L row i m hi (by have := Hm.out; omega) _ ho).mono ?_
    rintro e w1 ⟨rfl, hr1, ht1⟩
    have hb1 := Hb.out.touch ht1 (notin_row Hpr.out)
    have hc1 : w1.cell? ⟨p, 0, none⟩ = some (.slice A (m + 1) c) := hb1.cell 0
    have hf1 : w1.frozen? ⟨p, 0, none⟩ = false := hb1.frozen 0
    have hr2 := hr1.take (m := m) (by rw [swapL_len]; exact Hm.out) (by omega) (by omega)
    have hb2 := hb1.set_ 0 (.slice A m c)
    have hr3 : RowAt _ _ _ _ := Own.far hr2 (a := ⟨p, 0, none⟩) Hpr.out (.slice A m c)
    have ht3 : Touch (p :: row.toList) w _ := (ht1.mono (fun k hk _ => List.mem_cons_of_mem _ hk)).setCell (p := ⟨p, 0, none⟩) (.inl (by simp)) (.slice A m c)
    have Hb2 := Lib.hid hb2
    have Hr3 := Lib.hid hr3
    have Ht3 := Lib.hid ht3
    clear hb1 hc0 ho hr1 ht1 hr2 hb2 hr3 ht3
    go_wp2_with fail
    refine (down_row _ ((swapL L i m).take m) row i (by rw [Hlen.out]; omega) (by rw [Hlen.out]; exact him) Hfin.out _ Hr3.out).mono ?_
    rintro e w4 ⟨rfl, M4, hu4, hp4, hr4, ht4⟩
    have hb4 := Hb2.out.touch ht4 (notin_row Hpr.out)
    have hc4 : w4.cell? ⟨p, 0, none⟩ = some (.slice A m c) := hb4.cell 0
    have hl4 : M4.length = m := hp4.length_eq.trans Hlen.out
    have Hb4 := Lib.hid hb4
    have Hl4 := Lib.hid hl4
    have Hu4 := Lib.hid hu4
    have Hp4 := Lib.hid hp4
    have Hr4 := Lib.hid hr4
    have Ht4 := Lib.hid ht4
    clear hb4 hl4 hu4 hp4 hr4 ht4
    go_wp2_with fail
    refine (up_row _ M4 row i (by rw [Hl4.out]; omega) (by rw [Hl4.out]; exact him) Hu4.out _ Hr4.out).mono ?_
    rintro e w5 ⟨rfl, M5, hh5, hp5, hr5, ht5⟩
    have Hb5 := Lib.hid (Hb4.out.touch ht5 (notin_row Hpr.out))
    have Hl5 := Lib.hid (hp5.length_eq.trans Hl4.out)
    have Hh5 := Lib.hid hh5
    have Hp5 := Lib.hid hp5
    have Hr5 := Lib.hid hr5
    have Ht5 := Lib.hid ht5
    clear hh5 hp5 hr5 ht5
    go_wp2_with fail
    go_end0
    refine ⟨rfl, M5, Hh5.out, (Hp5.out.trans Hp4.out).trans Hperm.out, ⟨A, c, ?_, ?_⟩, (Ht3.out.trans (Ht4.out.mono (fun k hk _ => List.mem_cons_of_mem _ hk))).trans (Ht5.out.mono (fun k hk _ => List.mem_cons_of_mem _ hk))⟩
    · rw [Hl5.out]; exact Hb5.out
    · rw [Hl5.out]; exact Hr5.out
end Go.Proofs.Ytammlneapiafeaa
