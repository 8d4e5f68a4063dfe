/- Where an alarm stands. -/
import Derived.Test.YtammlneapiafeaaRemove
namespace Go.Proofs.Ytammlneapiafeaa
open Go.RowKit
/-- The place of an id, or how many there are. -/
def placeA (L : List Al) (id : Int) : Nat := L.findIdx (fun a => a.2 == id)
theorem placeA_le (L : List Al) (id : Int) : placeA L id ≤ L.length := List.findIdx_le_length
theorem placeA_at {L : List Al} {id : Int} (h : placeA L id < L.length) : (atA L (placeA L id)).2 = id := by
  have := List.findIdx_getElem (w := h)
  rw [atA_get h]
  exact beq_iff_eq.1 this
theorem placeA_eq {L : List Al} {id : Int} {k : Nat} (hk : k < L.length) (h : (atA L k).2 = id) (hb : ∀ j, j < k → (atA L j).2 ≠ id) : placeA L id = k := by
  unfold placeA
  rw [List.findIdx_eq hk]
  refine ⟨by rw [← atA_get hk]; simpa using h, fun j hj => ?_⟩
  have := hb j hj
  rw [atA_get (by omega)] at this
  simpa using this
theorem placeA_none {L : List Al} {id : Int} (hb : ∀ j, j < L.length → (atA L j).2 ≠ id) : placeA L id = L.length := by
  unfold placeA
  rw [List.findIdx_eq_length]
  intro a ha
  obtain ⟨j, hj, rfl⟩ := List.getElem_of_mem ha
  have := hb j hj
  rw [atA_get hj] at this
  simpa using this
def findA (L : List Al) (id : Int) : Int := if placeA L id < L.length then placeA L id else -1

set_option maxRecDepth 100000 in
set_option maxHeartbeats 1000000 in
theorem find1_any (a : Al) (q : Nat) (id : Int) (w : World) (hq : Blk w q 3 #[.int .i64 id]) :
    Calls Try.prog 27 #[.agg #[.int .u64 a.1, .int .i64 a.2], .pointer (some ⟨q, 0, none⟩)] w fun e w' => e = .returned (.bool (a.2 == id)) ∧ Touch [] w w' := by
  obtain ⟨x, y⟩ := a
  have hc : ∀ o, (w.alloc o).cell? ⟨q, 0, none⟩ = some (.int .i64 id) := fun o => (hq.alloc o).cell 0
  clear hq
  go_enter Try.func27, Try.ntmps27
  go_wp2_with fail
  go_ret
  exact ⟨rfl, ((Touch.refl [] w).alloc _)⟩
set_option maxRecDepth 100000 in
set_option maxHeartbeats 1000000 in
theorem index_any (v : Value) (L : List Al) (row : Option Nat) (q : Nat) (id : Int) (hn : L.length ≤ 100000) (w : World) (h : RowAt w v L row) (hq : Blk w q 3 #[.int .i64 id]) :
    Calls Try.prog 26 #[v, .func (.func 27) #[] #[.pointer (some ⟨q, 0, none⟩)]] w fun e w' => e = .returned (.int .i64 (findA L id)) ∧ Touch [] w w' := by
  obtain ⟨A, c, hv, hnc⟩ := h.shape
  subst hv
  have HR := Lib.hid h
  have HQ := Lib.hid hq
  clear h hq
  go_enter Try.func26, Try.ntmps26
  go_wp2_with fail
  go_loopw [8] (fun vk wr => ∃ (k : Nat), vk = .int .i64 k ∧ k ≤ L.length ∧ (∀ j, j < k → (atA L j).2 ≠ id) ∧ Touch [] w wr) (fun vk _ => L.length - (intOf vk).toNat)
  case atStart => exact ⟨0, rfl, by omega, fun _ h => by omega, Touch.refl _ _⟩
  case round =>
    obtain ⟨k, rfl, hk, hno, ht⟩ := hrel
    have Hno := Lib.hid hno
    have hr := HR.out.touch ht (by simp)
    have hqq := HQ.out.touch ht (by simp)
    have Ht := Lib.hid ht
    have Hqq := Lib.hid hqq
    clear hno hqq ht
    by_cases hlt : k < L.length
    · obtain ⟨g, off, c', cur, hv, hrow, hb, hc0, hnc, hcm, hcs, hx⟩ := hr.at_ (by omega)
      injection hv with hA _ hcc
      subst hA; subst hcc
      obtain ⟨h1, h2⟩ := cellsA_at L k hlt
      have c1 := (hb.cell _).trans (hx _ _ h1)
      have c2 : wr.cell? ⟨g, off + k * 2 + 1, none⟩ = _ := (hb.cell _).trans (hx _ _ h2)
      clear hrow hb hx h1 h2 hr
      obtain ⟨x, hxe⟩ : ∃ x, x = atA L k := ⟨_, rfl⟩
      rw [← hxe] at c1 c2
      have Hxe := Lib.hid hxe
      clear hxe
      go_wp2_with fail
      refine (find1_any x q id wr Hqq.out).mono ?_
      rintro e w2 ⟨rfl, ht2⟩
      have Ht2 := Lib.hid ht2
      clear ht2 c1 c2 hc0 hcm hcs
      by_cases hid : x.2 = id
      · have hb1 : (x.2 == id) = true := beq_iff_eq.2 hid
        have Hid' := Lib.hid hid
        clear hid
        go_wp2_with fail
        go_ret
        have hp : placeA L id = k := placeA_eq hlt (by rw [← Hxe.out]; exact Hid'.out) Hno.out
        refine ⟨ret_int ?_, Ht.out.trans Ht2.out⟩
        unfold findA
        rw [hp, if_pos hlt]
      · have hb1 : (x.2 == id) = false := beq_false_of_ne hid
        have Hid' := Lib.hid hid
        clear hid
        go_wp2_with fail
        go_roundw
        case rel => exact ⟨k + 1, by go_num, by omega, fun j hj => (by
          by_cases hjk : j = k
          · rw [hjk, ← Hxe.out]; exact Hid'.out
          · exact Hno.out j (by omega)), Ht.out.trans Ht2.out⟩
        case measure => simp [intOf]; omega
    · obtain rfl : k = L.length := by omega
      clear hr
      go_wp2_with fail
      go_ret
      refine ⟨ret_int ?_, Ht.out⟩
      unfold findA
      rw [placeA_none Hno.out, if_neg (by omega)]
set_option maxRecDepth 100000 in
set_option maxHeartbeats 1000000 in
theorem find_any (p : Nat) (L : List Al) (most : Int) (row : Option Nat) (id : Int) (hn : L.length ≤ 100000) (w : World) (h : HAt w p L most row) :
    Calls Try.prog 22 #[.pointer (some ⟨p, 0, none⟩), .int .i64 id] w fun e w' => e = .returned (.int .i64 (findA L id)) ∧ Touch [] w w' := by
  obtain ⟨A, c, hb, ho⟩ := h
  have hc0 : ∀ o, (w.alloc o).cell? ⟨p, 0, none⟩ = some (.slice A L.length c) := fun o => (hb.alloc o).cell 0
  have Ho := Lib.hid ho
  clear hb ho
  go_enter Try.func22, Try.ntmps22
  go_wp2_with fail
  refine (index_any _ L row w.heap.size id hn _ (Own.alloc Ho.out _) (Blk.new _ _ _)).mono ?_
  rintro e w2 ⟨rfl, ht2⟩
  have Ht2 := Lib.hid ht2
  clear ht2 hc0
  go_wp2_with fail
  go_ret
  exact ⟨rfl, ((Touch.refl [] w).alloc _).trans Ht2.out⟩
end Go.Proofs.Ytammlneapiafeaa
