/- The methods of syngraphref18.Queue, each by what it does to a queue among other objects. -/
import Derived.Test.YtkphcgcciiefoaaQueue
import Derived.Test.YtkphcgcciiefoaaSame
namespace Go.Proofs.Ytkphcgcciiefoaa
open Go.RowKit
/-- The document's queue lies at block p. -/
def RAt (w : World) (p : Nat) (L : List ByteArray) (most lost : Int) (row : Option Nat) : Prop :=
  ∃ A c, Blk w p 48 #[.slice A L.length c, .int .i64 most, .int .u64 lost] ∧ Own w 9 1 (.slice A L.length c) L.length (cellsS L) row
def rRes (p : Nat) (L : List ByteArray) (most lost : Int) : Res where
  P F w := ∃ row, F = p :: Option.toList row ∧ RAt w p L most lost row
  loc F w w' h hk := by
    obtain ⟨row, rfl, A, c, hb, ho⟩ := h
    obtain ⟨row', hr', ho'⟩ := (slRes 9 1 (.slice A L.length c) L.length (cellsS L)).loc (Option.toList row) w w' ⟨row, rfl, ho⟩ (fun k hk' => hk k (List.mem_cons_of_mem _ hk'))
    have : row = row' := by cases row <;> cases row' <;> simp_all
    subst this
    exact ⟨row, rfl, A, c, (hk p (by simp)).trans hb, ho'⟩
  lt F w h k hk := by
    obtain ⟨row, rfl, A, c, hb, ho⟩ := h
    rcases List.mem_cons.1 hk with rfl | hk
    · exact hb.lt
    · exact ho.lt (Option.mem_toList.1 hk)

theorem refNew_bad (m : Int) (w : World) (h : m < 1 ∨ 1000 < m) :
    Calls Try.prog 16 #[.int .i64 m] w fun e w' => e = .returned (.tuple #[.pointer none, .int .i64 1]) ∧ w = w' := by
  by_cases h1 : m < 1
  · go_enter Try.func16, Try.ntmps16
    go_wp2
    go_ret2
    exact ⟨rfl, rfl⟩
  · have h2 : 1000 < m := by omega
    go_enter Try.func16, Try.ntmps16
    go_wp2
    go_ret2
    exact ⟨rfl, rfl⟩
theorem refNew_ok (m : Int) (w : World) (h1 : 1 ≤ m) (h2 : m ≤ 1000) :
    Calls Try.prog 16 #[.int .i64 m] w fun e w' => e = .returned (.tuple #[.pointer (some ⟨w.heap.size, 0, none⟩), .int .i64 0]) ∧ w.alloc (.cells #[.slice none 0 0, .int .i64 m, .int .u64 0] 48) = w' := by
  have h1' : ¬ m < 1 := by omega
  have h2' : ¬ 1000 < m := by omega
  go_enter Try.func16, Try.ntmps16
  go_wp2
  go_ret2
  exact ⟨rfl, rfl⟩

def RDid (w : World) (p : Nat) (row : Option Nat) (L : List ByteArray) (most lost : Int) (v : Value) (e : Ending) (w' : World) : Prop :=
  ∃ row', e = .returned v ∧ RAt w' p L most lost row' ∧ Touch (p :: row.toList) w w' ∧ NewRow w row row'

/-- The test of Put's loop, gone through: is the text there, and what is left to do. -/
theorem rput_any (p : Nat) (L : List ByteArray) (most : Int) (lost : Nat) (row : Option Nat) (s : ByteArray) (w : World) (h : RAt w p L most lost row) (hlen : L.length ≤ 1000) (hl1 : lost ≤ 1000) :
    Calls Try.prog 17 #[.pointer (some ⟨p, 0, none⟩), .string s] w
      (RDid w p row (putL L most s) most (putLost L most lost s) (.int .i64 (putCode L most s))) := by
  obtain ⟨A, c, hb, ho⟩ := h
  have hc0 : w.cell? ⟨p, 0, none⟩ = some (.slice A L.length c) := hb.cell 0
  have hc1 : w.cell? ⟨p, 1, none⟩ = some (.int .i64 most) := hb.cell 1
  have hc2 : w.cell? ⟨p, 2, none⟩ = some (.int .u64 lost) := hb.cell 2
  have hf0 : w.frozen? ⟨p, 0, none⟩ = false := hb.frozen 0
  have hf2 : w.frozen? ⟨p, 2, none⟩ = false := hb.frozen 2
  have Hb := Lib.hid hb
  have Ho := Lib.hid ho
  clear hb ho
  obtain ⟨i0, hi0, hz0, hz1, hz2⟩ := info_parts infoS
  go_enter Try.func17, Try.ntmps17
  go_wp2
  go_loop [5] (fun i => ∃ k : Nat, k ≤ L.length ∧ i = .int .i64 k ∧ s ∉ L.take k) (fun i => L.length - (intOf i).toNat)
  case atStart => exact ⟨0, by omega, rfl, by simp⟩
  case round =>
    obtain ⟨k, hk, rfl, hno⟩ := hrel
    have Hno := Lib.hid hno; clear hno
    by_cases hlt : k < L.length
    · obtain ⟨g, off, c', cur, hv, hr, hg, _, _, _, _, hx⟩ := Ho.out.at_ (by omega)
      injection hv with hA _ _
      subst hA
      clear hr
      have hcell : w.cell? ⟨g, off + k, none⟩ = some (.string L[k]) := (hg.cell _).trans (hx k _ (by simp [cellsS, hlt]))
      clear hg hx
      go_wp2
      · have h : (L[k].toList == s.toList) = true := by assumption
        rw [str_beq, decide_eq_true_eq] at h
        have hs : hasS L s = true := (hasS_iff L s).2 (h ▸ List.getElem_mem hlt)
        go_ret
        have e1 : putL L most s = L := by unfold putL; rw [if_pos hs]
        have e2 : putLost L most lost s = lost := by unfold putLost; rw [if_pos hs]
        have e3 : putCode L most s = 6 := by unfold putCode; rw [if_pos hs]
        refine ⟨row, ret_int e3.symm, ?_, Touch.refl _ _, .refl _ _⟩
        rw [e1, e2]
        exact ⟨_, c, Hb.out, Ho.out⟩
      · have h : (L[k].toList == s.toList) = false := by assumption
        rw [str_beq, decide_eq_false_iff_not] at h
        go_round
        case rel => exact ⟨k + 1, by omega, by go_num, notmem_snoc hlt (fun e => h e.symm) Hno.out⟩
        case measure => simp [intOf]; omega
    · have hs : hasS L s = false := hasS_no (by have := Hno.out; rwa [List.take_of_length_le (by omega)] at this)
      have Hs := Lib.hid hs
      clear hs Hno
      by_cases hfull : most ≤ L.length
      · go_wp2_with fail
        go_quiet (fail)
        go_wp2_with fail
        go_ret
        have e1 : putL L most s = L := by unfold putL; rw [Hs.out, if_neg (by simp), if_pos hfull]
        have e2 : putLost L most lost s = ((lost : Int) + 1) := by unfold putLost addS; rw [Hs.out, if_neg (by simp), if_pos hfull, if_pos (by omega)]
        have e3 : putCode L most s = 8 := by unfold putCode; rw [Hs.out, if_neg (by simp), if_pos hfull]
        refine ⟨row, ret_int e3.symm, ?_, ((Touch.refl _ _).drewN _).setCell (p := ⟨p, 2, none⟩) (.inl (by simp)) _, .refl _ _⟩
        rw [e1, e2]
        exact ⟨A, c, (Hb.out.drewN _).set_ 2 _, (Ho.out.drewN _).far (a := ⟨p, 2, none⟩) (Ho.out.ne_ Hb.out (by decide)) _⟩
      · go_wp2_with fail
        go_quiet (fail)
        go_wp2_with (at_builtin; refine wpList_append_Own _ rfl (.tmp 46) (.tmp 48) 22 22 rfl 9 i0 _ 1 16 Try.underlying22 hi0 hz0 hz1 hz2 rfl _ L.length (cellsS L) row rfl ((Ho.out.drewN _).alloc _) _ 1 [.string s] rfl (Src.one Try.underlying22 (w.drewN _) _ _ rfl) (by unfold maxLen; omega) (by omega) ?_)
        intro v' w1 row' hown' ht hrow
        obtain ⟨A', c', rfl, _⟩ := hown'.shape
        have hb1 : Blk w1 p 48 #[.slice A L.length c, .int .i64 most, .int .u64 lost] := ((Hb.out.drewN _).alloc _).touch ht (notin_row (Ho.out.ne_ Hb.out (by decide)))
        have hc0' : w1.cell? ⟨p, 0, none⟩ = some (.slice A L.length c) := hb1.cell 0
        have hf0' : w1.frozen? ⟨p, 0, none⟩ = false := hb1.frozen 0
        have Hb1 := Lib.hid hb1
        have Ho1 := Lib.hid hown'
        have Hrow := Lib.hid hrow
        clear hb1 hown' hrow hc0 hc1 hc2
        go_wp2
        go_ret
        have e1 : putL L most s = L ++ [s] := by unfold putL; rw [Hs.out, if_neg (by simp), if_neg (by omega)]
        have e2 : putLost L most lost s = lost := by unfold putLost; rw [Hs.out, if_neg (by simp), if_neg (by omega)]
        have e3 : putCode L most s = 0 := by unfold putCode; rw [Hs.out, if_neg (by simp), if_neg (by omega)]
        have hlen1 : (L ++ [s]).length = L.length + 1 := by simp
        have hcs : cellsS (L ++ [s]) = cellsS L ++ [.string s] := by simp [cellsS]
        refine ⟨row', ret_int e3.symm, ?_, (((((Touch.refl _ _).drewN _).alloc _).trans (ht.mono (fun k hk _ => List.mem_cons_of_mem _ hk))).setCell (p := ⟨p, 0, none⟩) (.inl (by simp)) _), Hrow.out.before (by simp)⟩
        rw [e1, e2]
        refine ⟨A', c', ?_, ?_⟩
        · rw [hlen1]; exact Hb1.out.set_ 0 _
        · rw [hlen1, hcs]; exact Ho1.out.far (a := ⟨p, 0, none⟩) (Ho1.out.ne_ Hb1.out (by decide)) _
theorem rtake_none (p : Nat) (most lost : Int) (row : Option Nat) (w : World) (h : RAt w p [] most lost row) :
    Calls Try.prog 18 #[.pointer (some ⟨p, 0, none⟩)] w fun e w' => e = .returned (.tuple #[.string ⟨#[]⟩, .bool false]) ∧ w = w' := by
  obtain ⟨A, c, hb, ho⟩ := h
  have hc0 : w.cell? ⟨p, 0, none⟩ = some (.slice A 0 c) := hb.cell 0
  clear hb ho
  go_enter Try.func18, Try.ntmps18
  go_wp2
  go_ret2
  exact ⟨rfl, rfl⟩
theorem rtake_some (p : Nat) (s : ByteArray) (L : List ByteArray) (most lost : Int) (row : Option Nat) (w : World) (h : RAt w p (s :: L) most lost row) (hlen : L.length ≤ 1000) :
    Calls Try.prog 18 #[.pointer (some ⟨p, 0, none⟩)] w (RDid w p row L most lost (.tuple #[.string s, .bool true])) := by
  obtain ⟨A, c, hb, ho⟩ := h
  obtain ⟨g, off, c', cur, hv, hr, hg, hc0, hnc, hcm, hcs, hx⟩ := ho.at_ (by simp)
  injection hv with hA _ hcc
  subst hA; subst hcc; subst hr
  have h0 : cur[off]? = some (.string s) := hx 0 _ rfl
  rw [List.length_cons] at hb ho hnc
  have hcell0 : w.cell? ⟨p, 0, none⟩ = some (.slice (some ⟨g, off, none⟩) (L.length + 1) c) := hb.cell 0
  have hcellg : w.cell? ⟨g, off, none⟩ = some (.string s) := (hg.cell off).trans h0
  have hf0' : w.frozen? ⟨p, 0, none⟩ = false := hb.frozen 0
  obtain ⟨i0, hi0, hz0, hz1, hz2⟩ := info_parts infoS
  have Hb := Lib.hid hb
  have Ho := Lib.hid ho
  have hca : ∀ o : Obj, (w.alloc o).cell? ⟨p, 0, none⟩ = some (.slice (some ⟨g, off, none⟩) (L.length + 1) c) := fun o => (hb.alloc o).cell 0
  unfold maxLen at hcm
  clear hb hg ho hx h0
  by_cases h1 : c = 1
  · subst h1
    obtain rfl : L = [] := List.eq_nil_of_length_eq_zero (by omega)
    go_enter Try.func18, Try.ntmps18
    go_wp2_with (at_builtin; refine wpList_append_Own _ rfl (.tmp 18) (.tmp 23) 22 22 rfl 9 i0 _ 1 16 Try.underlying22 hi0 hz0 hz1 hz2 rfl _ 0 [] none rfl (Own.nil _ _ _ _) _ 0 [] rfl ((Own.nil _ 9 1 _).src (by simp) Try.underlying22) (by unfold maxLen; omega) (by omega) ?_)
    intro v' w1 row' hown' ht hrow
    obtain ⟨A', c', rfl, _⟩ := hown'.shape
    have hb1 : Blk w1 p 48 #[.slice (some ⟨g, off, none⟩) 1 1, .int .i64 most, .int .u64 lost] := (Hb.out.alloc _).touch ht (by simp)
    have hc0' : w1.cell? ⟨p, 0, none⟩ = some (.slice (some ⟨g, off, none⟩) 1 1) := hb1.cell 0
    have hf0' : w1.frozen? ⟨p, 0, none⟩ = false := hb1.frozen 0
    have Hb1 := Lib.hid hb1
    have Ho1 := Lib.hid hown'
    have Hrow := Lib.hid hrow
    clear hb1 hown' hrow hcell0 hca
    go_wp2
    go_ret2
    refine ⟨row', rfl, ⟨A', c', Hb1.out.set_ 0 _, Ho1.out.far (a := ⟨p, 0, none⟩) (Ho1.out.ne_ Hb1.out (by decide)) _⟩, ?_, ?_⟩
    · exact (((Touch.refl _ _).alloc _).trans (ht.mono (fun k hk _ => absurd hk (by simp)))).setCell (p := ⟨p, 0, none⟩) (.inl (by simp)) _
    · exact fun k hk => (Hrow.out k hk).elim (fun e => by cases e) (fun e => .inr (by simp at e; omega))
  · have hcut := Ho.out.cut (k := 1) (by omega) (by omega)
    have hcut' : Own w 9 1 (.slice (some ⟨g, off + 1, none⟩) L.length (c - 1)) L.length (cellsS L) (some g) := by simpa [cellsS] using hcut
    have Hc := Lib.hid hcut'
    clear hcut hcut'
    go_enter Try.func18, Try.ntmps18
    go_wp2_with (at_builtin; refine wpList_append_Own _ rfl (.tmp 18) (.tmp 23) 22 22 rfl 9 i0 _ 1 16 Try.underlying22 hi0 hz0 hz1 hz2 rfl _ 0 [] none rfl (Own.nil _ _ _ _) _ L.length (cellsS L) rfl ((Hc.out.alloc _).src cellsS_one Try.underlying22) (by unfold maxLen; omega) (by omega) ?_)
    intro v' w1 row' hown' ht hrow
    obtain ⟨A', c', rfl, _⟩ := hown'.shape
    have hb1 : Blk w1 p 48 #[.slice (some ⟨g, off, none⟩) (L.length + 1) c, .int .i64 most, .int .u64 lost] := (Hb.out.alloc _).touch ht (by simp)
    have hc0' : w1.cell? ⟨p, 0, none⟩ = some (.slice (some ⟨g, off, none⟩) (L.length + 1) c) := hb1.cell 0
    have hf0' : w1.frozen? ⟨p, 0, none⟩ = false := hb1.frozen 0
    have Hb1 := Lib.hid hb1
    have Ho1 := Lib.hid hown'
    have Hrow := Lib.hid hrow
    clear hb1 hown' hrow hcell0 hca
    go_wp2
    go_ret2
    refine ⟨row', rfl, ⟨A', c', ?_, ?_⟩, ?_, ?_⟩
    · have := Hb1.out.set_ 0 (.slice A' L.length c'); simpa using this
    · have := Ho1.out.far (a := ⟨p, 0, none⟩) (Ho1.out.ne_ Hb1.out (by decide)) (.slice A' L.length c'); simpa using this
    · have := (((Touch.refl (p :: Option.toList (some g)) w).alloc (.cells #[] 9)).trans (ht.mono (fun k hk _ => absurd hk (by simp)))).setCell (p := ⟨p, 0, none⟩) (.inl (by simp)) (.slice A' L.length c'); simpa using this
    · exact fun k hk => (Hrow.out k hk).elim (fun e => by cases e) (fun e => .inr (by simp at e; omega))
section
variable {w0 w : World} {B : Nat} {rs : List Res} {p : Nat} {L : List ByteArray} {most : Int}
theorem rput_sep {lost : Nat} (h : Sep w0 B w rs) (i : Nat) (hi : rs[i]? = some (rRes p L most lost)) (s : ByteArray) (hlen : L.length ≤ 1000) (hl1 : lost ≤ 1000) :
    Calls Try.prog 17 #[.pointer (some ⟨p, 0, none⟩), .string s] w (Gives (.int .i64 (putCode L most s)) w0 B (rs.set i (rRes p (putL L most s) most (putLost L most lost s)))) := by
  obtain ⟨F, ⟨row, rfl, hq⟩, hset⟩ := h.focus i hi
  exact (rput_any p L most lost row s w hq hlen hl1).mono fun e w' ⟨row', he, hq', ht, hn⟩ => ⟨he, hset w' _ _ ⟨row', rfl, hq'⟩ ht (q_foot hn)⟩
theorem rtake_sep {lost : Int} (h : Sep w0 B w rs) (i : Nat) (hi : rs[i]? = some (rRes p L most lost)) (hlen : L.length ≤ 1000) :
    Calls Try.prog 18 #[.pointer (some ⟨p, 0, none⟩)] w (Gives (.tuple #[.string (L.headD ⟨#[]⟩), .bool (!L.isEmpty)]) w0 B (rs.set i (rRes p L.tail most lost))) := by
  obtain ⟨F, ⟨row, rfl, hq⟩, hset⟩ := h.focus i hi
  cases L with
  | nil => exact (rtake_none p most lost row w hq).mono fun e w' ⟨he, hw⟩ => by subst hw; exact ⟨he, hset w _ _ ⟨row, rfl, hq⟩ (Touch.refl _ _) (fun k hk => .inl hk)⟩
  | cons s L => exact (rtake_some p s L most lost row w hq (by simp at hlen; omega)).mono fun e w' ⟨row', he, hq', ht, hn⟩ => ⟨he, hset w' _ _ ⟨row', rfl, hq'⟩ ht (q_foot hn)⟩
theorem refNew_sep (h : Sep w0 B w rs) (m : Int) (h1 : 1 ≤ m) (h2 : m ≤ 1000) :
    Calls Try.prog 16 #[.int .i64 m] w fun e w' => ∃ p', e = .returned (.tuple #[.pointer (some ⟨p', 0, none⟩), .int .i64 0]) ∧ Sep w0 B w' (rRes p' [] m 0 :: rs) :=
  (refNew_ok m w h1 h2).mono fun e w' ⟨he, hw⟩ => by
    subst hw
    exact ⟨w.heap.size, he, h.add (r := rRes w.heap.size [] m 0) ⟨none, rfl, none, 0, Blk.new w _ _, Own.nil _ _ _ _⟩ ((Touch.refl _ _).alloc _) (by simp)⟩
/-- The cells of the document's queue, for whoever reads them. -/
theorem r_cells {lost : Int} (h : Sep w0 B w rs) (i : Nat) (hi : rs[i]? = some (rRes p L most lost)) :
    ∃ A c, w.cell? ⟨p, 0, none⟩ = some (.slice A L.length c) ∧ w.cell? ⟨p, 2, none⟩ = some (.int .u64 lost) ∧ ∃ row, Own w 9 1 (.slice A L.length c) L.length (cellsS L) row := by
  obtain ⟨F, row, rfl, A, c, hb, ho⟩ := h.look i hi
  exact ⟨A, c, hb.cell 0, hb.cell 2, row, ho⟩
/-- All, and that nothing old has turned. -/
theorem all_touch {lost : Int} (h : Sep w0 B w rs) (i : Nat) (hi : rs[i]? = some (qRes p L most lost)) (hlen : L.length ≤ 1000) :
    Calls Try.prog 15 #[.pointer (some ⟨p, 0, none⟩)] w fun e w' => ∃ A c, e = .returned (.slice A L.length c) ∧ Sep w0 B w' (slRes 9 1 (.slice A L.length c) L.length (cellsS L) :: rs) ∧ Touch [] w w' := by
  obtain ⟨F, row, rfl, hq⟩ := h.look i hi
  refine (all_any p L most lost row w hq hlen).mono fun e w' ⟨v, row', he, ho, ht, hn⟩ => ?_
  obtain ⟨A, c, rfl, _⟩ := ho.shape
  exact ⟨A, c, he, h.add (r := slRes 9 1 (.slice A L.length c) L.length (cellsS L)) ⟨row', rfl, ho⟩ ht (fun k hk => (hn k (Option.mem_toList.1 hk)).elim (fun e => by cases e) id), ht⟩
/-- Same, of a list that is an object and one that is owned. -/
theorem same_mix {M : List ByteArray} {v u : Value} {row : Option Nat} (h : Sep w0 B w rs) (i : Nat) (hi : rs[i]? = some (slRes 9 1 v L.length (cellsS L))) (ho : Own w 9 1 u M.length (cellsS M) row) :
    Calls Try.prog 13 #[v, u] w (Asked (eqL L M) w) := by
  obtain ⟨F, r, rfl, hp⟩ := h.look i hi
  exact same_Own v u L M w hp ho
end
end Go.Proofs.Ytkphcgcciiefoaa
