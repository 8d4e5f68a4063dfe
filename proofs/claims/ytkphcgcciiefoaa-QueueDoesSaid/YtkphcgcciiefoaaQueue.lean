/- The methods of queue.Queue, each by what it does to a queue that lies in memory. -/
import Derived.Test.YtkphcgcciiefoaaStrs
import Derived.Test.YtkphcgcciiefoaaAdd
import Derived.Test.YtkphcgcciiefoaaSep
import Derived.Deep.RegionHeld3
namespace Go.Proofs.Ytkphcgcciiefoaa
open Go.RowKit

/-- A queue lies at block p: its texts, how many can wait, how many found no room; 'row': the block that its list may write to. -/
def QAt (w : World) (p : Nat) (L : List ByteArray) (most lost : Int) (row : Option Nat) : Prop :=
  ∃ A c, Blk w p 52 #[.slice A L.length c, .int .i64 most, .int .u64 lost] ∧ Own w 9 1 (.slice A L.length c) L.length (cellsS L) row
theorem QAt.touch {w w' : World} {p : Nat} {L : List ByteArray} {most lost : Int} {row : Option Nat} {S : List Nat} (h : QAt w p L most lost row) (ht : Touch S w w')
    (hp : p ∉ S) (hr : ∀ g, row = some g → g ∉ S) : QAt w' p L most lost row := by
  obtain ⟨A, c, hb, ho⟩ := h
  exact ⟨A, c, hb.touch ht hp, ho.touch ht hr⟩
theorem QAt.lt {w : World} {p : Nat} {L : List ByteArray} {most lost : Int} {row : Option Nat} (h : QAt w p L most lost row) : p < w.heap.size := by
  obtain ⟨A, c, hb, ho⟩ := h
  exact hb.lt
theorem QAt.rowLt {w : World} {p : Nat} {L : List ByteArray} {most lost : Int} {row : Option Nat} (h : QAt w p L most lost row) {g : Nat} (hg : row = some g) : g < w.heap.size := by
  obtain ⟨A, c, hb, ho⟩ := h
  exact ho.lt hg

theorem queueNew_bad (m : Int) (w : World) (h : m < 1 ∨ 1000 < m) :
    Calls Try.prog 8 #[.int .i64 m] w fun e w' => e = .returned (.tuple #[.pointer none, .int .i64 1]) ∧ w = w' := by
  by_cases h1 : m < 1
  · go_enter Try.func8, Try.ntmps8
    go_wp2
    go_ret2
    exact ⟨rfl, rfl⟩
  · have h2 : 1000 < m := by omega
    go_enter Try.func8, Try.ntmps8
    go_wp2
    go_ret2
    exact ⟨rfl, rfl⟩
theorem queueNew_ok (m : Int) (w : World) (h1 : 1 ≤ m) (h2 : m ≤ 1000) :
    Calls Try.prog 8 #[.int .i64 m] w fun e w' => e = .returned (.tuple #[.pointer (some ⟨w.heap.size, 0, none⟩), .int .i64 0]) ∧ w.alloc (.cells #[.slice none 0 0, .int .i64 m, .int .u64 0] 52) = w' := by
  have h1' : ¬ m < 1 := by omega
  have h2' : ¬ 1000 < m := by omega
  go_enter Try.func8, Try.ntmps8
  go_wp2
  go_ret2
  exact ⟨rfl, rfl⟩
theorem QAt.new (w : World) (m : Int) : QAt (w.alloc (.cells #[.slice none 0 0, .int .i64 m, .int .u64 0] 52)) w.heap.size [] m 0 none :=
  ⟨none, 0, Blk.new w _ _, Own.nil _ _ _ _⟩

/-- What Put answers, and what waits behind it. -/
def putCode (L : List ByteArray) (most : Int) (s : ByteArray) : Int := if hasS L s then 6 else if most ≤ L.length then 8 else 0
def putL (L : List ByteArray) (most : Int) (s : ByteArray) : List ByteArray := if hasS L s then L else if most ≤ L.length then L else L ++ [s]
def putLost (L : List ByteArray) (most lost : Int) (s : ByteArray) : Int := if hasS L s then lost else if most ≤ L.length then addS lost 1 else lost

/-- What a method leaves of its queue: it wrote to p and to its row alone, and its new row is the old one or a new block. -/
def QDid (w : World) (p : Nat) (row : Option Nat) (L : List ByteArray) (most lost : Int) (v : Value) (e : Ending) (w' : World) : Prop :=
  ∃ row', e = .returned v ∧ QAt w' p L most lost row' ∧ Touch (p :: row.toList) w w' ∧ NewRow w row row'

theorem put_any (p : Nat) (L : List ByteArray) (most lost : Int) (row : Option Nat) (s : ByteArray) (w : World) (h : QAt w p L most lost row) (hlen : L.length ≤ 1000)
    (hl0 : 0 ≤ lost) (hl1 : lost < 18446744073709551616) :
    Calls Try.prog 9 #[.pointer (some ⟨p, 0, none⟩), .string s] w
      (QDid w p row (putL L most s) most (putLost L most lost s) (.int .i64 (putCode L most s))) := by
  obtain ⟨A, c, hb, ho⟩ := h
  have hc0 : w.cell? ⟨p, 0, none⟩ = some (.slice A L.length c) := hb.cell 0
  have hc1 : w.cell? ⟨p, 1, none⟩ = some (.int .i64 most) := hb.cell 1
  have hc2 : w.cell? ⟨p, 2, none⟩ = some (.int .u64 lost) := hb.cell 2
  have Hb := Lib.hid hb
  have Ho := Lib.hid ho
  clear hb ho
  by_cases hs : hasS L s = true
  · have Hfin : Hid (QAt w p (putL L most s) most (putLost L most lost s) row ∧ putCode L most s = 6) := by
      unfold putL putLost putCode
      simp only [hs, if_true]
      exact ⟨⟨A, c, Hb.out, Ho.out⟩, trivial⟩
    go_enter Try.func9, Try.ntmps9
    go_wp2_with fail
    refine (contains_Own _ L s _ Ho.out).mono ?_
    rintro e w' ⟨rfl, rfl⟩
    rw [hs]
    clear hs
    go_wp2_with fail
    go_ret
    exact ⟨row, ret_int Hfin.out.2.symm, Hfin.out.1, Touch.refl _ _, .refl _ _⟩
  · rw [Bool.not_eq_true] at hs
    by_cases hfull : most ≤ L.length
    · have Hfin : Hid (putL L most s = L ∧ putLost L most lost s = addS lost 1 ∧ putCode L most s = 8) := by
        unfold putL putLost putCode
        simp only [hs, Bool.false_eq_true, if_false, hfull, if_true]
        exact ⟨trivial, trivial, trivial⟩
      have hf2 : w.frozen? ⟨p, 2, none⟩ = false := Hb.out.frozen 2
      go_enter Try.func9, Try.ntmps9
      go_wp2_with fail
      refine (contains_Own _ L s _ Ho.out).mono ?_
      rintro e w' ⟨rfl, rfl⟩
      rw [hs]
      clear hs
      go_wp2_with fail
      go_quiet (fail)
      go_wp2_with fail
      refine (satAdd_any lost 1 hl0 hl1 (by omega) (by omega) _).mono ?_
      rintro e w' ⟨rfl, rfl⟩
      clear hl0 hl1
      go_wp2_with fail
      go_ret
      obtain ⟨e1, e2, e3⟩ := Hfin.out
      refine ⟨row, ret_int e3.symm, ?_, ((Touch.refl _ _).drewN nq).setCell (p := ⟨p, 2, none⟩) (.inl (by simp)) _, .refl _ _⟩
      rw [e1, e2]
      refine ⟨A, c, ?_, ?_⟩
      · exact (Hb.out.drewN nq).set_ 2 (.int .u64 (addS lost 1))
      · exact (Ho.out.drewN nq).far (a := ⟨p, 2, none⟩) (Ho.out.ne_ Hb.out (by decide)) _
    · have Hfin : Hid (putL L most s = L ++ [s] ∧ putLost L most lost s = lost ∧ putCode L most s = 0) := by
        unfold putL putLost putCode
        simp only [hs, Bool.false_eq_true, if_false, hfull]
        exact ⟨trivial, trivial, trivial⟩
      have hf0 : w.frozen? ⟨p, 0, none⟩ = false := Hb.out.frozen 0
      obtain ⟨i0, hi0, hz0, hz1, hz2⟩ := info_parts infoS
      go_enter Try.func9, Try.ntmps9
      go_wp2_with fail
      refine (contains_Own _ L s _ Ho.out).mono ?_
      rintro e w' ⟨rfl, rfl⟩
      rw [hs]
      clear hs
      go_wp2_with fail
      go_quiet (fail)
      go_wp2_with (at_builtin; refine wpList_append_Own _ rfl (.tmp 35) (.tmp 37) 22 22 rfl 9 i0 _ 1 16 Try.underlying22 hi0 hz0 hz1 hz2 rfl _ L.length (cellsS L) row rfl ((Ho.out.drewN nq).alloc _) _ 1 [.string s] rfl (Src.ofSlice _ Try.underlying22 ⟨w.heap.size, 0, none⟩ 1 1 _ rfl ?c1 ?c2) ?c3 ?c4 ?_)
      case c1 => intro j u hj; match j, hj with | 0, hj => simp at hj; subst hj; exact (Blk.new (w.drewN nq) _ _).cell 0
      case c2 => intro u hu; simp at hu; subst hu; rfl
      case c3 => unfold maxLen; omega
      case c4 => omega
      intro v' w1 row' hown' ht hrow
      obtain ⟨A', c', rfl, _⟩ := hown'.shape
      have hb1 : Blk w1 p 52 #[.slice A L.length c, .int .i64 most, .int .u64 lost] := ((Hb.out.drewN nq).alloc _).touch ht (notin_row (Ho.out.ne_ Hb.out (by decide)))
      have hc0' : w1.cell? ⟨p, 0, none⟩ = some (.slice A L.length c) := hb1.cell 0
      have hf0' : w1.frozen? ⟨p, 0, none⟩ = false := hb1.frozen 0
      have Hb1 := Lib.hid hb1
      have Ho1 := Lib.hid hown'
      have Hrow := Lib.hid hrow
      clear hb1 hown' hrow hc0 hc1 hc2
      go_wp2
      go_ret
      obtain ⟨e1, e2, e3⟩ := Hfin.out
      have hlen1 : (L ++ [s]).length = L.length + 1 := by simp
      have hcs : cellsS (L ++ [s]) = cellsS L ++ [.string s] := by simp [cellsS]
      refine ⟨row', ret_int e3.symm, ?_, (((((Touch.refl _ _).drewN nq).alloc _).trans (ht.mono (fun k hk _ => List.mem_cons_of_mem _ hk))).setCell (p := ⟨p, 0, none⟩) (.inl (by simp)) _), ?_⟩
      · rw [e1, e2]
        refine ⟨A', c', ?_, ?_⟩
        · rw [hlen1]; exact Hb1.out.set_ 0 _
        · rw [hlen1, hcs]; exact Ho1.out.far (a := ⟨p, 0, none⟩) (Ho1.out.ne_ Hb1.out (by decide)) _
      · exact Hrow.out.before (by simp)
theorem take_none (p : Nat) (most lost : Int) (row : Option Nat) (w : World) (h : QAt w p [] most lost row) :
    Calls Try.prog 10 #[.pointer (some ⟨p, 0, none⟩)] w fun e w' => e = .returned (.tuple #[.string ⟨#[]⟩, .bool false]) ∧ w = w' := by
  obtain ⟨A, c, hb, ho⟩ := h
  have hc0 : w.cell? ⟨p, 0, none⟩ = some (.slice A 0 c) := hb.cell 0
  clear hb ho
  go_enter Try.func10, Try.ntmps10
  go_wp2
  go_ret2
  exact ⟨rfl, rfl⟩
theorem take_some (p : Nat) (s : ByteArray) (L : List ByteArray) (most lost : Int) (row : Option Nat) (w : World) (h : QAt w p (s :: L) most lost row) (hlen : L.length ≤ 1000) :
    Calls Try.prog 10 #[.pointer (some ⟨p, 0, none⟩)] w (QDid w p row L most lost (.tuple #[.string s, .bool true])) := by
  obtain ⟨A, c, hb, ho⟩ := h
  obtain ⟨g, off, c', cur, hv, hr, hg, hc0, hnc, hcm, hcs, hx⟩ := ho.at_ (by simp)
  injection hv with hA _ hcc
  subst hA; subst hcc; subst hr
  have h0 : cur[off]? = some (.string s) := hx 0 _ rfl
  have hgp : g ≠ p := ho.ne_ hb (by decide) g rfl
  rw [List.length_cons] at hb ho hnc
  have hcell0 : w.cell? ⟨p, 0, none⟩ = some (.slice (some ⟨g, off, none⟩) (L.length + 1) c) := hb.cell 0
  have hcellg : w.cell? ⟨g, off, none⟩ = some (.string s) := (hg.cell off).trans h0
  obtain ⟨i0, hi0, hz0, hz1, hz2⟩ := info_parts infoS
  have hsz : off < cur.size := (Array.getElem?_eq_some_iff.1 h0).1
  have Hb := Lib.hid hb
  have Hg := Lib.hid hg
  have Ho := Lib.hid ho
  have Hx := Lib.hid hx
  have hcell0' : (w.setCell ⟨g, off, none⟩ (.string ⟨#[]⟩)).cell? ⟨p, 0, none⟩ = some (.slice (some ⟨g, off, none⟩) (L.length + 1) c) := (hb.far (p := ⟨g, off, none⟩) hgp.symm _).cell 0
  have hf0' : w.frozen? ⟨p, 0, none⟩ = false := hb.frozen 0
  unfold maxLen at hcm
  clear hb hg ho hx h0
  go_enter Try.func10, Try.ntmps10
  go_wp2_with (refine wpList_clear1 _ rfl (.tmp 21) 22 rfl 9 i0 (.string ⟨#[]⟩) Try.underlying22 hi0 hz0 rfl rfl g off 1 cur rfl Hg.out hsz ?_)
  · have h : c = 1 := by assumption
    have hL : L = [] := List.eq_nil_of_length_eq_zero (by omega)
    subst hL
    go_ret2
    refine ⟨none, rfl, ⟨some ⟨g, off, none⟩, 0, ?_, Own.nil _ _ _ _⟩, ((Touch.refl _ _).setCell (p := ⟨g, off, none⟩) (.inl (by simp)) _).setCell (p := ⟨p, 0, none⟩) (.inl (by simp)) _, .none _ _⟩
    exact (Hb.out.far (p := ⟨g, off, none⟩) hgp.symm _).set_ 0 _
  · have h : ¬ c = 1 := by assumption
    go_ret2
    refine ⟨some g, rfl, ⟨some ⟨g, off + 1, none⟩, c - 1, (Hb.out.far (p := ⟨g, off, none⟩) hgp.symm _).set_ 0 _, ?_⟩, ((Touch.refl _ _).setCell (p := ⟨g, off, none⟩) (.inl (by simp)) _).setCell (p := ⟨p, 0, none⟩) (.inl (by simp)) _, .refl _ _⟩
    refine ⟨by simp [cellsS], .inr ⟨g, off + 1, c - 1, cur.setIfInBounds off (.string ⟨#[]⟩), rfl, rfl, (Hg.out.set_ off _).far (p := ⟨p, 0, none⟩) hgp _, by omega, by omega, by unfold maxLen; omega, by rw [Array.size_setIfInBounds]; omega, fun j u hu => ?_⟩⟩
    rw [Array.getElem?_setIfInBounds_ne (by omega)]
    have := Hx.out (j + 1) u (by simpa [cellsS] using hu)
    rwa [show off + (j + 1) = off + 1 + j by omega] at this
/-- Take, at any queue. -/
theorem take_any (p : Nat) (L : List ByteArray) (most lost : Int) (row : Option Nat) (w : World) (h : QAt w p L most lost row) (hlen : L.length ≤ 1000) :
    Calls Try.prog 10 #[.pointer (some ⟨p, 0, none⟩)] w (QDid w p row L.tail most lost (.tuple #[.string (L.headD ⟨#[]⟩), .bool (!L.isEmpty)])) := by
  cases L with
  | nil => exact (take_none p most lost row w h).mono fun e w' ⟨he, hw⟩ => by subst hw; exact ⟨row, he, h, Touch.refl _ _, .refl _ _⟩
  | cons s L => exact take_some p s L most lost row w h (by simp at hlen; omega)

theorem len_any (p : Nat) (L : List ByteArray) (most lost : Int) (row : Option Nat) (w : World) (h : QAt w p L most lost row) :
    Calls Try.prog 11 #[.pointer (some ⟨p, 0, none⟩)] w fun e w' => e = .returned (.int .i64 L.length) ∧ w = w' := by
  obtain ⟨A, c, hb, ho⟩ := h
  have hc0 : w.cell? ⟨p, 0, none⟩ = some (.slice A L.length c) := hb.cell 0
  clear hb ho
  go_enter Try.func11, Try.ntmps11
  go_wp2
  go_ret
  exact ⟨rfl, rfl⟩
theorem lost_any (p : Nat) (L : List ByteArray) (most lost : Int) (row : Option Nat) (w : World) (h : QAt w p L most lost row) :
    Calls Try.prog 12 #[.pointer (some ⟨p, 0, none⟩)] w fun e w' => e = .returned (.int .u64 lost) ∧ w = w' := by
  obtain ⟨A, c, hb, ho⟩ := h
  have hc2 : w.cell? ⟨p, 2, none⟩ = some (.int .u64 lost) := hb.cell 2
  clear hb ho
  go_enter Try.func12, Try.ntmps12
  go_wp2
  go_ret
  exact ⟨rfl, rfl⟩
theorem all_any (p : Nat) (L : List ByteArray) (most lost : Int) (row : Option Nat) (w : World) (h : QAt w p L most lost row) (hlen : L.length ≤ 1000) :
    Calls Try.prog 15 #[.pointer (some ⟨p, 0, none⟩)] w (Cloned L w) := by
  obtain ⟨A, c, hb, ho⟩ := h
  have hc0 : w.cell? ⟨p, 0, none⟩ = some (.slice A L.length c) := hb.cell 0
  have Ho := Lib.hid ho
  clear hb ho
  go_enter Try.func15, Try.ntmps15
  go_wp2_with fail
  refine (clone_Own _ L _ Ho.out (by omega)).mono ?_
  rintro e w' ⟨v, row', rfl, h1, h2, h3⟩
  have H1 := Lib.hid h1
  have H2 := Lib.hid h2
  have H3 := Lib.hid h3
  clear h1 h2 h3
  go_wp2_with fail
  go_ret
  exact ⟨v, row', rfl, H1.out, H2.out, H3.out⟩
/-- A new queue of the same texts. -/
def QCopied (L : List ByteArray) (most lost : Int) (w : World) (e : Ending) (w' : World) : Prop :=
  ∃ p' row', e = .returned (.pointer (some ⟨p', 0, none⟩)) ∧ QAt w' p' L most lost row' ∧ Touch [] w w' ∧ w.heap.size ≤ p' ∧ NewRow w none row'
theorem copy_any (p : Nat) (L : List ByteArray) (most lost : Int) (row : Option Nat) (w : World) (h : QAt w p L most lost row) (hlen : L.length ≤ 1000) :
    Calls Try.prog 19 #[.pointer (some ⟨p, 0, none⟩)] w (QCopied L most lost w) := by
  obtain ⟨A, c, hb, ho⟩ := h
  have hc0 : w.cell? ⟨p, 0, none⟩ = some (.slice A L.length c) := hb.cell 0
  have hc1 : w.cell? ⟨p, 1, none⟩ = some (.int .i64 most) := hb.cell 1
  have hc2 : w.cell? ⟨p, 2, none⟩ = some (.int .u64 lost) := hb.cell 2
  have Hb := Lib.hid hb
  have Ho := Lib.hid ho
  clear hb ho
  go_enter Try.func19, Try.ntmps19
  go_wp2_with fail
  go_region_held3 (fun W => W.cell? ⟨p, 0, none⟩ = some (.slice A L.length c) ∧ W.cell? ⟨p, 1, none⟩ = some (.int .i64 most) ∧ W.cell? ⟨p, 2, none⟩ = some (.int .u64 lost))
    (first | go_keep | exact ⟨(Hb.out.drew.touch H2.out List.not_mem_nil).cell 0, (Hb.out.drew.touch H2.out List.not_mem_nil).cell 1, (Hb.out.drew.touch H2.out List.not_mem_nil).cell 2⟩)
    (first | (go_at_call 22; refine (clone_Own _ L _ Ho.out.drew (by omega)).mono ?_; rintro e w' ⟨v, row', rfl, h1, h2, h3⟩; obtain ⟨A', c', rfl, _⟩ := h1.shape; have H1 := Lib.hid h1; have H2 := Lib.hid h2; have H3 := Lib.hid h3; clear h1 h2 h3))
  go_wp2
  go_ret
  have ht : Touch [] w w' := (Touch.refl [] w).drew.trans H2.out
  exact ⟨w'.heap.size, row', rfl, ⟨A', c', Blk.new _ _ _, H1.out.alloc _⟩, ht.alloc _, ht.size, H3.out⟩

/-! ### The same, of a queue among other objects -/
def qRes (p : Nat) (L : List ByteArray) (most lost : Int) : Res where
  P F w := ∃ row, F = p :: Option.toList row ∧ QAt w p L most lost row
  loc F w w' h hk := by
    obtain ⟨row, rfl, A, c, hb, ho⟩ := h
    obtain ⟨row', hr', ho'⟩ := (slRes 9 1 (.slice A L.length c) L.length (cellsS L)).loc (Option.toList row) w w' ⟨row, rfl, ho⟩ (fun k hk' => hk k (List.mem_cons_of_mem _ hk'))
    have : row = row' := by cases row <;> cases row' <;> simp_all
    subst this
    exact ⟨row, rfl, A, c, (hk p (by simp)).trans hb, ho'⟩
  lt F w h k hk := by
    obtain ⟨row, rfl, hq⟩ := h
    rcases List.mem_cons.1 hk with rfl | hk
    · exact hq.lt
    · exact hq.rowLt (Option.mem_toList.1 hk)
theorem q_foot {w : World} {p : Nat} {row row' : Option Nat} (h : NewRow w row row') : ∀ k, k ∈ p :: row'.toList → k ∈ p :: row.toList ∨ w.heap.size ≤ k := by
  intro k hk
  rcases List.mem_cons.1 hk with rfl | hk
  · exact .inl (by simp)
  · exact (newRow_foot h k hk).elim (fun h => .inl (List.mem_cons_of_mem _ h)) .inr
section
variable {w0 w : World} {B : Nat} {rs : List Res} {p : Nat} {L : List ByteArray} {most lost : Int}
def Gives (v : Value) (w0 : World) (B : Nat) (rs : List Res) (e : Ending) (w' : World) : Prop := e = .returned v ∧ Sep w0 B w' rs
theorem put_sep (h : Sep w0 B w rs) (i : Nat) (hi : rs[i]? = some (qRes p L most lost)) (s : ByteArray) (hlen : L.length ≤ 1000) (hl0 : 0 ≤ lost) (hl1 : lost < 18446744073709551616) :
    Calls Try.prog 9 #[.pointer (some ⟨p, 0, none⟩), .string s] w (Gives (.int .i64 (putCode L most s)) w0 B (rs.set i (qRes p (putL L most s) most (putLost L most lost s)))) := by
  obtain ⟨F, ⟨row, rfl, hq⟩, hset⟩ := h.focus i hi
  exact (put_any p L most lost row s w hq hlen hl0 hl1).mono fun e w' ⟨row', he, hq', ht, hn⟩ => ⟨he, hset w' _ _ ⟨row', rfl, hq'⟩ ht (q_foot hn)⟩
theorem take_sep (h : Sep w0 B w rs) (i : Nat) (hi : rs[i]? = some (qRes p L most lost)) (hlen : L.length ≤ 1000) :
    Calls Try.prog 10 #[.pointer (some ⟨p, 0, none⟩)] w (Gives (.tuple #[.string (L.headD ⟨#[]⟩), .bool (!L.isEmpty)]) w0 B (rs.set i (qRes p L.tail most lost))) := by
  obtain ⟨F, ⟨row, rfl, hq⟩, hset⟩ := h.focus i hi
  exact (take_any p L most lost row w hq hlen).mono fun e w' ⟨row', he, hq', ht, hn⟩ => ⟨he, hset w' _ _ ⟨row', rfl, hq'⟩ ht (q_foot hn)⟩
theorem len_sep (h : Sep w0 B w rs) (i : Nat) (hi : rs[i]? = some (qRes p L most lost)) :
    Calls Try.prog 11 #[.pointer (some ⟨p, 0, none⟩)] w fun e w' => e = .returned (.int .i64 L.length) ∧ w = w' := by
  obtain ⟨F, row, rfl, hq⟩ := h.look i hi
  exact len_any p L most lost row w hq
theorem lost_sep (h : Sep w0 B w rs) (i : Nat) (hi : rs[i]? = some (qRes p L most lost)) :
    Calls Try.prog 12 #[.pointer (some ⟨p, 0, none⟩)] w fun e w' => e = .returned (.int .u64 lost) ∧ w = w' := by
  obtain ⟨F, row, rfl, hq⟩ := h.look i hi
  exact lost_any p L most lost row w hq
/-- A new slice of the texts L, in front of all others. -/
def GivesList (L : List ByteArray) (w0 : World) (B : Nat) (rs : List Res) (e : Ending) (w' : World) : Prop :=
  ∃ A c, e = .returned (.slice A L.length c) ∧ Sep w0 B w' (slRes 9 1 (.slice A L.length c) L.length (cellsS L) :: rs)
theorem all_sep (h : Sep w0 B w rs) (i : Nat) (hi : rs[i]? = some (qRes p L most lost)) (hlen : L.length ≤ 1000) :
    Calls Try.prog 15 #[.pointer (some ⟨p, 0, none⟩)] w (GivesList L w0 B rs) := by
  obtain ⟨F, row, rfl, hq⟩ := h.look i hi
  refine (all_any p L most lost row w hq hlen).mono fun e w' ⟨v, row', he, ho, ht, hn⟩ => ?_
  obtain ⟨A, c, rfl, _⟩ := ho.shape
  exact ⟨A, c, he, h.add (r := slRes 9 1 (.slice A L.length c) L.length (cellsS L)) ⟨row', rfl, ho⟩ ht (fun k hk => (hn k (Option.mem_toList.1 hk)).elim (fun e => by cases e) id)⟩
def GivesQueue (L : List ByteArray) (most lost : Int) (w0 : World) (B : Nat) (rs : List Res) (e : Ending) (w' : World) : Prop :=
  ∃ p', e = .returned (.pointer (some ⟨p', 0, none⟩)) ∧ Sep w0 B w' (qRes p' L most lost :: rs)
theorem copy_sep (h : Sep w0 B w rs) (i : Nat) (hi : rs[i]? = some (qRes p L most lost)) (hlen : L.length ≤ 1000) :
    Calls Try.prog 19 #[.pointer (some ⟨p, 0, none⟩)] w (GivesQueue L most lost w0 B rs) := by
  obtain ⟨F, row, rfl, hq⟩ := h.look i hi
  refine (copy_any p L most lost row w hq hlen).mono fun e w' ⟨p', row', he, hq', ht, hp, hn⟩ => ?_
  exact ⟨p', he, h.add (r := qRes p' L most lost) ⟨row', rfl, hq'⟩ ht (fun k hk => by
    rcases List.mem_cons.1 hk with rfl | hk
    · exact hp
    · exact (hn k (Option.mem_toList.1 hk)).elim (fun e => by cases e) id)⟩
theorem new_sep (h : Sep w0 B w rs) (m : Int) (h1 : 1 ≤ m) (h2 : m ≤ 1000) :
    Calls Try.prog 8 #[.int .i64 m] w fun e w' => ∃ p', e = .returned (.tuple #[.pointer (some ⟨p', 0, none⟩), .int .i64 0]) ∧ Sep w0 B w' (qRes p' [] m 0 :: rs) :=
  (queueNew_ok m w h1 h2).mono fun e w' ⟨he, hw⟩ => by
    subst hw
    exact ⟨w.heap.size, he, h.add (r := qRes w.heap.size [] m 0) ⟨none, rfl, QAt.new w m⟩ ((Touch.refl _ _).alloc _) (by simp)⟩
end
end Go.Proofs.Ytkphcgcciiefoaa
