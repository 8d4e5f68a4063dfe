/- slices of strings: slices.Index, slices.Contains, slices.Clone. -/
import Derived.Test.YtkphcgcciiefoaaRows
import Derived.WalkKit
import Derived.Lib.Hide
import Derived.Lib.Strings
import Derived.Lib.LazyBuf
import Derived.BigQuiet
import Derived.Deep.QuietTactic
import Derived.Test.YtkphcgcciiefoaaMem
namespace Go.Proofs.Ytkphcgcciiefoaa
open Go.RowKit
theorem str_beq (a b : ByteArray) : (a.toList == b.toList) = decide (a = b) := by
  rw [Lib.toList_data, Lib.toList_data, Bool.eq_iff_iff]
  simp only [beq_iff_eq, decide_eq_true_eq]
  refine ⟨fun h => ?_, fun h => by rw [h]⟩
  cases a; cases b
  simp only [ByteArray.mk.injEq]
  exact Array.toList_inj.1 h
/-- The strings L as cells. -/
def cellsS (L : List ByteArray) : List Value := L.map Value.string
theorem cellsS_one {L : List ByteArray} : ∀ u ∈ cellsS L, u.oneCell' = true := by
  intro u hu
  obtain ⟨s, _, rfl⟩ := List.mem_map.1 hu
  rfl

/-- Is the text among them? -/
def hasS (L : List ByteArray) (s : ByteArray) : Bool := L.any fun t => decide (s = t)
theorem hasS_iff (L : List ByteArray) (s : ByteArray) : hasS L s = true ↔ s ∈ L := by
  unfold hasS
  simp
theorem hasS_no {L : List ByteArray} {s : ByteArray} (h : s ∉ L) : hasS L s = false := by
  rw [← Bool.not_eq_true, hasS_iff]; exact h
theorem idx_yes {L : List ByteArray} {s t : ByteArray} {k : Nat} (h : s = t) (hm : t ∈ L) : decide ((0 : Int) ≤ (k : Int)) = hasS L s := by
  subst h; rw [(hasS_iff L s).2 hm]; simp
theorem idx_no {L : List ByteArray} {s : ByteArray} (h : s ∉ L) : decide ((0 : Int) ≤ -1) = hasS L s := by rw [hasS_no h]; rfl
theorem notmem_snoc {L : List ByteArray} {s : ByteArray} {k : Nat} (hk : k < L.length) (h : ¬ s = L[k]) (hn : s ∉ L.take k) : s ∉ L.take (k + 1) := by
  rw [List.take_succ_eq_append_getElem hk]; rw [List.mem_append, List.mem_singleton]; exact fun hh => hh.elim hn h
def AnIdx (L : List ByteArray) (s : ByteArray) (w : World) (e : Ending) (w' : World) : Prop := ∃ r : Int, e = .returned (.int .i64 r) ∧ decide (0 ≤ r) = hasS L s ∧ w = w'
theorem index_some (g off n c : Nat) (L : List ByteArray) (s : ByteArray) (w : World) (hL : L.length = n) (hn : n ≤ maxLen)
    (hc : ∀ j (h : j < L.length), w.cell? ⟨g, off + j, none⟩ = some (.string L[j])) :
    Calls Try.prog 23 #[.slice (some ⟨g, off, none⟩) n c, .string s] w (AnIdx L s w) := by
  unfold maxLen at hn
  go_enter Try.func23, Try.ntmps23
  go_wp2
  go_loop [5, 8] (fun _ i => ∃ k : Nat, k ≤ n ∧ i = .int .i64 k ∧ s ∉ L.take k) (fun _ i => n - (intOf i).toNat)
  case atStart => exact ⟨0, by omega, rfl, by simp⟩
  case round =>
    obtain ⟨k, hk, rfl, hno⟩ := hrel
    have Hno := Lib.hid hno; clear hno
    have HL := Lib.hid hL; clear hL
    by_cases hlt : k < n
    · have hlt' : k < L.length := by rw [HL.out]; exact hlt
      have hcell : w.cell? ⟨g, off + k, none⟩ = some (.string L[k]) := hc k _
      clear hc
      go_wp2
      · have h : (s.toList == L[k].toList) = true := by assumption
        rw [str_beq, decide_eq_true_eq] at h
        go_ret
        exact ⟨k, rfl, idx_yes h (List.getElem_mem hlt'), rfl⟩
      · have h : (s.toList == L[k].toList) = false := by assumption
        rw [str_beq, decide_eq_false_iff_not] at h
        go_round
        case rel => exact ⟨k + 1, by omega, by go_num, notmem_snoc hlt' h Hno.out⟩
        case measure => simp [intOf]; omega
    · go_wp2
      go_ret
      have hk' : L.take k = L := List.take_of_length_le (by rw [HL.out]; omega)
      have hno := Hno.out
      rw [hk'] at hno
      exact ⟨-1, rfl, idx_no hno, rfl⟩
theorem index_zero (A : Option Addr) (c : Nat) (s : ByteArray) (w : World) :
    Calls Try.prog 23 #[.slice A 0 c, .string s] w (AnIdx [] s w) := by
  go_enter Try.func23, Try.ntmps23
  go_wp2
  refine wp_loop_rounds 1 ?_; rw [rounds_succ]; go_wp2
  go_ret
  exact ⟨-1, rfl, rfl, rfl⟩
theorem index_Own {row : Option Nat} (v : Value) (L : List ByteArray) (s : ByteArray) (w : World) (h : Own w 9 1 v L.length (cellsS L) row) :
    Calls Try.prog 23 #[v, .string s] w (AnIdx L s w) := by
  rcases h.2 with ⟨A, rfl, h0, _⟩ | ⟨g, off, c, cur, rfl, _, hb, _, hnc, hcm, _, hx⟩
  · obtain rfl := List.eq_nil_of_length_eq_zero h0
    exact index_zero A 0 s w
  · exact index_some g off L.length c L s w rfl (by omega) (fun j hj => by rw [hb.cell]; exact hx j _ (by simp [cellsS, hj]))
theorem contains_Own {row : Option Nat} (v : Value) (L : List ByteArray) (s : ByteArray) (w : World) (h : Own w 9 1 v L.length (cellsS L) row) :
    Calls Try.prog 20 #[v, .string s] w fun e w' => e = .returned (.bool (hasS L s)) ∧ w = w' := by
  have H := Lib.hid h
  clear h
  go_enter Try.func20, Try.ntmps20
  go_wp2_with fail
  refine (index_Own _ L s _ H.out).mono ?_
  rintro e w' ⟨r, rfl, hr, rfl⟩
  have Hr := Lib.hid hr
  clear hr
  go_wp2_with fail
  go_ret
  exact ⟨ret_bool Hr.out, rfl⟩
theorem infoS : (Try.prog.info? 9).map (fun i => (i.zero, i.size, i.bytes)) = some (some (.string ⟨#[]⟩), 1, 16) := by kernel_rfl
/-- A new list of the same texts. -/
def Cloned (L : List ByteArray) (w : World) (e : Ending) (w' : World) : Prop :=
  ∃ v row, e = .returned v ∧ Own w' 9 1 v L.length (cellsS L) row ∧ Touch [] w w' ∧ NewRow w none row
theorem clone_Own {row : Option Nat} (v : Value) (L : List ByteArray) (w : World) (h : Own w 9 1 v L.length (cellsS L) row) (hlen : L.length ≤ 1000000) :
    Calls Try.prog 22 #[v] w (Cloned L w) := by
  have H := Lib.hid h
  obtain ⟨A, c, rfl, _⟩ := h.shape
  clear h
  obtain ⟨i0, hi0, hz0, hz1, hz2⟩ := info_parts infoS
  cases A with
  | none =>
    have hnil := fun W : World => Go.run_eql_slice_nil (P := Try.prog) W 22 9 none L.length c Try.underlying22
    go_enter Try.func22, Try.ntmps22
    go_wp2
    go_ret
    have h0 : L.length = 0 := by
      rcases H.out.2 with ⟨_, _, h0, _⟩ | ⟨_, _, _, _, hv, _⟩
      · exact h0
      · injection hv with hv; cases hv
    obtain rfl := List.eq_nil_of_length_eq_zero h0
    exact ⟨_, none, rfl, Own.nil _ _ _ _, Touch.refl _ _, .refl _ _⟩
  | some a =>
    have hnil := fun W : World => Go.run_eql_slice_nil (P := Try.prog) W 22 9 (some a) L.length c Try.underlying22
    go_enter Try.func22, Try.ntmps22
    go_wp2_with (at_builtin; refine wpList_append_Own _ rfl (.tmp 5) (.tmp 6) 22 22 rfl 9 i0 _ 1 16 Try.underlying22 hi0 hz0 hz1 hz2 rfl _ 0 [] none rfl (Own.nil _ _ _ _) _ L.length (cellsS L) rfl ((H.out.alloc _).src cellsS_one Try.underlying22) ?c3 ?c4 ?_)
    case c3 => unfold maxLen; omega
    case c4 => omega
    intro v' w1 row' hown' ht hrow
    have Ho := Lib.hid hown'
    have Hrow := Lib.hid hrow
    clear hown' hrow
    go_wp2
    go_ret
    exact ⟨v', row', rfl, Ho.out, ((Touch.refl [] _).alloc _).trans ht, Hrow.out.before (by simp)⟩
theorem cut_all (s : ByteArray) : s.extract 0 s.size = s := by simp
/-- The texts are cut to 60 bytes. -/
def cut60 (s : ByteArray) : ByteArray := s.extract 0 (min s.size 60)
theorem cut60_le {s : ByteArray} (h : (s.size : Int) ≤ 60) : s = cut60 s := by unfold cut60; rw [Nat.min_eq_left (by omega), cut_all]
theorem cut60_gt {s : ByteArray} (h : (60 : Int) < s.size) : s.extract 0 60 = cut60 s := by unfold cut60; rw [Nat.min_eq_right (by omega)]
end Go.Proofs.Ytkphcgcciiefoaa
