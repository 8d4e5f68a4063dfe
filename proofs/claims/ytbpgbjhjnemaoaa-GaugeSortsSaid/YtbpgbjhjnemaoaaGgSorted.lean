/- Sorted of the program: the walk. -/
import Derived.Test.YtbpgbjhjnemaoaaGgStable
import Derived.Lib.LazyBuf
namespace Go.Proofs.Ytbpgbjhjnemaoaa
open Go Go.RowKit
/-- A slice of n numbers. -/
def RowF (w : World) (A : Option Addr) (n : Nat) (d : Nat → Nat) : Prop := ∀ k, k < n → ∃ g o, A = some ⟨g, o, none⟩ ∧ g < w.heap.size ∧ w.cell? ⟨g, o + k, none⟩ = some (.float .f64 (d k)) ∧ d k < 18446744073709551616
theorem RowF.touch {w w' : World} {A : Option Addr} {n : Nat} {d : Nat → Nat} (h : RowF w A n d) (ht : Touch [] w w') : RowF w' A n d := fun k hk => by
  obtain ⟨g, o, h1, h2, h3, h4⟩ := h k hk
  exact ⟨g, o, h1, Nat.lt_of_lt_of_le h2 ht.size, (ht.cell (p := ⟨g, o + k, none⟩) h2 (by simp)).trans h3, h4⟩
def cellsF (n : Nat) (d : Nat → Nat) : List Value := (List.range n).map fun k => .float .f64 (d k)
theorem cellsF_len (n : Nat) (d : Nat → Nat) : (cellsF n d).length = n := by simp [cellsF]
theorem cellsF_at {n : Nat} {d : Nat → Nat} {k : Nat} (h : k < n) : (cellsF n d)[k]? = some (.float .f64 (d k)) := by simp [cellsF, h]
theorem cellsF_one (n : Nat) (d : Nat → Nat) : ∀ u ∈ cellsF n d, u.oneCell' = true := by
  intro u hu
  simp only [cellsF, List.mem_map] at hu
  obtain ⟨k, _, rfl⟩ := hu
  rfl
theorem infoF : (Try.prog.info? 22).map (fun i => (i.zero, i.size, i.bytes)) = some (some (.float .f64 0), 1, 8) := by kernel_rfl
theorem RowF.src {w : World} {A : Option Addr} {n c : Nat} {d : Nat → Nat} (h : RowF w A n d) : Src Try.prog 1 42 (.slice A n c) n (cellsF n d) w := by
  cases A with
  | none =>
    have hn : n = 0 := by
      rcases Nat.eq_zero_or_pos n with h0 | h0
      · exact h0
      · obtain ⟨g, o, h1, _⟩ := h 0 h0
        cases h1
    subst hn
    exact Src.ofNil w Try.underlying42 c
  | some a =>
    refine Src.ofSlice w Try.underlying42 a n c _ (by simp [cellsF]) (fun j u hu => ?_) (cellsF_one n d)
    have hj : j < n := by rw [← cellsF_len n d]; exact (List.getElem?_eq_some_iff.1 hu).1
    obtain ⟨g, o, h1, h2, h3, _⟩ := h j hj
    injection h1 with h1
    subst h1
    rw [cellsF_at hj] at hu
    injection hu with hu
    subst hu
    rw [Addr.add_lit]
    exact h3
/-- A new row of the same numbers. -/
def ClonedF (n : Nat) (d : Nat → Nat) (w : World) (e : Ending) (w' : World) : Prop :=
  ∃ A c, e = .returned (.slice A n c) ∧ Touch [] w w' ∧ (0 < n → ∃ g o, A = some ⟨g, o, none⟩ ∧ w.heap.size ≤ g ∧ Arr w' g o n d)
theorem cloneF_any (A : Option Addr) (n c : Nat) (d : Nat → Nat) (hn : n ≤ 1000) (w : World) (h : RowF w A n d) :
    Calls Try.prog 35 #[.slice A n c] w (ClonedF n d w) := by
  have H := Lib.hid h
  have hb : ∀ k, k < n → d k < 18446744073709551616 := fun k hk => by
    obtain ⟨g, o, _, _, _, h4⟩ := h k hk
    exact h4
  have HB := Lib.hid hb
  have hA0 : A = none → n = 0 := fun hA => by
    rcases Nat.eq_zero_or_pos n with h0 | h0
    · exact h0
    · obtain ⟨g, o, h1, _⟩ := h 0 h0
      rw [hA] at h1
      cases h1
  clear h hb
  obtain ⟨i0, hi0, hz0, hz1, hz2⟩ := info_parts infoF
  cases A with
  | none =>
    obtain rfl := hA0 rfl
    have hnil := fun W : World => Go.run_eql_slice_nil (P := Try.prog) W 42 22 none 0 c Try.underlying42
    clear hA0
    go_enter Try.func35, Try.ntmps35
    go_wp2
    go_ret
    exact ⟨none, 0, rfl, Touch.refl _ _, fun h => by omega⟩
  | some a =>
    have hnil := fun W : World => Go.run_eql_slice_nil (P := Try.prog) W 42 22 (some a) n c Try.underlying42
    clear hA0
    go_enter Try.func35, Try.ntmps35
    go_wp2_with (at_builtin; refine wpList_append_Own _ rfl (.tmp 5) (.tmp 6) 42 42 rfl 22 i0 _ 1 8 Try.underlying42 hi0 hz0 hz1 hz2 rfl _ 0 [] none rfl (Own.nil _ _ _ _) _ n (cellsF n d) rfl (H.out.touch ((Touch.refl [] w).alloc _)).src ?c3 ?c4 ?_)
    case c3 => unfold maxLen; omega
    case c4 => omega
    intro v' w1 row' hown' ht hrow
    have Ho := Lib.hid hown'
    have Hrow := Lib.hid hrow
    have HT := Lib.hid ht
    clear hown' hrow ht
    obtain ⟨A', c', rfl, _⟩ := Ho.out.shape
    go_wp2
    go_ret
    refine ⟨A', c', rfl, ((Touch.refl [] _).alloc _).trans HT.out, fun h0 => ?_⟩
    obtain ⟨g, off, c2, cur, hv, hr, hb, _, hnc, _, hsz, hx⟩ := Ho.out.at_ (by omega)
    injection hv with hA _ hc
    subst hA
    refine ⟨g, off, rfl, ?_, cur, hb, by omega, fun i hi => hx i _ (cellsF_at hi), HB.out⟩
    rcases Hrow.out g hr with h | h
    · cases h
    · exact Nat.le_trans (by simp) h
set_option maxRecDepth 100000 in
theorem stable_zero (A : Option Addr) (c : Nat) (w : World) :
    Calls Try.prog 41 #[.slice A 0 c, .int .i64 0, cfV] w fun e w' => e = .returned (.tuple #[]) ∧ w' = w := by
  have hi : ∀ W : World, Calls Try.prog 42 #[.slice A 0 c, .int .i64 0, .int .i64 0, cfV] W fun e w' => e = .returned (.tuple #[]) ∧ w' = W := fun W => by
    go_enter Try.func42, Try.ntmps42
    go_wp2_with fail
    refine wp_loop_rounds 1 ?_
    rw [rounds_succ]
    go_wp2_with fail
    go_end0
    exact ⟨rfl, rfl⟩
  have HI := Lib.hid hi
  clear hi
  go_enter Try.func41, Try.ntmps41
  go_wp2_with fail
  refine wp_loop_rounds 1 ?_
  rw [rounds_succ]
  go_wp2_with fail
  refine (HI.out _).mono ?_
  rintro e w1 ⟨rfl, rfl⟩
  go_wp2_with fail
  refine wp_loop_rounds 1 ?_
  rw [rounds_succ]
  go_wp2_with fail
  go_end0
  exact ⟨rfl, rfl⟩
theorem sortf_zero (A : Option Addr) (c : Nat) (w : World) :
    Calls Try.prog 36 #[.slice A 0 c, cfV] w fun e w' => e = .returned (.tuple #[]) ∧ w' = w := by
  have HI := Lib.hid (fun W : World => stable_zero A c W)
  go_enter Try.func36, Try.ntmps36
  go_wp2_with fail
  refine (HI.out _).mono ?_
  rintro e w1 ⟨rfl, rfl⟩
  go_wp2_with fail
  go_end0
  exact ⟨rfl, rfl⟩
theorem sortf_any (g off n c : Nat) (hn : n ≤ 40) (d : Nat → Nat) (wA : World) (h : Arr wA g off n d) :
    Calls Try.prog 36 #[.slice (some ⟨g, off, none⟩) n c, cfV] wA (SortOk g off n d wA) := by
  have HI := Lib.hid (stable_any g off n c hn d wA h)
  clear h
  go_enter Try.func36, Try.ntmps36
  go_wp2_with fail
  refine HI.out.mono ?_
  rintro e w1 ⟨rfl, d1, h1, h2, h3, h4⟩
  have HA := Lib.hid h1
  have HN := Lib.hid h2
  have HS := Lib.hid h3
  have HT := Lib.hid h4
  clear h1 h2 h3 h4
  go_wp2_with fail
  go_end0
  exact ⟨rfl, d1, HA.out, HN.out, HS.out, HT.out⟩
/-- The numbers in order, in a new row. -/
def SortedOk (n : Nat) (d : Nat → Nat) (w : World) (e : Ending) (w' : World) : Prop :=
  ∃ A c d', e = .returned (.slice A n c) ∧ RowF w' A n d' ∧ Srt d' 0 n ∧ (∀ t, cnt d' t n = cnt d t n) ∧ Touch [] w w'
theorem Arr.rowF {w : World} {g off n : Nat} {d : Nat → Nat} (h : Arr w g off n d) : RowF w (some ⟨g, off, none⟩) n d := fun _ hk => ⟨g, off, rfl, h.lt, h.cell hk, h.bd hk⟩
theorem sorted_any (A : Option Addr) (n c : Nat) (d : Nat → Nat) (hn : n ≤ 40) (w : World) (h : RowF w A n d) :
    Calls Try.prog 24 #[.slice A n c] w (SortedOk n d w) := by
  have HC := Lib.hid (cloneF_any A n c d (by omega) w h)
  clear h
  go_enter Try.func24, Try.ntmps24
  go_wp2_with fail
  refine HC.out.mono ?_
  rintro e w1 ⟨A1, c1, rfl, ht, hrow⟩
  have HT := Lib.hid ht
  clear ht HC
  rcases Nat.eq_zero_or_pos n with h0 | h0
  · subst h0
    have HZ := Lib.hid (fun W : World => sortf_zero A1 c1 W)
    clear hrow
    go_wp2_with fail
    refine (HZ.out _).mono ?_
    rintro e w2 ⟨rfl, rfl⟩
    go_wp2_with fail
    go_ret
    exact ⟨A1, c1, d, rfl, fun k hk => by omega, srt_tiny _ (by omega), fun _ => rfl, HT.out⟩
  · obtain ⟨g, off, rfl, hg, ha⟩ := hrow h0
    have HS := Lib.hid (sortf_any g off n c1 hn d w1 ha)
    clear ha hrow
    go_wp2_with fail
    refine HS.out.mono ?_
    rintro e w2 ⟨rfl, d2, h1, h2, h3, h4⟩
    have HA := Lib.hid h1
    have HN := Lib.hid h2
    have HSr := Lib.hid h3
    have HT2 := Lib.hid (show Touch [] w w2 from ⟨h4.os.trans HT.out.os, h4.tape.trans HT.out.tape, h4.output.trans HT.out.output, Nat.le_trans HT.out.size h4.size, fun k hk hnm => (h4.block k (Nat.lt_of_lt_of_le hk HT.out.size) (by simp; omega)).trans (HT.out.block k hk hnm)⟩)
    clear h1 h2 h3 h4 HS HT
    go_wp2_with fail
    go_ret
    exact ⟨_, c1, d2, rfl, HA.out.rowF, HSr.out, HN.out.cnt, HT2.out⟩
end Go.Proofs.Ytbpgbjhjnemaoaa
