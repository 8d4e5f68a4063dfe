/- The stable sort of at most 40: the walk. -/
import Derived.Test.YtbpgbjhjnemaoaaGgMerge3
namespace Go.Proofs.Ytbpgbjhjnemaoaa
open Go Go.RowKit
def SortOk (g off n : Nat) (d : Nat → Nat) (w : World) (e : Ending) (w' : World) : Prop := e = .returned (.tuple #[]) ∧ ∃ d', Arr w' g off n d' ∧ In d d' 0 n n ∧ Srt d' 0 n ∧ Touch [g] w w'
def StepOk (g off n : Nat) (d : Nat → Nat) (a b : Nat) (w : World) (e : Ending) (w' : World) : Prop := e = .returned (.tuple #[]) ∧ ∃ d', Arr w' g off n d' ∧ In d d' a b n ∧ Srt d' a b ∧ Touch [g] w w'
section
variable (g off n c : Nat) (hn : n ≤ 40)
include hn
theorem ins_lit (A B : Int) (a b : Nat) (hA : A = (a : Int)) (hB : B = (b : Int)) (hab : a ≤ b) (hb : b ≤ n) (d : Nat → Nat) (w : World) (h : Arr w g off n d) :
    Calls Try.prog 42 #[.slice (some ⟨g, off, none⟩) n c, .int .i64 A, .int .i64 B, cfV] w (StepOk g off n d a b w) := by
  subst hA hB
  exact (insert_any g off n c d a b hab hb (by omega) w h).mono fun _ _ h => h
theorem mrg_lit (A M B : Int) (a m b : Nat) (hA : A = (a : Int)) (hM : M = (m : Int)) (hB : B = (b : Int)) (ham : a < m) (hmb : m < b) (hb : b ≤ n) (d : Nat → Nat) (w : World) (h : Arr w g off n d) (h1 : Srt d a m) (h2 : Srt d m b) :
    Calls Try.prog 43 #[.slice (some ⟨g, off, none⟩) n c, .int .i64 A, .int .i64 M, .int .i64 B, cfV] w (StepOk g off n d a b w) := by
  subst hA hM hB
  exact (merge_any g off n c (by omega) 40 a m b d w (by omega) ham hmb hb h h1 h2).mono fun _ _ h => h
set_option maxRecDepth 100000 in
set_option maxHeartbeats 2000000 in
theorem stable_a (d : Nat → Nat) (hlt : n < 20) (wA : World) (h : Arr wA g off n d) :
    Calls Try.prog 41 #[.slice (some ⟨g, off, none⟩) n c, .int .i64 (n : Int), cfV] wA (SortOk g off n d wA) := by
  have HI := Lib.hid (ins_lit g off n c hn 0 (n : Int) 0 n rfl rfl (by omega) (by omega) d wA h)
  have t1 : decide ((20 : Int) ≤ (n : Int)) = false := decide_eq_false (by omega)
  have t2 : decide ((20 : Int) < (n : Int)) = false := decide_eq_false (by omega)
  clear h hn hlt
  go_enter Try.func41, Try.ntmps41
  go_wp2_with fail
  refine wp_loop_rounds 1 ?_
  rw [rounds_succ]
  go_wp2_with fail
  refine HI.out.mono ?_
  rintro e w1 ⟨rfl, d', h1, h2, h3, h4⟩
  have HA := Lib.hid h1
  have HN := Lib.hid h2
  have HS := Lib.hid h3
  have HT := Lib.hid h4
  clear h1 h2 h3 h4 HI
  go_wp2_with fail
  refine wp_loop_rounds 1 ?_
  rw [rounds_succ]
  go_wp2_with fail
  go_end0
  exact ⟨rfl, d', HA.out, HN.out, HS.out, HT.out⟩
set_option maxRecDepth 100000 in
set_option maxHeartbeats 2000000 in
theorem stable_b (d : Nat → Nat) (hlt : n = 20) (wA : World) (h : Arr wA g off n d) :
    Calls Try.prog 41 #[.slice (some ⟨g, off, none⟩) n c, .int .i64 (n : Int), cfV] wA (SortOk g off n d wA) := by
  have HI := Lib.hid (ins_lit g off n c hn 0 20 0 20 rfl rfl (by omega) (by omega) d wA h)
  have HJ := Lib.hid (fun (d : Nat → Nat) (W : World) (h : Arr W g off n d) => ins_lit g off n c hn 20 (n : Int) 20 n rfl rfl (by omega) (by omega) d W h)
  have t1 : decide ((20 : Int) ≤ (n : Int)) = true := decide_eq_true (by omega)
  have t3 : decide ((40 : Int) ≤ (n : Int)) = false := decide_eq_false (by omega)
  have t2 : decide ((20 : Int) < (n : Int)) = false := decide_eq_false (by omega)
  have Hl := Lib.hid hlt
  clear h hn hlt
  go_enter Try.func41, Try.ntmps41
  go_wp2_with fail
  refine wp_loop_rounds 2 ?_
  rw [rounds_succ]
  go_wp2_with fail
  refine HI.out.mono ?_
  rintro e w1 ⟨rfl, d1, h1, h2, h3, h4⟩
  have HA := Lib.hid h1
  have HN := Lib.hid h2
  have HS := Lib.hid h3
  have HT := Lib.hid h4
  clear h1 h2 h3 h4 HI
  go_wp2_with fail
  rw [rounds_succ]
  go_wp2_with fail
  refine (HJ.out _ _ HA.out).mono ?_
  rintro e w2 ⟨rfl, d2, h1, h2, h3, h4⟩
  have HA2 := Lib.hid h1
  have HN2 := Lib.hid h2
  have HT2 := Lib.hid (HT.out.trans h4)
  clear h1 h2 h3 h4
  go_wp2_with fail
  refine wp_loop_rounds 1 ?_
  rw [rounds_succ]
  go_wp2_with fail
  go_end0
  have e2 : ∀ i, d2 i = d1 i := fun i => HN2.out.out i (by have := Hl.out; omega)
  exact ⟨rfl, d2, HA2.out, (HN.out.wide (a' := 0) (b' := n) (by omega) (by have := Hl.out; omega)).trans (HN2.out.wide (a' := 0) (b' := n) (by omega) (by omega)), srt_congr (by rw [Hl.out]; exact HS.out) fun i _ _ => e2 i, HT2.out⟩
set_option maxRecDepth 100000 in
set_option maxHeartbeats 2000000 in
theorem stable_c (d : Nat → Nat) (hgt : 20 < n) (hlt : n < 40) (wA : World) (h : Arr wA g off n d) :
    Calls Try.prog 41 #[.slice (some ⟨g, off, none⟩) n c, .int .i64 (n : Int), cfV] wA (SortOk g off n d wA) := by
  have HI := Lib.hid (ins_lit g off n c hn 0 20 0 20 rfl rfl (by omega) (by omega) d wA h)
  have HJ := Lib.hid (fun (d : Nat → Nat) (W : World) (h : Arr W g off n d) => ins_lit g off n c hn 20 (n : Int) 20 n rfl rfl (by omega) (by omega) d W h)
  have HM := Lib.hid (fun (d : Nat → Nat) (W : World) (h : Arr W g off n d) => mrg_lit g off n c hn 0 20 (n : Int) 0 20 n rfl rfl rfl (by omega) (by omega) (by omega) d W h)
  have t1 : decide ((20 : Int) ≤ (n : Int)) = true := decide_eq_true (by omega)
  have t3 : decide ((40 : Int) ≤ (n : Int)) = false := decide_eq_false (by omega)
  have t2 : decide ((20 : Int) < (n : Int)) = true := decide_eq_true (by omega)
  have t4 : decide ((40 : Int) < (n : Int)) = false := decide_eq_false (by omega)
  have Hl := Lib.hid hlt
  have Hg := Lib.hid hgt
  clear h hn hlt hgt
  go_enter Try.func41, Try.ntmps41
  go_wp2_with fail
  refine wp_loop_rounds 2 ?_
  rw [rounds_succ]
  go_wp2_with fail
  refine HI.out.mono ?_
  rintro e w1 ⟨rfl, d1, h1, h2, h3, h4⟩
  have HA := Lib.hid h1
  have HN := Lib.hid h2
  have HS := Lib.hid h3
  have HT := Lib.hid h4
  clear h1 h2 h3 h4 HI
  go_wp2_with fail
  rw [rounds_succ]
  go_wp2_with fail
  refine (HJ.out _ _ HA.out).mono ?_
  rintro e w2 ⟨rfl, d2, h1, h2, h3, h4⟩
  have HA2 := Lib.hid h1
  have HN2 := Lib.hid ((HN.out.wide (a' := 0) (b' := n) (by omega) (by have := Hg.out; omega)).trans (h2.wide (a' := 0) (b' := n) (by omega) (by omega)))
  have HS1 := Lib.hid (srt_congr HS.out fun i _ hi => h2.out i (.inl hi))
  have HS2 := Lib.hid h3
  have HT2 := Lib.hid (HT.out.trans h4)
  clear h1 h2 h3 h4 HA HN HT HS HJ
  go_wp2_with fail
  refine wp_loop_rounds 2 ?_
  rw [rounds_succ]
  go_wp2_with fail
  refine wp_loop_rounds 1 ?_
  rw [rounds_succ]
  go_wp2_with fail
  refine (HM.out _ _ HA2.out HS1.out HS2.out).mono ?_
  rintro e w3 ⟨rfl, d3, h1, h2, h3, h4⟩
  have HA3 := Lib.hid h1
  have HN3 := Lib.hid (HN2.out.trans h2)
  have HS3 := Lib.hid h3
  have HT3 := Lib.hid (HT2.out.trans h4)
  clear h1 h2 h3 h4
  go_wp2_with fail
  rw [rounds_succ]
  go_wp2_with fail
  go_end0
  exact ⟨rfl, d3, HA3.out, HN3.out, HS3.out, HT3.out⟩
set_option maxRecDepth 100000 in
set_option maxHeartbeats 4000000 in
theorem stable_d (d : Nat → Nat) (hlt : n = 40) (wA : World) (h : Arr wA g off n d) :
    Calls Try.prog 41 #[.slice (some ⟨g, off, none⟩) n c, .int .i64 (n : Int), cfV] wA (SortOk g off n d wA) := by
  have HI := Lib.hid (ins_lit g off n c hn 0 20 0 20 rfl rfl (by omega) (by omega) d wA h)
  have HI2 := Lib.hid (fun (d : Nat → Nat) (W : World) (h : Arr W g off n d) => ins_lit g off n c hn 20 40 20 40 rfl rfl (by omega) (by omega) d W h)
  have HJ := Lib.hid (fun (d : Nat → Nat) (W : World) (h : Arr W g off n d) => ins_lit g off n c hn 40 (n : Int) 40 n rfl rfl (by omega) (by omega) d W h)
  have HM := Lib.hid (fun (d : Nat → Nat) (W : World) (h : Arr W g off n d) => mrg_lit g off n c hn 0 20 40 0 20 40 rfl rfl rfl (by omega) (by omega) (by omega) d W h)
  have t1 : decide ((20 : Int) ≤ (n : Int)) = true := decide_eq_true (by omega)
  have t3 : decide ((40 : Int) ≤ (n : Int)) = true := decide_eq_true (by omega)
  have t2 : decide ((20 : Int) < (n : Int)) = true := decide_eq_true (by omega)
  have t4 : decide ((40 : Int) < (n : Int)) = false := decide_eq_false (by omega)
  have t5 : decide ((60 : Int) ≤ (n : Int)) = false := decide_eq_false (by omega)
  have t6 : decide ((80 : Int) ≤ (n : Int)) = false := decide_eq_false (by omega)
  have t7 : decide ((60 : Int) < (n : Int)) = false := decide_eq_false (by omega)
  have Hl := Lib.hid hlt
  clear h hn hlt
  go_enter Try.func41, Try.ntmps41
  go_wp2_with fail
  refine wp_loop_rounds 3 ?_
  rw [rounds_succ]
  go_wp2_with fail
  refine HI.out.mono ?_
  rintro e w1 ⟨rfl, d1, h1, h2, h3, h4⟩
  have HA := Lib.hid h1
  have HN := Lib.hid (h2.wide (a' := 0) (b' := n) (by omega) (by have := Hl.out; omega))
  have HS := Lib.hid h3
  have HT := Lib.hid h4
  clear h1 h2 h3 h4 HI
  go_wp2_with fail
  rw [rounds_succ]
  go_wp2_with fail
  refine (HI2.out _ _ HA.out).mono ?_
  rintro e w2 ⟨rfl, d2, h1, h2, h3, h4⟩
  have HA2 := Lib.hid h1
  have HN2 := Lib.hid (HN.out.trans (h2.wide (a' := 0) (b' := n) (by omega) (by have := Hl.out; omega)))
  have HS1 := Lib.hid (srt_congr HS.out fun i _ hi => h2.out i (.inl hi))
  have HS2 := Lib.hid h3
  have HT2 := Lib.hid (HT.out.trans h4)
  clear h1 h2 h3 h4 HA HN HT HS
  go_wp2_with fail
  rw [rounds_succ]
  go_wp2_with fail
  refine (HJ.out _ _ HA2.out).mono ?_
  rintro e w3 ⟨rfl, d3, h1, h2, h3, h4⟩
  have e3 : ∀ i, d3 i = d2 i := fun i => h2.out i (by have := Hl.out; omega)
  have HA3 := Lib.hid h1
  have HN3 := Lib.hid (HN2.out.trans (h2.wide (a' := 0) (b' := n) (by omega) (by omega)))
  have HS3 := Lib.hid (srt_congr HS1.out fun i _ _ => e3 i)
  have HS4 := Lib.hid (srt_congr HS2.out fun i _ _ => e3 i)
  have HT3 := Lib.hid (HT2.out.trans h4)
  clear h1 h2 h3 h4 HA2 HN2 HT2 HS1 HS2 HI2 HJ e3
  go_wp2_with fail
  refine wp_loop_rounds 2 ?_
  rw [rounds_succ]
  go_wp2_with fail
  refine wp_loop_rounds 2 ?_
  rw [rounds_succ]
  go_wp2_with fail
  refine (HM.out _ _ HA3.out HS3.out HS4.out).mono ?_
  rintro e w4 ⟨rfl, d4, h1, h2, h3, h4⟩
  have HA4 := Lib.hid h1
  have HN4 := Lib.hid (HN3.out.trans (h2.wide (a' := 0) (b' := n) (by omega) (by have := Hl.out; omega)))
  have HS5 := Lib.hid h3
  have HT4 := Lib.hid (HT3.out.trans h4)
  clear h1 h2 h3 h4
  go_wp2_with fail
  rw [rounds_succ]
  go_wp2_with fail
  rw [rounds_succ]
  go_wp2_with fail
  go_end0
  exact ⟨rfl, d4, HA4.out, HN4.out, by rw [Hl.out]; exact HS5.out, HT4.out⟩
theorem stable_any (d : Nat → Nat) (wA : World) (h : Arr wA g off n d) :
    Calls Try.prog 41 #[.slice (some ⟨g, off, none⟩) n c, .int .i64 (n : Int), cfV] wA (SortOk g off n d wA) := by
  rcases Nat.lt_trichotomy n 20 with h1 | h1 | h1
  · exact stable_a g off n c hn d h1 wA h
  · exact stable_b g off n c hn d h1 wA h
  · rcases Nat.lt_or_ge n 40 with h2 | h2
    · exact stable_c g off n c hn d h1 h2 wA h
    · exact stable_d g off n c hn d (by omega) wA h
end
end Go.Proofs.Ytbpgbjhjnemaoaa
