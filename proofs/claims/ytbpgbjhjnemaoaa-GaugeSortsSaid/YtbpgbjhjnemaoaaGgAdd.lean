/- Add: of the program. -/
import Derived.Test.YtbpgbjhjnemaoaaGgMean
import Derived.Test.YtbpgbjhjnemaoaaAdd
namespace Go.Proofs.Ytbpgbjhjnemaoaa
open Go Go.RowKit
abbrev gV (m l h : Nat) (n : Int) : Value := .agg #[.float .f64 m, .float .f64 l, .float .f64 h, .int .u64 n]
/-- A weight from 0 to 1. -/
def okF (f : Nat) : Bool := !isN f && decide (0 ≤ sv f) && decide (sv f ≤ 4607182418800017408)
def geq0 (f : Nat) : Bool := FloatKind.f64.format.order f 0 == some .gt || FloatKind.f64.format.order f 0 == some .eq
def leq1 (f : Nat) : Bool := FloatKind.f64.format.order f 4607182418800017408 == some .lt || FloatKind.f64.format.order f 4607182418800017408 == some .eq
theorem geq0_eq (f : Nat) (h : f < 18446744073709551616) : geq0 f = (!isN f && decide (0 ≤ sv f)) := by
  unfold geq0
  rw [ordf_gt f _ h (by decide), ordf_eq f _ h (by decide), show isN 0 = false by decide, show sv 0 = 0 by decide]
  cases isN f
  · simp only [Bool.not_false, Bool.true_and]
    rw [Bool.eq_iff_iff]; simp; omega
  · rfl
theorem leq1_eq (f : Nat) (h : f < 18446744073709551616) : leq1 f = (!isN f && decide (sv f ≤ 4607182418800017408)) := by
  unfold leq1
  rw [ordf_lt f _ h (by decide), ordf_eq f _ h (by decide), show isN 4607182418800017408 = false by decide, show sv 4607182418800017408 = 4607182418800017408 by decide]
  cases isN f
  · simp only [Bool.not_false, Bool.true_and]
    rw [Bool.eq_iff_iff]; simp; omega
  · rfl
theorem okF_eq (f : Nat) (h : f < 18446744073709551616) : okF f = (geq0 f && leq1 f) := by
  rw [geq0_eq f h, leq1_eq f h]
  unfold okF
  cases isN f <;> simp
/-- The least, and the greatest, with one more. -/
def lowF (x l : Nat) : Nat := if flt x l then x else l
def highF (x h : Nat) : Nat := if flt h x then x else h
def addV (m l h : Nat) (n : Int) (x f : Nat) : Value :=
  if okF f && !isN x then (if n = 0 then .tuple #[gV x x x 1, .int .i64 0] else .tuple #[gV (meanF m x f) (lowF x l) (highF x h) (addS n 1), .int .i64 0])
  else .tuple #[gV 0 0 0 0, .int .i64 1]
theorem addV_bad {m l h : Nat} {n : Int} {x f : Nat} (hb : (okF f && !isN x) = false) : .tuple #[gV 0 0 0 0, .int .i64 1] = addV m l h n x f := by
  unfold addV; rw [hb]; rfl
theorem addV_first {m l h : Nat} {n : Int} {x f : Nat} (hb : (okF f && !isN x) = true) (hn : n = 0) : .tuple #[gV x x x (addS n 1), .int .i64 0] = addV m l h n x f := by
  unfold addV; rw [hb, if_pos rfl, if_pos hn, hn]; rfl
theorem addV_more {m l h : Nat} {n : Int} {x f : Nat} (hb : (okF f && !isN x) = true) (hn : n ≠ 0) : .tuple #[gV (meanF m x f) (lowF x l) (highF x h) (addS n 1), .int .i64 0] = addV m l h n x f := by
  unfold addV; rw [hb, if_pos rfl, if_neg hn]
set_option maxRecDepth 100000 in
set_option maxHeartbeats 4000000 in
theorem add_any (m l h x f : Nat) (n : Int) (hl : l < 18446744073709551616) (hh : h < 18446744073709551616) (n0 : 0 ≤ n) (n1 : n < 18446744073709551616) (hx : x < 18446744073709551616) (hf : f < 18446744073709551616) (w : World) :
    Calls Try.prog 18 #[gV m l h n, .float .f64 x, .float .f64 f] w fun e w' => e = .returned (addV m l h n x f) ∧ Touch [] w w' := by
  have HK := Lib.hid (fun W : World => kind_any x hx W)
  have HM := Lib.hid (fun W : World => mean_any m x f hx W)
  have HL := Lib.hid (fun W : World => less_any x l hx hl W)
  have HH := Lib.hid (fun W : World => less_any h x hh hx W)
  have HA := Lib.hid (fun W : World => satAdd_any n 1 n0 n1 (by decide) (by decide) W)
  have ho := okF_eq f hf
  have k7 := fk_7 x
  have vb := @addV_bad m l h n x f
  have vf := @addV_first m l h n x f
  have vm := @addV_more m l h n x f
  unfold lowF highF at vm
  obtain ⟨v, hv⟩ : ∃ v, v = addV m l h n x f := ⟨_, rfl⟩
  rw [← hv] at vb vf vm ⊢
  obtain ⟨mm, hmm⟩ : ∃ mm, mm = meanF m x f := ⟨_, rfl⟩
  rw [← hmm] at HM vm
  obtain ⟨aa, haa⟩ : ∃ aa, aa = addS n 1 := ⟨_, rfl⟩
  rw [← haa] at HA vm vf
  obtain ⟨j, hj⟩ : ∃ j, j = fk x := ⟨_, rfl⟩
  rw [← hj] at HK k7
  clear hmm haa hj hv hl hh hx hf n1
  by_cases g : geq0 f = true
  · have g' := g
    unfold geq0 at g'
    by_cases q : leq1 f = true
    · have q' := q
      unfold leq1 at q'
      rw [g, q] at ho
      rw [ho] at vb vf vm
      clear g q ho
      by_cases hn : isN x = true
      · obtain rfl : j = 7 := k7.2 hn
        have HV := Lib.hid (vb (by rw [hn]; rfl))
        clear k7 hn vb vf vm
        go_enter Try.func18, Try.ntmps18
        go_wp2_with fail
        refine (HK.out _).mono ?_
        rintro e w1 ⟨rfl, rfl⟩
        go_wp2_with fail
        exact bodyPost_ret (v := .tuple #[gV 0 0 0 0, .int .i64 1]) (by simp [results, Try.results18, go_sem]) rfl ⟨congrArg Ending.returned HV.out, ((Touch.refl [] w).alloc _).alloc _⟩
      · have hn' : isN x = false := by simpa using hn
        have d7 : (j == 7) = false := by
          have : j ≠ 7 := fun h => hn (k7.1 h)
          simpa using this
        rw [hn'] at vb vf vm
        clear k7 hn hn' vb
        by_cases hz : n = 0
        · have HV := Lib.hid (vf rfl hz)
          subst hz
          clear vf vm
          go_enter Try.func18, Try.ntmps18
          go_wp2_with fail
          refine (HK.out _).mono ?_
          rintro e w1 ⟨rfl, rfl⟩
          go_wp2_with fail
          refine (HA.out _).mono ?_
          rintro e w1 ⟨rfl, rfl⟩
          go_wp2_with fail
          exact bodyPost_ret (v := .tuple #[gV x x x aa, .int .i64 0]) (by simp [results, Try.results18, go_sem]) rfl ⟨congrArg Ending.returned HV.out, ((Touch.refl [] w).alloc _).alloc _⟩
        · have HV := Lib.hid (vm rfl hz)
          have dz : (n == 0) = false := by simpa using hz
          obtain ⟨p, hp⟩ : ∃ p, p = flt x l := ⟨_, rfl⟩
          obtain ⟨q, hq⟩ : ∃ q, q = flt h x := ⟨_, rfl⟩
          rw [← hp] at HL HV
          rw [← hq] at HH HV
          clear vf vm hz hp hq
          cases p <;> cases q
          all_goals
            simp only [if_true, Bool.false_eq_true, if_false] at HV
            go_enter Try.func18, Try.ntmps18
            go_wp2_with fail
            refine (HK.out _).mono ?_
            rintro e w1 ⟨rfl, rfl⟩
            go_wp2_with fail
            refine (HA.out _).mono ?_
            rintro e w1 ⟨rfl, rfl⟩
            go_wp2_with fail
            refine (HM.out _).mono ?_
            rintro e w1 ⟨rfl, nq, rfl⟩
            go_wp2_with fail
            refine (HL.out _).mono ?_
            rintro e w1 ⟨rfl, rfl⟩
            go_wp2_with fail
            refine (HH.out _).mono ?_
            rintro e w1 ⟨rfl, rfl⟩
            go_wp2_with fail
            exact bodyPost_ret (v := _) (by simp [results, Try.results18, go_sem]) rfl ⟨congrArg Ending.returned HV.out, by
              repeat' (refine Touch.setCell ?_ (.inr (by simp)) _)
              exact (((Touch.refl [] w).alloc _).alloc _).drewN _⟩
    · have HV := Lib.hid (vb (by rw [ho, show leq1 f = false by simpa using q]; simp))
      have q' : leq1 f = false := by simpa using q
      unfold leq1 at q'
      clear k7 vb vf vm ho q g
      go_enter Try.func18, Try.ntmps18
      go_wp2_with fail
      exact bodyPost_ret (v := .tuple #[gV 0 0 0 0, .int .i64 1]) (by simp [results, Try.results18, go_sem]) rfl ⟨congrArg Ending.returned HV.out, ((Touch.refl [] w).alloc _).alloc _⟩
  · have HV := Lib.hid (vb (by rw [ho, show geq0 f = false by simpa using g]; simp))
    have g' : geq0 f = false := by simpa using g
    unfold geq0 at g'
    clear k7 vb vf vm ho g
    go_enter Try.func18, Try.ntmps18
    go_wp2_with fail
    exact bodyPost_ret (v := .tuple #[gV 0 0 0 0, .int .i64 1]) (by simp [results, Try.results18, go_sem]) rfl ⟨congrArg Ending.returned HV.out, ((Touch.refl [] w).alloc _).alloc _⟩
end Go.Proofs.Ytbpgbjhjnemaoaa
