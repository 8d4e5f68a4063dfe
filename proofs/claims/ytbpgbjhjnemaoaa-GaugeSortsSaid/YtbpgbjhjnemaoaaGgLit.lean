/- Calls of the gauge whose answers the document fixes: the pieces. -/
import Derived.Test.YtbpgbjhjnemaoaaGgRAdd
import Derived.Test.YtbpgbjhjnemaoaaGgSorted
namespace Go.Proofs.Ytbpgbjhjnemaoaa
open Go Go.RowKit
theorem inf_any (w : World) : Calls Try.prog 30 #[.int .i64 1] w fun e w' => e = .returned (.float .f64 9218868437227405312) ∧ w' = w := by
  have hr := frombits_run 9218868437227405312
  rw [show ((9218868437227405312 : Nat) : Int) = 9218868437227405312 from rfl] at hr
  go_enter Try.func30, Try.ntmps30
  go_wp2_with fail
  go_ret
  exact ⟨rfl, rfl⟩
theorem nan_any (w : World) : Calls Try.prog 31 #[] w fun e w' => e = .returned (.float .f64 9221120237041090561) ∧ w' = w := by
  have hr := frombits_run 9221120237041090561
  rw [show ((9221120237041090561 : Nat) : Int) = 9221120237041090561 from rfl] at hr
  go_enter Try.func31, Try.ntmps31
  go_wp2_with fail
  go_ret
  exact ⟨rfl, rfl⟩
theorem copysign_any (w : World) : Calls Try.prog 32 #[.float .f64 0, .float .f64 13830554455654793216] w fun e w' => e = .returned (.float .f64 9223372036854775808) ∧ w' = w := by
  have e1 : bits .andNot .u64 0 9223372036854775808 = 0 := by decide +kernel
  have e2 : bits .and .u64 13830554455654793216 9223372036854775808 = 9223372036854775808 := by decide +kernel
  have e3 : bits .or .u64 0 9223372036854775808 = 9223372036854775808 := by decide +kernel
  have hr := frombits_run 9223372036854775808
  rw [show ((9223372036854775808 : Nat) : Int) = 9223372036854775808 from rfl] at hr
  have h1 := bits_run 0
  rw [show ((0 : Nat) : Int) = 0 from rfl] at h1
  have h2 := bits_run 13830554455654793216
  rw [show ((13830554455654793216 : Nat) : Int) = 13830554455654793216 from rfl] at h2
  go_enter Try.func32, Try.ntmps32
  go_wp2_with fail
  go_ret
  exact ⟨rfl, rfl⟩
theorem fk_kf_eq {a b : Nat} (ha : a < 18446744073709551616) (hb : b < 18446744073709551616) (h : kf a = kf b) : fk a = fk b := by
  have hbits := (kf_bits ha hb).2 h
  unfold bitsF at hbits
  unfold fk
  have n0 : isN 9221120237041090560 = true := by decide
  by_cases na : isN a = true <;> by_cases nb : isN b = true
  · rw [if_pos na, if_pos nb]
  · rw [if_pos na, if_neg nb] at hbits; rw [hbits] at n0; exact absurd n0 nb
  · rw [if_neg na, if_pos nb] at hbits; rw [← hbits] at n0; exact absurd n0 na
  · rw [if_neg na, if_neg nb] at hbits; rw [hbits]
/-- The seven numbers of the document, as they are handed in, and in order. -/
def sevA : Nat → Nat := fun k => [9221120237041090561, 4607182418800017408, 9223372036854775808, 9218868437227405312, 0, 13830554455654793216, 18442240474082181120].getD k 0
def sevB : Nat → Nat := fun k => [18442240474082181120, 13830554455654793216, 9223372036854775808, 0, 4607182418800017408, 9218868437227405312, 9221120237041090561].getD k 0
theorem sev_cnt (t : Int) : cnt sevA t 7 = cnt sevB t 7 := by
  show 0 + (if kf 9221120237041090561 < t then 1 else 0) + (if kf 4607182418800017408 < t then 1 else 0) + (if kf 9223372036854775808 < t then 1 else 0) + (if kf 9218868437227405312 < t then 1 else 0) + (if kf 0 < t then 1 else 0) + (if kf 13830554455654793216 < t then 1 else 0) + (if kf 18442240474082181120 < t then 1 else 0) =
    0 + (if kf 18442240474082181120 < t then 1 else 0) + (if kf 13830554455654793216 < t then 1 else 0) + (if kf 9223372036854775808 < t then 1 else 0) + (if kf 0 < t then 1 else 0) + (if kf 4607182418800017408 < t then 1 else 0) + (if kf 9218868437227405312 < t then 1 else 0) + (if kf 9221120237041090561 < t then 1 else 0)
  generalize (if kf 9221120237041090561 < t then 1 else 0) = x1
  generalize (if kf 4607182418800017408 < t then 1 else 0) = x2
  generalize (if kf 9223372036854775808 < t then 1 else 0) = x3
  generalize (if kf 9218868437227405312 < t then 1 else 0) = x4
  generalize (if kf 0 < t then 1 else 0) = x5
  generalize (if kf 13830554455654793216 < t then 1 else 0) = x6
  generalize (if kf 18442240474082181120 < t then 1 else 0) = x7
  omega
theorem sev_srt : Srt sevB 0 7 := by
  have : ∀ i, i < 7 → ∀ j, j < 7 → i ≤ j → kf (sevB i) ≤ kf (sevB j) := by decide +kernel
  exact fun i j _ hij hj => this i (by omega) j hj hij
theorem sev_fk : ∀ i, i < 7 → fk (sevB i) = (i : Int) + 1 := by decide +kernel
theorem sevB_lt : ∀ i, i < 7 → sevB i < 18446744073709551616 := by decide +kernel
/-- The kinds of the seven in order. -/
theorem sev_kind {d : Nat → Nat} (hs : Srt d 0 7) (hc : ∀ t, cnt d t 7 = cnt sevA t 7) (hb : ∀ i, i < 7 → d i < 18446744073709551616) (i : Nat) (hi : i < 7) : fk (d i) = (i : Int) + 1 := by
  have h := srt_unique hs sev_srt (fun t => (hc t).trans (sev_cnt t)) i hi
  rw [fk_kf_eq (hb i hi) (sevB_lt i hi) h]
  exact sev_fk i hi
theorem add_1 : addV 0 0 0 0 4616189618054758400 4602678819172646912 = .tuple #[gV 4616189618054758400 4616189618054758400 4616189618054758400 1, .int .i64 0] := by
  unfold addV
  rw [if_pos (by decide +kernel), if_pos rfl]
theorem add_2 : addV 4616189618054758400 4616189618054758400 4616189618054758400 1 4620693217682128896 4598175219545276416 = .tuple #[gV 4617315517961601024 4616189618054758400 4620693217682128896 2, .int .i64 0] := by
  unfold addV
  rw [if_pos (by decide +kernel), if_neg (by decide), show meanF 4616189618054758400 4620693217682128896 4598175219545276416 = 4617315517961601024 by decide +kernel, show lowF 4620693217682128896 4616189618054758400 = 4616189618054758400 by decide +kernel, show highF 4620693217682128896 4616189618054758400 = 4620693217682128896 by decide +kernel, show addS 1 1 = 2 by decide]
theorem add_3 : addV 4616189618054758400 4616189618054758400 4616189618054758400 1 9221120237041090561 4602678819172646912 = .tuple #[gV 0 0 0 0, .int .i64 1] := by
  unfold addV
  rw [if_neg (by decide +kernel)]
theorem add_4 : addV 4616189618054758400 4616189618054758400 4616189618054758400 1 4607182418800017408 9221120237041090561 = .tuple #[gV 0 0 0 0, .int .i64 1] := by
  unfold addV
  rw [if_neg (by decide +kernel)]
theorem add_5 : addV 4616189618054758400 4616189618054758400 4616189618054758400 1 4607182418800017408 4609434218613702656 = .tuple #[gV 0 0 0 0, .int .i64 1] := by
  unfold addV
  rw [if_neg (by decide +kernel)]
end Go.Proofs.Ytbpgbjhjnemaoaa
