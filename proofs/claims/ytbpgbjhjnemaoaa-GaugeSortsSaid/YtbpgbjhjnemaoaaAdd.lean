/- 'sat.Add': the sum, cut to what there is. -/
import Derived.Test.YtbpgbjhjnemaoaaRows
import Derived.WalkKit
import Derived.Lib.Hide
import Derived.Laws.Externs
import Derived.Test.YtbpgbjhjnemaoaaMem
namespace Go.Proofs.Ytbpgbjhjnemaoaa
open Go.RowKit
def addS (x y : Int) : Int := if x + y < 18446744073709551616 then x + y else 18446744073709551615

theorem run_Add64 (x y c : Int) (hx : 0 ≤ x) (hy : 0 ≤ y) (hc0 : 0 ≤ c) (hc : c ≤ 1) (w : World) :
    (callFunc 40 #[.int .u64 x, .int .u64 y, .int .u64 c]).run Try.prog w =
      .ok (.value (.tuple #[.int .u64 ((x + y + c) % 18446744073709551616), .int .u64 ((x + y + c) / 18446744073709551616)])) w := by
  rw [run_callFunc_extern Try.func40 (by kernel_rfl) (by kernel_rfl) (by kernel_rfl) (e := add64Entry) (by kernel_rfl), run_add64 x y c hx hy hc0 hc]
  rfl

theorem satAdd_any (x y : Int) (hx : 0 ≤ x) (hx' : x < 18446744073709551616) (hy : 0 ≤ y) (hy' : y < 18446744073709551616) (w : World) :
    Calls Try.prog 33 #[.int .u64 x, .int .u64 y] w fun e w' => e = .returned (.int .u64 (addS x y)) ∧ w = w' := by
  have hrun : ∃ s c : Int, (∀ W : World, (callFunc 40 #[.int .u64 x, .int .u64 y, .int .u64 0]).run Try.prog W = .ok (.value (.tuple #[.int .u64 s, .int .u64 c])) W) ∧ ((c = 0 ∧ addS x y = s) ∨ (c = 1 ∧ addS x y = 18446744073709551615)) := by
    refine ⟨_, _, fun W => run_Add64 x y 0 hx hy (by omega) (by omega) W, ?_⟩
    unfold addS
    by_cases h : x + y < 18446744073709551616
    · exact .inl ⟨by omega, by rw [if_pos h]; omega⟩
    · exact .inr ⟨by omega, by rw [if_neg h]⟩
  obtain ⟨s, c, hrun, hc⟩ := hrun
  clear hx hx' hy hy'
  rcases hc with ⟨rfl, hs⟩ | ⟨rfl, hs⟩
  · have Hs := Lib.hid hs; clear hs
    go_enter Try.func33, Try.ntmps33
    go_wp2
    go_ret
    exact ⟨ret_int Hs.out.symm, rfl⟩
  · have Hs := Lib.hid hs; clear hs
    go_enter Try.func33, Try.ntmps33
    go_wp2
    go_ret
    exact ⟨ret_int Hs.out.symm, rfl⟩
end Go.Proofs.Ytbpgbjhjnemaoaa
