/- syngraphlaw16.fixed: the calls whose answers the document fixes. -/
import Derived.Test.YtammlneapiafeaaTSep
namespace Go.Proofs.Ytammlneapiafeaa
open Go.RowKit
set_option maxRecDepth 100000 in
set_option maxHeartbeats 1000000 in
theorem fixed_any (w : World) : Calls Try.prog 12 #[] w fun e w' => e = .returned (.bool true) ∧ Touch [] w w' := by
  have hs0 := Sep.start w
  go_enter Try.func12, Try.ntmps12
  go_wp2_with fail
  refine (newT_sep hs0 3 (by omega) (by omega)).mono ?_
  rintro e w1 ⟨p, rfl, hs1⟩
  clear hs0
  go_wp2_with fail
  refine (timerNew_bad 0 _ (by omega)).mono ?_
  rintro e w1' ⟨rfl, rfl⟩
  go_wp2_with fail
  refine (nextT_sep hs1 0 rfl).mono ?_
  rintro e w1' ⟨rfl, rfl⟩
  rw [show nextV [] = .tuple #[.int .u64 0, .bool false] from rfl]
  go_wp2_with fail
  refine (setT_sep hs1 0 rfl 7 5).mono ?_
  rintro e w2 ⟨rfl, hs⟩
  clear hs1
  rw [show setCode ([] : List Al) 3 7 = 0 from by decide]
  have hs2 : Sep w w.heap.size w2 [hRes p [(5, 7)] 3] := by
    rw [show setS ([] : List Al) 3 7 5 = [(5, 7)] from by decide] at hs
    exact hs
  clear hs
  go_wp2_with fail
  refine (setT_sep hs2 0 rfl 3 5).mono ?_
  rintro e w3 ⟨rfl, hs⟩
  clear hs2
  rw [show setCode [(5, 7)] 3 3 = 0 from by decide]
  have hs3 : Sep w w.heap.size w3 [hRes p [(5, 3), (5, 7)] 3] := by
    rw [show setS [(5, 7)] 3 3 5 = [(5, 3), (5, 7)] from by decide] at hs
    exact hs
  clear hs
  go_wp2_with fail
  refine (setT_sep hs3 0 rfl 1 9).mono ?_
  rintro e w4 ⟨rfl, hs⟩
  clear hs3
  rw [show setCode [(5, 3), (5, 7)] 3 1 = 0 from by decide]
  have hs4 : Sep w w.heap.size w4 [hRes p [(5, 3), (5, 7), (9, 1)] 3] := by
    rw [show setS [(5, 3), (5, 7)] 3 1 9 = [(5, 3), (5, 7), (9, 1)] from by decide] at hs
    exact hs
  clear hs
  go_wp2_with fail
  refine (setT_sep hs4 0 rfl 7 1).mono ?_
  rintro e w5 ⟨rfl, hs⟩
  clear hs4
  rw [show setCode [(5, 3), (5, 7), (9, 1)] 3 7 = 6 from by decide]
  have hs5 : Sep w w.heap.size w5 [hRes p [(5, 3), (5, 7), (9, 1)] 3] := by
    rw [show setS [(5, 3), (5, 7), (9, 1)] 3 7 1 = [(5, 3), (5, 7), (9, 1)] from by decide] at hs
    exact hs
  clear hs
  go_wp2_with fail
  refine (setT_sep hs5 0 rfl 2 1).mono ?_
  rintro e w6 ⟨rfl, hs⟩
  clear hs5
  rw [show setCode [(5, 3), (5, 7), (9, 1)] 3 2 = 8 from by decide]
  have hs6 : Sep w w.heap.size w6 [hRes p [(5, 3), (5, 7), (9, 1)] 3] := by
    rw [show setS [(5, 3), (5, 7), (9, 1)] 3 2 1 = [(5, 3), (5, 7), (9, 1)] from by decide] at hs
    exact hs
  clear hs
  go_wp2_with fail
  refine (nextT_sep hs6 0 rfl).mono ?_
  rintro e wn ⟨rfl, rfl⟩
  rw [show nextV [(5, 3), (5, 7), (9, 1)] = .tuple #[.int .u64 5, .bool true] from rfl]
  go_wp2_with fail
  refine (popT_sep hs6 0 rfl 6).mono ?_
  rintro e w7 ⟨A, c, rfl, hs⟩
  clear hs6
  rw [show goneS [(5, 3), (5, 7), (9, 1)] 6 = [(5, 3), (5, 7)] from by decide, show leftS [(5, 3), (5, 7), (9, 1)] 6 = [(9, 1)] from by decide] at hs
  rw [show goneS [(5, 3), (5, 7), (9, 1)] 6 = [(5, 3), (5, 7)] from by decide]
  have hs7 : Sep w w.heap.size w7 [iRes (.slice A 2 c) [3, 7], hRes p [(9, 1)] 3] := hs
  clear hs
  go_wp2_with fail
  refine (dropT_sep hs7 1 rfl 7).mono ?_
  rintro e w8 ⟨rfl, hs⟩
  clear hs7
  rw [show dropCode [(9, 1)] 7 = 5 from by decide]
  have hs8 : Sep w w.heap.size w8 [iRes (.slice A 2 c) [3, 7], hRes p [(9, 1)] 3] := by
    rw [show dropS [(9, 1)] 7 = [(9, 1)] from by decide] at hs
    exact hs
  clear hs
  go_wp2_with fail
  refine (dropT_sep hs8 1 rfl 1).mono ?_
  rintro e w9 ⟨rfl, hs⟩
  clear hs8
  rw [show dropCode [(9, 1)] 1 = 0 from by decide]
  have hs9 : Sep w w.heap.size w9 [iRes (.slice A 2 c) [3, 7], hRes p ([] : List Al) 3] := by
    rw [show dropS [(9, 1)] 1 = ([] : List Al) from by decide] at hs
    exact hs
  clear hs
  go_wp2_with fail
  have hs10 : Sep w w.heap.size _ [iRes (.slice (some ⟨w9.heap.size, 0, none⟩) 2 2) [3, 7], iRes (.slice A 2 c) [3, 7], hRes p ([] : List Al) 3] := hs9.built 3 2 #[.int .i64 3, .int .i64 7] rfl (by omega) (by unfold maxLen; omega)
  refine (ints_sep (L := [3, 7]) (M := [3, 7]) hs10 1 0 rfl rfl).mono ?_
  rintro e w11 ⟨rfl, hs11⟩
  clear hs9 hs10
  rw [eqI_self]
  go_wp2_with fail
  refine (lenT_sep hs11 2 rfl).mono ?_
  rintro e wl ⟨rfl, rfl⟩
  go_wp2_with fail
  refine (popT_sep hs11 2 rfl 9223372036854775808).mono ?_
  rintro e w12 ⟨A', c', rfl, hs12⟩
  clear hs11
  rw [show goneS ([] : List Al) 9223372036854775808 = [] from by decide] at *
  go_wp2_with fail
  go_ret
  exact ⟨rfl, Touch.of_below hs12.below⟩
end Go.Proofs.Ytammlneapiafeaa
