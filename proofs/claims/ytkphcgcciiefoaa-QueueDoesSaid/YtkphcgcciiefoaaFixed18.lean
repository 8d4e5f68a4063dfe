/- syngraphlaw18.fixed: the calls whose answers the document fixes. -/
import Derived.Test.YtkphcgcciiefoaaQueue
import Derived.Test.YtkphcgcciiefoaaSame
namespace Go.Proofs.Ytkphcgcciiefoaa
open Go.RowKit
abbrev bA : ByteArray := ⟨#[97]⟩
abbrev bB : ByteArray := ⟨#[98]⟩
abbrev bC : ByteArray := ⟨#[99]⟩
set_option maxHeartbeats 1000000 in
theorem fixed_any (w : World) : Calls Try.prog 14 #[] w fun e w' => e = .returned (.bool true) ∧ Touch [] w w' := by
  have hs0 := Sep.start w
  go_enter Try.func14, Try.ntmps14
  go_wp2_with fail
  refine (new_sep hs0 2 (by omega) (by omega)).mono ?_
  rintro e w1 ⟨p, rfl, hs1⟩
  clear hs0
  go_wp2_with fail
  refine (queueNew_bad 0 _ (by omega)).mono ?_
  rintro e w1' ⟨rfl, rfl⟩
  go_wp2_with fail
  refine (put_sep hs1 0 rfl bA (by simp) (by omega) (by omega)).mono ?_
  rintro e w2 ⟨rfl, hs⟩
  clear hs1
  rw [show putCode [] 2 bA = 0 from by decide]
  have hs2 : Sep w w.heap.size w2 [qRes p [bA] 2 0] := by
    rw [show putL [] 2 bA = [bA] from by decide, show putLost [] 2 0 bA = 0 from by decide] at hs
    exact hs
  clear hs
  go_wp2_with fail
  refine (put_sep hs2 0 rfl bB (by simp) (by omega) (by omega)).mono ?_
  rintro e w3 ⟨rfl, hs⟩
  clear hs2
  rw [show putCode [bA] 2 bB = 0 from by decide]
  have hs3 : Sep w w.heap.size w3 [qRes p [bA, bB] 2 0] := by
    rw [show putL [bA] 2 bB = [bA, bB] from by decide, show putLost [bA] 2 0 bB = 0 from by decide] at hs
    exact hs
  clear hs
  go_wp2_with fail
  refine (put_sep hs3 0 rfl bA (by simp) (by omega) (by omega)).mono ?_
  rintro e w4 ⟨rfl, hs⟩
  clear hs3
  rw [show putCode [bA, bB] 2 bA = 6 from by decide]
  have hs4 : Sep w w.heap.size w4 [qRes p [bA, bB] 2 0] := by
    rw [show putL [bA, bB] 2 bA = [bA, bB] from by decide, show putLost [bA, bB] 2 0 bA = 0 from by decide] at hs
    exact hs
  clear hs
  go_wp2_with fail
  refine (put_sep hs4 0 rfl bC (by simp) (by omega) (by omega)).mono ?_
  rintro e w5 ⟨rfl, hs⟩
  clear hs4
  rw [show putCode [bA, bB] 2 bC = 8 from by decide]
  have hs5 : Sep w w.heap.size w5 [qRes p [bA, bB] 2 1] := by
    rw [show putL [bA, bB] 2 bC = [bA, bB] from by decide, show putLost [bA, bB] 2 0 bC = 1 from by decide] at hs
    exact hs
  clear hs
  go_wp2_with fail
  refine (all_sep hs5 0 rfl (by simp)).mono ?_
  rintro e w6 ⟨A, c, rfl, hs⟩
  clear hs5
  have hs6 : Sep w w.heap.size w6 [slRes 9 1 (.slice A 2 c) 2 (cellsS [bA, bB]), qRes p [bA, bB] 2 1] := hs
  clear hs
  go_wp2_with fail
  refine (len_sep hs6 1 rfl).mono ?_
  rintro e w6' ⟨rfl, rfl⟩
  go_wp2_with fail
  refine (take_sep hs6 1 rfl (by simp)).mono ?_
  rintro e w7 ⟨rfl, hs⟩
  clear hs6
  rw [show List.headD [bA, bB] ⟨#[]⟩ = bA from rfl, show (!List.isEmpty [bA, bB]) = true from rfl]
  have hs7 : Sep w w.heap.size w7 [slRes 9 1 (.slice A 2 c) 2 (cellsS [bA, bB]), qRes p [bB] 2 1] := hs
  clear hs
  go_wp2_with fail
  refine (put_sep hs7 1 rfl bA (by simp) (by omega) (by omega)).mono ?_
  rintro e w8 ⟨rfl, hs⟩
  clear hs7
  rw [show putCode [bB] 2 bA = 0 from by decide]
  have hs8 : Sep w w.heap.size w8 [slRes 9 1 (.slice A 2 c) 2 (cellsS [bA, bB]), qRes p [bB, bA] 2 1] := by
    rw [show putL [bB] 2 bA = [bB, bA] from by decide, show putLost [bB] 2 1 bA = 1 from by decide] at hs
    exact hs
  clear hs
  go_wp2_with fail
  refine (take_sep hs8 1 rfl (by simp)).mono ?_
  rintro e w9 ⟨rfl, hs⟩
  clear hs8
  rw [show List.headD [bB, bA] ⟨#[]⟩ = bB from rfl, show (!List.isEmpty [bB, bA]) = true from rfl]
  have hs9 : Sep w w.heap.size w9 [slRes 9 1 (.slice A 2 c) 2 (cellsS [bA, bB]), qRes p [bA] 2 1] := hs
  clear hs
  go_wp2_with fail
  refine (take_sep hs9 1 rfl (by simp)).mono ?_
  rintro e w10 ⟨rfl, hs⟩
  clear hs9
  rw [show List.headD [bA] ⟨#[]⟩ = bA from rfl, show (!List.isEmpty [bA]) = true from rfl]
  have hs10 : Sep w w.heap.size w10 [slRes 9 1 (.slice A 2 c) 2 (cellsS [bA, bB]), qRes p ([] : List ByteArray) 2 1] := hs
  clear hs
  go_wp2_with fail
  refine (take_sep hs10 1 rfl (by simp)).mono ?_
  rintro e w11 ⟨rfl, hs⟩
  clear hs10
  rw [show List.headD ([] : List ByteArray) ⟨#[]⟩ = ⟨#[]⟩ from rfl, show (!List.isEmpty ([] : List ByteArray)) = false from rfl]
  have hs11 : Sep w w.heap.size w11 [slRes 9 1 (.slice A 2 c) 2 (cellsS [bA, bB]), qRes p [] 2 1] := hs
  clear hs
  go_wp2_with fail
  have hs12 : Sep w w.heap.size _ [slRes 9 1 (.slice (some ⟨w11.heap.size, 0, none⟩) 2 2) 2 (cellsS [bA, bB]), slRes 9 1 (.slice A 2 c) 2 (cellsS [bA, bB]), qRes p [] 2 1] := hs11.built 9 2 #[.string bA, .string bB] rfl (by omega) (by unfold maxLen; omega)
  refine (same_sep (L := [bA, bB]) (M := [bA, bB]) hs12 1 0 rfl rfl).mono ?_
  rintro e w13 ⟨rfl, hs13⟩
  clear hs11 hs12
  rw [eqL_self]
  go_wp2_with fail
  refine (lost_sep hs13 2 rfl).mono ?_
  rintro e w13' ⟨rfl, rfl⟩
  go_wp2_with fail
  go_ret
  exact ⟨rfl, Touch.of_below hs13.below⟩
end Go.Proofs.Ytkphcgcciiefoaa
