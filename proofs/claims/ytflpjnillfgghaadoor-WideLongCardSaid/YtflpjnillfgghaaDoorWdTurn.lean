/- bits.RotateLeft64, wide.turn. -/
import Derived.Test.YtflpjnillfgghaaDoorWdSpec
import Derived.IntWalk
namespace Go.Proofs.YtflpjnillfgghaaDoor
open Go Go.RowKit
theorem rotn : ∀ n : Fin 64, 0 < n.val → bits .and .u64 (IntKind.u64.wrap (-(n.val : Int))) 63 = ((64 - n.val : Nat) : Int) := by decide +kernel
set_option maxRecDepth 100000 in
theorem rotl_any (x n : Nat) (hn0 : 0 < n) (hn : n < 64) (w : World) :
    Calls Tryd.prog 35 #[.int .u64 (x : Int), .int .i64 (-(n : Int))] w fun e w' => e = .returned (.int .u64 ((rot x n : Nat) : Int)) ∧ w' = w := by
  have h1 : bits .and .u64 (IntKind.u64.wrap (-(n : Int))) 63 = ((64 - n : Nat) : Int) := rotn ⟨n, hn⟩ hn0
  go_enter Tryd.func35, Tryd.ntmps35
  go_wp2_with fail
  go_ret
  refine ⟨ret_int ?_, rfl⟩
  rw [shl_c, shd_c, or_c, show 64 - (64 - n) = n by omega]
  rfl
set_option maxRecDepth 100000 in
theorem turn_any (x n : Nat) (hn0 : 0 < n) (hn : n < 64) (w : World) :
    Calls Tryd.prog 28 #[.int .u64 (x : Int), .int .i64 (n : Int)] w fun e w' => e = .returned (.int .u64 ((rot x n : Nat) : Int)) ∧ w' = w := by
  have h1 : wrap64 (-(n : Int)) = -(n : Int) := IntWalk.wrap64_in _ (by omega)
  have H := Lib.hid (fun W => rotl_any x n hn0 hn W)
  go_enter Tryd.func28, Tryd.ntmps28
  go_wp2_with fail
  refine (H.out _).mono ?_
  rintro e w1 ⟨rfl, rfl⟩
  go_wp2_with fail
  go_ret
  exact ⟨rfl, rfl⟩
end Go.Proofs.YtflpjnillfgghaaDoor
