/- Slices of numbers that were handed in, for RetrySpaces and RetryDone. -/
import Derived.Test.YtehbfoiadinhbaaRtSpacesWalk
import Derived.Test.YtehbfoiadinhbaaWf
namespace Go.Proofs.Ytehbfoiadinhbaa
open Go Go.RowKit
theorem Nums.of {A : Option Addr} {n : Nat} {kd : IntKind} {top : Int} {L0 : List Int} {w : World} (ht : 0 < top) (hwf : ∀ a, (Lit.int kd a).wf = true → 0 ≤ a ∧ a < top)
    (hS0 : ∀ k, k < n → ∃ g o, A = some ⟨g, o, none⟩ ∧ g < w.heap.size ∧ w.cell? ⟨g, o + k, none⟩ = some (.int kd (L0.getD k 0)) ∧ (Lit.int kd (L0.getD k 0)).wf = true) : ∃ L, Nums w A n kd top L := by
  refine ⟨L0.map (fun a => if 0 ≤ a ∧ a < top then a else 0), fun j => ?_, fun k hk => ?_⟩
  · simp only [List.getD_eq_getElem?_getD, List.getElem?_map]
    cases L0[j]? with
    | none => exact ⟨by simp, by simpa using ht⟩
    | some a =>
      simp only [Option.map_some, Option.getD_some]
      split
      · assumption
      · omega
  · obtain ⟨g, o, h1, h2, h3, h4⟩ := hS0 k hk
    refine ⟨g, o, h1, h2, ?_⟩
    rw [h3]
    have h5 := hwf _ h4
    simp only [List.getD_eq_getElem?_getD, List.getElem?_map] at h5 ⊢
    cases h : L0[k]? with
    | none => simp
    | some a =>
      rw [h] at h5
      simp only [Option.map_some, Option.getD_some] at h5 ⊢
      rw [if_pos h5]
theorem spaces_row (c : Cf) (hc : CfT c) (A : Option Addr) (n cp : Nat) (L0 : List Int) (A' : Option Addr) (n' cp' : Nat) (L0' : List Int) (w : World)
    (hS0 : ∀ k, k < n → ∃ g o, A = some ⟨g, o, none⟩ ∧ g < w.heap.size ∧ w.cell? ⟨g, o + k, none⟩ = some (.int .u16 (L0.getD k 0)) ∧ (Lit.int .u16 (L0.getD k 0)).wf = true)
    (hS0' : ∀ k, k < n' → ∃ g o, A' = some ⟨g, o, none⟩ ∧ g < w.heap.size ∧ w.cell? ⟨g, o + k, none⟩ = some (.int .u64 (L0'.getD k 0)) ∧ (Lit.int .u64 (L0'.getD k 0)).wf = true) :
    Calls Try.prog 3 #[cfV c, .slice A n cp, .slice A' n' cp'] w fun e w' => e = .returned (.bool true) ∧ Touch [] w w' := by
  obtain ⟨L, hL⟩ := Nums.of (top := 65536) (by omega) (fun _ => wf_u16) hS0
  obtain ⟨L', hL'⟩ := Nums.of (top := 18446744073709551616) (by omega) (fun _ => wf_u64) hS0'
  exact spaces_walk c hc w A n cp L A' n' cp' L' hL hL'
end Go.Proofs.Ytehbfoiadinhbaa
