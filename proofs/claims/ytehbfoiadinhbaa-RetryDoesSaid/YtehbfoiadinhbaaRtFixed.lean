/- syngraphlaw17.fixed: the calls whose answers the document fixes. -/
import Derived.Test.YtehbfoiadinhbaaRtDue
namespace Go.Proofs.Ytehbfoiadinhbaa
open Go Go.RowKit
def cF : Cf := ⟨2, 10, 0, 3, 2⟩
theorem cF_ok : cfOk cF := by decide
theorem cF_t : CfT cF := by constructor <;> decide
def T0 : Int → Int := fun _ => 0
def T1 : Int → Int := upd T0 7 1
def T2 : Int → Int := upd T1 3 1
def T3 : Int → Int := upd (upd T2 3 2) 7 2
def T4 : Int → Int := upd T3 7 3
theorem htT0 : ∀ a, 0 ≤ T0 a ∧ T0 a ≤ 1000 := fun a => by unfold T0; decide
theorem htT1 : ∀ a, 0 ≤ T1 a ∧ T1 a ≤ 1000 := upd_rng htT0 (by decide)
theorem htT2 : ∀ a, 0 ≤ T2 a ∧ T2 a ≤ 1000 := upd_rng htT1 (by decide)
theorem htT3 : ∀ a, 0 ≤ T3 a ∧ T3 a ≤ 1000 := upd_rng (upd_rng htT2 (by decide)) (by decide)
theorem htT4 : ∀ a, 0 ≤ T4 a ∧ T4 a ≤ 1000 := upd_rng htT3 (by decide)
abbrev tabL (pt pm ph : Nat) (c : Cf) (S : List Al) (T : Int → Int) : List Res := [tbRes pt c pm ph, mapRes pm (idsA S) T, hRes ph S c.room]
theorem tabAt0 (pt pm ph : Nat) (c : Cf) (S : List Al) (T : Int → Int) (rs : List Res) : TabAt (tbRes pt c pm ph :: mapRes pm (idsA S) T :: hRes ph S c.room :: rs) 0 pt pm ph c S T := ⟨rfl, rfl, rfl⟩
set_option maxRecDepth 100000 in
set_option maxHeartbeats 2000000 in
theorem fixed_any (w : World) : Calls Try.prog 14 #[] w fun e w' => e = .returned (.bool true) ∧ Touch [] w w' := by
  have hs0 := Sep.start w
  go_enter Try.func14, Try.ntmps14
  go_wp2_with fail
  have hs1 := hs0.add (w' := w.alloc (.cells (cfC cF).toArray 24)) (r := blkRes w.heap.size 24 (cfC cF).toArray) (F := [w.heap.size]) ⟨rfl, Blk.new _ _ _⟩ ((Touch.refl _ _).alloc _) (by simp)
  refine (newR_yes hs1 cF cF_ok).mono ?_
  rintro e w1 ⟨pt, pm, ph, rfl, hs2⟩
  clear hs0 hs1
  go_wp2_with fail
  refine (newR_no ⟨0, 0, 0, 0, 0⟩ (by decide) _).mono ?_
  rintro e w2 ⟨rfl, ht⟩
  have hs3 := hs2.touch ht
  clear hs2 ht
  go_wp2_with fail
  refine (ask_sep hs3 (show TabAt _ 0 pt pm ph cF ([] : List Al) (T0) from ⟨rfl, rfl, rfl⟩) cF_t (by decide) 7 0 9 (by decide) (by decide) (by decide)).mono ?_
  rintro e w4 ⟨rfl, hs⟩
  clear hs3
  rw [show setCode ([] : List Al) cF.room 7 = 0 from by decide]
  have hs4 : Sep w w.heap.size w4 [tbRes pt cF pm ph, mapRes pm (idsA [(2, 7)]) (T1), hRes ph [(2, 7)] 2, blkRes w.heap.size 24 (cfC cF).toArray] := by
    rw [show askS ([] : List Al) cF 7 0 9 = [(2, 7)] from by decide, show askT ([] : List Al) (T0) cF.room 7 = T1 from by kernel_rfl] at hs
    exact hs
  clear hs
  go_wp2_with fail
  refine (ask_sep hs4 (show TabAt _ 0 pt pm ph cF [(2, 7)] (T1) from ⟨rfl, rfl, rfl⟩) cF_t (by decide) 7 0 0 (by decide) (by decide) (by decide)).mono ?_
  rintro e w5 ⟨rfl, hs⟩
  clear hs4
  rw [show setCode [(2, 7)] cF.room 7 = 6 from by decide]
  have hs5 : Sep w w.heap.size w5 [tbRes pt cF pm ph, mapRes pm (idsA [(2, 7)]) (T1), hRes ph [(2, 7)] 2, blkRes w.heap.size 24 (cfC cF).toArray] := by
    rw [show askS [(2, 7)] cF 7 0 0 = [(2, 7)] from by decide, show askT [(2, 7)] (T1) cF.room 7 = T1 from by kernel_rfl] at hs
    exact hs
  clear hs
  go_wp2_with fail
  refine (ask_sep hs5 (show TabAt _ 0 pt pm ph cF [(2, 7)] (T1) from ⟨rfl, rfl, rfl⟩) cF_t (by decide) 3 0 0 (by decide) (by decide) (by decide)).mono ?_
  rintro e w6 ⟨rfl, hs⟩
  clear hs5
  rw [show setCode [(2, 7)] cF.room 3 = 0 from by decide]
  have hs6 : Sep w w.heap.size w6 [tbRes pt cF pm ph, mapRes pm (idsA [(2, 3), (2, 7)]) (T2), hRes ph [(2, 3), (2, 7)] 2, blkRes w.heap.size 24 (cfC cF).toArray] := by
    rw [show askS [(2, 7)] cF 3 0 0 = [(2, 3), (2, 7)] from by decide, show askT [(2, 7)] (T1) cF.room 3 = T2 from by kernel_rfl] at hs
    exact hs
  clear hs
  go_wp2_with fail
  refine (ask_sep hs6 (show TabAt _ 0 pt pm ph cF [(2, 3), (2, 7)] (T2) from ⟨rfl, rfl, rfl⟩) cF_t (by decide) 1 0 0 (by decide) (by decide) (by decide)).mono ?_
  rintro e w7 ⟨rfl, hs⟩
  clear hs6
  rw [show setCode [(2, 3), (2, 7)] cF.room 1 = 8 from by decide]
  have hs7 : Sep w w.heap.size w7 [tbRes pt cF pm ph, mapRes pm (idsA [(2, 3), (2, 7)]) (T2), hRes ph [(2, 3), (2, 7)] 2, blkRes w.heap.size 24 (cfC cF).toArray] := by
    rw [show askS [(2, 3), (2, 7)] cF 1 0 0 = [(2, 3), (2, 7)] from by decide, show askT [(2, 3), (2, 7)] (T2) cF.room 1 = T2 from by kernel_rfl] at hs
    exact hs
  clear hs
  go_wp2_with fail
  refine (due_sep hs7 (show TabAt _ 0 pt pm ph cF [(2, 3), (2, 7)] (T2) from ⟨rfl, rfl, rfl⟩) cF_t (by decide) (by decide) 1 0 (by decide) htT2 (by decide) (by decide)).mono ?_
  rw [show dueAll cF 1 0 [(2, 3), (2, 7)] (T2) = ⟨[(2, 3), (2, 7)], T2, [], []⟩ from by kernel_rfl]
  rintro e w8 ⟨Aa8, ca8, Ab8, cb8, rfl, hs⟩
  clear hs7
  have hs8 : Sep w w.heap.size w8 [tbRes pt cF pm ph, mapRes pm (idsA [(2, 3), (2, 7)]) (T2), hRes ph [(2, 3), (2, 7)] 2, blkRes w.heap.size 24 (cfC cF).toArray] := hs.forget.forget
  clear hs
  go_wp2_with fail
  refine (due_sep hs8 (show TabAt _ 0 pt pm ph cF [(2, 3), (2, 7)] (T2) from ⟨rfl, rfl, rfl⟩) cF_t (by decide) (by decide) 2 0 (by decide) htT2 (by decide) (by decide)).mono ?_
  rw [show dueAll cF 2 0 [(2, 3), (2, 7)] (T2) = ⟨[(6, 3), (6, 7)], T3, [3, 7], []⟩ from by kernel_rfl]
  rintro e w9 ⟨Aa9, ca9, Ab9, cb9, rfl, hs⟩
  clear hs8
  have hs9 : Sep w w.heap.size w9 [iRes (.slice Aa9 2 ca9) [3, 7], iRes (.slice Ab9 0 cb9) [], tbRes pt cF pm ph, mapRes pm (idsA [(6, 3), (6, 7)]) (T3), hRes ph [(6, 3), (6, 7)] 2, blkRes w.heap.size 24 (cfC cF).toArray] := hs
  clear hs
  go_wp2_with fail
  refine (done_sep hs9 (show TabAt _ 2 pt pm ph cF [(6, 3), (6, 7)] (T3) from ⟨rfl, rfl, rfl⟩) 3 (by decide)).mono ?_
  rintro e w10 ⟨rfl, hs⟩
  clear hs9
  rw [show dropCode [(6, 3), (6, 7)] 3 = 0 from by decide]
  have hs10 : Sep w w.heap.size w10 [iRes (.slice Aa9 2 ca9) [3, 7], iRes (.slice Ab9 0 cb9) [], tbRes pt cF pm ph, mapRes pm (idsA [(6, 7)]) (T3), hRes ph [(6, 7)] 2, blkRes w.heap.size 24 (cfC cF).toArray] := by
    rw [show dropS [(6, 3), (6, 7)] 3 = [(6, 7)] from by decide] at hs
    exact hs
  clear hs
  go_wp2_with fail
  refine (due_sep hs10 (show TabAt _ 2 pt pm ph cF [(6, 7)] (T3) from ⟨rfl, rfl, rfl⟩) cF_t (by decide) (by decide) 6 0 (by decide) htT3 (by decide) (by decide)).mono ?_
  rw [show dueAll cF 6 0 [(6, 7)] (T3) = ⟨[(14, 7)], T4, [7], []⟩ from by kernel_rfl]
  rintro e w11 ⟨Aa11, ca11, Ab11, cb11, rfl, hs⟩
  clear hs10
  have hs11 : Sep w w.heap.size w11 [iRes (.slice Aa11 1 ca11) [7], iRes (.slice Ab11 0 cb11) [], iRes (.slice Aa9 2 ca9) [3, 7], iRes (.slice Ab9 0 cb9) [], tbRes pt cF pm ph, mapRes pm (idsA [(14, 7)]) (T4), hRes ph [(14, 7)] 2, blkRes w.heap.size 24 (cfC cF).toArray] := hs
  clear hs
  go_wp2_with fail
  refine (due_sep hs11 (show TabAt _ 4 pt pm ph cF [(14, 7)] (T4) from ⟨rfl, rfl, rfl⟩) cF_t (by decide) (by decide) 14 0 (by decide) htT4 (by decide) (by decide)).mono ?_
  rw [show dueAll cF 14 0 [(14, 7)] (T4) = ⟨([] : List Al), T4, [], [7]⟩ from by kernel_rfl]
  rintro e w12 ⟨Aa12, ca12, Ab12, cb12, rfl, hs⟩
  clear hs11
  have hs12 : Sep w w.heap.size w12 [iRes (.slice Aa12 0 ca12) [], iRes (.slice Ab12 1 cb12) [7], iRes (.slice Aa11 1 ca11) [7], iRes (.slice Ab11 0 cb11) [], iRes (.slice Aa9 2 ca9) [3, 7], iRes (.slice Ab9 0 cb9) [], tbRes pt cF pm ph, mapRes pm (idsA ([] : List Al)) (T4), hRes ph ([] : List Al) 2, blkRes w.heap.size 24 (cfC cF).toArray] := hs
  clear hs
  go_wp2_with fail
  refine (done_sep hs12 (show TabAt _ 6 pt pm ph cF ([] : List Al) (T4) from ⟨rfl, rfl, rfl⟩) 7 (by decide)).mono ?_
  rintro e w13 ⟨rfl, hs⟩
  clear hs12
  rw [show dropCode ([] : List Al) 7 = 5 from by decide]
  have hs13 : Sep w w.heap.size w13 [iRes (.slice Aa12 0 ca12) [], iRes (.slice Ab12 1 cb12) [7], iRes (.slice Aa11 1 ca11) [7], iRes (.slice Ab11 0 cb11) [], iRes (.slice Aa9 2 ca9) [3, 7], iRes (.slice Ab9 0 cb9) [], tbRes pt cF pm ph, mapRes pm (idsA ([] : List Al)) (T4), hRes ph ([] : List Al) 2, blkRes w.heap.size 24 (cfC cF).toArray] := by
    rw [show dropS ([] : List Al) 7 = ([] : List Al) from by decide] at hs
    exact hs
  clear hs
  go_wp2_with fail
  have hs14 : Sep w w.heap.size _ (iRes (.slice (some ⟨w13.heap.size, 0, none⟩) 2 2) [3, 7] :: _) := hs13.built 3 2 #[.int .i64 3, .int .i64 7] rfl (by omega) (by unfold maxLen; omega)
  refine (ints_sep (L := [3, 7]) (M := [3, 7]) hs14 5 0 rfl rfl).mono ?_
  rintro e w14 ⟨rfl, hs15⟩
  clear hs13 hs14
  rw [eqI_self]
  go_wp2_with fail
  have hs16 : Sep w w.heap.size _ (iRes (.slice (some ⟨w14.heap.size, 0, none⟩) 1 1) [7] :: _) := hs15.built 3 1 #[.int .i64 7] rfl (by omega) (by unfold maxLen; omega)
  refine (ints_sep (L := [7]) (M := [7]) hs16 4 0 rfl rfl).mono ?_
  rintro e w15 ⟨rfl, hs17⟩
  clear hs15 hs16
  rw [eqI_self]
  go_wp2_with fail
  have hs18 : Sep w w.heap.size _ (iRes (.slice (some ⟨w15.heap.size, 0, none⟩) 1 1) [7] :: _) := hs17.built 3 1 #[.int .i64 7] rfl (by omega) (by unfold maxLen; omega)
  refine (ints_sep (L := [7]) (M := [7]) hs18 4 0 rfl rfl).mono ?_
  rintro e w16 ⟨rfl, hs19⟩
  clear hs17 hs18
  rw [eqI_self]
  go_wp2_with fail
  refine (left_sep hs19 (show TabAt _ 9 pt pm ph cF ([] : List Al) T4 from ⟨rfl, rfl, rfl⟩)).mono ?_
  rintro e w17 ⟨rfl, hs20⟩
  clear hs19
  have a0 : w17.cell? ⟨w.heap.size, 0, none⟩ = some (.int .u64 2) := hs20.cellAt 12 rfl 0 rfl
  have a1 : w17.cell? ⟨w.heap.size, 1, none⟩ = some (.int .u64 10) := hs20.cellAt 12 rfl 1 rfl
  have a2 : w17.cell? ⟨w.heap.size, 2, none⟩ = some (.int .u64 0) := hs20.cellAt 12 rfl 2 rfl
  have a3 : w17.cell? ⟨w.heap.size, 3, none⟩ = some (.int .i64 3) := hs20.cellAt 12 rfl 3 rfl
  have a4 : w17.cell? ⟨w.heap.size, 4, none⟩ = some (.int .i64 2) := hs20.cellAt 12 rfl 4 rfl
  go_wp2_with fail
  refine (wait_any cF cF_t 2 5 (by omega) (by omega) _).mono ?_
  rintro e w18 ⟨rfl, ht⟩
  have hs21 := hs20.touch ht
  clear hs20 ht a0 a1 a2 a3 a4
  rw [show waitV cF 2 5 = 8 from by decide]
  have a0 : w18.cell? ⟨w.heap.size, 0, none⟩ = some (.int .u64 2) := hs21.cellAt 12 rfl 0 rfl
  have a1 : w18.cell? ⟨w.heap.size, 1, none⟩ = some (.int .u64 10) := hs21.cellAt 12 rfl 1 rfl
  have a2 : w18.cell? ⟨w.heap.size, 2, none⟩ = some (.int .u64 0) := hs21.cellAt 12 rfl 2 rfl
  have a3 : w18.cell? ⟨w.heap.size, 3, none⟩ = some (.int .i64 3) := hs21.cellAt 12 rfl 3 rfl
  have a4 : w18.cell? ⟨w.heap.size, 4, none⟩ = some (.int .i64 2) := hs21.cellAt 12 rfl 4 rfl
  go_wp2_with fail
  refine (wait_any cF cF_t 9 5 (by omega) (by omega) _).mono ?_
  rintro e w19 ⟨rfl, ht⟩
  have hs22 := hs21.touch ht
  clear hs21 ht a0 a1 a2 a3 a4
  rw [show waitV cF 9 5 = 10 from by decide]
  go_wp2_with fail
  go_ret
  exact ⟨rfl, Touch.of_below hs22.below⟩
end Go.Proofs.Ytehbfoiadinhbaa
