/- A table's copy. -/
import Derived.Test.YtehbfoiadinhbaaRtTwo
import Derived.Shelf.SlMaps.Clone
namespace Go.Proofs.Ytehbfoiadinhbaa
open Go Go.RowKit Go.Maps
set_option maxHeartbeats 2000000 in
theorem clone_any (b : Nat) (es : Array MapEntry) (clock : Nat) (w : World) (hb : w.heap[b]? = some (.map es clock)) :
    Calls Try.prog 35 #[.map (some b)] w fun e w' => e = .returned (.map (some w.heap.size)) ∧ w' = w.alloc (.map es clock) := by
  have hq := fun w => run_eql_map_nil_sl (P := Try.prog) w 67 _ _ (some b) Try.underlying67
  go_enter Try.func35, Try.ntmps35
  go_wp2
  rw [run_callFunc_extern Try.func42 (by kernel_rfl) (by kernel_rfl) (by kernel_rfl) (e := Extern.MapsClone.clone) (by kernel_rfl), run_maps_clone_sl w 67 hb]
  simp only [Result.andThen]
  rw [Oper.upon_value]
  go_wp2
  rw [run_typeAssert_map_sl _ 67 _ _ _ _ Try.underlying67]
  simp only [Result.andThen]
  rw [Oper.upon_value]
  go_wp2
  go_ret
  exact ⟨rfl, rfl⟩
theorem cloneT_sep {w w0 : World} {B : Nat} {rs : List Res} {b i : Nat} {I : List Int} {T : Int → Int} (h : Sep w0 B w rs) (hi : rs[i]? = some (mapRes b I T)) :
    Calls Try.prog 35 #[.map (some b)] w fun e w' => ∃ b', e = .returned (.map (some b')) ∧ Sep w0 B w' (mapRes b' I T :: rs) := by
  obtain ⟨F, rfl, D, ⟨es, clock, hb, hf, hs, hd⟩, hl, hr⟩ := h.look i hi
  refine (clone_any b es clock w hb).mono fun e w' ⟨he, hw⟩ => ⟨w.heap.size, he, ?_⟩
  subst hw
  exact h.add (r := mapRes w.heap.size I T) (F := [w.heap.size]) ⟨rfl, D, ⟨es, clock, (MapKept.heap_alloc w _).1, hf, hs, hd⟩, hl, hr⟩ ((Touch.refl _ _).alloc _) (by simp)
set_option maxRecDepth 100000 in
set_option maxHeartbeats 4000000 in
theorem tcopy_sep {w w0 : World} {B : Nat} {rs : List Res} {i pt pm ph : Nat} {c : Cf} {S : List Al} {T : Int → Int} (hsep : Sep w0 B w rs) (htab : TabAt rs i pt pm ph c S T) :
    Calls Try.prog 24 #[.pointer (some ⟨pt, 0, none⟩)] w fun e w' => ∃ pt' pm' ph', e = .returned (.pointer (some ⟨pt', 0, none⟩)) ∧
      Sep w0 B w' (tbRes pt' c pm' ph' :: mapRes pm' (idsA S) T :: hRes ph' S c.room :: rs) := by
  have hb := tab_blk hsep htab.t
  have b0 : w.cell? ⟨pt, 0, none⟩ = some (.int .u64 c.base) := (hb.cell 0).trans rfl
  have b1 : w.cell? ⟨pt, 1, none⟩ = some (.int .u64 c.most) := (hb.cell 1).trans rfl
  have b2 : w.cell? ⟨pt, 2, none⟩ = some (.int .u64 c.span) := (hb.cell 2).trans rfl
  have b3 : w.cell? ⟨pt, 3, none⟩ = some (.int .i64 c.tries) := (hb.cell 3).trans rfl
  have b4 : w.cell? ⟨pt, 4, none⟩ = some (.int .i64 c.room) := (hb.cell 4).trans rfl
  have b5 : w.cell? ⟨pt, 5, none⟩ = some (.map (some pm)) := (hb.cell 5).trans rfl
  have b6 : w.cell? ⟨pt, 6, none⟩ = some (.pointer (some ⟨ph, 0, none⟩)) := (hb.cell 6).trans rfl
  have Hh := Lib.hid htab
  have Hs := Lib.hid hsep
  clear htab hsep hb
  go_enter Try.func24, Try.ntmps24
  go_wp2_with fail
  go_region_held3 (fun W => W.cell? ⟨pt, 0, none⟩ = some (.int .u64 c.base) ∧ W.cell? ⟨pt, 1, none⟩ = some (.int .u64 c.most) ∧ W.cell? ⟨pt, 2, none⟩ = some (.int .u64 c.span) ∧ W.cell? ⟨pt, 3, none⟩ = some (.int .i64 c.tries) ∧ W.cell? ⟨pt, 4, none⟩ = some (.int .i64 c.room) ∧ W.cell? ⟨pt, 5, none⟩ = some (.map (some pm)) ∧ W.cell? ⟨pt, 6, none⟩ = some (.pointer (some ⟨ph, 0, none⟩)))
    (first | go_keep | exact ⟨((tab_blk (i := i + 2) hs5 Hh.out.t).cell 0).trans rfl, ((tab_blk (i := i + 2) hs5 Hh.out.t).cell 1).trans rfl, ((tab_blk (i := i + 2) hs5 Hh.out.t).cell 2).trans rfl, ((tab_blk (i := i + 2) hs5 Hh.out.t).cell 3).trans rfl, ((tab_blk (i := i + 2) hs5 Hh.out.t).cell 4).trans rfl, ((tab_blk (i := i + 2) hs5 Hh.out.t).cell 5).trans rfl, ((tab_blk (i := i + 2) hs5 Hh.out.t).cell 6).trans rfl⟩ | exact ⟨((tab_blk (i := i + 1) hs4 Hh.out.t).cell 0).trans rfl, ((tab_blk (i := i + 1) hs4 Hh.out.t).cell 1).trans rfl, ((tab_blk (i := i + 1) hs4 Hh.out.t).cell 2).trans rfl, ((tab_blk (i := i + 1) hs4 Hh.out.t).cell 3).trans rfl, ((tab_blk (i := i + 1) hs4 Hh.out.t).cell 4).trans rfl, ((tab_blk (i := i + 1) hs4 Hh.out.t).cell 5).trans rfl, ((tab_blk (i := i + 1) hs4 Hh.out.t).cell 6).trans rfl⟩)
    (first | (go_at_call 35; refine (cloneT_sep Hs.out.drew Hh.out.m).mono ?_; rintro e w4 ⟨b', rfl, hs4⟩) | (go_at_call 36; refine (copyT_sep hs4 (i + 3) Hh.out.h).mono ?_; rintro e w5 ⟨p', rfl, hs5⟩))
  rename_i hHeld
  clear hHeld
  have Hs5 := Lib.hid hs5.swap
  clear hs4 hs5
  go_wp2_with fail
  go_ret
  exact ⟨w5.heap.size, b', p', rfl, Hs5.out.add (r := tbRes w5.heap.size c b' p') (F := [w5.heap.size]) ⟨rfl, Blk.new w5 69 (tbC c b' p')⟩ ((Touch.refl _ _).alloc _) (by simp)⟩
end Go.Proofs.Ytehbfoiadinhbaa
