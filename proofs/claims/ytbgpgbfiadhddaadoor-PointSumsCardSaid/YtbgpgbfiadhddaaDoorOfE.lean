/- field.Of: the number of 32 bytes, or what is wrong. -/
import Derived.Test.YtbgpgbfiadhddaaDoorCutE
namespace Go.Proofs.YtbgpgbfiadhddaaDoor
open Go.RowKit
/-- What is wrong with bytes. -/
def ofC (s : ByteArray) : Int := if s.size < 32 then 2 else if 32 < s.size then 4 else if toS (cutN s) = s then 0 else 3
def ofN (s : ByteArray) : Nat := if ofC s = 0 then cutN s else 0
def OfPost (s : ByteArray) (w : World) (e : Ending) (w' : World) : Prop := ∃ r, Red r ∧ fe r = ofN s ∧ e = .returned (.tuple #[elV r, .int .i64 (ofC s)]) ∧ Touch [] w w'
theorem of_ret {fn : Func} {p q : Tmp} (hres : fn.results = #[.cell p 25, .tmp q]) {w w' : World} {s : ByteArray} {g : Nat} {l : List Int} (hl : Red l) (hn : fe l = ofN s) {tmps : Array Value} (hp : tmps.getD p undef = .pointer (some ⟨g, 0, none⟩)) (hq : tmps.getD q undef = .int .i64 (ofC s)) (t : TypeId) (hB : Blk w' g t (cellsZ l).toArray) (hT : Touch [] w w') :
    bodyPost Tryd.prog fn (OfPost s w) Exit.ret { tmps := tmps, defers := [] } w' :=
  bodyPost_ret (results_row_tmp hres _ _ g t (cellsZ l).toArray (0, 0) _ hp hB Tryd.underlying25 rfl (by rw [cellsZ_size, hl.len]; exact infoE)) rfl ⟨l, hl, hn, by rw [hq]; rfl, hT⟩
set_option maxRecDepth 100000 in
set_option maxHeartbeats 1000000 in
theorem of_any (s : ByteArray) (w : World) :
    Calls Tryd.prog 36 #[.string s] w (OfPost s w) := by
  have hz : Blk (w.alloc (.cells (cellsZ (List.replicate 16 0)).toArray 25)) w.heap.size 25 (cellsZ (List.replicate 16 0)).toArray := Blk.new _ _ _
  have hzt := (Touch.refl [] w).alloc (.cells (cellsZ (List.replicate 16 0)).toArray 25)
  obtain ⟨w1, hw1⟩ : ∃ w1, w1 = w.alloc (.cells (cellsZ (List.replicate 16 0)).toArray 25) := ⟨_, rfl⟩
  rw [← hw1] at hz hzt
  have HZ := Lib.hid hz
  have HT := Lib.hid hzt
  have HW := Lib.hid hw1
  clear hz hzt hw1
  by_cases h1 : s.size < 32
  · have hc := Lib.hid (show ofC s = 2 by unfold ofC; rw [if_pos h1])
    have hn := Lib.hid (show ofN s = 0 by unfold ofN; rw [hc.out]; rfl)
    have e1 : (s.size : Int) < 32 := by omega
    clear h1
    go_enter Tryd.func36, Tryd.ntmps36
    go_upto_region 1 with fail
    rw [← zeroE_eq, ← HW.out]
    go_wp2_with (refine wpList_storeE rfl (.tmp 2) (.tmp 9) rfl _ rfl (List.replicate 16 0) rfl 25 _ rfl rfl HZ.out ?_)
    exact of_ret Tryd.results36 red0 (by rw [hn.out, fe0]) rfl (by rw [hc.out]; rfl) 25 (HZ.out.setRow _) (HT.out.setRowE (.inr (Nat.le_refl _)) _)
  · by_cases h2 : 32 < s.size
    · have hc := Lib.hid (show ofC s = 4 by unfold ofC; rw [if_neg h1, if_pos h2])
      have hn := Lib.hid (show ofN s = 0 by unfold ofN; rw [hc.out]; rfl)
      have e1 : ¬ (s.size : Int) < 32 := by omega
      have e2 : (32 : Int) < s.size := by omega
      clear h1 h2
      go_enter Tryd.func36, Tryd.ntmps36
      go_upto_region 1 with fail
      rw [← zeroE_eq, ← HW.out]
      go_wp2_with (refine wpList_storeE rfl (.tmp 2) (.tmp 14) rfl _ rfl (List.replicate 16 0) rfl 25 _ rfl rfl HZ.out ?_)
      exact of_ret Tryd.results36 red0 (by rw [hn.out, fe0]) rfl (by rw [hc.out]; rfl) 25 (HZ.out.setRow _) (HT.out.setRowE (.inr (Nat.le_refl _)) _)
    · have e1 : ¬ (s.size : Int) < 32 := by omega
      have e2 : ¬ (32 : Int) < s.size := by omega
      have H1 := Lib.hid h1
      have H2 := Lib.hid h2
      clear h1 h2
      go_enter Tryd.func36, Tryd.ntmps36
      go_upto_region 1 with fail
      rw [← zeroE_eq, ← HW.out]
      go_wp2_with fail
      refine (cut_anyE s w1).mono ?_
      rintro e w5 ⟨r, hr, hf, rfl, hT⟩
      have Hr := Lib.hid hr
      have Hf := Lib.hid hf
      have HZ5 := Lib.hid (HZ.out.touch hT (by simp))
      have HT5 := Lib.hid (HT.out.trans hT)
      have hsz := hT.size
      have hlt := HZ.out.lt
      have Hne : Hid (w.heap.size ≠ w5.heap.size) := Lib.hid (by omega)
      clear hr hf hT hsz hlt
      go_upto_region 6 with (refine wpList_storeE rfl (.tmp 4) (.tmp 16) rfl _ rfl r rfl 25 _ Hr.out.len rfl (Blk.new _ _ _) ?_)
      rw [World.setRow_alloc_new]
      obtain ⟨w6, hw6⟩ : ∃ w6, w6 = w5.alloc (.cells (cellsZ r).toArray 25) := ⟨_, rfl⟩
      obtain ⟨gr, hgr⟩ : ∃ gr, gr = w5.heap.size := ⟨_, rfl⟩
      have HB6 : Hid (Blk w6 gr 25 (cellsZ r).toArray) := Lib.hid (by rw [hw6, hgr]; exact Blk.new _ _ _)
      have HZ6 : Hid (Blk w6 w.heap.size 25 (cellsZ (List.replicate 16 0)).toArray) := Lib.hid (by rw [hw6]; exact HZ5.out.alloc _)
      have HT6 : Hid (Touch [] w w6) := Lib.hid (by rw [hw6]; exact HT5.out.alloc _)
      rw [← hw6, ← hgr]
      clear hw6 hgr Hne HZ5 HT5
      go_wp2_with (refine wpList_loadE rfl (.tmp 4) rfl gr rfl 25 r Hr.out.len HB6.out ?_)
      refine (bytes_any r Hr.out w6).mono ?_
      rintro e w7 ⟨rfl, hT⟩
      have HB7 := Lib.hid (HB6.out.touch hT (by simp))
      have HZ7 := Lib.hid (HZ6.out.touch hT (by simp))
      have HT7 := Lib.hid (HT6.out.trans hT)
      rw [Hf.out]
      have hq := str_beqE (toS (cutN s)) s
      clear hT
      by_cases h3 : toS (cutN s) = s
      · have hc := Lib.hid (show ofC s = 0 by unfold ofC; rw [if_neg H1.out, if_neg H2.out, if_pos h3])
        have hn := Lib.hid (show ofN s = cutN s by unfold ofN; rw [if_pos hc.out])
        rw [decide_eq_true h3] at hq
        obtain ⟨t, ht⟩ : ∃ t, t = toS (cutN s) := ⟨_, rfl⟩
        rw [← ht] at hq ⊢
        clear h3 ht
        go_wp2_with (first | (refine wpList_loadE rfl (.tmp 4) rfl gr rfl 25 r Hr.out.len HB7.out ?_) | (refine wpList_storeE rfl (.tmp 2) (.tmp 22) rfl w.heap.size rfl r rfl 25 _ Hr.out.len rfl HZ7.out ?_))
        exact of_ret Tryd.results36 Hr.out (by rw [Hf.out, hn.out]) rfl (by rw [hc.out]; rfl) 25 (HZ7.out.setRow _) (HT7.out.setRowE (.inr (Nat.le_refl _)) _)
      · have hc := Lib.hid (show ofC s = 3 by unfold ofC; rw [if_neg H1.out, if_neg H2.out, if_neg h3])
        have hn := Lib.hid (show ofN s = 0 by unfold ofN; rw [hc.out]; rfl)
        rw [decide_eq_false h3] at hq
        obtain ⟨t, ht⟩ : ∃ t, t = toS (cutN s) := ⟨_, rfl⟩
        rw [← ht] at hq ⊢
        clear h3 ht
        go_wp2_with (refine wpList_storeE rfl (.tmp 2) (.tmp 21) rfl w.heap.size rfl (List.replicate 16 0) rfl 25 _ rfl rfl HZ7.out ?_)
        exact of_ret Tryd.results36 red0 (by rw [hn.out, fe0]) rfl (by rw [hc.out]; rfl) 25 (HZ7.out.setRow _) (HT7.out.setRowE (.inr (Nat.le_refl _)) _)
end Go.Proofs.YtbgpgbfiadhddaaDoor
