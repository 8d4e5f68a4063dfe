/- scalar.Neg. -/
import Derived.Test.YtcnmpflbmnnkbaaDoorScalar
namespace Go.Proofs.YtcnmpflbmnnkbaaDoor
open Go.RowKit
theorem ord_words : Words ordW := by intro x hx; simp [ordW] at hx; omega
/-- The order's cells. -/
abbrev OrdC (W : World) : Prop := W.cell? ⟨0, 0, none⟩ = some (.int .u64 6346243789798364141) ∧ W.cell? ⟨0, 1, none⟩ = some (.int .u64 1503914060200516822) ∧
  W.cell? ⟨0, 2, none⟩ = some (.int .u64 0) ∧ W.cell? ⟨0, 3, none⟩ = some (.int .u64 1152921504606846976)
theorem Ord.cells {W : World} (h : Ord W) : OrdC W := ⟨h.2 0 (by omega), h.2 1 (by omega), h.2 2 (by omega), h.2 3 (by omega)⟩
theorem OrdC.store {W : World} (h : Ord W) (g : Nat) (a b c d : Value) (hg : g ≠ 0) :
    OrdC ((((W.setCell ⟨g, 0, none⟩ a).setCell ⟨g, 1, none⟩ b).setCell ⟨g, 2, none⟩ c).setCell ⟨g, 3, none⟩ d) := by
  have hc : ∀ j, ((((W.setCell ⟨g, 0, none⟩ a).setCell ⟨g, 1, none⟩ b).setCell ⟨g, 2, none⟩ c).setCell ⟨g, 3, none⟩ d).cell? ⟨0, j, none⟩ = W.cell? ⟨0, j, none⟩ := fun j => by
    refine World.cell?_of_block ?_
    rw [Below.heap_setCell _ _ _ _ (Ne.symm hg), Below.heap_setCell _ _ _ _ (Ne.symm hg), Below.heap_setCell _ _ _ _ (Ne.symm hg), Below.heap_setCell _ _ _ _ (Ne.symm hg)]
  exact ⟨(hc 0).trans (h.2 0 (by omega)), (hc 1).trans (h.2 1 (by omega)), (hc 2).trans (h.2 2 (by omega)), (hc 3).trans (h.2 3 (by omega))⟩
theorem neg_val {d r n u : Nat} (h : d + r = val ordW + u * 18446744073709551616 ^ 4) (hr : r = n % ell) (hu : u ≤ 1) (hd : d < 115792089237316195423570985008687907853269984665640564039457584007913129639936) : d = ell - n % ell := by
  have hl : n % ell < ell := Nat.mod_lt _ (by decide)
  rw [val_ord] at h
  have e : (18446744073709551616 : Nat) ^ 4 = 115792089237316195423570985008687907853269984665640564039457584007913129639936 := by decide
  rw [e] at h
  have e2 : ell = 7237005577332262213973186563042994240857116359379907606001950938285454250989 := rfl
  rcases (show u = 0 ∨ u = 1 by omega) with rfl | rfl <;> omega
def negN (n : Nat) : Nat := (ell - n % ell) % ell
set_option maxRecDepth 100000 in
set_option maxHeartbeats 4000000 in
theorem neg_any (s : ByteArray) (w : World) (hord : Ord w) :
    Calls Tryd.prog 15 #[.string s] w fun e w' => e = .returned (.string (toS (negN (numS s)))) ∧ Touch [] w w' := by
  have Hord := Lib.hid hord
  have hoc : w.cell? ⟨0, 0, none⟩ = some (.int .u64 6346243789798364141) ∧ w.cell? ⟨0, 1, none⟩ = some (.int .u64 1503914060200516822) ∧
    w.cell? ⟨0, 2, none⟩ = some (.int .u64 0) ∧ w.cell? ⟨0, 3, none⟩ = some (.int .u64 1152921504606846976) := hord.cells
  obtain ⟨o0, o1, o2, o3⟩ := hoc
  clear hord
  have hon : numV ordW = .agg #[.int .u64 6346243789798364141, .int .u64 1503914060200516822, .int .u64 0, .int .u64 1152921504606846976] := rfl
  have Hsub : Hid (∀ (b : List Nat) (hb : b.length = 4) (wb : Words b) (w : World), Calls Tryd.prog 31 #[.agg #[.int .u64 6346243789798364141, .int .u64 1503914060200516822, .int .u64 0, .int .u64 1152921504606846976], numV b] w (SubPost ordW b w)) := Lib.hid (fun b hb wb w => sub_any ordW b rfl hb ord_words wb w)
  clear hon
  go_enter Tryd.func15, Tryd.ntmps15
  go_upto_region 1 with fail
  go_cut [3, 4] (fun vp _ wx => ∃ (g : Nat) (d : List Nat), vp = .pointer (some ⟨g, 0, none⟩) ∧ d.length = 4 ∧ Words d ∧ val d = ell - numS s % ell ∧ Blk wx g 37 (cellsN d).toArray ∧ Touch [] w wx)
  case first =>
    have Hne : Hid (∀ W : World, Touch [] w W → W.heap.size ≠ 0) := Lib.hid (fun W h => by have h0 := Hord.out.1; have h1 := h.size; omega)
    have HT0 : Hid (Touch [] w w.drew) := Lib.hid (Touch.refl [] w).drew
    go_region_held3 (fun W => W.cell? ⟨0, 0, none⟩ = some (.int .u64 6346243789798364141) ∧ W.cell? ⟨0, 1, none⟩ = some (.int .u64 1503914060200516822) ∧ W.cell? ⟨0, 2, none⟩ = some (.int .u64 0) ∧ W.cell? ⟨0, 3, none⟩ = some (.int .u64 1152921504606846976))
      (first | go_keep | with_reducible exact (Hord.out.touch HT3.out).cells | with_reducible exact (Hord.out.touch (HT3.out.alloc _)).cells | with_reducible exact (Hord.out.touch HT2.out).cells | with_reducible exact (Hord.out.touch (HT2.out.alloc _)).cells | with_reducible exact (Hord.out.touch HT1.out).cells | with_reducible exact (Hord.out.touch (HT1.out.alloc _)).cells | with_reducible exact (Hord.out.touch (HT0.out.alloc _)).cells | with_reducible exact (Hord.out.touch (((Touch.refl [] w).alloc _).drew)).cells | with_reducible exact OrdC.store (Hord.out.touch HT3.out) _ _ _ _ _ (Hne.out _ HT2.out) | with_reducible exact OrdC.store (Hord.out.touch HT3.out) _ _ _ _ _ (Hne.out _ HT1.out) | with_reducible exact OrdC.store (Hord.out.touch HT3.out) _ _ _ _ _ (Hne.out _ (Touch.refl [] w)) | with_reducible exact OrdC.store (Hord.out.touch (HT3.out.alloc _)) _ _ _ _ _ (Hne.out _ HT3.out))
      (first
        | (go_at_call 26; refine (load_any s 8 (by omega) _).mono ?_; rintro e w1 ⟨v1, xs, row1, rfl, hxl, hxw, hxv, hxo, ht1, hn1⟩; have Hxl := Lib.hid hxl; have Hxw := Lib.hid hxw; have Hxv := Lib.hid hxv; have Hxo := Lib.hid hxo; have HT1 : Hid (Touch [] w w1) := Lib.hid (by first | with_reducible exact HT0.out.trans ht1 | with_reducible exact (HT0.out.alloc _).trans ht1 | with_reducible exact (((Touch.refl [] w).alloc _).drew).trans ht1); (try (with_reducible have HZ1 := Lib.hid ((Blk.new w.drew 37 #[.int .u64 0, .int .u64 0, .int .u64 0, .int .u64 0]).touch ht1 (by simp)))); (try (with_reducible have HZ1 := Lib.hid ((Blk.new w 37 #[.int .u64 0, .int .u64 0, .int .u64 0, .int .u64 0]).drew.touch ht1 (by simp)))); clear hxl hxw hxv hxo ht1 hn1)
        | (go_at_call 25; refine (cut_any v1 xs row1 (by rw [Hxl.out]; omega) Hxw.out _ (by first | with_reducible exact Hxo.out | with_reducible exact Hxo.out.alloc _) (by first | with_reducible exact Hord.out.touch HT1.out | with_reducible exact Hord.out.touch (HT1.out.alloc _))).mono ?_; rintro e w6 ⟨r, hr, wr6, hvr, rfl, ht6⟩; have Hr := Lib.hid hr; have Wr := Lib.hid wr6; have Hvr := Lib.hid hvr; have HT2 : Hid (Touch [] w w6) := Lib.hid (by first | with_reducible exact HT1.out.trans ht6 | with_reducible exact (HT1.out.alloc _).trans ht6); (try (with_reducible have HZ2 := Lib.hid (HZ1.out.touch ht6 (by simp)))); (try (with_reducible have HZ2 := Lib.hid ((Blk.new w1 37 #[.int .u64 0, .int .u64 0, .int .u64 0, .int .u64 0]).touch ht6 (by simp)))); clear hr wr6 hvr ht6)
        | (go_at_call 31; refine (Hsub.out r Hr.out Wr.out _).mono ?_; rintro e w7 ⟨d, u, hd, wd, hu, hvd, rfl, ht7⟩; obtain ⟨d0, d1, d2, d3, rfl⟩ : ∃ d0 d1 d2 d3, d = [d0, d1, d2, d3] := (by match d, hd with | [d0, d1, d2, d3], _ => exact ⟨d0, d1, d2, d3, rfl⟩); have Wd := Lib.hid wd; have Hvd := Lib.hid hvd; have Hu := Lib.hid hu; have HT3 : Hid (Touch [] w w7) := Lib.hid (by first | with_reducible exact HT2.out.trans ht7 | with_reducible exact (HT2.out.alloc _).trans ht7); (try (with_reducible have HZ3 := Lib.hid (HZ2.out.touch ht7 (by simp)))); (try (with_reducible have HZ3 := Lib.hid ((Blk.new w6 37 #[.int .u64 0, .int .u64 0, .int .u64 0, .int .u64 0]).touch ht7 (by simp)))); (try (have z0 := HZ3.out.cell 0; have z1 := HZ3.out.cell 1; have z2 := HZ3.out.cell 2; have z3 := HZ3.out.cell 3; have zf := fun j => HZ3.out.frozen j; simp only [List.getElem?_toArray, List.getElem?_cons_zero, List.getElem?_cons_succ] at z0 z1 z2 z3)); clear hd wd hu hvd ht7; unfold numV cellsN; simp only [List.map_cons, List.map_nil]))
    all_goals
      have hval := neg_val Hvd.out (show val r = numS s % ell by rw [Hvr.out, Hxv.out]; rfl) Hu.out (val4_lt Wd.out rfl)
      have Hval := Lib.hid hval
      clear hval
      go_wp2_with fail
      go_meet
    · exact ⟨w7.heap.size, [d0, d1, d2, d3], rfl, rfl, Wd.out, Hval.out, Blk.new w7 _ _, HT3.out.alloc _⟩
    · exact ⟨w6.heap.size, [d0, d1, d2, d3], rfl, rfl, Wd.out, Hval.out, ((((HZ3.out.set_ 0 (.int .u64 (d0 : Int))).set_ 1 (.int .u64 (d1 : Int))).set_ 2 (.int .u64 (d2 : Int))).set_ 3 (.int .u64 (d3 : Int))), (((HT3.out.setCell (p := ⟨w6.heap.size, 0, none⟩) (.inr HT2.out.size) _).setCell (p := ⟨w6.heap.size, 1, none⟩) (.inr HT2.out.size) _).setCell (p := ⟨w6.heap.size, 2, none⟩) (.inr HT2.out.size) _).setCell (p := ⟨w6.heap.size, 3, none⟩) (.inr HT2.out.size) _⟩
    · exact ⟨w1.heap.size, [d0, d1, d2, d3], rfl, rfl, Wd.out, Hval.out, ((((HZ3.out.set_ 0 (.int .u64 (d0 : Int))).set_ 1 (.int .u64 (d1 : Int))).set_ 2 (.int .u64 (d2 : Int))).set_ 3 (.int .u64 (d3 : Int))), (((HT3.out.setCell (p := ⟨w1.heap.size, 0, none⟩) (.inr HT1.out.size) _).setCell (p := ⟨w1.heap.size, 1, none⟩) (.inr HT1.out.size) _).setCell (p := ⟨w1.heap.size, 2, none⟩) (.inr HT1.out.size) _).setCell (p := ⟨w1.heap.size, 3, none⟩) (.inr HT1.out.size) _⟩
    · exact ⟨w.heap.size, [d0, d1, d2, d3], rfl, rfl, Wd.out, Hval.out, ((((HZ3.out.set_ 0 (.int .u64 (d0 : Int))).set_ 1 (.int .u64 (d1 : Int))).set_ 2 (.int .u64 (d2 : Int))).set_ 3 (.int .u64 (d3 : Int))), (((HT3.out.setCell (p := ⟨w.heap.size, 0, none⟩) (.inr (Nat.le_refl _)) _).setCell (p := ⟨w.heap.size, 1, none⟩) (.inr (Nat.le_refl _)) _).setCell (p := ⟨w.heap.size, 2, none⟩) (.inr (Nat.le_refl _)) _).setCell (p := ⟨w.heap.size, 3, none⟩) (.inr (Nat.le_refl _)) _⟩
  case rest =>
    obtain ⟨g, d, rfl, hd, wd, hvd, hb, ht⟩ := hcut
    have Hd := Lib.hid hd
    have Wd := Lib.hid wd
    have Hvd := Lib.hid hvd
    have Ht := Lib.hid ht
    have hown : Own wc 37 1 (.slice (some ⟨g, 0, none⟩) 4 4) d.length (cellsN d) (some g) :=
      ⟨by rw [cellsN_len, Nat.mul_one], .inr ⟨g, 0, 4, _, by rw [hd], rfl, hb, by omega, by omega, by unfold maxLen; omega, by simp [cellsN_len, hd], fun j u hj => by rw [Nat.zero_add, List.getElem?_toArray]; exact hj⟩⟩
    have Hown := Lib.hid hown
    clear hd wd hvd ht hb hown o0 o1 o2 o3
    go_wp2_with fail
    refine (cut_any _ d (some g) (by rw [Hd.out]; omega) Wd.out wc Hown.out (Hord.out.touch Ht.out)).mono ?_
    rintro e w6 ⟨r, hr, wr6, hvr, rfl, ht6⟩
    have Hr := Lib.hid hr
    have Wr := Lib.hid wr6
    have Hvr := Lib.hid hvr
    have Ht6 := Lib.hid ht6
    clear hr wr6 hvr ht6
    go_wp2_with fail
    refine (text_any r Hr.out Wr.out w6).mono ?_
    rintro e w7 ⟨rfl, ht7⟩
    have Ht7 := Lib.hid ht7
    clear ht7
    go_wp2_with fail
    go_ret
    exact ⟨ret_eq (by rw [Hvr.out, Hvd.out]; rfl), (Ht.out.trans Ht6.out).trans Ht7.out⟩
end Go.Proofs.YtcnmpflbmnnkbaaDoor
