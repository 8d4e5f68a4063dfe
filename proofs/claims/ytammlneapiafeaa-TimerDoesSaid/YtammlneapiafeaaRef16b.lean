/- The document's heap: Pop, Set. -/
import Derived.Test.YtammlneapiafeaaRef16
namespace Go.Proofs.Ytammlneapiafeaa
open Go.RowKit
def RPopped (q : Nat) (row : Option Nat) (T D : List Al) (most : Int) (w : World) (e : Ending) (w' : World) : Prop :=
  ∃ A c rowo row', e = .returned (.slice A D.length c) ∧ RAt w' q T most row' ∧ Own w' 3 1 (.slice A D.length c) D.length (cellsI (D.map Prod.snd)) rowo ∧ Touch (q :: row.toList) w w' ∧ NewRow w none rowo ∧ NewRow w none row'
set_option maxRecDepth 100000 in
set_option maxHeartbeats 2000000 in
theorem rpop_any (q : Nat) (S : List Al) (most : Int) (row : Option Nat) (now : Int) (w : World) (h : RAt w q S most row) (hlen : S.length ≤ 10000) :
    Calls Try.prog 19 #[.pointer (some ⟨q, 0, none⟩), .int .u64 now] w (RPopped q row (leftS S now) (goneS S now) most w) := by
  obtain ⟨A, c, hb, ho⟩ := h
  have Hb := Lib.hid hb
  have Ho := Lib.hid ho
  obtain ⟨i0, hi0, hz0, hz1, hz2⟩ := info_parts infoAr
  obtain ⟨j0, hj0, hy0, hy1, hy2⟩ := info_parts infoInt
  clear hb ho
  go_enter Try.func19, Try.ntmps19
  go_wp2_with fail
  go_loopw [5, 6, 7] (fun vo vr vi wr => ∃ (k : Nat) (Ao : Option Addr) (co : Nat) (rowo : Option Nat) (Ar : Option Addr) (cr : Nat) (rowr : Option Nat), k ≤ S.length ∧ vi = .int .i64 k ∧ vo = .slice Ao (goneS (S.take k) now).length co ∧ vr = .slice Ar (leftS (S.take k) now).length cr ∧
    Own wr 3 1 (.slice Ao (goneS (S.take k) now).length co) (goneS (S.take k) now).length (cellsI ((goneS (S.take k) now).map Prod.snd)) rowo ∧
    Own wr 63 2 (.slice Ar (leftS (S.take k) now).length cr) (leftS (S.take k) now).length (cellsA (leftS (S.take k) now)) rowr ∧ Touch [] w wr ∧ NewRow w none rowo ∧ NewRow w none rowr) (fun _ _ vi _ => S.length - (intOf vi).toNat)
  case atStart => exact ⟨0, _, 0, none, _, 0, none, by omega, rfl, rfl, rfl, Own.nil _ _ _ _, Own.nil _ _ _ _, ((Touch.refl _ _).alloc _).alloc _, .refl _ _, .refl _ _⟩
  case round =>
    obtain ⟨k, Ao, co, rowo, Ar, cr, rowr, hk, rfl, rfl, rfl, hown, hrow, ht, hnew, hnewr⟩ := hrel
    have hc0 : wr.cell? ⟨q, 0, none⟩ = some (.slice A S.length c) := (Hb.out.touch ht (by simp)).cell 0
    have Hbr := Lib.hid (Hb.out.touch ht (by simp))
    have hor := Ho.out.touch ht (by simp)
    have hdl := goneS_len (S.take k) now
    have hrl := leftS_len (S.take k) now
    have Hown := Lib.hid hown
    have Hrow := Lib.hid hrow
    have Ht := Lib.hid ht
    have Hnew := Lib.hid hnew
    have Hnewr := Lib.hid hnewr
    have hdn : (goneS (S.take k) now).length ≤ 10000 := by rw [List.length_take] at hdl; omega
    have hrn : (leftS (S.take k) now).length ≤ 10000 := by rw [List.length_take] at hrl; omega
    by_cases hkl : k < S.length
    · obtain ⟨g, off, c2, hv, hrw, hg, hnc, c3, c4⟩ := hor.alarm hkl
      injection hv with hA _ hcc
      subst hA; subst hcc
      have Hf : Hid (goneS (S.take (k + 1)) now = if (decide ((atA S k).1 ≤ now)) = true then goneS (S.take k) now ++ [atA S k] else goneS (S.take k) now) := Lib.hid (filter_take hkl _)
      have Hl : Hid (leftS (S.take (k + 1)) now = if (decide (now < (atA S k).1)) = true then leftS (S.take k) now ++ [atA S k] else leftS (S.take k) now) := Lib.hid (filter_take hkl _)
      obtain ⟨x, hx⟩ : ∃ x, x = atA S k := ⟨_, rfl⟩
      rw [← hx] at c3 c4 Hf Hl
      obtain ⟨D, hD⟩ : ∃ D, D = goneS (S.take k) now := ⟨_, rfl⟩
      obtain ⟨R, hR⟩ : ∃ R, R = leftS (S.take k) now := ⟨_, rfl⟩
      rw [← hD] at Hown Hf hdn ⊢
      rw [← hR] at Hrow Hl hrn ⊢
      obtain ⟨x1, x2⟩ := x
      simp only at c3 c4 Hf Hl
      clear hown hrow ht hnew hnewr hor hrw hdl hrl hx hD hR
      by_cases hle : x1 ≤ now
      · have Hf2 : Hid (goneS (S.take (k + 1)) now = D ++ [(x1, x2)]) := Lib.hid (by rw [Hf.out, if_pos (by simpa using hle)])
        have Hl2 : Hid (leftS (S.take (k + 1)) now = R) := Lib.hid (by rw [Hl.out, if_neg (by simp; omega)])
        clear Hf Hl
        go_wp2_with (at_builtin; refine wpList_append_Own _ rfl (.tmp 29) (.tmp 38) 31 31 rfl 3 j0 _ 1 8 Try.underlying31 hj0 hy0 hy1 hy2 rfl _ D.length (cellsI (D.map Prod.snd)) rowo rfl (Hown.out.alloc _) _ 1 [.int .i64 x2] rfl (Src.one Try.underlying31 wr _ _ rfl) (by unfold maxLen; omega) (by omega) ?_)
        intro v' w2 row' hown' ht2 hrow2
        obtain ⟨A2, c2, rfl, _⟩ := hown'.shape
        have Ht2 : Hid (Touch [] w w2) := Lib.hid (Touch.trans_new' (Ht.out.alloc _) ht2 Hnew.out)
        have Hnew2 : Hid (NewRow w none row') := Lib.hid (Hnew.out.trans hrow2 (by have := Ht.out.size; simp; omega))
        have Hown2 := Lib.hid hown'
        have Hrow2 := Lib.hid ((Hrow.out.alloc (.cells #[.int .i64 x2] 3)).touch ht2 (Own.ne_own Hrow.out Hown.out (by decide)))
        clear hown' ht2 hrow2 hc0 c3 c4
        go_wp2_with fail
        go_roundw
        case rel =>
          have hl : (D ++ [(x1, x2)]).length = D.length + 1 := by simp
          refine ⟨k + 1, A2, c2, row', Ar, cr, rowr, by omega, by go_num, by rw [Hf2.out, hl], by rw [Hl2.out], ?_, by rw [Hl2.out]; exact Hrow2.out, Ht2.out, Hnew2.out, Hnewr.out⟩
          rw [Hf2.out, hl, show cellsI ((D ++ [(x1, x2)]).map Prod.snd) = cellsI (D.map Prod.snd) ++ [.int .i64 x2] by simp [cellsI]]
          exact Hown2.out
        case measure => simp [intOf]; omega
      · have Hf2 : Hid (goneS (S.take (k + 1)) now = D) := Lib.hid (by rw [Hf.out, if_neg (by simpa using hle)])
        have Hl2 : Hid (leftS (S.take (k + 1)) now = R ++ [(x1, x2)]) := Lib.hid (by rw [Hl.out, if_pos (by simp; omega)])
        clear Hf Hl
        go_wp2_with (at_builtin; refine wpList_append_Own _ rfl (.tmp 40) (.tmp 48) 48 48 rfl 63 i0 _ 2 16 Try.underlying48 hi0 hz0 hz1 hz2 rfl _ R.length (cellsA R) rowr rfl (Hrow.out.alloc _) _ 1 _ rfl (Src.al Try.underlying48 wr _ x1 x2) (by unfold maxLen; omega) (by omega) ?_)
        intro v' w2 row' hown' ht2 hrow2
        obtain ⟨A2, c2, rfl, _⟩ := hown'.shape
        have Ht2 : Hid (Touch [] w w2) := Lib.hid (Touch.trans_new' (Ht.out.alloc _) ht2 Hnewr.out)
        have Hnew2 : Hid (NewRow w none row') := Lib.hid (Hnewr.out.trans hrow2 (by have := Ht.out.size; simp; omega))
        have Hrow2 := Lib.hid hown'
        have Hown2 := Lib.hid ((Hown.out.alloc (.cells #[.int .u64 x1, .int .i64 x2] 63)).touch ht2 (Own.ne_own Hown.out Hrow.out (by decide)))
        clear hown' ht2 hrow2 hc0 c3 c4
        go_wp2_with fail
        go_roundw
        case rel =>
          have hl : (R ++ [(x1, x2)]).length = R.length + 1 := by simp
          exact ⟨k + 1, Ao, co, rowo, A2, c2, row', by omega, by go_num, by rw [Hf2.out], by rw [Hl2.out, hl], by rw [Hf2.out]; exact Hown2.out, by rw [Hl2.out, hl, cellsA_snoc]; exact Hrow2.out, Ht2.out, Hnew.out, Hnew2.out⟩
        case measure => simp [intOf]; omega
    · obtain rfl : k = S.length := by omega
      rw [List.take_length] at *
      have hf0 : wr.frozen? ⟨q, 0, none⟩ = false := Hbr.out.frozen 0
      clear hown hrow ht hnew hnewr hor hdl hrl
      go_wp2_with fail
      go_ret
      exact ⟨Ao, co, rowo, rowr, rfl, ⟨Ar, cr, Hbr.out.set_ 0 _, Hrow.out.far (a := ⟨q, 0, none⟩) (Hrow.out.ne_ Hbr.out (by decide)) _⟩, Hown.out.far (a := ⟨q, 0, none⟩) (Hown.out.ne_ Hbr.out (by decide)) _, (Ht.out.mono (T := q :: row.toList) (fun _ h => by simp at h)).setCell (p := ⟨q, 0, none⟩) (.inl (by simp)) _, Hnew.out, Hnewr.out⟩

theorem insS_at {S : List Al} {a : Al} {k : Nat} (hk : k ≤ S.length) (hb : ∀ j, j < k → ltA (atA S j) a) (he : k < S.length → ¬ ltA (atA S k) a) : insS S a = S.take k ++ a :: S.drop k := by
  have hs : ∀ b ∈ S.take k, decide (ltA b a) = true := fun b hb' => by
    obtain ⟨j, hj, rfl⟩ := List.getElem_of_mem hb'
    rw [List.length_take] at hj
    have := hb j (by omega)
    rw [atA_get (by omega)] at this
    simpa using this
  have hd : (S.drop k).takeWhile (fun b => decide (ltA b a)) = [] ∧ (S.drop k).dropWhile (fun b => decide (ltA b a)) = S.drop k := by
    by_cases hkl : k < S.length
    · have := he hkl
      rw [atA_get hkl] at this
      rw [List.drop_eq_getElem_cons hkl, List.takeWhile_cons_of_neg (by simpa using this), List.dropWhile_cons_of_neg (by simpa using this)]
      exact ⟨rfl, rfl⟩
    · rw [List.drop_of_length_le (by omega)]
      exact ⟨rfl, rfl⟩
  unfold insS
  conv => lhs; rw [← List.take_append_drop k S]
  rw [List.takeWhile_append_of_pos (fun b hb => hs b hb), List.dropWhile_append_of_pos (fun b hb => hs b hb), hd.1, hd.2, List.append_nil]
end Go.Proofs.Ytammlneapiafeaa
