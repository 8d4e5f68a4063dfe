/- scalar.Cut, Right, Neg, Bit. -/
import Derived.Test.YtcnmpflbmnnkbaaDoorMulAdd
import Derived.Lib.Strings
import Derived.Lib.LazyBuf
namespace Go.Proofs.YtcnmpflbmnnkbaaDoor
open Go.RowKit
/-- The number of up to 64 bytes. -/
def numS (s : ByteArray) : Nat := leN ((bl s).take 64)
def lowS (s : ByteArray) : Nat := leN ((bl s).take 32)
set_option maxRecDepth 100000 in
theorem cutS_any (s : ByteArray) (w : World) (hord : Ord w) :
    Calls Tryd.prog 11 #[.string s] w fun e w' => e = .returned (.string (toS (numS s % ell))) ∧ Touch [] w w' := by
  have Hord := Lib.hid hord
  clear hord
  go_enter Tryd.func11, Tryd.ntmps11
  go_wp2_with fail
  refine (load_any s 8 (by omega) w).mono ?_
  rintro e w1 ⟨v1, xs, row1, rfl, hxl, hxw, hxv, hxo, ht1, hn1⟩
  have Hxl := Lib.hid hxl
  have Hxw := Lib.hid hxw
  have Hxv := Lib.hid hxv
  have Hxo := Lib.hid hxo
  have Ht1 := Lib.hid ht1
  clear hxl hxw hxv hxo ht1 hn1
  go_wp2_with fail
  refine (cut_any v1 xs row1 (by rw [Hxl.out]; omega) Hxw.out w1 Hxo.out (Hord.out.touch Ht1.out)).mono ?_
  rintro e w6 ⟨r, hr, wr6, hvr, rfl, ht6⟩
  have Hr := Lib.hid hr
  have Wr := Lib.hid wr6
  have Hvr := Lib.hid hvr
  have Ht6 := Lib.hid ht6
  clear hr wr6 hvr ht6
  go_wp2_with fail
  refine (text_any r Hr.out Wr.out w6).mono ?_
  rintro e w7 ⟨rfl, ht7⟩
  have Ht7 := Lib.hid ht7
  clear ht7
  go_wp2_with fail
  go_ret
  exact ⟨ret_eq (by rw [Hvr.out, Hxv.out]; rfl), (Ht1.out.trans Ht6.out).trans Ht7.out⟩
def rightB (s : ByteArray) : Bool := decide (s.size = 32 ∧ toS (numS s % ell) = s)
theorem str_beq (a b : ByteArray) : (a.toList == b.toList) = decide (a = b) := by
  rw [Lib.toList_data, Lib.toList_data, Bool.eq_iff_iff]
  simp only [beq_iff_eq, decide_eq_true_eq]
  refine ⟨fun h => ?_, fun h => by rw [h]⟩
  cases a; cases b
  simp only [ByteArray.mk.injEq]
  exact Array.toList_inj.1 h
set_option maxRecDepth 100000 in
theorem right_any (s : ByteArray) (w : World) (hord : Ord w) :
    Calls Tryd.prog 9 #[.string s] w fun e w' => e = .returned (.bool (rightB s)) ∧ Touch [] w w' := by
  have Hord := Lib.hid hord
  clear hord
  by_cases h32 : s.size = 32
  · have hb : ((s.size : Int) == 32) = true := by rw [h32]; rfl
    have Hq : Hid (((toS (numS s % ell)).toList == s.toList) = rightB s) := Lib.hid (by rw [str_beq]; unfold rightB; simp [h32])
    obtain ⟨t, ht⟩ : ∃ t, t = toS (numS s % ell) := ⟨_, rfl⟩
    rw [← ht] at Hq
    have Ht := Lib.hid ht
    clear h32 ht
    go_enter Tryd.func9, Tryd.ntmps9
    go_wp2_with fail
    refine (cutS_any s w Hord.out).mono ?_
    rintro e w1 ⟨rfl, ht1⟩
    rw [← Ht.out]
    have Ht1 := Lib.hid ht1
    clear ht1
    go_wp2_with fail
    go_ret
    exact ⟨ret_bool Hq.out, Ht1.out⟩
  · have hb : ((s.size : Int) == 32) = false := beq_false_of_ne (by omega)
    have Hq : Hid (rightB s = false) := Lib.hid (decide_eq_false (fun h => h32 h.1))
    clear h32
    go_enter Tryd.func9, Tryd.ntmps9
    go_wp2_with fail
    go_ret
    exact ⟨ret_bool Hq.out.symm, Touch.refl _ _⟩
end Go.Proofs.YtcnmpflbmnnkbaaDoor
