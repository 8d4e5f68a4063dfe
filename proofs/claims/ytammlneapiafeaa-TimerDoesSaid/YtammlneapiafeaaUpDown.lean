/- timer.up and timer.down: what they do to a row of alarms. -/
import Derived.Test.YtammlneapiafeaaRow
import Derived.Deep.DeepCutAuto
import Derived.Deep.CutBlock
import Derived.Deep.LoopGhost
namespace Go.Proofs.Ytammlneapiafeaa
open Go.RowKit
theorem method_Less (v : Value) (w : World) : (method 187 54 v "Less").run Try.prog w = .ok (48, v) w := by kernel_rfl
theorem method_Swap (v : Value) (w : World) : (method 187 54 v "Swap").run Try.prog w = .ok (28, v) w := by kernel_rfl
theorem method_Len (v : Value) (w : World) : (method 187 54 v "Len").run Try.prog w = .ok (47, v) w := by kernel_rfl
theorem RowAt.drewN {w : World} {v : Value} {L : List Al} {row : Option Nat} (h : RowAt w v L row) (n : Nat) : RowAt (w.drewN n) v L row := Own.drewN h n
set_option maxRecDepth 100000 in
set_option maxHeartbeats 1000000 in
theorem up_row (v : Value) (L : List Al) (row : Option Nat) (i : Nat) (hn : L.length ≤ 100000) (hi : i < L.length) (hu : UpOk L i) (w : World) (h : RowAt w v L row) :
    Calls Try.prog 23 #[.iface 54 v, .int .i64 i] w fun e w' => e = .returned (.tuple #[]) ∧ ∃ M : List Al, HeapOk M ∧ M.Perm L ∧ RowAt w' v M row ∧ Touch row.toList w w' := by
  go_enter Try.func23, Try.ntmps23
  go_wp2_with fail
  go_loopw [1] (fun vk wr => ∃ (i : Nat) (M : List Al), vk = .int .i64 i ∧ i < M.length ∧ UpOk M i ∧ M.Perm L ∧ RowAt wr v M row ∧ Touch row.toList w wr) (fun vk _ => (intOf vk).toNat)
  case atStart => exact ⟨i, L, rfl, hi, hu, .refl _, h, Touch.refl _ _⟩
  case round =>
    obtain ⟨k, M, rfl, hk, hu', hp, hr, ht⟩ := hrel
    clear h hu hi
    by_cases h0 : 0 < k
    · have hq : ((k : Int) - 1).tdiv 2 = (((k - 1) / 2 : Nat) : Int) := by rw [Int.tdiv_eq_ediv_of_nonneg (by omega)]; omega
      have hkb : M.length ≤ 100000 := by rw [hp.length_eq]; exact hn
      have m1 := method_Less
      have m2 := method_Swap
      have hkp : (k - 1) / 2 < M.length := by omega
      by_cases hlt : ltA (atA M k) (atA M ((k - 1) / 2))
      · have hd : decide (ltA (atA M k) (atA M ((k - 1) / 2))) = true := decide_eq_true hlt
        have hstep := hu'.step h0 hk hlt
        have hperm := (swapL_perm hk hkp).trans hp
        have Hstep := Lib.hid hstep
        have Hperm := Lib.hid hperm
        clear hstep hperm hu' hp
        go_wp2_with fail
        refine (less_row v M row k ((k - 1) / 2) hk hkp _ hr).mono ?_
        rintro e w1 ⟨rfl, n1, rfl⟩
        go_wp2_with fail
        refine (swap_row v M row k ((k - 1) / 2) hk hkp _ (hr.drewN n1)).mono ?_
        rintro e w2 ⟨rfl, hr2, ht2⟩
        clear hr
        go_wp2_with fail
        go_roundw
        case rel => exact ⟨(k - 1) / 2, _, by go_num, by rw [swapL_len]; exact hkp, Hstep.out, Hperm.out, hr2, (ht.drewN n1).trans ht2⟩
        case measure => simp [intOf]; omega
      · have hd : decide (ltA (atA M k) (atA M ((k - 1) / 2))) = false := decide_eq_false hlt
        have hfin := hu'.stop (.inr hlt)
        have Hfin := Lib.hid hfin
        clear hfin hu'
        go_wp2_with fail
        refine (less_row v M row k ((k - 1) / 2) hk hkp _ hr).mono ?_
        rintro e w1 ⟨rfl, n1, rfl⟩
        go_wp2_with fail
        go_end0
        exact ⟨rfl, M, Hfin.out, hp, hr.drewN n1, ht.drewN n1⟩
    · obtain rfl : k = 0 := by omega
      have hfin := hu'.stop (.inl rfl)
      have Hfin := Lib.hid hfin
      clear hfin hu'
      go_wp2_with fail
      go_end0
      exact ⟨rfl, M, Hfin.out, hp, hr, ht⟩

set_option maxRecDepth 100000 in
set_option maxHeartbeats 4000000 in
theorem down_row (v : Value) (L : List Al) (row : Option Nat) (r : Nat) (hn : L.length ≤ 100000) (hrl : r < L.length) (hu : DownOk L r r) (w : World) (h : RowAt w v L row) :
    Calls Try.prog 29 #[.iface 54 v, .int .i64 r] w fun e w' => e = .returned (.tuple #[]) ∧ ∃ M : List Al, UpOk M r ∧ M.Perm L ∧ RowAt w' v M row ∧ Touch row.toList w w' := by
  have m1 := method_Less
  have m2 := method_Swap
  have m3 := method_Len
  go_enter Try.func29, Try.ntmps29
  go_wp2_with fail
  go_loopw [1] (fun vk wr => ∃ (i : Nat) (M : List Al), vk = .int .i64 i ∧ i < M.length ∧ DownOk M i r ∧ M.Perm L ∧ RowAt wr v M row ∧ Touch row.toList w wr) (fun vk _ => L.length - (intOf vk).toNat)
  case atStart => exact ⟨r, L, rfl, hrl, hu, .refl _, h, Touch.refl _ _⟩
  case round =>
    obtain ⟨i, M, rfl, hi, hu', hp, hr, ht⟩ := hrel
    clear h hu
    have hkb : M.length ≤ 100000 := by rw [hp.length_eq]; exact hn
    have hml : M.length = L.length := hp.length_eq
    have Hml := Lib.hid hml; clear hml
    by_cases h1 : 2 * i + 1 + 1 < M.length
    · have hk1 : 2 * i + 1 < M.length := by omega
      by_cases hlt : ltA (atA M (2 * i + 1 + 1)) (atA M (2 * i + 1))
      · have hd : decide (ltA (atA M (2 * i + 1 + 1)) (atA M (2 * i + 1))) = true := decide_eq_true hlt
        have hrl' : r < M.length := by have := Hml.out; omega
        have hmin : ∀ j, 0 < j → j < M.length → (j - 1) / 2 = i → leA (atA M (2 * i + 1 + 1)) (atA M j) := fun j h0 hj hjp => by
          have : j = 2 * i + 1 ∨ j = 2 * i + 1 + 1 := by omega
          rcases this with rfl | rfl
          · exact leA_of_lt hlt
          · exact leA_refl _
        have hk : 2 * i + 1 + 1 < M.length := h1
        have hk0 : 0 < 2 * i + 1 + 1 := by omega
        have hki : (2 * i + 1 + 1 - 1) / 2 = i := by omega
        have hge : decide ((M.length : Int) ≤ 2 * (i : Int) + 1 + 1) = false := decide_eq_false (by omega)
        by_cases hlt2 : ltA (atA M (2 * i + 1 + 1)) (atA M i)
        · have hd2 : decide (ltA (atA M (2 * i + 1 + 1)) (atA M i)) = true := decide_eq_true hlt2
          have hstep := hu'.step hi hk hk0 hki hlt2 hmin
          have hperm := (swapL_perm hk hi).trans hp
          have Hstep := Lib.hid hstep
          have Hperm := Lib.hid hperm
          clear hstep hperm hu' hp hmin
          go_wp2_with fail
          refine (len_row v M row _ hr).mono ?_
          rintro e w1 ⟨rfl, rfl⟩
          go_wp2_with fail
          refine (less_row v M row (2 * i + 1 + 1) (2 * i + 1) h1 hk1 _ hr).mono ?_
          rintro e w2 ⟨rfl, n1, hw2⟩
          have HR : Hid (RowAt w2 v M row) := Lib.hid (by rw [hw2]; exact hr.drewN n1)
          have HT : Hid (Touch row.toList w w2) := Lib.hid (by rw [hw2]; exact ht.drewN n1)
          clear hr ht hw2
          go_wp2_with fail
          refine (len_row v M row _ HR.out).mono ?_
          rintro e w3 ⟨rfl, rfl⟩
          go_wp2_with fail
          refine (less_row v M row (2 * i + 1 + 1) i hk hi _ HR.out).mono ?_
          rintro e w4 ⟨rfl, n2, rfl⟩
          go_wp2_with fail
          refine (swap_row v M row (2 * i + 1 + 1) i hk hi _ (HR.out.drewN n2)).mono ?_
          rintro e w5 ⟨rfl, hr5, ht5⟩
          go_wp2_with fail
          go_roundw
          case rel => exact ⟨2 * i + 1 + 1, _, by go_num, by rw [swapL_len]; exact hk, Hstep.out, Hperm.out, hr5, (HT.out.drewN n2).trans ht5⟩
          case measure => have := Hml.out; simp [intOf]; omega
        · have hd2 : decide (ltA (atA M (2 * i + 1 + 1)) (atA M i)) = false := decide_eq_false hlt2
          have hfin := hu'.stop hi (by omega) (fun j h0 hj hjp => leA_trans hlt2 (hmin j h0 hj hjp))
          have Hfin := Lib.hid hfin
          clear hfin hu' hmin
          go_wp2_with fail
          refine (len_row v M row _ hr).mono ?_
          rintro e w1 ⟨rfl, rfl⟩
          go_wp2_with fail
          refine (less_row v M row (2 * i + 1 + 1) (2 * i + 1) h1 hk1 _ hr).mono ?_
          rintro e w2 ⟨rfl, n1, hw2⟩
          have HR : Hid (RowAt w2 v M row) := Lib.hid (by rw [hw2]; exact hr.drewN n1)
          have HT : Hid (Touch row.toList w w2) := Lib.hid (by rw [hw2]; exact ht.drewN n1)
          clear hr ht hw2
          go_wp2_with fail
          refine (len_row v M row _ HR.out).mono ?_
          rintro e w3 ⟨rfl, rfl⟩
          go_wp2_with fail
          refine (less_row v M row (2 * i + 1 + 1) i hk hi _ HR.out).mono ?_
          rintro e w4 ⟨rfl, n2, rfl⟩
          go_wp2_with fail
          refine bodyPost_ret (results_none rfl _ _ _) rfl ?_
          exact ⟨rfl, M, Hfin.out, hp, HR.out.drewN n2, HT.out.drewN n2⟩
      · have hd : decide (ltA (atA M (2 * i + 1 + 1)) (atA M (2 * i + 1))) = false := decide_eq_false hlt
        have hrl' : r < M.length := by have := Hml.out; omega
        have hmin : ∀ j, 0 < j → j < M.length → (j - 1) / 2 = i → leA (atA M (2 * i + 1)) (atA M j) := fun j h0 hj hjp => by
          have : j = 2 * i + 1 ∨ j = 2 * i + 1 + 1 := by omega
          rcases this with rfl | rfl
          · exact leA_refl _
          · exact hlt
        have hk : 2 * i + 1 < M.length := hk1
        have hk0 : 0 < 2 * i + 1 := by omega
        have hki : (2 * i + 1 - 1) / 2 = i := by omega
        have hge : decide ((M.length : Int) ≤ 2 * (i : Int) + 1) = false := decide_eq_false (by omega)
        by_cases hlt2 : ltA (atA M (2 * i + 1)) (atA M i)
        · have hd2 : decide (ltA (atA M (2 * i + 1)) (atA M i)) = true := decide_eq_true hlt2
          have hstep := hu'.step hi hk hk0 hki hlt2 hmin
          have hperm := (swapL_perm hk hi).trans hp
          have Hstep := Lib.hid hstep
          have Hperm := Lib.hid hperm
          clear hstep hperm hu' hp hmin
          go_wp2_with fail
          refine (len_row v M row _ hr).mono ?_
          rintro e w1 ⟨rfl, rfl⟩
          go_wp2_with fail
          refine (less_row v M row (2 * i + 1 + 1) (2 * i + 1) h1 hk1 _ hr).mono ?_
          rintro e w2 ⟨rfl, n1, hw2⟩
          have HR : Hid (RowAt w2 v M row) := Lib.hid (by rw [hw2]; exact hr.drewN n1)
          have HT : Hid (Touch row.toList w w2) := Lib.hid (by rw [hw2]; exact ht.drewN n1)
          clear hr ht hw2
          go_wp2_with fail
          refine (len_row v M row _ HR.out).mono ?_
          rintro e w3 ⟨rfl, rfl⟩
          go_wp2_with fail
          refine (less_row v M row (2 * i + 1) i hk hi _ HR.out).mono ?_
          rintro e w4 ⟨rfl, n2, rfl⟩
          go_wp2_with fail
          refine (swap_row v M row (2 * i + 1) i hk hi _ (HR.out.drewN n2)).mono ?_
          rintro e w5 ⟨rfl, hr5, ht5⟩
          go_wp2_with fail
          go_roundw
          case rel => exact ⟨2 * i + 1, _, by go_num, by rw [swapL_len]; exact hk, Hstep.out, Hperm.out, hr5, (HT.out.drewN n2).trans ht5⟩
          case measure => have := Hml.out; simp [intOf]; omega
        · have hd2 : decide (ltA (atA M (2 * i + 1)) (atA M i)) = false := decide_eq_false hlt2
          have hfin := hu'.stop hi (by omega) (fun j h0 hj hjp => leA_trans hlt2 (hmin j h0 hj hjp))
          have Hfin := Lib.hid hfin
          clear hfin hu' hmin
          go_wp2_with fail
          refine (len_row v M row _ hr).mono ?_
          rintro e w1 ⟨rfl, rfl⟩
          go_wp2_with fail
          refine (less_row v M row (2 * i + 1 + 1) (2 * i + 1) h1 hk1 _ hr).mono ?_
          rintro e w2 ⟨rfl, n1, hw2⟩
          have HR : Hid (RowAt w2 v M row) := Lib.hid (by rw [hw2]; exact hr.drewN n1)
          have HT : Hid (Touch row.toList w w2) := Lib.hid (by rw [hw2]; exact ht.drewN n1)
          clear hr ht hw2
          go_wp2_with fail
          refine (len_row v M row _ HR.out).mono ?_
          rintro e w3 ⟨rfl, rfl⟩
          go_wp2_with fail
          refine (less_row v M row (2 * i + 1) i hk hi _ HR.out).mono ?_
          rintro e w4 ⟨rfl, n2, rfl⟩
          go_wp2_with fail
          refine bodyPost_ret (results_none rfl _ _ _) rfl ?_
          exact ⟨rfl, M, Hfin.out, hp, HR.out.drewN n2, HT.out.drewN n2⟩
    · by_cases hk : 2 * i + 1 < M.length
      · have hrl' : r < M.length := by have := Hml.out; omega
        have hmin : ∀ j, 0 < j → j < M.length → (j - 1) / 2 = i → leA (atA M (2 * i + 1)) (atA M j) := fun j h0 hj hjp => by
          obtain rfl : j = 2 * i + 1 := by omega
          exact leA_refl _
        have hk0 : 0 < 2 * i + 1 := by omega
        have hki : (2 * i + 1 - 1) / 2 = i := by omega
        have hge : decide ((M.length : Int) ≤ 2 * (i : Int) + 1) = false := decide_eq_false (by omega)
        by_cases hlt2 : ltA (atA M (2 * i + 1)) (atA M i)
        · have hd2 : decide (ltA (atA M (2 * i + 1)) (atA M i)) = true := decide_eq_true hlt2
          have hstep := hu'.step hi hk hk0 hki hlt2 hmin
          have hperm := (swapL_perm hk hi).trans hp
          have Hstep := Lib.hid hstep
          have Hperm := Lib.hid hperm
          clear hstep hperm hu' hp hmin
          go_wp2_with fail
          refine (len_row v M row _ hr).mono ?_
          rintro e w1 ⟨rfl, rfl⟩
          have HR := Lib.hid hr
          have HT := Lib.hid ht
          clear hr ht
          go_wp2_with fail
          refine (len_row v M row _ HR.out).mono ?_
          rintro e w3 ⟨rfl, rfl⟩
          go_wp2_with fail
          refine (less_row v M row (2 * i + 1) i hk hi _ HR.out).mono ?_
          rintro e w4 ⟨rfl, n2, rfl⟩
          go_wp2_with fail
          refine (swap_row v M row (2 * i + 1) i hk hi _ (HR.out.drewN n2)).mono ?_
          rintro e w5 ⟨rfl, hr5, ht5⟩
          go_wp2_with fail
          go_roundw
          case rel => exact ⟨2 * i + 1, _, by go_num, by rw [swapL_len]; exact hk, Hstep.out, Hperm.out, hr5, (HT.out.drewN n2).trans ht5⟩
          case measure => have := Hml.out; simp [intOf]; omega
        · have hd2 : decide (ltA (atA M (2 * i + 1)) (atA M i)) = false := decide_eq_false hlt2
          have hfin := hu'.stop hi (by omega) (fun j h0 hj hjp => leA_trans hlt2 (hmin j h0 hj hjp))
          have Hfin := Lib.hid hfin
          clear hfin hu' hmin
          go_wp2_with fail
          refine (len_row v M row _ hr).mono ?_
          rintro e w1 ⟨rfl, rfl⟩
          have HR := Lib.hid hr
          have HT := Lib.hid ht
          clear hr ht
          go_wp2_with fail
          refine (len_row v M row _ HR.out).mono ?_
          rintro e w3 ⟨rfl, rfl⟩
          go_wp2_with fail
          refine (less_row v M row (2 * i + 1) i hk hi _ HR.out).mono ?_
          rintro e w4 ⟨rfl, n2, rfl⟩
          go_wp2_with fail
          refine bodyPost_ret (results_none rfl _ _ _) rfl ?_
          exact ⟨rfl, M, Hfin.out, hp, HR.out.drewN n2, HT.out.drewN n2⟩
      · have hfin := hu'.stop hi (by rw [Hml.out]; exact hrl) (fun j h0 hj hjp => by omega)
        have Hfin := Lib.hid hfin
        clear hfin hu'
        go_wp2_with fail
        refine (len_row v M row _ hr).mono ?_
        rintro e w1 ⟨rfl, rfl⟩
        go_wp2_with fail
        refine (len_row v M row _ hr).mono ?_
        rintro e w1 ⟨rfl, rfl⟩
        go_wp2_with fail
        refine bodyPost_ret (results_none rfl _ _ _) rfl ?_
        exact ⟨rfl, M, Hfin.out, hp, hr, ht⟩
end Go.Proofs.Ytammlneapiafeaa
