/- The document's exponents. -/
import Derived.Test.YtbchjefgfghjlaaRefFi
namespace Go.Proofs.Ytbchjefgfghjlaa
open Go.RowKit
theorem NewU.one (w : World) (u : Nat) : NewU w (w.alloc (.cells #[.int .u8 (u : Int)] 5)) (.slice (some ⟨w.heap.size, 0, none⟩) 1 1) [u] :=
  ⟨some w.heap.size, Own.ofBlk (cs := [.int .u8 (u : Int)]) (Blk.new _ _ _) (by simp) (by unfold maxLen; simp), (Touch.refl _ _).alloc _, .fresh _ _ (Nat.le_refl _)⟩

def on255 : List Nat := 235 :: (List.replicate 30 255 ++ [127])
theorem on255_len : on255.length = 32 := by simp [on255]
theorem on255_mid (k : Nat) (hk : k < 30) : on255.take (k + 2) = on255.take (k + 1) ++ [255] := by
  rw [take_snoc (l := on255) (k := k + 1) (by rw [on255_len]; omega)]
  congr 2
  have : (List.replicate 30 255 ++ [127])[k]? = some 255 := by rw [List.getElem?_append_left (by simp; omega), List.getElem?_replicate, if_pos hk]
  simp only [on255, List.getD, List.getElem?_cons_succ, this, Option.getD_some]
theorem on255_all : on255.take 31 ++ [127] = on255 := by decide
theorem on255_val : leN on255 = 57896044618658097711785492504343953926634992332820282019728792003956564819947 := by decide +kernel
theorem on255_lt : ∀ b ∈ on255, b < 256 := by decide
set_option maxRecDepth 100000 in
set_option maxHeartbeats 1000000 in
theorem ones255_any (w : World) : Calls Try.prog 43 #[.int .i64 255, .int .i64 21] w fun e w' => e = .returned (.string (strOfNums (on255.map fun (n : Nat) => (n : Int)))) ∧ Touch [] w w' := by
  have hn1 := Lib.hid (NewU.one w 235)
  go_enter Try.func43, Try.ntmps43
  go_wp2_with fail
  go_loopw [5, 6] (fun vb vi wr => ∃ k : Nat, k ≤ 31 ∧ vi = .int .i64 ((8 * k + 8 : Nat) : Int) ∧ NewU w wr vb (on255.take (k + 1))) (fun _ vi _ => 300 - (intOf vi).toNat)
  case atStart => exact ⟨0, by omega, rfl, hn1.out⟩
  case round =>
    clear hn1
    obtain ⟨k, hk, rfl, hb⟩ := hrel
    obtain ⟨Ab, cb, rfl, _⟩ := hb.shape
    have hlen : (on255.take (k + 1)).length = k + 1 := by rw [List.length_take, on255_len]; omega
    have HB := Lib.hid hb
    have HL := Lib.hid hlen
    rw [hlen] at HB ⊢
    clear hb hlen
    by_cases hk30 : k < 30
    · have hsn := Lib.hid (on255_mid k hk30)
      have hi1 : (8 * (k : Int) + 8) < 255 := by omega
      obtain ⟨i, hi, hi2⟩ : ∃ i : Nat, i = 8 * k + 8 ∧ i ≤ 240 := ⟨_, rfl, by omega⟩
      have HI := Lib.hid hi
      rw [← hi]
      clear hi hi1
      go_wp2_with (at_builtin; refine wpList_append_byte w _ (.tmp 20) (.tmp 21) 49 Try.underlying49 rfl rfl HB.out (by rw [HL.out]; omega) 255 _ rfl rfl ?_)
      intro A2 c2 w2 h2
      have H2 := Lib.hid h2
      clear h2
      go_wp2_with fail
      go_roundw
      case rel => exact ⟨k + 1, by omega, congrArg (Value.int .i64) (by have := HI.out; omega), by rw [hsn.out]; exact H2.out⟩
      case measure => simp [intOf]; omega
    · by_cases hk31 : k = 30
      · subst hk31
        have HW := Lib.hid on255_all
        go_wp2_with (at_builtin; refine wpList_append_byte w _ (.tmp 23) (.tmp 30) 49 Try.underlying49 rfl rfl HB.out (by rw [HL.out]; omega) 127 _ rfl rfl ?_)
        intro A2 c2 w2 h2
        have H2 := Lib.hid h2
        clear h2
        go_wp2_with fail
        go_roundw
        case rel => exact ⟨31, by omega, rfl, by rw [List.take_of_length_le (i := 31 + 1) (by rw [on255_len]; omega), ← HW.out]; exact H2.out⟩
        case measure => simp [intOf]
      · obtain rfl : k = 31 := by omega
        have htk : on255.take (31 + 1) = on255 := List.take_of_length_le (by rw [on255_len]; omega)
        rw [htk] at HB
        have hb3 := HB.out
        rw [show 31 + 1 = on255.length by rw [on255_len]] at hb3
        obtain ⟨g2, o2, c3, hv2, _, _, _, _, hcx⟩ := hb3.cells (by rw [on255_len]; omega)
        injection hv2 with ha _ hcc
        subst ha hcc
        have hconv := run_convert_bytes_arg (P := Try.prog) wr 49 5 Try.underlying49 Try.underlying5 g2 o2 on255.length cb (on255.map fun (n : Nat) => (n : Int)) (by simp) (fun i hi => by
          rw [hcx i hi, getD_map_int]) 9 Try.underlying9
        rw [on255_len] at hconv
        clear hcx hb3 htk hk30 hk31
        go_wp2_with fail
        go_ret
        exact ⟨rfl, HB.out.touch⟩

def on252 : List Nat := 254 :: (List.replicate 30 255 ++ [15])
theorem on252_len : on252.length = 32 := by simp [on252]
theorem on252_mid (k : Nat) (hk : k < 30) : on252.take (k + 2) = on252.take (k + 1) ++ [255] := by
  rw [take_snoc (l := on252) (k := k + 1) (by rw [on252_len]; omega)]
  congr 2
  have : (List.replicate 30 255 ++ [15])[k]? = some 255 := by rw [List.getElem?_append_left (by simp; omega), List.getElem?_replicate, if_pos hk]
  simp only [on252, List.getD, List.getElem?_cons_succ, this, Option.getD_some]
theorem on252_all : on252.take 31 ++ [15] = on252 := by decide
theorem on252_val : leN on252 = 7237005577332262213973186563042994240829374041602535252466099000494570602494 := by decide +kernel
theorem on252_lt : ∀ b ∈ on252, b < 256 := by decide
set_option maxRecDepth 100000 in
set_option maxHeartbeats 1000000 in
theorem ones252_any (w : World) : Calls Try.prog 43 #[.int .i64 252, .int .i64 2] w fun e w' => e = .returned (.string (strOfNums (on252.map fun (n : Nat) => (n : Int)))) ∧ Touch [] w w' := by
  have hn1 := Lib.hid (NewU.one w 254)
  go_enter Try.func43, Try.ntmps43
  go_wp2_with fail
  go_loopw [5, 6] (fun vb vi wr => ∃ k : Nat, k ≤ 31 ∧ vi = .int .i64 ((8 * k + 8 : Nat) : Int) ∧ NewU w wr vb (on252.take (k + 1))) (fun _ vi _ => 300 - (intOf vi).toNat)
  case atStart => exact ⟨0, by omega, rfl, hn1.out⟩
  case round =>
    clear hn1
    obtain ⟨k, hk, rfl, hb⟩ := hrel
    obtain ⟨Ab, cb, rfl, _⟩ := hb.shape
    have hlen : (on252.take (k + 1)).length = k + 1 := by rw [List.length_take, on252_len]; omega
    have HB := Lib.hid hb
    have HL := Lib.hid hlen
    rw [hlen] at HB ⊢
    clear hb hlen
    by_cases hk30 : k < 30
    · have hsn := Lib.hid (on252_mid k hk30)
      have hi1 : (8 * (k : Int) + 8) < 252 := by omega
      obtain ⟨i, hi, hi2⟩ : ∃ i : Nat, i = 8 * k + 8 ∧ i ≤ 240 := ⟨_, rfl, by omega⟩
      have HI := Lib.hid hi
      rw [← hi]
      clear hi hi1
      go_wp2_with (at_builtin; refine wpList_append_byte w _ (.tmp 20) (.tmp 21) 49 Try.underlying49 rfl rfl HB.out (by rw [HL.out]; omega) 255 _ rfl rfl ?_)
      intro A2 c2 w2 h2
      have H2 := Lib.hid h2
      clear h2
      go_wp2_with fail
      go_roundw
      case rel => exact ⟨k + 1, by omega, congrArg (Value.int .i64) (by have := HI.out; omega), by rw [hsn.out]; exact H2.out⟩
      case measure => simp [intOf]; omega
    · by_cases hk31 : k = 30
      · subst hk31
        have HW := Lib.hid on252_all
        go_wp2_with (at_builtin; refine wpList_append_byte w _ (.tmp 23) (.tmp 30) 49 Try.underlying49 rfl rfl HB.out (by rw [HL.out]; omega) 15 _ rfl rfl ?_)
        intro A2 c2 w2 h2
        have H2 := Lib.hid h2
        clear h2
        go_wp2_with fail
        go_roundw
        case rel => exact ⟨31, by omega, rfl, by rw [List.take_of_length_le (i := 31 + 1) (by rw [on252_len]; omega), ← HW.out]; exact H2.out⟩
        case measure => simp [intOf]
      · obtain rfl : k = 31 := by omega
        have htk : on252.take (31 + 1) = on252 := List.take_of_length_le (by rw [on252_len]; omega)
        rw [htk] at HB
        have hb3 := HB.out
        rw [show 31 + 1 = on252.length by rw [on252_len]] at hb3
        obtain ⟨g2, o2, c3, hv2, _, _, _, _, hcx⟩ := hb3.cells (by rw [on252_len]; omega)
        injection hv2 with ha _ hcc
        subst ha hcc
        have hconv := run_convert_bytes_arg (P := Try.prog) wr 49 5 Try.underlying49 Try.underlying5 g2 o2 on252.length cb (on252.map fun (n : Nat) => (n : Int)) (by simp) (fun i hi => by
          rw [hcx i hi, getD_map_int]) 9 Try.underlying9
        rw [on252_len] at hconv
        clear hcx hb3 htk hk30 hk31
        go_wp2_with fail
        go_ret
        exact ⟨rfl, HB.out.touch⟩

def on253 : List Nat := 251 :: (List.replicate 30 255 ++ [31])
theorem on253_len : on253.length = 32 := by simp [on253]
theorem on253_mid (k : Nat) (hk : k < 30) : on253.take (k + 2) = on253.take (k + 1) ++ [255] := by
  rw [take_snoc (l := on253) (k := k + 1) (by rw [on253_len]; omega)]
  congr 2
  have : (List.replicate 30 255 ++ [31])[k]? = some 255 := by rw [List.getElem?_append_left (by simp; omega), List.getElem?_replicate, if_pos hk]
  simp only [on253, List.getD, List.getElem?_cons_succ, this, Option.getD_some]
theorem on253_all : on253.take 31 ++ [31] = on253 := by decide
theorem on253_val : leN on253 = 14474011154664524427946373126085988481658748083205070504932198000989141204987 := by decide +kernel
theorem on253_lt : ∀ b ∈ on253, b < 256 := by decide
set_option maxRecDepth 100000 in
set_option maxHeartbeats 1000000 in
theorem ones253_any (w : World) : Calls Try.prog 43 #[.int .i64 253, .int .i64 5] w fun e w' => e = .returned (.string (strOfNums (on253.map fun (n : Nat) => (n : Int)))) ∧ Touch [] w w' := by
  have hn1 := Lib.hid (NewU.one w 251)
  go_enter Try.func43, Try.ntmps43
  go_wp2_with fail
  go_loopw [5, 6] (fun vb vi wr => ∃ k : Nat, k ≤ 31 ∧ vi = .int .i64 ((8 * k + 8 : Nat) : Int) ∧ NewU w wr vb (on253.take (k + 1))) (fun _ vi _ => 300 - (intOf vi).toNat)
  case atStart => exact ⟨0, by omega, rfl, hn1.out⟩
  case round =>
    clear hn1
    obtain ⟨k, hk, rfl, hb⟩ := hrel
    obtain ⟨Ab, cb, rfl, _⟩ := hb.shape
    have hlen : (on253.take (k + 1)).length = k + 1 := by rw [List.length_take, on253_len]; omega
    have HB := Lib.hid hb
    have HL := Lib.hid hlen
    rw [hlen] at HB ⊢
    clear hb hlen
    by_cases hk30 : k < 30
    · have hsn := Lib.hid (on253_mid k hk30)
      have hi1 : (8 * (k : Int) + 8) < 253 := by omega
      obtain ⟨i, hi, hi2⟩ : ∃ i : Nat, i = 8 * k + 8 ∧ i ≤ 240 := ⟨_, rfl, by omega⟩
      have HI := Lib.hid hi
      rw [← hi]
      clear hi hi1
      go_wp2_with (at_builtin; refine wpList_append_byte w _ (.tmp 20) (.tmp 21) 49 Try.underlying49 rfl rfl HB.out (by rw [HL.out]; omega) 255 _ rfl rfl ?_)
      intro A2 c2 w2 h2
      have H2 := Lib.hid h2
      clear h2
      go_wp2_with fail
      go_roundw
      case rel => exact ⟨k + 1, by omega, congrArg (Value.int .i64) (by have := HI.out; omega), by rw [hsn.out]; exact H2.out⟩
      case measure => simp [intOf]; omega
    · by_cases hk31 : k = 30
      · subst hk31
        have HW := Lib.hid on253_all
        go_wp2_with (at_builtin; refine wpList_append_byte w _ (.tmp 23) (.tmp 30) 49 Try.underlying49 rfl rfl HB.out (by rw [HL.out]; omega) 31 _ rfl rfl ?_)
        intro A2 c2 w2 h2
        have H2 := Lib.hid h2
        clear h2
        go_wp2_with fail
        go_roundw
        case rel => exact ⟨31, by omega, rfl, by rw [List.take_of_length_le (i := 31 + 1) (by rw [on253_len]; omega), ← HW.out]; exact H2.out⟩
        case measure => simp [intOf]
      · obtain rfl : k = 31 := by omega
        have htk : on253.take (31 + 1) = on253 := List.take_of_length_le (by rw [on253_len]; omega)
        rw [htk] at HB
        have hb3 := HB.out
        rw [show 31 + 1 = on253.length by rw [on253_len]] at hb3
        obtain ⟨g2, o2, c3, hv2, _, _, _, _, hcx⟩ := hb3.cells (by rw [on253_len]; omega)
        injection hv2 with ha _ hcc
        subst ha hcc
        have hconv := run_convert_bytes_arg (P := Try.prog) wr 49 5 Try.underlying49 Try.underlying5 g2 o2 on253.length cb (on253.map fun (n : Nat) => (n : Int)) (by simp) (fun i hi => by
          rw [hcx i hi, getD_map_int]) 9 Try.underlying9
        rw [on253_len] at hconv
        clear hcx hb3 htk hk30 hk31
        go_wp2_with fail
        go_ret
        exact ⟨rfl, HB.out.touch⟩
end Go.Proofs.Ytbchjefgfghjlaa
