/- The document's sum: right, bytes, padded. -/
import Derived.Test.YtflpjnillfgghaaDoorWdOps2
namespace Go.Proofs.YtflpjnillfgghaaDoor
open Go Go.RowKit
theorem orr_comm (a b : Nat) : orr a b = orr b a := Nat.or_comm _ _
set_option maxRecDepth 100000 in
theorem right_any (x n : Nat) (hn0 : 0 < n) (hn : n < 64) (w : World) :
    Calls Tryd.prog 29 #[.int .u64 (x : Int), .int .i64 (n : Int)] w fun e w' => e = .returned (.int .u64 ((rot x n : Nat) : Int)) ∧ Touch [] w w' := by
  have h1 := IntWalk.u64_in (n : Int) (by omega)
  have h2 : IntKind.i64.wrap (64 - (n : Int)) = ((64 - n : Nat) : Int) := by rw [IntWalk.i64_in _ (by omega)]; omega
  have h3 := IntWalk.u64_in ((64 - n : Nat) : Int) (by omega)
  have h4 : min n 64 = n := by omega
  go_enter Tryd.func29, Tryd.ntmps29
  go_wp2_with fail
  go_ret
  refine ⟨ret_int ?_, Touch.refl _ _⟩
  rw [shl_c, shd_c, or_c, orr_comm]
  rfl
theorem smS_drop (n j : Nat) (hj : j < 8) : (smS n).drop (8 - (j + 1)) = (n / 256 ^ j % 256) :: (smS n).drop (8 - j) := by
  have h : 8 - (j + 1) < (smS n).length := by rw [smS_len]; omega
  rw [List.drop_eq_getElem_cons h, show 8 - (j + 1) + 1 = 8 - j by omega]
  congr 1
  have h2 := smS_at n (8 - (j + 1)) (by omega)
  rw [List.getD, List.getElem?_eq_getElem h, Option.getD_some] at h2
  rw [h2, show 7 - (8 - (j + 1)) = j by omega, Nat.pow_mul]
set_option maxRecDepth 100000 in
set_option maxHeartbeats 1000000 in
theorem bytes_any (n : Nat) (hn : n < 18446744073709551616) (w : World) :
    Calls Tryd.prog 19 #[.int .u64 (n : Int)] w fun e w' => e = .returned (.string (stB (smS n))) ∧ Touch [] w w' := by
  go_enter Tryd.func19, Tryd.ntmps19
  go_wp2_with fail
  go_loopw [0, 3, 4] (fun vn vs vi wr => ∃ j : Nat, j ≤ 8 ∧ vi = .int .i64 j ∧ vn = .int .u64 ((n / 256 ^ j : Nat) : Int) ∧ vs = .string (stB ((smS n).drop (8 - j))) ∧ Touch [] w wr) (fun _ _ vi _ => 8 - (intOf vi).toNat)
  case atStart => exact ⟨0, by omega, rfl, by simp, by rw [Nat.sub_zero, List.drop_of_length_le (by rw [smS_len]; omega)]; rfl, Touch.refl _ _⟩
  case round =>
    obtain ⟨j, hj, rfl, rfl, rfl, hT⟩ := hrel
    have HT := Lib.hid hT
    clear hT
    by_cases hlt : j < 8
    · have Hd := Lib.hid (smS_drop n j hlt)
      have Hn : Hid (n / 256 ^ (j + 1) = n / 256 ^ j / 256) := Lib.hid (by rw [Nat.pow_succ, Nat.div_div_eq_div_mul])
      obtain ⟨m, hm⟩ : ∃ m, m = n / 256 ^ j := ⟨_, rfl⟩
      rw [← hm] at Hd Hn ⊢
      have hc := run_convert_bytes_arg (P := Tryd.prog) (wr.alloc (.cells #[.int .u8 ((m : Int) % 256)] 5)) 28 5 Tryd.underlying28 Tryd.underlying5 wr.heap.size 0 1 1 [((m : Int) % 256)] rfl (fun i hi => by
        obtain rfl : i = 0 := by omega
        rw [(Blk.new wr 5 #[.int .u8 ((m : Int) % 256)]).cell]
        rfl) 9 Tryd.underlying9
      rw [show strOfNums [((m : Int) % 256)] = stB [m % 256] by rw [show (m : Int) % 256 = ((m % 256 : Nat) : Int) by omega]; rfl] at hc
      have hmn : m ≤ n := by rw [hm]; exact Nat.div_le_self _ _
      have hwr := IntWalk.u64_in ((m : Int) / 256) (by omega)
      have hsz1 : (stB ((smS n).drop (8 - j))).size ≤ 8 := by rw [← bl_len, bl_stB (fun b hb => smS_lt n b (List.mem_of_mem_drop hb)), List.length_drop, smS_len]; omega
      have hsz2 : (stB [m % 256]).size = 1 := by rw [← bl_len, bl_stB (fun b hb => by simp at hb; omega)]; rfl
      have Hap : Hid (stB [m % 256] ++ stB ((smS n).drop (8 - j)) = stB ((smS n).drop (8 - (j + 1)))) := Lib.hid (by
        rw [Hd.out, stB_append (fun b hb => by simp at hb; omega) (fun b hb => smS_lt n b (List.mem_of_mem_drop hb))]
        rfl)
      obtain ⟨s1, hs1⟩ : ∃ s1, s1 = stB ((smS n).drop (8 - j)) := ⟨_, rfl⟩
      obtain ⟨s2, hs2⟩ : ∃ s2, s2 = stB [m % 256] := ⟨_, rfl⟩
      rw [← hs1] at hsz1 Hap ⊢
      rw [← hs2] at hsz2 Hap hc
      clear hm hs1 hs2 Hd
      go_wp2_with fail
      go_roundw
      case rel => exact ⟨j + 1, by omega, by go_num, by rw [Hn.out]; push_cast; rfl, by rw [Hap.out], HT.out.alloc _⟩
      case measure => simp [intOf]; omega
    · obtain rfl : j = 8 := by omega
      go_wp2_with fail
      go_ret
      exact ⟨rfl, HT.out⟩
theorem smS_zero : smS 0 = List.replicate 8 0 := by decide
def zmS (L : Nat) : Nat := (239 - L % 128) % 128
theorem pad_ref (m : List Nat) (hm : m.length ≤ 1000000) : m ++ [128] ++ List.replicate (zmS m.length) 0 ++ List.replicate 8 0 ++ smS (m.length * 8) = padS m := by
  unfold padS
  have h1 : fillS m.length < 128 := Nat.mod_lt _ (by decide)
  have h2 : zmS m.length + 8 = fillS m.length + (if fillS m.length < 8 then 128 else 0) := by
    unfold zmS fillS
    split <;> omega
  have h3 : List.replicate (zmS m.length) 0 ++ List.replicate 8 0 = List.replicate (fillS m.length) 0 ++ (if fillS m.length < 8 then List.replicate 128 0 else []) := by
    rw [List.replicate_append_replicate, h2]
    split
    · rw [List.replicate_append_replicate]
    · rw [Nat.add_zero, List.append_nil]
  rw [Nat.mod_eq_of_lt (by omega), List.append_assoc (m ++ [128]), h3, List.append_assoc (m ++ [128])]
  simp [List.append_assoc]
set_option maxRecDepth 100000 in
set_option maxHeartbeats 1000000 in
theorem padded_any (s : ByteArray) (hs : s.size ≤ 100000) (w : World) :
    Calls Tryd.prog 16 #[.string s] w fun e w' => ∃ t : ByteArray, e = .returned (.string t) ∧ bl t = padS (bl s) ∧ Touch [] w w' := by
  have HB0 := Lib.hid (fun W : World => bytes_any 0 (by omega) W)
  have HB8 := Lib.hid (fun W : World => bytes_any (s.size * 8) (by omega) W)
  rw [show ((s.size * 8 : Nat) : Int) = (s.size : Int) * 8 by omega] at HB8
  have q5 := IntWalk.u64_in (s.size : Int) (by omega)
  have q6 := IntWalk.u64_in ((s.size : Int) * 8) (by omega)
  have z0 : (stB (smS 0)).size = 8 := by rw [← bl_len, bl_stB (smS_lt _), smS_len]
  have z8 : (stB (smS (s.size * 8))).size = 8 := by rw [← bl_len, bl_stB (smS_lt _), smS_len]
  go_enter Tryd.func16, Tryd.ntmps16
  go_wp2_with fail
  go_loopw [3] (fun vs wr => ∃ (z : Nat) (t : ByteArray), z ≤ zmS s.size ∧ vs = .string t ∧ bl t = bl s ++ [128] ++ List.replicate z 0 ∧ Touch [] w wr) (fun vs _ => s.size + 200 - (match vs with | .string t => t.size | _ => 0))
  case atStart => exact ⟨0, _, by omega, rfl, by rw [bl_append]; simp; rfl, Touch.refl _ _⟩
  case round =>
    obtain ⟨z, t, hz, rfl, hbt, hT⟩ := hrel
    have HT := Lib.hid hT
    have hts : t.size = s.size + 1 + z := by
      have := congrArg List.length hbt
      rw [bl_len] at this
      simp only [List.length_append, List.length_replicate, bl_len, List.length_singleton] at this
      omega
    have hz128 : zmS s.size < 128 := Nat.mod_lt _ (by decide)
    have Hbt := Lib.hid hbt
    clear hT hbt
    by_cases he : z = zmS s.size
    · have t1 : ((t.size : Int) % 128 != 112) = false := by
        have : t.size % 128 = 112 := by rw [hts, he]; unfold zmS; omega
        have h2 : (t.size : Int) % 128 = 112 := by omega
        rw [h2]
        rfl
      have Hfin : Hid (bl (t ++ stB (smS 0) ++ stB (smS (s.size * 8))) = padS (bl s)) := Lib.hid (by
        rw [bl_append, bl_append, Hbt.out, bl_stB (smS_lt _), bl_stB (smS_lt _), smS_zero, he, ← pad_ref (bl s) (by rw [bl_len]; omega), bl_len])
      have hts2 : t.size ≤ 100200 := by omega
      clear hts he hz hz128
      go_wp2_with fail
      refine (HB0.out _).mono ?_
      rintro e w1 ⟨rfl, ht1⟩
      have HT1 := Lib.hid (HT.out.trans ht1)
      clear ht1 HT
      go_wp2_with fail
      refine (HB8.out _).mono ?_
      rintro e w2 ⟨rfl, ht2⟩
      have HT2 := Lib.hid (HT1.out.trans ht2)
      clear ht2 HT1
      go_wp2_with fail
      go_ret
      exact ⟨_, rfl, Hfin.out, HT2.out⟩
    · have t1 : ((t.size : Int) % 128 != 112) = true := by
        have : t.size % 128 ≠ 112 := by rw [hts]; unfold zmS at he hz; omega
        have h2 : (t.size : Int) % 128 ≠ 112 := by omega
        simpa using h2
      have Hbt2 : Hid (bl (t ++ ⟨#[0]⟩) = bl s ++ [128] ++ List.replicate (z + 1) 0) := Lib.hid (by
        rw [bl_append, Hbt.out, List.replicate_succ', ← List.append_assoc]
        rfl)
      have hz2 : (⟨#[0]⟩ : ByteArray).size = 1 := rfl
      have Hs2 : Hid ((t ++ ⟨#[0]⟩).size = t.size + 1) := Lib.hid ByteArray.size_append
      have Hts := Lib.hid hts
      have hts2 : t.size ≤ 100200 := by omega
      clear hts
      go_wp2_with fail
      go_roundw
      case rel => exact ⟨z + 1, _, by omega, rfl, Hbt2.out, HT.out⟩
      case measure =>
        have := Hs2.out
        have := Hts.out
        simp only
        omega
end Go.Proofs.YtflpjnillfgghaaDoor
