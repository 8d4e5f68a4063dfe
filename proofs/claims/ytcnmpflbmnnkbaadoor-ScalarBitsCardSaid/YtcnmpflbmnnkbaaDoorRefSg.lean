/- The document's Clamp. -/
import Derived.Test.YtcnmpflbmnnkbaaDoorRefSf
namespace Go.Proofs.YtcnmpflbmnnkbaaDoor
open Go.RowKit
theorem clampL_eq (l : List Nat) : clampL l = ((padN l 32).set 0 ((padN l 32).getD 0 0 - (padN l 32).getD 0 0 % 8)).set 31 ((padN l 32).getD 31 0 % 64 + 64) := rfl
theorem clampL_len (l : List Nat) : (clampL l).length = 32 := by rw [clampL_eq]; simp [padN_len]
theorem clampL_lt {l : List Nat} (h : ∀ b ∈ l, b < 256) : ∀ b ∈ clampL l, b < 256 := by
  intro b hb
  rw [clampL_eq] at hb
  have h0 := getD_lt (padN_lt h 32) 0
  rcases List.mem_or_eq_of_mem_set hb with hb | rfl
  · rcases List.mem_or_eq_of_mem_set hb with hb | rfl
    · exact padN_lt h 32 b hb
    · omega
  · omega
set_option maxRecDepth 100000 in
set_option maxHeartbeats 2000000 in
theorem refClamp_any (s : ByteArray) (w : World) :
    Calls Tryd.prog 21 #[.string s] w fun e w' => e = .returned (.string (strOfNums ((clampL (bl s)).map fun (n : Nat) => (n : Int)))) ∧ Touch [] w w' := by
  go_enter Tryd.func21, Tryd.ntmps21
  go_wp2_with fail
  refine (digits_32 s _).mono ?_
  rintro e w1 ⟨v, rfl, hn⟩
  have hpl : (padN (bl s) 32).length = 32 := padN_len _ _
  obtain ⟨g, off, c, rfl, hg, hc1, hc2, hf, hx⟩ := hn.cells (by omega)
  unfold maxLen at hc2
  have hx0 := hx 0 (by omega)
  have hx31 := hx 31 (by omega)
  rw [Nat.add_zero] at hx0
  have hf0 := hf off
  have hf31 := hf (off + 31)
  have h0 := getD_lt (padN_lt (bl_lt s) 32) 0
  have h31 := getD_lt (padN_lt (bl_lt s) 32) 31
  rw [hpl] at hn hc1
  rw [hpl]
  have hcl := Lib.hid (clampL_eq (bl s))
  have hlen := Lib.hid hpl
  have hcl2 := Lib.hid (clampL_len (bl s))
  have hcl3 := Lib.hid (clampL_lt (bl_lt s))
  obtain ⟨L, hL⟩ : ∃ L, L = padN (bl s) 32 := ⟨_, rfl⟩
  obtain ⟨C, hC⟩ : ∃ C, C = clampL (bl s) := ⟨_, rfl⟩
  rw [← hL] at hn hx0 hx31 h0 h31 hcl hlen
  rw [← hC] at hcl hcl2 hcl3
  have HC := Lib.hid hC
  have Hn := Lib.hid hn
  clear hn hx hf hL hC hpl
  obtain ⟨x, hx⟩ : ∃ x, x = L.getD 0 0 := ⟨_, rfl⟩
  obtain ⟨y, hy⟩ : ∃ y, y = L.getD 31 0 := ⟨_, rfl⟩
  rw [← hx] at hx0 h0 hcl
  rw [← hy] at hx31 h31 hcl
  clear hx hy
  go_wp2_with fail
  go_region
  go_upto_region 4 with fail
  obtain ⟨p, hp⟩ : ∃ p, p = x - x % 8 := ⟨_, rfl⟩
  obtain ⟨q, hq⟩ : ∃ q, q = y % 64 + 64 := ⟨_, rfl⟩
  have e1 : (x : Int) - (x : Int) % 8 = (p : Int) := by omega
  have e2 : (y : Int) % 64 + 64 = (q : Int) := by omega
  rw [← hp, ← hq] at hcl
  clear hp hq
  rw [e1, e2]
  have hset := Hn.out
  rw [← hlen.out] at hset
  have h2 := hset.set 0 p (by rw [hlen.out]; omega)
  have h3 := h2.set 31 q (by rw [List.length_set, hlen.out]; omega)
  rw [← hcl.out, hcl2.out, Nat.add_zero] at h3
  have h4 := h3.more (Touch.refl _ _).drew
  obtain ⟨wo, hwo⟩ : ∃ wo, wo = ((w1.setCell ⟨g, off, none⟩ (.int .i64 (p : Int))).setCell ⟨g, off + 31, none⟩ (.int .i64 (q : Int))).drew := ⟨_, rfl⟩
  rw [← hwo]
  rw [← hwo] at h4
  have H4 := Lib.hid h4
  clear h4 h3 h2 hset hwo hx0 hx31 hf0 hf31 Hn hcl hlen h0 h31 e1 e2
  have hu0 := Lib.hid (show NewU wo (wo.alloc (.cells #[] 5)) (.slice (some ⟨wo.heap.size, 0, none⟩) 0 0) [] from ⟨none, Own.nil _ _ _ _, (Touch.refl _ _).alloc _, .refl _ _⟩)
  go_wp2_with fail
  go_loopw [4, 5] (fun vb vi wx => ∃ (i : Nat), i ≤ 32 ∧ vi = .int .i64 i ∧ NewU wo wx vb (C.take i)) (fun _ vi _ => 32 - (intOf vi).toNat)
  case atStart => exact ⟨0, by omega, rfl, hu0.out⟩
  case round =>
    clear hu0
    obtain ⟨i, hi, rfl, hb⟩ := hrel
    obtain ⟨Ab, cb, rfl, _⟩ := hb.shape
    have hlen : (C.take i).length = i := by rw [List.length_take, hcl2.out]; omega
    have HB := Lib.hid hb
    clear hb
    by_cases hi32 : i < 32
    · obtain ⟨rr, hown⟩ := (H4.out.more HB.out.touch).own
      rw [hcl2.out] at hown
      have hcell := hown.cellAt (by omega) i _ (cellsI_at (by rw [hcl2.out]; omega))
      clear hown
      have hxl := getD_lt hcl3.out i
      have hsn := Lib.hid (take_snoc (l := C) (k := i) (by rw [hcl2.out]; omega))
      obtain ⟨x, hx⟩ : ∃ x, x = C.getD i 0 := ⟨_, rfl⟩
      rw [← hx] at hcell hxl hsn
      clear hx
      obtain ⟨L, hL⟩ : ∃ L, L = C.take i := ⟨_, rfl⟩
      rw [← hL] at hlen HB hsn ⊢
      clear hL
      go_wp2_with (at_builtin; refine wpList_append_byte wo _ (.tmp 30) (.tmp 36) 30 Tryd.underlying30 rfl rfl HB.out (by omega) x _ rfl rfl ?_)
      intro A2 c2 w2 h2
      have H2 := Lib.hid h2
      clear h2
      go_wp2_with fail
      go_roundw
      case rel => exact ⟨i + 1, by omega, by go_num, by rw [hsn.out]; exact H2.out⟩
      case measure => simp [intOf]; omega
    · obtain rfl : i = 32 := by omega
      obtain ⟨g2, o2, c2, hv2, _, _, _, _, hcx⟩ := HB.out.cells (by rw [hlen]; omega)
      injection hv2 with ha hvl hcc
      clear hvl
      subst ha; subst hcc
      have hconv := run_convert_bytes_arg (P := Tryd.prog) wr 30 5 Tryd.underlying30 Tryd.underlying5 g2 o2 (C.take 32).length cb ((C.take 32).map fun (n : Nat) => (n : Int)) (by simp) (fun i hi => by
        rw [hcx i hi, getD_map_int]) 9 Tryd.underlying9
      rw [List.take_of_length_le (l := C) (i := 32) (by rw [hcl2.out]; omega)] at hconv hlen HB
      rw [List.take_of_length_le (l := C) (i := 32) (by rw [hcl2.out]; omega)]
      rw [hcl2.out] at hconv HB
      rw [hcl2.out]
      clear hcx hlen
      go_wp2_with fail
      go_ret
      exact ⟨ret_eq (by rw [HC.out]; rfl), H4.out.touch.trans HB.out.touch⟩
end Go.Proofs.YtcnmpflbmnnkbaaDoor
