/- The document's digits of bytes. -/
import Derived.Test.YtbchjefgfghjlaaRefFd
namespace Go.Proofs.Ytbchjefgfghjlaa
open Go.RowKit
theorem leN_zero_of {l : List Nat} (h : ∀ x ∈ l, x = 0) : leN l = 0 := by
  induction l with
  | nil => rfl
  | cons x l ih => rw [leN, h x List.mem_cons_self, ih (fun y hy => h y (List.mem_cons_of_mem _ hy))]
theorem leN_pad_take {s : List Nat} {m : Nat} (h : s.length ≤ m) (hm : m ≤ 32) : leN ((padN s 32).take m) = leN (s.take 32) := by
  rw [← leN_padN s 32]
  have e := leN_append ((padN s 32).take m) ((padN s 32).drop m)
  rw [List.take_append_drop] at e
  rw [e, leN_zero_of (l := (padN s 32).drop m), Nat.mul_zero, Nat.add_zero]
  intro x hx
  obtain ⟨j, hj, rfl⟩ := List.getElem_of_mem hx
  rw [List.length_drop, padN_len] at hj
  rw [List.getElem_drop]
  have h1 := padN_at s 32 (m + j) (by omega)
  have h2 : s.getD (m + j) 0 = 0 := by rw [List.getD, List.getElem?_eq_none (by omega)]; rfl
  rw [h2, List.getD, List.getElem?_eq_getElem (by rw [padN_len]; omega)] at h1
  exact h1
/-- While bytes are taken, two at a time. -/
structure DigR (s : List Nat) (j : Nat) (q : List Nat) : Prop where
  len : q.length = 16
  dig : DigN q
  rest : ∀ k, j ≤ k → q.getD k 0 = 0
  val : dN q = leN ((padN s 32).take (2 * j))
theorem DigR.start (s : List Nat) : DigR s 0 (List.replicate 16 0) :=
  ⟨by simp, fun x hx => by rw [(List.mem_replicate.1 hx).2]; decide, fun k _ => by
    by_cases hk : k < 16
    · rw [List.getD, List.getElem?_replicate, if_pos hk]; rfl
    · rw [List.getD, List.getElem?_replicate, if_neg hk]; rfl, by rw [dN_zeros]; simp [leN]⟩
theorem DigR.step {s q : List Nat} {j x y : Nat} (h : DigR s j q) (hj : j < 16) (hx : x = s.getD (2 * j) 0) (hy : y = s.getD (2 * j + 1) 0) (hx2 : x < 256) (hy2 : y < 256) : DigR s (j + 1) (q.set j (x + 256 * y)) := by
  have h1 := h.len
  refine ⟨by rw [List.length_set]; exact h1, fun z hz => ?_, fun k hk => ?_, ?_⟩
  · rcases List.mem_or_eq_of_mem_set hz with h2 | h2
    · exact h.dig z h2
    · omega
  · rw [set_get (by omega)]; exact h.rest k (by omega)
  · have e1 := dN_set (l := q) (k := j) (by omega) (x + 256 * y)
    rw [h.rest j (Nat.le_refl _), Nat.mul_zero, Nat.add_zero, h.val] at e1
    have e2 := leN_take_succ (l := padN s 32) (k := 2 * j) (by rw [padN_len]; omega)
    have e3 := leN_take_succ (l := padN s 32) (k := 2 * j + 1) (by rw [padN_len]; omega)
    rw [padN_at _ _ _ (by omega), ← hx] at e2
    rw [padN_at _ _ _ (by omega), ← hy] at e3
    rw [show 2 * (j + 1) = 2 * j + 1 + 1 by omega, e3, e2, e1, Nat.pow_succ, Nat.pow_mul]
    have e4 : (256 : Nat) ^ 2 = 65536 := by decide
    rw [e4]
    generalize (65536 : Nat) ^ j = P
    grind
/-- Sixteen digits of the first 32 bytes. -/
structure DigS (s : List Nat) (q : List Nat) : Prop where
  len : q.length = 16
  dig : DigN q
  val : dN q = leN (s.take 32)
theorem DigR.done {s q : List Nat} {j : Nat} (h : DigR s j q) (hj : j ≤ 16) (hd : j = 16 ∨ s.length ≤ 2 * j) : DigS s q := by
  refine ⟨h.len, h.dig, ?_⟩
  rw [h.val]
  rcases hd with rfl | hd
  · rw [show 2 * 16 = 32 by rfl, List.take_of_length_le (by rw [padN_len]; omega), leN_padN]
  · exact leN_pad_take hd (by omega)
set_option maxRecDepth 100000 in
set_option maxHeartbeats 4000000 in
theorem digits_any (s : ByteArray) (w : World) : Calls Try.prog 36 #[.string s] w (RowPost (DigS (bl s)) w) := by
  have hmk := make_16
  go_enter Try.func36, Try.ntmps36
  go_wp2_with fail
  clear hmk
  have HST := Lib.hid (NewI.made w w (Touch.refl _ _) (List.replicate 16 0) (by simp) (by simp))
  go_loopw [4] (fun vi wr => ∃ (j : Nat) (q : List Nat), j ≤ 16 ∧ vi = .int .i64 ((2 * j : Nat) : Int) ∧ NewI w wr (.slice (some ⟨w.heap.size, 0, none⟩) 16 16) q ∧ DigR (bl s) j q) (fun vi _ => 32 - (intOf vi).toNat)
  case atStart => exact ⟨0, List.replicate 16 0, by omega, rfl, HST.out, DigR.start _⟩
  case round =>
    clear HST
    obtain ⟨j, q, hj, rfl, hq, hD⟩ := hrel
    have HD := Lib.hid hD
    have Hq := Lib.hid hq
    obtain ⟨i, hi⟩ : ∃ i, i = 2 * j := ⟨_, rfl⟩
    have HI := Lib.hid hi
    rw [← hi]
    have hi32 : i ≤ 32 := by omega
    clear hq hD
    by_cases h32 : i < 32
    · by_cases hs : i < s.size
      · have hji : (i : Int) / 2 = (j : Int) := by omega
        obtain ⟨hc, hf⟩ := Hq.out.c16 HD.out.len j (by omega)
        rw [HD.out.rest j (Nat.le_refl _), Nat.zero_add] at hc
        rw [Nat.zero_add] at hf
        have hix := index_blE s (i : Int) i rfl hs
        have hxl := getD_lt (bl_lt s) i
        have hst := HD.out.step (by omega) (x := (bl s).getD i 0) (y := (bl s).getD (i + 1) 0) (by rw [hi]) (by rw [hi]) hxl (getD_lt (bl_lt s) _)
        obtain ⟨x, hx⟩ : ∃ x, x = (bl s).getD i 0 := ⟨_, rfl⟩
        rw [← hx] at hix hxl hst
        clear hx hi
        go_upto_region 6 with fail
        have hs1 := Hq.out.s16 HD.out.len j x (by omega)
        rw [Nat.zero_add] at hs1
        obtain ⟨wx, hwx⟩ : ∃ wx, wx = wr.setCell ⟨w.heap.size, j, none⟩ (.int .i64 (x : Int)) := ⟨_, rfl⟩
        rw [← hwx] at hs1 ⊢
        obtain ⟨hc1, hf1⟩ := hs1.c16 (by rw [List.length_set]; exact HD.out.len) j (by omega)
        rw [Nat.zero_add] at hc1 hf1
        rw [show (q.set j x).getD j 0 = x by simp [List.getD, HD.out.len, show j < 16 by omega]] at hc1
        have Hs1 := Lib.hid hs1
        clear hwx hs1 hc hf hix
        by_cases hs2 : i + 1 < s.size
        · have hix := index_blE s ((i : Int) + 1) (i + 1) (by omega) hs2
          have hyl := getD_lt (bl_lt s) (i + 1)
          obtain ⟨y, hy⟩ : ∃ y, y = (bl s).getD (i + 1) 0 := ⟨_, rfl⟩
          rw [← hy] at hix hyl hst
          have HS := Lib.hid hst
          clear hy hst
          go_wp2_with fail
          go_region
          go_wp2_with fail
          go_roundw
          case rel =>
            have hs3 := Hs1.out.s16 (by rw [List.length_set]; exact HD.out.len) j (x + 256 * y) (by omega)
            rw [Nat.zero_add, List.set_set] at hs3
            have hcast : (x : Int) + 256 * (y : Int) = ((x + 256 * y : Nat) : Int) := by omega
            rw [hcast]
            exact ⟨j + 1, _, by omega, congrArg (Value.int .i64) (by have := HI.out; omega), hs3.more (Touch.refl _ _).drew, HS.out⟩
          case measure => simp [intOf]; omega
        · rw [show (bl s).getD (i + 1) 0 = 0 by rw [List.getD, List.getElem?_eq_none (by rw [bl_len]; omega)]; rfl, Nat.mul_zero, Nat.add_zero] at hst
          have HS := Lib.hid hst
          clear hst
          go_wp2_with fail
          go_roundw
          case rel => exact ⟨j + 1, _, by omega, congrArg (Value.int .i64) (by have := HI.out; omega), Hs1.out, HS.out⟩
          case measure => simp [intOf]; omega
      · have HF := Lib.hid (HD.out.done hj (.inr (by rw [bl_len]; omega)))
        clear hi
        go_wp2_with fail
        go_ret
        exact ⟨_, q, rfl, Hq.out, HF.out⟩
    · have HF := Lib.hid (HD.out.done hj (.inl (by omega)))
      clear hi
      by_cases hs : i < s.size
      · go_wp2_with fail
        go_ret
        exact ⟨_, q, rfl, Hq.out, HF.out⟩
      · go_wp2_with fail
        go_ret
        exact ⟨_, q, rfl, Hq.out, HF.out⟩
end Go.Proofs.Ytbchjefgfghjlaa
