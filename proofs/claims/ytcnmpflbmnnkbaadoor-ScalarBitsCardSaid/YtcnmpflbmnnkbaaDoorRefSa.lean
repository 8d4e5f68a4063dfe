/- The document's numbers by digits: digits, order, below. -/
import Derived.Test.YtcnmpflbmnnkbaaDoorGrow
import Derived.Test.YtcnmpflbmnnkbaaDoorDoublesWalk
namespace Go.Proofs.YtcnmpflbmnnkbaaDoor
open Go.RowKit
/-- The first n bytes, 0 behind them. -/
def padN (l : List Nat) (n : Nat) : List Nat := l.take n ++ List.replicate (n - l.length) 0
theorem padN_len (l : List Nat) (n : Nat) : (padN l n).length = n := by simp [padN]; omega
theorem padN_at (l : List Nat) (n i : Nat) (hi : i < n) : (padN l n).getD i 0 = l.getD i 0 := by
  unfold padN
  by_cases h : i < l.length
  · simp only [List.getD, List.getElem?_append, List.length_take, List.getElem?_take]
    rw [if_pos (by omega), if_pos hi]
  · simp only [List.getD, List.getElem?_append, List.length_take, List.getElem?_replicate]
    rw [if_neg (by omega), List.getElem?_eq_none (show l.length ≤ i by omega)]
    split <;> rfl
theorem leN_zeros (k : Nat) : leN (List.replicate k 0) = 0 := by
  induction k with
  | zero => rfl
  | succ k ih => rw [List.replicate_succ, leN, ih]
theorem leN_padN (l : List Nat) (n : Nat) : leN (padN l n) = leN (l.take n) := by unfold padN; rw [leN_append, leN_zeros, Nat.mul_zero, Nat.add_zero]
theorem padN_lt {l : List Nat} (h : ∀ b ∈ l, b < 256) (n : Nat) : ∀ b ∈ padN l n, b < 256 := by
  intro b hb
  rcases List.mem_append.1 hb with hb | hb
  · exact h b (List.mem_of_mem_take hb)
  · rw [(List.mem_replicate.1 hb).2]; omega
theorem take_snoc {l : List Nat} {k : Nat} (hk : k < l.length) : l.take (k + 1) = l.take k ++ [l.getD k 0] := by
  have h : l.take k ++ [l[k]] = l.take (k + 1) := List.take_append_getElem hk
  rw [← h]; simp [List.getD, hk]
theorem getD_lt {l : List Nat} (h : ∀ b ∈ l, b < 256) (k : Nat) : l.getD k 0 < 256 := by
  by_cases hk : k < l.length
  · rw [List.getD, List.getElem?_eq_getElem hk]; exact h _ (List.getElem_mem hk)
  · rw [List.getD, List.getElem?_eq_none (by omega)]; decide
def DigitsPost (l : List Nat) (w : World) (e : Ending) (w' : World) : Prop := ∃ v, e = .returned v ∧ NewI w w' v l
set_option maxRecDepth 100000 in
set_option maxHeartbeats 1000000 in
theorem digits_any (s : ByteArray) (n : Nat) (hn : n ≤ 100) (w : World) :
    Calls Tryd.prog 24 #[.string s, .int .i64 (n : Int)] w (DigitsPost (padN (bl s) n) w) := by
  go_enter Tryd.func24, Tryd.ntmps24
  go_wp2_with fail
  go_loopw [5, 6] (fun vd vi wr => ∃ (k : Nat), k ≤ n ∧ vi = .int .i64 k ∧ NewI w wr vd ((padN (bl s) n).take k)) (fun _ vi _ => n - (intOf vi).toNat)
  case atStart => exact ⟨0, by omega, rfl, ⟨none, Own.nil _ _ _ _, (Touch.refl _ _).alloc _, .refl _ _⟩⟩
  case round =>
    obtain ⟨k, hk, rfl, hd⟩ := hrel
    obtain ⟨A, c, rfl, _⟩ := hd.shape
    have hlen : ((padN (bl s) n).take k).length = k := by rw [List.length_take, padN_len]; omega
    have Hd := Lib.hid hd
    clear hd
    by_cases hkn : k < n
    · have hsn := Lib.hid (take_snoc (l := padN (bl s) n) (k := k) (by rw [padN_len]; exact hkn))
      rw [padN_at _ _ _ hkn] at hsn
      obtain ⟨L, hL⟩ : ∃ L, L = (padN (bl s) n).take k := ⟨_, rfl⟩
      rw [← hL] at hlen Hd hsn ⊢
      clear hL
      by_cases hks : k < s.size
      · have hix := index_bl s (k : Int) k rfl hks
        have hbl := getD_lt (bl_lt s) k
        obtain ⟨b, hb⟩ : ∃ b, b = (bl s).getD k 0 := ⟨_, rfl⟩
        rw [← hb] at hix hbl hsn
        clear hb
        go_wp2_with (at_builtin; refine wpList_append_int w _ (.tmp 17) (.tmp 22) 33 Tryd.underlying33 rfl rfl Hd.out (by omega) b _ rfl rfl ?_)
        intro A2 c2 w2 h2
        have H2 := Lib.hid h2
        clear h2
        go_wp2_with fail
        go_roundw
        case rel => exact ⟨k + 1, by omega, by go_num, by rw [hsn.out]; exact H2.out⟩
        case measure => simp [intOf]; omega
      · have hz : (bl s).getD k 0 = 0 := by rw [List.getD, List.getElem?_eq_none (by rw [bl_len]; omega)]; rfl
        rw [hz] at hsn
        clear hz
        go_wp2_with (at_builtin; refine wpList_append_int w _ (.tmp 24) (.tmp 25) 33 Tryd.underlying33 rfl rfl Hd.out (by omega) 0 _ rfl rfl ?_)
        intro A2 c2 w2 h2
        have H2 := Lib.hid h2
        clear h2
        go_wp2_with fail
        go_roundw
        case rel => exact ⟨k + 1, by omega, by go_num, by rw [hsn.out]; exact H2.out⟩
        case measure => simp [intOf]; omega
    · obtain rfl : k = n := by omega
      have hall : (padN (bl s) k).take k = padN (bl s) k := List.take_of_length_le (by rw [padN_len]; omega)
      rw [hall] at Hd hlen ⊢
      clear hall
      go_wp2_with fail
      go_ret
      exact ⟨_, rfl, Hd.out⟩
theorem order_any (w : World) : Calls Tryd.prog 33 #[] w fun e w' => e = .returned (.string ⟨#[237, 211, 245, 92, 26, 99, 18, 88, 214, 156, 247, 162, 222, 249, 222, 20, 0, 0, 0, 0, 0, 0, 0, 0, 0, 0, 0, 0, 0, 0, 0, 16]⟩) ∧ w = w' := by
  go_enter Tryd.func33, Tryd.ntmps33
  go_wp2_with fail
  go_ret
  exact ⟨rfl, rfl⟩
end Go.Proofs.YtcnmpflbmnnkbaaDoor
