/- Sum of parts; the fixed sums. -/
import Derived.Test.YtflpjnillfgghaaDoorWdHex
namespace Go.Proofs.YtflpjnillfgghaaDoor
open Go Go.RowKit
def joinB (xs : List ByteArray) : ByteArray := ⟨(Lib.join (xs.map (·.data.toList)) (⟨#[]⟩ : ByteArray).data.toList).toArray⟩
theorem joinTail_nil (r : List (List UInt8)) : Lib.joinTail [] r = r.flatten := by simp [Lib.joinTail]
theorem join_flat (xs : List (List UInt8)) : Lib.join xs [] = xs.flatten := by
  cases xs with
  | nil => rfl
  | cons x r => rw [Lib.join_cons, joinTail_nil]; rfl
theorem bl_joinB (xs : List ByteArray) : bl (joinB xs) = xs.flatMap bl := by
  unfold joinB
  have h : (⟨#[]⟩ : ByteArray).data.toList = [] := rfl
  rw [h, join_flat]
  unfold bl
  show ((xs.map (·.data.toList)).flatten.toArray.toList.map (·.toNat)) = _
  simp only [List.map_flatten, List.flatMap, List.map_map]
  rfl
theorem bl_size (s : ByteArray) : s.size = (bl s).length := (bl_len s).symm
theorem sum_parts (bk o c : Nat) (xs : List ByteArray) (w : World) (hcells : ∀ (j : Nat) x, xs[j]? = some x → w.cell? ⟨bk, o + j, none⟩ = some (.string x)) (hbk : bk < w.heap.size) (hN : xs.length ≤ 1000) (hcap : xs.length ≤ c) (hlen : (xs.flatMap bl).length ≤ 1000000) (hV : WideV w) :
    Calls Tryd.prog 8 #[.slice (some ⟨bk, o, none⟩) xs.length c] w fun e w' => e = .returned (.string (stB (sumS (xs.flatMap bl)))) ∧ Touch [] w w' := by
  have hs : (joinB xs).size = (xs.flatMap bl).length := by rw [bl_size, bl_joinB]
  have hl : (Lib.join (xs.map (·.data.toList)) (⟨#[]⟩ : ByteArray).data.toList).length = (joinB xs).size := by
    show _ = (Lib.join (xs.map (·.data.toList)) (⟨#[]⟩ : ByteArray).data.toList).toArray.size
    simp
  have h := sum_any (.slice (some ⟨bk, o, none⟩) xs.length c) (joinB xs) (by omega) w hV ((Tryd.strings_Join bk o c xs ⟨#[]⟩ w hcells hbk (by omega) hcap (by rw [hl]; omega)).mono fun e w' ⟨he, hb⟩ => ⟨he, Touch.of_below hb⟩)
  rw [bl_joinB] at h
  exact h
theorem sum_none (a : Option Addr) (c : Nat) (w : World) (hV : WideV w) :
    Calls Tryd.prog 8 #[.slice a 0 c] w fun e w' => e = .returned (.string (stB (sumS []))) ∧ Touch [] w w' :=
  sum_any (.slice a 0 c) ⟨#[]⟩ (by decide) w hV ((Tryd.strings_Join_none a c ⟨#[]⟩ w).mono fun e w' ⟨he, hw⟩ => ⟨he, by rw [hw]; exact Touch.refl _ _⟩)
theorem sumS_lt (l : List Nat) : ∀ b ∈ sumS l, b < 256 := flat_lt _
theorem sumS_len (l : List Nat) : (sumS l).length = 64 := by unfold sumS; rw [flat_len, blkS_len]
def fixA : ByteArray := ⟨#[100, 100, 97, 102, 51, 53, 97, 49, 57, 51, 54, 49, 55, 97, 98, 97, 99, 99, 52, 49, 55, 51, 52, 57, 97, 101, 50, 48, 52, 49, 51, 49, 49, 50, 101, 54, 102, 97, 52, 101, 56, 57, 97, 57, 55, 101, 97, 50, 48, 97, 57, 101, 101, 101, 101, 54, 52, 98, 53, 53, 100, 51, 57, 97, 50, 49, 57, 50, 57, 57, 50, 97, 50, 55, 52, 102, 99, 49, 97, 56, 51, 54, 98, 97, 51, 99, 50, 51, 97, 51, 102, 101, 101, 98, 98, 100, 52, 53, 52, 100, 52, 52, 50, 51, 54, 52, 51, 99, 101, 56, 48, 101, 50, 97, 57, 97, 99, 57, 52, 102, 97, 53, 52, 99, 97, 52, 57, 102]⟩
def fixB : ByteArray := ⟨#[99, 102, 56, 51, 101, 49, 51, 53, 55, 101, 101, 102, 98, 56, 98, 100, 102, 49, 53, 52, 50, 56, 53, 48, 100, 54, 54, 100, 56, 48, 48, 55, 100, 54, 50, 48, 101, 52, 48, 53, 48, 98, 53, 55, 49, 53, 100, 99, 56, 51, 102, 52, 97, 57, 50, 49, 100, 51, 54, 99, 101, 57, 99, 101, 52, 55, 100, 48, 100, 49, 51, 99, 53, 100, 56, 53, 102, 50, 98, 48, 102, 102, 56, 51, 49, 56, 100, 50, 56, 55, 55, 101, 101, 99, 50, 102, 54, 51, 98, 57, 51, 49, 98, 100, 52, 55, 52, 49, 55, 97, 56, 49, 97, 53, 51, 56, 51, 50, 55, 97, 102, 57, 50, 55, 100, 97, 51, 101]⟩
theorem fix1 : stB (hexS (sumS [97, 98, 99])) = fixA := by
  apply bl_inj
  rw [bl_stB (hexS_lt (sumS_lt _))]
  decide +kernel
theorem fix2 : stB (hexS (sumS [])) = fixB := by
  apply bl_inj
  rw [bl_stB (hexS_lt (sumS_lt _))]
  decide +kernel
set_option maxRecDepth 100000 in
set_option maxHeartbeats 2000000 in
theorem fixed_any (w : World) (hV : WideV w) : Calls Tryd.prog 10 #[] w fun e w' => e = .returned (.bool true) ∧ Touch [] w w' := by
  have HV := Lib.hid hV
  have Hb := Lib.hid (Blk.new w 9 #[.string ⟨#[97]⟩, .string ⟨#[98, 99]⟩])
  have H1 := Lib.hid (sum_parts w.heap.size 0 2 [⟨#[97]⟩, ⟨#[98, 99]⟩] (w.alloc (.cells #[.string ⟨#[97]⟩, .string ⟨#[98, 99]⟩] 9)) (fun j x hj => by
    rw [Nat.zero_add, Hb.out.cell]
    match j, hj with
    | 0, hj => simp at hj; subst hj; rfl
    | 1, hj => simp at hj; subst hj; rfl) Hb.out.lt (by decide) (by decide) (by decide) (hV.touch ((Touch.refl _ _).alloc _)))
  have e1 : stB (hexS (bl (stB (sumS (([⟨#[97]⟩, ⟨#[98, 99]⟩] : List ByteArray).flatMap bl))))) = fixA := by
    rw [bl_stB (sumS_lt _)]
    exact fix1
  have e2 : stB (hexS (bl (stB (sumS [])))) = fixB := by
    rw [bl_stB (sumS_lt _)]
    exact fix2
  have z1 : (stB (sumS (([⟨#[97]⟩, ⟨#[98, 99]⟩] : List ByteArray).flatMap bl))).size ≤ 1000 := by rw [← bl_len, bl_stB (sumS_lt _), sumS_len]; decide
  have z2 : (stB (sumS [])).size ≤ 1000 := by rw [← bl_len, bl_stB (sumS_lt _), sumS_len]; decide
  have H2 := Lib.hid (fun W : World => hex_any _ z1 W)
  have H3 := Lib.hid (fun W : World => hex_any _ z2 W)
  rw [e1] at H2
  rw [e2] at H3
  unfold fixA at H2
  unfold fixB at H3
  clear e1 e2 z1 z2 hV Hb
  obtain ⟨s1, hs1⟩ : ∃ s1, s1 = stB (sumS (([⟨#[97]⟩, ⟨#[98, 99]⟩] : List ByteArray).flatMap bl)) := ⟨_, rfl⟩
  obtain ⟨s2, hs2⟩ : ∃ s2, s2 = stB (sumS []) := ⟨_, rfl⟩
  have HN := Lib.hid (fun (W : World) (h : WideV W) => sum_none none 0 W h)
  rw [← hs1] at H1 H2
  rw [← hs2] at H3 HN
  clear hs1 hs2
  go_enter Tryd.func10, Tryd.ntmps10
  go_wp2_with fail
  refine H1.out.mono ?_
  rintro e w1 ⟨rfl, ht1⟩
  have HT1 := Lib.hid (((Touch.refl [] w).alloc (.cells #[.string ⟨#[97]⟩, .string ⟨#[98, 99]⟩] 9)).trans ht1)
  clear ht1 H1
  go_wp2_with fail
  refine (H2.out _).mono ?_
  rintro e w2 ⟨rfl, ht2⟩
  have HT2 := Lib.hid (HT1.out.trans ht2)
  clear ht2 HT1 H2
  go_wp2_with fail
  refine (HN.out _ (HV.out.touch HT2.out)).mono ?_
  rintro e w3 ⟨rfl, ht3⟩
  have HT3 := Lib.hid (HT2.out.trans ht3)
  clear ht3 HT2 HN
  go_wp2_with fail
  refine (H3.out _).mono ?_
  rintro e w4 ⟨rfl, ht4⟩
  have HT4 := Lib.hid (HT3.out.trans ht4)
  clear ht4 HT3 H3
  go_wp2_with fail
  go_ret
  exact ⟨rfl, HT4.out⟩
end Go.Proofs.YtflpjnillfgghaaDoor
