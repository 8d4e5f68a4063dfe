/- RetryFast: the walk. -/
import Derived.Test.YtehbfoiadinhbaaRtOne
namespace Go.Proofs.Ytehbfoiadinhbaa
open Go Go.RowKit
theorem wait_bare {c : Cf} (h : TameC c) (hs : c.span = 0) (k draw : Int) : waitV c k draw = backS c.base k c.most := by
  have h1 := back_tame h k
  have h2 := h.m1
  have h3 := h.b1
  unfold waitV spreadS
  rw [hs, if_neg (by omega), show (0 : Int) + 1 = 1 from rfl, Int.emod_one]
  unfold addS
  rw [if_pos (by omega)]
  omega
theorem back_zero {c : Cf} (h : TameC c) : backS c.base 0 c.most = c.base := by
  have h1 := h.m0
  unfold backS
  show (if c.base < c.most then c.base else c.most) = c.base
  split <;> omega
theorem dbl_pos {n : Int} (h : 0 < n) (h' : n < 18446744073709551616) (j : Nat) : 0 < dbl j n := by
  induction j generalizing n with
  | zero => exact h
  | succ j ih =>
    refine ih ?_ ?_ <;> unfold addS <;> split <;> omega
theorem back_pos {c : Cf} (h : TameC c) (k : Int) : 0 < backS c.base k c.most := by
  have h1 := dbl_pos (n := c.base) (by have := h.b0; omega) (by have := h.b1; omega) k.toNat
  have h2 := h.m0
  have h3 := h.b0
  unfold backS
  split <;> omega
/-- RetryFast: behind some looks. -/
structure FaI (c : Cf) (start next k : Int) (n : Nat) (T : Int → Int) : Prop where
  t : ∀ a, 0 ≤ T a ∧ T a ≤ 1000
  k1 : 1 ≤ k
  kt : k ≤ c.tries
  tk : T 9 = k
  lo : start + n ≤ next
  hi : next ≤ start + n + 600
theorem FaI.next {c : Cf} {start next k : Int} {n : Nat} {T : Int → Int} (h : FaI c start next k n T) (hne : start + n ≠ next) : FaI c start next k (n + 1) T :=
  ⟨h.t, h.k1, h.kt, h.tk, by have := h.lo; omega, by have := h.hi; omega⟩
theorem FaI.again {c : Cf} (hc : TameC c) {start k : Int} {n : Nat} {T : Int → Int} (h : FaI c start (start + n) k n T) (hk : k < c.tries) : FaI c start (start + n + backS c.base k c.most) (k + 1) (n + 1) (upd T 9 (T 9 + 1)) := by
  have h1 := back_tame hc k
  have h2 := back_pos hc k
  have h3 := hc.m1
  have h4 := hc.b1
  have h5 := hc.t1
  have h6 := h.tk
  have h7 := h.k1
  exact ⟨upd_rng h.t (by omega), by omega, by omega, by rw [upd_self]; omega, by omega, by omega⟩
/-- One cell of a config in a variable. -/
theorem Sep.setCfgAt {w w0 : World} {B : Nat} {rs : List Res} {g : Nat} {cs : Array Value} (h : Sep w0 B w rs) (i : Nat) (hi : rs[i]? = some (blkRes g 24 cs)) (j : Nat) (v : Value) :
    Sep w0 B (w.setCell ⟨g, j, none⟩ v) (rs.set i (blkRes g 24 (cs.setIfInBounds j v))) := by
  obtain ⟨F, ⟨rfl, hb⟩, hset⟩ := h.focus i hi
  exact hset _ _ [g] ⟨rfl, hb.set_ j v⟩ ((Touch.refl _ _).setCell (.inl (by simp)) v) (fun k hk => .inl hk)
set_option maxRecDepth 100000 in
set_option maxHeartbeats 4000000 in
theorem fast_walk (c : Cf) (hc : CfT c) (start : Int) (hs0 : 0 ≤ start) (hs1 : start < 4294967296) (wA : World) :
    Calls Try.prog 4 #[cfV c, .int .u32 start] wA fun e w' => e = .returned (.bool true) ∧ Touch [] wA w' := by
  have HST := Lib.hid (And.intro hs0 hs1)
  have HT := Lib.hid (fun W => tame_any c hc W)
  obtain ⟨V, hV⟩ : ∃ V, V = cfV c := ⟨_, rfl⟩
  have hV2 : V = .agg #[.int .u64 c.base, .int .u64 c.most, .int .u64 c.span, .int .i64 c.tries, .int .i64 c.room] := hV
  unfold cfV
  clear hc hV hV2 hs0 hs1
  go_enter Try.func4, Try.ntmps4
  go_wp2_with fail
  refine (HT.out _).mono ?_
  rintro e w1 ⟨c', rfl, ht', ht⟩
  have hs0 := ((Sep.start wA).add (w' := wA.alloc (.cells (cfC c).toArray 24)) (r := blkRes wA.heap.size 24 (cfC c).toArray) (F := [wA.heap.size]) ⟨rfl, Blk.new _ _ _⟩ ((Touch.refl _ _).alloc _) (by simp)).touch ht
  have hb := hs0.blkAt 0 rfl
  have hs1 := hs0.setCfg 0 rfl (cfC c').toArray
  have Hb := Lib.hid hb
  have Hs1 := Lib.hid hs1
  have Ht' := Lib.hid ht'
  clear hb hs0 hs1 ht ht' HT
  unfold cfV
  obtain ⟨a0, a1, a2, a3, a4⟩ := cfg_cells Hs1.out 0 rfl
  have af := (Hs1.out.blkAt 0 rfl).frozen 2
  have hs2 := Hs1.out.setCfgAt 0 rfl 2 (.int .u64 0)
  have ht2 : TameC ⟨c'.base, c'.most, 0, c'.tries, c'.room⟩ := by
    have h := Ht'.out
    exact ⟨h.b0, h.b1, h.m0, h.m1, by simp only; omega, by simp only; omega, h.t0, h.t1, h.room⟩
  obtain ⟨c2, hc2⟩ : ∃ c2 : Cf, c2 = ⟨c'.base, c'.most, 0, c'.tries, c'.room⟩ := ⟨_, rfl⟩
  have hs3 : Sep wA wA.heap.size ((w1.setRow wA.heap.size (cfC c').toArray).setCell ⟨wA.heap.size, 2, none⟩ (.int .u64 0)) [blkRes wA.heap.size 24 (cfC c2).toArray] := by
    rw [hc2]
    exact hs2
  rw [← hc2] at ht2
  have hv : cfV c2 = .agg #[.int .u64 c'.base, .int .u64 c'.most, .int .u64 0, .int .i64 c'.tries, .int .i64 c'.room] := by rw [hc2]; rfl
  have Hsp := Lib.hid (show c2.span = 0 by rw [hc2])
  have HV := Lib.hid hv
  have Hs3 := Lib.hid hs3
  have Ht2 := Lib.hid ht2
  clear hs2 ht2 hc2 hs3 hv
  go_wp2_with (refine wpList_store_row rfl 24 (.tmp 2) (.tmp 14) rfl wA.heap.size (cfC c').toArray rfl rfl 24 _ Hb.out rfl rfl (cfC_one c') ?_)
  clear Hb a0 a1 a2 a3 a4 Hs1 Ht' af
  rw [← HV.out]
  refine (newR_yes Hs3.out c2 Ht2.out.ok).mono ?_
  rintro e w3 ⟨pt, pm, ph, rfl, hs4⟩
  have Hs4 := Lib.hid hs4
  clear Hs3 hs4 HV
  have hroom := Ht2.out.room
  have hc32 := IntWalk.u64_in start (by have := HST.out; omega)
  have HK := Lib.hid (fun (rs : List Res) (W : World) (h : Sep wA wA.heap.size W rs) (ht : TabAt rs 0 pt pm ph c2 [] T0) => ask_sep h ht Ht2.out.types (by omega) 9 start 5 (by omega) (by have := HST.out; omega) (by omega))
  rw [show setCode [] c2.room 9 = 0 from by rw [hroom]; decide] at HK
  clear hroom
  go_wp2_with fail
  refine (HK.out _ _ Hs4.out ⟨rfl, rfl, rfl⟩).mono ?_
  rintro e w4 ⟨rfl, hs4⟩
  have hb0 : addS start (waitV c2 0 5) = start + c2.base := by
    rw [wait_bare Ht2.out Hsp.out, back_zero Ht2.out]
    have := HST.out
    have := Ht2.out.b1
    unfold addS
    rw [if_pos (by omega)]
  have hs5 : Sep wA wA.heap.size w4 [tbRes pt c2 pm ph, mapRes pm (idsA [(start + c2.base, 9)]) (upd T0 9 1), hRes ph [(start + c2.base, 9)] c2.room, blkRes wA.heap.size 24 (cfC c2).toArray] := by
    have hr := Ht2.out.room
    have hz : setCode [] c2.room 9 = 0 := by rw [hr]; decide
    rw [show askS [] c2 9 start 5 = [(addS start (waitV c2 0 5), 9)] from setS_yes hz, hb0, show askT [] T0 c2.room 9 = upd T0 9 1 from if_pos hz] at hs4
    exact hs4
  have HA := Lib.hid (fun W => satAdd_any start c2.base HST.out.1 (by have := HST.out; omega) Ht2.out.types.b0 Ht2.out.types.b1 W)
  have ha : addS start c2.base = start + c2.base := by
    have := HST.out
    have := Ht2.out.b1
    unfold addS
    rw [if_pos (by omega)]
  rw [ha] at HA
  obtain ⟨a0, a1, a2, a3, a4⟩ := cfg_cells hs5 3 rfl
  have HI : Hid (FaI c2 start (start + c2.base) 1 0 (upd T0 9 1)) := Lib.hid ⟨upd_rng htT0 (by omega), by omega, Ht2.out.t0, upd_self _ _ _, by have := Ht2.out.b0; omega, by have := Ht2.out.b1; omega⟩
  have Hs5 := Lib.hid hs5
  clear hs4 hs5 HK Hs4 ha hb0
  go_wp2_with fail
  refine (HA.out _).mono ?_
  rintro e w5 ⟨rfl, rfl⟩
  clear a0 a1 a2 a3 a4 HA
  go_wp2_with fail
  go_loopw [7, 8, 9] (fun v7 v8 v9 wr => ∃ (n : Nat) (next k : Int) (T : Int → Int), n ≤ 400 ∧ v9 = .int .u64 n ∧ v7 = .int .u64 next ∧ v8 = .int .i64 k ∧ FaI c2 start next k n T ∧
    Sep wA wA.heap.size wr [tbRes pt c2 pm ph, mapRes pm (idsA [(next, 9)]) T, hRes ph [(next, 9)] c2.room, blkRes wA.heap.size 24 (cfC c2).toArray]) (fun _ _ v9 _ => 400 - (intOf v9).toNat)
  case atStart => exact ⟨0, _, 1, _, by omega, rfl, rfl, rfl, HI.out, Hs5.out⟩
  case round =>
    obtain ⟨n, next, k, T, hn, rfl, rfl, rfl, hI, hs⟩ := hrel
    clear Hs5 HI
    have HI := Lib.hid hI
    have Hs := Lib.hid hs
    clear hI hs
    by_cases hlt : n < 400
    · have hw1 := IntWalk.u64_in start (by have := HST.out; omega)
      have hw2 := IntWalk.u64_in (start + n) (by have := HST.out; omega)
      have hw3 := IntWalk.u64_in ((n : Int) + 1) (by omega)
      have Hdue := Lib.hid (due_sep (i := 0) Hs.out (⟨rfl, rfl, rfl⟩ : TabAt _ 0 pt pm ph c2 [(next, 9)] T) Ht2.out.types (by have := Ht2.out.room; omega) (by have := Ht2.out.t1; omega) (start + n) n (fun a h => by simp [idsA] at h; omega) HI.out.t (by have := HST.out; omega) (by omega))
      by_cases he : start + n = next
      · subst he
        by_cases hk : k < c2.tries
        · have htk : T 9 = k := HI.out.tk
          rw [due_again _ _ _ _ _ _ (by omega) (by omega), htk, wait_bare Ht2.out Hsp.out] at Hdue
          have hbk := back_tame Ht2.out k
          have HI2 := HI.out.again Ht2.out hk
          rw [htk] at HI2
          have hadd : addS (start + n) (backS c2.base k c2.most) = start + n + backS c2.base k c2.most := by
            have := HST.out
            have := Ht2.out.m1
            have := Ht2.out.b1
            unfold addS
            rw [if_pos (by omega)]
          rw [hadd] at Hdue
          have HB := Lib.hid (fun W => same_sym (satBack_any c2.base k c2.most Ht2.out.types.b0 Ht2.out.types.b1 (by have := HI.out.k1; omega) (by have := HI.out.kt; have := Ht2.out.t1; omega) Ht2.out.types.m0 Ht2.out.types.m1 W))
          obtain ⟨p, hp⟩ : ∃ p, p = backS c2.base k c2.most := ⟨_, rfl⟩
          rw [← hp] at Hdue HI2 HB hbk
          have hw4 := IntWalk.u64_in (start + n + p) (by have := HST.out; have := Ht2.out.m1; have := Ht2.out.b1; omega)
          have hw5 := IntWalk.i64_in (k + 1) (by have := HI2.k1; have := HI2.kt; have := Ht2.out.t1; omega)
          have t1 : (start + (n : Int) != start + n) = false := by simp
          have t2 : (k == c2.tries) = false := by simp; omega
          have HI3 := Lib.hid HI2
          clear hp hadd HI2 hbk htk hk HI
          go_wp2_with fail
          refine (Hdue.out).mono ?_
          rintro e w6 ⟨A1, c1, A2, c2', rfl, hs6⟩
          have hs7 : Sep wA wA.heap.size w6 [iRes (.slice A1 1 c1) [9], iRes (.slice A2 0 c2') [], tbRes pt c2 pm ph, mapRes pm (idsA [(start + n + p, 9)]) (upd T 9 (k + 1)), hRes ph [(start + n + p, 9)] c2.room, blkRes wA.heap.size 24 (cfC c2).toArray] := hs6
          obtain ⟨a0, a1, a2, a3, a4⟩ := cfg_cells hs7 5 rfl
          have Hs7 := Lib.hid hs7
          clear hs6 hs7 Hs Hdue
          go_wp2_with fail
          have hs8 : Sep wA wA.heap.size _ (iRes (.slice (some ⟨w6.heap.size, 0, none⟩) 1 1) [9] :: _) := Hs7.out.built 3 1 #[.int .i64 9] rfl (by omega) (by unfold maxLen; omega)
          refine (ints_sep (L := [9]) (M := [9]) hs8 1 0 rfl rfl).mono ?_
          rintro e w7 ⟨rfl, hs9⟩
          clear hs8 a0 a1 a2 a3 a4
          obtain ⟨a0, a1, a2, a3, a4⟩ := cfg_cells hs9 6 rfl
          have Hs9 := Lib.hid hs9.forget.forget.forget
          clear hs9
          rw [eqI_self]
          go_wp2_with fail
          refine (HB.out _).mono ?_
          rintro e w8 ⟨rfl, rfl⟩
          go_wp2_with fail
          go_roundw
          case rel => exact ⟨n + 1, start + n + p, k + 1, upd T 9 (k + 1), by omega, by go_num, rfl, rfl, HI3.out, Hs9.out⟩
          case measure => simp [intOf]; omega
        · obtain rfl : k = c2.tries := by have := HI.out.kt; omega
          have htk := HI.out.tk
          rw [due_lost _ _ _ _ _ _ (by omega) (by omega)] at Hdue
          have t1 : (start + (n : Int) != start + n) = false := by simp
          have t2 : (c2.tries == c2.tries) = true := by simp
          clear htk hk HI
          go_wp2_with fail
          refine (Hdue.out).mono ?_
          rintro e w6 ⟨A1, c1, A2, c2', rfl, hs6⟩
          have hs7 : Sep wA wA.heap.size w6 [iRes (.slice A1 0 c1) [], iRes (.slice A2 1 c2') [9], tbRes pt c2 pm ph, mapRes pm (idsA []) T, hRes ph [] c2.room, blkRes wA.heap.size 24 (cfC c2).toArray] := hs6
          obtain ⟨a0, a1, a2, a3, a4⟩ := cfg_cells hs7 5 rfl
          have Hs7 := Lib.hid hs7
          clear hs6 hs7 Hs Hdue
          go_wp2_with fail
          have hs8 : Sep wA wA.heap.size _ (iRes (.slice (some ⟨w6.heap.size, 0, none⟩) 1 1) [9] :: _) := Hs7.out.built 3 1 #[.int .i64 9] rfl (by omega) (by unfold maxLen; omega)
          refine (ints_sep (L := [9]) (M := [9]) hs8 2 0 rfl rfl).mono ?_
          rintro e w7 ⟨rfl, hs9⟩
          clear hs8 a0 a1 a2 a3 a4
          have Hs9 := Lib.hid hs9.forget.forget.forget
          clear hs9
          rw [eqI_self]
          go_wp2_with fail
          refine (left_t (i := 0) Hs9.out (⟨rfl, rfl, rfl⟩ : TabAt _ 0 pt pm ph c2 [] T)).mono ?_
          rintro e w8 ⟨rfl, rfl⟩
          go_wp2_with fail
          refine (fixed_any _).mono ?_
          rintro e wC ⟨rfl, ht⟩
          have Ht := Lib.hid (Hs9.out.touch ht)
          clear ht
          go_wp2_with fail
          go_ret
          exact ⟨rfl, Touch.of_below Ht.out.below⟩
      · have h1 := HI.out.lo
        rw [due_early _ _ _ _ _ _ (by omega)] at Hdue
        have HI2 := Lib.hid (HI.out.next he)
        have t1 : (start + (n : Int) != next) = true := by simpa using he
        clear he h1
        go_wp2_with fail
        refine (Hdue.out).mono ?_
        rintro e w6 ⟨A1, c1, A2, c2', rfl, hs6⟩
        have hs7 : Sep wA wA.heap.size w6 [tbRes pt c2 pm ph, mapRes pm (idsA [(next, 9)]) T, hRes ph [(next, 9)] c2.room, blkRes wA.heap.size 24 (cfC c2).toArray] := hs6.forget.forget
        have Hs7 := Lib.hid hs7
        clear hs6 hs7 Hs Hdue
        go_wp2_with fail
        go_roundw
        case rel => exact ⟨n + 1, next, k, T, by omega, by go_num, rfl, rfl, HI2.out, Hs7.out⟩
        case measure => simp [intOf]; omega
    · obtain rfl : n = 400 := by omega
      clear hlt
      go_wp2_with fail
      refine (left_t (i := 0) Hs.out (⟨rfl, rfl, rfl⟩ : TabAt _ 0 pt pm ph c2 [(next, 9)] T)).mono ?_
      rintro e w8 ⟨rfl, rfl⟩
      go_wp2_with fail
      refine (fixed_any _).mono ?_
      rintro e wC ⟨rfl, ht⟩
      have Ht := Lib.hid (Hs.out.touch ht)
      clear ht
      go_wp2_with fail
      go_ret
      exact ⟨rfl, Touch.of_below Ht.out.below⟩
end Go.Proofs.Ytehbfoiadinhbaa
