/- RetrySpaces: the walk. -/
import Derived.Test.YtehbfoiadinhbaaRtOne
namespace Go.Proofs.Ytehbfoiadinhbaa
open Go Go.RowKit
/-- A slice of numbers that was handed in, in a world. -/
structure Nums (W : World) (A : Option Addr) (n : Nat) (kd : IntKind) (top : Int) (L : List Int) : Prop where
  rng : ∀ j, 0 ≤ L.getD j 0 ∧ L.getD j 0 < top
  at_ : ∀ k, k < n → ∃ g o, A = some ⟨g, o, none⟩ ∧ g < W.heap.size ∧ W.cell? ⟨g, o + k, none⟩ = some (.int kd (L.getD k 0))
/-- It is as it was, in all worlds that came of that one. -/
theorem Nums.now {W w : World} {A : Option Addr} {n : Nat} {kd : IntKind} {top : Int} {L : List Int} (h : Nums W A n kd top L) {rs : List Res} (hs : Sep W W.heap.size w rs) (k : Nat) (hk : k < n) : ∃ g o, A = some ⟨g, o, none⟩ ∧ w.cell? ⟨g, o + k, none⟩ = some (.int kd (L.getD k 0)) := by
  obtain ⟨g, o, rfl, hg, hc⟩ := h.at_ k hk
  exact ⟨g, o, rfl, by rw [hs.below.cell hg]; exact hc⟩
set_option maxRecDepth 100000 in
set_option maxHeartbeats 4000000 in
theorem spaces_walk (c : Cf) (hc : CfT c) (wA : World) (A : Option Addr) (n cp : Nat) (L : List Int) (A' : Option Addr) (n' cp' : Nat) (L' : List Int) (hL : Nums wA A n .u16 65536 L) (hL' : Nums wA A' n' .u64 18446744073709551616 L') :
    Calls Try.prog 3 #[cfV c, .slice A n cp, .slice A' n' cp'] wA fun e w' => e = .returned (.bool true) ∧ Touch [] wA w' := by
  have HL := Lib.hid hL
  have HL' := Lib.hid hL'
  clear hL hL'
  have HT := Lib.hid (fun W => tame_any c hc W)
  obtain ⟨V, hV⟩ : ∃ V, V = cfV c := ⟨_, rfl⟩
  have hV2 : V = .agg #[.int .u64 c.base, .int .u64 c.most, .int .u64 c.span, .int .i64 c.tries, .int .i64 c.room] := hV
  unfold cfV
  clear hc hV hV2
  go_enter Try.func3, Try.ntmps3
  go_wp2_with fail
  refine (HT.out _).mono ?_
  rintro e w1 ⟨c', rfl, ht', ht⟩
  have hs0 := ((Sep.start wA).add (w' := wA.alloc (.cells (cfC c).toArray 24)) (r := blkRes wA.heap.size 24 (cfC c).toArray) (F := [wA.heap.size]) ⟨rfl, Blk.new _ _ _⟩ ((Touch.refl _ _).alloc _) (by simp)).touch ht
  have hb := hs0.blkAt 0 rfl
  have hs1 := hs0.setCfg 0 rfl (cfC c').toArray
  have Hb := Lib.hid hb
  have Hs1 := Lib.hid hs1
  have Ht' := Lib.hid ht'
  clear hb hs0 hs1 ht ht' HT
  unfold cfV
  obtain ⟨a0, a1, a2, a3, a4⟩ := cfg_cells Hs1.out 0 rfl
  go_wp2_with (refine wpList_store_row rfl 24 (.tmp 3) (.tmp 18) rfl wA.heap.size (cfC c').toArray rfl rfl 24 _ Hb.out rfl rfl (cfC_one c') ?_)
  clear Hb
  generalize w1.setRow wA.heap.size (cfC c').toArray = w2 at *
  refine (newR_yes Hs1.out c' Ht'.out.ok).mono ?_
  rintro e w3 ⟨pt, pm, ph, rfl, hs2⟩
  clear a0 a1 a2 a3 a4 Hs1
  have Hs2 := Lib.hid hs2
  clear hs2
  have hroom := Ht'.out.room
  have HK := Lib.hid (fun (rs : List Res) (W : World) (h : Sep wA wA.heap.size W rs) (ht : TabAt rs 0 pt pm ph c' [] T0) => ask_sep h ht Ht'.out.types (by omega) 1 0 0 (by omega) (by omega) (by omega))
  rw [show setCode [] c'.room 1 = 0 from by rw [hroom]; decide] at HK
  clear hroom
  go_wp2_with fail
  refine (HK.out _ _ Hs2.out ⟨rfl, rfl, rfl⟩).mono ?_
  rintro e w4 ⟨rfl, hs4⟩
  have hs5 : Sep wA wA.heap.size w4 [tbRes pt c' pm ph, mapRes pm (idsA [(addS 0 (waitV c' 0 0), 1)]) (upd T0 1 1), hRes ph [(addS 0 (waitV c' 0 0), 1)] c'.room, blkRes wA.heap.size 24 (cfC c').toArray] := by
    have hr := Ht'.out.room
    have hz : setCode [] c'.room 1 = 0 := by rw [hr]; decide
    rw [show askS [] c' 1 0 0 = [(addS 0 (waitV c' 0 0), 1)] from setS_yes hz, show askT [] T0 c'.room 1 = upd T0 1 1 from if_pos hz] at hs4
    exact hs4
  have Hs5 := Lib.hid hs5
  have HI := Lib.hid (spI_start Ht'.out)
  clear hs4 hs5 HK Hs2
  go_wp2_with fail
  go_loopw [9, 10, 11, 12, 13] (fun v9 v10 v11 v12 v13 wr => ∃ (i : Nat) (now last k : Int) (gone : Bool) (S : List Al) (T : Int → Int), i ≤ n ∧ i ≤ 60 ∧ v13 = .int .i64 i ∧ v9 = .int .u64 now ∧ v10 = .int .u64 last ∧ v11 = .int .i64 k ∧ v12 = .bool gone ∧ 0 ≤ now ∧ now ≤ 300 * (i : Int) ∧ SpI c' now last k gone S T ∧
    Sep wA wA.heap.size wr [tbRes pt c' pm ph, mapRes pm (idsA S) T, hRes ph S c'.room, blkRes wA.heap.size 24 (cfC c').toArray]) (fun _ _ _ _ v13 _ => 60 - (intOf v13).toNat)
  case atStart => exact ⟨0, 0, 0, 0, false, _, _, by omega, by omega, rfl, rfl, rfl, rfl, rfl, by omega, by omega, HI.out, Hs5.out⟩
  case round =>
    obtain ⟨i, now, last, k, gone, S, T, hin, hi60, rfl, rfl, rfl, rfl, rfl, hn0, hn1, hI, hs⟩ := hrel
    clear Hs5 HI
    have HI := Lib.hid hI
    have Hs := Lib.hid hs
    clear hI
    by_cases hlt : i < n ∧ i < 60
    · obtain ⟨hl1, hl2⟩ := hlt
      obtain ⟨g, o, rfl, hcell⟩ := HL.out.now hs i hl1
      have hx := HL.out.rng i
      obtain ⟨x, hxe⟩ : ∃ x, x = L.getD i 0 := ⟨_, rfl⟩
      rw [← hxe] at hcell hx
      obtain ⟨y, hy⟩ : ∃ y, x.tmod 300 = y := ⟨_, rfl⟩
      have hy0 : 0 ≤ y ∧ y < 300 := by
        rw [← hy, Int.tmod_eq_emod_of_nonneg hx.1]
        omega
      have hw1 := IntWalk.u64_in y (by omega)
      have hw2 := IntWalk.u64_in (now + y) (by omega)
      have Hx := Lib.hid hxe
      have Hy := Lib.hid hy0
      have Hn := Lib.hid (And.intro hn0 hn1)
      clear hxe hx hs hy0 hn0 hn1 hi60
      go_upto_if 56 with fail
      go_cut [14] (fun v14 wx => ∃ d, v14 = .int .u64 d ∧ 0 ≤ d ∧ d < 18446744073709551616 ∧ wx = wr)
      case first =>
        by_cases hd : i < n'
        · obtain ⟨g', o', rfl, hcell'⟩ := HL'.out.now Hs.out i hd
          have hx' := HL'.out.rng i
          obtain ⟨d, hde⟩ : ∃ d, d = L'.getD i 0 := ⟨_, rfl⟩
          rw [← hde] at hcell' hx'
          have Hx' := Lib.hid hx'
          clear hde hx'
          go_wp2_with fail
          go_meet
          exact ⟨d, rfl, Hx'.out.1, Hx'.out.2, rfl⟩
        · go_wp2_with fail
          go_meet
          exact ⟨0, rfl, by omega, by omega, rfl⟩
      case rest =>
        obtain ⟨d, rfl, hd0, hd1, rfl⟩ := hcut
        have Hd := Lib.hid (And.intro hd0 hd1)
        clear hd0 hd1
        have HI2 := Lib.hid (HI.out.later (now' := now + y) (by have := Hy.out; omega))
        clear HI
        have HN := Lib.hid (show 0 ≤ now + y ∧ now + y < 18446744073709551616 by have := Hn.out; have := Hy.out; omega)
        have Hdue := Lib.hid (fun (hids : ∀ a, a ∈ idsA S → -9223372036854775808 ≤ a ∧ a ≤ 9223372036854775807) => due_sep (i := 0) Hs.out (⟨rfl, rfl, rfl⟩ : TabAt _ 0 pt pm ph c' S T) Ht'.out.types (by have := Ht'.out.room; omega) (by have := Ht'.out.t1; omega) (now + y) d hids HI2.out.t HN.out Hd.out)
        cases gone with
        | true =>
          obtain ⟨hS, hk⟩ := HI2.out.off rfl
          subst hS
          rw [due_none] at Hdue
          have t1 : decide (c'.tries ≤ k) = false := decide_eq_false (by omega)
          have t2 : (k != c'.tries - 1) = false := by rw [hk]; simp
          have t3 := IntWalk.wrap64_in (c'.tries - 1) (by have := Ht'.out.t0; have := Ht'.out.t1; omega)
          have Hk := Lib.hid hk
          clear hk
          go_wp2_with fail
          refine (Hdue.out (fun a h => by simp [idsA] at h)).mono ?_
          rintro e w5 ⟨A1, c1, A2, c2, rfl, hs6⟩
          have hs7 : Sep wA wA.heap.size w5 [tbRes pt c' pm ph, mapRes pm (idsA []) T, hRes ph [] c'.room, blkRes wA.heap.size 24 (cfC c').toArray] := hs6.forget.forget
          obtain ⟨a0, a1, a2, a3, a4⟩ := cfg_cells hs7 3 rfl
          have Hs7 := Lib.hid hs7
          clear hs6 hs7 Hs Hdue
          go_wp2_with fail
          refine (left_t (i := 0) Hs7.out (⟨rfl, rfl, rfl⟩ : TabAt _ 0 pt pm ph c' [] T)).mono ?_
          rintro e w6 ⟨rfl, rfl⟩
          go_wp2_with fail
          go_roundw
          case rel => exact ⟨i + 1, now + y, last, k, true, [], T, by omega, by omega, by go_num, rfl, rfl, rfl, rfl, HN.out.1, by have := Hn.out; have := Hy.out; push_cast; omega, HI2.out, Hs7.out⟩
          case measure => simp [intOf]; omega
        | false =>
          obtain ⟨due, hS, hT1, hl, hk⟩ := HI2.out.on rfl
          subst hS
          have t1 : decide (c'.tries ≤ k) = false := decide_eq_false (by omega)
          have Hon := Lib.hid (And.intro hT1 (And.intro hl hk))
          clear hT1 hl hk
          by_cases he : now + y < due
          · rw [due_early _ _ _ _ _ _ he] at Hdue
            clear he
            go_wp2_with fail
            refine (Hdue.out (fun a h => by simp [idsA] at h; omega)).mono ?_
            rintro e w5 ⟨A1, c1, A2, c2, rfl, hs6⟩
            have hs7 : Sep wA wA.heap.size w5 [tbRes pt c' pm ph, mapRes pm (idsA [(due, 1)]) T, hRes ph [(due, 1)] c'.room, blkRes wA.heap.size 24 (cfC c').toArray] := hs6.forget.forget
            obtain ⟨a0, a1, a2, a3, a4⟩ := cfg_cells hs7 3 rfl
            have Hs7 := Lib.hid hs7
            clear hs6 hs7 Hs Hdue
            go_wp2_with fail
            go_roundw
            case rel => exact ⟨i + 1, now + y, last, k, false, [(due, 1)], T, by omega, by omega, by go_num, rfl, rfl, rfl, rfl, HN.out.1, by have := Hn.out; have := Hy.out; push_cast; omega, HI2.out, Hs7.out⟩
            case measure => simp [intOf]; omega
          · have he' : due ≤ now + y := by omega
            clear he
            by_cases ht : T 1 < c'.tries
            · have HI3 := Lib.hid (HI2.out.again Ht'.out rfl he' ht (by have := Hn.out; have := Hy.out; omega) d)
              rw [due_again _ _ _ _ _ _ he' ht] at Hdue
              clear he' ht
              obtain ⟨S', hS'⟩ : ∃ S', S' = [(addS (now + y) (waitV c' (T 1) d), (1 : Int))] := ⟨_, rfl⟩
              obtain ⟨T', hT'⟩ : ∃ T', T' = upd T 1 (T 1 + 1) := ⟨_, rfl⟩
              rw [← hS', ← hT'] at HI3 Hdue
              clear hS' hT'
              obtain ⟨p, hp⟩ : ∃ p, p = backS c'.base k c'.most := ⟨_, rfl⟩
              have HB := Lib.hid (fun W => same_sym (satBack_any c'.base k c'.most Ht'.out.types.b0 Ht'.out.types.b1 (by have := Hon.out; have := HI2.out.k0; omega) (by have := Hon.out; have := Ht'.out.t1; omega) Ht'.out.types.m0 Ht'.out.types.m1 W))
              have t4 : decide (now + y - last < if p < c'.most then p else c'.most) = false := by
                have := HI3.out.1
                rw [← hp] at this
                rw [show (if p < c'.most then p else c'.most) = min c'.most p by split <;> omega]
                exact this
              rw [← hp] at HB
              clear hp
              have t5 := IntWalk.u64_in (now + y - last) (by have := HI2.out.l0; have := HI2.out.ln; have := HN.out; omega)
              have t6 := IntWalk.i64_in (k + 1) (by have := Hon.out; have := HI2.out.k0; have := Ht'.out.t1; omega)
              have t7 : decide (c'.tries ≤ k + 1) = false := decide_eq_false (by have := HI3.out.2.few; omega)
              go_wp2_with fail
              refine (Hdue.out (fun a h => by simp [idsA] at h; omega)).mono ?_
              rintro e w5 ⟨A1, c1, A2, c2, rfl, hs6⟩
              have hs7 : Sep wA wA.heap.size w5 [tbRes pt c' pm ph, mapRes pm (idsA S') T', hRes ph S' c'.room, blkRes wA.heap.size 24 (cfC c').toArray] := hs6.forget.forget
              obtain ⟨a0, a1, a2, a3, a4⟩ := cfg_cells hs7 3 rfl
              have Hs7 := Lib.hid hs7
              clear hs6 hs7 Hs Hdue
              go_wp2_with fail
              go_quiet ((go_at_call 12; exact Calls.quiet_of_same (HB.out _)))
              go_wp2_with fail
              go_roundw
              case rel => exact ⟨i + 1, now + y, now + y, k + 1, false, S', T', by omega, by omega, by go_num, rfl, rfl, rfl, rfl, HN.out.1, by have := Hn.out; have := Hy.out; push_cast; omega, HI3.out.2, Hs7.out.drewN _⟩
              case measure => simp [intOf]; omega
            · have ht' : c'.tries ≤ T 1 := by omega
              rw [due_lost _ _ _ _ _ _ he' ht'] at Hdue
              have HI3 := Lib.hid (HI2.out.lost ht')
              have hk := (HI3.out.off rfl).2
              have t2 : (k != c'.tries - 1) = false := by rw [hk]; simp
              have t3 := IntWalk.wrap64_in (c'.tries - 1) (by have := Ht'.out.t0; have := Ht'.out.t1; omega)
              clear hk ht ht' he'
              go_wp2_with fail
              refine (Hdue.out (fun a h => by simp [idsA] at h; omega)).mono ?_
              rintro e w5 ⟨A1, c1, A2, c2, rfl, hs6⟩
              have hs7 : Sep wA wA.heap.size w5 [tbRes pt c' pm ph, mapRes pm (idsA []) T, hRes ph [] c'.room, blkRes wA.heap.size 24 (cfC c').toArray] := hs6.forget.forget
              obtain ⟨a0, a1, a2, a3, a4⟩ := cfg_cells hs7 3 rfl
              have Hs7 := Lib.hid hs7
              clear hs6 hs7 Hs Hdue
              go_wp2_with fail
              refine (left_t (i := 0) Hs7.out (⟨rfl, rfl, rfl⟩ : TabAt _ 0 pt pm ph c' [] T)).mono ?_
              rintro e w6 ⟨rfl, rfl⟩
              go_wp2_with fail
              go_roundw
              case rel => exact ⟨i + 1, now + y, last, k, true, [], T, by omega, by omega, by go_num, rfl, rfl, rfl, rfl, HN.out.1, by have := Hn.out; have := Hy.out; push_cast; omega, HI3.out, Hs7.out⟩
              case measure => simp [intOf]; omega
    · clear hs
      by_cases h1 : i < n
      · have h2 : ¬ i < 60 := fun h => hlt ⟨h1, h⟩
        clear hlt
        go_wp2_with fail
        refine (fixed_any _).mono ?_
        rintro e wC ⟨rfl, ht⟩
        have Ht := Lib.hid (Hs.out.touch ht)
        clear ht
        go_wp2_with fail
        go_ret
        exact ⟨rfl, Touch.of_below Ht.out.below⟩
      · clear hlt
        go_wp2_with fail
        refine (fixed_any _).mono ?_
        rintro e wC ⟨rfl, ht⟩
        have Ht := Lib.hid (Hs.out.touch ht)
        clear ht
        go_wp2_with fail
        go_ret
        exact ⟨rfl, Touch.of_below Ht.out.below⟩
end Go.Proofs.Ytehbfoiadinhbaa
