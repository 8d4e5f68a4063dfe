/- RetryDone: the walk. -/
import Derived.Test.YtehbfoiadinhbaaRtTwo
import Derived.Test.YtehbfoiadinhbaaRtSpacesWalk
namespace Go.Proofs.Ytehbfoiadinhbaa
open Go Go.RowKit
set_option maxRecDepth 100000 in
set_option maxHeartbeats 4000000 in
theorem retryDone_walk (c : Cf) (hc : CfT c) (i0 i1 i2 out : Int) (h0 : 0 ≤ i0 ∧ i0 ≤ 255) (h1 : 0 ≤ i1 ∧ i1 ≤ 255) (h2 : 0 ≤ i2 ∧ i2 ≤ 255) (h3 : 0 ≤ out ∧ out ≤ 255) (wA : World) (A : Option Addr) (n cp : Nat) (L : List Int) (hL : Nums wA A n .u16 65536 L) :
    Calls Try.prog 5 #[cfV c, .agg #[.int .u8 i0, .int .u8 i1, .int .u8 i2, .int .u8 out], .slice A n cp] wA fun e w' => e = .returned (.bool true) ∧ Touch [] wA w' := by
  have HL := Lib.hid hL
  have HI := Lib.hid (show ∀ j : Nat, j < 4 → 0 ≤ [i0, i1, i2, out].getD j 0 ∧ [i0, i1, i2, out].getD j 0 ≤ 255 from fun j hj => by
    match j, hj with
    | 0, _ => exact h0
    | 1, _ => exact h1
    | 2, _ => exact h2
    | 3, _ => exact h3)
  clear hL h0 h1 h2 h3
  have HT := Lib.hid (fun W => tame_any c hc W)
  obtain ⟨V, hV⟩ : ∃ V, V = cfV c := ⟨_, rfl⟩
  have hV2 : V = .agg #[.int .u64 c.base, .int .u64 c.most, .int .u64 c.span, .int .i64 c.tries, .int .i64 c.room] := hV
  unfold cfV
  clear hc hV hV2
  go_enter Try.func5, Try.ntmps5
  go_wp2_with fail
  refine (HT.out _).mono ?_
  rintro e w1 ⟨c', rfl, ht', ht⟩
  have hs0 := ((Sep.start wA).add (w' := wA.alloc (.cells (cfC c).toArray 24)) (r := blkRes wA.heap.size 24 (cfC c).toArray) (F := [wA.heap.size]) ⟨rfl, Blk.new _ _ _⟩ ((Touch.refl _ _).alloc _) (by simp))
  obtain ⟨gI, hgI⟩ : ∃ gI, gI = (wA.alloc (.cells (cfC c).toArray 24)).heap.size := ⟨_, rfl⟩
  have hs1 := (hs0.add (w' := (wA.alloc (.cells (cfC c).toArray 24)).alloc (.cells #[.int .u8 i0, .int .u8 i1, .int .u8 i2, .int .u8 out] 45)) (r := blkRes gI 45 #[.int .u8 i0, .int .u8 i1, .int .u8 i2, .int .u8 out]) (F := [gI]) ⟨rfl, by rw [hgI]; exact Blk.new _ _ _⟩ ((Touch.refl _ _).alloc _) (by rw [hgI]; simp)).touch ht
  have hgI2 : gI = wA.heap.size + 1 := by rw [hgI]; simp
  have hb := hs1.blkAt 1 rfl
  have hs2 := hs1.setCfg 1 rfl (cfC c').toArray
  have Hb := Lib.hid hb
  have Hs2 := Lib.hid hs2
  have Ht' := Lib.hid ht'
  have HgI := Lib.hid hgI2
  clear hb hs0 hs1 hs2 ht ht' HT hgI hgI2
  unfold cfV
  obtain ⟨a0, a1, a2, a3, a4⟩ := cfg_cells Hs2.out 1 rfl
  go_wp2_with (refine wpList_store_row rfl 24 (.tmp 3) (.tmp 22) rfl wA.heap.size (cfC c').toArray rfl rfl 24 _ Hb.out rfl rfl (cfC_one c') ?_)
  clear Hb
  generalize w1.setRow wA.heap.size (cfC c').toArray = w2 at *
  refine (newR_yes Hs2.out c' Ht'.out.ok).mono ?_
  rintro e w3 ⟨pt, pm, ph, rfl, hs3⟩
  clear a0 a1 a2 a3 a4 Hs2
  have Hs3 := Lib.hid hs3
  clear hs3
  obtain ⟨a0, a1, a2, a3, a4⟩ := cfg_cells Hs3.out 4 rfl
  go_wp2_with fail
  refine (newR_yes Hs3.out c' Ht'.out.ok).mono ?_
  rintro e w4 ⟨qt, qm, qh, rfl, hs4⟩
  clear a0 a1 a2 a3 a4 Hs3
  have Hs4 := Lib.hid hs4
  clear hs4
  have o3 : w4.cell? ⟨gI, 3, none⟩ = some (.int .u8 out) := (Hs4.out.blkAt 6 rfl).cell 3
  rw [HgI.out] at o3
  have w5 := IntWalk.i64_in out (by have := HI.out 3 (by omega); simp at this; omega)
  go_wp2_with fail
  have HO := Lib.hid (show 0 ≤ out ∧ out ≤ 255 from HI.out 3 (by omega))
  obtain ⟨I, hI⟩ : ∃ I, I = #[Value.int .u8 i0, .int .u8 i1, .int .u8 i2, .int .u8 out] := ⟨_, rfl⟩
  have HX := Lib.hid (show ∀ j : Nat, j < 3 → ∃ x : Int, 0 ≤ x ∧ x ≤ 255 ∧ I[j]? = some (.int .u8 x) from fun j hj => by
    rw [hI]
    have hr := HI.out
    match j, hj with
    | 0, _ => exact ⟨i0, (hr 0 (by omega)).1, (hr 0 (by omega)).2, rfl⟩
    | 1, _ => exact ⟨i1, (hr 1 (by omega)).1, (hr 1 (by omega)).2, rfl⟩
    | 2, _ => exact ⟨i2, (hr 2 (by omega)).1, (hr 2 (by omega)).2, rfl⟩)
  have hs5 : Sep wA wA.heap.size w4 [tbRes qt c' qm qh, mapRes qm (idsA []) T0, hRes qh [] c'.room, tbRes pt c' pm ph, mapRes pm (idsA []) T0, hRes ph [] c'.room, blkRes (wA.heap.size + 1) 45 I, blkRes wA.heap.size 24 (cfC c').toArray] := by
    have h := Hs4.out
    rw [HgI.out] at h
    rw [hI]
    exact h
  have Hs5 := Lib.hid hs5
  clear hI HI Hs4 hs5 o3 HgI
  go_loopw [12] (fun v12 wr => ∃ (j : Nat) (Sa Sb : List Al) (Ta Tb : Int → Int), j ≤ 3 ∧ v12 = .int .i64 j ∧ TwI out j Sa Sb Ta Tb ∧
    Sep wA wA.heap.size wr [tbRes qt c' qm qh, mapRes qm (idsA Sb) Tb, hRes qh Sb c'.room, tbRes pt c' pm ph, mapRes pm (idsA Sa) Ta, hRes ph Sa c'.room, blkRes (wA.heap.size + 1) 45 I, blkRes wA.heap.size 24 (cfC c').toArray]) (fun v12 _ => 3 - (intOf v12).toNat)
  case atStart => exact ⟨0, [], [], _, _, by omega, rfl, TwI.start out, Hs5.out⟩
  case round =>
    obtain ⟨j, Sa, Sb, Ta, Tb, hj3, rfl, hI, hs⟩ := hrel
    clear Hs5
    have HI := Lib.hid hI
    have Hs := Lib.hid hs
    clear hI hs
    by_cases hlt : j < 3
    · obtain ⟨x, hx0, hx1, hxe⟩ := HX.out j hlt
      have hcell : wr.cell? ⟨wA.heap.size + 1, j, none⟩ = some (.int .u8 x) := ((Hs.out.blkAt 6 rfl).cell j).trans hxe
      have hw1 := IntWalk.i64_in x (by omega)
      have hw2 := IntWalk.u64_in (j : Int) (by omega)
      have Hx := Lib.hid (And.intro hx0 hx1)
      have HA := Lib.hid (ask_sep (i := 3) Hs.out (⟨rfl, rfl, rfl⟩ : TabAt _ 3 pt pm ph c' Sa Ta) Ht'.out.types (by have := Ht'.out.room; omega) x j 0 (by omega) (by omega) (by omega))
      clear hxe hx0 hx1
      by_cases hxo : x = out
      · have t1 : (x != out) = false := by rw [hxo]; simp
        have HI2 : Hid (TwI out (j + 1) (askS Sa c' x j 0) Sb (askT Sa Ta c'.room x) Tb) := Lib.hid (by rw [hxo]; exact HI.out.one HO.out _ _)
        obtain ⟨cd, hcd⟩ : ∃ cd, cd = setCode Sa c'.room x := ⟨_, rfl⟩
        obtain ⟨Sa', hSa⟩ : ∃ Sa', Sa' = askS Sa c' x j 0 := ⟨_, rfl⟩
        obtain ⟨Ta', hTa⟩ : ∃ Ta', Ta' = askT Sa Ta c'.room x := ⟨_, rfl⟩
        rw [← hcd, ← hSa, ← hTa] at HA
        rw [← hSa, ← hTa] at HI2
        clear hcd hSa hTa hxo
        go_wp2_with fail
        refine (HA.out).mono ?_
        rintro e w6 ⟨rfl, hs6⟩
        have Hs6 := Lib.hid (show Sep wA wA.heap.size w6 [tbRes qt c' qm qh, mapRes qm (idsA Sb) Tb, hRes qh Sb c'.room, tbRes pt c' pm ph, mapRes pm (idsA Sa') Ta', hRes ph Sa' c'.room, blkRes (wA.heap.size + 1) 45 I, blkRes wA.heap.size 24 (cfC c').toArray] from hs6)
        clear hs6 HA Hs HI hcell
        go_wp2_with fail
        go_roundw
        case rel => exact ⟨j + 1, Sa', Sb, Ta', Tb, by omega, by go_num, HI2.out, Hs6.out⟩
        case measure => simp [intOf]; omega
      · have t1 : (x != out) = true := by simpa using hxo
        have hok := (Hs.out.ids (⟨rfl, rfl, rfl⟩ : TabAt _ 3 pt pm ph c' Sa Ta)).1
        have hrm : (j : Int) < c'.room := by have := Ht'.out.room; omega
        have hcb := HI.out.code hrm hxo
        have HI2 := Lib.hid (HI.out.both hok hrm hxo Hx.out (j : Int) 0)
        have HB := Lib.hid (fun (w6 : World) (Sa' : List Al) (Ta' : Int → Int) (h : Sep wA wA.heap.size w6 [tbRes qt c' qm qh, mapRes qm (idsA Sb) Tb, hRes qh Sb c'.room, tbRes pt c' pm ph, mapRes pm (idsA Sa') Ta', hRes ph Sa' c'.room, blkRes (wA.heap.size + 1) 45 I, blkRes wA.heap.size 24 (cfC c').toArray]) => ask_sep (i := 0) h (⟨rfl, rfl, rfl⟩ : TabAt _ 0 qt qm qh c' Sb Tb) Ht'.out.types (by have := Ht'.out.room; omega) x j 0 (by have := Hx.out; omega) (by omega) (by omega))
        obtain ⟨cd, hcd⟩ : ∃ cd, cd = setCode Sa c'.room x := ⟨_, rfl⟩
        rw [hcb] at HB
        obtain ⟨Sa', hSa⟩ : ∃ Sa', Sa' = askS Sa c' x j 0 := ⟨_, rfl⟩
        obtain ⟨Ta', hTa⟩ : ∃ Ta', Ta' = askT Sa Ta c'.room x := ⟨_, rfl⟩
        obtain ⟨Sb', hSb⟩ : ∃ Sb', Sb' = askS Sb c' x j 0 := ⟨_, rfl⟩
        obtain ⟨Tb', hTb⟩ : ∃ Tb', Tb' = askT Sb Tb c'.room x := ⟨_, rfl⟩
        rw [← hcd, ← hSa, ← hTa] at HA
        rw [← hcd, ← hSb, ← hTb] at HB
        rw [← hSa, ← hTa, ← hSb, ← hTb] at HI2
        have t2 : (cd != cd) = false := by simp
        clear hcd hSa hTa hSb hTb hxo hok hcb hrm
        go_wp2_with fail
        refine (HA.out).mono ?_
        rintro e w6 ⟨rfl, hs6⟩
        have Hs6 := Lib.hid (show Sep wA wA.heap.size w6 [tbRes qt c' qm qh, mapRes qm (idsA Sb) Tb, hRes qh Sb c'.room, tbRes pt c' pm ph, mapRes pm (idsA Sa') Ta', hRes ph Sa' c'.room, blkRes (wA.heap.size + 1) 45 I, blkRes wA.heap.size 24 (cfC c').toArray] from hs6)
        clear hs6 HA Hs HI hcell
        go_wp2_with fail
        refine (HB.out w6 Sa' Ta' Hs6.out).mono ?_
        rintro e w7 ⟨rfl, hs7⟩
        have Hs7 := Lib.hid (show Sep wA wA.heap.size w7 [tbRes qt c' qm qh, mapRes qm (idsA Sb') Tb', hRes qh Sb' c'.room, tbRes pt c' pm ph, mapRes pm (idsA Sa') Ta', hRes ph Sa' c'.room, blkRes (wA.heap.size + 1) 45 I, blkRes wA.heap.size 24 (cfC c').toArray] from hs7)
        clear hs7 HB Hs6
        go_wp2_with fail
        go_roundw
        case rel => exact ⟨j + 1, Sa', Sb', Ta', Tb', by omega, by go_num, HI2.out, Hs7.out⟩
        case measure => simp [intOf]; omega
    · obtain rfl : j = 3 := by omega
      clear hlt hj3 HX
      have HD := Lib.hid (done_sep (i := 3) Hs.out (⟨rfl, rfl, rfl⟩ : TabAt _ 3 pt pm ph c' Sa Ta) out (by have := HO.out; omega))
      rw [HI.out.drop] at HD
      go_wp2_with fail
      refine (HD.out).mono ?_
      rintro e w6 ⟨rfl, hs6⟩
      have hs7 : Sep wA wA.heap.size w6 [tbRes qt c' qm qh, mapRes qm (idsA Sb) Tb, hRes qh Sb c'.room, tbRes pt c' pm ph, mapRes pm (idsA Sb) Ta, hRes ph Sb c'.room, blkRes (wA.heap.size + 1) 45 I, blkRes wA.heap.size 24 (cfC c').toArray] := hs6
      have hs8 := hs7.sameMap 1 rfl (U := Ta) (fun a ha => (HI.out.t a ha).symm)
      have HR := Lib.hid HI.out.ra
      have HW := Lib.hid (show ∀ a, a ∈ idsA Sb → 0 ≤ a ∧ a ≤ 255 from fun a ha => HI.out.ia a (by
        rw [← HI.out.drop] at ha
        obtain ⟨b, hb, he⟩ := List.mem_map.1 ha
        exact List.mem_map.2 ⟨b, (List.mem_filter.1 hb).1, he⟩))
      have Hs8 := Lib.hid (show Sep wA wA.heap.size w6 [tbRes qt c' qm qh, mapRes qm (idsA Sb) Ta, hRes qh Sb c'.room, tbRes pt c' pm ph, mapRes pm (idsA Sb) Ta, hRes ph Sb c'.room, blkRes (wA.heap.size + 1) 45 I, blkRes wA.heap.size 24 (cfC c').toArray] from hs8)
      clear hs6 hs7 hs8 HD HI Hs
      go_wp2_with fail
      go_loopw [15, 16] (fun v15 v16 wr => ∃ (k : Nat) (now : Int) (S : List Al) (T : Int → Int), k ≤ n ∧ k ≤ 20 ∧ v16 = .int .i64 k ∧ v15 = .int .u64 now ∧ 0 ≤ now ∧ now ≤ 100 * (k : Int) ∧ (∀ a, 0 ≤ T a ∧ T a ≤ 1000) ∧ (∀ a, a ∈ idsA S → 0 ≤ a ∧ a ≤ 255) ∧
        Sep wA wA.heap.size wr [tbRes qt c' qm qh, mapRes qm (idsA S) T, hRes qh S c'.room, tbRes pt c' pm ph, mapRes pm (idsA S) T, hRes ph S c'.room, blkRes (wA.heap.size + 1) 45 I, blkRes wA.heap.size 24 (cfC c').toArray]) (fun _ v16 _ => 20 - (intOf v16).toNat)
      case atStart => exact ⟨0, 0, Sb, Ta, by omega, by omega, rfl, rfl, by omega, by omega, HR.out, HW.out, Hs8.out⟩
      case round =>
        obtain ⟨k, now, S, T, hkn, hk20, rfl, rfl, hn0, hn1, hR, hW, hs⟩ := hrel
        clear Hs8 HR HW
        have HR := Lib.hid hR
        have HW := Lib.hid hW
        have Hs := Lib.hid hs
        clear hR hW
        by_cases hlt : k < n ∧ k < 20
        · obtain ⟨hl1, hl2⟩ := hlt
          obtain ⟨g, o, rfl, hcell⟩ := HL.out.now hs k hl1
          have hx := HL.out.rng k
          obtain ⟨x, hxe⟩ : ∃ x, x = L.getD k 0 := ⟨_, rfl⟩
          rw [← hxe] at hcell hx
          obtain ⟨y, hy⟩ : ∃ y, x.tmod 100 = y := ⟨_, rfl⟩
          have hy0 : 0 ≤ y ∧ y < 100 := by
            rw [← hy, Int.tmod_eq_emod_of_nonneg hx.1]
            omega
          have hw1 := IntWalk.u64_in y (by omega)
          have hw2 := IntWalk.u64_in (now + y) (by omega)
          have Hn := Lib.hid (show 0 ≤ now + y ∧ now + y ≤ 100 * ((k + 1 : Nat) : Int) by push_cast; omega)
          have ht9 : c'.tries ≤ 999 := by have := Ht'.out.t1; omega
          have HR2 := Lib.hid (due_rng ht9 (now + y) 3 S HR.out)
          have HW2 := Lib.hid (show ∀ a, a ∈ idsA (dueAll c' (now + y) 3 S T).S → 0 ≤ a ∧ a ≤ 255 from fun a ha => HW.out a (due_ids ht9 (now + y) 3 S HR.out a ha))
          have HA := Lib.hid (due_sep (i := 3) Hs.out (⟨rfl, rfl, rfl⟩ : TabAt _ 3 pt pm ph c' S T) Ht'.out.types (by have := Ht'.out.room; omega) (by have := Ht'.out.t1; omega) (now + y) 3 (fun a ha => by have := HW.out a ha; omega) HR.out (by have := Hn.out; omega) (by omega))
          have HB := Lib.hid (fun (w6 : World) (A1 A2 : Option Addr) (n1 n2 c1 c2 : Nat) (l1 l2 : List Int) (S' : List Al) (T' : Int → Int) (h : Sep wA wA.heap.size w6 [iRes (.slice A1 n1 c1) l1, iRes (.slice A2 n2 c2) l2, tbRes qt c' qm qh, mapRes qm (idsA S) T, hRes qh S c'.room, tbRes pt c' pm ph, mapRes pm (idsA S') T', hRes ph S' c'.room, blkRes (wA.heap.size + 1) 45 I, blkRes wA.heap.size 24 (cfC c').toArray]) => due_sep (i := 2) h (⟨rfl, rfl, rfl⟩ : TabAt _ 2 qt qm qh c' S T) Ht'.out.types (by have := Ht'.out.room; omega) (by have := Ht'.out.t1; omega) (now + y) 3 (fun a ha => by have := HW.out a ha; omega) HR.out (by have := Hn.out; omega) (by omega))
          obtain ⟨⟨S', T', ag, lo⟩, hd⟩ : ∃ d, d = dueAll c' (now + y) 3 S T := ⟨_, rfl⟩
          rw [← hd] at HR2 HW2 HA HB
          clear hd ht9 hxe hx hs hy0 hn0 hn1
          go_wp2_with fail
          refine (HA.out).mono ?_
          rintro e w7 ⟨A1, c1, A2, c2, rfl, hs7⟩
          have Hs7 := Lib.hid (show Sep wA wA.heap.size w7 [iRes (.slice A1 ag.length c1) ag, iRes (.slice A2 lo.length c2) lo, tbRes qt c' qm qh, mapRes qm (idsA S) T, hRes qh S c'.room, tbRes pt c' pm ph, mapRes pm (idsA S') T', hRes ph S' c'.room, blkRes (wA.heap.size + 1) 45 I, blkRes wA.heap.size 24 (cfC c').toArray] from hs7)
          clear hs7 HA Hs hcell
          go_wp2_with fail
          refine (HB.out _ _ _ _ _ _ _ _ _ _ _ Hs7.out).mono ?_
          rintro e w8 ⟨B1, d1, B2, d2, rfl, hs8⟩
          have Hs8 := Lib.hid (show Sep wA wA.heap.size w8 [iRes (.slice B1 ag.length d1) ag, iRes (.slice B2 lo.length d2) lo, iRes (.slice A1 ag.length c1) ag, iRes (.slice A2 lo.length c2) lo, tbRes qt c' qm qh, mapRes qm (idsA S') T', hRes qh S' c'.room, tbRes pt c' pm ph, mapRes pm (idsA S') T', hRes ph S' c'.room, blkRes (wA.heap.size + 1) 45 I, blkRes wA.heap.size 24 (cfC c').toArray] from hs8)
          clear hs8 HB Hs7
          go_wp2_with fail
          refine (ints_sep (L := ag) (M := ag) Hs8.out 2 0 rfl rfl).mono ?_
          rintro e w9 ⟨rfl, hs9⟩
          have Hs9 := Lib.hid hs9
          clear hs9 Hs8
          rw [eqI_self]
          go_wp2_with fail
          refine (ints_sep (L := lo) (M := lo) Hs9.out 3 1 rfl rfl).mono ?_
          rintro e w10 ⟨rfl, hs10⟩
          have Hs10 := Lib.hid hs10.forget.forget.forget.forget
          clear hs10 Hs9
          rw [eqI_self]
          have t2 : ((S'.length : Int) != (S'.length : Int)) = false := by simp
          go_wp2_with fail
          refine (left_t (i := 3) Hs10.out (⟨rfl, rfl, rfl⟩ : TabAt _ 3 pt pm ph c' S' T')).mono ?_
          rintro e w11 ⟨rfl, rfl⟩
          go_wp2_with fail
          refine (left_t (i := 0) Hs10.out (⟨rfl, rfl, rfl⟩ : TabAt _ 0 qt qm qh c' S' T')).mono ?_
          rintro e w12 ⟨rfl, rfl⟩
          go_wp2_with fail
          go_roundw
          case rel => exact ⟨k + 1, now + y, S', T', by omega, by omega, by go_num, rfl, Hn.out.1, Hn.out.2, HR2.out, HW2.out, Hs10.out⟩
          case measure => simp [intOf]; omega
        · clear hs
          by_cases h1 : k < n
          · have h2 : ¬ k < 20 := fun h => hlt ⟨h1, h⟩
            clear hlt
            go_wp2_with fail
            refine (fixed_any _).mono ?_
            rintro e wC ⟨rfl, ht⟩
            have Ht := Lib.hid (Hs.out.touch ht)
            clear ht
            go_wp2_with fail
            go_ret
            exact ⟨rfl, Touch.of_below Ht.out.below⟩
          · clear hlt
            go_wp2_with fail
            refine (fixed_any _).mono ?_
            rintro e wC ⟨rfl, ht⟩
            have Ht := Lib.hid (Hs.out.touch ht)
            clear ht
            go_wp2_with fail
            go_ret
            exact ⟨rfl, Touch.of_below Ht.out.below⟩
end Go.Proofs.Ytehbfoiadinhbaa
