/- syngraphlaw16.TimerOnce: the walk. -/
import Derived.Test.YtammlneapiafeaaOnceLaw
namespace Go.Proofs.Ytammlneapiafeaa
open Go.RowKit
def off0 : Array Value := Array.replicate 40 (.bool false)
theorem make_off (w : World) : (Instr.makeSlice 30 (.int .i64 40) (.int .i64 40)).run Try.prog w = .ok (.slice (some ⟨w.heap.size, 0, none⟩) 40 40) (w.alloc (.cells off0 4)) := by kernel_rfl
theorem off0_cells : off0.toList = cellsB (List.replicate 40 false) := by unfold off0 cellsB; simp
theorem off0_size : off0.size = 40 := by unfold off0; simp
/-- The last tick ahead of the place k. -/
def lastT (D : List Al) : Nat → Int
  | 0 => 0
  | k + 1 => (atA D k).1
set_option maxRecDepth 100000 in
set_option maxHeartbeats 4000000 in
theorem once_walk (A : Option Addr) (n c : Nat) (T0 : List Int) (hnc : n ≤ c) (hc : c ≤ maxLen) (A' : Option Addr) (n' c' : Nat) (T0' : List Int) (w : World)
    (hS0 : ∀ k, k < n → ∃ g o, A = some ⟨g, o, none⟩ ∧ g < w.heap.size ∧ w.cell? ⟨g, o + k, none⟩ = some (.int .u16 (T0.getD k 0)) ∧ (Lit.int .u16 (T0.getD k 0)).wf = true)
    (hS0' : ∀ k, k < n' → ∃ g o, A' = some ⟨g, o, none⟩ ∧ g < w.heap.size ∧ w.cell? ⟨g, o + k, none⟩ = some (.int .u16 (T0'.getD k 0)) ∧ (Lit.int .u16 (T0'.getD k 0)).wf = true) :
    Calls Try.prog 3 #[.slice A n c, .slice A' n' c'] w fun e w' => e = .returned (.bool true) ∧ Touch [] w w' := by
  obtain ⟨T, hT⟩ := Ticks.of hS0
  obtain ⟨U, hU⟩ := Ticks.of hS0'
  have HT := Lib.hid hT
  have HU := Lib.hid hU
  clear hS0 hT hS0' hU
  have hs0 := Sep.start w
  unfold maxLen at hc
  go_enter Try.func3, Try.ntmps3
  go_wp2_with fail
  refine (newT_sep hs0 40 (by omega) (by omega)).mono ?_
  rintro e w1 ⟨p, rfl, hs1⟩
  clear hs0
  go_upto_region 4 with fail
  go_cut [7] (fun v wx => ∃ m : Nat, v = .slice A m c ∧ m ≤ n ∧ m ≤ 40 ∧ Sep w w.heap.size wx [hRes p [] 40])
  case first =>
    by_cases h40 : n ≤ 40
    · go_wp2_with fail
      go_meet
      exact ⟨n, rfl, by omega, h40, hs1⟩
    · go_wp2_with fail
      go_meet
      exact ⟨40, rfl, by omega, by omega, hs1⟩
  case rest =>
    obtain ⟨m, rfl, hmn, hm40, hs2⟩ := hcut
    clear hs1
    go_upto_block 0 with fail
    go_cut [8] (fun _ wx => Sep w w.heap.size wx [hRes p (allS T m) 40])
    case first =>
      go_wp2_with fail
      go_loopw [8] (fun vk wr => ∃ k : Nat, k ≤ m ∧ vk = .int .i64 k ∧ Sep w w.heap.size wr [hRes p (allS T k) 40]) (fun vk _ => 40 - (intOf vk).toNat)
      case atStart => exact ⟨0, by omega, rfl, hs2⟩
      case round =>
        obtain ⟨k, hk, rfl, hs⟩ := hrel
        clear hs2
        by_cases hlt : k < m
        · obtain ⟨g, o, rfl, hcell⟩ := HT.out.at_ hs k (by omega)
          have Hset := Lib.hid (allS_set T k (by omega))
          have Hc := Lib.hid (allS_code T k (by omega))
          obtain ⟨t0, t1⟩ := HT.out.rng k
          obtain ⟨x, hx⟩ : ∃ x, x = T.getD k 0 := ⟨_, rfl⟩
          rw [← hx] at hcell t0 t1 Hset
          clear hx
          go_wp2_with fail
          refine (setT_sep hs 0 rfl k x).mono ?_
          rintro e w3 ⟨rfl, hs3⟩
          rw [Hset.out] at hs3
          rw [Hc.out]
          clear hs hcell
          go_wp2_with fail
          go_roundw
          case rel => exact ⟨k + 1, by omega, by go_num, hs3⟩
          case measure => simp [intOf]; omega
        · obtain rfl : k = m := by omega
          go_wp2_with fail
          go_meet
          exact hs
    case rest =>
      have hs3 := hcut
      clear hcut hs2
      have hmk := make_off
      go_wp2_with fail
      have hs4 := hs3.built 4 40 off0 off0_size (by omega) (by unfold maxLen; omega)
      rw [off0_cells] at hs4
      obtain ⟨go, hgo⟩ : ∃ go, go = wc.heap.size := ⟨_, rfl⟩
      obtain ⟨w4, hw4⟩ : ∃ w4, w4 = wc.alloc (.cells off0 4) := ⟨_, rfl⟩
      rw [← hgo, ← hw4] at hs4 ⊢
      clear hgo hw4 hmk hs3
      go_loopw [10, 11, 12] (fun vn vm vi wr => ∃ (i : Nat) (now : Int) (many : Nat) (O : List Bool) (S : List Al), i ≤ n' ∧ i ≤ 20 ∧ vi = .int .i64 i ∧ vn = .int .u64 now ∧ vm = .int .i64 many ∧ 0 ≤ now ∧ now ≤ 65535 * (i : Int) ∧ Inv T m O S many ∧
        Sep w w.heap.size wr [slRes 4 1 (.slice (some ⟨go, 0, none⟩) 40 40) 40 (cellsB O), hRes p S 40]) (fun _ _ vi _ => 20 - (intOf vi).toNat)
      case atStart => exact ⟨0, 0, 0, _, _, by omega, by omega, rfl, rfl, rfl, by omega, by omega, Inv.start T m, hs4⟩
      case round =>
        obtain ⟨i, now, many, O, S, hi, hi20, rfl, rfl, rfl, hn0, hn1, hinv, hs⟩ := hrel
        have Hinv := Lib.hid hinv
        clear hs4 hinv
        by_cases hlt : i < n' ∧ i < 20
        · obtain ⟨hlt, hlt20⟩ := hlt
          obtain ⟨g, o, rfl, hcell⟩ := HU.out.at_ hs i hlt
          obtain ⟨t0, t1⟩ := HU.out.rng i
          obtain ⟨x, hx⟩ : ∃ x, x = U.getD i 0 := ⟨_, rfl⟩
          rw [← hx] at hcell t0 t1
          clear hx
          go_wp2_with fail
          refine (popT_sep hs 1 rfl (now + x)).mono ?_
          rintro e w5 ⟨A5, c5, rfl, hs5⟩
          have hok := (heap_facts hs 1 rfl).1
          have hcnt := Hinv.out.cnt
          have hgl := goneS_len S (now + x)
          obtain ⟨now', hnow'⟩ : ∃ now', now' = now + x := ⟨_, rfl⟩
          rw [← hnow'] at hs5 hgl ⊢
          have hn0' : 0 ≤ now' := by omega
          have hn1' : now' ≤ 65535 * ((i : Int) + 1) := by omega
          have Hok := Lib.hid hok
          obtain ⟨D, hD⟩ : ∃ D, D = goneS S now' := ⟨_, rfl⟩
          rw [← hD] at hs5 hgl ⊢
          have HD := Lib.hid hD
          have hdl : D.length + many ≤ 40 := by omega
          clear hs hcell hok hcnt hgl hnow' hn0 hn1 t0 t1 hD
          replace hs5 : Sep w w.heap.size w5 [iRes (.slice A5 D.length c5) (D.map Prod.snd), slRes 4 1 (.slice (some ⟨go, 0, none⟩) 40 40) 40 (cellsB O), hRes p (leftS S now') 40] := hs5
          go_upto_block 4 with fail
          go_cut [11, 14, 15] (fun v11 _ _ wx => v11 = .int .i64 ((many + D.length : Nat) : Int) ∧ Sep w w.heap.size wx [iRes (.slice A5 D.length c5) (D.map Prod.snd), slRes 4 1 (.slice (some ⟨go, 0, none⟩) 40 40) 40 (cellsB (marks O D)), hRes p (leftS S now') 40])
          case first =>
            go_wp2_with fail
            go_loopw [11, 14, 15] (fun v11 v14 v15 wr => ∃ k : Nat, k ≤ D.length ∧ v11 = .int .i64 ((many + k : Nat) : Int) ∧ v14 = .int .u64 (lastT D k) ∧ v15 = .int .i64 k ∧
              Sep w w.heap.size wr [iRes (.slice A5 D.length c5) (D.map Prod.snd), slRes 4 1 (.slice (some ⟨go, 0, none⟩) 40 40) 40 (cellsB (marks O (D.take k))), hRes p (leftS S now') 40]) (fun _ _ v15 _ => 40 - (intOf v15).toNat)
            case atStart => exact ⟨0, by omega, rfl, rfl, rfl, hs5⟩
            case round =>
              obtain ⟨k, hk, rfl, rfl, rfl, hs⟩ := hrel
              clear hs5
              by_cases hkl : k < D.length
              · obtain ⟨j, hj, he, hle, hmk⟩ := Hinv.out.one Hok.out (now := now') (k := k) (by rw [← HD.out]; exact hkl)
                rw [← HD.out] at he hmk
                have hmk := hmk hm40
                have hlast : lastT D k ≤ T.getD j 0 := by
                  cases k with
                  | zero => exact (HT.out.rng j).1
                  | succ k =>
                    have := gone_sorted Hok.out (now := now') (k := k) (by rw [← HD.out]; exact hkl)
                    rw [← HD.out, he] at this
                    exact this
                have hlast' : lastT D (k + 1) = T.getD j 0 := by show (atA D k).1 = _; rw [he]
                obtain ⟨g5, o5, rfl⟩ := hs.addr 0 (A := A5) (n := D.length) (c := c5) (e := 3) (xs := cellsI (D.map Prod.snd)) (by simp [iRes]) (by omega)
                have hcx : wr.cell? ⟨g5, o5 + k, none⟩ = some (.int .i64 (j : Int)) := by
                  have h := hs.cell 0 (g := g5) (off := o5) (e := 3) (n := D.length) (c := c5) (xs := cellsI (D.map Prod.snd)) (by simp [iRes]) k (cellsI_at (by simpa using hkl))
                  rw [h]
                  have : (D.map Prod.snd).getD k 0 = (j : Int) := by
                    have := congrArg Prod.snd he
                    rw [atA_get hkl] at this
                    simpa [List.getD, hkl] using this
                  rw [this]
                have hlen : (marks O (D.take k)).length = 40 := by rw [marks_len]; exact Hinv.out.len
                have hco : wr.cell? ⟨go, j, none⟩ = some (.bool false) := by
                  have h := hs.cell 1 rfl j (cellsB_at (L := marks O (D.take k)) (by omega))
                  rw [Nat.zero_add, hmk] at h
                  exact h
                obtain ⟨g1, o1, rfl, hct⟩ := HT.out.at_ hs j (by omega)
                obtain ⟨hs6, hfr⟩ := hs.store 1 rfl (j := j) (by omega) (.bool true)
                rw [Nat.zero_add] at hs6 hfr
                have hcx' : (wr.setCell ⟨go, j, none⟩ (.bool true)).cell? ⟨g5, o5 + k, none⟩ = some (.int .i64 (j : Int)) := by
                  have h := hs6.cell 0 (g := g5) (off := o5) (e := 3) (n := D.length) (c := c5) (xs := cellsI (D.map Prod.snd)) (by simp [iRes]) k (cellsI_at (by simpa using hkl))
                  rw [h]
                  have : (D.map Prod.snd).getD k 0 = (j : Int) := by
                    have := congrArg Prod.snd he
                    rw [atA_get hkl] at this
                    simpa [List.getD, hkl] using this
                  rw [this]
                obtain ⟨g1', o1', hgo1, hct'⟩ := HT.out.at_ hs6 j (by omega)
                injection hgo1 with hgo1
                injection hgo1 with h1 h2
                subst h1; subst h2
                have hmarks : (marks O (D.take k)).set j true = marks O (D.take (k + 1)) := by
                  have h3 : D.take k ++ [D[k]] = D.take (k + 1) := List.take_append_getElem hkl
                  rw [← h3, marks_snoc, ← atA_get hkl, he]
                  simp
                replace hs6 : Sep w w.heap.size (wr.setCell ⟨go, j, none⟩ (.bool true)) [iRes (.slice (some ⟨g5, o5, none⟩) D.length c5) (D.map Prod.snd), slRes 4 1 (.slice (some ⟨go, 0, none⟩) 40 40) 40 (cellsB (marks O (D.take (k + 1)))), hRes p (leftS S now') 40] := by
                  rw [← hmarks, ← cellsB_set]
                  exact hs6
                obtain ⟨t0, t1⟩ := HT.out.rng j
                obtain ⟨x, hx⟩ : ∃ x, x = T.getD j 0 := ⟨_, rfl⟩
                rw [← hx] at hle hlast hlast' hct hct' t0 t1
                obtain ⟨la, hla⟩ : ∃ la, la = lastT D k := ⟨_, rfl⟩
                rw [← hla] at hlast ⊢
                have Hs6 := Lib.hid hs6
                have Hl' := Lib.hid hlast'
                have hmk' : many + k ≤ 40 := by omega
                clear hx hla he hmk hlen hs hs6 hlast' hmarks
                go_wp2_with fail
                go_roundw
                case rel => exact ⟨k + 1, by omega, by go_num, by rw [Hl'.out], by go_num, Hs6.out⟩
                case measure => simp [intOf]; omega
              · obtain rfl : k = D.length := by omega
                rw [List.take_length] at hs
                go_wp2_with fail
                go_meet
                exact ⟨rfl, hs⟩
          case rest =>
            obtain ⟨rfl, hs6⟩ := hcut
            clear hs5
            have Hnext := Lib.hid (Hinv.out.next Hok.out now' hm40)
            have Hlater : Hid (∀ k, k < m → (marks O D).getD k false = false → now' < T.getD k 0) := Lib.hid (fun k hk h => Hinv.out.later Hok.out now' hm40 hk (by rw [← HD.out]; exact h))
            rw [← HD.out] at Hnext
            obtain ⟨mm, hmm⟩ : ∃ mm, mm = many + D.length := ⟨_, rfl⟩
            have hmm' : mm ≤ 40 := by omega
            rw [← hmm] at Hnext ⊢
            obtain ⟨O', hO'⟩ : ∃ O', O' = marks O D := ⟨_, rfl⟩
            rw [← hO'] at Hnext Hlater hs6
            obtain ⟨S', hS'⟩ : ∃ S', S' = leftS S now' := ⟨_, rfl⟩
            rw [← hS'] at Hnext hs6
            replace hs6 := hs6.forget
            clear hmm hO' hS' hdl Hok Hinv HD
            go_upto_block 6 with fail
            go_cut [16] (fun _ wx => Sep w w.heap.size wx [slRes 4 1 (.slice (some ⟨go, 0, none⟩) 40 40) 40 (cellsB O'), hRes p S' 40])
            case first =>
              go_wp2_with fail
              go_loopw [16] (fun v16 wr => ∃ k : Nat, k ≤ m ∧ v16 = .int .i64 k ∧ Sep w w.heap.size wr [slRes 4 1 (.slice (some ⟨go, 0, none⟩) 40 40) 40 (cellsB O'), hRes p S' 40]) (fun v16 _ => 40 - (intOf v16).toNat)
              case atStart => exact ⟨0, by omega, rfl, hs6⟩
              case round =>
                obtain ⟨k, hk, rfl, hs⟩ := hrel
                clear hs6
                by_cases hkm : k < m
                · have hco : wr.cell? ⟨go, k, none⟩ = some (.bool (O'.getD k false)) := by
                    have h := hs.cell 0 rfl k (cellsB_at (L := O') (by rw [Hnext.out.len]; omega))
                    rw [Nat.zero_add] at h
                    exact h
                  have hlat := Hlater.out k hkm
                  obtain ⟨g1, o1, rfl, hct⟩ := HT.out.at_ hs k (by omega)
                  obtain ⟨t0, t1⟩ := HT.out.rng k
                  obtain ⟨x, hx⟩ : ∃ x, x = T.getD k 0 := ⟨_, rfl⟩
                  rw [← hx] at hct t0 t1 hlat
                  have Hs := Lib.hid hs
                  clear hx hs
                  cases hb : O'.getD k false with
                  | false =>
                    have hlat := hlat hb
                    rw [hb] at hco
                    clear hb
                    go_wp2_with fail
                    go_roundw
                    case rel => exact ⟨k + 1, by omega, by go_num, Hs.out⟩
                    case measure => simp [intOf]; omega
                  | true =>
                    rw [hb] at hco
                    clear hb hlat
                    go_wp2_with fail
                    go_roundw
                    case rel => exact ⟨k + 1, by omega, by go_num, Hs.out⟩
                    case measure => simp [intOf]; omega
                · obtain rfl : k = m := by omega
                  go_wp2_with fail
                  go_meet
                  exact hs
            case rest =>
              have hs7 := hcut
              clear hcut hs6
              have hcnt := Hnext.out.cnt
              obtain ⟨sl, hsl⟩ : ∃ sl, sl = S'.length := ⟨_, rfl⟩
              rw [← hsl] at hcnt
              have hne : ((sl : Int) != (m : Int) - (mm : Int)) = false := by
                rw [show (m : Int) - (mm : Int) = sl by omega]; simp
              have Hcnt := Lib.hid hcnt
              clear hcnt
              go_wp2_with fail
              refine (lenT_sep hs7 1 rfl).mono ?_
              rintro e w10 ⟨rfl, rfl⟩
              rw [← hsl]
              clear hsl
              go_wp2_with fail
              go_roundw
              case rel => exact ⟨i + 1, now', mm, O', S', by omega, by omega, by go_num, rfl, rfl, hn0', by push_cast; omega, Hnext.out, hs7⟩
              case measure => simp [intOf]; omega
        · by_cases h1 : i < n'
          · have h2 : ¬ i < 20 := fun h => hlt ⟨h1, h⟩
            clear hlt
            go_wp2_with fail
            refine (fixed_any _).mono ?_
            rintro e w11 ⟨rfl, ht⟩
            have Ht := Lib.hid (hs.touch ht)
            clear ht
            go_wp2_with fail
            go_ret
            exact ⟨rfl, Touch.of_below Ht.out.below⟩
          · clear hlt
            go_wp2_with fail
            refine (fixed_any _).mono ?_
            rintro e w11 ⟨rfl, ht⟩
            have Ht := Lib.hid (hs.touch ht)
            clear ht
            go_wp2_with fail
            go_ret
            exact ⟨rfl, Touch.of_below Ht.out.below⟩
end Go.Proofs.Ytammlneapiafeaa
