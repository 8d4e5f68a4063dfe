/- syngraphlaw16.TimerNext: the walk. -/
import Derived.Test.YtammlneapiafeaaAll
import Derived.Test.YtammlneapiafeaaWf
namespace Go.Proofs.Ytammlneapiafeaa
open Go.RowKit
theorem left_next (S : List Al) (now : Int) : (leftS S now = [] ∧ nextV (leftS S now) = .tuple #[.int .u64 0, .bool false]) ∨
    ∃ x T, leftS S now = (x : Al) :: T ∧ now < x.1 ∧ nextV (leftS S now) = .tuple #[.int .u64 x.1, .bool true] := by
  cases h : leftS S now with
  | nil => exact .inl ⟨rfl, rfl⟩
  | cons x T =>
    refine .inr ⟨x, T, rfl, ?_, rfl⟩
    have hx : x ∈ leftS S now := by rw [h]; simp
    unfold leftS at hx
    have := (List.mem_filter.1 hx).2
    simpa using this
set_option maxRecDepth 100000 in
set_option maxHeartbeats 1000000 in
theorem next_walk (A : Option Addr) (n c : Nat) (T0 : List Int) (now : Int) (hn : n ≤ maxLen) (hnow : 0 ≤ now) (hnow' : now < 65536) (w : World)
    (hS0 : ∀ k, k < n → ∃ g o, A = some ⟨g, o, none⟩ ∧ g < w.heap.size ∧ w.cell? ⟨g, o + k, none⟩ = some (.int .u16 (T0.getD k 0)) ∧ (Lit.int .u16 (T0.getD k 0)).wf = true) :
    Calls Try.prog 4 #[.slice A n c, .int .u16 now] w fun e w' => e = .returned (.bool true) ∧ Touch [] w w' := by
  obtain ⟨T, hT1, hT⟩ := rng16 (T := T0) (n := n) (fun k hk => by obtain ⟨_, _, _, _, _, h⟩ := hS0 k hk; exact wf_u16 h)
  have hS : ∀ k, k < n → ∃ g o, A = some ⟨g, o, none⟩ ∧ g < w.heap.size ∧ w.cell? ⟨g, o + k, none⟩ = some (.int .u16 (T.getD k 0)) := fun k hk => by
    obtain ⟨g, o, h1, h2, h3, _⟩ := hS0 k hk
    exact ⟨g, o, h1, h2, by rw [hT1 k hk]; exact h3⟩
  clear hS0 hT1
  have HT := Lib.hid hT
  clear hT
  have hs0 := Sep.start w
  unfold maxLen at hn
  go_enter Try.func4, Try.ntmps4
  go_wp2_with fail
  refine (newT_sep hs0 40 (by omega) (by omega)).mono ?_
  rintro e w1 ⟨p, rfl, hs1⟩
  clear hs0
  go_upto_block 0 with fail
  go_cut [7, 8] (fun _ _ wx => ∃ S : List Al, Sep w w.heap.size wx [hRes p S 40])
  case first =>
    go_wp2_with fail
    go_loopw [7, 8] (fun vl vk wr => ∃ k : Nat, k ≤ n ∧ k ≤ 40 ∧ vk = .int .i64 k ∧ vl = .int .u64 (leastT T k) ∧ Sep w w.heap.size wr [hRes p (allS T k) 40]) (fun _ vk _ => 40 - (intOf vk).toNat)
    case atStart => exact ⟨0, by omega, by omega, rfl, rfl, hs1⟩
    case round =>
      obtain ⟨k, hk, hk40, rfl, rfl, hs⟩ := hrel
      clear hs1
      by_cases hlt : k < n ∧ k < 40
      · obtain ⟨hlt, hlt40⟩ := hlt
        obtain ⟨g, o, rfl, hg, hcell⟩ := hS k hlt
        have hcell' : wr.cell? ⟨g, o + k, none⟩ = some (.int .u16 (T.getD k 0)) := (hs.below.cell (p := ⟨g, o + k, none⟩) hg).trans hcell
        have Hc := Lib.hid (allS_code T k hlt40)
        have Hset := Lib.hid (allS_set T k hlt40)
        have Hnext := Lib.hid (nextV_all T (fun k => (HT.out k).2) k)
        have Hl : Hid (leastT T (k + 1) = if leastT T k ≤ T.getD k 0 then leastT T k else T.getD k 0) := Lib.hid rfl
        obtain ⟨t0, t1⟩ := HT.out k
        obtain ⟨l0, l1⟩ := leastT_rng T (fun k => (HT.out k).1) k
        obtain ⟨x, hx⟩ : ∃ x, x = T.getD k 0 := ⟨_, rfl⟩
        obtain ⟨l, hl⟩ : ∃ l, l = leastT T k := ⟨_, rfl⟩
        rw [← hx] at hcell' t0 t1 hcell Hset Hl
        rw [← hl] at l0 l1 Hl ⊢
        clear hx hS hl hcell
        by_cases hle : l ≤ x
        · have Hz := Lib.hid (show l = leastT T (k + 1) by rw [Hl.out, if_pos hle])
          go_wp2_with fail
          refine (setT_sep hs 0 rfl k x).mono ?_
          rintro e w2 ⟨rfl, hs2⟩
          rw [Hset.out] at hs2
          rw [Hc.out]
          clear hs hcell'
          go_wp2_with fail
          refine (nextT_sep hs2 0 rfl).mono ?_
          rintro e w3 ⟨rfl, rfl⟩
          rw [Hnext.out, ← Hz.out]
          go_wp2_with fail
          go_roundw
          case rel => exact ⟨k + 1, by omega, by omega, by go_num, by rw [Hz.out], hs2⟩
          case measure => simp [intOf]; omega
        · have Hz := Lib.hid (show x = leastT T (k + 1) by rw [Hl.out, if_neg hle])
          go_wp2_with fail
          refine (setT_sep hs 0 rfl k x).mono ?_
          rintro e w2 ⟨rfl, hs2⟩
          rw [Hset.out] at hs2
          rw [Hc.out]
          clear hs hcell'
          go_wp2_with fail
          refine (nextT_sep hs2 0 rfl).mono ?_
          rintro e w3 ⟨rfl, rfl⟩
          rw [Hnext.out, ← Hz.out]
          go_wp2_with fail
          go_roundw
          case rel => exact ⟨k + 1, by omega, by omega, by go_num, by rw [Hz.out], hs2⟩
          case measure => simp [intOf]; omega
      · clear hS
        by_cases h1 : k < n
        · have h2 : ¬ k < 40 := fun h => hlt ⟨h1, h⟩
          clear hlt
          go_wp2_with fail
          go_meet
          exact ⟨_, hs⟩
        · clear hlt
          go_wp2_with fail
          go_meet
          exact ⟨_, hs⟩
  case rest =>
    obtain ⟨S, hs⟩ := hcut
    clear hS hs1
    go_wp2_with fail
    refine (popT_sep hs 0 rfl now).mono ?_
    rintro e w2 ⟨A2, c2, rfl, hs2⟩
    have hs3 : Sep w w.heap.size w2 [hRes p (leftS S now) 40] := hs2.forget
    have Hl := Lib.hid (left_next S now)
    clear hs hs2
    go_wp2_with fail
    refine (nextT_sep hs3 0 rfl).mono ?_
    rintro e w3 ⟨rfl, rfl⟩
    have fin := fixed_any w2
    rcases Hl.out with ⟨h1, h2⟩ | ⟨x, T', h1, hx, h2⟩
    · rw [h2]
      rw [h1] at hs3
      clear Hl h2 h1
      go_wp2_with fail
      refine (lenT_sep hs3 0 rfl).mono ?_
      rintro e w3 ⟨rfl, rfl⟩
      go_wp2_with fail
      refine fin.mono ?_
      rintro e w4 ⟨rfl, ht⟩
      have Ht := Lib.hid (hs3.touch ht)
      clear ht fin
      go_wp2_with fail
      go_ret
      exact ⟨rfl, Touch.of_below Ht.out.below⟩
    · rw [h2]
      rw [h1] at hs3
      have hlen : 0 < (x :: T').length := by simp
      obtain ⟨m, hm⟩ : ∃ m : Nat, (x :: T').length = m := ⟨_, rfl⟩
      clear Hl h2 h1
      go_wp2_with fail
      refine (lenT_sep hs3 0 rfl).mono ?_
      rintro e w3 ⟨rfl, rfl⟩
      rw [hm] at hlen ⊢
      clear hm
      go_wp2_with fail
      refine fin.mono ?_
      rintro e w4 ⟨rfl, ht⟩
      have Ht := Lib.hid (hs3.touch ht)
      clear ht fin
      go_wp2_with fail
      go_ret
      exact ⟨rfl, Touch.of_below Ht.out.below⟩
end Go.Proofs.Ytammlneapiafeaa
