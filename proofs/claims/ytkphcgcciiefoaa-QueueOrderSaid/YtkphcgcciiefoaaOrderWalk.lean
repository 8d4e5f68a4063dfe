/- syngraphlaw18.QueueOrder: the walk. -/
import Derived.Test.YtkphcgcciiefoaaFixed18
import Derived.Deep.DeepCutAuto
import Derived.Deep.CutBlock
import Derived.Deep.LoopGhost
import Derived.WalkLawsBesides
namespace Go.Proofs.Ytkphcgcciiefoaa
open Go.RowKit
/-- What was put, what was taken, what waits, how many were lost. -/
structure OrdInv (w0 w : World) (B p : Nat) (N : Int) (vi vo : Value) (I O L : List ByteArray) (lost k : Nat) : Prop where
  eq : I = O ++ L
  lostLe : lost ≤ k
  inLe : I.length ≤ k
  max : (L.length : Int) ≤ N
  sep : Sep w0 B w [qRes p L N lost, slRes 9 1 vi I.length (cellsS I), slRes 9 1 vo O.length (cellsS O)]
/-- The list of what was put, behind a Put that answered c. -/
def inI (c : Int) (I : List ByteArray) (t : ByteArray) : List ByteArray := if c = 0 then I ++ [t] else I
/-- How many were lost, behind a Put that answered c. -/
def lostI (c : Int) (lost : Nat) : Nat := if c = 8 then lost + 1 else lost
theorem putL_code (L : List ByteArray) (N : Int) (t : ByteArray) : putL L N t = inI (putCode L N t) L t := by
  unfold putL inI putCode
  by_cases h1 : hasS L t = true
  · rw [if_pos h1, if_pos h1, if_neg (by omega)]
  · rw [if_neg h1, if_neg h1]
    by_cases h2 : N ≤ (L.length : Int)
    · rw [if_pos h2, if_pos h2, if_neg (by omega)]
    · rw [if_neg h2, if_neg h2, if_pos rfl]
theorem putLost_code (L : List ByteArray) (N : Int) (t : ByteArray) (lost : Nat) (h : lost ≤ 100) : putLost L N lost t = (lostI (putCode L N t) lost : Nat) := by
  unfold putLost lostI putCode addS
  by_cases h1 : hasS L t = true
  · rw [if_pos h1, if_pos h1, if_neg (by omega)]
  · rw [if_neg h1, if_neg h1]
    by_cases h2 : N ≤ (L.length : Int)
    · rw [if_pos h2, if_pos h2, if_pos (by omega), if_pos rfl]; omega
    · rw [if_neg h2, if_neg h2, if_neg (by omega)]
theorem inI_eq {c : Int} {I O L : List ByteArray} {t : ByteArray} (h : I = O ++ L) : inI c I t = O ++ inI c L t := by
  unfold inI
  split
  · rw [h, List.append_assoc]
  · exact h
theorem inI_yes (I : List ByteArray) (t : ByteArray) : inI 0 I t = I ++ [t] := rfl
theorem inI_no {c : Int} (h : ¬ c = 0) {I : List ByteArray} {t : ByteArray} : inI c I t = I := by unfold inI; rw [if_neg h]
theorem lostI_no {c : Int} (h : ¬ c = 8) {n : Nat} : lostI c n = n := by unfold lostI; rw [if_neg h]
theorem inI_len (c : Int) (I : List ByteArray) (t : ByteArray) : I.length ≤ (inI c I t).length ∧ (inI c I t).length ≤ I.length + 1 := by
  unfold inI
  split
  · simp
  · omega
theorem inI_max {L : List ByteArray} {N : Int} {t : ByteArray} (h : (L.length : Int) ≤ N) : ((inI (putCode L N t) L t).length : Int) ≤ N := by
  unfold inI putCode
  by_cases h1 : hasS L t = true
  · rw [if_pos h1, if_neg (by omega)]; exact h
  · rw [if_neg h1]
    by_cases h2 : N ≤ (L.length : Int)
    · rw [if_pos h2, if_neg (by omega)]; exact h
    · rw [if_neg h2, if_pos rfl, List.length_append]; simp; omega
theorem lostI_le (c : Int) (lost : Nat) : lostI c lost ≤ lost + 1 := by unfold lostI; split <;> omega
theorem putCode_or (L : List ByteArray) (N : Int) (t : ByteArray) : putCode L N t = 6 ∨ putCode L N t = 8 ∨ putCode L N t = 0 := by
  unfold putCode; split
  · exact .inl rfl
  · split
    · exact .inr (.inl rfl)
    · exact .inr (.inr rfl)
theorem snoc_sep {w0 w : World} {B : Nat} {r q : Res} {A : Option Addr} {cp : Nat} {x : ByteArray} {O : List ByteArray}
    (h : Sep w0 B w [r, q, slRes 9 1 (.slice A (O.length + 1) cp) (O.length + 1) (cellsS O ++ [.string x])]) :
    Sep w0 B w [r, q, slRes 9 1 (.slice A (O.length + 1) cp) (O ++ [x]).length (cellsS (O ++ [x]))] := by
  have e1 : (O ++ [x]).length = O.length + 1 := by simp
  have e2 : cellsS (O ++ [x]) = cellsS O ++ [.string x] := by simp [cellsS]
  rw [e1, e2]
  exact h
theorem snoc_meet {w0 w : World} {B p : Nat} {N lo : Int} {r : Res} {A : Option Addr} {cp : Nat} {x : ByteArray} {O L : List ByteArray} {n : Nat} (hn : n = O.length + 1)
    (h : Sep w0 B w [qRes p L N lo, r, slRes 9 1 (.slice A n cp) n (cellsS O ++ [.string x])]) :
    ∃ (A' : Option Addr) (cp' : Nat) (O' L' : List ByteArray), Value.slice A n cp = .slice A' O'.length cp' ∧ O' ++ L' = O ++ x :: L ∧ L'.length ≤ (x :: L).length ∧ Sep w0 B w [qRes p L' N lo, r, slRes 9 1 (.slice A n cp) O'.length (cellsS O')] := by
  subst hn
  refine ⟨A, cp, O ++ [x], L, by simp, by simp, by simp, ?_⟩
  have e1 : (O ++ [x]).length = O.length + 1 := by simp
  have e2 : cellsS (O ++ [x]) = cellsS O ++ [.string x] := by simp [cellsS]
  rw [e1, e2]
  exact h
set_option maxRecDepth 100000 in
set_option maxHeartbeats 1000000 in
theorem order_walk (m : Int) (hm0 : 0 ≤ m) (hm1 : m ≤ 255) (A1 A2 : Option Addr) (n1 c1 n2 c2 : Nat) (S : List ByteArray) (T : List Bool) (w : World) (hn1 : n1 ≤ maxLen)
    (hS : ∀ k, k < n1 → ∃ g o, A1 = some ⟨g, o, none⟩ ∧ g < w.heap.size ∧ w.cell? ⟨g, o + k, none⟩ = some (.string (S.getD k ⟨#[]⟩)))
    (hT : ∀ k, k < n2 → ∃ g o, A2 = some ⟨g, o, none⟩ ∧ g < w.heap.size ∧ w.cell? ⟨g, o + k, none⟩ = some (.bool (T.getD k false))) :
    Calls Try.prog 3 #[.int .u8 m, .slice A1 n1 c1, .slice A2 n2 c2] w fun e w' => e = .returned (.bool true) ∧ Touch [] w w' := by
  have hs0 := Sep.start w
  obtain ⟨i0, hi0, hz0, hz1, hz2⟩ := info_parts infoS
  unfold maxLen at hn1
  go_enter Try.func3, Try.ntmps3
  go_wp2_with fail
  refine (new_sep hs0 (1 + m % 20) (by omega) (by omega)).mono ?_
  rintro e w1 ⟨p, rfl, hs1⟩
  clear hs0
  go_upto_block 0 with fail
  have hinv : OrdInv w ((w1.alloc (.cells #[] 9)).alloc (.cells #[] 9)) w.heap.size p (1 + m % 20) (.slice (some ⟨w1.heap.size, 0, none⟩) 0 0) (.slice (some ⟨w1.heap.size + 1, 0, none⟩) 0 0) [] [] [] 0 0 :=
    ⟨rfl, Nat.le_refl _, Nat.le_refl _, by simp; omega, ((((hs1.alloc _).alloc _).bare 9 1 (some ⟨w1.heap.size + 1, 0, none⟩)).bare 9 1 (some ⟨w1.heap.size, 0, none⟩)).perm3⟩
  clear hs1
  go_cut [9, 10, 11, 12] (fun vi vo _ _ wx => ∃ (lost : Nat) (I O L : List ByteArray), OrdInv w wx w.heap.size p (1 + m % 20) vi vo I O L lost 60)
  case first =>
    go_wp2_with fail
    go_loopw [9, 10, 11, 12] (fun vi vo vl vk wr => ∃ (k lost : Nat) (I O L : List ByteArray), k ≤ n1 ∧ k ≤ 60 ∧ vk = .int .i64 k ∧ vl = .int .u64 lost ∧ OrdInv w wr w.heap.size p (1 + m % 20) vi vo I O L lost k) (fun _ _ _ vk _ => 60 - (intOf vk).toNat)
    case atStart => exact ⟨0, 0, [], [], [], by omega, by omega, rfl, rfl, hinv⟩
    case round =>
      obtain ⟨k, lost, I, O, L, hk, hk60, rfl, rfl, hI⟩ := hrel
      clear hinv
      by_cases hlt : k < n1 ∧ k < 60
      · obtain ⟨hlt, hlt60⟩ := hlt
        obtain ⟨g, o, rfl, hg, hcell⟩ := hS k hlt
        have hcell' : wr.cell? ⟨g, o + k, none⟩ = some (.string (S.getD k ⟨#[]⟩)) := (hI.sep.below.cell (p := ⟨g, o + k, none⟩) hg).trans hcell
        obtain ⟨s, hs⟩ : ∃ s, s = S.getD k ⟨#[]⟩ := ⟨_, rfl⟩
        rw [← hs] at hcell'
        have Hs := Lib.hid hs
        clear hs hcell hS
        go_upto_region 8 with fail
        go_cut [13] (fun v wx => v = .string (cut60 s) ∧ ∃ q, wr.drewN q = wx)
        case first =>
          go_quiet (fail)
          all_goals go_wp2_with fail
          all_goals go_meet
          · have h : (60 : Int) < s.size := by assumption
            exact ⟨by unfold cut60; rw [Nat.min_eq_right (by omega)], nq, rfl⟩
          · have h : (s.size : Int) ≤ 60 := by assumption
            exact ⟨by unfold cut60; rw [Nat.min_eq_left (by omega), cut_all], nq, rfl⟩
        case rest =>
          obtain ⟨rfl, q, rfl⟩ := hcut
          obtain ⟨t, ht⟩ : ∃ t, t = cut60 s := ⟨_, rfl⟩
          rw [← ht]
          clear ht Hs hcell' hg
          have hmx := hI.max
          have hll := hI.lostLe
          have hil := hI.inLe
          go_wp2_with fail
          refine (put_sep (hI.sep.drewN q) 0 rfl t (by omega) (by omega) (by omega)).mono ?_
          rintro e w2 ⟨rfl, hs2⟩
          have hq := hI.eq
          clear hI
          rw [putL_code, putLost_code _ _ _ _ (by omega)] at hs2
          obtain ⟨c, hc⟩ : ∃ c, c = putCode L (1 + m % 20) t := ⟨_, rfl⟩
          rw [← hc] at hs2 ⊢
          have hcor : c = 6 ∨ c = 8 ∨ c = 0 := by rw [hc]; exact putCode_or _ _ _
          have hmax' : ((inI c L t).length : Int) ≤ 1 + m % 20 := by rw [hc]; exact inI_max hmx
          have hs3 : Sep w w.heap.size w2 [qRes p (inI c L t) (1 + m % 20) (lostI c lost : Nat), slRes 9 1 u9 I.length (cellsS I), slRes 9 1 u10 O.length (cellsS O)] := hs2
          have hin := inI_len c I t
          have hlo := lostI_le c lost
          have Hq := Lib.hid (inI_eq (c := c) (t := t) hq)
          have Hlen : Hid (O.length + (inI c L t).length = (inI c I t).length) := by rw [inI_eq (c := c) (t := t) hq, List.length_append]; rfl
          clear hs2 hc hq
          go_upto_if 60 with fail
          go_cut [9] (fun v wx => ∃ A cp, v = .slice A (inI c I t).length cp ∧ Sep w w.heap.size wx [qRes p (inI c L t) (1 + m % 20) (lostI c lost : Nat), slRes 9 1 v (inI c I t).length (cellsS (inI c I t)), slRes 9 1 u10 O.length (cellsS O)])
          case first =>
            by_cases hc0 : c = 0
            · subst hc0
              clear hin hlo hmax' hmx Hlen
              go_wp2_with (at_builtin; refine wpList_append_sep _ rfl (.tmp 61) (.tmp 63) 22 22 rfl 9 i0 _ 1 16 Try.underlying22 hi0 hz0 hz1 hz2 rfl (hs3.alloc _) 1 u9 I.length (cellsS I) rfl rfl _ 1 [.string t] rfl (Src.one Try.underlying22 w2 _ _ rfl) (by unfold maxLen; omega) (by omega) ?_)
              intro A cp w4 hs4
              go_wp2
              go_meet
              have e1 : I.length + 1 = (inI 0 I t).length := by rw [inI_yes, List.length_append]; rfl
              have e2 : cellsS I ++ [Value.string t] = cellsS (inI 0 I t) := by rw [inI_yes]; simp [cellsS]
              rw [← e1, ← e2]
              exact ⟨A, cp, rfl, hs4⟩
            · have hb : (c == 0) = false := by simp [hc0]
              obtain ⟨F, row, rfl, ho⟩ := hs3.look 1 rfl
              obtain ⟨A, cp, hv, _⟩ := ho.shape
              have Hv := Lib.hid hv
              clear hv ho
              go_wp2
              go_meet
              have e1 : inI c I t = I := inI_no hc0
              rw [e1]
              exact ⟨A, cp, Hv.out, hs3⟩
          case rest =>
            obtain ⟨A, cp, rfl, hs4⟩ := hcut
            clear hs3
            go_upto_if 66 with fail
            go_cut [11] (fun v wx => v = .int .u64 (lostI c lost : Nat) ∧ Sep w w.heap.size wx [qRes p (inI c L t) (1 + m % 20) (lostI c lost : Nat), slRes 9 1 (.slice A (inI c I t).length cp) (inI c I t).length (cellsS (inI c I t)), slRes 9 1 u10 O.length (cellsS O)])
            case first =>
              by_cases hc8 : c = 8
              · subst hc8
                clear hin hlo hmax' hmx Hlen
                go_wp2
                go_meet
                exact ⟨rfl, hs4⟩
              · have hb : (c == 8) = false := by simp [hc8]
                go_wp2
                go_meet
                exact ⟨by rw [lostI_no hc8], hs4⟩
            case rest =>
              obtain ⟨rfl, hs5⟩ := hcut
              clear hs4 hcor
              obtain ⟨LL, hLL⟩ : ∃ LL, LL = inI c L t := ⟨_, rfl⟩
              obtain ⟨II, hII⟩ : ∃ II, II = inI c I t := ⟨_, rfl⟩
              obtain ⟨lo, hlo'⟩ : ∃ lo, lo = lostI c lost := ⟨_, rfl⟩
              rw [← hLL, ← hII, ← hlo'] at hs5
              rw [← hLL] at hmax' Hlen
              rw [← hII] at hin Hlen ⊢
              rw [← hlo'] at hlo ⊢
              rw [← hLL, ← hII] at Hq
              clear hLL hII hlo'
              go_upto_region 14 with fail
              go_cut [78] (fun v wx => ∃ b, v = .bool b ∧ Sep w w.heap.size wx [qRes p LL (1 + m % 20) lo, slRes 9 1 (.slice A II.length cp) II.length (cellsS II), slRes 9 1 u10 O.length (cellsS O)])
              case first =>
                by_cases hk2 : k < n2
                · obtain ⟨g2, o2, rfl, hg2, hcell2⟩ := hT k hk2
                  have hcell2' : wc.cell? ⟨g2, o2 + k, none⟩ = some (.bool (T.getD k false)) := (hs5.below.cell (p := ⟨g2, o2 + k, none⟩) hg2).trans hcell2
                  obtain ⟨b, hb⟩ : ∃ b, b = T.getD k false := ⟨_, rfl⟩
                  rw [← hb] at hcell2'
                  clear hb hcell2 hT hmax' hmx Hlen
                  go_wp2
                  go_meet
                  exact ⟨_, rfl, hs5⟩
                · clear hT hmax' hmx Hlen
                  go_wp2
                  go_meet
                  exact ⟨_, rfl, hs5⟩
              case rest =>
                obtain ⟨b, rfl, hs6⟩ := hcut
                clear hs5
                go_upto_if 78 with fail
                go_cut [10] (fun v wx => ∃ (A' : Option Addr) (cp' : Nat) (O' L' : List ByteArray), v = .slice A' O'.length cp' ∧ O' ++ L' = O ++ LL ∧ L'.length ≤ LL.length ∧ Sep w w.heap.size wx [qRes p L' (1 + m % 20) lo, slRes 9 1 (.slice A II.length cp) II.length (cellsS II), slRes 9 1 v O'.length (cellsS O')])
                case first =>
                  have hol : O.length + LL.length = II.length := Hlen.out
                  obtain ⟨F, row, rfl, hoo⟩ := hs6.look 2 rfl
                  obtain ⟨A', cp', rfl, _⟩ := hoo.shape
                  clear hoo
                  cases b with
                  | false =>
                    go_wp2
                    go_meet
                    exact ⟨A', cp', O, LL, rfl, rfl, Nat.le_refl _, hs6⟩
                  | true =>
                    have hll1 : LL.length ≤ 100 := by omega
                    go_wp2_with fail
                    refine (take_sep hs6 0 rfl (by omega)).mono ?_
                    rintro e w7 ⟨rfl, hs7⟩
                    clear hs6
                    cases LL with
                    | nil =>
                      rw [show List.isEmpty ([] : List ByteArray) = true from rfl]
                      go_wp2
                      go_meet
                      exact ⟨A', cp', O, [], rfl, rfl, Nat.le_refl _, hs7⟩
                    | cons x LL =>
                      rw [show List.isEmpty (x :: LL) = false from rfl, show List.headD (x :: LL) ⟨#[]⟩ = x from rfl]
                      have hs8 : Sep w w.heap.size w7 [qRes p LL (1 + m % 20) lo, slRes 9 1 (.slice A II.length cp) II.length (cellsS II), slRes 9 1 (.slice A' O.length cp') O.length (cellsS O)] := hs7
                      clear hs7
                      have Hol := Lib.hid hol
                      clear hol hll1 hmax'
                      have hol1 : O.length ≤ 100 := by have := Hol.out; omega
                      go_wp2_with (at_builtin; refine wpList_append_sep _ rfl (.tmp 85) (.tmp 87) 22 22 rfl 9 i0 _ 1 16 Try.underlying22 hi0 hz0 hz1 hz2 rfl (hs8.alloc _) 2 (.slice A' O.length cp') O.length (cellsS O) rfl rfl _ 1 [.string x] rfl (Src.one Try.underlying22 w7 _ _ rfl) (by unfold maxLen; omega) (by omega) ?_)
                      intro A2 cp2 w8 hs9
                      go_wp2
                      go_meet
                      exact snoc_meet (by simp) hs9
                case rest =>
                  obtain ⟨A', cp', O', L', rfl, hOL, hLL', hs7⟩ := hcut
                  clear hs6
                  have Hol : Hid (O'.length + L'.length = II.length) := by rw [Hq.out, ← hOL, List.length_append]; rfl
                  have hLm : (L'.length : Int) ≤ 1 + m % 20 := by omega
                  have hI9 : II = O' ++ L' := Hq.out.trans hOL.symm
                  have HI := Lib.hid hI9
                  have hlo9 : lo ≤ k + 1 := by omega
                  have hil9 : II.length ≤ k + 1 := by omega
                  clear hOL Hq hI9 hLL' hmax' Hlen hin hmx
                  have hb : (((lo : Nat) : Int) != ((lo : Nat) : Int)) = false := by simp
                  go_wp2_with (first | (go_at_call 11; refine (len_sep hs7 0 rfl).mono ?_; rintro e w' ⟨rfl, rfl⟩) | (go_at_call 12; refine (lost_sep hs7 0 rfl).mono ?_; rintro e w' ⟨rfl, rfl⟩))
                  go_roundw
                  case rel => exact ⟨k + 1, lo, II, O', L', by omega, by omega, by go_num, rfl, ⟨HI.out, hlo9, hil9, hLm, hs7⟩⟩
                  case measure => simp [intOf]; omega
      · have hI' : OrdInv w wr w.heap.size p (1 + m % 20) u9 u10 I O L lost 60 := ⟨hI.eq, by have := hI.lostLe; omega, by have := hI.inLe; omega, hI.max, hI.sep⟩
        clear hI hS hT
        by_cases h1 : k < n1
        · have h2 : ¬ k < 60 := fun h => hlt ⟨h1, h⟩
          clear hlt
          go_wp2_with fail
          go_meet
          exact ⟨lost, I, O, L, hI'⟩
        · clear hlt
          go_wp2_with fail
          go_meet
          exact ⟨lost, I, O, L, hI'⟩
  case rest =>
    obtain ⟨lost, I, O, L, hI⟩ := hcut
    clear hinv hS hT
    obtain ⟨F, row, rfl, hoi⟩ := hI.sep.look 1 rfl
    obtain ⟨Ai, ci, rfl, _⟩ := hoi.shape
    have hil := hI.inLe
    have hmx := hI.max
    have hs := hI.sep
    have hq := hI.eq
    clear hI hoi
    go_wp2_with fail
    go_loopg [10] L.length (fun d vo wr => ∃ (O' L' : List ByteArray), L'.length = d ∧ I = O' ++ L' ∧ Sep w w.heap.size wr [qRes p L' (1 + m % 20) lost, slRes 9 1 (.slice Ai I.length ci) I.length (cellsS I), slRes 9 1 vo O'.length (cellsS O')])
    case atStart => exact ⟨O, L, rfl, hq, hs⟩
    case round =>
      obtain ⟨O', L', rfl, hq', hs'⟩ := hrel
      clear hs hq
      have hlen : O'.length + L'.length = I.length := by rw [hq', List.length_append]
      obtain ⟨F, row', rfl, hoo⟩ := hs'.look 2 rfl
      obtain ⟨Ao, co, rfl, _⟩ := hoo.shape
      clear hoo
      cases L' with
      | nil =>
        have hq2 : I = O' := by rw [hq', List.append_nil]
        subst hq2
        clear hq' hlen
        go_wp2_with (go_at_call 11; refine (len_sep hs' 0 rfl).mono ?_; rintro e w' ⟨rfl, rfl⟩)
        refine (same_sep hs' 1 2 rfl rfl).mono ?_
        rintro e w9 ⟨rfl, hs9⟩
        clear hs'
        rw [eqL_self]
        go_wp2_with fail
        refine (fixed_any _).mono ?_
        rintro e w10 ⟨rfl, ht⟩
        have hs10 := hs9.touch ht
        have Hs := Lib.hid hs10
        clear hs10 hs9 ht
        go_wp2
        go_ret
        exact ⟨rfl, Touch.of_below Hs.out.below⟩
      | cons x L' =>
        simp only [List.length_cons] at hlen
        have h1 : O'.length ≤ I.length := by omega
        have Hlen := Lib.hid hlen
        have Hq := Lib.hid hq'
        have ho1 : O'.length ≤ 100 := by omega
        clear hlen hq'
        go_wp2_with fail
        refine (len_sep hs' 0 rfl).mono ?_
        rintro e w' ⟨rfl, rfl⟩
        go_wp2_with fail
        refine (take_sep hs' 0 rfl (by have := Hlen.out; simp; omega)).mono ?_
        rintro e w7 ⟨rfl, hs7⟩
        clear hs'
        rw [show List.isEmpty (x :: L') = false from rfl, show List.headD (x :: L') ⟨#[]⟩ = x from rfl]
        have hs8 : Sep w w.heap.size w7 [qRes p L' (1 + m % 20) lost, slRes 9 1 (.slice Ai I.length ci) I.length (cellsS I), slRes 9 1 (.slice Ao O'.length co) O'.length (cellsS O')] := hs7
        clear hs7
        go_wp2_with (at_builtin; refine wpList_append_sep _ rfl (.tmp 119) (.tmp 121) 22 22 rfl 9 i0 _ 1 16 Try.underlying22 hi0 hz0 hz1 hz2 rfl (hs8.alloc _) 2 (.slice Ao O'.length co) O'.length (cellsS O') rfl rfl _ 1 [.string x] rfl (Src.one Try.underlying22 w7 _ _ rfl) (by unfold maxLen; omega) (by omega) ?_)
        intro A2 cp2 w8 hs9
        go_wp2
        go_roundg L'.length
        case measure => simp
        case rel => exact ⟨O' ++ [x], L', rfl, by rw [Hq.out]; simp, snoc_sep hs9⟩
end Go.Proofs.Ytkphcgcciiefoaa
