/- The document's table: Ask, Done. -/
import Derived.Test.YtehbfoiadinhbaaRfNew
namespace Go.Proofs.Ytehbfoiadinhbaa
open Go Go.RowKit
theorem RfAt.same {rs : List Res} {i j q : Nat} {c : Cf} {A : Option Addr} {cap : Nat} {S : List Al} {T : Int → Int} (h : RfAt rs i j q c A cap S T) : setRf rs i j q c A cap S T = rs := by
  unfold setRf
  rw [set_self h.b, set_self h.r]
theorem rf_cells {w0 w : World} {B : Nat} {rs : List Res} (h : Sep w0 B w rs) {i q : Nat} {c : Cf} {v : Value} (hi : rs[i]? = some (rqRes q c v)) :
    w.cell? ⟨q, 0, none⟩ = some (.int .u64 c.base) ∧ w.cell? ⟨q, 1, none⟩ = some (.int .u64 c.most) ∧ w.cell? ⟨q, 2, none⟩ = some (.int .u64 c.span) ∧ w.cell? ⟨q, 3, none⟩ = some (.int .i64 c.tries) ∧ w.cell? ⟨q, 4, none⟩ = some (.int .i64 c.room) ∧ w.cell? ⟨q, 5, none⟩ = some v :=
  ⟨(rf_blk h hi).cell 0, (rf_blk h hi).cell 1, (rf_blk h hi).cell 2, (rf_blk h hi).cell 3, (rf_blk h hi).cell 4, (rf_blk h hi).cell 5⟩
set_option maxRecDepth 100000 in
set_option maxHeartbeats 2000000 in
theorem rfAsk_sep {w w0 : World} {B : Nat} {rs : List Res} {i j q : Nat} {c : Cf} {A : Option Addr} {cap : Nat} {S : List Al} {T : Int → Int} (hsep : Sep w0 B w rs) (hrf : RfAt rs i j q c A cap S T) (hc : CfT c)
    (hlen : S.length ≤ 10000) (id now draw : Int) (hnow : 0 ≤ now ∧ now < 18446744073709551616) (hdraw : 0 ≤ draw ∧ draw < 18446744073709551616) :
    Calls Try.prog 21 #[.pointer (some ⟨q, 0, none⟩), .int .i64 id, .int .u64 now, .int .u64 draw] w fun e w' =>
      e = .returned (.int .i64 (setCode S c.room id)) ∧ ∃ A' cap', Sep w0 B w' (setRf rs i j q c A' cap' (askS S c id now draw) (askT S T c.room id)) := by
  have Hr := Lib.hid hrf
  have Hs := Lib.hid hsep
  have HW := Lib.hid (fun W => rfWait_any c hc 0 draw (by omega) hdraw W)
  have HA := Lib.hid (fun W => rfAdd_t hnow (waitV_rng hc (k := 0) hdraw.1 hdraw.2) W)
  have hcq : w.cell? ⟨q, 5, none⟩ = some (.slice A S.length cap) := rf_cell hsep hrf.b
  clear hsep hrf hc hnow hdraw
  go_enter Try.func21, Try.ntmps21
  go_wp2_with fail
  go_loopw [9] (fun vi wr => ∃ k : Nat, k ≤ S.length ∧ vi = .int .i64 k ∧ hasA (S.take k) id = false ∧ wr = w) (fun vi _ => S.length - (intOf vi).toNat)
  case atStart => exact ⟨0, by omega, rfl, rfl, rfl⟩
  case round =>
    obtain ⟨k, hk, rfl, hno, rfl⟩ := hrel
    have Hno := Lib.hid hno
    clear hno
    by_cases hkl : k < S.length
    · obtain ⟨g, off, rfl, hnc, c3, c4, c5⟩ := Hs.out.req j Hr.out.r hkl
      have Hn : Hid ((atA S k).2 ≠ id → hasA (S.take (k + 1)) id = false) := Lib.hid (hasA_take hkl id Hno.out)
      have Hy : Hid ((atA S k).2 = id → hasA S id = true) := Lib.hid (fun e => (hasA_iff S id).2 (List.mem_map.2 ⟨_, (by rw [atA_get hkl]; exact List.getElem_mem hkl), e⟩))
      obtain ⟨x, hx⟩ : ∃ x, x = atA S k := ⟨_, rfl⟩
      rw [← hx] at c3 Hn Hy
      clear hx Hno c4 c5
      by_cases hid : x.2 = id
      · have hb : (x.2 == id) = true := beq_iff_eq.2 hid
        have hh := Hy.out hid
        have hcd : setCode S c.room id = 6 := by unfold setCode; rw [if_pos hh]
        have E1 : Hid (askS S c id now draw = S ∧ setCode S c.room id = 6 ∧ askT S T c.room id = T) := Lib.hid ⟨setS_not (by omega), hcd, by unfold askT; rw [if_neg (by omega)]⟩
        clear hid Hy Hn hh hcd
        go_wp2_with fail
        go_ret
        rw [E1.out.1, E1.out.2.1, E1.out.2.2]
        exact ⟨rfl, _, _, by rw [Hr.out.same]; exact Hs.out⟩
      · have hb : (x.2 == id) = false := beq_false_of_ne hid
        have Hn' := Lib.hid (Hn.out hid)
        clear hid Hy Hn
        go_wp2_with fail
        go_roundw
        case rel => exact ⟨k + 1, by omega, by go_num, Hn'.out, trivial⟩
        case measure => simp [intOf]; omega
    · obtain rfl : k = S.length := by omega
      rw [List.take_length] at Hno
      obtain ⟨a0, a1, a2, a3, a4, a5⟩ := rf_cells Hs.out Hr.out.b
      by_cases hfull : c.room ≤ S.length
      · have hcd : setCode S c.room id = 8 := by unfold setCode; rw [if_neg (by rw [Hno.out]; simp), if_pos hfull]
        have E1 : Hid (askS S c id now draw = S ∧ setCode S c.room id = 8 ∧ askT S T c.room id = T) := Lib.hid ⟨setS_not (by omega), hcd, by unfold askT; rw [if_neg (by omega)]⟩
        clear hcd
        go_wp2_with fail
        go_quiet (fail)
        go_wp2_with fail
        go_ret
        rw [E1.out.1, E1.out.2.1, E1.out.2.2]
        exact ⟨rfl, _, _, by rw [Hr.out.same]; exact Hs.out.drewN _⟩
      · have hcd : setCode S c.room id = 0 := by unfold setCode; rw [if_neg (by rw [Hno.out]; simp), if_neg hfull]
        have E1 : Hid (askS S c id now draw = insS S (addS now (waitV c 0 draw), id) ∧ setCode S c.room id = 0 ∧ askT S T c.room id = upd T id 1) := Lib.hid ⟨setS_yes hcd, hcd, by unfold askT; rw [if_pos hcd]⟩
        have Hni : Hid (id ∉ idsA S) := Lib.hid (fun h => by have := hasA_mem.2 h; rw [Hno.out] at this; cases this)
        clear hcd Hno
        go_wp2_with fail
        go_quiet (fail)
        go_wp2_with fail
        refine (HW.out _).mono ?_
        rintro e w2 ⟨rfl, ht2⟩
        have Hs2 := Lib.hid ((Hs.out.drewN nq).touch ht2)
        clear ht2 Hs a0 a1 a2 a3 a4 a5 hcq
        go_wp2_with fail
        refine (HA.out _).mono ?_
        rintro e w3 ⟨rfl, ht3⟩
        have Hs3 := Lib.hid (Hs2.out.touch ht3)
        clear ht3 Hs2
        go_wp2_with fail
        refine (put_sep Hs3.out Hr.out id 1 (addS now (waitV c 0 draw)) hlen Hni.out).mono ?_
        rintro e w4 ⟨rfl, A', cap', hs4⟩
        have Hs4 := Lib.hid hs4
        clear hs4 Hs3
        go_wp2_with fail
        go_ret
        rw [E1.out.1, E1.out.2.1, E1.out.2.2]
        exact ⟨rfl, A', cap', Hs4.out⟩
end Go.Proofs.Ytehbfoiadinhbaa
