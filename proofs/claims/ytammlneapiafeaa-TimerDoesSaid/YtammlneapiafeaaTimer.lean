/- The methods of timer.Heap, each by what it does to alarms in order. -/
import Derived.Test.YtammlneapiafeaaOrd
import Derived.Lib.SliceRun
namespace Go.Proofs.Ytammlneapiafeaa
open Go.RowKit
theorem info_parts {P : Program} {t : TypeId} {z : Value} {n b : Nat} (h : (P.info? t).map (fun i => (i.zero, i.size, i.bytes)) = some (some z, n, b)) :
    ∃ i, P.info? t = some i ∧ i.zero = some z ∧ i.size = n ∧ i.bytes = b := by
  cases hi : P.info? t with
  | none => rw [hi] at h; cases h
  | some i => rw [hi] at h; simp at h; exact ⟨i, rfl, h.1, h.2.1, h.2.2⟩
theorem wrap_len (n : Nat) (h : n ≤ 100000) : IntKind.i64.wrap (n : Int) = n := by simp [IntKind.wrap, IntKind.signed, IntKind.bits]; omega
theorem infoAl : (Try.prog.info? 59).map (fun i => (i.zero, i.size, i.bytes)) = some (some (.agg #[.int .u64 0, .int .i64 0]), 2, 16) := by kernel_rfl
theorem infoInt : (Try.prog.info? 3).map (fun i => (i.zero, i.size, i.bytes)) = some (some (.int .i64 0), 1, 8) := by kernel_rfl
theorem cellsA_one {L : List Al} : ∀ u ∈ cellsA L, u.oneCell' = true := by
  intro u hu
  unfold cellsA at hu
  rw [List.mem_flatMap] at hu
  obtain ⟨a, _, ha⟩ := hu
  simp at ha
  rcases ha with rfl | rfl <;> rfl
theorem cellsA_snoc (L : List Al) (a : Al) : cellsA (L ++ [a]) = cellsA L ++ [.int .u64 a.1, .int .i64 a.2] := by simp [cellsA]
def cellsI (L : List Int) : List Value := L.map (.int .i64)
theorem cellsI_len (L : List Int) : (cellsI L).length = L.length := by simp [cellsI]
theorem cellsI_one {L : List Int} : ∀ u ∈ cellsI L, u.oneCell' = true := by
  intro u hu
  obtain ⟨a, _, rfl⟩ := List.mem_map.1 hu
  rfl
/-- One alarm that was just laid. -/
theorem Src.al {P : Program} {tx e' : TypeId} (hk : P.underlying tx = some (.slice e')) (w : World) (t : TypeId) (x y : Int) :
    Src P 2 tx (.slice (some ⟨w.heap.size, 0, none⟩) 1 1) 1 [.int .u64 x, .int .i64 y] (w.alloc (.cells #[.int .u64 x, .int .i64 y] t)) :=
  Src.ofSlice _ hk ⟨w.heap.size, 0, none⟩ 1 1 _ rfl (fun j u hj => by
    match j, hj with
    | 0, hj => simp at hj; subst hj; exact (Blk.new w _ _).cell 0
    | 1, hj => simp at hj; subst hj; exact (Blk.new w _ _).cell 1) (fun u hu => by simp at hu; rcases hu with rfl | rfl <;> rfl)

/-- What was written to a new row is new. -/
theorem Touch.trans_new {w w1 w2 : World} {p : Nat} {row row' : Option Nat} (h : Touch (p :: row.toList) w w1) (k : Touch row'.toList w1 w2) (hn : NewRow w row row') : Touch (p :: row.toList) w w2 :=
  ⟨k.os.trans h.os, k.tape.trans h.tape, k.output.trans h.output, Nat.le_trans h.size k.size, fun i hi hni => by
    refine (k.block i (Nat.lt_of_lt_of_le hi h.size) (fun hm => ?_)).trans (h.block i hi hni)
    rcases newRow_foot hn i hm with h' | h'
    · exact hni (List.mem_cons_of_mem _ h')
    · omega⟩
def STAt (w : World) (p : Nat) (S : List Al) (most : Int) (row : Option Nat) : Prop := ∃ M, HAt w p M most row ∧ HeapOk M ∧ M.Perm S
def TDid (w : World) (p : Nat) (row : Option Nat) (S : List Al) (most : Int) (v : Value) (e : Ending) (w' : World) : Prop :=
  ∃ row', e = .returned v ∧ STAt w' p S most row' ∧ Touch (p :: row.toList) w w' ∧ NewRow w row row'
theorem STAt.touch {w w' : World} {p : Nat} {S : List Al} {most : Int} {row : Option Nat} {T : List Nat} (h : STAt w p S most row) (ht : Touch T w w')
    (hp : p ∉ T) (hr : ∀ g, row = some g → g ∉ T) : STAt w' p S most row := by
  obtain ⟨M, h1, h2, h3⟩ := h
  exact ⟨M, h1.touch ht hp hr, h2, h3⟩
theorem STAt.drewN {w : World} {p : Nat} {S : List Al} {most : Int} {row : Option Nat} (h : STAt w p S most row) (n : Nat) : STAt (w.drewN n) p S most row := h

theorem timerNew_bad (m : Int) (w : World) (h : m < 1 ∨ 10000 < m) :
    Calls Try.prog 8 #[.int .i64 m] w fun e w' => e = .returned (.tuple #[.pointer none, .int .i64 1]) ∧ w = w' := by
  by_cases h1 : m < 1
  · go_enter Try.func8, Try.ntmps8
    go_wp2
    go_ret2
    exact ⟨rfl, rfl⟩
  · have h2 : 10000 < m := by omega
    go_enter Try.func8, Try.ntmps8
    go_wp2
    go_ret2
    exact ⟨rfl, rfl⟩
theorem timerNew_ok (m : Int) (w : World) (h1 : 1 ≤ m) (h2 : m ≤ 10000) :
    Calls Try.prog 8 #[.int .i64 m] w fun e w' => e = .returned (.tuple #[.pointer (some ⟨w.heap.size, 0, none⟩), .int .i64 0]) ∧ w.alloc (.cells #[.slice none 0 0, .int .i64 m] 56) = w' := by
  have h1' : ¬ m < 1 := by omega
  have h2' : ¬ 10000 < m := by omega
  go_enter Try.func8, Try.ntmps8
  go_wp2
  go_ret2
  exact ⟨rfl, rfl⟩
theorem STAt.new (w : World) (m : Int) : STAt (w.alloc (.cells #[.slice none 0 0, .int .i64 m] 56)) w.heap.size [] m none :=
  ⟨[], ⟨none, 0, Blk.new w _ _, Own.nil _ _ _ _⟩, fun j _ h => by simp at h, .refl _⟩

/-- What Set answers, and what there is behind it. -/
def setCode (S : List Al) (most : Int) (id : Int) : Int := if hasA S id then 6 else if most ≤ S.length then 8 else 0
def setS (S : List Al) (most : Int) (id at_ : Int) : List Al := if hasA S id then S else if most ≤ S.length then S else insS S (at_, id)
theorem setS_ok {S : List Al} (h : SOk S) (most id at_ : Int) : SOk (setS S most id at_) := by
  unfold setS
  split
  · exact h
  · rename_i h1
    split
    · exact h
    · exact h.ins (by simpa using h1)
theorem setS_len (S : List Al) (most id at_ : Int) : (setS S most id at_).length ≤ S.length + 1 := by
  unfold setS
  split
  · omega
  · split
    · omega
    · rw [insS_len]; omega
def dropCode (S : List Al) (id : Int) : Int := if hasA S id then 0 else 5

set_option maxRecDepth 100000 in
set_option maxHeartbeats 2000000 in
theorem set_any (p : Nat) (S : List Al) (most : Int) (row : Option Nat) (id at_ : Int) (w : World) (h : STAt w p S most row) (hlen : S.length ≤ 10000) :
    Calls Try.prog 9 #[.pointer (some ⟨p, 0, none⟩), .int .i64 id, .int .u64 at_] w (TDid w p row (setS S most id at_) most (.int .i64 (setCode S most id))) := by
  obtain ⟨M, hh, hok, hp⟩ := h
  have hml : M.length = S.length := hp.length_eq
  have Hml := Lib.hid hml
  have Hh := Lib.hid hh
  have Hok := Lib.hid hok
  have Hp := Lib.hid hp
  have hmn : M.length ≤ 10000 := by omega
  clear hml hok hp
  cases hs : hasA S id with
  | true =>
    have hM : hasA M id = true := (hasA_perm Hp.out id).trans hs
    obtain ⟨k, hk⟩ : ∃ k : Nat, placeA M id = k := ⟨_, rfl⟩
    have hf := (findA_yes hM).2
    rw [hk] at hf
    have Hf := Lib.hid hf
    have e1 : setS S most id at_ = S := by unfold setS; rw [if_pos hs]
    have e2 : setCode S most id = 6 := by unfold setCode; rw [if_pos hs]
    rw [e1, e2]
    clear hM hk hf e1 e2 hs
    go_enter Try.func9, Try.ntmps9
    go_wp2_with fail
    refine (find_any p M most row id (by omega) w hh).mono ?_
    rintro e w1 ⟨rfl, ht1⟩
    rw [Hf.out]
    have Ht1 := Lib.hid ht1
    clear ht1 hh
    go_wp2_with fail
    go_ret
    exact ⟨row, rfl, ⟨M, Hh.out.touch Ht1.out (by simp) (by simp), Hok.out, Hp.out⟩, Ht1.out.mono (fun _ h => by simp at h), .refl _ _⟩
  | false =>
    have hM : hasA M id = false := (hasA_perm Hp.out id).trans hs
    have Hs := Lib.hid hs
    have Hf := Lib.hid (findA_no hM)
    clear hM hs
    obtain ⟨A, c, hb, ho⟩ := hh
    by_cases hfull : most ≤ M.length
    · have e1 : setS S most id at_ = S := by unfold setS; rw [Hs.out, if_neg (by simp), if_pos (by rw [← Hml.out]; exact hfull)]
      have e2 : setCode S most id = 8 := by unfold setCode; rw [Hs.out, if_neg (by simp), if_pos (by rw [← Hml.out]; exact hfull)]
      rw [e1, e2]
      clear e1 e2
      go_enter Try.func9, Try.ntmps9
      go_wp2_with fail
      refine (find_any p M most row id (by omega) w Hh.out).mono ?_
      rintro e w1 ⟨rfl, ht1⟩
      rw [Hf.out]
      have hb1 := hb.touch ht1 (by simp)
      have hc0 : w1.cell? ⟨p, 0, none⟩ = some (.slice A M.length c) := hb1.cell 0
      have hc1 : w1.cell? ⟨p, 1, none⟩ = some (.int .i64 most) := hb1.cell 1
      have Ht1 := Lib.hid ht1
      clear ht1 hb ho hb1
      go_wp2_with fail
      go_quiet (fail)
      go_wp2_with fail
      go_ret
      have hfin : STAt w1 p S most row := ⟨M, Hh.out.touch Ht1.out (by simp) (by simp), Hok.out, Hp.out⟩
      exact ⟨row, rfl, hfin.drewN _, (Ht1.out.mono (fun _ h => by simp at h)).drewN _, .refl _ _⟩
    · have e1 : setS S most id at_ = insS S (at_, id) := by unfold setS; rw [Hs.out, if_neg (by simp), if_neg (by rw [← Hml.out]; exact hfull)]
      have e2 : setCode S most id = 0 := by unfold setCode; rw [Hs.out, if_neg (by simp), if_neg (by rw [← Hml.out]; exact hfull)]
      rw [e1, e2]
      clear e1 e2
      obtain ⟨i0, hi0, hz0, hz1, hz2⟩ := info_parts infoAl
      go_enter Try.func9, Try.ntmps9
      go_wp2_with fail
      refine (find_any p M most row id (by omega) w Hh.out).mono ?_
      rintro e w1 ⟨rfl, ht1⟩
      rw [Hf.out]
      have hb1 := hb.touch ht1 (by simp)
      have ho1 : RowAt w1 _ _ _ := Own.touch ho ht1 (by simp)
      have hc0 : w1.cell? ⟨p, 0, none⟩ = some (.slice A M.length c) := hb1.cell 0
      have hc1 : w1.cell? ⟨p, 1, none⟩ = some (.int .i64 most) := hb1.cell 1
      have Ht1 := Lib.hid ht1
      have Hb1 := Lib.hid hb1
      have Ho1 := Lib.hid ho1
      clear ht1 hb ho hb1 ho1
      go_wp2_with fail
      go_quiet (fail)
      go_wp2_with (at_builtin; refine wpList_append_Own _ rfl (.tmp 27) (.tmp 31) 54 54 rfl 59 i0 _ 2 16 Try.underlying54 hi0 hz0 hz1 hz2 rfl _ M.length (cellsA M) row rfl ((Ho1.out.drewN _).alloc _) _ 1 _ rfl (Src.al Try.underlying54 (w1.drewN _) _ at_ id) (by unfold maxLen; omega) (by omega) ?_)
      intro v' w2 row' hown' ht2 hrow2
      obtain ⟨A', c', rfl, _⟩ := hown'.shape
      have hb2 : Blk w2 p 56 #[.slice A M.length c, .int .i64 most] := ((Hb1.out.drewN _).alloc _).touch ht2 (notin_row (Own.ne_ Ho1.out Hb1.out (by decide)))
      have hc2 : w2.cell? ⟨p, 0, none⟩ = some (.slice A M.length c) := hb2.cell 0
      have hf2 : w2.frozen? ⟨p, 0, none⟩ = false := hb2.frozen 0
      have hb3 := hb2.set_ 0 (.slice A' (M.length + 1) c')
      have ho3 : Own (w2.setCell ⟨p, 0, none⟩ (.slice A' (M.length + 1) c')) 59 2 (.slice A' (M.length + 1) c') (M.length + 1) (cellsA M ++ [.int .u64 at_, .int .i64 id]) row' := hown'.far (a := ⟨p, 0, none⟩) (hown'.ne_ hb2 (by decide)) _
      have hlen3 : (M ++ [(at_, id)]).length = M.length + 1 := by simp
      have hr3 : RowAt (w2.setCell ⟨p, 0, none⟩ (.slice A' (M.length + 1) c')) (.slice A' (M.length + 1) c') (M ++ [(at_, id)]) row' := by
        unfold RowAt
        rw [hlen3, cellsA_snoc]
        exact ho3
      have ht3 : Touch (p :: row.toList) w (w2.setCell ⟨p, 0, none⟩ (.slice A' (M.length + 1) c')) := ((((Ht1.out.mono (T := p :: row.toList) (fun _ h => by simp at h)).drewN nq).alloc _).trans (ht2.mono (fun k hk _ => List.mem_cons_of_mem _ hk))).setCell (p := ⟨p, 0, none⟩) (.inl (by simp)) _
      have hrow3 : NewRow w row row' := hrow2.before (by have := Ht1.out.size; simp; omega)
      have Hb3 := Lib.hid hb3
      have Hr3 := Lib.hid hr3
      have Ht3 := Lib.hid ht3
      have Hrow3 := Lib.hid hrow3
      have Hlen3 := Lib.hid hlen3
      clear hc0 hc1 hb2 hb3 ho3 hr3 ht3 hrow3 hlen3 hown' ht2 hrow2 Hb1 Ho1
      go_wp2_with fail
      obtain ⟨w3, hw3⟩ : ∃ w3, w3 = w2.setCell ⟨p, 0, none⟩ (.slice A' (M.length + 1) c') := ⟨_, rfl⟩
      rw [← hw3]
      have hb4 : Blk w3 p 56 #[.slice A' (M.length + 1) c', .int .i64 most] := by rw [hw3]; exact Hb3.out
      have Hr4 : Hid (RowAt w3 (.slice A' (M.length + 1) c') (M ++ [(at_, id)]) row') := by rw [hw3]; exact Hr3
      have Ht4 : Hid (Touch (p :: row.toList) w w3) := by rw [hw3]; exact Ht3
      have hc4 : w3.cell? ⟨p, 0, none⟩ = some (.slice A' (M.length + 1) c') := hb4.cell 0
      have Hb4 := Lib.hid hb4
      clear hc2 hf2 hw3 Hb3 Hr3 Ht3 hb4
      have Hpr := Lib.hid (Own.ne_ Hr4.out Hb4.out (by decide))
      go_region_held3 (fun W => W.cell? ⟨p, 0, none⟩ = some (.slice A' (M.length + 1) c'))
        (first | go_keep | exact ((Hb4.out.drew.touch H4.out (notin_row Hpr.out)).cell 0))
        (first | (go_at_call 23; rw [wrap_len M.length (by omega)]; refine (up_row _ (M ++ [(at_, id)]) row' M.length (by rw [Hlen3.out]; omega) (by rw [Hlen3.out]; omega) (Hok.out.push _) _ (Own.drew Hr4.out)).mono ?_; rintro e w5 ⟨rfl, M5, h1, h2, h3, h4⟩; have H1 := Lib.hid h1; have H2 := Lib.hid h2; have H3 := Lib.hid h3; have H4 := Lib.hid h4; clear h1 h2 h3 h4))
      go_wp2_with fail
      go_ret
      have hl5 : M5.length = M.length + 1 := H2.out.length_eq.trans Hlen3.out
      refine ⟨row', rfl, ⟨M5, ⟨A', c', ?_, ?_⟩, H1.out, ?_⟩, ?_, Hrow3.out⟩
      · rw [hl5]; exact Hb4.out.drew.touch H4.out (notin_row Hpr.out)
      · rw [hl5]; exact H3.out
      · exact (H2.out.trans (List.perm_append_singleton _ _)).trans (((List.perm_cons _).2 Hp.out).trans (insS_perm _ _).symm)
      · exact Touch.trans_new Ht4.out.drew H4.out Hrow3.out
end Go.Proofs.Ytammlneapiafeaa
