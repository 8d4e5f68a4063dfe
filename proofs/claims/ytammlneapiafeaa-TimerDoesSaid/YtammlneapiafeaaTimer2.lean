/- Drop, Pop, Next, Len, Copy of timer.Heap. -/
import Derived.Test.YtammlneapiafeaaTimer
namespace Go.Proofs.Ytammlneapiafeaa
open Go.RowKit
set_option maxRecDepth 100000 in
set_option maxHeartbeats 1000000 in
theorem drop_any (p : Nat) (S : List Al) (most : Int) (row : Option Nat) (id : Int) (w : World) (h : STAt w p S most row) (hok : SOk S) (hlen : S.length ≤ 10000) :
    Calls Try.prog 14 #[.pointer (some ⟨p, 0, none⟩), .int .i64 id] w (TDid w p row (dropS S id) most (.int .i64 (dropCode S id))) := by
  obtain ⟨M, hh, hheap, hp⟩ := h
  have hml : M.length = S.length := hp.length_eq
  have hmn : M.length ≤ 10000 := by omega
  have Hh := Lib.hid hh
  have Hheap := Lib.hid hheap
  have Hp := Lib.hid hp
  clear hml hheap hp
  cases hs : hasA S id with
  | false =>
    have hM : hasA M id = false := (hasA_perm Hp.out id).trans hs
    have Hf := Lib.hid (findA_no hM)
    have e2 : dropCode S id = 5 := by unfold dropCode; rw [hs]; rfl
    rw [dropS_none hs, e2]
    clear hM hs e2
    go_enter Try.func14, Try.ntmps14
    go_wp2_with fail
    refine (find_any p M most row id (by omega) w hh).mono ?_
    rintro e w1 ⟨rfl, ht1⟩
    rw [Hf.out]
    have Ht1 := Lib.hid ht1
    clear ht1 hh
    go_wp2_with fail
    go_ret
    exact ⟨row, rfl, ⟨M, Hh.out.touch Ht1.out (by simp) (by simp), Hheap.out, Hp.out⟩, Ht1.out.mono (fun _ h => by simp at h), .refl _ _⟩
  | true =>
    have hM : hasA M id = true := (hasA_perm Hp.out id).trans hs
    obtain ⟨k, hk⟩ : ∃ k : Nat, placeA M id = k := ⟨_, rfl⟩
    obtain ⟨hkl, hf⟩ := findA_yes hM
    have hids : (M.map Prod.snd).Nodup := (Hp.out.map Prod.snd).nodup_iff.2 hok.ids
    have her := erase_place (id := id) hids
    rw [hk] at hf hkl her
    have Hf := Lib.hid hf
    have Her := Lib.hid her
    have e2 : dropCode S id = 0 := by unfold dropCode; rw [hs]; rfl
    rw [e2]
    clear hM hk hf her e2 hs hids hok
    go_enter Try.func14, Try.ntmps14
    go_wp2_with fail
    refine (find_any p M most row id (by omega) w hh).mono ?_
    rintro e w1 ⟨rfl, ht1⟩
    rw [Hf.out]
    have Ht1 := Lib.hid ht1
    clear ht1 hh
    go_wp2_with fail
    refine (remove_any p M most row k (by omega) hkl Hheap.out w1 (Hh.out.touch Ht1.out (by simp) (by simp))).mono ?_
    rintro e w2 ⟨rfl, M2, h1, h2, h3, h4⟩
    have H1 := Lib.hid h1
    have H2 := Lib.hid h2
    have H3 := Lib.hid h3
    have H4 := Lib.hid h4
    clear h1 h2 h3 h4
    go_wp2_with fail
    go_ret
    exact ⟨row, rfl, ⟨M2, H3.out, H1.out, H2.out.trans (Her.out ▸ dropS_perm Hp.out id)⟩, (Ht1.out.mono (fun _ h => by simp at h)).trans H4.out, .refl _ _⟩

/-- What Next says. -/
def nextV (S : List Al) : Value := .tuple #[.int .u64 (atA S 0).1, .bool (!S.isEmpty)]
set_option maxRecDepth 100000 in
set_option maxHeartbeats 1000000 in
theorem next_any (p : Nat) (S : List Al) (most : Int) (row : Option Nat) (w : World) (h : STAt w p S most row) (hok : SOk S) (hlen : S.length ≤ 10000) :
    Calls Try.prog 13 #[.pointer (some ⟨p, 0, none⟩)] w fun e w' => e = .returned (nextV S) ∧ w = w' := by
  obtain ⟨M, ⟨A, c, hb, ho⟩, hheap, hp⟩ := h
  cases S with
  | nil =>
    obtain rfl := hp.eq_nil
    have hc0 : w.cell? ⟨p, 0, none⟩ = some (.slice A 0 c) := hb.cell 0
    clear hb ho hp
    go_enter Try.func13, Try.ntmps13
    go_wp2_with fail
    go_ret2
    exact ⟨rfl, rfl⟩
  | cons a S =>
    obtain ⟨h0, ha, _⟩ := heap_head hheap hp hok.sorted
    have hml : M.length = S.length + 1 := hp.length_eq
    obtain ⟨g, off, c', cur, hv, hrow, hg, hc0, hnc, hcm, hcs, hx⟩ := ho.at_ h0
    injection hv with hA _ hcc
    subst hA; subst hcc
    obtain ⟨h1, h2⟩ := cellsA_at M 0 h0
    have c1 := (hg.cell _).trans (hx _ _ h1)
    rw [ha] at c1
    have hc0 : w.cell? ⟨p, 0, none⟩ = some (.slice (some ⟨g, off, none⟩) M.length c) := hb.cell 0
    have hml' : ((M.length : Int) == 0) = false := beq_false_of_ne (by omega)
    have hmn : M.length ≤ 10001 := by simp at hlen; omega
    simp only [Nat.zero_mul, Nat.add_zero] at c1
    clear hb ho hp hml hg hx h1 h2 ha hrow
    go_enter Try.func13, Try.ntmps13
    go_wp2_with fail
    go_ret2
    exact ⟨rfl, rfl⟩
theorem len_any (p : Nat) (S : List Al) (most : Int) (row : Option Nat) (w : World) (h : STAt w p S most row) :
    Calls Try.prog 11 #[.pointer (some ⟨p, 0, none⟩)] w fun e w' => e = .returned (.int .i64 S.length) ∧ w = w' := by
  obtain ⟨M, ⟨A, c, hb, ho⟩, hheap, hp⟩ := h
  have hml : M.length = S.length := hp.length_eq
  rw [hml] at hb
  have hc0 : w.cell? ⟨p, 0, none⟩ = some (.slice A S.length c) := hb.cell 0
  clear hb ho hp hml
  go_enter Try.func11, Try.ntmps11
  go_wp2_with fail
  go_ret
  exact ⟨rfl, rfl⟩

/-- A new row of the same alarms. -/
def ClonedA (L : List Al) (w : World) (e : Ending) (w' : World) : Prop :=
  ∃ v row, e = .returned v ∧ RowAt w' v L row ∧ Touch [] w w' ∧ NewRow w none row
set_option maxRecDepth 100000 in
set_option maxHeartbeats 1000000 in
theorem cloneA_any {row : Option Nat} (v : Value) (L : List Al) (w : World) (h : RowAt w v L row) (hlen : L.length ≤ 100000) :
    Calls Try.prog 25 #[v] w (ClonedA L w) := by
  have H := Lib.hid h
  obtain ⟨A, c, rfl, _⟩ := h.shape
  clear h
  obtain ⟨i0, hi0, hz0, hz1, hz2⟩ := info_parts infoAl
  cases A with
  | none =>
    have hnil := fun W : World => Lib.run_eql_slice_nil (P := Try.prog) W 54 59 none L.length c 0 0 Try.underlying54
    go_enter Try.func25, Try.ntmps25
    go_wp2
    go_ret
    have h0 : L.length = 0 := by
      rcases H.out.2 with ⟨_, _, h0, _⟩ | ⟨_, _, _, _, hv, _⟩
      · exact h0
      · injection hv with hv; cases hv
    obtain rfl := List.eq_nil_of_length_eq_zero h0
    exact ⟨_, none, rfl, Own.nil _ _ _ _, Touch.refl _ _, .refl _ _⟩
  | some a =>
    have hnil := fun W : World => Lib.run_eql_slice_nil (P := Try.prog) W 54 59 (some a) L.length c 0 0 Try.underlying54
    go_enter Try.func25, Try.ntmps25
    go_wp2_with (at_builtin; refine wpList_append_Own _ rfl (.tmp 5) (.tmp 6) 54 54 rfl 59 i0 _ 2 16 Try.underlying54 hi0 hz0 hz1 hz2 rfl _ 0 [] none rfl (Own.nil _ _ _ _) _ L.length (cellsA L) rfl ((Own.alloc H.out _).src cellsA_one Try.underlying54) ?c3 ?c4 ?_)
    case c3 => unfold maxLen; omega
    case c4 => omega
    intro v' w1 row' hown' ht hrow
    have Ho := Lib.hid hown'
    have Hrow := Lib.hid hrow
    clear hown' hrow
    go_wp2
    go_ret
    exact ⟨v', row', rfl, Ho.out, ((Touch.refl [] _).alloc _).trans ht, Hrow.out.before (by simp)⟩
/-- A new heap of the same alarms. -/
def TCopied (S : List Al) (most : Int) (w : World) (e : Ending) (w' : World) : Prop :=
  ∃ p' row', e = .returned (.pointer (some ⟨p', 0, none⟩)) ∧ STAt w' p' S most row' ∧ Touch [] w w' ∧ w.heap.size ≤ p' ∧ NewRow w none row'
set_option maxRecDepth 100000 in
set_option maxHeartbeats 1000000 in
theorem copyT_any (p : Nat) (S : List Al) (most : Int) (row : Option Nat) (w : World) (h : STAt w p S most row) (hlen : S.length ≤ 10000) :
    Calls Try.prog 20 #[.pointer (some ⟨p, 0, none⟩)] w (TCopied S most w) := by
  obtain ⟨M, ⟨A, c, hb, ho⟩, hheap, hp⟩ := h
  have hml : M.length = S.length := hp.length_eq
  have hmn : M.length ≤ 10000 := by omega
  have hc0 : w.cell? ⟨p, 0, none⟩ = some (.slice A M.length c) := hb.cell 0
  have hc1 : w.cell? ⟨p, 1, none⟩ = some (.int .i64 most) := hb.cell 1
  have Hb := Lib.hid hb
  have Ho := Lib.hid ho
  have Hheap := Lib.hid hheap
  have Hp := Lib.hid hp
  clear hb ho hheap hp hml
  go_enter Try.func20, Try.ntmps20
  go_wp2_with fail
  go_region_held3 (fun W => W.cell? ⟨p, 0, none⟩ = some (.slice A M.length c) ∧ W.cell? ⟨p, 1, none⟩ = some (.int .i64 most))
    (first | go_keep | exact ⟨(Hb.out.drew.touch H2.out List.not_mem_nil).cell 0, (Hb.out.drew.touch H2.out List.not_mem_nil).cell 1⟩)
    (first | (go_at_call 25; refine (cloneA_any _ M _ (Own.drew Ho.out) (by omega)).mono ?_; rintro e w' ⟨v, row', rfl, h1, h2, h3⟩; obtain ⟨A', c', rfl, _⟩ := h1.shape; have H1 := Lib.hid h1; have H2 := Lib.hid h2; have H3 := Lib.hid h3; clear h1 h2 h3))
  go_wp2
  go_ret
  have ht : Touch [] w w' := (Touch.refl [] w).drew.trans H2.out
  exact ⟨w'.heap.size, row', rfl, ⟨M, ⟨A', c', Blk.new _ _ _, Own.alloc H1.out _⟩, Hheap.out, Hp.out⟩, ht.alloc _, ht.size, H3.out⟩

/-- What Pop leaves: what still is there, and a new list of the ids. -/
def TPopped (p : Nat) (row : Option Nat) (T D : List Al) (most : Int) (w : World) (e : Ending) (w' : World) : Prop :=
  ∃ A c rowo, e = .returned (.slice A D.length c) ∧ STAt w' p T most row ∧ Own w' 3 1 (.slice A D.length c) D.length (cellsI (D.map Prod.snd)) rowo ∧ Touch (p :: row.toList) w w' ∧ NewRow w none rowo
theorem Own.ne_own {w : World} {e e' s s' : Nat} {v v' : Value} {n n' : Nat} {xs xs' : List Value} {row row' : Option Nat} (h : Own w e s v n xs row) (k : Own w e' s' v' n' xs' row') (hne : e ≠ e') : ∀ g, row = some g → g ∉ row'.toList := by
  intro g hg hm
  rw [Option.mem_toList] at hm
  rcases k.2 with ⟨_, _, _, hr⟩ | ⟨g', _, _, _, _, hr, hb, _⟩
  · rw [hr] at hm; cases hm
  · rw [hr] at hm; cases hm
    exact h.ne_ hb hne g hg rfl
theorem Touch.trans_new' {w w1 w2 : World} {S : List Nat} {row' : Option Nat} (h : Touch S w w1) (k : Touch row'.toList w1 w2) (hn : NewRow w none row') : Touch S w w2 :=
  ⟨k.os.trans h.os, k.tape.trans h.tape, k.output.trans h.output, Nat.le_trans h.size k.size, fun i hi hni => by
    refine (k.block i (Nat.lt_of_lt_of_le hi h.size) (fun hm => ?_)).trans (h.block i hi hni)
    rcases hn i (Option.mem_toList.1 hm) with h' | h'
    · cases h'
    · omega⟩
def sliceLen : Value → Nat | .slice _ n _ => n | _ => 0
set_option maxRecDepth 100000 in
set_option maxHeartbeats 2000000 in
theorem pop_any (p : Nat) (S : List Al) (most : Int) (row : Option Nat) (now : Int) (w : World) (h : STAt w p S most row) (hok : SOk S) (hlen : S.length ≤ 10000) :
    Calls Try.prog 10 #[.pointer (some ⟨p, 0, none⟩), .int .u64 now] w (TPopped p row (leftS S now) (goneS S now) most w) := by
  have Hok := Lib.hid hok
  have hlt : p < w.heap.size := by obtain ⟨M, hh, _, _⟩ := h; exact hh.lt
  clear hok
  obtain ⟨i0, hi0, hz0, hz1, hz2⟩ := info_parts infoInt
  go_enter Try.func10, Try.ntmps10
  go_wp2_with fail
  go_loopw [5] (fun vo wr => ∃ (D T : List Al) (A : Option Addr) (c : Nat) (rowo : Option Nat), vo = .slice A D.length c ∧ S = D ++ T ∧ (∀ a ∈ D, a.1 ≤ now) ∧ STAt wr p T most row ∧
    Own wr 3 1 (.slice A D.length c) D.length (cellsI (D.map Prod.snd)) rowo ∧ Touch (p :: row.toList) w wr ∧ NewRow w none rowo) (fun vo _ => S.length - sliceLen vo)
  case atStart => exact ⟨[], S, none, 0, none, rfl, rfl, fun _ h => by simp at h, h, Own.nil _ _ _ _, Touch.refl _ _, .refl _ _⟩
  case round =>
    obtain ⟨D, T, A, c, rowo, rfl, hS, hD, hst, hown, ht, hrow⟩ := hrel
    have hTs : T.Pairwise ltA := (Hok.out.sub (by rw [hS]; exact List.sublist_append_right D T)).sorted
    have hdl : D.length + T.length = S.length := by rw [hS, List.length_append]
    obtain ⟨M, ⟨A1, c1, hb, ho⟩, hheap, hp⟩ := hst
    have HS := Lib.hid hS
    have HD := Lib.hid hD
    have Hown := Lib.hid hown
    have Ht := Lib.hid ht
    have Hrow := Lib.hid hrow
    have Hdl := Lib.hid hdl
    have hdn : D.length ≤ 10000 := by omega
    clear hS hD hown ht hrow hdl h
    cases T with
    | nil =>
      obtain rfl := hp.eq_nil
      have hc0 : wr.cell? ⟨p, 0, none⟩ = some (.slice A1 0 c1) := hb.cell 0
      have Hb := Lib.hid hb
      have Ho := Lib.hid ho
      clear hb ho
      go_wp2_with fail
      go_ret
      obtain ⟨e1, e2⟩ := parted HS.out HD.out (fun a h => by simp at h)
      rw [e1, e2]
      exact ⟨A, c, rowo, rfl, ⟨[], ⟨A1, c1, Hb.out, Ho.out⟩, hheap, .refl _⟩, Hown.out, Ht.out, Hrow.out⟩
    | cons a T =>
      obtain ⟨h0, ha, her⟩ := heap_head hheap hp hTs
      have hmn : M.length ≤ 10000 := by have := hp.length_eq; have := Hdl.out; simp at *; omega
      obtain ⟨g, off, c', cur, hv, hrw, hg, hcc0, hnc, hcm, hcs, hx⟩ := ho.at_ h0
      injection hv with hA _ hcc
      subst hA; subst hcc
      obtain ⟨h1, h2⟩ := cellsA_at M 0 h0
      have ca1 := (hg.cell _).trans (hx _ _ h1)
      have ca2 : wr.cell? ⟨g, off + 0 * 2 + 1, none⟩ = _ := (hg.cell _).trans (hx _ _ h2)
      rw [ha] at ca1 ca2
      simp only [Nat.zero_mul, Nat.add_zero] at ca1 ca2
      have hc0 : wr.cell? ⟨p, 0, none⟩ = some (.slice (some ⟨g, off, none⟩) M.length c1) := hb.cell 0
      have Hb := Lib.hid hb
      have Ho := Lib.hid ho
      have Hp := Lib.hid hp
      have Her := Lib.hid her
      have Hheap := Lib.hid hheap
      have HTs := Lib.hid hTs
      have Hrw := Lib.hid hrw
      clear hb ho hp her hheap hTs hg hx h1 h2 ha hrw
      by_cases hle : a.1 ≤ now
      · have hle' : decide (a.1 ≤ now) = true := decide_eq_true hle
        go_wp2_with (at_builtin; refine wpList_append_Own _ rfl (.tmp 23) (.tmp 31) 31 31 rfl 3 i0 _ 1 8 Try.underlying31 hi0 hz0 hz1 hz2 rfl _ D.length (cellsI (D.map Prod.snd)) rowo rfl (Hown.out.alloc _) _ 1 [.int .i64 a.2] rfl (Src.one Try.underlying31 wr _ _ rfl) (by unfold maxLen; omega) (by omega) ?_)
        intro v' w2 row' hown' ht2 hrow2
        obtain ⟨A', c', rfl, _⟩ := hown'.shape
        have hpo : p ∉ rowo.toList := notin_row (Hown.out.ne_ Hb.out (by decide))
        have hro : ∀ g', row = some g' → g' ∉ rowo.toList := Own.ne_own Ho.out Hown.out (by decide)
        have hh2 : HAt w2 p M most row := ⟨_, c1, (Hb.out.alloc _).touch ht2 hpo, Own.touch (Own.alloc Ho.out _) ht2 hro⟩
        have ht3 : Touch (p :: row.toList) w w2 := Touch.trans_new' (Ht.out.alloc _) ht2 Hrow.out
        have hrow3 : NewRow w none row' := Hrow.out.trans hrow2 (by have := Ht.out.size; simp; omega)
        have Hh2 := Lib.hid hh2
        have Ht3 := Lib.hid ht3
        have Hrow3 := Lib.hid hrow3
        have Hown2 := Lib.hid hown'
        clear hpo hro hh2 ht3 hrow3 hown' ht2 hrow2 ca1 ca2 hc0
        go_wp2_with fail
        refine (remove_any p M most row 0 (by omega) h0 Hheap.out w2 Hh2.out).mono ?_
        rintro e w3 ⟨rfl, M3, h1, h2, h3, h4⟩
        have H1 := Lib.hid h1
        have H2 := Lib.hid h2
        have H3 := Lib.hid h3
        have H4 := Lib.hid h4
        clear h1 h2 h3 h4
        go_wp2_with fail
        go_roundw
        case rel =>
          have hlen1 : (D ++ [a]).length = D.length + 1 := by simp
          refine ⟨D ++ [a], T, A', c', row', by rw [hlen1], by rw [HS.out]; simp, fun b hb => ?_, ⟨M3, H3.out, H1.out, H2.out.trans Her.out⟩, ?_, Ht3.out.trans H4.out, Hrow3.out⟩
          · rcases List.mem_append.1 hb with hb | hb
            · exact HD.out b hb
            · rw [List.mem_singleton.1 hb]; exact hle
          · rw [hlen1, show cellsI ((D ++ [a]).map Prod.snd) = cellsI (D.map Prod.snd) ++ [.int .i64 a.2] by simp [cellsI]]
            refine Own.touch Hown2.out H4.out (fun g' hg' hm => ?_)
            rcases List.mem_cons.1 hm with rfl | hm
            · have := Hrow3.out _ hg'
              rcases this with h | h
              · cases h
              · exact absurd hlt (Nat.not_lt.2 h)
            · exact Own.ne_own Hown2.out (Hh2.out.choose_spec.choose_spec.2) (by decide) g' hg' hm
        case measure => have := Hdl.out; rw [List.length_cons] at this; simp [sliceLen]; omega
      · have hgt : decide (a.1 ≤ now) = false := decide_eq_false hle
        go_wp2_with fail
        go_ret
        obtain ⟨e1, e2⟩ := parted HS.out HD.out (fun b hb => by
          rcases List.mem_cons.1 hb with rfl | hb
          · omega
          · have := (List.pairwise_cons.1 HTs.out).1 b hb
            unfold ltA at this
            omega)
        rw [e1, e2]
        exact ⟨A, c, rowo, rfl, ⟨M, ⟨_, c1, Hb.out, Ho.out⟩, Hheap.out, Hp.out⟩, Hown.out, Ht.out, Hrow.out⟩
end Go.Proofs.Ytammlneapiafeaa
