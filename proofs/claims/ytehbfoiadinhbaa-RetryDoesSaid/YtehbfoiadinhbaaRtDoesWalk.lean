/- RetryDoes: the walk. -/
import Derived.Test.YtehbfoiadinhbaaRtCopy
import Derived.Test.YtehbfoiadinhbaaRfDue
namespace Go.Proofs.Ytehbfoiadinhbaa
open Go Go.RowKit
theorem due_fold2 (c : Cf) (hc : c.tries ≤ 1000) (now draw : Int) (L : List Int) : ∀ (d : DS), (∀ a, 0 ≤ d.T a ∧ d.T a ≤ 1000) →
    (∀ a, 0 ≤ (L.foldl (dueStep c now draw) d).T a ∧ (L.foldl (dueStep c now draw) d).T a ≤ 1000) ∧ ∀ a, a ∈ idsA (L.foldl (dueStep c now draw) d).S → a ∈ L ∨ a ∈ idsA d.S := by
  induction L with
  | nil => exact fun d h => ⟨h, fun a ha => .inr ha⟩
  | cons x L ih =>
    intro d h
    rw [List.foldl_cons]
    by_cases hx : c.tries ≤ d.T x
    · rw [dueStep_lost hx]
      obtain ⟨h1, h2⟩ := ih ⟨d.S, d.T, d.ag, d.lo ++ [x]⟩ h
      exact ⟨h1, fun a ha => (h2 a ha).elim (fun h => .inl (List.mem_cons_of_mem _ h)) .inr⟩
    · rw [dueStep_again hx]
      obtain ⟨h1, h2⟩ := ih ⟨insS d.S (addS now (waitV c (d.T x) draw), x), upd d.T x (d.T x + 1), d.ag ++ [x], d.lo⟩ (upd_rng h (by have := h x; omega))
      refine ⟨h1, fun a ha => (h2 a ha).elim (fun h => .inl (List.mem_cons_of_mem _ h)) fun h => ?_⟩
      rcases List.mem_cons.1 ((insS_ids d.S _).mem_iff.2 h) with h | h
      · exact .inl (by rw [h]; exact List.mem_cons_self)
      · exact .inr h
/-- What stays so of a table's list. -/
structure LiI (S : List Al) (T : Int → Int) : Prop where
  t : ∀ a, 0 ≤ T a ∧ T a ≤ 1000
  i : ∀ a, a ∈ idsA S → -9223372036854775808 ≤ a ∧ a ≤ 9223372036854775807
theorem LiI.start : LiI [] T0 := ⟨htT0, fun a h => by simp [idsA] at h⟩
section
variable {S : List Al} {T : Int → Int}
theorem LiI.ask (h : LiI S T) (c : Cf) {id : Int} (hid : -9223372036854775808 ≤ id ∧ id ≤ 9223372036854775807) (now draw : Int) : LiI (askS S c id now draw) (askT S T c.room id) :=
  ⟨ask_rng h.t, fun a ha => (ids_ask ha).elim (fun e => e ▸ hid) (h.i a)⟩
theorem LiI.drop (h : LiI S T) (id : Int) : LiI (dropS S id) T := ⟨h.t, fun a ha => h.i a (by
  obtain ⟨b, hb, he⟩ := List.mem_map.1 ha
  exact List.mem_map.2 ⟨b, (List.mem_filter.1 hb).1, he⟩)⟩
theorem LiI.due (h : LiI S T) {c : Cf} (hc : c.tries ≤ 1000) (now draw : Int) : LiI (dueAll c now draw S T).S (dueAll c now draw S T).T := by
  obtain ⟨h1, h2⟩ := due_fold2 c hc now draw (idsA (goneS S now)) ⟨leftS S now, T, [], []⟩ h.t
  refine ⟨h1, fun a ha => h.i a ?_⟩
  have hp := ((gone_left S now).map Prod.snd).mem_iff (a := a)
  rw [List.map_append, List.mem_append] at hp
  exact hp.2 (h2 a ha)
end
/-- The copy stands for the old one. -/
theorem Sep.copied {w w0 : World} {B : Nat} {a b c d e f x y z t : Res} (h : Sep w0 B w [a, b, c, d, e, f, x, y, z, t]) : Sep w0 B w [d, e, f, a, b, c, t] :=
  h.sel (fun k => [3, 4, 5, 0, 1, 2, 9].getD k 0) (fun i r hr => by
    match i, hr with
    | 0, hr => exact hr
    | 1, hr => exact hr
    | 2, hr => exact hr
    | 3, hr => exact hr
    | 4, hr => exact hr
    | 5, hr => exact hr
    | 6, hr => exact hr
    | i + 7, hr => simp at hr) (fun i j hi hj hne => by
    have h7 : ∀ i j : Fin 7, i ≠ j → [3, 4, 5, 0, 1, 2, 9].getD i.val 0 ≠ [3, 4, 5, 0, 1, 2, 9].getD j.val 0 := by decide
    exact h7 ⟨i, hi⟩ ⟨j, hj⟩ (fun e => hne (by injection e)))
/-- The script that was handed in. -/
structure Scr (W : World) (A : Option Addr) (n : Nat) : Prop where
  at_ : ∀ k, k < n → ∃ g o kd id now draw, A = some ⟨g, o, none⟩ ∧ g < W.heap.size ∧ W.cell? ⟨g, o + k * 4, none⟩ = some (.int .i64 kd) ∧ W.cell? ⟨g, o + k * 4 + 1, none⟩ = some (.int .i64 id) ∧
    W.cell? ⟨g, o + k * 4 + 2, none⟩ = some (.int .u64 now) ∧ W.cell? ⟨g, o + k * 4 + 3, none⟩ = some (.int .u64 draw) ∧ (-9223372036854775808 ≤ id ∧ id ≤ 9223372036854775807) ∧ (0 ≤ now ∧ now < 18446744073709551616) ∧ (0 ≤ draw ∧ draw < 18446744073709551616)
set_option maxRecDepth 100000 in
set_option maxHeartbeats 1000000 in
theorem rdoes_bad (c : Cf) (hc : ¬ cfOk c) (A : Option Addr) (n cp : Nat) (wA : World) :
    Calls Try.prog 7 #[cfV c, .slice A n cp] wA fun e w' => e = .returned (.bool true) ∧ Touch [] wA w' := by
  have HN := Lib.hid (fun W => newR_no c hc W)
  have HF := Lib.hid (fun W => rfNew_no c hc W)
  have HC := Lib.hid (fun W => conf_any c W)
  have hs0 := ((Sep.start wA).add (w' := wA.alloc (.cells (cfC c).toArray 24)) (r := blkRes wA.heap.size 24 (cfC c).toArray) (F := [wA.heap.size]) ⟨rfl, Blk.new _ _ _⟩ ((Touch.refl _ _).alloc _) (by simp))
  have Hs0 := Lib.hid hs0
  unfold cfV at *
  clear hc hs0
  go_enter Try.func7, Try.ntmps7
  go_wp2_with fail
  refine (HN.out _).mono ?_
  rintro e w1 ⟨rfl, ht⟩
  have Hs1 := Lib.hid (Hs0.out.touch ht)
  obtain ⟨a0, a1, a2, a3, a4⟩ := cfg_cells Hs1.out 0 rfl
  clear ht Hs0
  go_wp2_with fail
  refine (HC.out _).mono ?_
  rintro e w2 ⟨rfl, ht⟩
  have Hs2 := Lib.hid (Hs1.out.touch ht)
  clear ht Hs1 a0 a1 a2 a3 a4
  go_wp2_with fail
  refine (HF.out _).mono ?_
  rintro e w3 ⟨rfl, ht⟩
  have Hs3 := Lib.hid (Hs2.out.touch ht)
  clear ht Hs2
  go_wp2_with fail
  refine wp_loop_rounds 1 ?_; rw [rounds_succ]
  go_wp2_with fail
  refine (fixed_any _).mono ?_
  rintro e w4 ⟨rfl, ht⟩
  have Ht := Lib.hid (Hs3.out.touch ht)
  clear ht
  go_wp2_with fail
  go_ret
  exact ⟨rfl, Touch.of_below Ht.out.below⟩
set_option maxRecDepth 100000 in
set_option maxHeartbeats 4000000 in
theorem rdoes_good (c : Cf) (hc : CfT c) (ho : cfOk c) (A : Option Addr) (n cp : Nat) (wA : World) (hS : Scr wA A n) :
    Calls Try.prog 7 #[cfV c, .slice A n cp] wA fun e w' => e = .returned (.bool true) ∧ Touch [] wA w' := by
  have HS := Lib.hid hS
  have Hc := Lib.hid hc
  have Ho := Lib.hid ho
  have HN := Lib.hid (fun (w : World) (rs : List Res) (h : Sep wA wA.heap.size w rs) => newR_yes h c ho)
  have HF := Lib.hid (fun (w : World) (rs : List Res) (h : Sep wA wA.heap.size w rs) => rfNew_yes h c ho)
  have HC := Lib.hid (fun W => conf_any c W)
  have hs0 := ((Sep.start wA).add (w' := wA.alloc (.cells (cfC c).toArray 24)) (r := blkRes wA.heap.size 24 (cfC c).toArray) (F := [wA.heap.size]) ⟨rfl, Blk.new _ _ _⟩ ((Touch.refl _ _).alloc _) (by simp))
  have Hs0 := Lib.hid hs0
  obtain ⟨V, hV⟩ : ∃ V, V = cfV c := ⟨_, rfl⟩
  have hV2 : V = .agg #[.int .u64 c.base, .int .u64 c.most, .int .u64 c.span, .int .i64 c.tries, .int .i64 c.room] := hV
  unfold cfV
  clear hc ho hS hs0 hV hV2
  go_enter Try.func7, Try.ntmps7
  go_wp2_with fail
  refine (HN.out _ _ Hs0.out).mono ?_
  rintro e w1 ⟨pt, pm, ph, rfl, hs1⟩
  have Hs1 := Lib.hid hs1
  obtain ⟨a0, a1, a2, a3, a4⟩ := cfg_cells Hs1.out 3 rfl
  clear hs1 Hs0 HN
  go_wp2_with fail
  refine (HC.out _).mono ?_
  rintro e w2 ⟨rfl, ht⟩
  have Hs2 := Lib.hid (Hs1.out.touch ht)
  clear ht Hs1 a0 a1 a2 a3 a4
  go_wp2_with fail
  refine (HF.out _ _ Hs2.out).mono ?_
  rintro e w3 ⟨q, rfl, hs3⟩
  have Hs3 := Lib.hid hs3
  clear hs3 Hs2 HF
  go_wp2_with fail
  go_loopw [5, 9] (fun v5 v9 wr => ∃ (k pt pm ph : Nat) (S : List Al) (T : Int → Int) (A' : Option Addr) (c' : Nat), k ≤ n ∧ k ≤ 40 ∧ v9 = .int .i64 k ∧ v5 = .pointer (some ⟨pt, 0, none⟩) ∧ LiI S T ∧
    Sep wA wA.heap.size wr [rqRes q c (.slice A' S.length c'), rowQ (.slice A' S.length c') S T, tbRes pt c pm ph, mapRes pm (idsA S) T, hRes ph S c.room, blkRes wA.heap.size 24 (cfC c).toArray]) (fun _ v9 _ => 40 - (intOf v9).toNat)
  case atStart => exact ⟨0, pt, pm, ph, [], T0, none, 0, by omega, by omega, rfl, rfl, LiI.start, Hs3.out⟩
  case round =>
    obtain ⟨k, pt, pm, ph, S, T, A', c', hkn, hk40, rfl, rfl, hI, hs⟩ := hrel
    have HI := Lib.hid hI
    have Hs := Lib.hid hs
    clear Hs3 hI
    by_cases hlt : k < n ∧ k < 40
    · obtain ⟨hl1, hl2⟩ := hlt
      obtain ⟨g, o, kd, id, now, draw, rfl, hg, f0, f1, f2, f3, hid, hnow, hdraw⟩ := HS.out.at_ k hl1
      have e0 : wr.cell? ⟨g, o + k * 4, none⟩ = some (.int .i64 kd) := (hs.below.cell (p := ⟨g, _, none⟩) hg).trans f0
      have e1 : wr.cell? ⟨g, o + k * 4 + 1, none⟩ = some (.int .i64 id) := (hs.below.cell (p := ⟨g, _, none⟩) hg).trans f1
      have e2 : wr.cell? ⟨g, o + k * 4 + 2, none⟩ = some (.int .u64 now) := (hs.below.cell (p := ⟨g, _, none⟩) hg).trans f2
      have e3 : wr.cell? ⟨g, o + k * 4 + 3, none⟩ = some (.int .u64 draw) := (hs.below.cell (p := ⟨g, _, none⟩) hg).trans f3
      have Hid := Lib.hid hid
      have Hnow := Lib.hid hnow
      have Hdraw := Lib.hid hdraw
      clear f0 f1 f2 f3 hg hid hnow hdraw hs
      go_upto_region 9 with fail
      have hs3 := Hs.out.add (w' := wr.alloc (.cells #[.int .i64 kd, .int .i64 id, .int .u64 now, .int .u64 draw] 57)) (r := blkRes wr.heap.size 57 #[.int .i64 kd, .int .i64 id, .int .u64 now, .int .u64 draw]) (F := [wr.heap.size]) ⟨rfl, Blk.new _ _ _⟩ ((Touch.refl _ _).alloc _) (by simp)
      obtain ⟨gx, hgx⟩ : ∃ gx, gx = wr.heap.size := ⟨_, rfl⟩
      obtain ⟨w4, hw4⟩ : ∃ w4, w4 = wr.alloc (.cells #[.int .i64 kd, .int .i64 id, .int .u64 now, .int .u64 draw] 57) := ⟨_, rfl⟩
      rw [← hgx, ← hw4] at hs3 ⊢
      have d0 : w4.cell? ⟨gx, 0, none⟩ = some (.int .i64 kd) := (hs3.blkAt 0 rfl).cell 0
      have d1 : w4.cell? ⟨gx, 1, none⟩ = some (.int .i64 id) := (hs3.blkAt 0 rfl).cell 1
      have d2 : w4.cell? ⟨gx, 2, none⟩ = some (.int .u64 now) := (hs3.blkAt 0 rfl).cell 2
      have d3 : w4.cell? ⟨gx, 3, none⟩ = some (.int .u64 draw) := (hs3.blkAt 0 rfl).cell 3
      have Hs3 := Lib.hid hs3
      clear hgx hw4 e0 e1 e2 e3 Hs hs3 HS
      have Hrm := Lib.hid (show c.room ≤ 10000 from Ho.out.2.2.2.2.2.2.2)
      have Htr := Lib.hid (show c.tries ≤ 1000 from Ho.out.2.2.2.2.2.1)
      have Hln := Lib.hid (show S.length ≤ 10000 from by have := (Hs3.out.ids (⟨rfl, rfl, rfl⟩ : TabAt _ 3 pt pm ph c S T)).2.1; have := Hrm.out; omega)
      have Hok := Lib.hid (Hs3.out.ids (⟨rfl, rfl, rfl⟩ : TabAt _ 3 pt pm ph c S T)).1
      go_upto_block 2 with fail
      go_cut [5, 11] (fun v5 v11 wx => ∃ (pt pm ph : Nat) (S : List Al) (T : Int → Int) (A' : Option Addr) (c' : Nat), v5 = .pointer (some ⟨pt, 0, none⟩) ∧ v11 = .bool true ∧ LiI S T ∧
        Sep wA wA.heap.size wx [blkRes gx 57 #[.int .i64 kd, .int .i64 id, .int .u64 now, .int .u64 draw], rqRes q c (.slice A' S.length c'), rowQ (.slice A' S.length c') S T, tbRes pt c pm ph, mapRes pm (idsA S) T, hRes ph S c.room, blkRes wA.heap.size 24 (cfC c).toArray])
      case first =>
        by_cases h0 : kd = 0
        · subst h0
          have HA := Lib.hid (fun (w : World) (h : Sep wA wA.heap.size w _) => ask_sep (i := 3) h (⟨rfl, rfl, rfl⟩ : TabAt [blkRes gx 57 #[.int .i64 0, .int .i64 id, .int .u64 now, .int .u64 draw], rqRes q c (.slice A' S.length c'), rowQ (.slice A' S.length c') S T, tbRes pt c pm ph, mapRes pm (idsA S) T, hRes ph S c.room, blkRes wA.heap.size 24 (cfC c).toArray] 3 pt pm ph c S T) Hc.out Hrm.out id now draw Hid.out Hnow.out Hdraw.out)
          have HB := Lib.hid (fun (w : World) (a b d : Res) (h : Sep wA wA.heap.size w [blkRes gx 57 #[.int .i64 0, .int .i64 id, .int .u64 now, .int .u64 draw], rqRes q c (.slice A' S.length c'), rowQ (.slice A' S.length c') S T, a, b, d, blkRes wA.heap.size 24 (cfC c).toArray]) => rfAsk_sep (i := 1) (j := 2) h ⟨rfl, rfl, by decide⟩ Hc.out Hln.out id now draw Hnow.out Hdraw.out)
          have HI2 := Lib.hid (HI.out.ask c Hid.out now draw)
          obtain ⟨S', hS'⟩ : ∃ S', S' = askS S c id now draw := ⟨_, rfl⟩
          obtain ⟨T', hT'⟩ : ∃ T', T' = askT S T c.room id := ⟨_, rfl⟩
          obtain ⟨z, hz⟩ : ∃ z, z = setCode S c.room id := ⟨_, rfl⟩
          rw [← hS', ← hT'] at HI2
          rw [← hS', ← hT', ← hz] at HA HB
          have heq : ((z : Int) == z) = true := by simp
          clear hS' hT' hz
          go_wp2_with fail
          go_region_held3 (fun W => W.cell? ⟨gx, 1, none⟩ = some (.int .i64 id) ∧ W.cell? ⟨gx, 2, none⟩ = some (.int .u64 now) ∧ W.cell? ⟨gx, 3, none⟩ = some (.int .u64 draw))
            (first | go_keep | exact ⟨(hs5.blkAt 0 rfl).cell 1, (hs5.blkAt 0 rfl).cell 2, (hs5.blkAt 0 rfl).cell 3⟩ | exact ⟨(hs4.blkAt 0 rfl).cell 1, (hs4.blkAt 0 rfl).cell 2, (hs4.blkAt 0 rfl).cell 3⟩)
            (first | (go_at_call 10; refine (HA.out _ Hs3.out.drew).mono ?_; rintro e w5 ⟨rfl, hs4⟩) | (go_at_call 21; refine (HB.out _ _ _ _ hs4).mono ?_; rintro e w6 ⟨rfl, A2, c2, hs5⟩))
          rename_i hHeld
          clear hHeld
          go_wp2_with fail
          go_meet
          exact ⟨pt, pm, ph, S', T', A2, c2, rfl, rfl, HI2.out, hs5⟩
        · by_cases h1 : kd = 1
          · subst h1
            have HA := Lib.hid (fun (w : World) (h : Sep wA wA.heap.size w _) => done_sep (i := 3) h (⟨rfl, rfl, rfl⟩ : TabAt [blkRes gx 57 #[.int .i64 1, .int .i64 id, .int .u64 now, .int .u64 draw], rqRes q c (.slice A' S.length c'), rowQ (.slice A' S.length c') S T, tbRes pt c pm ph, mapRes pm (idsA S) T, hRes ph S c.room, blkRes wA.heap.size 24 (cfC c).toArray] 3 pt pm ph c S T) id Hid.out)
            have HB := Lib.hid (fun (w : World) (a b d : Res) (h : Sep wA wA.heap.size w [blkRes gx 57 #[.int .i64 1, .int .i64 id, .int .u64 now, .int .u64 draw], rqRes q c (.slice A' S.length c'), rowQ (.slice A' S.length c') S T, a, b, d, blkRes wA.heap.size 24 (cfC c).toArray]) => rfDone_sep (i := 1) (j := 2) h ⟨rfl, rfl, by decide⟩ Hln.out id)
            have HI2 := Lib.hid (HI.out.drop id)
            obtain ⟨S', hS'⟩ : ∃ S', S' = dropS S id := ⟨_, rfl⟩
            obtain ⟨z, hz⟩ : ∃ z, z = dropCode S id := ⟨_, rfl⟩
            rw [← hS'] at HI2
            rw [← hS', ← hz] at HA HB
            have heq : ((z : Int) == z) = true := by simp
            clear hS' hz h0
            go_wp2_with fail
            go_region_held3 (fun W => W.cell? ⟨gx, 1, none⟩ = some (.int .i64 id))
              (first | go_keep | exact (hs5.blkAt 0 rfl).cell 1 | exact (hs4.blkAt 0 rfl).cell 1)
              (first | (go_at_call 17; refine (HA.out _ Hs3.out.drew).mono ?_; rintro e w5 ⟨rfl, hs4⟩) | (go_at_call 22; refine (HB.out _ _ _ _ hs4).mono ?_; rintro e w6 ⟨rfl, A2, c2, hs5⟩))
            rename_i hHeld
            clear hHeld
            go_wp2_with fail
            go_meet
            exact ⟨pt, pm, ph, S', T, A2, c2, rfl, rfl, HI2.out, hs5⟩
          · by_cases h2 : kd = 2
            · subst h2
              have HA := Lib.hid (fun (w : World) (h : Sep wA wA.heap.size w _) => due_sep (i := 3) h (⟨rfl, rfl, rfl⟩ : TabAt [blkRes gx 57 #[.int .i64 2, .int .i64 id, .int .u64 now, .int .u64 draw], rqRes q c (.slice A' S.length c'), rowQ (.slice A' S.length c') S T, tbRes pt c pm ph, mapRes pm (idsA S) T, hRes ph S c.room, blkRes wA.heap.size 24 (cfC c).toArray] 3 pt pm ph c S T) Hc.out Hrm.out Htr.out now draw HI.out.i HI.out.t Hnow.out Hdraw.out)
              have HB := Lib.hid (fun (w : World) (y1 y2 a b d : Res) (h : Sep wA wA.heap.size w (y1 :: y2 :: [blkRes gx 57 #[.int .i64 2, .int .i64 id, .int .u64 now, .int .u64 draw], rqRes q c (.slice A' S.length c'), rowQ (.slice A' S.length c') S T, a, b, d, blkRes wA.heap.size 24 (cfC c).toArray])) => rfDue_sep (i := 3) (j := 4) h ⟨rfl, rfl, by decide⟩ Hc.out Htr.out Hok.out Hln.out HI.out.t now draw Hnow.out Hdraw.out)
              have HI2 := Lib.hid (HI.out.due Htr.out now draw)
              obtain ⟨⟨S', T', ag, lo⟩, hd⟩ : ∃ d, d = dueAll c now draw S T := ⟨_, rfl⟩
              rw [← hd] at HI2 HA HB
              clear hd h0 h1
              go_wp2_with fail
              refine (HA.out _ Hs3.out).mono ?_
              rintro e w5 ⟨A1, c1, A2, c2, rfl, hs4⟩
              have Hs4 := Lib.hid hs4
              have d2' : w5.cell? ⟨gx, 2, none⟩ = some (.int .u64 now) := (hs4.blkAt 2 rfl).cell 2
              have d3' : w5.cell? ⟨gx, 3, none⟩ = some (.int .u64 draw) := (hs4.blkAt 2 rfl).cell 3
              clear hs4 HA Hs3 d0 d1 d2 d3
              go_wp2_with fail
              refine (HB.out _ _ _ _ _ _ Hs4.out).mono ?_
              rintro e w6 ⟨B1, b1, B2, b2, A3, c3, rfl, hs5⟩
              have Hs5 := Lib.hid (show Sep wA wA.heap.size w6 (iRes (.slice B1 ag.length b1) ag :: iRes (.slice B2 lo.length b2) lo :: iRes (.slice A1 ag.length c1) ag :: iRes (.slice A2 lo.length c2) lo :: [blkRes gx 57 #[.int .i64 2, .int .i64 id, .int .u64 now, .int .u64 draw], rqRes q c (.slice A3 S'.length c3), rowQ (.slice A3 S'.length c3) S' T', tbRes pt c pm ph, mapRes pm (idsA S') T', hRes ph S' c.room, blkRes wA.heap.size 24 (cfC c).toArray]) from hs5)
              clear hs5 HB Hs4 d2' d3'
              go_wp2_with fail
              refine (ints_sep (L := ag) (M := ag) Hs5.out 2 0 rfl rfl).mono ?_
              rintro e w7 ⟨rfl, hs6⟩
              have Hs6 := Lib.hid hs6
              clear hs6 Hs5
              rw [eqI_self]
              go_wp2_with fail
              refine (ints_sep (L := lo) (M := lo) Hs6.out 3 1 rfl rfl).mono ?_
              rintro e w8 ⟨rfl, hs7⟩
              have Hs7 := Lib.hid hs7.forget.forget.forget.forget
              clear hs7 Hs6
              rw [eqI_self]
              go_wp2_with fail
              go_meet
              exact ⟨pt, pm, ph, S', T', A3, c3, rfl, rfl, HI2.out, Hs7.out⟩
            · have hb0 : (kd == 0) = false := beq_false_of_ne h0
              have hb1 : (kd == 1) = false := beq_false_of_ne h1
              have hb2 : (kd == 2) = false := beq_false_of_ne h2
              have HA := Lib.hid (fun (w : World) (h : Sep wA wA.heap.size w _) => tcopy_sep (i := 3) h (⟨rfl, rfl, rfl⟩ : TabAt [blkRes gx 57 #[.int .i64 kd, .int .i64 id, .int .u64 now, .int .u64 draw], rqRes q c (.slice A' S.length c'), rowQ (.slice A' S.length c') S T, tbRes pt c pm ph, mapRes pm (idsA S) T, hRes ph S c.room, blkRes wA.heap.size 24 (cfC c).toArray] 3 pt pm ph c S T))
              have HB := Lib.hid (fun (w : World) (y1 y2 y3 : Res) (h : Sep wA wA.heap.size w (y1 :: y2 :: y3 :: [blkRes gx 57 #[.int .i64 kd, .int .i64 id, .int .u64 now, .int .u64 draw], rqRes q c (.slice A' S.length c'), rowQ (.slice A' S.length c') S T, tbRes pt c pm ph, mapRes pm (idsA S) T, hRes ph S c.room, blkRes wA.heap.size 24 (cfC c).toArray])) => done_sep (i := 6) h (⟨rfl, rfl, rfl⟩ : TabAt _ 6 pt pm ph c S T) id Hid.out)
              have HD := Lib.hid (fun (w : World) (y1 y2 y3 : Res) (S1 : List Al) (h : Sep wA wA.heap.size w (y1 :: y2 :: y3 :: [blkRes gx 57 #[.int .i64 kd, .int .i64 id, .int .u64 now, .int .u64 draw], rqRes q c (.slice A' S.length c'), rowQ (.slice A' S.length c') S T, tbRes pt c pm ph, mapRes pm (idsA S1) T, hRes ph S1 c.room, blkRes wA.heap.size 24 (cfC c).toArray])) => ask_sep (i := 6) h (⟨rfl, rfl, rfl⟩ : TabAt _ 6 pt pm ph c S1 T) Hc.out Hrm.out id 1 1 Hid.out (by decide) (by decide))
              clear h0 h1 h2
              go_wp2_with fail
              refine (HA.out _ Hs3.out).mono ?_
              rintro e w5 ⟨pt', pm', ph', rfl, hs4⟩
              have Hs4 := Lib.hid hs4
              have d1' : w5.cell? ⟨gx, 1, none⟩ = some (.int .i64 id) := (hs4.blkAt 3 rfl).cell 1
              clear hs4 HA Hs3 d0 d1 d2 d3
              go_wp2_with fail
              refine (HB.out _ _ _ _ Hs4.out).mono ?_
              rintro e w6 ⟨rfl, hs5⟩
              obtain ⟨S1, hS1⟩ : ∃ S1, S1 = dropS S id := ⟨_, rfl⟩
              rw [← hS1] at hs5
              have Hs5 := Lib.hid (show Sep wA wA.heap.size w6 (tbRes pt' c pm' ph' :: mapRes pm' (idsA S) T :: hRes ph' S c.room :: [blkRes gx 57 #[.int .i64 kd, .int .i64 id, .int .u64 now, .int .u64 draw], rqRes q c (.slice A' S.length c'), rowQ (.slice A' S.length c') S T, tbRes pt c pm ph, mapRes pm (idsA S1) T, hRes ph S1 c.room, blkRes wA.heap.size 24 (cfC c).toArray]) from hs5)
              have d1 : w6.cell? ⟨gx, 1, none⟩ = some (.int .i64 id) := (hs5.blkAt 3 rfl).cell 1
              clear hs5 HB Hs4 d1' hS1
              go_wp2_with fail
              refine (HD.out _ _ _ _ _ Hs5.out).mono ?_
              rintro e w7 ⟨rfl, hs6⟩
              have Hs6 := Lib.hid hs6.copied
              clear hs6 HD Hs5 d1
              go_wp2_with fail
              go_meet
              exact ⟨pt', pm', ph', S, T, A', c', rfl, rfl, HI.out, Hs6.out⟩
      case rest =>
        clear Hs3 Hok Hln HI d0 d1 d2 d3
        obtain ⟨pt, pm, ph, S, T, A', c', rfl, rfl, hI, hs⟩ := hcut
        have HI := Lib.hid hI
        have Hs := Lib.hid hs
        have d1 : wc.cell? ⟨gx, 1, none⟩ = some (.int .i64 id) := (hs.blkAt 0 rfl).cell 1
        have d3 : wc.cell? ⟨gx, 3, none⟩ = some (.int .u64 draw) := (hs.blkAt 0 rfl).cell 3
        have c5 : wc.cell? ⟨q, 5, none⟩ = some (.slice A' S.length c') := rf_cell hs (i := 1) rfl
        obtain ⟨a0, a1, a2, a3, a4⟩ := cfg_cells hs 6 rfl
        have HW := Lib.hid (fun W => wait_any c Hc.out id draw (by have := Hid.out; omega) Hdraw.out W)
        have HR := Lib.hid (fun W => rfWait_any c Hc.out id draw (by have := Hid.out; omega) Hdraw.out W)
        have HL := Lib.hid (left_t (i := 3) Hs.out.drew (⟨rfl, rfl, rfl⟩ : TabAt _ 3 pt pm ph c S T))
        obtain ⟨z, hz⟩ : ∃ z, z = waitV c id draw := ⟨_, rfl⟩
        rw [← hz] at HW HR
        have heq : ((z : Int) != z) = false := by simp
        have hel : ((S.length : Int) != (S.length : Int)) = false := by simp
        clear hI hs hz
        go_upto_region 22 with fail
        go_region_held3 (fun W => W.cell? ⟨gx, 1, none⟩ = some (.int .i64 id) ∧ W.cell? ⟨gx, 3, none⟩ = some (.int .u64 draw) ∧ W.cell? ⟨q, 5, none⟩ = some (.slice A' S.length c') ∧ W.cell? ⟨wA.heap.size, 0, none⟩ = some (.int .u64 c.base) ∧ W.cell? ⟨wA.heap.size, 1, none⟩ = some (.int .u64 c.most) ∧ W.cell? ⟨wA.heap.size, 2, none⟩ = some (.int .u64 c.span) ∧ W.cell? ⟨wA.heap.size, 3, none⟩ = some (.int .i64 c.tries) ∧ W.cell? ⟨wA.heap.size, 4, none⟩ = some (.int .i64 c.room))
          (first | go_keep | exact ⟨(hs7.blkAt 0 rfl).cell 1, (hs7.blkAt 0 rfl).cell 3, rf_cell hs7 (i := 1) rfl, (hs7.blkAt 6 rfl).cell 0, (hs7.blkAt 6 rfl).cell 1, (hs7.blkAt 6 rfl).cell 2, (hs7.blkAt 6 rfl).cell 3, (hs7.blkAt 6 rfl).cell 4⟩ | exact ⟨(hs6.blkAt 0 rfl).cell 1, (hs6.blkAt 0 rfl).cell 3, rf_cell hs6 (i := 1) rfl, (hs6.blkAt 6 rfl).cell 0, (hs6.blkAt 6 rfl).cell 1, (hs6.blkAt 6 rfl).cell 2, (hs6.blkAt 6 rfl).cell 3, (hs6.blkAt 6 rfl).cell 4⟩ | exact ⟨(hs5.blkAt 0 rfl).cell 1, (hs5.blkAt 0 rfl).cell 3, rf_cell hs5 (i := 1) rfl, (hs5.blkAt 6 rfl).cell 0, (hs5.blkAt 6 rfl).cell 1, (hs5.blkAt 6 rfl).cell 2, (hs5.blkAt 6 rfl).cell 3, (hs5.blkAt 6 rfl).cell 4⟩)
          (first | (go_at_call 13; refine HL.out.mono ?_; rintro e w5 ⟨rfl, rfl⟩) | (go_at_call 18; refine (HW.out _).mono ?_; rintro e w5 ⟨rfl, ht5⟩; have hs5 := Hs.out.drew.touch ht5) | (go_at_call 20; refine (HC.out _).mono ?_; rintro e w6 ⟨rfl, ht6⟩; have hs6 := hs5.touch ht6) | (go_at_call 25; refine (HR.out _).mono ?_; rintro e w7 ⟨rfl, ht7⟩; have hs7 := hs6.touch ht7))
        rename_i hHeld
        have Hs7 := Lib.hid hs7.forget
        clear hHeld hs5 hs6 hs7 ht5 ht6 ht7 HW HR HL
        go_wp2_with fail
        go_roundw
        case rel => exact ⟨k + 1, pt, pm, ph, S, T, A', c', by omega, by omega, by go_num, rfl, HI.out, Hs7.out⟩
        case measure => simp [intOf]; omega
    · clear hs
      by_cases h1 : k < n
      · have h2 : ¬ k < 40 := fun h => hlt ⟨h1, h⟩
        clear hlt
        go_wp2_with fail
        refine (fixed_any _).mono ?_
        rintro e wC ⟨rfl, ht⟩
        have Ht := Lib.hid (Hs.out.touch ht)
        clear ht
        go_wp2_with fail
        go_ret
        exact ⟨rfl, Touch.of_below Ht.out.below⟩
      · clear hlt
        go_wp2_with fail
        refine (fixed_any _).mono ?_
        rintro e wC ⟨rfl, ht⟩
        have Ht := Lib.hid (Hs.out.touch ht)
        clear ht
        go_wp2_with fail
        go_ret
        exact ⟨rfl, Touch.of_below Ht.out.below⟩
theorem rdoes_walk (c : Cf) (hc : CfT c) (A : Option Addr) (n cp : Nat) (wA : World) (hS : Scr wA A n) :
    Calls Try.prog 7 #[cfV c, .slice A n cp] wA fun e w' => e = .returned (.bool true) ∧ Touch [] wA w' := by
  by_cases h : cfOk c
  · exact rdoes_good c hc h A n cp wA hS
  · exact rdoes_bad c h A n cp wA
end Go.Proofs.Ytehbfoiadinhbaa
