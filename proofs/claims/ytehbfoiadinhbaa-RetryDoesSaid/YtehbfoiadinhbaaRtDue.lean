/- What is due: those that are asked again, and those that are lost. -/
import Derived.Test.YtehbfoiadinhbaaRtDone
namespace Go.Proofs.Ytehbfoiadinhbaa
open Go Go.RowKit
structure DS where
  S : List Al
  T : Int → Int
  ag : List Int
  lo : List Int
def dueStep (c : Cf) (now draw : Int) (d : DS) (id : Int) : DS :=
  if c.tries ≤ d.T id then ⟨d.S, d.T, d.ag, d.lo ++ [id]⟩
  else ⟨insS d.S (addS now (waitV c (d.T id) draw), id), upd d.T id (d.T id + 1), d.ag ++ [id], d.lo⟩
def dueAll (c : Cf) (now draw : Int) (S : List Al) (T : Int → Int) : DS := (idsA (goneS S now)).foldl (dueStep c now draw) ⟨leftS S now, T, [], []⟩
theorem dueStep_lost {c : Cf} {now draw : Int} {d : DS} {id : Int} (h : c.tries ≤ d.T id) : dueStep c now draw d id = ⟨d.S, d.T, d.ag, d.lo ++ [id]⟩ := if_pos h
theorem dueStep_again {c : Cf} {now draw : Int} {d : DS} {id : Int} (h : ¬ c.tries ≤ d.T id) : dueStep c now draw d id = ⟨insS d.S (addS now (waitV c (d.T id) draw), id), upd d.T id (d.T id + 1), d.ag ++ [id], d.lo⟩ := if_neg h
def rowT (rs : List Res) (i pm ph : Nat) (c : Cf) (S : List Al) (I : List Int) (T : Int → Int) : List Res := (rs.set (i + 2) (hRes ph S c.room)).set (i + 1) (mapRes pm I T)
section
variable {rs : List Res} {i pt pm ph : Nat} {c : Cf} {S S' : List Al} {I J : List Int} {T U : Int → Int}
theorem TabAt.rowt (h : TabAt rs i pt pm ph c S T) : (rowT rs i pm ph c S' I U)[i]? = some (tbRes pt c pm ph) := by
  rw [rowT, List.getElem?_set_ne (by omega), List.getElem?_set_ne (by omega)]
  exact h.t
theorem TabAt.rowm (h : TabAt rs i pt pm ph c S T) : (rowT rs i pm ph c S' I U)[i + 1]? = some (mapRes pm I U) := by
  rw [rowT, List.getElem?_set_self (by rw [List.length_set]; exact (List.getElem?_eq_some_iff.1 h.m).1)]
theorem TabAt.rowh (h : TabAt rs i pt pm ph c S T) : (rowT rs i pm ph c S' I U)[i + 2]? = some (hRes ph S' c.room) := by
  rw [rowT, List.getElem?_set_ne (by omega), List.getElem?_set_self (List.getElem?_eq_some_iff.1 h.h).1]
theorem rowT_map {V : Int → Int} : (rowT rs i pm ph c S I T).set (i + 1) (mapRes pm J V) = rowT rs i pm ph c S J V := by rw [rowT, List.set_set, rowT]
theorem rowT_heap {S2 : List Al} : (rowT rs i pm ph c S I T).set (i + 2) (hRes ph S2 c.room) = rowT rs i pm ph c S2 I T := by
  rw [rowT, List.set_comm _ _ (by omega), List.set_set, rowT]
end
theorem gone_left (S : List Al) (now : Int) : S.Perm (goneS S now ++ leftS S now) := by
  unfold goneS leftS
  induction S with
  | nil => exact .nil
  | cons a S ih =>
    by_cases h : a.1 ≤ now
    · have h' : ¬ now < a.1 := by omega
      simp only [List.filter_cons, h, h', decide_true, decide_false, if_true]
      exact ih.cons a
    · have h' : now < a.1 := by omega
      simp only [List.filter_cons, h, h', decide_true, decide_false, if_true]
      exact (ih.cons a).trans List.perm_middle.symm
theorem Sep.drop2 {w0 w : World} {B : Nat} {a b c : Res} {rs : List Res} (h : Sep w0 B w (a :: b :: c :: rs)) : Sep w0 B w (a :: b :: rs) :=
  h.sel (fun i => if i < 2 then i else i + 1) (fun i r hr => by
    match i, hr with
    | 0, hr => exact hr
    | 1, hr => exact hr
    | i + 2, hr =>
      simp only [show ¬ i + 2 < 2 by omega, if_false]
      simpa using hr) (fun i j _ _ hne => by
    by_cases h1 : i < 2 <;> by_cases h2 : j < 2 <;> simp only [h1, h2, if_true, if_false] <;> omega)
/-- What stays so from one id to the next. -/
structure DueI (c : Cf) (d : DS) (rest : List Int) : Prop where
  t : ∀ a, 0 ≤ d.T a ∧ d.T a ≤ 1000
  room : ((rest.length + d.S.length : Nat) : Int) ≤ c.room
  many : d.ag.length + d.lo.length + rest.length ≤ 10000
def DueOut (d : DS) (w0 : World) (B : Nat) (rs : List Res) (i pm ph : Nat) (c : Cf) (e : Ending) (w' : World) : Prop :=
  ∃ A1 c1 A2 c2, e = .returned (.tuple #[.slice A1 d.ag.length c1, .slice A2 d.lo.length c2]) ∧ Sep w0 B w' (iRes (.slice A1 d.ag.length c1) d.ag :: iRes (.slice A2 d.lo.length c2) d.lo :: setTab rs i pm ph c d.S d.T)
theorem upd_rng {T : Int → Int} {a v : Int} (h : ∀ b, 0 ≤ T b ∧ T b ≤ 1000) (hv : 0 ≤ v ∧ v ≤ 1000) (b : Int) : 0 ≤ upd T a v b ∧ upd T a v b ≤ 1000 := by
  unfold upd
  split
  · exact hv
  · exact h b
theorem due_step2 {w0 w : World} {B : Nat} {rs : List Res} {x y z : Res} {i pt pm ph : Nat} {c : Cf} {S S' : List Al} {T T' : Int → Int} {id due : Int} {rest : List Int} (htab : TabAt rs i pt pm ph c S T)
    (h : Sep w0 B w (x :: y :: z :: (rowT rs i pm ph c S' (id :: rest ++ idsA S') T').set (i + 2) (hRes ph (setS S' c.room id due) c.room))) (hz : setCode S' c.room id = 0) :
    Sep w0 B w (x :: y :: z :: rowT rs i pm ph c (insS S' (due, id)) (rest ++ idsA (insS S' (due, id))) T') := by
  rw [rowT_heap, setS_yes hz] at h
  have h2 := h.permMap (i + 4) htab.rowm (J := rest ++ idsA (insS S' (due, id))) (by
    rw [List.cons_append]
    exact (List.perm_middle.symm).trans ((insS_ids S' (due, id)).append_left rest))
  have h3 : (x :: y :: z :: rowT rs i pm ph c (insS S' (due, id)) (id :: rest ++ idsA S') T').set (i + 4) (mapRes pm (rest ++ idsA (insS S' (due, id))) T') = x :: y :: z :: (rowT rs i pm ph c (insS S' (due, id)) (id :: rest ++ idsA S') T').set (i + 1) (mapRes pm (rest ++ idsA (insS S' (due, id))) T') := rfl
  rw [h3, rowT_map] at h2
  exact h2
theorem due_free {S : List Al} {id : Int} {rest : List Int} {room : Int} (hn : (id :: rest ++ idsA S).Nodup) (hl : (((id :: rest).length + S.length : Nat) : Int) ≤ room) : setCode S room id = 0 := by
  rw [List.cons_append, List.nodup_cons] at hn
  rcases setCode_cases S room id with ⟨_, h⟩ | ⟨h1, h⟩ | ⟨h, _⟩
  · exact absurd (List.mem_append_right rest (hasA_mem.1 h)) hn.1
  · unfold setCode at h1
    rw [h, if_neg (by simp)] at h1
    rw [List.length_cons] at hl
    split at h1
    · omega
    · cases h1
  · exact h
set_option maxRecDepth 100000 in
set_option maxHeartbeats 2000000 in
theorem due_sep {w w0 : World} {B : Nat} {rs : List Res} {i pt pm ph : Nat} {c : Cf} {S : List Al} {T : Int → Int} (hsep : Sep w0 B w rs) (htab : TabAt rs i pt pm ph c S T) (hc : CfT c) (hroom : c.room ≤ 10000) (htries : c.tries ≤ 1000)
    (now draw : Int) (hids : ∀ a, a ∈ idsA S → -9223372036854775808 ≤ a ∧ a ≤ 9223372036854775807) (hT : ∀ a, 0 ≤ T a ∧ T a ≤ 1000) (hnow : 0 ≤ now ∧ now < 18446744073709551616) (hdraw : 0 ≤ draw ∧ draw < 18446744073709551616) :
    Calls Try.prog 11 #[.pointer (some ⟨pt, 0, none⟩), .int .u64 now, .int .u64 draw] w (DueOut (dueAll c now draw S T) w0 B rs i pm ph c) := by
  obtain ⟨hok, hlen, hnd⟩ := hsep.ids htab
  have h6 : w.cell? ⟨pt, 6, none⟩ = some (.pointer (some ⟨ph, 0, none⟩)) := ((tab_blk hsep htab.t).cell 6).trans rfl
  obtain ⟨i0, hi0, hz0, hz1, hz2⟩ := info_parts infoInt
  have hperm := (gone_left S now).map Prod.snd
  rw [List.map_append] at hperm
  have hD0 : goneS S now = goneS S now := rfl
  obtain ⟨D, hD⟩ : ∃ D, D = goneS S now := ⟨_, rfl⟩
  obtain ⟨L, hL⟩ : ∃ L, L = leftS S now := ⟨_, rfl⟩
  have hall : dueAll c now draw S T = (idsA D).foldl (dueStep c now draw) ⟨L, T, [], []⟩ := by rw [hD, hL]; rfl
  rw [hall]
  have hdl : D.length + L.length = S.length := by rw [hD, hL, ← List.length_append]; exact (gone_left S now).length_eq.symm
  have hidl : (idsA D).length = D.length := by rw [idsA, List.length_map]
  have hin : ∀ a, a ∈ idsA D → -9223372036854775808 ≤ a ∧ a ≤ 9223372036854775807 := fun a ha => hids a (hperm.mem_iff.2 (List.mem_append_left _ (by rw [← hD]; exact ha)))
  rw [← hD, ← hL] at hperm
  have hDI : DueI c ⟨L, T, [], []⟩ (idsA D) := ⟨hT, by rw [hidl, hdl]; exact hlen, by rw [hidl]; show 0 + 0 + D.length ≤ 10000; omega⟩
  have Hh := Lib.hid htab
  have Hs := Lib.hid hsep
  have Hc := Lib.hid hc
  have Hnow := Lib.hid hnow
  have Hdraw := Lib.hid hdraw
  have Hin := Lib.hid hin
  have Hp := Lib.hid hperm
  have HDI := Lib.hid hDI
  have Htr := Lib.hid htries
  have Hidl := Lib.hid hidl
  have hdn : D.length ≤ 10000 := by omega
  have Hpop := Lib.hid (popT_sep hsep (i + 2) htab.h now)
  rw [← hD, ← hL] at Hpop
  clear hall hdl hidl hin hperm hDI htab hsep hc hnow hdraw hids hT hok hlen hnd hroom htries hD hL hD0
  go_enter Try.func11, Try.ntmps11
  go_wp2_with fail
  refine Hpop.out.mono ?_
  rintro e w1 ⟨A0, c0, rfl, hs1⟩
  have hs2 := (hs1.permMap (i + 2) (Hh.out.m2) Hp.out)
  have hs3 : Sep w0 B w1 (iRes (.slice none 0 0) [] :: iRes (.slice none 0 0) [] :: iRes (.slice A0 D.length c0) (idsA D) :: rowT rs i pm ph c L (idsA D ++ idsA L) T) :=
    (hs2.add (r := iRes (.slice none 0 0) []) (F := []) ⟨none, rfl, Own.nil _ _ _ _⟩ (Touch.refl _ _) (by simp)).add (r := iRes (.slice none 0 0) []) (F := []) ⟨none, rfl, Own.nil _ _ _ _⟩ (Touch.refl _ _) (by simp)
  have Hs3 := Lib.hid hs3
  clear hs1 hs2 hs3 Hpop Hp Hs h6
  go_wp2_with fail
  go_loopw [6, 7, 18] (fun v6 v7 v18 wr => ∃ (dn rest : List Int) (d : DS) (A6 A7 : Option Addr) (c6 c7 : Nat), idsA D = dn ++ rest ∧ d = dn.foldl (dueStep c now draw) ⟨L, T, [], []⟩ ∧ v18 = .int .i64 dn.length ∧ v6 = .slice A6 d.ag.length c6 ∧ v7 = .slice A7 d.lo.length c7 ∧ DueI c d rest ∧
    Sep w0 B wr (iRes (.slice A6 d.ag.length c6) d.ag :: iRes (.slice A7 d.lo.length c7) d.lo :: iRes (.slice A0 D.length c0) (idsA D) :: rowT rs i pm ph c d.S (rest ++ idsA d.S) d.T)) (fun _ _ v18 _ => D.length - (intOf v18).toNat)
  case atStart => exact ⟨[], idsA D, ⟨L, T, [], []⟩, none, none, 0, 0, rfl, rfl, rfl, rfl, rfl, HDI.out, Hs3.out⟩
  case round =>
    obtain ⟨dn, rest, d, A6, A7, c6, c7, hsp, hd, rfl, rfl, rfl, hdi, hs⟩ := hrel
    clear Hs3 HDI
    have hlen : dn.length + rest.length = D.length := by rw [← Hidl.out, hsp, List.length_append]
    have Hsp := Lib.hid hsp
    have Hd := Lib.hid hd
    have Hdi := Lib.hid hdi
    clear hsp hd hdi
    cases rest with
    | nil =>
      have hl : dn.length = D.length := by simpa using hlen
      have hdn' : dn = idsA D := by rw [Hsp.out, List.append_nil]
      have Hs := Lib.hid hs
      clear hs hlen
      rw [hl]
      clear hl
      go_wp2_with fail
      go_ret2
      rw [← hdn', ← Hd.out]
      exact ⟨A6, c6, A7, c7, rfl, Hs.out.drop2⟩
    | cons id rest =>
      have hlt : dn.length < D.length := by rw [List.length_cons] at hlen; omega
      have hid : -9223372036854775808 ≤ id ∧ id ≤ 9223372036854775807 := Hin.out id (by rw [Hsp.out]; simp)
      have hnod : (id :: rest ++ idsA d.S).Nodup := by
        obtain ⟨F, _, Dm, _, _, hr⟩ := hs.look (i + 4) Hh.out.rowm
        exact hr.nodup
      obtain ⟨g5, o5, rfl⟩ := hs.addr 2 (A := A0) (n := D.length) (c := c0) (e := 3) (xs := cellsI (idsA D)) (by simp [iRes, Hidl.out]) (by omega)
      have hcx : wr.cell? ⟨g5, o5 + dn.length, none⟩ = some (.int .i64 id) := hs.cell 2 (g := g5) (off := o5) (e := 3) (n := D.length) (c := c0) (xs := cellsI (idsA D)) (by simp [iRes, Hidl.out]) dn.length (by rw [Hsp.out]; simp [cellsI])
      have h5 : wr.cell? ⟨pt, 5, none⟩ = some (.map (some pm)) := ((tab_blk (i := i + 3) hs Hh.out.rowt).cell 5).trans rfl
      have h3 : wr.cell? ⟨pt, 3, none⟩ = some (.int .i64 c.tries) := ((tab_blk (i := i + 3) hs Hh.out.rowt).cell 3).trans rfl
      obtain ⟨k, hk⟩ : ∃ k, k = d.T id := ⟨_, rfl⟩
      have hk0 := Hdi.out.t id
      rw [← hk] at hk0
      have Hs := Lib.hid hs
      have Hid := Lib.hid hid
      have Hnod := Lib.hid hnod
      have Hlen := Lib.hid hlen
      have Hk0 := Lib.hid hk0
      clear hs hid hnod hlen hk0
      by_cases hge : c.tries ≤ k
      · have hdc : decide (c.tries ≤ k) = true := decide_eq_true hge
        have Hst := Lib.hid (dueStep_lost (now := now) (draw := draw) (show c.tries ≤ d.T id from hk ▸ hge))
        have Hk := Lib.hid hk
        clear hge hk
        go_wp2_with (first | (at_lookup; refine wpList_get_key rfl (.tmp 25) (.tmp 26) rfl Hs.out (i + 4) Hh.out.rowm rfl id rfl Hid.out (by simp) ?_; rw [← Hk.out]) | (at_delete; refine wpList_del_key rfl (.tmp 38) (.tmp 39) rfl Hs.out (i + 4) Hh.out.rowm rfl id rfl Hid.out ?_))
        intro w3 hs3
        rw [rowT_map] at hs3
        have Hs3 := Lib.hid hs3
        have hlo : d.lo.length ≤ 10000 := by have := Hdi.out.many; omega
        clear hs3 Hs hcx h5 h3
        go_wp2_with (at_builtin; refine wpList_append_sep _ rfl (.tmp 40) (.tmp 42) 34 34 rfl 3 i0 _ 1 8 Try.underlying34 hi0 hz0 hz1 hz2 rfl (Hs3.out.alloc _) 1 (.slice A7 d.lo.length c7) d.lo.length (cellsI d.lo) rfl rfl _ 1 [.int .i64 id] rfl (Src.one Try.underlying34 w3 _ _ rfl) (by unfold maxLen; omega) (by omega) ?_)
        intro A8 c8 w4 hs4
        have hs5 : Sep w0 B w4 (iRes (.slice A6 d.ag.length c6) d.ag :: iRes (.slice A8 (d.lo.length + 1) c8) (d.lo ++ [id]) :: iRes (.slice (some ⟨g5, o5, none⟩) D.length c0) (idsA D) :: rowT rs i pm ph c d.S (rest ++ idsA d.S) d.T) := by
          unfold iRes
          rw [List.length_append]
          simp only [cellsI, List.map_append, List.map_cons, List.map_nil]
          exact hs4
        have Hs5 := Lib.hid hs5
        clear hs4 hs5 Hs3
        go_wp2_with fail
        go_roundw
        case rel =>
          refine ⟨dn ++ [id], rest, dueStep c now draw d id, A6, A8, c6, c8, by rw [Hsp.out]; simp, by rw [List.foldl_append, ← Hd.out]; rfl, by rw [List.length_append]; go_num, by rw [Hst.out], by rw [Hst.out, List.length_append]; rfl, ?_, ?_⟩
          · rw [Hst.out]
            have h1 := Hdi.out.room
            have h2 := Hdi.out.many
            simp only [List.length_cons] at h1 h2
            exact ⟨Hdi.out.t, by show ((rest.length + d.S.length : Nat) : Int) ≤ _; omega, by show d.ag.length + (d.lo ++ [id]).length + rest.length ≤ 10000; rw [List.length_append, List.length_singleton]; omega⟩
          · rw [Hst.out]
            have h1 := Hs5.out
            simp only [List.length_append, List.length_singleton]
            exact h1
        case measure => simp [intOf]; omega
      · have hdc : decide (c.tries ≤ k) = false := decide_eq_false hge
        have Hst := Lib.hid (dueStep_again (now := now) (draw := draw) (show ¬ c.tries ≤ d.T id from hk ▸ hge))
        rw [← hk] at Hst
        have Hk := Lib.hid hk
        have hkk : k + 1 ≤ 1000 := by have := Htr.out; omega
        have Hkk := Lib.hid hkk
        have hwr : wrap64 (k + 1) = k + 1 := IntWalk.wrap64_in _ (by have := Hk0.out; omega)
        clear hge hkk hk
        go_wp2_with (first | (at_lookup; refine wpList_get_key rfl (.tmp 25) (.tmp 26) rfl Hs.out (i + 4) Hh.out.rowm rfl id rfl Hid.out (by simp) ?_; rw [← Hk.out]) | (at_mapUpdate; go_loud (refine wpList_put_old rfl (.tmp 47) (.tmp 48) (.tmp 50) rfl Hs.out (i + 4) Hh.out.rowm rfl id (k + 1) rfl Hid.out (congrArg (Value.int .i64) hwr) ?c1 (by simp) ?_)))
        case c1 => have := Hk0.out; have := Hkk.out; omega
        intro w3 hs3
        replace hs3 : Sep w0 B w3 (iRes (.slice A6 d.ag.length c6) d.ag :: iRes (.slice A7 d.lo.length c7) d.lo :: iRes (.slice (some ⟨g5, o5, none⟩) D.length c0) (idsA D) :: rowT rs i pm ph c d.S (id :: rest ++ idsA d.S) (upd d.T id (k + 1))) := by
          rw [rowT_map] at hs3
          exact hs3
        have HT := Lib.hid (tab_blk (i := i + 3) hs3 Hh.out.rowt)
        have HW := Lib.hid (fun W => wait_any c Hc.out k draw (by have := Hk0.out; omega) Hdraw.out W)
        have HA := Lib.hid (fun W => addS_t Hnow.out (waitV_rng Hc.out (k := k) Hdraw.out.1 Hdraw.out.2) W)
        have Hs3 := Lib.hid hs3
        clear hs3 Hs hcx h5 h3
        go_upto_region 9 with fail
        -- TFLOW due
        refine wp_region_flowT (by kernel_rfl) 14 (lookW [(0, pu (isV (.pointer (some ⟨pt, 0, none⟩)))), (1, pu (isV (.int .u64 (now)))), (2, pu (isV (.int .u64 (draw)))), (9, pu (isV (.int .i64 (id)))), (10, pu (isV (.int .i64 (k)))), (51, pu (isV (.pointer (some ⟨pt, 0, none⟩)))), (52, pu (isV (.pointer (some ⟨pt, 0, none⟩)))), (53, pu (isV (.pointer (some ⟨pt, 6, none⟩)))), (54, pu (isV (.pointer (some ⟨ph, 0, none⟩)))), (55, pu (isV (.int .i64 (id)))), (56, pu (isV (.int .u64 (now)))), (57, pu (isV (.pointer (some ⟨pt, 0, none⟩)))), (58, pu (isV (.pointer (some ⟨pt, 0, none⟩)))), (59, pu (isV (.pointer (some ⟨pt, 0, none⟩)))), (60, pu (isV (cfV c))), (61, pu (isV (.int .i64 (k)))), (62, pu (isV (.int .u64 (draw)))), (63, pu (isV (.int .u64 (waitV c k draw)))), (64, pu (isV (.int .u64 (addS now (waitV c k draw)))))]) [0, 1, 2, 9, 10] [51, 52, 53, 54, 55, 56, 57, 58, 59, 60, 61, 62, 63, 64] [54, 55, 64] (by kernel_rfl) (by kernel_rfl) (by kernel_rfl) (by kernel_rfl) ⟨rfl, rfl, rfl, rfl, rfl, trivial⟩ ?_ ?_
        · refine FStepsW.cons (FStepW.plain rfl fun a w hS hE => OpTo.move rfl ⟨dOfW.of 51 rfl (hE 0 (by kernel_rfl)), Touch.refl _ _⟩) ?_
          refine FStepsW.cons (FStepW.plain rfl fun a w hS hE => OpTo.nilc ⟨pt, 0, none⟩ rfl (hE 51 (by kernel_rfl)) ⟨dOfW.of 52 rfl rfl, Touch.refl _ _⟩) ?_
          refine FStepsW.cons (FStepW.plain rfl fun a w hS hE => OpTo.fad pt 2 6 rfl (hE 52 (by kernel_rfl)) (field_run2 pt) ⟨dOfW.of 53 rfl rfl, Touch.refl _ _⟩) ?_
          refine FStepsW.cons (FStepW.plain rfl fun a w hS hE => OpTo.ldH pt 6 _ rfl (hE 53 (by kernel_rfl)) (((HT.out.touch hS (by simp)).cell 6).trans rfl) ⟨dOfW.of 54 rfl rfl, Touch.refl _ _⟩) ?_
          refine FStepsW.cons (FStepW.plain rfl fun a w hS hE => OpTo.move rfl ⟨dOfW.of 55 rfl (hE 9 (by kernel_rfl)), Touch.refl _ _⟩) ?_
          refine FStepsW.cons (FStepW.plain rfl fun a w hS hE => OpTo.move rfl ⟨dOfW.of 56 rfl (hE 1 (by kernel_rfl)), Touch.refl _ _⟩) ?_
          refine FStepsW.cons (FStepW.plain rfl fun a w hS hE => OpTo.move rfl ⟨dOfW.of 57 rfl (hE 0 (by kernel_rfl)), Touch.refl _ _⟩) ?_
          refine FStepsW.cons (FStepW.plain rfl fun a w hS hE => OpTo.nilc ⟨pt, 0, none⟩ rfl (hE 57 (by kernel_rfl)) ⟨dOfW.of 58 rfl rfl, Touch.refl _ _⟩) ?_
          refine FStepsW.cons (FStepW.plain rfl fun a w hS hE => OpTo.fad pt 0 0 rfl (hE 58 (by kernel_rfl)) (field_run0 pt) ⟨dOfW.of 59 rfl rfl, Touch.refl _ _⟩) ?_
          refine FStepsW.cons (FStepW.plain rfl fun a w hS hE => OpTo.ldC pt c rfl (hE 59 (by kernel_rfl)) (tbl_range (HT.out.touch hS (by simp))) ⟨dOfW.of 60 rfl rfl, Touch.refl _ _⟩) ?_
          refine FStepsW.cons (FStepW.plain rfl fun a w hS hE => OpTo.move rfl ⟨dOfW.of 61 rfl (hE 10 (by kernel_rfl)), Touch.refl _ _⟩) ?_
          refine FStepsW.cons (FStepW.plain rfl fun a w hS hE => OpTo.move rfl ⟨dOfW.of 62 rfl (hE 2 (by kernel_rfl)), Touch.refl _ _⟩) ?_
          refine FStepsW.cons (FStepW.plain rfl fun a w hS hE => OpTo.call #[cfV c, .int .i64 (k), .int .u64 (draw)] rfl Try.func18 (by kernel_rfl) (by kernel_rfl) (args3e (hE 60 (by kernel_rfl)) (hE 61 (by kernel_rfl)) (hE 62 (by kernel_rfl))) ((HW.out w).mono fun _ _ h => calls_w 63 rfl (fun _ _ h => h) h)) ?_
          refine FStepsW.cons (FStepW.plain rfl fun a w hS hE => OpTo.call #[.int .u64 (now), .int .u64 (waitV c k draw)] rfl Try.func15 (by kernel_rfl) (by kernel_rfl) (args2e (hE 56 (by kernel_rfl)) (hE 63 (by kernel_rfl))) ((HA.out w).mono fun _ _ h => calls_w 64 rfl (fun _ _ h => h) h)) ?_
          exact FStepsW.nil
        intro f wx hS hF
        obtain ⟨h54, h55, h64, -⟩ := hF
        replace h54 : f 54 = .pointer (some ⟨ph, 0, none⟩) := h54
        replace h55 : f 55 = .int .i64 (id) := h55
        replace h64 : f 64 = .int .u64 (addS now (waitV c k draw)) := h64
        simp only [setAll, List.setIfInBounds_toArray, List.set_cons_zero, List.set_cons_succ, h54, h55, h64]
        -- END
        show wpList _ _ _ [_] _ _
        have HS := Lib.hid (Hs3.out.touch hS)
        clear h54 h55 h64 Hs3 HT HW HA
        go_wp2_with fail
        refine (setT_sep HS.out (i + 5) Hh.out.rowh id _).mono ?_
        rintro e w4 ⟨rfl, hs4⟩
        have hz := due_free Hnod.out (by have := Hdi.out.room; exact this)
        have Hs4 := Lib.hid (due_step2 Hh.out hs4 hz)
        have hag : d.ag.length ≤ 10000 := by have := Hdi.out.many; omega
        rw [hz]
        clear hs4 hz HS
        go_wp2_with (at_builtin; refine wpList_append_sep _ rfl (.tmp 66) (.tmp 68) 34 34 rfl 3 i0 _ 1 8 Try.underlying34 hi0 hz0 hz1 hz2 rfl (Hs4.out.alloc _) 0 (.slice A6 d.ag.length c6) d.ag.length (cellsI d.ag) rfl rfl _ 1 [.int .i64 id] rfl (Src.one Try.underlying34 w4 _ _ rfl) (by unfold maxLen; omega) (by omega) ?_)
        intro A8 c8 w5 hs5
        have hs6 : Sep w0 B w5 (iRes (.slice A8 (d.ag.length + 1) c8) (d.ag ++ [id]) :: iRes (.slice A7 d.lo.length c7) d.lo :: iRes (.slice (some ⟨g5, o5, none⟩) D.length c0) (idsA D) :: rowT rs i pm ph c (insS d.S (addS now (waitV c k draw), id)) (rest ++ idsA (insS d.S (addS now (waitV c k draw), id))) (upd d.T id (k + 1))) := by
          unfold iRes at *
          rw [List.length_append]
          simp only [cellsI, List.map_append, List.map_cons, List.map_nil] at *
          exact hs5
        have Hs6 := Lib.hid hs6
        clear hs5 hs6 Hs4
        go_wp2_with fail
        go_roundw
        case rel =>
          refine ⟨dn ++ [id], rest, dueStep c now draw d id, A8, A7, c8, c7, by rw [Hsp.out]; simp, by rw [List.foldl_append, ← Hd.out]; rfl, by rw [List.length_append]; go_num, by rw [Hst.out, List.length_append]; rfl, by rw [Hst.out], ?_, ?_⟩
          · rw [Hst.out]
            have h1 := Hdi.out.room
            have h2 := Hdi.out.many
            simp only [List.length_cons] at h1 h2
            exact ⟨upd_rng Hdi.out.t (by have := Hk0.out; have := Hkk.out; omega), by show ((rest.length + (insS d.S _).length : Nat) : Int) ≤ _; rw [insS_len]; omega, by show (d.ag ++ [id]).length + d.lo.length + rest.length ≤ 10000; rw [List.length_append, List.length_singleton]; omega⟩
          · rw [Hst.out]
            have h1 := Hs6.out
            simp only [List.length_append, List.length_singleton]
            exact h1
        case measure => simp [intOf]; omega
end Go.Proofs.Ytehbfoiadinhbaa
