/- Asking: a table's three objects stand in a row. -/
import Derived.Test.YtehbfoiadinhbaaRtOps
namespace Go.Proofs.Ytehbfoiadinhbaa
open Go Go.RowKit
theorem tab_blk {w w0 : World} {B : Nat} {rs : List Res} (h : Sep w0 B w rs) {i pt pm ph : Nat} {c : Cf} (hi : rs[i]? = some (tbRes pt c pm ph)) : Blk w pt 69 (tbC c pm ph) := by
  obtain ⟨F, _, hb⟩ := h.look i hi
  exact hb
def idsA (S : List Al) : List Int := S.map Prod.snd
/-- A table at place i: the config, the map of tries, the heap of ticks. -/
structure TabAt (rs : List Res) (i pt pm ph : Nat) (c : Cf) (S : List Al) (T : Int → Int) : Prop where
  t : rs[i]? = some (tbRes pt c pm ph)
  m : rs[i + 1]? = some (mapRes pm (idsA S) T)
  h : rs[i + 2]? = some (hRes ph S c.room)
/-- The table's objects as they are next. -/
def setTab (rs : List Res) (i pm ph : Nat) (c : Cf) (S : List Al) (T : Int → Int) : List Res := (rs.set (i + 2) (hRes ph S c.room)).set (i + 1) (mapRes pm (idsA S) T)
theorem TabAt.next {rs : List Res} {i pt pm ph : Nat} {c : Cf} {S : List Al} {T : Int → Int} (h : TabAt rs i pt pm ph c S T) (S' : List Al) (T' : Int → Int) : TabAt (setTab rs i pm ph c S' T') i pt pm ph c S' T' := by
  have h1 := (List.getElem?_eq_some_iff.1 h.m).1
  have h2 := (List.getElem?_eq_some_iff.1 h.h).1
  refine ⟨?_, ?_, ?_⟩
  · rw [setTab, List.getElem?_set_ne (by omega), List.getElem?_set_ne (by omega)]
    exact h.t
  · rw [setTab, List.getElem?_set_self (by rw [List.length_set]; exact h1)]
  · rw [setTab, List.getElem?_set_ne (by omega), List.getElem?_set_self h2]
theorem TabAt.t2 {rs : List Res} {i pt pm ph : Nat} {c : Cf} {S : List Al} {T : Int → Int} (h : TabAt rs i pt pm ph c S T) {r : Res} : (rs.set (i + 2) r)[i]? = some (tbRes pt c pm ph) := by
  rw [List.getElem?_set_ne (by omega)]
  exact h.t
theorem TabAt.m2 {rs : List Res} {i pt pm ph : Nat} {c : Cf} {S : List Al} {T : Int → Int} (h : TabAt rs i pt pm ph c S T) {r : Res} : (rs.set (i + 2) r)[i + 1]? = some (mapRes pm (idsA S) T) := by
  rw [List.getElem?_set_ne (by omega)]
  exact h.m
theorem set_self {rs : List Res} {i : Nat} {r : Res} (h : rs[i]? = some r) : rs.set i r = rs := by
  refine List.ext_getElem? fun j => ?_
  by_cases hj : i = j
  · subst hj
    rw [List.getElem?_set_self (List.getElem?_eq_some_iff.1 h).1, h]
  · rw [List.getElem?_set_ne hj]
/-- The map's ids in another order. -/
theorem Sep.permMap {w0 w : World} {B : Nat} {rs : List Res} (h : Sep w0 B w rs) (i : Nat) {pm : Nat} {I J : List Int} {T : Int → Int} (hi : rs[i]? = some (mapRes pm I T)) (hp : I.Perm J) : Sep w0 B w (rs.set i (mapRes pm J T)) := by
  obtain ⟨F, ⟨rfl, D, hown, hl, hr⟩, hset⟩ := h.focus i hi
  exact hset w _ [pm] ⟨rfl, D, by rw [← hp.length_eq]; exact hown, by rw [← hp.length_eq]; exact hl, hr.perm hp⟩ (Touch.refl _ _) (fun k hk => .inl hk)
theorem Sep.sameMap {w0 w : World} {B : Nat} {rs : List Res} (h : Sep w0 B w rs) (i : Nat) {pm : Nat} {I : List Int} {T U : Int → Int} (hi : rs[i]? = some (mapRes pm I T)) (hp : ∀ a, a ∈ I → T a = U a) : Sep w0 B w (rs.set i (mapRes pm I U)) := by
  obtain ⟨F, ⟨rfl, D, hown, hl, hr⟩, hset⟩ := h.focus i hi
  exact hset w _ [pm] ⟨rfl, D, hown, hl, hr.same hp⟩ (Touch.refl _ _) (fun k hk => .inl hk)
theorem calls_w {o : Oper} {T : Tmp → SP} {w w' : World} {e : Ending} {x : Value} (d : Tmp) (hd : o.dst = some d) (hp : ∀ v w, v = x → (T d).p v w) (h : e = .returned x ∧ Touch [] w w') : ∃ v, e = .returned v ∧ (dOfW o T v w' ∧ Touch [] w w') :=
  ⟨x, h.1, dOfW.of d hd (hp _ _ rfl), h.2⟩
theorem args2e {ρ : Operand → Value} {x y : Operand} {u v : Value} (hx : ρ x = u) (hy : ρ y = v) : (#[x, y] : Array Operand).map ρ = #[u, v] := by simp [hx, hy]
theorem args3e {ρ : Operand → Value} {x y z : Operand} {u v t : Value} (hx : ρ x = u) (hy : ρ y = v) (hz : ρ z = t) : (#[x, y, z] : Array Operand).map ρ = #[u, v, t] := by simp [hx, hy, hz]
theorem addS_t {x y : Int} (hx : 0 ≤ x ∧ x < 18446744073709551616) (hy : 0 ≤ y ∧ y < 18446744073709551616) (w : World) : Calls Try.prog 15 #[.int .u64 x, .int .u64 y] w fun e w' => e = .returned (.int .u64 (addS x y)) ∧ Touch [] w w' :=
  (satAdd_any x y hx.1 hx.2 hy.1 hy.2 w).mono fun e w' ⟨h1, h2⟩ => by
    subst h2
    exact ⟨h1, Touch.refl _ _⟩
/-- Asking, up to the map. -/
def askT (S : List Al) (T : Int → Int) (room id : Int) : Int → Int := if setCode S room id = 0 then upd T id 1 else T
abbrev askS (S : List Al) (c : Cf) (id now draw : Int) : List Al := setS S c.room id (addS now (waitV c 0 draw))
theorem setCode_cases (S : List Al) (m id : Int) : (setCode S m id = 6 ∧ hasA S id = true) ∨ (setCode S m id = 8 ∧ hasA S id = false) ∨ (setCode S m id = 0 ∧ hasA S id = false ∧ (S.length : Int) < m) := by
  unfold setCode
  cases hasA S id
  · by_cases h : m ≤ (S.length : Int)
    · exact .inr (.inl (by simp [h]))
    · exact .inr (.inr (by simp [h]; omega))
  · exact .inl (by simp)
theorem setS_not {S : List Al} {m id at_ : Int} (h : setCode S m id ≠ 0) : setS S m id at_ = S := by
  unfold setCode at h
  unfold setS
  split
  · rfl
  · split
    · rfl
    · rename_i h1 h2
      rw [if_neg h1, if_neg h2] at h
      exact absurd rfl h
theorem setS_yes {S : List Al} {m id at_ : Int} (h : setCode S m id = 0) : setS S m id at_ = insS S (at_, id) := by
  rcases setCode_cases S m id with ⟨h1, _⟩ | ⟨h1, _⟩ | ⟨_, h2, h3⟩
  · rw [h] at h1; cases h1
  · rw [h] at h1; cases h1
  · unfold setS
    rw [h2, if_neg (by simp), if_neg (by omega)]
theorem hasA_mem {S : List Al} {id : Int} : hasA S id = true ↔ id ∈ idsA S := by
  unfold hasA idsA
  simp
theorem insS_ids (S : List Al) (a : Al) : (a.2 :: idsA S).Perm (idsA (insS S a)) := ((insS_perm S a).map Prod.snd).symm
theorem ask_same {w w0 : World} {B : Nat} {rs : List Res} {i pt pm ph : Nat} {c : Cf} {S : List Al} {T : Int → Int} {id : Int} (at_ : Int) (htab : TabAt rs i pt pm ph c S T) (hne : setCode S c.room id ≠ 0)
    (h : Sep w0 B w (rs.set (i + 2) (hRes ph (setS S c.room id at_) c.room))) : Sep w0 B w (setTab rs i pm ph c (setS S c.room id at_) (askT S T c.room id)) := by
  unfold setTab askT
  rw [if_neg hne, setS_not hne] at *
  rw [set_self htab.h] at h ⊢
  rw [set_self htab.m]
  exact h
theorem ask_new {w w0 : World} {B : Nat} {rs : List Res} {i pt pm ph : Nat} {c : Cf} {S : List Al} {T : Int → Int} {id : Int} (at_ : Int) (htab : TabAt rs i pt pm ph c S T) (hz : setCode S c.room id = 0)
    (h : Sep w0 B w ((rs.set (i + 2) (hRes ph (setS S c.room id at_) c.room)).set (i + 1) (mapRes pm (id :: idsA S) (upd T id 1)))) : Sep w0 B w (setTab rs i pm ph c (setS S c.room id at_) (askT S T c.room id)) := by
  unfold setTab askT
  rw [if_pos hz, setS_yes hz] at *
  have hl := (List.getElem?_eq_some_iff.1 htab.m).1
  have h2 := h.permMap (i + 1) (List.getElem?_set_self (by rw [List.length_set]; exact hl)) (insS_ids S (at_, id))
  rw [List.set_set] at h2
  exact h2
set_option maxRecDepth 100000 in
set_option maxHeartbeats 1000000 in
theorem ask_sep {w w0 : World} {B : Nat} {rs : List Res} {i pt pm ph : Nat} {c : Cf} {S : List Al} {T : Int → Int} (hsep : Sep w0 B w rs) (htab : TabAt rs i pt pm ph c S T) (hc : CfT c) (hroom : c.room ≤ 10000)
    (id now draw : Int) (hid : -9223372036854775808 ≤ id ∧ id ≤ 9223372036854775807) (hnow : 0 ≤ now ∧ now < 18446744073709551616) (hdraw : 0 ≤ draw ∧ draw < 18446744073709551616) :
    Calls Try.prog 10 #[.pointer (some ⟨pt, 0, none⟩), .int .i64 id, .int .u64 now, .int .u64 draw] w
      (Gives (.int .i64 (setCode S c.room id)) w0 B (setTab rs i pm ph c (askS S c id now draw) (askT S T c.room id))) := by
  unfold askS
  have HT := Lib.hid (tab_blk hsep htab.t)
  have HW := Lib.hid (fun W => wait_any c hc 0 draw (by omega) hdraw W)
  have HA := Lib.hid (fun W => addS_t hnow (waitV_rng hc (k := 0) hdraw.1 hdraw.2) W)
  have Hh := Lib.hid htab
  have Hs := Lib.hid hsep
  have Hid := Lib.hid hid
  have Hr := Lib.hid hroom
  have HC := Lib.hid hc
  have Hn := Lib.hid hnow
  have Hd := Lib.hid hdraw
  clear htab hsep hc hid hnow hdraw hroom
  go_enter Try.func10, Try.ntmps10
  go_upto_region 1 with fail
  -- TFLOW ask
  refine wp_region_flowT (by kernel_rfl) 13 (lookW [(0, pu (isV (.pointer (some ⟨pt, 0, none⟩)))), (1, pu (isV (.int .i64 (id)))), (2, pu (isV (.int .u64 (now)))), (3, pu (isV (.int .u64 (draw)))), (10, pu (isV (.pointer (some ⟨pt, 0, none⟩)))), (11, pu (isV (.pointer (some ⟨pt, 0, none⟩)))), (12, pu (isV (.pointer (some ⟨pt, 6, none⟩)))), (13, pu (isV (.pointer (some ⟨ph, 0, none⟩)))), (14, pu (isV (.int .i64 (id)))), (15, pu (isV (.int .u64 (now)))), (16, pu (isV (.pointer (some ⟨pt, 0, none⟩)))), (17, pu (isV (.pointer (some ⟨pt, 0, none⟩)))), (18, pu (isV (.pointer (some ⟨pt, 0, none⟩)))), (19, pu (isV (cfV c))), (20, pu (isV (.int .u64 (draw)))), (21, pu (isV (.int .u64 (waitV c 0 draw)))), (22, pu (isV (.int .u64 (addS now (waitV c 0 draw)))))]) [0, 1, 2, 3] [10, 11, 12, 13, 14, 15, 16, 17, 18, 19, 20, 21, 22] [13, 14, 22] (by kernel_rfl) (by kernel_rfl) (by kernel_rfl) (by kernel_rfl) ⟨rfl, rfl, rfl, rfl, trivial⟩ ?_ ?_
  · refine FStepsW.cons (FStepW.plain rfl fun a w hS hE => OpTo.move rfl ⟨dOfW.of 10 rfl (hE 0 (by kernel_rfl)), Touch.refl _ _⟩) ?_
    refine FStepsW.cons (FStepW.plain rfl fun a w hS hE => OpTo.nilc ⟨pt, 0, none⟩ rfl (hE 10 (by kernel_rfl)) ⟨dOfW.of 11 rfl rfl, Touch.refl _ _⟩) ?_
    refine FStepsW.cons (FStepW.plain rfl fun a w hS hE => OpTo.fad pt 2 6 rfl (hE 11 (by kernel_rfl)) (field_run2 pt) ⟨dOfW.of 12 rfl rfl, Touch.refl _ _⟩) ?_
    refine FStepsW.cons (FStepW.plain rfl fun a w hS hE => OpTo.ldH pt 6 _ rfl (hE 12 (by kernel_rfl)) (((HT.out.touch hS (by simp)).cell 6).trans rfl) ⟨dOfW.of 13 rfl rfl, Touch.refl _ _⟩) ?_
    refine FStepsW.cons (FStepW.plain rfl fun a w hS hE => OpTo.move rfl ⟨dOfW.of 14 rfl (hE 1 (by kernel_rfl)), Touch.refl _ _⟩) ?_
    refine FStepsW.cons (FStepW.plain rfl fun a w hS hE => OpTo.move rfl ⟨dOfW.of 15 rfl (hE 2 (by kernel_rfl)), Touch.refl _ _⟩) ?_
    refine FStepsW.cons (FStepW.plain rfl fun a w hS hE => OpTo.move rfl ⟨dOfW.of 16 rfl (hE 0 (by kernel_rfl)), Touch.refl _ _⟩) ?_
    refine FStepsW.cons (FStepW.plain rfl fun a w hS hE => OpTo.nilc ⟨pt, 0, none⟩ rfl (hE 16 (by kernel_rfl)) ⟨dOfW.of 17 rfl rfl, Touch.refl _ _⟩) ?_
    refine FStepsW.cons (FStepW.plain rfl fun a w hS hE => OpTo.fad pt 0 0 rfl (hE 17 (by kernel_rfl)) (field_run0 pt) ⟨dOfW.of 18 rfl rfl, Touch.refl _ _⟩) ?_
    refine FStepsW.cons (FStepW.plain rfl fun a w hS hE => OpTo.ldC pt c rfl (hE 18 (by kernel_rfl)) (tbl_range (HT.out.touch hS (by simp))) ⟨dOfW.of 19 rfl rfl, Touch.refl _ _⟩) ?_
    refine FStepsW.cons (FStepW.plain rfl fun a w hS hE => OpTo.move rfl ⟨dOfW.of 20 rfl (hE 3 (by kernel_rfl)), Touch.refl _ _⟩) ?_
    refine FStepsW.cons (FStepW.plain rfl fun a w hS hE => OpTo.call #[cfV c, .int .i64 0, .int .u64 (draw)] rfl Try.func18 (by kernel_rfl) (by kernel_rfl) (args3e (hE 19 (by kernel_rfl)) rfl (hE 20 (by kernel_rfl))) ((HW.out w).mono fun _ _ h => calls_w 21 rfl (fun _ _ h => h) h)) ?_
    refine FStepsW.cons (FStepW.plain rfl fun a w hS hE => OpTo.call #[.int .u64 (now), .int .u64 (waitV c 0 draw)] rfl Try.func15 (by kernel_rfl) (by kernel_rfl) (args2e (hE 15 (by kernel_rfl)) (hE 21 (by kernel_rfl))) ((HA.out w).mono fun _ _ h => calls_w 22 rfl (fun _ _ h => h) h)) ?_
    exact FStepsW.nil
  intro f wx hS hF
  obtain ⟨h13, h14, h22, -⟩ := hF
  replace h13 : f 13 = .pointer (some ⟨ph, 0, none⟩) := h13
  replace h14 : f 14 = .int .i64 (id) := h14
  replace h22 : f 22 = .int .u64 (addS now (waitV c 0 draw)) := h22
  simp only [setAll, List.setIfInBounds_toArray, List.set_cons_zero, List.set_cons_succ, h13, h14, h22]
  -- END
  show wpList _ _ _ [_, _] _ _
  have HS := Lib.hid (Hs.out.touch hS)
  clear h13 h14 h22 Hs
  go_wp2_with fail
  refine (setT_sep HS.out (i + 2) Hh.out.h id _).mono ?_
  rintro e w1 ⟨rfl, hs1⟩
  have Hs1 := Lib.hid hs1
  clear hs1 HS HW HA
  generalize addS now (waitV c 0 draw) = due at *
  rcases setCode_cases S c.room id with ⟨h1, h2⟩ | ⟨h1, h2⟩ | ⟨h1, h2, h3⟩
  · have Hf := Lib.hid (ask_same due Hh.out (by omega) Hs1.out)
    have Hc := Lib.hid h1
    rw [h1]
    clear h1 h2 Hs1 Hh
    go_wp2_with fail
    go_ret
    exact ⟨by rw [Hc.out]; rfl, Hf.out⟩
  · have Hf := Lib.hid (ask_same due Hh.out (by omega) Hs1.out)
    have Hc := Lib.hid h1
    rw [h1]
    clear h1 h2 Hs1 Hh
    go_wp2_with fail
    go_ret
    exact ⟨by rw [Hc.out]; rfl, Hf.out⟩
  · have Hc := Lib.hid h1
    have H2 := Lib.hid h2
    have H3 := Lib.hid h3
    rw [h1]
    clear h1 h2 h3
    have h5 : w1.cell? ⟨pt, 5, none⟩ = some (.map (some pm)) := ((tab_blk Hs1.out Hh.out.t2).cell 5).trans rfl
    go_wp2_with (at_mapUpdate; refine wpList_put_new rfl (.tmp 29) (.tmp 30) (.const (.int .i64 1)) rfl Hs1.out (i + 1) Hh.out.m2 rfl id 1 rfl Hid.out rfl (by omega) ?c1 ?c2 ?_)
    case c1 => exact fun hm => by rw [hasA_mem.2 hm] at H2; cases H2.out
    case c2 =>
      have := H3.out
      have := Hr.out
      rw [idsA, List.length_map]
      omega
    intro w2 hs2
    have Hf := Lib.hid (ask_new due Hh.out Hc.out hs2)
    clear hs2 Hs1 Hh H2 H3 Hid Hr h5
    go_wp2_with fail
    go_ret
    exact ⟨by rw [Hc.out]; rfl, Hf.out⟩
end Go.Proofs.Ytehbfoiadinhbaa
