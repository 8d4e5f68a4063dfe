/- The document's numbers by digits: modulo the order. -/
import Derived.Test.YtcnmpflbmnnkbaaDoorRefSc
namespace Go.Proofs.YtcnmpflbmnnkbaaDoor
open Go.RowKit
theorem make_33 (w : World) : (Instr.makeSlice 33 (.int .i64 33) (.int .i64 33)).run Tryd.prog w =
    .ok (.slice (some ⟨w.heap.size, 0, none⟩) 33 33) (w.alloc (.cells (cellsI (List.replicate 33 0)).toArray 3)) := by kernel_rfl
theorem NewI.made (w0 w : World) (k : Touch [] w0 w) (l : List Nat) (hl : 0 < l.length) (hm : l.length ≤ 1000000) :
    NewI w0 (w.alloc (.cells (cellsI l).toArray 3)) (.slice (some ⟨w.heap.size, 0, none⟩) l.length l.length) l := by
  have h := Own.built w 3 l.length (cellsI l).toArray (by simp [cellsI]) hl (by unfold maxLen; omega)
  rw [List.toList_toArray] at h
  exact ⟨_, h, k.alloc _, .fresh _ _ k.size⟩
/-- The first m of a row. -/
theorem Own.pre {w : World} {e n g off c m : Nat} {xs : List Value} {row : Option Nat} (h : Own w e 1 (.slice (some ⟨g, off, none⟩) n c) n xs row) (hm : m ≤ n) (hn : 0 < n) :
    Own w e 1 (.slice (some ⟨g, off, none⟩) m c) m (xs.take m) row := by
  obtain ⟨g', off', c', cur, hv, hrow, hb, h0, hnc, hcm, hcs, hx⟩ := h.at_ hn
  injection hv with ha _ hcc
  injection ha with ha
  injection ha with h1 h2
  subst h1; subst h2; subst hcc
  refine ⟨by rw [List.length_take, h.1]; omega, .inr ⟨g, off, c, cur, rfl, hrow, hb, h0, by omega, hcm, hcs, fun j u hj => hx j u ?_⟩⟩
  rw [List.getElem?_take] at hj
  split at hj
  · exact hj
  · cases hj
/-- A row of numbers more. -/
theorem wpList_append_ints (w0 : World) {ops : Array Oper} {rest : List Oper} {o : Oper} {a : Act} {Q : Exit → Act → World → Prop} (w : World) (s x : Operand) (t : TypeId)
    (ht : Tryd.prog.underlying t = some (.slice 3)) (hgd : o.guard = none)
    (ho : o.op = .call { callee := .builtin .append, args := #[s, x], argTypes := #[t, t] })
    {v : Value} {l : List Nat} (hown : NewI w0 w v l) (hl : l.length ≤ 1000000) (m : List Nat) (hml : m.length ≤ 1000000) {xv : Value} {rx : Option Nat} (hsrc : Own w 3 1 xv m.length (cellsI m) rx)
    (hv : a.eval s = v) (hx : a.eval x = xv)
    (h : ∀ A c w', NewI w0 w' (.slice A (l ++ m).length c) (l ++ m) → wpList Tryd.prog ops Q rest (a.put o.dst (.slice A (l ++ m).length c)) w') :
    wpList Tryd.prog ops Q (o :: rest) a w := by
  obtain ⟨row, hw, hto, hn⟩ := hown
  obtain ⟨i, hi, hz, hs, hb⟩ := info_parts infoInt
  refine wpList_append_Own w hgd s x t t ho 3 i _ 1 8 ht hi hz hs hb rfl v l.length (cellsI l) row hv hw _ m.length (cellsI m) hx (hsrc.src (cellsI_one m) ht) (by unfold maxLen; omega) (by omega) ?_
  intro v' w' row' h1 h2 h3
  obtain ⟨A, c, rfl, _⟩ := h1.shape
  rw [← cellsI_append] at h1
  have hl : (l ++ m).length = l.length + m.length := by simp
  rw [← hl] at h1 ⊢
  have hto' : Touch [] w0 w' := ⟨h2.os.trans hto.os, h2.tape.trans hto.tape, h2.output.trans hto.output, Nat.le_trans hto.size h2.size, fun i hi hni => (h2.block i (Nat.lt_of_lt_of_le hi hto.size) (fun hm => by
    rcases hn i (Option.mem_toList.1 hm) with h' | h'
    · cases h'
    · omega)).trans (hto.block i hi hni)⟩
  exact h A c w' ⟨row', h1, hto', hn.trans h3 hto.size⟩
theorem getD_map_int (l : List Nat) (i : Nat) : (l.map fun (n : Nat) => (n : Int)).getD i 0 = ((l.getD i 0 : Nat) : Int) := by
  simp only [List.getD, List.getElem?_map]
  cases l[i]? <;> rfl
theorem leN_cons0 {l : List Nat} (hl : l.length = 33) (hlt : leN l < ell) : leN (l.take 32) = leN l := by
  have h := leN_take_succ (l := l) (k := 32) (by omega)
  rw [List.take_of_length_le (by omega)] at h
  have h0 : l.getD 32 0 = 0 := by
    apply Classical.byContradiction
    intro hne
    have h1 : 256 ^ 32 * 1 ≤ 256 ^ 32 * l.getD 32 0 := Nat.mul_le_mul_left _ (by omega)
    have h2 : ell < 256 ^ 32 := by decide
    omega
  rw [h0] at h
  omega
theorem drop_num {l : List Nat} {j : Nat} (hj : j < l.length) : leN (l.drop j) = l.getD j 0 + 256 * leN (l.drop (j + 1)) := by rw [drop_getD hj, leN]
theorem mod_step (x a : Nat) : (x + 256 * (a % ell)) % ell = (x + 256 * a) % ell := by
  rw [Nat.add_mod, Nat.mul_mod_mod, ← Nat.add_mod]
theorem strOfNums_leN {l : List Nat} (hl : l.length = 33) (hb : ∀ b ∈ l, b < 256) (hlt : leN l < ell) : strOfNums ((l.take 32).map fun (n : Nat) => (n : Int)) = toS (leN l) := by
  apply bl_inj
  rw [bl_strOfNums _ (fun b h => hb b (List.mem_of_mem_take h)), bl_toS, ← leN_cons0 hl hlt]
  have := byN_leN (l := l.take 32) (fun b h => hb b (List.mem_of_mem_take h))
  rw [List.length_take, hl] at this
  exact this.symm
set_option maxRecDepth 100000 in
set_option maxHeartbeats 4000000 in
theorem mod_any (v : Value) (l : List Nat) (row : Option Nat) (w : World) (ho : Own w 3 1 v l.length (cellsI l) row) (h32 : 32 ≤ l.length) (h100 : l.length ≤ 100) (hb : ∀ b ∈ l, b < 256) :
    Calls Tryd.prog 28 #[v] w fun e w' => e = .returned (.string (toS (leN l % ell))) ∧ Touch [] w w' := by
  have Hown := Lib.hid ho
  obtain ⟨g, off, c, rfl, hrow, hg, hnc, hcm, _, _⟩ := ho.cell1 (by omega)
  have hcm' : c ≤ 9223372036854775807 := hcm
  have Hb := Lib.hid hb
  clear ho hb hcm
  obtain ⟨n, hn⟩ : ∃ n, n = l.length := ⟨_, rfl⟩
  have Hn := Lib.hid hn
  rw [← hn] at hnc h32 h100 Hown
  rw [← hn]
  clear hn hrow
  have hmk := make_33
  go_enter Tryd.func28, Tryd.ntmps28
  go_wp2_with fail
  clear hmk
  have hst := NewI.made w w (Touch.refl _ _) (List.replicate 33 0) (by simp) (by simp)
  have HST := Lib.hid hst
  clear hst
  go_loopw [3, 4] (fun vr vi wr => ∃ (k : Nat) (r : List Nat), k ≤ n ∧ vi = .int .i64 ((k : Int) - 1) ∧ NewI w wr vr r ∧ r.length = 33 ∧ (∀ b ∈ r, b < 256) ∧ leN r = leN (l.drop k) % ell) (fun _ vi _ => (intOf vi + 1).toNat)
  case atStart => exact ⟨n, List.replicate 33 0, by omega, rfl, HST.out, by simp, by simp, by rw [List.drop_of_length_le (by rw [Hn.out]; omega), leN_zeros]; rfl⟩
  case round =>
    clear HST
    obtain ⟨k, r, hk, rfl, hr, hrl, hrb, hrv⟩ := hrel
    obtain ⟨gr, offr, cr, rfl, hgr, hncr, hcmr, _, _⟩ := hr.cells (by omega)
    have Hr := Lib.hid hr
    have Hrl := Lib.hid hrl
    have Hrb := Lib.hid hrb
    have Hrv := Lib.hid hrv
    rw [hrl] at hncr
    rw [hrl]
    have hcmr' : cr ≤ 9223372036854775807 := hcmr
    clear hr hrb hrv hrl hcmr
    rcases k with _ | j
    · rw [show (((0 : Nat) : Int) - 1) = -1 by omega]
      go_wp2_with fail
      rename World => wo
      have hu0 := Lib.hid (show NewU wo (wo.alloc (.cells #[] 5)) (.slice (some ⟨wo.heap.size, 0, none⟩) 0 0) [] from ⟨none, Own.nil _ _ _ _, (Touch.refl _ _).alloc _, .refl _ _⟩)
      go_loopw [6, 7] (fun vb vi wx => ∃ (i : Nat), i ≤ 32 ∧ vi = .int .i64 i ∧ NewU wo wx vb (r.take i)) (fun _ vi _ => 32 - (intOf vi).toNat)
      case atStart => exact ⟨0, by omega, rfl, hu0.out⟩
      case round =>
        clear hu0
        obtain ⟨i, hi, rfl, hb⟩ := hrel
        obtain ⟨Ab, cb, rfl, _⟩ := hb.shape
        have hlen : (r.take i).length = i := by rw [List.length_take, Hrl.out]; omega
        have HB := Lib.hid hb
        clear hb
        by_cases hi32 : i < 32
        · obtain ⟨rr, hown⟩ := (Hr.out.more HB.out.touch).own
          have hrl := Hrl.out
          rw [hrl] at hown
          have hcell := hown.cellAt (by omega) i _ (cellsI_at (by omega))
          clear hown hrl
          have hxl := getD_lt Hrb.out i
          have hsn := Lib.hid (take_snoc (l := r) (k := i) (by rw [Hrl.out]; omega))
          obtain ⟨x, hx⟩ : ∃ x, x = r.getD i 0 := ⟨_, rfl⟩
          rw [← hx] at hcell hxl hsn
          clear hx
          obtain ⟨L, hL⟩ : ∃ L, L = r.take i := ⟨_, rfl⟩
          rw [← hL] at hlen HB hsn ⊢
          clear hL
          go_wp2_with (at_builtin; refine wpList_append_byte wo _ (.tmp 36) (.tmp 42) 30 Tryd.underlying30 rfl rfl HB.out (by omega) x _ rfl rfl ?_)
          intro A2 c2 w2 h2
          have H2 := Lib.hid h2
          clear h2
          go_wp2_with fail
          go_roundw
          case rel => exact ⟨i + 1, by omega, by go_num, by rw [hsn.out]; exact H2.out⟩
          case measure => simp [intOf]; omega
        · obtain rfl : i = 32 := by omega
          obtain ⟨g2, o2, c2, hv2, _, _, _, _, hcx⟩ := HB.out.cells (by rw [hlen]; omega)
          injection hv2 with ha _ hcc
          subst ha; subst hcc
          have hconv := run_convert_bytes_arg (P := Tryd.prog) wr 30 5 Tryd.underlying30 Tryd.underlying5 g2 o2 (r.take 32).length cb ((r.take 32).map fun (n : Nat) => (n : Int)) (by simp) (fun i hi => by
            rw [hcx i hi, getD_map_int]) 9 Tryd.underlying9
          have hlt : leN r < ell := by rw [Hrv.out]; exact Nat.mod_lt _ (by decide)
          rw [show strOfNums ((r.take 32).map fun (n : Nat) => (n : Int)) = _ from strOfNums_leN Hrl.out Hrb.out hlt] at hconv
          rw [hlen] at hconv HB
          rw [hlen]
          clear hcx hlt hlen
          have Hfin := Lib.hid (show leN r = leN l % ell by rw [Hrv.out, List.drop_zero])
          go_wp2_with fail
          go_ret
          exact ⟨ret_eq (by rw [Hfin.out]; rfl), Hr.out.touch.trans HB.out.touch⟩
    · rw [show (((j + 1 : Nat) : Int) - 1) = (j : Int) by omega]
      have hcell := (Hown.out.touch Hr.out.touch (by simp)).cellAt (by omega) j _ (cellsI_at (by rw [← Hn.out]; omega))
      have hxl := getD_lt Hb.out j
      have hdn := Lib.hid (drop_num (l := l) (j := j) (by rw [← Hn.out]; omega))
      obtain ⟨x, hx⟩ : ∃ x, x = l.getD j 0 := ⟨_, rfl⟩
      rw [← hx] at hcell hxl hdn
      clear hx
      obtain ⟨rr, hown⟩ := Hr.out.own
      rw [Hrl.out] at hown
      have hpre := hown.pre (m := 32) (by omega) (by omega)
      have e1 : (cellsI r).take 32 = cellsI (r.take 32) := by simp [cellsI]
      have e2 : (r.take 32).length = 32 := by rw [List.length_take, Hrl.out]; omega
      rw [e1] at hpre
      have Hpre := Lib.hid hpre
      have He2 := Lib.hid e2
      clear hpre hown e1 e2
      go_wp2_with (at_builtin; refine wpList_append_ints wr _ (.tmp 21) (.tmp 23) 33 Tryd.underlying33 rfl rfl (v := .slice (some ⟨wr.heap.size, 0, none⟩) 1 1) (l := [x]) (NewI.made wr wr (Touch.refl _ _) [x] (by simp) (by simp)) (by simp) (r.take 32) (by rw [He2.out]; omega) (xv := .slice (some ⟨gr, offr, none⟩) 32 cr) (rx := rr) (by rw [He2.out]; exact Hpre.out.alloc _) rfl rfl ?_)
      intro A2 c2 w2 h2
      have hmin : min 32 r.length + 1 = 33 := by rw [Hrl.out]; rfl
      rw [hmin] at h2
      rw [hmin]
      clear hmin
      have hl2 : (x :: r.take 32).length = 33 := by rw [List.length_cons, He2.out]
      have hb2 : ∀ b ∈ x :: r.take 32, b < 256 := by
        intro b hb
        rcases List.mem_cons.1 hb with hb | hb
        · rw [hb]; exact hxl
        · exact Hrb.out b (List.mem_of_mem_take hb)
      have hlt : leN r < ell := by rw [Hrv.out]; exact Nat.mod_lt _ (by decide)
      have hv2 : leN (x :: r.take 32) % ell = leN (l.drop j) % ell := by
        rw [leN, leN_cons0 Hrl.out hlt, Hrv.out, hdn.out, mod_step]
      have Hr2 := Lib.hid (h2.before Hr.out.touch)
      have Hl2 := Lib.hid hl2
      have Hb2 := Lib.hid hb2
      have Hv2 := Lib.hid hv2
      obtain ⟨r2, hr2⟩ : ∃ r2, r2 = x :: r.take 32 := ⟨_, rfl⟩
      rw [← hr2] at Hr2 Hl2 Hb2 Hv2
      clear hv2 hlt hb2 hl2 h2 hr2 hdn hxl hcell Hpre He2
      clear Hr Hrl Hrb Hrv
      go_wp2_with fail
      go_loopg [3] (leN r2) (fun d vr wx => ∃ (q : List Nat), leN q = d ∧ NewI w wx vr q ∧ q.length = 33 ∧ (∀ b ∈ q, b < 256) ∧ leN q % ell = leN (l.drop j) % ell)
      case atStart => exact ⟨r2, rfl, Hr2.out, Hl2.out, Hb2.out, Hv2.out⟩
      case round =>
        clear Hr2 Hl2 Hb2 Hv2
        obtain ⟨q, rfl, hq, hql, hqb, hqv⟩ := hrel
        obtain ⟨Aq, cq, rfl, _⟩ := hq.shape
        obtain ⟨rq, hqo⟩ := hq.own
        have hqo2 := Lib.hid hqo
        have Hq := Lib.hid hq
        have Hql := Lib.hid hql
        have Hqb := Lib.hid hqb
        have Hqv := Lib.hid hqv
        clear hq hql hqb hqv hqo
        by_cases hlt : leN q < ell
        · have hbel : ∀ W, W = wr → Calls Tryd.prog 23 #[.slice Aq q.length cq] W fun e w' => e = .returned (.bool true) ∧ W = w' := by
            rintro W rfl
            have := below_any _ q rq W hqo2.out (by rw [Hql.out]; omega) (by rw [Hql.out]; omega) Hqb.out
            rwa [decide_eq_true hlt] at this
          have Hlt := Lib.hid hlt
          clear hlt
          go_wp2_with fail
          refine (hbel _ rfl).mono ?_
          rintro e wz ⟨rfl, rfl⟩
          clear hbel
          go_wp2_with fail
          go_roundw
          case rel => exact ⟨j, q, by omega, rfl, Hq.out, Hql.out, Hqb.out, by rw [← Hqv.out, Nat.mod_eq_of_lt Hlt.out]⟩
          case measure => simp [intOf]
        · have hbel : ∀ W, W = wr → Calls Tryd.prog 23 #[.slice Aq q.length cq] W fun e w' => e = .returned (.bool false) ∧ W = w' := by
            rintro W rfl
            have := below_any _ q rq W hqo2.out (by rw [Hql.out]; omega) (by rw [Hql.out]; omega) Hqb.out
            rwa [decide_eq_false hlt] at this
          have Hge := Lib.hid (show ell ≤ leN q by omega)
          clear hlt
          go_wp2_with fail
          refine (hbel _ rfl).mono ?_
          rintro e wz ⟨rfl, rfl⟩
          clear hbel
          go_wp2_with fail
          refine (less_any _ q rq _ hqo2.out (by rw [Hql.out]; omega) (by rw [Hql.out]; omega) Hqb.out Hge.out).mono ?_
          rintro e wz ⟨v', l', rfl, hn', hl', hb', hv'⟩
          have H1 := Lib.hid (hn'.before Hq.out.touch)
          have H2 := Lib.hid hl'
          have H3 := Lib.hid hb'
          have H4 := Lib.hid hv'
          clear hn' hl' hb' hv'
          go_wp2_with fail
          go_roundg (leN l')
          case measure => have := H4.out; have h0 : 0 < ell := by decide
                          omega
          case rel => exact ⟨l', rfl, H1.out, by rw [H2.out, Hql.out], H3.out, by rw [← Hqv.out, ← H4.out, Nat.add_mod_right]⟩
end Go.Proofs.YtcnmpflbmnnkbaaDoor
