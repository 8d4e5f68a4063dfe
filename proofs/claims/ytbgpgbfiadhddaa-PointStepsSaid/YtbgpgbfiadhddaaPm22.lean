/- RefFd; RefFe; RefFf; RefFg; RefFh; RefFi; RefFj; RefFk; RefFl; RefFm; RefV; PtRefV; PtRef1; PtRef3; PtRef4: joined. -/
import Derived.BigQuiet
import Derived.Deep.CutBlock
import Derived.Deep.QuietTactic
import Derived.Deep.RegionHeld3
import Derived.Laws.BytesArg
import Derived.Laws.IdiomStrings
import Derived.Test.YtbgpgbfiadhddaaPm12
import Derived.Test.YtbgpgbfiadhddaaPm13
import Derived.Test.YtbgpgbfiadhddaaPm21
/- The document's digits to the base 65536: as text, the walk. -/
namespace Go.Proofs.Ytbgpgbfiadhddaa
open Go.RowKit
/-- A row that is new, by its place: the cells, the marks, and what a write leaves. -/
theorem NewI.at16 {w w1 : World} {v : Value} {q : List Nat} (h : NewI w w1 v q) (hl : q.length = 16) :
    ∃ g off c, v = .slice (some ⟨g, off, none⟩) 16 c ∧ w.heap.size ≤ g ∧ 16 ≤ c ∧ c ≤ 9223372036854775807 := by
  obtain ⟨g, off, c, rfl, hg, hnc, hcm, _, _⟩ := h.cells (by omega)
  rw [hl] at hnc ⊢
  exact ⟨g, off, c, rfl, hg, hnc, hcm⟩
theorem NewI.c16 {w w1 : World} {q : List Nat} {g off c : Nat} (h : NewI w w1 (.slice (some ⟨g, off, none⟩) 16 c) q) (hl : q.length = 16) (k : Nat) (hk : k < 16) :
    w1.cell? ⟨g, off + k, none⟩ = some (.int .i64 ((q.getD k 0 : Nat) : Int)) ∧ w1.frozen? ⟨g, off + k, none⟩ = false := by
  rw [← hl] at h
  obtain ⟨_, _, _, hv, _, _, _, hf, hc⟩ := h.cells (by omega)
  injection hv with ha _ _
  injection ha with ha
  injection ha with h1 h2
  subst h1 h2
  exact ⟨hc k (by omega), hf _⟩
theorem NewI.s16 {w w1 : World} {q : List Nat} {g off c : Nat} (h : NewI w w1 (.slice (some ⟨g, off, none⟩) 16 c) q) (hl : q.length = 16) (k x : Nat) (hk : k < 16) :
    NewI w (w1.setCell ⟨g, off + k, none⟩ (.int .i64 (x : Int))) (.slice (some ⟨g, off, none⟩) 16 c) (q.set k x) := by
  have h2 := h
  rw [← hl] at h2
  have := h2.set k x (by omega)
  rwa [List.length_set, hl] at this
theorem sub15_le {q : List Nat} (h : DigN q) : ∀ x ∈ sub15 q, x ≤ 1099511627776 := fun x hx => by
  unfold sub15 at hx
  rcases List.mem_or_eq_of_mem_set hx with h1 | h1
  · rcases List.mem_or_eq_of_mem_set h1 with h2 | h2
    · have := h x h2; omega
    · have := h.at_ 15; omega
  · have := h.at_ 0; omega
theorem set_get {q : List Nat} {a b x : Nat} (hab : a ≠ b) : (q.set a x).getD b 0 = q.getD b 0 := by simp [List.getD, List.getElem?_set_ne hab]
theorem cell_touch {w w' : World} {g j : Nat} {v : Value} (h : w.cell? ⟨g, j, none⟩ = some v) (ht : Touch [] w w') : w'.cell? ⟨g, j, none⟩ = some v := by
  rw [ht.cell (World.block_lt_of_cell? w _ h) (by simp)]; exact h
theorem Touch.trans_new'' {w w1 w2 : World} {row : Option Nat} (h : Touch [] w w1) (k : Touch row.toList w1 w2) (hn : NewRow w none row) : Touch [] w w2 := Touch.trans_new' h k hn
theorem Own.ofBlk {w : World} {g : Nat} {e : TypeId} {cs : List Value} (h : Blk w g e cs.toArray) (h0 : 0 < cs.length) (hm : cs.length ≤ maxLen) : Own w e 1 (.slice (some ⟨g, 0, none⟩) cs.length cs.length) cs.length cs (some g) :=
  ⟨by omega, .inr ⟨g, 0, cs.length, cs.toArray, rfl, rfl, h, h0, Nat.le_refl _, hm, by simp, fun j u hj => by simpa using hj⟩⟩
theorem wpList_append_two (w0 : World) {ops : Array Oper} {rest : List Oper} {o : Oper} {a : Act} {Q : Exit → Act → World → Prop} (w : World) (s x : Operand) (t : TypeId)
    (ht : Try.prog.underlying t = some (.slice 5)) (hgd : o.guard = none)
    (ho : o.op = .call { callee := .builtin .append, args := #[s, x], argTypes := #[t, t] })
    {v : Value} {l : List Nat} (hown : NewU w0 w v l) (hl : l.length ≤ 1000000) (u1 u2 g2 : Nat) (hb : Blk w g2 5 #[.int .u8 (u1 : Int), .int .u8 (u2 : Int)])
    (hv : a.eval s = v) (hx : a.eval x = .slice (some ⟨g2, 0, none⟩) 2 2)
    (h : ∀ A c w', NewU w0 w' (.slice A (l ++ [u1, u2]).length c) (l ++ [u1, u2]) → wpList Try.prog ops Q rest (a.put o.dst (.slice A (l ++ [u1, u2]).length c)) w') :
    wpList Try.prog ops Q (o :: rest) a w := by
  obtain ⟨row, hw, hto, hn⟩ := hown
  obtain ⟨i, hi, hz, hs, hby⟩ := info_parts infoU8
  have hsrc := Own.ofBlk (cs := [.int .u8 (u1 : Int), .int .u8 (u2 : Int)]) hb (by simp) (by unfold maxLen; simp)
  refine wpList_append_Own w hgd s x t t ho 5 i _ 1 1 ht hi hz hs hby rfl v l.length (cellsU8 l) row hv hw _ 2 [.int .u8 (u1 : Int), .int .u8 (u2 : Int)] hx (hsrc.src (fun u hu => by simp only [List.mem_cons, List.not_mem_nil, or_false] at hu; rcases hu with rfl | rfl <;> rfl) ht) (by unfold maxLen; omega) (by omega) ?_
  intro v' w' row' h1 h2 h3
  obtain ⟨A, c, rfl, _⟩ := h1.shape
  have hc : cellsU8 l ++ [.int .u8 (u1 : Int), .int .u8 (u2 : Int)] = cellsU8 (l ++ [u1, u2]) := by simp [cellsU8]
  rw [hc] at h1
  have hl : (l ++ [u1, u2]).length = l.length + 2 := by simp
  rw [← hl] at h1 ⊢
  exact h A c w' ⟨row', h1, Touch.trans_new'' hto h2 hn, hn.trans h3 hto.size⟩
theorem make_16 (w : World) : (Instr.makeSlice 79 (.int .i64 16) (.int .i64 16)).run Try.prog w =
    .ok (.slice (some ⟨w.heap.size, 0, none⟩) 16 16) (w.alloc (.cells (cellsI (List.replicate 16 0)).toArray 3)) := by kernel_rfl
set_option maxRecDepth 100000 in
set_option maxHeartbeats 4000000 in
theorem text_any (v : Value) (l : List Nat) (row : Option Nat) (w : World) (ho : Own w 3 1 v l.length (cellsI l) row) (h0 : 0 < l.length) (hl : l.length ≤ 32) (hb : ∀ x ∈ l, x ≤ 1099511627776) (hv : dN l < 65536 ^ 32) :
    Calls Try.prog 62 #[v] w fun e w' => e = .returned (.string (toS (dN l % PP))) ∧ Touch [] w w' := by
  have hfol := fun W (h : W = w) => h ▸ folded_any v l row w ho h0 hl hb hv
  have HFol := Lib.hid hfol
  obtain ⟨V, hV⟩ : ∃ V, V = dN l := ⟨_, rfl⟩
  rw [← hV] at HFol ⊢
  clear hfol ho h0 hl hb hv hV
  go_enter Try.func62, Try.ntmps62
  go_wp2_with fail
  refine (HFol.out _ rfl).mono ?_
  rintro e w1 ⟨v1, q1, rfl, hn1, hd1⟩
  have HN := Lib.hid hn1
  have HD := Lib.hid (TextS.start hd1)
  clear hn1 hd1 HFol
  go_upto_block 0 with fail
  go_cut [0] (fun v0 wx => ∃ q, NewI w wx v0 q ∧ TextS 2 V q ∧ q.getD 15 0 < 32768)
  case first =>
    go_wp2_with fail
    go_loopg [0] 2 (fun gk v0 wr => ∃ q, NewI w wr v0 q ∧ TextS gk V q)
    case atStart => exact ⟨q1, HN.out, HD.out⟩
    case round =>
      clear HN HD
      obtain ⟨q, hq, hT⟩ := hrel
      have HT := Lib.hid hT
      obtain ⟨g, off, c, rfl, hg, hc1, hc2⟩ := hq.at16 hT.len
      obtain ⟨hc15, hf15⟩ := hq.c16 hT.len 15 (by omega)
      have Hq := Lib.hid hq
      clear hq hT
      have h15 := HT.out.dig.at_ 15
      obtain ⟨x, hx⟩ : ∃ x, x = q.getD 15 0 := ⟨_, rfl⟩
      have HX := Lib.hid hx
      rw [← hx] at hc15 h15
      clear hx
      by_cases hbig : 32768 ≤ x
      · obtain ⟨y, hy, hyx⟩ : ∃ y : Nat, (x : Int) - 32768 = (y : Int) ∧ Hid (y = x - 32768) := ⟨x - 32768, by omega, Lib.hid rfl⟩
        have hb1 : (32768 : Int) ≤ (x : Int) := by omega
        have hb2 : (x : Int) < 65536 := by omega
        have Hbig := Lib.hid hbig
        clear hbig h15
        go_upto_region 4 with fail
        have hs := Hq.out.s16 HT.out.len 15 y (by omega)
        obtain ⟨wx, hwx⟩ : ∃ wx, wx = wr.setCell ⟨g, off + 15, none⟩ (.int .i64 (y : Int)) := ⟨_, rfl⟩
        rw [← hwx] at hs ⊢
        clear hwx hc15 hf15 hy
        have Hs := Lib.hid hs
        have hl2 : (q.set 15 y).length = 16 := by rw [List.length_set]; exact HT.out.len
        obtain ⟨hc0, hf0⟩ := hs.c16 hl2 0 (by omega)
        rw [set_get (by omega)] at hc0
        have h0 := HT.out.dig.at_ 0
        clear hb1 hb2
        obtain ⟨z, hz⟩ : ∃ z, z = q.getD 0 0 := ⟨_, rfl⟩
        have HZ := Lib.hid hz
        rw [← hz] at hc0 h0
        rw [Nat.add_zero] at hc0 hf0
        obtain ⟨u, hu, huz⟩ : ∃ u : Nat, (z : Int) + 19 = (u : Int) ∧ Hid (u = z + 19) := ⟨z + 19, by omega, Lib.hid rfl⟩
        have hz2 : (z : Int) < 65536 := by omega
        have Hl2 := Lib.hid hl2
        clear h0
        clear hz hs hl2
        go_upto_region 5 with fail
        have hs := Hs.out.s16 Hl2.out 0 u (by omega)
        rw [Nat.add_zero] at hs
        obtain ⟨wy, hwy⟩ : ∃ wy, wy = wx.setCell ⟨g, off, none⟩ (.int .i64 (u : Int)) := ⟨_, rfl⟩
        rw [← hwy] at hs ⊢
        have e : (q.set 15 y).set 0 u = sub15 q := by unfold sub15; rw [hyx.out, huz.out, HX.out, HZ.out]
        rw [e] at hs
        have hlen : (sub15 q).length = 16 := by rw [← e, List.length_set]; exact Hl2.out
        obtain ⟨rs, hos⟩ := hs.own
        rw [hlen] at hos
        have hcar := fun W (h : W = wy) => h ▸ carried_any _ (sub15 q) rs wy (by rw [hlen]; exact hos) (by omega) (by omega) (sub15_le HT.out.dig)
        have HCar := Lib.hid hcar
        have Hs2 := Lib.hid hs
        have HR := Lib.hid (fun p hp => HT.out.round (p := p) (by rw [← HX.out]; exact Hbig.out) hp)
        clear hwy hc0 hf0 hz2 hu huz hyx e hlen hos hcar hs Hs Hl2
        go_wp2_with fail
        refine (HCar.out _ rfl).mono ?_
        rintro e w3 ⟨v3, p, rfl, hn3, hc3⟩
        obtain ⟨k', hk', hT'⟩ := HR.out p hc3
        have HN := Lib.hid (hn3.before Hs2.out.touch)
        have HT' := Lib.hid hT'
        clear hn3 hc3 hT' HCar HR Hs2
        go_wp2_with fail
        go_roundg k'
        case measure => omega
        case rel => exact ⟨p, HN.out, HT'.out⟩
      · have hb1 : decide ((32768 : Int) ≤ (x : Int)) = false := decide_eq_false (by omega)
        have Hbig := Lib.hid hbig
        clear hbig h15
        go_wp2_with fail
        go_meet
        exact ⟨q, Hq.out, ⟨HT.out.len, HT.out.dig, HT.out.mod, by have h := dN_lt HT.out.dig; rw [HT.out.len] at h; exact h⟩, by rw [← HX.out]; have := Hbig.out; omega⟩
  case rest =>
    clear HN HD
    obtain ⟨q, hq, hT, h15⟩ := hcut
    have HT := Lib.hid hT
    obtain ⟨g, off, c, rfl, hg, hc1, hc2⟩ := hq.at16 hT.len
    have Hq := Lib.hid hq
    have H15 := Lib.hid h15
    clear hq hT h15
    rename World => wq
    go_upto_region 6 with fail
    go_cut [3] (fun v3 wx => v3 = .bool (topB q 0) ∧ wx = wq)
    case first =>
      obtain ⟨hc15, _⟩ := Hq.out.c16 HT.out.len 15 (by omega)
      obtain ⟨hc0, _⟩ := Hq.out.c16 HT.out.len 0 (by omega)
      rw [Nat.add_zero] at hc0
      have htop := Lib.hid (show topB q 0 = (decide (q.getD 15 0 = 32767) && decide (65517 ≤ q.getD 0 0)) from rfl)
      obtain ⟨x, hx⟩ : ∃ x, x = q.getD 15 0 := ⟨_, rfl⟩
      obtain ⟨z, hz⟩ : ∃ z, z = q.getD 0 0 := ⟨_, rfl⟩
      rw [← hx] at hc15 htop
      rw [← hz] at hc0 htop
      clear hx hz
      by_cases h1 : x = 32767
      · have e1 : ((x : Int) == 32767) = true := beq_iff_eq.2 (by omega)
        have H1 := Lib.hid h1
        clear h1
        by_cases h2 : 65517 ≤ z
        · have e2 : decide ((65517 : Int) ≤ (z : Int)) = true := decide_eq_true (by omega)
          have e3 := Lib.hid (show topB q 0 = true by rw [htop.out, decide_eq_true H1.out, decide_eq_true h2]; rfl)
          clear h2
          go_wp2_with fail
          go_meet
          exact ⟨by rw [e3.out], rfl⟩
        · have e2 : decide ((65517 : Int) ≤ (z : Int)) = false := decide_eq_false (by omega)
          have e3 := Lib.hid (show topB q 0 = false by rw [htop.out, decide_eq_true H1.out, decide_eq_false h2]; rfl)
          clear h2
          go_wp2_with fail
          go_meet
          exact ⟨by rw [e3.out], rfl⟩
      · have e1 : ((x : Int) == 32767) = false := beq_eq_false_iff_ne.2 (by omega)
        have e3 := Lib.hid (show topB q 0 = false by rw [htop.out, decide_eq_false h1]; rfl)
        clear h1
        go_wp2_with fail
        go_meet
        exact ⟨by rw [e3.out], rfl⟩
    case rest =>
      obtain ⟨rfl, rfl⟩ := hcut
      rename World => wq
      go_upto_block 2 with fail
      go_cut [3, 4] (fun v3 _ wx => v3 = .bool (topB q 14) ∧ wx = wq)
      case first =>
        go_wp2_with fail
        go_loopw [3, 4] (fun v3 v4 wx => ∃ i : Nat, i ≤ 14 ∧ v3 = .bool (topB q i) ∧ v4 = .int .i64 ((i : Int) + 1) ∧ wx = wq) (fun _ v4 _ => 16 - (intOf v4).toNat)
        case atStart => exact ⟨0, by omega, rfl, rfl, rfl⟩
        case round =>
          obtain ⟨i, hi, rfl, rfl, rfl⟩ := hrel
          rename World => wq
          by_cases hi14 : i < 14
          · obtain ⟨hci, _⟩ := Hq.out.c16 HT.out.len (i + 1) (by omega)
            have htop := Lib.hid (show topB q (i + 1) = (topB q i && decide (q.getD (i + 1) 0 = 65535)) from rfl)
            obtain ⟨x, hx⟩ : ∃ x, x = q.getD (i + 1) 0 := ⟨_, rfl⟩
            rw [← hx] at hci htop
            clear hx
            obtain ⟨b, hb⟩ : ∃ b, b = topB q i := ⟨_, rfl⟩
            rw [← hb] at htop ⊢
            clear hb
            cases b with
            | true =>
              by_cases h1 : x = 65535
              · have e1 : ((x : Int) == 65535) = true := beq_iff_eq.2 (by omega)
                have e3 := Lib.hid (show topB q (i + 1) = true by rw [htop.out, decide_eq_true h1]; rfl)
                clear h1
                go_wp2_with fail
                go_roundw
                case rel => exact ⟨i + 1, by omega, by rw [e3.out], congrArg (Value.int .i64) (by omega), trivial⟩
                case measure => simp [intOf]; omega
              · have e1 : ((x : Int) == 65535) = false := beq_eq_false_iff_ne.2 (by omega)
                have e3 := Lib.hid (show topB q (i + 1) = false by rw [htop.out, decide_eq_false h1]; rfl)
                clear h1
                go_wp2_with fail
                go_roundw
                case rel => exact ⟨i + 1, by omega, by rw [e3.out], congrArg (Value.int .i64) (by omega), trivial⟩
                case measure => simp [intOf]; omega
            | false =>
              have e3 := Lib.hid (show topB q (i + 1) = false by rw [htop.out]; rfl)
              go_wp2_with fail
              go_roundw
              case rel => exact ⟨i + 1, by omega, by rw [e3.out], congrArg (Value.int .i64) (by omega), trivial⟩
              case measure => simp [intOf]; omega
          · obtain rfl : i = 14 := by omega
            go_wp2_with fail
            go_meet
            exact ⟨rfl, rfl⟩
      case rest =>
        obtain ⟨rfl, rfl⟩ := hcut
        rename World => wq
        obtain ⟨b, hb⟩ : ∃ b, b = topB q 14 := ⟨_, rfl⟩
        rw [← hb]
        go_upto_region 11 with fail
        go_upto_if 50 with fail
        go_cut [0] (fun v0 wx => ∃ r, NewI w wx v0 r ∧ Fin16 (V % PP) r)
        case first =>
          cases b with
          | true =>
            obtain ⟨h65, hfin⟩ := HT.out.cut H15.out hb.symm
            obtain ⟨hc0, _⟩ := Hq.out.c16 HT.out.len 0 (by omega)
            rw [Nat.add_zero] at hc0
            have h0 := HT.out.dig.at_ 0
            obtain ⟨z, hz⟩ : ∃ z, z = q.getD 0 0 := ⟨_, rfl⟩
            rw [← hz] at hc0 h0 h65 hfin
            obtain ⟨u, hu, huz⟩ : ∃ u : Nat, (z : Int) - 65517 = (u : Int) ∧ Hid (u = z - 65517) := ⟨z - 65517, by omega, Lib.hid rfl⟩
            rw [← huz.out] at hfin
            have HFin := Lib.hid hfin
            have hz2 : (z : Int) < 65536 := by omega
            have hz3 : (65517 : Int) ≤ (z : Int) := by omega
            have hmk := make_16
            clear hfin h65 h0 hz hb huz
            go_upto_region 14 with fail
            clear hmk hz2 hz3 hu hc0
            have Hst := Lib.hid (NewI.made w wq Hq.out.touch ((List.replicate 16 0).set 0 u) (by simp) (by simp))
            obtain ⟨hcz, hfz⟩ := (NewI.made w wq Hq.out.touch (List.replicate 16 0) (by simp) (by simp)).c16 (by simp) 0 (by omega)
            rw [Nat.add_zero] at hcz hfz
            go_wp2_with fail
            go_meet
            exact ⟨_, Hst.out, HFin.out⟩
          | false =>
            have HFin := Lib.hid (HT.out.keep H15.out hb.symm)
            clear hb
            go_wp2_with fail
            go_meet
            exact ⟨q, Hq.out, HFin.out⟩
        case rest =>
          clear Hq HT H15
          obtain ⟨r, hr, hF⟩ := hcut
          obtain ⟨g, off, c, rfl, hg, hc1, hc2⟩ := hr.at16 hF.len
          have Hr := Lib.hid hr
          have HF := Lib.hid hF
          clear hr hF
          rename World => wr
          clear hb
          go_wp2_with fail
          have hu0 := Lib.hid (show NewU wr (wr.alloc (.cells #[] 5)) (.slice (some ⟨wr.heap.size, 0, none⟩) 0 0) [] from ⟨none, Own.nil _ _ _ _, (Touch.refl _ _).alloc _, .refl _ _⟩)
          go_loopw [6, 7] (fun vb vi wx => ∃ (i : Nat), i ≤ 16 ∧ vi = .int .i64 i ∧ NewU wr wx vb (byL (r.take i))) (fun _ vi _ => 16 - (intOf vi).toNat)
          case atStart => exact ⟨0, by omega, rfl, hu0.out⟩
          case round =>
            clear hu0
            obtain ⟨i, hi, rfl, hb⟩ := hrel
            rename World => wi
            obtain ⟨Ab, cb, rfl, _⟩ := hb.shape
            have hlen : (byL (r.take i)).length = 2 * i := by rw [byL_len, List.length_take, HF.out.len]; omega
            have HB := Lib.hid hb
            clear hb
            rw [hlen] at HB ⊢
            by_cases hi16 : i < 16
            · obtain ⟨hci, _⟩ := (Hr.out.more HB.out.touch).c16 HF.out.len i hi16
              have hsn := Lib.hid (take_snoc (l := r) (k := i) (by rw [HF.out.len]; exact hi16))
              have hxl := HF.out.dig.at_ i
              obtain ⟨x, hx⟩ : ∃ x, x = r.getD i 0 := ⟨_, rfl⟩
              rw [← hx] at hci hsn hxl
              clear hx
              have HC := Lib.hid (fun (W : World) (h : Touch [] wi W) => cell_touch hci h)
              go_upto_region 19 with fail
              have Hm := Lib.hid (show (x : Int).tmod 256 = ((x % 256 : Nat) : Int) by rw [Int.tmod_eq_emod_of_nonneg (by omega)]; omega)
              have Hw1 := Lib.hid (show IntKind.u8.wrap ((x % 256 : Nat) : Int) = ((x % 256 : Nat) : Int) from IntWalk.u8_in _ (by omega))
              have Hd := Lib.hid (show IntKind.i64.wrap ((x : Int) / 256) = ((x / 256 : Nat) : Int) by rw [IntWalk.i64_in _ (by omega)]; omega)
              have Hw2 := Lib.hid (show IntKind.u8.wrap ((x / 256 : Nat) : Int) = ((x / 256 : Nat) : Int) from IntWalk.u8_in _ (by omega))
              -- FLOW text19
              refine wp_region_flowT (by kernel_rfl) 14 (lookW [(0, pu (isV (.slice (some ⟨g, off, none⟩) 16 c))), (6, pu (isV (.slice Ab (2 * i) cb))), (7, pu (isV (.int .i64 ((i : Int))))), (64, pu (isV (.slice Ab (2 * i) cb))), (65, pu (isV (.slice (some ⟨g, off, none⟩) 16 c))), (66, pu (isV (.int .i64 ((i : Int))))), (67, pu (isV (.pointer (some ⟨g, off + i, none⟩)))), (68, pu (isV (.int .i64 (((x : Nat) : Int))))), (69, pu (isV (.int .i64 (((x % 256 : Nat) : Int))))), (70, pu (isV (.int .u8 (((x % 256 : Nat) : Int))))), (71, pu (isV (.slice (some ⟨g, off, none⟩) 16 c))), (72, pu (isV (.int .i64 ((i : Int))))), (73, pu (isV (.pointer (some ⟨g, off + i, none⟩)))), (74, pu (isV (.int .i64 (((x : Nat) : Int))))), (75, pu (isV (.int .i64 (((x / 256 : Nat) : Int))))), (76, pu (isV (.int .u8 (((x / 256 : Nat) : Int))))), (77, sl2 (((x % 256 : Nat) : Int)) (((x / 256 : Nat) : Int)))]) [0, 6, 7] [64, 65, 66, 67, 68, 69, 70, 71, 72, 73, 74, 75, 76, 77] [64, 77] (by kernel_rfl) (by kernel_rfl) (by kernel_rfl) (by kernel_rfl) ⟨rfl, rfl, rfl, trivial⟩ ?_ ?_
              · refine FStepsW.cons (FStepW.plain rfl fun a w hS hE => OpTo.move rfl ⟨dOfW.of 64 rfl (hE 6 (by kernel_rfl)), Touch.refl _ _⟩) ?_
                refine FStepsW.cons (FStepW.plain rfl fun a w hS hE => OpTo.move rfl ⟨dOfW.of 65 rfl (hE 0 (by kernel_rfl)), Touch.refl _ _⟩) ?_
                refine FStepsW.cons (FStepW.plain rfl fun a w hS hE => OpTo.move rfl ⟨dOfW.of 66 rfl (hE 7 (by kernel_rfl)), Touch.refl _ _⟩) ?_
                refine FStepsW.cons (FStepW.plain rfl fun a w hS hE => OpTo.ixI (g) (off) (16) (c) (i) rfl (hE 65 (by kernel_rfl)) (hE 66 (by kernel_rfl)) hi16 ⟨dOfW.of 67 rfl rfl, Touch.refl _ _⟩) ?_
                refine FStepsW.cons (FStepW.plain rfl fun a w hS hE => OpTo.ldI (g) (off + i) (.int .i64 (((x : Nat) : Int))) rfl (hE 67 (by kernel_rfl)) (HC.out w hS) ⟨dOfW.of 68 rfl rfl, Touch.refl _ _⟩) ?_
                refine FStepsW.cons (FStepW.plain rfl fun a w hS hE => OpTo.remI (((x : Nat) : Int)) (256) (((x % 256 : Nat) : Int)) (by decide) rfl (hE 68 (by kernel_rfl)) rfl Hm.out ⟨dOfW.of 69 rfl rfl, Touch.refl _ _⟩) ?_
                refine FStepsW.cons (FStepW.plain rfl fun a w hS hE => OpTo.cvI .u8 (((x % 256 : Nat) : Int)) (((x % 256 : Nat) : Int)) rfl (by kernel_rfl) Try.underlying5 (hE 69 (by kernel_rfl)) Hw1.out ⟨dOfW.of 70 rfl rfl, Touch.refl _ _⟩) ?_
                refine FStepsW.cons (FStepW.plain rfl fun a w hS hE => OpTo.move rfl ⟨dOfW.of 71 rfl (hE 0 (by kernel_rfl)), Touch.refl _ _⟩) ?_
                refine FStepsW.cons (FStepW.plain rfl fun a w hS hE => OpTo.move rfl ⟨dOfW.of 72 rfl (hE 7 (by kernel_rfl)), Touch.refl _ _⟩) ?_
                refine FStepsW.cons (FStepW.plain rfl fun a w hS hE => OpTo.ixI (g) (off) (16) (c) (i) rfl (hE 71 (by kernel_rfl)) (hE 72 (by kernel_rfl)) hi16 ⟨dOfW.of 73 rfl rfl, Touch.refl _ _⟩) ?_
                refine FStepsW.cons (FStepW.plain rfl fun a w hS hE => OpTo.ldI (g) (off + i) (.int .i64 (((x : Nat) : Int))) rfl (hE 73 (by kernel_rfl)) (HC.out w hS) ⟨dOfW.of 74 rfl rfl, Touch.refl _ _⟩) ?_
                refine FStepsW.cons (FStepW.plain rfl fun a w hS hE => OpTo.quoI (((x : Nat) : Int)) (256) (((x / 256 : Nat) : Int)) (by decide) (by omega) rfl (hE 74 (by kernel_rfl)) rfl Hd.out ⟨dOfW.of 75 rfl rfl, Touch.refl _ _⟩) ?_
                refine FStepsW.cons (FStepW.plain rfl fun a w hS hE => OpTo.cvI .u8 (((x / 256 : Nat) : Int)) (((x / 256 : Nat) : Int)) rfl (by kernel_rfl) Try.underlying5 (hE 75 (by kernel_rfl)) Hw2.out ⟨dOfW.of 76 rfl rfl, Touch.refl _ _⟩) ?_
                refine FStepsW.cons (FStepW.plain rfl fun a w hS hE => OpTo.two (((x % 256 : Nat) : Int)) (((x / 256 : Nat) : Int)) rfl (hE 70 (by kernel_rfl)) (hE 76 (by kernel_rfl)) (fun _ _ h => dOfW.of 77 rfl h)) ?_
                exact FStepsW.nil
              intro f wx hS hF
              obtain ⟨h64, h77, -⟩ := hF
              replace h64 : f 64 = .slice Ab (2 * i) cb := h64
              obtain ⟨g2, h77, hb2⟩ := h77
              simp only [setAll, List.setIfInBounds_toArray, List.set_cons_zero, List.set_cons_succ, h64, h77]
              -- END
              replace HB := Lib.hid (HB.out.more hS)
              show wpList _ _ _ [_, _] _ _
              refine wpList_append_two wr _ (.tmp 64) (.tmp 77) 53 Try.underlying53 rfl rfl HB.out (by rw [byL_len, List.length_take, HF.out.len]; omega) (x % 256) (x / 256) g2 hb2 rfl rfl ?_
              intro A2 c2 w2 h2
              rw [← byL_snoc, ← hsn.out] at h2 ⊢
              have H2 := Lib.hid h2
              clear h2 hS h64 h77 hb2 HC Hm Hw1 Hd Hw2 hci hlen
              go_wp2_with fail
              go_roundw
              case rel => exact ⟨i + 1, by omega, by go_num, H2.out⟩
              case measure => simp [intOf]; omega
            · obtain rfl : i = 16 := by omega
              have htk : r.take 16 = r := List.take_of_length_le (by rw [HF.out.len]; omega)
              have hbl : (byL r).length = 32 := by rw [← htk]; exact hlen
              rw [htk] at HB
              have hb3 := HB.out
              rw [show 2 * 16 = (byL r).length by rw [hbl]] at hb3
              obtain ⟨g2, o2, c3, hv2, _, _, _, _, hcx⟩ := hb3.cells (by rw [hbl]; omega)
              injection hv2 with ha _ hcc
              subst ha hcc
              have hconv := run_convert_bytes_arg (P := Try.prog) wi 53 5 Try.underlying53 Try.underlying5 g2 o2 (byL r).length cb ((byL r).map fun (n : Nat) => (n : Int)) (by simp) (fun i hi => by
                rw [hcx i hi, getD_map_int]) 9 Try.underlying9
              rw [str_byL HF.out, hbl] at hconv
              clear hcx hb3 hlen htk hbl
              go_wp2_with fail
              go_ret
              exact ⟨rfl, Hr.out.touch.trans HB.out.touch⟩
end Go.Proofs.Ytbgpgbfiadhddaa
/- The document's digits of bytes. -/
namespace Go.Proofs.Ytbgpgbfiadhddaa
open Go.RowKit
theorem leN_zero_of {l : List Nat} (h : ∀ x ∈ l, x = 0) : leN l = 0 := by
  induction l with
  | nil => rfl
  | cons x l ih => rw [leN, h x List.mem_cons_self, ih (fun y hy => h y (List.mem_cons_of_mem _ hy))]
theorem leN_pad_take {s : List Nat} {m : Nat} (h : s.length ≤ m) (hm : m ≤ 32) : leN ((padN s 32).take m) = leN (s.take 32) := by
  rw [← leN_padN s 32]
  have e := leN_append ((padN s 32).take m) ((padN s 32).drop m)
  rw [List.take_append_drop] at e
  rw [e, leN_zero_of (l := (padN s 32).drop m), Nat.mul_zero, Nat.add_zero]
  intro x hx
  obtain ⟨j, hj, rfl⟩ := List.getElem_of_mem hx
  rw [List.length_drop, padN_len] at hj
  rw [List.getElem_drop]
  have h1 := padN_at s 32 (m + j) (by omega)
  have h2 : s.getD (m + j) 0 = 0 := by rw [List.getD, List.getElem?_eq_none (by omega)]; rfl
  rw [h2, List.getD, List.getElem?_eq_getElem (by rw [padN_len]; omega)] at h1
  exact h1
/-- While bytes are taken, two at a time. -/
structure DigR (s : List Nat) (j : Nat) (q : List Nat) : Prop where
  len : q.length = 16
  dig : DigN q
  rest : ∀ k, j ≤ k → q.getD k 0 = 0
  val : dN q = leN ((padN s 32).take (2 * j))
theorem DigR.start (s : List Nat) : DigR s 0 (List.replicate 16 0) :=
  ⟨by simp, fun x hx => by rw [(List.mem_replicate.1 hx).2]; decide, fun k _ => by
    by_cases hk : k < 16
    · rw [List.getD, List.getElem?_replicate, if_pos hk]; rfl
    · rw [List.getD, List.getElem?_replicate, if_neg hk]; rfl, by rw [dN_zeros]; simp [leN]⟩
theorem DigR.step {s q : List Nat} {j x y : Nat} (h : DigR s j q) (hj : j < 16) (hx : x = s.getD (2 * j) 0) (hy : y = s.getD (2 * j + 1) 0) (hx2 : x < 256) (hy2 : y < 256) : DigR s (j + 1) (q.set j (x + 256 * y)) := by
  have h1 := h.len
  refine ⟨by rw [List.length_set]; exact h1, fun z hz => ?_, fun k hk => ?_, ?_⟩
  · rcases List.mem_or_eq_of_mem_set hz with h2 | h2
    · exact h.dig z h2
    · omega
  · rw [set_get (by omega)]; exact h.rest k (by omega)
  · have e1 := dN_set (l := q) (k := j) (by omega) (x + 256 * y)
    rw [h.rest j (Nat.le_refl _), Nat.mul_zero, Nat.add_zero, h.val] at e1
    have e2 := leN_take_succ (l := padN s 32) (k := 2 * j) (by rw [padN_len]; omega)
    have e3 := leN_take_succ (l := padN s 32) (k := 2 * j + 1) (by rw [padN_len]; omega)
    rw [padN_at _ _ _ (by omega), ← hx] at e2
    rw [padN_at _ _ _ (by omega), ← hy] at e3
    rw [show 2 * (j + 1) = 2 * j + 1 + 1 by omega, e3, e2, e1, Nat.pow_succ, Nat.pow_mul]
    have e4 : (256 : Nat) ^ 2 = 65536 := by decide
    rw [e4]
    generalize (65536 : Nat) ^ j = P
    grind
/-- Sixteen digits of the first 32 bytes. -/
structure DigS (s : List Nat) (q : List Nat) : Prop where
  len : q.length = 16
  dig : DigN q
  val : dN q = leN (s.take 32)
theorem DigR.done {s q : List Nat} {j : Nat} (h : DigR s j q) (hj : j ≤ 16) (hd : j = 16 ∨ s.length ≤ 2 * j) : DigS s q := by
  refine ⟨h.len, h.dig, ?_⟩
  rw [h.val]
  rcases hd with rfl | hd
  · rw [show 2 * 16 = 32 by rfl, List.take_of_length_le (by rw [padN_len]; omega), leN_padN]
  · exact leN_pad_take hd (by omega)
set_option maxRecDepth 100000 in
set_option maxHeartbeats 4000000 in
theorem digits_any (s : ByteArray) (w : World) : Calls Try.prog 61 #[.string s] w (RowPost (DigS (bl s)) w) := by
  have hmk := make_16
  go_enter Try.func61, Try.ntmps61
  go_wp2_with fail
  clear hmk
  have HST := Lib.hid (NewI.made w w (Touch.refl _ _) (List.replicate 16 0) (by simp) (by simp))
  go_loopw [4] (fun vi wr => ∃ (j : Nat) (q : List Nat), j ≤ 16 ∧ vi = .int .i64 ((2 * j : Nat) : Int) ∧ NewI w wr (.slice (some ⟨w.heap.size, 0, none⟩) 16 16) q ∧ DigR (bl s) j q) (fun vi _ => 32 - (intOf vi).toNat)
  case atStart => exact ⟨0, List.replicate 16 0, by omega, rfl, HST.out, DigR.start _⟩
  case round =>
    clear HST
    obtain ⟨j, q, hj, rfl, hq, hD⟩ := hrel
    have HD := Lib.hid hD
    have Hq := Lib.hid hq
    obtain ⟨i, hi⟩ : ∃ i, i = 2 * j := ⟨_, rfl⟩
    have HI := Lib.hid hi
    rw [← hi]
    have hi32 : i ≤ 32 := by omega
    clear hq hD
    by_cases h32 : i < 32
    · by_cases hs : i < s.size
      · have hji : (i : Int) / 2 = (j : Int) := by omega
        obtain ⟨hc, hf⟩ := Hq.out.c16 HD.out.len j (by omega)
        rw [HD.out.rest j (Nat.le_refl _), Nat.zero_add] at hc
        rw [Nat.zero_add] at hf
        have hix := index_blE s (i : Int) i rfl hs
        have hxl := getD_lt (bl_lt s) i
        have hst := HD.out.step (by omega) (x := (bl s).getD i 0) (y := (bl s).getD (i + 1) 0) (by rw [hi]) (by rw [hi]) hxl (getD_lt (bl_lt s) _)
        obtain ⟨x, hx⟩ : ∃ x, x = (bl s).getD i 0 := ⟨_, rfl⟩
        rw [← hx] at hix hxl hst
        clear hx hi
        go_upto_region 6 with fail
        have hs1 := Hq.out.s16 HD.out.len j x (by omega)
        rw [Nat.zero_add] at hs1
        obtain ⟨wx, hwx⟩ : ∃ wx, wx = wr.setCell ⟨w.heap.size, j, none⟩ (.int .i64 (x : Int)) := ⟨_, rfl⟩
        rw [← hwx] at hs1 ⊢
        obtain ⟨hc1, hf1⟩ := hs1.c16 (by rw [List.length_set]; exact HD.out.len) j (by omega)
        rw [Nat.zero_add] at hc1 hf1
        rw [show (q.set j x).getD j 0 = x by simp [List.getD, HD.out.len, show j < 16 by omega]] at hc1
        have Hs1 := Lib.hid hs1
        clear hwx hs1 hc hf hix
        by_cases hs2 : i + 1 < s.size
        · have hix := index_blE s ((i : Int) + 1) (i + 1) (by omega) hs2
          have hyl := getD_lt (bl_lt s) (i + 1)
          obtain ⟨y, hy⟩ : ∃ y, y = (bl s).getD (i + 1) 0 := ⟨_, rfl⟩
          rw [← hy] at hix hyl hst
          have HS := Lib.hid hst
          clear hy hst
          go_wp2_with fail
          go_region
          go_wp2_with fail
          go_roundw
          case rel =>
            have hs3 := Hs1.out.s16 (by rw [List.length_set]; exact HD.out.len) j (x + 256 * y) (by omega)
            rw [Nat.zero_add, List.set_set] at hs3
            have hcast : (x : Int) + 256 * (y : Int) = ((x + 256 * y : Nat) : Int) := by omega
            rw [hcast]
            exact ⟨j + 1, _, by omega, congrArg (Value.int .i64) (by have := HI.out; omega), hs3.more (Touch.refl _ _).drew, HS.out⟩
          case measure => simp [intOf]; omega
        · rw [show (bl s).getD (i + 1) 0 = 0 by rw [List.getD, List.getElem?_eq_none (by rw [bl_len]; omega)]; rfl, Nat.mul_zero, Nat.add_zero] at hst
          have HS := Lib.hid hst
          clear hst
          go_wp2_with fail
          go_roundw
          case rel => exact ⟨j + 1, _, by omega, congrArg (Value.int .i64) (by have := HI.out; omega), Hs1.out, HS.out⟩
          case measure => simp [intOf]; omega
      · have HF := Lib.hid (HD.out.done hj (.inr (by rw [bl_len]; omega)))
        clear hi
        go_wp2_with fail
        go_ret
        exact ⟨_, q, rfl, Hq.out, HF.out⟩
    · have HF := Lib.hid (HD.out.done hj (.inl (by omega)))
      clear hi
      by_cases hs : i < s.size
      · go_wp2_with fail
        go_ret
        exact ⟨_, q, rfl, Hq.out, HF.out⟩
      · go_wp2_with fail
        go_ret
        exact ⟨_, q, rfl, Hq.out, HF.out⟩
end Go.Proofs.Ytbgpgbfiadhddaa
/- The document's numbers modulo p: cut, small ones, sums. -/
namespace Go.Proofs.Ytbgpgbfiadhddaa
open Go.RowKit
def lowB (s : ByteArray) : Nat := leN ((bl s).take 32)
theorem lowB_lt (s : ByteArray) : lowB s < 65536 ^ 16 := by
  unfold lowB
  have h := leN_lt (l := (bl s).take 32) (fun b hb => bl_lt s b (List.mem_of_mem_take hb))
  refine Nat.lt_of_lt_of_le h (Nat.le_trans (Nat.pow_le_pow_right (by omega) (by rw [List.length_take]; exact Nat.min_le_left _ _)) (by decide))
theorem lowB_toS {n : Nat} (h : n < PP) : lowB (toS n) = n := by
  unfold lowB
  rw [List.take_of_length_le (by rw [bl_len, toS_size]; omega), leN_toS, Nat.mod_eq_of_lt (Nat.lt_trans h PP_lt)]
theorem lowB_cut (s : ByteArray) : lowB s % PP = cutN s := rfl
theorem text_new {w0 w : World} {v : Value} {q : List Nat} (h : NewI w0 w v q) (h0 : 0 < q.length) (hl : q.length ≤ 32) (hb : ∀ x ∈ q, x ≤ 1099511627776) (hv : dN q < 65536 ^ 32) :
    Calls Try.prog 62 #[v] w fun e w' => e = .returned (.string (toS (dN q % PP))) ∧ Touch [] w w' := by
  obtain ⟨row, ho⟩ := h.own
  exact text_any v q row w ho h0 hl hb hv
theorem DigN.le {q : List Nat} (h : DigN q) : ∀ x ∈ q, x ≤ 1099511627776 := fun x hx => by have := h x hx; omega
theorem pow_16_32 : (65536 : Nat) ^ 16 < 65536 ^ 32 := by decide
set_option maxRecDepth 100000 in
theorem refCut_any (s : ByteArray) (w : World) : Calls Try.prog 60 #[.string s] w fun e w' => e = .returned (.string (toS (lowB s % PP))) ∧ Touch [] w w' := by
  go_enter Try.func60, Try.ntmps60
  go_wp2_with fail
  refine (digits_any s _).mono ?_
  rintro e w1 ⟨v1, q, rfl, hn, hd⟩
  have HT := Lib.hid (fun W (h : W = w1) => h ▸ text_new hn (by rw [hd.len]; omega) (by rw [hd.len]; omega) hd.dig.le (by rw [hd.val]; exact Nat.lt_trans (lowB_lt s) pow_16_32))
  have Hn := Lib.hid hn.touch
  have Hv := Lib.hid hd.val
  clear hn hd
  go_wp2_with fail
  refine (HT.out _ rfl).mono ?_
  rintro e w2 ⟨rfl, ht⟩
  have Ht := Lib.hid ht
  clear ht HT
  go_wp2_with fail
  go_ret
  exact ⟨by rw [Hv.out]; rfl, Hn.out.trans Ht.out⟩
/-- The digits of a small number. -/
structure NumR (n j : Nat) (q : List Nat) (m : Nat) : Prop where
  len : q.length = j
  dig : DigN q
  val : dN q + 65536 ^ j * m = n
  lt : m < 65536 ^ (4 - j)
theorem NumR.step {n j m : Nat} {q : List Nat} (h : NumR n j q m) (hj : j < 4) : NumR n (j + 1) (q ++ [m % 65536]) (m / 65536) := by
  refine ⟨by simp [h.len], h.dig.snoc (Nat.mod_lt _ (by decide)), ?_, ?_⟩
  · rw [dN_pad, h.len, ← h.val, Nat.pow_succ]
    have e : m = m % 65536 + 65536 * (m / 65536) := by omega
    generalize m % 65536 = a at *
    generalize m / 65536 = b at *
    generalize (65536 : Nat) ^ j = P
    subst e
    grind
  · have h1 := h.lt
    rw [show 4 - j = 4 - (j + 1) + 1 by omega, Nat.pow_succ] at h1
    omega
set_option maxRecDepth 100000 in
set_option maxHeartbeats 1000000 in
theorem refNum_any (n : Nat) (hn : n < 18446744073709551616) (w : World) : Calls Try.prog 41 #[.int .u64 (n : Int)] w fun e w' => e = .returned (.string (toS (n % PP))) ∧ Touch [] w w' := by
  have hst := Lib.hid (show NumR n 0 [] n from ⟨rfl, fun x hx => (by cases hx), by simp [dN], hn⟩)
  clear hn
  go_enter Try.func41, Try.ntmps41
  go_wp2_with fail
  go_loopw [0, 3, 4] (fun v0 v3 vi wr => ∃ (j : Nat) (q : List Nat) (m : Nat), j ≤ 4 ∧ vi = .int .i64 j ∧ v0 = .int .u64 m ∧ NewI w wr v3 q ∧ NumR n j q m) (fun _ _ vi _ => 4 - (intOf vi).toNat)
  case atStart => exact ⟨0, [], n, by omega, rfl, rfl, ⟨none, Own.nil _ _ _ _, (Touch.refl _ _).alloc _, .refl _ _⟩, hst.out⟩
  case round =>
    clear hst
    obtain ⟨j, q, m, hj, rfl, rfl, hq, hN⟩ := hrel
    obtain ⟨A, c, rfl, _⟩ := hq.shape
    have hql := hN.len
    have hlt := hN.lt
    have HN := Lib.hid hN
    rw [hql]
    have Hq := Lib.hid hq
    rw [hql] at Hq
    have Hql := Lib.hid hql
    clear hN hq hql
    by_cases hj4 : j < 4
    · have hm64 : m < 18446744073709551616 := Nat.lt_of_lt_of_le hlt (Nat.le_trans (Nat.pow_le_pow_right (by decide) (show 4 - j ≤ 4 by omega)) (by decide))
      have hst := HN.out.step hj4
      obtain ⟨u, hu, hu2, hul⟩ : ∃ u : Nat, (m : Int) % 65536 = (u : Int) ∧ m % 65536 = u ∧ u < 65536 := ⟨m % 65536, by omega, rfl, by omega⟩
      obtain ⟨z, hz, hz2⟩ : ∃ z : Nat, (m : Int) / 65536 = (z : Int) ∧ m / 65536 = z := ⟨m / 65536, by omega, rfl⟩
      rw [hu2, hz2] at hst
      have HS := Lib.hid hst
      have HW := Lib.hid (show IntKind.u64.wrap (z : Int) = (z : Int) from IntWalk.u64_in _ (by omega))
      clear hst hu2 hz2 hlt hm64
      go_wp2_with (at_builtin; refine wpList_append_int w _ (.tmp 10) (.tmp 14) 79 Try.underlying79 rfl rfl Hq.out (by rw [Hql.out]; omega) u _ rfl rfl ?_)
      intro A2 c2 w2 h2
      have H2 := Lib.hid h2
      clear h2
      go_wp2_with fail
      go_roundw
      case rel => exact ⟨j + 1, _, z, by omega, by go_num, by rw [HW.out], H2.out, HS.out⟩
      case measure => simp [intOf]; omega
    · obtain rfl : j = 4 := by omega
      have hm0 : m = 0 := by simpa using hlt
      subst hm0
      have hv := HN.out.val
      rw [Nat.mul_zero, Nat.add_zero] at hv
      have HT := Lib.hid (fun W (h : W = wr) => h ▸ text_new (w0 := w) (v := .slice A 4 c) (q := q) Hq.out (by rw [Hql.out]; omega) (by rw [Hql.out]; omega) HN.out.dig.le (Nat.lt_trans (dN_lt HN.out.dig) (by rw [Hql.out]; decide)))
      have Hv := Lib.hid hv
      clear hv hlt
      go_wp2_with fail
      refine (HT.out _ rfl).mono ?_
      rintro e w2 ⟨rfl, ht⟩
      have Ht := Lib.hid ht
      clear ht HT
      go_wp2_with fail
      go_ret
      exact ⟨by rw [Hv.out]; rfl, Hq.out.touch.trans Ht.out⟩
end Go.Proofs.Ytbgpgbfiadhddaa
/- The document's sums modulo p. -/
namespace Go.Proofs.Ytbgpgbfiadhddaa
open Go.RowKit
/-- A row of ints, by its place. -/
structure RowA (w : World) (g off c n : Nat) (q : List Nat) : Prop where
  len : q.length = n
  own : Own w 3 1 (.slice (some ⟨g, off, none⟩) n c) n (cellsI q) (some g)
section
variable {w w' : World} {g off c n : Nat} {q : List Nat}
theorem NewI.rowA {w0 : World} {v : Value} (h : NewI w0 w v q) (hn : 0 < n) (hl : q.length = n) : ∃ g off c, v = .slice (some ⟨g, off, none⟩) n c ∧ w0.heap.size ≤ g ∧ g < w.heap.size ∧ n ≤ c ∧ c ≤ 9223372036854775807 ∧ RowA w g off c n q := by
  obtain ⟨row, ho, _, hnew⟩ := h
  rw [hl] at ho
  obtain ⟨g, off, c, rfl, rfl, hg, hnc, hcm, _, _⟩ := ho.cell1 hn
  refine ⟨g, off, c, rfl, ?_, hg, hnc, hcm, hl, ho⟩
  rcases hnew g rfl with h' | h'
  · cases h'
  · exact h'
theorem RowA.newI {w0 : World} (h : RowA w g off c n q) (ht : Touch [] w0 w) (hg : w0.heap.size ≤ g) : NewI w0 w (.slice (some ⟨g, off, none⟩) n c) q :=
  ⟨some g, by rw [h.len]; exact h.own, ht, .fresh _ _ hg⟩
theorem RowA.touch (h : RowA w g off c n q) (ht : Touch [] w w') : RowA w' g off c n q := ⟨h.len, h.own.touch ht (by simp)⟩
theorem RowA.cell (h : RowA w g off c n q) (k : Nat) (hk : k < n) : w.cell? ⟨g, off + k, none⟩ = some (.int .i64 ((q.getD k 0 : Nat) : Int)) :=
  Own.cellAt h.own (by omega) k _ (cellsI_at (by rw [h.len]; exact hk))
theorem RowA.free (h : RowA w g off c n q) (hn : 0 < n) (k : Nat) : w.frozen? ⟨g, k, none⟩ = false := by
  obtain ⟨_, _, _, hv, _, _, _, _, hf, _⟩ := h.own.cell1 hn
  injection hv with ha _ _
  injection ha with ha
  injection ha with h1 _
  subst h1
  exact hf k
theorem RowA.set (h : RowA w g off c n q) (k x : Nat) (hk : k < n) : RowA (w.setCell ⟨g, off + k, none⟩ (.int .i64 (x : Int))) g off c n (q.set k x) :=
  ⟨by rw [List.length_set]; exact h.len, by rw [← cellsI_set]; exact h.own.set1 k hk _⟩
theorem RowA.far (h : RowA w g off c n q) {a : Addr} (ha : g ≠ a.block) (u : Value) : RowA (w.setCell a u) g off c n q :=
  ⟨h.len, h.own.far (fun _ e => by cases e; exact ha) u⟩
end
/-- Sums, digit by digit. -/
structure AddS (x y r : List Nat) (k : Nat) : Prop where
  len : r.length = 16
  drop : ∀ j, k ≤ j → r.getD j 0 = x.getD j 0
  val : dN r = dN x + dN (y.take k)
  le : ∀ z ∈ r, z ≤ 131072
theorem AddS.step {x y r : List Nat} {k a b : Nat} (h : AddS x y r k) (hk : k < 16) (hx : DigN x) (hy : DigN y) (hyl : y.length = 16) (ha : a = r.getD k 0) (hb : b = y.getD k 0) : AddS x y (r.set k (a + b)) (k + 1) := by
  have h1 := h.len
  refine ⟨by rw [List.length_set]; exact h1, fun j hj => by rw [set_get (by omega)]; exact h.drop j (by omega), ?_, fun z hz => ?_⟩
  · have e1 := dN_set (l := r) (k := k) (by omega) (a + b)
    rw [← ha, h.val] at e1
    rw [dN_take_succ (by omega), ← hb]
    generalize (65536 : Nat) ^ k = P at *
    generalize dN (r.set k (a + b)) = R at *
    grind
  · rcases List.mem_or_eq_of_mem_set hz with h2 | h2
    · exact h.le z h2
    · have h3 := h.drop k (Nat.le_refl _)
      have h4 := hx.at_ k
      have h5 := hy.at_ k
      omega
set_option maxRecDepth 100000 in
set_option maxHeartbeats 1000000 in
theorem refAdd_any (a b : ByteArray) (w : World) : Calls Try.prog 43 #[.string a, .string b] w fun e w' => e = .returned (.string (toS ((lowB a + lowB b) % PP))) ∧ Touch [] w w' := by
  go_enter Try.func43, Try.ntmps43
  go_wp2_with fail
  refine (digits_any a _).mono ?_
  rintro e w1 ⟨v1, x, rfl, hn1, hd1⟩
  obtain ⟨gx, ox, cx, rfl, hgx, hlx, hcx1, hcx2, hrx⟩ := hn1.rowA (by omega) hd1.len
  have Rx := Lib.hid hrx
  have Dx := Lib.hid hd1
  have T1 := Lib.hid hn1.touch
  clear hn1 hd1 hrx
  go_wp2_with fail
  refine (digits_any b _).mono ?_
  rintro e w2 ⟨v2, y, rfl, hn2, hd2⟩
  obtain ⟨gy, oy, cy, rfl, hgy, hly, hcy1, hcy2, hry⟩ := hn2.rowA (by omega) hd2.len
  have Ry := Lib.hid hry
  have Dy := Lib.hid hd2
  have T2 := Lib.hid (T1.out.trans hn2.touch)
  replace Rx := Lib.hid (Rx.out.touch hn2.touch)
  have hne : gx ≠ gy := by omega
  have Hne := Lib.hid hne
  clear hn2 hd2 hry hne T1 hlx hly hgy
  go_wp2_with fail
  go_loopw [7] (fun vi wr => ∃ (k : Nat) (r : List Nat), k ≤ 16 ∧ vi = .int .i64 k ∧ RowA wr gx ox cx 16 r ∧ AddS x y r k ∧ RowA wr gy oy cy 16 y ∧ Touch [] w wr) (fun vi _ => 16 - (intOf vi).toNat)
  case atStart => exact ⟨0, x, by omega, rfl, Rx.out, ⟨Dx.out.len, fun _ _ => rfl, by simp [dN], fun z hz => by have := Dx.out.dig z hz; omega⟩, Ry.out, T2.out⟩
  case round =>
    clear Rx Ry T2
    obtain ⟨k, r, hk, rfl, hx, hS, hy, hT⟩ := hrel
    have Rx := Lib.hid hx
    have Ry := Lib.hid hy
    have HS := Lib.hid hS
    have HT := Lib.hid hT
    clear hx hy hS hT
    by_cases hk16 : k < 16
    · have hcx := Rx.out.cell k hk16
      have hfx := Rx.out.free (by omega) (ox + k)
      have hcy := Ry.out.cell k hk16
      have hst := HS.out.step hk16 Dx.out.dig Dy.out.dig Dy.out.len (a := r.getD k 0) (b := y.getD k 0) rfl rfl
      have hab := getD_le HS.out.le k
      have hbb := Dy.out.dig.at_ k
      obtain ⟨m, hm⟩ : ∃ m, m = r.getD k 0 := ⟨_, rfl⟩
      obtain ⟨n, hn⟩ : ∃ n, n = y.getD k 0 := ⟨_, rfl⟩
      rw [← hm] at hcx hst hab
      rw [← hn] at hcy hst hbb
      have Hst := Lib.hid hst
      clear hm hn hst
      go_wp2_with fail
      go_region
      go_wp2_with fail
      go_roundw
      case rel =>
        have hcast : (m : Int) + (n : Int) = ((m + n : Nat) : Int) := by omega
        rw [hcast]
        exact ⟨k + 1, _, by omega, by go_num, (Rx.out.set k (m + n) hk16).touch (Touch.refl _ _).drew, Hst.out, (Ry.out.far (Ne.symm Hne.out) _).touch (Touch.refl _ _).drew, (HT.out.setCell (.inr hgx) _).drew⟩
      case measure => simp [intOf]; omega
    · obtain rfl : k = 16 := by omega
      have hv := HS.out.val
      rw [List.take_of_length_le (by rw [Dy.out.len]; omega), Dx.out.val, Dy.out.val] at hv
      have hlt : dN r < 65536 ^ 32 := by
        rw [hv]
        have h1 := lowB_lt a
        have h2 := lowB_lt b
        unfold lowB at h1 h2
        have h3 : (65536 : Nat) ^ 16 + 65536 ^ 16 < 65536 ^ 32 := by decide
        omega
      have hle := HS.out.le
      have HTx := Lib.hid (fun W (h : W = wr) => h ▸ text_new (Rx.out.newI HT.out hgx) (by rw [Rx.out.len]; omega) (by rw [Rx.out.len]; omega) (fun z hz => Nat.le_trans (hle z hz) (by decide)) hlt)
      have Hv := Lib.hid hv
      clear hv hlt hle
      go_wp2_with fail
      refine (HTx.out _ rfl).mono ?_
      rintro e w3 ⟨rfl, ht⟩
      have Ht := Lib.hid ht
      clear ht HTx
      go_wp2_with fail
      go_ret
      exact ⟨by rw [Hv.out]; rfl, HT.out.trans Ht.out⟩
end Go.Proofs.Ytbgpgbfiadhddaa
/- The document's negatives and differences modulo p. -/
namespace Go.Proofs.Ytbgpgbfiadhddaa
open Go.RowKit
/-- What is missing to p, digit by digit; c is borrowed. -/
structure NegS (x p r : List Nat) (k c : Nat) : Prop where
  len : r.length = 16
  drop : ∀ j, k ≤ j → r.getD j 0 = x.getD j 0
  dig : DigN r
  val : dN (r.take k) + dN (x.take k) = dN (p.take k) + c * 65536 ^ k
  one : c ≤ 1
theorem take_set_ge {r : List Nat} {k m z : Nat} (h : k ≤ m) : (r.set m z).take k = r.take k := by
  rw [List.take_set_of_le h]
theorem NegS.step {x p r : List Nat} {k c a b z c' : Nat} (h : NegS x p r k c) (hk : k < 16) (hxl : x.length = 16) (hpl : p.length = 16) (ha : a = r.getD k 0) (hb : b = p.getD k 0) (hz : z < 65536) (he : z + a + c = b + c' * 65536) (hc : c' ≤ 1) : NegS x p (r.set k z) (k + 1) c' := by
  have h1 := h.len
  have hax : a = x.getD k 0 := by rw [ha]; exact h.drop k (Nat.le_refl _)
  refine ⟨by rw [List.length_set]; exact h1, fun j hj => by rw [set_get (by omega)]; exact h.drop j (by omega), fun y hy => ?_, ?_, hc⟩
  · rcases List.mem_or_eq_of_mem_set hy with h2 | h2
    · exact h.dig y h2
    · omega
  · have e1 := dN_take_succ (l := r.set k z) (k := k) (by rw [List.length_set]; omega)
    have e2 := dN_take_succ (l := x) (k := k) (by omega)
    have e3 := dN_take_succ (l := p) (k := k) (by omega)
    have e4 : (r.set k z).getD k 0 = z := by simp [List.getD, h1, hk]
    rw [take_set_ge (Nat.le_refl _), e4] at e1
    rw [e1, e2, e3, ← hax, ← hb]
    have hv := h.val
    rw [Nat.pow_succ]
    generalize (65536 : Nat) ^ k = P at *
    have : P * (z + a + c) = P * (b + c' * 65536) := by rw [he]
    grind
theorem NegS.done {x p r : List Nat} {c : Nat} (h : NegS x p r 16 c) (hxl : x.length = 16) (hpl : p.length = 16) (hp : dN p = PP) (hx : dN x ≤ PP) : dN r = PP - dN x := by
  have hv := h.val
  rw [List.take_of_length_le (by rw [h.len]; omega), List.take_of_length_le (by omega), List.take_of_length_le (by omega), hp] at hv
  have hlt := dN_lt h.dig
  rw [h.len] at hlt
  have hpp : PP < 65536 ^ 16 := by decide
  have h1 := h.one
  have hc : c = 0 := by
    apply Classical.byContradiction
    intro hne
    have : c = 1 := by omega
    subst this
    rw [Nat.one_mul] at hv
    generalize (65536 : Nat) ^ 16 = B at *
    omega
  subst hc
  rw [Nat.zero_mul, Nat.add_zero] at hv
  omega
theorem dig_p : leN ((bl (⟨#[237, 255, 255, 255, 255, 255, 255, 255, 255, 255, 255, 255, 255, 255, 255, 255, 255, 255, 255, 255, 255, 255, 255, 255, 255, 255, 255, 255, 255, 255, 255, 127]⟩ : ByteArray)).take 32) = PP := by decide +kernel
set_option maxRecDepth 100000 in
set_option maxHeartbeats 1000000 in
theorem refNeg_any (a : ByteArray) (ha : lowB a ≤ PP) (w : World) : Calls Try.prog 45 #[.string a] w fun e w' => e = .returned (.string (toS ((PP - lowB a) % PP))) ∧ Touch [] w w' := by
  have Ha := Lib.hid ha
  clear ha
  go_enter Try.func45, Try.ntmps45
  go_wp2_with fail
  refine (digits_any a _).mono ?_
  rintro e w1 ⟨v1, x, rfl, hn1, hd1⟩
  obtain ⟨gx, ox, cx, rfl, hgx, hlx, hcx1, hcx2, hrx⟩ := hn1.rowA (by omega) hd1.len
  have Rx := Lib.hid hrx
  have Dx := Lib.hid hd1
  have T1 := Lib.hid hn1.touch
  clear hn1 hd1 hrx
  go_wp2_with fail
  refine (digits_any _ _).mono ?_
  rintro e w2 ⟨v2, y, rfl, hn2, hd2⟩
  obtain ⟨gy, oy, cy, rfl, hgy, hly, hcy1, hcy2, hry⟩ := hn2.rowA (by omega) hd2.len
  have Ry := Lib.hid hry
  have Dy := Lib.hid hd2
  have T2 := Lib.hid (T1.out.trans hn2.touch)
  replace Rx := Lib.hid (Rx.out.touch hn2.touch)
  have Hne := Lib.hid (show gx ≠ gy by omega)
  have HP := Lib.hid (show dN y = PP by rw [hd2.val]; exact dig_p)
  clear hn2 hd2 hry T1 hlx hly hgy
  go_wp2_with fail
  go_loopw [4, 6, 7] (fun vc vi _ wr => ∃ (k c : Nat) (r : List Nat), k ≤ 16 ∧ vi = .int .i64 k ∧ vc = .int .i64 c ∧ RowA wr gx ox cx 16 r ∧ NegS x y r k c ∧ RowA wr gy oy cy 16 y ∧ Touch [] w wr) (fun _ vi _ _ => 16 - (intOf vi).toNat)
  case atStart => exact ⟨0, 0, x, by omega, rfl, rfl, Rx.out, ⟨Dx.out.len, fun _ _ => rfl, Dx.out.dig, by simp [dN], by omega⟩, Ry.out, T2.out⟩
  case round =>
    clear Rx Ry T2
    obtain ⟨k, c, r, hk, rfl, rfl, hx, hS, hy, hT⟩ := hrel
    have Rx := Lib.hid hx
    have Ry := Lib.hid hy
    have HS := Lib.hid hS
    have HT := Lib.hid hT
    have hc1 := hS.one
    clear hx hy hS hT
    by_cases hk16 : k < 16
    · have hcx := Rx.out.cell k hk16
      have hcy := Ry.out.cell k hk16
      have hst := fun z c' => HS.out.step (z := z) (c' := c') hk16 Dx.out.len Dy.out.len (a := r.getD k 0) (b := y.getD k 0) rfl rfl
      have hab := HS.out.dig.at_ k
      have hbb := Dy.out.dig.at_ k
      obtain ⟨m, hm⟩ : ∃ m, m = r.getD k 0 := ⟨_, rfl⟩
      obtain ⟨n, hn⟩ : ∃ n, n = y.getD k 0 := ⟨_, rfl⟩
      rw [← hm] at hcx hst hab
      rw [← hn] at hcy hst hbb
      have Hst := Lib.hid hst
      clear hm hn hst
      by_cases hge : m + c ≤ n
      · obtain ⟨z, hz, hzz⟩ : ∃ z : Nat, (n : Int) - (m : Int) - (c : Int) = (z : Int) ∧ z + m + c = n := ⟨n - m - c, by omega, by omega⟩
        have hz0 : decide ((z : Int) < 0) = false := decide_eq_false (by omega)
        have HS2 := Lib.hid (Hst.out z 0 (by omega) (by omega) (by omega))
        clear hge hzz
        go_upto_region 6 with fail
        go_quiet (fail)
        go_upto_region 11 with fail
        have ht := (Touch.refl [] wr).drewN nq
        obtain ⟨wq, hwq⟩ : ∃ wq, wq = wr.drewN nq := ⟨_, rfl⟩
        rw [← hwq] at ht ⊢
        clear hwq
        replace Rx := Lib.hid (Rx.out.touch ht)
        replace Ry := Lib.hid (Ry.out.touch ht)
        replace HT := Lib.hid (HT.out.trans ht)
        have hcq := Rx.out.cell k hk16
        have hfq := Rx.out.free (by omega) (ox + k)
        clear hcx hcy ht hz hz0
        go_wp2_with fail
        go_roundw
        case rel => exact ⟨k + 1, 0, _, by omega, by go_num, rfl, Rx.out.set k z hk16, HS2.out, Ry.out.far (Ne.symm Hne.out) _, HT.out.setCell (.inr hgx) _⟩
        case measure => simp [intOf]; omega
      · obtain ⟨v0, hv0, hv1⟩ : ∃ v0 : Int, (n : Int) - (m : Int) - (c : Int) = v0 ∧ Hid (v0 < 0 ∧ -65537 < v0) := ⟨_, rfl, Lib.hid (by omega)⟩
        obtain ⟨z, hz, hzz⟩ : ∃ z : Nat, v0 + 65536 = (z : Int) ∧ Hid (z + m + c = n + 65536) := ⟨(v0 + 65536).toNat, by have := hv1.out; omega, Lib.hid (by have := hv1.out; omega)⟩
        have hz0 : decide (v0 < 0) = true := decide_eq_true hv1.out.1
        have hv2 : -65537 < v0 := hv1.out.2
        have hv3 : v0 < 0 := hv1.out.1
        have HS2 := Lib.hid (Hst.out z 1 (by have := hzz.out; omega) (by have := hzz.out; omega) (by omega))
        clear hge
        go_upto_region 6 with fail
        go_quiet (fail)
        go_upto_region 11 with fail
        have ht := (Touch.refl [] wr).drewN nq
        obtain ⟨wq, hwq⟩ : ∃ wq, wq = wr.drewN nq := ⟨_, rfl⟩
        rw [← hwq] at ht ⊢
        clear hwq
        replace Rx := Lib.hid (Rx.out.touch ht)
        replace Ry := Lib.hid (Ry.out.touch ht)
        replace HT := Lib.hid (HT.out.trans ht)
        have hcq := Rx.out.cell k hk16
        have hfq := Rx.out.free (by omega) (ox + k)
        clear hcx hcy ht hz hz0 hv0 hv2 hv3
        go_wp2_with fail
        go_roundw
        case rel => exact ⟨k + 1, 1, _, by omega, by go_num, rfl, Rx.out.set k z hk16, HS2.out, Ry.out.far (Ne.symm Hne.out) _, HT.out.setCell (.inr hgx) _⟩
        case measure => simp [intOf]; omega
    · obtain rfl : k = 16 := by omega
      have hv := HS.out.done Dx.out.len Dy.out.len HP.out (by rw [Dx.out.val]; exact Ha.out)
      rw [Dx.out.val] at hv
      have HTx := Lib.hid (fun W (h : W = wr) => h ▸ text_new (Rx.out.newI HT.out hgx) (by rw [Rx.out.len]; omega) (by rw [Rx.out.len]; omega) HS.out.dig.le (Nat.lt_trans (dN_lt HS.out.dig) (by rw [HS.out.len]; decide)))
      have Hv := Lib.hid hv
      clear hv hc1
      go_wp2_with fail
      refine (HTx.out _ rfl).mono ?_
      rintro e w3 ⟨rfl, ht⟩
      have Ht := Lib.hid ht
      clear ht HTx
      go_wp2_with fail
      go_ret
      exact ⟨by rw [Hv.out]; rfl, HT.out.trans Ht.out⟩
theorem refNeg_toS {n : Nat} (h : n < PP) (w : World) : Calls Try.prog 45 #[.string (toS n)] w fun e w' => e = .returned (.string (toS (negF n))) ∧ Touch [] w w' := by
  have := refNeg_any (toS n) (by rw [lowB_toS h]; omega) w
  rwa [lowB_toS h] at this
theorem refAdd_toS {n m : Nat} (hn : n < PP) (hm : m < PP) (w : World) : Calls Try.prog 43 #[.string (toS n), .string (toS m)] w fun e w' => e = .returned (.string (toS (addF n m))) ∧ Touch [] w w' := by
  have := refAdd_any (toS n) (toS m) w
  rwa [lowB_toS hn, lowB_toS hm] at this
set_option maxRecDepth 100000 in
theorem refSub_toS {n m : Nat} (hn : n < PP) (hm : m < PP) (w : World) : Calls Try.prog 40 #[.string (toS n), .string (toS m)] w fun e w' => e = .returned (.string (toS (subF n m))) ∧ Touch [] w w' := by
  have HN := Lib.hid (fun W => refNeg_toS hm W)
  have HA := Lib.hid (fun W => refAdd_toS hn (show negF m < PP from Nat.mod_lt _ (by decide)) W)
  have he := Lib.hid (show subF n m = addF n (negF m) from rfl)
  obtain ⟨s, hs⟩ : ∃ s, s = toS n := ⟨_, rfl⟩
  obtain ⟨t, ht⟩ : ∃ t, t = toS m := ⟨_, rfl⟩
  obtain ⟨u, hu⟩ : ∃ u, u = toS (negF m) := ⟨_, rfl⟩
  rw [he.out]
  rw [← hs] at HA ⊢
  rw [← ht] at HN ⊢
  rw [← hu] at HA HN
  clear hs ht hu hn hm
  go_enter Try.func40, Try.ntmps40
  go_wp2_with fail
  refine (HN.out _).mono ?_
  rintro e w1 ⟨rfl, ht1⟩
  have Ht1 := Lib.hid ht1
  clear ht1
  go_wp2_with fail
  refine (HA.out _).mono ?_
  rintro e w2 ⟨rfl, ht2⟩
  have Ht2 := Lib.hid ht2
  clear ht2
  go_wp2_with fail
  go_ret
  exact ⟨rfl, Ht1.out.trans Ht2.out⟩
end Go.Proofs.Ytbgpgbfiadhddaa
/- The document's products modulo p. -/
namespace Go.Proofs.Ytbgpgbfiadhddaa
open Go.RowKit
theorem make_31 (w : World) : (Instr.makeSlice 79 (.int .i64 31) (.int .i64 31)).run Try.prog w =
    .ok (.slice (some ⟨w.heap.size, 0, none⟩) 31 31) (w.alloc (.cells (cellsI (List.replicate 31 0)).toArray 3)) := by kernel_rfl
/-- The rows of a product: the digits of both, and of the product, in a block of its own. -/
def MulR (a b : ByteArray) (w : World) (vx vy vt : Value) (wx : World) : Prop :=
  ∃ gx ox cx x gy oy cy y gt, vx = .slice (some ⟨gx, ox, none⟩) 16 cx ∧ vy = .slice (some ⟨gy, oy, none⟩) 16 cy ∧ vt = .slice (some ⟨gt, 0, none⟩) 31 31 ∧ 16 ≤ cx ∧ cx ≤ 9223372036854775807 ∧ 16 ≤ cy ∧ cy ≤ 9223372036854775807 ∧
    RowA wx gx ox cx 16 x ∧ RowA wx gy oy cy 16 y ∧ RowA wx gt 0 31 31 (List.replicate 31 0) ∧ DigS (bl a) x ∧ DigS (bl b) y ∧ gx ≠ gt ∧ gy ≠ gt ∧ w.heap.size ≤ gt ∧ Touch [] w wx
theorem rowA_made (w : World) : RowA (w.alloc (.cells (cellsI (List.replicate 31 0)).toArray 3)) w.heap.size 0 31 31 (List.replicate 31 0) := by
  obtain ⟨g, off, c, hv, _, _, _, _, hr⟩ := (NewI.made w w (Touch.refl _ _) (List.replicate 31 0) (by simp) (by simp)).rowA (n := 31) (by omega) (by simp)
  injection hv with ha _ hc
  injection ha with ha
  injection ha with h1 h2
  subst h1 h2
  obtain rfl : c = 31 := by simpa using hc.symm
  exact hr
section
variable {a b : ByteArray} {w w1 w2 : World} {v1 v2 : Value} {x y : List Nat}
theorem mulR1 (h1 : NewI w.drew w1 v1 x) (d1 : DigS (bl a) x) (h2 : NewI w1 w2 v2 y) (d2 : DigS (bl b) y) : MulR a b w v1 v2 (.slice (some ⟨w2.heap.size, 0, none⟩) 31 31) (w2.alloc (.cells (cellsI (List.replicate 31 0)).toArray 3)) := by
  obtain ⟨gx, ox, cx, rfl, _, hlx, hc1, hc2, hrx⟩ := h1.rowA (by omega) d1.len
  obtain ⟨gy, oy, cy, rfl, _, hly, hc3, hc4, hry⟩ := h2.rowA (by omega) d2.len
  have ht : Touch [] w w1 := ((Touch.refl [] w).drew).trans h1.touch
  have ha := (Touch.refl [] w2).alloc (.cells (cellsI (List.replicate 31 0)).toArray 3)
  have hs := h2.touch.size
  have hs1 := ht.size
  exact ⟨gx, ox, cx, x, gy, oy, cy, y, _, rfl, rfl, rfl, hc1, hc2, hc3, hc4, (hrx.touch h2.touch).touch ha, hry.touch ha, rowA_made w2, d1, d2, by omega, by omega, by omega, (ht.trans h2.touch).trans ha⟩
theorem mulR2 (h1 : NewI w.drew w1 v1 x) (d1 : DigS (bl a) x) (h2 : NewI (w1.alloc (.cells (cellsI (List.replicate 31 0)).toArray 3)) w2 v2 y) (d2 : DigS (bl b) y) : MulR a b w v1 v2 (.slice (some ⟨w1.heap.size, 0, none⟩) 31 31) w2 := by
  obtain ⟨gx, ox, cx, rfl, _, hlx, hc1, hc2, hrx⟩ := h1.rowA (by omega) d1.len
  obtain ⟨gy, oy, cy, rfl, hgy, hly, hc3, hc4, hry⟩ := h2.rowA (by omega) d2.len
  have ht : Touch [] w w1 := ((Touch.refl [] w).drew).trans h1.touch
  have ha := (Touch.refl [] w1).alloc (.cells (cellsI (List.replicate 31 0)).toArray 3)
  have hs1 := ht.size
  have hg2 : w1.heap.size + 1 ≤ gy := by simpa using hgy
  exact ⟨gx, ox, cx, x, gy, oy, cy, y, _, rfl, rfl, rfl, hc1, hc2, hc3, hc4, (hrx.touch ha).touch h2.touch, hry, (rowA_made w1).touch h2.touch, d1, d2, by omega, by omega, by omega, (ht.trans ha).trans h2.touch⟩
theorem mulR3 (h1 : NewI (w.alloc (.cells (cellsI (List.replicate 31 0)).toArray 3)).drew w1 v1 x) (d1 : DigS (bl a) x) (h2 : NewI w1 w2 v2 y) (d2 : DigS (bl b) y) : MulR a b w v1 v2 (.slice (some ⟨w.heap.size, 0, none⟩) 31 31) w2 := by
  obtain ⟨gx, ox, cx, rfl, hgx, hlx, hc1, hc2, hrx⟩ := h1.rowA (by omega) d1.len
  obtain ⟨gy, oy, cy, rfl, hgy, hly, hc3, hc4, hry⟩ := h2.rowA (by omega) d2.len
  have ha := (Touch.refl [] w).alloc (.cells (cellsI (List.replicate 31 0)).toArray 3)
  have hd := (Touch.refl [] (w.alloc (.cells (cellsI (List.replicate 31 0)).toArray 3))).drew
  have hg2 : w.heap.size + 1 ≤ gx := by simpa using hgx
  have hs := h1.touch.size
  have hs2 : w.heap.size + 1 ≤ w1.heap.size := by simpa using hs
  exact ⟨gx, ox, cx, x, gy, oy, cy, y, _, rfl, rfl, rfl, hc1, hc2, hc3, hc4, hrx.touch h2.touch, hry, (((rowA_made w).touch hd).touch h1.touch).touch h2.touch, d1, d2, by omega, by omega, by omega, ((ha.trans hd).trans h1.touch).trans h2.touch⟩
end
theorem getN_set_self {l : List Nat} {k : Nat} (hk : k < l.length) (x : Nat) : (l.set k x).getD k 0 = x := by simp [List.getD, hk]
/-- Products, digit by digit. -/
structure MulS (x y t : List Nat) (i : Nat) : Prop where
  len : t.length = 31
  val : dN t = dN (x.take i) * dN y
  le : ∀ k, t.getD k 0 ≤ 4294836225 * i
/-- A row of them: V is what was there. -/
structure MulI (y t : List Nat) (i m j V : Nat) : Prop where
  len : t.length = 31
  val : dN t = V + 65536 ^ i * (m * dN (y.take j))
  le : ∀ k, t.getD k 0 ≤ 4294836225 * (i + (if k < i + j then 1 else 0))
theorem mul_65535 {m n : Nat} (hm : m < 65536) (hn : n < 65536) : m * n ≤ 4294836225 := Nat.mul_le_mul (show m ≤ 65535 by omega) (show n ≤ 65535 by omega)
theorem MulI.step {y t : List Nat} {i m j V a n : Nat} (h : MulI y t i m j V) (hi : i < 16) (hj : j < 16) (hm : m < 65536) (hy : DigN y) (hyl : y.length = 16) (ha : a = t.getD (i + j) 0) (hn : n = y.getD j 0) : MulI y (t.set (i + j) (a + m * n)) i m (j + 1) V := by
  have h1 := h.len
  have hmn := mul_65535 hm (hn ▸ hy.at_ j)
  refine ⟨by rw [List.length_set]; exact h1, ?_, fun k => ?_⟩
  · have e1 := dN_set (l := t) (k := i + j) (by omega) (a + m * n)
    rw [← ha, h.val, Nat.pow_add] at e1
    rw [dN_take_succ (by omega), ← hn]
    generalize dN (t.set (i + j) (a + m * n)) = R at *
    generalize (65536 : Nat) ^ i = P at *
    generalize (65536 : Nat) ^ j = Q at *
    generalize dN (y.take j) = Y at *
    grind
  · have hk := h.le k
    by_cases hkk : k = i + j
    · subst hkk
      rw [getN_set_self (by omega)]
      rw [if_neg (by omega), ← ha] at hk
      rw [if_pos (by omega)]
      omega
    · rw [set_get (Ne.symm hkk)]
      split at hk
      · rw [if_pos (by omega)]; exact hk
      · rw [if_neg (by omega)]; exact hk
theorem MulS.inner {x y t : List Nat} {i : Nat} (h : MulS x y t i) (m : Nat) : MulI y t i m 0 (dN (x.take i) * dN y) :=
  ⟨h.len, by rw [h.val]; simp [dN], fun k => Nat.le_trans (h.le k) (Nat.mul_le_mul_left _ (Nat.le_add_right _ _))⟩
theorem MulI.outer {x y t : List Nat} {i m : Nat} (h : MulI y t i m 16 (dN (x.take i) * dN y)) (hi : i < 16) (hxl : x.length = 16) (hyl : y.length = 16) (hm : m = x.getD i 0) : MulS x y t (i + 1) := by
  refine ⟨h.len, ?_, fun k => Nat.le_trans (h.le k) (Nat.mul_le_mul_left _ (by split <;> omega))⟩
  have hv := h.val
  rw [List.take_of_length_le (l := y) (by omega)] at hv
  rw [hv, dN_take_succ (l := x) (by omega), ← hm]
  generalize (65536 : Nat) ^ i = P
  generalize dN (x.take i) = X
  grind
set_option maxRecDepth 100000 in
set_option maxHeartbeats 4000000 in
theorem refMul_any (a b : ByteArray) (w : World) : Calls Try.prog 38 #[.string a, .string b] w fun e w' => e = .returned (.string (toS ((lowB a * lowB b) % PP))) ∧ Touch [] w w' := by
  have hmk := make_31
  go_enter Try.func38, Try.ntmps38
  go_wp2_with fail
  go_upto_region 1 with fail
  go_cut [5, 6, 7] (fun v5 v6 v7 wx => MulR a b w v5 v6 v7 wx)
  case first =>
    go_region_held3 (fun _ => True) (first | trivial) (first | (go_at_call 61; (with_reducible_and_instances refine (digits_any a _).mono ?_); rintro e w1 ⟨v1, x, rfl, hn1, hd1⟩) | (go_at_call 61; (with_reducible_and_instances refine (digits_any b _).mono ?_); rintro e w2 ⟨v2, y, rfl, hn2, hd2⟩))
    all_goals
      go_wp2_with fail
      go_meet
      first | exact mulR1 hn1 hd1 hn2 hd2 | exact mulR2 hn1 hd1 hn2 hd2 | exact mulR3 hn1 hd1 hn2 hd2
  case rest =>
    clear hmk
    obtain ⟨gx, ox, cx, x, gy, oy, cy, y, gt, rfl, rfl, rfl, hcx1, hcx2, hcy1, hcy2, hx, hy, ht, hdx, hdy, hxt, hyt, hgt, hT⟩ := hcut
    have Rx := Lib.hid hx
    have Ry := Lib.hid hy
    have Rt := Lib.hid ht
    have Dx := Lib.hid hdx
    have Dy := Lib.hid hdy
    have Hxt := Lib.hid hxt
    have Hyt := Lib.hid hyt
    have HT := Lib.hid hT
    clear hx hy ht hdx hdy hxt hyt hT
    go_wp2_with fail
    go_loopw [8, 9] (fun vi _ wr => ∃ (i : Nat) (t : List Nat), i ≤ 16 ∧ vi = .int .i64 i ∧ RowA wr gx ox cx 16 x ∧ RowA wr gy oy cy 16 y ∧ RowA wr gt 0 31 31 t ∧ MulS x y t i ∧ Touch [] w wr) (fun vi _ _ => 16 - (intOf vi).toNat)
    case atStart => exact ⟨0, _, by omega, rfl, Rx.out, Ry.out, Rt.out, ⟨by simp, by rw [dN_zeros]; simp [dN], fun k => by
      by_cases hk : k < 31
      · rw [List.getD, List.getElem?_replicate, if_pos hk]; exact Nat.zero_le _
      · rw [List.getD, List.getElem?_replicate, if_neg hk]; exact Nat.zero_le _⟩, HT.out⟩
    case round =>
      clear Rx Ry Rt HT
      obtain ⟨i, t, hi, rfl, hx, hy, ht, hS, hT⟩ := hrel
      have Rx := Lib.hid hx
      have Ry := Lib.hid hy
      have Rt := Lib.hid ht
      have HS := Lib.hid hS
      have HT := Lib.hid hT
      clear hx hy ht hS hT
      by_cases hi16 : i < 16
      · obtain ⟨m, hm⟩ : ∃ m, m = x.getD i 0 := ⟨_, rfl⟩
        have Hm := Lib.hid hm
        have hml : m < 65536 := by rw [hm]; exact Dx.out.dig.at_ i
        have HI := Lib.hid (HS.out.inner m)
        have hdi : decide ((i : Int) < 16) = true := decide_eq_true (by omega)
        rename World => wo
        clear hm
        go_wp2_with fail
        go_loopw [9] (fun vj wr => ∃ (j : Nat) (t : List Nat), j ≤ 16 ∧ vj = .int .i64 j ∧ RowA wr gx ox cx 16 x ∧ RowA wr gy oy cy 16 y ∧ RowA wr gt 0 31 31 t ∧ MulI y t i m j (dN (x.take i) * dN y) ∧ Touch [] w wr) (fun vj _ => 16 - (intOf vj).toNat)
        case atStart => exact ⟨0, t, by omega, rfl, Rx.out, Ry.out, Rt.out, HI.out, HT.out⟩
        case round =>
          clear Rx Ry Rt HT HI HS
          obtain ⟨j, t, hj, rfl, hx, hy, ht, hI, hT⟩ := hrel
          have Rx := Lib.hid hx
          have Ry := Lib.hid hy
          have Rt := Lib.hid ht
          have HI := Lib.hid hI
          have HT := Lib.hid hT
          clear hx hy ht hI hT
          by_cases hj16 : j < 16
          · have hcx := Rx.out.cell i hi16
            have hcy := Ry.out.cell j hj16
            have hct := Rt.out.cell (i + j) (by omega)
            have hft := Rt.out.free (by omega) (i + j)
            rw [Nat.zero_add] at hct
            rw [← Hm.out] at hcx
            have hst := HI.out.step hi16 hj16 hml Dy.out.dig Dy.out.len (a := t.getD (i + j) 0) (n := y.getD j 0) rfl rfl
            have hab := HI.out.le (i + j)
            rw [if_neg (by omega)] at hab
            have hnl := Dy.out.dig.at_ j
            obtain ⟨n, hn⟩ : ∃ n, n = y.getD j 0 := ⟨_, rfl⟩
            obtain ⟨u, hu⟩ : ∃ u, u = t.getD (i + j) 0 := ⟨_, rfl⟩
            rw [← hn] at hcy hst hnl
            rw [← hu] at hct hst hab
            have Hst := Lib.hid hst
            have hmn := mul_65535 hml hnl
            have hmn0 : (0 : Int) ≤ (m : Int) * (n : Int) := by rw [← Int.natCast_mul]; omega
            have hmn1 : (m : Int) * (n : Int) ≤ 4294836225 := by rw [← Int.natCast_mul]; omega
            have hu1 : (u : Int) ≤ 68719476736 := by omega
            have Hij := Lib.hid (show i + j < 31 by omega)
            have Hml := Lib.hid hml
            clear hn hu hst hmn hab hnl hml
            go_wp2_with fail
            go_region
            go_wp2_with fail
            go_roundw
            case rel =>
              have hcast : (u : Int) + (m : Int) * (n : Int) = ((u + m * n : Nat) : Int) := by rw [Int.natCast_add, Int.natCast_mul]
              rw [hcast]
              have hset := Rt.out.set (i + j) (u + m * n) Hij.out
              rw [Nat.zero_add] at hset
              exact ⟨j + 1, _, by omega, by go_num, (Rx.out.far Hxt.out _).touch (Touch.refl _ _).drew, (Ry.out.far Hyt.out _).touch (Touch.refl _ _).drew, hset.touch (Touch.refl _ _).drew, Hst.out, (HT.out.setCell (.inr hgt) _).drew⟩
            case measure => simp [intOf]; omega
          · obtain rfl : j = 16 := by omega
            have HO := Lib.hid (HI.out.outer hi16 Dx.out.len Dy.out.len Hm.out)
            go_wp2_with fail
            go_roundw
            case rel => exact ⟨i + 1, t, by omega, by go_num, Rx.out, Ry.out, Rt.out, HO.out, HT.out⟩
            case measure => simp [intOf]; omega
      · obtain rfl : i = 16 := by omega
        have hv := HS.out.val
        rw [List.take_of_length_le (by rw [Dx.out.len]; omega), Dx.out.val, Dy.out.val] at hv
        have hlt : dN t < 65536 ^ 32 := by
          rw [hv, show (65536 : Nat) ^ 32 = 65536 ^ 16 * 65536 ^ 16 by rw [← Nat.pow_add]]
          exact Nat.mul_lt_mul_of_lt_of_lt (lowB_lt a) (lowB_lt b)
        have hle : ∀ z ∈ t, z ≤ 1099511627776 := fun z hz => by
          obtain ⟨k, hk, rfl⟩ := List.getElem_of_mem hz
          have := HS.out.le k
          rw [List.getD, List.getElem?_eq_getElem hk] at this
          exact Nat.le_trans this (by decide)
        have HTx := Lib.hid (fun W (h : W = wr) => h ▸ text_new (Rt.out.newI HT.out hgt) (by rw [Rt.out.len]; omega) (by rw [Rt.out.len]; omega) hle hlt)
        have Hv := Lib.hid hv
        clear hv hlt hle
        go_wp2_with fail
        refine (HTx.out _ rfl).mono ?_
        rintro e w3 ⟨rfl, ht⟩
        have Ht := Lib.hid ht
        clear ht HTx
        go_wp2_with fail
        go_ret
        exact ⟨by rw [Hv.out]; rfl, HT.out.trans Ht.out⟩
theorem refMul_toS {n m : Nat} (hn : n < PP) (hm : m < PP) (w : World) : Calls Try.prog 38 #[.string (toS n), .string (toS m)] w fun e w' => e = .returned (.string (toS (mulF n m))) ∧ Touch [] w w' := by
  have := refMul_any (toS n) (toS m) w
  rwa [lowB_toS hn, lowB_toS hm] at this
end Go.Proofs.Ytbgpgbfiadhddaa
/- The document's exponents. -/
namespace Go.Proofs.Ytbgpgbfiadhddaa
open Go.RowKit
theorem NewU.one (w : World) (u : Nat) : NewU w (w.alloc (.cells #[.int .u8 (u : Int)] 5)) (.slice (some ⟨w.heap.size, 0, none⟩) 1 1) [u] :=
  ⟨some w.heap.size, Own.ofBlk (cs := [.int .u8 (u : Int)]) (Blk.new _ _ _) (by simp) (by unfold maxLen; simp), (Touch.refl _ _).alloc _, .fresh _ _ (Nat.le_refl _)⟩

def on255 : List Nat := 235 :: (List.replicate 30 255 ++ [127])
theorem on255_len : on255.length = 32 := by simp [on255]
theorem on255_mid (k : Nat) (hk : k < 30) : on255.take (k + 2) = on255.take (k + 1) ++ [255] := by
  rw [take_snoc (l := on255) (k := k + 1) (by rw [on255_len]; omega)]
  congr 2
  have : (List.replicate 30 255 ++ [127])[k]? = some 255 := by rw [List.getElem?_append_left (by simp; omega), List.getElem?_replicate, if_pos hk]
  simp only [on255, List.getD, List.getElem?_cons_succ, this, Option.getD_some]
theorem on255_all : on255.take 31 ++ [127] = on255 := by decide
theorem on255_val : leN on255 = 57896044618658097711785492504343953926634992332820282019728792003956564819947 := by decide +kernel
theorem on255_lt : ∀ b ∈ on255, b < 256 := by decide
set_option maxRecDepth 100000 in
set_option maxHeartbeats 1000000 in
theorem ones255_any (w : World) : Calls Try.prog 64 #[.int .i64 255, .int .i64 21] w fun e w' => e = .returned (.string (strOfNums (on255.map fun (n : Nat) => (n : Int)))) ∧ Touch [] w w' := by
  have hn1 := Lib.hid (NewU.one w 235)
  go_enter Try.func64, Try.ntmps64
  go_wp2_with fail
  go_loopw [5, 6] (fun vb vi wr => ∃ k : Nat, k ≤ 31 ∧ vi = .int .i64 ((8 * k + 8 : Nat) : Int) ∧ NewU w wr vb (on255.take (k + 1))) (fun _ vi _ => 300 - (intOf vi).toNat)
  case atStart => exact ⟨0, by omega, rfl, hn1.out⟩
  case round =>
    clear hn1
    obtain ⟨k, hk, rfl, hb⟩ := hrel
    obtain ⟨Ab, cb, rfl, _⟩ := hb.shape
    have hlen : (on255.take (k + 1)).length = k + 1 := by rw [List.length_take, on255_len]; omega
    have HB := Lib.hid hb
    have HL := Lib.hid hlen
    rw [hlen] at HB ⊢
    clear hb hlen
    by_cases hk30 : k < 30
    · have hsn := Lib.hid (on255_mid k hk30)
      have hi1 : (8 * (k : Int) + 8) < 255 := by omega
      obtain ⟨i, hi, hi2⟩ : ∃ i : Nat, i = 8 * k + 8 ∧ i ≤ 240 := ⟨_, rfl, by omega⟩
      have HI := Lib.hid hi
      rw [← hi]
      clear hi hi1
      go_wp2_with (at_builtin; refine wpList_append_byte w _ (.tmp 20) (.tmp 21) 53 Try.underlying53 rfl rfl HB.out (by rw [HL.out]; omega) 255 _ rfl rfl ?_)
      intro A2 c2 w2 h2
      have H2 := Lib.hid h2
      clear h2
      go_wp2_with fail
      go_roundw
      case rel => exact ⟨k + 1, by omega, congrArg (Value.int .i64) (by have := HI.out; omega), by rw [hsn.out]; exact H2.out⟩
      case measure => simp [intOf]; omega
    · by_cases hk31 : k = 30
      · subst hk31
        have HW := Lib.hid on255_all
        go_wp2_with (at_builtin; refine wpList_append_byte w _ (.tmp 23) (.tmp 30) 53 Try.underlying53 rfl rfl HB.out (by rw [HL.out]; omega) 127 _ rfl rfl ?_)
        intro A2 c2 w2 h2
        have H2 := Lib.hid h2
        clear h2
        go_wp2_with fail
        go_roundw
        case rel => exact ⟨31, by omega, rfl, by rw [List.take_of_length_le (i := 31 + 1) (by rw [on255_len]; omega), ← HW.out]; exact H2.out⟩
        case measure => simp [intOf]
      · obtain rfl : k = 31 := by omega
        have htk : on255.take (31 + 1) = on255 := List.take_of_length_le (by rw [on255_len]; omega)
        rw [htk] at HB
        have hb3 := HB.out
        rw [show 31 + 1 = on255.length by rw [on255_len]] at hb3
        obtain ⟨g2, o2, c3, hv2, _, _, _, _, hcx⟩ := hb3.cells (by rw [on255_len]; omega)
        injection hv2 with ha _ hcc
        subst ha hcc
        have hconv := run_convert_bytes_arg (P := Try.prog) wr 53 5 Try.underlying53 Try.underlying5 g2 o2 on255.length cb (on255.map fun (n : Nat) => (n : Int)) (by simp) (fun i hi => by
          rw [hcx i hi, getD_map_int]) 9 Try.underlying9
        rw [on255_len] at hconv
        clear hcx hb3 htk hk30 hk31
        go_wp2_with fail
        go_ret
        exact ⟨rfl, HB.out.touch⟩

def on252 : List Nat := 254 :: (List.replicate 30 255 ++ [15])
theorem on252_len : on252.length = 32 := by simp [on252]
theorem on252_mid (k : Nat) (hk : k < 30) : on252.take (k + 2) = on252.take (k + 1) ++ [255] := by
  rw [take_snoc (l := on252) (k := k + 1) (by rw [on252_len]; omega)]
  congr 2
  have : (List.replicate 30 255 ++ [15])[k]? = some 255 := by rw [List.getElem?_append_left (by simp; omega), List.getElem?_replicate, if_pos hk]
  simp only [on252, List.getD, List.getElem?_cons_succ, this, Option.getD_some]
theorem on252_all : on252.take 31 ++ [15] = on252 := by decide
theorem on252_val : leN on252 = 7237005577332262213973186563042994240829374041602535252466099000494570602494 := by decide +kernel
theorem on252_lt : ∀ b ∈ on252, b < 256 := by decide
set_option maxRecDepth 100000 in
set_option maxHeartbeats 1000000 in
theorem ones252_any (w : World) : Calls Try.prog 64 #[.int .i64 252, .int .i64 2] w fun e w' => e = .returned (.string (strOfNums (on252.map fun (n : Nat) => (n : Int)))) ∧ Touch [] w w' := by
  have hn1 := Lib.hid (NewU.one w 254)
  go_enter Try.func64, Try.ntmps64
  go_wp2_with fail
  go_loopw [5, 6] (fun vb vi wr => ∃ k : Nat, k ≤ 31 ∧ vi = .int .i64 ((8 * k + 8 : Nat) : Int) ∧ NewU w wr vb (on252.take (k + 1))) (fun _ vi _ => 300 - (intOf vi).toNat)
  case atStart => exact ⟨0, by omega, rfl, hn1.out⟩
  case round =>
    clear hn1
    obtain ⟨k, hk, rfl, hb⟩ := hrel
    obtain ⟨Ab, cb, rfl, _⟩ := hb.shape
    have hlen : (on252.take (k + 1)).length = k + 1 := by rw [List.length_take, on252_len]; omega
    have HB := Lib.hid hb
    have HL := Lib.hid hlen
    rw [hlen] at HB ⊢
    clear hb hlen
    by_cases hk30 : k < 30
    · have hsn := Lib.hid (on252_mid k hk30)
      have hi1 : (8 * (k : Int) + 8) < 252 := by omega
      obtain ⟨i, hi, hi2⟩ : ∃ i : Nat, i = 8 * k + 8 ∧ i ≤ 240 := ⟨_, rfl, by omega⟩
      have HI := Lib.hid hi
      rw [← hi]
      clear hi hi1
      go_wp2_with (at_builtin; refine wpList_append_byte w _ (.tmp 20) (.tmp 21) 53 Try.underlying53 rfl rfl HB.out (by rw [HL.out]; omega) 255 _ rfl rfl ?_)
      intro A2 c2 w2 h2
      have H2 := Lib.hid h2
      clear h2
      go_wp2_with fail
      go_roundw
      case rel => exact ⟨k + 1, by omega, congrArg (Value.int .i64) (by have := HI.out; omega), by rw [hsn.out]; exact H2.out⟩
      case measure => simp [intOf]; omega
    · by_cases hk31 : k = 30
      · subst hk31
        have HW := Lib.hid on252_all
        go_wp2_with (at_builtin; refine wpList_append_byte w _ (.tmp 23) (.tmp 30) 53 Try.underlying53 rfl rfl HB.out (by rw [HL.out]; omega) 15 _ rfl rfl ?_)
        intro A2 c2 w2 h2
        have H2 := Lib.hid h2
        clear h2
        go_wp2_with fail
        go_roundw
        case rel => exact ⟨31, by omega, rfl, by rw [List.take_of_length_le (i := 31 + 1) (by rw [on252_len]; omega), ← HW.out]; exact H2.out⟩
        case measure => simp [intOf]
      · obtain rfl : k = 31 := by omega
        have htk : on252.take (31 + 1) = on252 := List.take_of_length_le (by rw [on252_len]; omega)
        rw [htk] at HB
        have hb3 := HB.out
        rw [show 31 + 1 = on252.length by rw [on252_len]] at hb3
        obtain ⟨g2, o2, c3, hv2, _, _, _, _, hcx⟩ := hb3.cells (by rw [on252_len]; omega)
        injection hv2 with ha _ hcc
        subst ha hcc
        have hconv := run_convert_bytes_arg (P := Try.prog) wr 53 5 Try.underlying53 Try.underlying5 g2 o2 on252.length cb (on252.map fun (n : Nat) => (n : Int)) (by simp) (fun i hi => by
          rw [hcx i hi, getD_map_int]) 9 Try.underlying9
        rw [on252_len] at hconv
        clear hcx hb3 htk hk30 hk31
        go_wp2_with fail
        go_ret
        exact ⟨rfl, HB.out.touch⟩

def on253 : List Nat := 251 :: (List.replicate 30 255 ++ [31])
theorem on253_len : on253.length = 32 := by simp [on253]
theorem on253_mid (k : Nat) (hk : k < 30) : on253.take (k + 2) = on253.take (k + 1) ++ [255] := by
  rw [take_snoc (l := on253) (k := k + 1) (by rw [on253_len]; omega)]
  congr 2
  have : (List.replicate 30 255 ++ [31])[k]? = some 255 := by rw [List.getElem?_append_left (by simp; omega), List.getElem?_replicate, if_pos hk]
  simp only [on253, List.getD, List.getElem?_cons_succ, this, Option.getD_some]
theorem on253_all : on253.take 31 ++ [31] = on253 := by decide
theorem on253_val : leN on253 = 14474011154664524427946373126085988481658748083205070504932198000989141204987 := by decide +kernel
theorem on253_lt : ∀ b ∈ on253, b < 256 := by decide
set_option maxRecDepth 100000 in
set_option maxHeartbeats 1000000 in
theorem ones253_any (w : World) : Calls Try.prog 64 #[.int .i64 253, .int .i64 5] w fun e w' => e = .returned (.string (strOfNums (on253.map fun (n : Nat) => (n : Int)))) ∧ Touch [] w w' := by
  have hn1 := Lib.hid (NewU.one w 251)
  go_enter Try.func64, Try.ntmps64
  go_wp2_with fail
  go_loopw [5, 6] (fun vb vi wr => ∃ k : Nat, k ≤ 31 ∧ vi = .int .i64 ((8 * k + 8 : Nat) : Int) ∧ NewU w wr vb (on253.take (k + 1))) (fun _ vi _ => 300 - (intOf vi).toNat)
  case atStart => exact ⟨0, by omega, rfl, hn1.out⟩
  case round =>
    clear hn1
    obtain ⟨k, hk, rfl, hb⟩ := hrel
    obtain ⟨Ab, cb, rfl, _⟩ := hb.shape
    have hlen : (on253.take (k + 1)).length = k + 1 := by rw [List.length_take, on253_len]; omega
    have HB := Lib.hid hb
    have HL := Lib.hid hlen
    rw [hlen] at HB ⊢
    clear hb hlen
    by_cases hk30 : k < 30
    · have hsn := Lib.hid (on253_mid k hk30)
      have hi1 : (8 * (k : Int) + 8) < 253 := by omega
      obtain ⟨i, hi, hi2⟩ : ∃ i : Nat, i = 8 * k + 8 ∧ i ≤ 240 := ⟨_, rfl, by omega⟩
      have HI := Lib.hid hi
      rw [← hi]
      clear hi hi1
      go_wp2_with (at_builtin; refine wpList_append_byte w _ (.tmp 20) (.tmp 21) 53 Try.underlying53 rfl rfl HB.out (by rw [HL.out]; omega) 255 _ rfl rfl ?_)
      intro A2 c2 w2 h2
      have H2 := Lib.hid h2
      clear h2
      go_wp2_with fail
      go_roundw
      case rel => exact ⟨k + 1, by omega, congrArg (Value.int .i64) (by have := HI.out; omega), by rw [hsn.out]; exact H2.out⟩
      case measure => simp [intOf]; omega
    · by_cases hk31 : k = 30
      · subst hk31
        have HW := Lib.hid on253_all
        go_wp2_with (at_builtin; refine wpList_append_byte w _ (.tmp 23) (.tmp 30) 53 Try.underlying53 rfl rfl HB.out (by rw [HL.out]; omega) 31 _ rfl rfl ?_)
        intro A2 c2 w2 h2
        have H2 := Lib.hid h2
        clear h2
        go_wp2_with fail
        go_roundw
        case rel => exact ⟨31, by omega, rfl, by rw [List.take_of_length_le (i := 31 + 1) (by rw [on253_len]; omega), ← HW.out]; exact H2.out⟩
        case measure => simp [intOf]
      · obtain rfl : k = 31 := by omega
        have htk : on253.take (31 + 1) = on253 := List.take_of_length_le (by rw [on253_len]; omega)
        rw [htk] at HB
        have hb3 := HB.out
        rw [show 31 + 1 = on253.length by rw [on253_len]] at hb3
        obtain ⟨g2, o2, c3, hv2, _, _, _, _, hcx⟩ := hb3.cells (by rw [on253_len]; omega)
        injection hv2 with ha _ hcc
        subst ha hcc
        have hconv := run_convert_bytes_arg (P := Try.prog) wr 53 5 Try.underlying53 Try.underlying5 g2 o2 on253.length cb (on253.map fun (n : Nat) => (n : Int)) (by simp) (fun i hi => by
          rw [hcx i hi, getD_map_int]) 9 Try.underlying9
        rw [on253_len] at hconv
        clear hcx hb3 htk hk30 hk31
        go_wp2_with fail
        go_ret
        exact ⟨rfl, HB.out.touch⟩
end Go.Proofs.Ytbgpgbfiadhddaa
/- The document's powers modulo p, the inverse, the root. -/
namespace Go.Proofs.Ytbgpgbfiadhddaa
open Go.RowKit
theorem and_1 : ∀ y : Fin 256, bits .and .u8 (y.val : Int) 1 = ((y.val % 2 : Nat) : Int) := by decide +kernel
theorem bit_modE (M r : Nat) (hr : r < 8) : M % 256 / 2 ^ r % 2 = M / 2 ^ r % 2 := by
  have h : r = 0 ∨ r = 1 ∨ r = 2 ∨ r = 3 ∨ r = 4 ∨ r = 5 ∨ r = 6 ∨ r = 7 := by omega
  rcases h with rfl | rfl | rfl | rfl | rfl | rfl | rfl | rfl <;> simp only [Nat.reducePow] <;> omega
theorem leN_atE {l : List Nat} (h : ∀ b ∈ l, b < 256) (i : Nat) (hi : i < l.length) : l.getD i 0 = leN l / 2 ^ (8 * i) % 256 := by
  have h1 := byN_at l.length (leN l) i hi
  rw [byN_leN h] at h1
  simp [List.getD, h1]
theorem bit_at {l : List Nat} (h : ∀ b ∈ l, b < 256) (j : Nat) (hj : j / 8 < l.length) : l.getD (j / 8) 0 / 2 ^ (j % 8) % 2 = leN l / 2 ^ j % 2 := by
  rw [leN_atE h _ hj, bit_modE _ _ (Nat.mod_lt _ (by decide)), Nat.div_div_eq_div_mul, ← Nat.pow_add]
  congr 3
  omega
/-- A power, modulo p. -/
def pN (x q : Nat) : Nat := x ^ q % PP
theorem pN_lt (x q : Nat) : pN x q < PP := Nat.mod_lt _ PP_pos
theorem pN_sq (x q : Nat) : mulF (pN x q) (pN x q) = pN x (2 * q) := by
  unfold pN
  rw [mulF_mod_left, mulF_mod_right, Nat.two_mul, Nat.pow_add]
  rfl
theorem pN_more (x q : Nat) : mulF (pN x q) x = pN x (q + 1) := by
  unfold pN
  rw [mulF_mod_left, Nat.pow_succ]
  rfl
theorem pN_zero (x : Nat) : pN x 0 = 1 := by
  unfold pN
  rw [Nat.pow_zero]
  decide
theorem half_step (N j : Nat) : N / 2 ^ j = 2 * (N / 2 ^ (j + 1)) + N / 2 ^ j % 2 := by
  rw [Nat.pow_succ, ← Nat.div_div_eq_div_mul]
  omega
set_option maxRecDepth 100000 in
set_option maxHeartbeats 2000000 in
theorem refPow_any {x : Nat} (hx : x < PP) (E : List Nat) (hE : ∀ b ∈ E, b < 256) (hl : E.length = 32) (w : World) :
    Calls Try.prog 63 #[.string (toS x), .string (strOfNums (E.map fun (n : Nat) => (n : Int)))] w fun e w' => e = .returned (.string (toS (pN x (leN E)))) ∧ Touch [] w w' := by
  have hbl : bl (strOfNums (E.map fun (n : Nat) => (n : Int))) = E := bl_strOfNums _ hE
  obtain ⟨e, he⟩ : ∃ e, e = strOfNums (E.map fun (n : Nat) => (n : Int)) := ⟨_, rfl⟩
  rw [← he] at hbl ⊢
  have hes : e.size = 32 := by rw [← bl_len, hbl, hl]
  have HE := Lib.hid hE
  have HL := Lib.hid hl
  have HB := Lib.hid hbl
  have Hes := Lib.hid hes
  have hN : leN E < 2 ^ 256 := by have := leN_lt hE; rw [hl] at this; exact Nat.lt_of_lt_of_le this (by decide)
  obtain ⟨N, hNe⟩ : ∃ N, N = leN E := ⟨_, rfl⟩
  have HN := Lib.hid hNe
  rw [← hNe] at hN ⊢
  have H1 := Lib.hid (fun W => refNum_any 1 (by decide) W)
  have Hsq := Lib.hid (fun q W => pN_sq x q ▸ refMul_toS (pN_lt x q) (pN_lt x q) W)
  have Hmo := Lib.hid (fun q W => pN_more x q ▸ refMul_toS (pN_lt x q) hx W)
  have Hfs := Lib.hid (fun j => half_step N j)
  have H0 := Lib.hid (show toS (1 % PP) = toS (pN x (N / 2 ^ 256)) by rw [Nat.div_eq_of_lt hN, pN_zero, (by decide : 1 % PP = 1)])
  have Hfin := Lib.hid (show pN x (N / 2 ^ 0) = pN x N by rw [Nat.pow_zero, Nat.div_one])
  obtain ⟨s, hs⟩ : ∃ s, s = toS x := ⟨_, rfl⟩
  rw [← hs] at Hmo ⊢
  clear he hbl hes hE hl hN hNe hx hs
  have hes2 : e.size = 32 := Hes.out
  go_enter Try.func63, Try.ntmps63
  go_wp2_with fail
  refine (H1.out _).mono ?_
  rintro _ w1 ⟨rfl, ht1⟩
  have Ht1 := Lib.hid ht1
  rw [H0.out]
  clear ht1 H1 H0
  go_wp2_with fail
  go_loopw [5, 6] (fun vc vi wr => ∃ k : Nat, k ≤ 256 ∧ vi = .int .i64 ((k : Int) - 1) ∧ vc = .string (toS (pN x (N / 2 ^ k))) ∧ Touch [] w wr) (fun _ vi _ => (intOf vi + 1).toNat)
  case atStart => exact ⟨256, by omega, rfl, rfl, Ht1.out⟩
  case round =>
    clear Ht1
    obtain ⟨k, hk, rfl, rfl, hT⟩ := hrel
    have HT := Lib.hid hT
    clear hT
    rcases k with _ | j
    · rw [Hfin.out, show (((0 : Nat) : Int) - 1) = -1 by omega]
      go_wp2_with fail
      go_ret
      exact ⟨rfl, HT.out⟩
    · rw [show (((j + 1 : Nat) : Int) - 1) = (j : Int) by omega]
      have hf := Hfs.out j
      have hsq := Hsq.out (N / 2 ^ (j + 1))
      have hbit := bit_at HE.out j (by rw [HL.out]; omega)
      rw [← HN.out] at hbit
      have hix := index_blE e ((j : Int) / 8) (j / 8) (by omega) (by rw [Hes.out]; omega)
      rw [HB.out] at hix
      have hbb := getD_lt HE.out (j / 8)
      obtain ⟨y, hy⟩ : ∃ y, y = E.getD (j / 8) 0 := ⟨_, rfl⟩
      rw [← hy] at hix hbit hbb
      have hand := and_1 ⟨y / 2 ^ (j % 8), Nat.lt_of_le_of_lt (Nat.div_le_self _ _) hbb⟩
      have e7 : ((y / 2 ^ (j % 8) : Nat) : Int) = (y : Int) / 2 ^ (j % 8) := by simp
      simp only [e7] at hand
      rw [hbit] at hand
      obtain ⟨q, hq⟩ : ∃ q, q = N / 2 ^ (j + 1) := ⟨_, rfl⟩
      obtain ⟨b, hb⟩ : ∃ b, b = N / 2 ^ j % 2 := ⟨_, rfl⟩
      rw [← hq] at hsq hf ⊢
      rw [← hb] at hand hf
      have hb2 : b = 0 ∨ b = 1 := by omega
      have Hsq2 := Lib.hid hsq
      have Hf := Lib.hid hf
      have hmo := Lib.hid (Hmo.out (2 * q))
      clear hq hb hy hbit hsq hf e7
      go_wp2_with fail
      refine (Hsq2.out _).mono ?_
      rintro _ w2 ⟨rfl, ht2⟩
      have HT2 := Lib.hid (HT.out.trans ht2)
      clear ht2 HT
      rcases hb2 with rfl | rfl
      · have HR := Lib.hid (show pN x (2 * q) = pN x (N / 2 ^ j) by rw [Hf.out, Nat.add_zero])
        rw [HR.out] at hmo ⊢
        go_wp2_with fail
        go_roundw
        case rel => exact ⟨j, by omega, rfl, rfl, HT2.out⟩
        case measure => simp [intOf]
      · have HR := Lib.hid (show pN x (2 * q + 1) = pN x (N / 2 ^ j) by rw [Hf.out])
        rw [HR.out] at hmo
        go_wp2_with fail
        refine (hmo.out _).mono ?_
        rintro _ w3 ⟨rfl, ht3⟩
        have HT3 := Lib.hid (HT2.out.trans ht3)
        clear ht3
        go_wp2_with fail
        go_roundw
        case rel => exact ⟨j, by omega, rfl, rfl, HT3.out⟩
        case measure => simp [intOf]
end Go.Proofs.Ytbgpgbfiadhddaa
/- The document's inverse, root, and reading, modulo p. -/
namespace Go.Proofs.Ytbgpgbfiadhddaa
open Go.RowKit
theorem invF_pN (x : Nat) : pN x (leN on255) = invF x := by
  unfold pN
  rw [invF_eq, on255_val, (by decide : PP - 2 = 57896044618658097711785492504343953926634992332820282019728792003956564819947)]
theorem r1_gen (x : Nat) {e m : Nat} (h : m = e + 1) : pN x m = mulF (x ^ e % PP) x := by
  subst h
  rw [← pN_more]
  rw [pN]
theorem on252_succ : leN on252 = 7237005577332262213973186563042994240829374041602535252466099000494570602493 + 1 := on252_val.trans (by decide)
theorem r1N_pN (x : Nat) : pN x (leN on252) = r1N x := by
  have h := r1N_eq x
  have hk := on252_succ
  generalize 7237005577332262213973186563042994240829374041602535252466099000494570602493 = e at h hk
  rw [h]
  exact r1_gen x hk
theorem pN_gen (x : Nat) {m e : Nat} (h : m = e) : pN x m = x ^ e % PP := by
  subst h
  rw [pN]
theorem r2N_pN (a : Nat) : r2N a = if mulF (r1N a) (r1N a) = a then r1N a else mulF (r1N a) (pN 2 (leN on253)) := by
  have h := r2N_eq a
  have hk := on253_val
  generalize 14474011154664524427946373126085988481658748083205070504932198000989141204987 = e at h hk
  rw [h, pN_gen 2 hk]
set_option maxRecDepth 100000 in
theorem refInv_toS {x : Nat} (hx : x < PP) (w : World) : Calls Try.prog 42 #[.string (toS x)] w fun e w' => e = .returned (.string (toS (invF x))) ∧ Touch [] w w' := by
  have HP := Lib.hid (fun W => invF_pN x ▸ refPow_any hx on255 on255_lt on255_len W)
  obtain ⟨s, hs⟩ : ∃ s, s = toS x := ⟨_, rfl⟩
  obtain ⟨t, ht⟩ : ∃ t, t = toS (invF x) := ⟨_, rfl⟩
  have HO := Lib.hid (fun W => ones255_any W)
  obtain ⟨u, hu⟩ : ∃ u, u = strOfNums (on255.map fun (n : Nat) => (n : Int)) := ⟨_, rfl⟩
  rw [← hs, ← ht, ← hu] at HP
  rw [← hu] at HO
  rw [← hs, ← ht]
  clear hs ht hu hx
  go_enter Try.func42, Try.ntmps42
  go_wp2_with fail
  refine (HO.out _).mono ?_
  rintro e w1 ⟨rfl, ht1⟩
  have Ht1 := Lib.hid ht1
  clear ht1
  go_wp2_with fail
  refine (HP.out _).mono ?_
  rintro e w2 ⟨rfl, ht2⟩
  have Ht2 := Lib.hid ht2
  clear ht2
  go_wp2_with fail
  go_ret
  exact ⟨rfl, Ht1.out.trans Ht2.out⟩
set_option maxRecDepth 100000 in
theorem refOdd_toS (x : Nat) (w : World) : Calls Try.prog 49 #[.string (toS x)] w fun e w' => e = .returned (.bool (decide (x % 2 = 1))) ∧ w = w' := by
  have hix := index_blE (toS x) 0 0 rfl (by rw [toS_size]; omega)
  have hat := toS_at x 0 (by omega)
  have hlt := getD_lt (bl_lt (toS x)) 0
  obtain ⟨y, hy⟩ : ∃ y, y = (bl (toS x)).getD 0 0 := ⟨_, rfl⟩
  rw [← hy] at hix hat hlt
  have Hd : Hid (decide ((y : Int) % 2 = 1) = decide (x % 2 = 1)) := Lib.hid (decide_eq_decide.2 (by rw [Nat.mul_zero, Nat.pow_zero, Nat.div_one] at hat; omega))
  have hsz : 0 < (toS x).size := by rw [toS_size]; omega
  obtain ⟨s, hs⟩ : ∃ s, s = toS x := ⟨_, rfl⟩
  rw [← hs] at hix hsz ⊢
  clear hy hat hs
  by_cases hb : y % 2 = 1
  · have e1 : ((y : Int) % 2 == 1) = true := beq_iff_eq.2 (by omega)
    have e2 := Lib.hid (show decide (x % 2 = 1) = true by rw [← Hd.out]; exact decide_eq_true (by omega))
    clear hb
    go_enter Try.func49, Try.ntmps49
    go_wp2_with fail
    go_ret
    exact ⟨by rw [e2.out]; rfl, rfl⟩
  · have e1 : ((y : Int) % 2 == 1) = false := beq_eq_false_iff_ne.2 (by omega)
    have e2 := Lib.hid (show decide (x % 2 = 1) = false by rw [← Hd.out]; exact decide_eq_false (by omega))
    clear hb
    go_enter Try.func49, Try.ntmps49
    go_wp2_with fail
    go_ret
    exact ⟨by rw [e2.out]; rfl, rfl⟩
set_option maxRecDepth 100000 in
theorem refOf_any (s : ByteArray) (w : World) : Calls Try.prog 37 #[.string s] w fun e w' => e = .returned (.tuple #[.string (toS (ofN s)), .int .i64 (ofC s)]) ∧ Touch [] w w' := by
  have H0 := Lib.hid (fun W => refNum_any 0 (by decide) W)
  have hz := Lib.hid (show (0 : Nat) % PP = 0 from by decide)
  by_cases h1 : s.size < 32
  · have hc := Lib.hid (show ofC s = 2 by unfold ofC; rw [if_pos h1])
    have hn := Lib.hid (show ofN s = 0 by unfold ofN; rw [hc.out]; rfl)
    rw [hc.out, hn.out, ← hz.out]
    clear hc hn hz
    have h1' : (s.size : Int) < 32 := by omega
    clear h1
    go_enter Try.func37, Try.ntmps37
    go_wp2_with fail
    refine (H0.out _).mono ?_
    rintro e w1 ⟨rfl, ht⟩
    have Ht := Lib.hid ht
    clear ht
    go_wp2_with fail
    go_ret2
    exact ⟨rfl, Ht.out⟩
  · by_cases h2 : 32 < s.size
    · have hc := Lib.hid (show ofC s = 4 by unfold ofC; rw [if_neg h1, if_pos h2])
      have hn := Lib.hid (show ofN s = 0 by unfold ofN; rw [hc.out]; rfl)
      rw [hc.out, hn.out, ← hz.out]
      clear hc hn hz
      have e1 : decide ((s.size : Int) < 32) = false := decide_eq_false (by omega)
      have e2 : decide ((32 : Int) < s.size) = true := decide_eq_true (by omega)
      clear h1 h2
      go_enter Try.func37, Try.ntmps37
      go_wp2_with fail
      refine (H0.out _).mono ?_
      rintro e w1 ⟨rfl, ht⟩
      have Ht := Lib.hid ht
      clear ht
      go_wp2_with fail
      go_ret2
      exact ⟨rfl, Ht.out⟩
    · have hs : s.size = 32 := by omega
      have HC := Lib.hid (fun W => refCut_any s W)
      rw [lowB_cut] at HC
      have e1 : decide ((s.size : Int) < 32) = false := decide_eq_false (by omega)
      have e2 : decide ((32 : Int) < s.size) = false := decide_eq_false (by omega)
      by_cases h3 : toS (cutN s) = s
      · have hc := Lib.hid (show ofC s = 0 by unfold ofC; rw [if_neg h1, if_neg h2, if_pos h3])
        have hn := Lib.hid (show ofN s = cutN s by unfold ofN; rw [if_pos hc.out])
        rw [hc.out, hn.out, h3]
        rw [h3] at HC
        clear hc hn hz h1 h2 hs h3
        go_enter Try.func37, Try.ntmps37
        go_wp2_with fail
        refine (HC.out _).mono ?_
        rintro e w1 ⟨rfl, ht⟩
        have Ht := Lib.hid ht
        clear ht
        go_wp2_with fail
        go_ret2
        exact ⟨rfl, Ht.out⟩
      · have hc := Lib.hid (show ofC s = 3 by unfold ofC; rw [if_neg h1, if_neg h2, if_neg h3])
        have hn := Lib.hid (show ofN s = 0 by unfold ofN; rw [hc.out]; rfl)
        rw [hc.out, hn.out, ← hz.out]
        obtain ⟨t, ht⟩ : ∃ t, t = toS (cutN s) := ⟨_, rfl⟩
        rw [← ht] at HC h3
        have e3 : (t.toList == s.toList) = false := by rw [str_beqE]; exact decide_eq_false h3
        have e4 : (t.toList != s.toList) = true := by rw [bne, e3]; rfl
        clear hc hn hz h1 h2 hs h3 ht
        go_enter Try.func37, Try.ntmps37
        go_wp2_with fail
        refine (HC.out _).mono ?_
        rintro e w1 ⟨rfl, ht⟩
        have Ht := Lib.hid ht
        clear ht
        go_wp2_with fail
        refine (H0.out _).mono ?_
        rintro e w2 ⟨rfl, ht2⟩
        have Ht2 := Lib.hid ht2
        clear ht2
        go_wp2_with fail
        go_ret2
        exact ⟨rfl, Ht.out.trans Ht2.out⟩
end Go.Proofs.Ytbgpgbfiadhddaa
/- The document's root modulo p. -/
namespace Go.Proofs.Ytbgpgbfiadhddaa
open Go.RowKit
def RtPost (x : Nat) (w : World) (e : Ending) (w' : World) : Prop := e = .returned (.tuple #[.string (toS (rootN x)), .bool (isN x)]) ∧ Touch [] w w'
theorem toS_eqE {a b : Nat} (ha : a < PP) (hb : b < PP) (h : a = b) : ((toS a).toList == (toS b).toList) = true := by rw [toS_beq ha hb]; exact decide_eq_true h
theorem toS_neE {a b : Nat} (ha : a < PP) (hb : b < PP) (h : a ≠ b) : ((toS a).toList == (toS b).toList) = false := by rw [toS_beq ha hb]; exact decide_eq_false h
theorem root_no {x : Nat} (h : isN x = false) : rootN x = 0 := by rw [rootN_eq, h]; rfl
theorem root_od {x : Nat} (h : isN x = true) (ho : r2N x % 2 = 1) : rootN x = negF (r2N x) := by rw [rootN_eq, if_pos h, if_pos ho]
theorem root_ev {x : Nat} (h : isN x = true) (ho : ¬ r2N x % 2 = 1) : rootN x = r2N x := by rw [rootN_eq, if_pos h, if_neg ho]
set_option maxRecDepth 100000 in
set_option maxHeartbeats 1000000 in
theorem rt_a1 {x : Nat} (hx : x < PP) (h1 : mulF (r1N x) (r1N x) = x) (h2 : isN x = true) (h3 : r2N x % 2 = 1) (w : World) : Calls Try.prog 39 #[.string (toS x)] w (RtPost x w) := by
  have hr1 := r1N_lt x
  have hr2 := r2N_lt x
  have er2 : r2N x = r1N x := by rw [r2N_pN, if_pos h1]
  have hsq : mulF (r2N x) (r2N x) = x := isN_sq h2
  have HO1 := Lib.hid (fun W => ones252_any W)
  have HP1 := Lib.hid (fun W => r1N_pN x ▸ refPow_any hx on252 on252_lt on252_len W)
  have HS1 := Lib.hid (fun W => refMul_toS hr1 hr1 W)
  have q1 := toS_eqE (mulF_lt (r1N x) (r1N x)) hx h1
  have HS2 := Lib.hid (fun W => refMul_toS hr2 hr2 W)
  have q2 := toS_eqE (mulF_lt (r2N x) (r2N x)) hx hsq
  have HD := Lib.hid (fun W => refOdd_toS (r2N x) W)
  rw [decide_eq_true h3] at HD
  have HG := Lib.hid (fun W => refNeg_toS hr2 W)
  have hroot := root_od h2 h3
  unfold RtPost
  rw [hroot, h2]
  rw [← er2] at HP1 HS1 q1
  obtain ⟨s, hs⟩ : ∃ s, s = toS x := ⟨_, rfl⟩
  obtain ⟨u, hu⟩ : ∃ u, u = strOfNums (on252.map fun (n : Nat) => (n : Int)) := ⟨_, rfl⟩
  obtain ⟨t2, ht2⟩ : ∃ t2, t2 = toS (r2N x) := ⟨_, rfl⟩
  obtain ⟨s2, hs2⟩ : ∃ s2, s2 = toS (mulF (r2N x) (r2N x)) := ⟨_, rfl⟩
  rw [← hs2] at HS2 q2
  rw [← hs] at HP1 q1 q2 ⊢
  rw [← hu] at HO1 HP1
  rw [← ht2] at HS2
  rw [← ht2] at HP1 HS1
  rw [← hs2] at HS1 q1
  rw [← ht2] at HD
  rw [← ht2] at HG
  obtain ⟨z, hz⟩ : ∃ z, z = toS (negF (r2N x)) := ⟨_, rfl⟩
  rw [← hz] at HG ⊢
  clear hs hu ht2 hs2 hr1 hr2 er2 hsq hroot h1 h2 h3 hx hz
  go_enter Try.func39, Try.ntmps39
  go_wp2_with fail
  refine (HO1.out _).mono ?_
  rintro _ w0 ⟨rfl, ht0⟩
  have Ht0 := Lib.hid ht0
  clear ht0
  go_wp2_with fail
  refine (HP1.out _).mono ?_
  rintro _ w1 ⟨rfl, ht1⟩
  have Ht1 := Lib.hid ht1
  clear ht1
  go_wp2_with fail
  refine (HS1.out _).mono ?_
  rintro _ w2 ⟨rfl, ht2⟩
  have Ht2 := Lib.hid ht2
  clear ht2
  go_wp2_with fail
  refine (HS2.out _).mono ?_
  rintro _ w3 ⟨rfl, ht3⟩
  have Ht3 := Lib.hid ht3
  clear ht3
  go_wp2_with fail
  refine (HD.out _).mono ?_
  rintro _ w80 ⟨rfl, rfl⟩
  go_wp2_with fail
  refine (HG.out _).mono ?_
  rintro _ w91 ⟨rfl, ht91⟩
  have Ht91 := Lib.hid ht91
  clear ht91
  go_wp2_with fail
  go_ret2
  exact ⟨rfl, ((((Ht0.out.trans Ht1.out).trans Ht2.out).trans Ht3.out).trans Ht91.out)⟩
set_option maxRecDepth 100000 in
set_option maxHeartbeats 1000000 in
theorem rt_a0 {x : Nat} (hx : x < PP) (h1 : mulF (r1N x) (r1N x) = x) (h2 : isN x = true) (h3 : ¬ r2N x % 2 = 1) (w : World) : Calls Try.prog 39 #[.string (toS x)] w (RtPost x w) := by
  have hr1 := r1N_lt x
  have hr2 := r2N_lt x
  have er2 : r2N x = r1N x := by rw [r2N_pN, if_pos h1]
  have hsq : mulF (r2N x) (r2N x) = x := isN_sq h2
  have HO1 := Lib.hid (fun W => ones252_any W)
  have HP1 := Lib.hid (fun W => r1N_pN x ▸ refPow_any hx on252 on252_lt on252_len W)
  have HS1 := Lib.hid (fun W => refMul_toS hr1 hr1 W)
  have q1 := toS_eqE (mulF_lt (r1N x) (r1N x)) hx h1
  have HS2 := Lib.hid (fun W => refMul_toS hr2 hr2 W)
  have q2 := toS_eqE (mulF_lt (r2N x) (r2N x)) hx hsq
  have HD := Lib.hid (fun W => refOdd_toS (r2N x) W)
  rw [decide_eq_false h3] at HD
  have hroot := root_ev h2 h3
  unfold RtPost
  rw [hroot, h2]
  rw [← er2] at HP1 HS1 q1
  obtain ⟨s, hs⟩ : ∃ s, s = toS x := ⟨_, rfl⟩
  obtain ⟨u, hu⟩ : ∃ u, u = strOfNums (on252.map fun (n : Nat) => (n : Int)) := ⟨_, rfl⟩
  obtain ⟨t2, ht2⟩ : ∃ t2, t2 = toS (r2N x) := ⟨_, rfl⟩
  obtain ⟨s2, hs2⟩ : ∃ s2, s2 = toS (mulF (r2N x) (r2N x)) := ⟨_, rfl⟩
  rw [← hs2] at HS2 q2
  rw [← hs] at HP1 q1 q2 ⊢
  rw [← hu] at HO1 HP1
  rw [← ht2] at HS2
  rw [← ht2] at HP1 HS1
  rw [← hs2] at HS1 q1
  rw [← ht2] at HD
  rw [← ht2]
  clear hs hu ht2 hs2 hr1 hr2 er2 hsq hroot h1 h2 h3 hx
  go_enter Try.func39, Try.ntmps39
  go_wp2_with fail
  refine (HO1.out _).mono ?_
  rintro _ w0 ⟨rfl, ht0⟩
  have Ht0 := Lib.hid ht0
  clear ht0
  go_wp2_with fail
  refine (HP1.out _).mono ?_
  rintro _ w1 ⟨rfl, ht1⟩
  have Ht1 := Lib.hid ht1
  clear ht1
  go_wp2_with fail
  refine (HS1.out _).mono ?_
  rintro _ w2 ⟨rfl, ht2⟩
  have Ht2 := Lib.hid ht2
  clear ht2
  go_wp2_with fail
  refine (HS2.out _).mono ?_
  rintro _ w3 ⟨rfl, ht3⟩
  have Ht3 := Lib.hid ht3
  clear ht3
  go_wp2_with fail
  refine (HD.out _).mono ?_
  rintro _ w80 ⟨rfl, rfl⟩
  go_wp2_with fail
  go_ret2
  exact ⟨rfl, (((Ht0.out.trans Ht1.out).trans Ht2.out).trans Ht3.out)⟩
set_option maxRecDepth 100000 in
set_option maxHeartbeats 1000000 in
theorem rt_bn {x : Nat} (hx : x < PP) (h1 : ¬ mulF (r1N x) (r1N x) = x) (h2 : isN x = false) (w : World) : Calls Try.prog 39 #[.string (toS x)] w (RtPost x w) := by
  have hr1 := r1N_lt x
  have hr2 := r2N_lt x
  have er2 : r2N x = mulF (r1N x) (pN 2 (leN on253)) := by rw [r2N_pN, if_neg h1]
  have hsq : ¬ mulF (r2N x) (r2N x) = x := fun h => absurd ((isN_eq x).trans (decide_eq_true h)) (by rw [h2]; simp)
  have HO1 := Lib.hid (fun W => ones252_any W)
  have HP1 := Lib.hid (fun W => r1N_pN x ▸ refPow_any hx on252 on252_lt on252_len W)
  have HS1 := Lib.hid (fun W => refMul_toS hr1 hr1 W)
  have q1 := toS_neE (mulF_lt (r1N x) (r1N x)) hx h1
  have HN2 := Lib.hid (fun W => refNum_any 2 (by decide) W)
  rw [(by decide : 2 % PP = 2)] at HN2
  have HO2 := Lib.hid (fun W => ones253_any W)
  have HP2 := Lib.hid (fun W => refPow_any (x := 2) (by decide) on253 on253_lt on253_len W)
  have HM2 := Lib.hid (fun W => refMul_toS hr1 (pN_lt 2 (leN on253)) W)
  rw [← er2] at HM2
  have HS2 := Lib.hid (fun W => refMul_toS hr2 hr2 W)
  have q2 := toS_neE (mulF_lt (r2N x) (r2N x)) hx hsq
  have HN0 := Lib.hid (fun W => refNum_any 0 (by decide) W)
  rw [(by decide : 0 % PP = 0)] at HN0
  have hroot := root_no h2
  unfold RtPost
  rw [hroot, h2]
  skip
  obtain ⟨s, hs⟩ : ∃ s, s = toS x := ⟨_, rfl⟩
  obtain ⟨u, hu⟩ : ∃ u, u = strOfNums (on252.map fun (n : Nat) => (n : Int)) := ⟨_, rfl⟩
  obtain ⟨t2, ht2⟩ : ∃ t2, t2 = toS (r2N x) := ⟨_, rfl⟩
  obtain ⟨s2, hs2⟩ : ∃ s2, s2 = toS (mulF (r2N x) (r2N x)) := ⟨_, rfl⟩
  rw [← hs2] at HS2 q2
  rw [← hs] at HP1 q1 q2 ⊢
  rw [← hu] at HO1 HP1
  rw [← ht2] at HS2
  obtain ⟨t1, ht1⟩ : ∃ t1, t1 = toS (r1N x) := ⟨_, rfl⟩
  obtain ⟨s1, hs1⟩ : ∃ s1, s1 = toS (mulF (r1N x) (r1N x)) := ⟨_, rfl⟩
  obtain ⟨u2, hu2⟩ : ∃ u2, u2 = strOfNums (on253.map fun (n : Nat) => (n : Int)) := ⟨_, rfl⟩
  obtain ⟨t3, ht3⟩ : ∃ t3, t3 = toS (pN 2 (leN on253)) := ⟨_, rfl⟩
  obtain ⟨n2, hn2⟩ : ∃ n2, n2 = toS 2 := ⟨_, rfl⟩
  rw [← ht1] at HP1 HS1 HM2
  rw [← hs1] at HS1 q1
  rw [← hu2] at HO2 HP2
  rw [← ht3] at HP2 HM2
  rw [← hn2] at HN2 HP2
  rw [← ht2] at HM2
  obtain ⟨z, hz⟩ : ∃ z, z = toS 0 := ⟨_, rfl⟩
  rw [← hz] at HN0 ⊢
  clear hs hu ht2 hs2 hr1 hr2 er2 hsq hroot h1 h2 hx ht1 hs1 hu2 ht3 hn2 hz
  go_enter Try.func39, Try.ntmps39
  go_wp2_with fail
  refine (HO1.out _).mono ?_
  rintro _ w0 ⟨rfl, ht0⟩
  have Ht0 := Lib.hid ht0
  clear ht0
  go_wp2_with fail
  refine (HP1.out _).mono ?_
  rintro _ w1 ⟨rfl, ht1⟩
  have Ht1 := Lib.hid ht1
  clear ht1
  go_wp2_with fail
  refine (HS1.out _).mono ?_
  rintro _ w2 ⟨rfl, ht2⟩
  have Ht2 := Lib.hid ht2
  clear ht2
  go_wp2_with fail
  refine (HN2.out _).mono ?_
  rintro _ w3 ⟨rfl, ht3⟩
  have Ht3 := Lib.hid ht3
  clear ht3
  go_wp2_with fail
  refine (HO2.out _).mono ?_
  rintro _ w4 ⟨rfl, ht4⟩
  have Ht4 := Lib.hid ht4
  clear ht4
  go_wp2_with fail
  refine (HP2.out _).mono ?_
  rintro _ w5 ⟨rfl, ht5⟩
  have Ht5 := Lib.hid ht5
  clear ht5
  go_wp2_with fail
  refine (HM2.out _).mono ?_
  rintro _ w6 ⟨rfl, ht6⟩
  have Ht6 := Lib.hid ht6
  clear ht6
  go_wp2_with fail
  refine (HS2.out _).mono ?_
  rintro _ w7 ⟨rfl, ht7⟩
  have Ht7 := Lib.hid ht7
  clear ht7
  go_wp2_with fail
  refine (HN0.out _).mono ?_
  rintro _ w90 ⟨rfl, ht90⟩
  have Ht90 := Lib.hid ht90
  clear ht90
  go_wp2_with fail
  go_ret2
  exact ⟨rfl, ((((((((Ht0.out.trans Ht1.out).trans Ht2.out).trans Ht3.out).trans Ht4.out).trans Ht5.out).trans Ht6.out).trans Ht7.out).trans Ht90.out)⟩
set_option maxRecDepth 100000 in
set_option maxHeartbeats 1000000 in
theorem rt_b1 {x : Nat} (hx : x < PP) (h1 : ¬ mulF (r1N x) (r1N x) = x) (h2 : isN x = true) (h3 : r2N x % 2 = 1) (w : World) : Calls Try.prog 39 #[.string (toS x)] w (RtPost x w) := by
  have hr1 := r1N_lt x
  have hr2 := r2N_lt x
  have er2 : r2N x = mulF (r1N x) (pN 2 (leN on253)) := by rw [r2N_pN, if_neg h1]
  have hsq : mulF (r2N x) (r2N x) = x := isN_sq h2
  have HO1 := Lib.hid (fun W => ones252_any W)
  have HP1 := Lib.hid (fun W => r1N_pN x ▸ refPow_any hx on252 on252_lt on252_len W)
  have HS1 := Lib.hid (fun W => refMul_toS hr1 hr1 W)
  have q1 := toS_neE (mulF_lt (r1N x) (r1N x)) hx h1
  have HN2 := Lib.hid (fun W => refNum_any 2 (by decide) W)
  rw [(by decide : 2 % PP = 2)] at HN2
  have HO2 := Lib.hid (fun W => ones253_any W)
  have HP2 := Lib.hid (fun W => refPow_any (x := 2) (by decide) on253 on253_lt on253_len W)
  have HM2 := Lib.hid (fun W => refMul_toS hr1 (pN_lt 2 (leN on253)) W)
  rw [← er2] at HM2
  have HS2 := Lib.hid (fun W => refMul_toS hr2 hr2 W)
  have q2 := toS_eqE (mulF_lt (r2N x) (r2N x)) hx hsq
  have HD := Lib.hid (fun W => refOdd_toS (r2N x) W)
  rw [decide_eq_true h3] at HD
  have HG := Lib.hid (fun W => refNeg_toS hr2 W)
  have hroot := root_od h2 h3
  unfold RtPost
  rw [hroot, h2]
  skip
  obtain ⟨s, hs⟩ : ∃ s, s = toS x := ⟨_, rfl⟩
  obtain ⟨u, hu⟩ : ∃ u, u = strOfNums (on252.map fun (n : Nat) => (n : Int)) := ⟨_, rfl⟩
  obtain ⟨t2, ht2⟩ : ∃ t2, t2 = toS (r2N x) := ⟨_, rfl⟩
  obtain ⟨s2, hs2⟩ : ∃ s2, s2 = toS (mulF (r2N x) (r2N x)) := ⟨_, rfl⟩
  rw [← hs2] at HS2 q2
  rw [← hs] at HP1 q1 q2 ⊢
  rw [← hu] at HO1 HP1
  rw [← ht2] at HS2
  obtain ⟨t1, ht1⟩ : ∃ t1, t1 = toS (r1N x) := ⟨_, rfl⟩
  obtain ⟨s1, hs1⟩ : ∃ s1, s1 = toS (mulF (r1N x) (r1N x)) := ⟨_, rfl⟩
  obtain ⟨u2, hu2⟩ : ∃ u2, u2 = strOfNums (on253.map fun (n : Nat) => (n : Int)) := ⟨_, rfl⟩
  obtain ⟨t3, ht3⟩ : ∃ t3, t3 = toS (pN 2 (leN on253)) := ⟨_, rfl⟩
  obtain ⟨n2, hn2⟩ : ∃ n2, n2 = toS 2 := ⟨_, rfl⟩
  rw [← ht1] at HP1 HS1 HM2
  rw [← hs1] at HS1 q1
  rw [← hu2] at HO2 HP2
  rw [← ht3] at HP2 HM2
  rw [← hn2] at HN2 HP2
  rw [← ht2] at HM2
  rw [← ht2] at HD
  rw [← ht2] at HG
  obtain ⟨z, hz⟩ : ∃ z, z = toS (negF (r2N x)) := ⟨_, rfl⟩
  rw [← hz] at HG ⊢
  clear hs hu ht2 hs2 hr1 hr2 er2 hsq hroot h1 h2 h3 hx ht1 hs1 hu2 ht3 hn2 hz
  go_enter Try.func39, Try.ntmps39
  go_wp2_with fail
  refine (HO1.out _).mono ?_
  rintro _ w0 ⟨rfl, ht0⟩
  have Ht0 := Lib.hid ht0
  clear ht0
  go_wp2_with fail
  refine (HP1.out _).mono ?_
  rintro _ w1 ⟨rfl, ht1⟩
  have Ht1 := Lib.hid ht1
  clear ht1
  go_wp2_with fail
  refine (HS1.out _).mono ?_
  rintro _ w2 ⟨rfl, ht2⟩
  have Ht2 := Lib.hid ht2
  clear ht2
  go_wp2_with fail
  refine (HN2.out _).mono ?_
  rintro _ w3 ⟨rfl, ht3⟩
  have Ht3 := Lib.hid ht3
  clear ht3
  go_wp2_with fail
  refine (HO2.out _).mono ?_
  rintro _ w4 ⟨rfl, ht4⟩
  have Ht4 := Lib.hid ht4
  clear ht4
  go_wp2_with fail
  refine (HP2.out _).mono ?_
  rintro _ w5 ⟨rfl, ht5⟩
  have Ht5 := Lib.hid ht5
  clear ht5
  go_wp2_with fail
  refine (HM2.out _).mono ?_
  rintro _ w6 ⟨rfl, ht6⟩
  have Ht6 := Lib.hid ht6
  clear ht6
  go_wp2_with fail
  refine (HS2.out _).mono ?_
  rintro _ w7 ⟨rfl, ht7⟩
  have Ht7 := Lib.hid ht7
  clear ht7
  go_wp2_with fail
  refine (HD.out _).mono ?_
  rintro _ w80 ⟨rfl, rfl⟩
  go_wp2_with fail
  refine (HG.out _).mono ?_
  rintro _ w91 ⟨rfl, ht91⟩
  have Ht91 := Lib.hid ht91
  clear ht91
  go_wp2_with fail
  go_ret2
  exact ⟨rfl, ((((((((Ht0.out.trans Ht1.out).trans Ht2.out).trans Ht3.out).trans Ht4.out).trans Ht5.out).trans Ht6.out).trans Ht7.out).trans Ht91.out)⟩
set_option maxRecDepth 100000 in
set_option maxHeartbeats 1000000 in
theorem rt_b0 {x : Nat} (hx : x < PP) (h1 : ¬ mulF (r1N x) (r1N x) = x) (h2 : isN x = true) (h3 : ¬ r2N x % 2 = 1) (w : World) : Calls Try.prog 39 #[.string (toS x)] w (RtPost x w) := by
  have hr1 := r1N_lt x
  have hr2 := r2N_lt x
  have er2 : r2N x = mulF (r1N x) (pN 2 (leN on253)) := by rw [r2N_pN, if_neg h1]
  have hsq : mulF (r2N x) (r2N x) = x := isN_sq h2
  have HO1 := Lib.hid (fun W => ones252_any W)
  have HP1 := Lib.hid (fun W => r1N_pN x ▸ refPow_any hx on252 on252_lt on252_len W)
  have HS1 := Lib.hid (fun W => refMul_toS hr1 hr1 W)
  have q1 := toS_neE (mulF_lt (r1N x) (r1N x)) hx h1
  have HN2 := Lib.hid (fun W => refNum_any 2 (by decide) W)
  rw [(by decide : 2 % PP = 2)] at HN2
  have HO2 := Lib.hid (fun W => ones253_any W)
  have HP2 := Lib.hid (fun W => refPow_any (x := 2) (by decide) on253 on253_lt on253_len W)
  have HM2 := Lib.hid (fun W => refMul_toS hr1 (pN_lt 2 (leN on253)) W)
  rw [← er2] at HM2
  have HS2 := Lib.hid (fun W => refMul_toS hr2 hr2 W)
  have q2 := toS_eqE (mulF_lt (r2N x) (r2N x)) hx hsq
  have HD := Lib.hid (fun W => refOdd_toS (r2N x) W)
  rw [decide_eq_false h3] at HD
  have hroot := root_ev h2 h3
  unfold RtPost
  rw [hroot, h2]
  skip
  obtain ⟨s, hs⟩ : ∃ s, s = toS x := ⟨_, rfl⟩
  obtain ⟨u, hu⟩ : ∃ u, u = strOfNums (on252.map fun (n : Nat) => (n : Int)) := ⟨_, rfl⟩
  obtain ⟨t2, ht2⟩ : ∃ t2, t2 = toS (r2N x) := ⟨_, rfl⟩
  obtain ⟨s2, hs2⟩ : ∃ s2, s2 = toS (mulF (r2N x) (r2N x)) := ⟨_, rfl⟩
  rw [← hs2] at HS2 q2
  rw [← hs] at HP1 q1 q2 ⊢
  rw [← hu] at HO1 HP1
  rw [← ht2] at HS2
  obtain ⟨t1, ht1⟩ : ∃ t1, t1 = toS (r1N x) := ⟨_, rfl⟩
  obtain ⟨s1, hs1⟩ : ∃ s1, s1 = toS (mulF (r1N x) (r1N x)) := ⟨_, rfl⟩
  obtain ⟨u2, hu2⟩ : ∃ u2, u2 = strOfNums (on253.map fun (n : Nat) => (n : Int)) := ⟨_, rfl⟩
  obtain ⟨t3, ht3⟩ : ∃ t3, t3 = toS (pN 2 (leN on253)) := ⟨_, rfl⟩
  obtain ⟨n2, hn2⟩ : ∃ n2, n2 = toS 2 := ⟨_, rfl⟩
  rw [← ht1] at HP1 HS1 HM2
  rw [← hs1] at HS1 q1
  rw [← hu2] at HO2 HP2
  rw [← ht3] at HP2 HM2
  rw [← hn2] at HN2 HP2
  rw [← ht2] at HM2
  rw [← ht2] at HD
  rw [← ht2]
  clear hs hu ht2 hs2 hr1 hr2 er2 hsq hroot h1 h2 h3 hx ht1 hs1 hu2 ht3 hn2
  go_enter Try.func39, Try.ntmps39
  go_wp2_with fail
  refine (HO1.out _).mono ?_
  rintro _ w0 ⟨rfl, ht0⟩
  have Ht0 := Lib.hid ht0
  clear ht0
  go_wp2_with fail
  refine (HP1.out _).mono ?_
  rintro _ w1 ⟨rfl, ht1⟩
  have Ht1 := Lib.hid ht1
  clear ht1
  go_wp2_with fail
  refine (HS1.out _).mono ?_
  rintro _ w2 ⟨rfl, ht2⟩
  have Ht2 := Lib.hid ht2
  clear ht2
  go_wp2_with fail
  refine (HN2.out _).mono ?_
  rintro _ w3 ⟨rfl, ht3⟩
  have Ht3 := Lib.hid ht3
  clear ht3
  go_wp2_with fail
  refine (HO2.out _).mono ?_
  rintro _ w4 ⟨rfl, ht4⟩
  have Ht4 := Lib.hid ht4
  clear ht4
  go_wp2_with fail
  refine (HP2.out _).mono ?_
  rintro _ w5 ⟨rfl, ht5⟩
  have Ht5 := Lib.hid ht5
  clear ht5
  go_wp2_with fail
  refine (HM2.out _).mono ?_
  rintro _ w6 ⟨rfl, ht6⟩
  have Ht6 := Lib.hid ht6
  clear ht6
  go_wp2_with fail
  refine (HS2.out _).mono ?_
  rintro _ w7 ⟨rfl, ht7⟩
  have Ht7 := Lib.hid ht7
  clear ht7
  go_wp2_with fail
  refine (HD.out _).mono ?_
  rintro _ w80 ⟨rfl, rfl⟩
  go_wp2_with fail
  go_ret2
  exact ⟨rfl, (((((((Ht0.out.trans Ht1.out).trans Ht2.out).trans Ht3.out).trans Ht4.out).trans Ht5.out).trans Ht6.out).trans Ht7.out)⟩
theorem refRoot_toS {x : Nat} (hx : x < PP) (w : World) : Calls Try.prog 39 #[.string (toS x)] w (RtPost x w) := by
  by_cases h1 : mulF (r1N x) (r1N x) = x
  · have h2 : isN x = true := sq_isN (r1N_lt x) h1
    by_cases h3 : r2N x % 2 = 1
    · exact rt_a1 hx h1 h2 h3 w
    · exact rt_a0 hx h1 h2 h3 w
  · cases h2 : isN x with
    | false => exact rt_bn hx h1 h2 w
    | true =>
      by_cases h3 : r2N x % 2 = 1
      · exact rt_b1 hx h1 h2 h3 w
      · exact rt_b0 hx h1 h2 h3 w
end Go.Proofs.Ytbgpgbfiadhddaa
/- The document's functions of layer 4, by what number a text is. -/
namespace Go.Proofs.Ytbgpgbfiadhddaa
open Go.RowKit
section
variable {n m : Nat} {x y : Value}
theorem radd_v (hx : isS (toS n) x) (hy : isS (toS m) y) (hn : n < PP) (hm : m < PP) (w : World) : Calls Try.prog 43 #[x, y] w (Gives w (isS (toS (addF n m)))) := by
  obtain rfl : x = .string (toS n) := hx
  obtain rfl : y = .string (toS m) := hy
  exact (refAdd_toS hn hm w).mono fun _ _ ⟨he, ht⟩ => ⟨_, he, rfl, ht⟩
theorem rsub_v (hx : isS (toS n) x) (hy : isS (toS m) y) (hn : n < PP) (hm : m < PP) (w : World) : Calls Try.prog 40 #[x, y] w (Gives w (isS (toS (subF n m)))) := by
  obtain rfl : x = .string (toS n) := hx
  obtain rfl : y = .string (toS m) := hy
  exact (refSub_toS hn hm w).mono fun _ _ ⟨he, ht⟩ => ⟨_, he, rfl, ht⟩
theorem rmul_v (hx : isS (toS n) x) (hy : isS (toS m) y) (hn : n < PP) (hm : m < PP) (w : World) : Calls Try.prog 38 #[x, y] w (Gives w (isS (toS (mulF n m)))) := by
  obtain rfl : x = .string (toS n) := hx
  obtain rfl : y = .string (toS m) := hy
  exact (refMul_toS hn hm w).mono fun _ _ ⟨he, ht⟩ => ⟨_, he, rfl, ht⟩
theorem rneg_v (hx : isS (toS n) x) (hn : n < PP) (w : World) : Calls Try.prog 45 #[x] w (Gives w (isS (toS (negF n)))) := by
  obtain rfl : x = .string (toS n) := hx
  exact (refNeg_toS hn w).mono fun _ _ ⟨he, ht⟩ => ⟨_, he, rfl, ht⟩
theorem rinv_v (hx : isS (toS n) x) (hn : n < PP) (w : World) : Calls Try.prog 42 #[x] w (Gives w (isS (toS (invF n)))) := by
  obtain rfl : x = .string (toS n) := hx
  exact (refInv_toS hn w).mono fun _ _ ⟨he, ht⟩ => ⟨_, he, rfl, ht⟩
theorem rodd_v (hx : isS (toS n) x) (w : World) : Calls Try.prog 49 #[x] w (Gives w (isB (decide (n % 2 = 1)))) := by
  obtain rfl : x = .string (toS n) := hx
  exact (refOdd_toS n w).mono fun _ _ ⟨he, hw⟩ => ⟨_, he, rfl, hw ▸ Touch.refl _ _⟩
theorem rnum_v (k : Nat) (hk : k < 18446744073709551616) (w : World) : Calls Try.prog 41 #[.int .u64 (k : Int)] w (Gives w (isS (toS (k % PP)))) :=
  (refNum_any k hk w).mono fun _ _ ⟨he, ht⟩ => ⟨_, he, rfl, ht⟩
theorem rnum_s {k n : Nat} {x : Value} (hx : isV (.int .u64 (k : Int)) x) (hk : k < 18446744073709551616) (hn : k % PP = n) (w : World) : Calls Try.prog 41 #[x] w (Gives w (isS (toS n))) := by
  obtain rfl : x = .int .u64 (k : Int) := hx
  subst hn
  exact rnum_v k hk w
theorem refCut_c (s : ByteArray) (w : World) : Calls Try.prog 60 #[.string s] w fun e w' => e = .returned (.string (toS (cutN s))) ∧ Touch [] w w' := refCut_any s w
end
end Go.Proofs.Ytbgpgbfiadhddaa
/- The document's points as values. -/
namespace Go.Proofs.Ytbgpgbfiadhddaa
open Go Go.RowKit
/-- Fractions of the document's that stand for a point. -/
structure RRep (P : Pt) (X Y Z : Nat) : Prop where
  lx : X < PP
  ly : Y < PP
  lz : Z < PP
  z : ff Z ≠ 0
  x : ff X = P.x * ff Z
  y : ff Y = P.y * ff Z
def rpS (a b c : ByteArray) : Value := .agg #[.string a, .string b, .string c]
def RfV (P : Pt) (v : Value) : Prop := ∃ X Y Z, RRep P X Y Z ∧ v = rpS (toS X) (toS Y) (toS Z)
theorem infoR : (Try.prog.info? 33).map (·.size) = some 3 := by kernel_rfl
theorem rp_one (a b c : ByteArray) : (#[.string a, .string b, .string c] : Array Value).all (·.oneCell') = true := by simp [Value.oneCell']
theorem subF_lt (x y : Nat) : subF x y < PP := addF_lt ..
theorem RRep.of {P : Pt} {X Y Z T : Nat} (h : QRep P X Y Z T) : RRep P X Y Z := ⟨h.lx, h.ly, h.lz, h.z, h.x, h.y⟩
section
variable {o : Oper} {a : Act} {w : World} {T : Tmp → SP}
theorem OpTo.rdR (d : Tmp) (x : Operand) (ho : o.op = .load 33 x) (hd : o.dst = some d) (g : Nat) (hx : a.eval x = .pointer (some ⟨g, 0, none⟩)) {t : TypeId} {X Y Z : Nat} (hB : Blk w g t #[.string (toS X), .string (toS Y), .string (toS Z)]) {P : Pt} (h : RRep P X Y Z) (hT : ∀ v, RfV P v → (T d).p v w) :
    OpTo Try.prog o a w (fun v w' => dOfW o T v w' ∧ Touch [] w w') :=
  OpTo.rowG d 33 x ho hd g hx t _ _ hB Try.underlying33 rfl infoR (hT _ ⟨X, Y, Z, h, rfl⟩)
theorem OpTo.bldR (d : Tmp) (x y z : Operand) (ho : o.op = .build 33 #[(0, x), (1, y), (2, z)]) (hd : o.dst = some d) {s1 s2 s3 : ByteArray} (hx : a.eval x = .string s1) (hy : a.eval y = .string s2) (hz : a.eval z = .string s3) (hT : (T d).p (rpS s1 s2 s3) w) :
    OpTo Try.prog o a w (fun v w' => dOfW o T v w' ∧ Touch [] w w') := by
  refine OpTo.pureG (v := rpS s1 s2 s3) d hd ?_ hT
  unfold execOp rpS
  simp only [ho, List.map_toArray, List.map_cons, List.map_nil, hx, hy, hz]
  go_simp
end
theorem run_alloc_rp (w : World) : (Instr.alloc 33 true (.tuple #[])).run Try.prog w = .ok (.pointer (some ⟨w.heap.size, 0, none⟩)) (w.alloc (.cells #[.string ⟨#[]⟩, .string ⟨#[]⟩, .string ⟨#[]⟩] 33)) := by
  show (_ : Result Value) = _
  kernel_rfl
theorem exec_alloc_rp {o : Oper} {w : World} {ρ : Operand → Value} (ho : o.op = .alloc 33) : (execOp ρ o).run Try.prog w = .ok (.value (.pointer (some ⟨w.heap.size, 0, none⟩))) (w.alloc (.cells #[.string ⟨#[]⟩, .string ⟨#[]⟩, .string ⟨#[]⟩] 33)) := by
  unfold execOp
  simp only [ho, Sem.run_bind, Sem.run_pure, run_alloc_rp, Result.andThen_ok]
theorem rp_ret {fn : Func} {p : Tmp} (hres : fn.results = #[.cell p 33]) {w w' : World} {R : Value → Prop} {g : Nat} {a b c : ByteArray} {tmps : Array Value} (hp : tmps.getD p undef = .pointer (some ⟨g, 0, none⟩)) (t : TypeId) (hB : Blk w' g t #[.string a, .string b, .string c]) (hT : Touch [] w w') (hR : R (rpS a b c)) :
    bodyPost Try.prog fn (Gives w R) Exit.ret { tmps := tmps, defers := [] } w' :=
  bodyPost_ret (results_cell_row hres _ _ g t _ (0, 0) _ hp hB Try.underlying33 rfl infoR) rfl ⟨_, rfl, hR, hT⟩
theorem rd_ret {fn : Func} {p q : Tmp} (hres : fn.results = #[.cell p 33, .tmp q]) {w w' : World} {R : Value → Prop} {g : Nat} {a b e : ByteArray} {c : Value} {tmps : Array Value} (hp : tmps.getD p undef = .pointer (some ⟨g, 0, none⟩)) (hq : tmps.getD q undef = c) (t : TypeId) (hB : Blk w' g t #[.string a, .string b, .string e]) (hT : Touch [] w w') (hR : R (rpS a b e)) :
    bodyPost Try.prog fn (Gives w (Tup R c)) Exit.ret { tmps := tmps, defers := [] } w' :=
  bodyPost_ret (results_row_tmp hres _ _ g t _ (0, 0) _ hp hB Try.underlying33 rfl infoR) rfl ⟨_, rfl, ⟨_, hR, by rw [hq]; rfl⟩, hT⟩
section
variable {P Q : Pt} {X1 Y1 Z1 X2 Y2 Z2 : Nat}
theorem rrep_zero : RRep pzero 0 1 1 := RRep.of rep_zero
theorem rrep_add (h1 : RRep P X1 Y1 Z1) (h2 : RRep Q X2 Y2 Z2) {A B C D E M N R : Nat} (hA : A = mulF Z1 Z2) (hB : B = mulF A A) (hC : C = mulF X1 X2) (hD : D = mulF Y1 Y2) (hE : E = mulF DN (mulF C D)) (hM : M = subF B E) (hN : N = addF B E)
    (hR : R = subF (subF (mulF (addF X1 Y1) (addF X2 Y2)) C) D) : RRep (padd P Q) (mulF (mulF A M) R) (mulF (mulF A N) (addF D C)) (mulF M N) := by
  obtain ⟨sx, sy⟩ := ed.padd_sum P Q
  have lE : E < PP := hE ▸ mulF_lt ..
  have lC : C < PP := hC ▸ mulF_lt ..
  have lD : D < PP := hD ▸ mulF_lt ..
  have eA : ff A = ff Z1 * ff Z2 := by rw [hA, ff_mul]
  have eB : ff B = (ff Z1 * ff Z2) * (ff Z1 * ff Z2) := by rw [hB, ff_mul, eA]
  have eC : ff C = (P.x*ff Z1)*(Q.x*ff Z2) := by rw [hC, ff_mul, h1.x, h2.x]
  have eD : ff D = (P.y*ff Z1)*(Q.y*ff Z2) := by rw [hD, ff_mul, h1.y, h2.y]
  have eE : ff E = dF*((P.x*ff Z1)*(Q.x*ff Z2)*((P.y*ff Z1)*(Q.y*ff Z2))) := by rw [hE, ff_mul, ff_mul, eC, eD]; rfl
  have eM : ff M = (ff Z1 * ff Z2) * (ff Z1 * ff Z2) - dF*((P.x*ff Z1)*(Q.x*ff Z2)*((P.y*ff Z1)*(Q.y*ff Z2))) := by rw [hM, ff_sub lE, eB, eE]
  have eN : ff N = (ff Z1 * ff Z2) * (ff Z1 * ff Z2) + dF*((P.x*ff Z1)*(Q.x*ff Z2)*((P.y*ff Z1)*(Q.y*ff Z2))) := by rw [hN, ff_add, eB, eE]
  have eR : ff R = (P.x*ff Z1 + P.y*ff Z1)*(Q.x*ff Z2 + Q.y*ff Z2) - (P.x*ff Z1)*(Q.x*ff Z2) - (P.y*ff Z1)*(Q.y*ff Z2) := by rw [hR, ff_sub lD, ff_sub lC, ff_mul, ff_add, ff_add, h1.x, h1.y, h2.x, h2.y, eC, eD]
  refine ⟨mulF_lt .., mulF_lt .., mulF_lt .., ?_, ?_, ?_⟩
  · rw [ff_mul, eM, eN, rsum_z]
    exact zz (zz (zz (zz h1.z h2.z) (zz h1.z h2.z)) (zz (zz h1.z h2.z) (zz h1.z h2.z)) |> fun h => by simpa using h) (zz (ed.den_p P.on Q.on) (ed.den_m P.on Q.on))
  · rw [ff_mul, ff_mul, ff_mul, eA, eM, eN, eR]
    exact rsum_x sx
  · rw [ff_mul, ff_mul, ff_mul, ff_add, eA, eM, eN, eD, eC]
    exact rsum_y sy
theorem rrep_neg (h : RRep P X1 Y1 Z1) : RRep (pneg P) (negF X1) Y1 Z1 := ⟨negF_lt _, h.ly, h.lz, h.z, by rw [ff_neg h.lx, h.x]; exact neg_m1, h.y⟩
theorem rrep_same_x (h1 : RRep P X1 Y1 Z1) (h2 : RRep Q X2 Y2 Z2) : mulF X1 Z2 = mulF X2 Z1 ↔ P.x = Q.x := frac_same h1.x h2.x h1.z h2.z
theorem rrep_same_y (h1 : RRep P X1 Y1 Z1) (h2 : RRep Q X2 Y2 Z2) : mulF Y1 Z2 = mulF Y2 Z1 ↔ P.y = Q.y := frac_same h1.y h2.y h1.z h2.z
theorem rrep_x (h : RRep P X1 Y1 Z1) : mulF X1 (invF Z1) = P.x.val := inv_val h.lz h.x h.z
theorem rrep_y (h : RRep P X1 Y1 Z1) : mulF Y1 (invF Z1) = P.y.val := inv_val h.lz h.y h.z
end
end Go.Proofs.Ytbgpgbfiadhddaa
/- The document's points: neutral one, negative, equality, sum. -/
namespace Go.Proofs.Ytbgpgbfiadhddaa
open Go Go.RowKit
theorem toS_DN : toS DN = ⟨#[163, 120, 89, 19, 202, 77, 235, 117, 171, 216, 65, 65, 77, 10, 112, 0, 152, 232, 121, 119, 121, 64, 199, 140, 115, 254, 111, 43, 238, 108, 3, 82]⟩ := by decide +kernel
theorem rf_zero {v : Value} (h : isV (rpS (toS 0) (toS 1) (toS 1)) v) : RfV pzero v := ⟨0, 1, 1, rrep_zero, h⟩
set_option maxRecDepth 100000 in
set_option maxHeartbeats 4000000 in
theorem rd_v (w : World) : Calls Try.prog 44 #[] w (Gives w (isS (toS DN))) := by
  rw [toS_DN]
  go_enter Try.func44, Try.ntmps44
  go_wp2_with fail
  go_ret
  exact ⟨_, rfl, rfl, Touch.refl _ _⟩
set_option maxRecDepth 100000 in
set_option maxHeartbeats 4000000 in
theorem rzero_v (w : World) : Calls Try.prog 24 #[] w (Gives w (isV (rpS (toS 0) (toS 1) (toS 1)))) := by
  go_enter Try.func24, Try.ntmps24
  go_upto_region 0 with fail
  refine wp_region_list ?_
  refine wpList_run rfl (exec_alloc_rp rfl) ?_
  refine wpList_nil ?_
  simp only [Act.put, List.setIfInBounds_toArray, List.set_cons_zero]
  obtain ⟨w1, g0, hW, eg0, b0, ht, hb0⟩ := start1 w 33 #[.string ⟨#[]⟩, .string ⟨#[]⟩, .string ⟨#[]⟩]
  rw [← hW]
  rw [← eg0]
  have HT := Lib.hid ht
  have B0 := Lib.hid b0
  have HB0 := Lib.hid hb0
  clear hW eg0 b0 ht hb0
  go_upto_region 1 with fail
  refine wp_region_list (wpList_flowP 4 (lookW [(1, pu (isS (toS (0)))), (2, pu (isS (toS (1)))), (3, pu (isS (toS (1)))), (4, pu (isV (rpS (toS (0)) (toS (1)) (toS (1)))))]) [] [1, 2, 3, 4] [4] (by kernel_rfl) (by kernel_rfl) (by kernel_rfl) trivial ?_ ?_)
  · refine FStepsW.cons (FStepW.plain rfl fun a w hS hE => OpTo.call #[.int .u64 0] rfl Try.func41 (by kernel_rfl) (by kernel_rfl) (args1 ..) ((rnum_v 0 (by decide) w).mono fun _ _ h => Gives.toW 1 rfl (fun _ _ h => h) h)) ?_
    refine FStepsW.cons (FStepW.plain rfl fun a w hS hE => OpTo.call #[.int .u64 1] rfl Try.func41 (by kernel_rfl) (by kernel_rfl) (args1 ..) ((rnum_v 1 (by decide) w).mono fun _ _ h => Gives.toW 2 rfl (fun _ _ h => h) h)) ?_
    refine FStepsW.cons (FStepW.plain rfl fun a w hS hE => OpTo.call #[.int .u64 1] rfl Try.func41 (by kernel_rfl) (by kernel_rfl) (args1 ..) ((rnum_v 1 (by decide) w).mono fun _ _ h => Gives.toW 3 rfl (fun _ _ h => h) h)) ?_
    refine FStepsW.cons (FStepW.plain rfl fun a w hS hE => OpTo.bldR 4 _ _ _ rfl rfl (hE 1 (by kernel_rfl)) (hE 2 (by kernel_rfl)) (hE 3 (by kernel_rfl)) rfl) ?_
    exact FStepsW.nil
  intro f w2 hS hF
  obtain ⟨h4, -⟩ := hF
  have e4 : f 4 = rpS (toS (0)) (toS (1)) (toS (1)) := h4
  clear h4
  replace B0 := Lib.hid (B0.out.touch hS notin_nil)
  replace HT := Lib.hid (HT.out.trans hS)
  clear hS
  simp only [setAll, List.setIfInBounds_toArray, List.set_cons_zero, List.set_cons_succ, e4]
  show wpList _ _ _ [_] _ _
  refine wpList_store_row rfl 33 (.tmp 0) (.tmp 4) rfl g0 #[.string (toS (0)), .string (toS (1)), .string (toS (1))] rfl rfl 33 #[.string ⟨#[]⟩, .string ⟨#[]⟩, .string ⟨#[]⟩] B0.out infoR rfl (rp_one ..) ?_
  refine wpList_nil ?_
  simp only [Act.put]
  have B0' := (B0.out.setRow #[.string (toS (0)), .string (toS (1)), .string (toS (1))])
  have HT' := (HT.out.setRowE (.inr HB0.out) #[.string (toS (0)), .string (toS (1)), .string (toS (1))])
  obtain ⟨w3, hw3⟩ : ∃ w3, w3 = (w2.setRow g0 #[.string (toS (0)), .string (toS (1)), .string (toS (1))]) := ⟨_, rfl⟩
  rw [← hw3] at HT' B0'
  rw [← hw3]
  clear hw3 HT B0
  have B0 := Lib.hid B0'
  clear B0'
  have HT := Lib.hid HT'
  clear HT'
  clear e4
  go_wp2_with fail
  exact rp_ret Try.results24 rfl 33 B0.out HT.out rfl
set_option maxRecDepth 100000 in
set_option maxHeartbeats 4000000 in
theorem rpneg_v {P : Pt} {x : Value} (hx : RfV P x) (w : World) : Calls Try.prog 18 #[x] w (Gives w (RfV (pneg P))) := by
  obtain ⟨X1, Y1, Z1, h1, rfl⟩ := hx
  have RR1 := Lib.hid h1
  clear h1
  unfold rpS
  go_enter Try.func18, Try.ntmps18
  go_upto_region 0 with fail
  refine wp_region_list ?_
  refine wpList_run rfl (exec_box rfl rfl) ?_
  refine wpList_run rfl (exec_alloc_rp rfl) ?_
  refine wpList_nil ?_
  simp only [Act.put, List.setIfInBounds_toArray, List.set_cons_zero, List.set_cons_succ]
  obtain ⟨w1, g1, g2, hW, eg1, eg2, b1, b2, ht, hb1, hb2, ne1_2⟩ := start2 w 33 #[.string (toS (X1)), .string (toS (Y1)), .string (toS (Z1))] 33 #[.string ⟨#[]⟩, .string ⟨#[]⟩, .string ⟨#[]⟩]
  rw [← hW]
  rw [← eg2]
  rw [← eg1]
  have HT := Lib.hid ht
  have B1 := Lib.hid b1
  have HB1 := Lib.hid hb1
  have B2 := Lib.hid b2
  have HB2 := Lib.hid hb2
  have NE1_2 := Lib.hid ne1_2
  clear hW eg1 eg2 b1 b2 ht hb1 hb2 ne1_2
  go_upto_region 1 with fail
  refine wp_region_flowX (lookW [(1, pu (isP (g1))), (3, pu (isV (.pointer (some ⟨g1, 0, none⟩)))), (4, pu (isS (toS (X1)))), (5, pu (isS (toS (negF (X1))))), (6, pu (isV (.pointer (some ⟨g1, 1, none⟩)))), (7, pu (isS (toS (Y1)))), (8, pu (isV (.pointer (some ⟨g1, 2, none⟩)))), (9, pu (isS (toS (Z1)))), (10, pu (isV (rpS (toS (negF (X1))) (toS (Y1)) (toS (Z1)))))]) (by kernel_rfl) 8 [] (fun d _ _ _ _ h => by cases d <;> exact h) (by intro l hl; cases hl) [1] [3, 4, 5, 6, 7, 8, 9, 10] [10] [] (by kernel_rfl) (by kernel_rfl) (by kernel_rfl) (by kernel_rfl) (by kernel_rfl) (by kernel_rfl) ⟨rfl, trivial⟩ ?_ ?_
  · refine FStepsX.cons rfl (FStepW.plain rfl fun a w hS hE => OpTo.pureG (v := .pointer (some ⟨g1, 0, none⟩)) 3 rfl (by have h1 : a.eval (.tmp 1) = .pointer (some ⟨g1, 0, none⟩) := hE 1 (by kernel_rfl); unfold execOp; simp only [h1]; go_simp) rfl) ?_
    refine FStepsX.cons rfl (FStepW.plain rfl fun a w hS hE => OpTo.pureG (v := .string (toS (X1))) 4 rfl (by have h3 : a.eval (.tmp 3) = .pointer (some ⟨g1, 0, none⟩) := hE 3 (by kernel_rfl); have hcell : w.cell? ⟨g1, 0, none⟩ = some (.string (toS (X1))) := (fun W hW => Blk.cell_at (B1.out.touch hW notin_nil) 0 rfl) w hS; unfold execOp; simp only [h3]; go_simp) rfl) ?_
    refine FStepsX.cons rfl (FStepW.plain rfl fun a w hS hE => OpTo.call #[a.tmps.getD 4 undef] rfl Try.func45 (by kernel_rfl) (by kernel_rfl) (args1 ..) ((rneg_v (hE 4 (by kernel_rfl)) RR1.out.lx w).mono fun _ _ h => Gives.toW 5 rfl (fun _ _ h => h) h)) ?_
    refine FStepsX.cons rfl (FStepW.plain rfl fun a w hS hE => OpTo.pureG (v := .pointer (some ⟨g1, 1, none⟩)) 6 rfl (by have h1 : a.eval (.tmp 1) = .pointer (some ⟨g1, 0, none⟩) := hE 1 (by kernel_rfl); unfold execOp; simp only [h1]; go_simp) rfl) ?_
    refine FStepsX.cons rfl (FStepW.plain rfl fun a w hS hE => OpTo.pureG (v := .string (toS (Y1))) 7 rfl (by have h6 : a.eval (.tmp 6) = .pointer (some ⟨g1, 1, none⟩) := hE 6 (by kernel_rfl); have hcell : w.cell? ⟨g1, 1, none⟩ = some (.string (toS (Y1))) := (fun W hW => Blk.cell_at (B1.out.touch hW notin_nil) 1 rfl) w hS; unfold execOp; simp only [h6]; go_simp) rfl) ?_
    refine FStepsX.cons rfl (FStepW.plain rfl fun a w hS hE => OpTo.pureG (v := .pointer (some ⟨g1, 2, none⟩)) 8 rfl (by have h1 : a.eval (.tmp 1) = .pointer (some ⟨g1, 0, none⟩) := hE 1 (by kernel_rfl); unfold execOp; simp only [h1]; go_simp) rfl) ?_
    refine FStepsX.cons rfl (FStepW.plain rfl fun a w hS hE => OpTo.pureG (v := .string (toS (Z1))) 9 rfl (by have h8 : a.eval (.tmp 8) = .pointer (some ⟨g1, 2, none⟩) := hE 8 (by kernel_rfl); have hcell : w.cell? ⟨g1, 2, none⟩ = some (.string (toS (Z1))) := (fun W hW => Blk.cell_at (B1.out.touch hW notin_nil) 2 rfl) w hS; unfold execOp; simp only [h8]; go_simp) rfl) ?_
    refine FStepsX.cons rfl (FStepW.plain rfl fun a w hS hE => OpTo.bldR 10 _ _ _ rfl rfl (hE 5 (by kernel_rfl)) (hE 7 (by kernel_rfl)) (hE 9 (by kernel_rfl)) rfl) ?_
    exact FStepsX.nil
  intro f w2 hS hF hA
  obtain ⟨h10, -⟩ := hF
  have e10 : f 10 = rpS (toS (negF (X1))) (toS (Y1)) (toS (Z1)) := h10
  clear h10
  clear hA
  replace B1 := Lib.hid (B1.out.touch hS notin_nil)
  replace B2 := Lib.hid (B2.out.touch hS notin_nil)
  replace HT := Lib.hid (HT.out.trans hS)
  clear hS
  simp only [setAll, List.setIfInBounds_toArray, List.set_cons_zero, List.set_cons_succ, e10]
  show wpList _ _ _ [_] _ _
  refine wpList_store_row rfl 33 (.tmp 2) (.tmp 10) rfl g2 #[.string (toS (negF (X1))), .string (toS (Y1)), .string (toS (Z1))] rfl rfl 33 #[.string ⟨#[]⟩, .string ⟨#[]⟩, .string ⟨#[]⟩] B2.out infoR rfl (rp_one ..) ?_
  refine wpList_nil ?_
  simp only [Act.put]
  have B1' := (B1.out.frow NE1_2.out #[.string (toS (negF (X1))), .string (toS (Y1)), .string (toS (Z1))])
  have B2' := (B2.out.setRow #[.string (toS (negF (X1))), .string (toS (Y1)), .string (toS (Z1))])
  have HT' := (HT.out.setRowE (.inr HB2.out) #[.string (toS (negF (X1))), .string (toS (Y1)), .string (toS (Z1))])
  obtain ⟨w3, hw3⟩ : ∃ w3, w3 = (w2.setRow g2 #[.string (toS (negF (X1))), .string (toS (Y1)), .string (toS (Z1))]) := ⟨_, rfl⟩
  rw [← hw3] at HT' B1' B2'
  rw [← hw3]
  clear hw3 HT B1 B2
  have B1 := Lib.hid B1'
  clear B1'
  have B2 := Lib.hid B2'
  clear B2'
  have HT := Lib.hid HT'
  clear HT'
  clear e10
  go_wp2_with fail
  exact rp_ret Try.results18 rfl 33 B2.out HT.out ⟨_, _, _, rrep_neg RR1.out, rfl⟩
set_option maxRecDepth 100000 in
set_option maxHeartbeats 4000000 in
theorem rpsame_v {P Q : Pt} {x y : Value} (hx : RfV P x) (hy : RfV Q y) (w : World) : Calls Try.prog 20 #[x, y] w (Gives w (isB (samePt P Q))) := by
  obtain ⟨X2, Y2, Z2, h2, rfl⟩ := hx
  have RR2 := Lib.hid h2
  clear h2
  obtain ⟨X3, Y3, Z3, h3, rfl⟩ := hy
  have RR3 := Lib.hid h3
  clear h3
  unfold rpS
  go_enter Try.func20, Try.ntmps20
  go_upto_region 0 with fail
  refine wp_region_list ?_
  refine wpList_run rfl (exec_box rfl rfl) ?_
  refine wpList_run rfl (exec_box rfl rfl) ?_
  refine wpList_run (v := .bool false) rfl (exec_assignV rfl rfl) ?_
  refine wpList_nil ?_
  simp only [Act.put, List.setIfInBounds_toArray, List.set_cons_zero, List.set_cons_succ]
  obtain ⟨w1, g2, g3, hW, eg2, eg3, b2, b3, ht, hb2, hb3, ne2_3⟩ := start2 w 33 #[.string (toS (X2)), .string (toS (Y2)), .string (toS (Z2))] 33 #[.string (toS (X3)), .string (toS (Y3)), .string (toS (Z3))]
  rw [← hW]
  rw [← eg3]
  rw [← eg2]
  have HT := Lib.hid ht
  have B2 := Lib.hid b2
  have HB2 := Lib.hid hb2
  have B3 := Lib.hid b3
  have HB3 := Lib.hid hb3
  have NE2_3 := Lib.hid ne2_3
  clear hW eg2 eg3 b2 b3 ht hb2 hb3 ne2_3
  go_upto_region 1 with fail
  by_cases hxx : mulF X2 Z3 = mulF X3 Z2
  · skip
    have K15 := Lib.hid ((toS_beq (mulF_lt X2 Z3) (mulF_lt X3 Z2)).trans (decide_eq_true hxx))
    have K27 := Lib.hid (toS_beq (mulF_lt Y2 Z3) (mulF_lt Y3 Z2))
    refine wp_region_flowX (lookW [(2, pu (isP (g2))), (3, pu (isP (g3))), (5, pu (isV (.pointer (some ⟨g2, 0, none⟩)))), (6, pu (isS (toS (X2)))), (7, pu (isV (.pointer (some ⟨g3, 2, none⟩)))), (8, pu (isS (toS (Z3)))), (9, pu (isS (toS (mulF (X2) (Z3))))), (10, pu (isV (.pointer (some ⟨g3, 0, none⟩)))), (11, pu (isS (toS (X3)))), (12, pu (isV (.pointer (some ⟨g2, 2, none⟩)))), (13, pu (isS (toS (Z2)))), (14, pu (isS (toS (mulF (X3) (Z2))))), (15, pu (isB true)), (16, pu (isB true)), (17, pu (isV (.pointer (some ⟨g2, 1, none⟩)))), (18, pu (isS (toS (Y2)))), (19, pu (isV (.pointer (some ⟨g3, 2, none⟩)))), (20, pu (isS (toS (Z3)))), (21, pu (isS (toS (mulF (Y2) (Z3))))), (22, pu (isV (.pointer (some ⟨g3, 1, none⟩)))), (23, pu (isS (toS (Y3)))), (24, pu (isV (.pointer (some ⟨g2, 2, none⟩)))), (25, pu (isS (toS (Z2)))), (26, pu (isS (toS (mulF (Y3) (Z2))))), (27, pu (isB (decide (mulF Y2 Z3 = mulF Y3 Z2)))), (28, pu (isB (decide (mulF Y2 Z3 = mulF Y3 Z2))))]) (by kernel_rfl) 24 [] (fun d _ _ _ _ h => by cases d <;> exact h) (by intro l hl; cases hl) [2, 3] [5, 6, 7, 8, 9, 10, 11, 12, 13, 14, 15, 16, 17, 18, 19, 20, 21, 22, 23, 24, 25, 26, 27, 28] [28] [] (by kernel_rfl) (by kernel_rfl) (by kernel_rfl) (by kernel_rfl) (by kernel_rfl) (by kernel_rfl) ⟨rfl, rfl, trivial⟩ ?_ ?_
    · refine FStepsX.cons rfl (FStepW.plain rfl fun a w hS hE => OpTo.pureG (v := .pointer (some ⟨g2, 0, none⟩)) 5 rfl (by have h2 : a.eval (.tmp 2) = .pointer (some ⟨g2, 0, none⟩) := hE 2 (by kernel_rfl); unfold execOp; simp only [h2]; go_simp) rfl) ?_
      refine FStepsX.cons rfl (FStepW.plain rfl fun a w hS hE => OpTo.pureG (v := .string (toS (X2))) 6 rfl (by have h5 : a.eval (.tmp 5) = .pointer (some ⟨g2, 0, none⟩) := hE 5 (by kernel_rfl); have hcell : w.cell? ⟨g2, 0, none⟩ = some (.string (toS (X2))) := (fun W hW => Blk.cell_at (B2.out.touch hW notin_nil) 0 rfl) w hS; unfold execOp; simp only [h5]; go_simp) rfl) ?_
      refine FStepsX.cons rfl (FStepW.plain rfl fun a w hS hE => OpTo.pureG (v := .pointer (some ⟨g3, 2, none⟩)) 7 rfl (by have h3 : a.eval (.tmp 3) = .pointer (some ⟨g3, 0, none⟩) := hE 3 (by kernel_rfl); unfold execOp; simp only [h3]; go_simp) rfl) ?_
      refine FStepsX.cons rfl (FStepW.plain rfl fun a w hS hE => OpTo.pureG (v := .string (toS (Z3))) 8 rfl (by have h7 : a.eval (.tmp 7) = .pointer (some ⟨g3, 2, none⟩) := hE 7 (by kernel_rfl); have hcell : w.cell? ⟨g3, 2, none⟩ = some (.string (toS (Z3))) := (fun W hW => Blk.cell_at (B3.out.touch hW notin_nil) 2 rfl) w hS; unfold execOp; simp only [h7]; go_simp) rfl) ?_
      refine FStepsX.cons rfl (FStepW.plain rfl fun a w hS hE => OpTo.call #[a.tmps.getD 6 undef, a.tmps.getD 8 undef] rfl Try.func38 (by kernel_rfl) (by kernel_rfl) (args2 ..) ((rmul_v (hE 6 (by kernel_rfl)) (hE 8 (by kernel_rfl)) RR2.out.lx RR3.out.lz w).mono fun _ _ h => Gives.toW 9 rfl (fun _ _ h => h) h)) ?_
      refine FStepsX.cons rfl (FStepW.plain rfl fun a w hS hE => OpTo.pureG (v := .pointer (some ⟨g3, 0, none⟩)) 10 rfl (by have h3 : a.eval (.tmp 3) = .pointer (some ⟨g3, 0, none⟩) := hE 3 (by kernel_rfl); unfold execOp; simp only [h3]; go_simp) rfl) ?_
      refine FStepsX.cons rfl (FStepW.plain rfl fun a w hS hE => OpTo.pureG (v := .string (toS (X3))) 11 rfl (by have h10 : a.eval (.tmp 10) = .pointer (some ⟨g3, 0, none⟩) := hE 10 (by kernel_rfl); have hcell : w.cell? ⟨g3, 0, none⟩ = some (.string (toS (X3))) := (fun W hW => Blk.cell_at (B3.out.touch hW notin_nil) 0 rfl) w hS; unfold execOp; simp only [h10]; go_simp) rfl) ?_
      refine FStepsX.cons rfl (FStepW.plain rfl fun a w hS hE => OpTo.pureG (v := .pointer (some ⟨g2, 2, none⟩)) 12 rfl (by have h2 : a.eval (.tmp 2) = .pointer (some ⟨g2, 0, none⟩) := hE 2 (by kernel_rfl); unfold execOp; simp only [h2]; go_simp) rfl) ?_
      refine FStepsX.cons rfl (FStepW.plain rfl fun a w hS hE => OpTo.pureG (v := .string (toS (Z2))) 13 rfl (by have h12 : a.eval (.tmp 12) = .pointer (some ⟨g2, 2, none⟩) := hE 12 (by kernel_rfl); have hcell : w.cell? ⟨g2, 2, none⟩ = some (.string (toS (Z2))) := (fun W hW => Blk.cell_at (B2.out.touch hW notin_nil) 2 rfl) w hS; unfold execOp; simp only [h12]; go_simp) rfl) ?_
      refine FStepsX.cons rfl (FStepW.plain rfl fun a w hS hE => OpTo.call #[a.tmps.getD 11 undef, a.tmps.getD 13 undef] rfl Try.func38 (by kernel_rfl) (by kernel_rfl) (args2 ..) ((rmul_v (hE 11 (by kernel_rfl)) (hE 13 (by kernel_rfl)) RR3.out.lx RR2.out.lz w).mono fun _ _ h => Gives.toW 14 rfl (fun _ _ h => h) h)) ?_
      refine FStepsX.cons rfl (FStepW.plain rfl fun a w hS hE => OpTo.eqS (toS (mulF (X2) (Z3))) (toS (mulF (X3) (Z2))) rfl (hE 9 (by kernel_rfl)) (hE 14 (by kernel_rfl)) ⟨dOfW.of 15 rfl (by rw [K15.out]; rfl), Touch.refl _ _⟩) ?_
      refine FStepsX.cons rfl (FStepW.plain rfl fun a w hS hE => OpTo.move rfl ⟨dOfW.of 16 rfl (hE 15 (by kernel_rfl)), Touch.refl _ _⟩) ?_
      refine FStepsX.cons rfl (FStepW.go 16 rfl rfl (fun _ _ h => h) fun a w hS hE => OpTo.pureG (v := .pointer (some ⟨g2, 1, none⟩)) 17 rfl (by have h2 : a.eval (.tmp 2) = .pointer (some ⟨g2, 0, none⟩) := hE 2 (by kernel_rfl); unfold execOp; simp only [h2]; go_simp) rfl) ?_
      refine FStepsX.cons rfl (FStepW.go 16 rfl rfl (fun _ _ h => h) fun a w hS hE => OpTo.pureG (v := .string (toS (Y2))) 18 rfl (by have h17 : a.eval (.tmp 17) = .pointer (some ⟨g2, 1, none⟩) := hE 17 (by kernel_rfl); have hcell : w.cell? ⟨g2, 1, none⟩ = some (.string (toS (Y2))) := (fun W hW => Blk.cell_at (B2.out.touch hW notin_nil) 1 rfl) w hS; unfold execOp; simp only [h17]; go_simp) rfl) ?_
      refine FStepsX.cons rfl (FStepW.go 16 rfl rfl (fun _ _ h => h) fun a w hS hE => OpTo.pureG (v := .pointer (some ⟨g3, 2, none⟩)) 19 rfl (by have h3 : a.eval (.tmp 3) = .pointer (some ⟨g3, 0, none⟩) := hE 3 (by kernel_rfl); unfold execOp; simp only [h3]; go_simp) rfl) ?_
      refine FStepsX.cons rfl (FStepW.go 16 rfl rfl (fun _ _ h => h) fun a w hS hE => OpTo.pureG (v := .string (toS (Z3))) 20 rfl (by have h19 : a.eval (.tmp 19) = .pointer (some ⟨g3, 2, none⟩) := hE 19 (by kernel_rfl); have hcell : w.cell? ⟨g3, 2, none⟩ = some (.string (toS (Z3))) := (fun W hW => Blk.cell_at (B3.out.touch hW notin_nil) 2 rfl) w hS; unfold execOp; simp only [h19]; go_simp) rfl) ?_
      refine FStepsX.cons rfl (FStepW.go 16 rfl rfl (fun _ _ h => h) fun a w hS hE => OpTo.call #[a.tmps.getD 18 undef, a.tmps.getD 20 undef] rfl Try.func38 (by kernel_rfl) (by kernel_rfl) (args2 ..) ((rmul_v (hE 18 (by kernel_rfl)) (hE 20 (by kernel_rfl)) RR2.out.ly RR3.out.lz w).mono fun _ _ h => Gives.toW 21 rfl (fun _ _ h => h) h)) ?_
      refine FStepsX.cons rfl (FStepW.go 16 rfl rfl (fun _ _ h => h) fun a w hS hE => OpTo.pureG (v := .pointer (some ⟨g3, 1, none⟩)) 22 rfl (by have h3 : a.eval (.tmp 3) = .pointer (some ⟨g3, 0, none⟩) := hE 3 (by kernel_rfl); unfold execOp; simp only [h3]; go_simp) rfl) ?_
      refine FStepsX.cons rfl (FStepW.go 16 rfl rfl (fun _ _ h => h) fun a w hS hE => OpTo.pureG (v := .string (toS (Y3))) 23 rfl (by have h22 : a.eval (.tmp 22) = .pointer (some ⟨g3, 1, none⟩) := hE 22 (by kernel_rfl); have hcell : w.cell? ⟨g3, 1, none⟩ = some (.string (toS (Y3))) := (fun W hW => Blk.cell_at (B3.out.touch hW notin_nil) 1 rfl) w hS; unfold execOp; simp only [h22]; go_simp) rfl) ?_
      refine FStepsX.cons rfl (FStepW.go 16 rfl rfl (fun _ _ h => h) fun a w hS hE => OpTo.pureG (v := .pointer (some ⟨g2, 2, none⟩)) 24 rfl (by have h2 : a.eval (.tmp 2) = .pointer (some ⟨g2, 0, none⟩) := hE 2 (by kernel_rfl); unfold execOp; simp only [h2]; go_simp) rfl) ?_
      refine FStepsX.cons rfl (FStepW.go 16 rfl rfl (fun _ _ h => h) fun a w hS hE => OpTo.pureG (v := .string (toS (Z2))) 25 rfl (by have h24 : a.eval (.tmp 24) = .pointer (some ⟨g2, 2, none⟩) := hE 24 (by kernel_rfl); have hcell : w.cell? ⟨g2, 2, none⟩ = some (.string (toS (Z2))) := (fun W hW => Blk.cell_at (B2.out.touch hW notin_nil) 2 rfl) w hS; unfold execOp; simp only [h24]; go_simp) rfl) ?_
      refine FStepsX.cons rfl (FStepW.go 16 rfl rfl (fun _ _ h => h) fun a w hS hE => OpTo.call #[a.tmps.getD 23 undef, a.tmps.getD 25 undef] rfl Try.func38 (by kernel_rfl) (by kernel_rfl) (args2 ..) ((rmul_v (hE 23 (by kernel_rfl)) (hE 25 (by kernel_rfl)) RR3.out.ly RR2.out.lz w).mono fun _ _ h => Gives.toW 26 rfl (fun _ _ h => h) h)) ?_
      refine FStepsX.cons rfl (FStepW.go 16 rfl rfl (fun _ _ h => h) fun a w hS hE => OpTo.eqS (toS (mulF (Y2) (Z3))) (toS (mulF (Y3) (Z2))) rfl (hE 21 (by kernel_rfl)) (hE 26 (by kernel_rfl)) ⟨dOfW.of 27 rfl (by rw [K27.out]; rfl), Touch.refl _ _⟩) ?_
      refine FStepsX.cons rfl (FStepW.plain rfl fun a w hS hE => OpTo.pick true rfl (hE 16 (by kernel_rfl)) ⟨dOfW.of 28 rfl (hE 27 (by kernel_rfl)), Touch.refl _ _⟩) ?_
      exact FStepsX.nil
    intro f w2 hS hF hA
    obtain ⟨h28, -⟩ := hF
    have e28 : f 28 = .bool (decide (mulF Y2 Z3 = mulF Y3 Z2)) := h28
    clear h28
    clear hA
    replace B2 := Lib.hid (B2.out.touch hS notin_nil)
    replace B3 := Lib.hid (B3.out.touch hS notin_nil)
    replace HT := Lib.hid (HT.out.trans hS)
    clear hS
    simp only [setAll, List.setIfInBounds_toArray, List.set_cons_zero, List.set_cons_succ, e28]
    show wpList _ _ _ [_] _ _
    refine wpList_run (v := .bool (decide (mulF Y2 Z3 = mulF Y3 Z2))) rfl (exec_assignV rfl rfl) ?_
    refine wpList_nil ?_
    simp only [Act.put, List.setIfInBounds_toArray, List.set_cons_zero, List.set_cons_succ]
    clear e28
    go_wp2_with fail
    go_ret
    refine ⟨_, rfl, ?_, HT.out⟩
    unfold isB samePt
    rw [decide_eq_true ((rrep_same_x RR2.out RR3.out).1 hxx), Bool.true_and]
    exact congrArg Value.bool (decide_eq_decide.2 (rrep_same_y RR2.out RR3.out))
  · skip
    have K15 := Lib.hid ((toS_beq (mulF_lt X2 Z3) (mulF_lt X3 Z2)).trans (decide_eq_false hxx))
    have K27 := Lib.hid (toS_beq (mulF_lt Y2 Z3) (mulF_lt Y3 Z2))
    refine wp_region_flowX (lookW [(2, pu (isP (g2))), (3, pu (isP (g3))), (5, pu (isV (.pointer (some ⟨g2, 0, none⟩)))), (6, pu (isS (toS (X2)))), (7, pu (isV (.pointer (some ⟨g3, 2, none⟩)))), (8, pu (isS (toS (Z3)))), (9, pu (isS (toS (mulF (X2) (Z3))))), (10, pu (isV (.pointer (some ⟨g3, 0, none⟩)))), (11, pu (isS (toS (X3)))), (12, pu (isV (.pointer (some ⟨g2, 2, none⟩)))), (13, pu (isS (toS (Z2)))), (14, pu (isS (toS (mulF (X3) (Z2))))), (15, pu (isB false)), (16, pu (isB false)), (17, pu (isU)), (18, pu (isU)), (19, pu (isU)), (20, pu (isU)), (21, pu (isU)), (22, pu (isU)), (23, pu (isU)), (24, pu (isU)), (25, pu (isU)), (26, pu (isU)), (27, pu (isU)), (28, pu (isB false))]) (by kernel_rfl) 24 [] (fun d _ _ _ _ h => by cases d <;> exact h) (by intro l hl; cases hl) [2, 3] [5, 6, 7, 8, 9, 10, 11, 12, 13, 14, 15, 16, 17, 18, 19, 20, 21, 22, 23, 24, 25, 26, 27, 28] [28] [] (by kernel_rfl) (by kernel_rfl) (by kernel_rfl) (by kernel_rfl) (by kernel_rfl) (by kernel_rfl) ⟨rfl, rfl, trivial⟩ ?_ ?_
    · refine FStepsX.cons rfl (FStepW.plain rfl fun a w hS hE => OpTo.pureG (v := .pointer (some ⟨g2, 0, none⟩)) 5 rfl (by have h2 : a.eval (.tmp 2) = .pointer (some ⟨g2, 0, none⟩) := hE 2 (by kernel_rfl); unfold execOp; simp only [h2]; go_simp) rfl) ?_
      refine FStepsX.cons rfl (FStepW.plain rfl fun a w hS hE => OpTo.pureG (v := .string (toS (X2))) 6 rfl (by have h5 : a.eval (.tmp 5) = .pointer (some ⟨g2, 0, none⟩) := hE 5 (by kernel_rfl); have hcell : w.cell? ⟨g2, 0, none⟩ = some (.string (toS (X2))) := (fun W hW => Blk.cell_at (B2.out.touch hW notin_nil) 0 rfl) w hS; unfold execOp; simp only [h5]; go_simp) rfl) ?_
      refine FStepsX.cons rfl (FStepW.plain rfl fun a w hS hE => OpTo.pureG (v := .pointer (some ⟨g3, 2, none⟩)) 7 rfl (by have h3 : a.eval (.tmp 3) = .pointer (some ⟨g3, 0, none⟩) := hE 3 (by kernel_rfl); unfold execOp; simp only [h3]; go_simp) rfl) ?_
      refine FStepsX.cons rfl (FStepW.plain rfl fun a w hS hE => OpTo.pureG (v := .string (toS (Z3))) 8 rfl (by have h7 : a.eval (.tmp 7) = .pointer (some ⟨g3, 2, none⟩) := hE 7 (by kernel_rfl); have hcell : w.cell? ⟨g3, 2, none⟩ = some (.string (toS (Z3))) := (fun W hW => Blk.cell_at (B3.out.touch hW notin_nil) 2 rfl) w hS; unfold execOp; simp only [h7]; go_simp) rfl) ?_
      refine FStepsX.cons rfl (FStepW.plain rfl fun a w hS hE => OpTo.call #[a.tmps.getD 6 undef, a.tmps.getD 8 undef] rfl Try.func38 (by kernel_rfl) (by kernel_rfl) (args2 ..) ((rmul_v (hE 6 (by kernel_rfl)) (hE 8 (by kernel_rfl)) RR2.out.lx RR3.out.lz w).mono fun _ _ h => Gives.toW 9 rfl (fun _ _ h => h) h)) ?_
      refine FStepsX.cons rfl (FStepW.plain rfl fun a w hS hE => OpTo.pureG (v := .pointer (some ⟨g3, 0, none⟩)) 10 rfl (by have h3 : a.eval (.tmp 3) = .pointer (some ⟨g3, 0, none⟩) := hE 3 (by kernel_rfl); unfold execOp; simp only [h3]; go_simp) rfl) ?_
      refine FStepsX.cons rfl (FStepW.plain rfl fun a w hS hE => OpTo.pureG (v := .string (toS (X3))) 11 rfl (by have h10 : a.eval (.tmp 10) = .pointer (some ⟨g3, 0, none⟩) := hE 10 (by kernel_rfl); have hcell : w.cell? ⟨g3, 0, none⟩ = some (.string (toS (X3))) := (fun W hW => Blk.cell_at (B3.out.touch hW notin_nil) 0 rfl) w hS; unfold execOp; simp only [h10]; go_simp) rfl) ?_
      refine FStepsX.cons rfl (FStepW.plain rfl fun a w hS hE => OpTo.pureG (v := .pointer (some ⟨g2, 2, none⟩)) 12 rfl (by have h2 : a.eval (.tmp 2) = .pointer (some ⟨g2, 0, none⟩) := hE 2 (by kernel_rfl); unfold execOp; simp only [h2]; go_simp) rfl) ?_
      refine FStepsX.cons rfl (FStepW.plain rfl fun a w hS hE => OpTo.pureG (v := .string (toS (Z2))) 13 rfl (by have h12 : a.eval (.tmp 12) = .pointer (some ⟨g2, 2, none⟩) := hE 12 (by kernel_rfl); have hcell : w.cell? ⟨g2, 2, none⟩ = some (.string (toS (Z2))) := (fun W hW => Blk.cell_at (B2.out.touch hW notin_nil) 2 rfl) w hS; unfold execOp; simp only [h12]; go_simp) rfl) ?_
      refine FStepsX.cons rfl (FStepW.plain rfl fun a w hS hE => OpTo.call #[a.tmps.getD 11 undef, a.tmps.getD 13 undef] rfl Try.func38 (by kernel_rfl) (by kernel_rfl) (args2 ..) ((rmul_v (hE 11 (by kernel_rfl)) (hE 13 (by kernel_rfl)) RR3.out.lx RR2.out.lz w).mono fun _ _ h => Gives.toW 14 rfl (fun _ _ h => h) h)) ?_
      refine FStepsX.cons rfl (FStepW.plain rfl fun a w hS hE => OpTo.eqS (toS (mulF (X2) (Z3))) (toS (mulF (X3) (Z2))) rfl (hE 9 (by kernel_rfl)) (hE 14 (by kernel_rfl)) ⟨dOfW.of 15 rfl (by rw [K15.out]; rfl), Touch.refl _ _⟩) ?_
      refine FStepsX.cons rfl (FStepW.plain rfl fun a w hS hE => OpTo.move rfl ⟨dOfW.of 16 rfl (hE 15 (by kernel_rfl)), Touch.refl _ _⟩) ?_
      refine FStepsX.cons rfl (FStepW.no 16 rfl rfl (fun _ _ h => h) (fun _ => dOfW.of 17 rfl rfl)) ?_
      refine FStepsX.cons rfl (FStepW.no 16 rfl rfl (fun _ _ h => h) (fun _ => dOfW.of 18 rfl rfl)) ?_
      refine FStepsX.cons rfl (FStepW.no 16 rfl rfl (fun _ _ h => h) (fun _ => dOfW.of 19 rfl rfl)) ?_
      refine FStepsX.cons rfl (FStepW.no 16 rfl rfl (fun _ _ h => h) (fun _ => dOfW.of 20 rfl rfl)) ?_
      refine FStepsX.cons rfl (FStepW.no 16 rfl rfl (fun _ _ h => h) (fun _ => dOfW.of 21 rfl rfl)) ?_
      refine FStepsX.cons rfl (FStepW.no 16 rfl rfl (fun _ _ h => h) (fun _ => dOfW.of 22 rfl rfl)) ?_
      refine FStepsX.cons rfl (FStepW.no 16 rfl rfl (fun _ _ h => h) (fun _ => dOfW.of 23 rfl rfl)) ?_
      refine FStepsX.cons rfl (FStepW.no 16 rfl rfl (fun _ _ h => h) (fun _ => dOfW.of 24 rfl rfl)) ?_
      refine FStepsX.cons rfl (FStepW.no 16 rfl rfl (fun _ _ h => h) (fun _ => dOfW.of 25 rfl rfl)) ?_
      refine FStepsX.cons rfl (FStepW.no 16 rfl rfl (fun _ _ h => h) (fun _ => dOfW.of 26 rfl rfl)) ?_
      refine FStepsX.cons rfl (FStepW.no 16 rfl rfl (fun _ _ h => h) (fun _ => dOfW.of 27 rfl rfl)) ?_
      refine FStepsX.cons rfl (FStepW.plain rfl fun a w hS hE => OpTo.pick false rfl (hE 16 (by kernel_rfl)) ⟨dOfW.of 28 rfl (Eq.refl (Value.bool false)), Touch.refl _ _⟩) ?_
      exact FStepsX.nil
    intro f w2 hS hF hA
    obtain ⟨h28, -⟩ := hF
    have e28 : f 28 = .bool false := h28
    clear h28
    clear hA
    replace B2 := Lib.hid (B2.out.touch hS notin_nil)
    replace B3 := Lib.hid (B3.out.touch hS notin_nil)
    replace HT := Lib.hid (HT.out.trans hS)
    clear hS
    simp only [setAll, List.setIfInBounds_toArray, List.set_cons_zero, List.set_cons_succ, e28]
    show wpList _ _ _ [_] _ _
    refine wpList_run (v := .bool false) rfl (exec_assignV rfl rfl) ?_
    refine wpList_nil ?_
    simp only [Act.put, List.setIfInBounds_toArray, List.set_cons_zero, List.set_cons_succ]
    clear e28
    go_wp2_with fail
    go_ret
    refine ⟨_, rfl, ?_, HT.out⟩
    unfold isB samePt
    rw [decide_eq_false (fun h => hxx ((rrep_same_x RR2.out RR3.out).2 h)), Bool.false_and]
    rfl
set_option maxRecDepth 100000 in
set_option maxHeartbeats 4000000 in
theorem rpadd_v {P Q : Pt} {x y : Value} (hx : RfV P x) (hy : RfV Q y) (w : World) : Calls Try.prog 16 #[x, y] w (Gives w (RfV (padd P Q))) := by
  obtain ⟨X2, Y2, Z2, h2, rfl⟩ := hx
  have RR2 := Lib.hid h2
  clear h2
  obtain ⟨X3, Y3, Z3, h3, rfl⟩ := hy
  have RR3 := Lib.hid h3
  clear h3
  unfold rpS
  go_enter Try.func16, Try.ntmps16
  go_upto_region 0 with fail
  refine wp_region_list ?_
  refine wpList_run rfl (exec_box rfl rfl) ?_
  refine wpList_run rfl (exec_box rfl rfl) ?_
  refine wpList_run rfl (exec_alloc_rp rfl) ?_
  refine wpList_nil ?_
  simp only [Act.put, List.setIfInBounds_toArray, List.set_cons_zero, List.set_cons_succ]
  obtain ⟨w1, g2, g3, g4, hW, eg2, eg3, eg4, b2, b3, b4, ht, hb2, hb3, hb4, ne2_3, ne2_4, ne3_4⟩ := start3 w 33 #[.string (toS (X2)), .string (toS (Y2)), .string (toS (Z2))] 33 #[.string (toS (X3)), .string (toS (Y3)), .string (toS (Z3))] 33 #[.string ⟨#[]⟩, .string ⟨#[]⟩, .string ⟨#[]⟩]
  rw [← hW]
  rw [← eg4]
  rw [← eg3]
  rw [← eg2]
  have HT := Lib.hid ht
  have B2 := Lib.hid b2
  have HB2 := Lib.hid hb2
  have B3 := Lib.hid b3
  have HB3 := Lib.hid hb3
  have B4 := Lib.hid b4
  have HB4 := Lib.hid hb4
  have NE2_3 := Lib.hid ne2_3
  have NE2_4 := Lib.hid ne2_4
  have NE3_4 := Lib.hid ne3_4
  clear hW eg2 eg3 eg4 b2 b3 b4 ht hb2 hb3 hb4 ne2_3 ne2_4 ne3_4
  go_upto_region 1 with fail
  refine wp_region_list (wpList_flowP 6 (lookW [(2, pu (isP (g2))), (3, pu (isP (g3))), (5, pu (isS (toS (mulF (Z2) (Z3))))), (13, pu (isV (.pointer (some ⟨g2, 2, none⟩)))), (14, pu (isS (toS (Z2)))), (15, pu (isV (.pointer (some ⟨g3, 2, none⟩)))), (16, pu (isS (toS (Z3)))), (17, pu (isS (toS (mulF (Z2) (Z3)))))]) [2, 3] [13, 14, 15, 16, 17, 5] [5] (by kernel_rfl) (by kernel_rfl) (by kernel_rfl) ⟨rfl, rfl, trivial⟩ ?_ ?_)
  · refine FStepsW.cons (FStepW.plain rfl fun a w hS hE => OpTo.pureG (v := .pointer (some ⟨g2, 2, none⟩)) 13 rfl (by have h2 : a.eval (.tmp 2) = .pointer (some ⟨g2, 0, none⟩) := hE 2 (by kernel_rfl); unfold execOp; simp only [h2]; go_simp) rfl) ?_
    refine FStepsW.cons (FStepW.plain rfl fun a w hS hE => OpTo.pureG (v := .string (toS (Z2))) 14 rfl (by have h13 : a.eval (.tmp 13) = .pointer (some ⟨g2, 2, none⟩) := hE 13 (by kernel_rfl); have hcell : w.cell? ⟨g2, 2, none⟩ = some (.string (toS (Z2))) := (fun W hW => Blk.cell_at (B2.out.touch hW notin_nil) 2 rfl) w hS; unfold execOp; simp only [h13]; go_simp) rfl) ?_
    refine FStepsW.cons (FStepW.plain rfl fun a w hS hE => OpTo.pureG (v := .pointer (some ⟨g3, 2, none⟩)) 15 rfl (by have h3 : a.eval (.tmp 3) = .pointer (some ⟨g3, 0, none⟩) := hE 3 (by kernel_rfl); unfold execOp; simp only [h3]; go_simp) rfl) ?_
    refine FStepsW.cons (FStepW.plain rfl fun a w hS hE => OpTo.pureG (v := .string (toS (Z3))) 16 rfl (by have h15 : a.eval (.tmp 15) = .pointer (some ⟨g3, 2, none⟩) := hE 15 (by kernel_rfl); have hcell : w.cell? ⟨g3, 2, none⟩ = some (.string (toS (Z3))) := (fun W hW => Blk.cell_at (B3.out.touch hW notin_nil) 2 rfl) w hS; unfold execOp; simp only [h15]; go_simp) rfl) ?_
    refine FStepsW.cons (FStepW.plain rfl fun a w hS hE => OpTo.call #[a.tmps.getD 14 undef, a.tmps.getD 16 undef] rfl Try.func38 (by kernel_rfl) (by kernel_rfl) (args2 ..) ((rmul_v (hE 14 (by kernel_rfl)) (hE 16 (by kernel_rfl)) RR2.out.lz RR3.out.lz w).mono fun _ _ h => Gives.toW 17 rfl (fun _ _ h => h) h)) ?_
    refine FStepsW.cons (FStepW.plain rfl fun a w hS hE => OpTo.assign rfl ⟨dOfW.of 5 rfl (hE 17 (by kernel_rfl)), Touch.refl _ _⟩) ?_
    exact FStepsW.nil
  intro f w2 hS hF
  obtain ⟨h5, -⟩ := hF
  have e5 : f 5 = .string (toS (mulF (Z2) (Z3))) := h5
  clear h5
  replace B2 := Lib.hid (B2.out.touch hS notin_nil)
  replace B3 := Lib.hid (B3.out.touch hS notin_nil)
  replace B4 := Lib.hid (B4.out.touch hS notin_nil)
  replace HT := Lib.hid (HT.out.trans hS)
  clear hS
  simp only [setAll, List.setIfInBounds_toArray, List.set_cons_zero, List.set_cons_succ, e5]
  show wpList _ _ _ [] _ _
  refine wpList_nil ?_
  clear e5
  go_upto_region 2 with fail
  refine wp_region_flowX (lookW [(2, pu (isP (g2))), (3, pu (isP (g3))), (5, pu (isS (toS (mulF Z2 Z3)))), (6, pu (isS (toS (mulF (mulF Z2 Z3) (mulF Z2 Z3))))), (7, pu (isS (toS (mulF (X2) (X3))))), (8, pu (isS (toS (mulF (Y2) (Y3))))), (18, pu (isS (toS (mulF Z2 Z3)))), (19, pu (isS (toS (mulF Z2 Z3)))), (20, pu (isS (toS (mulF (mulF Z2 Z3) (mulF Z2 Z3))))), (21, pu (isV (.pointer (some ⟨g2, 0, none⟩)))), (22, pu (isS (toS (X2)))), (23, pu (isV (.pointer (some ⟨g3, 0, none⟩)))), (24, pu (isS (toS (X3)))), (25, pu (isS (toS (mulF (X2) (X3))))), (26, pu (isV (.pointer (some ⟨g2, 1, none⟩)))), (27, pu (isS (toS (Y2)))), (28, pu (isV (.pointer (some ⟨g3, 1, none⟩)))), (29, pu (isS (toS (Y3)))), (30, pu (isS (toS (mulF (Y2) (Y3)))))]) (by kernel_rfl) 16 [] (fun d _ _ _ _ h => by cases d <;> exact h) (by intro l hl; cases hl) [2, 3, 5] [18, 19, 20, 21, 22, 23, 24, 25, 26, 27, 28, 29, 30, 6, 7, 8] [6, 7, 8] [] (by kernel_rfl) (by kernel_rfl) (by kernel_rfl) (by kernel_rfl) (by kernel_rfl) (by kernel_rfl) ⟨rfl, rfl, rfl, trivial⟩ ?_ ?_
  · refine FStepsX.cons rfl (FStepW.plain rfl fun a w hS hE => OpTo.move rfl ⟨dOfW.of 18 rfl (hE 5 (by kernel_rfl)), Touch.refl _ _⟩) ?_
    refine FStepsX.cons rfl (FStepW.plain rfl fun a w hS hE => OpTo.move rfl ⟨dOfW.of 19 rfl (hE 5 (by kernel_rfl)), Touch.refl _ _⟩) ?_
    refine FStepsX.cons rfl (FStepW.plain rfl fun a w hS hE => OpTo.call #[a.tmps.getD 18 undef, a.tmps.getD 19 undef] rfl Try.func38 (by kernel_rfl) (by kernel_rfl) (args2 ..) ((rmul_v (hE 18 (by kernel_rfl)) (hE 19 (by kernel_rfl)) (mulF_lt ..) (mulF_lt ..) w).mono fun _ _ h => Gives.toW 20 rfl (fun _ _ h => h) h)) ?_
    refine FStepsX.cons rfl (FStepW.plain rfl fun a w hS hE => OpTo.pureG (v := .pointer (some ⟨g2, 0, none⟩)) 21 rfl (by have h2 : a.eval (.tmp 2) = .pointer (some ⟨g2, 0, none⟩) := hE 2 (by kernel_rfl); unfold execOp; simp only [h2]; go_simp) rfl) ?_
    refine FStepsX.cons rfl (FStepW.plain rfl fun a w hS hE => OpTo.pureG (v := .string (toS (X2))) 22 rfl (by have h21 : a.eval (.tmp 21) = .pointer (some ⟨g2, 0, none⟩) := hE 21 (by kernel_rfl); have hcell : w.cell? ⟨g2, 0, none⟩ = some (.string (toS (X2))) := (fun W hW => Blk.cell_at (B2.out.touch hW notin_nil) 0 rfl) w hS; unfold execOp; simp only [h21]; go_simp) rfl) ?_
    refine FStepsX.cons rfl (FStepW.plain rfl fun a w hS hE => OpTo.pureG (v := .pointer (some ⟨g3, 0, none⟩)) 23 rfl (by have h3 : a.eval (.tmp 3) = .pointer (some ⟨g3, 0, none⟩) := hE 3 (by kernel_rfl); unfold execOp; simp only [h3]; go_simp) rfl) ?_
    refine FStepsX.cons rfl (FStepW.plain rfl fun a w hS hE => OpTo.pureG (v := .string (toS (X3))) 24 rfl (by have h23 : a.eval (.tmp 23) = .pointer (some ⟨g3, 0, none⟩) := hE 23 (by kernel_rfl); have hcell : w.cell? ⟨g3, 0, none⟩ = some (.string (toS (X3))) := (fun W hW => Blk.cell_at (B3.out.touch hW notin_nil) 0 rfl) w hS; unfold execOp; simp only [h23]; go_simp) rfl) ?_
    refine FStepsX.cons rfl (FStepW.plain rfl fun a w hS hE => OpTo.call #[a.tmps.getD 22 undef, a.tmps.getD 24 undef] rfl Try.func38 (by kernel_rfl) (by kernel_rfl) (args2 ..) ((rmul_v (hE 22 (by kernel_rfl)) (hE 24 (by kernel_rfl)) RR2.out.lx RR3.out.lx w).mono fun _ _ h => Gives.toW 25 rfl (fun _ _ h => h) h)) ?_
    refine FStepsX.cons rfl (FStepW.plain rfl fun a w hS hE => OpTo.pureG (v := .pointer (some ⟨g2, 1, none⟩)) 26 rfl (by have h2 : a.eval (.tmp 2) = .pointer (some ⟨g2, 0, none⟩) := hE 2 (by kernel_rfl); unfold execOp; simp only [h2]; go_simp) rfl) ?_
    refine FStepsX.cons rfl (FStepW.plain rfl fun a w hS hE => OpTo.pureG (v := .string (toS (Y2))) 27 rfl (by have h26 : a.eval (.tmp 26) = .pointer (some ⟨g2, 1, none⟩) := hE 26 (by kernel_rfl); have hcell : w.cell? ⟨g2, 1, none⟩ = some (.string (toS (Y2))) := (fun W hW => Blk.cell_at (B2.out.touch hW notin_nil) 1 rfl) w hS; unfold execOp; simp only [h26]; go_simp) rfl) ?_
    refine FStepsX.cons rfl (FStepW.plain rfl fun a w hS hE => OpTo.pureG (v := .pointer (some ⟨g3, 1, none⟩)) 28 rfl (by have h3 : a.eval (.tmp 3) = .pointer (some ⟨g3, 0, none⟩) := hE 3 (by kernel_rfl); unfold execOp; simp only [h3]; go_simp) rfl) ?_
    refine FStepsX.cons rfl (FStepW.plain rfl fun a w hS hE => OpTo.pureG (v := .string (toS (Y3))) 29 rfl (by have h28 : a.eval (.tmp 28) = .pointer (some ⟨g3, 1, none⟩) := hE 28 (by kernel_rfl); have hcell : w.cell? ⟨g3, 1, none⟩ = some (.string (toS (Y3))) := (fun W hW => Blk.cell_at (B3.out.touch hW notin_nil) 1 rfl) w hS; unfold execOp; simp only [h28]; go_simp) rfl) ?_
    refine FStepsX.cons rfl (FStepW.plain rfl fun a w hS hE => OpTo.call #[a.tmps.getD 27 undef, a.tmps.getD 29 undef] rfl Try.func38 (by kernel_rfl) (by kernel_rfl) (args2 ..) ((rmul_v (hE 27 (by kernel_rfl)) (hE 29 (by kernel_rfl)) RR2.out.ly RR3.out.ly w).mono fun _ _ h => Gives.toW 30 rfl (fun _ _ h => h) h)) ?_
    refine FStepsX.cons rfl (FStepW.plain rfl fun a w hS hE => OpTo.assign rfl ⟨dOfW.of 6 rfl (hE 20 (by kernel_rfl)), Touch.refl _ _⟩) ?_
    refine FStepsX.cons rfl (FStepW.plain rfl fun a w hS hE => OpTo.assign rfl ⟨dOfW.of 7 rfl (hE 25 (by kernel_rfl)), Touch.refl _ _⟩) ?_
    refine FStepsX.cons rfl (FStepW.plain rfl fun a w hS hE => OpTo.assign rfl ⟨dOfW.of 8 rfl (hE 30 (by kernel_rfl)), Touch.refl _ _⟩) ?_
    exact FStepsX.nil
  intro f w3 hS hF hA
  obtain ⟨h6, h7, h8, -⟩ := hF
  have e6 : f 6 = .string (toS (mulF (mulF Z2 Z3) (mulF Z2 Z3))) := h6
  clear h6
  have e7 : f 7 = .string (toS (mulF (X2) (X3))) := h7
  clear h7
  have e8 : f 8 = .string (toS (mulF (Y2) (Y3))) := h8
  clear h8
  clear hA
  replace B2 := Lib.hid (B2.out.touch hS notin_nil)
  replace B3 := Lib.hid (B3.out.touch hS notin_nil)
  replace B4 := Lib.hid (B4.out.touch hS notin_nil)
  replace HT := Lib.hid (HT.out.trans hS)
  clear hS
  simp only [setAll, List.setIfInBounds_toArray, List.set_cons_zero, List.set_cons_succ, e6, e7, e8]
  show wpList _ _ _ [] _ _
  refine wpList_nil ?_
  clear e6 e7 e8
  go_upto_region 3 with fail
  refine wp_region_list (wpList_flowP 6 (lookW [(7, pu (isS (toS (mulF (X2) (X3))))), (8, pu (isS (toS (mulF (Y2) (Y3))))), (9, pu (isS (toS (mulF (DN) (mulF (mulF (X2) (X3)) (mulF (Y2) (Y3))))))), (31, pu (isS (toS (DN)))), (32, pu (isS (toS (mulF (X2) (X3))))), (33, pu (isS (toS (mulF (Y2) (Y3))))), (34, pu (isS (toS (mulF (mulF (X2) (X3)) (mulF (Y2) (Y3)))))), (35, pu (isS (toS (mulF (DN) (mulF (mulF (X2) (X3)) (mulF (Y2) (Y3)))))))]) [7, 8] [31, 32, 33, 34, 35, 9] [9] (by kernel_rfl) (by kernel_rfl) (by kernel_rfl) ⟨rfl, rfl, trivial⟩ ?_ ?_)
  · refine FStepsW.cons (FStepW.plain rfl fun a w hS hE => OpTo.call #[] rfl Try.func44 (by kernel_rfl) (by kernel_rfl) (args0 ..) ((rd_v w).mono fun _ _ h => Gives.toW 31 rfl (fun _ _ h => h) h)) ?_
    refine FStepsW.cons (FStepW.plain rfl fun a w hS hE => OpTo.move rfl ⟨dOfW.of 32 rfl (hE 7 (by kernel_rfl)), Touch.refl _ _⟩) ?_
    refine FStepsW.cons (FStepW.plain rfl fun a w hS hE => OpTo.move rfl ⟨dOfW.of 33 rfl (hE 8 (by kernel_rfl)), Touch.refl _ _⟩) ?_
    refine FStepsW.cons (FStepW.plain rfl fun a w hS hE => OpTo.call #[a.tmps.getD 32 undef, a.tmps.getD 33 undef] rfl Try.func38 (by kernel_rfl) (by kernel_rfl) (args2 ..) ((rmul_v (hE 32 (by kernel_rfl)) (hE 33 (by kernel_rfl)) (mulF_lt ..) (mulF_lt ..) w).mono fun _ _ h => Gives.toW 34 rfl (fun _ _ h => h) h)) ?_
    refine FStepsW.cons (FStepW.plain rfl fun a w hS hE => OpTo.call #[a.tmps.getD 31 undef, a.tmps.getD 34 undef] rfl Try.func38 (by kernel_rfl) (by kernel_rfl) (args2 ..) ((rmul_v (hE 31 (by kernel_rfl)) (hE 34 (by kernel_rfl)) DN_lt (mulF_lt ..) w).mono fun _ _ h => Gives.toW 35 rfl (fun _ _ h => h) h)) ?_
    refine FStepsW.cons (FStepW.plain rfl fun a w hS hE => OpTo.assign rfl ⟨dOfW.of 9 rfl (hE 35 (by kernel_rfl)), Touch.refl _ _⟩) ?_
    exact FStepsW.nil
  intro f w4 hS hF
  obtain ⟨h9, -⟩ := hF
  have e9 : f 9 = .string (toS (mulF (DN) (mulF (mulF (X2) (X3)) (mulF (Y2) (Y3))))) := h9
  clear h9
  replace B2 := Lib.hid (B2.out.touch hS notin_nil)
  replace B3 := Lib.hid (B3.out.touch hS notin_nil)
  replace B4 := Lib.hid (B4.out.touch hS notin_nil)
  replace HT := Lib.hid (HT.out.trans hS)
  clear hS
  simp only [setAll, List.setIfInBounds_toArray, List.set_cons_zero, List.set_cons_succ, e9]
  show wpList _ _ _ [] _ _
  refine wpList_nil ?_
  clear e9
  go_upto_region 4 with fail
  refine wp_region_list (wpList_flowP 8 (lookW [(6, pu (isS (toS (mulF (mulF Z2 Z3) (mulF Z2 Z3))))), (9, pu (isS (toS (mulF (DN) (mulF (mulF (X2) (X3)) (mulF (Y2) (Y3))))))), (10, pu (isS (toS (subF (mulF (mulF Z2 Z3) (mulF Z2 Z3)) (mulF (DN) (mulF (mulF (X2) (X3)) (mulF (Y2) (Y3)))))))), (11, pu (isS (toS (addF (mulF (mulF Z2 Z3) (mulF Z2 Z3)) (mulF (DN) (mulF (mulF (X2) (X3)) (mulF (Y2) (Y3)))))))), (36, pu (isS (toS (mulF (mulF Z2 Z3) (mulF Z2 Z3))))), (37, pu (isS (toS (mulF (DN) (mulF (mulF (X2) (X3)) (mulF (Y2) (Y3))))))), (38, pu (isS (toS (subF (mulF (mulF Z2 Z3) (mulF Z2 Z3)) (mulF (DN) (mulF (mulF (X2) (X3)) (mulF (Y2) (Y3)))))))), (39, pu (isS (toS (mulF (mulF Z2 Z3) (mulF Z2 Z3))))), (40, pu (isS (toS (mulF (DN) (mulF (mulF (X2) (X3)) (mulF (Y2) (Y3))))))), (41, pu (isS (toS (addF (mulF (mulF Z2 Z3) (mulF Z2 Z3)) (mulF (DN) (mulF (mulF (X2) (X3)) (mulF (Y2) (Y3))))))))]) [6, 9] [36, 37, 38, 39, 40, 41, 10, 11] [10, 11] (by kernel_rfl) (by kernel_rfl) (by kernel_rfl) ⟨rfl, rfl, trivial⟩ ?_ ?_)
  · refine FStepsW.cons (FStepW.plain rfl fun a w hS hE => OpTo.move rfl ⟨dOfW.of 36 rfl (hE 6 (by kernel_rfl)), Touch.refl _ _⟩) ?_
    refine FStepsW.cons (FStepW.plain rfl fun a w hS hE => OpTo.move rfl ⟨dOfW.of 37 rfl (hE 9 (by kernel_rfl)), Touch.refl _ _⟩) ?_
    refine FStepsW.cons (FStepW.plain rfl fun a w hS hE => OpTo.call #[a.tmps.getD 36 undef, a.tmps.getD 37 undef] rfl Try.func40 (by kernel_rfl) (by kernel_rfl) (args2 ..) ((rsub_v (hE 36 (by kernel_rfl)) (hE 37 (by kernel_rfl)) (mulF_lt ..) (mulF_lt ..) w).mono fun _ _ h => Gives.toW 38 rfl (fun _ _ h => h) h)) ?_
    refine FStepsW.cons (FStepW.plain rfl fun a w hS hE => OpTo.move rfl ⟨dOfW.of 39 rfl (hE 6 (by kernel_rfl)), Touch.refl _ _⟩) ?_
    refine FStepsW.cons (FStepW.plain rfl fun a w hS hE => OpTo.move rfl ⟨dOfW.of 40 rfl (hE 9 (by kernel_rfl)), Touch.refl _ _⟩) ?_
    refine FStepsW.cons (FStepW.plain rfl fun a w hS hE => OpTo.call #[a.tmps.getD 39 undef, a.tmps.getD 40 undef] rfl Try.func43 (by kernel_rfl) (by kernel_rfl) (args2 ..) ((radd_v (hE 39 (by kernel_rfl)) (hE 40 (by kernel_rfl)) (mulF_lt ..) (mulF_lt ..) w).mono fun _ _ h => Gives.toW 41 rfl (fun _ _ h => h) h)) ?_
    refine FStepsW.cons (FStepW.plain rfl fun a w hS hE => OpTo.assign rfl ⟨dOfW.of 10 rfl (hE 38 (by kernel_rfl)), Touch.refl _ _⟩) ?_
    refine FStepsW.cons (FStepW.plain rfl fun a w hS hE => OpTo.assign rfl ⟨dOfW.of 11 rfl (hE 41 (by kernel_rfl)), Touch.refl _ _⟩) ?_
    exact FStepsW.nil
  intro f w5 hS hF
  obtain ⟨h10, h11, -⟩ := hF
  have e10 : f 10 = .string (toS (subF (mulF (mulF Z2 Z3) (mulF Z2 Z3)) (mulF (DN) (mulF (mulF (X2) (X3)) (mulF (Y2) (Y3)))))) := h10
  clear h10
  have e11 : f 11 = .string (toS (addF (mulF (mulF Z2 Z3) (mulF Z2 Z3)) (mulF (DN) (mulF (mulF (X2) (X3)) (mulF (Y2) (Y3)))))) := h11
  clear h11
  replace B2 := Lib.hid (B2.out.touch hS notin_nil)
  replace B3 := Lib.hid (B3.out.touch hS notin_nil)
  replace B4 := Lib.hid (B4.out.touch hS notin_nil)
  replace HT := Lib.hid (HT.out.trans hS)
  clear hS
  simp only [setAll, List.setIfInBounds_toArray, List.set_cons_zero, List.set_cons_succ, e10, e11]
  show wpList _ _ _ [] _ _
  refine wpList_nil ?_
  clear e10 e11
  go_upto_region 5 with fail
  refine wp_region_flowX (lookW [(2, pu (isP (g2))), (3, pu (isP (g3))), (7, pu (isS (toS (mulF (X2) (X3))))), (8, pu (isS (toS (mulF (Y2) (Y3))))), (12, pu (isS (toS (subF (subF (mulF (addF (X2) (Y2)) (addF (X3) (Y3))) (mulF (X2) (X3))) (mulF (Y2) (Y3)))))), (42, pu (isV (.pointer (some ⟨g2, 0, none⟩)))), (43, pu (isS (toS (X2)))), (44, pu (isV (.pointer (some ⟨g2, 1, none⟩)))), (45, pu (isS (toS (Y2)))), (46, pu (isS (toS (addF (X2) (Y2))))), (47, pu (isV (.pointer (some ⟨g3, 0, none⟩)))), (48, pu (isS (toS (X3)))), (49, pu (isV (.pointer (some ⟨g3, 1, none⟩)))), (50, pu (isS (toS (Y3)))), (51, pu (isS (toS (addF (X3) (Y3))))), (52, pu (isS (toS (mulF (addF (X2) (Y2)) (addF (X3) (Y3)))))), (53, pu (isS (toS (mulF (X2) (X3))))), (54, pu (isS (toS (subF (mulF (addF (X2) (Y2)) (addF (X3) (Y3))) (mulF (X2) (X3)))))), (55, pu (isS (toS (mulF (Y2) (Y3))))), (56, pu (isS (toS (subF (subF (mulF (addF (X2) (Y2)) (addF (X3) (Y3))) (mulF (X2) (X3))) (mulF (Y2) (Y3))))))]) (by kernel_rfl) 16 [] (fun d _ _ _ _ h => by cases d <;> exact h) (by intro l hl; cases hl) [2, 3, 7, 8] [42, 43, 44, 45, 46, 47, 48, 49, 50, 51, 52, 53, 54, 55, 56, 12] [12] [] (by kernel_rfl) (by kernel_rfl) (by kernel_rfl) (by kernel_rfl) (by kernel_rfl) (by kernel_rfl) ⟨rfl, rfl, rfl, rfl, trivial⟩ ?_ ?_
  · refine FStepsX.cons rfl (FStepW.plain rfl fun a w hS hE => OpTo.pureG (v := .pointer (some ⟨g2, 0, none⟩)) 42 rfl (by have h2 : a.eval (.tmp 2) = .pointer (some ⟨g2, 0, none⟩) := hE 2 (by kernel_rfl); unfold execOp; simp only [h2]; go_simp) rfl) ?_
    refine FStepsX.cons rfl (FStepW.plain rfl fun a w hS hE => OpTo.pureG (v := .string (toS (X2))) 43 rfl (by have h42 : a.eval (.tmp 42) = .pointer (some ⟨g2, 0, none⟩) := hE 42 (by kernel_rfl); have hcell : w.cell? ⟨g2, 0, none⟩ = some (.string (toS (X2))) := (fun W hW => Blk.cell_at (B2.out.touch hW notin_nil) 0 rfl) w hS; unfold execOp; simp only [h42]; go_simp) rfl) ?_
    refine FStepsX.cons rfl (FStepW.plain rfl fun a w hS hE => OpTo.pureG (v := .pointer (some ⟨g2, 1, none⟩)) 44 rfl (by have h2 : a.eval (.tmp 2) = .pointer (some ⟨g2, 0, none⟩) := hE 2 (by kernel_rfl); unfold execOp; simp only [h2]; go_simp) rfl) ?_
    refine FStepsX.cons rfl (FStepW.plain rfl fun a w hS hE => OpTo.pureG (v := .string (toS (Y2))) 45 rfl (by have h44 : a.eval (.tmp 44) = .pointer (some ⟨g2, 1, none⟩) := hE 44 (by kernel_rfl); have hcell : w.cell? ⟨g2, 1, none⟩ = some (.string (toS (Y2))) := (fun W hW => Blk.cell_at (B2.out.touch hW notin_nil) 1 rfl) w hS; unfold execOp; simp only [h44]; go_simp) rfl) ?_
    refine FStepsX.cons rfl (FStepW.plain rfl fun a w hS hE => OpTo.call #[a.tmps.getD 43 undef, a.tmps.getD 45 undef] rfl Try.func43 (by kernel_rfl) (by kernel_rfl) (args2 ..) ((radd_v (hE 43 (by kernel_rfl)) (hE 45 (by kernel_rfl)) RR2.out.lx RR2.out.ly w).mono fun _ _ h => Gives.toW 46 rfl (fun _ _ h => h) h)) ?_
    refine FStepsX.cons rfl (FStepW.plain rfl fun a w hS hE => OpTo.pureG (v := .pointer (some ⟨g3, 0, none⟩)) 47 rfl (by have h3 : a.eval (.tmp 3) = .pointer (some ⟨g3, 0, none⟩) := hE 3 (by kernel_rfl); unfold execOp; simp only [h3]; go_simp) rfl) ?_
    refine FStepsX.cons rfl (FStepW.plain rfl fun a w hS hE => OpTo.pureG (v := .string (toS (X3))) 48 rfl (by have h47 : a.eval (.tmp 47) = .pointer (some ⟨g3, 0, none⟩) := hE 47 (by kernel_rfl); have hcell : w.cell? ⟨g3, 0, none⟩ = some (.string (toS (X3))) := (fun W hW => Blk.cell_at (B3.out.touch hW notin_nil) 0 rfl) w hS; unfold execOp; simp only [h47]; go_simp) rfl) ?_
    refine FStepsX.cons rfl (FStepW.plain rfl fun a w hS hE => OpTo.pureG (v := .pointer (some ⟨g3, 1, none⟩)) 49 rfl (by have h3 : a.eval (.tmp 3) = .pointer (some ⟨g3, 0, none⟩) := hE 3 (by kernel_rfl); unfold execOp; simp only [h3]; go_simp) rfl) ?_
    refine FStepsX.cons rfl (FStepW.plain rfl fun a w hS hE => OpTo.pureG (v := .string (toS (Y3))) 50 rfl (by have h49 : a.eval (.tmp 49) = .pointer (some ⟨g3, 1, none⟩) := hE 49 (by kernel_rfl); have hcell : w.cell? ⟨g3, 1, none⟩ = some (.string (toS (Y3))) := (fun W hW => Blk.cell_at (B3.out.touch hW notin_nil) 1 rfl) w hS; unfold execOp; simp only [h49]; go_simp) rfl) ?_
    refine FStepsX.cons rfl (FStepW.plain rfl fun a w hS hE => OpTo.call #[a.tmps.getD 48 undef, a.tmps.getD 50 undef] rfl Try.func43 (by kernel_rfl) (by kernel_rfl) (args2 ..) ((radd_v (hE 48 (by kernel_rfl)) (hE 50 (by kernel_rfl)) RR3.out.lx RR3.out.ly w).mono fun _ _ h => Gives.toW 51 rfl (fun _ _ h => h) h)) ?_
    refine FStepsX.cons rfl (FStepW.plain rfl fun a w hS hE => OpTo.call #[a.tmps.getD 46 undef, a.tmps.getD 51 undef] rfl Try.func38 (by kernel_rfl) (by kernel_rfl) (args2 ..) ((rmul_v (hE 46 (by kernel_rfl)) (hE 51 (by kernel_rfl)) (addF_lt ..) (addF_lt ..) w).mono fun _ _ h => Gives.toW 52 rfl (fun _ _ h => h) h)) ?_
    refine FStepsX.cons rfl (FStepW.plain rfl fun a w hS hE => OpTo.move rfl ⟨dOfW.of 53 rfl (hE 7 (by kernel_rfl)), Touch.refl _ _⟩) ?_
    refine FStepsX.cons rfl (FStepW.plain rfl fun a w hS hE => OpTo.call #[a.tmps.getD 52 undef, a.tmps.getD 53 undef] rfl Try.func40 (by kernel_rfl) (by kernel_rfl) (args2 ..) ((rsub_v (hE 52 (by kernel_rfl)) (hE 53 (by kernel_rfl)) (mulF_lt ..) (mulF_lt ..) w).mono fun _ _ h => Gives.toW 54 rfl (fun _ _ h => h) h)) ?_
    refine FStepsX.cons rfl (FStepW.plain rfl fun a w hS hE => OpTo.move rfl ⟨dOfW.of 55 rfl (hE 8 (by kernel_rfl)), Touch.refl _ _⟩) ?_
    refine FStepsX.cons rfl (FStepW.plain rfl fun a w hS hE => OpTo.call #[a.tmps.getD 54 undef, a.tmps.getD 55 undef] rfl Try.func40 (by kernel_rfl) (by kernel_rfl) (args2 ..) ((rsub_v (hE 54 (by kernel_rfl)) (hE 55 (by kernel_rfl)) (subF_lt ..) (mulF_lt ..) w).mono fun _ _ h => Gives.toW 56 rfl (fun _ _ h => h) h)) ?_
    refine FStepsX.cons rfl (FStepW.plain rfl fun a w hS hE => OpTo.assign rfl ⟨dOfW.of 12 rfl (hE 56 (by kernel_rfl)), Touch.refl _ _⟩) ?_
    exact FStepsX.nil
  intro f w6 hS hF hA
  obtain ⟨h12, -⟩ := hF
  have e12 : f 12 = .string (toS (subF (subF (mulF (addF (X2) (Y2)) (addF (X3) (Y3))) (mulF (X2) (X3))) (mulF (Y2) (Y3)))) := h12
  clear h12
  clear hA
  replace B2 := Lib.hid (B2.out.touch hS notin_nil)
  replace B3 := Lib.hid (B3.out.touch hS notin_nil)
  replace B4 := Lib.hid (B4.out.touch hS notin_nil)
  replace HT := Lib.hid (HT.out.trans hS)
  clear hS
  simp only [setAll, List.setIfInBounds_toArray, List.set_cons_zero, List.set_cons_succ, e12]
  show wpList _ _ _ [] _ _
  refine wpList_nil ?_
  clear e12
  go_upto_region 6 with fail
  refine wp_region_list (wpList_flowP 16 (lookW [(5, pu (isS (toS (mulF Z2 Z3)))), (7, pu (isS (toS (mulF (X2) (X3))))), (8, pu (isS (toS (mulF (Y2) (Y3))))), (10, pu (isS (toS (subF (mulF (mulF Z2 Z3) (mulF Z2 Z3)) (mulF (DN) (mulF (mulF (X2) (X3)) (mulF (Y2) (Y3)))))))), (11, pu (isS (toS (addF (mulF (mulF Z2 Z3) (mulF Z2 Z3)) (mulF (DN) (mulF (mulF (X2) (X3)) (mulF (Y2) (Y3)))))))), (12, pu (isS (toS (subF (subF (mulF (addF (X2) (Y2)) (addF (X3) (Y3))) (mulF (X2) (X3))) (mulF (Y2) (Y3)))))), (57, pu (isS (toS (mulF Z2 Z3)))), (58, pu (isS (toS (subF (mulF (mulF Z2 Z3) (mulF Z2 Z3)) (mulF (DN) (mulF (mulF (X2) (X3)) (mulF (Y2) (Y3)))))))), (59, pu (isS (toS (mulF (mulF Z2 Z3) (subF (mulF (mulF Z2 Z3) (mulF Z2 Z3)) (mulF (DN) (mulF (mulF (X2) (X3)) (mulF (Y2) (Y3))))))))), (60, pu (isS (toS (subF (subF (mulF (addF (X2) (Y2)) (addF (X3) (Y3))) (mulF (X2) (X3))) (mulF (Y2) (Y3)))))), (61, pu (isS (toS (mulF (mulF (mulF Z2 Z3) (subF (mulF (mulF Z2 Z3) (mulF Z2 Z3)) (mulF (DN) (mulF (mulF (X2) (X3)) (mulF (Y2) (Y3)))))) (subF (subF (mulF (addF (X2) (Y2)) (addF (X3) (Y3))) (mulF (X2) (X3))) (mulF (Y2) (Y3))))))), (62, pu (isS (toS (mulF Z2 Z3)))), (63, pu (isS (toS (addF (mulF (mulF Z2 Z3) (mulF Z2 Z3)) (mulF (DN) (mulF (mulF (X2) (X3)) (mulF (Y2) (Y3)))))))), (64, pu (isS (toS (mulF (mulF Z2 Z3) (addF (mulF (mulF Z2 Z3) (mulF Z2 Z3)) (mulF (DN) (mulF (mulF (X2) (X3)) (mulF (Y2) (Y3))))))))), (65, pu (isS (toS (mulF (Y2) (Y3))))), (66, pu (isS (toS (mulF (X2) (X3))))), (67, pu (isS (toS (addF (mulF (Y2) (Y3)) (mulF (X2) (X3)))))), (68, pu (isS (toS (mulF (mulF (mulF Z2 Z3) (addF (mulF (mulF Z2 Z3) (mulF Z2 Z3)) (mulF (DN) (mulF (mulF (X2) (X3)) (mulF (Y2) (Y3)))))) (addF (mulF (Y2) (Y3)) (mulF (X2) (X3))))))), (69, pu (isS (toS (subF (mulF (mulF Z2 Z3) (mulF Z2 Z3)) (mulF (DN) (mulF (mulF (X2) (X3)) (mulF (Y2) (Y3)))))))), (70, pu (isS (toS (addF (mulF (mulF Z2 Z3) (mulF Z2 Z3)) (mulF (DN) (mulF (mulF (X2) (X3)) (mulF (Y2) (Y3)))))))), (71, pu (isS (toS (mulF (subF (mulF (mulF Z2 Z3) (mulF Z2 Z3)) (mulF (DN) (mulF (mulF (X2) (X3)) (mulF (Y2) (Y3))))) (addF (mulF (mulF Z2 Z3) (mulF Z2 Z3)) (mulF (DN) (mulF (mulF (X2) (X3)) (mulF (Y2) (Y3))))))))), (72, pu (isV (rpS (toS (mulF (mulF (mulF Z2 Z3) (subF (mulF (mulF Z2 Z3) (mulF Z2 Z3)) (mulF (DN) (mulF (mulF (X2) (X3)) (mulF (Y2) (Y3)))))) (subF (subF (mulF (addF (X2) (Y2)) (addF (X3) (Y3))) (mulF (X2) (X3))) (mulF (Y2) (Y3))))) (toS (mulF (mulF (mulF Z2 Z3) (addF (mulF (mulF Z2 Z3) (mulF Z2 Z3)) (mulF (DN) (mulF (mulF (X2) (X3)) (mulF (Y2) (Y3)))))) (addF (mulF (Y2) (Y3)) (mulF (X2) (X3))))) (toS (mulF (subF (mulF (mulF Z2 Z3) (mulF Z2 Z3)) (mulF (DN) (mulF (mulF (X2) (X3)) (mulF (Y2) (Y3))))) (addF (mulF (mulF Z2 Z3) (mulF Z2 Z3)) (mulF (DN) (mulF (mulF (X2) (X3)) (mulF (Y2) (Y3))))))))))]) [5, 7, 8, 10, 11, 12] [57, 58, 59, 60, 61, 62, 63, 64, 65, 66, 67, 68, 69, 70, 71, 72] [72] (by kernel_rfl) (by kernel_rfl) (by kernel_rfl) ⟨rfl, rfl, rfl, rfl, rfl, rfl, trivial⟩ ?_ ?_)
  · refine FStepsW.cons (FStepW.plain rfl fun a w hS hE => OpTo.move rfl ⟨dOfW.of 57 rfl (hE 5 (by kernel_rfl)), Touch.refl _ _⟩) ?_
    refine FStepsW.cons (FStepW.plain rfl fun a w hS hE => OpTo.move rfl ⟨dOfW.of 58 rfl (hE 10 (by kernel_rfl)), Touch.refl _ _⟩) ?_
    refine FStepsW.cons (FStepW.plain rfl fun a w hS hE => OpTo.call #[a.tmps.getD 57 undef, a.tmps.getD 58 undef] rfl Try.func38 (by kernel_rfl) (by kernel_rfl) (args2 ..) ((rmul_v (hE 57 (by kernel_rfl)) (hE 58 (by kernel_rfl)) (mulF_lt ..) (subF_lt ..) w).mono fun _ _ h => Gives.toW 59 rfl (fun _ _ h => h) h)) ?_
    refine FStepsW.cons (FStepW.plain rfl fun a w hS hE => OpTo.move rfl ⟨dOfW.of 60 rfl (hE 12 (by kernel_rfl)), Touch.refl _ _⟩) ?_
    refine FStepsW.cons (FStepW.plain rfl fun a w hS hE => OpTo.call #[a.tmps.getD 59 undef, a.tmps.getD 60 undef] rfl Try.func38 (by kernel_rfl) (by kernel_rfl) (args2 ..) ((rmul_v (hE 59 (by kernel_rfl)) (hE 60 (by kernel_rfl)) (mulF_lt ..) (subF_lt ..) w).mono fun _ _ h => Gives.toW 61 rfl (fun _ _ h => h) h)) ?_
    refine FStepsW.cons (FStepW.plain rfl fun a w hS hE => OpTo.move rfl ⟨dOfW.of 62 rfl (hE 5 (by kernel_rfl)), Touch.refl _ _⟩) ?_
    refine FStepsW.cons (FStepW.plain rfl fun a w hS hE => OpTo.move rfl ⟨dOfW.of 63 rfl (hE 11 (by kernel_rfl)), Touch.refl _ _⟩) ?_
    refine FStepsW.cons (FStepW.plain rfl fun a w hS hE => OpTo.call #[a.tmps.getD 62 undef, a.tmps.getD 63 undef] rfl Try.func38 (by kernel_rfl) (by kernel_rfl) (args2 ..) ((rmul_v (hE 62 (by kernel_rfl)) (hE 63 (by kernel_rfl)) (mulF_lt ..) (addF_lt ..) w).mono fun _ _ h => Gives.toW 64 rfl (fun _ _ h => h) h)) ?_
    refine FStepsW.cons (FStepW.plain rfl fun a w hS hE => OpTo.move rfl ⟨dOfW.of 65 rfl (hE 8 (by kernel_rfl)), Touch.refl _ _⟩) ?_
    refine FStepsW.cons (FStepW.plain rfl fun a w hS hE => OpTo.move rfl ⟨dOfW.of 66 rfl (hE 7 (by kernel_rfl)), Touch.refl _ _⟩) ?_
    refine FStepsW.cons (FStepW.plain rfl fun a w hS hE => OpTo.call #[a.tmps.getD 65 undef, a.tmps.getD 66 undef] rfl Try.func43 (by kernel_rfl) (by kernel_rfl) (args2 ..) ((radd_v (hE 65 (by kernel_rfl)) (hE 66 (by kernel_rfl)) (mulF_lt ..) (mulF_lt ..) w).mono fun _ _ h => Gives.toW 67 rfl (fun _ _ h => h) h)) ?_
    refine FStepsW.cons (FStepW.plain rfl fun a w hS hE => OpTo.call #[a.tmps.getD 64 undef, a.tmps.getD 67 undef] rfl Try.func38 (by kernel_rfl) (by kernel_rfl) (args2 ..) ((rmul_v (hE 64 (by kernel_rfl)) (hE 67 (by kernel_rfl)) (mulF_lt ..) (addF_lt ..) w).mono fun _ _ h => Gives.toW 68 rfl (fun _ _ h => h) h)) ?_
    refine FStepsW.cons (FStepW.plain rfl fun a w hS hE => OpTo.move rfl ⟨dOfW.of 69 rfl (hE 10 (by kernel_rfl)), Touch.refl _ _⟩) ?_
    refine FStepsW.cons (FStepW.plain rfl fun a w hS hE => OpTo.move rfl ⟨dOfW.of 70 rfl (hE 11 (by kernel_rfl)), Touch.refl _ _⟩) ?_
    refine FStepsW.cons (FStepW.plain rfl fun a w hS hE => OpTo.call #[a.tmps.getD 69 undef, a.tmps.getD 70 undef] rfl Try.func38 (by kernel_rfl) (by kernel_rfl) (args2 ..) ((rmul_v (hE 69 (by kernel_rfl)) (hE 70 (by kernel_rfl)) (subF_lt ..) (addF_lt ..) w).mono fun _ _ h => Gives.toW 71 rfl (fun _ _ h => h) h)) ?_
    refine FStepsW.cons (FStepW.plain rfl fun a w hS hE => OpTo.bldR 72 _ _ _ rfl rfl (hE 61 (by kernel_rfl)) (hE 68 (by kernel_rfl)) (hE 71 (by kernel_rfl)) rfl) ?_
    exact FStepsW.nil
  intro f w7 hS hF
  obtain ⟨h72, -⟩ := hF
  have e72 : f 72 = rpS (toS (mulF (mulF (mulF Z2 Z3) (subF (mulF (mulF Z2 Z3) (mulF Z2 Z3)) (mulF (DN) (mulF (mulF (X2) (X3)) (mulF (Y2) (Y3)))))) (subF (subF (mulF (addF (X2) (Y2)) (addF (X3) (Y3))) (mulF (X2) (X3))) (mulF (Y2) (Y3))))) (toS (mulF (mulF (mulF Z2 Z3) (addF (mulF (mulF Z2 Z3) (mulF Z2 Z3)) (mulF (DN) (mulF (mulF (X2) (X3)) (mulF (Y2) (Y3)))))) (addF (mulF (Y2) (Y3)) (mulF (X2) (X3))))) (toS (mulF (subF (mulF (mulF Z2 Z3) (mulF Z2 Z3)) (mulF (DN) (mulF (mulF (X2) (X3)) (mulF (Y2) (Y3))))) (addF (mulF (mulF Z2 Z3) (mulF Z2 Z3)) (mulF (DN) (mulF (mulF (X2) (X3)) (mulF (Y2) (Y3))))))) := h72
  clear h72
  replace B2 := Lib.hid (B2.out.touch hS notin_nil)
  replace B3 := Lib.hid (B3.out.touch hS notin_nil)
  replace B4 := Lib.hid (B4.out.touch hS notin_nil)
  replace HT := Lib.hid (HT.out.trans hS)
  clear hS
  simp only [setAll, List.setIfInBounds_toArray, List.set_cons_zero, List.set_cons_succ, e72]
  show wpList _ _ _ [_] _ _
  refine wpList_store_row rfl 33 (.tmp 4) (.tmp 72) rfl g4 #[.string (toS (mulF (mulF (mulF Z2 Z3) (subF (mulF (mulF Z2 Z3) (mulF Z2 Z3)) (mulF (DN) (mulF (mulF (X2) (X3)) (mulF (Y2) (Y3)))))) (subF (subF (mulF (addF (X2) (Y2)) (addF (X3) (Y3))) (mulF (X2) (X3))) (mulF (Y2) (Y3))))), .string (toS (mulF (mulF (mulF Z2 Z3) (addF (mulF (mulF Z2 Z3) (mulF Z2 Z3)) (mulF (DN) (mulF (mulF (X2) (X3)) (mulF (Y2) (Y3)))))) (addF (mulF (Y2) (Y3)) (mulF (X2) (X3))))), .string (toS (mulF (subF (mulF (mulF Z2 Z3) (mulF Z2 Z3)) (mulF (DN) (mulF (mulF (X2) (X3)) (mulF (Y2) (Y3))))) (addF (mulF (mulF Z2 Z3) (mulF Z2 Z3)) (mulF (DN) (mulF (mulF (X2) (X3)) (mulF (Y2) (Y3)))))))] rfl rfl 33 #[.string ⟨#[]⟩, .string ⟨#[]⟩, .string ⟨#[]⟩] B4.out infoR rfl (rp_one ..) ?_
  refine wpList_nil ?_
  simp only [Act.put]
  have B2' := (B2.out.frow NE2_4.out #[.string (toS (mulF (mulF (mulF Z2 Z3) (subF (mulF (mulF Z2 Z3) (mulF Z2 Z3)) (mulF (DN) (mulF (mulF (X2) (X3)) (mulF (Y2) (Y3)))))) (subF (subF (mulF (addF (X2) (Y2)) (addF (X3) (Y3))) (mulF (X2) (X3))) (mulF (Y2) (Y3))))), .string (toS (mulF (mulF (mulF Z2 Z3) (addF (mulF (mulF Z2 Z3) (mulF Z2 Z3)) (mulF (DN) (mulF (mulF (X2) (X3)) (mulF (Y2) (Y3)))))) (addF (mulF (Y2) (Y3)) (mulF (X2) (X3))))), .string (toS (mulF (subF (mulF (mulF Z2 Z3) (mulF Z2 Z3)) (mulF (DN) (mulF (mulF (X2) (X3)) (mulF (Y2) (Y3))))) (addF (mulF (mulF Z2 Z3) (mulF Z2 Z3)) (mulF (DN) (mulF (mulF (X2) (X3)) (mulF (Y2) (Y3)))))))])
  have B3' := (B3.out.frow NE3_4.out #[.string (toS (mulF (mulF (mulF Z2 Z3) (subF (mulF (mulF Z2 Z3) (mulF Z2 Z3)) (mulF (DN) (mulF (mulF (X2) (X3)) (mulF (Y2) (Y3)))))) (subF (subF (mulF (addF (X2) (Y2)) (addF (X3) (Y3))) (mulF (X2) (X3))) (mulF (Y2) (Y3))))), .string (toS (mulF (mulF (mulF Z2 Z3) (addF (mulF (mulF Z2 Z3) (mulF Z2 Z3)) (mulF (DN) (mulF (mulF (X2) (X3)) (mulF (Y2) (Y3)))))) (addF (mulF (Y2) (Y3)) (mulF (X2) (X3))))), .string (toS (mulF (subF (mulF (mulF Z2 Z3) (mulF Z2 Z3)) (mulF (DN) (mulF (mulF (X2) (X3)) (mulF (Y2) (Y3))))) (addF (mulF (mulF Z2 Z3) (mulF Z2 Z3)) (mulF (DN) (mulF (mulF (X2) (X3)) (mulF (Y2) (Y3)))))))])
  have B4' := (B4.out.setRow #[.string (toS (mulF (mulF (mulF Z2 Z3) (subF (mulF (mulF Z2 Z3) (mulF Z2 Z3)) (mulF (DN) (mulF (mulF (X2) (X3)) (mulF (Y2) (Y3)))))) (subF (subF (mulF (addF (X2) (Y2)) (addF (X3) (Y3))) (mulF (X2) (X3))) (mulF (Y2) (Y3))))), .string (toS (mulF (mulF (mulF Z2 Z3) (addF (mulF (mulF Z2 Z3) (mulF Z2 Z3)) (mulF (DN) (mulF (mulF (X2) (X3)) (mulF (Y2) (Y3)))))) (addF (mulF (Y2) (Y3)) (mulF (X2) (X3))))), .string (toS (mulF (subF (mulF (mulF Z2 Z3) (mulF Z2 Z3)) (mulF (DN) (mulF (mulF (X2) (X3)) (mulF (Y2) (Y3))))) (addF (mulF (mulF Z2 Z3) (mulF Z2 Z3)) (mulF (DN) (mulF (mulF (X2) (X3)) (mulF (Y2) (Y3)))))))])
  have HT' := (HT.out.setRowE (.inr HB4.out) #[.string (toS (mulF (mulF (mulF Z2 Z3) (subF (mulF (mulF Z2 Z3) (mulF Z2 Z3)) (mulF (DN) (mulF (mulF (X2) (X3)) (mulF (Y2) (Y3)))))) (subF (subF (mulF (addF (X2) (Y2)) (addF (X3) (Y3))) (mulF (X2) (X3))) (mulF (Y2) (Y3))))), .string (toS (mulF (mulF (mulF Z2 Z3) (addF (mulF (mulF Z2 Z3) (mulF Z2 Z3)) (mulF (DN) (mulF (mulF (X2) (X3)) (mulF (Y2) (Y3)))))) (addF (mulF (Y2) (Y3)) (mulF (X2) (X3))))), .string (toS (mulF (subF (mulF (mulF Z2 Z3) (mulF Z2 Z3)) (mulF (DN) (mulF (mulF (X2) (X3)) (mulF (Y2) (Y3))))) (addF (mulF (mulF Z2 Z3) (mulF Z2 Z3)) (mulF (DN) (mulF (mulF (X2) (X3)) (mulF (Y2) (Y3)))))))])
  obtain ⟨w8, hw8⟩ : ∃ w8, w8 = (w7.setRow g4 #[.string (toS (mulF (mulF (mulF Z2 Z3) (subF (mulF (mulF Z2 Z3) (mulF Z2 Z3)) (mulF (DN) (mulF (mulF (X2) (X3)) (mulF (Y2) (Y3)))))) (subF (subF (mulF (addF (X2) (Y2)) (addF (X3) (Y3))) (mulF (X2) (X3))) (mulF (Y2) (Y3))))), .string (toS (mulF (mulF (mulF Z2 Z3) (addF (mulF (mulF Z2 Z3) (mulF Z2 Z3)) (mulF (DN) (mulF (mulF (X2) (X3)) (mulF (Y2) (Y3)))))) (addF (mulF (Y2) (Y3)) (mulF (X2) (X3))))), .string (toS (mulF (subF (mulF (mulF Z2 Z3) (mulF Z2 Z3)) (mulF (DN) (mulF (mulF (X2) (X3)) (mulF (Y2) (Y3))))) (addF (mulF (mulF Z2 Z3) (mulF Z2 Z3)) (mulF (DN) (mulF (mulF (X2) (X3)) (mulF (Y2) (Y3)))))))]) := ⟨_, rfl⟩
  rw [← hw8] at HT' B2' B3' B4'
  rw [← hw8]
  clear hw8 HT B2 B3 B4
  have B2 := Lib.hid B2'
  clear B2'
  have B3 := Lib.hid B3'
  clear B3'
  have B4 := Lib.hid B4'
  clear B4'
  have HT := Lib.hid HT'
  clear HT'
  clear e72
  go_wp2_with fail
  exact rp_ret Try.results16 rfl 33 B4.out HT.out ⟨_, _, _, rrep_add RR2.out RR3.out rfl rfl rfl rfl rfl rfl rfl rfl, rfl⟩
end Go.Proofs.Ytbgpgbfiadhddaa
/- The document's points: as bytes, and out of bytes. -/
namespace Go.Proofs.Ytbgpgbfiadhddaa
open Go Go.RowKit
theorem rodd_b {n : Nat} {x : Value} (hx : isS (toS n) x) {b : Bool} (hb : decide (n % 2 = 1) = b) (w : World) : Calls Try.prog 49 #[x] w (Gives w (isB b)) := hb ▸ rodd_v hx w
theorem rof_v {s : ByteArray} {x : Value} (hx : isS s x) {n : Nat} {c : Int} (hn : ofN s = n) (hc : ofC s = c) (w : World) : Calls Try.prog 37 #[x] w (Gives w (Tup (isS (toS n)) (.int .i64 c))) := by
  obtain rfl : x = .string s := hx
  subst hn hc
  exact (refOf_any s w).mono fun _ _ ⟨he, ht⟩ => ⟨_, he, ⟨_, rfl, rfl⟩, ht⟩
theorem rroot_v {n : Nat} {x : Value} (hx : isS (toS n) x) (hn : n < PP) (w : World) : Calls Try.prog 39 #[x] w (Gives w (Tup (isS (toS (rootN n))) (.bool (isN n)))) := by
  obtain rfl : x = .string (toS n) := hx
  exact (refRoot_toS hn w).mono fun _ _ ⟨he, ht⟩ => ⟨_, he, ⟨_, rfl, rfl⟩, ht⟩
theorem enc_size (n v : Nat) : ((toS n).extract 0 31).size + (strOfNums [(v : Int)]).size ≤ 9223372036854775807 := by
  have h1 : ((toS n).extract 0 31).size ≤ 31 := by rw [ByteArray.size_extract]; omega
  have h2 : (strOfNums [(v : Int)]).size = 1 := rfl
  omega
/-- Bytes, the last one with one binary digit more. -/
theorem enc_str {y b : Nat} (hy : y < 2 ^ 255) (hb : b < 2) : (toS y).extract 0 31 ++ strOfNums [((y / 2 ^ (8 * 31) % 256 + 128 * b : Nat) : Int)] = toS (y + 2 ^ 255 * b) := by
  have hv : y / 2 ^ (8 * 31) % 256 + 128 * b < 256 := by
    have := enc_top y b hy hb
    rw [← this]; exact Nat.mod_lt _ (by decide)
  have h1 : bl (strOfNums [((y / 2 ^ (8 * 31) % 256 + 128 * b : Nat) : Int)]) = [y / 2 ^ (8 * 31) % 256 + 128 * b] := bl_strOfNums [y / 2 ^ (8 * 31) % 256 + 128 * b] (fun x hx => by simp at hx; omega)
  apply bl_inj
  have e : bl ((toS y).extract 0 31 ++ strOfNums [((y / 2 ^ (8 * 31) % 256 + 128 * b : Nat) : Int)]) = (bl (toS y)).take 31 ++ [y / 2 ^ (8 * 31) % 256 + 128 * b] := by
    rw [← h1, ← bl_extractE]
    unfold bl
    rw [ByteArray.data_append]
    simp
  rw [e]
  have hl : ∀ n : Nat, (bl (toS n)).length = 32 := fun n => by rw [bl_len, toS_size]
  refine List.ext_getElem? fun j => ?_
  by_cases hj : j < 32
  · have hg : ∀ n : Nat, (bl (toS n))[j]? = some (n / 2 ^ (8 * j) % 256) := fun n => by
      rw [← toS_at n j hj, List.getD_eq_getElem?_getD, List.getElem?_eq_getElem (by rw [hl]; exact hj)]
      rfl
    rw [hg]
    by_cases h31 : j = 31
    · subst h31
      rw [List.getElem?_append_right (by rw [List.length_take, hl]; decide), List.length_take, hl, enc_top y b hy hb]
      rfl
    · rw [List.getElem?_append_left (by rw [List.length_take, hl]; omega), List.getElem?_take_of_lt (by omega), hg, enc_low _ _ _ (by omega)]
  · rw [List.getElem?_eq_none (by rw [List.length_append, List.length_take, hl]; simp; omega), List.getElem?_eq_none (by rw [hl]; omega)]
theorem ge128 {b : Nat} {x : Bool} (h : decide (128 ≤ b) = x) : decide ((128 : Int) ≤ (b : Int)) = x := by rw [← h]; exact decide_eq_decide.2 (by omega)
set_option maxRecDepth 100000 in
set_option maxHeartbeats 4000000 in
theorem rpenc_v {P : Pt} {x : Value} (hx : RfV P x) (w : World) : Calls Try.prog 12 #[x] w (Gives w (isS (encS P))) := by
  obtain ⟨X1, Y1, Z1, h1, rfl⟩ := hx
  have RR1 := Lib.hid h1
  clear h1
  unfold rpS
  go_enter Try.func12, Try.ntmps12
  go_upto_region 0 with fail
  refine wp_region_list ?_
  refine wpList_run rfl (exec_box rfl rfl) ?_
  refine wpList_run (v := .string ⟨#[]⟩) rfl (exec_assignV rfl rfl) ?_
  refine wpList_nil ?_
  simp only [Act.put, List.setIfInBounds_toArray, List.set_cons_zero, List.set_cons_succ]
  obtain ⟨w1, g1, hW, eg1, b1, ht, hb1⟩ := start1 w 33 #[.string (toS (X1)), .string (toS (Y1)), .string (toS (Z1))]
  rw [← hW]
  rw [← eg1]
  have HT := Lib.hid ht
  have B1 := Lib.hid b1
  have HB1 := Lib.hid hb1
  clear hW eg1 b1 ht hb1
  go_upto_region 1 with fail
  refine wp_region_list (wpList_flowP 3 (lookW [(1, pu (isP (g1))), (6, pu (isV (.pointer (some ⟨g1, 2, none⟩)))), (7, pu (isS (toS (Z1)))), (8, pu (isS (toS (invF (Z1)))))]) [1] [6, 7, 8] [8] (by kernel_rfl) (by kernel_rfl) (by kernel_rfl) ⟨rfl, trivial⟩ ?_ ?_)
  · refine FStepsW.cons (FStepW.plain rfl fun a w hS hE => OpTo.pureG (v := .pointer (some ⟨g1, 2, none⟩)) 6 rfl (by have h1 : a.eval (.tmp 1) = .pointer (some ⟨g1, 0, none⟩) := hE 1 (by kernel_rfl); unfold execOp; simp only [h1]; go_simp) rfl) ?_
    refine FStepsW.cons (FStepW.plain rfl fun a w hS hE => OpTo.pureG (v := .string (toS (Z1))) 7 rfl (by have h6 : a.eval (.tmp 6) = .pointer (some ⟨g1, 2, none⟩) := hE 6 (by kernel_rfl); have hcell : w.cell? ⟨g1, 2, none⟩ = some (.string (toS (Z1))) := (fun W hW => Blk.cell_at (B1.out.touch hW notin_nil) 2 rfl) w hS; unfold execOp; simp only [h6]; go_simp) rfl) ?_
    refine FStepsW.cons (FStepW.plain rfl fun a w hS hE => OpTo.call #[a.tmps.getD 7 undef] rfl Try.func42 (by kernel_rfl) (by kernel_rfl) (args1 ..) ((rinv_v (hE 7 (by kernel_rfl)) RR1.out.lz w).mono fun _ _ h => Gives.toW 8 rfl (fun _ _ h => h) h)) ?_
    exact FStepsW.nil
  intro f w2 hS hF
  obtain ⟨h8, -⟩ := hF
  have e8 : f 8 = .string (toS (invF (Z1))) := h8
  clear h8
  replace B1 := Lib.hid (B1.out.touch hS notin_nil)
  replace HT := Lib.hid (HT.out.trans hS)
  clear hS
  simp only [setAll, List.setIfInBounds_toArray, List.set_cons_zero, List.set_cons_succ, e8]
  show wpList _ _ _ [_] _ _
  refine wpList_run (v := .string (toS (invF (Z1)))) rfl (exec_assignV rfl rfl) ?_
  refine wpList_nil ?_
  simp only [Act.put, List.setIfInBounds_toArray, List.set_cons_zero, List.set_cons_succ]
  clear e8
  go_upto_region 2 with fail
  refine wp_region_list (wpList_flowP 4 (lookW [(1, pu (isP (g1))), (3, pu (isS (toS (invF (Z1))))), (9, pu (isV (.pointer (some ⟨g1, 1, none⟩)))), (10, pu (isS (toS (Y1)))), (11, pu (isS (toS (invF (Z1))))), (12, pu (isS (toS (mulF (Y1) (invF (Z1))))))]) [1, 3] [9, 10, 11, 12] [12] (by kernel_rfl) (by kernel_rfl) (by kernel_rfl) ⟨rfl, rfl, trivial⟩ ?_ ?_)
  · refine FStepsW.cons (FStepW.plain rfl fun a w hS hE => OpTo.pureG (v := .pointer (some ⟨g1, 1, none⟩)) 9 rfl (by have h1 : a.eval (.tmp 1) = .pointer (some ⟨g1, 0, none⟩) := hE 1 (by kernel_rfl); unfold execOp; simp only [h1]; go_simp) rfl) ?_
    refine FStepsW.cons (FStepW.plain rfl fun a w hS hE => OpTo.pureG (v := .string (toS (Y1))) 10 rfl (by have h9 : a.eval (.tmp 9) = .pointer (some ⟨g1, 1, none⟩) := hE 9 (by kernel_rfl); have hcell : w.cell? ⟨g1, 1, none⟩ = some (.string (toS (Y1))) := (fun W hW => Blk.cell_at (B1.out.touch hW notin_nil) 1 rfl) w hS; unfold execOp; simp only [h9]; go_simp) rfl) ?_
    refine FStepsW.cons (FStepW.plain rfl fun a w hS hE => OpTo.move rfl ⟨dOfW.of 11 rfl (hE 3 (by kernel_rfl)), Touch.refl _ _⟩) ?_
    refine FStepsW.cons (FStepW.plain rfl fun a w hS hE => OpTo.call #[a.tmps.getD 10 undef, a.tmps.getD 11 undef] rfl Try.func38 (by kernel_rfl) (by kernel_rfl) (args2 ..) ((rmul_v (hE 10 (by kernel_rfl)) (hE 11 (by kernel_rfl)) RR1.out.ly (invF_lt _) w).mono fun _ _ h => Gives.toW 12 rfl (fun _ _ h => h) h)) ?_
    exact FStepsW.nil
  intro f w3 hS hF
  obtain ⟨h12, -⟩ := hF
  have e12 : f 12 = .string (toS (mulF (Y1) (invF (Z1)))) := h12
  clear h12
  replace B1 := Lib.hid (B1.out.touch hS notin_nil)
  replace HT := Lib.hid (HT.out.trans hS)
  clear hS
  simp only [setAll, List.setIfInBounds_toArray, List.set_cons_zero, List.set_cons_succ, e12]
  show wpList _ _ _ [_] _ _
  refine wpList_run (v := .string (toS (mulF (Y1) (invF (Z1))))) rfl (exec_assignV rfl rfl) ?_
  refine wpList_nil ?_
  simp only [Act.put, List.setIfInBounds_toArray, List.set_cons_zero, List.set_cons_succ]
  clear e12
  go_upto_region 3 with fail
  have L31 := Lib.hid (show 31 < (toS (mulF (Y1) (invF (Z1)))).size by rw [toS_size]; decide)
  obtain ⟨v, hv⟩ : ∃ v, v = P.y.val / 2 ^ (8 * 31) % 256 := ⟨_, rfl⟩
  have HV := Lib.hid hv
  have K14 := Lib.hid (show (bl (toS (mulF (Y1) (invF (Z1))))).getD 31 0 = v by rw [rrep_y RR1.out, toS_at _ _ (by decide), hv])
  have hv128 : v < 128 := by rw [hv, Nat.mod_eq_of_lt (Nat.lt_trans (y_top P) (by decide))]; exact y_top P
  have H128 := Lib.hid hv128
  clear hv hv128
  refine wp_region_list (wpList_flowP 2 (lookW [(4, pu (isS (toS (mulF (Y1) (invF (Z1)))))), (13, pu (isS (toS (mulF (Y1) (invF (Z1)))))), (14, pu (isV (.int .u8 ((v : Int)))))]) [4] [13, 14] [14] (by kernel_rfl) (by kernel_rfl) (by kernel_rfl) ⟨rfl, trivial⟩ ?_ ?_)
  · refine FStepsW.cons (FStepW.plain rfl fun a w hS hE => OpTo.move rfl ⟨dOfW.of 13 rfl (hE 4 (by kernel_rfl)), Touch.refl _ _⟩) ?_
    refine FStepsW.cons (FStepW.plain rfl fun a w hS hE => OpTo.indexS Try.underlying9 (toS (mulF (Y1) (invF (Z1)))) (31) rfl (hE 13 (by kernel_rfl)) rfl L31.out ⟨dOfW.of 14 rfl (by rw [K14.out]; rfl), Touch.refl _ _⟩) ?_
    exact FStepsW.nil
  intro f w4 hS hF
  obtain ⟨h14, -⟩ := hF
  have e14 : f 14 = .int .u8 ((v : Int)) := h14
  clear h14
  replace B1 := Lib.hid (B1.out.touch hS notin_nil)
  replace HT := Lib.hid (HT.out.trans hS)
  clear hS
  simp only [setAll, List.setIfInBounds_toArray, List.set_cons_zero, List.set_cons_succ, e14]
  show wpList _ _ _ [_] _ _
  refine wpList_run (v := .int .u8 ((v : Int))) rfl (exec_assignV rfl rfl) ?_
  refine wpList_nil ?_
  simp only [Act.put, List.setIfInBounds_toArray, List.set_cons_zero, List.set_cons_succ]
  clear e14
  go_upto_region 4 with fail
  rcases Nat.mod_two_eq_zero_or_one P.x.val with hb | hb
  · skip
    have HB := Lib.hid hb
    have HO := Lib.hid (show decide (mulF (X1) (invF (Z1)) % 2 = 1) = false by rw [rrep_x RR1.out, hb]; rfl)
    clear hb
    refine wp_region_list (wpList_flowP 5 (lookW [(1, pu (isP (g1))), (3, pu (isS (toS (invF (Z1))))), (15, pu (isV (.pointer (some ⟨g1, 0, none⟩)))), (16, pu (isS (toS (X1)))), (17, pu (isS (toS (invF (Z1))))), (18, pu (isS (toS (mulF (X1) (invF (Z1)))))), (19, pu (isB false))]) [1, 3] [15, 16, 17, 18, 19] [19] (by kernel_rfl) (by kernel_rfl) (by kernel_rfl) ⟨rfl, rfl, trivial⟩ ?_ ?_)
    · refine FStepsW.cons (FStepW.plain rfl fun a w hS hE => OpTo.pureG (v := .pointer (some ⟨g1, 0, none⟩)) 15 rfl (by have h1 : a.eval (.tmp 1) = .pointer (some ⟨g1, 0, none⟩) := hE 1 (by kernel_rfl); unfold execOp; simp only [h1]; go_simp) rfl) ?_
      refine FStepsW.cons (FStepW.plain rfl fun a w hS hE => OpTo.pureG (v := .string (toS (X1))) 16 rfl (by have h15 : a.eval (.tmp 15) = .pointer (some ⟨g1, 0, none⟩) := hE 15 (by kernel_rfl); have hcell : w.cell? ⟨g1, 0, none⟩ = some (.string (toS (X1))) := (fun W hW => Blk.cell_at (B1.out.touch hW notin_nil) 0 rfl) w hS; unfold execOp; simp only [h15]; go_simp) rfl) ?_
      refine FStepsW.cons (FStepW.plain rfl fun a w hS hE => OpTo.move rfl ⟨dOfW.of 17 rfl (hE 3 (by kernel_rfl)), Touch.refl _ _⟩) ?_
      refine FStepsW.cons (FStepW.plain rfl fun a w hS hE => OpTo.call #[a.tmps.getD 16 undef, a.tmps.getD 17 undef] rfl Try.func38 (by kernel_rfl) (by kernel_rfl) (args2 ..) ((rmul_v (hE 16 (by kernel_rfl)) (hE 17 (by kernel_rfl)) RR1.out.lx (invF_lt _) w).mono fun _ _ h => Gives.toW 18 rfl (fun _ _ h => h) h)) ?_
      refine FStepsW.cons (FStepW.plain rfl fun a w hS hE => OpTo.call #[a.tmps.getD 18 undef] rfl Try.func49 (by kernel_rfl) (by kernel_rfl) (args1 ..) ((rodd_b (hE 18 (by kernel_rfl)) HO.out w).mono fun _ _ h => Gives.toW 19 rfl (fun _ _ h => h) h)) ?_
      exact FStepsW.nil
    intro f w5 hS hF
    obtain ⟨h19, -⟩ := hF
    have e19 : f 19 = .bool false := h19
    clear h19
    replace B1 := Lib.hid (B1.out.touch hS notin_nil)
    replace HT := Lib.hid (HT.out.trans hS)
    clear hS
    simp only [setAll, List.setIfInBounds_toArray, List.set_cons_zero, List.set_cons_succ, e19]
    show wpList _ _ _ [] _ _
    refine wpList_nil ?_
    clear e19
    have K31 := Lib.hid (show (31 : Int) ≤ ((toS (mulF (Y1) (invF (Z1)))).size : Int) by rw [toS_size]; decide)
    go_upto_region 6 with fail
    have KE := Lib.hid (show (toS (mulF (Y1) (invF (Z1)))).extract 0 31 ++ strOfNums [(v : Int)] = encS P by
      have := enc_str (y := P.y.val) (b := 0) (Nat.lt_trans P.y.isLt PP_255) (by decide)
      rw [← HV.out] at this
      rw [rrep_y RR1.out]
      unfold encS encN
      rw [HB.out, ← this]
      rfl)
    refine wp_region_flowX (lookW [(4, pu (isS (toS (mulF (Y1) (invF (Z1)))))), (5, pu (isV (.int .u8 ((v : Int))))), (22, pu (isS (toS (mulF (Y1) (invF (Z1)))))), (23, pu (isS ((toS (mulF (Y1) (invF (Z1)))).extract 0 31))), (24, pu (isV (.int .u8 ((v : Int))))), (25, sl1 ((v : Int))), (26, pu (isS (strOfNums [(v : Int)]))), (27, pu (isS (encS P)))]) (by kernel_rfl) 6 [] (fun d _ _ _ _ h => by cases d <;> exact h) (by intro l hl; cases hl) [4, 5] [22, 23, 24, 25, 26, 27] [27] [] (by kernel_rfl) (by kernel_rfl) (by kernel_rfl) (by kernel_rfl) (by kernel_rfl) (by kernel_rfl) ⟨rfl, rfl, trivial⟩ ?_ ?_
    · refine FStepsX.cons rfl (FStepW.plain rfl fun a w hS hE => OpTo.move rfl ⟨dOfW.of 22 rfl (hE 4 (by kernel_rfl)), Touch.refl _ _⟩) ?_
      refine FStepsX.cons rfl (FStepW.plain rfl fun a w hS hE => OpTo.pureG (v := .string ((toS (mulF (Y1) (invF (Z1)))).extract 0 31)) 23 rfl (by have h22 : a.eval (.tmp 22) = .string (toS (mulF (Y1) (invF (Z1)))) := hE 22 (by kernel_rfl); have k31 := K31.out; unfold execOp; simp only [h22]; go_simp) rfl) ?_
      refine FStepsX.cons rfl (FStepW.plain rfl fun a w hS hE => OpTo.move rfl ⟨dOfW.of 24 rfl (hE 5 (by kernel_rfl)), Touch.refl _ _⟩) ?_
      refine FStepsX.cons rfl (FStepW.plain rfl fun a w hS hE => OpTo.one ((v : Int)) rfl (hE 24 (by kernel_rfl)) (fun _ _ h => dOfW.of 25 rfl h)) ?_
      refine FStepsX.cons rfl (FStepW.plain rfl fun a w hS hE => OpTo.str1 ((v : Int)) rfl (hE 25 (by kernel_rfl)) (dOfW.of 26 rfl rfl)) ?_
      refine FStepsX.cons rfl (FStepW.plain rfl fun a w hS hE => OpTo.addS ((toS (mulF (Y1) (invF (Z1)))).extract 0 31) (strOfNums [(v : Int)]) rfl (hE 23 (by kernel_rfl)) (hE 26 (by kernel_rfl)) (enc_size _ _) ⟨dOfW.of 27 rfl (by rw [KE.out]; rfl), Touch.refl _ _⟩) ?_
      exact FStepsX.nil
    intro f w6 hS hF hA
    obtain ⟨h27, -⟩ := hF
    have e27 : f 27 = .string (encS P) := h27
    clear h27
    clear hA
    replace B1 := Lib.hid (B1.out.touch hS notin_nil)
    replace HT := Lib.hid (HT.out.trans hS)
    clear hS
    simp only [setAll, List.setIfInBounds_toArray, List.set_cons_zero, List.set_cons_succ, e27]
    show wpList _ _ _ [_] _ _
    refine wpList_run (v := .string (encS P)) rfl (exec_assignV rfl rfl) ?_
    refine wpList_nil ?_
    simp only [Act.put, List.setIfInBounds_toArray, List.set_cons_zero, List.set_cons_succ]
    clear e27
    go_wp2_with fail
    go_ret
    exact ⟨_, rfl, rfl, HT.out⟩
  · skip
    have HB := Lib.hid hb
    have HO := Lib.hid (show decide (mulF (X1) (invF (Z1)) % 2 = 1) = true by rw [rrep_x RR1.out, hb]; rfl)
    clear hb
    refine wp_region_list (wpList_flowP 5 (lookW [(1, pu (isP (g1))), (3, pu (isS (toS (invF (Z1))))), (15, pu (isV (.pointer (some ⟨g1, 0, none⟩)))), (16, pu (isS (toS (X1)))), (17, pu (isS (toS (invF (Z1))))), (18, pu (isS (toS (mulF (X1) (invF (Z1)))))), (19, pu (isB true))]) [1, 3] [15, 16, 17, 18, 19] [19] (by kernel_rfl) (by kernel_rfl) (by kernel_rfl) ⟨rfl, rfl, trivial⟩ ?_ ?_)
    · refine FStepsW.cons (FStepW.plain rfl fun a w hS hE => OpTo.pureG (v := .pointer (some ⟨g1, 0, none⟩)) 15 rfl (by have h1 : a.eval (.tmp 1) = .pointer (some ⟨g1, 0, none⟩) := hE 1 (by kernel_rfl); unfold execOp; simp only [h1]; go_simp) rfl) ?_
      refine FStepsW.cons (FStepW.plain rfl fun a w hS hE => OpTo.pureG (v := .string (toS (X1))) 16 rfl (by have h15 : a.eval (.tmp 15) = .pointer (some ⟨g1, 0, none⟩) := hE 15 (by kernel_rfl); have hcell : w.cell? ⟨g1, 0, none⟩ = some (.string (toS (X1))) := (fun W hW => Blk.cell_at (B1.out.touch hW notin_nil) 0 rfl) w hS; unfold execOp; simp only [h15]; go_simp) rfl) ?_
      refine FStepsW.cons (FStepW.plain rfl fun a w hS hE => OpTo.move rfl ⟨dOfW.of 17 rfl (hE 3 (by kernel_rfl)), Touch.refl _ _⟩) ?_
      refine FStepsW.cons (FStepW.plain rfl fun a w hS hE => OpTo.call #[a.tmps.getD 16 undef, a.tmps.getD 17 undef] rfl Try.func38 (by kernel_rfl) (by kernel_rfl) (args2 ..) ((rmul_v (hE 16 (by kernel_rfl)) (hE 17 (by kernel_rfl)) RR1.out.lx (invF_lt _) w).mono fun _ _ h => Gives.toW 18 rfl (fun _ _ h => h) h)) ?_
      refine FStepsW.cons (FStepW.plain rfl fun a w hS hE => OpTo.call #[a.tmps.getD 18 undef] rfl Try.func49 (by kernel_rfl) (by kernel_rfl) (args1 ..) ((rodd_b (hE 18 (by kernel_rfl)) HO.out w).mono fun _ _ h => Gives.toW 19 rfl (fun _ _ h => h) h)) ?_
      exact FStepsW.nil
    intro f w5 hS hF
    obtain ⟨h19, -⟩ := hF
    have e19 : f 19 = .bool true := h19
    clear h19
    replace B1 := Lib.hid (B1.out.touch hS notin_nil)
    replace HT := Lib.hid (HT.out.trans hS)
    clear hS
    simp only [setAll, List.setIfInBounds_toArray, List.set_cons_zero, List.set_cons_succ, e19]
    show wpList _ _ _ [] _ _
    refine wpList_nil ?_
    clear e19
    go_upto_region 5 with fail
    refine wp_region_list (wpList_flowP 2 (lookW [(5, pu (isV (.int .u8 ((v : Int))))), (20, pu (isV (.int .u8 ((v : Int))))), (21, pu (isV (.int .u8 (((v + 128 : Nat) : Int)))))]) [5] [20, 21] [21] (by kernel_rfl) (by kernel_rfl) (by kernel_rfl) ⟨rfl, trivial⟩ ?_ ?_)
    · refine FStepsW.cons (FStepW.plain rfl fun a w hS hE => OpTo.move rfl ⟨dOfW.of 20 rfl (hE 5 (by kernel_rfl)), Touch.refl _ _⟩) ?_
      refine FStepsW.cons (FStepW.plain rfl fun a w hS hE => OpTo.addI (v : Int) 128 (((v + 128 : Nat) : Int)) rfl (hE 20 (by kernel_rfl)) rfl (by have := H128.out; rw [IntWalk.u8_in _ (by omega)]; omega) ⟨dOfW.of 21 rfl rfl, Touch.refl _ _⟩) ?_
      exact FStepsW.nil
    intro f w6 hS hF
    obtain ⟨h21, -⟩ := hF
    have e21 : f 21 = .int .u8 (((v + 128 : Nat) : Int)) := h21
    clear h21
    replace B1 := Lib.hid (B1.out.touch hS notin_nil)
    replace HT := Lib.hid (HT.out.trans hS)
    clear hS
    simp only [setAll, List.setIfInBounds_toArray, List.set_cons_zero, List.set_cons_succ, e21]
    show wpList _ _ _ [_] _ _
    refine wpList_run (v := .int .u8 (((v + 128 : Nat) : Int))) rfl (exec_assignV rfl rfl) ?_
    refine wpList_nil ?_
    simp only [Act.put, List.setIfInBounds_toArray, List.set_cons_zero, List.set_cons_succ]
    clear e21
    have K31 := Lib.hid (show (31 : Int) ≤ ((toS (mulF (Y1) (invF (Z1)))).size : Int) by rw [toS_size]; decide)
    go_upto_region 6 with fail
    have KE := Lib.hid (show (toS (mulF (Y1) (invF (Z1)))).extract 0 31 ++ strOfNums [((v + 128 : Nat) : Int)] = encS P by
      have := enc_str (y := P.y.val) (b := 1) (Nat.lt_trans P.y.isLt PP_255) (by decide)
      rw [← HV.out] at this
      rw [rrep_y RR1.out]
      unfold encS encN
      rw [HB.out, ← this])
    refine wp_region_flowX (lookW [(4, pu (isS (toS (mulF (Y1) (invF (Z1)))))), (5, pu (isV (.int .u8 (((v + 128 : Nat) : Int))))), (22, pu (isS (toS (mulF (Y1) (invF (Z1)))))), (23, pu (isS ((toS (mulF (Y1) (invF (Z1)))).extract 0 31))), (24, pu (isV (.int .u8 (((v + 128 : Nat) : Int))))), (25, sl1 (((v + 128 : Nat) : Int))), (26, pu (isS (strOfNums [((v + 128 : Nat) : Int)]))), (27, pu (isS (encS P)))]) (by kernel_rfl) 6 [] (fun d _ _ _ _ h => by cases d <;> exact h) (by intro l hl; cases hl) [4, 5] [22, 23, 24, 25, 26, 27] [27] [] (by kernel_rfl) (by kernel_rfl) (by kernel_rfl) (by kernel_rfl) (by kernel_rfl) (by kernel_rfl) ⟨rfl, rfl, trivial⟩ ?_ ?_
    · refine FStepsX.cons rfl (FStepW.plain rfl fun a w hS hE => OpTo.move rfl ⟨dOfW.of 22 rfl (hE 4 (by kernel_rfl)), Touch.refl _ _⟩) ?_
      refine FStepsX.cons rfl (FStepW.plain rfl fun a w hS hE => OpTo.pureG (v := .string ((toS (mulF (Y1) (invF (Z1)))).extract 0 31)) 23 rfl (by have h22 : a.eval (.tmp 22) = .string (toS (mulF (Y1) (invF (Z1)))) := hE 22 (by kernel_rfl); have k31 := K31.out; unfold execOp; simp only [h22]; go_simp) rfl) ?_
      refine FStepsX.cons rfl (FStepW.plain rfl fun a w hS hE => OpTo.move rfl ⟨dOfW.of 24 rfl (hE 5 (by kernel_rfl)), Touch.refl _ _⟩) ?_
      refine FStepsX.cons rfl (FStepW.plain rfl fun a w hS hE => OpTo.one (((v + 128 : Nat) : Int)) rfl (hE 24 (by kernel_rfl)) (fun _ _ h => dOfW.of 25 rfl h)) ?_
      refine FStepsX.cons rfl (FStepW.plain rfl fun a w hS hE => OpTo.str1 (((v + 128 : Nat) : Int)) rfl (hE 25 (by kernel_rfl)) (dOfW.of 26 rfl rfl)) ?_
      refine FStepsX.cons rfl (FStepW.plain rfl fun a w hS hE => OpTo.addS ((toS (mulF (Y1) (invF (Z1)))).extract 0 31) (strOfNums [((v + 128 : Nat) : Int)]) rfl (hE 23 (by kernel_rfl)) (hE 26 (by kernel_rfl)) (enc_size _ _) ⟨dOfW.of 27 rfl (by rw [KE.out]; rfl), Touch.refl _ _⟩) ?_
      exact FStepsX.nil
    intro f w7 hS hF hA
    obtain ⟨h27, -⟩ := hF
    have e27 : f 27 = .string (encS P) := h27
    clear h27
    clear hA
    replace B1 := Lib.hid (B1.out.touch hS notin_nil)
    replace HT := Lib.hid (HT.out.trans hS)
    clear hS
    simp only [setAll, List.setIfInBounds_toArray, List.set_cons_zero, List.set_cons_succ, e27]
    show wpList _ _ _ [_] _ _
    refine wpList_run (v := .string (encS P)) rfl (exec_assignV rfl rfl) ?_
    refine wpList_nil ?_
    simp only [Act.put, List.setIfInBounds_toArray, List.set_cons_zero, List.set_cons_succ]
    clear e27
    go_wp2_with fail
    go_ret
    exact ⟨_, rfl, rfl, HT.out⟩
end Go.Proofs.Ytbgpgbfiadhddaa
/- The document's points: out of bytes; the base point. -/
namespace Go.Proofs.Ytbgpgbfiadhddaa
open Go Go.RowKit
theorem dec_rrep {s : ByteArray} (h : decOK s) : RRep (decP s) (decX s) (dyN s) 1 := RRep.of (dec_rep h)
set_option maxRecDepth 100000 in
set_option maxHeartbeats 4000000 in
theorem rpdec_v {s : ByteArray} {x : Value} (hx : isS s x) (w : World) : Calls Try.prog 10 #[x] w (Gives w (Tup (RfV (decP s)) (.int .i64 (decC s)))) := by
  obtain rfl : x = .string s := hx
  by_cases h32 : s.size = 32
  case neg =>
    have K12 := Lib.hid (show decide ((s.size : Int) = 32) = false from decide_eq_false (by omega))
    have HN := Lib.hid (show ¬ decOK s from fun h => h32 h.1)
    clear h32
    go_enter Try.func10, Try.ntmps10
    go_upto_region 0 with fail
    refine wp_region_list ?_
    refine wpList_run rfl (exec_alloc_rp rfl) ?_
    refine wpList_run (v := .int .i64 0) rfl (exec_assignV rfl rfl) ?_
    refine wpList_nil ?_
    simp only [Act.put, List.setIfInBounds_toArray, List.set_cons_zero, List.set_cons_succ]
    obtain ⟨w1, g2, hW, eg2, b2, ht, hb2⟩ := start1 w 33 #[.string ⟨#[]⟩, .string ⟨#[]⟩, .string ⟨#[]⟩]
    rw [← hW]
    rw [← eg2]
    have HT := Lib.hid ht
    have B2 := Lib.hid b2
    have HB2 := Lib.hid hb2
    clear hW eg2 b2 ht hb2
    go_upto_region 1 with fail
    refine wp_region_list (wpList_flowP 3 (lookW [(0, pu (isS (s))), (10, pu (isS (s))), (11, pu (isV (.int .i64 (((s).size : Int))))), (12, pu (isB true))]) [0] [10, 11, 12] [12] (by kernel_rfl) (by kernel_rfl) (by kernel_rfl) ⟨rfl, trivial⟩ ?_ ?_)
    · refine FStepsW.cons (FStepW.plain rfl fun a w hS hE => OpTo.move rfl ⟨dOfW.of 10 rfl (hE 0 (by kernel_rfl)), Touch.refl _ _⟩) ?_
      refine FStepsW.cons (FStepW.plain rfl fun a w hS hE => OpTo.lenS Try.underlying9 (s) rfl (hE 10 (by kernel_rfl)) ⟨dOfW.of 11 rfl rfl, Touch.refl _ _⟩) ?_
      refine FStepsW.cons (FStepW.plain rfl fun a w hS hE => OpTo.neI (((s).size : Int)) (32) rfl (hE 11 (by kernel_rfl)) rfl ⟨dOfW.of 12 rfl (by rw [K12.out]; rfl), Touch.refl _ _⟩) ?_
      exact FStepsW.nil
    intro f w2 hS hF
    obtain ⟨h12, -⟩ := hF
    have e12 : f 12 = .bool true := h12
    clear h12
    replace B2 := Lib.hid (B2.out.touch hS notin_nil)
    replace HT := Lib.hid (HT.out.trans hS)
    clear hS
    simp only [setAll, List.setIfInBounds_toArray, List.set_cons_zero, List.set_cons_succ, e12]
    show wpList _ _ _ [] _ _
    refine wpList_nil ?_
    clear e12
    go_upto_region 2 with fail
    refine wp_region_list (wpList_flowP 1 (lookW [(13, pu (isV (rpS (toS (0)) (toS (1)) (toS (1)))))]) [] [13] [13] (by kernel_rfl) (by kernel_rfl) (by kernel_rfl) trivial ?_ ?_)
    · refine FStepsW.cons (FStepW.plain rfl fun a w hS hE => OpTo.call #[] rfl Try.func24 (by kernel_rfl) (by kernel_rfl) (args0 ..) ((rzero_v w).mono fun _ _ h => Gives.toW 13 rfl (fun _ _ h => h) h)) ?_
      exact FStepsW.nil
    intro f w3 hS hF
    obtain ⟨h13, -⟩ := hF
    have e13 : f 13 = rpS (toS (0)) (toS (1)) (toS (1)) := h13
    clear h13
    replace B2 := Lib.hid (B2.out.touch hS notin_nil)
    replace HT := Lib.hid (HT.out.trans hS)
    clear hS
    simp only [setAll, List.setIfInBounds_toArray, List.set_cons_zero, List.set_cons_succ, e13]
    show wpList _ _ _ [_, _] _ _
    refine wpList_store_row rfl 33 (.tmp 2) (.tmp 13) rfl g2 #[.string (toS (0)), .string (toS (1)), .string (toS (1))] rfl rfl 33 #[.string ⟨#[]⟩, .string ⟨#[]⟩, .string ⟨#[]⟩] B2.out infoR rfl (rp_one ..) ?_
    refine wpList_run (v := .int .i64 9) rfl (exec_assignV rfl rfl) ?_
    refine wpList_nil ?_
    simp only [Act.put, List.setIfInBounds_toArray, List.set_cons_zero, List.set_cons_succ]
    have B2' := (B2.out.setRow #[.string (toS (0)), .string (toS (1)), .string (toS (1))])
    have HT' := (HT.out.setRowE (.inr HB2.out) #[.string (toS (0)), .string (toS (1)), .string (toS (1))])
    obtain ⟨w4, hw4⟩ : ∃ w4, w4 = (w3.setRow g2 #[.string (toS (0)), .string (toS (1)), .string (toS (1))]) := ⟨_, rfl⟩
    rw [← hw4] at HT' B2'
    rw [← hw4]
    clear hw4 HT B2
    have B2 := Lib.hid B2'
    clear B2'
    have HT := Lib.hid HT'
    clear HT'
    clear e13
    go_wp2_with fail
    rw [decP_no HN.out, decC_no HN.out]
    exact rd_ret Try.results10 rfl rfl 33 B2.out HT.out ⟨0, 1, 1, rrep_zero, rfl⟩
  case pos =>
    have K12 := Lib.hid (show decide ((s.size : Int) = 32) = true from decide_eq_true (by omega))
    have K31 := Lib.hid (show 31 < s.size by omega)
    have H32 := Lib.hid h32
    obtain ⟨b, hb⟩ : ∃ b, b = (bl s).getD 31 0 := ⟨_, rfl⟩
    have hb256 : b < 256 := hb ▸ byte_lt s 31
    have K17 := Lib.hid hb
    have KY := Lib.hid (yS_eq h32)
    have KS := Lib.hid (yS_size h32)
    rw [← hb] at KY KS
    have KL := Lib.hid (dyN_lt s)
    have H31 := Lib.hid (show (31 : Int) ≤ (s.size : Int) by omega)
    have KR : Hid ((b : Int).tmod 128 = ((b % 128 : Nat) : Int)) := Lib.hid (by rw [Int.tmod_eq_emod_of_nonneg (by omega)]; omega)
    have KO : Hid (oddS s = decide ((128 : Int) ≤ (b : Int))) := Lib.hid (by
      unfold oddS
      rw [← hb]
      exact decide_eq_decide.2 (by omega))
    clear h32 hb hb256
    go_enter Try.func10, Try.ntmps10
    go_upto_region 0 with fail
    refine wp_region_list ?_
    refine wpList_run rfl (exec_alloc_rp rfl) ?_
    refine wpList_run (v := .int .i64 0) rfl (exec_assignV rfl rfl) ?_
    refine wpList_nil ?_
    simp only [Act.put, List.setIfInBounds_toArray, List.set_cons_zero, List.set_cons_succ]
    obtain ⟨w1, g2, hW, eg2, b2, ht, hb2⟩ := start1 w 33 #[.string ⟨#[]⟩, .string ⟨#[]⟩, .string ⟨#[]⟩]
    rw [← hW]
    rw [← eg2]
    have HT := Lib.hid ht
    have B2 := Lib.hid b2
    have HB2 := Lib.hid hb2
    clear hW eg2 b2 ht hb2
    go_upto_region 1 with fail
    refine wp_region_list (wpList_flowP 3 (lookW [(0, pu (isS (s))), (10, pu (isS (s))), (11, pu (isV (.int .i64 (((s).size : Int))))), (12, pu (isB false))]) [0] [10, 11, 12] [12] (by kernel_rfl) (by kernel_rfl) (by kernel_rfl) ⟨rfl, trivial⟩ ?_ ?_)
    · refine FStepsW.cons (FStepW.plain rfl fun a w hS hE => OpTo.move rfl ⟨dOfW.of 10 rfl (hE 0 (by kernel_rfl)), Touch.refl _ _⟩) ?_
      refine FStepsW.cons (FStepW.plain rfl fun a w hS hE => OpTo.lenS Try.underlying9 (s) rfl (hE 10 (by kernel_rfl)) ⟨dOfW.of 11 rfl rfl, Touch.refl _ _⟩) ?_
      refine FStepsW.cons (FStepW.plain rfl fun a w hS hE => OpTo.neI (((s).size : Int)) (32) rfl (hE 11 (by kernel_rfl)) rfl ⟨dOfW.of 12 rfl (by rw [K12.out]; rfl), Touch.refl _ _⟩) ?_
      exact FStepsW.nil
    intro f w2 hS hF
    obtain ⟨h12, -⟩ := hF
    have e12 : f 12 = .bool false := h12
    clear h12
    replace B2 := Lib.hid (B2.out.touch hS notin_nil)
    replace HT := Lib.hid (HT.out.trans hS)
    clear hS
    simp only [setAll, List.setIfInBounds_toArray, List.set_cons_zero, List.set_cons_succ, e12]
    show wpList _ _ _ [] _ _
    refine wpList_nil ?_
    clear e12
    go_upto_region 3 with fail
    refine wp_region_list (wpList_flowP 3 (lookW [(0, pu (isS (s))), (14, pu (isS (s))), (15, pu (isV (.int .u8 ((b : Int))))), (16, pu (isB (oddS s)))]) [0] [14, 15, 16] [16] (by kernel_rfl) (by kernel_rfl) (by kernel_rfl) ⟨rfl, trivial⟩ ?_ ?_)
    · refine FStepsW.cons (FStepW.plain rfl fun a w hS hE => OpTo.move rfl ⟨dOfW.of 14 rfl (hE 0 (by kernel_rfl)), Touch.refl _ _⟩) ?_
      refine FStepsW.cons (FStepW.plain rfl fun a w hS hE => OpTo.indexS Try.underlying9 (s) (31) rfl (hE 14 (by kernel_rfl)) rfl K31.out ⟨dOfW.of 15 rfl (by rw [← K17.out]; rfl), Touch.refl _ _⟩) ?_
      refine FStepsW.cons (FStepW.plain rfl fun a w hS hE => OpTo.pureG (v := .bool (oddS s)) 16 rfl (by have h15 : a.eval (.tmp 15) = .int .u8 (b : Int) := hE 15 (by kernel_rfl); have ko := KO.out; rw [ko]; unfold execOp; simp only [h15]; go_simp) rfl) ?_
      exact FStepsW.nil
    intro f w3 hS hF
    obtain ⟨h16, -⟩ := hF
    have e16 : f 16 = .bool (oddS s) := h16
    clear h16
    replace B2 := Lib.hid (B2.out.touch hS notin_nil)
    replace HT := Lib.hid (HT.out.trans hS)
    clear hS
    simp only [setAll, List.setIfInBounds_toArray, List.set_cons_zero, List.set_cons_succ, e16]
    show wpList _ _ _ [_] _ _
    refine wpList_run (v := .bool (oddS s)) rfl (exec_assignV rfl rfl) ?_
    refine wpList_nil ?_
    simp only [Act.put, List.setIfInBounds_toArray, List.set_cons_zero, List.set_cons_succ]
    clear e16
    go_upto_region 4 with fail
    by_cases hP : dyN s < PP
    case neg =>
      have HC := Lib.hid (show ofC (toS (dyN s)) = 3 by rw [ofC_toS KL.out, if_neg hP])
      have HV := Lib.hid (show ofN (toS (dyN s)) = 0 by unfold ofN; rw [HC.out]; rfl)
      have HN := Lib.hid (show ¬ decOK s from fun h => hP h.2.1)
      clear hP
      refine wp_region_flowX (lookW [(0, pu (isS (s))), (5, pu (isS (toS (0)))), (6, pu (isV (.int .i64 (3)))), (17, pu (Tup (isS (toS (0))) (.int .i64 (3)))), (18, pu (isS (s))), (19, pu (isS (s.extract 0 31))), (20, pu (isS (s))), (21, pu (isV (.int .u8 ((b : Int))))), (22, pu (isV (.int .u8 (((b % 128 : Nat) : Int))))), (23, sl1 (((b % 128 : Nat) : Int))), (24, pu (isS (strOfNums [((b % 128 : Nat) : Int)]))), (25, pu (isS (toS (dyN s)))), (26, pu (Tup (isS (toS (0))) (.int .i64 (3)))), (27, pu (isS (toS (0)))), (28, pu (isV (.int .i64 (3))))]) (by kernel_rfl) 14 [] (fun d _ _ _ _ h => by cases d <;> exact h) (by intro l hl; cases hl) [0] [18, 19, 20, 21, 22, 23, 24, 25, 26, 17, 27, 28, 5, 6] [5, 6] [] (by kernel_rfl) (by kernel_rfl) (by kernel_rfl) (by kernel_rfl) (by kernel_rfl) (by kernel_rfl) ⟨rfl, trivial⟩ ?_ ?_
      · refine FStepsX.cons rfl (FStepW.plain rfl fun a w hS hE => OpTo.move rfl ⟨dOfW.of 18 rfl (hE 0 (by kernel_rfl)), Touch.refl _ _⟩) ?_
        refine FStepsX.cons rfl (FStepW.plain rfl fun a w hS hE => OpTo.pureG (v := .string (s.extract 0 31)) 19 rfl (by have h18 : a.eval (.tmp 18) = .string s := hE 18 (by kernel_rfl); have k31 := H31.out; unfold execOp; simp only [h18]; go_simp) rfl) ?_
        refine FStepsX.cons rfl (FStepW.plain rfl fun a w hS hE => OpTo.move rfl ⟨dOfW.of 20 rfl (hE 0 (by kernel_rfl)), Touch.refl _ _⟩) ?_
        refine FStepsX.cons rfl (FStepW.plain rfl fun a w hS hE => OpTo.indexS Try.underlying9 (s) (31) rfl (hE 20 (by kernel_rfl)) rfl K31.out ⟨dOfW.of 21 rfl (by rw [← K17.out]; rfl), Touch.refl _ _⟩) ?_
        refine FStepsX.cons rfl (FStepW.plain rfl fun a w hS hE => OpTo.remI ((b : Int)) (128) (((b % 128 : Nat) : Int)) (by decide) rfl (hE 21 (by kernel_rfl)) rfl KR.out ⟨dOfW.of 22 rfl rfl, Touch.refl _ _⟩) ?_
        refine FStepsX.cons rfl (FStepW.plain rfl fun a w hS hE => OpTo.one (((b % 128 : Nat) : Int)) rfl (hE 22 (by kernel_rfl)) (fun _ _ h => dOfW.of 23 rfl h)) ?_
        refine FStepsX.cons rfl (FStepW.plain rfl fun a w hS hE => OpTo.str1 (((b % 128 : Nat) : Int)) rfl (hE 23 (by kernel_rfl)) (dOfW.of 24 rfl rfl)) ?_
        refine FStepsX.cons rfl (FStepW.plain rfl fun a w hS hE => OpTo.addS (s.extract 0 31) (strOfNums [((b % 128 : Nat) : Int)]) rfl (hE 19 (by kernel_rfl)) (hE 24 (by kernel_rfl)) KS.out ⟨dOfW.of 25 rfl (by rw [KY.out]; rfl), Touch.refl _ _⟩) ?_
        refine FStepsX.cons rfl (FStepW.plain rfl fun a w hS hE => OpTo.call #[a.tmps.getD 25 undef] rfl Try.func37 (by kernel_rfl) (by kernel_rfl) (args1 ..) ((rof_v (hE 25 (by kernel_rfl)) HV.out HC.out w).mono fun _ _ h => Gives.toW 26 rfl (fun _ _ h => h) h)) ?_
        refine FStepsX.cons rfl (FStepW.plain rfl fun a w hS hE => OpTo.move rfl ⟨dOfW.of 17 rfl (hE 26 (by kernel_rfl)), Touch.refl _ _⟩) ?_
        refine FStepsX.cons rfl (FStepW.plain rfl fun a w hS hE => OpTo.ext0 27 _ rfl rfl (hE 17 (by kernel_rfl)) (fun _ h => h)) ?_
        refine FStepsX.cons rfl (FStepW.plain rfl fun a w hS hE => OpTo.ext1 28 _ rfl rfl (hE 17 (by kernel_rfl)) rfl) ?_
        refine FStepsX.cons rfl (FStepW.plain rfl fun a w hS hE => OpTo.assign rfl ⟨dOfW.of 5 rfl (hE 27 (by kernel_rfl)), Touch.refl _ _⟩) ?_
        refine FStepsX.cons rfl (FStepW.plain rfl fun a w hS hE => OpTo.assign rfl ⟨dOfW.of 6 rfl (hE 28 (by kernel_rfl)), Touch.refl _ _⟩) ?_
        exact FStepsX.nil
      intro f w4 hS hF hA
      obtain ⟨h5, h6, -⟩ := hF
      have e5 : f 5 = .string (toS (0)) := h5
      clear h5
      have e6 : f 6 = .int .i64 (3) := h6
      clear h6
      clear hA
      replace B2 := Lib.hid (B2.out.touch hS notin_nil)
      replace HT := Lib.hid (HT.out.trans hS)
      clear hS
      simp only [setAll, List.setIfInBounds_toArray, List.set_cons_zero, List.set_cons_succ, e5, e6]
      show wpList _ _ _ [] _ _
      refine wpList_nil ?_
      clear e5 e6
      go_upto_region 5 with fail
      refine wp_region_list (wpList_flowP 2 (lookW [(6, pu (isV (.int .i64 (3)))), (29, pu (isV (.int .i64 (3)))), (30, pu (isB true))]) [6] [29, 30] [30] (by kernel_rfl) (by kernel_rfl) (by kernel_rfl) ⟨rfl, trivial⟩ ?_ ?_)
      · refine FStepsW.cons (FStepW.plain rfl fun a w hS hE => OpTo.move rfl ⟨dOfW.of 29 rfl (hE 6 (by kernel_rfl)), Touch.refl _ _⟩) ?_
        refine FStepsW.cons (FStepW.plain rfl fun a w hS hE => OpTo.neI (3) (0) rfl (hE 29 (by kernel_rfl)) rfl ⟨dOfW.of 30 rfl (by rw [(decide_eq_false (by decide) : decide ((3 : Int) = 0) = false)]; rfl), Touch.refl _ _⟩) ?_
        exact FStepsW.nil
      intro f w5 hS hF
      obtain ⟨h30, -⟩ := hF
      have e30 : f 30 = .bool true := h30
      clear h30
      replace B2 := Lib.hid (B2.out.touch hS notin_nil)
      replace HT := Lib.hid (HT.out.trans hS)
      clear hS
      simp only [setAll, List.setIfInBounds_toArray, List.set_cons_zero, List.set_cons_succ, e30]
      show wpList _ _ _ [] _ _
      refine wpList_nil ?_
      clear e30
      go_upto_region 6 with fail
      refine wp_region_list (wpList_flowP 1 (lookW [(31, pu (isV (rpS (toS (0)) (toS (1)) (toS (1)))))]) [] [31] [31] (by kernel_rfl) (by kernel_rfl) (by kernel_rfl) trivial ?_ ?_)
      · refine FStepsW.cons (FStepW.plain rfl fun a w hS hE => OpTo.call #[] rfl Try.func24 (by kernel_rfl) (by kernel_rfl) (args0 ..) ((rzero_v w).mono fun _ _ h => Gives.toW 31 rfl (fun _ _ h => h) h)) ?_
        exact FStepsW.nil
      intro f w6 hS hF
      obtain ⟨h31, -⟩ := hF
      have e31 : f 31 = rpS (toS (0)) (toS (1)) (toS (1)) := h31
      clear h31
      replace B2 := Lib.hid (B2.out.touch hS notin_nil)
      replace HT := Lib.hid (HT.out.trans hS)
      clear hS
      simp only [setAll, List.setIfInBounds_toArray, List.set_cons_zero, List.set_cons_succ, e31]
      show wpList _ _ _ [_, _] _ _
      refine wpList_store_row rfl 33 (.tmp 2) (.tmp 31) rfl g2 #[.string (toS (0)), .string (toS (1)), .string (toS (1))] rfl rfl 33 #[.string ⟨#[]⟩, .string ⟨#[]⟩, .string ⟨#[]⟩] B2.out infoR rfl (rp_one ..) ?_
      refine wpList_run (v := .int .i64 9) rfl (exec_assignV rfl rfl) ?_
      refine wpList_nil ?_
      simp only [Act.put, List.setIfInBounds_toArray, List.set_cons_zero, List.set_cons_succ]
      have B2' := (B2.out.setRow #[.string (toS (0)), .string (toS (1)), .string (toS (1))])
      have HT' := (HT.out.setRowE (.inr HB2.out) #[.string (toS (0)), .string (toS (1)), .string (toS (1))])
      obtain ⟨w7, hw7⟩ : ∃ w7, w7 = (w6.setRow g2 #[.string (toS (0)), .string (toS (1)), .string (toS (1))]) := ⟨_, rfl⟩
      rw [← hw7] at HT' B2'
      rw [← hw7]
      clear hw7 HT B2
      have B2 := Lib.hid B2'
      clear B2'
      have HT := Lib.hid HT'
      clear HT'
      clear e31
      go_wp2_with fail
      rw [decP_no HN.out, decC_no HN.out]
      exact rd_ret Try.results10 rfl rfl 33 B2.out HT.out ⟨0, 1, 1, rrep_zero, rfl⟩
    case pos =>
      have HC := Lib.hid (show ofC (toS (dyN s)) = 0 by rw [ofC_toS KL.out, if_pos hP])
      have HV := Lib.hid (show ofN (toS (dyN s)) = dyN s from ofN_toS hP)
      have HP := Lib.hid hP
      clear hP
      refine wp_region_flowX (lookW [(0, pu (isS (s))), (5, pu (isS (toS (dyN s)))), (6, pu (isV (.int .i64 (0)))), (17, pu (Tup (isS (toS (dyN s))) (.int .i64 (0)))), (18, pu (isS (s))), (19, pu (isS (s.extract 0 31))), (20, pu (isS (s))), (21, pu (isV (.int .u8 ((b : Int))))), (22, pu (isV (.int .u8 (((b % 128 : Nat) : Int))))), (23, sl1 (((b % 128 : Nat) : Int))), (24, pu (isS (strOfNums [((b % 128 : Nat) : Int)]))), (25, pu (isS (toS (dyN s)))), (26, pu (Tup (isS (toS (dyN s))) (.int .i64 (0)))), (27, pu (isS (toS (dyN s)))), (28, pu (isV (.int .i64 (0))))]) (by kernel_rfl) 14 [] (fun d _ _ _ _ h => by cases d <;> exact h) (by intro l hl; cases hl) [0] [18, 19, 20, 21, 22, 23, 24, 25, 26, 17, 27, 28, 5, 6] [5, 6] [] (by kernel_rfl) (by kernel_rfl) (by kernel_rfl) (by kernel_rfl) (by kernel_rfl) (by kernel_rfl) ⟨rfl, trivial⟩ ?_ ?_
      · refine FStepsX.cons rfl (FStepW.plain rfl fun a w hS hE => OpTo.move rfl ⟨dOfW.of 18 rfl (hE 0 (by kernel_rfl)), Touch.refl _ _⟩) ?_
        refine FStepsX.cons rfl (FStepW.plain rfl fun a w hS hE => OpTo.pureG (v := .string (s.extract 0 31)) 19 rfl (by have h18 : a.eval (.tmp 18) = .string s := hE 18 (by kernel_rfl); have k31 := H31.out; unfold execOp; simp only [h18]; go_simp) rfl) ?_
        refine FStepsX.cons rfl (FStepW.plain rfl fun a w hS hE => OpTo.move rfl ⟨dOfW.of 20 rfl (hE 0 (by kernel_rfl)), Touch.refl _ _⟩) ?_
        refine FStepsX.cons rfl (FStepW.plain rfl fun a w hS hE => OpTo.indexS Try.underlying9 (s) (31) rfl (hE 20 (by kernel_rfl)) rfl K31.out ⟨dOfW.of 21 rfl (by rw [← K17.out]; rfl), Touch.refl _ _⟩) ?_
        refine FStepsX.cons rfl (FStepW.plain rfl fun a w hS hE => OpTo.remI ((b : Int)) (128) (((b % 128 : Nat) : Int)) (by decide) rfl (hE 21 (by kernel_rfl)) rfl KR.out ⟨dOfW.of 22 rfl rfl, Touch.refl _ _⟩) ?_
        refine FStepsX.cons rfl (FStepW.plain rfl fun a w hS hE => OpTo.one (((b % 128 : Nat) : Int)) rfl (hE 22 (by kernel_rfl)) (fun _ _ h => dOfW.of 23 rfl h)) ?_
        refine FStepsX.cons rfl (FStepW.plain rfl fun a w hS hE => OpTo.str1 (((b % 128 : Nat) : Int)) rfl (hE 23 (by kernel_rfl)) (dOfW.of 24 rfl rfl)) ?_
        refine FStepsX.cons rfl (FStepW.plain rfl fun a w hS hE => OpTo.addS (s.extract 0 31) (strOfNums [((b % 128 : Nat) : Int)]) rfl (hE 19 (by kernel_rfl)) (hE 24 (by kernel_rfl)) KS.out ⟨dOfW.of 25 rfl (by rw [KY.out]; rfl), Touch.refl _ _⟩) ?_
        refine FStepsX.cons rfl (FStepW.plain rfl fun a w hS hE => OpTo.call #[a.tmps.getD 25 undef] rfl Try.func37 (by kernel_rfl) (by kernel_rfl) (args1 ..) ((rof_v (hE 25 (by kernel_rfl)) HV.out HC.out w).mono fun _ _ h => Gives.toW 26 rfl (fun _ _ h => h) h)) ?_
        refine FStepsX.cons rfl (FStepW.plain rfl fun a w hS hE => OpTo.move rfl ⟨dOfW.of 17 rfl (hE 26 (by kernel_rfl)), Touch.refl _ _⟩) ?_
        refine FStepsX.cons rfl (FStepW.plain rfl fun a w hS hE => OpTo.ext0 27 _ rfl rfl (hE 17 (by kernel_rfl)) (fun _ h => h)) ?_
        refine FStepsX.cons rfl (FStepW.plain rfl fun a w hS hE => OpTo.ext1 28 _ rfl rfl (hE 17 (by kernel_rfl)) rfl) ?_
        refine FStepsX.cons rfl (FStepW.plain rfl fun a w hS hE => OpTo.assign rfl ⟨dOfW.of 5 rfl (hE 27 (by kernel_rfl)), Touch.refl _ _⟩) ?_
        refine FStepsX.cons rfl (FStepW.plain rfl fun a w hS hE => OpTo.assign rfl ⟨dOfW.of 6 rfl (hE 28 (by kernel_rfl)), Touch.refl _ _⟩) ?_
        exact FStepsX.nil
      intro f w4 hS hF hA
      obtain ⟨h5, h6, -⟩ := hF
      have e5 : f 5 = .string (toS (dyN s)) := h5
      clear h5
      have e6 : f 6 = .int .i64 (0) := h6
      clear h6
      clear hA
      replace B2 := Lib.hid (B2.out.touch hS notin_nil)
      replace HT := Lib.hid (HT.out.trans hS)
      clear hS
      simp only [setAll, List.setIfInBounds_toArray, List.set_cons_zero, List.set_cons_succ, e5, e6]
      show wpList _ _ _ [] _ _
      refine wpList_nil ?_
      clear e5 e6
      go_upto_region 5 with fail
      refine wp_region_list (wpList_flowP 2 (lookW [(6, pu (isV (.int .i64 (0)))), (29, pu (isV (.int .i64 (0)))), (30, pu (isB false))]) [6] [29, 30] [30] (by kernel_rfl) (by kernel_rfl) (by kernel_rfl) ⟨rfl, trivial⟩ ?_ ?_)
      · refine FStepsW.cons (FStepW.plain rfl fun a w hS hE => OpTo.move rfl ⟨dOfW.of 29 rfl (hE 6 (by kernel_rfl)), Touch.refl _ _⟩) ?_
        refine FStepsW.cons (FStepW.plain rfl fun a w hS hE => OpTo.neI (0) (0) rfl (hE 29 (by kernel_rfl)) rfl ⟨dOfW.of 30 rfl (by rw [(decide_eq_true (by decide) : decide ((0 : Int) = 0) = true)]; rfl), Touch.refl _ _⟩) ?_
        exact FStepsW.nil
      intro f w5 hS hF
      obtain ⟨h30, -⟩ := hF
      have e30 : f 30 = .bool false := h30
      clear h30
      replace B2 := Lib.hid (B2.out.touch hS notin_nil)
      replace HT := Lib.hid (HT.out.trans hS)
      clear hS
      simp only [setAll, List.setIfInBounds_toArray, List.set_cons_zero, List.set_cons_succ, e30]
      show wpList _ _ _ [] _ _
      refine wpList_nil ?_
      clear e30
      go_upto_region 7 with fail
      refine wp_region_list (wpList_flowP 4 (lookW [(5, pu (isS (toS (dyN s)))), (7, pu (isS (toS (mulF (dyN s) (dyN s))))), (32, pu (isS (toS (dyN s)))), (33, pu (isS (toS (dyN s)))), (34, pu (isS (toS (mulF (dyN s) (dyN s)))))]) [5] [32, 33, 34, 7] [7] (by kernel_rfl) (by kernel_rfl) (by kernel_rfl) ⟨rfl, trivial⟩ ?_ ?_)
      · refine FStepsW.cons (FStepW.plain rfl fun a w hS hE => OpTo.move rfl ⟨dOfW.of 32 rfl (hE 5 (by kernel_rfl)), Touch.refl _ _⟩) ?_
        refine FStepsW.cons (FStepW.plain rfl fun a w hS hE => OpTo.move rfl ⟨dOfW.of 33 rfl (hE 5 (by kernel_rfl)), Touch.refl _ _⟩) ?_
        refine FStepsW.cons (FStepW.plain rfl fun a w hS hE => OpTo.call #[a.tmps.getD 32 undef, a.tmps.getD 33 undef] rfl Try.func38 (by kernel_rfl) (by kernel_rfl) (args2 ..) ((rmul_v (hE 32 (by kernel_rfl)) (hE 33 (by kernel_rfl)) HP.out HP.out w).mono fun _ _ h => Gives.toW 34 rfl (fun _ _ h => h) h)) ?_
        refine FStepsW.cons (FStepW.plain rfl fun a w hS hE => OpTo.assign rfl ⟨dOfW.of 7 rfl (hE 34 (by kernel_rfl)), Touch.refl _ _⟩) ?_
        exact FStepsW.nil
      intro f w6 hS hF
      obtain ⟨h7, -⟩ := hF
      have e7 : f 7 = .string (toS (mulF (dyN s) (dyN s))) := h7
      clear h7
      replace B2 := Lib.hid (B2.out.touch hS notin_nil)
      replace HT := Lib.hid (HT.out.trans hS)
      clear hS
      simp only [setAll, List.setIfInBounds_toArray, List.set_cons_zero, List.set_cons_succ, e7]
      show wpList _ _ _ [] _ _
      refine wpList_nil ?_
      clear e7
      go_upto_region 8 with fail
      refine wp_region_list (wpList_flowP 16 (lookW [(7, pu (isS (toS (mulF (dyN s) (dyN s))))), (8, pu (isS (toS (rootN (argN (dyN s)))))), (9, pu (isB (isN (argN (dyN s))))), (35, pu (Tup (isS (toS (rootN (argN (dyN s))))) (.bool (isN (argN (dyN s)))))), (36, pu (isS (toS (mulF (dyN s) (dyN s))))), (37, pu (isS (toS (1)))), (38, pu (isS (toS (subF (mulF (dyN s) (dyN s)) (1))))), (39, pu (isS (toS (DN)))), (40, pu (isS (toS (mulF (dyN s) (dyN s))))), (41, pu (isS (toS (mulF (DN) (mulF (dyN s) (dyN s)))))), (42, pu (isS (toS (1)))), (43, pu (isS (toS (addF (mulF (DN) (mulF (dyN s) (dyN s))) (1))))), (44, pu (isS (toS (invF (addF (mulF (DN) (mulF (dyN s) (dyN s))) (1)))))), (45, pu (isS (toS (mulF (subF (mulF (dyN s) (dyN s)) (1)) (invF (addF (mulF (DN) (mulF (dyN s) (dyN s))) (1))))))), (46, pu (Tup (isS (toS (rootN (argN (dyN s))))) (.bool (isN (argN (dyN s)))))), (47, pu (isS (toS (rootN (argN (dyN s)))))), (48, pu (isB (isN (argN (dyN s)))))]) [7] [36, 37, 38, 39, 40, 41, 42, 43, 44, 45, 46, 35, 47, 48, 8, 9] [8, 9] (by kernel_rfl) (by kernel_rfl) (by kernel_rfl) ⟨rfl, trivial⟩ ?_ ?_)
      · refine FStepsW.cons (FStepW.plain rfl fun a w hS hE => OpTo.move rfl ⟨dOfW.of 36 rfl (hE 7 (by kernel_rfl)), Touch.refl _ _⟩) ?_
        refine FStepsW.cons (FStepW.plain rfl fun a w hS hE => OpTo.call #[.int .u64 1] rfl Try.func41 (by kernel_rfl) (by kernel_rfl) (args1 ..) ((rnum_v 1 (by decide) w).mono fun _ _ h => Gives.toW 37 rfl (fun _ _ h => h) h)) ?_
        refine FStepsW.cons (FStepW.plain rfl fun a w hS hE => OpTo.call #[a.tmps.getD 36 undef, a.tmps.getD 37 undef] rfl Try.func40 (by kernel_rfl) (by kernel_rfl) (args2 ..) ((rsub_v (hE 36 (by kernel_rfl)) (hE 37 (by kernel_rfl)) (mulF_lt ..) (by decide) w).mono fun _ _ h => Gives.toW 38 rfl (fun _ _ h => h) h)) ?_
        refine FStepsW.cons (FStepW.plain rfl fun a w hS hE => OpTo.call #[] rfl Try.func44 (by kernel_rfl) (by kernel_rfl) (args0 ..) ((rd_v w).mono fun _ _ h => Gives.toW 39 rfl (fun _ _ h => h) h)) ?_
        refine FStepsW.cons (FStepW.plain rfl fun a w hS hE => OpTo.move rfl ⟨dOfW.of 40 rfl (hE 7 (by kernel_rfl)), Touch.refl _ _⟩) ?_
        refine FStepsW.cons (FStepW.plain rfl fun a w hS hE => OpTo.call #[a.tmps.getD 39 undef, a.tmps.getD 40 undef] rfl Try.func38 (by kernel_rfl) (by kernel_rfl) (args2 ..) ((rmul_v (hE 39 (by kernel_rfl)) (hE 40 (by kernel_rfl)) DN_lt (mulF_lt ..) w).mono fun _ _ h => Gives.toW 41 rfl (fun _ _ h => h) h)) ?_
        refine FStepsW.cons (FStepW.plain rfl fun a w hS hE => OpTo.call #[.int .u64 1] rfl Try.func41 (by kernel_rfl) (by kernel_rfl) (args1 ..) ((rnum_v 1 (by decide) w).mono fun _ _ h => Gives.toW 42 rfl (fun _ _ h => h) h)) ?_
        refine FStepsW.cons (FStepW.plain rfl fun a w hS hE => OpTo.call #[a.tmps.getD 41 undef, a.tmps.getD 42 undef] rfl Try.func43 (by kernel_rfl) (by kernel_rfl) (args2 ..) ((radd_v (hE 41 (by kernel_rfl)) (hE 42 (by kernel_rfl)) (mulF_lt ..) (by decide) w).mono fun _ _ h => Gives.toW 43 rfl (fun _ _ h => h) h)) ?_
        refine FStepsW.cons (FStepW.plain rfl fun a w hS hE => OpTo.call #[a.tmps.getD 43 undef] rfl Try.func42 (by kernel_rfl) (by kernel_rfl) (args1 ..) ((rinv_v (hE 43 (by kernel_rfl)) (addF_lt ..) w).mono fun _ _ h => Gives.toW 44 rfl (fun _ _ h => h) h)) ?_
        refine FStepsW.cons (FStepW.plain rfl fun a w hS hE => OpTo.call #[a.tmps.getD 38 undef, a.tmps.getD 44 undef] rfl Try.func38 (by kernel_rfl) (by kernel_rfl) (args2 ..) ((rmul_v (hE 38 (by kernel_rfl)) (hE 44 (by kernel_rfl)) (subF_lt ..) (invF_lt _) w).mono fun _ _ h => Gives.toW 45 rfl (fun _ _ h => h) h)) ?_
        refine FStepsW.cons (FStepW.plain rfl fun a w hS hE => OpTo.call #[a.tmps.getD 45 undef] rfl Try.func39 (by kernel_rfl) (by kernel_rfl) (args1 ..) ((rroot_v (hE 45 (by kernel_rfl)) (mulF_lt ..) w).mono fun _ _ h => Gives.toW 46 rfl (fun _ _ h => h) h)) ?_
        refine FStepsW.cons (FStepW.plain rfl fun a w hS hE => OpTo.move rfl ⟨dOfW.of 35 rfl (hE 46 (by kernel_rfl)), Touch.refl _ _⟩) ?_
        refine FStepsW.cons (FStepW.plain rfl fun a w hS hE => OpTo.ext0 47 _ rfl rfl (hE 35 (by kernel_rfl)) (fun _ h => h)) ?_
        refine FStepsW.cons (FStepW.plain rfl fun a w hS hE => OpTo.ext1 48 _ rfl rfl (hE 35 (by kernel_rfl)) rfl) ?_
        refine FStepsW.cons (FStepW.plain rfl fun a w hS hE => OpTo.assign rfl ⟨dOfW.of 8 rfl (hE 47 (by kernel_rfl)), Touch.refl _ _⟩) ?_
        refine FStepsW.cons (FStepW.plain rfl fun a w hS hE => OpTo.assign rfl ⟨dOfW.of 9 rfl (hE 48 (by kernel_rfl)), Touch.refl _ _⟩) ?_
        exact FStepsW.nil
      intro f w7 hS hF
      obtain ⟨h8, h9, -⟩ := hF
      have e8 : f 8 = .string (toS (rootN (argN (dyN s)))) := h8
      clear h8
      have e9 : f 9 = .bool (isN (argN (dyN s))) := h9
      clear h9
      replace B2 := Lib.hid (B2.out.touch hS notin_nil)
      replace HT := Lib.hid (HT.out.trans hS)
      clear hS
      simp only [setAll, List.setIfInBounds_toArray, List.set_cons_zero, List.set_cons_succ, e8, e9]
      show wpList _ _ _ [] _ _
      refine wpList_nil ?_
      clear e8 e9
      go_upto_region 9 with fail
      by_cases hi : isN (argN (dyN s)) = true
      case neg =>
        have hf : isN (argN (dyN s)) = false := by simpa using hi
        have HN := Lib.hid (show ¬ decOK s from fun h => hi h.2.2.1)
        simp only [hf]
        clear hi hf
        refine wp_region_list (wpList_flowP 10 (lookW [(4, pu (isB (oddS s))), (8, pu (isS (toS (rootN (argN (dyN s)))))), (9, pu (isB false)), (49, pu (isB false)), (50, pu (isB true)), (51, pu (isB true)), (52, pu (isU)), (53, pu (isU)), (54, pu (isU)), (55, pu (isU)), (56, pu (isU)), (57, pu (isU)), (58, pu (isB true))]) [4, 8, 9] [49, 50, 51, 52, 53, 54, 55, 56, 57, 58] [58] (by kernel_rfl) (by kernel_rfl) (by kernel_rfl) ⟨rfl, rfl, rfl, trivial⟩ ?_ ?_)
        · refine FStepsW.cons (FStepW.plain rfl fun a w hS hE => OpTo.move rfl ⟨dOfW.of 49 rfl (hE 9 (by kernel_rfl)), Touch.refl _ _⟩) ?_
          refine FStepsW.cons (FStepW.plain rfl fun a w hS hE => OpTo.not false rfl (hE 49 (by kernel_rfl)) ⟨dOfW.of 50 rfl (Eq.refl (Value.bool true)), Touch.refl _ _⟩) ?_
          refine FStepsW.cons (FStepW.plain rfl fun a w hS hE => OpTo.move rfl ⟨dOfW.of 51 rfl (hE 50 (by kernel_rfl)), Touch.refl _ _⟩) ?_
          refine FStepsW.cons (FStepW.no 51 rfl rfl (fun _ _ h => h) (fun _ => dOfW.of 52 rfl rfl)) ?_
          refine FStepsW.cons (FStepW.no 51 rfl rfl (fun _ _ h => h) (fun _ => dOfW.of 53 rfl rfl)) ?_
          refine FStepsW.cons (FStepW.noU 53 rfl rfl (fun _ _ h => h) (fun _ => dOfW.of 54 rfl rfl)) ?_
          refine FStepsW.cons (FStepW.noU 53 rfl rfl (fun _ _ h => h) (fun _ => dOfW.of 55 rfl rfl)) ?_
          refine FStepsW.cons (FStepW.noU 53 rfl rfl (fun _ _ h => h) (fun _ => dOfW.of 56 rfl rfl)) ?_
          refine FStepsW.cons (FStepW.no 51 rfl rfl (fun _ _ h => h) (fun _ => dOfW.of 57 rfl rfl)) ?_
          refine FStepsW.cons (FStepW.plain rfl fun a w hS hE => OpTo.pick true rfl (hE 51 (by kernel_rfl)) ⟨dOfW.of 58 rfl (Eq.refl (Value.bool true)), Touch.refl _ _⟩) ?_
          exact FStepsW.nil
        intro f w8 hS hF
        obtain ⟨h58, -⟩ := hF
        have e58 : f 58 = .bool true := h58
        clear h58
        replace B2 := Lib.hid (B2.out.touch hS notin_nil)
        replace HT := Lib.hid (HT.out.trans hS)
        clear hS
        simp only [setAll, List.setIfInBounds_toArray, List.set_cons_zero, List.set_cons_succ, e58]
        show wpList _ _ _ [] _ _
        refine wpList_nil ?_
        clear e58
        go_upto_region 10 with fail
        refine wp_region_list (wpList_flowP 1 (lookW [(59, pu (isV (rpS (toS (0)) (toS (1)) (toS (1)))))]) [] [59] [59] (by kernel_rfl) (by kernel_rfl) (by kernel_rfl) trivial ?_ ?_)
        · refine FStepsW.cons (FStepW.plain rfl fun a w hS hE => OpTo.call #[] rfl Try.func24 (by kernel_rfl) (by kernel_rfl) (args0 ..) ((rzero_v w).mono fun _ _ h => Gives.toW 59 rfl (fun _ _ h => h) h)) ?_
          exact FStepsW.nil
        intro f w9 hS hF
        obtain ⟨h59, -⟩ := hF
        have e59 : f 59 = rpS (toS (0)) (toS (1)) (toS (1)) := h59
        clear h59
        replace B2 := Lib.hid (B2.out.touch hS notin_nil)
        replace HT := Lib.hid (HT.out.trans hS)
        clear hS
        simp only [setAll, List.setIfInBounds_toArray, List.set_cons_zero, List.set_cons_succ, e59]
        show wpList _ _ _ [_, _] _ _
        refine wpList_store_row rfl 33 (.tmp 2) (.tmp 59) rfl g2 #[.string (toS (0)), .string (toS (1)), .string (toS (1))] rfl rfl 33 #[.string ⟨#[]⟩, .string ⟨#[]⟩, .string ⟨#[]⟩] B2.out infoR rfl (rp_one ..) ?_
        refine wpList_run (v := .int .i64 9) rfl (exec_assignV rfl rfl) ?_
        refine wpList_nil ?_
        simp only [Act.put, List.setIfInBounds_toArray, List.set_cons_zero, List.set_cons_succ]
        have B2' := (B2.out.setRow #[.string (toS (0)), .string (toS (1)), .string (toS (1))])
        have HT' := (HT.out.setRowE (.inr HB2.out) #[.string (toS (0)), .string (toS (1)), .string (toS (1))])
        obtain ⟨w10, hw10⟩ : ∃ w10, w10 = (w9.setRow g2 #[.string (toS (0)), .string (toS (1)), .string (toS (1))]) := ⟨_, rfl⟩
        rw [← hw10] at HT' B2'
        rw [← hw10]
        clear hw10 HT B2
        have B2 := Lib.hid B2'
        clear B2'
        have HT := Lib.hid HT'
        clear HT'
        clear e59
        go_wp2_with fail
        rw [decP_no HN.out, decC_no HN.out]
        exact rd_ret Try.results10 rfl rfl 33 B2.out HT.out ⟨0, 1, 1, rrep_zero, rfl⟩
      case pos =>
        have HI := Lib.hid hi
        simp only [hi]
        clear hi
        by_cases ho : oddS s = true
        case neg =>
          have hf : oddS s = false := by simpa using ho
          have HOK := Lib.hid (show decOK s from ⟨H32.out, HP.out, HI.out, fun h => ho h.1⟩)
          have HX := Lib.hid (show decX s = rootN (argN (dyN s)) by unfold decX; rw [hf, if_neg (by decide)])
          simp only [hf]
          clear ho hf
          refine wp_region_list (wpList_flowP 10 (lookW [(4, pu (isB false)), (8, pu (isS (toS (rootN (argN (dyN s)))))), (9, pu (isB true)), (49, pu (isB true)), (50, pu (isB false)), (51, pu (isB false)), (52, pu (isB false)), (53, pu (isB false)), (54, pu (isU)), (55, pu (isU)), (56, pu (isU)), (57, pu (isB false)), (58, pu (isB false))]) [4, 8, 9] [49, 50, 51, 52, 53, 54, 55, 56, 57, 58] [58] (by kernel_rfl) (by kernel_rfl) (by kernel_rfl) ⟨rfl, rfl, rfl, trivial⟩ ?_ ?_)
          · refine FStepsW.cons (FStepW.plain rfl fun a w hS hE => OpTo.move rfl ⟨dOfW.of 49 rfl (hE 9 (by kernel_rfl)), Touch.refl _ _⟩) ?_
            refine FStepsW.cons (FStepW.plain rfl fun a w hS hE => OpTo.not true rfl (hE 49 (by kernel_rfl)) ⟨dOfW.of 50 rfl (Eq.refl (Value.bool false)), Touch.refl _ _⟩) ?_
            refine FStepsW.cons (FStepW.plain rfl fun a w hS hE => OpTo.move rfl ⟨dOfW.of 51 rfl (hE 50 (by kernel_rfl)), Touch.refl _ _⟩) ?_
            refine FStepsW.cons (FStepW.go 51 rfl rfl (fun _ _ h => h) fun a w hS hE => OpTo.move rfl ⟨dOfW.of 52 rfl (hE 4 (by kernel_rfl)), Touch.refl _ _⟩) ?_
            refine FStepsW.cons (FStepW.go 51 rfl rfl (fun _ _ h => h) fun a w hS hE => OpTo.move rfl ⟨dOfW.of 53 rfl (hE 52 (by kernel_rfl)), Touch.refl _ _⟩) ?_
            refine FStepsW.cons (FStepW.no 53 rfl rfl (fun _ _ h => h) (fun _ => dOfW.of 54 rfl rfl)) ?_
            refine FStepsW.cons (FStepW.no 53 rfl rfl (fun _ _ h => h) (fun _ => dOfW.of 55 rfl rfl)) ?_
            refine FStepsW.cons (FStepW.no 53 rfl rfl (fun _ _ h => h) (fun _ => dOfW.of 56 rfl rfl)) ?_
            refine FStepsW.cons (FStepW.go 51 rfl rfl (fun _ _ h => h) fun a w hS hE => OpTo.pick false rfl (hE 53 (by kernel_rfl)) ⟨dOfW.of 57 rfl (Eq.refl (Value.bool false)), Touch.refl _ _⟩) ?_
            refine FStepsW.cons (FStepW.plain rfl fun a w hS hE => OpTo.pick false rfl (hE 51 (by kernel_rfl)) ⟨dOfW.of 58 rfl (hE 57 (by kernel_rfl)), Touch.refl _ _⟩) ?_
            exact FStepsW.nil
          intro f w8 hS hF
          obtain ⟨h58, -⟩ := hF
          have e58 : f 58 = .bool false := h58
          clear h58
          replace B2 := Lib.hid (B2.out.touch hS notin_nil)
          replace HT := Lib.hid (HT.out.trans hS)
          clear hS
          simp only [setAll, List.setIfInBounds_toArray, List.set_cons_zero, List.set_cons_succ, e58]
          show wpList _ _ _ [] _ _
          refine wpList_nil ?_
          clear e58
          go_upto_region 11 with fail
          refine wp_region_list (wpList_flowP 1 (lookW [(4, pu (isB false)), (60, pu (isB false))]) [4] [60] [60] (by kernel_rfl) (by kernel_rfl) (by kernel_rfl) ⟨rfl, trivial⟩ ?_ ?_)
          · refine FStepsW.cons (FStepW.plain rfl fun a w hS hE => OpTo.move rfl ⟨dOfW.of 60 rfl (hE 4 (by kernel_rfl)), Touch.refl _ _⟩) ?_
            exact FStepsW.nil
          intro f w9 hS hF
          obtain ⟨h60, -⟩ := hF
          have e60 : f 60 = .bool false := h60
          clear h60
          replace B2 := Lib.hid (B2.out.touch hS notin_nil)
          replace HT := Lib.hid (HT.out.trans hS)
          clear hS
          simp only [setAll, List.setIfInBounds_toArray, List.set_cons_zero, List.set_cons_succ, e60]
          show wpList _ _ _ [] _ _
          refine wpList_nil ?_
          clear e60
          go_upto_region 13 with fail
          refine wp_region_list (wpList_flowP 4 (lookW [(5, pu (isS (toS (dyN s)))), (8, pu (isS (toS (rootN (argN (dyN s)))))), (63, pu (isS (toS (rootN (argN (dyN s)))))), (64, pu (isS (toS (dyN s)))), (65, pu (isS (toS (1)))), (66, pu (isV (rpS (toS (rootN (argN (dyN s)))) (toS (dyN s)) (toS (1)))))]) [5, 8] [63, 64, 65, 66] [66] (by kernel_rfl) (by kernel_rfl) (by kernel_rfl) ⟨rfl, rfl, trivial⟩ ?_ ?_)
          · refine FStepsW.cons (FStepW.plain rfl fun a w hS hE => OpTo.move rfl ⟨dOfW.of 63 rfl (hE 8 (by kernel_rfl)), Touch.refl _ _⟩) ?_
            refine FStepsW.cons (FStepW.plain rfl fun a w hS hE => OpTo.move rfl ⟨dOfW.of 64 rfl (hE 5 (by kernel_rfl)), Touch.refl _ _⟩) ?_
            refine FStepsW.cons (FStepW.plain rfl fun a w hS hE => OpTo.call #[.int .u64 1] rfl Try.func41 (by kernel_rfl) (by kernel_rfl) (args1 ..) ((rnum_v 1 (by decide) w).mono fun _ _ h => Gives.toW 65 rfl (fun _ _ h => h) h)) ?_
            refine FStepsW.cons (FStepW.plain rfl fun a w hS hE => OpTo.bldR 66 _ _ _ rfl rfl (hE 63 (by kernel_rfl)) (hE 64 (by kernel_rfl)) (hE 65 (by kernel_rfl)) rfl) ?_
            exact FStepsW.nil
          intro f w10 hS hF
          obtain ⟨h66, -⟩ := hF
          have e66 : f 66 = rpS (toS (rootN (argN (dyN s)))) (toS (dyN s)) (toS (1)) := h66
          clear h66
          replace B2 := Lib.hid (B2.out.touch hS notin_nil)
          replace HT := Lib.hid (HT.out.trans hS)
          clear hS
          simp only [setAll, List.setIfInBounds_toArray, List.set_cons_zero, List.set_cons_succ, e66]
          show wpList _ _ _ [_, _] _ _
          refine wpList_store_row rfl 33 (.tmp 2) (.tmp 66) rfl g2 #[.string (toS (rootN (argN (dyN s)))), .string (toS (dyN s)), .string (toS (1))] rfl rfl 33 #[.string ⟨#[]⟩, .string ⟨#[]⟩, .string ⟨#[]⟩] B2.out infoR rfl (rp_one ..) ?_
          refine wpList_run (v := .int .i64 0) rfl (exec_assignV rfl rfl) ?_
          refine wpList_nil ?_
          simp only [Act.put, List.setIfInBounds_toArray, List.set_cons_zero, List.set_cons_succ]
          have B2' := (B2.out.setRow #[.string (toS (rootN (argN (dyN s)))), .string (toS (dyN s)), .string (toS (1))])
          have HT' := (HT.out.setRowE (.inr HB2.out) #[.string (toS (rootN (argN (dyN s)))), .string (toS (dyN s)), .string (toS (1))])
          obtain ⟨w11, hw11⟩ : ∃ w11, w11 = (w10.setRow g2 #[.string (toS (rootN (argN (dyN s)))), .string (toS (dyN s)), .string (toS (1))]) := ⟨_, rfl⟩
          rw [← hw11] at HT' B2'
          rw [← hw11]
          clear hw11 HT B2
          have B2 := Lib.hid B2'
          clear B2'
          have HT := Lib.hid HT'
          clear HT'
          clear e66
          go_wp2_with fail
          rw [decC_yes HOK.out]
          have hr := dec_rrep HOK.out
          rw [HX.out] at hr
          exact rd_ret Try.results10 rfl rfl 33 B2.out HT.out ⟨_, _, _, hr, rfl⟩
        case pos =>
          have HO := Lib.hid ho
          simp only [ho]
          clear ho
          by_cases hz : rootN (argN (dyN s)) = 0
          case pos =>
            have HN := Lib.hid (show ¬ decOK s from fun h => h.2.2.2 ⟨HO.out, hz⟩)
            have HZ := Lib.hid ((toS_beq (rootN_lt (argN (dyN s))) PP_pos).trans (decide_eq_true hz))
            clear hz
            refine wp_region_list (wpList_flowP 10 (lookW [(4, pu (isB true)), (8, pu (isS (toS (rootN (argN (dyN s)))))), (9, pu (isB true)), (49, pu (isB true)), (50, pu (isB false)), (51, pu (isB false)), (52, pu (isB true)), (53, pu (isB true)), (54, pu (isS (toS (rootN (argN (dyN s)))))), (55, pu (isS (toS (0)))), (56, pu (isB true)), (57, pu (isB true)), (58, pu (isB true))]) [4, 8, 9] [49, 50, 51, 52, 53, 54, 55, 56, 57, 58] [58] (by kernel_rfl) (by kernel_rfl) (by kernel_rfl) ⟨rfl, rfl, rfl, trivial⟩ ?_ ?_)
            · refine FStepsW.cons (FStepW.plain rfl fun a w hS hE => OpTo.move rfl ⟨dOfW.of 49 rfl (hE 9 (by kernel_rfl)), Touch.refl _ _⟩) ?_
              refine FStepsW.cons (FStepW.plain rfl fun a w hS hE => OpTo.not true rfl (hE 49 (by kernel_rfl)) ⟨dOfW.of 50 rfl (Eq.refl (Value.bool false)), Touch.refl _ _⟩) ?_
              refine FStepsW.cons (FStepW.plain rfl fun a w hS hE => OpTo.move rfl ⟨dOfW.of 51 rfl (hE 50 (by kernel_rfl)), Touch.refl _ _⟩) ?_
              refine FStepsW.cons (FStepW.go 51 rfl rfl (fun _ _ h => h) fun a w hS hE => OpTo.move rfl ⟨dOfW.of 52 rfl (hE 4 (by kernel_rfl)), Touch.refl _ _⟩) ?_
              refine FStepsW.cons (FStepW.go 51 rfl rfl (fun _ _ h => h) fun a w hS hE => OpTo.move rfl ⟨dOfW.of 53 rfl (hE 52 (by kernel_rfl)), Touch.refl _ _⟩) ?_
              refine FStepsW.cons (FStepW.go 53 rfl rfl (fun _ _ h => h) fun a w hS hE => OpTo.move rfl ⟨dOfW.of 54 rfl (hE 8 (by kernel_rfl)), Touch.refl _ _⟩) ?_
              refine FStepsW.cons (FStepW.go 53 rfl rfl (fun _ _ h => h) fun a w hS hE => OpTo.call #[.int .u64 0] rfl Try.func41 (by kernel_rfl) (by kernel_rfl) (args1 ..) ((rnum_v 0 (by decide) w).mono fun _ _ h => Gives.toW 55 rfl (fun _ _ h => h) h)) ?_
              refine FStepsW.cons (FStepW.go 53 rfl rfl (fun _ _ h => h) fun a w hS hE => OpTo.eqS (toS (rootN (argN (dyN s)))) (toS (0)) rfl (hE 54 (by kernel_rfl)) (hE 55 (by kernel_rfl)) ⟨dOfW.of 56 rfl (by rw [HZ.out]; rfl), Touch.refl _ _⟩) ?_
              refine FStepsW.cons (FStepW.go 51 rfl rfl (fun _ _ h => h) fun a w hS hE => OpTo.pick true rfl (hE 53 (by kernel_rfl)) ⟨dOfW.of 57 rfl (hE 56 (by kernel_rfl)), Touch.refl _ _⟩) ?_
              refine FStepsW.cons (FStepW.plain rfl fun a w hS hE => OpTo.pick false rfl (hE 51 (by kernel_rfl)) ⟨dOfW.of 58 rfl (hE 57 (by kernel_rfl)), Touch.refl _ _⟩) ?_
              exact FStepsW.nil
            intro f w8 hS hF
            obtain ⟨h58, -⟩ := hF
            have e58 : f 58 = .bool true := h58
            clear h58
            replace B2 := Lib.hid (B2.out.touch hS notin_nil)
            replace HT := Lib.hid (HT.out.trans hS)
            clear hS
            simp only [setAll, List.setIfInBounds_toArray, List.set_cons_zero, List.set_cons_succ, e58]
            show wpList _ _ _ [] _ _
            refine wpList_nil ?_
            clear e58
            go_upto_region 10 with fail
            refine wp_region_list (wpList_flowP 1 (lookW [(59, pu (isV (rpS (toS (0)) (toS (1)) (toS (1)))))]) [] [59] [59] (by kernel_rfl) (by kernel_rfl) (by kernel_rfl) trivial ?_ ?_)
            · refine FStepsW.cons (FStepW.plain rfl fun a w hS hE => OpTo.call #[] rfl Try.func24 (by kernel_rfl) (by kernel_rfl) (args0 ..) ((rzero_v w).mono fun _ _ h => Gives.toW 59 rfl (fun _ _ h => h) h)) ?_
              exact FStepsW.nil
            intro f w9 hS hF
            obtain ⟨h59, -⟩ := hF
            have e59 : f 59 = rpS (toS (0)) (toS (1)) (toS (1)) := h59
            clear h59
            replace B2 := Lib.hid (B2.out.touch hS notin_nil)
            replace HT := Lib.hid (HT.out.trans hS)
            clear hS
            simp only [setAll, List.setIfInBounds_toArray, List.set_cons_zero, List.set_cons_succ, e59]
            show wpList _ _ _ [_, _] _ _
            refine wpList_store_row rfl 33 (.tmp 2) (.tmp 59) rfl g2 #[.string (toS (0)), .string (toS (1)), .string (toS (1))] rfl rfl 33 #[.string ⟨#[]⟩, .string ⟨#[]⟩, .string ⟨#[]⟩] B2.out infoR rfl (rp_one ..) ?_
            refine wpList_run (v := .int .i64 9) rfl (exec_assignV rfl rfl) ?_
            refine wpList_nil ?_
            simp only [Act.put, List.setIfInBounds_toArray, List.set_cons_zero, List.set_cons_succ]
            have B2' := (B2.out.setRow #[.string (toS (0)), .string (toS (1)), .string (toS (1))])
            have HT' := (HT.out.setRowE (.inr HB2.out) #[.string (toS (0)), .string (toS (1)), .string (toS (1))])
            obtain ⟨w10, hw10⟩ : ∃ w10, w10 = (w9.setRow g2 #[.string (toS (0)), .string (toS (1)), .string (toS (1))]) := ⟨_, rfl⟩
            rw [← hw10] at HT' B2'
            rw [← hw10]
            clear hw10 HT B2
            have B2 := Lib.hid B2'
            clear B2'
            have HT := Lib.hid HT'
            clear HT'
            clear e59
            go_wp2_with fail
            rw [decP_no HN.out, decC_no HN.out]
            exact rd_ret Try.results10 rfl rfl 33 B2.out HT.out ⟨0, 1, 1, rrep_zero, rfl⟩
          case neg =>
            have HOK := Lib.hid (show decOK s from ⟨H32.out, HP.out, HI.out, fun h => hz h.2⟩)
            have HZ := Lib.hid ((toS_beq (rootN_lt (argN (dyN s))) PP_pos).trans (decide_eq_false hz))
            have HX := Lib.hid (show decX s = negF (rootN (argN (dyN s))) by unfold decX; rw [HO.out, if_pos rfl])
            clear hz
            refine wp_region_list (wpList_flowP 10 (lookW [(4, pu (isB true)), (8, pu (isS (toS (rootN (argN (dyN s)))))), (9, pu (isB true)), (49, pu (isB true)), (50, pu (isB false)), (51, pu (isB false)), (52, pu (isB true)), (53, pu (isB true)), (54, pu (isS (toS (rootN (argN (dyN s)))))), (55, pu (isS (toS (0)))), (56, pu (isB false)), (57, pu (isB false)), (58, pu (isB false))]) [4, 8, 9] [49, 50, 51, 52, 53, 54, 55, 56, 57, 58] [58] (by kernel_rfl) (by kernel_rfl) (by kernel_rfl) ⟨rfl, rfl, rfl, trivial⟩ ?_ ?_)
            · refine FStepsW.cons (FStepW.plain rfl fun a w hS hE => OpTo.move rfl ⟨dOfW.of 49 rfl (hE 9 (by kernel_rfl)), Touch.refl _ _⟩) ?_
              refine FStepsW.cons (FStepW.plain rfl fun a w hS hE => OpTo.not true rfl (hE 49 (by kernel_rfl)) ⟨dOfW.of 50 rfl (Eq.refl (Value.bool false)), Touch.refl _ _⟩) ?_
              refine FStepsW.cons (FStepW.plain rfl fun a w hS hE => OpTo.move rfl ⟨dOfW.of 51 rfl (hE 50 (by kernel_rfl)), Touch.refl _ _⟩) ?_
              refine FStepsW.cons (FStepW.go 51 rfl rfl (fun _ _ h => h) fun a w hS hE => OpTo.move rfl ⟨dOfW.of 52 rfl (hE 4 (by kernel_rfl)), Touch.refl _ _⟩) ?_
              refine FStepsW.cons (FStepW.go 51 rfl rfl (fun _ _ h => h) fun a w hS hE => OpTo.move rfl ⟨dOfW.of 53 rfl (hE 52 (by kernel_rfl)), Touch.refl _ _⟩) ?_
              refine FStepsW.cons (FStepW.go 53 rfl rfl (fun _ _ h => h) fun a w hS hE => OpTo.move rfl ⟨dOfW.of 54 rfl (hE 8 (by kernel_rfl)), Touch.refl _ _⟩) ?_
              refine FStepsW.cons (FStepW.go 53 rfl rfl (fun _ _ h => h) fun a w hS hE => OpTo.call #[.int .u64 0] rfl Try.func41 (by kernel_rfl) (by kernel_rfl) (args1 ..) ((rnum_v 0 (by decide) w).mono fun _ _ h => Gives.toW 55 rfl (fun _ _ h => h) h)) ?_
              refine FStepsW.cons (FStepW.go 53 rfl rfl (fun _ _ h => h) fun a w hS hE => OpTo.eqS (toS (rootN (argN (dyN s)))) (toS (0)) rfl (hE 54 (by kernel_rfl)) (hE 55 (by kernel_rfl)) ⟨dOfW.of 56 rfl (by rw [HZ.out]; rfl), Touch.refl _ _⟩) ?_
              refine FStepsW.cons (FStepW.go 51 rfl rfl (fun _ _ h => h) fun a w hS hE => OpTo.pick true rfl (hE 53 (by kernel_rfl)) ⟨dOfW.of 57 rfl (hE 56 (by kernel_rfl)), Touch.refl _ _⟩) ?_
              refine FStepsW.cons (FStepW.plain rfl fun a w hS hE => OpTo.pick false rfl (hE 51 (by kernel_rfl)) ⟨dOfW.of 58 rfl (hE 57 (by kernel_rfl)), Touch.refl _ _⟩) ?_
              exact FStepsW.nil
            intro f w8 hS hF
            obtain ⟨h58, -⟩ := hF
            have e58 : f 58 = .bool false := h58
            clear h58
            replace B2 := Lib.hid (B2.out.touch hS notin_nil)
            replace HT := Lib.hid (HT.out.trans hS)
            clear hS
            simp only [setAll, List.setIfInBounds_toArray, List.set_cons_zero, List.set_cons_succ, e58]
            show wpList _ _ _ [] _ _
            refine wpList_nil ?_
            clear e58
            go_upto_region 11 with fail
            refine wp_region_list (wpList_flowP 1 (lookW [(4, pu (isB true)), (60, pu (isB true))]) [4] [60] [60] (by kernel_rfl) (by kernel_rfl) (by kernel_rfl) ⟨rfl, trivial⟩ ?_ ?_)
            · refine FStepsW.cons (FStepW.plain rfl fun a w hS hE => OpTo.move rfl ⟨dOfW.of 60 rfl (hE 4 (by kernel_rfl)), Touch.refl _ _⟩) ?_
              exact FStepsW.nil
            intro f w9 hS hF
            obtain ⟨h60, -⟩ := hF
            have e60 : f 60 = .bool true := h60
            clear h60
            replace B2 := Lib.hid (B2.out.touch hS notin_nil)
            replace HT := Lib.hid (HT.out.trans hS)
            clear hS
            simp only [setAll, List.setIfInBounds_toArray, List.set_cons_zero, List.set_cons_succ, e60]
            show wpList _ _ _ [] _ _
            refine wpList_nil ?_
            clear e60
            go_upto_region 12 with fail
            refine wp_region_list (wpList_flowP 2 (lookW [(8, pu (isS (toS (rootN (argN (dyN s)))))), (61, pu (isS (toS (rootN (argN (dyN s)))))), (62, pu (isS (toS (negF (rootN (argN (dyN s)))))))]) [8] [61, 62] [62] (by kernel_rfl) (by kernel_rfl) (by kernel_rfl) ⟨rfl, trivial⟩ ?_ ?_)
            · refine FStepsW.cons (FStepW.plain rfl fun a w hS hE => OpTo.move rfl ⟨dOfW.of 61 rfl (hE 8 (by kernel_rfl)), Touch.refl _ _⟩) ?_
              refine FStepsW.cons (FStepW.plain rfl fun a w hS hE => OpTo.call #[a.tmps.getD 61 undef] rfl Try.func45 (by kernel_rfl) (by kernel_rfl) (args1 ..) ((rneg_v (hE 61 (by kernel_rfl)) (rootN_lt _) w).mono fun _ _ h => Gives.toW 62 rfl (fun _ _ h => h) h)) ?_
              exact FStepsW.nil
            intro f w10 hS hF
            obtain ⟨h62, -⟩ := hF
            have e62 : f 62 = .string (toS (negF (rootN (argN (dyN s))))) := h62
            clear h62
            replace B2 := Lib.hid (B2.out.touch hS notin_nil)
            replace HT := Lib.hid (HT.out.trans hS)
            clear hS
            simp only [setAll, List.setIfInBounds_toArray, List.set_cons_zero, List.set_cons_succ, e62]
            show wpList _ _ _ [_] _ _
            refine wpList_run (v := .string (toS (negF (rootN (argN (dyN s)))))) rfl (exec_assignV rfl rfl) ?_
            refine wpList_nil ?_
            simp only [Act.put, List.setIfInBounds_toArray, List.set_cons_zero, List.set_cons_succ]
            clear e62
            go_upto_region 13 with fail
            refine wp_region_list (wpList_flowP 4 (lookW [(5, pu (isS (toS (dyN s)))), (8, pu (isS (toS (negF (rootN (argN (dyN s))))))), (63, pu (isS (toS (negF (rootN (argN (dyN s))))))), (64, pu (isS (toS (dyN s)))), (65, pu (isS (toS (1)))), (66, pu (isV (rpS (toS (negF (rootN (argN (dyN s))))) (toS (dyN s)) (toS (1)))))]) [5, 8] [63, 64, 65, 66] [66] (by kernel_rfl) (by kernel_rfl) (by kernel_rfl) ⟨rfl, rfl, trivial⟩ ?_ ?_)
            · refine FStepsW.cons (FStepW.plain rfl fun a w hS hE => OpTo.move rfl ⟨dOfW.of 63 rfl (hE 8 (by kernel_rfl)), Touch.refl _ _⟩) ?_
              refine FStepsW.cons (FStepW.plain rfl fun a w hS hE => OpTo.move rfl ⟨dOfW.of 64 rfl (hE 5 (by kernel_rfl)), Touch.refl _ _⟩) ?_
              refine FStepsW.cons (FStepW.plain rfl fun a w hS hE => OpTo.call #[.int .u64 1] rfl Try.func41 (by kernel_rfl) (by kernel_rfl) (args1 ..) ((rnum_v 1 (by decide) w).mono fun _ _ h => Gives.toW 65 rfl (fun _ _ h => h) h)) ?_
              refine FStepsW.cons (FStepW.plain rfl fun a w hS hE => OpTo.bldR 66 _ _ _ rfl rfl (hE 63 (by kernel_rfl)) (hE 64 (by kernel_rfl)) (hE 65 (by kernel_rfl)) rfl) ?_
              exact FStepsW.nil
            intro f w11 hS hF
            obtain ⟨h66, -⟩ := hF
            have e66 : f 66 = rpS (toS (negF (rootN (argN (dyN s))))) (toS (dyN s)) (toS (1)) := h66
            clear h66
            replace B2 := Lib.hid (B2.out.touch hS notin_nil)
            replace HT := Lib.hid (HT.out.trans hS)
            clear hS
            simp only [setAll, List.setIfInBounds_toArray, List.set_cons_zero, List.set_cons_succ, e66]
            show wpList _ _ _ [_, _] _ _
            refine wpList_store_row rfl 33 (.tmp 2) (.tmp 66) rfl g2 #[.string (toS (negF (rootN (argN (dyN s))))), .string (toS (dyN s)), .string (toS (1))] rfl rfl 33 #[.string ⟨#[]⟩, .string ⟨#[]⟩, .string ⟨#[]⟩] B2.out infoR rfl (rp_one ..) ?_
            refine wpList_run (v := .int .i64 0) rfl (exec_assignV rfl rfl) ?_
            refine wpList_nil ?_
            simp only [Act.put, List.setIfInBounds_toArray, List.set_cons_zero, List.set_cons_succ]
            have B2' := (B2.out.setRow #[.string (toS (negF (rootN (argN (dyN s))))), .string (toS (dyN s)), .string (toS (1))])
            have HT' := (HT.out.setRowE (.inr HB2.out) #[.string (toS (negF (rootN (argN (dyN s))))), .string (toS (dyN s)), .string (toS (1))])
            obtain ⟨w12, hw12⟩ : ∃ w12, w12 = (w11.setRow g2 #[.string (toS (negF (rootN (argN (dyN s))))), .string (toS (dyN s)), .string (toS (1))]) := ⟨_, rfl⟩
            rw [← hw12] at HT' B2'
            rw [← hw12]
            clear hw12 HT B2
            have B2 := Lib.hid B2'
            clear B2'
            have HT := Lib.hid HT'
            clear HT'
            clear e66
            go_wp2_with fail
            rw [decC_yes HOK.out]
            have hr := dec_rrep HOK.out
            rw [HX.out] at hr
            exact rd_ret Try.results10 rfl rfl 33 B2.out HT.out ⟨_, _, _, hr, rfl⟩
def baseR : ByteArray := ⟨#[88, 102, 102, 102, 102, 102, 102, 102, 102, 102, 102, 102, 102, 102, 102, 102, 102, 102, 102, 102, 102, 102, 102, 102, 102, 102, 102, 102, 102, 102, 102, 102]⟩
set_option maxRecDepth 100000 in
set_option maxHeartbeats 4000000 in
theorem rpbase_v (w : World) : Calls Try.prog 51 #[] w (Gives w (RfV (decP baseR))) := by
  go_enter Try.func51, Try.ntmps51
  go_upto_region 0 with fail
  refine wp_region_list ?_
  refine wpList_run rfl (exec_alloc_rp rfl) ?_
  refine wpList_nil ?_
  simp only [Act.put, List.setIfInBounds_toArray, List.set_cons_zero]
  obtain ⟨w1, g0, hW, eg0, b0, ht, hb0⟩ := start1 w 33 #[.string ⟨#[]⟩, .string ⟨#[]⟩, .string ⟨#[]⟩]
  rw [← hW]
  rw [← eg0]
  have HT := Lib.hid ht
  have B0 := Lib.hid b0
  have HB0 := Lib.hid hb0
  clear hW eg0 b0 ht hb0
  go_upto_region 1 with fail
  refine wp_region_list (wpList_flowP 5 (lookW [(1, newS w1.heap.size 33 #[.string ⟨#[]⟩, .string ⟨#[]⟩, .string ⟨#[]⟩]), (3, pu (Tup (RfV (decP baseR)) (.int .i64 (decC baseR)))), (4, pu (Tup (RfV (decP baseR)) (.int .i64 (decC baseR)))), (5, pu (RfV (decP baseR))), (6, pu (isV (.int .i64 (decC baseR))))]) [] [4, 3, 5, 6, 1] [5, 6, 1] (by kernel_rfl) (by kernel_rfl) (by kernel_rfl) trivial ?_ ?_)
  · refine FStepsW.cons (FStepW.plain rfl fun a w hS hE => OpTo.call #[.string baseR] rfl Try.func10 (by kernel_rfl) (by kernel_rfl) (args1 ..) ((rpdec_v (s := baseR) rfl w).mono fun _ _ h => Gives.toW 4 rfl (fun _ _ h => h) h)) ?_
    refine FStepsW.cons (FStepW.plain rfl fun a w hS hE => OpTo.move rfl ⟨dOfW.of 3 rfl (hE 4 (by kernel_rfl)), Touch.refl _ _⟩) ?_
    refine FStepsW.cons (FStepW.plain rfl fun a w hS hE => OpTo.ext0 5 _ rfl rfl (hE 3 (by kernel_rfl)) (fun _ h => h)) ?_
    refine FStepsW.cons (FStepW.plain rfl fun a w hS hE => OpTo.ext1 6 _ rfl rfl (hE 3 (by kernel_rfl)) rfl) ?_
    refine FStepsW.cons (FStepW.plain rfl fun a w hS hE => OpTo.allocG 1 33 #[.string ⟨#[]⟩, .string ⟨#[]⟩, .string ⟨#[]⟩] rfl hS (exec_alloc_rp rfl) rfl) ?_
    exact FStepsW.nil
  intro f w2 hS hF
  obtain ⟨h5, h6, h1, -⟩ := hF
  obtain ⟨X5, Y5, Z5, rr5, e5⟩ := h5
  have RR5 := Lib.hid rr5
  clear rr5
  have e6 : f 6 = .int .i64 (decC baseR) := h6
  clear h6
  obtain ⟨g1, e1, z1, b1⟩ := h1
  have NE0_1 := Lib.hid (ne_new B0.out b1)
  replace B0 := Lib.hid (B0.out.touch hS notin_nil)
  have B1 := Lib.hid z1
  have HB1 := Lib.hid (Nat.le_trans HT.out.size b1)
  clear z1 b1
  replace HT := Lib.hid (HT.out.trans hS)
  clear hS
  simp only [setAll, List.setIfInBounds_toArray, List.set_cons_zero, List.set_cons_succ, e5, e6, e1]
  show wpList _ _ _ [_, _] _ _
  refine wpList_store_row rfl 33 (.tmp 1) (.tmp 5) rfl g1 #[.string (toS X5), .string (toS Y5), .string (toS Z5)] rfl rfl 33 #[.string ⟨#[]⟩, .string ⟨#[]⟩, .string ⟨#[]⟩] B1.out infoR rfl (rp_one ..) ?_
  refine wpList_run (v := .int .i64 (decC baseR)) rfl (exec_assignV rfl rfl) ?_
  refine wpList_nil ?_
  simp only [Act.put, List.setIfInBounds_toArray, List.set_cons_zero, List.set_cons_succ]
  have B0' := (B0.out.frow NE0_1.out #[.string (toS X5), .string (toS Y5), .string (toS Z5)])
  have B1' := (B1.out.setRow #[.string (toS X5), .string (toS Y5), .string (toS Z5)])
  have HT' := (HT.out.setRowE (.inr HB1.out) #[.string (toS X5), .string (toS Y5), .string (toS Z5)])
  obtain ⟨w3, hw3⟩ : ∃ w3, w3 = (w2.setRow g1 #[.string (toS X5), .string (toS Y5), .string (toS Z5)]) := ⟨_, rfl⟩
  rw [← hw3] at HT' B0' B1'
  rw [← hw3]
  clear hw3 HT B0 B1
  have B0 := Lib.hid B0'
  clear B0'
  have B1 := Lib.hid B1'
  clear B1'
  have HT := Lib.hid HT'
  clear HT'
  clear e5 e6 e1
  go_upto_region 2 with fail
  refine wp_region_list (wpList_flowP 1 (lookW [(1, pu (isP (g1))), (7, pu (RfV (decP baseR)))]) [1] [7] [7] (by kernel_rfl) (by kernel_rfl) (by kernel_rfl) ⟨rfl, trivial⟩ ?_ ?_)
  · refine FStepsW.cons (FStepW.plain rfl fun a w hS hE => OpTo.rdR 7 (.tmp 1) rfl rfl (g1) (hE 1 (by kernel_rfl)) (B1.out.touch hS notin_nil) RR5.out (fun _ h => h)) ?_
    exact FStepsW.nil
  intro f w4 hS hF
  obtain ⟨h7, -⟩ := hF
  obtain ⟨X7, Y7, Z7, rr7, e7⟩ := h7
  have RR7 := Lib.hid rr7
  clear rr7
  replace B0 := Lib.hid (B0.out.touch hS notin_nil)
  replace B1 := Lib.hid (B1.out.touch hS notin_nil)
  replace HT := Lib.hid (HT.out.trans hS)
  clear hS
  simp only [setAll, List.setIfInBounds_toArray, List.set_cons_zero, List.set_cons_succ, e7]
  show wpList _ _ _ [_] _ _
  refine wpList_store_row rfl 33 (.tmp 0) (.tmp 7) rfl g0 #[.string (toS X7), .string (toS Y7), .string (toS Z7)] rfl rfl 33 #[.string ⟨#[]⟩, .string ⟨#[]⟩, .string ⟨#[]⟩] B0.out infoR rfl (rp_one ..) ?_
  refine wpList_nil ?_
  simp only [Act.put]
  have B0' := (B0.out.setRow #[.string (toS X7), .string (toS Y7), .string (toS Z7)])
  have B1' := (B1.out.frow (Ne.symm NE0_1.out) #[.string (toS X7), .string (toS Y7), .string (toS Z7)])
  have HT' := (HT.out.setRowE (.inr HB0.out) #[.string (toS X7), .string (toS Y7), .string (toS Z7)])
  obtain ⟨w5, hw5⟩ : ∃ w5, w5 = (w4.setRow g0 #[.string (toS X7), .string (toS Y7), .string (toS Z7)]) := ⟨_, rfl⟩
  rw [← hw5] at HT' B0' B1'
  rw [← hw5]
  clear hw5 HT B0 B1
  have B0 := Lib.hid B0'
  clear B0'
  have B1 := Lib.hid B1'
  clear B1'
  have HT := Lib.hid HT'
  clear HT'
  clear e7
  go_wp2_with fail
  exact rp_ret Try.results51 rfl 33 B0.out HT.out ⟨_, _, _, RR7.out, rfl⟩
end Go.Proofs.Ytbgpgbfiadhddaa
