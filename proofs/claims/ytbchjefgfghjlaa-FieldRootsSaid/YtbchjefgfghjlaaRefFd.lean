/- The document's digits to the base 65536: as text, the walk. -/
import Derived.Test.YtbchjefgfghjlaaRefFc
import Derived.Test.YtbchjefgfghjlaaOps
import Derived.Laws.BytesArg
import Derived.Laws.IdiomStrings
import Derived.Deep.CutBlock
namespace Go.Proofs.Ytbchjefgfghjlaa
open Go.RowKit
/-- A row that is new, by its place: the cells, the marks, and what a write leaves. -/
theorem NewI.at16 {w w1 : World} {v : Value} {q : List Nat} (h : NewI w w1 v q) (hl : q.length = 16) :
    ∃ g off c, v = .slice (some ⟨g, off, none⟩) 16 c ∧ w.heap.size ≤ g ∧ 16 ≤ c ∧ c ≤ 9223372036854775807 := by
  obtain ⟨g, off, c, rfl, hg, hnc, hcm, _, _⟩ := h.cells (by omega)
  rw [hl] at hnc ⊢
  exact ⟨g, off, c, rfl, hg, hnc, hcm⟩
theorem NewI.c16 {w w1 : World} {q : List Nat} {g off c : Nat} (h : NewI w w1 (.slice (some ⟨g, off, none⟩) 16 c) q) (hl : q.length = 16) (k : Nat) (hk : k < 16) :
    w1.cell? ⟨g, off + k, none⟩ = some (.int .i64 ((q.getD k 0 : Nat) : Int)) ∧ w1.frozen? ⟨g, off + k, none⟩ = false := by
  rw [← hl] at h
  obtain ⟨_, _, _, hv, _, _, _, hf, hc⟩ := h.cells (by omega)
  injection hv with ha _ _
  injection ha with ha
  injection ha with h1 h2
  subst h1 h2
  exact ⟨hc k (by omega), hf _⟩
theorem NewI.s16 {w w1 : World} {q : List Nat} {g off c : Nat} (h : NewI w w1 (.slice (some ⟨g, off, none⟩) 16 c) q) (hl : q.length = 16) (k x : Nat) (hk : k < 16) :
    NewI w (w1.setCell ⟨g, off + k, none⟩ (.int .i64 (x : Int))) (.slice (some ⟨g, off, none⟩) 16 c) (q.set k x) := by
  have h2 := h
  rw [← hl] at h2
  have := h2.set k x (by omega)
  rwa [List.length_set, hl] at this
theorem sub15_le {q : List Nat} (h : DigN q) : ∀ x ∈ sub15 q, x ≤ 1099511627776 := fun x hx => by
  unfold sub15 at hx
  rcases List.mem_or_eq_of_mem_set hx with h1 | h1
  · rcases List.mem_or_eq_of_mem_set h1 with h2 | h2
    · have := h x h2; omega
    · have := h.at_ 15; omega
  · have := h.at_ 0; omega
theorem set_get {q : List Nat} {a b x : Nat} (hab : a ≠ b) : (q.set a x).getD b 0 = q.getD b 0 := by simp [List.getD, List.getElem?_set_ne hab]
theorem cell_touch {w w' : World} {g j : Nat} {v : Value} (h : w.cell? ⟨g, j, none⟩ = some v) (ht : Touch [] w w') : w'.cell? ⟨g, j, none⟩ = some v := by
  rw [ht.cell (World.block_lt_of_cell? w _ h) (by simp)]; exact h
theorem Touch.trans_new'' {w w1 w2 : World} {row : Option Nat} (h : Touch [] w w1) (k : Touch row.toList w1 w2) (hn : NewRow w none row) : Touch [] w w2 := Touch.trans_new' h k hn
theorem Own.ofBlk {w : World} {g : Nat} {e : TypeId} {cs : List Value} (h : Blk w g e cs.toArray) (h0 : 0 < cs.length) (hm : cs.length ≤ maxLen) : Own w e 1 (.slice (some ⟨g, 0, none⟩) cs.length cs.length) cs.length cs (some g) :=
  ⟨by omega, .inr ⟨g, 0, cs.length, cs.toArray, rfl, rfl, h, h0, Nat.le_refl _, hm, by simp, fun j u hj => by simpa using hj⟩⟩
theorem wpList_append_two (w0 : World) {ops : Array Oper} {rest : List Oper} {o : Oper} {a : Act} {Q : Exit → Act → World → Prop} (w : World) (s x : Operand) (t : TypeId)
    (ht : Try.prog.underlying t = some (.slice 5)) (hgd : o.guard = none)
    (ho : o.op = .call { callee := .builtin .append, args := #[s, x], argTypes := #[t, t] })
    {v : Value} {l : List Nat} (hown : NewU w0 w v l) (hl : l.length ≤ 1000000) (u1 u2 g2 : Nat) (hb : Blk w g2 5 #[.int .u8 (u1 : Int), .int .u8 (u2 : Int)])
    (hv : a.eval s = v) (hx : a.eval x = .slice (some ⟨g2, 0, none⟩) 2 2)
    (h : ∀ A c w', NewU w0 w' (.slice A (l ++ [u1, u2]).length c) (l ++ [u1, u2]) → wpList Try.prog ops Q rest (a.put o.dst (.slice A (l ++ [u1, u2]).length c)) w') :
    wpList Try.prog ops Q (o :: rest) a w := by
  obtain ⟨row, hw, hto, hn⟩ := hown
  obtain ⟨i, hi, hz, hs, hby⟩ := info_parts infoU8
  have hsrc := Own.ofBlk (cs := [.int .u8 (u1 : Int), .int .u8 (u2 : Int)]) hb (by simp) (by unfold maxLen; simp)
  refine wpList_append_Own w hgd s x t t ho 5 i _ 1 1 ht hi hz hs hby rfl v l.length (cellsU8 l) row hv hw _ 2 [.int .u8 (u1 : Int), .int .u8 (u2 : Int)] hx (hsrc.src (fun u hu => by simp only [List.mem_cons, List.not_mem_nil, or_false] at hu; rcases hu with rfl | rfl <;> rfl) ht) (by unfold maxLen; omega) (by omega) ?_
  intro v' w' row' h1 h2 h3
  obtain ⟨A, c, rfl, _⟩ := h1.shape
  have hc : cellsU8 l ++ [.int .u8 (u1 : Int), .int .u8 (u2 : Int)] = cellsU8 (l ++ [u1, u2]) := by simp [cellsU8]
  rw [hc] at h1
  have hl : (l ++ [u1, u2]).length = l.length + 2 := by simp
  rw [← hl] at h1 ⊢
  exact h A c w' ⟨row', h1, Touch.trans_new'' hto h2 hn, hn.trans h3 hto.size⟩
theorem make_16 (w : World) : (Instr.makeSlice 55 (.int .i64 16) (.int .i64 16)).run Try.prog w =
    .ok (.slice (some ⟨w.heap.size, 0, none⟩) 16 16) (w.alloc (.cells (cellsI (List.replicate 16 0)).toArray 3)) := by kernel_rfl
set_option maxRecDepth 100000 in
set_option maxHeartbeats 4000000 in
theorem text_any (v : Value) (l : List Nat) (row : Option Nat) (w : World) (ho : Own w 3 1 v l.length (cellsI l) row) (h0 : 0 < l.length) (hl : l.length ≤ 32) (hb : ∀ x ∈ l, x ≤ 1099511627776) (hv : dN l < 65536 ^ 32) :
    Calls Try.prog 35 #[v] w fun e w' => e = .returned (.string (toS (dN l % PP))) ∧ Touch [] w w' := by
  have hfol := fun W (h : W = w) => h ▸ folded_any v l row w ho h0 hl hb hv
  have HFol := Lib.hid hfol
  obtain ⟨V, hV⟩ : ∃ V, V = dN l := ⟨_, rfl⟩
  rw [← hV] at HFol ⊢
  clear hfol ho h0 hl hb hv hV
  go_enter Try.func35, Try.ntmps35
  go_wp2_with fail
  refine (HFol.out _ rfl).mono ?_
  rintro e w1 ⟨v1, q1, rfl, hn1, hd1⟩
  have HN := Lib.hid hn1
  have HD := Lib.hid (TextS.start hd1)
  clear hn1 hd1 HFol
  go_upto_block 0 with fail
  go_cut [0] (fun v0 wx => ∃ q, NewI w wx v0 q ∧ TextS 2 V q ∧ q.getD 15 0 < 32768)
  case first =>
    go_wp2_with fail
    go_loopg [0] 2 (fun gk v0 wr => ∃ q, NewI w wr v0 q ∧ TextS gk V q)
    case atStart => exact ⟨q1, HN.out, HD.out⟩
    case round =>
      clear HN HD
      obtain ⟨q, hq, hT⟩ := hrel
      have HT := Lib.hid hT
      obtain ⟨g, off, c, rfl, hg, hc1, hc2⟩ := hq.at16 hT.len
      obtain ⟨hc15, hf15⟩ := hq.c16 hT.len 15 (by omega)
      have Hq := Lib.hid hq
      clear hq hT
      have h15 := HT.out.dig.at_ 15
      obtain ⟨x, hx⟩ : ∃ x, x = q.getD 15 0 := ⟨_, rfl⟩
      have HX := Lib.hid hx
      rw [← hx] at hc15 h15
      clear hx
      by_cases hbig : 32768 ≤ x
      · obtain ⟨y, hy, hyx⟩ : ∃ y : Nat, (x : Int) - 32768 = (y : Int) ∧ Hid (y = x - 32768) := ⟨x - 32768, by omega, Lib.hid rfl⟩
        have hb1 : (32768 : Int) ≤ (x : Int) := by omega
        have hb2 : (x : Int) < 65536 := by omega
        have Hbig := Lib.hid hbig
        clear hbig h15
        go_upto_region 4 with fail
        have hs := Hq.out.s16 HT.out.len 15 y (by omega)
        obtain ⟨wx, hwx⟩ : ∃ wx, wx = wr.setCell ⟨g, off + 15, none⟩ (.int .i64 (y : Int)) := ⟨_, rfl⟩
        rw [← hwx] at hs ⊢
        clear hwx hc15 hf15 hy
        have Hs := Lib.hid hs
        have hl2 : (q.set 15 y).length = 16 := by rw [List.length_set]; exact HT.out.len
        obtain ⟨hc0, hf0⟩ := hs.c16 hl2 0 (by omega)
        rw [set_get (by omega)] at hc0
        have h0 := HT.out.dig.at_ 0
        clear hb1 hb2
        obtain ⟨z, hz⟩ : ∃ z, z = q.getD 0 0 := ⟨_, rfl⟩
        have HZ := Lib.hid hz
        rw [← hz] at hc0 h0
        rw [Nat.add_zero] at hc0 hf0
        obtain ⟨u, hu, huz⟩ : ∃ u : Nat, (z : Int) + 19 = (u : Int) ∧ Hid (u = z + 19) := ⟨z + 19, by omega, Lib.hid rfl⟩
        have hz2 : (z : Int) < 65536 := by omega
        have Hl2 := Lib.hid hl2
        clear h0
        clear hz hs hl2
        go_upto_region 5 with fail
        have hs := Hs.out.s16 Hl2.out 0 u (by omega)
        rw [Nat.add_zero] at hs
        obtain ⟨wy, hwy⟩ : ∃ wy, wy = wx.setCell ⟨g, off, none⟩ (.int .i64 (u : Int)) := ⟨_, rfl⟩
        rw [← hwy] at hs ⊢
        have e : (q.set 15 y).set 0 u = sub15 q := by unfold sub15; rw [hyx.out, huz.out, HX.out, HZ.out]
        rw [e] at hs
        have hlen : (sub15 q).length = 16 := by rw [← e, List.length_set]; exact Hl2.out
        obtain ⟨rs, hos⟩ := hs.own
        rw [hlen] at hos
        have hcar := fun W (h : W = wy) => h ▸ carried_any _ (sub15 q) rs wy (by rw [hlen]; exact hos) (by omega) (by omega) (sub15_le HT.out.dig)
        have HCar := Lib.hid hcar
        have Hs2 := Lib.hid hs
        have HR := Lib.hid (fun p hp => HT.out.round (p := p) (by rw [← HX.out]; exact Hbig.out) hp)
        clear hwy hc0 hf0 hz2 hu huz hyx e hlen hos hcar hs Hs Hl2
        go_wp2_with fail
        refine (HCar.out _ rfl).mono ?_
        rintro e w3 ⟨v3, p, rfl, hn3, hc3⟩
        obtain ⟨k', hk', hT'⟩ := HR.out p hc3
        have HN := Lib.hid (hn3.before Hs2.out.touch)
        have HT' := Lib.hid hT'
        clear hn3 hc3 hT' HCar HR Hs2
        go_wp2_with fail
        go_roundg k'
        case measure => omega
        case rel => exact ⟨p, HN.out, HT'.out⟩
      · have hb1 : decide ((32768 : Int) ≤ (x : Int)) = false := decide_eq_false (by omega)
        have Hbig := Lib.hid hbig
        clear hbig h15
        go_wp2_with fail
        go_meet
        exact ⟨q, Hq.out, ⟨HT.out.len, HT.out.dig, HT.out.mod, by have h := dN_lt HT.out.dig; rw [HT.out.len] at h; exact h⟩, by rw [← HX.out]; have := Hbig.out; omega⟩
  case rest =>
    clear HN HD
    obtain ⟨q, hq, hT, h15⟩ := hcut
    have HT := Lib.hid hT
    obtain ⟨g, off, c, rfl, hg, hc1, hc2⟩ := hq.at16 hT.len
    have Hq := Lib.hid hq
    have H15 := Lib.hid h15
    clear hq hT h15
    rename World => wq
    go_upto_region 6 with fail
    go_cut [3] (fun v3 wx => v3 = .bool (topB q 0) ∧ wx = wq)
    case first =>
      obtain ⟨hc15, _⟩ := Hq.out.c16 HT.out.len 15 (by omega)
      obtain ⟨hc0, _⟩ := Hq.out.c16 HT.out.len 0 (by omega)
      rw [Nat.add_zero] at hc0
      have htop := Lib.hid (show topB q 0 = (decide (q.getD 15 0 = 32767) && decide (65517 ≤ q.getD 0 0)) from rfl)
      obtain ⟨x, hx⟩ : ∃ x, x = q.getD 15 0 := ⟨_, rfl⟩
      obtain ⟨z, hz⟩ : ∃ z, z = q.getD 0 0 := ⟨_, rfl⟩
      rw [← hx] at hc15 htop
      rw [← hz] at hc0 htop
      clear hx hz
      by_cases h1 : x = 32767
      · have e1 : ((x : Int) == 32767) = true := beq_iff_eq.2 (by omega)
        have H1 := Lib.hid h1
        clear h1
        by_cases h2 : 65517 ≤ z
        · have e2 : decide ((65517 : Int) ≤ (z : Int)) = true := decide_eq_true (by omega)
          have e3 := Lib.hid (show topB q 0 = true by rw [htop.out, decide_eq_true H1.out, decide_eq_true h2]; rfl)
          clear h2
          go_wp2_with fail
          go_meet
          exact ⟨by rw [e3.out], rfl⟩
        · have e2 : decide ((65517 : Int) ≤ (z : Int)) = false := decide_eq_false (by omega)
          have e3 := Lib.hid (show topB q 0 = false by rw [htop.out, decide_eq_true H1.out, decide_eq_false h2]; rfl)
          clear h2
          go_wp2_with fail
          go_meet
          exact ⟨by rw [e3.out], rfl⟩
      · have e1 : ((x : Int) == 32767) = false := beq_eq_false_iff_ne.2 (by omega)
        have e3 := Lib.hid (show topB q 0 = false by rw [htop.out, decide_eq_false h1]; rfl)
        clear h1
        go_wp2_with fail
        go_meet
        exact ⟨by rw [e3.out], rfl⟩
    case rest =>
      obtain ⟨rfl, rfl⟩ := hcut
      rename World => wq
      go_upto_block 2 with fail
      go_cut [3, 4] (fun v3 _ wx => v3 = .bool (topB q 14) ∧ wx = wq)
      case first =>
        go_wp2_with fail
        go_loopw [3, 4] (fun v3 v4 wx => ∃ i : Nat, i ≤ 14 ∧ v3 = .bool (topB q i) ∧ v4 = .int .i64 ((i : Int) + 1) ∧ wx = wq) (fun _ v4 _ => 16 - (intOf v4).toNat)
        case atStart => exact ⟨0, by omega, rfl, rfl, rfl⟩
        case round =>
          obtain ⟨i, hi, rfl, rfl, rfl⟩ := hrel
          rename World => wq
          by_cases hi14 : i < 14
          · obtain ⟨hci, _⟩ := Hq.out.c16 HT.out.len (i + 1) (by omega)
            have htop := Lib.hid (show topB q (i + 1) = (topB q i && decide (q.getD (i + 1) 0 = 65535)) from rfl)
            obtain ⟨x, hx⟩ : ∃ x, x = q.getD (i + 1) 0 := ⟨_, rfl⟩
            rw [← hx] at hci htop
            clear hx
            obtain ⟨b, hb⟩ : ∃ b, b = topB q i := ⟨_, rfl⟩
            rw [← hb] at htop ⊢
            clear hb
            cases b with
            | true =>
              by_cases h1 : x = 65535
              · have e1 : ((x : Int) == 65535) = true := beq_iff_eq.2 (by omega)
                have e3 := Lib.hid (show topB q (i + 1) = true by rw [htop.out, decide_eq_true h1]; rfl)
                clear h1
                go_wp2_with fail
                go_roundw
                case rel => exact ⟨i + 1, by omega, by rw [e3.out], congrArg (Value.int .i64) (by omega), trivial⟩
                case measure => simp [intOf]; omega
              · have e1 : ((x : Int) == 65535) = false := beq_eq_false_iff_ne.2 (by omega)
                have e3 := Lib.hid (show topB q (i + 1) = false by rw [htop.out, decide_eq_false h1]; rfl)
                clear h1
                go_wp2_with fail
                go_roundw
                case rel => exact ⟨i + 1, by omega, by rw [e3.out], congrArg (Value.int .i64) (by omega), trivial⟩
                case measure => simp [intOf]; omega
            | false =>
              have e3 := Lib.hid (show topB q (i + 1) = false by rw [htop.out]; rfl)
              go_wp2_with fail
              go_roundw
              case rel => exact ⟨i + 1, by omega, by rw [e3.out], congrArg (Value.int .i64) (by omega), trivial⟩
              case measure => simp [intOf]; omega
          · obtain rfl : i = 14 := by omega
            go_wp2_with fail
            go_meet
            exact ⟨rfl, rfl⟩
      case rest =>
        obtain ⟨rfl, rfl⟩ := hcut
        rename World => wq
        obtain ⟨b, hb⟩ : ∃ b, b = topB q 14 := ⟨_, rfl⟩
        rw [← hb]
        go_upto_region 11 with fail
        go_upto_if 50 with fail
        go_cut [0] (fun v0 wx => ∃ r, NewI w wx v0 r ∧ Fin16 (V % PP) r)
        case first =>
          cases b with
          | true =>
            obtain ⟨h65, hfin⟩ := HT.out.cut H15.out hb.symm
            obtain ⟨hc0, _⟩ := Hq.out.c16 HT.out.len 0 (by omega)
            rw [Nat.add_zero] at hc0
            have h0 := HT.out.dig.at_ 0
            obtain ⟨z, hz⟩ : ∃ z, z = q.getD 0 0 := ⟨_, rfl⟩
            rw [← hz] at hc0 h0 h65 hfin
            obtain ⟨u, hu, huz⟩ : ∃ u : Nat, (z : Int) - 65517 = (u : Int) ∧ Hid (u = z - 65517) := ⟨z - 65517, by omega, Lib.hid rfl⟩
            rw [← huz.out] at hfin
            have HFin := Lib.hid hfin
            have hz2 : (z : Int) < 65536 := by omega
            have hz3 : (65517 : Int) ≤ (z : Int) := by omega
            have hmk := make_16
            clear hfin h65 h0 hz hb huz
            go_upto_region 14 with fail
            clear hmk hz2 hz3 hu hc0
            have Hst := Lib.hid (NewI.made w wq Hq.out.touch ((List.replicate 16 0).set 0 u) (by simp) (by simp))
            obtain ⟨hcz, hfz⟩ := (NewI.made w wq Hq.out.touch (List.replicate 16 0) (by simp) (by simp)).c16 (by simp) 0 (by omega)
            rw [Nat.add_zero] at hcz hfz
            go_wp2_with fail
            go_meet
            exact ⟨_, Hst.out, HFin.out⟩
          | false =>
            have HFin := Lib.hid (HT.out.keep H15.out hb.symm)
            clear hb
            go_wp2_with fail
            go_meet
            exact ⟨q, Hq.out, HFin.out⟩
        case rest =>
          clear Hq HT H15
          obtain ⟨r, hr, hF⟩ := hcut
          obtain ⟨g, off, c, rfl, hg, hc1, hc2⟩ := hr.at16 hF.len
          have Hr := Lib.hid hr
          have HF := Lib.hid hF
          clear hr hF
          rename World => wr
          clear hb
          go_wp2_with fail
          have hu0 := Lib.hid (show NewU wr (wr.alloc (.cells #[] 5)) (.slice (some ⟨wr.heap.size, 0, none⟩) 0 0) [] from ⟨none, Own.nil _ _ _ _, (Touch.refl _ _).alloc _, .refl _ _⟩)
          go_loopw [6, 7] (fun vb vi wx => ∃ (i : Nat), i ≤ 16 ∧ vi = .int .i64 i ∧ NewU wr wx vb (byL (r.take i))) (fun _ vi _ => 16 - (intOf vi).toNat)
          case atStart => exact ⟨0, by omega, rfl, hu0.out⟩
          case round =>
            clear hu0
            obtain ⟨i, hi, rfl, hb⟩ := hrel
            rename World => wi
            obtain ⟨Ab, cb, rfl, _⟩ := hb.shape
            have hlen : (byL (r.take i)).length = 2 * i := by rw [byL_len, List.length_take, HF.out.len]; omega
            have HB := Lib.hid hb
            clear hb
            rw [hlen] at HB ⊢
            by_cases hi16 : i < 16
            · obtain ⟨hci, _⟩ := (Hr.out.more HB.out.touch).c16 HF.out.len i hi16
              have hsn := Lib.hid (take_snoc (l := r) (k := i) (by rw [HF.out.len]; exact hi16))
              have hxl := HF.out.dig.at_ i
              obtain ⟨x, hx⟩ : ∃ x, x = r.getD i 0 := ⟨_, rfl⟩
              rw [← hx] at hci hsn hxl
              clear hx
              have HC := Lib.hid (fun (W : World) (h : Touch [] wi W) => cell_touch hci h)
              go_upto_region 19 with fail
              have Hm := Lib.hid (show (x : Int).tmod 256 = ((x % 256 : Nat) : Int) by rw [Int.tmod_eq_emod_of_nonneg (by omega)]; omega)
              have Hw1 := Lib.hid (show IntKind.u8.wrap ((x % 256 : Nat) : Int) = ((x % 256 : Nat) : Int) from IntWalk.u8_in _ (by omega))
              have Hd := Lib.hid (show IntKind.i64.wrap ((x : Int) / 256) = ((x / 256 : Nat) : Int) by rw [IntWalk.i64_in _ (by omega)]; omega)
              have Hw2 := Lib.hid (show IntKind.u8.wrap ((x / 256 : Nat) : Int) = ((x / 256 : Nat) : Int) from IntWalk.u8_in _ (by omega))
              -- FLOW text19
              refine wp_region_flowT (by kernel_rfl) 14 (lookW [(0, pu (isV (.slice (some ⟨g, off, none⟩) 16 c))), (6, pu (isV (.slice Ab (2 * i) cb))), (7, pu (isV (.int .i64 ((i : Int))))), (64, pu (isV (.slice Ab (2 * i) cb))), (65, pu (isV (.slice (some ⟨g, off, none⟩) 16 c))), (66, pu (isV (.int .i64 ((i : Int))))), (67, pu (isV (.pointer (some ⟨g, off + i, none⟩)))), (68, pu (isV (.int .i64 (((x : Nat) : Int))))), (69, pu (isV (.int .i64 (((x % 256 : Nat) : Int))))), (70, pu (isV (.int .u8 (((x % 256 : Nat) : Int))))), (71, pu (isV (.slice (some ⟨g, off, none⟩) 16 c))), (72, pu (isV (.int .i64 ((i : Int))))), (73, pu (isV (.pointer (some ⟨g, off + i, none⟩)))), (74, pu (isV (.int .i64 (((x : Nat) : Int))))), (75, pu (isV (.int .i64 (((x / 256 : Nat) : Int))))), (76, pu (isV (.int .u8 (((x / 256 : Nat) : Int))))), (77, sl2 (((x % 256 : Nat) : Int)) (((x / 256 : Nat) : Int)))]) [0, 6, 7] [64, 65, 66, 67, 68, 69, 70, 71, 72, 73, 74, 75, 76, 77] [64, 77] (by kernel_rfl) (by kernel_rfl) (by kernel_rfl) (by kernel_rfl) ⟨rfl, rfl, rfl, trivial⟩ ?_ ?_
              · refine FStepsW.cons (FStepW.plain rfl fun a w hS hE => OpTo.move rfl ⟨dOfW.of 64 rfl (hE 6 (by kernel_rfl)), Touch.refl _ _⟩) ?_
                refine FStepsW.cons (FStepW.plain rfl fun a w hS hE => OpTo.move rfl ⟨dOfW.of 65 rfl (hE 0 (by kernel_rfl)), Touch.refl _ _⟩) ?_
                refine FStepsW.cons (FStepW.plain rfl fun a w hS hE => OpTo.move rfl ⟨dOfW.of 66 rfl (hE 7 (by kernel_rfl)), Touch.refl _ _⟩) ?_
                refine FStepsW.cons (FStepW.plain rfl fun a w hS hE => OpTo.ixI (g) (off) (16) (c) (i) rfl (hE 65 (by kernel_rfl)) (hE 66 (by kernel_rfl)) hi16 ⟨dOfW.of 67 rfl rfl, Touch.refl _ _⟩) ?_
                refine FStepsW.cons (FStepW.plain rfl fun a w hS hE => OpTo.ldI (g) (off + i) (.int .i64 (((x : Nat) : Int))) rfl (hE 67 (by kernel_rfl)) (HC.out w hS) ⟨dOfW.of 68 rfl rfl, Touch.refl _ _⟩) ?_
                refine FStepsW.cons (FStepW.plain rfl fun a w hS hE => OpTo.remI (((x : Nat) : Int)) (256) (((x % 256 : Nat) : Int)) (by decide) rfl (hE 68 (by kernel_rfl)) rfl Hm.out ⟨dOfW.of 69 rfl rfl, Touch.refl _ _⟩) ?_
                refine FStepsW.cons (FStepW.plain rfl fun a w hS hE => OpTo.cvI .u8 (((x % 256 : Nat) : Int)) (((x % 256 : Nat) : Int)) rfl (by kernel_rfl) Try.underlying5 (hE 69 (by kernel_rfl)) Hw1.out ⟨dOfW.of 70 rfl rfl, Touch.refl _ _⟩) ?_
                refine FStepsW.cons (FStepW.plain rfl fun a w hS hE => OpTo.move rfl ⟨dOfW.of 71 rfl (hE 0 (by kernel_rfl)), Touch.refl _ _⟩) ?_
                refine FStepsW.cons (FStepW.plain rfl fun a w hS hE => OpTo.move rfl ⟨dOfW.of 72 rfl (hE 7 (by kernel_rfl)), Touch.refl _ _⟩) ?_
                refine FStepsW.cons (FStepW.plain rfl fun a w hS hE => OpTo.ixI (g) (off) (16) (c) (i) rfl (hE 71 (by kernel_rfl)) (hE 72 (by kernel_rfl)) hi16 ⟨dOfW.of 73 rfl rfl, Touch.refl _ _⟩) ?_
                refine FStepsW.cons (FStepW.plain rfl fun a w hS hE => OpTo.ldI (g) (off + i) (.int .i64 (((x : Nat) : Int))) rfl (hE 73 (by kernel_rfl)) (HC.out w hS) ⟨dOfW.of 74 rfl rfl, Touch.refl _ _⟩) ?_
                refine FStepsW.cons (FStepW.plain rfl fun a w hS hE => OpTo.quoI (((x : Nat) : Int)) (256) (((x / 256 : Nat) : Int)) (by decide) (by omega) rfl (hE 74 (by kernel_rfl)) rfl Hd.out ⟨dOfW.of 75 rfl rfl, Touch.refl _ _⟩) ?_
                refine FStepsW.cons (FStepW.plain rfl fun a w hS hE => OpTo.cvI .u8 (((x / 256 : Nat) : Int)) (((x / 256 : Nat) : Int)) rfl (by kernel_rfl) Try.underlying5 (hE 75 (by kernel_rfl)) Hw2.out ⟨dOfW.of 76 rfl rfl, Touch.refl _ _⟩) ?_
                refine FStepsW.cons (FStepW.plain rfl fun a w hS hE => OpTo.two (((x % 256 : Nat) : Int)) (((x / 256 : Nat) : Int)) rfl (hE 70 (by kernel_rfl)) (hE 76 (by kernel_rfl)) (fun _ _ h => dOfW.of 77 rfl h)) ?_
                exact FStepsW.nil
              intro f wx hS hF
              obtain ⟨h64, h77, -⟩ := hF
              replace h64 : f 64 = .slice Ab (2 * i) cb := h64
              obtain ⟨g2, h77, hb2⟩ := h77
              simp only [setAll, List.setIfInBounds_toArray, List.set_cons_zero, List.set_cons_succ, h64, h77]
              -- END
              replace HB := Lib.hid (HB.out.more hS)
              show wpList _ _ _ [_, _] _ _
              refine wpList_append_two wr _ (.tmp 64) (.tmp 77) 49 Try.underlying49 rfl rfl HB.out (by rw [byL_len, List.length_take, HF.out.len]; omega) (x % 256) (x / 256) g2 hb2 rfl rfl ?_
              intro A2 c2 w2 h2
              rw [← byL_snoc, ← hsn.out] at h2 ⊢
              have H2 := Lib.hid h2
              clear h2 hS h64 h77 hb2 HC Hm Hw1 Hd Hw2 hci hlen
              go_wp2_with fail
              go_roundw
              case rel => exact ⟨i + 1, by omega, by go_num, H2.out⟩
              case measure => simp [intOf]; omega
            · obtain rfl : i = 16 := by omega
              have htk : r.take 16 = r := List.take_of_length_le (by rw [HF.out.len]; omega)
              have hbl : (byL r).length = 32 := by rw [← htk]; exact hlen
              rw [htk] at HB
              have hb3 := HB.out
              rw [show 2 * 16 = (byL r).length by rw [hbl]] at hb3
              obtain ⟨g2, o2, c3, hv2, _, _, _, _, hcx⟩ := hb3.cells (by rw [hbl]; omega)
              injection hv2 with ha _ hcc
              subst ha hcc
              have hconv := run_convert_bytes_arg (P := Try.prog) wi 49 5 Try.underlying49 Try.underlying5 g2 o2 (byL r).length cb ((byL r).map fun (n : Nat) => (n : Int)) (by simp) (fun i hi => by
                rw [hcx i hi, getD_map_int]) 9 Try.underlying9
              rw [str_byL HF.out, hbl] at hconv
              clear hcx hb3 hlen htk hbl
              go_wp2_with fail
              go_ret
              exact ⟨rfl, Hr.out.touch.trans HB.out.touch⟩
end Go.Proofs.Ytbchjefgfghjlaa
