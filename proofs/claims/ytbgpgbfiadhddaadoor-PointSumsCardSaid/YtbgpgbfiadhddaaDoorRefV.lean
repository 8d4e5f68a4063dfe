/- The document's products, negatives and small numbers. -/
import Derived.Test.YtbgpgbfiadhddaaDoorGrow
import Derived.Test.YtbgpgbfiadhddaaDoorBytes
import Derived.Test.YtbgpgbfiadhddaaDoorFe2
import Derived.Test.YtbgpgbfiadhddaaDoorFlowT
import Derived.Test.YtbgpgbfiadhddaaDoorOps
import Derived.Test.YtbgpgbfiadhddaaDoorFField
import Derived.Deep.Cut
import Derived.Deep.DeepCutAuto
import Derived.RegionTactic
import Derived.Deep.LoopGhost
import Derived.BigRegion
import Derived.IntWalk
import Derived.Great.BuildSlice
import Derived.Laws.BytesArg
import Derived.Laws.IdiomStrings
import Derived.Deep.CutBlock
import Derived.Deep.QuietTactic
import Derived.BigQuiet
import Derived.Deep.RegionHeld3
namespace Go.Proofs.YtbgpgbfiadhddaaDoor
open Go Go.RowKit
/-! RowsI -/
def padN (l : List Nat) (n : Nat) : List Nat := l.take n ++ List.replicate (n - l.length) 0
theorem padN_len (l : List Nat) (n : Nat) : (padN l n).length = n := by simp [padN]; omega
theorem padN_at (l : List Nat) (n i : Nat) (hi : i < n) : (padN l n).getD i 0 = l.getD i 0 := by
  unfold padN
  by_cases h : i < l.length
  · simp only [List.getD, List.getElem?_append, List.length_take, List.getElem?_take]
    rw [if_pos (by omega), if_pos hi]
  · simp only [List.getD, List.getElem?_append, List.length_take, List.getElem?_replicate]
    rw [if_neg (by omega), List.getElem?_eq_none (show l.length ≤ i by omega)]
    split <;> rfl
theorem leN_zeros (k : Nat) : leN (List.replicate k 0) = 0 := by
  induction k with
  | zero => rfl
  | succ k ih => rw [List.replicate_succ, leN, ih]
theorem leN_padN (l : List Nat) (n : Nat) : leN (padN l n) = leN (l.take n) := by unfold padN; rw [leN_append, leN_zeros, Nat.mul_zero, Nat.add_zero]
theorem take_snoc {l : List Nat} {k : Nat} (hk : k < l.length) : l.take (k + 1) = l.take k ++ [l.getD k 0] := by
  have h : l.take k ++ [l[k]] = l.take (k + 1) := List.take_append_getElem hk
  rw [← h]; simp [List.getD, hk]
theorem getD_lt {l : List Nat} (h : ∀ b ∈ l, b < 256) (k : Nat) : l.getD k 0 < 256 := by
  by_cases hk : k < l.length
  · rw [List.getD, List.getElem?_eq_getElem hk]; exact h _ (List.getElem_mem hk)
  · rw [List.getD, List.getElem?_eq_none (by omega)]; decide
theorem Own.cellAt {w : World} {e n g off c : Nat} {xs : List Value} {row : Option Nat} (h : Own w e 1 (.slice (some ⟨g, off, none⟩) n c) n xs row) (hn : 0 < n) : ∀ k u, xs[k]? = some u → w.cell? ⟨g, off + k, none⟩ = some u := by
  obtain ⟨g', off', c', hv, _, _, _, _, _, hx⟩ := h.cell1 hn
  injection hv with ha _ _
  injection ha with ha
  injection ha with h1 h2
  subst h1; subst h2
  exact hx
theorem NewI.made (w0 w : World) (k : Touch [] w0 w) (l : List Nat) (hl : 0 < l.length) (hm : l.length ≤ 1000000) :
    NewI w0 (w.alloc (.cells (cellsI l).toArray 3)) (.slice (some ⟨w.heap.size, 0, none⟩) l.length l.length) l := by
  have h := Own.built w 3 l.length (cellsI l).toArray (by simp [cellsI]) hl (by unfold maxLen; omega)
  rw [List.toList_toArray] at h
  exact ⟨_, h, k.alloc _, .fresh _ _ k.size⟩
theorem Own.pre {w : World} {e n g off c m : Nat} {xs : List Value} {row : Option Nat} (h : Own w e 1 (.slice (some ⟨g, off, none⟩) n c) n xs row) (hm : m ≤ n) (hn : 0 < n) :
    Own w e 1 (.slice (some ⟨g, off, none⟩) m c) m (xs.take m) row := by
  obtain ⟨g', off', c', cur, hv, hrow, hb, h0, hnc, hcm, hcs, hx⟩ := h.at_ hn
  injection hv with ha _ hcc
  injection ha with ha
  injection ha with h1 h2
  subst h1; subst h2; subst hcc
  refine ⟨by rw [List.length_take, h.1]; omega, .inr ⟨g, off, c, cur, rfl, hrow, hb, h0, by omega, hcm, hcs, fun j u hj => hx j u ?_⟩⟩
  rw [List.getElem?_take] at hj
  split at hj
  · exact hj
  · cases hj
theorem wpList_append_ints (w0 : World) {ops : Array Oper} {rest : List Oper} {o : Oper} {a : Act} {Q : Exit → Act → World → Prop} (w : World) (s x : Operand) (t : TypeId)
    (ht : Tryd.prog.underlying t = some (.slice 3)) (hgd : o.guard = none)
    (ho : o.op = .call { callee := .builtin .append, args := #[s, x], argTypes := #[t, t] })
    {v : Value} {l : List Nat} (hown : NewI w0 w v l) (hl : l.length ≤ 1000000) (m : List Nat) (hml : m.length ≤ 1000000) {xv : Value} {rx : Option Nat} (hsrc : Own w 3 1 xv m.length (cellsI m) rx)
    (hv : a.eval s = v) (hx : a.eval x = xv)
    (h : ∀ A c w', NewI w0 w' (.slice A (l ++ m).length c) (l ++ m) → wpList Tryd.prog ops Q rest (a.put o.dst (.slice A (l ++ m).length c)) w') :
    wpList Tryd.prog ops Q (o :: rest) a w := by
  obtain ⟨row, hw, hto, hn⟩ := hown
  obtain ⟨i, hi, hz, hs, hb⟩ := info_parts infoInt
  refine wpList_append_Own w hgd s x t t ho 3 i _ 1 8 ht hi hz hs hb rfl v l.length (cellsI l) row hv hw _ m.length (cellsI m) hx (hsrc.src (cellsI_one m) ht) (by unfold maxLen; omega) (by omega) ?_
  intro v' w' row' h1 h2 h3
  obtain ⟨A, c, rfl, _⟩ := h1.shape
  rw [← cellsI_append] at h1
  have hl : (l ++ m).length = l.length + m.length := by simp
  rw [← hl] at h1 ⊢
  have hto' : Touch [] w0 w' := ⟨h2.os.trans hto.os, h2.tape.trans hto.tape, h2.output.trans hto.output, Nat.le_trans hto.size h2.size, fun i hi hni => (h2.block i (Nat.lt_of_lt_of_le hi hto.size) (fun hm => by
    rcases hn i (Option.mem_toList.1 hm) with h' | h'
    · cases h'
    · omega)).trans (hto.block i hi hni)⟩
  exact h A c w' ⟨row', h1, hto', hn.trans h3 hto.size⟩
theorem getD_map_int (l : List Nat) (i : Nat) : (l.map fun (n : Nat) => (n : Int)).getD i 0 = ((l.getD i 0 : Nat) : Int) := by
  simp only [List.getD, List.getElem?_map]
  cases l[i]? <;> rfl
/-! RefFa -/
def dN : List Nat → Nat
  | [] => 0
  | x :: l => x + 65536 * dN l
def DigN (l : List Nat) : Prop := ∀ x ∈ l, x < 65536
theorem dN_append (l m : List Nat) : dN (l ++ m) = dN l + 65536 ^ l.length * dN m := by
  induction l with
  | nil => simp [dN]
  | cons x l ih => rw [List.cons_append, dN, dN, ih, List.length_cons, Nat.pow_succ]; grind
theorem dN_zeros (k : Nat) : dN (List.replicate k 0) = 0 := by
  induction k with
  | zero => rfl
  | succ k ih => rw [List.replicate_succ, dN, ih]
theorem dN_take_succ {l : List Nat} {k : Nat} (hk : k < l.length) : dN (l.take (k + 1)) = dN (l.take k) + 65536 ^ k * l.getD k 0 := by
  have h : l.take k ++ [l[k]] = l.take (k + 1) := List.take_append_getElem hk
  rw [← h, dN_append, List.length_take, Nat.min_eq_left (by omega)]
  simp [dN, List.getD, hk]
theorem dN_set {l : List Nat} {k : Nat} (hk : k < l.length) (x : Nat) : dN (l.set k x) + 65536 ^ k * l.getD k 0 = dN l + 65536 ^ k * x := by
  induction l generalizing k with
  | nil => simp at hk
  | cons y l ih =>
    cases k with
    | zero => simp [dN, List.getD]; omega
    | succ k =>
      have h := ih (k := k) (by simpa using hk)
      have e : (y :: l).getD (k + 1) 0 = l.getD k 0 := by simp [List.getD]
      rw [List.set_cons_succ, dN, dN, e, Nat.pow_succ]
      grind
theorem dN_lt {l : List Nat} (h : DigN l) : dN l < 65536 ^ l.length := by
  induction l with
  | nil => simp [dN]
  | cons x l ih =>
    have h1 := ih (fun y hy => h y (List.mem_cons_of_mem _ hy))
    have h2 := h x List.mem_cons_self
    rw [dN, List.length_cons, Nat.pow_succ]
    omega
theorem dN_drop {l : List Nat} {k : Nat} (hk : k < l.length) : dN (l.drop k) = l.getD k 0 + 65536 * dN (l.drop (k + 1)) := by
  rw [List.drop_eq_getElem_cons hk, dN]
  simp [List.getD, hk]
theorem dN_ge {l : List Nat} (hl : 0 < l.length) (h : l.getD (l.length - 1) 0 ≠ 0) : 65536 ^ (l.length - 1) ≤ dN l := by
  have h1 := dN_take_succ (l := l) (k := l.length - 1) (by omega)
  rw [show l.length - 1 + 1 = l.length by omega, List.take_of_length_le (Nat.le_refl _)] at h1
  rw [h1]
  have : 65536 ^ (l.length - 1) * 1 ≤ 65536 ^ (l.length - 1) * l.getD (l.length - 1) 0 := Nat.mul_le_mul_left _ (by omega)
  omega
theorem DigN.at_ {l : List Nat} (h : DigN l) (j : Nat) : l.getD j 0 < 65536 := by
  by_cases hj : j < l.length
  · rw [List.getD, List.getElem?_eq_getElem hj]; exact h _ (List.getElem_mem hj)
  · rw [List.getD, List.getElem?_eq_none (by omega)]; decide
theorem getD_le {l : List Nat} {M : Nat} (h : ∀ x ∈ l, x ≤ M) (j : Nat) : l.getD j 0 ≤ M := by
  by_cases hj : j < l.length
  · rw [List.getD, List.getElem?_eq_getElem hj]; exact h _ (List.getElem_mem hj)
  · rw [List.getD, List.getElem?_eq_none (by omega)]; exact Nat.zero_le _
theorem DigN.snoc {l : List Nat} (h : DigN l) {x : Nat} (hx : x < 65536) : DigN (l ++ [x]) := fun y hy => by
  rcases List.mem_append.1 hy with hy | hy
  · exact h y hy
  · rw [List.mem_singleton.1 hy]; exact hx
/-- What carrying leaves. -/
structure CarP (d q : List Nat) : Prop where
  dig : DigN q
  val : dN q = dN d
  len : d.length ≤ q.length
  top : d.length < q.length → 65536 ^ (q.length - 1) ≤ dN q
/-- While it is carried. -/
structure CarR (d q : List Nat) (i c : Nat) : Prop where
  len : q.length = i
  dig : DigN q
  val : dN q + 65536 ^ i * (c + dN (d.drop i)) = dN d
  top : d.length < i → c = 0 → q.getD (i - 1) 0 ≠ 0
  small : (i ≤ d.length ∧ c ≤ 1099511627776) ∨ (i = d.length + 1 ∧ c ≤ 16777216) ∨ (i = d.length + 2 ∧ c ≤ 256) ∨ (i = d.length + 3 ∧ c = 0)
theorem CarR.start (d : List Nat) : CarR d [] 0 0 := ⟨rfl, fun x hx => (by cases hx), (by simp [dN]), fun h => (by omega), .inl ⟨by omega, by omega⟩⟩
theorem snoc_last (l : List Nat) (x : Nat) : (l ++ [x]).getD l.length 0 = x := by simp [List.getD]
theorem CarR.step {d q : List Nat} {i c x : Nat} (h : CarR d q i c) (hi : i < d.length) (hb : ∀ x ∈ d, x ≤ 1099511627776) (hx : x = d.getD i 0) : CarR d (q ++ [(c + x) % 65536]) (i + 1) ((c + x) / 65536) := by
  have h1 := h.len
  have h2 := h.val
  have h3 := h.small
  have h4 := getD_le hb i
  rw [← hx] at h4
  refine ⟨by simp [h1], h.dig.snoc (Nat.mod_lt _ (by decide)), ?_, fun hl => by omega, by omega⟩
  rw [dN_append, h1, Nat.pow_succ]
  rw [dN_drop hi, ← hx] at h2
  rw [← h2]
  simp only [dN, Nat.mul_zero, Nat.add_zero]
  have e : c + x = (c + x) % 65536 + 65536 * ((c + x) / 65536) := by omega
  generalize (c + x) % 65536 = m at *
  generalize (c + x) / 65536 = n at *
  generalize 65536 ^ i = P at *
  generalize dN (d.drop (i + 1)) = D at *
  have e2 : c + (x + 65536 * D) = m + 65536 * (n + D) := by omega
  rw [e2]
  grind
theorem CarR.more {d q : List Nat} {i c : Nat} (h : CarR d q i c) (hi : d.length ≤ i) (hc : 0 < c) : CarR d (q ++ [c % 65536]) (i + 1) (c / 65536) := by
  have h1 := h.len
  have h2 := h.val
  have h3 := h.small
  refine ⟨by simp [h1], h.dig.snoc (Nat.mod_lt _ (by decide)), ?_, fun _ hz => ?_, by omega⟩
  · rw [dN_append, h1, Nat.pow_succ, List.drop_of_length_le (by omega)]
    rw [List.drop_of_length_le hi] at h2
    rw [← h2]
    simp only [dN, Nat.mul_zero, Nat.add_zero]
    have e : c = c % 65536 + 65536 * (c / 65536) := by omega
    generalize c % 65536 = m at *
    generalize c / 65536 = n at *
    generalize 65536 ^ i = P at *
    subst e
    grind
  · rw [show i + 1 - 1 = q.length by omega, snoc_last]
    omega
theorem CarR.done {d q : List Nat} {i : Nat} (h : CarR d q i 0) (hi : d.length ≤ i) : CarP d q := by
  have h1 := h.len
  have h2 := h.val
  rw [List.drop_of_length_le hi] at h2
  refine ⟨h.dig, by simpa [dN] using h2, by omega, fun hl => dN_ge (by omega) ?_⟩
  rw [h1]
  exact h.top (by omega) rfl
def RowPost (p : List Nat → Prop) (w : World) (e : Ending) (w' : World) : Prop := ∃ v q, e = .returned v ∧ NewI w w' v q ∧ p q
set_option maxRecDepth 100000 in
set_option maxHeartbeats 1000000 in
theorem carried_any (v : Value) (l : List Nat) (row : Option Nat) (w : World) (ho : Own w 3 1 v l.length (cellsI l) row) (h0 : 0 < l.length) (hl : l.length ≤ 1000) (hb : ∀ x ∈ l, x ≤ 1099511627776) :
    Calls Tryd.prog 68 #[v] w (RowPost (CarP l) w) := by
  have Hown := Lib.hid ho
  obtain ⟨g, off, c0, rfl, hrow, hg, hnc, hcm, _, _⟩ := ho.cell1 h0
  have hcm' : c0 ≤ 9223372036854775807 := hcm
  have Hb := Lib.hid hb
  clear ho hb hcm hrow
  obtain ⟨n, hn⟩ : ∃ n, n = l.length := ⟨_, rfl⟩
  have Hn := Lib.hid hn
  rw [← hn] at hnc h0 hl Hown
  rw [← hn]
  clear hn
  go_enter Tryd.func68, Tryd.ntmps68
  go_wp2_with fail
  go_loopw [3, 4, 5] (fun vo vc vi wr => ∃ (i c : Nat) (q : List Nat), vi = .int .i64 i ∧ vc = .int .i64 c ∧ NewI w wr vo q ∧ CarR l q i c) (fun _ vc vi _ => (n - (intOf vi).toNat) * 2199023255552 + (intOf vc).toNat)
  case atStart => exact ⟨0, 0, [], rfl, rfl, ⟨none, Own.nil _ _ _ _, (Touch.refl _ _).alloc _, .refl _ _⟩, CarR.start l⟩
  case round =>
    obtain ⟨i, c, q, rfl, rfl, hq, hC⟩ := hrel
    have hsm := hC.small
    rw [← Hn.out] at hsm
    have hql := hC.len
    have Hql := Lib.hid hql
    obtain ⟨A, cq, rfl, _⟩ := hq.shape
    rw [hql]
    have Hq := Lib.hid hq
    have HC := Lib.hid hC
    rw [hql] at Hq
    clear hC hq hql
    by_cases hin : i < n
    · have hcell : wr.cell? ⟨g, off + i, none⟩ = some (.int .i64 ((l.getD i 0 : Nat) : Int)) :=
        (Own.cellAt (Hown.out.touch Hq.out.touch (by simp)) (by omega) i _ (cellsI_at (by rw [← Hn.out]; exact hin)))
      have hst := HC.out.step (by rw [← Hn.out]; exact hin) Hb.out (x := l.getD i 0) rfl
      have hxb := getD_le Hb.out i
      obtain ⟨x, hx⟩ : ∃ x, x = l.getD i 0 := ⟨_, rfl⟩
      rw [← hx] at hcell hst hxb
      clear hx
      have HS := Lib.hid hst
      have hcb : c ≤ 1099511627776 := by omega
      obtain ⟨y, hy, hyb⟩ : ∃ y : Nat, (c : Int) + (x : Int) = (y : Int) ∧ c + x = y := ⟨c + x, by omega, rfl⟩
      rw [hyb] at HS
      have hyb2 : y ≤ 2199023255552 := by omega
      obtain ⟨u, hu, hu2, hul⟩ : ∃ u : Nat, (y : Int) % 65536 = (u : Int) ∧ y % 65536 = u ∧ u < 65536 := ⟨y % 65536, by omega, rfl, by omega⟩
      obtain ⟨z, hz, hz2, hzl⟩ : ∃ z : Nat, (y : Int) / 65536 = (z : Int) ∧ y / 65536 = z ∧ z ≤ 33554432 := ⟨y / 65536, by omega, rfl, by omega⟩
      rw [hu2, hz2] at HS
      clear hu2 hz2
      clear hst hyb hxb hsm
      go_wp2_with (at_builtin; refine wpList_append_int w _ (.tmp 27) (.tmp 30) 48 Tryd.underlying48 rfl rfl Hq.out (by rw [Hql.out]; omega) u _ rfl rfl ?_)
      intro A2 c2 w2 h2
      have H2 := Lib.hid h2
      clear h2
      go_wp2_with fail
      go_roundw
      case rel => exact ⟨i + 1, z, _, by go_num, rfl, H2.out, HS.out⟩
      case measure => simp [intOf]; omega
    · by_cases hc0 : 0 < c
      · have hst := HC.out.more (by rw [← Hn.out]; omega) hc0
        have HS := Lib.hid hst
        obtain ⟨u, hu, hu2, hul⟩ : ∃ u : Nat, (c : Int) % 65536 = (u : Int) ∧ c % 65536 = u ∧ u < 65536 := ⟨c % 65536, by omega, rfl, by omega⟩
        obtain ⟨z, hz, hz2, hzl⟩ : ∃ z : Nat, (c : Int) / 65536 = (z : Int) ∧ c / 65536 = z ∧ z < c := ⟨c / 65536, by omega, rfl, by omega⟩
        rw [hu2, hz2] at HS
        clear hu2 hz2
        have hcb : c ≤ 16777216 ∨ c ≤ 1099511627776 := by omega
        have hi4 : i ≤ n + 3 := by omega
        clear hst hsm
        go_wp2_with (at_builtin; refine wpList_append_int w _ (.tmp 27) (.tmp 30) 48 Tryd.underlying48 rfl rfl Hq.out (by rw [Hql.out]; omega) u _ rfl rfl ?_)
        intro A2 c2 w2 h2
        have H2 := Lib.hid h2
        clear h2
        go_wp2_with fail
        go_roundw
        case rel => exact ⟨i + 1, z, _, by go_num, rfl, H2.out, HS.out⟩
        case measure => simp [intOf]; omega
      · obtain rfl : c = 0 := by omega
        have HS := Lib.hid (HC.out.done (by rw [← Hn.out]; omega))
        clear hsm
        go_wp2_with fail
        go_ret
        exact ⟨_, q, rfl, Hq.out, HS.out⟩
/-! RefFb -/
abbrev B16 : Nat := 65536 ^ 16
theorem B16_mod : B16 = 2 * PP + 38 := by decide
def foldB : Nat → Nat
  | 0 => 65536 ^ 16
  | 1 => 65536 ^ 16 + 1445
  | 2 => 39 * 65536 ^ 16
  | _ => 65536 ^ 32
/-- While it is folded; k: so many rounds are left. -/
structure FoldS (k V : Nat) (q : List Nat) : Prop where
  dig : DigN q
  mod : dN q % PP = V % PP
  lt : dN q < foldB k
  len : q.length ≤ 32
  top : k ≤ 2 → 16 < q.length → 65536 ^ (q.length - 1) ≤ dN q
/-- What is added from above. -/
structure FoldI (q r : List Nat) (j : Nat) : Prop where
  len : r.length = 16
  drop : r.drop j = (q.take 16).drop j
  val : dN r = dN (q.take 16) + 38 * dN ((q.drop 16).take j)
  le : ∀ x ∈ r, x ≤ 2555865
theorem FoldI.start {q : List Nat} (h : DigN q) (hl : 16 ≤ q.length) : FoldI q (q.take 16) 0 :=
  ⟨by rw [List.length_take]; omega, rfl, by simp [dN], fun x hx => by have := h x (List.mem_of_mem_take hx); omega⟩
theorem FoldI.step {q r : List Nat} {j x y : Nat} (h : FoldI q r j) (hd : DigN q) (hj : j < 16) (hl : 16 + j < q.length) (hx : x = r.getD j 0) (hy : y = q.getD (16 + j) 0) : FoldI q (r.set j (x + 38 * y)) (j + 1) := by
  have h1 := h.len
  have hxl : x < 65536 := by
    have e := congrArg (fun m => m.getD 0 0) h.drop
    have e2 : (r.drop j).getD 0 0 = x := by rw [hx]; simp [List.getD]
    have e3 : ((q.take 16).drop j).getD 0 0 = q.getD j 0 := by
      simp only [List.getD, List.getElem?_drop, List.getElem?_take]
      rw [if_pos (by omega)]
      rfl
    have := hd.at_ j
    omega
  have hyl : y < 65536 := by rw [hy]; exact hd.at_ _
  refine ⟨by rw [List.length_set]; exact h1, ?_, ?_, fun z hz => ?_⟩
  · rw [List.drop_set, if_pos (by omega)]
    have e := congrArg (List.drop 1) h.drop
    rwa [List.drop_drop, List.drop_drop] at e
  · have e1 := dN_set (l := r) (k := j) (by omega) (x + 38 * y)
    have e2 := dN_take_succ (l := q.drop 16) (k := j) (by rw [List.length_drop]; omega)
    have e3 : (q.drop 16).getD j 0 = y := by rw [hy]; simp [List.getD]
    rw [e2, e3]
    rw [← hx, h.val] at e1
    generalize 65536 ^ j = P at *
    generalize dN (r.set j (x + 38 * y)) = R at *
    generalize dN ((q.drop 16).take j) = D at *
    generalize dN (q.take 16) = L at *
    grind
  · rcases List.mem_or_eq_of_mem_set hz with hz | rfl
    · exact h.le z hz
    · omega
theorem dN_split (q : List Nat) (h : 16 ≤ q.length) : dN q = dN (q.take 16) + 65536 ^ 16 * dN (q.drop 16) := by
  have e := dN_append (q.take 16) (q.drop 16)
  rwa [List.take_append_drop, List.length_take, Nat.min_eq_left h] at e
/-- A round. -/
theorem FoldS.round {k V : Nat} {q r p : List Nat} (h : FoldS k V q) (hl : 16 < q.length) (hi : FoldI q r (q.length - 16)) (hp : CarP r p) : ∃ k', k = k' + 1 ∧ FoldS k' V p := by
  have hs := dN_split q (by omega)
  have hv := hi.val
  rw [List.take_of_length_le (l := q.drop 16) (by rw [List.length_drop]; omega)] at hv
  have hlow : dN (q.take 16) < 65536 ^ 16 := by
    have := dN_lt (l := q.take 16) (fun x hx => h.dig x (List.mem_of_mem_take hx))
    rwa [List.length_take, Nat.min_eq_left (by omega)] at this
  have hhigh : dN (q.drop 16) < 65536 ^ 16 := by
    have h1 := dN_lt (l := q.drop 16) (fun x hx => h.dig x (List.mem_of_mem_drop hx))
    rw [List.length_drop] at h1
    exact Nat.lt_of_lt_of_le h1 (Nat.pow_le_pow_right (by decide) (by have := h.len; omega))
  have hm : dN p % PP = V % PP := by
    rw [hp.val, hv, ← h.mod, hs]
    have e : dN (q.take 16) + 65536 ^ 16 * dN (q.drop 16) = dN (q.take 16) + 38 * dN (q.drop 16) + PP * (2 * dN (q.drop 16)) := by
      have := B16_mod
      unfold B16 at this
      rw [this]
      generalize dN (q.drop 16) = D
      generalize PP = P
      grind
    rw [e, Nat.add_mul_mod_self_left]
  have hpv : dN p = dN (q.take 16) + 38 * dN (q.drop 16) := by rw [hp.val, hv]
  have ht := hp.top
  rw [hi.len] at ht
  have hB : (65536 : Nat) ^ 16 = 115792089237316195423570985008687907853269984665640564039457584007913129639936 := by decide
  have hlen : dN p < 39 * 65536 ^ 16 → p.length ≤ 32 := fun hlt => by
    apply Classical.byContradiction
    intro hc
    have h1 := ht (by omega)
    have h2 : (65536 : Nat) ^ 17 ≤ 65536 ^ (p.length - 1) := Nat.pow_le_pow_right (by decide) (by omega)
    have h3 : 39 * (65536 : Nat) ^ 16 < 65536 ^ 17 := by decide
    omega
  have hq := h.lt
  have htop : k ≤ 2 → 65536 ^ 16 ≤ dN q := fun hk => by
    have h1 := h.top hk hl
    exact Nat.le_trans (Nat.pow_le_pow_right (by decide) (by omega)) h1
  rw [hB] at hlow hhigh hs
  match k, hq, htop with
  | 0, hq, htop =>
    have := htop (by omega)
    simp only [foldB] at hq
    omega
  | 1, hq, htop =>
    have h1 := htop (by omega)
    simp only [foldB] at hq
    rw [hB] at h1 hq
    have hlt : dN p < 65536 ^ 16 := by rw [hpv, hB]; omega
    exact ⟨0, rfl, hp.dig, hm, hlt, hlen (Nat.lt_of_lt_of_le hlt (by decide)), fun _ hlp => ht hlp⟩
  | 2, hq, htop =>
    simp only [foldB] at hq
    rw [hB] at hq
    have hlt : dN p < 65536 ^ 16 + 1445 := by rw [hpv, hB]; omega
    exact ⟨1, rfl, hp.dig, hm, hlt, hlen (Nat.lt_of_lt_of_le hlt (by decide)), fun _ hlp => ht hlp⟩
  | k + 3, hq, htop =>
    have hlt : dN p < 39 * 65536 ^ 16 := by rw [hpv, hB]; omega
    have hfb : foldB 2 ≤ foldB (k + 2) := by
      match k with
      | 0 => exact Nat.le_refl _
      | k + 1 => show 39 * 65536 ^ 16 ≤ 65536 ^ 32; decide
    exact ⟨k + 2, rfl, hp.dig, hm, Nat.lt_of_lt_of_le hlt hfb, hlen hlt, fun _ hlp => ht hlp⟩
theorem FoldS.done {k V : Nat} {q : List Nat} (h : FoldS k V q) (hl : q.length ≤ 16) : dN q < 65536 ^ 16 := Nat.lt_of_lt_of_le (dN_lt h.dig) (Nat.pow_le_pow_right (by decide) hl)
theorem FoldS.start {l q : List Nat} (h : CarP l q) (hl : l.length ≤ 32) (hv : dN l < 65536 ^ 32) : FoldS 3 (dN l) q := by
  refine ⟨h.dig, by rw [h.val], by rw [h.val]; exact hv, ?_, fun h => by omega⟩
  apply Classical.byContradiction
  intro hc
  have h1 := h.top (by omega)
  rw [h.val] at h1
  have h2 : (65536 : Nat) ^ 32 ≤ 65536 ^ (q.length - 1) := Nat.pow_le_pow_right (by decide) (by omega)
  omega
/-- Sixteen digits, the same modulo p. -/
structure Dig16 (V : Nat) (q : List Nat) : Prop where
  len : q.length = 16
  dig : DigN q
  mod : dN q % PP = V % PP
theorem dN_pad {q : List Nat} (x : Nat) : dN (q ++ [x]) = dN q + 65536 ^ q.length * x := by rw [dN_append]; simp [dN]
set_option maxRecDepth 100000 in
set_option maxHeartbeats 4000000 in
theorem folded_any (v : Value) (l : List Nat) (row : Option Nat) (w : World) (ho : Own w 3 1 v l.length (cellsI l) row) (h0 : 0 < l.length) (hl : l.length ≤ 32) (hb : ∀ x ∈ l, x ≤ 1099511627776) (hv : dN l < 65536 ^ 32) :
    Calls Tryd.prog 67 #[v] w (RowPost (Dig16 (dN l)) w) := by
  have hcar := fun W (h : W = w) => h ▸ carried_any v l row w ho h0 (by omega) hb
  have HCar := Lib.hid hcar
  have Hst := Lib.hid (fun q h => FoldS.start (q := q) h hl hv)
  obtain ⟨V, hV⟩ : ∃ V, V = dN l := ⟨_, rfl⟩
  rw [← hV] at Hst ⊢
  clear hcar ho h0 hl hb hv hV
  go_enter Tryd.func67, Tryd.ntmps67
  go_wp2_with fail
  refine (HCar.out _ rfl).mono ?_
  rintro e w1 ⟨v1, q1, rfl, hn1, hc1⟩
  have HN := Lib.hid hn1
  have HF := Lib.hid (Hst.out q1 hc1)
  clear hn1 hc1 Hst HCar
  go_wp2_with fail
  go_loopg [0] 3 (fun gk v0 wr => ∃ q : List Nat, NewI w wr v0 q ∧ FoldS gk V q)
  case atStart => exact ⟨q1, HN.out, HF.out⟩
  case round =>
    clear HN HF
    obtain ⟨q, hq, hF⟩ := hrel
    rename World => wq
    have HF := Lib.hid hF
    obtain ⟨n, hn⟩ : ∃ n, n = q.length := ⟨_, rfl⟩
    have Hn := Lib.hid hn
    have hn32 : n ≤ 32 := by rw [hn]; exact hF.len
    clear hF
    by_cases h16 : 16 < n
    · obtain ⟨g, off, c, rfl, hg, hnc, hcm, _, _⟩ := hq.cells (by omega)
      have hcm' : c ≤ 9223372036854775807 := hcm
      obtain ⟨rq, hown⟩ := hq.own
      have Hq := Lib.hid hq
      rw [← hn] at hnc hown Hq ⊢
      have hpre := hown.pre (m := 16) (by omega) (by omega)
      have e1 : (cellsI q).take 16 = cellsI (q.take 16) := by simp [cellsI]
      have e2 : (q.take 16).length = 16 := by rw [List.length_take, ← hn]; omega
      rw [e1] at hpre
      have Hown := Lib.hid hown
      have Hpre := Lib.hid hpre
      have He2 := Lib.hid e2
      clear hpre hown e1 e2 hq hcm hn
      go_wp2_with (at_builtin; refine wpList_append_ints wq _ (.tmp 10) (.tmp 12) 48 Tryd.underlying48 rfl rfl (v := .slice (some ⟨wq.heap.size, 0, none⟩) 0 0) (l := []) ⟨none, Own.nil _ _ _ _, (Touch.refl _ _).alloc _, .refl _ _⟩ (by simp) (q.take 16) (by rw [He2.out]; omega) (xv := .slice (some ⟨g, off, none⟩) 16 c) (rx := rq) (by rw [He2.out]; exact Hpre.out.alloc _) rfl rfl ?_)
      intro A2 c2 w2 h2
      have hmin : min 16 q.length = 16 := by rw [← Hn.out]; omega
      rw [hmin] at h2 ⊢
      clear hmin
      have hI0 := Lib.hid (FoldI.start HF.out.dig (by rw [← Hn.out]; omega))
      obtain ⟨r0, hr0⟩ : ∃ r0, r0 = q.take 16 := ⟨_, rfl⟩
      rw [← hr0] at h2 hI0
      clear hr0 Hpre He2
      have hr0l := hI0.out.len
      rw [← hr0l] at h2
      obtain ⟨g2, o2, c3, hv2, hg2, hnc2, hcm2, _, _⟩ := h2.cells (by omega)
      injection hv2 with ha hb hc
      subst ha hc
      clear hb
      rw [hr0l] at h2 hnc2
      have hcm2' : c2 ≤ 9223372036854775807 := hcm2
      have H2 := Lib.hid h2
      clear h2 hcm2 hr0l
      go_wp2_with fail
      go_loopw [4] (fun vi wx => ∃ (j : Nat) (r : List Nat), j + 16 ≤ n ∧ vi = .int .i64 ((j : Int) + 16) ∧ NewI wq wx (.slice (some ⟨g2, o2, none⟩) 16 c2) r ∧ FoldI q r j) (fun vi _ => n - (intOf vi).toNat)
      case atStart => exact ⟨0, r0, by omega, rfl, H2.out, hI0.out⟩
      case round =>
        clear H2 hI0
        obtain ⟨j, r, hj, rfl, hr, hI⟩ := hrel
        have Hr := Lib.hid hr
        have HI := Lib.hid hI
        have hrl := hI.len
        clear hr hI
        by_cases hjn : j + 16 < n
        · have hcq := Own.cellAt (Hown.out.touch Hr.out.touch (by simp)) (by omega) (16 + j) _ (cellsI_at (by rw [← Hn.out]; omega))
          rw [show off + (16 + j) = off + (j + 16) by omega] at hcq
          have hrc := Hr.out
          rw [← hrl] at hrc
          obtain ⟨_, _, _, hvt, _, _, _, hft, hct⟩ := hrc.cells (by omega)
          injection hvt with ha hvl hcc
          clear hvl hrc
          injection ha with ha
          injection ha with h1 h2
          subst h1 h2 hcc
          have hcr := hct j (by omega)
          have hfr := hft (o2 + j)
          have Hrl := Lib.hid hrl
          clear hct hft hrl
          have hst := HI.out.step HF.out.dig (by omega) (by rw [← Hn.out]; omega) (x := r.getD j 0) (y := q.getD (16 + j) 0) rfl rfl
          have hxb := getD_le HI.out.le j
          have hyb := HF.out.dig.at_ (16 + j)
          obtain ⟨x, hx⟩ : ∃ x, x = r.getD j 0 := ⟨_, rfl⟩
          obtain ⟨y, hy⟩ : ∃ y, y = q.getD (16 + j) 0 := ⟨_, rfl⟩
          rw [← hx] at hcr hst hxb
          rw [← hy] at hcq hst hyb
          have HS := Lib.hid hst
          clear hst hx hy
          go_wp2_with fail
          go_region
          go_wp2_with fail
          go_roundw
          case rel =>
            have hcast : (x : Int) + 38 * (y : Int) = ((x + 38 * y : Nat) : Int) := by omega
            have hset := Hr.out
            rw [← Hrl.out] at hset
            have hset2 := hset.set j (x + 38 * y) (by rw [Hrl.out]; omega)
            rw [show (r.set j (x + 38 * y)).length = 16 by rw [List.length_set]; exact Hrl.out] at hset2
            rw [hcast]
            exact ⟨j + 1, _, by omega, congrArg (Value.int .i64) (by omega), hset2.more (Touch.refl _ _).drew, HS.out⟩
          case measure => simp [intOf]; omega
        · obtain rfl : n = j + 16 := by omega
          obtain ⟨rr, hor⟩ := Hr.out.own
          rw [hrl] at hor
          have hge := HI.out
          rw [show j = q.length - 16 by rw [← Hn.out]; omega] at hge
          have hle := HI.out.le
          have hcar := fun W (h : W = wr) => h ▸ carried_any _ r rr wr (by rw [hrl]; exact hor) (by omega) (by omega) (fun x hx => Nat.le_trans (hle x hx) (by decide))
          have HCar := Lib.hid hcar
          have HR := Lib.hid (fun p hp => HF.out.round (p := p) (by rw [← Hn.out]; omega) hge hp)
          clear hcar hle hge hor hrl
          go_wp2_with fail
          refine (HCar.out _ rfl).mono ?_
          rintro e w3 ⟨v3, p, rfl, hn3, hc3⟩
          obtain ⟨k', hk', hF'⟩ := HR.out p hc3
          have HN := Lib.hid (hn3.before (Hq.out.touch.trans Hr.out.touch))
          have HF' := Lib.hid hF'
          clear hn3 hc3 hF' HCar HR
          go_wp2_with fail
          go_roundg k'
          case measure => omega
          case rel => exact ⟨p, HN.out, HF'.out⟩
    · obtain ⟨A, c, rfl, hac⟩ := hq.shape
      have Hq := Lib.hid hq
      rw [← hn] at Hq ⊢
      have hd := HF.out.dig
      have hm := HF.out.mod
      have Hd := Lib.hid hd
      have Hm := Lib.hid hm
      clear hd hm hq hac hn
      go_wp2_with fail
      go_loopg [0] (16 - n) (fun gk v0 wr => ∃ p : List Nat, p.length + gk = 16 ∧ NewI w wr v0 p ∧ DigN p ∧ dN p % PP = V % PP)
      case atStart => exact ⟨q, by rw [← Hn.out]; omega, by rw [Hn.out] at Hq ⊢; exact Hq.out, Hd.out, Hm.out⟩
      case round =>
        clear HF Hn Hq Hd Hm
        obtain ⟨p, hp, hN, hD, hM⟩ := hrel
        obtain ⟨A2, c2, rfl, _⟩ := hN.shape
        have HN := Lib.hid hN
        have HD := Lib.hid hD
        have HM := Lib.hid hM
        clear hN hD hM
        by_cases hg0 : gk = 0
        · subst hg0
          have HP := Lib.hid (show p.length = 16 by omega)
          clear hp
          rw [HP.out] at HN ⊢
          go_wp2_with fail
          go_ret
          exact ⟨_, p, rfl, HN.out, HP.out, HD.out, HM.out⟩
        · obtain ⟨m, hm⟩ : ∃ m, m = p.length := ⟨_, rfl⟩
          have Hm := Lib.hid hm
          rw [← hm] at hp HN ⊢
          clear hm
          go_wp2_with (at_builtin; refine wpList_append_int w _ (.tmp 40) (.tmp 41) 48 Tryd.underlying48 rfl rfl HN.out (by rw [← Hm.out]; omega) 0 _ rfl rfl ?_)
          intro A3 c3 w3 h3
          have H3 := Lib.hid h3
          clear h3
          go_wp2_with fail
          go_roundg (gk - 1)
          case measure => omega
          case rel => exact ⟨p ++ [0], by rw [List.length_append, ← Hm.out]; simp; omega, H3.out, HD.out.snoc (by decide), by rw [dN_pad, Nat.mul_zero, Nat.add_zero]; exact HM.out⟩
/-! OpsR -/
section
variable {o : Oper} {a : Act} {w : World} {R : Value → World → Prop} {x y : Operand} {t1 t2 : TypeId} {k : IntKind}
/-- The place of an element of a row of ints. -/
theorem OpTo.ixI (g off n c i : Nat) (ho : o.op = .indexAddr 48 x y) (hx : a.eval x = .slice (some ⟨g, off, none⟩) n c) (hy : a.eval y = .int k (i : Int)) (hi : i < n) (hR : R (.pointer (some ⟨g, off + i, none⟩)) w) : OpTo Tryd.prog o a w R :=
  OpTo.val (v := .pointer (some ⟨g, off + i, none⟩)) (by
    have h1 : (0 : Int) ≤ (i : Int) ∧ (i : Int) < (n : Int) := by omega
    unfold execOp
    simp only [ho, hx, hy]
    go_simp) hR
theorem OpTo.ldI (g j : Nat) (v : Value) (ho : o.op = .load 3 x) (hx : a.eval x = .pointer (some ⟨g, j, none⟩)) (hc : w.cell? ⟨g, j, none⟩ = some v) (hR : R v w) : OpTo Tryd.prog o a w R :=
  OpTo.val (v := v) (by
    unfold execOp
    simp only [ho, hx]
    go_simp) hR
theorem OpTo.cvI (kd : IntKind) (i r : Int) (ho : o.op = .convert t1 t2 x) (h1 : (Tryd.prog.underlying t1).isSome = true) (h2 : Tryd.prog.underlying t2 = some (.int kd)) (hx : a.eval x = .int k i) (hr : kd.wrap i = r) (hR : R (.int kd r) w) : OpTo Tryd.prog o a w R := by
  have e : Tryd.prog.intKind t2 = kd := by unfold Program.intKind; rw [h2]
  refine OpTo.val (v := .int kd r) ?_ hR
  have := run_convert_int (P := Tryd.prog) w t1 t2 k i h1 (by rw [e]; exact h2)
  rw [e, hr] at this
  unfold execOp
  simp only [ho, hx]
  go_simp
end
section
variable {P : Program} {o : Oper} {a : Act} {w : World} {R : Value → World → Prop} {x y : Operand} {t1 t2 : TypeId} {k : IntKind}
theorem OpTo.quoI (i j r : Int) (hj : 0 < j) (hi : 0 ≤ i) (ho : o.op = .binOp .quo t1 x y t2) (hx : a.eval x = .int k i) (hy : a.eval y = .int k j) (hr : k.wrap (i / j) = r) (hR : R (.int k r) w) : OpTo P o a w R :=
  OpTo.val (v := .int k r) (by
    have h1 : j ≠ 0 := by omega
    have h2 : i.tdiv j = i / j := Int.tdiv_eq_ediv_of_nonneg hi
    unfold execOp; simp only [ho, hx, hy]; go_simp
    try (rw [h2]; exact hr)) hR
end
/-- A slice of two bytes, that a call made. -/
def sl2 (d e : Int) : SP := ⟨fun v w => ∃ g, v = .slice (some ⟨g, 0, none⟩) 2 2 ∧ Blk w g 5 #[.int .u8 d, .int .u8 e], fun _ _ _ ⟨g, hv, hb⟩ ht => ⟨g, hv, hb.touch ht (by simp)⟩⟩
theorem OpTo.two {o : Oper} {a : Act} {w : World} {T : Tmp → SP} {x y : Operand} (d e : Int) (ho : o.op = .buildSlice 62 2 #[(0, x), (1, y)]) (hx : a.eval x = .int .u8 d) (hy : a.eval y = .int .u8 e) (hv : ∀ v w', (sl2 d e).p v w' → dOfW o T v w') : OpTo Tryd.prog o a w (fun v w' => dOfW o T v w' ∧ Touch [] w w') := by
  have h : (execOp a.eval o).run Tryd.prog w = .ok (.value (.slice (some ⟨w.heap.size, 0, none⟩) 2 2)) (w.alloc (.cells #[.int .u8 d, .int .u8 e] 5)) := by
    unfold execOp
    simp only [ho]
    simp only [List.map_toArray, List.map_cons, List.map_nil, hx, hy]
    go_simp
  intro K Q hK
  unfold Oper.wp
  rw [h]
  exact hK _ _ ⟨hv _ _ ⟨w.heap.size, rfl, Blk.new _ _ _⟩, (Touch.refl _ _).alloc _⟩
/-! RefFc -/
def textB : Nat → Nat
  | 0 => 57896044618658097711785492504343953926634992332820282019728792003956564819968
  | 1 => 57896044618658097711785492504343953926634992332820282019728792003956564819987
  | _ => 65536 ^ 16
structure TextS (k V : Nat) (q : List Nat) : Prop where
  len : q.length = 16
  dig : DigN q
  mod : dN q % PP = V % PP
  lt : dN q < textB k
theorem TextS.start {V : Nat} {q : List Nat} (h : Dig16 V q) : TextS 2 V q := ⟨h.len, h.dig, h.mod, by have := dN_lt h.dig; rw [h.len] at this; exact this⟩
theorem dN_15 {q : List Nat} (hl : q.length = 16) (hd : DigN q) : dN q = dN (q.take 15) + 65536 ^ 15 * q.getD 15 0 ∧ dN (q.take 15) < 65536 ^ 15 := by
  have h := dN_take_succ (l := q) (k := 15) (by omega)
  rw [List.take_of_length_le (by omega)] at h
  have h2 := dN_lt (l := q.take 15) (fun x hx => hd x (List.mem_of_mem_take hx))
  rw [List.length_take, hl] at h2
  exact ⟨h, h2⟩
/-- What a round writes, ahead of carrying. -/
def sub15 (q : List Nat) : List Nat := (q.set 15 (q.getD 15 0 - 32768)).set 0 (q.getD 0 0 + 19)
theorem sub15_val {q : List Nat} (hl : q.length = 16) (h : 32768 ≤ q.getD 15 0) : dN (sub15 q) + 57896044618658097711785492504343953926634992332820282019728792003956564819968 = dN q + 19 := by
  have e1 := dN_set (l := q) (k := 15) (by omega) (q.getD 15 0 - 32768)
  have e2 := dN_set (l := q.set 15 (q.getD 15 0 - 32768)) (k := 0) (by rw [List.length_set]; omega) (q.getD 0 0 + 19)
  have e3 : (q.set 15 (q.getD 15 0 - 32768)).getD 0 0 = q.getD 0 0 := by simp [List.getD]
  rw [e3] at e2
  unfold sub15
  have e4 : (65536 : Nat) ^ 15 * 32768 = 57896044618658097711785492504343953926634992332820282019728792003956564819968 := by decide
  rw [← e4]
  obtain ⟨x, hx⟩ : ∃ x, q.getD 15 0 = x + 32768 := ⟨q.getD 15 0 - 32768, by omega⟩
  rw [hx] at e1 e2 ⊢
  simp only [Nat.add_sub_cancel] at e1 e2 ⊢
  generalize (65536 : Nat) ^ 15 = P at *
  generalize dN (q.set 15 x) = A at *
  generalize dN ((q.set 15 x).set 0 (q.getD 0 0 + 19)) = B at *
  generalize q.getD 0 0 = z at *
  grind
theorem TextS.round {k V : Nat} {q p : List Nat} (h : TextS k V q) (h15 : 32768 ≤ q.getD 15 0) (hp : CarP (sub15 q) p) : ∃ k', k = k' + 1 ∧ TextS k' V p := by
  have hv := sub15_val h.len h15
  have hpv := hp.val
  have hlen : (sub15 q).length = 16 := by unfold sub15; rw [List.length_set, List.length_set]; exact h.len
  have hq := h.lt
  have hq16 := dN_lt h.dig
  rw [h.len] at hq16
  have hB : (65536 : Nat) ^ 16 = 115792089237316195423570985008687907853269984665640564039457584007913129639936 := by decide
  have hp16 : dN p < 65536 ^ 16 := by rw [hB] at *; omega
  have hpl : p.length = 16 := by
    have h1 := hp.len
    rw [hlen] at h1
    apply Classical.byContradiction
    intro hc
    have h2 := hp.top (by rw [hlen]; omega)
    have h3 : (65536 : Nat) ^ 16 ≤ 65536 ^ (p.length - 1) := Nat.pow_le_pow_right (by decide) (by omega)
    omega
  have hge : 57896044618658097711785492504343953926634992332820282019728792003956564819968 ≤ dN q := by
    have := (dN_15 h.len h.dig).1
    have e4 : (65536 : Nat) ^ 15 * 32768 = 57896044618658097711785492504343953926634992332820282019728792003956564819968 := by decide
    have h2 : 65536 ^ 15 * 32768 ≤ 65536 ^ 15 * q.getD 15 0 := Nat.mul_le_mul_left _ h15
    omega
  have hm : dN p % PP = V % PP := by
    rw [← h.mod, hpv]
    have : dN q = dN (sub15 q) + PP := by unfold PP; omega
    rw [this, Nat.add_mod_right]
  match k, hq with
  | 0, hq => simp only [textB] at hq; omega
  | 1, hq => simp only [textB] at hq; exact ⟨0, rfl, hpl, hp.dig, hm, by simp only [textB]; omega⟩
  | k + 2, hq =>
    refine ⟨k + 1, rfl, hpl, hp.dig, hm, ?_⟩
    have h1 : dN p < textB 1 := by simp only [textB]; rw [hB] at hq16; omega
    match k with
    | 0 => exact h1
    | k + 1 => exact hp16
theorem TextS.done {k V : Nat} {q : List Nat} (h : TextS k V q) (h15 : q.getD 15 0 < 32768) : dN q < 57896044618658097711785492504343953926634992332820282019728792003956564819968 := by
  obtain ⟨h1, h2⟩ := dN_15 h.len h.dig
  have e4 : (65536 : Nat) ^ 15 * 32768 = 57896044618658097711785492504343953926634992332820282019728792003956564819968 := by decide
  have h3 : 65536 ^ 15 * q.getD 15 0 ≤ 65536 ^ 15 * 32767 := Nat.mul_le_mul_left _ (by omega)
  omega
/-- Whether p can still be taken away, as far as it was looked. -/
def topB (q : List Nat) : Nat → Bool
  | 0 => decide (q.getD 15 0 = 32767) && decide (65517 ≤ q.getD 0 0)
  | i + 1 => topB q i && decide (q.getD (i + 1) 0 = 65535)
theorem max_iff {m : List Nat} (h : DigN m) : dN m + 1 = 65536 ^ m.length ↔ ∀ j, j < m.length → m.getD j 0 = 65535 := by
  induction m with
  | nil => simp [dN]
  | cons x m ih =>
    have h1 := ih (fun y hy => h y (List.mem_cons_of_mem _ hy))
    have h2 := dN_lt (l := m) (fun y hy => h y (List.mem_cons_of_mem _ hy))
    have h3 := h x List.mem_cons_self
    rw [dN, List.length_cons, Nat.pow_succ]
    constructor
    · intro he j hj
      have hx : x = 65535 := by omega
      cases j with
      | zero => simpa [List.getD] using hx
      | succ j =>
        have := h1.1 (by omega) j (by omega)
        simpa [List.getD] using this
    · intro he
      have hx : x = 65535 := by have := he 0 (by omega); simpa [List.getD] using this
      have := h1.2 (fun j hj => by have := he (j + 1) (by omega); simpa [List.getD] using this)
      omega
theorem topB_iff (q : List Nat) (i : Nat) : topB q i = true ↔ (q.getD 15 0 = 32767 ∧ 65517 ≤ q.getD 0 0) ∧ ∀ j, j < i → q.getD (j + 1) 0 = 65535 := by
  induction i with
  | zero => simp [topB]
  | succ i ih =>
    simp only [topB, Bool.and_eq_true, decide_eq_true_eq, ih]
    constructor
    · rintro ⟨⟨h1, h2⟩, h3⟩
      refine ⟨h1, fun j hj => ?_⟩
      by_cases hji : j = i
      · rw [hji]; exact h3
      · exact h2 j (by omega)
    · rintro ⟨h1, h2⟩
      exact ⟨⟨h1, fun j hj => h2 j (by omega)⟩, h2 i (by omega)⟩
theorem top_num {D M a b : Nat} (hD : D = a + 65536 * (M + 26959946667150639794667015087019630673637144422540572481103610249216 * b)) (ha : a < 65536) (hM : M < 26959946667150639794667015087019630673637144422540572481103610249216)
    (hlt : D < 57896044618658097711785492504343953926634992332820282019728792003956564819968) : (b = 32767 ∧ 65517 ≤ a) ∧ M + 1 = 26959946667150639794667015087019630673637144422540572481103610249216 ↔ PP ≤ D := by
  unfold PP
  omega
theorem top_iff {q : List Nat} (hl : q.length = 16) (hd : DigN q) (hlt : dN q < 57896044618658097711785492504343953926634992332820282019728792003956564819968) : topB q 14 = decide (PP ≤ dN q) := by
  have e1 := dN_drop (l := q) (k := 0) (by omega)
  rw [List.drop_zero] at e1
  have e2 := dN_take_succ (l := q.drop 1) (k := 14) (by rw [List.length_drop]; omega)
  rw [List.take_of_length_le (by rw [List.length_drop]; omega)] at e2
  have e3 : (q.drop 1).getD 14 0 = q.getD 15 0 := by simp [List.getD]
  have hm : DigN ((q.drop 1).take 14) := fun x hx => hd x (List.mem_of_mem_drop (List.mem_of_mem_take hx))
  have hml : ((q.drop 1).take 14).length = 14 := by rw [List.length_take, List.length_drop, hl]; rfl
  have hM := dN_lt hm
  have hx := max_iff hm
  rw [hml] at hM hx
  have e4 : (65536 : Nat) ^ 14 = 26959946667150639794667015087019630673637144422540572481103610249216 := by decide
  rw [e4] at hM hx e2
  rw [Nat.zero_add, e2, e3] at e1
  rw [Bool.eq_iff_iff, topB_iff, decide_eq_true_eq, ← top_num e1 (hd.at_ 0) hM hlt, hx]
  refine and_congr_right fun _ => ⟨fun h j hj => ?_, fun h j hj => ?_⟩
  · have := h j hj
    simp only [List.getD, List.getElem?_take, List.getElem?_drop]
    rw [if_pos hj, Nat.add_comm 1 j]
    simpa [List.getD] using this
  · have := h j hj
    simp only [List.getD, List.getElem?_take, List.getElem?_drop] at this
    rw [if_pos hj, Nat.add_comm 1 j] at this
    simpa [List.getD] using this
/-- What is told as bytes. -/
structure Fin16 (n : Nat) (q : List Nat) : Prop where
  len : q.length = 16
  dig : DigN q
  val : dN q = n
theorem TextS.keep {k V : Nat} {q : List Nat} (h : TextS k V q) (h15 : q.getD 15 0 < 32768) (ht : topB q 14 = false) : Fin16 (V % PP) q := by
  have hlt := h.done h15
  rw [top_iff h.len h.dig hlt] at ht
  refine ⟨h.len, h.dig, ?_⟩
  rw [← h.mod, Nat.mod_eq_of_lt (by have := of_decide_eq_false ht; omega)]
theorem cut_num {D M a b : Nat} (hD : D = a + 65536 * (M + 26959946667150639794667015087019630673637144422540572481103610249216 * b)) (hM : M + 1 = 26959946667150639794667015087019630673637144422540572481103610249216)
    (hb : b = 32767) (ha : 65517 ≤ a) : D = (a - 65517) + PP := by
  unfold PP
  omega
theorem TextS.cut {k V : Nat} {q : List Nat} (h : TextS k V q) (h15 : q.getD 15 0 < 32768) (ht : topB q 14 = true) : 65517 ≤ q.getD 0 0 ∧ Fin16 (V % PP) ((List.replicate 16 0).set 0 (q.getD 0 0 - 65517)) := by
  have hlt := h.done h15
  have hb := (topB_iff q 14).1 ht
  rw [top_iff h.len h.dig hlt] at ht
  have hge := of_decide_eq_true ht
  have e1 := dN_drop (l := q) (k := 0) (by have := h.len; omega)
  rw [List.drop_zero, Nat.zero_add] at e1
  have e2 := dN_take_succ (l := q.drop 1) (k := 14) (by rw [List.length_drop, h.len]; omega)
  rw [List.take_of_length_le (by rw [List.length_drop, h.len]; omega)] at e2
  have e3 : (q.drop 1).getD 14 0 = q.getD 15 0 := by simp [List.getD]
  have hm : DigN ((q.drop 1).take 14) := fun x hx => h.dig x (List.mem_of_mem_drop (List.mem_of_mem_take hx))
  have hml : ((q.drop 1).take 14).length = 14 := by rw [List.length_take, List.length_drop, h.len]; rfl
  have hx := (max_iff hm).2 (fun j hj => by
    rw [hml] at hj
    have hbj := hb.2 j hj
    simp only [List.getD, List.getElem?_take, List.getElem?_drop]
    rw [if_pos hj, Nat.add_comm 1 j]
    simpa [List.getD] using hbj)
  rw [hml] at hx
  have e4 : (65536 : Nat) ^ 14 = 26959946667150639794667015087019630673637144422540572481103610249216 := by decide
  rw [e4] at hx e2
  rw [e2, e3] at e1
  have hv := cut_num e1 hx hb.1.1 hb.1.2
  have h0 := h.dig.at_ 0
  have hb0 := hb.1.2
  have hpp : 65536 < PP := by decide
  clear e1 e2 hx e4 hlt hge hb ht
  obtain ⟨a, ha⟩ : ∃ a, a = q.getD 0 0 - 65517 := ⟨_, rfl⟩
  have ha2 : a < 65536 := by omega
  rw [← ha] at hv ⊢
  clear ha
  refine ⟨hb0, by simp, fun x hx => ?_, ?_⟩
  · rcases List.mem_or_eq_of_mem_set hx with h1 | h1
    · rw [(List.mem_replicate.1 h1).2]; omega
    · omega
  · have e5 := dN_set (l := List.replicate 16 0) (k := 0) (by simp) a
    rw [dN_zeros, Nat.pow_zero] at e5
    have e6 : (List.replicate 16 0).getD 0 0 = 0 := rfl
    rw [e6] at e5
    rw [← h.mod]
    rw [hv, Nat.add_mod_right, Nat.mod_eq_of_lt (by omega)]
    omega
/-- The bytes of digits. -/
def byL (l : List Nat) : List Nat := l.flatMap fun x => [x % 256, x / 256]
theorem byL_cons (x : Nat) (l : List Nat) : byL (x :: l) = x % 256 :: x / 256 :: byL l := rfl
theorem byL_len (l : List Nat) : (byL l).length = 2 * l.length := by
  induction l with
  | nil => rfl
  | cons x l ih => rw [byL_cons, List.length_cons, List.length_cons, ih, List.length_cons]; omega
theorem byL_snoc (l : List Nat) (x : Nat) : byL (l ++ [x]) = byL l ++ [x % 256, x / 256] := by simp [byL]
theorem leN_byL (l : List Nat) : leN (byL l) = dN l := by
  induction l with
  | nil => rfl
  | cons x l ih => rw [byL_cons, leN, leN, ih, dN]; omega
theorem byL_lt {l : List Nat} (h : DigN l) : ∀ b ∈ byL l, b < 256 := by
  intro b hb
  obtain ⟨x, hx, hb⟩ := List.mem_flatMap.1 hb
  have := h x hx
  simp only [List.mem_cons, List.not_mem_nil, or_false] at hb
  omega
theorem str_byL {n : Nat} {q : List Nat} (h : Fin16 n q) : strOfNums ((byL q).map fun (n : Nat) => (n : Int)) = toS n := by
  apply bl_inj
  rw [bl_strOfNums _ (byL_lt h.dig), bl_toS]
  have := byN_leN (byL_lt h.dig)
  rw [byL_len, h.len, leN_byL, h.val] at this
  exact this.symm
/-! RefFd -/
/-- A row that is new, by its place: the cells, the marks, and what a write leaves. -/
theorem NewI.at16 {w w1 : World} {v : Value} {q : List Nat} (h : NewI w w1 v q) (hl : q.length = 16) :
    ∃ g off c, v = .slice (some ⟨g, off, none⟩) 16 c ∧ w.heap.size ≤ g ∧ 16 ≤ c ∧ c ≤ 9223372036854775807 := by
  obtain ⟨g, off, c, rfl, hg, hnc, hcm, _, _⟩ := h.cells (by omega)
  rw [hl] at hnc ⊢
  exact ⟨g, off, c, rfl, hg, hnc, hcm⟩
theorem NewI.c16 {w w1 : World} {q : List Nat} {g off c : Nat} (h : NewI w w1 (.slice (some ⟨g, off, none⟩) 16 c) q) (hl : q.length = 16) (k : Nat) (hk : k < 16) :
    w1.cell? ⟨g, off + k, none⟩ = some (.int .i64 ((q.getD k 0 : Nat) : Int)) ∧ w1.frozen? ⟨g, off + k, none⟩ = false := by
  rw [← hl] at h
  obtain ⟨_, _, _, hv, _, _, _, hf, hc⟩ := h.cells (by omega)
  injection hv with ha _ _
  injection ha with ha
  injection ha with h1 h2
  subst h1 h2
  exact ⟨hc k (by omega), hf _⟩
theorem NewI.s16 {w w1 : World} {q : List Nat} {g off c : Nat} (h : NewI w w1 (.slice (some ⟨g, off, none⟩) 16 c) q) (hl : q.length = 16) (k x : Nat) (hk : k < 16) :
    NewI w (w1.setCell ⟨g, off + k, none⟩ (.int .i64 (x : Int))) (.slice (some ⟨g, off, none⟩) 16 c) (q.set k x) := by
  have h2 := h
  rw [← hl] at h2
  have := h2.set k x (by omega)
  rwa [List.length_set, hl] at this
theorem sub15_le {q : List Nat} (h : DigN q) : ∀ x ∈ sub15 q, x ≤ 1099511627776 := fun x hx => by
  unfold sub15 at hx
  rcases List.mem_or_eq_of_mem_set hx with h1 | h1
  · rcases List.mem_or_eq_of_mem_set h1 with h2 | h2
    · have := h x h2; omega
    · have := h.at_ 15; omega
  · have := h.at_ 0; omega
theorem set_get {q : List Nat} {a b x : Nat} (hab : a ≠ b) : (q.set a x).getD b 0 = q.getD b 0 := by simp [List.getD, List.getElem?_set_ne hab]
theorem cell_touch {w w' : World} {g j : Nat} {v : Value} (h : w.cell? ⟨g, j, none⟩ = some v) (ht : Touch [] w w') : w'.cell? ⟨g, j, none⟩ = some v := by
  rw [ht.cell (World.block_lt_of_cell? w _ h) (by simp)]; exact h
theorem Touch.trans_new'' {w w1 w2 : World} {row : Option Nat} (h : Touch [] w w1) (k : Touch row.toList w1 w2) (hn : NewRow w none row) : Touch [] w w2 := Touch.trans_new' h k hn
theorem Own.ofBlk {w : World} {g : Nat} {e : TypeId} {cs : List Value} (h : Blk w g e cs.toArray) (h0 : 0 < cs.length) (hm : cs.length ≤ maxLen) : Own w e 1 (.slice (some ⟨g, 0, none⟩) cs.length cs.length) cs.length cs (some g) :=
  ⟨by omega, .inr ⟨g, 0, cs.length, cs.toArray, rfl, rfl, h, h0, Nat.le_refl _, hm, by simp, fun j u hj => by simpa using hj⟩⟩
theorem wpList_append_two (w0 : World) {ops : Array Oper} {rest : List Oper} {o : Oper} {a : Act} {Q : Exit → Act → World → Prop} (w : World) (s x : Operand) (t : TypeId)
    (ht : Tryd.prog.underlying t = some (.slice 5)) (hgd : o.guard = none)
    (ho : o.op = .call { callee := .builtin .append, args := #[s, x], argTypes := #[t, t] })
    {v : Value} {l : List Nat} (hown : NewU w0 w v l) (hl : l.length ≤ 1000000) (u1 u2 g2 : Nat) (hb : Blk w g2 5 #[.int .u8 (u1 : Int), .int .u8 (u2 : Int)])
    (hv : a.eval s = v) (hx : a.eval x = .slice (some ⟨g2, 0, none⟩) 2 2)
    (h : ∀ A c w', NewU w0 w' (.slice A (l ++ [u1, u2]).length c) (l ++ [u1, u2]) → wpList Tryd.prog ops Q rest (a.put o.dst (.slice A (l ++ [u1, u2]).length c)) w') :
    wpList Tryd.prog ops Q (o :: rest) a w := by
  obtain ⟨row, hw, hto, hn⟩ := hown
  obtain ⟨i, hi, hz, hs, hby⟩ := info_parts infoU8
  have hsrc := Own.ofBlk (cs := [.int .u8 (u1 : Int), .int .u8 (u2 : Int)]) hb (by simp) (by unfold maxLen; simp)
  refine wpList_append_Own w hgd s x t t ho 5 i _ 1 1 ht hi hz hs hby rfl v l.length (cellsU8 l) row hv hw _ 2 [.int .u8 (u1 : Int), .int .u8 (u2 : Int)] hx (hsrc.src (fun u hu => by simp only [List.mem_cons, List.not_mem_nil, or_false] at hu; rcases hu with rfl | rfl <;> rfl) ht) (by unfold maxLen; omega) (by omega) ?_
  intro v' w' row' h1 h2 h3
  obtain ⟨A, c, rfl, _⟩ := h1.shape
  have hc : cellsU8 l ++ [.int .u8 (u1 : Int), .int .u8 (u2 : Int)] = cellsU8 (l ++ [u1, u2]) := by simp [cellsU8]
  rw [hc] at h1
  have hl : (l ++ [u1, u2]).length = l.length + 2 := by simp
  rw [← hl] at h1 ⊢
  exact h A c w' ⟨row', h1, Touch.trans_new'' hto h2 hn, hn.trans h3 hto.size⟩
theorem make_16 (w : World) : (Instr.makeSlice 48 (.int .i64 16) (.int .i64 16)).run Tryd.prog w =
    .ok (.slice (some ⟨w.heap.size, 0, none⟩) 16 16) (w.alloc (.cells (cellsI (List.replicate 16 0)).toArray 3)) := by kernel_rfl
set_option maxRecDepth 100000 in
set_option maxHeartbeats 4000000 in
theorem text_any (v : Value) (l : List Nat) (row : Option Nat) (w : World) (ho : Own w 3 1 v l.length (cellsI l) row) (h0 : 0 < l.length) (hl : l.length ≤ 32) (hb : ∀ x ∈ l, x ≤ 1099511627776) (hv : dN l < 65536 ^ 32) :
    Calls Tryd.prog 55 #[v] w fun e w' => e = .returned (.string (toS (dN l % PP))) ∧ Touch [] w w' := by
  have hfol := fun W (h : W = w) => h ▸ folded_any v l row w ho h0 hl hb hv
  have HFol := Lib.hid hfol
  obtain ⟨V, hV⟩ : ∃ V, V = dN l := ⟨_, rfl⟩
  rw [← hV] at HFol ⊢
  clear hfol ho h0 hl hb hv hV
  go_enter Tryd.func55, Tryd.ntmps55
  go_wp2_with fail
  refine (HFol.out _ rfl).mono ?_
  rintro e w1 ⟨v1, q1, rfl, hn1, hd1⟩
  have HN := Lib.hid hn1
  have HD := Lib.hid (TextS.start hd1)
  clear hn1 hd1 HFol
  go_upto_block 0 with fail
  go_cut [0] (fun v0 wx => ∃ q, NewI w wx v0 q ∧ TextS 2 V q ∧ q.getD 15 0 < 32768)
  case first =>
    go_wp2_with fail
    go_loopg [0] 2 (fun gk v0 wr => ∃ q, NewI w wr v0 q ∧ TextS gk V q)
    case atStart => exact ⟨q1, HN.out, HD.out⟩
    case round =>
      clear HN HD
      obtain ⟨q, hq, hT⟩ := hrel
      have HT := Lib.hid hT
      obtain ⟨g, off, c, rfl, hg, hc1, hc2⟩ := hq.at16 hT.len
      obtain ⟨hc15, hf15⟩ := hq.c16 hT.len 15 (by omega)
      have Hq := Lib.hid hq
      clear hq hT
      have h15 := HT.out.dig.at_ 15
      obtain ⟨x, hx⟩ : ∃ x, x = q.getD 15 0 := ⟨_, rfl⟩
      have HX := Lib.hid hx
      rw [← hx] at hc15 h15
      clear hx
      by_cases hbig : 32768 ≤ x
      · obtain ⟨y, hy, hyx⟩ : ∃ y : Nat, (x : Int) - 32768 = (y : Int) ∧ Hid (y = x - 32768) := ⟨x - 32768, by omega, Lib.hid rfl⟩
        have hb1 : (32768 : Int) ≤ (x : Int) := by omega
        have hb2 : (x : Int) < 65536 := by omega
        have Hbig := Lib.hid hbig
        clear hbig h15
        go_upto_region 4 with fail
        have hs := Hq.out.s16 HT.out.len 15 y (by omega)
        obtain ⟨wx, hwx⟩ : ∃ wx, wx = wr.setCell ⟨g, off + 15, none⟩ (.int .i64 (y : Int)) := ⟨_, rfl⟩
        rw [← hwx] at hs ⊢
        clear hwx hc15 hf15 hy
        have Hs := Lib.hid hs
        have hl2 : (q.set 15 y).length = 16 := by rw [List.length_set]; exact HT.out.len
        obtain ⟨hc0, hf0⟩ := hs.c16 hl2 0 (by omega)
        rw [set_get (by omega)] at hc0
        have h0 := HT.out.dig.at_ 0
        clear hb1 hb2
        obtain ⟨z, hz⟩ : ∃ z, z = q.getD 0 0 := ⟨_, rfl⟩
        have HZ := Lib.hid hz
        rw [← hz] at hc0 h0
        rw [Nat.add_zero] at hc0 hf0
        obtain ⟨u, hu, huz⟩ : ∃ u : Nat, (z : Int) + 19 = (u : Int) ∧ Hid (u = z + 19) := ⟨z + 19, by omega, Lib.hid rfl⟩
        have hz2 : (z : Int) < 65536 := by omega
        have Hl2 := Lib.hid hl2
        clear h0
        clear hz hs hl2
        go_upto_region 5 with fail
        have hs := Hs.out.s16 Hl2.out 0 u (by omega)
        rw [Nat.add_zero] at hs
        obtain ⟨wy, hwy⟩ : ∃ wy, wy = wx.setCell ⟨g, off, none⟩ (.int .i64 (u : Int)) := ⟨_, rfl⟩
        rw [← hwy] at hs ⊢
        have e : (q.set 15 y).set 0 u = sub15 q := by unfold sub15; rw [hyx.out, huz.out, HX.out, HZ.out]
        rw [e] at hs
        have hlen : (sub15 q).length = 16 := by rw [← e, List.length_set]; exact Hl2.out
        obtain ⟨rs, hos⟩ := hs.own
        rw [hlen] at hos
        have hcar := fun W (h : W = wy) => h ▸ carried_any _ (sub15 q) rs wy (by rw [hlen]; exact hos) (by omega) (by omega) (sub15_le HT.out.dig)
        have HCar := Lib.hid hcar
        have Hs2 := Lib.hid hs
        have HR := Lib.hid (fun p hp => HT.out.round (p := p) (by rw [← HX.out]; exact Hbig.out) hp)
        clear hwy hc0 hf0 hz2 hu huz hyx e hlen hos hcar hs Hs Hl2
        go_wp2_with fail
        refine (HCar.out _ rfl).mono ?_
        rintro e w3 ⟨v3, p, rfl, hn3, hc3⟩
        obtain ⟨k', hk', hT'⟩ := HR.out p hc3
        have HN := Lib.hid (hn3.before Hs2.out.touch)
        have HT' := Lib.hid hT'
        clear hn3 hc3 hT' HCar HR Hs2
        go_wp2_with fail
        go_roundg k'
        case measure => omega
        case rel => exact ⟨p, HN.out, HT'.out⟩
      · have hb1 : decide ((32768 : Int) ≤ (x : Int)) = false := decide_eq_false (by omega)
        have Hbig := Lib.hid hbig
        clear hbig h15
        go_wp2_with fail
        go_meet
        exact ⟨q, Hq.out, ⟨HT.out.len, HT.out.dig, HT.out.mod, by have h := dN_lt HT.out.dig; rw [HT.out.len] at h; exact h⟩, by rw [← HX.out]; have := Hbig.out; omega⟩
  case rest =>
    clear HN HD
    obtain ⟨q, hq, hT, h15⟩ := hcut
    have HT := Lib.hid hT
    obtain ⟨g, off, c, rfl, hg, hc1, hc2⟩ := hq.at16 hT.len
    have Hq := Lib.hid hq
    have H15 := Lib.hid h15
    clear hq hT h15
    rename World => wq
    go_upto_region 6 with fail
    go_cut [3] (fun v3 wx => v3 = .bool (topB q 0) ∧ wx = wq)
    case first =>
      obtain ⟨hc15, _⟩ := Hq.out.c16 HT.out.len 15 (by omega)
      obtain ⟨hc0, _⟩ := Hq.out.c16 HT.out.len 0 (by omega)
      rw [Nat.add_zero] at hc0
      have htop := Lib.hid (show topB q 0 = (decide (q.getD 15 0 = 32767) && decide (65517 ≤ q.getD 0 0)) from rfl)
      obtain ⟨x, hx⟩ : ∃ x, x = q.getD 15 0 := ⟨_, rfl⟩
      obtain ⟨z, hz⟩ : ∃ z, z = q.getD 0 0 := ⟨_, rfl⟩
      rw [← hx] at hc15 htop
      rw [← hz] at hc0 htop
      clear hx hz
      by_cases h1 : x = 32767
      · have e1 : ((x : Int) == 32767) = true := beq_iff_eq.2 (by omega)
        have H1 := Lib.hid h1
        clear h1
        by_cases h2 : 65517 ≤ z
        · have e2 : decide ((65517 : Int) ≤ (z : Int)) = true := decide_eq_true (by omega)
          have e3 := Lib.hid (show topB q 0 = true by rw [htop.out, decide_eq_true H1.out, decide_eq_true h2]; rfl)
          clear h2
          go_wp2_with fail
          go_meet
          exact ⟨by rw [e3.out], rfl⟩
        · have e2 : decide ((65517 : Int) ≤ (z : Int)) = false := decide_eq_false (by omega)
          have e3 := Lib.hid (show topB q 0 = false by rw [htop.out, decide_eq_true H1.out, decide_eq_false h2]; rfl)
          clear h2
          go_wp2_with fail
          go_meet
          exact ⟨by rw [e3.out], rfl⟩
      · have e1 : ((x : Int) == 32767) = false := beq_eq_false_iff_ne.2 (by omega)
        have e3 := Lib.hid (show topB q 0 = false by rw [htop.out, decide_eq_false h1]; rfl)
        clear h1
        go_wp2_with fail
        go_meet
        exact ⟨by rw [e3.out], rfl⟩
    case rest =>
      obtain ⟨rfl, rfl⟩ := hcut
      rename World => wq
      go_upto_block 2 with fail
      go_cut [3, 4] (fun v3 _ wx => v3 = .bool (topB q 14) ∧ wx = wq)
      case first =>
        go_wp2_with fail
        go_loopw [3, 4] (fun v3 v4 wx => ∃ i : Nat, i ≤ 14 ∧ v3 = .bool (topB q i) ∧ v4 = .int .i64 ((i : Int) + 1) ∧ wx = wq) (fun _ v4 _ => 16 - (intOf v4).toNat)
        case atStart => exact ⟨0, by omega, rfl, rfl, rfl⟩
        case round =>
          obtain ⟨i, hi, rfl, rfl, rfl⟩ := hrel
          rename World => wq
          by_cases hi14 : i < 14
          · obtain ⟨hci, _⟩ := Hq.out.c16 HT.out.len (i + 1) (by omega)
            have htop := Lib.hid (show topB q (i + 1) = (topB q i && decide (q.getD (i + 1) 0 = 65535)) from rfl)
            obtain ⟨x, hx⟩ : ∃ x, x = q.getD (i + 1) 0 := ⟨_, rfl⟩
            rw [← hx] at hci htop
            clear hx
            obtain ⟨b, hb⟩ : ∃ b, b = topB q i := ⟨_, rfl⟩
            rw [← hb] at htop ⊢
            clear hb
            cases b with
            | true =>
              by_cases h1 : x = 65535
              · have e1 : ((x : Int) == 65535) = true := beq_iff_eq.2 (by omega)
                have e3 := Lib.hid (show topB q (i + 1) = true by rw [htop.out, decide_eq_true h1]; rfl)
                clear h1
                go_wp2_with fail
                go_roundw
                case rel => exact ⟨i + 1, by omega, by rw [e3.out], congrArg (Value.int .i64) (by omega), trivial⟩
                case measure => simp [intOf]; omega
              · have e1 : ((x : Int) == 65535) = false := beq_eq_false_iff_ne.2 (by omega)
                have e3 := Lib.hid (show topB q (i + 1) = false by rw [htop.out, decide_eq_false h1]; rfl)
                clear h1
                go_wp2_with fail
                go_roundw
                case rel => exact ⟨i + 1, by omega, by rw [e3.out], congrArg (Value.int .i64) (by omega), trivial⟩
                case measure => simp [intOf]; omega
            | false =>
              have e3 := Lib.hid (show topB q (i + 1) = false by rw [htop.out]; rfl)
              go_wp2_with fail
              go_roundw
              case rel => exact ⟨i + 1, by omega, by rw [e3.out], congrArg (Value.int .i64) (by omega), trivial⟩
              case measure => simp [intOf]; omega
          · obtain rfl : i = 14 := by omega
            go_wp2_with fail
            go_meet
            exact ⟨rfl, rfl⟩
      case rest =>
        obtain ⟨rfl, rfl⟩ := hcut
        rename World => wq
        obtain ⟨b, hb⟩ : ∃ b, b = topB q 14 := ⟨_, rfl⟩
        rw [← hb]
        go_upto_region 11 with fail
        go_upto_if 50 with fail
        go_cut [0] (fun v0 wx => ∃ r, NewI w wx v0 r ∧ Fin16 (V % PP) r)
        case first =>
          cases b with
          | true =>
            obtain ⟨h65, hfin⟩ := HT.out.cut H15.out hb.symm
            obtain ⟨hc0, _⟩ := Hq.out.c16 HT.out.len 0 (by omega)
            rw [Nat.add_zero] at hc0
            have h0 := HT.out.dig.at_ 0
            obtain ⟨z, hz⟩ : ∃ z, z = q.getD 0 0 := ⟨_, rfl⟩
            rw [← hz] at hc0 h0 h65 hfin
            obtain ⟨u, hu, huz⟩ : ∃ u : Nat, (z : Int) - 65517 = (u : Int) ∧ Hid (u = z - 65517) := ⟨z - 65517, by omega, Lib.hid rfl⟩
            rw [← huz.out] at hfin
            have HFin := Lib.hid hfin
            have hz2 : (z : Int) < 65536 := by omega
            have hz3 : (65517 : Int) ≤ (z : Int) := by omega
            have hmk := make_16
            clear hfin h65 h0 hz hb huz
            go_upto_region 14 with fail
            clear hmk hz2 hz3 hu hc0
            have Hst := Lib.hid (NewI.made w wq Hq.out.touch ((List.replicate 16 0).set 0 u) (by simp) (by simp))
            obtain ⟨hcz, hfz⟩ := (NewI.made w wq Hq.out.touch (List.replicate 16 0) (by simp) (by simp)).c16 (by simp) 0 (by omega)
            rw [Nat.add_zero] at hcz hfz
            go_wp2_with fail
            go_meet
            exact ⟨_, Hst.out, HFin.out⟩
          | false =>
            have HFin := Lib.hid (HT.out.keep H15.out hb.symm)
            clear hb
            go_wp2_with fail
            go_meet
            exact ⟨q, Hq.out, HFin.out⟩
        case rest =>
          clear Hq HT H15
          obtain ⟨r, hr, hF⟩ := hcut
          obtain ⟨g, off, c, rfl, hg, hc1, hc2⟩ := hr.at16 hF.len
          have Hr := Lib.hid hr
          have HF := Lib.hid hF
          clear hr hF
          rename World => wr
          clear hb
          go_wp2_with fail
          have hu0 := Lib.hid (show NewU wr (wr.alloc (.cells #[] 5)) (.slice (some ⟨wr.heap.size, 0, none⟩) 0 0) [] from ⟨none, Own.nil _ _ _ _, (Touch.refl _ _).alloc _, .refl _ _⟩)
          go_loopw [6, 7] (fun vb vi wx => ∃ (i : Nat), i ≤ 16 ∧ vi = .int .i64 i ∧ NewU wr wx vb (byL (r.take i))) (fun _ vi _ => 16 - (intOf vi).toNat)
          case atStart => exact ⟨0, by omega, rfl, hu0.out⟩
          case round =>
            clear hu0
            obtain ⟨i, hi, rfl, hb⟩ := hrel
            rename World => wi
            obtain ⟨Ab, cb, rfl, _⟩ := hb.shape
            have hlen : (byL (r.take i)).length = 2 * i := by rw [byL_len, List.length_take, HF.out.len]; omega
            have HB := Lib.hid hb
            clear hb
            rw [hlen] at HB ⊢
            by_cases hi16 : i < 16
            · obtain ⟨hci, _⟩ := (Hr.out.more HB.out.touch).c16 HF.out.len i hi16
              have hsn := Lib.hid (take_snoc (l := r) (k := i) (by rw [HF.out.len]; exact hi16))
              have hxl := HF.out.dig.at_ i
              obtain ⟨x, hx⟩ : ∃ x, x = r.getD i 0 := ⟨_, rfl⟩
              rw [← hx] at hci hsn hxl
              clear hx
              have HC := Lib.hid (fun (W : World) (h : Touch [] wi W) => cell_touch hci h)
              go_upto_region 19 with fail
              have Hm := Lib.hid (show (x : Int).tmod 256 = ((x % 256 : Nat) : Int) by rw [Int.tmod_eq_emod_of_nonneg (by omega)]; omega)
              have Hw1 := Lib.hid (show IntKind.u8.wrap ((x % 256 : Nat) : Int) = ((x % 256 : Nat) : Int) from IntWalk.u8_in _ (by omega))
              have Hd := Lib.hid (show IntKind.i64.wrap ((x : Int) / 256) = ((x / 256 : Nat) : Int) by rw [IntWalk.i64_in _ (by omega)]; omega)
              have Hw2 := Lib.hid (show IntKind.u8.wrap ((x / 256 : Nat) : Int) = ((x / 256 : Nat) : Int) from IntWalk.u8_in _ (by omega))
              -- FLOW text19
              refine wp_region_flowT (by kernel_rfl) 14 (lookW [(0, pu (isV (.slice (some ⟨g, off, none⟩) 16 c))), (6, pu (isV (.slice Ab (2 * i) cb))), (7, pu (isV (.int .i64 ((i : Int))))), (64, pu (isV (.slice Ab (2 * i) cb))), (65, pu (isV (.slice (some ⟨g, off, none⟩) 16 c))), (66, pu (isV (.int .i64 ((i : Int))))), (67, pu (isV (.pointer (some ⟨g, off + i, none⟩)))), (68, pu (isV (.int .i64 (((x : Nat) : Int))))), (69, pu (isV (.int .i64 (((x % 256 : Nat) : Int))))), (70, pu (isV (.int .u8 (((x % 256 : Nat) : Int))))), (71, pu (isV (.slice (some ⟨g, off, none⟩) 16 c))), (72, pu (isV (.int .i64 ((i : Int))))), (73, pu (isV (.pointer (some ⟨g, off + i, none⟩)))), (74, pu (isV (.int .i64 (((x : Nat) : Int))))), (75, pu (isV (.int .i64 (((x / 256 : Nat) : Int))))), (76, pu (isV (.int .u8 (((x / 256 : Nat) : Int))))), (77, sl2 (((x % 256 : Nat) : Int)) (((x / 256 : Nat) : Int)))]) [0, 6, 7] [64, 65, 66, 67, 68, 69, 70, 71, 72, 73, 74, 75, 76, 77] [64, 77] (by kernel_rfl) (by kernel_rfl) (by kernel_rfl) (by kernel_rfl) ⟨rfl, rfl, rfl, trivial⟩ ?_ ?_
              · refine FStepsW.cons (FStepW.plain rfl fun a w hS hE => OpTo.move rfl ⟨dOfW.of 64 rfl (hE 6 (by kernel_rfl)), Touch.refl _ _⟩) ?_
                refine FStepsW.cons (FStepW.plain rfl fun a w hS hE => OpTo.move rfl ⟨dOfW.of 65 rfl (hE 0 (by kernel_rfl)), Touch.refl _ _⟩) ?_
                refine FStepsW.cons (FStepW.plain rfl fun a w hS hE => OpTo.move rfl ⟨dOfW.of 66 rfl (hE 7 (by kernel_rfl)), Touch.refl _ _⟩) ?_
                refine FStepsW.cons (FStepW.plain rfl fun a w hS hE => OpTo.ixI (g) (off) (16) (c) (i) rfl (hE 65 (by kernel_rfl)) (hE 66 (by kernel_rfl)) hi16 ⟨dOfW.of 67 rfl rfl, Touch.refl _ _⟩) ?_
                refine FStepsW.cons (FStepW.plain rfl fun a w hS hE => OpTo.ldI (g) (off + i) (.int .i64 (((x : Nat) : Int))) rfl (hE 67 (by kernel_rfl)) (HC.out w hS) ⟨dOfW.of 68 rfl rfl, Touch.refl _ _⟩) ?_
                refine FStepsW.cons (FStepW.plain rfl fun a w hS hE => OpTo.remI (((x : Nat) : Int)) (256) (((x % 256 : Nat) : Int)) (by decide) rfl (hE 68 (by kernel_rfl)) rfl Hm.out ⟨dOfW.of 69 rfl rfl, Touch.refl _ _⟩) ?_
                refine FStepsW.cons (FStepW.plain rfl fun a w hS hE => OpTo.cvI .u8 (((x % 256 : Nat) : Int)) (((x % 256 : Nat) : Int)) rfl (by kernel_rfl) Tryd.underlying5 (hE 69 (by kernel_rfl)) Hw1.out ⟨dOfW.of 70 rfl rfl, Touch.refl _ _⟩) ?_
                refine FStepsW.cons (FStepW.plain rfl fun a w hS hE => OpTo.move rfl ⟨dOfW.of 71 rfl (hE 0 (by kernel_rfl)), Touch.refl _ _⟩) ?_
                refine FStepsW.cons (FStepW.plain rfl fun a w hS hE => OpTo.move rfl ⟨dOfW.of 72 rfl (hE 7 (by kernel_rfl)), Touch.refl _ _⟩) ?_
                refine FStepsW.cons (FStepW.plain rfl fun a w hS hE => OpTo.ixI (g) (off) (16) (c) (i) rfl (hE 71 (by kernel_rfl)) (hE 72 (by kernel_rfl)) hi16 ⟨dOfW.of 73 rfl rfl, Touch.refl _ _⟩) ?_
                refine FStepsW.cons (FStepW.plain rfl fun a w hS hE => OpTo.ldI (g) (off + i) (.int .i64 (((x : Nat) : Int))) rfl (hE 73 (by kernel_rfl)) (HC.out w hS) ⟨dOfW.of 74 rfl rfl, Touch.refl _ _⟩) ?_
                refine FStepsW.cons (FStepW.plain rfl fun a w hS hE => OpTo.quoI (((x : Nat) : Int)) (256) (((x / 256 : Nat) : Int)) (by decide) (by omega) rfl (hE 74 (by kernel_rfl)) rfl Hd.out ⟨dOfW.of 75 rfl rfl, Touch.refl _ _⟩) ?_
                refine FStepsW.cons (FStepW.plain rfl fun a w hS hE => OpTo.cvI .u8 (((x / 256 : Nat) : Int)) (((x / 256 : Nat) : Int)) rfl (by kernel_rfl) Tryd.underlying5 (hE 75 (by kernel_rfl)) Hw2.out ⟨dOfW.of 76 rfl rfl, Touch.refl _ _⟩) ?_
                refine FStepsW.cons (FStepW.plain rfl fun a w hS hE => OpTo.two (((x % 256 : Nat) : Int)) (((x / 256 : Nat) : Int)) rfl (hE 70 (by kernel_rfl)) (hE 76 (by kernel_rfl)) (fun _ _ h => dOfW.of 77 rfl h)) ?_
                exact FStepsW.nil
              intro f wx hS hF
              obtain ⟨h64, h77, -⟩ := hF
              replace h64 : f 64 = .slice Ab (2 * i) cb := h64
              obtain ⟨g2, h77, hb2⟩ := h77
              simp only [setAll, List.setIfInBounds_toArray, List.set_cons_zero, List.set_cons_succ, h64, h77]
              -- END
              replace HB := Lib.hid (HB.out.more hS)
              show wpList _ _ _ [_, _] _ _
              refine wpList_append_two wr _ (.tmp 64) (.tmp 77) 62 Tryd.underlying62 rfl rfl HB.out (by rw [byL_len, List.length_take, HF.out.len]; omega) (x % 256) (x / 256) g2 hb2 rfl rfl ?_
              intro A2 c2 w2 h2
              rw [← byL_snoc, ← hsn.out] at h2 ⊢
              have H2 := Lib.hid h2
              clear h2 hS h64 h77 hb2 HC Hm Hw1 Hd Hw2 hci hlen
              go_wp2_with fail
              go_roundw
              case rel => exact ⟨i + 1, by omega, by go_num, H2.out⟩
              case measure => simp [intOf]; omega
            · obtain rfl : i = 16 := by omega
              have htk : r.take 16 = r := List.take_of_length_le (by rw [HF.out.len]; omega)
              have hbl : (byL r).length = 32 := by rw [← htk]; exact hlen
              rw [htk] at HB
              have hb3 := HB.out
              rw [show 2 * 16 = (byL r).length by rw [hbl]] at hb3
              obtain ⟨g2, o2, c3, hv2, _, _, _, _, hcx⟩ := hb3.cells (by rw [hbl]; omega)
              injection hv2 with ha _ hcc
              subst ha hcc
              have hconv := run_convert_bytes_arg (P := Tryd.prog) wi 62 5 Tryd.underlying62 Tryd.underlying5 g2 o2 (byL r).length cb ((byL r).map fun (n : Nat) => (n : Int)) (by simp) (fun i hi => by
                rw [hcx i hi, getD_map_int]) 9 Tryd.underlying9
              rw [str_byL HF.out, hbl] at hconv
              clear hcx hb3 hlen htk hbl
              go_wp2_with fail
              go_ret
              exact ⟨rfl, Hr.out.touch.trans HB.out.touch⟩
/-! RefFe -/
theorem leN_zero_of {l : List Nat} (h : ∀ x ∈ l, x = 0) : leN l = 0 := by
  induction l with
  | nil => rfl
  | cons x l ih => rw [leN, h x List.mem_cons_self, ih (fun y hy => h y (List.mem_cons_of_mem _ hy))]
theorem leN_pad_take {s : List Nat} {m : Nat} (h : s.length ≤ m) (hm : m ≤ 32) : leN ((padN s 32).take m) = leN (s.take 32) := by
  rw [← leN_padN s 32]
  have e := leN_append ((padN s 32).take m) ((padN s 32).drop m)
  rw [List.take_append_drop] at e
  rw [e, leN_zero_of (l := (padN s 32).drop m), Nat.mul_zero, Nat.add_zero]
  intro x hx
  obtain ⟨j, hj, rfl⟩ := List.getElem_of_mem hx
  rw [List.length_drop, padN_len] at hj
  rw [List.getElem_drop]
  have h1 := padN_at s 32 (m + j) (by omega)
  have h2 : s.getD (m + j) 0 = 0 := by rw [List.getD, List.getElem?_eq_none (by omega)]; rfl
  rw [h2, List.getD, List.getElem?_eq_getElem (by rw [padN_len]; omega)] at h1
  exact h1
/-- While bytes are taken, two at a time. -/
structure DigR (s : List Nat) (j : Nat) (q : List Nat) : Prop where
  len : q.length = 16
  dig : DigN q
  rest : ∀ k, j ≤ k → q.getD k 0 = 0
  val : dN q = leN ((padN s 32).take (2 * j))
theorem DigR.start (s : List Nat) : DigR s 0 (List.replicate 16 0) :=
  ⟨by simp, fun x hx => by rw [(List.mem_replicate.1 hx).2]; decide, fun k _ => by
    by_cases hk : k < 16
    · rw [List.getD, List.getElem?_replicate, if_pos hk]; rfl
    · rw [List.getD, List.getElem?_replicate, if_neg hk]; rfl, by rw [dN_zeros]; simp [leN]⟩
theorem DigR.step {s q : List Nat} {j x y : Nat} (h : DigR s j q) (hj : j < 16) (hx : x = s.getD (2 * j) 0) (hy : y = s.getD (2 * j + 1) 0) (hx2 : x < 256) (hy2 : y < 256) : DigR s (j + 1) (q.set j (x + 256 * y)) := by
  have h1 := h.len
  refine ⟨by rw [List.length_set]; exact h1, fun z hz => ?_, fun k hk => ?_, ?_⟩
  · rcases List.mem_or_eq_of_mem_set hz with h2 | h2
    · exact h.dig z h2
    · omega
  · rw [set_get (by omega)]; exact h.rest k (by omega)
  · have e1 := dN_set (l := q) (k := j) (by omega) (x + 256 * y)
    rw [h.rest j (Nat.le_refl _), Nat.mul_zero, Nat.add_zero, h.val] at e1
    have e2 := leN_take_succ (l := padN s 32) (k := 2 * j) (by rw [padN_len]; omega)
    have e3 := leN_take_succ (l := padN s 32) (k := 2 * j + 1) (by rw [padN_len]; omega)
    rw [padN_at _ _ _ (by omega), ← hx] at e2
    rw [padN_at _ _ _ (by omega), ← hy] at e3
    rw [show 2 * (j + 1) = 2 * j + 1 + 1 by omega, e3, e2, e1, Nat.pow_succ, Nat.pow_mul]
    have e4 : (256 : Nat) ^ 2 = 65536 := by decide
    rw [e4]
    generalize (65536 : Nat) ^ j = P
    grind
/-- Sixteen digits of the first 32 bytes. -/
structure DigS (s : List Nat) (q : List Nat) : Prop where
  len : q.length = 16
  dig : DigN q
  val : dN q = leN (s.take 32)
theorem DigR.done {s q : List Nat} {j : Nat} (h : DigR s j q) (hj : j ≤ 16) (hd : j = 16 ∨ s.length ≤ 2 * j) : DigS s q := by
  refine ⟨h.len, h.dig, ?_⟩
  rw [h.val]
  rcases hd with rfl | hd
  · rw [show 2 * 16 = 32 by rfl, List.take_of_length_le (by rw [padN_len]; omega), leN_padN]
  · exact leN_pad_take hd (by omega)
set_option maxRecDepth 100000 in
set_option maxHeartbeats 4000000 in
theorem digits_any (s : ByteArray) (w : World) : Calls Tryd.prog 54 #[.string s] w (RowPost (DigS (bl s)) w) := by
  have hmk := make_16
  go_enter Tryd.func54, Tryd.ntmps54
  go_wp2_with fail
  clear hmk
  have HST := Lib.hid (NewI.made w w (Touch.refl _ _) (List.replicate 16 0) (by simp) (by simp))
  go_loopw [4] (fun vi wr => ∃ (j : Nat) (q : List Nat), j ≤ 16 ∧ vi = .int .i64 ((2 * j : Nat) : Int) ∧ NewI w wr (.slice (some ⟨w.heap.size, 0, none⟩) 16 16) q ∧ DigR (bl s) j q) (fun vi _ => 32 - (intOf vi).toNat)
  case atStart => exact ⟨0, List.replicate 16 0, by omega, rfl, HST.out, DigR.start _⟩
  case round =>
    clear HST
    obtain ⟨j, q, hj, rfl, hq, hD⟩ := hrel
    have HD := Lib.hid hD
    have Hq := Lib.hid hq
    obtain ⟨i, hi⟩ : ∃ i, i = 2 * j := ⟨_, rfl⟩
    have HI := Lib.hid hi
    rw [← hi]
    have hi32 : i ≤ 32 := by omega
    clear hq hD
    by_cases h32 : i < 32
    · by_cases hs : i < s.size
      · have hji : (i : Int) / 2 = (j : Int) := by omega
        obtain ⟨hc, hf⟩ := Hq.out.c16 HD.out.len j (by omega)
        rw [HD.out.rest j (Nat.le_refl _), Nat.zero_add] at hc
        rw [Nat.zero_add] at hf
        have hix := index_blE s (i : Int) i rfl hs
        have hxl := getD_lt (bl_lt s) i
        have hst := HD.out.step (by omega) (x := (bl s).getD i 0) (y := (bl s).getD (i + 1) 0) (by rw [hi]) (by rw [hi]) hxl (getD_lt (bl_lt s) _)
        obtain ⟨x, hx⟩ : ∃ x, x = (bl s).getD i 0 := ⟨_, rfl⟩
        rw [← hx] at hix hxl hst
        clear hx hi
        go_upto_region 6 with fail
        have hs1 := Hq.out.s16 HD.out.len j x (by omega)
        rw [Nat.zero_add] at hs1
        obtain ⟨wx, hwx⟩ : ∃ wx, wx = wr.setCell ⟨w.heap.size, j, none⟩ (.int .i64 (x : Int)) := ⟨_, rfl⟩
        rw [← hwx] at hs1 ⊢
        obtain ⟨hc1, hf1⟩ := hs1.c16 (by rw [List.length_set]; exact HD.out.len) j (by omega)
        rw [Nat.zero_add] at hc1 hf1
        rw [show (q.set j x).getD j 0 = x by simp [List.getD, HD.out.len, show j < 16 by omega]] at hc1
        have Hs1 := Lib.hid hs1
        clear hwx hs1 hc hf hix
        by_cases hs2 : i + 1 < s.size
        · have hix := index_blE s ((i : Int) + 1) (i + 1) (by omega) hs2
          have hyl := getD_lt (bl_lt s) (i + 1)
          obtain ⟨y, hy⟩ : ∃ y, y = (bl s).getD (i + 1) 0 := ⟨_, rfl⟩
          rw [← hy] at hix hyl hst
          have HS := Lib.hid hst
          clear hy hst
          go_wp2_with fail
          go_region
          go_wp2_with fail
          go_roundw
          case rel =>
            have hs3 := Hs1.out.s16 (by rw [List.length_set]; exact HD.out.len) j (x + 256 * y) (by omega)
            rw [Nat.zero_add, List.set_set] at hs3
            have hcast : (x : Int) + 256 * (y : Int) = ((x + 256 * y : Nat) : Int) := by omega
            rw [hcast]
            exact ⟨j + 1, _, by omega, congrArg (Value.int .i64) (by have := HI.out; omega), hs3.more (Touch.refl _ _).drew, HS.out⟩
          case measure => simp [intOf]; omega
        · rw [show (bl s).getD (i + 1) 0 = 0 by rw [List.getD, List.getElem?_eq_none (by rw [bl_len]; omega)]; rfl, Nat.mul_zero, Nat.add_zero] at hst
          have HS := Lib.hid hst
          clear hst
          go_wp2_with fail
          go_roundw
          case rel => exact ⟨j + 1, _, by omega, congrArg (Value.int .i64) (by have := HI.out; omega), Hs1.out, HS.out⟩
          case measure => simp [intOf]; omega
      · have HF := Lib.hid (HD.out.done hj (.inr (by rw [bl_len]; omega)))
        clear hi
        go_wp2_with fail
        go_ret
        exact ⟨_, q, rfl, Hq.out, HF.out⟩
    · have HF := Lib.hid (HD.out.done hj (.inl (by omega)))
      clear hi
      by_cases hs : i < s.size
      · go_wp2_with fail
        go_ret
        exact ⟨_, q, rfl, Hq.out, HF.out⟩
      · go_wp2_with fail
        go_ret
        exact ⟨_, q, rfl, Hq.out, HF.out⟩
/-! RefFf -/
def lowB (s : ByteArray) : Nat := leN ((bl s).take 32)
theorem lowB_lt (s : ByteArray) : lowB s < 65536 ^ 16 := by
  unfold lowB
  have h := leN_lt (l := (bl s).take 32) (fun b hb => bl_lt s b (List.mem_of_mem_take hb))
  refine Nat.lt_of_lt_of_le h (Nat.le_trans (Nat.pow_le_pow_right (by omega) (by rw [List.length_take]; exact Nat.min_le_left _ _)) (by decide))
theorem lowB_toS {n : Nat} (h : n < PP) : lowB (toS n) = n := by
  unfold lowB
  rw [List.take_of_length_le (by rw [bl_len, toS_size]; omega), leN_toS, Nat.mod_eq_of_lt (Nat.lt_trans h PP_lt)]
theorem text_new {w0 w : World} {v : Value} {q : List Nat} (h : NewI w0 w v q) (h0 : 0 < q.length) (hl : q.length ≤ 32) (hb : ∀ x ∈ q, x ≤ 1099511627776) (hv : dN q < 65536 ^ 32) :
    Calls Tryd.prog 55 #[v] w fun e w' => e = .returned (.string (toS (dN q % PP))) ∧ Touch [] w w' := by
  obtain ⟨row, ho⟩ := h.own
  exact text_any v q row w ho h0 hl hb hv
theorem DigN.le {q : List Nat} (h : DigN q) : ∀ x ∈ q, x ≤ 1099511627776 := fun x hx => by have := h x hx; omega
/-- The digits of a small number. -/
structure NumR (n j : Nat) (q : List Nat) (m : Nat) : Prop where
  len : q.length = j
  dig : DigN q
  val : dN q + 65536 ^ j * m = n
  lt : m < 65536 ^ (4 - j)
theorem NumR.step {n j m : Nat} {q : List Nat} (h : NumR n j q m) (hj : j < 4) : NumR n (j + 1) (q ++ [m % 65536]) (m / 65536) := by
  refine ⟨by simp [h.len], h.dig.snoc (Nat.mod_lt _ (by decide)), ?_, ?_⟩
  · rw [dN_pad, h.len, ← h.val, Nat.pow_succ]
    have e : m = m % 65536 + 65536 * (m / 65536) := by omega
    generalize m % 65536 = a at *
    generalize m / 65536 = b at *
    generalize (65536 : Nat) ^ j = P
    subst e
    grind
  · have h1 := h.lt
    rw [show 4 - j = 4 - (j + 1) + 1 by omega, Nat.pow_succ] at h1
    omega
set_option maxRecDepth 100000 in
set_option maxHeartbeats 1000000 in
theorem refNum_any (n : Nat) (hn : n < 18446744073709551616) (w : World) : Calls Tryd.prog 34 #[.int .u64 (n : Int)] w fun e w' => e = .returned (.string (toS (n % PP))) ∧ Touch [] w w' := by
  have hst := Lib.hid (show NumR n 0 [] n from ⟨rfl, fun x hx => (by cases hx), by simp [dN], hn⟩)
  clear hn
  go_enter Tryd.func34, Tryd.ntmps34
  go_wp2_with fail
  go_loopw [0, 3, 4] (fun v0 v3 vi wr => ∃ (j : Nat) (q : List Nat) (m : Nat), j ≤ 4 ∧ vi = .int .i64 j ∧ v0 = .int .u64 m ∧ NewI w wr v3 q ∧ NumR n j q m) (fun _ _ vi _ => 4 - (intOf vi).toNat)
  case atStart => exact ⟨0, [], n, by omega, rfl, rfl, ⟨none, Own.nil _ _ _ _, (Touch.refl _ _).alloc _, .refl _ _⟩, hst.out⟩
  case round =>
    clear hst
    obtain ⟨j, q, m, hj, rfl, rfl, hq, hN⟩ := hrel
    obtain ⟨A, c, rfl, _⟩ := hq.shape
    have hql := hN.len
    have hlt := hN.lt
    have HN := Lib.hid hN
    rw [hql]
    have Hq := Lib.hid hq
    rw [hql] at Hq
    have Hql := Lib.hid hql
    clear hN hq hql
    by_cases hj4 : j < 4
    · have hm64 : m < 18446744073709551616 := Nat.lt_of_lt_of_le hlt (Nat.le_trans (Nat.pow_le_pow_right (by decide) (show 4 - j ≤ 4 by omega)) (by decide))
      have hst := HN.out.step hj4
      obtain ⟨u, hu, hu2, hul⟩ : ∃ u : Nat, (m : Int) % 65536 = (u : Int) ∧ m % 65536 = u ∧ u < 65536 := ⟨m % 65536, by omega, rfl, by omega⟩
      obtain ⟨z, hz, hz2⟩ : ∃ z : Nat, (m : Int) / 65536 = (z : Int) ∧ m / 65536 = z := ⟨m / 65536, by omega, rfl⟩
      rw [hu2, hz2] at hst
      have HS := Lib.hid hst
      have HW := Lib.hid (show IntKind.u64.wrap (z : Int) = (z : Int) from IntWalk.u64_in _ (by omega))
      clear hst hu2 hz2 hlt hm64
      go_wp2_with (at_builtin; refine wpList_append_int w _ (.tmp 10) (.tmp 14) 48 Tryd.underlying48 rfl rfl Hq.out (by rw [Hql.out]; omega) u _ rfl rfl ?_)
      intro A2 c2 w2 h2
      have H2 := Lib.hid h2
      clear h2
      go_wp2_with fail
      go_roundw
      case rel => exact ⟨j + 1, _, z, by omega, by go_num, by rw [HW.out], H2.out, HS.out⟩
      case measure => simp [intOf]; omega
    · obtain rfl : j = 4 := by omega
      have hm0 : m = 0 := by simpa using hlt
      subst hm0
      have hv := HN.out.val
      rw [Nat.mul_zero, Nat.add_zero] at hv
      have HT := Lib.hid (fun W (h : W = wr) => h ▸ text_new (w0 := w) (v := .slice A 4 c) (q := q) Hq.out (by rw [Hql.out]; omega) (by rw [Hql.out]; omega) HN.out.dig.le (Nat.lt_trans (dN_lt HN.out.dig) (by rw [Hql.out]; decide)))
      have Hv := Lib.hid hv
      clear hv hlt
      go_wp2_with fail
      refine (HT.out _ rfl).mono ?_
      rintro e w2 ⟨rfl, ht⟩
      have Ht := Lib.hid ht
      clear ht HT
      go_wp2_with fail
      go_ret
      exact ⟨by rw [Hv.out]; rfl, Hq.out.touch.trans Ht.out⟩
/-! RefFg -/
/-- A row of ints, by its place. -/
structure RowA (w : World) (g off c n : Nat) (q : List Nat) : Prop where
  len : q.length = n
  own : Own w 3 1 (.slice (some ⟨g, off, none⟩) n c) n (cellsI q) (some g)
section
variable {w w' : World} {g off c n : Nat} {q : List Nat}
theorem NewI.rowA {w0 : World} {v : Value} (h : NewI w0 w v q) (hn : 0 < n) (hl : q.length = n) : ∃ g off c, v = .slice (some ⟨g, off, none⟩) n c ∧ w0.heap.size ≤ g ∧ g < w.heap.size ∧ n ≤ c ∧ c ≤ 9223372036854775807 ∧ RowA w g off c n q := by
  obtain ⟨row, ho, _, hnew⟩ := h
  rw [hl] at ho
  obtain ⟨g, off, c, rfl, rfl, hg, hnc, hcm, _, _⟩ := ho.cell1 hn
  refine ⟨g, off, c, rfl, ?_, hg, hnc, hcm, hl, ho⟩
  rcases hnew g rfl with h' | h'
  · cases h'
  · exact h'
theorem RowA.newI {w0 : World} (h : RowA w g off c n q) (ht : Touch [] w0 w) (hg : w0.heap.size ≤ g) : NewI w0 w (.slice (some ⟨g, off, none⟩) n c) q :=
  ⟨some g, by rw [h.len]; exact h.own, ht, .fresh _ _ hg⟩
theorem RowA.touch (h : RowA w g off c n q) (ht : Touch [] w w') : RowA w' g off c n q := ⟨h.len, h.own.touch ht (by simp)⟩
theorem RowA.cell (h : RowA w g off c n q) (k : Nat) (hk : k < n) : w.cell? ⟨g, off + k, none⟩ = some (.int .i64 ((q.getD k 0 : Nat) : Int)) :=
  Own.cellAt h.own (by omega) k _ (cellsI_at (by rw [h.len]; exact hk))
theorem RowA.free (h : RowA w g off c n q) (hn : 0 < n) (k : Nat) : w.frozen? ⟨g, k, none⟩ = false := by
  obtain ⟨_, _, _, hv, _, _, _, _, hf, _⟩ := h.own.cell1 hn
  injection hv with ha _ _
  injection ha with ha
  injection ha with h1 _
  subst h1
  exact hf k
theorem RowA.set (h : RowA w g off c n q) (k x : Nat) (hk : k < n) : RowA (w.setCell ⟨g, off + k, none⟩ (.int .i64 (x : Int))) g off c n (q.set k x) :=
  ⟨by rw [List.length_set]; exact h.len, by rw [← cellsI_set]; exact h.own.set1 k hk _⟩
theorem RowA.far (h : RowA w g off c n q) {a : Addr} (ha : g ≠ a.block) (u : Value) : RowA (w.setCell a u) g off c n q :=
  ⟨h.len, h.own.far (fun _ e => by cases e; exact ha) u⟩
end
/-- Sums, digit by digit. -/
structure AddS (x y r : List Nat) (k : Nat) : Prop where
  len : r.length = 16
  drop : ∀ j, k ≤ j → r.getD j 0 = x.getD j 0
  val : dN r = dN x + dN (y.take k)
  le : ∀ z ∈ r, z ≤ 131072
theorem AddS.step {x y r : List Nat} {k a b : Nat} (h : AddS x y r k) (hk : k < 16) (hx : DigN x) (hy : DigN y) (hyl : y.length = 16) (ha : a = r.getD k 0) (hb : b = y.getD k 0) : AddS x y (r.set k (a + b)) (k + 1) := by
  have h1 := h.len
  refine ⟨by rw [List.length_set]; exact h1, fun j hj => by rw [set_get (by omega)]; exact h.drop j (by omega), ?_, fun z hz => ?_⟩
  · have e1 := dN_set (l := r) (k := k) (by omega) (a + b)
    rw [← ha, h.val] at e1
    rw [dN_take_succ (by omega), ← hb]
    generalize (65536 : Nat) ^ k = P at *
    generalize dN (r.set k (a + b)) = R at *
    grind
  · rcases List.mem_or_eq_of_mem_set hz with h2 | h2
    · exact h.le z h2
    · have h3 := h.drop k (Nat.le_refl _)
      have h4 := hx.at_ k
      have h5 := hy.at_ k
      omega
/-! RefFh -/
/-- What is missing to p, digit by digit; c is borrowed. -/
structure NegS (x p r : List Nat) (k c : Nat) : Prop where
  len : r.length = 16
  drop : ∀ j, k ≤ j → r.getD j 0 = x.getD j 0
  dig : DigN r
  val : dN (r.take k) + dN (x.take k) = dN (p.take k) + c * 65536 ^ k
  one : c ≤ 1
theorem take_set_ge {r : List Nat} {k m z : Nat} (h : k ≤ m) : (r.set m z).take k = r.take k := by
  rw [List.take_set_of_le h]
theorem NegS.step {x p r : List Nat} {k c a b z c' : Nat} (h : NegS x p r k c) (hk : k < 16) (hxl : x.length = 16) (hpl : p.length = 16) (ha : a = r.getD k 0) (hb : b = p.getD k 0) (hz : z < 65536) (he : z + a + c = b + c' * 65536) (hc : c' ≤ 1) : NegS x p (r.set k z) (k + 1) c' := by
  have h1 := h.len
  have hax : a = x.getD k 0 := by rw [ha]; exact h.drop k (Nat.le_refl _)
  refine ⟨by rw [List.length_set]; exact h1, fun j hj => by rw [set_get (by omega)]; exact h.drop j (by omega), fun y hy => ?_, ?_, hc⟩
  · rcases List.mem_or_eq_of_mem_set hy with h2 | h2
    · exact h.dig y h2
    · omega
  · have e1 := dN_take_succ (l := r.set k z) (k := k) (by rw [List.length_set]; omega)
    have e2 := dN_take_succ (l := x) (k := k) (by omega)
    have e3 := dN_take_succ (l := p) (k := k) (by omega)
    have e4 : (r.set k z).getD k 0 = z := by simp [List.getD, h1, hk]
    rw [take_set_ge (Nat.le_refl _), e4] at e1
    rw [e1, e2, e3, ← hax, ← hb]
    have hv := h.val
    rw [Nat.pow_succ]
    generalize (65536 : Nat) ^ k = P at *
    have : P * (z + a + c) = P * (b + c' * 65536) := by rw [he]
    grind
theorem NegS.done {x p r : List Nat} {c : Nat} (h : NegS x p r 16 c) (hxl : x.length = 16) (hpl : p.length = 16) (hp : dN p = PP) (hx : dN x ≤ PP) : dN r = PP - dN x := by
  have hv := h.val
  rw [List.take_of_length_le (by rw [h.len]; omega), List.take_of_length_le (by omega), List.take_of_length_le (by omega), hp] at hv
  have hlt := dN_lt h.dig
  rw [h.len] at hlt
  have hpp : PP < 65536 ^ 16 := by decide
  have h1 := h.one
  have hc : c = 0 := by
    apply Classical.byContradiction
    intro hne
    have : c = 1 := by omega
    subst this
    rw [Nat.one_mul] at hv
    generalize (65536 : Nat) ^ 16 = B at *
    omega
  subst hc
  rw [Nat.zero_mul, Nat.add_zero] at hv
  omega
theorem dig_p : leN ((bl (⟨#[237, 255, 255, 255, 255, 255, 255, 255, 255, 255, 255, 255, 255, 255, 255, 255, 255, 255, 255, 255, 255, 255, 255, 255, 255, 255, 255, 255, 255, 255, 255, 127]⟩ : ByteArray)).take 32) = PP := by decide +kernel
set_option maxRecDepth 100000 in
set_option maxHeartbeats 1000000 in
theorem refNeg_any (a : ByteArray) (ha : lowB a ≤ PP) (w : World) : Calls Tryd.prog 35 #[.string a] w fun e w' => e = .returned (.string (toS ((PP - lowB a) % PP))) ∧ Touch [] w w' := by
  have Ha := Lib.hid ha
  clear ha
  go_enter Tryd.func35, Tryd.ntmps35
  go_wp2_with fail
  refine (digits_any a _).mono ?_
  rintro e w1 ⟨v1, x, rfl, hn1, hd1⟩
  obtain ⟨gx, ox, cx, rfl, hgx, hlx, hcx1, hcx2, hrx⟩ := hn1.rowA (by omega) hd1.len
  have Rx := Lib.hid hrx
  have Dx := Lib.hid hd1
  have T1 := Lib.hid hn1.touch
  clear hn1 hd1 hrx
  go_wp2_with fail
  refine (digits_any _ _).mono ?_
  rintro e w2 ⟨v2, y, rfl, hn2, hd2⟩
  obtain ⟨gy, oy, cy, rfl, hgy, hly, hcy1, hcy2, hry⟩ := hn2.rowA (by omega) hd2.len
  have Ry := Lib.hid hry
  have Dy := Lib.hid hd2
  have T2 := Lib.hid (T1.out.trans hn2.touch)
  replace Rx := Lib.hid (Rx.out.touch hn2.touch)
  have Hne := Lib.hid (show gx ≠ gy by omega)
  have HP := Lib.hid (show dN y = PP by rw [hd2.val]; exact dig_p)
  clear hn2 hd2 hry T1 hlx hly hgy
  go_wp2_with fail
  go_loopw [4, 6, 7] (fun vc vi _ wr => ∃ (k c : Nat) (r : List Nat), k ≤ 16 ∧ vi = .int .i64 k ∧ vc = .int .i64 c ∧ RowA wr gx ox cx 16 r ∧ NegS x y r k c ∧ RowA wr gy oy cy 16 y ∧ Touch [] w wr) (fun _ vi _ _ => 16 - (intOf vi).toNat)
  case atStart => exact ⟨0, 0, x, by omega, rfl, rfl, Rx.out, ⟨Dx.out.len, fun _ _ => rfl, Dx.out.dig, by simp [dN], by omega⟩, Ry.out, T2.out⟩
  case round =>
    clear Rx Ry T2
    obtain ⟨k, c, r, hk, rfl, rfl, hx, hS, hy, hT⟩ := hrel
    have Rx := Lib.hid hx
    have Ry := Lib.hid hy
    have HS := Lib.hid hS
    have HT := Lib.hid hT
    have hc1 := hS.one
    clear hx hy hS hT
    by_cases hk16 : k < 16
    · have hcx := Rx.out.cell k hk16
      have hcy := Ry.out.cell k hk16
      have hst := fun z c' => HS.out.step (z := z) (c' := c') hk16 Dx.out.len Dy.out.len (a := r.getD k 0) (b := y.getD k 0) rfl rfl
      have hab := HS.out.dig.at_ k
      have hbb := Dy.out.dig.at_ k
      obtain ⟨m, hm⟩ : ∃ m, m = r.getD k 0 := ⟨_, rfl⟩
      obtain ⟨n, hn⟩ : ∃ n, n = y.getD k 0 := ⟨_, rfl⟩
      rw [← hm] at hcx hst hab
      rw [← hn] at hcy hst hbb
      have Hst := Lib.hid hst
      clear hm hn hst
      by_cases hge : m + c ≤ n
      · obtain ⟨z, hz, hzz⟩ : ∃ z : Nat, (n : Int) - (m : Int) - (c : Int) = (z : Int) ∧ z + m + c = n := ⟨n - m - c, by omega, by omega⟩
        have hz0 : decide ((z : Int) < 0) = false := decide_eq_false (by omega)
        have HS2 := Lib.hid (Hst.out z 0 (by omega) (by omega) (by omega))
        clear hge hzz
        go_upto_region 6 with fail
        go_quiet (fail)
        go_upto_region 11 with fail
        have ht := (Touch.refl [] wr).drewN nq
        obtain ⟨wq, hwq⟩ : ∃ wq, wq = wr.drewN nq := ⟨_, rfl⟩
        rw [← hwq] at ht ⊢
        clear hwq
        replace Rx := Lib.hid (Rx.out.touch ht)
        replace Ry := Lib.hid (Ry.out.touch ht)
        replace HT := Lib.hid (HT.out.trans ht)
        have hcq := Rx.out.cell k hk16
        have hfq := Rx.out.free (by omega) (ox + k)
        clear hcx hcy ht hz hz0
        go_wp2_with fail
        go_roundw
        case rel => exact ⟨k + 1, 0, _, by omega, by go_num, rfl, Rx.out.set k z hk16, HS2.out, Ry.out.far (Ne.symm Hne.out) _, HT.out.setCell (.inr hgx) _⟩
        case measure => simp [intOf]; omega
      · obtain ⟨v0, hv0, hv1⟩ : ∃ v0 : Int, (n : Int) - (m : Int) - (c : Int) = v0 ∧ Hid (v0 < 0 ∧ -65537 < v0) := ⟨_, rfl, Lib.hid (by omega)⟩
        obtain ⟨z, hz, hzz⟩ : ∃ z : Nat, v0 + 65536 = (z : Int) ∧ Hid (z + m + c = n + 65536) := ⟨(v0 + 65536).toNat, by have := hv1.out; omega, Lib.hid (by have := hv1.out; omega)⟩
        have hz0 : decide (v0 < 0) = true := decide_eq_true hv1.out.1
        have hv2 : -65537 < v0 := hv1.out.2
        have hv3 : v0 < 0 := hv1.out.1
        have HS2 := Lib.hid (Hst.out z 1 (by have := hzz.out; omega) (by have := hzz.out; omega) (by omega))
        clear hge
        go_upto_region 6 with fail
        go_quiet (fail)
        go_upto_region 11 with fail
        have ht := (Touch.refl [] wr).drewN nq
        obtain ⟨wq, hwq⟩ : ∃ wq, wq = wr.drewN nq := ⟨_, rfl⟩
        rw [← hwq] at ht ⊢
        clear hwq
        replace Rx := Lib.hid (Rx.out.touch ht)
        replace Ry := Lib.hid (Ry.out.touch ht)
        replace HT := Lib.hid (HT.out.trans ht)
        have hcq := Rx.out.cell k hk16
        have hfq := Rx.out.free (by omega) (ox + k)
        clear hcx hcy ht hz hz0 hv0 hv2 hv3
        go_wp2_with fail
        go_roundw
        case rel => exact ⟨k + 1, 1, _, by omega, by go_num, rfl, Rx.out.set k z hk16, HS2.out, Ry.out.far (Ne.symm Hne.out) _, HT.out.setCell (.inr hgx) _⟩
        case measure => simp [intOf]; omega
    · obtain rfl : k = 16 := by omega
      have hv := HS.out.done Dx.out.len Dy.out.len HP.out (by rw [Dx.out.val]; exact Ha.out)
      rw [Dx.out.val] at hv
      have HTx := Lib.hid (fun W (h : W = wr) => h ▸ text_new (Rx.out.newI HT.out hgx) (by rw [Rx.out.len]; omega) (by rw [Rx.out.len]; omega) HS.out.dig.le (Nat.lt_trans (dN_lt HS.out.dig) (by rw [HS.out.len]; decide)))
      have Hv := Lib.hid hv
      clear hv hc1
      go_wp2_with fail
      refine (HTx.out _ rfl).mono ?_
      rintro e w3 ⟨rfl, ht⟩
      have Ht := Lib.hid ht
      clear ht HTx
      go_wp2_with fail
      go_ret
      exact ⟨by rw [Hv.out]; rfl, HT.out.trans Ht.out⟩
theorem refNeg_toS {n : Nat} (h : n < PP) (w : World) : Calls Tryd.prog 35 #[.string (toS n)] w fun e w' => e = .returned (.string (toS (negF n))) ∧ Touch [] w w' := by
  have := refNeg_any (toS n) (by rw [lowB_toS h]; omega) w
  rwa [lowB_toS h] at this
/-! RefFi -/
theorem make_31 (w : World) : (Instr.makeSlice 48 (.int .i64 31) (.int .i64 31)).run Tryd.prog w =
    .ok (.slice (some ⟨w.heap.size, 0, none⟩) 31 31) (w.alloc (.cells (cellsI (List.replicate 31 0)).toArray 3)) := by kernel_rfl
/-- The rows of a product: the digits of both, and of the product, in a block of its own. -/
def MulR (a b : ByteArray) (w : World) (vx vy vt : Value) (wx : World) : Prop :=
  ∃ gx ox cx x gy oy cy y gt, vx = .slice (some ⟨gx, ox, none⟩) 16 cx ∧ vy = .slice (some ⟨gy, oy, none⟩) 16 cy ∧ vt = .slice (some ⟨gt, 0, none⟩) 31 31 ∧ 16 ≤ cx ∧ cx ≤ 9223372036854775807 ∧ 16 ≤ cy ∧ cy ≤ 9223372036854775807 ∧
    RowA wx gx ox cx 16 x ∧ RowA wx gy oy cy 16 y ∧ RowA wx gt 0 31 31 (List.replicate 31 0) ∧ DigS (bl a) x ∧ DigS (bl b) y ∧ gx ≠ gt ∧ gy ≠ gt ∧ w.heap.size ≤ gt ∧ Touch [] w wx
theorem rowA_made (w : World) : RowA (w.alloc (.cells (cellsI (List.replicate 31 0)).toArray 3)) w.heap.size 0 31 31 (List.replicate 31 0) := by
  obtain ⟨g, off, c, hv, _, _, _, _, hr⟩ := (NewI.made w w (Touch.refl _ _) (List.replicate 31 0) (by simp) (by simp)).rowA (n := 31) (by omega) (by simp)
  injection hv with ha _ hc
  injection ha with ha
  injection ha with h1 h2
  subst h1 h2
  obtain rfl : c = 31 := by simpa using hc.symm
  exact hr
section
variable {a b : ByteArray} {w w1 w2 : World} {v1 v2 : Value} {x y : List Nat}
theorem mulR1 (h1 : NewI w.drew w1 v1 x) (d1 : DigS (bl a) x) (h2 : NewI w1 w2 v2 y) (d2 : DigS (bl b) y) : MulR a b w v1 v2 (.slice (some ⟨w2.heap.size, 0, none⟩) 31 31) (w2.alloc (.cells (cellsI (List.replicate 31 0)).toArray 3)) := by
  obtain ⟨gx, ox, cx, rfl, _, hlx, hc1, hc2, hrx⟩ := h1.rowA (by omega) d1.len
  obtain ⟨gy, oy, cy, rfl, _, hly, hc3, hc4, hry⟩ := h2.rowA (by omega) d2.len
  have ht : Touch [] w w1 := ((Touch.refl [] w).drew).trans h1.touch
  have ha := (Touch.refl [] w2).alloc (.cells (cellsI (List.replicate 31 0)).toArray 3)
  have hs := h2.touch.size
  have hs1 := ht.size
  exact ⟨gx, ox, cx, x, gy, oy, cy, y, _, rfl, rfl, rfl, hc1, hc2, hc3, hc4, (hrx.touch h2.touch).touch ha, hry.touch ha, rowA_made w2, d1, d2, by omega, by omega, by omega, (ht.trans h2.touch).trans ha⟩
theorem mulR2 (h1 : NewI w.drew w1 v1 x) (d1 : DigS (bl a) x) (h2 : NewI (w1.alloc (.cells (cellsI (List.replicate 31 0)).toArray 3)) w2 v2 y) (d2 : DigS (bl b) y) : MulR a b w v1 v2 (.slice (some ⟨w1.heap.size, 0, none⟩) 31 31) w2 := by
  obtain ⟨gx, ox, cx, rfl, _, hlx, hc1, hc2, hrx⟩ := h1.rowA (by omega) d1.len
  obtain ⟨gy, oy, cy, rfl, hgy, hly, hc3, hc4, hry⟩ := h2.rowA (by omega) d2.len
  have ht : Touch [] w w1 := ((Touch.refl [] w).drew).trans h1.touch
  have ha := (Touch.refl [] w1).alloc (.cells (cellsI (List.replicate 31 0)).toArray 3)
  have hs1 := ht.size
  have hg2 : w1.heap.size + 1 ≤ gy := by simpa using hgy
  exact ⟨gx, ox, cx, x, gy, oy, cy, y, _, rfl, rfl, rfl, hc1, hc2, hc3, hc4, (hrx.touch ha).touch h2.touch, hry, (rowA_made w1).touch h2.touch, d1, d2, by omega, by omega, by omega, (ht.trans ha).trans h2.touch⟩
theorem mulR3 (h1 : NewI (w.alloc (.cells (cellsI (List.replicate 31 0)).toArray 3)).drew w1 v1 x) (d1 : DigS (bl a) x) (h2 : NewI w1 w2 v2 y) (d2 : DigS (bl b) y) : MulR a b w v1 v2 (.slice (some ⟨w.heap.size, 0, none⟩) 31 31) w2 := by
  obtain ⟨gx, ox, cx, rfl, hgx, hlx, hc1, hc2, hrx⟩ := h1.rowA (by omega) d1.len
  obtain ⟨gy, oy, cy, rfl, hgy, hly, hc3, hc4, hry⟩ := h2.rowA (by omega) d2.len
  have ha := (Touch.refl [] w).alloc (.cells (cellsI (List.replicate 31 0)).toArray 3)
  have hd := (Touch.refl [] (w.alloc (.cells (cellsI (List.replicate 31 0)).toArray 3))).drew
  have hg2 : w.heap.size + 1 ≤ gx := by simpa using hgx
  have hs := h1.touch.size
  have hs2 : w.heap.size + 1 ≤ w1.heap.size := by simpa using hs
  exact ⟨gx, ox, cx, x, gy, oy, cy, y, _, rfl, rfl, rfl, hc1, hc2, hc3, hc4, hrx.touch h2.touch, hry, (((rowA_made w).touch hd).touch h1.touch).touch h2.touch, d1, d2, by omega, by omega, by omega, ((ha.trans hd).trans h1.touch).trans h2.touch⟩
end
theorem getN_set_self {l : List Nat} {k : Nat} (hk : k < l.length) (x : Nat) : (l.set k x).getD k 0 = x := by simp [List.getD, hk]
/-- Products, digit by digit. -/
structure MulS (x y t : List Nat) (i : Nat) : Prop where
  len : t.length = 31
  val : dN t = dN (x.take i) * dN y
  le : ∀ k, t.getD k 0 ≤ 4294836225 * i
/-- A row of them: V is what was there. -/
structure MulI (y t : List Nat) (i m j V : Nat) : Prop where
  len : t.length = 31
  val : dN t = V + 65536 ^ i * (m * dN (y.take j))
  le : ∀ k, t.getD k 0 ≤ 4294836225 * (i + (if k < i + j then 1 else 0))
theorem mul_65535 {m n : Nat} (hm : m < 65536) (hn : n < 65536) : m * n ≤ 4294836225 := Nat.mul_le_mul (show m ≤ 65535 by omega) (show n ≤ 65535 by omega)
theorem MulI.step {y t : List Nat} {i m j V a n : Nat} (h : MulI y t i m j V) (hi : i < 16) (hj : j < 16) (hm : m < 65536) (hy : DigN y) (hyl : y.length = 16) (ha : a = t.getD (i + j) 0) (hn : n = y.getD j 0) : MulI y (t.set (i + j) (a + m * n)) i m (j + 1) V := by
  have h1 := h.len
  have hmn := mul_65535 hm (hn ▸ hy.at_ j)
  refine ⟨by rw [List.length_set]; exact h1, ?_, fun k => ?_⟩
  · have e1 := dN_set (l := t) (k := i + j) (by omega) (a + m * n)
    rw [← ha, h.val, Nat.pow_add] at e1
    rw [dN_take_succ (by omega), ← hn]
    generalize dN (t.set (i + j) (a + m * n)) = R at *
    generalize (65536 : Nat) ^ i = P at *
    generalize (65536 : Nat) ^ j = Q at *
    generalize dN (y.take j) = Y at *
    grind
  · have hk := h.le k
    by_cases hkk : k = i + j
    · subst hkk
      rw [getN_set_self (by omega)]
      rw [if_neg (by omega), ← ha] at hk
      rw [if_pos (by omega)]
      omega
    · rw [set_get (Ne.symm hkk)]
      split at hk
      · rw [if_pos (by omega)]; exact hk
      · rw [if_neg (by omega)]; exact hk
theorem MulS.inner {x y t : List Nat} {i : Nat} (h : MulS x y t i) (m : Nat) : MulI y t i m 0 (dN (x.take i) * dN y) :=
  ⟨h.len, by rw [h.val]; simp [dN], fun k => Nat.le_trans (h.le k) (Nat.mul_le_mul_left _ (Nat.le_add_right _ _))⟩
theorem MulI.outer {x y t : List Nat} {i m : Nat} (h : MulI y t i m 16 (dN (x.take i) * dN y)) (hi : i < 16) (hxl : x.length = 16) (hyl : y.length = 16) (hm : m = x.getD i 0) : MulS x y t (i + 1) := by
  refine ⟨h.len, ?_, fun k => Nat.le_trans (h.le k) (Nat.mul_le_mul_left _ (by split <;> omega))⟩
  have hv := h.val
  rw [List.take_of_length_le (l := y) (by omega)] at hv
  rw [hv, dN_take_succ (l := x) (by omega), ← hm]
  generalize (65536 : Nat) ^ i = P
  generalize dN (x.take i) = X
  grind
set_option maxRecDepth 100000 in
set_option maxHeartbeats 4000000 in
theorem refMul_any (a b : ByteArray) (w : World) : Calls Tryd.prog 32 #[.string a, .string b] w fun e w' => e = .returned (.string (toS ((lowB a * lowB b) % PP))) ∧ Touch [] w w' := by
  have hmk := make_31
  go_enter Tryd.func32, Tryd.ntmps32
  go_wp2_with fail
  go_upto_region 1 with fail
  go_cut [5, 6, 7] (fun v5 v6 v7 wx => MulR a b w v5 v6 v7 wx)
  case first =>
    go_region_held3 (fun _ => True) (first | trivial) (first | (go_at_call 54; (with_reducible_and_instances refine (digits_any a _).mono ?_); rintro e w1 ⟨v1, x, rfl, hn1, hd1⟩) | (go_at_call 54; (with_reducible_and_instances refine (digits_any b _).mono ?_); rintro e w2 ⟨v2, y, rfl, hn2, hd2⟩))
    all_goals
      go_wp2_with fail
      go_meet
      first | exact mulR1 hn1 hd1 hn2 hd2 | exact mulR2 hn1 hd1 hn2 hd2 | exact mulR3 hn1 hd1 hn2 hd2
  case rest =>
    clear hmk
    obtain ⟨gx, ox, cx, x, gy, oy, cy, y, gt, rfl, rfl, rfl, hcx1, hcx2, hcy1, hcy2, hx, hy, ht, hdx, hdy, hxt, hyt, hgt, hT⟩ := hcut
    have Rx := Lib.hid hx
    have Ry := Lib.hid hy
    have Rt := Lib.hid ht
    have Dx := Lib.hid hdx
    have Dy := Lib.hid hdy
    have Hxt := Lib.hid hxt
    have Hyt := Lib.hid hyt
    have HT := Lib.hid hT
    clear hx hy ht hdx hdy hxt hyt hT
    go_wp2_with fail
    go_loopw [8, 9] (fun vi _ wr => ∃ (i : Nat) (t : List Nat), i ≤ 16 ∧ vi = .int .i64 i ∧ RowA wr gx ox cx 16 x ∧ RowA wr gy oy cy 16 y ∧ RowA wr gt 0 31 31 t ∧ MulS x y t i ∧ Touch [] w wr) (fun vi _ _ => 16 - (intOf vi).toNat)
    case atStart => exact ⟨0, _, by omega, rfl, Rx.out, Ry.out, Rt.out, ⟨by simp, by rw [dN_zeros]; simp [dN], fun k => by
      by_cases hk : k < 31
      · rw [List.getD, List.getElem?_replicate, if_pos hk]; exact Nat.zero_le _
      · rw [List.getD, List.getElem?_replicate, if_neg hk]; exact Nat.zero_le _⟩, HT.out⟩
    case round =>
      clear Rx Ry Rt HT
      obtain ⟨i, t, hi, rfl, hx, hy, ht, hS, hT⟩ := hrel
      have Rx := Lib.hid hx
      have Ry := Lib.hid hy
      have Rt := Lib.hid ht
      have HS := Lib.hid hS
      have HT := Lib.hid hT
      clear hx hy ht hS hT
      by_cases hi16 : i < 16
      · obtain ⟨m, hm⟩ : ∃ m, m = x.getD i 0 := ⟨_, rfl⟩
        have Hm := Lib.hid hm
        have hml : m < 65536 := by rw [hm]; exact Dx.out.dig.at_ i
        have HI := Lib.hid (HS.out.inner m)
        have hdi : decide ((i : Int) < 16) = true := decide_eq_true (by omega)
        rename World => wo
        clear hm
        go_wp2_with fail
        go_loopw [9] (fun vj wr => ∃ (j : Nat) (t : List Nat), j ≤ 16 ∧ vj = .int .i64 j ∧ RowA wr gx ox cx 16 x ∧ RowA wr gy oy cy 16 y ∧ RowA wr gt 0 31 31 t ∧ MulI y t i m j (dN (x.take i) * dN y) ∧ Touch [] w wr) (fun vj _ => 16 - (intOf vj).toNat)
        case atStart => exact ⟨0, t, by omega, rfl, Rx.out, Ry.out, Rt.out, HI.out, HT.out⟩
        case round =>
          clear Rx Ry Rt HT HI HS
          obtain ⟨j, t, hj, rfl, hx, hy, ht, hI, hT⟩ := hrel
          have Rx := Lib.hid hx
          have Ry := Lib.hid hy
          have Rt := Lib.hid ht
          have HI := Lib.hid hI
          have HT := Lib.hid hT
          clear hx hy ht hI hT
          by_cases hj16 : j < 16
          · have hcx := Rx.out.cell i hi16
            have hcy := Ry.out.cell j hj16
            have hct := Rt.out.cell (i + j) (by omega)
            have hft := Rt.out.free (by omega) (i + j)
            rw [Nat.zero_add] at hct
            rw [← Hm.out] at hcx
            have hst := HI.out.step hi16 hj16 hml Dy.out.dig Dy.out.len (a := t.getD (i + j) 0) (n := y.getD j 0) rfl rfl
            have hab := HI.out.le (i + j)
            rw [if_neg (by omega)] at hab
            have hnl := Dy.out.dig.at_ j
            obtain ⟨n, hn⟩ : ∃ n, n = y.getD j 0 := ⟨_, rfl⟩
            obtain ⟨u, hu⟩ : ∃ u, u = t.getD (i + j) 0 := ⟨_, rfl⟩
            rw [← hn] at hcy hst hnl
            rw [← hu] at hct hst hab
            have Hst := Lib.hid hst
            have hmn := mul_65535 hml hnl
            have hmn0 : (0 : Int) ≤ (m : Int) * (n : Int) := by rw [← Int.natCast_mul]; omega
            have hmn1 : (m : Int) * (n : Int) ≤ 4294836225 := by rw [← Int.natCast_mul]; omega
            have hu1 : (u : Int) ≤ 68719476736 := by omega
            have Hij := Lib.hid (show i + j < 31 by omega)
            have Hml := Lib.hid hml
            clear hn hu hst hmn hab hnl hml
            go_wp2_with fail
            go_region
            go_wp2_with fail
            go_roundw
            case rel =>
              have hcast : (u : Int) + (m : Int) * (n : Int) = ((u + m * n : Nat) : Int) := by rw [Int.natCast_add, Int.natCast_mul]
              rw [hcast]
              have hset := Rt.out.set (i + j) (u + m * n) Hij.out
              rw [Nat.zero_add] at hset
              exact ⟨j + 1, _, by omega, by go_num, (Rx.out.far Hxt.out _).touch (Touch.refl _ _).drew, (Ry.out.far Hyt.out _).touch (Touch.refl _ _).drew, hset.touch (Touch.refl _ _).drew, Hst.out, (HT.out.setCell (.inr hgt) _).drew⟩
            case measure => simp [intOf]; omega
          · obtain rfl : j = 16 := by omega
            have HO := Lib.hid (HI.out.outer hi16 Dx.out.len Dy.out.len Hm.out)
            go_wp2_with fail
            go_roundw
            case rel => exact ⟨i + 1, t, by omega, by go_num, Rx.out, Ry.out, Rt.out, HO.out, HT.out⟩
            case measure => simp [intOf]; omega
      · obtain rfl : i = 16 := by omega
        have hv := HS.out.val
        rw [List.take_of_length_le (by rw [Dx.out.len]; omega), Dx.out.val, Dy.out.val] at hv
        have hlt : dN t < 65536 ^ 32 := by
          rw [hv, show (65536 : Nat) ^ 32 = 65536 ^ 16 * 65536 ^ 16 by rw [← Nat.pow_add]]
          exact Nat.mul_lt_mul_of_lt_of_lt (lowB_lt a) (lowB_lt b)
        have hle : ∀ z ∈ t, z ≤ 1099511627776 := fun z hz => by
          obtain ⟨k, hk, rfl⟩ := List.getElem_of_mem hz
          have := HS.out.le k
          rw [List.getD, List.getElem?_eq_getElem hk] at this
          exact Nat.le_trans this (by decide)
        have HTx := Lib.hid (fun W (h : W = wr) => h ▸ text_new (Rt.out.newI HT.out hgt) (by rw [Rt.out.len]; omega) (by rw [Rt.out.len]; omega) hle hlt)
        have Hv := Lib.hid hv
        clear hv hlt hle
        go_wp2_with fail
        refine (HTx.out _ rfl).mono ?_
        rintro e w3 ⟨rfl, ht⟩
        have Ht := Lib.hid ht
        clear ht HTx
        go_wp2_with fail
        go_ret
        exact ⟨by rw [Hv.out]; rfl, HT.out.trans Ht.out⟩
theorem refMul_toS {n m : Nat} (hn : n < PP) (hm : m < PP) (w : World) : Calls Tryd.prog 32 #[.string (toS n), .string (toS m)] w fun e w' => e = .returned (.string (toS (mulF n m))) ∧ Touch [] w w' := by
  have := refMul_any (toS n) (toS m) w
  rwa [lowB_toS hn, lowB_toS hm] at this
/-! RefFj -/
theorem NewU.one (w : World) (u : Nat) : NewU w (w.alloc (.cells #[.int .u8 (u : Int)] 5)) (.slice (some ⟨w.heap.size, 0, none⟩) 1 1) [u] :=
  ⟨some w.heap.size, Own.ofBlk (cs := [.int .u8 (u : Int)]) (Blk.new _ _ _) (by simp) (by unfold maxLen; simp), (Touch.refl _ _).alloc _, .fresh _ _ (Nat.le_refl _)⟩
/-! RefFk -/
/-! RefFl -/
/-! RefFm -/
/-! RefV -/
section
variable {n m : Nat} {x y : Value}
theorem rmul_v (hx : isS (toS n) x) (hy : isS (toS m) y) (hn : n < PP) (hm : m < PP) (w : World) : Calls Tryd.prog 32 #[x, y] w (Gives w (isS (toS (mulF n m)))) := by
  obtain rfl : x = .string (toS n) := hx
  obtain rfl : y = .string (toS m) := hy
  exact (refMul_toS hn hm w).mono fun _ _ ⟨he, ht⟩ => ⟨_, he, rfl, ht⟩
theorem rneg_v (hx : isS (toS n) x) (hn : n < PP) (w : World) : Calls Tryd.prog 35 #[x] w (Gives w (isS (toS (negF n)))) := by
  obtain rfl : x = .string (toS n) := hx
  exact (refNeg_toS hn w).mono fun _ _ ⟨he, ht⟩ => ⟨_, he, rfl, ht⟩
theorem rnum_v (k : Nat) (hk : k < 18446744073709551616) (w : World) : Calls Tryd.prog 34 #[.int .u64 (k : Int)] w (Gives w (isS (toS (k % PP)))) :=
  (refNum_any k hk w).mono fun _ _ ⟨he, ht⟩ => ⟨_, he, rfl, ht⟩
end
end Go.Proofs.YtbgpgbfiadhddaaDoor
