/- RefFa: joined. -/
import Derived.Deep.Cut
import Derived.Deep.DeepCutAuto
import Derived.RegionTactic
import Derived.Test.YtbgpgbfiadhddaaPm10
/- The document's digits to the base 65536: carried. -/
namespace Go.Proofs.Ytbgpgbfiadhddaa
open Go.RowKit
def dN : List Nat → Nat
  | [] => 0
  | x :: l => x + 65536 * dN l
def DigN (l : List Nat) : Prop := ∀ x ∈ l, x < 65536
theorem dN_append (l m : List Nat) : dN (l ++ m) = dN l + 65536 ^ l.length * dN m := by
  induction l with
  | nil => simp [dN]
  | cons x l ih => rw [List.cons_append, dN, dN, ih, List.length_cons, Nat.pow_succ]; grind
theorem dN_zeros (k : Nat) : dN (List.replicate k 0) = 0 := by
  induction k with
  | zero => rfl
  | succ k ih => rw [List.replicate_succ, dN, ih]
theorem dN_take_succ {l : List Nat} {k : Nat} (hk : k < l.length) : dN (l.take (k + 1)) = dN (l.take k) + 65536 ^ k * l.getD k 0 := by
  have h : l.take k ++ [l[k]] = l.take (k + 1) := List.take_append_getElem hk
  rw [← h, dN_append, List.length_take, Nat.min_eq_left (by omega)]
  simp [dN, List.getD, hk]
theorem dN_set {l : List Nat} {k : Nat} (hk : k < l.length) (x : Nat) : dN (l.set k x) + 65536 ^ k * l.getD k 0 = dN l + 65536 ^ k * x := by
  induction l generalizing k with
  | nil => simp at hk
  | cons y l ih =>
    cases k with
    | zero => simp [dN, List.getD]; omega
    | succ k =>
      have h := ih (k := k) (by simpa using hk)
      have e : (y :: l).getD (k + 1) 0 = l.getD k 0 := by simp [List.getD]
      rw [List.set_cons_succ, dN, dN, e, Nat.pow_succ]
      grind
theorem dN_lt {l : List Nat} (h : DigN l) : dN l < 65536 ^ l.length := by
  induction l with
  | nil => simp [dN]
  | cons x l ih =>
    have h1 := ih (fun y hy => h y (List.mem_cons_of_mem _ hy))
    have h2 := h x List.mem_cons_self
    rw [dN, List.length_cons, Nat.pow_succ]
    omega
theorem dN_drop {l : List Nat} {k : Nat} (hk : k < l.length) : dN (l.drop k) = l.getD k 0 + 65536 * dN (l.drop (k + 1)) := by
  rw [List.drop_eq_getElem_cons hk, dN]
  simp [List.getD, hk]
theorem dN_ge {l : List Nat} (hl : 0 < l.length) (h : l.getD (l.length - 1) 0 ≠ 0) : 65536 ^ (l.length - 1) ≤ dN l := by
  have h1 := dN_take_succ (l := l) (k := l.length - 1) (by omega)
  rw [show l.length - 1 + 1 = l.length by omega, List.take_of_length_le (Nat.le_refl _)] at h1
  rw [h1]
  have : 65536 ^ (l.length - 1) * 1 ≤ 65536 ^ (l.length - 1) * l.getD (l.length - 1) 0 := Nat.mul_le_mul_left _ (by omega)
  omega
theorem DigN.at_ {l : List Nat} (h : DigN l) (j : Nat) : l.getD j 0 < 65536 := by
  by_cases hj : j < l.length
  · rw [List.getD, List.getElem?_eq_getElem hj]; exact h _ (List.getElem_mem hj)
  · rw [List.getD, List.getElem?_eq_none (by omega)]; decide
theorem getD_le {l : List Nat} {M : Nat} (h : ∀ x ∈ l, x ≤ M) (j : Nat) : l.getD j 0 ≤ M := by
  by_cases hj : j < l.length
  · rw [List.getD, List.getElem?_eq_getElem hj]; exact h _ (List.getElem_mem hj)
  · rw [List.getD, List.getElem?_eq_none (by omega)]; exact Nat.zero_le _
theorem DigN.snoc {l : List Nat} (h : DigN l) {x : Nat} (hx : x < 65536) : DigN (l ++ [x]) := fun y hy => by
  rcases List.mem_append.1 hy with hy | hy
  · exact h y hy
  · rw [List.mem_singleton.1 hy]; exact hx
/-- What carrying leaves. -/
structure CarP (d q : List Nat) : Prop where
  dig : DigN q
  val : dN q = dN d
  len : d.length ≤ q.length
  top : d.length < q.length → 65536 ^ (q.length - 1) ≤ dN q
/-- While it is carried. -/
structure CarR (d q : List Nat) (i c : Nat) : Prop where
  len : q.length = i
  dig : DigN q
  val : dN q + 65536 ^ i * (c + dN (d.drop i)) = dN d
  top : d.length < i → c = 0 → q.getD (i - 1) 0 ≠ 0
  small : (i ≤ d.length ∧ c ≤ 1099511627776) ∨ (i = d.length + 1 ∧ c ≤ 16777216) ∨ (i = d.length + 2 ∧ c ≤ 256) ∨ (i = d.length + 3 ∧ c = 0)
theorem CarR.start (d : List Nat) : CarR d [] 0 0 := ⟨rfl, fun x hx => (by cases hx), (by simp [dN]), fun h => (by omega), .inl ⟨by omega, by omega⟩⟩
theorem snoc_last (l : List Nat) (x : Nat) : (l ++ [x]).getD l.length 0 = x := by simp [List.getD]
theorem CarR.step {d q : List Nat} {i c x : Nat} (h : CarR d q i c) (hi : i < d.length) (hb : ∀ x ∈ d, x ≤ 1099511627776) (hx : x = d.getD i 0) : CarR d (q ++ [(c + x) % 65536]) (i + 1) ((c + x) / 65536) := by
  have h1 := h.len
  have h2 := h.val
  have h3 := h.small
  have h4 := getD_le hb i
  rw [← hx] at h4
  refine ⟨by simp [h1], h.dig.snoc (Nat.mod_lt _ (by decide)), ?_, fun hl => by omega, by omega⟩
  rw [dN_append, h1, Nat.pow_succ]
  rw [dN_drop hi, ← hx] at h2
  rw [← h2]
  simp only [dN, Nat.mul_zero, Nat.add_zero]
  have e : c + x = (c + x) % 65536 + 65536 * ((c + x) / 65536) := by omega
  generalize (c + x) % 65536 = m at *
  generalize (c + x) / 65536 = n at *
  generalize 65536 ^ i = P at *
  generalize dN (d.drop (i + 1)) = D at *
  have e2 : c + (x + 65536 * D) = m + 65536 * (n + D) := by omega
  rw [e2]
  grind
theorem CarR.more {d q : List Nat} {i c : Nat} (h : CarR d q i c) (hi : d.length ≤ i) (hc : 0 < c) : CarR d (q ++ [c % 65536]) (i + 1) (c / 65536) := by
  have h1 := h.len
  have h2 := h.val
  have h3 := h.small
  refine ⟨by simp [h1], h.dig.snoc (Nat.mod_lt _ (by decide)), ?_, fun _ hz => ?_, by omega⟩
  · rw [dN_append, h1, Nat.pow_succ, List.drop_of_length_le (by omega)]
    rw [List.drop_of_length_le hi] at h2
    rw [← h2]
    simp only [dN, Nat.mul_zero, Nat.add_zero]
    have e : c = c % 65536 + 65536 * (c / 65536) := by omega
    generalize c % 65536 = m at *
    generalize c / 65536 = n at *
    generalize 65536 ^ i = P at *
    subst e
    grind
  · rw [show i + 1 - 1 = q.length by omega, snoc_last]
    omega
theorem CarR.done {d q : List Nat} {i : Nat} (h : CarR d q i 0) (hi : d.length ≤ i) : CarP d q := by
  have h1 := h.len
  have h2 := h.val
  rw [List.drop_of_length_le hi] at h2
  refine ⟨h.dig, by simpa [dN] using h2, by omega, fun hl => dN_ge (by omega) ?_⟩
  rw [h1]
  exact h.top (by omega) rfl
def RowPost (p : List Nat → Prop) (w : World) (e : Ending) (w' : World) : Prop := ∃ v q, e = .returned v ∧ NewI w w' v q ∧ p q
set_option maxRecDepth 100000 in
set_option maxHeartbeats 1000000 in
theorem carried_any (v : Value) (l : List Nat) (row : Option Nat) (w : World) (ho : Own w 3 1 v l.length (cellsI l) row) (h0 : 0 < l.length) (hl : l.length ≤ 1000) (hb : ∀ x ∈ l, x ≤ 1099511627776) :
    Calls Try.prog 68 #[v] w (RowPost (CarP l) w) := by
  have Hown := Lib.hid ho
  obtain ⟨g, off, c0, rfl, hrow, hg, hnc, hcm, _, _⟩ := ho.cell1 h0
  have hcm' : c0 ≤ 9223372036854775807 := hcm
  have Hb := Lib.hid hb
  clear ho hb hcm hrow
  obtain ⟨n, hn⟩ : ∃ n, n = l.length := ⟨_, rfl⟩
  have Hn := Lib.hid hn
  rw [← hn] at hnc h0 hl Hown
  rw [← hn]
  clear hn
  go_enter Try.func68, Try.ntmps68
  go_wp2_with fail
  go_loopw [3, 4, 5] (fun vo vc vi wr => ∃ (i c : Nat) (q : List Nat), vi = .int .i64 i ∧ vc = .int .i64 c ∧ NewI w wr vo q ∧ CarR l q i c) (fun _ vc vi _ => (n - (intOf vi).toNat) * 2199023255552 + (intOf vc).toNat)
  case atStart => exact ⟨0, 0, [], rfl, rfl, ⟨none, Own.nil _ _ _ _, (Touch.refl _ _).alloc _, .refl _ _⟩, CarR.start l⟩
  case round =>
    obtain ⟨i, c, q, rfl, rfl, hq, hC⟩ := hrel
    have hsm := hC.small
    rw [← Hn.out] at hsm
    have hql := hC.len
    have Hql := Lib.hid hql
    obtain ⟨A, cq, rfl, _⟩ := hq.shape
    rw [hql]
    have Hq := Lib.hid hq
    have HC := Lib.hid hC
    rw [hql] at Hq
    clear hC hq hql
    by_cases hin : i < n
    · have hcell : wr.cell? ⟨g, off + i, none⟩ = some (.int .i64 ((l.getD i 0 : Nat) : Int)) :=
        (Own.cellAt (Hown.out.touch Hq.out.touch (by simp)) (by omega) i _ (cellsI_at (by rw [← Hn.out]; exact hin)))
      have hst := HC.out.step (by rw [← Hn.out]; exact hin) Hb.out (x := l.getD i 0) rfl
      have hxb := getD_le Hb.out i
      obtain ⟨x, hx⟩ : ∃ x, x = l.getD i 0 := ⟨_, rfl⟩
      rw [← hx] at hcell hst hxb
      clear hx
      have HS := Lib.hid hst
      have hcb : c ≤ 1099511627776 := by omega
      obtain ⟨y, hy, hyb⟩ : ∃ y : Nat, (c : Int) + (x : Int) = (y : Int) ∧ c + x = y := ⟨c + x, by omega, rfl⟩
      rw [hyb] at HS
      have hyb2 : y ≤ 2199023255552 := by omega
      obtain ⟨u, hu, hu2, hul⟩ : ∃ u : Nat, (y : Int) % 65536 = (u : Int) ∧ y % 65536 = u ∧ u < 65536 := ⟨y % 65536, by omega, rfl, by omega⟩
      obtain ⟨z, hz, hz2, hzl⟩ : ∃ z : Nat, (y : Int) / 65536 = (z : Int) ∧ y / 65536 = z ∧ z ≤ 33554432 := ⟨y / 65536, by omega, rfl, by omega⟩
      rw [hu2, hz2] at HS
      clear hu2 hz2
      clear hst hyb hxb hsm
      go_wp2_with (at_builtin; refine wpList_append_int w _ (.tmp 27) (.tmp 30) 79 Try.underlying79 rfl rfl Hq.out (by rw [Hql.out]; omega) u _ rfl rfl ?_)
      intro A2 c2 w2 h2
      have H2 := Lib.hid h2
      clear h2
      go_wp2_with fail
      go_roundw
      case rel => exact ⟨i + 1, z, _, by go_num, rfl, H2.out, HS.out⟩
      case measure => simp [intOf]; omega
    · by_cases hc0 : 0 < c
      · have hst := HC.out.more (by rw [← Hn.out]; omega) hc0
        have HS := Lib.hid hst
        obtain ⟨u, hu, hu2, hul⟩ : ∃ u : Nat, (c : Int) % 65536 = (u : Int) ∧ c % 65536 = u ∧ u < 65536 := ⟨c % 65536, by omega, rfl, by omega⟩
        obtain ⟨z, hz, hz2, hzl⟩ : ∃ z : Nat, (c : Int) / 65536 = (z : Int) ∧ c / 65536 = z ∧ z < c := ⟨c / 65536, by omega, rfl, by omega⟩
        rw [hu2, hz2] at HS
        clear hu2 hz2
        have hcb : c ≤ 16777216 ∨ c ≤ 1099511627776 := by omega
        have hi4 : i ≤ n + 3 := by omega
        clear hst hsm
        go_wp2_with (at_builtin; refine wpList_append_int w _ (.tmp 27) (.tmp 30) 79 Try.underlying79 rfl rfl Hq.out (by rw [Hql.out]; omega) u _ rfl rfl ?_)
        intro A2 c2 w2 h2
        have H2 := Lib.hid h2
        clear h2
        go_wp2_with fail
        go_roundw
        case rel => exact ⟨i + 1, z, _, by go_num, rfl, H2.out, HS.out⟩
        case measure => simp [intOf]; omega
      · obtain rfl : c = 0 := by omega
        have HS := Lib.hid (HC.out.done (by rw [← Hn.out]; omega))
        clear hsm
        go_wp2_with fail
        go_ret
        exact ⟨_, q, rfl, Hq.out, HS.out⟩
end Go.Proofs.Ytbgpgbfiadhddaa
