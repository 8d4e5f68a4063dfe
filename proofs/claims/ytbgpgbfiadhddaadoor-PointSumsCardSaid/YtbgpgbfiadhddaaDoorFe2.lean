/- Numbers modulo p out of digits. -/
import Derived.Test.YtbgpgbfiadhddaaDoorFe
namespace Go.Proofs.YtbgpgbfiadhddaaDoor
open Go.RowKit
def PP : Nat := 57896044618658097711785492504343953926634992332820282019728792003956564819949
/-- What a number is modulo p. -/
def fz (z : Int) : Nat := (z % 57896044618658097711785492504343953926634992332820282019728792003956564819949).toNat
def fe (l : List Int) : Nat := fz (vI l)
def addF (x y : Nat) : Nat := (x + y) % PP
def negF (x : Nat) : Nat := (PP - x) % PP
def subF (x y : Nat) : Nat := addF x (negF y)
def mulF (x y : Nat) : Nat := x * y % PP
theorem fz_lt (z : Int) : fz z < PP := by unfold fz PP; omega
theorem fe_lt (l : List Int) : fe l < PP := fz_lt _
theorem fz_add (a b : Int) : fz (a + b) = addF (fz a) (fz b) := by unfold fz addF PP; omega
theorem fz_sub (a b : Int) : fz (a - b) = subF (fz a) (fz b) := by unfold fz subF addF negF PP; omega
theorem fz_mul (a b : Int) : fz (a * b) = mulF (fz a) (fz b) := by
  unfold mulF
  have ha : ((fz a : Nat) : Int) = a % 57896044618658097711785492504343953926634992332820282019728792003956564819949 := by unfold fz; omega
  have hb : ((fz b : Nat) : Int) = b % 57896044618658097711785492504343953926634992332820282019728792003956564819949 := by unfold fz; omega
  have h : ((fz (a * b) : Nat) : Int) = ((fz a * fz b % PP : Nat) : Int) := by
    rw [Int.natCast_emod, Int.natCast_mul, ha, hb]
    show _ = _ % (57896044618658097711785492504343953926634992332820282019728792003956564819949 : Int)
    rw [← Int.mul_emod]
    unfold fz; omega
  exact Int.ofNat.inj h
theorem fz_nat (n : Nat) : fz (n : Int) = n % PP := by unfold fz PP; omega
theorem fz_fold (a c : Int) : fz (a + 38 * c) = fz (a + c * 65536 ^ 16) := by
  have e : (65536 : Int) ^ 16 = 115792089237316195423570985008687907853269984665640564039457584007913129639936 := by decide
  rw [e]
  unfold fz
  omega
theorem CarB.fe {l r : List Int} (h : CarB l r) : fe r = fe l := by
  obtain ⟨q, c, hq, _, hv, rfl, _⟩ := h
  unfold Go.Proofs.YtbgpgbfiadhddaaDoor.fe
  have e1 := vI_set (l := q) (k := 0) (by omega) (q.getD 0 0 + 38 * c)
  rw [Int.pow_zero, Int.one_mul, Int.one_mul] at e1
  rw [show vI (q.set 0 (q.getD 0 0 + 38 * c)) = vI q + 38 * c by omega, fz_fold, hv]
theorem CarB.len {l r : List Int} (h : CarB l r) : r.length = 16 := by
  obtain ⟨q, c, hq, _, _, rfl, _⟩ := h
  rw [List.length_set, hq]
/-- Digits as all functions leave them. -/
structure Red (l : List Int) : Prop where
  len : l.length = 16
  bnd : Bnd 66535 l
theorem bnd_val {l : List Int} {M : Int} (h : Bnd M l) : M - M * 65536 ^ l.length ≤ 65535 * vI l ∧ 65535 * vI l ≤ M * 65536 ^ l.length - M := by
  induction l with
  | nil => simp [vI]
  | cons x l ih =>
    have h1 := ih (fun y hy => h y (List.mem_cons_of_mem _ hy))
    have h2 := h x List.mem_cons_self
    rw [vI, List.length_cons, Int.pow_succ, ← Int.mul_assoc]
    generalize M * 65536 ^ l.length = P at *
    omega
theorem CarB.bound {l r : List Int} {M C : Int} (h : CarB l r) (hl : l.length = 16) (hb : Bnd M l) (hM : 0 ≤ M) (hC : M ≤ 65535 * C) : Bnd (65535 + 38 * (C + 1)) r := by
  obtain ⟨q, c, hq, hd, hv, rfl, hc⟩ := h
  have h1 := bnd_val hb
  rw [hl] at h1
  have e : (65536 : Int) ^ 16 = 115792089237316195423570985008687907853269984665640564039457584007913129639936 := by decide
  rw [e] at h1 hc
  have h0 : 0 ≤ C := by omega
  have hc2 : -(C + 1) ≤ c ∧ c ≤ C + 1 := by omega
  intro x hx
  rcases List.mem_or_eq_of_mem_set hx with hx | rfl
  · have := hd x hx; omega
  · have := hd.at_ 0; omega
/-- A second time. -/
theorem CarB.bound2 {l r s : List Int} {C : Int} (h : CarB l r) (h2 : CarB r s) (hl : l.length = 16) (hb : Bnd (65535 * C) l) (h0 : 0 ≤ C) (hC : C ≤ 1000000000000) : Red s := by
  have hlen := h2.len
  obtain ⟨q, c, hq, hd, hv, rfl, hc⟩ := h
  obtain ⟨q2, c2, hq2, hd2, hv2, rfl, hc2⟩ := h2
  have h1 := bnd_val hb
  rw [hl] at h1
  have e : (65536 : Int) ^ 16 = 115792089237316195423570985008687907853269984665640564039457584007913129639936 := by decide
  have e1 := vI_set (l := q) (k := 0) (by omega) (q.getD 0 0 + 38 * c)
  rw [Int.pow_zero, Int.one_mul, Int.one_mul] at e1
  have h3 := vI_lt hd
  rw [hq] at h3
  rw [e] at h1 hc hc2 h3
  have hcb : -(C + 1) ≤ c ∧ c ≤ C + 1 := by omega
  have hc2b : -1 ≤ c2 ∧ c2 ≤ 1 := by omega
  refine ⟨hlen, fun x hx => ?_⟩
  rcases List.mem_or_eq_of_mem_set hx with hx | rfl
  · have := hd2 x hx; omega
  · have := hd2.at_ 0; omega
theorem Bnd.mono {M N : Int} {l : List Int} (h : Bnd M l) (hMN : M ≤ N) : Bnd N l := fun x hx => by have := h x hx; omega
theorem Bnd.set {M : Int} {l : List Int} (h : Bnd M l) (k : Nat) {x : Int} (hx : -M ≤ x ∧ x ≤ M) : Bnd M (l.set k x) := fun y hy => by
  rcases List.mem_or_eq_of_mem_set hy with hy | rfl
  · exact h y hy
  · exact hx
/-- Sums, digit by digit. -/
structure SumA (s : Int) (l m r : List Int) (k : Nat) : Prop where
  len : r.length = 16
  drop : r.drop k = l.drop k
  val : vI r = vI l + s * vI (m.take k)
  bnd : Bnd 133070 r
theorem SumA.start {s : Int} {l m : List Int} (hl : Red l) : SumA s l m l 0 := ⟨hl.len, rfl, by simp [vI], hl.bnd.mono (by omega)⟩
theorem SumA.step {s : Int} {l m r : List Int} {k : Nat} (h : SumA s l m r k) (hk : k < 16) (hl : Red l) (hm : Red m) (hs : s = 1 ∨ s = -1) {x y : Int} (hx : x = r.getD k 0) (hy : y = m.getD k 0) :
    SumA s l m (r.set k (x + s * y)) (k + 1) := by
  have h1 := h.len
  have hml := hm.len
  have hxl : x = l.getD k 0 := by
    have e := congrArg (fun m => m.getD 0 0) h.drop
    simpa [List.getD, hx] using e
  have hxb := hl.bnd.at_ (by decide) k
  have hyb := hm.bnd.at_ (by decide) k
  rw [← hxl] at hxb
  rw [← hy] at hyb
  refine ⟨by simp [h1], ?_, ?_, h.bnd.set k (by rcases hs with rfl | rfl <;> omega)⟩
  · rw [List.drop_set, if_pos (by omega)]
    have e := congrArg (List.drop 1) h.drop
    rwa [List.drop_drop, List.drop_drop] at e
  · have e1 := vI_set (l := r) (k := k) (by omega) (x + s * y)
    rw [vI_take_succ (by omega), ← hy]
    rw [← hx, h.val] at e1
    generalize (65536 : Int) ^ k = P at *
    generalize vI (m.take k) = V at *
    generalize vI l = L at *
    generalize vI (r.set k (x + s * y)) = R at *
    grind
theorem SumA.xy {s : Int} {l m r : List Int} {k : Nat} (h : SumA s l m r k) (hl : Red l) (hm : Red m) : -66535 ≤ r.getD k 0 ∧ r.getD k 0 ≤ 66535 ∧ -66535 ≤ m.getD k 0 ∧ m.getD k 0 ≤ 66535 := by
  have hxl : r.getD k 0 = l.getD k 0 := by
    have e := congrArg (fun m => m.getD 0 0) h.drop
    simpa [List.getD] using e
  have hxb := hl.bnd.at_ (by decide) k
  have hyb := hm.bnd.at_ (by decide) k
  rw [hxl]
  omega
theorem SumA.big {s : Int} {l m r : List Int} {k : Nat} (h : SumA s l m r k) : Bnd 2305843009213693952 r := h.bnd.mono (by omega)
theorem SumA.red {s : Int} {l m r q : List Int} (h : SumA s l m r 16) (hm : Red m) (hc : CarB r q) : Red q ∧ fe q = fz (vI l + s * vI m) := by
  refine ⟨⟨hc.len, (hc.bound h.len h.bnd (by omega) (C := 3) (by omega)).mono (by omega)⟩, ?_⟩
  rw [hc.fe, fe, h.val, List.take_of_length_le (by rw [hm.len]; omega)]
end Go.Proofs.YtbgpgbfiadhddaaDoor
