/- What the numbers of a point do: sums, negatives, equality, bytes. -/
import Derived.Test.YtbgpgbfiadhddaaDoorPtVal
namespace Go.Proofs.YtbgpgbfiadhddaaDoor
open Go Go.RowKit
section
variable {N0 : Nat} [NeZero N0]
theorem qsum_e {d x1 y1 z1 x2 y2 z2 u : Fin N0} (hu : u * (1 + d*x1*x2*y1*y2) = x1*y2+x2*y1) :
    (y1*z1 + x1*z1) * (y2*z2 + x2*z2) - (y1*z1 - x1*z1) * (y2*z2 - x2*z2) = u * ((z1*z2 + z1*z2) + ((x1*y1*z1)*(x2*y2*z2)*d + (x1*y1*z1)*(x2*y2*z2)*d)) := by
  have e1 : (y1*z1 + x1*z1) * (y2*z2 + x2*z2) - (y1*z1 - x1*z1) * (y2*z2 - x2*z2) = 2*(z1*z2)*(x1*y2+x2*y1) := by clear hu; grind
  rw [e1, ← hu]
  clear e1 hu
  grind
theorem qsum_h {d x1 y1 z1 x2 y2 z2 v : Fin N0} (hv : v * (1 - d*x1*x2*y1*y2) = y1*y2+x1*x2) :
    (y1*z1 + x1*z1) * (y2*z2 + x2*z2) + (y1*z1 - x1*z1) * (y2*z2 - x2*z2) = v * ((z1*z2 + z1*z2) - ((x1*y1*z1)*(x2*y2*z2)*d + (x1*y1*z1)*(x2*y2*z2)*d)) := by
  have e1 : (y1*z1 + x1*z1) * (y2*z2 + x2*z2) + (y1*z1 - x1*z1) * (y2*z2 - x2*z2) = 2*(z1*z2)*(y1*y2+x1*x2) := by clear hv; grind
  rw [e1, ← hv]
  clear e1 hv
  grind
theorem qsum_g {d x1 y1 z1 x2 y2 z2 : Fin N0} : (z1*z2 + z1*z2) + ((x1*y1*z1)*(x2*y2*z2)*d + (x1*y1*z1)*(x2*y2*z2)*d) = 2*(z1*z2)*(1 + d*x1*x2*y1*y2) := by grind
theorem qsum_f {d x1 y1 z1 x2 y2 z2 : Fin N0} : (z1*z2 + z1*z2) - ((x1*y1*z1)*(x2*y2*z2)*d + (x1*y1*z1)*(x2*y2*z2)*d) = 2*(z1*z2)*(1 - d*x1*x2*y1*y2) := by grind
theorem mul3 {e f g h u v : Fin N0} (he : e = u * g) (hh : h = v * f) : e * f = u * (g * f) ∧ h * g = v * (g * f) ∧ e * h = u * v * (g * f) := by
  subst he hh
  refine ⟨?_, ?_, ?_⟩ <;> grind
theorem rsum_x {d x1 y1 z1 x2 y2 z2 u : Fin N0} (hu : u * (1 + d*x1*x2*y1*y2) = x1*y2+x2*y1) :
    ((z1*z2) * ((z1*z2)*(z1*z2) - d*((x1*z1)*(x2*z2)*((y1*z1)*(y2*z2))))) * ((x1*z1 + y1*z1)*(x2*z2 + y2*z2) - (x1*z1)*(x2*z2) - (y1*z1)*(y2*z2)) =
    u * (((z1*z2)*(z1*z2) - d*((x1*z1)*(x2*z2)*((y1*z1)*(y2*z2)))) * ((z1*z2)*(z1*z2) + d*((x1*z1)*(x2*z2)*((y1*z1)*(y2*z2))))) := by
  have e1 : (x1*z1 + y1*z1)*(x2*z2 + y2*z2) - (x1*z1)*(x2*z2) - (y1*z1)*(y2*z2) = (z1*z2)*(x1*y2+x2*y1) := by clear hu; grind
  rw [e1, ← hu]
  clear e1 hu
  grind
theorem rsum_y {d x1 y1 z1 x2 y2 z2 v : Fin N0} (hv : v * (1 - d*x1*x2*y1*y2) = y1*y2+x1*x2) :
    ((z1*z2) * ((z1*z2)*(z1*z2) + d*((x1*z1)*(x2*z2)*((y1*z1)*(y2*z2))))) * ((y1*z1)*(y2*z2) + (x1*z1)*(x2*z2)) =
    v * (((z1*z2)*(z1*z2) - d*((x1*z1)*(x2*z2)*((y1*z1)*(y2*z2)))) * ((z1*z2)*(z1*z2) + d*((x1*z1)*(x2*z2)*((y1*z1)*(y2*z2))))) := by
  have e1 : (y1*z1)*(y2*z2) + (x1*z1)*(x2*z2) = (z1*z2)*(y1*y2+x1*x2) := by clear hv; grind
  rw [e1, ← hv]
  clear e1 hv
  grind
theorem rsum_z {d x1 y1 z1 x2 y2 z2 : Fin N0} : ((z1*z2)*(z1*z2) - d*((x1*z1)*(x2*z2)*((y1*z1)*(y2*z2)))) * ((z1*z2)*(z1*z2) + d*((x1*z1)*(x2*z2)*((y1*z1)*(y2*z2)))) =
    (z1*z2)*(z1*z2)*((z1*z2)*(z1*z2)) * ((1 + d*x1*x2*y1*y2)*(1 - d*x1*x2*y1*y2)) := by grind
theorem frac_eq {x z y w : Fin N0} : x*z*w = y*w*z ↔ x*(z*w) = y*(z*w) := by
  have e1 : x*z*w = x*(z*w) := by grind
  have e2 : y*w*z = y*(z*w) := by grind
  rw [e1, e2]
theorem neg_m1 {x z : Fin N0} : -(x*z) = (-x)*z := by grind
theorem neg_m2 {x y z : Fin N0} : -(x*y*z) = (-x)*y*z := by grind
theorem one_m {x : Fin N0} : x = x*1 := by grind
theorem xz_inv {x z k : Fin N0} (h : z*k = 1) : x*z*k = x := by
  have : x*z*k = x*(z*k) := by grind
  rw [this, h]; grind
end
theorem ff_sub_m (a b c : Nat) : ff (subF a (mulF b c)) = ff a - ff (mulF b c) := ff_sub (mulF_lt ..)
theorem ff_sub_a (a b c : Nat) : ff (subF a (addF b c)) = ff a - ff (addF b c) := ff_sub (addF_lt ..)
theorem ff_0 : ff 0 = 0 := ff_zero
/-- A number is told by what it is in the field. -/
theorem val_of {n : Nat} (hn : n < PP) {x : FF} (h : ff n = x) : n = x.val := by
  rw [← h]; exact (Nat.mod_eq_of_lt hn).symm
theorem zz {p q : FF} (hp : p ≠ 0) (hq : q ≠ 0) : p * q ≠ 0 := ed.ne hp hq
section
variable {P Q : Pt} {X1 Y1 Z1 T1 X2 Y2 Z2 T2 : Nat}
theorem rep_zero : QRep pzero 0 1 1 (mulF 0 1) := by
  refine ⟨PP_pos, by decide, by decide, mulF_lt .., by rw [ff_one]; exact one_ne, ?_, ?_, ?_⟩
  · show ff 0 = 0 * ff 1
    rw [ff_zero, ff_one]; exact one_m
  · show ff 1 = 1 * ff 1
    rw [ff_one]; exact one_m
  · show ff (mulF 0 1) = 0 * 1 * ff 1
    rw [ff_mul, ff_zero, ff_one]; exact one_m
theorem rep_of {x y : Nat} (hx : x < PP) (hy : y < PP) (h : Cv (ff x) (ff y)) : QRep ⟨ff x, ff y, h⟩ x y 1 (mulF x y) := by
  refine ⟨hx, hy, by decide, mulF_lt .., by rw [ff_one]; exact one_ne, ?_, ?_, ?_⟩
  · rw [ff_one]; exact one_m
  · rw [ff_one]; exact one_m
  · rw [ff_mul, ff_one]; exact one_m
theorem rep_add (h1 : QRep P X1 Y1 Z1 T1) (h2 : QRep Q X2 Y2 Z2 T2) {A B C D E F G H : Nat}
    (hA : A = mulF (subF Y1 X1) (subF Y2 X2)) (hB : B = mulF (addF Y1 X1) (addF Y2 X2)) (hC : C = addF (mulF (mulF T1 T2) DN) (mulF (mulF T1 T2) DN)) (hD : D = addF (mulF Z1 Z2) (mulF Z1 Z2))
    (hE : E = subF B A) (hF : F = subF D C) (hG : G = addF D C) (hH : H = addF B A) : QRep (padd P Q) (mulF E F) (mulF H G) (mulF G F) (mulF E H) := by
  obtain ⟨sx, sy⟩ := ed.padd_sum P Q
  have lA : A < PP := hA ▸ mulF_lt ..
  have lC : C < PP := hC ▸ addF_lt ..
  have eA : ff A = (P.y*ff Z1 - P.x*ff Z1) * (Q.y*ff Z2 - Q.x*ff Z2) := by rw [hA, ff_mul, ff_sub h1.lx, ff_sub h2.lx, h1.x, h1.y, h2.x, h2.y]
  have eB : ff B = (P.y*ff Z1 + P.x*ff Z1) * (Q.y*ff Z2 + Q.x*ff Z2) := by rw [hB, ff_mul, ff_add, ff_add, h1.x, h1.y, h2.x, h2.y]
  have eC : ff C = (P.x*P.y*ff Z1)*(Q.x*Q.y*ff Z2)*dF + (P.x*P.y*ff Z1)*(Q.x*Q.y*ff Z2)*dF := by rw [hC, ff_add, ff_mul, ff_mul, h1.t, h2.t]; rfl
  have eD : ff D = ff Z1*ff Z2 + ff Z1*ff Z2 := by rw [hD, ff_add, ff_mul]
  have eE : ff E = (padd P Q).x * ff G := by rw [hE, ff_sub lA, hG, ff_add, eA, eB, eC, eD]; exact qsum_e sx
  have eH : ff H = (padd P Q).y * ff F := by rw [hH, ff_add, hF, ff_sub lC, eA, eB, eC, eD]; exact qsum_h sy
  have eG : ff G = 2*(ff Z1*ff Z2)*(1 + dF*P.x*Q.x*P.y*Q.y) := by rw [hG, ff_add, eC, eD]; exact qsum_g
  have eF : ff F = 2*(ff Z1*ff Z2)*(1 - dF*P.x*Q.x*P.y*Q.y) := by rw [hF, ff_sub lC, eC, eD]; exact qsum_f
  obtain ⟨m1, m2, m3⟩ := mul3 eE eH
  refine ⟨mulF_lt .., mulF_lt .., mulF_lt .., mulF_lt .., ?_, ?_, ?_, ?_⟩
  · rw [ff_mul, eG, eF]
    exact zz (zz (zz two_ne (zz h1.z h2.z)) (ed.den_p P.on Q.on)) (zz (zz two_ne (zz h1.z h2.z)) (ed.den_m P.on Q.on))
  · rw [ff_mul, ff_mul]; exact m1
  · rw [ff_mul, ff_mul]; exact m2
  · rw [ff_mul, ff_mul]; exact m3
theorem rep_neg (h : QRep P X1 Y1 Z1 T1) : QRep (pneg P) (negF X1) Y1 Z1 (negF T1) := by
  refine ⟨negF_lt _, h.ly, h.lz, negF_lt _, h.z, ?_, h.y, ?_⟩
  · rw [ff_neg h.lx, h.x]; exact neg_m1
  · rw [ff_neg h.lt, h.t]; exact neg_m2
theorem frac_same {a b c e : Nat} {x y : FF} (ha : ff a = x * ff b) (hc : ff c = y * ff e) (hb : ff b ≠ 0) (he : ff e ≠ 0) : mulF a e = mulF c b ↔ x = y := by
  constructor
  · intro h
    have h2 := congrArg ff h
    rw [ff_mul, ff_mul, ha, hc] at h2
    exact ed.cancel (zz hb he) (frac_eq.1 h2)
  · intro h
    refine ff_inj (mulF_lt ..) (mulF_lt ..) ?_
    rw [ff_mul, ff_mul, ha, hc, h]
    exact frac_eq.2 rfl
theorem rep_same_x (h1 : QRep P X1 Y1 Z1 T1) (h2 : QRep Q X2 Y2 Z2 T2) : mulF X1 Z2 = mulF X2 Z1 ↔ P.x = Q.x := frac_same h1.x h2.x h1.z h2.z
theorem rep_same_y (h1 : QRep P X1 Y1 Z1 T1) (h2 : QRep Q X2 Y2 Z2 T2) : mulF Y1 Z2 = mulF Y2 Z1 ↔ P.y = Q.y := frac_same h1.y h2.y h1.z h2.z
theorem inv_val {a z : Nat} {x : FF} (hz : z < PP) (h : ff a = x * ff z) (h0 : ff z ≠ 0) : mulF a (invF z) = x.val := by
  refine val_of (mulF_lt ..) ?_
  rw [ff_mul, h, ff_invF hz]
  exact xz_inv (mul_iF h0)
theorem rep_x (h : QRep P X1 Y1 Z1 T1) : mulF X1 (invF Z1) = P.x.val := inv_val h.lz h.x h.z
theorem rep_y (h : QRep P X1 Y1 Z1 T1) : mulF Y1 (invF Z1) = P.y.val := inv_val h.lz h.y h.z
end
def samePt (P Q : Pt) : Bool := decide (P.x = Q.x) && decide (P.y = Q.y)
theorem samePt_iff {P Q : Pt} : samePt P Q = true ↔ P = Q := by
  unfold samePt
  rw [Bool.and_eq_true, decide_eq_true_eq, decide_eq_true_eq]
  exact ⟨fun h => PtG.ext' h.1 h.2, fun h => by rw [h]; exact ⟨rfl, rfl⟩⟩
theorem samePt_self (P : Pt) : samePt P P = true := samePt_iff.2 rfl
theorem QLv.qu {P : Pt} {X Y Z T : Nat} (h : QRep P X Y Z T) {v : Value} (hv : QLv X Y Z T v) : QuV P v := by
  obtain ⟨l, hl, rfl⟩ := hv
  exact ⟨l, ⟨X, Y, Z, T, h, hl⟩, rfl⟩
theorem PQv.pt {P : Pt} {X Y Z T : Nat} (h : QRep P X Y Z T) {v : Value} (hv : PQv X Y Z T v) : PtV P v := by
  obtain ⟨l, hl, rfl⟩ := hv
  exact ⟨true, l, .inl ⟨rfl, X, Y, Z, T, h, hl⟩, rfl⟩
theorem PtV.none : PtV pzero (ptV false zl) := ⟨false, zl, .inr ⟨rfl, rfl, rfl⟩, rfl⟩
section
variable {o : Oper} {a : Act} {w : World} {T : Tmp → SP}
/-- The numbers of a point in memory. -/
theorem OpTo.rdQ1 (d : Tmp) (x : Operand) (ho : o.op = .load 27 x) (hd : o.dst = some d) (g : Nat) (hx : a.eval x = .pointer (some ⟨g, 1, none⟩)) {t : TypeId} {b : Bool} {l : List Int} (hB : Blk w g t (ptA b l)) {P : Pt} (h : QP P l) (hT : ∀ v, QuV P v → (T d).p v w) :
    OpTo Tryd.prog o a w (fun v w' => dOfW o T v w' ∧ Touch [] w w') := fun K Q hK => by
  have hc : w.rangeAt g 1 (cellsZ l) := fun j v hv => by
    rw [hB.cell]
    unfold ptA
    rw [List.getElem?_toArray, Nat.add_comm, List.getElem?_cons_succ]
    exact hv
  exact wp_load_mid (K := K) (Q := Q) 27 x ho g 1 hx (cellsZ l) _ hc Tryd.underlying27 rfl (by rw [cellsZ_len, h.len]; exact infoQ) (hK _ _ ⟨dOfW.of d hd (hT _ ⟨l, h, rfl⟩), Touch.refl _ _⟩)
theorem OpTo.fieldQ (d : Tmp) (x : Operand) (ho : o.op = .field 29 x 1) (hd : o.dst = some d) {X Y Z U : Nat} (hx : PQv X Y Z U (a.eval x)) (hT : ∀ v, QLv X Y Z U v → (T d).p v w) :
    OpTo Tryd.prog o a w (fun v w' => dOfW o T v w' ∧ Touch [] w w') := by
  obtain ⟨l, hl, e⟩ := hx
  refine OpTo.pureG (v := elV l) d hd ?_ (hT _ ⟨l, hl, rfl⟩)
  unfold execOp
  simp only [ho, e, Sem.run_bind, Sem.run_pure, run_field_quad hl.len, Result.andThen_ok]
end
end Go.Proofs.YtbgpgbfiadhddaaDoor
