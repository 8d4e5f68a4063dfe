/- Sums on a curve over a ring without zero divisors: a group. -/
import Derived.Test.YtbgpgbfiadhddaaDoorPtIds
namespace Go.Proofs.YtbgpgbfiadhddaaDoor
section
variable {N0 : Nat} [NeZero N0]
theorem comp_id (d i x1 y1 x2 y2 : Fin N0) : (i*x1 + (d*x1*x2*y1*y2)*y1)^2 - d*(x1*y1*(i*x2+y2))^2 =
  (i^2+1)*(x1^2 - d*x1^2*x2^2*y1^2) + ((d*x1*x2*y1*y2)^2 - 1)*(y1^2-1) + (y1^2-x1^2-1-d*x1^2*y1^2) - d*x1^2*y1^2*(y2^2-x2^2-1-d*x2^2*y2^2) := by grind
theorem comp_id' (d i x1 y1 x2 y2 : Fin N0) : (i*x1 - (d*x1*x2*y1*y2)*y1)^2 - d*(x1*y1*(i*x2-y2))^2 =
  (i^2+1)*(x1^2 - d*x1^2*x2^2*y1^2) + ((d*x1*x2*y1*y2)^2 - 1)*(y1^2-1) + (y1^2-x1^2-1-d*x1^2*y1^2) - d*x1^2*y1^2*(y2^2-x2^2-1-d*x2^2*y2^2) := by grind
theorem asx {d x1 y1 x2 y2 x3 y3 u v u' v' s t : Fin N0} (hi : ((x1*y2+x2*y1)*(1-d*x1*x2*y1*y2)*y3+x3*(y1*y2+x1*x2)*(1+d*x1*x2*y1*y2))*((1-(d*x2*x3*y2*y3)^2)+d*(x2*y3+x3*y2)*(y2*y3+x2*x3)*x1*y1) - (x1*(y2*y3+x2*x3)*(1+d*x2*x3*y2*y3)+(x2*y3+x3*y2)*(1-d*x2*x3*y2*y3)*y1)*((1-(d*x1*x2*y1*y2)^2)+d*(x1*y2+x2*y1)*(y1*y2+x1*x2)*x3*y3) = 0)
    (hu : u * (1 + d*x1*x2*y1*y2) = x1*y2+x2*y1) (hv : v * (1 - d*x1*x2*y1*y2) = y1*y2+x1*x2)
    (hu' : u' * (1 + d*x2*x3*y2*y3) = x2*y3+x3*y2) (hv' : v' * (1 - d*x2*x3*y2*y3) = y2*y3+x2*x3)
    (hs : s * (1 + d*u*x3*v*y3) = u*y3+x3*v) (ht : t * (1 + d*x1*u'*y1*v') = x1*v'+u'*y1) :
    s * ((1 + d*x1*x2*y1*y2)*(1 - d*x1*x2*y1*y2)*(1 + d*u*x3*v*y3)*((1 + d*x2*x3*y2*y3)*(1 - d*x2*x3*y2*y3)*(1 + d*x1*u'*y1*v'))) =
    t * ((1 + d*x1*x2*y1*y2)*(1 - d*x1*x2*y1*y2)*(1 + d*u*x3*v*y3)*((1 + d*x2*x3*y2*y3)*(1 - d*x2*x3*y2*y3)*(1 + d*x1*u'*y1*v'))) := by
  rw [← hu, ← hv, ← hu', ← hv'] at hi
  generalize hm : d*x1*x2*y1*y2 = m at *
  generalize hn : d*x2*x3*y2*y3 = n at *
  have e1 : s * ((1 + m)*(1 - m)*(1 + d*u*x3*v*y3)*((1 + n)*(1 - n)*(1 + d*x1*u'*y1*v'))) = (s * (1 + d*u*x3*v*y3)) * ((1+m)*(1-m)*((1 + n)*(1 - n)*(1 + d*x1*u'*y1*v'))) := by clear hi hu hv hu' hv' hs ht hm hn; grind
  have e2 : t * ((1 + m)*(1 - m)*(1 + d*u*x3*v*y3)*((1 + n)*(1 - n)*(1 + d*x1*u'*y1*v'))) = (t * (1 + d*x1*u'*y1*v')) * ((1+m)*(1-m)*((1 + n)*(1 - n)*(1 + d*u*x3*v*y3))) := by clear hi hu hv hu' hv' hs ht hm hn; grind
  rw [e1, e2, hs, ht]
  clear hu hv hu' hv' hs ht hm hn e1 e2
  grind
theorem asy {d x1 y1 x2 y2 x3 y3 u v u' v' s t : Fin N0} (hi : ((y1*y2+x1*x2)*(1+d*x1*x2*y1*y2)*y3+(x1*y2+x2*y1)*(1-d*x1*x2*y1*y2)*x3)*((1-(d*x2*x3*y2*y3)^2)-d*(x2*y3+x3*y2)*(y2*y3+x2*x3)*x1*y1) - (y1*(y2*y3+x2*x3)*(1+d*x2*x3*y2*y3)+x1*(x2*y3+x3*y2)*(1-d*x2*x3*y2*y3))*((1-(d*x1*x2*y1*y2)^2)-d*(x1*y2+x2*y1)*(y1*y2+x1*x2)*x3*y3) = 0)
    (hu : u * (1 + d*x1*x2*y1*y2) = x1*y2+x2*y1) (hv : v * (1 - d*x1*x2*y1*y2) = y1*y2+x1*x2)
    (hu' : u' * (1 + d*x2*x3*y2*y3) = x2*y3+x3*y2) (hv' : v' * (1 - d*x2*x3*y2*y3) = y2*y3+x2*x3)
    (hs : s * (1 - d*u*x3*v*y3) = v*y3+u*x3) (ht : t * (1 - d*x1*u'*y1*v') = y1*v'+x1*u') :
    s * ((1 + d*x1*x2*y1*y2)*(1 - d*x1*x2*y1*y2)*(1 - d*u*x3*v*y3)*((1 + d*x2*x3*y2*y3)*(1 - d*x2*x3*y2*y3)*(1 - d*x1*u'*y1*v'))) =
    t * ((1 + d*x1*x2*y1*y2)*(1 - d*x1*x2*y1*y2)*(1 - d*u*x3*v*y3)*((1 + d*x2*x3*y2*y3)*(1 - d*x2*x3*y2*y3)*(1 - d*x1*u'*y1*v'))) := by
  rw [← hu, ← hv, ← hu', ← hv'] at hi
  generalize hm : d*x1*x2*y1*y2 = m at *
  generalize hn : d*x2*x3*y2*y3 = n at *
  have e1 : s * ((1 + m)*(1 - m)*(1 - d*u*x3*v*y3)*((1 + n)*(1 - n)*(1 - d*x1*u'*y1*v'))) = (s * (1 - d*u*x3*v*y3)) * ((1+m)*(1-m)*((1 + n)*(1 - n)*(1 - d*x1*u'*y1*v'))) := by clear hi hu hv hu' hv' hs ht hm hn; grind
  have e2 : t * ((1 + m)*(1 - m)*(1 - d*u*x3*v*y3)*((1 + n)*(1 - n)*(1 - d*x1*u'*y1*v'))) = (t * (1 - d*x1*u'*y1*v')) * ((1+m)*(1-m)*((1 + n)*(1 - n)*(1 - d*u*x3*v*y3))) := by clear hi hu hv hu' hv' hs ht hm hn; grind
  rw [e1, e2, hs, ht]
  clear hu hv hu' hv' hs ht hm hn e1 e2
  grind
/-- What the ring must have: no zero divisors, inverses, a root of -1, no root of d, 2 is not 0. -/
structure Ed (d i : Fin N0) (inv : Fin N0 → Fin N0) : Prop where
  dom : ∀ x y : Fin N0, x * y = 0 → x = 0 ∨ y = 0
  inv : ∀ x : Fin N0, x ≠ 0 → x * inv x = 1
  sq : i^2 + 1 = 0
  nosq : ∀ x : Fin N0, x * x ≠ d
  two : (2 : Fin N0) ≠ 0
  one : (1 : Fin N0) ≠ 0
variable {d i : Fin N0} {inv : Fin N0 → Fin N0}
theorem Ed.ne (E : Ed d i inv) {x y : Fin N0} (hx : x ≠ 0) (hy : y ≠ 0) : x * y ≠ 0 := fun h => (E.dom x y h).elim hx hy
theorem Ed.cancel (E : Ed d i inv) {x y z : Fin N0} (hz : z ≠ 0) (h : x * z = y * z) : x = y := by
  have h1 : (x - y) * z = 0 := by grind
  rcases E.dom _ _ h1 with h2 | h2
  · grind
  · exact absurd h2 hz
theorem Ed.nosq2 (E : Ed d i inv) {u v : Fin N0} (hu : u ≠ 0) (h : v^2 - d*u^2 = 0) : False := by
  refine E.nosq (v * inv u) ?_
  have h1 := E.inv u hu
  generalize inv u = k at *
  have : v * k * (v * k) = (v^2 - d*u^2) * k^2 + d * (u*k)^2 := by clear h h1; grind
  rw [this, h, h1]
  clear h h1 this
  grind
/-- The curve. -/
def CvG (d x y : Fin N0) : Prop := y^2 - x^2 - 1 - d*x^2*y^2 = 0
theorem Ed.den_sq (E : Ed d i inv) {x1 y1 x2 y2 : Fin N0} (h1 : CvG d x1 y1) (h2 : CvG d x2 y2) : (d*x1*x2*y1*y2)^2 - 1 ≠ 0 := fun hm => by
  unfold CvG at h1 h2
  have hi := E.sq
  have c1 := comp_id d i x1 y1 x2 y2
  have c2 := comp_id' d i x1 y1 x2 y2
  rw [hi, hm, h1, h2] at c1 c2
  have hx : x1 * y1 ≠ 0 := fun h => by
    have : (d*x1*x2*y1*y2)^2 - 1 = (d*x2*y2)^2*(x1*y1)^2 - 1 := by
      clear c1 c2 hm h1 h2 hi h
      grind
    rw [this, h] at hm
    refine E.one ?_
    clear c1 c2 this h h1 h2 hi
    grind
  have s1 : i * x2 + y2 = 0 := Classical.byContradiction fun hs => E.nosq2 (E.ne hx hs) (c1.trans (by clear c1 c2 hm h1 h2 hi hx hs; grind))
  have s2 : i * x2 - y2 = 0 := Classical.byContradiction fun hs => E.nosq2 (E.ne hx hs) (c2.trans (by clear c1 c2 hm h1 h2 hi hx hs s1; grind))
  clear c1 c2 hm h1 hx
  have y0 : y2 = 0 := by
    have : 2 * y2 = 0 := by clear h2 hi; grind
    rcases E.dom _ _ this with h | h
    · exact absurd h E.two
    · exact h
  have x0 : x2 = 0 := by
    have : x2 = (i^2+1)*x2 - i*(i*x2 + y2) + i*y2 := by clear h2 hi s1 s2 y0; grind
    rw [this, hi, s1, y0]; clear h2 hi s1 s2 y0 this; grind
  rw [x0, y0] at h2
  refine E.one ?_
  clear hi s1 s2 x0 y0
  grind
theorem Ed.den_p (E : Ed d i inv) {x1 y1 x2 y2 : Fin N0} (h1 : CvG d x1 y1) (h2 : CvG d x2 y2) : 1 + d*x1*x2*y1*y2 ≠ 0 := fun h => E.den_sq h1 h2 (by
  clear h1 h2
  generalize d*x1*x2*y1*y2 = m at *
  have : m^2 - 1 = (1+m)*(m-1) := by grind
  rw [this, h]; grind)
theorem Ed.den_m (E : Ed d i inv) {x1 y1 x2 y2 : Fin N0} (h1 : CvG d x1 y1) (h2 : CvG d x2 y2) : 1 - d*x1*x2*y1*y2 ≠ 0 := fun h => E.den_sq h1 h2 (by
  clear h1 h2
  generalize d*x1*x2*y1*y2 = m at *
  have : m^2 - 1 = -((1-m)*(1+m)) := by grind
  rw [this, h]; grind)
/-! ### Points and sums -/
structure PtG (N0 : Nat) [NeZero N0] (d : Fin N0) where
  x : Fin N0
  y : Fin N0
  on : CvG d x y
theorem PtG.ext' {p q : PtG N0 d} (hx : p.x = q.x) (hy : p.y = q.y) : p = q := by
  cases p; cases q
  cases hx; cases hy
  rfl
/-- What the two numbers of a sum are: the only ones. -/
structure SumOf (d x1 y1 x2 y2 u v : Fin N0) : Prop where
  x : u * (1 + d*x1*x2*y1*y2) = x1*y2+x2*y1
  y : v * (1 - d*x1*x2*y1*y2) = y1*y2+x1*x2
theorem Ed.sum_on (E : Ed d i inv) {x1 y1 x2 y2 u v : Fin N0} (h1 : CvG d x1 y1) (h2 : CvG d x2 y2) (h : SumOf d x1 y1 x2 y2 u v) : CvG d u v := by
  have hp := E.den_p h1 h2
  have hm := E.den_m h1 h2
  have c := close_id d x1 x2 y1 y2
  obtain ⟨hx, hy⟩ := h
  unfold CvG at *
  rw [h1, h2, ← hx, ← hy] at c
  clear h1 h2 hx hy
  generalize 1 + d*x1*x2*y1*y2 = p at *
  generalize 1 - d*x1*x2*y1*y2 = q at *
  have e : (v^2 - u^2 - 1 - d*u^2*v^2) * (p*q)^2 = 0 := by
    refine Eq.trans ?_ (c.trans ?_)
    · clear c hp hm; grind
    · clear c hp hm; grind
  rcases E.dom _ _ e with e | e
  · exact e
  · exfalso
    have : p*q*(p*q) = 0 := by clear c hp hm; grind
    exact E.ne (E.ne hp hm) (E.ne hp hm) this
theorem Ed.sum_one (E : Ed d i inv) {x1 y1 x2 y2 u v u' v' : Fin N0} (h1 : CvG d x1 y1) (h2 : CvG d x2 y2) (h : SumOf d x1 y1 x2 y2 u v) (h' : SumOf d x1 y1 x2 y2 u' v') : u = u' ∧ v = v' :=
  ⟨E.cancel (E.den_p h1 h2) (h.x.trans h'.x.symm), E.cancel (E.den_m h1 h2) (h.y.trans h'.y.symm)⟩
theorem Ed.sum_iF (E : Ed d i inv) {x1 y1 x2 y2 : Fin N0} (h1 : CvG d x1 y1) (h2 : CvG d x2 y2) : SumOf d x1 y1 x2 y2 ((x1*y2+x2*y1) * inv (1 + d*x1*x2*y1*y2)) ((y1*y2+x1*x2) * inv (1 - d*x1*x2*y1*y2)) := by
  have e1 := E.inv _ (E.den_p h1 h2)
  have e2 := E.inv _ (E.den_m h1 h2)
  clear h1 h2
  refine ⟨?_, ?_⟩
  · clear e2
    generalize 1 + d*x1*x2*y1*y2 = p at *
    generalize inv p = k at *
    grind
  · clear e1
    generalize 1 - d*x1*x2*y1*y2 = p at *
    generalize inv p = k at *
    grind
def paddG (E : Ed d i inv) (p q : PtG N0 d) : PtG N0 d := ⟨_, _, E.sum_on p.on q.on (E.sum_iF p.on q.on)⟩
theorem Ed.padd_sum (E : Ed d i inv) (p q : PtG N0 d) : SumOf d p.x p.y q.x q.y (paddG E p q).x (paddG E p q).y := E.sum_iF p.on q.on
/-- A point is a sum if it does what a sum does. -/
theorem Ed.padd_of (E : Ed d i inv) {p q r : PtG N0 d} (h : SumOf d p.x p.y q.x q.y r.x r.y) : paddG E p q = r := by
  obtain ⟨h1, h2⟩ := E.sum_one p.on q.on (E.padd_sum p q) h
  exact PtG.ext' h1 h2
def pzeroG (d : Fin N0) : PtG N0 d := ⟨0, 1, by unfold CvG; grind⟩
theorem neg_on {x y : Fin N0} (h : CvG d x y) : CvG d (-x) y := by
  unfold CvG at *
  grind
def pnegG (p : PtG N0 d) : PtG N0 d := ⟨-p.x, p.y, neg_on p.on⟩
theorem Ed.comm (E : Ed d i inv) (p q : PtG N0 d) : paddG E p q = paddG E q p := by
  refine E.padd_of ?_
  obtain ⟨h1, h2⟩ := E.padd_sum q p
  exact ⟨by rw [show d*p.x*q.x*p.y*q.y = d*q.x*p.x*q.y*p.y by clear h1 h2; grind, h1]; clear h1 h2; grind, by rw [show d*p.x*q.x*p.y*q.y = d*q.x*p.x*q.y*p.y by clear h1 h2; grind, h2]; clear h1 h2; grind⟩
theorem Ed.add_zero (E : Ed d i inv) (p : PtG N0 d) : paddG E p (pzeroG d) = p := by
  refine E.padd_of ⟨?_, ?_⟩
  · show p.x * (1 + d*p.x*0*p.y*1) = p.x*1 + 0*p.y
    grind
  · show p.y * (1 - d*p.x*0*p.y*1) = p.y*1 + p.x*0
    grind
theorem Ed.zero_add (E : Ed d i inv) (p : PtG N0 d) : paddG E (pzeroG d) p = p := by rw [E.comm, E.add_zero]
theorem Ed.add_neg (E : Ed d i inv) (p : PtG N0 d) : paddG E p (pnegG p) = pzeroG d := by
  have hc := p.on
  unfold CvG at hc
  refine E.padd_of ⟨?_, ?_⟩
  · show 0 * (1 + d*p.x*(-p.x)*p.y*p.y) = p.x*p.y + (-p.x)*p.y
    clear hc; grind
  · show 1 * (1 - d*p.x*(-p.x)*p.y*p.y) = p.y*p.y + p.x*(-p.x)
    generalize p.x = x at *
    generalize p.y = y at *
    grind
theorem pnegG_pnegG (p : PtG N0 d) : pnegG (pnegG p) = p := PtG.ext' (by show - -p.x = p.x; grind) rfl
theorem zmul3 (a b c : Fin N0) : a * 0 + b * 0 + c * 0 = 0 := by grind
theorem Ed.assoc (E : Ed d i inv) (p q r : PtG N0 d) : paddG E (paddG E p q) r = paddG E p (paddG E q r) := by
  have a1 := E.padd_sum p q
  have a2 := E.padd_sum q r
  have a3 := E.padd_sum (paddG E p q) r
  have a4 := E.padd_sum p (paddG E q r)
  have n1 := E.den_p p.on q.on
  have n1' := E.den_m p.on q.on
  have n2 := E.den_p q.on r.on
  have n2' := E.den_m q.on r.on
  have n3 := E.den_p (paddG E p q).on r.on
  have n3' := E.den_m (paddG E p q).on r.on
  have n4 := E.den_p p.on (paddG E q r).on
  have n4' := E.den_m p.on (paddG E q r).on
  have i1 := assoc_x d p.x q.x r.x p.y q.y r.y
  have i2 := assoc_y d p.x q.x r.x p.y q.y r.y
  have c1 := p.on
  have c2 := q.on
  have c3 := r.on
  unfold CvG at c1 c2 c3
  rw [c1, c2, c3, zmul3] at i1 i2
  obtain ⟨a1x, a1y⟩ := a1
  obtain ⟨a2x, a2y⟩ := a2
  obtain ⟨a3x, a3y⟩ := a3
  obtain ⟨a4x, a4y⟩ := a4
  refine PtG.ext' ?_ ?_
  · exact E.cancel (E.ne (E.ne (E.ne n1 n1') n3) (E.ne (E.ne n2 n2') n4)) (asx i1 a1x a1y a2x a2y a3x a4x)
  · exact E.cancel (E.ne (E.ne (E.ne n1 n1') n3') (E.ne (E.ne n2 n2') n4')) (asy i2 a1x a1y a2x a2y a3y a4y)
/-! ### As often as a number says -/
def pmulG (E : Ed d i inv) : Nat → PtG N0 d → PtG N0 d
  | 0, _ => pzeroG d
  | n + 1, p => paddG E (pmulG E n p) p
theorem Ed.mul_add (E : Ed d i inv) (m n : Nat) (p : PtG N0 d) : pmulG E (m + n) p = paddG E (pmulG E m p) (pmulG E n p) := by
  induction n with
  | zero => exact (E.add_zero _).symm
  | succ n ih => show paddG E (pmulG E (m + n) p) p = paddG E (pmulG E m p) (paddG E (pmulG E n p) p); rw [ih, E.assoc]
theorem Ed.mul_zero (E : Ed d i inv) (n : Nat) : pmulG E n (pzeroG d) = pzeroG d := by
  induction n with
  | zero => rfl
  | succ n ih => show paddG E (pmulG E n (pzeroG d)) (pzeroG d) = _; rw [ih, E.add_zero]
theorem Ed.one_mul (E : Ed d i inv) (p : PtG N0 d) : pmulG E 1 p = p := E.zero_add p
theorem Ed.add4 (E : Ed d i inv) (a b c e : PtG N0 d) : paddG E (paddG E a b) (paddG E c e) = paddG E (paddG E a c) (paddG E b e) := by
  rw [E.assoc, ← E.assoc b c e, E.comm b c, E.assoc c b e, ← E.assoc a c]
theorem Ed.mul_padd (E : Ed d i inv) (n : Nat) (p q : PtG N0 d) : pmulG E n (paddG E p q) = paddG E (pmulG E n p) (pmulG E n q) := by
  induction n with
  | zero => exact (E.add_zero _).symm
  | succ n ih => show paddG E (pmulG E n (paddG E p q)) (paddG E p q) = paddG E (paddG E (pmulG E n p) p) (paddG E (pmulG E n q) q); rw [ih, E.add4]
theorem Ed.mul_mul (E : Ed d i inv) (m n : Nat) (p : PtG N0 d) : pmulG E (m * n) p = pmulG E m (pmulG E n p) := by
  induction m with
  | zero => rw [Nat.zero_mul]; rfl
  | succ m ih => rw [Nat.succ_mul, E.mul_add, ih]; rfl
theorem pnegG_zero : pnegG (pzeroG d) = pzeroG d := PtG.ext' (by show -(0 : Fin N0) = 0; grind) rfl
/-- Of a point only one is the negative. -/
theorem Ed.neg_one (E : Ed d i inv) {p q : PtG N0 d} (h : paddG E p q = pzeroG d) : q = pnegG p := by
  rw [← E.zero_add q, ← E.add_neg p, E.comm p (pnegG p), E.assoc, h, E.add_zero]
theorem Ed.neg_padd (E : Ed d i inv) (p q : PtG N0 d) : pnegG (paddG E p q) = paddG E (pnegG p) (pnegG q) := by
  refine (E.neg_one ?_).symm
  rw [E.add4, E.add_neg, E.add_neg, E.add_zero]
theorem Ed.mul_neg (E : Ed d i inv) (n : Nat) (p : PtG N0 d) : pmulG E n (pnegG p) = pnegG (pmulG E n p) := by
  induction n with
  | zero => exact pnegG_zero.symm
  | succ n ih => show paddG E (pmulG E n (pnegG p)) (pnegG p) = _; rw [ih, ← E.neg_padd]; rfl
end
end Go.Proofs.YtbgpgbfiadhddaaDoor
