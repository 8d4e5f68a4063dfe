/- The mean: of the program and of the document. -/
import Derived.Test.YtbpgbjhjnemaoaaGgRKind
namespace Go.Proofs.Ytbpgbjhjnemaoaa
open Go Go.RowKit
def fb (op : BinOp) (x y : Nat) : Option Nat := floatBits op .f64 x y
theorem word_fin (s : Bool) (r : Nat) (h : r ≤ 9218868437227405312) : isN (D64.word s r) = false := by
  unfold Ieee.Format.word
  have hs : D64.signWeight = 9223372036854775808 := by decide
  rw [hs]
  cases s
  · simp only [Bool.false_eq_true, if_false]; unfold isN mg; exact decide_eq_false (by omega)
  · simp only [if_true]; unfold isN mg; exact decide_eq_false (by omega)
theorem write_num (s : Bool) (m : Nat) (p : Int) : isN (D64.write (.number s m p)) = false := by
  show isN (D64.nearest s m p) = false
  unfold Ieee.Format.nearest
  split
  · exact word_fin _ _ (by decide)
  · exact word_fin _ _ (Nat.min_le_right _ _)
theorem write_inf (s : Bool) : isN (D64.write (.infinity s)) = false := word_fin _ _ (by decide)
def Fin' (d : Ieee.Datum) : Prop := (∃ s m p, d = .number s m p) ∨ ∃ s, d = .infinity s
theorem write_fin {d : Ieee.Datum} (h : Fin' d) : isN (D64.write d) = false := by
  rcases h with ⟨s, m, p, rfl⟩ | ⟨s, rfl⟩
  · exact write_num s m p
  · exact write_inf s
theorem sum_fin {a b d : Ieee.Datum} (h : a.sum b = some d) : Fin' d := by
  cases a <;> cases b <;> simp only [Ieee.Datum.sum] at h <;> first | (cases h; done) | (cases h; exact .inr ⟨_, rfl⟩) | (cases h; exact .inl ⟨_, _, _, rfl⟩) | (split at h <;> cases h; exact .inr ⟨_, rfl⟩)
theorem product_fin {a b d : Ieee.Datum} (h : a.product b = some d) : Fin' d := by
  cases a <;> cases b <;> simp only [Ieee.Datum.product] at h <;> first | (cases h; done) | (cases h; exact .inr ⟨_, rfl⟩) | (cases h; exact .inl ⟨_, _, _, rfl⟩) | (split at h <;> cases h; exact .inr ⟨_, rfl⟩)
def Ar (op : BinOp) : Prop := op = .add ∨ op = .sub ∨ op = .mul
theorem fb_fin {op : BinOp} (ho : Ar op) {x y r : Nat} (h : fb op x y = some r) : isN r = false ∧ r < 18446744073709551616 := by
  refine ⟨?_, ?_⟩
  · rcases ho with rfl | rfl | rfl
    · have h' : ((D64.read x).sum (D64.read y)).map D64.write = some r := h
      obtain ⟨d, hd, rfl⟩ := Option.map_eq_some_iff.1 h'
      exact write_fin (sum_fin hd)
    · have h' : ((D64.read x).sum (D64.read y).opposite).map D64.write = some r := h
      obtain ⟨d, hd, rfl⟩ := Option.map_eq_some_iff.1 h'
      exact write_fin (sum_fin hd)
    · have h' : ((D64.read x).product (D64.read y)).map D64.write = some r := h
      obtain ⟨d, hd, rfl⟩ := Option.map_eq_some_iff.1 h'
      exact write_fin (product_fin hd)
  · have := floatBits_wf (k := .f64) h
    simpa [Lit.wf] using this
theorem fb_nan1 {op : BinOp} (ho : Ar op) {x : Nat} (h : isN x = true) (y : Nat) : fb op x y = none := by
  obtain ⟨s, f, e⟩ := read_nan x h
  rcases ho with rfl | rfl | rfl
  · show ((D64.read x).sum (D64.read y)).map D64.write = none
    rw [e]; rfl
  · show ((D64.read x).sum (D64.read y).opposite).map D64.write = none
    rw [e]; rfl
  · show ((D64.read x).product (D64.read y)).map D64.write = none
    rw [e]; rfl
theorem fb_nan2 {op : BinOp} (ho : Ar op) {y : Nat} (h : isN y = true) (x : Nat) : fb op x y = none := by
  obtain ⟨s, f, e⟩ := read_nan y h
  rcases ho with rfl | rfl | rfl
  · show ((D64.read x).sum (D64.read y)).map D64.write = none
    rw [e]; cases D64.read x <;> rfl
  · show ((D64.read x).sum (D64.read y).opposite).map D64.write = none
    rw [e]; cases D64.read x <;> rfl
  · show ((D64.read x).product (D64.read y)).map D64.write = none
    rw [e]; cases D64.read x <;> rfl
/-- What an operation hands back: the number, or some of no number. -/
def ArOk (op : BinOp) (x y r : Nat) : Prop := r < 18446744073709551616 ∧ ((isN r = false ∧ fb op x y = some r) ∨ (isN r = true ∧ fb op x y = none))
theorem nan_lit (t : Nat) : isN ((t % 2) * 2 ^ 63 + 9218868437227405312 + 1 + (t / 2) % (2 ^ 52 - 1)) = true := by
  have h1 : t / 2 % (2 ^ 52 - 1) < 2 ^ 52 - 1 := Nat.mod_lt _ (by decide)
  have h2 : t % 2 < 2 := Nat.mod_lt _ (by decide)
  generalize t / 2 % (2 ^ 52 - 1) = u at *
  generalize t % 2 = v at *
  unfold isN mg
  exact decide_eq_true (by omega)
theorem nan_lt (t : Nat) : (t % 2) * 2 ^ 63 + 9218868437227405312 + 1 + (t / 2) % (2 ^ 52 - 1) < 18446744073709551616 := by
  have h1 : t / 2 % (2 ^ 52 - 1) < 2 ^ 52 - 1 := Nat.mod_lt _ (by decide)
  have h2 : t % 2 < 2 := Nat.mod_lt _ (by decide)
  generalize t / 2 % (2 ^ 52 - 1) = u at *
  generalize t % 2 = v at *
  omega
theorem ar_run {op : BinOp} (ho : Ar op) (t : TypeId) (x y : Nat) (w : World) : ∃ r n, ArOk op x y r ∧ (binOp op t (.float .f64 x) (.float .f64 y)).run Try.prog w = .ok (.float .f64 r) (w.drewN n) := by
  cases h : fb op x y with
  | some r => exact ⟨r, 0, ⟨(fb_fin ho h).2, .inl ⟨(fb_fin ho h).1, h⟩⟩, run_float_arith w op t .f64 x y r h⟩
  | none =>
    have hr : (binOp op t (.float .f64 x) (.float .f64 y)).run Try.prog w = .ok (.float .f64 ((Question.nanBits .f64 x y).cut (w.tape w.drawn (.nanBits .f64 x y)))) w.drew := by
      rcases ho with rfl | rfl | rfl
      · have h' : FloatKind.f64.format.add x y = none := h
        simp [binOp, Op.floatArith, h', show ∀ x y : Nat, (Question.nanBits .f64 x y).forced = false from fun _ _ => rfl]
      · have h' : FloatKind.f64.format.sub x y = none := h
        simp [binOp, Op.floatArith, h', show ∀ x y : Nat, (Question.nanBits .f64 x y).forced = false from fun _ _ => rfl]
      · have h' : FloatKind.f64.format.mul x y = none := h
        simp [binOp, Op.floatArith, h', show ∀ x y : Nat, (Question.nanBits .f64 x y).forced = false from fun _ _ => rfl]
    exact ⟨_, 1, ⟨nan_lt _, .inr ⟨nan_lit _, h⟩⟩, hr⟩
/-! ### The mean -/
def mF (old x w : Nat) : Option Nat := (fb .sub x old).bind fun l => (fb .mul w l).bind fun p => fb .add old p
def meanF (old x w : Nat) : Nat := match mF old x w with
  | some m => m
  | none => if isN x then old else x
theorem mF_of {old x w r1 r2 r3 : Nat} (h1 : ArOk .sub x old r1) (h2 : ArOk .mul w r1 r2) (h3 : ArOk .add old r2 r3) : r3 < 18446744073709551616 ∧ ((isN r3 = false ∧ mF old x w = some r3) ∨ (isN r3 = true ∧ mF old x w = none)) := by
  refine ⟨h3.1, ?_⟩
  unfold mF
  rcases h1.2 with ⟨n1, e1⟩ | ⟨n1, e1⟩
  · rw [e1, Option.bind_some]
    rcases h2.2 with ⟨n2, e2⟩ | ⟨n2, e2⟩
    · rw [e2, Option.bind_some]
      exact h3.2
    · rw [e2, Option.bind_none]
      have := fb_nan2 (.inl rfl : Ar .add) n2 old
      rcases h3.2 with ⟨n3, e3⟩ | ⟨n3, e3⟩
      · rw [this] at e3; cases e3
      · exact .inr ⟨n3, rfl⟩
  · rw [e1, Option.bind_none]
    have h4 := fb_nan2 (.inr (.inr rfl) : Ar .mul) n1 w
    rcases h2.2 with ⟨n2, e2⟩ | ⟨n2, e2⟩
    · rw [h4] at e2; cases e2
    · have h5 := fb_nan2 (.inl rfl : Ar .add) n2 old
      rcases h3.2 with ⟨n3, e3⟩ | ⟨n3, e3⟩
      · rw [h5] at e3; cases e3
      · exact .inr ⟨n3, rfl⟩
theorem ix2_0 (u v : Value) (w : World) : (Instr.index 49 (.agg #[u, v]) (.int .i64 0)).run Try.prog w = .ok u w := by kernel_rfl
theorem ix2_1 (u v : Value) (w : World) : (Instr.index 49 (.agg #[u, v]) (.int .i64 1)).run Try.prog w = .ok v w := by kernel_rfl
set_option maxRecDepth 100000 in
set_option maxHeartbeats 1000000 in
theorem mean_any (old x f : Nat) (hx : x < 18446744073709551616) (w : World) : Calls Try.prog 15 #[.float .f64 old, .float .f64 x, .float .f64 f] w fun e w' => e = .returned (.float .f64 (meanF old x f)) ∧ ∃ n, w' = w.drewN n := by
  obtain ⟨r1, n1, a1, e1⟩ := ar_run (.inr (.inl rfl) : Ar .sub) 22 x old w
  obtain ⟨r2, n2, a2, e2⟩ := ar_run (.inr (.inr rfl) : Ar .mul) 22 f r1 (w.drewN n1)
  obtain ⟨r3, n3, a3, e3⟩ := ar_run (.inl rfl : Ar .add) 22 old r2 (w.drewN (n1 + n2))
  obtain ⟨h3, hm⟩ := mF_of a1 a2 a3
  have i0 := ix2_0 (.float .f64 r3) (.float .f64 x)
  have i1 := ix2_1 (.float .f64 r3) (.float .f64 x)
  rw [World.drewN_drewN] at e2 e3
  have HN := Lib.hid (fun W : World => isNaN_any r3 h3 W)
  have HX := Lib.hid (fun W : World => isNaN_any x hx W)
  obtain ⟨y, hy⟩ : ∃ y, y = meanF old x f := ⟨_, rfl⟩
  rw [← hy]
  unfold meanF at hy
  clear a1 a2 a3 h3 hx
  rcases hm with ⟨z3, m3⟩ | ⟨z3, m3⟩
  · rw [m3] at hy
    simp only at hy
    subst hy
    rw [z3] at HN
    clear m3 z3
    go_enter Try.func15, Try.ntmps15
    go_wp2_with fail
    refine wp_loop_rounds 2 ?_
    rw [rounds_succ]
    go_wp2_with fail
    refine (HN.out _).mono ?_
    rintro e w4 ⟨rfl, rfl⟩
    go_wp2_with fail
    go_ret
    exact ⟨rfl, _, rfl⟩
  · rw [m3] at hy
    simp only at hy
    rw [z3] at HN
    clear m3 z3
    by_cases hn : isN x = true
    · rw [if_pos hn] at hy
      subst hy
      rw [hn] at HX
      clear hn
      go_enter Try.func15, Try.ntmps15
      go_wp2_with fail
      refine wp_loop_rounds 3 ?_
      rw [rounds_succ]
      go_wp2_with fail
      refine (HN.out _).mono ?_
      rintro e w4 ⟨rfl, rfl⟩
      go_wp2_with fail
      rw [rounds_succ]
      go_wp2_with fail
      refine (HX.out _).mono ?_
      rintro e w4 ⟨rfl, rfl⟩
      go_wp2_with fail
      rw [rounds_succ]
      go_wp2_with fail
      go_ret
      exact ⟨rfl, _, rfl⟩
    · rw [if_neg hn] at hy
      subst hy
      rw [show isN y = false by simpa using hn] at HX
      clear hn
      go_enter Try.func15, Try.ntmps15
      go_wp2_with fail
      refine wp_loop_rounds 3 ?_
      rw [rounds_succ]
      go_wp2_with fail
      refine (HN.out _).mono ?_
      rintro e w4 ⟨rfl, rfl⟩
      go_wp2_with fail
      rw [rounds_succ]
      go_wp2_with fail
      refine (HX.out _).mono ?_
      rintro e w4 ⟨rfl, rfl⟩
      go_wp2_with fail
      go_ret
      exact ⟨rfl, _, rfl⟩
set_option maxRecDepth 100000 in
set_option maxHeartbeats 1000000 in
theorem rmean_any (old x f : Nat) (hx : x < 18446744073709551616) (w : World) : Calls Try.prog 16 #[.float .f64 old, .float .f64 x, .float .f64 f] w fun e w' => e = .returned (.float .f64 (meanF old x f)) ∧ ∃ n, w' = w.drewN n := by
  obtain ⟨r1, n1, a1, e1⟩ := ar_run (.inr (.inl rfl) : Ar .sub) 22 x old w
  obtain ⟨r2, n2, a2, e2⟩ := ar_run (.inr (.inr rfl) : Ar .mul) 22 f r1 (w.drewN n1)
  obtain ⟨r3, n3, a3, e3⟩ := ar_run (.inl rfl : Ar .add) 22 old r2 (w.drewN (n1 + n2))
  obtain ⟨h3, hm⟩ := mF_of a1 a2 a3
  rw [World.drewN_drewN] at e2 e3
  have HN := Lib.hid (fun W : World => rkind_any r3 h3 W)
  have HX := Lib.hid (fun W : World => rkind_any x hx W)
  have k3 := fk_7 r3
  have kx := fk_7 x
  obtain ⟨y, hy⟩ : ∃ y, y = meanF old x f := ⟨_, rfl⟩
  rw [← hy]
  unfold meanF at hy
  clear a1 a2 a3 h3 hx
  obtain ⟨j, hj⟩ : ∃ j, j = fk r3 := ⟨_, rfl⟩
  obtain ⟨k, hk⟩ : ∃ k, k = fk x := ⟨_, rfl⟩
  rw [← hj] at HN k3
  rw [← hk] at HX kx
  clear hj hk
  rcases hm with ⟨z3, m3⟩ | ⟨z3, m3⟩
  · rw [m3] at hy
    simp only at hy
    subst hy
    have d1 : (!j == 7) = true := by
      have : j ≠ 7 := fun h => by rw [k3.1 h] at z3; cases z3
      simpa using this
    have d2 : (j == 7) = false := by simpa using d1
    clear m3 z3 k3 kx
    go_enter Try.func16, Try.ntmps16
    go_wp2_with fail
    refine (HN.out _).mono ?_
    rintro e w4 ⟨rfl, rfl⟩
    go_wp2_with fail
    go_ret
    exact ⟨rfl, _, rfl⟩
  · rw [m3] at hy
    simp only at hy
    obtain rfl : j = 7 := k3.2 z3
    clear m3 z3 k3
    by_cases hn : isN x = true
    · rw [if_pos hn] at hy
      subst hy
      obtain rfl : k = 7 := kx.2 hn
      clear hn kx
      go_enter Try.func16, Try.ntmps16
      go_wp2_with fail
      refine (HN.out _).mono ?_
      rintro e w4 ⟨rfl, rfl⟩
      go_wp2_with fail
      refine (HX.out _).mono ?_
      rintro e w4 ⟨rfl, rfl⟩
      go_wp2_with fail
      go_ret
      exact ⟨rfl, _, rfl⟩
    · rw [if_neg hn] at hy
      subst hy
      have d2 : (k == 7) = false := by
        have : k ≠ 7 := fun h => hn (kx.1 h)
        simpa using this
      clear hn kx
      go_enter Try.func16, Try.ntmps16
      go_wp2_with fail
      refine (HN.out _).mono ?_
      rintro e w4 ⟨rfl, rfl⟩
      go_wp2_with fail
      refine (HX.out _).mono ?_
      rintro e w4 ⟨rfl, rfl⟩
      go_wp2_with fail
      go_ret
      exact ⟨rfl, _, rfl⟩
end Go.Proofs.Ytbpgbjhjnemaoaa
