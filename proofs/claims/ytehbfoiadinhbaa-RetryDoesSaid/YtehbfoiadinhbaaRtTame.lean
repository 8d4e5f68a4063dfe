/- syngraphlaw17.tame: a config that may be. -/
import Derived.Test.YtehbfoiadinhbaaRtFixed
import Derived.Laws.Rows
import Derived.IntWalk
import Derived.Laws.Tables
namespace Go.Proofs.Ytehbfoiadinhbaa
open Go Go.RowKit
structure TameC (c : Cf) : Prop where
  b0 : 1 ≤ c.base
  b1 : c.base ≤ 50
  m0 : c.base ≤ c.most
  m1 : c.most ≤ c.base + 499
  s0 : 0 ≤ c.span
  s1 : c.span < 50
  t0 : 1 ≤ c.tries
  t1 : c.tries ≤ 8
  room : c.room = 5
theorem TameC.ok {c : Cf} (h : TameC c) : cfOk c := by
  obtain ⟨b0, b1, m0, m1, s0, s1, t0, t1, r⟩ := h
  unfold cfOk
  omega
theorem TameC.types {c : Cf} (h : TameC c) : CfT c := by
  obtain ⟨b0, b1, m0, m1, s0, s1, t0, t1, r⟩ := h
  constructor <;> omega
theorem and7 (x : Int) : 0 ≤ bits .and .i64 x 7 ∧ bits .and .i64 x 7 ≤ 7 := by
  have h : bits .and .i64 x 7 = IntKind.i64.wrap ((BitVec.ofInt 64 x &&& BitVec.ofInt 64 7).toNat : Int) := rfl
  have h2 : (BitVec.ofInt 64 x &&& BitVec.ofInt 64 7).toNat ≤ 7 := by
    rw [BitVec.toNat_and, show (BitVec.ofInt 64 7).toNat = 7 from by decide]
    exact Nat.and_le_right
  rw [h, IntWalk.i64_in _ (by omega)]
  omega
set_option maxRecDepth 100000 in
theorem tame_any (c : Cf) (hc : CfT c) (w : World) : Calls Try.prog 8 #[cfV c] w fun e w' => ∃ c', e = .returned (cfV c') ∧ TameC c' ∧ Touch [] w w' := by
  unfold cfV
  obtain ⟨cb, cm, cs, ct, cr⟩ := c
  obtain ⟨b0, b1, m0, m1, s0, s1, t0, t1, r0, r1⟩ := hc
  simp only at b0 b1 m0 m1 s0 s1 t0 t1 r0 r1
  have e1 := Int.tmod_eq_emod_of_nonneg (b := 50) b0
  have e2 := Int.tmod_eq_emod_of_nonneg (b := 500) m0
  have e3 := Int.tmod_eq_emod_of_nonneg (b := 50) s0
  have e4 := and7 ct
  obtain ⟨x1, hx1⟩ : ∃ x, x = cb.tmod 50 := ⟨_, rfl⟩
  obtain ⟨x2, hx2⟩ : ∃ x, x = cm.tmod 500 := ⟨_, rfl⟩
  obtain ⟨x3, hx3⟩ : ∃ x, x = cs.tmod 50 := ⟨_, rfl⟩
  obtain ⟨x4, hx4⟩ : ∃ x, x = bits .and .i64 ct 7 := ⟨_, rfl⟩
  have hb : TameC ⟨1 + x1, 1 + x1 + x2, x3, 1 + x4, 5⟩ := by
    rw [← hx4] at e4
    constructor <;> simp only <;> omega
  have w1 := IntWalk.u64_in (1 + x1) (by omega)
  have w2 := IntWalk.u64_in (1 + x1 + x2) (by omega)
  have w3 := IntWalk.wrap64_in (1 + x4) (by rw [← hx4] at e4; omega)
  have Hb := Lib.hid hb
  have W1 := Lib.hid w1
  have W2 := Lib.hid w2
  have W3 := Lib.hid w3
  have E1 := Lib.hid hx1
  have E2 := Lib.hid hx2
  have E3 := Lib.hid hx3
  have E4 := Lib.hid hx4
  clear b0 b1 m0 m1 s0 s1 t0 t1 r0 r1 e1 e2 e3 e4 hb w1 w2 w3 hx1 hx2 hx3 hx4
  go_enter Try.func8, Try.ntmps8
  go_wp2_with fail
  simp only [← E1.out, ← E2.out, ← E3.out, ← E4.out, W1.out, W2.out, W3.out]
  refine bodyPost_ret (results_cell_row Try.results8 _ _ (w.heap.size + 1) 24 #[.int .u64 (1 + x1), .int .u64 (1 + x1 + x2), .int .u64 x3, .int .i64 (1 + x4), .int .i64 5] (0, 0) _ rfl ?_ Try.underlying24 rfl rfl) rfl ⟨⟨1 + x1, 1 + x1 + x2, x3, 1 + x4, 5⟩, rfl, Hb.out, ((Touch.refl _ _).alloc _).alloc _⟩
  exact heap_alloc2_new _ _ _
theorem cfC_one (c : Cf) : (cfC c).toArray.all (·.oneCell') = true := by simp [cfC, Value.oneCell']
theorem Touch.setRow1 (w : World) (g : Nat) (cs : Array Value) : Touch [g] w (w.setRow g cs) :=
  ⟨rfl, rfl, rfl, by simp, fun k _ hk => setRow_other w g k cs (by simpa using hk)⟩
/-- Another config is laid into a variable. -/
theorem Sep.setCfg {w w0 : World} {B : Nat} {rs : List Res} {g : Nat} {cs : Array Value} (h : Sep w0 B w rs) (i : Nat) (hi : rs[i]? = some (blkRes g 24 cs)) (cs' : Array Value) :
    Sep w0 B (w.setRow g cs') (rs.set i (blkRes g 24 cs')) := by
  obtain ⟨F, ⟨rfl, hb⟩, hset⟩ := h.focus i hi
  exact hset _ _ [g] ⟨rfl, setRow_heap w g cs cs' _ _ hb⟩ (Touch.setRow1 w g cs') (fun k hk => .inl hk)
theorem Sep.blkAt {w0 w : World} {B : Nat} {rs : List Res} (h : Sep w0 B w rs) (i : Nat) {g : Nat} {t : TypeId} {cs : Array Value} (hi : rs[i]? = some (blkRes g t cs)) : Blk w g t cs := by
  obtain ⟨F, _, hb⟩ := h.look i hi
  exact hb
theorem cfg_cells {w0 w : World} {B : Nat} {rs : List Res} (h : Sep w0 B w rs) (i : Nat) {g : Nat} {c : Cf} (hi : rs[i]? = some (blkRes g 24 (cfC c).toArray)) :
    w.cell? ⟨g, 0, none⟩ = some (.int .u64 c.base) ∧ w.cell? ⟨g, 1, none⟩ = some (.int .u64 c.most) ∧ w.cell? ⟨g, 2, none⟩ = some (.int .u64 c.span) ∧ w.cell? ⟨g, 3, none⟩ = some (.int .i64 c.tries) ∧ w.cell? ⟨g, 4, none⟩ = some (.int .i64 c.room) :=
  ⟨(h.blkAt i hi).cell 0, (h.blkAt i hi).cell 1, (h.blkAt i hi).cell 2, (h.blkAt i hi).cell 3, (h.blkAt i hi).cell 4⟩
theorem cfg_range {w : World} {g : Nat} {c : Cf} (h : Blk w g 24 (cfC c).toArray) : w.rangeAt g 0 (cfC c) := by
  intro j v hj
  rw [h.cell, Nat.zero_add, List.getElem?_toArray]
  exact hj
section
variable {o : Oper} {a : Act} {w : World} {R : Value → World → Prop} {x y : Operand} {t1 t2 : TypeId} {k : IntKind}
theorem OpTo.addI (i j r : Int) (ho : o.op = .binOp .add t1 x y t2) (hx : a.eval x = .int k i) (hy : a.eval y = .int k j) (hr : k.wrap (i + j) = r) (hR : R (.int k r) w) : OpTo Try.prog o a w R :=
  OpTo.val (v := .int k r) (by unfold execOp; simp only [ho, hx, hy]; go_simp) hR
theorem OpTo.cvI (kd : IntKind) (i r : Int) (ho : o.op = .convert t1 t2 x) (h1 : (Try.prog.underlying t1).isSome = true) (h2 : Try.prog.underlying t2 = some (.int kd)) (hx : a.eval x = .int k i) (hr : kd.wrap i = r) (hR : R (.int kd r) w) : OpTo Try.prog o a w R := by
  have e : Try.prog.intKind t2 = kd := by unfold Program.intKind; rw [h2]
  refine OpTo.val (v := .int kd r) ?_ hR
  have := run_convert_int (P := Try.prog) w t1 t2 k i h1 (by rw [e]; exact h2)
  rw [e, hr] at this
  unfold execOp
  simp only [ho, hx]
  go_simp
end
theorem left_t {w w0 : World} {B : Nat} {rs : List Res} {i pt pm ph : Nat} {c : Cf} {S : List Al} {T : Int → Int} (hsep : Sep w0 B w rs) (htab : TabAt rs i pt pm ph c S T) :
    Calls Try.prog 13 #[.pointer (some ⟨pt, 0, none⟩)] w fun e w' => e = .returned (.int .i64 S.length) ∧ w' = w := by
  have h5 : w.cell? ⟨pt, 5, none⟩ = some (.map (some pm)) := ((tab_blk hsep htab.t).cell 5).trans rfl
  have Hh := Lib.hid htab
  have Hs := Lib.hid hsep
  clear htab hsep
  go_enter Try.func13, Try.ntmps13
  go_wp2_with (at_len; refine wpList_len_map rfl (.tmp 6) rfl Hs.out (i + 1) Hh.out.m rfl ?_)
  have hl : (idsA S).length = S.length := by rw [idsA, List.length_map]
  rw [hl]
  clear hl
  go_wp2_with fail
  go_ret
  exact ⟨rfl, rfl⟩
end Go.Proofs.Ytehbfoiadinhbaa
