/- The document's product, and one more, by digits. -/
import Derived.Test.YtcnmpflbmnnkbaaDoorRefSd
import Derived.BigRegion
import Derived.Deep.RegionHeld3
namespace Go.Proofs.YtcnmpflbmnnkbaaDoor
open Go.RowKit
theorem leN_set {l : List Nat} {k : Nat} (hk : k < l.length) (x : Nat) : leN (l.set k x) + 256 ^ k * l.getD k 0 = leN l + 256 ^ k * x := by
  induction l generalizing k with
  | nil => simp at hk
  | cons y l ih =>
    cases k with
    | zero => simp [leN, List.getD]; omega
    | succ k =>
      have h := ih (k := k) (by simpa using hk)
      have e : (y :: l).getD (k + 1) 0 = l.getD k 0 := by simp [List.getD]
      rw [List.set_cons_succ, leN, leN, e, Nat.pow_succ]
      grind
theorem getN_set_self {l : List Nat} {k : Nat} (hk : k < l.length) (x : Nat) : (l.set k x).getD k 0 = x := by simp [List.getD, hk]
theorem getN_set_ne {l : List Nat} {k j : Nat} (h : j ≠ k) (x : Nat) : (l.set k x).getD j 0 = l.getD j 0 := by
  simp [List.getD, List.getElem?_set_ne (Ne.symm h)]
/-- A product more in its place. -/
theorem mac_num {tl Y : List Nat} {i j x V : Nat} (hl : tl.length = 65) (hY : Y.length = 32) (hi : i < 32) (hj : j < 32)
    (hv : leN tl = V + 256 ^ i * x * leN (Y.take j)) :
    leN (tl.set (i + j) (tl.getD (i + j) 0 + x * Y.getD j 0)) = V + 256 ^ i * x * leN (Y.take (j + 1)) := by
  have h1 := leN_set (l := tl) (k := i + j) (by omega) (tl.getD (i + j) 0 + x * Y.getD j 0)
  rw [leN_take_succ (by omega)]
  rw [Nat.pow_add] at h1
  generalize 256 ^ i = P at *
  generalize 256 ^ j = Q at *
  generalize tl.getD (i + j) 0 = t at *
  generalize Y.getD j 0 = y at *
  grind
theorem mac_bound {tl : List Nat} {k x y M : Nat} (hk : k < tl.length) (hb : ∀ j, tl.getD j 0 ≤ M) (hx : x * y ≤ 65025) : ∀ j, (tl.set k (tl.getD k 0 + x * y)).getD j 0 ≤ M + 65025 := by
  intro j
  have h1 := hb j
  have h2 := hb k
  by_cases hjk : j = k
  · subst hjk; rw [getN_set_self hk]; omega
  · rw [getN_set_ne hjk]; omega
/-- What is carried over. -/
structure Car (tl : List Nat) (k V : Nat) : Prop where
  len : tl.length = 65
  val : leN tl = V
  dig : ∀ j, j < k → tl.getD j 0 < 256
  here : tl.getD k 0 ≤ 133171710
  far : ∀ j, k < j → tl.getD j 0 ≤ 66585855
theorem Car.step {tl : List Nat} {k V x y : Nat} (h : Car tl k V) (hk : k < 64) (hx : x = tl.getD k 0) (hy : y = tl.getD (k + 1) 0) : Car ((tl.set (k + 1) (y + x / 256)).set k (x % 256)) (k + 1) V := by
  have hl := h.len
  have h1 := h.here
  have h2 := h.far (k + 1) (by omega)
  rw [← hx] at h1
  rw [← hy] at h2
  refine ⟨by simp [hl], ?_, ?_, ?_, ?_⟩
  · have e1 := leN_set (l := tl) (k := k + 1) (by omega) (y + x / 256)
    have e2 := leN_set (l := tl.set (k + 1) (y + x / 256)) (k := k) (by simp; omega) (x % 256)
    rw [getN_set_ne (by omega), ← hx] at e2
    rw [← hy, Nat.pow_succ] at e1
    rw [← h.val]
    have e4 : x = x % 256 + 256 * (x / 256) := by omega
    generalize x / 256 = q at *
    generalize x % 256 = m at *
    generalize 256 ^ k = P at *
    subst e4
    grind
  · intro j hj
    by_cases hjk : j = k
    · subst hjk; rw [getN_set_self (by simp; omega)]; omega
    · rw [getN_set_ne hjk, getN_set_ne (by omega)]; exact h.dig j (by omega)
  · rw [getN_set_ne (by omega), getN_set_self (by omega)]; omega
  · intro j hj
    rw [getN_set_ne (by omega), getN_set_ne (by omega)]; exact h.far j (by omega)
theorem Car.last {tl : List Nat} {V : Nat} (h : Car tl 64 V) (hV : V < 256 ^ 64) : ∀ b ∈ tl, b < 256 := by
  have hl := h.len
  have h0 : tl.getD 64 0 = 0 := by
    have h1 := leN_take_succ (l := tl) (k := 64) (by omega)
    rw [List.take_of_length_le (by omega), h.val] at h1
    apply Classical.byContradiction
    intro hne
    have h2 : 256 ^ 64 * 1 ≤ 256 ^ 64 * tl.getD 64 0 := Nat.mul_le_mul_left _ (by omega)
    omega
  intro b hb
  obtain ⟨j, hj, rfl⟩ := List.getElem_of_mem hb
  have hg : tl[j] = tl.getD j 0 := by simp [List.getD, hj]
  rw [hg]
  by_cases hj64 : j = 64
  · subst hj64; rw [h0]; omega
  · exact h.dig j (by omega)
theorem low_lt (s : ByteArray) : lowS s < 256 ^ 32 := by
  unfold lowS
  have h := leN_lt (l := (bl s).take 32) (fun b hb => bl_lt s b (List.mem_of_mem_take hb))
  refine Nat.lt_of_lt_of_le h (Nat.pow_le_pow_right (by omega) (by rw [List.length_take]; omega))
theorem prod_lt (a b c : ByteArray) : lowS a * lowS b + lowS c < 256 ^ 64 := by
  have h1 := low_lt a
  have h2 := low_lt b
  have h3 := low_lt c
  have h4 : lowS a * lowS b ≤ (256 ^ 32 - 1) * (256 ^ 32 - 1) := Nat.mul_le_mul (by omega) (by omega)
  have e : (256 : Nat) ^ 64 = 256 ^ 32 * 256 ^ 32 := by rw [← Nat.pow_add]
  have e2 : (256 : Nat) ^ 32 = 115792089237316195423570985008687907853269984665640564039457584007913129639936 := by decide
  rw [e2] at h3 h4 e
  rw [e]
  omega
theorem digits_32 (s : ByteArray) (w : World) : Calls Tryd.prog 24 #[.string s, .int .i64 32] w (DigitsPost (padN (bl s) 32) w) := digits_any s 32 (by omega) w
theorem digits_64 (s : ByteArray) (w : World) : Calls Tryd.prog 24 #[.string s, .int .i64 64] w (DigitsPost (padN (bl s) 64) w) := digits_any s 64 (by omega) w
theorem digits_65 (s : ByteArray) (w : World) : Calls Tryd.prog 24 #[.string s, .int .i64 65] w (DigitsPost (padN (bl s) 65) w) := digits_any s 65 (by omega) w
theorem mul_small {x y : Nat} (hx : x < 256) (hy : y < 256) : x * y ≤ 65025 ∧ (0 : Int) ≤ (x : Int) * (y : Int) ∧ (x : Int) * (y : Int) ≤ 65025 := by
  have h : x * y ≤ 65025 := Nat.mul_le_mul (show x ≤ 255 by omega) (show y ≤ 255 by omega)
  rw [← Int.natCast_mul]
  omega
theorem bnd_next {A C D i t : Nat} (hD : D * 32 = C) (h : t ≤ A + C * i + D * 32) : t ≤ A + C * (i + 1) := by
  subst hD
  rw [Nat.mul_add (D * 32) i 1, Nat.mul_one]
  omega
theorem bnd_step {A C D i j t : Nat} (h : t ≤ A + C * i + D * j + D) : t ≤ A + C * i + D * (j + 1) := by
  rw [Nat.mul_succ]
  omega
def MRel (a b c : ByteArray) (w : World) (vx vy vt : Value) (wx : World) : Prop :=
  ∃ w1 w2, NewI w w1 vx (padN (bl a) 32) ∧ NewI w1 w2 vy (padN (bl b) 32) ∧ NewI w2 wx vt (padN (bl (cutT c 32)) 65)
set_option maxRecDepth 100000 in
set_option maxHeartbeats 4000000 in
theorem refMulAdd_any (a b c : ByteArray) (w : World) :
    Calls Tryd.prog 14 #[.string a, .string b, .string c] w fun e w' => e = .returned (.string (toS ((lowS a * lowS b + lowS c) % ell))) ∧ Touch [] w w' := by
  have hcl := Lib.hid (fun (h : c.size ≤ 32) => cutT_le h)
  have hcg := Lib.hid (fun (h : 32 < c.size) => cutT_gt h)
  go_enter Tryd.func14, Tryd.ntmps14
  go_wp2_with fail
  go_upto_region 1 with fail
  go_cut [7, 8, 9] (fun vx vy vt wx => MRel a b c w vx vy vt wx)
  case first =>
    by_cases h32 : c.size ≤ 32
    · have he := Lib.hid (hcl.out h32)
      have h32' : (c.size : Int) ≤ 32 := by omega
      have hsl : ∀ W : World, (Instr.slice 9 (.string c) none (some (.int .i64 (c.size : Int))) none).run Tryd.prog W = .ok (.string c) W := fun W => by
        rw [run_slice_string_to_if _ 9 c .i64 _ Tryd.underlying9]
        simp
      have hmn : ∀ (W : World) ts ty, (Builtin.min_ ts ty #[.int .i64 (c.size : Int), .int .i64 32]).run Tryd.prog W = .ok (.int .i64 (c.size : Int)) W := fun W ts ty => by
        rw [run_min_int2, if_neg (by omega)]
      clear hcl hcg
      go_region_held3 (fun _ => True) (first | trivial) (first | (go_at_call 24; (with_reducible_and_instances refine (digits_32 a _).mono ?_); rintro e w1 ⟨v1, rfl, hn1⟩) | (go_at_call 24; (with_reducible_and_instances refine (digits_32 b _).mono ?_); rintro e w2 ⟨v2, rfl, hn2⟩) | (go_at_call 24; (with_reducible_and_instances refine (digits_65 c _).mono ?_); rintro e w3 ⟨v3, rfl, hn3⟩))
      all_goals
        go_wp2_with fail
        go_meet
        exact ⟨w1, w2, hn1.before (Touch.refl [] w).drew, hn2, by rw [he.out]; exact hn3⟩
    · have he := Lib.hid (hcg.out (by omega))
      have hsl : ∀ W : World, (Instr.slice 9 (.string c) none (some (.int .i64 32)) none).run Tryd.prog W = .ok (.string (cutT c 32)) W := fun W => by
        rw [run_slice_string_to_if _ 9 c .i64 _ Tryd.underlying9, if_pos (by omega), ← he.out]
        rfl
      have hmn : ∀ (W : World) ts ty, (Builtin.min_ ts ty #[.int .i64 (c.size : Int), .int .i64 32]).run Tryd.prog W = .ok (.int .i64 32) W := fun W ts ty => by
        rw [run_min_int2, if_pos (by omega)]
      clear hcl hcg h32
      go_region_held3 (fun _ => True) (first | trivial) (first | (go_at_call 24; (with_reducible_and_instances refine (digits_32 a _).mono ?_); rintro e w1 ⟨v1, rfl, hn1⟩) | (go_at_call 24; (with_reducible_and_instances refine (digits_32 b _).mono ?_); rintro e w2 ⟨v2, rfl, hn2⟩) | (go_at_call 24; (with_reducible_and_instances refine (digits_65 (cutT c 32) _).mono ?_); rintro e w3 ⟨v3, rfl, hn3⟩))
      all_goals
        go_wp2_with fail
        go_meet
        exact ⟨w1, w2, hn1.before (Touch.refl [] w).drew, hn2, hn3⟩
  case rest =>
    obtain ⟨w1, w2, hx, hy, ht⟩ := hcut
    clear hcl hcg
    have lx : (padN (bl a) 32).length = 32 := padN_len _ _
    have ly : (padN (bl b) 32).length = 32 := padN_len _ _
    have lt : (padN (bl (cutT c 32)) 65).length = 65 := padN_len _ _
    have bx := Lib.hid (padN_lt (bl_lt a) 32)
    have by' := Lib.hid (padN_lt (bl_lt b) 32)
    have bt := Lib.hid (padN_lt (bl_lt (cutT c 32)) 65)
    have nx := Lib.hid (show leN (padN (bl a) 32) = lowS a from leN_padN _ _)
    have ny := Lib.hid (show leN (padN (bl b) 32) = lowS b from leN_padN _ _)
    have nt := Lib.hid (show leN (padN (bl (cutT c 32)) 65) = lowS c by rw [leN_padN, bl_cutT, List.take_take]; rfl)
    have hV := Lib.hid (prod_lt a b c)
    obtain ⟨X, hX⟩ : ∃ X, X = padN (bl a) 32 := ⟨_, rfl⟩
    obtain ⟨Y, hY⟩ : ∃ Y, Y = padN (bl b) 32 := ⟨_, rfl⟩
    obtain ⟨T, hT⟩ : ∃ T, T = padN (bl (cutT c 32)) 65 := ⟨_, rfl⟩
    rw [← hX] at hx lx bx nx
    rw [← hY] at hy ly by' ny
    rw [← hT] at ht lt bt nt
    clear hX hY hT
    obtain ⟨gx, ox, cx, rfl, _, hcx1, hcx2, _, _⟩ := hx.cells (by omega)
    obtain ⟨gy, oy, cy, rfl, _, hcy1, hcy2, _, _⟩ := hy.cells (by omega)
    obtain ⟨gt, ot, ct, rfl, hgt, hct1, hct2, _, _⟩ := ht.cells (by omega)
    unfold maxLen at hcx2 hcy2 hct2
    rw [lx] at hx hcx1
    rw [ly] at hy hcy1
    rw [lt] at ht hct1
    rw [lx, ly, lt]
    have Hx := Lib.hid hx
    have Hy := Lib.hid hy
    have Ht := Lib.hid ht
    have Lx := Lib.hid lx
    have Ly := Lib.hid ly
    have Lt := Lib.hid lt
    clear hx hy ht lx ly lt
    go_wp2_with fail
    go_loopw [10] (fun vi wx => ∃ (i : Nat) (tl : List Nat), i ≤ 32 ∧ vi = .int .i64 i ∧ tl.length = 65 ∧ NewI w2 wx (.slice (some ⟨gt, ot, none⟩) 65 ct) tl ∧ (∀ j, tl.getD j 0 ≤ 255 + 2080800 * i) ∧ leN tl = lowS c + leN (X.take i) * lowS b) (fun vi _ => 32 - (intOf vi).toNat)
    case atStart => exact ⟨0, T, by omega, rfl, Lt.out, Ht.out, fun j => by have := getD_lt bt.out j; omega, by rw [nt.out]; simp [leN]⟩
    case round =>
      clear Ht Lt bt nt
      obtain ⟨i, tl, hi, rfl, htl, ht, hb, hv⟩ := hrel
      have Htl := Lib.hid htl
      have Ht := Lib.hid ht
      have Hb := Lib.hid hb
      have Hv := Lib.hid hv
      clear htl ht hb hv
      by_cases hi32 : i < 32
      · have hxl := getD_lt bx.out i
        have hsx := Lib.hid (leN_take_succ (l := X) (k := i) (by rw [Lx.out]; exact hi32))
        obtain ⟨rx, hox⟩ := Hx.out.own
        have HX := Lib.hid (fun (W : World) (h : Touch [] w1 W) => ((by rw [Lx.out] at hox; exact hox : Own w1 3 1 (.slice (some ⟨gx, ox, none⟩) 32 cx) 32 (cellsI X) rx).touch h (by simp)).cellAt (by omega) i _ (cellsI_at (by rw [Lx.out]; exact hi32)))
        obtain ⟨x, hx⟩ : ∃ x, x = X.getD i 0 := ⟨_, rfl⟩
        obtain ⟨V, hV0⟩ : ∃ V, V = lowS c + leN (X.take i) * lowS b := ⟨_, rfl⟩
        have HV0 := Lib.hid hV0
        rw [← hx] at HX hxl hsx
        rw [← hV0] at Hv
        clear hx hox hV0
        have hdi : decide ((i : Int) < 32) = true := decide_eq_true (by omega)
        go_wp2_with fail
        go_loopw [11] (fun vj wx => ∃ (j : Nat) (tl : List Nat), j ≤ 32 ∧ vj = .int .i64 j ∧ tl.length = 65 ∧ NewI w2 wx (.slice (some ⟨gt, ot, none⟩) 65 ct) tl ∧ (∀ q, tl.getD q 0 ≤ 255 + 2080800 * i + 65025 * j) ∧ leN tl = V + 256 ^ i * x * leN (Y.take j)) (fun vj _ => 32 - (intOf vj).toNat)
        case atStart => exact ⟨0, tl, by omega, rfl, Htl.out, Ht.out, fun q => by have := Hb.out q; omega, by rw [Hv.out]; simp [leN]⟩
        case round =>
          clear Htl Ht Hb Hv
          obtain ⟨j, tl, hj, rfl, htl, ht, hb, hv⟩ := hrel
          have Htl := Lib.hid htl
          have Ht := Lib.hid ht
          have Hb := Lib.hid hb
          have Hv := Lib.hid hv
          clear htl ht hb hv
          by_cases hj32 : j < 32
          · have hyl := getD_lt by'.out j
            have hcellx := HX.out wr (Hy.out.touch.trans Ht.out.touch)
            obtain ⟨ry, hoy⟩ := Hy.out.own
            rw [Ly.out] at hoy
            have hcelly := (hoy.touch Ht.out.touch (by simp)).cellAt (by omega) j _ (cellsI_at (by rw [Ly.out]; exact hj32))
            have hcellt := Ht.out.cells (by rw [Htl.out]; omega)
            obtain ⟨_, _, _, hvt, _, _, _, hft, hct⟩ := hcellt
            injection hvt with ha hvl hcc
            clear hvl
            injection ha with ha
            injection ha with h1 h2
            subst h1; subst h2; subst hcc
            have hcellt := hct (i + j) (by rw [Htl.out]; omega)
            have hfr := hft (ot + (i + j))
            clear hct hft hoy
            have htb := Hb.out (i + j)
            have hmac := Lib.hid (mac_num (Htl.out) (Ly.out) hi32 hj32 Hv.out)
            have hmb := Lib.hid (fun h => mac_bound (tl := tl) (k := i + j) (x := x) (y := Y.getD j 0) (M := 255 + 2080800 * i + 65025 * j) (by rw [Htl.out]; omega) Hb.out h)
            obtain ⟨y, hy⟩ : ∃ y, y = Y.getD j 0 := ⟨_, rfl⟩
            obtain ⟨t, ht⟩ : ∃ t, t = tl.getD (i + j) 0 := ⟨_, rfl⟩
            rw [← hy] at hyl hcelly hmac hmb
            rw [← ht] at hcellt htb hmac hmb
            clear hy ht
            obtain ⟨hxy, hxy0, hxy1⟩ := mul_small hxl hyl
            have htb1 : (t : Int) ≤ 100000000 := by omega
            have Hmb := Lib.hid (hmb.out hxy)
            clear hmb htb hxy
            go_wp2_with fail
            go_region
            go_wp2_with fail
            go_roundw
            case rel =>
              have hcast : (t : Int) + (x : Int) * (y : Int) = ((t + x * y : Nat) : Int) := by rw [Int.natCast_add, Int.natCast_mul]
              rw [hcast]
              have hset := Ht.out
              rw [← Htl.out] at hset
              have hset2 := hset.set (i + j) (t + x * y) (by rw [Htl.out]; omega)
              rw [show (tl.set (i + j) (t + x * y)).length = 65 by rw [List.length_set]; exact Htl.out] at hset2
              first | exact ⟨j + 1, tl.set (i + j) (t + x * y), by omega, by go_num, by rw [List.length_set]; exact Htl.out, hset2.more (Touch.refl _ _).drew, fun q => bnd_step (Hmb.out q), hmac.out⟩ | ((repeat apply Exists.intro); exact ⟨⟨j + 1, tl.set (i + j) (t + x * y), by omega, by go_num, by rw [List.length_set]; exact Htl.out, hset2.more (Touch.refl _ _).drew, fun q => bnd_step (Hmb.out q), hmac.out⟩, rfl⟩)
            case measure => simp [intOf]; omega
          · obtain rfl : j = 32 := by omega
            have hfin := Lib.hid (show leN tl = lowS c + leN (X.take (i + 1)) * lowS b by
              rw [Hv.out, List.take_of_length_le (by rw [Ly.out]; omega), ny.out, HV0.out, hsx.out, Nat.add_mul, Nat.add_assoc])
            go_wp2_with fail
            go_roundw
            case rel => exact ⟨i + 1, tl, by omega, by go_num, Htl.out, Ht.out, fun q => bnd_next (by decide) (Hb.out q), hfin.out⟩
            case measure => simp [intOf]; omega
      · obtain rfl : i = 32 := by omega
        have hstart := Lib.hid (show Car tl 0 (lowS c + lowS a * lowS b) from ⟨Htl.out, by rw [Hv.out, List.take_of_length_le (by rw [Lx.out]; omega), nx.out], fun _ h => by omega, by have := Hb.out 0; omega, fun q _ => by have := Hb.out q; omega⟩)
        clear Hb Hv
        rename World => w5
        go_wp2_with fail
        go_loopw [12] (fun vk wx => ∃ (k : Nat) (tl : List Nat), k ≤ 64 ∧ vk = .int .i64 k ∧ Car tl k (lowS c + lowS a * lowS b) ∧ NewI w2 wx (.slice (some ⟨gt, ot, none⟩) 65 ct) tl) (fun vk _ => 64 - (intOf vk).toNat)
        case atStart => exact ⟨0, tl, by omega, rfl, hstart.out, Ht.out⟩
        case round =>
          clear Htl Ht hstart
          obtain ⟨k, tl, hk, rfl, hC, ht⟩ := hrel
          have HC := Lib.hid hC
          have Ht := Lib.hid ht
          have htl := hC.len
          clear hC ht
          obtain ⟨_, _, _, hvt, _, _, _, hft, hct⟩ := Ht.out.cells (by omega)
          injection hvt with ha hvl hcc
          clear hvl
          injection ha with ha
          injection ha with h1 h2
          subst h1; subst h2; subst hcc
          by_cases hk64 : k < 64
          · have hcell0 := hct k (by omega)
            have hcell1 := hct (k + 1) (by omega)
            have hf0 := hft (ot + k)
            have hf1 := hft (ot + (k + 1))
            have hb0 := HC.out.here
            have hb1 := HC.out.far (k + 1) (by omega)
            have hst := Lib.hid (fun x y => HC.out.step hk64 (x := x) (y := y))
            obtain ⟨x, hx⟩ : ∃ x, x = tl.getD k 0 := ⟨_, rfl⟩
            obtain ⟨y, hy⟩ : ∃ y, y = tl.getD (k + 1) 0 := ⟨_, rfl⟩
            have Hst := Lib.hid (hst.out x y hx hy)
            rw [← hx] at hcell0 hb0
            rw [← hy] at hcell1 hb1
            have Htl := Lib.hid htl
            clear hx hy hst hct hft htl
            go_wp2_with fail
            go_region
            go_wp2_with fail
            go_roundw
            case rel =>
              have hc1 : (y : Int) + (x : Int) / 256 = ((y + x / 256 : Nat) : Int) := by omega
              have hc2 : (x : Int) % 256 = ((x % 256 : Nat) : Int) := by omega
              have hset := Ht.out
              rw [← Htl.out] at hset
              have hset2 := hset.set (k + 1) (y + x / 256) (by rw [Htl.out]; omega)
              have hset3 := hset2.set k (x % 256) (by rw [List.length_set, Htl.out]; omega)
              rw [show ((tl.set (k + 1) (y + x / 256)).set k (x % 256)).length = 65 by rw [List.length_set, List.length_set]; exact Htl.out] at hset3
              have hset4 := hset3.more (Touch.refl _ _).drew
              rw [hc1, hc2]
              first | exact ⟨k + 1, _, by omega, by go_num, Hst.out, hset4⟩ | ((repeat apply Exists.intro); exact ⟨⟨k + 1, _, by omega, by go_num, Hst.out, hset4⟩, rfl⟩)
            case measure => simp [intOf]; omega
          · obtain rfl : k = 64 := by omega
            have hd := Lib.hid (HC.out.last (by rw [Nat.add_comm]; exact hV.out))
            obtain ⟨rt, hot⟩ := Ht.out.own
            have Hot := Lib.hid hot
            have Htl := Lib.hid htl
            clear hct hft hot htl
            go_wp2_with fail
            have hot := Hot.out
            refine (mod_any _ tl rt _ (by rw [Htl.out] at hot ⊢; exact hot) (by rw [Htl.out]; omega) (by rw [Htl.out]; omega) hd.out).mono ?_
            rintro e wz ⟨rfl, hz⟩
            clear hot
            have Hz := Lib.hid hz
            clear hz
            go_wp2_with fail
            go_ret
            exact ⟨ret_eq (by rw [HC.out.val, Nat.add_comm]; rfl), ((Hx.out.touch.trans Hy.out.touch).trans Ht.out.touch).trans Hz.out⟩
end Go.Proofs.YtcnmpflbmnnkbaaDoor
