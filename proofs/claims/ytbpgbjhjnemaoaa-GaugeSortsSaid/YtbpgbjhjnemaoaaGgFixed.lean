/- The gauge's fixed calls. -/
import Derived.Test.YtbpgbjhjnemaoaaGgLit
namespace Go.Proofs.Ytbpgbjhjnemaoaa
open Go Go.RowKit
abbrev gC (m l h : Nat) (n : Int) : Array Value := #[.float .f64 m, .float .f64 l, .float .f64 h, .int .u64 n]
theorem four_cells {w : World} {g : Nat} {m l h : Nat} {n : Int} (hb : Blk w g 31 (gC m l h n)) :
    w.cell? ⟨g, 0, none⟩ = some (.float .f64 m) ∧ w.cell? ⟨g, 1, none⟩ = some (.float .f64 l) ∧ w.cell? ⟨g, 2, none⟩ = some (.float .f64 h) ∧ w.cell? ⟨g, 3, none⟩ = some (.int .u64 n) :=
  ⟨hb.cell 0, hb.cell 1, hb.cell 2, hb.cell 3⟩
/-- The gauges of the fixed calls. -/
structure GFix (w w' : World) (g4 g6 : Nat) : Prop where
  a : Blk w' g4 31 (gC 4616189618054758400 4616189618054758400 4616189618054758400 1)
  b : Blk w' g6 31 (gC 4617315517961601024 4616189618054758400 4620693217682128896 2)
  t : Touch [] w w'
theorem GFix.on {w w1 w2 : World} {g4 g6 : Nat} (h : GFix w w1 g4 g6) (ht : Touch [] w1 w2) : GFix w w2 g4 g6 := ⟨h.a.touch ht (by simp), h.b.touch ht (by simp), h.t.trans ht⟩
theorem less_lits (W : World) : Calls Try.prog 13 #[.float .f64 9223372036854775808, .float .f64 0] W (fun e w' => e = .returned (.bool true) ∧ w' = W) ∧ Calls Try.prog 13 #[.float .f64 0, .float .f64 9223372036854775808] W (fun e w' => e = .returned (.bool false) ∧ w' = W) ∧ Calls Try.prog 13 #[.float .f64 9218868437227405312, .float .f64 9221120237041090561] W (fun e w' => e = .returned (.bool true) ∧ w' = W) := by
  have h1 := less_any 9223372036854775808 0 (by decide) (by decide) W
  have h2 := less_any 0 9223372036854775808 (by decide) (by decide) W
  have h3 := less_any 9218868437227405312 9221120237041090561 (by decide) (by decide) W
  rw [show flt 9223372036854775808 0 = true by decide +kernel] at h1
  rw [show flt 0 9223372036854775808 = false by decide +kernel] at h2
  rw [show flt 9218868437227405312 9221120237041090561 = true by decide +kernel] at h3
  exact ⟨h1, h2, h3⟩
theorem kind_lit (W : World) : Calls Try.prog 9 #[.float .f64 9223372036854775808] W (fun e w' => e = .returned (.int .i64 3) ∧ w' = W) := by
  have h1 := kind_any 9223372036854775808 (by decide) W
  rw [show fk 9223372036854775808 = 3 by decide +kernel] at h1
  exact h1
theorem bits_lits (W : World) : Calls Try.prog 11 #[.float .f64 9221120237041090561] W (fun e w' => e = .returned (.int .u64 9221120237041090560) ∧ w' = W) ∧ Calls Try.prog 11 #[.float .f64 4607182418800017408] W (fun e w' => e = .returned (.int .u64 4607182418800017408) ∧ w' = W) := by
  have h1 := bits_any 9221120237041090561 (by decide) W
  have h2 := bits_any 4607182418800017408 (by decide) W
  rw [show bitsF 9221120237041090561 = 9221120237041090560 by decide +kernel] at h1
  rw [show bitsF 4607182418800017408 = 4607182418800017408 by decide +kernel] at h2
  exact ⟨h1, h2⟩
theorem mean_lits (W : World) : Calls Try.prog 15 #[.float .f64 9218868437227405312, .float .f64 4607182418800017408, .float .f64 4602678819172646912] W (fun e w' => e = .returned (.float .f64 4607182418800017408) ∧ ∃ n, w' = W.drewN n) ∧
    Calls Try.prog 15 #[.float .f64 9218868437227405312, .float .f64 18442240474082181120, .float .f64 4602678819172646912] W (fun e w' => e = .returned (.float .f64 18442240474082181120) ∧ ∃ n, w' = W.drewN n) := by
  have h1 := mean_any 9218868437227405312 4607182418800017408 4602678819172646912 (by decide) W
  have h2 := mean_any 9218868437227405312 18442240474082181120 4602678819172646912 (by decide) W
  rw [show meanF 9218868437227405312 4607182418800017408 4602678819172646912 = 4607182418800017408 by decide +kernel] at h1
  rw [show meanF 9218868437227405312 18442240474082181120 4602678819172646912 = 18442240474082181120 by decide +kernel] at h2
  exact ⟨h1, h2⟩
theorem same_lits (W : World) : Calls Try.prog 22 #[gV 4616189618054758400 4616189618054758400 4616189618054758400 1, gV 4616189618054758400 4616189618054758400 4616189618054758400 1] W (fun e w' => e = .returned (.bool true) ∧ Touch [] W w') ∧
    Calls Try.prog 22 #[gV 4616189618054758400 4616189618054758400 4616189618054758400 1, gV 4617315517961601024 4616189618054758400 4620693217682128896 2] W (fun e w' => e = .returned (.bool false) ∧ Touch [] W w') := by
  have h1 := same_any 4616189618054758400 4616189618054758400 4616189618054758400 4616189618054758400 4616189618054758400 4616189618054758400 1 1 (by decide) (by decide) (by decide) (by decide) (by decide) (by decide) W
  have h2 := same_any 4616189618054758400 4616189618054758400 4616189618054758400 4617315517961601024 4616189618054758400 4620693217682128896 1 2 (by decide) (by decide) (by decide) (by decide) (by decide) (by decide) W
  rw [show alike 4616189618054758400 4616189618054758400 4616189618054758400 1 4616189618054758400 4616189618054758400 4616189618054758400 1 = true by decide +kernel] at h1
  rw [show alike 4616189618054758400 4616189618054758400 4616189618054758400 1 4617315517961601024 4616189618054758400 4620693217682128896 2 = false by decide +kernel] at h2
  exact ⟨h1, h2⟩
theorem ord_lits : (FloatKind.f64.format.order 4616189618054758400 4616189618054758400 == some .eq) = true ∧ (FloatKind.f64.format.order 4617315517961601024 4617315517961601024 == some .eq) = true ∧ (FloatKind.f64.format.order 4620693217682128896 4620693217682128896 == some .eq) = true ∧ (FloatKind.f64.format.order 4607182418800017408 4607182418800017408 == some .eq) = true ∧ (FloatKind.f64.format.order 18442240474082181120 18442240474082181120 == some .eq) = true := by decide +kernel
theorem neg_inf (W : World) : (Op.unary .neg (.float .f64 9218868437227405312)).run Try.prog W = .ok (.float .f64 18442240474082181120) W := by
  rw [neg_run, show Op.negFloat .f64 9218868437227405312 = 18442240474082181120 by decide +kernel]
theorem sev_row (w : World) : RowF (w.alloc (.cells #[.float .f64 9221120237041090561, .float .f64 4607182418800017408, .float .f64 9223372036854775808, .float .f64 9218868437227405312, .float .f64 0, .float .f64 13830554455654793216, .float .f64 18442240474082181120] 22)) (some ⟨w.heap.size, 0, none⟩) 7 sevA := fun k hk => by
  refine ⟨_, _, rfl, by simp, ?_, ?_⟩
  · rw [(Blk.new w 22 _).cell, Nat.zero_add]
    have : ∀ k, k < 7 → (#[Value.float .f64 9221120237041090561, .float .f64 4607182418800017408, .float .f64 9223372036854775808, .float .f64 9218868437227405312, .float .f64 0, .float .f64 13830554455654793216, .float .f64 18442240474082181120] : Array Value)[k]? = some (.float .f64 (sevA k)) := fun k hk => by
      match k, hk with
      | 0, _ => rfl
      | 1, _ => rfl
      | 2, _ => rfl
      | 3, _ => rfl
      | 4, _ => rfl
      | 5, _ => rfl
      | 6, _ => rfl
    exact this k hk
  · have : ∀ k, k < 7 → sevA k < 18446744073709551616 := by decide +kernel
    exact this k hk
set_option maxRecDepth 100000 in
set_option maxHeartbeats 8000000 in
theorem fixed_any (wA : World) : Calls Try.prog 17 #[] wA fun e w' => e = .returned (.bool true) ∧ Touch [] wA w' := by
  have hneg := Lib.hid (fun W : World => neg_inf W)
  have HI := Lib.hid (fun W : World => inf_any W)
  have HN := Lib.hid (fun W : World => nan_any W)
  have HC := Lib.hid (fun W : World => copysign_any W)
  have HA1 := Lib.hid (fun W : World => add_1 ▸ add_any 0 0 0 4616189618054758400 4602678819172646912 0 (by decide) (by decide) (by decide) (by decide) (by decide) (by decide) W)
  have HA2 := Lib.hid (fun W : World => add_2 ▸ add_any 4616189618054758400 4616189618054758400 4616189618054758400 4620693217682128896 4598175219545276416 1 (by decide) (by decide) (by decide) (by decide) (by decide) (by decide) W)
  have HA3 := Lib.hid (fun W : World => add_3 ▸ add_any 4616189618054758400 4616189618054758400 4616189618054758400 9221120237041090561 4602678819172646912 1 (by decide) (by decide) (by decide) (by decide) (by decide) (by decide) W)
  have HA4 := Lib.hid (fun W : World => add_4 ▸ add_any 4616189618054758400 4616189618054758400 4616189618054758400 4607182418800017408 9221120237041090561 1 (by decide) (by decide) (by decide) (by decide) (by decide) (by decide) W)
  have HA5 := Lib.hid (fun W : World => add_5 ▸ add_any 4616189618054758400 4616189618054758400 4616189618054758400 4607182418800017408 4609434218613702656 1 (by decide) (by decide) (by decide) (by decide) (by decide) (by decide) W)
  have Hng := Lib.hid (show Op.negFloat .f64 9218868437227405312 = 18442240474082181120 by decide +kernel)
  go_enter Try.func17, Try.ntmps17
  go_wp2_with fail
  refine (HI.out _).mono ?_
  rintro e w1 ⟨rfl, hw⟩
  rw [hw]
  clear hw w1
  go_wp2_with fail
  refine (HN.out _).mono ?_
  rintro e w1 ⟨rfl, hw⟩
  rw [hw]
  clear hw w1
  go_wp2_with fail
  refine (HC.out _).mono ?_
  rintro e w1 ⟨rfl, hw⟩
  rw [hw]
  clear hw w1
  go_wp2_with fail
  refine (HA1.out _).mono ?_
  rintro e wA1 ⟨rfl, ht⟩
  have HT := Lib.hid (ht.alloc (.cells (gC 4616189618054758400 4616189618054758400 4616189618054758400 1) 31))
  have HB4 := Lib.hid (Blk.new wA1 31 (gC 4616189618054758400 4616189618054758400 4616189618054758400 1))
  clear ht HA1 HI HN HC
  go_wp2_with fail
  refine (HA2.out _).mono ?_
  rintro e wA2 ⟨rfl, ht⟩
  obtain ⟨g4, hg4⟩ : ∃ g, g = wA1.heap.size := ⟨_, rfl⟩
  rw [← hg4] at HB4 ⊢
  have HG := Lib.hid (show GFix wA (wA2.alloc (.cells (gC 4617315517961601024 4616189618054758400 4620693217682128896 2) 31)) g4 wA2.heap.size from
    ⟨(HB4.out.touch ht (by simp)).alloc _, Blk.new wA2 31 (gC 4617315517961601024 4616189618054758400 4620693217682128896 2), (HT.out.trans ht).alloc _⟩)
  have HB4' := HB4.out.touch ht (by simp)
  obtain ⟨a0, a1, a2, a3⟩ := four_cells (HB4'.alloc (.cells (gC 4617315517961601024 4616189618054758400 4620693217682128896 2) 31))
  have hne : (g4 == wA2.heap.size) = false := by simpa using Nat.ne_of_lt HB4'.lt
  obtain ⟨b0, b1, b2, b3⟩ := four_cells HB4'
  clear ht hg4 HB4 HT HB4' HA2
  go_wp2_with fail
  refine (HA3.out _).mono ?_
  rintro e wA3 ⟨rfl, ht⟩
  have HG3 := Lib.hid ((HG.out.on ht).on ((Touch.refl [] wA3).alloc (.cells (gC 0 0 0 0) 31)))
  clear a0 a1 a2 a3 ht HG HA3 hne b0 b1 b2 b3
  obtain ⟨a0, a1, a2, a3⟩ := four_cells HG3.out.a
  obtain ⟨g6, hg6⟩ : ∃ g, g = wA2.heap.size := ⟨_, rfl⟩
  rw [← hg6] at HG3 ⊢
  clear hg6
  go_wp2_with fail
  refine (HA4.out _).mono ?_
  rintro e wA4 ⟨rfl, ht⟩
  have HG4 := Lib.hid ((HG3.out.on ht).on ((Touch.refl [] wA4).alloc (.cells (gC 0 0 0 0) 31)))
  clear a0 a1 a2 a3 ht HG3 HA4
  obtain ⟨a0, a1, a2, a3⟩ := four_cells HG4.out.a
  go_wp2_with fail
  refine (HA5.out _).mono ?_
  rintro e wA5 ⟨rfl, ht⟩
  have HG5 := Lib.hid ((HG4.out.on ht).on ((Touch.refl [] wA5).alloc (.cells (gC 0 0 0 0) 31)))
  clear a0 a1 a2 a3 ht HG4 HA5 
  obtain ⟨a0, a1, a2, a3⟩ := four_cells HG5.out.a
  have hneg' := hneg.out
  go_wp2_with fail
  clear a0 a1 a2 a3 hneg'
  obtain ⟨w6, hw6⟩ : ∃ w6, w6 = wA5.alloc (.cells (gC 0 0 0 0) 31) := ⟨_, rfl⟩
  rw [← hw6] at HG5
  have hsz : wA5.heap.size + 1 = w6.heap.size := by rw [hw6]; simp
  rw [← hw6, hsz]
  clear hw6 hsz
  have HG6 := Lib.hid (HG5.out.on ((Touch.refl [] w6).alloc (.cells #[.float .f64 9221120237041090561, .float .f64 4607182418800017408, .float .f64 9223372036854775808, .float .f64 9218868437227405312, .float .f64 0, .float .f64 13830554455654793216, .float .f64 18442240474082181120] 22)))
  refine (sorted_any _ 7 7 sevA (by decide) _ (sev_row w6)).mono ?_
  rintro e w7 ⟨A, cc, d, rfl, hrow, hs, hc, ht⟩
  have HG7 := Lib.hid (HG6.out.on ht)
  have HK := Lib.hid (fun (i : Nat) (hi : i < 7) => sev_kind hs hc (fun k hk => by obtain ⟨_, _, _, _, _, h4⟩ := hrow k hk; exact h4) i hi)
  have HR := Lib.hid hrow
  obtain ⟨g, o, hA, _⟩ := hrow 0 (by decide)
  subst hA
  clear ht hrow hs hc HG5 HG6
  go_wp2_with fail
  go_loopw [15] (fun vm wr => ∃ m : Nat, m ≤ 7 ∧ vm = .int .i64 (m : Int) ∧ GFix wA wr g4 g6 ∧ RowF wr (some ⟨g, o, none⟩) 7 d) (fun vm _ => 7 - (intOf vm).toNat)
  case atStart => exact ⟨0, by omega, rfl, HG7.out, HR.out⟩
  case round =>
    obtain ⟨m, hm, rfl, hg, hr⟩ := hrel
    clear HG7 HR
    have HGr := Lib.hid hg
    have HRr := Lib.hid hr
    by_cases hlt : m < 7
    · obtain ⟨g2, o2, hA, _, hcell, hbd⟩ := hr m hlt
      injection hA with hA
      injection hA with hA1 hA2
      subst hA1 hA2
      have HKi := Lib.hid (fun W : World => kind_any (d m) hbd W)
      have hk := HK.out m hlt
      rw [hk] at HKi
      have t1 : (!((m : Int) + 1 == (m : Int) + 1)) = false := by simp
      clear hg hr hbd hk
      go_wp2_with fail
      refine (HKi.out _).mono ?_
      rintro e w8 ⟨rfl, hw⟩
      rw [hw]
      clear hw w8
      go_wp2_with fail
      go_roundw
      case rel => exact ⟨m + 1, by omega, by go_num, HGr.out, HRr.out⟩
      case measure => simp [intOf]; omega
    · clear hg hr HRr
      clear HK
      have HLc := Lib.hid less_lits
      have HKc := Lib.hid (fun W : World => kind_lit W)
      have HBc := Lib.hid bits_lits
      have HMc := Lib.hid mean_lits
      have HSc := Lib.hid same_lits
      have HOc := Lib.hid ord_lits
      go_upto_region 16 with fail
      obtain ⟨wB, hwB⟩ : ∃ wB : World, wB = wr := ⟨_, rfl⟩
      rw [← hwB] at HGr ⊢
      clear hwB
      -- GF fix16
      refine wp_region_list ?_
      refine wpList_flowW (lookW [(5, pu (isV (.int .i64 0))), (7, pu (isV (.int .i64 0))), (9, pu (isV (.int .i64 1))), (11, pu (isV (.int .i64 1))), (13, pu (isV (.int .i64 1))), (4, pu (isV (.pointer (some ⟨g4, 0, none⟩)))), (6, pu (isV (.pointer (some ⟨g6, 0, none⟩)))), (1, pu (isV (.float .f64 9218868437227405312))), (2, pu (isV (.float .f64 9221120237041090561))), (3, pu (isV (.float .f64 9223372036854775808))), (68, pu (isV (.int .i64 0))), (69, pu (isV (.bool true))), (70, pu (isV (.bool true))), (71, pu (isV (.pointer (some ⟨g4, 0, none⟩)))), (72, pu (isV (.float .f64 4616189618054758400))), (73, pu (isV (.bool true))), (74, pu (isV (.bool true))), (75, pu (isV (.bool true))), (76, pu (isV (.pointer (some ⟨g4, 1, none⟩)))), (77, pu (isV (.float .f64 4616189618054758400))), (78, pu (isV (.bool true))), (79, pu (isV (.bool true))), (80, pu (isV (.bool true))), (81, pu (isV (.pointer (some ⟨g4, 3, none⟩)))), (82, pu (isV (.int .u64 1))), (83, pu (isV (.bool true))), (84, pu (isV (.bool true))), (85, pu (isV (.bool true))), (86, pu (isV (.int .i64 0))), (87, pu (isV (.bool true))), (88, pu (isV (.bool true))), (89, pu (isV (.bool true))), (90, pu (isV (.pointer (some ⟨g6, 0, none⟩)))), (91, pu (isV (.float .f64 4617315517961601024))), (92, pu (isV (.bool true))), (93, pu (isV (.bool true))), (94, pu (isV (.bool true))), (95, pu (isV (.pointer (some ⟨g6, 2, none⟩)))), (96, pu (isV (.float .f64 4620693217682128896))), (97, pu (isV (.bool true))), (98, pu (isV (.bool true))), (99, pu (isV (.bool true))), (100, pu (isV (.pointer (some ⟨g6, 1, none⟩)))), (101, pu (isV (.float .f64 4616189618054758400))), (102, pu (isV (.bool true))), (103, pu (isV (.bool true))), (104, pu (isV (.bool true))), (105, pu (isV (.int .i64 1))), (106, pu (isV (.bool true))), (107, pu (isV (.bool true))), (108, pu (isV (.bool true))), (109, pu (isV (.int .i64 1))), (110, pu (isV (.bool true))), (111, pu (isV (.bool true))), (112, pu (isV (.bool true))), (113, pu (isV (.int .i64 1))), (114, pu (isV (.bool true))), (115, pu (isV (.bool true))), (116, pu (isV (.bool true))), (117, pu (isV (.float .f64 9223372036854775808))), (118, pu (isV (.bool true))), (119, pu (isV (.bool true))), (120, pu (isV (.bool true))), (121, pu (isV (.float .f64 9223372036854775808))), (122, pu (isV (.bool false))), (123, pu (isV (.bool true))), (124, pu (isV (.bool true))), (125, pu (isV (.bool true))), (126, pu (isV (.float .f64 9218868437227405312))), (127, pu (isV (.float .f64 9221120237041090561))), (128, pu (isV (.bool true))), (129, pu (isV (.bool true))), (130, pu (isV (.bool true))), (131, pu (isV (.float .f64 9223372036854775808))), (132, pu (isV (.int .i64 3))), (133, pu (isV (.bool true))), (134, pu (isV (.bool true))), (135, pu (isV (.bool true))), (136, pu (isV (.float .f64 9221120237041090561))), (137, pu (isV (.int .u64 9221120237041090560))), (138, pu (isV (.bool true))), (139, pu (isV (.bool true))), (140, pu (isV (.bool true))), (141, pu (isV (.int .u64 4607182418800017408))), (142, pu (isV (.bool true))), (143, pu (isV (.bool true))), (144, pu (isV (.bool true))), (145, pu (isV (.float .f64 9218868437227405312))), (146, pu (isV (.float .f64 4607182418800017408))), (147, pu (isV (.bool true))), (148, pu (isV (.bool true))), (149, pu (isV (.bool true))), (150, pu (isV (.float .f64 9218868437227405312))), (151, pu (isV (.float .f64 9218868437227405312))), (152, pu (isV (.float .f64 18442240474082181120))), (153, pu (isV (.float .f64 18442240474082181120))), (154, pu (isV (.float .f64 9218868437227405312))), (155, pu (isV (.float .f64 18442240474082181120))), (156, pu (isV (.bool true))), (157, pu (isV (.bool true))), (158, pu (isV (.bool true))), (159, pu (isV (.agg #[.float .f64 4616189618054758400, .float .f64 4616189618054758400, .float .f64 4616189618054758400, .int .u64 1]))), (160, pu (isV (.agg #[.float .f64 4616189618054758400, .float .f64 4616189618054758400, .float .f64 4616189618054758400, .int .u64 1]))), (161, pu (isV (.bool true))), (162, pu (isV (.bool true))), (163, pu (isV (.bool true))), (164, pu (isV (.agg #[.float .f64 4616189618054758400, .float .f64 4616189618054758400, .float .f64 4616189618054758400, .int .u64 1]))), (165, pu (isV (.agg #[.float .f64 4617315517961601024, .float .f64 4616189618054758400, .float .f64 4620693217682128896, .int .u64 2]))), (166, pu (isV (.bool false))), (167, pu (isV (.bool true))), (168, pu (isV (.bool true))), (0, pu (isV (.bool true)))]) [5, 7, 9, 11, 13, 4, 6, 1, 2, 3] [68, 69, 70, 71, 72, 73, 74, 75, 76, 77, 78, 79, 80, 81, 82, 83, 84, 85, 86, 87, 88, 89, 90, 91, 92, 93, 94, 95, 96, 97, 98, 99, 100, 101, 102, 103, 104, 105, 106, 107, 108, 109, 110, 111, 112, 113, 114, 115, 116, 117, 118, 119, 120, 121, 122, 123, 124, 125, 126, 127, 128, 129, 130, 131, 132, 133, 134, 135, 136, 137, 138, 139, 140, 141, 142, 143, 144, 145, 146, 147, 148, 149, 150, 151, 152, 153, 154, 155, 156, 157, 158, 159, 160, 161, 162, 163, 164, 165, 166, 167, 168, 0] [0] (by kernel_rfl) (by kernel_rfl) (by kernel_rfl) ⟨rfl, rfl, rfl, rfl, rfl, rfl, rfl, rfl, rfl, rfl, trivial⟩ ?_ ?_
      · refine FStepsW.cons (FStepW.plain rfl fun ac w hS hE => OpTo.moveG 68 rfl rfl (hE 5 (by kernel_rfl))) ?_
        refine FStepsW.cons (FStepW.plain rfl fun ac w hS hE => OpTo.pureG (v := .bool true) 69 rfl (by have h68 : ac.eval (.tmp 68) = .int .i64 0 := hE 68 (by kernel_rfl); unfold execOp; simp only [h68]; go_simp) rfl) ?_
        refine FStepsW.cons (FStepW.plain rfl fun ac w hS hE => OpTo.moveG 70 rfl rfl (hE 69 (by kernel_rfl))) ?_
        refine FStepsW.cons (FStepW.go 70 rfl rfl (fun _ _ h => h) fun ac w hS hE => OpTo.pureG (v := .pointer (some ⟨g4, 0, none⟩)) 71 rfl (by have h4 : ac.eval (.tmp 4) = .pointer (some ⟨g4, 0, none⟩) := hE 4 (by kernel_rfl); unfold execOp; simp only [h4]; go_simp) rfl) ?_
        refine FStepsW.cons (FStepW.go 70 rfl rfl (fun _ _ h => h) fun ac w hS hE => OpTo.pureG (v := .float .f64 4616189618054758400) 72 rfl (by have h71 : ac.eval (.tmp 71) = .pointer (some ⟨g4, 0, none⟩) := hE 71 (by kernel_rfl); have hcell : w.cell? ⟨g4, 0, none⟩ = some (.float .f64 4616189618054758400) := ((HGr.out.a.touch hS (by simp)).cell 0).trans rfl; unfold execOp; simp only [h71]; go_simp) rfl) ?_
        refine FStepsW.cons (FStepW.go 70 rfl rfl (fun _ _ h => h) fun ac w hS hE => OpTo.pureG (v := .bool true) 73 rfl (by have h72 : ac.eval (.tmp 72) = .float .f64 4616189618054758400 := hE 72 (by kernel_rfl); have q := HOc.out.1; unfold execOp; simp only [h72]; go_simp) rfl) ?_
        refine FStepsW.cons (FStepW.plain rfl fun ac w hS hE => OpTo.pickG true 74 rfl rfl (hE 70 (by kernel_rfl)) (hE 73 (by kernel_rfl))) ?_
        refine FStepsW.cons (FStepW.plain rfl fun ac w hS hE => OpTo.moveG 75 rfl rfl (hE 74 (by kernel_rfl))) ?_
        refine FStepsW.cons (FStepW.go 75 rfl rfl (fun _ _ h => h) fun ac w hS hE => OpTo.pureG (v := .pointer (some ⟨g4, 1, none⟩)) 76 rfl (by have h4 : ac.eval (.tmp 4) = .pointer (some ⟨g4, 0, none⟩) := hE 4 (by kernel_rfl); unfold execOp; simp only [h4]; go_simp) rfl) ?_
        refine FStepsW.cons (FStepW.go 75 rfl rfl (fun _ _ h => h) fun ac w hS hE => OpTo.pureG (v := .float .f64 4616189618054758400) 77 rfl (by have h76 : ac.eval (.tmp 76) = .pointer (some ⟨g4, 1, none⟩) := hE 76 (by kernel_rfl); have hcell : w.cell? ⟨g4, 1, none⟩ = some (.float .f64 4616189618054758400) := ((HGr.out.a.touch hS (by simp)).cell 1).trans rfl; unfold execOp; simp only [h76]; go_simp) rfl) ?_
        refine FStepsW.cons (FStepW.go 75 rfl rfl (fun _ _ h => h) fun ac w hS hE => OpTo.pureG (v := .bool true) 78 rfl (by have h77 : ac.eval (.tmp 77) = .float .f64 4616189618054758400 := hE 77 (by kernel_rfl); have q := HOc.out.1; unfold execOp; simp only [h77]; go_simp) rfl) ?_
        refine FStepsW.cons (FStepW.plain rfl fun ac w hS hE => OpTo.pickG true 79 rfl rfl (hE 75 (by kernel_rfl)) (hE 78 (by kernel_rfl))) ?_
        refine FStepsW.cons (FStepW.plain rfl fun ac w hS hE => OpTo.moveG 80 rfl rfl (hE 79 (by kernel_rfl))) ?_
        refine FStepsW.cons (FStepW.go 80 rfl rfl (fun _ _ h => h) fun ac w hS hE => OpTo.pureG (v := .pointer (some ⟨g4, 3, none⟩)) 81 rfl (by have h4 : ac.eval (.tmp 4) = .pointer (some ⟨g4, 0, none⟩) := hE 4 (by kernel_rfl); unfold execOp; simp only [h4]; go_simp) rfl) ?_
        refine FStepsW.cons (FStepW.go 80 rfl rfl (fun _ _ h => h) fun ac w hS hE => OpTo.pureG (v := .int .u64 1) 82 rfl (by have h81 : ac.eval (.tmp 81) = .pointer (some ⟨g4, 3, none⟩) := hE 81 (by kernel_rfl); have hcell : w.cell? ⟨g4, 3, none⟩ = some (.int .u64 1) := ((HGr.out.a.touch hS (by simp)).cell 3).trans rfl; unfold execOp; simp only [h81]; go_simp) rfl) ?_
        refine FStepsW.cons (FStepW.go 80 rfl rfl (fun _ _ h => h) fun ac w hS hE => OpTo.pureG (v := .bool true) 83 rfl (by have h82 : ac.eval (.tmp 82) = .int .u64 1 := hE 82 (by kernel_rfl); unfold execOp; simp only [h82]; go_simp) rfl) ?_
        refine FStepsW.cons (FStepW.plain rfl fun ac w hS hE => OpTo.pickG true 84 rfl rfl (hE 80 (by kernel_rfl)) (hE 83 (by kernel_rfl))) ?_
        refine FStepsW.cons (FStepW.plain rfl fun ac w hS hE => OpTo.moveG 85 rfl rfl (hE 84 (by kernel_rfl))) ?_
        refine FStepsW.cons (FStepW.go 85 rfl rfl (fun _ _ h => h) fun ac w hS hE => OpTo.moveG 86 rfl rfl (hE 7 (by kernel_rfl))) ?_
        refine FStepsW.cons (FStepW.go 85 rfl rfl (fun _ _ h => h) fun ac w hS hE => OpTo.pureG (v := .bool true) 87 rfl (by have h86 : ac.eval (.tmp 86) = .int .i64 0 := hE 86 (by kernel_rfl); unfold execOp; simp only [h86]; go_simp) rfl) ?_
        refine FStepsW.cons (FStepW.plain rfl fun ac w hS hE => OpTo.pickG true 88 rfl rfl (hE 85 (by kernel_rfl)) (hE 87 (by kernel_rfl))) ?_
        refine FStepsW.cons (FStepW.plain rfl fun ac w hS hE => OpTo.moveG 89 rfl rfl (hE 88 (by kernel_rfl))) ?_
        refine FStepsW.cons (FStepW.go 89 rfl rfl (fun _ _ h => h) fun ac w hS hE => OpTo.pureG (v := .pointer (some ⟨g6, 0, none⟩)) 90 rfl (by have h6 : ac.eval (.tmp 6) = .pointer (some ⟨g6, 0, none⟩) := hE 6 (by kernel_rfl); unfold execOp; simp only [h6]; go_simp) rfl) ?_
        refine FStepsW.cons (FStepW.go 89 rfl rfl (fun _ _ h => h) fun ac w hS hE => OpTo.pureG (v := .float .f64 4617315517961601024) 91 rfl (by have h90 : ac.eval (.tmp 90) = .pointer (some ⟨g6, 0, none⟩) := hE 90 (by kernel_rfl); have hcell : w.cell? ⟨g6, 0, none⟩ = some (.float .f64 4617315517961601024) := ((HGr.out.b.touch hS (by simp)).cell 0).trans rfl; unfold execOp; simp only [h90]; go_simp) rfl) ?_
        refine FStepsW.cons (FStepW.go 89 rfl rfl (fun _ _ h => h) fun ac w hS hE => OpTo.pureG (v := .bool true) 92 rfl (by have h91 : ac.eval (.tmp 91) = .float .f64 4617315517961601024 := hE 91 (by kernel_rfl); have q := HOc.out.2.1; unfold execOp; simp only [h91]; go_simp) rfl) ?_
        refine FStepsW.cons (FStepW.plain rfl fun ac w hS hE => OpTo.pickG true 93 rfl rfl (hE 89 (by kernel_rfl)) (hE 92 (by kernel_rfl))) ?_
        refine FStepsW.cons (FStepW.plain rfl fun ac w hS hE => OpTo.moveG 94 rfl rfl (hE 93 (by kernel_rfl))) ?_
        refine FStepsW.cons (FStepW.go 94 rfl rfl (fun _ _ h => h) fun ac w hS hE => OpTo.pureG (v := .pointer (some ⟨g6, 2, none⟩)) 95 rfl (by have h6 : ac.eval (.tmp 6) = .pointer (some ⟨g6, 0, none⟩) := hE 6 (by kernel_rfl); unfold execOp; simp only [h6]; go_simp) rfl) ?_
        refine FStepsW.cons (FStepW.go 94 rfl rfl (fun _ _ h => h) fun ac w hS hE => OpTo.pureG (v := .float .f64 4620693217682128896) 96 rfl (by have h95 : ac.eval (.tmp 95) = .pointer (some ⟨g6, 2, none⟩) := hE 95 (by kernel_rfl); have hcell : w.cell? ⟨g6, 2, none⟩ = some (.float .f64 4620693217682128896) := ((HGr.out.b.touch hS (by simp)).cell 2).trans rfl; unfold execOp; simp only [h95]; go_simp) rfl) ?_
        refine FStepsW.cons (FStepW.go 94 rfl rfl (fun _ _ h => h) fun ac w hS hE => OpTo.pureG (v := .bool true) 97 rfl (by have h96 : ac.eval (.tmp 96) = .float .f64 4620693217682128896 := hE 96 (by kernel_rfl); have q := HOc.out.2.2.1; unfold execOp; simp only [h96]; go_simp) rfl) ?_
        refine FStepsW.cons (FStepW.plain rfl fun ac w hS hE => OpTo.pickG true 98 rfl rfl (hE 94 (by kernel_rfl)) (hE 97 (by kernel_rfl))) ?_
        refine FStepsW.cons (FStepW.plain rfl fun ac w hS hE => OpTo.moveG 99 rfl rfl (hE 98 (by kernel_rfl))) ?_
        refine FStepsW.cons (FStepW.go 99 rfl rfl (fun _ _ h => h) fun ac w hS hE => OpTo.pureG (v := .pointer (some ⟨g6, 1, none⟩)) 100 rfl (by have h6 : ac.eval (.tmp 6) = .pointer (some ⟨g6, 0, none⟩) := hE 6 (by kernel_rfl); unfold execOp; simp only [h6]; go_simp) rfl) ?_
        refine FStepsW.cons (FStepW.go 99 rfl rfl (fun _ _ h => h) fun ac w hS hE => OpTo.pureG (v := .float .f64 4616189618054758400) 101 rfl (by have h100 : ac.eval (.tmp 100) = .pointer (some ⟨g6, 1, none⟩) := hE 100 (by kernel_rfl); have hcell : w.cell? ⟨g6, 1, none⟩ = some (.float .f64 4616189618054758400) := ((HGr.out.b.touch hS (by simp)).cell 1).trans rfl; unfold execOp; simp only [h100]; go_simp) rfl) ?_
        refine FStepsW.cons (FStepW.go 99 rfl rfl (fun _ _ h => h) fun ac w hS hE => OpTo.pureG (v := .bool true) 102 rfl (by have h101 : ac.eval (.tmp 101) = .float .f64 4616189618054758400 := hE 101 (by kernel_rfl); have q := HOc.out.1; unfold execOp; simp only [h101]; go_simp) rfl) ?_
        refine FStepsW.cons (FStepW.plain rfl fun ac w hS hE => OpTo.pickG true 103 rfl rfl (hE 99 (by kernel_rfl)) (hE 102 (by kernel_rfl))) ?_
        refine FStepsW.cons (FStepW.plain rfl fun ac w hS hE => OpTo.moveG 104 rfl rfl (hE 103 (by kernel_rfl))) ?_
        refine FStepsW.cons (FStepW.go 104 rfl rfl (fun _ _ h => h) fun ac w hS hE => OpTo.moveG 105 rfl rfl (hE 9 (by kernel_rfl))) ?_
        refine FStepsW.cons (FStepW.go 104 rfl rfl (fun _ _ h => h) fun ac w hS hE => OpTo.pureG (v := .bool true) 106 rfl (by have h105 : ac.eval (.tmp 105) = .int .i64 1 := hE 105 (by kernel_rfl); unfold execOp; simp only [h105]; go_simp) rfl) ?_
        refine FStepsW.cons (FStepW.plain rfl fun ac w hS hE => OpTo.pickG true 107 rfl rfl (hE 104 (by kernel_rfl)) (hE 106 (by kernel_rfl))) ?_
        refine FStepsW.cons (FStepW.plain rfl fun ac w hS hE => OpTo.moveG 108 rfl rfl (hE 107 (by kernel_rfl))) ?_
        refine FStepsW.cons (FStepW.go 108 rfl rfl (fun _ _ h => h) fun ac w hS hE => OpTo.moveG 109 rfl rfl (hE 11 (by kernel_rfl))) ?_
        refine FStepsW.cons (FStepW.go 108 rfl rfl (fun _ _ h => h) fun ac w hS hE => OpTo.pureG (v := .bool true) 110 rfl (by have h109 : ac.eval (.tmp 109) = .int .i64 1 := hE 109 (by kernel_rfl); unfold execOp; simp only [h109]; go_simp) rfl) ?_
        refine FStepsW.cons (FStepW.plain rfl fun ac w hS hE => OpTo.pickG true 111 rfl rfl (hE 108 (by kernel_rfl)) (hE 110 (by kernel_rfl))) ?_
        refine FStepsW.cons (FStepW.plain rfl fun ac w hS hE => OpTo.moveG 112 rfl rfl (hE 111 (by kernel_rfl))) ?_
        refine FStepsW.cons (FStepW.go 112 rfl rfl (fun _ _ h => h) fun ac w hS hE => OpTo.moveG 113 rfl rfl (hE 13 (by kernel_rfl))) ?_
        refine FStepsW.cons (FStepW.go 112 rfl rfl (fun _ _ h => h) fun ac w hS hE => OpTo.pureG (v := .bool true) 114 rfl (by have h113 : ac.eval (.tmp 113) = .int .i64 1 := hE 113 (by kernel_rfl); unfold execOp; simp only [h113]; go_simp) rfl) ?_
        refine FStepsW.cons (FStepW.plain rfl fun ac w hS hE => OpTo.pickG true 115 rfl rfl (hE 112 (by kernel_rfl)) (hE 114 (by kernel_rfl))) ?_
        refine FStepsW.cons (FStepW.plain rfl fun ac w hS hE => OpTo.moveG 116 rfl rfl (hE 115 (by kernel_rfl))) ?_
        refine FStepsW.cons (FStepW.go 116 rfl rfl (fun _ _ h => h) fun ac w hS hE => OpTo.moveG 117 rfl rfl (hE 3 (by kernel_rfl))) ?_
        refine FStepsW.cons (FStepW.go 116 rfl rfl (fun _ _ h => h) fun ac w hS hE => OpTo.callG #[.float .f64 9223372036854775808, .float .f64 0] 118 rfl rfl Try.func13 (by kernel_rfl) (by kernel_rfl) (argE2 (hE 117 (by kernel_rfl)) rfl) (cT (HLc.out w).1) (fun _ => rfl)) ?_
        refine FStepsW.cons (FStepW.plain rfl fun ac w hS hE => OpTo.pickG true 119 rfl rfl (hE 116 (by kernel_rfl)) (hE 118 (by kernel_rfl))) ?_
        refine FStepsW.cons (FStepW.plain rfl fun ac w hS hE => OpTo.moveG 120 rfl rfl (hE 119 (by kernel_rfl))) ?_
        refine FStepsW.cons (FStepW.go 120 rfl rfl (fun _ _ h => h) fun ac w hS hE => OpTo.moveG 121 rfl rfl (hE 3 (by kernel_rfl))) ?_
        refine FStepsW.cons (FStepW.go 120 rfl rfl (fun _ _ h => h) fun ac w hS hE => OpTo.callG #[.float .f64 0, .float .f64 9223372036854775808] 122 rfl rfl Try.func13 (by kernel_rfl) (by kernel_rfl) (argE2 rfl (hE 121 (by kernel_rfl))) (cT (HLc.out w).2.1) (fun _ => rfl)) ?_
        refine FStepsW.cons (FStepW.go 120 rfl rfl (fun _ _ h => h) fun ac w hS hE => OpTo.notG false 123 rfl rfl (hE 122 (by kernel_rfl)) rfl) ?_
        refine FStepsW.cons (FStepW.plain rfl fun ac w hS hE => OpTo.pickG true 124 rfl rfl (hE 120 (by kernel_rfl)) (hE 123 (by kernel_rfl))) ?_
        refine FStepsW.cons (FStepW.plain rfl fun ac w hS hE => OpTo.moveG 125 rfl rfl (hE 124 (by kernel_rfl))) ?_
        refine FStepsW.cons (FStepW.go 125 rfl rfl (fun _ _ h => h) fun ac w hS hE => OpTo.moveG 126 rfl rfl (hE 1 (by kernel_rfl))) ?_
        refine FStepsW.cons (FStepW.go 125 rfl rfl (fun _ _ h => h) fun ac w hS hE => OpTo.moveG 127 rfl rfl (hE 2 (by kernel_rfl))) ?_
        refine FStepsW.cons (FStepW.go 125 rfl rfl (fun _ _ h => h) fun ac w hS hE => OpTo.callG #[.float .f64 9218868437227405312, .float .f64 9221120237041090561] 128 rfl rfl Try.func13 (by kernel_rfl) (by kernel_rfl) (argE2 (hE 126 (by kernel_rfl)) (hE 127 (by kernel_rfl))) (cT (HLc.out w).2.2) (fun _ => rfl)) ?_
        refine FStepsW.cons (FStepW.plain rfl fun ac w hS hE => OpTo.pickG true 129 rfl rfl (hE 125 (by kernel_rfl)) (hE 128 (by kernel_rfl))) ?_
        refine FStepsW.cons (FStepW.plain rfl fun ac w hS hE => OpTo.moveG 130 rfl rfl (hE 129 (by kernel_rfl))) ?_
        refine FStepsW.cons (FStepW.go 130 rfl rfl (fun _ _ h => h) fun ac w hS hE => OpTo.moveG 131 rfl rfl (hE 3 (by kernel_rfl))) ?_
        refine FStepsW.cons (FStepW.go 130 rfl rfl (fun _ _ h => h) fun ac w hS hE => OpTo.callG #[.float .f64 9223372036854775808] 132 rfl rfl Try.func9 (by kernel_rfl) (by kernel_rfl) (argE1 (hE 131 (by kernel_rfl))) (cT (HKc.out w)) (fun _ => rfl)) ?_
        refine FStepsW.cons (FStepW.go 130 rfl rfl (fun _ _ h => h) fun ac w hS hE => OpTo.pureG (v := .bool true) 133 rfl (by have h132 : ac.eval (.tmp 132) = .int .i64 3 := hE 132 (by kernel_rfl); unfold execOp; simp only [h132]; go_simp) rfl) ?_
        refine FStepsW.cons (FStepW.plain rfl fun ac w hS hE => OpTo.pickG true 134 rfl rfl (hE 130 (by kernel_rfl)) (hE 133 (by kernel_rfl))) ?_
        refine FStepsW.cons (FStepW.plain rfl fun ac w hS hE => OpTo.moveG 135 rfl rfl (hE 134 (by kernel_rfl))) ?_
        refine FStepsW.cons (FStepW.go 135 rfl rfl (fun _ _ h => h) fun ac w hS hE => OpTo.moveG 136 rfl rfl (hE 2 (by kernel_rfl))) ?_
        refine FStepsW.cons (FStepW.go 135 rfl rfl (fun _ _ h => h) fun ac w hS hE => OpTo.callG #[.float .f64 9221120237041090561] 137 rfl rfl Try.func11 (by kernel_rfl) (by kernel_rfl) (argE1 (hE 136 (by kernel_rfl))) (cT (HBc.out w).1) (fun _ => rfl)) ?_
        refine FStepsW.cons (FStepW.go 135 rfl rfl (fun _ _ h => h) fun ac w hS hE => OpTo.pureG (v := .bool true) 138 rfl (by have h137 : ac.eval (.tmp 137) = .int .u64 9221120237041090560 := hE 137 (by kernel_rfl); unfold execOp; simp only [h137]; go_simp) rfl) ?_
        refine FStepsW.cons (FStepW.plain rfl fun ac w hS hE => OpTo.pickG true 139 rfl rfl (hE 135 (by kernel_rfl)) (hE 138 (by kernel_rfl))) ?_
        refine FStepsW.cons (FStepW.plain rfl fun ac w hS hE => OpTo.moveG 140 rfl rfl (hE 139 (by kernel_rfl))) ?_
        refine FStepsW.cons (FStepW.go 140 rfl rfl (fun _ _ h => h) fun ac w hS hE => OpTo.callG #[.float .f64 4607182418800017408] 141 rfl rfl Try.func11 (by kernel_rfl) (by kernel_rfl) (argE1 rfl) (cT (HBc.out w).2) (fun _ => rfl)) ?_
        refine FStepsW.cons (FStepW.go 140 rfl rfl (fun _ _ h => h) fun ac w hS hE => OpTo.pureG (v := .bool true) 142 rfl (by have h141 : ac.eval (.tmp 141) = .int .u64 4607182418800017408 := hE 141 (by kernel_rfl); unfold execOp; simp only [h141]; go_simp) rfl) ?_
        refine FStepsW.cons (FStepW.plain rfl fun ac w hS hE => OpTo.pickG true 143 rfl rfl (hE 140 (by kernel_rfl)) (hE 142 (by kernel_rfl))) ?_
        refine FStepsW.cons (FStepW.plain rfl fun ac w hS hE => OpTo.moveG 144 rfl rfl (hE 143 (by kernel_rfl))) ?_
        refine FStepsW.cons (FStepW.go 144 rfl rfl (fun _ _ h => h) fun ac w hS hE => OpTo.moveG 145 rfl rfl (hE 1 (by kernel_rfl))) ?_
        refine FStepsW.cons (FStepW.go 144 rfl rfl (fun _ _ h => h) fun ac w hS hE => OpTo.callG #[.float .f64 9218868437227405312, .float .f64 4607182418800017408, .float .f64 4602678819172646912] 146 rfl rfl Try.func15 (by kernel_rfl) (by kernel_rfl) (argE3 (hE 145 (by kernel_rfl)) rfl rfl) (cN (HMc.out w).1) (fun _ => rfl)) ?_
        refine FStepsW.cons (FStepW.go 144 rfl rfl (fun _ _ h => h) fun ac w hS hE => OpTo.pureG (v := .bool true) 147 rfl (by have h146 : ac.eval (.tmp 146) = .float .f64 4607182418800017408 := hE 146 (by kernel_rfl); have q := HOc.out.2.2.2.1; unfold execOp; simp only [h146]; go_simp) rfl) ?_
        refine FStepsW.cons (FStepW.plain rfl fun ac w hS hE => OpTo.pickG true 148 rfl rfl (hE 144 (by kernel_rfl)) (hE 147 (by kernel_rfl))) ?_
        refine FStepsW.cons (FStepW.plain rfl fun ac w hS hE => OpTo.moveG 149 rfl rfl (hE 148 (by kernel_rfl))) ?_
        refine FStepsW.cons (FStepW.go 149 rfl rfl (fun _ _ h => h) fun ac w hS hE => OpTo.moveG 150 rfl rfl (hE 1 (by kernel_rfl))) ?_
        refine FStepsW.cons (FStepW.go 149 rfl rfl (fun _ _ h => h) fun ac w hS hE => OpTo.moveG 151 rfl rfl (hE 1 (by kernel_rfl))) ?_
        refine FStepsW.cons (FStepW.go 149 rfl rfl (fun _ _ h => h) fun ac w hS hE => OpTo.negF 9218868437227405312 18442240474082181120 152 rfl rfl (hE 151 (by kernel_rfl)) Hng.out rfl) ?_
        refine FStepsW.cons (FStepW.go 149 rfl rfl (fun _ _ h => h) fun ac w hS hE => OpTo.callG #[.float .f64 9218868437227405312, .float .f64 18442240474082181120, .float .f64 4602678819172646912] 153 rfl rfl Try.func15 (by kernel_rfl) (by kernel_rfl) (argE3 (hE 150 (by kernel_rfl)) (hE 152 (by kernel_rfl)) rfl) (cN (HMc.out w).2) (fun _ => rfl)) ?_
        refine FStepsW.cons (FStepW.go 149 rfl rfl (fun _ _ h => h) fun ac w hS hE => OpTo.moveG 154 rfl rfl (hE 1 (by kernel_rfl))) ?_
        refine FStepsW.cons (FStepW.go 149 rfl rfl (fun _ _ h => h) fun ac w hS hE => OpTo.negF 9218868437227405312 18442240474082181120 155 rfl rfl (hE 154 (by kernel_rfl)) Hng.out rfl) ?_
        refine FStepsW.cons (FStepW.go 149 rfl rfl (fun _ _ h => h) fun ac w hS hE => OpTo.pureG (v := .bool true) 156 rfl (by have h153 : ac.eval (.tmp 153) = .float .f64 18442240474082181120 := hE 153 (by kernel_rfl); have h155 : ac.eval (.tmp 155) = .float .f64 18442240474082181120 := hE 155 (by kernel_rfl); have q := HOc.out.2.2.2.2; unfold execOp; simp only [h153, h155]; go_simp) rfl) ?_
        refine FStepsW.cons (FStepW.plain rfl fun ac w hS hE => OpTo.pickG true 157 rfl rfl (hE 149 (by kernel_rfl)) (hE 156 (by kernel_rfl))) ?_
        refine FStepsW.cons (FStepW.plain rfl fun ac w hS hE => OpTo.moveG 158 rfl rfl (hE 157 (by kernel_rfl))) ?_
        refine FStepsW.cons (FStepW.go 158 rfl rfl (fun _ _ h => h) fun ac w hS hE => OpTo.rowG 159 31 _ rfl rfl g4 (hE 4 (by kernel_rfl)) 31 #[.float .f64 4616189618054758400, .float .f64 4616189618054758400, .float .f64 4616189618054758400, .int .u64 1] _ (HGr.out.a.touch hS (by simp)) Try.underlying31 rfl (by kernel_rfl) rfl) ?_
        refine FStepsW.cons (FStepW.go 158 rfl rfl (fun _ _ h => h) fun ac w hS hE => OpTo.rowG 160 31 _ rfl rfl g4 (hE 4 (by kernel_rfl)) 31 #[.float .f64 4616189618054758400, .float .f64 4616189618054758400, .float .f64 4616189618054758400, .int .u64 1] _ (HGr.out.a.touch hS (by simp)) Try.underlying31 rfl (by kernel_rfl) rfl) ?_
        refine FStepsW.cons (FStepW.go 158 rfl rfl (fun _ _ h => h) fun ac w hS hE => OpTo.callG #[.agg #[.float .f64 4616189618054758400, .float .f64 4616189618054758400, .float .f64 4616189618054758400, .int .u64 1], .agg #[.float .f64 4616189618054758400, .float .f64 4616189618054758400, .float .f64 4616189618054758400, .int .u64 1]] 161 rfl rfl Try.func22 (by kernel_rfl) (by kernel_rfl) (argE2 (hE 159 (by kernel_rfl)) (hE 160 (by kernel_rfl))) ((HSc.out w).1) (fun _ => rfl)) ?_
        refine FStepsW.cons (FStepW.plain rfl fun ac w hS hE => OpTo.pickG true 162 rfl rfl (hE 158 (by kernel_rfl)) (hE 161 (by kernel_rfl))) ?_
        refine FStepsW.cons (FStepW.plain rfl fun ac w hS hE => OpTo.moveG 163 rfl rfl (hE 162 (by kernel_rfl))) ?_
        refine FStepsW.cons (FStepW.go 163 rfl rfl (fun _ _ h => h) fun ac w hS hE => OpTo.rowG 164 31 _ rfl rfl g4 (hE 4 (by kernel_rfl)) 31 #[.float .f64 4616189618054758400, .float .f64 4616189618054758400, .float .f64 4616189618054758400, .int .u64 1] _ (HGr.out.a.touch hS (by simp)) Try.underlying31 rfl (by kernel_rfl) rfl) ?_
        refine FStepsW.cons (FStepW.go 163 rfl rfl (fun _ _ h => h) fun ac w hS hE => OpTo.rowG 165 31 _ rfl rfl g6 (hE 6 (by kernel_rfl)) 31 #[.float .f64 4617315517961601024, .float .f64 4616189618054758400, .float .f64 4620693217682128896, .int .u64 2] _ (HGr.out.b.touch hS (by simp)) Try.underlying31 rfl (by kernel_rfl) rfl) ?_
        refine FStepsW.cons (FStepW.go 163 rfl rfl (fun _ _ h => h) fun ac w hS hE => OpTo.callG #[.agg #[.float .f64 4616189618054758400, .float .f64 4616189618054758400, .float .f64 4616189618054758400, .int .u64 1], .agg #[.float .f64 4617315517961601024, .float .f64 4616189618054758400, .float .f64 4620693217682128896, .int .u64 2]] 166 rfl rfl Try.func22 (by kernel_rfl) (by kernel_rfl) (argE2 (hE 164 (by kernel_rfl)) (hE 165 (by kernel_rfl))) ((HSc.out w).2) (fun _ => rfl)) ?_
        refine FStepsW.cons (FStepW.go 163 rfl rfl (fun _ _ h => h) fun ac w hS hE => OpTo.notG false 167 rfl rfl (hE 166 (by kernel_rfl)) rfl) ?_
        refine FStepsW.cons (FStepW.plain rfl fun ac w hS hE => OpTo.pickG true 168 rfl rfl (hE 163 (by kernel_rfl)) (hE 167 (by kernel_rfl))) ?_
        refine FStepsW.cons (FStepW.plain rfl fun ac w hS hE => OpTo.assignG 0 rfl rfl (hE 168 (by kernel_rfl))) ?_
        exact FStepsW.nil
      intro f wx hS hF
      obtain ⟨h0, -⟩ := hF
      replace h0 : f 0 = .bool true := h0
      simp only [setAll, List.setIfInBounds_toArray, List.set_cons_zero, List.set_cons_succ, h0]
      -- END
      have HT := Lib.hid (HGr.out.t.trans hS)
      clear hS h0 HLc HKc HBc HMc HSc HOc HGr
      go_wp2_with fail
      go_ret
      exact ⟨rfl, HT.out⟩
end Go.Proofs.Ytbpgbjhjnemaoaa
