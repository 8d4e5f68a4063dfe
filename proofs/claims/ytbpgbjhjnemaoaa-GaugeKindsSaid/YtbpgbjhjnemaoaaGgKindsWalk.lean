/- GaugeKinds: the walk. -/
import Derived.Test.YtbpgbjhjnemaoaaGgFixed
namespace Go.Proofs.Ytbpgbjhjnemaoaa
open Go Go.RowKit
/-- A kind, and what comparing with 0 says. -/
def KRow (k k' : Int) (l g z n i : Bool) : Prop :=
  (k = 1 ∧ k' = 6 ∧ l = true ∧ g = false ∧ z = false ∧ n = false ∧ i = true) ∨ (k = 2 ∧ k' = 5 ∧ l = true ∧ g = false ∧ z = false ∧ n = false ∧ i = false) ∨
  (k = 3 ∧ k' = 4 ∧ l = false ∧ g = false ∧ z = true ∧ n = false ∧ i = false) ∨ (k = 4 ∧ k' = 3 ∧ l = false ∧ g = false ∧ z = true ∧ n = false ∧ i = false) ∨
  (k = 5 ∧ k' = 2 ∧ l = false ∧ g = true ∧ z = false ∧ n = false ∧ i = false) ∨ (k = 6 ∧ k' = 1 ∧ l = false ∧ g = true ∧ z = false ∧ n = false ∧ i = true) ∨
  (k = 7 ∧ k' = 0 ∧ l = false ∧ g = false ∧ z = false ∧ n = true ∧ i = false)
def infB (x : Nat) : Bool := decide (mg x = 9218868437227405312)
theorem krow (x : Nat) : KRow (fk x) (7 - fk x) (!isN x && decide (sv x < 0)) (!isN x && decide (0 < sv x)) (!isN x && decide (sv x = 0)) (isN x) (infB x) := by
  have hm := mg_lt x
  unfold KRow fk sv infB isN
  by_cases h1 : 9218868437227405312 < mg x
  · rw [decide_eq_true h1, decide_eq_false (show ¬ mg x = 9218868437227405312 by omega)]
    simp
  · rw [decide_eq_false h1]
    by_cases h2 : mg x = 9218868437227405312
    · rw [h2]; cases sg x <;> simp
    · rw [decide_eq_false h2, if_neg (by simp), if_neg h2]
      by_cases h3 : mg x = 0
      · rw [h3]; cases sg x <;> simp
      · rw [if_neg h3]
        cases sg x <;> simp <;> omega
theorem fk_neg (x : Nat) (h : x < 18446744073709551616) (hn : isN x = false) : fk (Op.negFloat .f64 x) = 7 - fk x := by
  unfold fk
  rw [neg_isN x h, neg_mg x h, neg_sg x h, hn]
  simp only [Bool.false_eq_true, if_false]
  cases sg x <;> simp <;> (repeat' split) <;> rfl
theorem sub_self (x : Nat) (h : x < 18446744073709551616) (hn : isN x = false) (hi : infB x = false) : fb .sub x x = some 0 := by
  have hm : mg x < 9218868437227405312 := by
    have h1 : ¬ 9218868437227405312 < mg x := of_decide_eq_false hn
    have h2 : ¬ mg x = 9218868437227405312 := of_decide_eq_false hi
    omega
  show ((D64.read x).sum (D64.read x).opposite).map D64.write = some 0
  rw [read_num x h hm]
  generalize mgV (mg x) = a
  generalize D64.leastPlace + (upV (mg x) : Nat) = p
  show some (D64.write (.number (if Ieee.signed (sg x) a (p - min p p).toNat + Ieee.signed (!sg x) a (p - min p p).toNat = 0 then sg x && !sg x else _) _ _)) = some 0
  have hz : Ieee.signed (sg x) a (p - min p p).toNat + Ieee.signed (!sg x) a (p - min p p).toNat = 0 := by
    unfold Ieee.signed
    cases sg x <;> simp <;> omega
  rw [if_pos hz, hz]
  cases sg x <;> rfl
theorem sub_inf (x : Nat) (h : x < 18446744073709551616) (hi : infB x = true) : fb .sub x x = none := by
  show ((D64.read x).sum (D64.read x).opposite).map D64.write = none
  rw [read_inf x h (of_decide_eq_true hi)]
  cases sg x <;> rfl
theorem touch_any {wA w' : World} {m : Nat} (h : Touch [] (wA.drewN m) w') : Touch [] wA w' := Touch.of_drewN m h
set_option maxRecDepth 100000 in
set_option maxHeartbeats 16000000 in
theorem kinds_1 (x y nx r nn : Nat) (k k' ky : Int) (xb yb : Nat) (l g z n i : Bool) (wA : World) (hk : KRow k k' l g z n i)
    (hl : (FloatKind.f64.format.order x 0 == some .lt) = l) (hg : (FloatKind.f64.format.order x 0 == some .gt) = g) (hz : (FloatKind.f64.format.order x 0 == some .eq) = z) (hn : (FloatKind.f64.format.order x x != some .eq) = n) (hn' : (FloatKind.f64.format.order x x == some .eq) = !n)
    (hd : (FloatKind.f64.format.order x y != some .eq) = true) (hneg : ∀ W : World, (Op.unary .neg (.float .f64 x)).run Try.prog W = .ok (.float .f64 nx) W)
    (H1 : ∀ W : World, Calls Try.prog 9 #[.float .f64 x] W fun e w' => e = .returned (.int .i64 k) ∧ w' = W)
    (H2 : n = false → ∀ W : World, Calls Try.prog 9 #[.float .f64 nx] W fun e w' => e = .returned (.int .i64 k') ∧ w' = W)
    (H3 : ∀ W : World, Calls Try.prog 9 #[.float .f64 y] W fun e w' => e = .returned (.int .i64 ky) ∧ w' = W)
    (H4 : ∀ W : World, Calls Try.prog 11 #[.float .f64 x] W fun e w' => e = .returned (.int .u64 (xb : Int)) ∧ w' = W)
    (H5 : ∀ W : World, Calls Try.prog 11 #[.float .f64 y] W fun e w' => e = .returned (.int .u64 (yb : Int)) ∧ w' = W)
    (hs : (binOp .sub 22 (.float .f64 x) (.float .f64 x)).run Try.prog wA = .ok (.float .f64 r) (wA.drewN nn)) (hr : n = false → (FloatKind.f64.format.order r 0 != some .eq) = i)
    (_ : True) :
    Calls Try.prog 8 #[.float .f64 x, .float .f64 y] wA fun e w' => e = .returned (.bool true) ∧ Touch [] wA w' := by
  have h1 := Lib.hid H1
  have h2 := Lib.hid H2
  have h3 := Lib.hid H3
  have h4 := Lib.hid H4
  have h5 := Lib.hid H5
  have HR := Lib.hid hr
  have HF := Lib.hid (fun W : World => fixed_any W)
  clear H1 H2 H3 H4 H5 hr
  rcases hk with ⟨rfl, rfl, rfl, rfl, rfl, rfl, rfl⟩ | ⟨rfl, rfl, rfl, rfl, rfl, rfl, rfl⟩ | ⟨rfl, rfl, rfl, rfl, rfl, rfl, rfl⟩ | ⟨rfl, rfl, rfl, rfl, rfl, rfl, rfl⟩ | ⟨rfl, rfl, rfl, rfl, rfl, rfl, rfl⟩ | ⟨rfl, rfl, rfl, rfl, rfl, rfl, rfl⟩ | ⟨rfl, rfl, rfl, rfl, rfl, rfl, rfl⟩
  all_goals simp only [Bool.not_true, Bool.not_false] at hn'
  all_goals try have hr' := HR.out rfl
  all_goals try have h2b := Lib.hid (h2.out rfl)
  all_goals clear HR h2
  all_goals
    go_enter Try.func8, Try.ntmps8
    go_wp2_with fail
    refine (h1.out _).mono ?_
    rintro e w1 ⟨rfl, hw⟩
    rw [hw]
    clear hw w1
    go_wp2_with fail
    try
      refine (h2b.out _).mono ?_
      rintro e w1 ⟨rfl, hw⟩
      rw [hw]
      clear hw w1
      go_wp2_with fail
    refine (HF.out _).mono ?_
    rintro e w1 ⟨rfl, ht⟩
    have HT := Lib.hid (show Touch [] wA w1 by first | exact ht | exact touch_any ht)
    clear ht
    go_wp2_with fail
    go_ret
    exact ⟨rfl, HT.out⟩
set_option maxRecDepth 100000 in
set_option maxHeartbeats 16000000 in
theorem kinds_2 (x y nx r nn : Nat) (k k' ky : Int) (xb yb : Nat) (l g z n i : Bool) (wA : World) (hk : KRow k k' l g z n i)
    (hl : (FloatKind.f64.format.order x 0 == some .lt) = l) (hg : (FloatKind.f64.format.order x 0 == some .gt) = g) (hz : (FloatKind.f64.format.order x 0 == some .eq) = z) (hn : (FloatKind.f64.format.order x x != some .eq) = n) (hn' : (FloatKind.f64.format.order x x == some .eq) = !n)
    (hd : (FloatKind.f64.format.order x y != some .eq) = false) (hneg : ∀ W : World, (Op.unary .neg (.float .f64 x)).run Try.prog W = .ok (.float .f64 nx) W)
    (H1 : ∀ W : World, Calls Try.prog 9 #[.float .f64 x] W fun e w' => e = .returned (.int .i64 k) ∧ w' = W)
    (H2 : n = false → ∀ W : World, Calls Try.prog 9 #[.float .f64 nx] W fun e w' => e = .returned (.int .i64 k') ∧ w' = W)
    (H3 : ∀ W : World, Calls Try.prog 9 #[.float .f64 y] W fun e w' => e = .returned (.int .i64 ky) ∧ w' = W)
    (H4 : ∀ W : World, Calls Try.prog 11 #[.float .f64 x] W fun e w' => e = .returned (.int .u64 (xb : Int)) ∧ w' = W)
    (H5 : ∀ W : World, Calls Try.prog 11 #[.float .f64 y] W fun e w' => e = .returned (.int .u64 (yb : Int)) ∧ w' = W)
    (hs : (binOp .sub 22 (.float .f64 x) (.float .f64 x)).run Try.prog wA = .ok (.float .f64 r) (wA.drewN nn)) (hr : n = false → (FloatKind.f64.format.order r 0 != some .eq) = i)
    (hky : (ky == k) = false) (hky2 : (ky != k) = true) (hky3 : (!ky == k) = true) :
    Calls Try.prog 8 #[.float .f64 x, .float .f64 y] wA fun e w' => e = .returned (.bool true) ∧ Touch [] wA w' := by
  have h1 := Lib.hid H1
  have h2 := Lib.hid H2
  have h3 := Lib.hid H3
  have h4 := Lib.hid H4
  have h5 := Lib.hid H5
  have HR := Lib.hid hr
  have HF := Lib.hid (fun W : World => fixed_any W)
  clear H1 H2 H3 H4 H5 hr
  rcases hk with ⟨rfl, rfl, rfl, rfl, rfl, rfl, rfl⟩ | ⟨rfl, rfl, rfl, rfl, rfl, rfl, rfl⟩ | ⟨rfl, rfl, rfl, rfl, rfl, rfl, rfl⟩ | ⟨rfl, rfl, rfl, rfl, rfl, rfl, rfl⟩ | ⟨rfl, rfl, rfl, rfl, rfl, rfl, rfl⟩ | ⟨rfl, rfl, rfl, rfl, rfl, rfl, rfl⟩ | ⟨rfl, rfl, rfl, rfl, rfl, rfl, rfl⟩
  all_goals simp only [Bool.not_true, Bool.not_false] at hn'
  all_goals try have hr' := HR.out rfl
  all_goals try have h2b := Lib.hid (h2.out rfl)
  all_goals clear HR h2
  all_goals
    go_enter Try.func8, Try.ntmps8
    go_wp2_with fail
    refine (h1.out _).mono ?_
    rintro e w1 ⟨rfl, hw⟩
    rw [hw]
    clear hw w1
    go_wp2_with fail
    try
      refine (h2b.out _).mono ?_
      rintro e w1 ⟨rfl, hw⟩
      rw [hw]
      clear hw w1
      go_wp2_with fail
    refine (h3.out _).mono ?_
    rintro e w1 ⟨rfl, hw⟩
    rw [hw]
    clear hw w1
    go_wp2_with fail
    refine (HF.out _).mono ?_
    rintro e w1 ⟨rfl, ht⟩
    have HT := Lib.hid (show Touch [] wA w1 by first | exact ht | exact touch_any ht)
    clear ht
    go_wp2_with fail
    go_ret
    exact ⟨rfl, HT.out⟩
set_option maxRecDepth 100000 in
set_option maxHeartbeats 16000000 in
theorem kinds_3 (x y nx r nn : Nat) (k k' : Int) (xb yb : Nat) (l g z n i : Bool) (wA : World) (hk : KRow k k' l g z n i)
    (hl : (FloatKind.f64.format.order x 0 == some .lt) = l) (hg : (FloatKind.f64.format.order x 0 == some .gt) = g) (hz : (FloatKind.f64.format.order x 0 == some .eq) = z) (hn : (FloatKind.f64.format.order x x != some .eq) = n) (hn' : (FloatKind.f64.format.order x x == some .eq) = !n)
    (hd : (FloatKind.f64.format.order x y != some .eq) = false) (hneg : ∀ W : World, (Op.unary .neg (.float .f64 x)).run Try.prog W = .ok (.float .f64 nx) W)
    (H1 : ∀ W : World, Calls Try.prog 9 #[.float .f64 x] W fun e w' => e = .returned (.int .i64 k) ∧ w' = W)
    (H2 : n = false → ∀ W : World, Calls Try.prog 9 #[.float .f64 nx] W fun e w' => e = .returned (.int .i64 k') ∧ w' = W)
    (H3 : ∀ W : World, Calls Try.prog 9 #[.float .f64 y] W fun e w' => e = .returned (.int .i64 k) ∧ w' = W)
    (H4 : ∀ W : World, Calls Try.prog 11 #[.float .f64 x] W fun e w' => e = .returned (.int .u64 (xb : Int)) ∧ w' = W)
    (H5 : ∀ W : World, Calls Try.prog 11 #[.float .f64 y] W fun e w' => e = .returned (.int .u64 (yb : Int)) ∧ w' = W)
    (hs : (binOp .sub 22 (.float .f64 x) (.float .f64 x)).run Try.prog wA = .ok (.float .f64 r) (wA.drewN nn)) (hr : n = false → (FloatKind.f64.format.order r 0 != some .eq) = i)
    (hb : ((xb : Int) == (yb : Int)) = true) :
    Calls Try.prog 8 #[.float .f64 x, .float .f64 y] wA fun e w' => e = .returned (.bool true) ∧ Touch [] wA w' := by
  have h1 := Lib.hid H1
  have h2 := Lib.hid H2
  have h3 := Lib.hid H3
  have h4 := Lib.hid H4
  have h5 := Lib.hid H5
  have HR := Lib.hid hr
  have HF := Lib.hid (fun W : World => fixed_any W)
  clear H1 H2 H3 H4 H5 hr
  rcases hk with ⟨rfl, rfl, rfl, rfl, rfl, rfl, rfl⟩ | ⟨rfl, rfl, rfl, rfl, rfl, rfl, rfl⟩ | ⟨rfl, rfl, rfl, rfl, rfl, rfl, rfl⟩ | ⟨rfl, rfl, rfl, rfl, rfl, rfl, rfl⟩ | ⟨rfl, rfl, rfl, rfl, rfl, rfl, rfl⟩ | ⟨rfl, rfl, rfl, rfl, rfl, rfl, rfl⟩ | ⟨rfl, rfl, rfl, rfl, rfl, rfl, rfl⟩
  all_goals simp only [Bool.not_true, Bool.not_false] at hn'
  all_goals try have hr' := HR.out rfl
  all_goals try have h2b := Lib.hid (h2.out rfl)
  all_goals clear HR h2
  all_goals
    go_enter Try.func8, Try.ntmps8
    go_wp2_with fail
    refine (h1.out _).mono ?_
    rintro e w1 ⟨rfl, hw⟩
    rw [hw]
    clear hw w1
    go_wp2_with fail
    try
      refine (h2b.out _).mono ?_
      rintro e w1 ⟨rfl, hw⟩
      rw [hw]
      clear hw w1
      go_wp2_with fail
    refine (h3.out _).mono ?_
    rintro e w1 ⟨rfl, hw⟩
    rw [hw]
    clear hw w1
    go_wp2_with fail
    refine (h4.out _).mono ?_
    rintro e w1 ⟨rfl, hw⟩
    rw [hw]
    clear hw w1
    go_wp2_with fail
    refine (h5.out _).mono ?_
    rintro e w1 ⟨rfl, hw⟩
    rw [hw]
    clear hw w1
    go_wp2_with fail
    refine (HF.out _).mono ?_
    rintro e w1 ⟨rfl, ht⟩
    have HT := Lib.hid (show Touch [] wA w1 by first | exact ht | exact touch_any ht)
    clear ht
    go_wp2_with fail
    go_ret
    exact ⟨rfl, HT.out⟩
theorem kinds_walk (x y : Nat) (hx : x < 18446744073709551616) (hy : y < 18446744073709551616) (w : World) :
    Calls Try.prog 8 #[.float .f64 x, .float .f64 y] w fun e w' => e = .returned (.bool true) ∧ Touch [] w w' := by
  obtain ⟨r, nn, hok, hs⟩ := ar_run (.inr (.inl rfl) : Ar .sub) 22 x x w
  have hl := lt0 x hx
  have hg := gt0 x hx
  have hz : (FloatKind.f64.format.order x 0 == some .eq) = (!isN x && decide (sv x = 0)) := by
    rw [ordf_eq x _ hx (by decide), show isN 0 = false by decide, show sv 0 = 0 by decide]
    simp
  have hn := ord_self x hx
  have hn' : (FloatKind.f64.format.order x x == some .eq) = !isN x := by
    have := ordf_eq x x hx hx
    rw [this]
    cases isN x <;> simp
  have hr : isN x = false → (FloatKind.f64.format.order r 0 != some .eq) = infB x := fun hn => by
    cases hi : infB x with
    | true =>
      have h0 := sub_inf x hx hi
      rcases hok.2 with ⟨_, h1⟩ | ⟨h1, _⟩
      · rw [h0] at h1; cases h1
      · unfold bne
        rw [ordf_eq r _ hok.1 (by decide), h1]
        rfl
    | false =>
      have h0 := sub_self x hx hn hi
      rcases hok.2 with ⟨_, h1⟩ | ⟨_, h1⟩
      · rw [h0] at h1
        injection h1 with h1
        subst h1
        decide +kernel
      · rw [h0] at h1; cases h1
  have H2 : isN x = false → ∀ W : World, Calls Try.prog 9 #[.float .f64 (Op.negFloat .f64 x)] W fun e w' => e = .returned (.int .i64 (7 - fk x)) ∧ w' = W := fun hn W => by
    rw [← fk_neg x hx hn]
    exact kind_any _ (neg_lt x hx) W
  cases hd : (FloatKind.f64.format.order x y != some .eq) with
  | true => exact kinds_1 x y (Op.negFloat .f64 x) r nn _ _ _ _ _ _ _ _ _ _ w (krow x) hl hg hz hn hn' hd (neg_run x) (kind_any x hx) H2 (kind_any y hy) (bits_any x hx) (bits_any y hy) hs hr trivial
  | false =>
    by_cases hk : fk y = fk x
    · have hb : ((bitsF x : Int) == (bitsF y : Int)) = true := by
        have he : (FloatKind.f64.format.order x y == some .eq) = true := by simpa [bne] using hd
        rw [ordf_eq x y hx hy] at he
        simp only [Bool.and_eq_true, Bool.not_eq_true', decide_eq_true_eq] at he
        obtain ⟨⟨n1, n2⟩, hsv⟩ := he
        have hkf : kf x = kf y := by
          have l1 := mg_lt x
          have l2 := mg_lt y
          unfold fk at hk
          unfold sv at hsv
          unfold kf
          rw [n1, n2] at hk
          rw [n1, n2]
          simp only [Bool.false_eq_true, if_false] at hk ⊢
          cases h1 : sg x <;> cases h2 : sg y <;> rw [h1] at hk hsv <;> rw [h2] at hk hsv <;> simp only [if_true, Bool.false_eq_true, if_false] at hk hsv ⊢
          · omega
          · exfalso
            have e1 : mg x = 0 := by omega
            have e2 : mg y = 0 := by omega
            rw [e1, e2] at hk
            simp at hk
          · exfalso
            have e1 : mg x = 0 := by omega
            have e2 : mg y = 0 := by omega
            rw [e1, e2] at hk
            simp at hk
          · omega
        rw [(kf_bits hx hy).2 hkf]
        simp
      have H3 := kind_any y hy
      rw [hk] at H3
      exact kinds_3 x y (Op.negFloat .f64 x) r nn _ _ _ _ _ _ _ _ _ w (krow x) hl hg hz hn hn' hd (neg_run x) (kind_any x hx) H2 H3 (bits_any x hx) (bits_any y hy) hs hr hb
    · exact kinds_2 x y (Op.negFloat .f64 x) r nn _ _ _ _ _ _ _ _ _ _ w (krow x) hl hg hz hn hn' hd (neg_run x) (kind_any x hx) H2 (kind_any y hy) (bits_any x hx) (bits_any y hy) hs hr (beq_eq_false_iff_ne.2 hk) (bne_iff_ne.2 hk) (by simpa using hk)
end Go.Proofs.Ytbpgbjhjnemaoaa
