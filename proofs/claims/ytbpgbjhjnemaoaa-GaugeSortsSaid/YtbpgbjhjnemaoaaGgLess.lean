/- Kind, Bits, Less: of the program and of the document. -/
import Derived.Test.YtbpgbjhjnemaoaaGgKind
namespace Go.Proofs.Ytbpgbjhjnemaoaa
open Go Go.RowKit
theorem lt0 (b : Nat) (h : b < 18446744073709551616) : (FloatKind.f64.format.order b 0 == some .lt) = (!isN b && decide (sv b < 0)) := by
  rw [ordf_lt b _ h (by decide), show isN 0 = false by decide, show sv 0 = 0 by decide]
  simp
theorem gt0 (b : Nat) (h : b < 18446744073709551616) : (FloatKind.f64.format.order b 0 == some .gt) = (!isN b && decide (0 < sv b)) := by
  rw [ordf_gt b _ h (by decide), show isN 0 = false by decide, show sv 0 = 0 by decide]
  simp
set_option maxRecDepth 100000 in
set_option maxHeartbeats 1000000 in
theorem kind_any (b : Nat) (h : b < 18446744073709551616) (w : World) : Calls Try.prog 9 #[.float .f64 b] w fun e w' => e = .returned (.int .i64 (fk b)) ∧ w' = w := by
  have HN := Lib.hid (fun W : World => isNaN_any b h W)
  have HP := Lib.hid (fun W : World => isInf_p b h W)
  have HM := Lib.hid (fun W : World => isInf_m b h W)
  have HS := Lib.hid (fun W : World => signbit_any b h W)
  have hl := lt0 b h
  have hg := gt0 b h
  have hm := mg_lt b
  have go : ∀ (n p m l g s : Bool), isN b = n → infP b = p → infM b = m → (FloatKind.f64.format.order b 0 == some .lt) = l → (FloatKind.f64.format.order b 0 == some .gt) = g → sg b = s →
      (if n then 7 else if m then 1 else if p then 6 else if l then 2 else if g then 5 else if s then 3 else 4) = fk b →
      Calls Try.prog 9 #[.float .f64 b] w fun e w' => e = .returned (.int .i64 (fk b)) ∧ w' = w := by
    intro n p m l g s e1 e2 e3 e4 e5 e6 hk
    rw [e1] at HN; rw [e2] at HP; rw [e3] at HM; rw [e6] at HS
    obtain ⟨k, hk2⟩ : ∃ k, k = fk b := ⟨_, rfl⟩
    rw [← hk2] at hk ⊢
    have HK := Lib.hid hk
    clear hk hk2 e1 e2 e3 e6 hl hg hm h
    cases n
    · cases m
      · cases p
        · cases l
          · cases g
            · cases s
              all_goals
                go_enter Try.func9, Try.ntmps9
                go_wp2_with fail
                refine (HN.out _).mono ?_
                rintro e w1 ⟨rfl, rfl⟩
                go_wp2_with fail
                refine (HM.out _).mono ?_
                rintro e w1 ⟨rfl, rfl⟩
                go_wp2_with fail
                refine (HP.out _).mono ?_
                rintro e w1 ⟨rfl, rfl⟩
                go_wp2_with fail
                refine (HS.out _).mono ?_
                rintro e w1 ⟨rfl, rfl⟩
                go_wp2_with fail
                go_ret
                exact ⟨ret_int HK.out, rfl⟩
            · go_enter Try.func9, Try.ntmps9
              go_wp2_with fail
              refine (HN.out _).mono ?_
              rintro e w1 ⟨rfl, rfl⟩
              go_wp2_with fail
              refine (HM.out _).mono ?_
              rintro e w1 ⟨rfl, rfl⟩
              go_wp2_with fail
              refine (HP.out _).mono ?_
              rintro e w1 ⟨rfl, rfl⟩
              go_wp2_with fail
              go_ret
              exact ⟨ret_int HK.out, rfl⟩
          · go_enter Try.func9, Try.ntmps9
            go_wp2_with fail
            refine (HN.out _).mono ?_
            rintro e w1 ⟨rfl, rfl⟩
            go_wp2_with fail
            refine (HM.out _).mono ?_
            rintro e w1 ⟨rfl, rfl⟩
            go_wp2_with fail
            refine (HP.out _).mono ?_
            rintro e w1 ⟨rfl, rfl⟩
            go_wp2_with fail
            go_ret
            exact ⟨ret_int HK.out, rfl⟩
        · go_enter Try.func9, Try.ntmps9
          go_wp2_with fail
          refine (HN.out _).mono ?_
          rintro e w1 ⟨rfl, rfl⟩
          go_wp2_with fail
          refine (HM.out _).mono ?_
          rintro e w1 ⟨rfl, rfl⟩
          go_wp2_with fail
          refine (HP.out _).mono ?_
          rintro e w1 ⟨rfl, rfl⟩
          go_wp2_with fail
          go_ret
          exact ⟨ret_int HK.out, rfl⟩
      · go_enter Try.func9, Try.ntmps9
        go_wp2_with fail
        refine (HN.out _).mono ?_
        rintro e w1 ⟨rfl, rfl⟩
        go_wp2_with fail
        refine (HM.out _).mono ?_
        rintro e w1 ⟨rfl, rfl⟩
        go_wp2_with fail
        go_ret
        exact ⟨ret_int HK.out, rfl⟩
    · go_enter Try.func9, Try.ntmps9
      go_wp2_with fail
      refine (HN.out _).mono ?_
      rintro e w1 ⟨rfl, rfl⟩
      go_wp2_with fail
      go_ret
      exact ⟨ret_int HK.out, rfl⟩
  refine go _ _ _ _ _ _ rfl rfl rfl rfl rfl rfl ?_
  rw [hl, hg]
  unfold infP infM fk sv
  by_cases hn : isN b = true
  · simp [hn]
  · have : mg b ≤ 9218868437227405312 := Nat.le_of_not_lt (fun h => hn (decide_eq_true h))
    simp only [hn, Bool.false_eq_true, if_false, Bool.not_false, Bool.true_and]
    cases sg b <;> simp only [Bool.true_and, Bool.false_and, Bool.not_true, Bool.not_false, if_true, if_false, Bool.false_eq_true, decide_eq_true_eq] <;> (repeat' split) <;> first | rfl | (exfalso; omega)
theorem bits_any (b : Nat) (h : b < 18446744073709551616) (w : World) : Calls Try.prog 11 #[.float .f64 b] w fun e w' => e = .returned (.int .u64 (bitsF b : Int)) ∧ w' = w := by
  have hr := bits_run b
  have HN := Lib.hid (fun W : World => isNaN_any b h W)
  unfold bitsF
  clear h
  by_cases hn : isN b = true
  · rw [hn] at HN
    rw [if_pos hn]
    clear hn
    go_enter Try.func11, Try.ntmps11
    go_wp2_with fail
    refine (HN.out _).mono ?_
    rintro e w1 ⟨rfl, rfl⟩
    go_wp2_with fail
    go_ret
    exact ⟨rfl, rfl⟩
  · rw [show isN b = false by simpa using hn] at HN
    rw [if_neg hn]
    clear hn
    obtain ⟨x, hx⟩ : ∃ x : Int, x = (b : Int) := ⟨_, rfl⟩
    rw [← hx] at hr ⊢
    clear hx
    go_enter Try.func11, Try.ntmps11
    go_wp2_with fail
    refine (HN.out _).mono ?_
    rintro e w1 ⟨rfl, rfl⟩
    go_wp2_with fail
    go_ret
    exact ⟨rfl, rfl⟩
theorem rbits_any (b : Nat) (h : b < 18446744073709551616) (w : World) : Calls Try.prog 12 #[.float .f64 b] w fun e w' => e = .returned (.int .u64 (bitsF b : Int)) ∧ w' = w := by
  have hr := bits_run b
  have hs := ord_self b h
  unfold bitsF
  clear h
  by_cases hn : isN b = true
  · rw [hn] at hs
    rw [if_pos hn]
    clear hn
    go_enter Try.func12, Try.ntmps12
    go_wp2_with fail
    go_ret
    exact ⟨rfl, rfl⟩
  · rw [show isN b = false by simpa using hn] at hs
    rw [if_neg hn]
    clear hn
    obtain ⟨x, hx⟩ : ∃ x : Int, x = (b : Int) := ⟨_, rfl⟩
    rw [← hx] at hr ⊢
    clear hx
    go_enter Try.func12, Try.ntmps12
    go_wp2_with fail
    go_ret
    exact ⟨rfl, rfl⟩
end Go.Proofs.Ytbpgbjhjnemaoaa
