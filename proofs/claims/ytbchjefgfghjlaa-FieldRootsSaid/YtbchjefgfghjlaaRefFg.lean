/- The document's sums modulo p. -/
import Derived.Test.YtbchjefgfghjlaaRefFf
namespace Go.Proofs.Ytbchjefgfghjlaa
open Go.RowKit
/-- A row of ints, by its place. -/
structure RowA (w : World) (g off c n : Nat) (q : List Nat) : Prop where
  len : q.length = n
  own : Own w 3 1 (.slice (some ⟨g, off, none⟩) n c) n (cellsI q) (some g)
section
variable {w w' : World} {g off c n : Nat} {q : List Nat}
theorem NewI.rowA {w0 : World} {v : Value} (h : NewI w0 w v q) (hn : 0 < n) (hl : q.length = n) : ∃ g off c, v = .slice (some ⟨g, off, none⟩) n c ∧ w0.heap.size ≤ g ∧ g < w.heap.size ∧ n ≤ c ∧ c ≤ 9223372036854775807 ∧ RowA w g off c n q := by
  obtain ⟨row, ho, _, hnew⟩ := h
  rw [hl] at ho
  obtain ⟨g, off, c, rfl, rfl, hg, hnc, hcm, _, _⟩ := ho.cell1 hn
  refine ⟨g, off, c, rfl, ?_, hg, hnc, hcm, hl, ho⟩
  rcases hnew g rfl with h' | h'
  · cases h'
  · exact h'
theorem RowA.newI {w0 : World} (h : RowA w g off c n q) (ht : Touch [] w0 w) (hg : w0.heap.size ≤ g) : NewI w0 w (.slice (some ⟨g, off, none⟩) n c) q :=
  ⟨some g, by rw [h.len]; exact h.own, ht, .fresh _ _ hg⟩
theorem RowA.touch (h : RowA w g off c n q) (ht : Touch [] w w') : RowA w' g off c n q := ⟨h.len, h.own.touch ht (by simp)⟩
theorem RowA.cell (h : RowA w g off c n q) (k : Nat) (hk : k < n) : w.cell? ⟨g, off + k, none⟩ = some (.int .i64 ((q.getD k 0 : Nat) : Int)) :=
  Own.cellAt h.own (by omega) k _ (cellsI_at (by rw [h.len]; exact hk))
theorem RowA.free (h : RowA w g off c n q) (hn : 0 < n) (k : Nat) : w.frozen? ⟨g, k, none⟩ = false := by
  obtain ⟨_, _, _, hv, _, _, _, _, hf, _⟩ := h.own.cell1 hn
  injection hv with ha _ _
  injection ha with ha
  injection ha with h1 _
  subst h1
  exact hf k
theorem RowA.set (h : RowA w g off c n q) (k x : Nat) (hk : k < n) : RowA (w.setCell ⟨g, off + k, none⟩ (.int .i64 (x : Int))) g off c n (q.set k x) :=
  ⟨by rw [List.length_set]; exact h.len, by rw [← cellsI_set]; exact h.own.set1 k hk _⟩
theorem RowA.far (h : RowA w g off c n q) {a : Addr} (ha : g ≠ a.block) (u : Value) : RowA (w.setCell a u) g off c n q :=
  ⟨h.len, h.own.far (fun _ e => by cases e; exact ha) u⟩
end
/-- Sums, digit by digit. -/
structure AddS (x y r : List Nat) (k : Nat) : Prop where
  len : r.length = 16
  drop : ∀ j, k ≤ j → r.getD j 0 = x.getD j 0
  val : dN r = dN x + dN (y.take k)
  le : ∀ z ∈ r, z ≤ 131072
theorem AddS.step {x y r : List Nat} {k a b : Nat} (h : AddS x y r k) (hk : k < 16) (hx : DigN x) (hy : DigN y) (hyl : y.length = 16) (ha : a = r.getD k 0) (hb : b = y.getD k 0) : AddS x y (r.set k (a + b)) (k + 1) := by
  have h1 := h.len
  refine ⟨by rw [List.length_set]; exact h1, fun j hj => by rw [set_get (by omega)]; exact h.drop j (by omega), ?_, fun z hz => ?_⟩
  · have e1 := dN_set (l := r) (k := k) (by omega) (a + b)
    rw [← ha, h.val] at e1
    rw [dN_take_succ (by omega), ← hb]
    generalize (65536 : Nat) ^ k = P at *
    generalize dN (r.set k (a + b)) = R at *
    grind
  · rcases List.mem_or_eq_of_mem_set hz with h2 | h2
    · exact h.le z h2
    · have h3 := h.drop k (Nat.le_refl _)
      have h4 := hx.at_ k
      have h5 := hy.at_ k
      omega
set_option maxRecDepth 100000 in
set_option maxHeartbeats 1000000 in
theorem refAdd_any (a b : ByteArray) (w : World) : Calls Try.prog 15 #[.string a, .string b] w fun e w' => e = .returned (.string (toS ((lowB a + lowB b) % PP))) ∧ Touch [] w w' := by
  go_enter Try.func15, Try.ntmps15
  go_wp2_with fail
  refine (digits_any a _).mono ?_
  rintro e w1 ⟨v1, x, rfl, hn1, hd1⟩
  obtain ⟨gx, ox, cx, rfl, hgx, hlx, hcx1, hcx2, hrx⟩ := hn1.rowA (by omega) hd1.len
  have Rx := Lib.hid hrx
  have Dx := Lib.hid hd1
  have T1 := Lib.hid hn1.touch
  clear hn1 hd1 hrx
  go_wp2_with fail
  refine (digits_any b _).mono ?_
  rintro e w2 ⟨v2, y, rfl, hn2, hd2⟩
  obtain ⟨gy, oy, cy, rfl, hgy, hly, hcy1, hcy2, hry⟩ := hn2.rowA (by omega) hd2.len
  have Ry := Lib.hid hry
  have Dy := Lib.hid hd2
  have T2 := Lib.hid (T1.out.trans hn2.touch)
  replace Rx := Lib.hid (Rx.out.touch hn2.touch)
  have hne : gx ≠ gy := by omega
  have Hne := Lib.hid hne
  clear hn2 hd2 hry hne T1 hlx hly hgy
  go_wp2_with fail
  go_loopw [7] (fun vi wr => ∃ (k : Nat) (r : List Nat), k ≤ 16 ∧ vi = .int .i64 k ∧ RowA wr gx ox cx 16 r ∧ AddS x y r k ∧ RowA wr gy oy cy 16 y ∧ Touch [] w wr) (fun vi _ => 16 - (intOf vi).toNat)
  case atStart => exact ⟨0, x, by omega, rfl, Rx.out, ⟨Dx.out.len, fun _ _ => rfl, by simp [dN], fun z hz => by have := Dx.out.dig z hz; omega⟩, Ry.out, T2.out⟩
  case round =>
    clear Rx Ry T2
    obtain ⟨k, r, hk, rfl, hx, hS, hy, hT⟩ := hrel
    have Rx := Lib.hid hx
    have Ry := Lib.hid hy
    have HS := Lib.hid hS
    have HT := Lib.hid hT
    clear hx hy hS hT
    by_cases hk16 : k < 16
    · have hcx := Rx.out.cell k hk16
      have hfx := Rx.out.free (by omega) (ox + k)
      have hcy := Ry.out.cell k hk16
      have hst := HS.out.step hk16 Dx.out.dig Dy.out.dig Dy.out.len (a := r.getD k 0) (b := y.getD k 0) rfl rfl
      have hab := getD_le HS.out.le k
      have hbb := Dy.out.dig.at_ k
      obtain ⟨m, hm⟩ : ∃ m, m = r.getD k 0 := ⟨_, rfl⟩
      obtain ⟨n, hn⟩ : ∃ n, n = y.getD k 0 := ⟨_, rfl⟩
      rw [← hm] at hcx hst hab
      rw [← hn] at hcy hst hbb
      have Hst := Lib.hid hst
      clear hm hn hst
      go_wp2_with fail
      go_region
      go_wp2_with fail
      go_roundw
      case rel =>
        have hcast : (m : Int) + (n : Int) = ((m + n : Nat) : Int) := by omega
        rw [hcast]
        exact ⟨k + 1, _, by omega, by go_num, (Rx.out.set k (m + n) hk16).touch (Touch.refl _ _).drew, Hst.out, (Ry.out.far (Ne.symm Hne.out) _).touch (Touch.refl _ _).drew, (HT.out.setCell (.inr hgx) _).drew⟩
      case measure => simp [intOf]; omega
    · obtain rfl : k = 16 := by omega
      have hv := HS.out.val
      rw [List.take_of_length_le (by rw [Dy.out.len]; omega), Dx.out.val, Dy.out.val] at hv
      have hlt : dN r < 65536 ^ 32 := by
        rw [hv]
        have h1 := lowB_lt a
        have h2 := lowB_lt b
        unfold lowB at h1 h2
        have h3 : (65536 : Nat) ^ 16 + 65536 ^ 16 < 65536 ^ 32 := by decide
        omega
      have hle := HS.out.le
      have HTx := Lib.hid (fun W (h : W = wr) => h ▸ text_new (Rx.out.newI HT.out hgx) (by rw [Rx.out.len]; omega) (by rw [Rx.out.len]; omega) (fun z hz => Nat.le_trans (hle z hz) (by decide)) hlt)
      have Hv := Lib.hid hv
      clear hv hlt hle
      go_wp2_with fail
      refine (HTx.out _ rfl).mono ?_
      rintro e w3 ⟨rfl, ht⟩
      have Ht := Lib.hid ht
      clear ht HTx
      go_wp2_with fail
      go_ret
      exact ⟨by rw [Hv.out]; rfl, HT.out.trans Ht.out⟩
end Go.Proofs.Ytbchjefgfghjlaa
