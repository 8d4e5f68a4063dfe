/- syngraphref01.Same: are two lists of texts the same? -/
import Derived.Test.YtkphcgcciiefoaaStrs
import Derived.Test.YtkphcgcciiefoaaSep
namespace Go.Proofs.Ytkphcgcciiefoaa
open Go.RowKit
def eqL (a b : List ByteArray) : Bool := decide (a = b)
theorem eqL_len {a b : List ByteArray} (h : a.length ≠ b.length) : eqL a b = false := by
  unfold eqL; rw [decide_eq_false_iff_not]; intro e; exact h (by rw [e])
theorem eqL_self (a : List ByteArray) : eqL a a = true := by unfold eqL; simp
theorem eqL_of {a b : List ByteArray} {n k : Nat} (ha : a.length = n) (hb : b.length = n) (hk : n ≤ k) (h : a.take k = b.take k) : eqL a b = true := by
  rw [List.take_of_length_le (by omega), List.take_of_length_le (by omega)] at h
  rw [h]; exact eqL_self b
theorem eqL_ne {a b : List ByteArray} {k : Nat} (ha : k < a.length) (hb : k < b.length) (h : ¬ a[k] = b[k]) : eqL a b = false := by
  unfold eqL; rw [decide_eq_false_iff_not]; intro e; subst e; exact h rfl
theorem take_eq_succ {a b : List ByteArray} {k : Nat} (ha : k < a.length) (hb : k < b.length) (h : a[k] = b[k]) (ht : a.take k = b.take k) : a.take (k + 1) = b.take (k + 1) := by
  rw [List.take_succ_eq_append_getElem ha, List.take_succ_eq_append_getElem hb, ht, h]

/-- It answers b, and only draws. -/
def Asked (b : Bool) (w : World) (e : Ending) (w' : World) : Prop := e = .returned (.bool b) ∧ ∃ m, w.drewN m = w'
theorem same_len (A B : Option Addr) (n m c d : Nat) (L M : List ByteArray) (hL : L.length = n) (hM : M.length = m) (h : n ≠ m) (w : World) :
    Calls Try.prog 13 #[.slice A n c, .slice B m d] w (Asked (eqL L M) w) := by
  have hh : ((n : Int) != (m : Int)) = true := by rw [bne_iff_ne]; omega
  have H := Lib.hid (eqL_len (a := L) (b := M) (by omega))
  clear hL hM h
  go_enter Try.func13, Try.ntmps13
  go_wp2
  go_ret
  exact ⟨ret_bool H.out.symm, 0, rfl⟩
theorem same_zero (A B : Option Addr) (c d : Nat) (w : World) :
    Calls Try.prog 13 #[.slice A 0 c, .slice B 0 d] w (Asked true w) := by
  go_enter Try.func13, Try.ntmps13
  go_wp2
  refine wp_loop_rounds 1 ?_; rw [rounds_succ]; go_wp2
  go_ret
  exact ⟨rfl, 0, rfl⟩
set_option maxHeartbeats 400000 in
theorem same_some (g off g' off' n c d : Nat) (L M : List ByteArray) (w : World) (hL : L.length = n) (hM : M.length = n) (hn : n ≤ maxLen)
    (hc : ∀ j (h : j < L.length), w.cell? ⟨g, off + j, none⟩ = some (.string L[j])) (hd : ∀ j (h : j < M.length), w.cell? ⟨g', off' + j, none⟩ = some (.string M[j])) :
    Calls Try.prog 13 #[.slice (some ⟨g, off, none⟩) n c, .slice (some ⟨g', off', none⟩) n d] w (Asked (eqL L M) w) := by
  unfold maxLen at hn
  have HL := Lib.hid hL
  have HM := Lib.hid hM
  clear hL hM
  go_enter Try.func13, Try.ntmps13
  go_wp2
  go_loopw [5] (fun i wr => ∃ k m : Nat, k ≤ n ∧ i = .int .i64 k ∧ L.take k = M.take k ∧ wr = w.drewN m) (fun i _ => n - (intOf i).toNat)
  case atStart => exact ⟨0, 0, by omega, rfl, by simp, rfl⟩
  case round =>
    obtain ⟨k, m, hk, rfl, ht, rfl⟩ := hrel
    have Ht := Lib.hid ht; clear ht
    by_cases hlt : k < n
    · have hkL : k < L.length := by rw [HL.out]; exact hlt
      have hkM : k < M.length := by rw [HM.out]; exact hlt
      have h1 : w.cell? ⟨g, off + k, none⟩ = some (.string L[k]) := hc k _
      have h2 : w.cell? ⟨g', off' + k, none⟩ = some (.string M[k]) := hd k _
      clear hc hd
      go_wp2
      go_quiet (fail)
      go_wp2
      · have h : (!L[k].toList == M[k].toList) = true := by assumption
        rw [str_beq, Bool.not_eq_true', decide_eq_false_iff_not] at h
        go_ret
        exact ⟨ret_bool (eqL_ne hkL hkM h).symm, m + nq, (World.drewN_drewN _ _ _).symm⟩
      · have h : (!L[k].toList == M[k].toList) = false := by assumption
        rw [str_beq, Bool.not_eq_false', decide_eq_true_eq] at h
        go_roundw
        case rel => exact ⟨k + 1, m + nq, by omega, by go_num, take_eq_succ hkL hkM h Ht.out, rfl⟩
        case measure => simp [intOf]; omega
    · go_wp2
      go_ret
      exact ⟨ret_bool (eqL_of HL.out HM.out (by omega) Ht.out).symm, m, rfl⟩
theorem same_Own {r q : Option Nat} (v u : Value) (L M : List ByteArray) (w : World) (h : Own w 9 1 v L.length (cellsS L) r) (k : Own w 9 1 u M.length (cellsS M) q) :
    Calls Try.prog 13 #[v, u] w (Asked (eqL L M) w) := by
  by_cases hlm : L.length = M.length
  · by_cases h0 : L.length = 0
    · obtain rfl := List.eq_nil_of_length_eq_zero h0
      obtain rfl := List.eq_nil_of_length_eq_zero (hlm.symm.trans h0)
      obtain ⟨A, c, rfl, _⟩ := h.shape
      obtain ⟨A', c', rfl, _⟩ := k.shape
      exact same_zero A A' c c' w
    · obtain ⟨g, off, c, cur, rfl, _, hb, _, hnc, hcm, _, hx⟩ := h.at_ (by omega)
      obtain ⟨g', off', c', cur', rfl, _, hb', _, hnc', hcm', _, hx'⟩ := k.at_ (by omega)
      rw [← hlm]
      exact same_some g off g' off' L.length c c' L M w rfl hlm.symm (by omega) (fun j hj => by rw [hb.cell]; exact hx j _ (by simp [cellsS, hj])) (fun j hj => by rw [hb'.cell]; exact hx' j _ (by simp [cellsS, hj]))
  · obtain ⟨A, c, rfl, _⟩ := h.shape
    obtain ⟨A', c', rfl, _⟩ := k.shape
    exact same_len A A' _ _ c c' L M rfl rfl hlm w
theorem Asked.sep {b : Bool} {w w0 : World} {B : Nat} {rs : List Res} (h : Sep w0 B w rs) {e : Ending} {w' : World} (ha : Asked b w e w') : e = .returned (.bool b) ∧ Sep w0 B w' rs := by
  obtain ⟨he, m, rfl⟩ := ha
  exact ⟨he, h.drewN m⟩
theorem same_sep {w w0 : World} {B : Nat} {rs : List Res} (h : Sep w0 B w rs) (i j : Nat) {v u : Value} {L M : List ByteArray} (hi : rs[i]? = some (slRes 9 1 v L.length (cellsS L))) (hj : rs[j]? = some (slRes 9 1 u M.length (cellsS M))) :
    Calls Try.prog 13 #[v, u] w fun e w' => e = .returned (.bool (eqL L M)) ∧ Sep w0 B w' rs := by
  obtain ⟨F, r, rfl, ho⟩ := h.look i hi
  obtain ⟨G, q, rfl, hp⟩ := h.look j hj
  exact (same_Own v u L M w ho hp).mono fun e w' ha => ha.sep h
end Go.Proofs.Ytkphcgcciiefoaa
