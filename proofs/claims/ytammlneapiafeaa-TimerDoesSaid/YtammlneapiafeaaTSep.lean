/- A heap among other objects; Ints. -/
import Derived.Test.YtammlneapiafeaaTimer2
namespace Go.Proofs.Ytammlneapiafeaa
open Go.RowKit
/-- One object is worked on, and makes another one in new memory. -/
theorem Sep.focusAdd {w0 w : World} {B : Nat} {rs : List Res} (h : Sep w0 B w rs) (i : Nat) {r : Res} (hi : rs[i]? = some r) :
    ∃ F, r.P F w ∧ ∀ (w' : World) (r' q : Res) (G : List Nat), r'.P F w' → q.P G w' → Touch F w w' → (∀ k, k ∈ G → w.heap.size ≤ k) → Sep w0 B w' (q :: rs.set i r') := by
  obtain ⟨hb, hB, F, h1, h2⟩ := h
  have hil : i < rs.length := (List.getElem?_eq_some_iff.1 hi).1
  have hBw : B ≤ w.heap.size := Nat.le_trans hB hb.size
  have hlt : ∀ m, m < rs.length → ∀ k, k ∈ F m → k < w.heap.size := fun m hm k hk => (rs[m]).lt _ _ (h1 m rs[m] (List.getElem?_eq_getElem hm)).1 k hk
  refine ⟨F i, (h1 i r hi).1, fun w' r' q G hP hq ht hn => ⟨hb.trans (ht.below hBw (h1 i r hi).2), hB, fun j => match j with | 0 => G | j + 1 => F j, fun j s hs => ?_, fun j l hj hl hne k hk => ?_⟩⟩
  · match j, hs with
    | 0, hs =>
      simp at hs
      subst hs
      exact ⟨hq, fun k hk => Nat.le_trans hBw (hn k hk)⟩
    | j + 1, hs =>
      simp only [List.getElem?_cons_succ] at hs
      by_cases hji : j = i
      · subst hji
        rw [List.getElem?_set_self hil] at hs
        injection hs with hs
        subst hs
        exact ⟨hP, (h1 j r hi).2⟩
      · rw [List.getElem?_set_ne (Ne.symm hji)] at hs
        refine ⟨s.loc _ _ _ (h1 j s hs).1 (fun k hk => ht.block k (s.lt _ _ (h1 j s hs).1 k hk) ?_), (h1 j s hs).2⟩
        exact h2 j i (List.getElem?_eq_some_iff.1 hs).1 hil hji k hk
  · simp only [List.length_cons, List.length_set] at hj hl
    match j, l, hj, hl, hne, hk with
    | 0, 0, _, _, hne, _ => exact absurd rfl hne
    | 0, l + 1, _, hl, _, hk =>
      intro hkl
      have h3 := hlt l (by omega) k hkl
      have h4 := hn k hk
      omega
    | j + 1, 0, hj, _, _, hk =>
      intro hkl
      have h3 := hlt j (by omega) k hk
      have h4 := hn k hkl
      omega
    | j + 1, l + 1, hj, hl, hne, hk => exact h2 j l (by omega) (by omega) (fun e => hne (by rw [e])) k hk

/-- A heap: its alarms in order, no id twice, no more than can be. -/
def hRes (p : Nat) (S : List Al) (most : Int) : Res where
  P F w := (∃ row, F = p :: Option.toList row ∧ STAt w p S most row) ∧ SOk S ∧ (S.length : Int) ≤ most ∧ most ≤ 10000
  loc F w w' h hk := by
    obtain ⟨⟨row, rfl, M, ⟨A, c, hb, ho⟩, h1, h2⟩, h3⟩ := h
    obtain ⟨row', hr', ho'⟩ := (slRes 59 2 (.slice A M.length c) M.length (cellsA M)).loc (Option.toList row) w w' ⟨row, rfl, ho⟩ (fun k hk' => hk k (List.mem_cons_of_mem _ hk'))
    have : row = row' := by cases row <;> cases row' <;> simp_all
    subst this
    exact ⟨⟨row, rfl, M, ⟨A, c, (hk p (by simp)).trans hb, ho'⟩, h1, h2⟩, h3⟩
  lt F w h k hk := by
    obtain ⟨⟨row, rfl, M, hh, _, _⟩, _⟩ := h
    rcases List.mem_cons.1 hk with rfl | hk
    · exact hh.lt
    · exact hh.rowLt (Option.mem_toList.1 hk)
theorem h_foot {w : World} {p : Nat} {row row' : Option Nat} (h : NewRow w row row') : ∀ k, k ∈ p :: row'.toList → k ∈ p :: row.toList ∨ w.heap.size ≤ k := by
  intro k hk
  rcases List.mem_cons.1 hk with rfl | hk
  · exact .inl (by simp)
  · exact (newRow_foot h k hk).elim (fun h => .inl (List.mem_cons_of_mem _ h)) .inr
section
variable {w0 w : World} {B : Nat} {rs : List Res} {p : Nat} {S : List Al} {most : Int}
def Gives (v : Value) (w0 : World) (B : Nat) (rs : List Res) (e : Ending) (w' : World) : Prop := e = .returned v ∧ Sep w0 B w' rs
def NewHeap (S : List Al) (most : Int) (w0 : World) (B : Nat) (rs : List Res) (e : Ending) (w' : World) : Prop := ∃ p', e = .returned (.tuple #[.pointer (some ⟨p', 0, none⟩), .int .i64 0]) ∧ Sep w0 B w' (hRes p' S most :: rs)
def CopyHeap (S : List Al) (most : Int) (w0 : World) (B : Nat) (rs : List Res) (e : Ending) (w' : World) : Prop := ∃ p', e = .returned (.pointer (some ⟨p', 0, none⟩)) ∧ Sep w0 B w' (hRes p' S most :: rs)
/-- A list of ints that is owned. -/
def iRes (v : Value) (L : List Int) : Res := slRes 3 1 v L.length (cellsI L)
def Pops (D T : List Al) (p : Nat) (most : Int) (i : Nat) (w0 : World) (B : Nat) (rs : List Res) (e : Ending) (w' : World) : Prop :=
  ∃ A c, e = .returned (.slice A D.length c) ∧ Sep w0 B w' (iRes (.slice A D.length c) (D.map Prod.snd) :: rs.set i (hRes p T most))
theorem newT_sep (h : Sep w0 B w rs) (m : Int) (h1 : 1 ≤ m) (h2 : m ≤ 10000) :
    Calls Try.prog 8 #[.int .i64 m] w (NewHeap [] m w0 B rs) :=
  (timerNew_ok m w h1 h2).mono fun e w' ⟨he, hw⟩ => by
    subst hw
    exact ⟨w.heap.size, he, h.add (r := hRes w.heap.size [] m) ⟨⟨none, rfl, STAt.new w m⟩, SOk.nil, by simp; omega, h2⟩ ((Touch.refl _ _).alloc _) (by simp)⟩
theorem setS_max {S : List Al} {most : Int} (h : (S.length : Int) ≤ most) (id at_ : Int) : ((setS S most id at_).length : Int) ≤ most := by
  unfold setS
  split
  · exact h
  · split
    · exact h
    · rw [insS_len]; omega
theorem setT_sep (h : Sep w0 B w rs) (i : Nat) (hi : rs[i]? = some (hRes p S most)) (id at_ : Int) :
    Calls Try.prog 9 #[.pointer (some ⟨p, 0, none⟩), .int .i64 id, .int .u64 at_] w (Gives (.int .i64 (setCode S most id)) w0 B (rs.set i (hRes p (setS S most id at_) most))) := by
  obtain ⟨F, ⟨⟨row, rfl, hq⟩, hok, hm, hm2⟩, hset⟩ := h.focus i hi
  exact (set_any p S most row id at_ w hq (by omega)).mono fun e w' ⟨row', he, hq', ht, hn⟩ => ⟨he, hset w' _ _ ⟨⟨row', rfl, hq'⟩, setS_ok hok _ _ _, setS_max hm _ _, hm2⟩ ht (h_foot hn)⟩
theorem dropT_sep (h : Sep w0 B w rs) (i : Nat) (hi : rs[i]? = some (hRes p S most)) (id : Int) :
    Calls Try.prog 14 #[.pointer (some ⟨p, 0, none⟩), .int .i64 id] w (Gives (.int .i64 (dropCode S id)) w0 B (rs.set i (hRes p (dropS S id) most))) := by
  obtain ⟨F, ⟨⟨row, rfl, hq⟩, hok, hm, hm2⟩, hset⟩ := h.focus i hi
  exact (drop_any p S most row id w hq hok (by omega)).mono fun e w' ⟨row', he, hq', ht, hn⟩ => ⟨he, hset w' _ _ ⟨⟨row', rfl, hq'⟩, hok.drop id, by have := dropS_len S id; omega, hm2⟩ ht (h_foot hn)⟩
theorem popT_sep (h : Sep w0 B w rs) (i : Nat) (hi : rs[i]? = some (hRes p S most)) (now : Int) :
    Calls Try.prog 10 #[.pointer (some ⟨p, 0, none⟩), .int .u64 now] w (Pops (goneS S now) (leftS S now) p most i w0 B rs) := by
  obtain ⟨F, ⟨⟨row, rfl, hq⟩, hok, hm, hm2⟩, hset⟩ := h.focusAdd i hi
  refine (pop_any p S most row now w hq hok (by omega)).mono fun e w' ⟨A, c, rowo, he, hq', ho, ht, hn⟩ => ⟨A, c, he, hset w' _ _ rowo.toList ⟨⟨row, rfl, hq'⟩, hok.left now, by have := leftS_len S now; omega, hm2⟩ ⟨rowo, rfl, ?_⟩ ht (fun k hk => (hn k (Option.mem_toList.1 hk)).elim (fun e => by cases e) id)⟩
  rw [List.length_map]
  exact ho
theorem nextT_sep (h : Sep w0 B w rs) (i : Nat) (hi : rs[i]? = some (hRes p S most)) :
    Calls Try.prog 13 #[.pointer (some ⟨p, 0, none⟩)] w fun e w' => e = .returned (nextV S) ∧ w = w' := by
  obtain ⟨F, ⟨row, rfl, hq⟩, hok, hm, hm2⟩ := h.look i hi
  exact next_any p S most row w hq hok (by omega)
theorem lenT_sep (h : Sep w0 B w rs) (i : Nat) (hi : rs[i]? = some (hRes p S most)) :
    Calls Try.prog 11 #[.pointer (some ⟨p, 0, none⟩)] w fun e w' => e = .returned (.int .i64 S.length) ∧ w = w' := by
  obtain ⟨F, ⟨row, rfl, hq⟩, hok, hm, hm2⟩ := h.look i hi
  exact len_any p S most row w hq
theorem copyT_sep (h : Sep w0 B w rs) (i : Nat) (hi : rs[i]? = some (hRes p S most)) :
    Calls Try.prog 20 #[.pointer (some ⟨p, 0, none⟩)] w (CopyHeap S most w0 B rs) := by
  obtain ⟨F, ⟨row, rfl, hq⟩, hok, hm, hm2⟩ := h.look i hi
  refine (copyT_any p S most row w hq (by omega)).mono fun e w' ⟨p', row', he, hq', ht, hp, hn⟩ => ?_
  exact ⟨p', he, h.add (r := hRes p' S most) ⟨⟨row', rfl, hq'⟩, hok, hm, hm2⟩ ht (fun k hk => by
    rcases List.mem_cons.1 hk with rfl | hk
    · exact hp
    · exact (hn k (Option.mem_toList.1 hk)).elim (fun e => by cases e) id)⟩
/-- What is known of a heap's list. -/
theorem heap_facts (h : Sep w0 B w rs) (i : Nat) (hi : rs[i]? = some (hRes p S most)) : SOk S ∧ (S.length : Int) ≤ most := by
  obtain ⟨F, _, hok, hm, _⟩ := h.look i hi
  exact ⟨hok, hm⟩
end

/-! ### Ints -/
def eqI (a b : List Int) : Bool := decide (a = b)
theorem eqI_self (a : List Int) : eqI a a = true := by unfold eqI; simp
theorem eqI_len {a b : List Int} (h : a.length ≠ b.length) : eqI a b = false := by
  unfold eqI; rw [decide_eq_false_iff_not]; intro e; exact h (by rw [e])
theorem eqI_of {a b : List Int} {n k : Nat} (ha : a.length = n) (hb : b.length = n) (hk : n ≤ k) (h : a.take k = b.take k) : eqI a b = true := by
  rw [List.take_of_length_le (by omega), List.take_of_length_le (by omega)] at h
  rw [h]; exact eqI_self b
theorem eqI_ne {a b : List Int} {k : Nat} (ha : k < a.length) (hb : k < b.length) (h : ¬ a[k] = b[k]) : eqI a b = false := by
  unfold eqI; rw [decide_eq_false_iff_not]; intro e; subst e; exact h rfl
theorem take_eqI {a b : List Int} {k : Nat} (ha : k < a.length) (hb : k < b.length) (h : a[k] = b[k]) (ht : a.take k = b.take k) : a.take (k + 1) = b.take (k + 1) := by
  rw [List.take_succ_eq_append_getElem ha, List.take_succ_eq_append_getElem hb, ht, h]
/-- It answers b, and only draws. -/
def Asked (b : Bool) (w : World) (e : Ending) (w' : World) : Prop := e = .returned (.bool b) ∧ ∃ m, w.drewN m = w'
theorem ints_len (A B : Option Addr) (n m c d : Nat) (L M : List Int) (hL : L.length = n) (hM : M.length = m) (h : n ≠ m) (w : World) :
    Calls Try.prog 15 #[.slice A n c, .slice B m d] w (Asked (eqI L M) w) := by
  have hh : ((n : Int) != (m : Int)) = true := by rw [bne_iff_ne]; omega
  have H := Lib.hid (eqI_len (a := L) (b := M) (by omega))
  clear hL hM h
  go_enter Try.func15, Try.ntmps15
  go_wp2
  go_ret
  exact ⟨ret_bool H.out.symm, 0, rfl⟩
theorem ints_zero (A B : Option Addr) (c d : Nat) (w : World) :
    Calls Try.prog 15 #[.slice A 0 c, .slice B 0 d] w (Asked true w) := by
  go_enter Try.func15, Try.ntmps15
  go_wp2
  refine wp_loop_rounds 1 ?_; rw [rounds_succ]; go_wp2
  go_ret
  exact ⟨rfl, 0, rfl⟩
set_option maxHeartbeats 400000 in
theorem ints_some (g off g' off' n c d : Nat) (L M : List Int) (w : World) (hL : L.length = n) (hM : M.length = n) (hn : n ≤ maxLen)
    (hc : ∀ j (h : j < L.length), w.cell? ⟨g, off + j, none⟩ = some (.int .i64 L[j])) (hd : ∀ j (h : j < M.length), w.cell? ⟨g', off' + j, none⟩ = some (.int .i64 M[j])) :
    Calls Try.prog 15 #[.slice (some ⟨g, off, none⟩) n c, .slice (some ⟨g', off', none⟩) n d] w (Asked (eqI L M) w) := by
  unfold maxLen at hn
  have HL := Lib.hid hL
  have HM := Lib.hid hM
  clear hL hM
  go_enter Try.func15, Try.ntmps15
  go_wp2
  go_loopw [5] (fun i wr => ∃ k m : Nat, k ≤ n ∧ i = .int .i64 k ∧ L.take k = M.take k ∧ wr = w.drewN m) (fun i _ => n - (intOf i).toNat)
  case atStart => exact ⟨0, 0, by omega, rfl, by simp, rfl⟩
  case round =>
    obtain ⟨k, m, hk, rfl, ht, rfl⟩ := hrel
    have Ht := Lib.hid ht; clear ht
    by_cases hlt : k < n
    · have hkL : k < L.length := by rw [HL.out]; exact hlt
      have hkM : k < M.length := by rw [HM.out]; exact hlt
      have h1 : w.cell? ⟨g, off + k, none⟩ = some (.int .i64 L[k]) := hc k _
      have h2 : w.cell? ⟨g', off' + k, none⟩ = some (.int .i64 M[k]) := hd k _
      clear hc hd
      by_cases hne : L[k] = M[k]
      · have hb : (L[k] != M[k]) = false := by rw [hne]; simp
        have Hne := Lib.hid hne
        clear hne
        go_wp2
        go_quiet (fail)
        go_wp2
        go_roundw
        case rel => exact ⟨k + 1, m + nq, by omega, by go_num, take_eqI hkL hkM Hne.out Ht.out, rfl⟩
        case measure => simp [intOf]; omega
      · have hb : (L[k] != M[k]) = true := by rw [bne_iff_ne]; exact hne
        have Hne := Lib.hid hne
        clear hne
        go_wp2
        go_quiet (fail)
        go_wp2
        go_ret
        exact ⟨ret_bool (eqI_ne hkL hkM Hne.out).symm, m + nq, (World.drewN_drewN _ _ _).symm⟩
    · go_wp2
      go_ret
      exact ⟨ret_bool (eqI_of HL.out HM.out (by omega) Ht.out).symm, m, rfl⟩
theorem ints_Own {r q : Option Nat} (v u : Value) (L M : List Int) (w : World) (h : Own w 3 1 v L.length (cellsI L) r) (k : Own w 3 1 u M.length (cellsI M) q) :
    Calls Try.prog 15 #[v, u] w (Asked (eqI L M) w) := by
  by_cases hlm : L.length = M.length
  · by_cases h0 : L.length = 0
    · obtain rfl := List.eq_nil_of_length_eq_zero h0
      obtain rfl := List.eq_nil_of_length_eq_zero (hlm.symm.trans h0)
      obtain ⟨A, c, rfl, _⟩ := h.shape
      obtain ⟨A', c', rfl, _⟩ := k.shape
      exact ints_zero A A' c c' w
    · obtain ⟨g, off, c, cur, rfl, _, hb, _, hnc, hcm, _, hx⟩ := h.at_ (by omega)
      obtain ⟨g', off', c', cur', rfl, _, hb', _, hnc', hcm', _, hx'⟩ := k.at_ (by omega)
      rw [← hlm]
      exact ints_some g off g' off' L.length c c' L M w rfl hlm.symm (by omega) (fun j hj => by rw [hb.cell]; exact hx j _ (by simp [cellsI, hj])) (fun j hj => by rw [hb'.cell]; exact hx' j _ (by simp [cellsI, hj]))
  · obtain ⟨A, c, rfl, _⟩ := h.shape
    obtain ⟨A', c', rfl, _⟩ := k.shape
    exact ints_len A A' _ _ c c' L M rfl rfl hlm w
theorem ints_sep {w w0 : World} {B : Nat} {rs : List Res} (h : Sep w0 B w rs) (i j : Nat) {v u : Value} {L M : List Int} (hi : rs[i]? = some (iRes v L)) (hj : rs[j]? = some (iRes u M)) :
    Calls Try.prog 15 #[v, u] w (Gives (.bool (eqI L M)) w0 B rs) := by
  obtain ⟨F, r, rfl, ho⟩ := h.look i hi
  obtain ⟨G, q, rfl, hp⟩ := h.look j hj
  exact (ints_Own v u L M w ho hp).mono fun e w' ⟨he, m, hm⟩ => by subst hm; exact ⟨he, h.drewN m⟩
end Go.Proofs.Ytammlneapiafeaa
