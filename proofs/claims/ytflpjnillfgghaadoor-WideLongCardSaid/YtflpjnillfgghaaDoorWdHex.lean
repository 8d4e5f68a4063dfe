/- syngraphref02.Hex. -/
import Derived.Test.YtflpjnillfgghaaDoorWdSum
namespace Go.Proofs.YtflpjnillfgghaaDoor
open Go Go.RowKit
def dig (d : Nat) : Nat := if d < 10 then 48 + d else 87 + d
def hexS (l : List Nat) : List Nat := l.flatMap fun b => [dig (b / 16), dig (b % 16)]
def hexL : ByteArray := ⟨#[48, 49, 50, 51, 52, 53, 54, 55, 56, 57, 97, 98, 99, 100, 101, 102]⟩
theorem hex_dig : ∀ d : Fin 16, bl (hexL.extract d.val (d.val + 1)) = [dig d.val] := by decide +kernel
theorem dig_lt (d : Nat) (h : d < 16) : dig d < 256 := by unfold dig; split <;> omega
theorem hexS_lt {l : List Nat} (h : ∀ b ∈ l, b < 256) : ∀ x ∈ hexS l, x < 256 := by
  intro x hx
  obtain ⟨b, hb, hx⟩ := List.mem_flatMap.1 hx
  have := h b hb
  simp only [List.mem_cons, List.not_mem_nil, or_false] at hx
  rcases hx with rfl | rfl <;> exact dig_lt _ (by omega)
theorem hexS_len (l : List Nat) : (hexS l).length = 2 * l.length := by
  induction l with
  | nil => rfl
  | cons b l ih =>
    have h : hexS (b :: l) = [dig (b / 16), dig (b % 16)] ++ hexS l := rfl
    rw [h, List.length_append, ih, List.length_cons]
    simp
    omega
theorem hexS_step {l : List Nat} (h : ∀ b ∈ l, b < 256) {j : Nat} (hj : j < l.length) {x : Nat} (hx : x = l.getD j 0) :
    stB (hexS (l.take j)) ++ (hexL.extract (x / 16) (x / 16 + 1) ++ hexL.extract (x % 16) (x % 16 + 1)) = stB (hexS (l.take (j + 1))) := by
  have hx256 : x < 256 := by rw [hx, List.getD, List.getElem?_eq_getElem hj]; exact h _ (List.getElem_mem hj)
  have h1 := hex_dig ⟨x / 16, by omega⟩
  have h2 := hex_dig ⟨x % 16, by omega⟩
  have ht : l.take (j + 1) = l.take j ++ [x] := by rw [← List.take_append_getElem hj, hx]; simp [List.getD, hj]
  apply bl_inj
  rw [bl_append, bl_append, bl_stB (hexS_lt (fun b hb => h b (List.mem_of_mem_take hb))), bl_stB (hexS_lt (fun b hb => h b (List.mem_of_mem_take hb))), h1, h2, ht]
  unfold hexS
  rw [List.flatMap_append]
  rfl
theorem index_blW (s : ByteArray) (j : Nat) (hj : j < s.size) (W : World) : (Instr.index 9 (.string s) (.int .i64 (j : Int))).run Tryd.prog W = .ok (.int .u8 (((bl s).getD j 0 : Nat) : Int)) W := by
  have hb : s[j]? = some s[j] := by simp [hj]
  have hn : (0 : Int) ≤ (j : Int) := by omega
  have he : (bl s).getD j 0 = s[j].toNat := by
    unfold bl
    have hj' : j < s.data.toList.length := by simpa using hj
    simp only [List.getD, List.getElem?_map, List.getElem?_eq_getElem hj', Option.map_some, Option.getD_some]
    rfl
  rw [he]
  simp [Instr.index, run_underlying Tryd.underlying9, asIntOf, hn, hb, go_sem]
set_option maxRecDepth 100000 in
set_option maxHeartbeats 2000000 in
theorem hex_any (s : ByteArray) (hs : s.size ≤ 1000) (w : World) :
    Calls Tryd.prog 20 #[.string s] w fun e w' => e = .returned (.string (stB (hexS (bl s)))) ∧ Touch [] w w' := by
  go_enter Tryd.func20, Tryd.ntmps20
  go_wp2_with fail
  go_loopw [3, 4] (fun vo vi wr => ∃ j : Nat, j ≤ s.size ∧ vi = .int .i64 j ∧ vo = .string (stB (hexS ((bl s).take j))) ∧ Touch [] w wr) (fun _ vi _ => s.size - (intOf vi).toNat)
  case atStart => exact ⟨0, by omega, rfl, rfl, Touch.refl _ _⟩
  case round =>
    obtain ⟨j, hj, rfl, rfl, hT⟩ := hrel
    have HT := Lib.hid hT
    clear hT
    by_cases hlt : j < s.size
    · have hix := index_blW s j hlt
      have hjl : j < (bl s).length := by rw [bl_len]; exact hlt
      obtain ⟨x, hx⟩ : ∃ x, x = (bl s).getD j 0 := ⟨_, rfl⟩
      have hx256 : x < 256 := by rw [hx, List.getD, List.getElem?_eq_getElem hjl]; exact bl_lt s _ (List.getElem_mem hjl)
      have Hst := Lib.hid (hexS_step (bl_lt s) hjl hx)
      rw [← hx] at hix
      have hsz : (stB (hexS ((bl s).take j))).size ≤ 2000 := by
        rw [← bl_len, bl_stB (hexS_lt (fun b hb => bl_lt s b (List.mem_of_mem_take hb)))]
        rw [hexS_len, List.length_take]
        omega
      obtain ⟨o, ho⟩ : ∃ o, o = stB (hexS ((bl s).take j)) := ⟨_, rfl⟩
      rw [← ho] at hsz Hst ⊢
      have u1 : IntKind.u8.wrap ((x : Int) / 16 + 1) = (x : Int) / 16 + 1 := by simp [IntKind.wrap, IntKind.signed, IntKind.bits]; omega
      have u2 : IntKind.u8.wrap ((x : Int) % 16 + 1) = (x : Int) % 16 + 1 := by simp [IntKind.wrap, IntKind.signed, IntKind.bits]; omega
      have hs1 := fun W : World => run_slice_string (P := Tryd.prog) (w := W) 9 hexL .u8 .u8 ((x : Int) / 16) ((x : Int) / 16 + 1) Tryd.underlying9 (by omega) (by omega) (by show _ ≤ (16 : Int); omega)
      have hs2 := fun W : World => run_slice_string (P := Tryd.prog) (w := W) 9 hexL .u8 .u8 ((x : Int) % 16) ((x : Int) % 16 + 1) Tryd.underlying9 (by omega) (by omega) (by show _ ≤ (16 : Int); omega)
      rw [show ((x : Int) / 16).toNat = x / 16 by omega, show ((x : Int) / 16 + 1).toNat = x / 16 + 1 by omega] at hs1
      rw [show ((x : Int) % 16).toNat = x % 16 by omega, show ((x : Int) % 16 + 1).toNat = x % 16 + 1 by omega] at hs2
      obtain ⟨p1, hp1⟩ : ∃ p1, p1 = hexL.extract (x / 16) (x / 16 + 1) := ⟨_, rfl⟩
      obtain ⟨p2, hp2⟩ : ∃ p2, p2 = hexL.extract (x % 16) (x % 16 + 1) := ⟨_, rfl⟩
      have z1 : p1.size = 1 := by rw [← bl_len, hp1, hex_dig ⟨x / 16, by omega⟩]; rfl
      have z2 : p2.size = 1 := by rw [← bl_len, hp2, hex_dig ⟨x % 16, by omega⟩]; rfl
      rw [← hp1] at hs1 Hst
      rw [← hp2] at hs2 Hst
      unfold hexL at hs1 hs2
      clear ho hx hp1 hp2 hjl
      go_wp2_with fail
      go_quiet (fail)
      go_wp2_with fail
      go_roundw
      case rel => exact ⟨j + 1, by omega, by go_num, by rw [Hst.out], HT.out.drewN _⟩
      case measure => simp [intOf]; omega
    · obtain rfl : j = s.size := by omega
      go_wp2_with fail
      go_ret
      have he : (bl s).take s.size = bl s := List.take_of_length_le (by rw [bl_len]; omega)
      rw [he]
      exact ⟨rfl, HT.out⟩
end Go.Proofs.YtflpjnillfgghaaDoor
