/- What is done; how many are left. -/
import Derived.Test.YtehbfoiadinhbaaRtAsk
namespace Go.Proofs.Ytehbfoiadinhbaa
open Go Go.RowKit
theorem idsA_drop (S : List Al) (id : Int) (h : (idsA S).Nodup) : (idsA S).erase id = idsA (dropS S id) := by
  unfold idsA dropS at *
  induction S with
  | nil => rfl
  | cons a S ih =>
    simp only [List.map_cons, List.nodup_cons] at h
    by_cases ha : a.2 = id
    · subst ha
      have : List.filter (fun b : Al => !(b.2 == a.2)) S = S := by
        rw [List.filter_eq_self]
        intro b hb
        have : b.2 ≠ a.2 := fun e => h.1 (e ▸ List.mem_map_of_mem hb)
        simp [this]
      simp [this]
    · simp [ha, ih h.2]
theorem Sep.ids {w w0 : World} {B : Nat} {rs : List Res} {i pt pm ph : Nat} {c : Cf} {S : List Al} {T : Int → Int} (hsep : Sep w0 B w rs) (htab : TabAt rs i pt pm ph c S T) : SOk S ∧ (S.length : Int) ≤ c.room ∧ (idsA S).Nodup := by
  obtain ⟨h1, h2⟩ := heap_facts hsep (i + 2) htab.h
  exact ⟨h1, h2, h1.ids⟩
set_option maxRecDepth 100000 in
theorem done_sep {w w0 : World} {B : Nat} {rs : List Res} {i pt pm ph : Nat} {c : Cf} {S : List Al} {T : Int → Int} (hsep : Sep w0 B w rs) (htab : TabAt rs i pt pm ph c S T)
    (id : Int) (hid : -9223372036854775808 ≤ id ∧ id ≤ 9223372036854775807) :
    Calls Try.prog 17 #[.pointer (some ⟨pt, 0, none⟩), .int .i64 id] w (Gives (.int .i64 (dropCode S id)) w0 B (setTab rs i pm ph c (dropS S id) T)) := by
  have h6 : w.cell? ⟨pt, 6, none⟩ = some (.pointer (some ⟨ph, 0, none⟩)) := ((tab_blk hsep htab.t).cell 6).trans rfl
  have hn := (hsep.ids htab).2.2
  have Hh := Lib.hid htab
  have Hs := Lib.hid hsep
  have Hid := Lib.hid hid
  have Hn := Lib.hid hn
  clear htab hsep hid hn
  go_enter Try.func17, Try.ntmps17
  go_wp2_with fail
  refine (dropT_sep Hs.out (i + 2) Hh.out.h id).mono ?_
  rintro e w1 ⟨rfl, hs1⟩
  have h5 : w1.cell? ⟨pt, 5, none⟩ = some (.map (some pm)) := ((tab_blk hs1 Hh.out.t2).cell 5).trans rfl
  have Hs1 := Lib.hid hs1
  clear hs1 Hs h6
  go_wp2_with (at_delete; refine wpList_del_key rfl (.tmp 15) (.tmp 16) rfl Hs1.out (i + 1) Hh.out.m2 rfl id rfl Hid.out ?_)
  intro w2 hs2
  rw [idsA_drop S id Hn.out] at hs2
  have Hf := Lib.hid hs2
  clear hs2 Hs1 h5
  go_wp2_with fail
  go_ret
  exact ⟨rfl, Hf.out⟩
theorem left_sep {w w0 : World} {B : Nat} {rs : List Res} {i pt pm ph : Nat} {c : Cf} {S : List Al} {T : Int → Int} (hsep : Sep w0 B w rs) (htab : TabAt rs i pt pm ph c S T) :
    Calls Try.prog 13 #[.pointer (some ⟨pt, 0, none⟩)] w (Gives (.int .i64 S.length) w0 B rs) := by
  have h5 : w.cell? ⟨pt, 5, none⟩ = some (.map (some pm)) := ((tab_blk hsep htab.t).cell 5).trans rfl
  have Hh := Lib.hid htab
  have Hs := Lib.hid hsep
  clear htab hsep
  go_enter Try.func13, Try.ntmps13
  go_wp2_with (at_len; refine wpList_len_map rfl (.tmp 6) rfl Hs.out (i + 1) Hh.out.m rfl ?_)
  have hl : (idsA S).length = S.length := by rw [idsA, List.length_map]
  rw [hl]
  clear hl
  go_wp2_with fail
  go_ret
  exact ⟨rfl, Hs.out⟩
end Go.Proofs.Ytehbfoiadinhbaa
