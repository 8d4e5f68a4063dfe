/- Part 9 of the proof: Ng Nh Nj Ni Ej Ua Up Nk Uq Ur Va Vw Wf Vx Ta Tb Tc Td Te Vb Vc Lb U2a. -/
import Derived.Test.YtdhgpocbcccieaaGreatDoorRows
import Derived.RowKit
import Derived.LaidMore
import Derived.Lib.LaidTab
import Derived.Stop.Joined
import Derived.Test.YtdhgpocbcccieaaGreatDoorY1
import Derived.Test.YtdhgpocbcccieaaGreatDoorY4
import Derived.Test.YtdhgpocbcccieaaGreatDoorY6
import Derived.Test.YtdhgpocbcccieaaGreatDoorY8
set_option maxRecDepth 1000000
set_option maxHeartbeats 20000000
set_option linter.unusedVariables false
set_option linter.unusedSimpArgs false
namespace Go.Proofs.YtdhgpocbcccieaaGreatDoor.M
open Go Go.RowKit Go.Proofs.YtdhgpocbcccieaaGreatDoor.E
variable {G:Gl}
def tells (n:Nd) (frm:Int) (k:Mk):List Sd:=if n.s.bad≠[] then (if !k.bad then [sendL frm n.proof] else []) else if !k.bad&&n.s.has&&ahead n.s k then [sendL frm { kind:=3,h:=n.s.fr }] else []
theorem digest_eq (n:Nd) (frm:Int) (m:Mg):n.digest frm m=(n,if m.kind=1∧behind n.s (marked m.marks) then tells n frm (marked m.marks)++[sendL frm { kind:=2,marks:=n.marks }] else tells n frm (marked m.marks)):=rfl
theorem tells_a {n:Nd} {frm:Int} {k:Mk} (h:(n.s.bad != [])=true) (h2:(!k.bad)=true):tells n frm k=[(frm,n.proof.enc)]:=by
 unfold tells
 rw [if_pos (by simpa using h),h2]
 rfl
theorem tells_b {n:Nd} {frm:Int} {k:Mk} (h:(n.s.bad != [])=true) (h2:(!k.bad)=false):tells n frm k=[]:=by
 unfold tells
 rw [if_pos (by simpa using h),h2]
 rfl
theorem tells_c {n:Nd} {frm:Int} {k:Mk} (h:(n.s.bad != [])=false) (h2:(!k.bad)=true) (h3:n.s.has=true) (h4:ahead n.s k=true):tells n frm k=[(frm,Mg.enc { kind:=3,h:=n.s.fr })]:=by
 unfold tells
 rw [if_neg (by simpa using h),h2,h3,h4]
 rfl
theorem tells_d {n:Nd} {frm:Int} {k:Mk} (h:(n.s.bad != [])=false) (h2:(!k.bad)=false∨n.s.has=false∨ahead n.s k=false):tells n frm k=[]:=by
 unfold tells
 rw [if_neg (by simpa using h)]
 rcases h2 with h2 | h2 | h2 <;> rw [h2] <;> simp
theorem ndigest_ok (hS:GSha G) (hH:GHas G) (n:Nd) (hn:n.ok) (frm:Int) (m:Mg) (hm:m.marks.length≤1000000):Tri Tryz.prog G 197 [.p 0 0 0,i64 frm,.a (mgE 13 14 15 m)] (ndH n++mgH m) (.s 16 0 (n.digest frm m).2.length false) (ndH n++mgH m++[sdRs (n.digest frm m).2]):=by
 have hp:n.s.pend.length≤100000:=by have:=hn.p.1; have:=hn.c.r2; omega
 have e0:=ne_nil n.s.bad
 have h1:m.kind=1→behind n.s (marked m.marks)=true→(n.digest frm m).2=tells n frm (marked m.marks)++[(frm,Mg.enc { kind:=2,marks:=n.marks })]:=fun a b=>if_pos ⟨a,b⟩
 have h2:¬ (m.kind=1∧behind n.s (marked m.marks)=true)→(n.digest frm m).2=tells n frm (marked m.marks):=fun a=>if_neg a
 have t1:=tells_a (n:=n) (frm:=frm) (k:=marked m.marks)
 have t2:=tells_b (n:=n) (frm:=frm) (k:=marked m.marks)
 have t3:=tells_c (n:=n) (frm:=frm) (k:=marked m.marks)
 have t4:=tells_d (n:=n) (frm:=frm) (k:=marked m.marks)
 generalize (n.digest frm m).2=R at h1 h2
 generalize tells n frm (marked m.marks)=t at h1 h2 t1 t2 t3 t4
 refine fn Tryz.func197 ?_
 conv=>whnf
 refine lu 2 ?_
 conv=>whnf
 refine ⟨by decide,?_⟩
 conv=>whnf
 refine clQ (marked_ok m.marks hm) [15] ?_
 generalize marked m.marks=k at h1 h2 t1 t2 t3 t4
 conv=>whnf
 refine clQ (behind_ok n.s k) [3] ?_
 generalize behind n.s k=less at h1 h2
 conv=>whnf
 rw [e0]
 refine br_of (fun hb => ?ga) (fun hb => ?gb) <;> conv=>whnf
 case' ga=>refine br_of (fun hk => ?g1) (fun hk => ?g2) <;> conv=>whnf
 case' gb=>refine br_of (fun hk => ?_) (fun hk => ?g3) <;> (rw [hk] ; conv=>whnf)
 case' gb=>refine br_of (fun hh => ?_) (fun hh => ?g4)
 case' g4 =>
  rw [hh]
  conv=>whnf
 case' gb =>
  conv=>whnf
  repeat (refine br_t hh ?_ ; conv=>whnf)
  refine clQ (ahd_ok n.s k hp) [3] ?_
  generalize ahead n.s k=ah at t3 t4
  conv=>whnf
  repeat (refine br_t hh ?_ ; conv=>whnf)
  refine br_of (fun ha => ?g5) (fun ha => ?g6) <;> conv=>whnf
 case' g1 =>
  rw [t1 hb hk] at h1 h2
  refine clN (nproof_ok n) [0,1,2,3,4,5,6,7,8,9,10,11,12] [sRs n.proof.b.path] ?_
  conv=>whnf
  refine clQ (sendB_ok hH hS frm n.proof (proof_fit n) rfl rfl) [19] ?_
  conv=>whnf
  refine ⟨⟨rfl,rfl⟩,?_⟩
  conv=>whnf
  refine ⟨by simp,?_⟩
  conv=>whnf
 case' g5 =>
  rw [t3 hb hk hh ha] at h1 h2
  refine clQ (send0_ok hH hS frm { kind:=3,h:=n.s.fr } ⟨show 0<_ by decide,show 0<_ by decide,show 0<_ by decide,show 0≤_ by decide,show 0≤_ by decide,show 0≤_ by decide⟩ rfl rfl rfl) [] ?_
  conv=>whnf
  refine ⟨⟨rfl,rfl⟩,?_⟩
  conv=>whnf
  refine ⟨by simp,?_⟩
  conv=>whnf
 case' g2=>rw [t2 hb hk] at h1 h2
 case' g3=>rw [t4 hb (.inl hk)] at h1 h2
 case' g4=>rw [t4 hb (.inr (.inl hh))] at h1 h2
 case' g6=>rw [t4 hb (.inr (.inr ha))] at h1 h2
 case g1 =>
  refine br_of (fun hm1 => ?_) (fun hm1 => ?_)
  rotate_left
  ·rw [hm1]
   conv=>whnf
   rw [h2 (by simp at hm1; omega)]
   exact cw [0,1,2,3,4,5,6,7,8,9,10,11,12,13,14,15,21]
  conv=>whnf
  repeat (refine br_t hm1 ?_ ; conv=>whnf)
  refine br_of (fun hl => ?_) (fun hl => ?_)
  rotate_left
  ·conv=>whnf
   rw [h2 (by rintro ⟨-,e⟩; rw [e] at hl; cases hl)]
   exact cw [0,1,2,3,4,5,6,7,8,9,10,11,12,13,14,15,21]
  conv=>whnf
  rw [h1 (eq_of_beq hm1) hl]
  refine clN (nmarks_ok n) [0,1,2,3,4,5,6,7,8,9,10,11,12] [mkRs n.marks] ?_
  conv=>whnf
  refine clQ (sendK_ok hH hS frm { kind:=2,marks:=n.marks } ⟨show 0<_ by decide,show 0<_ by decide,show 0<_ by decide,show 0≤_ by decide,show 0≤_ by decide,by show n.marks.length≤_; have:=marks_len n; omega⟩ rfl rfl) [22] ?_
  conv=>whnf
  refine ⟨⟨rfl,rfl⟩,?_⟩
  conv=>whnf
  refine ⟨by simp,?_⟩
  conv=>whnf
  refine ⟨⟨by simp,by simp⟩,?_⟩
  conv=>whnf
  exact cw [0,1,2,3,4,5,6,7,8,9,10,11,12,13,14,15,24]
 case g5 =>
  refine br_of (fun hm1 => ?_) (fun hm1 => ?_)
  rotate_left
  ·rw [hm1]
   conv=>whnf
   rw [h2 (by simp at hm1; omega)]
   exact cw [0,1,2,3,4,5,6,7,8,9,10,11,12,13,14,15,20]
  conv=>whnf
  repeat (refine br_t hm1 ?_ ; conv=>whnf)
  refine br_of (fun hl => ?_) (fun hl => ?_)
  rotate_left
  ·conv=>whnf
   rw [h2 (by rintro ⟨-,e⟩; rw [e] at hl; cases hl)]
   exact cw [0,1,2,3,4,5,6,7,8,9,10,11,12,13,14,15,20]
  conv=>whnf
  rw [h1 (eq_of_beq hm1) hl]
  refine clN (nmarks_ok n) [0,1,2,3,4,5,6,7,8,9,10,11,12] [mkRs n.marks] ?_
  conv=>whnf
  refine clQ (sendK_ok hH hS frm { kind:=2,marks:=n.marks } ⟨show 0<_ by decide,show 0<_ by decide,show 0<_ by decide,show 0≤_ by decide,show 0≤_ by decide,by show n.marks.length≤_; have:=marks_len n; omega⟩ rfl rfl) [21] ?_
  conv=>whnf
  refine ⟨⟨rfl,rfl⟩,?_⟩
  conv=>whnf
  refine ⟨by simp,?_⟩
  conv=>whnf
  refine ⟨⟨by simp,by simp⟩,?_⟩
  conv=>whnf
  exact cw [0,1,2,3,4,5,6,7,8,9,10,11,12,13,14,15,23]
 case g2 =>
  refine br_of (fun hm1 => ?_) (fun hm1 => ?_)
  rotate_left
  ·rw [hm1]
   conv=>whnf
   rw [h2 (by simp at hm1; omega)]
   exact cv [0,1,2,3,4,5,6,7,8,9,10,11,12,13,14,15,99]
  conv=>whnf
  repeat (refine br_t hm1 ?_ ; conv=>whnf)
  refine br_of (fun hl => ?_) (fun hl => ?_)
  rotate_left
  ·conv=>whnf
   rw [h2 (by rintro ⟨-,e⟩; rw [e] at hl; cases hl)]
   exact cv [0,1,2,3,4,5,6,7,8,9,10,11,12,13,14,15,99]
  conv=>whnf
  rw [h1 (eq_of_beq hm1) hl]
  refine clN (nmarks_ok n) [0,1,2,3,4,5,6,7,8,9,10,11,12] [mkRs n.marks] ?_
  conv=>whnf
  refine clQ (sendK_ok hH hS frm { kind:=2,marks:=n.marks } ⟨show 0<_ by decide,show 0<_ by decide,show 0<_ by decide,show 0≤_ by decide,show 0≤_ by decide,by show n.marks.length≤_; have:=marks_len n; omega⟩ rfl rfl) [19] ?_
  conv=>whnf
  refine ⟨⟨rfl,rfl⟩,?_⟩
  conv=>whnf
  refine ⟨by simp,?_⟩
  conv=>whnf
  exact cw [0,1,2,3,4,5,6,7,8,9,10,11,12,13,14,15,21]
 case g3 =>
  refine br_of (fun hm1 => ?_) (fun hm1 => ?_)
  rotate_left
  ·rw [hm1]
   conv=>whnf
   rw [h2 (by simp at hm1; omega)]
   exact cv [0,1,2,3,4,5,6,7,8,9,10,11,12,13,14,15,99]
  conv=>whnf
  repeat (refine br_t hm1 ?_ ; conv=>whnf)
  refine br_of (fun hl => ?_) (fun hl => ?_)
  rotate_left
  ·conv=>whnf
   rw [h2 (by rintro ⟨-,e⟩; rw [e] at hl; cases hl)]
   exact cv [0,1,2,3,4,5,6,7,8,9,10,11,12,13,14,15,99]
  conv=>whnf
  rw [h1 (eq_of_beq hm1) hl]
  refine clN (nmarks_ok n) [0,1,2,3,4,5,6,7,8,9,10,11,12] [mkRs n.marks] ?_
  conv=>whnf
  refine clQ (sendK_ok hH hS frm { kind:=2,marks:=n.marks } ⟨show 0<_ by decide,show 0<_ by decide,show 0<_ by decide,show 0≤_ by decide,show 0≤_ by decide,by show n.marks.length≤_; have:=marks_len n; omega⟩ rfl rfl) [19] ?_
  conv=>whnf
  refine ⟨⟨rfl,rfl⟩,?_⟩
  conv=>whnf
  refine ⟨by simp,?_⟩
  conv=>whnf
  exact cw [0,1,2,3,4,5,6,7,8,9,10,11,12,13,14,15,21]
 case g4 =>
  refine br_of (fun hm1 => ?_) (fun hm1 => ?_)
  rotate_left
  ·rw [hm1]
   conv=>whnf
   rw [h2 (by simp at hm1; omega)]
   exact cv [0,1,2,3,4,5,6,7,8,9,10,11,12,13,14,15,99]
  conv=>whnf
  repeat (refine br_t hm1 ?_ ; conv=>whnf)
  refine br_of (fun hl => ?_) (fun hl => ?_)
  rotate_left
  ·conv=>whnf
   rw [h2 (by rintro ⟨-,e⟩; rw [e] at hl; cases hl)]
   exact cv [0,1,2,3,4,5,6,7,8,9,10,11,12,13,14,15,99]
  conv=>whnf
  rw [h1 (eq_of_beq hm1) hl]
  refine clN (nmarks_ok n) [0,1,2,3,4,5,6,7,8,9,10,11,12] [mkRs n.marks] ?_
  conv=>whnf
  refine clQ (sendK_ok hH hS frm { kind:=2,marks:=n.marks } ⟨show 0<_ by decide,show 0<_ by decide,show 0<_ by decide,show 0≤_ by decide,show 0≤_ by decide,by show n.marks.length≤_; have:=marks_len n; omega⟩ rfl rfl) [19] ?_
  conv=>whnf
  refine ⟨⟨rfl,rfl⟩,?_⟩
  conv=>whnf
  refine ⟨by simp,?_⟩
  conv=>whnf
  exact cw [0,1,2,3,4,5,6,7,8,9,10,11,12,13,14,15,21]
 case g6 =>
  refine br_of (fun hm1 => ?_) (fun hm1 => ?_)
  rotate_left
  ·rw [hm1]
   conv=>whnf
   rw [h2 (by simp at hm1; omega)]
   exact cv [0,1,2,3,4,5,6,7,8,9,10,11,12,13,14,15,99]
  conv=>whnf
  repeat (refine br_t hm1 ?_ ; conv=>whnf)
  refine br_of (fun hl => ?_) (fun hl => ?_)
  rotate_left
  ·conv=>whnf
   rw [h2 (by rintro ⟨-,e⟩; rw [e] at hl; cases hl)]
   exact cv [0,1,2,3,4,5,6,7,8,9,10,11,12,13,14,15,99]
  conv=>whnf
  rw [h1 (eq_of_beq hm1) hl]
  refine clN (nmarks_ok n) [0,1,2,3,4,5,6,7,8,9,10,11,12] [mkRs n.marks] ?_
  conv=>whnf
  refine clQ (sendK_ok hH hS frm { kind:=2,marks:=n.marks } ⟨show 0<_ by decide,show 0<_ by decide,show 0<_ by decide,show 0≤_ by decide,show 0≤_ by decide,by show n.marks.length≤_; have:=marks_len n; omega⟩ rfl rfl) [19] ?_
  conv=>whnf
  refine ⟨⟨rfl,rfl⟩,?_⟩
  conv=>whnf
  refine ⟨by simp,?_⟩
  conv=>whnf
  exact cw [0,1,2,3,4,5,6,7,8,9,10,11,12,13,14,15,21]
theorem heads_a {n:Nd} {frm:Int} {m:Mg} (h:(n.keep m).2=6):n.heads frm m=((n.keep m).1,[sendL frm { kind:=9,log:=m.log }]):=if_pos h
theorem heads_b {n:Nd} {frm:Int} {m:Mg} (h6:(n.keep m).2≠6) (h:(n.keep m).2=5∨(n.keep m).2=9):n.heads frm m=((n.keep m).1,[sendL frm (n.keep m).1.proof]):=by
 unfold Nd.heads
 simp only
 rw [if_neg h6,if_pos h]
theorem heads_c {n:Nd} {frm:Int} {m:Mg} (h:(n.keep m).2=7):n.heads frm m=((n.keep m).1.strange,[]):=by
 unfold Nd.heads
 simp only
 rw [if_neg (by omega),if_neg (by omega),if_pos h]
theorem heads_d {n:Nd} {frm:Int} {m:Mg} (h6:(n.keep m).2≠6) (h:¬ ((n.keep m).2=5∨(n.keep m).2=9)) (h7:(n.keep m).2≠7):n.heads frm m=((n.keep m).1,[]):=by
 unfold Nd.heads
 simp only
 rw [if_neg h6,if_neg h,if_neg h7]
theorem nheads_ok (hG:GSig G) (hS:GSha G) (hH:GHas G) (n:Nd) (hn:n.ok) (hjl:n.j.l.length<900000) (frm:Int) (m:Mg) (hl:m.log=0) (hf:m.fit) (hpl:m.path.length≤10000):Tri Tryz.prog G 198 [.p 0 0 0,i64 frm,.a (mgE 13 14 15 m)] (ndH n++mgH m) (.s 20 0 (n.heads frm m).2.length false) (ndP 16 17 18 19 (n.heads frm m).1++mgH m++ndT (n.heads frm m).1++[sdRs (n.heads frm m).2]):=by
 have hk:=(hn.keep hjl m).1
 have ha:=heads_a (n:=n) (frm:=frm) (m:=m)
 have hb:=heads_b (n:=n) (frm:=frm) (m:=m)
 have hc:=heads_c (n:=n) (frm:=frm) (m:=m)
 have hd:=heads_d (n:=n) (frm:=frm) (m:=m)
 refine fn Tryz.func198 ?_
 conv=>whnf
 refine cl (nkeep_ok hG hS hH n hn m hl hf hpl) [0,1,2,3,4,5,6,7,8,9,10,11,12,13,14,15] ?_
 generalize (n.keep m).1=n2 at hk ha hb hc hd
 generalize (n.keep m).2=x at ha hb hc hd
 conv=>whnf
 refine br_of (fun h => ?_) (fun h => ?_) <;> conv=>whnf
 ·have h:x=6:=eq_of_beq h
  rw [ha h,hl]
  refine clQ (send0_ok hH hS frm { kind:=9,log:=0 } ⟨show 0<_ by decide,show 0<_ by decide,show 0<_ by decide,show 0≤_ by decide,show 0≤_ by decide,show 0≤_ by decide⟩ rfl rfl rfl) [] ?_
  conv=>whnf
  exact cv [0,1,2,3,4,5,6,7,8,9,10,11,12,13,14,15,17,18,19,20,21]
 have h6:x≠6:=beq_eq_false_iff_ne.1 h
 have evid:(x=5∨x=9)→True:=fun _=>trivial
 refine br_of (fun h => ?ga) (fun h => ?gb) <;> (try rw [h]) <;> conv=>whnf
 case' ga=>have hx:x=5∨x=9 := .inl (eq_of_beq h)
 case' gb =>
  have h5:x≠5:=beq_eq_false_iff_ne.1 h
  clear h
  refine br_of (fun h => ?gc) (fun h => ?gd) <;> (try rw [h]) <;> conv=>whnf
 case' gc=>have hx:x=5∨x=9 := .inr (eq_of_beq h)
 case gd =>
  have h9:x≠9:=beq_eq_false_iff_ne.1 h
  refine br_of (fun h => ?_) (fun h => ?_) <;> conv=>whnf
  ·have h:x=7:=eq_of_beq h
   rw [hc h]
   refine cl (strange_ok n2 hk.od) [0,1,2,17,4,18,6,19,8,9,10,20,12] ?_
   conv=>whnf
   exact cv [0,1,2,3,4,5,6,7,8,9,10,11,12,13,14,15,17,18,19,20,99]
  ·rw [hd h6 (by omega) (beq_eq_false_iff_ne.1 h)]
   exact cv [0,1,2,3,4,5,6,7,8,9,10,11,12,13,14,15,17,18,19,20,99]
 all_goals
  rw [hb h6 hx,hl]
  refine clN (nproof_ok n2) [0,1,2,17,4,18,6,19,8,9,10,20,12] [sRs n2.proof.b.path] ?_
  conv=>whnf
  refine clQ (sendB_ok hH hS frm n2.proof (proof_fit n2) rfl rfl) [21] ?_
  conv=>whnf
  exact cv [0,1,2,3,4,5,6,7,8,9,10,11,12,13,14,15,17,18,19,20,22]
theorem nproven_ok (hG:GSig G) (hS:GSha G) (hH:GHas G) (n:Nd) (hn:n.ok) (hjl:n.j.l.length<900000) (frm:Int) (m:Mg) (hl:m.log=0) (hf:m.fit) (hpl:m.path.length≤10000):Tri Tryz.prog G 199 [.p 0 0 0,i64 frm,.a (mgE 13 14 15 m)] (ndH n++mgH m) (.s 20 0 0 false) (ndP 16 17 18 19 (n.proven m)++mgH m++ndT (n.proven m)++[sdRs []]):=by
 have hk:=(hn.keep hjl m).1
 have ha:n.proven m=if (n.keep m).2=7 then (n.keep m).1.strange else (n.keep m).1:=rfl
 refine fn Tryz.func199 ?_
 conv=>whnf
 refine cl (nkeep_ok hG hS hH n hn m hl hf hpl) [0,1,2,3,4,5,6,7,8,9,10,11,12,13,14,15] ?_
 generalize (n.keep m).1=n2 at hk ha
 generalize (n.keep m).2=x at ha
 conv=>whnf
 refine br_of (fun h => ?_) (fun h => ?_) <;> conv=>whnf
 ·rw [ha,if_pos (eq_of_beq h)]
  refine cl (strange_ok n2 hk.od) [0,1,2,17,4,18,6,19,8,9,10,20,12] ?_
  conv=>whnf
  exact cv [0,1,2,3,4,5,6,7,8,9,10,11,12,13,14,15,17,18,19,20,99]
 ·rw [ha,if_neg (beq_eq_false_iff_ne.1 h)]
  exact cv [0,1,2,3,4,5,6,7,8,9,10,11,12,13,14,15,17,18,19,20,99]
theorem nbusy_ok (n:Nd) (frm:Int) (m:Mg):Tri Tryz.prog G 200 [.p 0 0 0,i64 frm,.a (mgE 13 14 15 m)] (ndH n++mgH m) (.s 16 0 0 false) (ndH n++mgH m++[sdRs []]):=by
 refine fn Tryz.func200 ?_
 conv=>whnf
 exact cv [0,1,2,3,4,5,6,7,8,9,10,11,12,13,14,15,99]
abbrev doesB:EB := .o (.mp 5 [(1,0,.f 197 [] []),(2,1,.f 197 [] []),(3,2,.f 198 [] []),(4,3,.f 199 [] []),(9,4,.f 200 [] [])])
theorem does_ok:Tri Tryz.prog G 128 [] [] (.m 0) [doesB]:=by
 refine fn Tryz.func128 ?_
 conv=>whnf
 exact cv [0]
theorem peer_bad {n:Nd} {frm:Int} {s:Bs} (h:frm<0∨frm≥n.c.peers∨(Mg.dec s).2≠0∨(!((Mg.dec s).1.kind==1||(Mg.dec s).1.kind==2||(Mg.dec s).1.kind==3||(Mg.dec s).1.kind==4||(Mg.dec s).1.kind==9))=true∨(Mg.dec s).1.log≥1):n.peer frm s=(n.strange,[]):=if_pos h
theorem peer_ok' {n:Nd} {frm:Int} {s:Bs} (h:¬ (frm<0∨frm≥n.c.peers∨(Mg.dec s).2≠0∨(!((Mg.dec s).1.kind==1||(Mg.dec s).1.kind==2||(Mg.dec s).1.kind==3||(Mg.dec s).1.kind==4||(Mg.dec s).1.kind==9))=true∨(Mg.dec s).1.log≥1)):n.peer frm s=if (Mg.dec s).1.kind=3 then n.heads frm (Mg.dec s).1 else if (Mg.dec s).1.kind=4 then (n.proven (Mg.dec s).1,[]) else if (Mg.dec s).1.kind=9 then (n,[]) else n.digest frm (Mg.dec s).1:=if_neg h
theorem digest_eq' (n:Nd) (frm:Int) (m:Mg):n.digest frm m=(n,(n.digest frm m).2):=rfl
theorem npeer_ok (hG:GSig G) (hS:GSha G) (hH:GHas G) (n:Nd) (hn:n.ok) (hjl:n.j.l.length<900000) (frm:Int) (s:Bs):Tri Tryz.prog G 78 [.p 0 0 0,i64 frm,sv s] (ndH n) (.s 17 0 (n.peer frm s).2.length false) (ndP 13 14 15 16 (n.peer frm s).1++ndT (n.peer frm s).1++[sdRs (n.peer frm s).2]):=by
 have hpb:=peer_bad (n:=n) (frm:=frm) (s:=s)
 have hpo:=peer_ok' (n:=n) (frm:=frm) (s:=s)
 have hdr:=dec_right (s:=s)
 obtain ⟨hf,hpl⟩:=dec_fit s
 generalize hR:n.peer frm s=R at hpb hpo
 refine fn Tryz.func78 ?_
 conv=>whnf
 refine cl (mdec_ok hH hS s) [] ?_
 generalize (Mg.dec s).2=e at hpb hpo hdr
 generalize (Mg.dec s).1=m at hpb hpo hdr hf hpl
 conv=>whnf
 refine cl does_ok [] ?_
 conv=>whnf
 refine br_of (fun k => ?k1) (fun k => ?_) <;> conv=>whnf
 rotate_left
 refine br_of (fun k2 => ?k2) (fun k2 => ?_) <;> conv=>whnf
 rotate_left
 refine br_of (fun k3 => ?k3) (fun k3 => ?_) <;> conv=>whnf
 rotate_left
 refine br_of (fun k4 => ?k4) (fun k4 => ?_) <;> conv=>whnf
 rotate_left
 refine br_of (fun k9 => ?k9) (fun k9 => ?kn) <;> conv=>whnf
 case k1 =>
  refine ⟨rfl,?_⟩
  conv=>whnf
  refine br_of (fun c1 => ?_) (fun c1 => ?_) <;> (rw [c1] ; conv=>whnf)
  ·refine ⟨rfl,?_⟩
   conv=>whnf
   rw [hpb (.inl (of_decide_eq_true c1))]
   refine cl (strange_ok n hn.od) [0,1,2,3,4,5,6,7,8,9,10,11,12] ?_
   conv=>whnf
   exact cv [0,1,2,3,4,5,6,7,8,9,10,11,12,3,5,7,11,99]
  refine br_of (fun c2 => ?_) (fun c2 => ?_) <;> (rw [c2] ; conv=>whnf)
  ·refine ⟨rfl,?_⟩
   conv=>whnf
   rw [hpb (.inr (.inl (of_decide_eq_true c2)))]
   refine cl (strange_ok n hn.od) [0,1,2,3,4,5,6,7,8,9,10,11,12] ?_
   conv=>whnf
   exact cv [0,1,2,3,4,5,6,7,8,9,10,11,12,3,5,7,11,99]
  refine br_of (fun c3 => ?_) (fun c3 => ?_) <;> (rw [c3] ; conv=>whnf)
  ·refine ⟨rfl,?_⟩
   conv=>whnf
   rw [hpb (.inr (.inr (.inl (by simpa using c3))))]
   refine cl (strange_ok n hn.od) [0,1,2,3,4,5,6,7,8,9,10,11,12] ?_
   conv=>whnf
   exact cv [0,1,2,3,4,5,6,7,8,9,10,11,12,3,5,7,11,99]
  refine ⟨rfl,?_⟩
  conv=>whnf
  refine br_of (fun c5 => ?_) (fun c5 => ?_) <;> (rw [c5] ; conv=>whnf)
  ·rw [hpb (.inr (.inr (.inr (.inr (of_decide_eq_true c5)))))]
   refine cl (strange_ok n hn.od) [0,1,2,3,4,5,6,7,8,9,10,11,12] ?_
   conv=>whnf
   exact cv [0,1,2,3,4,5,6,7,8,9,10,11,12,3,5,7,11,99]
  have he:e=0:=by simpa using c3
  have hk:m.kind=1:=of_decide_eq_true k
  have hl:m.log=0:=by have:=log_nn (hdr he); have:=of_decide_eq_false c5; omega
  have hgood:=hpo (by rintro (a | a | a | a | a); exact absurd a (of_decide_eq_false c1); exact absurd a (of_decide_eq_false c2); exact a he; (rw [hk] at a; cases a); exact absurd a (of_decide_eq_false c5))
  rw [hk] at hgood
  rw [show R=n.digest frm m from hgood,digest_eq']
  refine clN (ndigest_ok hS hH n hn frm m (by have:=hf.2.2.2.2.2; omega)) [0,1,2,3,4,5,6,7,8,9,10,11,12,13,14,15] [sdRs (n.digest frm m).2] ?_
  conv=>whnf
  exact cv [0,1,2,3,4,5,6,7,8,9,10,11,12,3,5,7,11,18]
 case k2 =>
  refine ⟨rfl,?_⟩
  conv=>whnf
  refine br_of (fun c1 => ?_) (fun c1 => ?_) <;> (rw [c1] ; conv=>whnf)
  ·refine ⟨rfl,?_⟩
   conv=>whnf
   rw [hpb (.inl (of_decide_eq_true c1))]
   refine cl (strange_ok n hn.od) [0,1,2,3,4,5,6,7,8,9,10,11,12] ?_
   conv=>whnf
   exact cv [0,1,2,3,4,5,6,7,8,9,10,11,12,3,5,7,11,99]
  refine br_of (fun c2 => ?_) (fun c2 => ?_) <;> (rw [c2] ; conv=>whnf)
  ·refine ⟨rfl,?_⟩
   conv=>whnf
   rw [hpb (.inr (.inl (of_decide_eq_true c2)))]
   refine cl (strange_ok n hn.od) [0,1,2,3,4,5,6,7,8,9,10,11,12] ?_
   conv=>whnf
   exact cv [0,1,2,3,4,5,6,7,8,9,10,11,12,3,5,7,11,99]
  refine br_of (fun c3 => ?_) (fun c3 => ?_) <;> (rw [c3] ; conv=>whnf)
  ·refine ⟨rfl,?_⟩
   conv=>whnf
   rw [hpb (.inr (.inr (.inl (by simpa using c3))))]
   refine cl (strange_ok n hn.od) [0,1,2,3,4,5,6,7,8,9,10,11,12] ?_
   conv=>whnf
   exact cv [0,1,2,3,4,5,6,7,8,9,10,11,12,3,5,7,11,99]
  refine ⟨rfl,?_⟩
  conv=>whnf
  refine br_of (fun c5 => ?_) (fun c5 => ?_) <;> (rw [c5] ; conv=>whnf)
  ·rw [hpb (.inr (.inr (.inr (.inr (of_decide_eq_true c5)))))]
   refine cl (strange_ok n hn.od) [0,1,2,3,4,5,6,7,8,9,10,11,12] ?_
   conv=>whnf
   exact cv [0,1,2,3,4,5,6,7,8,9,10,11,12,3,5,7,11,99]
  have he:e=0:=by simpa using c3
  have hk:m.kind=2:=of_decide_eq_true k2
  have hl:m.log=0:=by have:=log_nn (hdr he); have:=of_decide_eq_false c5; omega
  have hgood:=hpo (by rintro (a | a | a | a | a); exact absurd a (of_decide_eq_false c1); exact absurd a (of_decide_eq_false c2); exact a he; (rw [hk] at a; cases a); exact absurd a (of_decide_eq_false c5))
  rw [hk] at hgood
  rw [show R=n.digest frm m from hgood,digest_eq']
  refine clN (ndigest_ok hS hH n hn frm m (by have:=hf.2.2.2.2.2; omega)) [0,1,2,3,4,5,6,7,8,9,10,11,12,13,14,15] [sdRs (n.digest frm m).2] ?_
  conv=>whnf
  exact cv [0,1,2,3,4,5,6,7,8,9,10,11,12,3,5,7,11,18]
 case k3 =>
  refine ⟨rfl,?_⟩
  conv=>whnf
  refine br_of (fun c1 => ?_) (fun c1 => ?_) <;> (rw [c1] ; conv=>whnf)
  ·refine ⟨rfl,?_⟩
   conv=>whnf
   rw [hpb (.inl (of_decide_eq_true c1))]
   refine cl (strange_ok n hn.od) [0,1,2,3,4,5,6,7,8,9,10,11,12] ?_
   conv=>whnf
   exact cv [0,1,2,3,4,5,6,7,8,9,10,11,12,3,5,7,11,99]
  refine br_of (fun c2 => ?_) (fun c2 => ?_) <;> (rw [c2] ; conv=>whnf)
  ·refine ⟨rfl,?_⟩
   conv=>whnf
   rw [hpb (.inr (.inl (of_decide_eq_true c2)))]
   refine cl (strange_ok n hn.od) [0,1,2,3,4,5,6,7,8,9,10,11,12] ?_
   conv=>whnf
   exact cv [0,1,2,3,4,5,6,7,8,9,10,11,12,3,5,7,11,99]
  refine br_of (fun c3 => ?_) (fun c3 => ?_) <;> (rw [c3] ; conv=>whnf)
  ·refine ⟨rfl,?_⟩
   conv=>whnf
   rw [hpb (.inr (.inr (.inl (by simpa using c3))))]
   refine cl (strange_ok n hn.od) [0,1,2,3,4,5,6,7,8,9,10,11,12] ?_
   conv=>whnf
   exact cv [0,1,2,3,4,5,6,7,8,9,10,11,12,3,5,7,11,99]
  refine ⟨rfl,?_⟩
  conv=>whnf
  refine br_of (fun c5 => ?_) (fun c5 => ?_) <;> (rw [c5] ; conv=>whnf)
  ·rw [hpb (.inr (.inr (.inr (.inr (of_decide_eq_true c5)))))]
   refine cl (strange_ok n hn.od) [0,1,2,3,4,5,6,7,8,9,10,11,12] ?_
   conv=>whnf
   exact cv [0,1,2,3,4,5,6,7,8,9,10,11,12,3,5,7,11,99]
  have he:e=0:=by simpa using c3
  have hk:m.kind=3:=of_decide_eq_true k3
  have hl:m.log=0:=by have:=log_nn (hdr he); have:=of_decide_eq_false c5; omega
  have hgood:=hpo (by rintro (a | a | a | a | a); exact absurd a (of_decide_eq_false c1); exact absurd a (of_decide_eq_false c2); exact a he; (rw [hk] at a; cases a); exact absurd a (of_decide_eq_false c5))
  rw [hk] at hgood
  rw [show R=n.heads frm m from hgood]
  refine cl (nheads_ok hG hS hH n hn hjl frm m hl hf (by omega)) [0,1,2,3,4,5,6,7,8,9,10,11,12,13,14,15] ?_
  conv=>whnf
  exact cv [0,1,2,3,4,5,6,7,8,9,10,11,12,18,19,20,21,22]
 case k4 =>
  refine ⟨rfl,?_⟩
  conv=>whnf
  refine br_of (fun c1 => ?_) (fun c1 => ?_) <;> (rw [c1] ; conv=>whnf)
  ·refine ⟨rfl,?_⟩
   conv=>whnf
   rw [hpb (.inl (of_decide_eq_true c1))]
   refine cl (strange_ok n hn.od) [0,1,2,3,4,5,6,7,8,9,10,11,12] ?_
   conv=>whnf
   exact cv [0,1,2,3,4,5,6,7,8,9,10,11,12,3,5,7,11,99]
  refine br_of (fun c2 => ?_) (fun c2 => ?_) <;> (rw [c2] ; conv=>whnf)
  ·refine ⟨rfl,?_⟩
   conv=>whnf
   rw [hpb (.inr (.inl (of_decide_eq_true c2)))]
   refine cl (strange_ok n hn.od) [0,1,2,3,4,5,6,7,8,9,10,11,12] ?_
   conv=>whnf
   exact cv [0,1,2,3,4,5,6,7,8,9,10,11,12,3,5,7,11,99]
  refine br_of (fun c3 => ?_) (fun c3 => ?_) <;> (rw [c3] ; conv=>whnf)
  ·refine ⟨rfl,?_⟩
   conv=>whnf
   rw [hpb (.inr (.inr (.inl (by simpa using c3))))]
   refine cl (strange_ok n hn.od) [0,1,2,3,4,5,6,7,8,9,10,11,12] ?_
   conv=>whnf
   exact cv [0,1,2,3,4,5,6,7,8,9,10,11,12,3,5,7,11,99]
  refine ⟨rfl,?_⟩
  conv=>whnf
  refine br_of (fun c5 => ?_) (fun c5 => ?_) <;> (rw [c5] ; conv=>whnf)
  ·rw [hpb (.inr (.inr (.inr (.inr (of_decide_eq_true c5)))))]
   refine cl (strange_ok n hn.od) [0,1,2,3,4,5,6,7,8,9,10,11,12] ?_
   conv=>whnf
   exact cv [0,1,2,3,4,5,6,7,8,9,10,11,12,3,5,7,11,99]
  have he:e=0:=by simpa using c3
  have hk:m.kind=4:=of_decide_eq_true k4
  have hl:m.log=0:=by have:=log_nn (hdr he); have:=of_decide_eq_false c5; omega
  have hgood:=hpo (by rintro (a | a | a | a | a); exact absurd a (of_decide_eq_false c1); exact absurd a (of_decide_eq_false c2); exact a he; (rw [hk] at a; cases a); exact absurd a (of_decide_eq_false c5))
  rw [hk] at hgood
  rw [show R=(n.proven m,[]) from hgood]
  refine cl (nproven_ok hG hS hH n hn hjl frm m hl hf (by omega)) [0,1,2,3,4,5,6,7,8,9,10,11,12,13,14,15] ?_
  conv=>whnf
  exact cv [0,1,2,3,4,5,6,7,8,9,10,11,12,18,19,20,21,22]
 case k9 =>
  refine ⟨rfl,?_⟩
  conv=>whnf
  refine br_of (fun c1 => ?_) (fun c1 => ?_) <;> (rw [c1] ; conv=>whnf)
  ·refine ⟨rfl,?_⟩
   conv=>whnf
   rw [hpb (.inl (of_decide_eq_true c1))]
   refine cl (strange_ok n hn.od) [0,1,2,3,4,5,6,7,8,9,10,11,12] ?_
   conv=>whnf
   exact cv [0,1,2,3,4,5,6,7,8,9,10,11,12,3,5,7,11,99]
  refine br_of (fun c2 => ?_) (fun c2 => ?_) <;> (rw [c2] ; conv=>whnf)
  ·refine ⟨rfl,?_⟩
   conv=>whnf
   rw [hpb (.inr (.inl (of_decide_eq_true c2)))]
   refine cl (strange_ok n hn.od) [0,1,2,3,4,5,6,7,8,9,10,11,12] ?_
   conv=>whnf
   exact cv [0,1,2,3,4,5,6,7,8,9,10,11,12,3,5,7,11,99]
  refine br_of (fun c3 => ?_) (fun c3 => ?_) <;> (rw [c3] ; conv=>whnf)
  ·refine ⟨rfl,?_⟩
   conv=>whnf
   rw [hpb (.inr (.inr (.inl (by simpa using c3))))]
   refine cl (strange_ok n hn.od) [0,1,2,3,4,5,6,7,8,9,10,11,12] ?_
   conv=>whnf
   exact cv [0,1,2,3,4,5,6,7,8,9,10,11,12,3,5,7,11,99]
  refine ⟨rfl,?_⟩
  conv=>whnf
  refine br_of (fun c5 => ?_) (fun c5 => ?_) <;> (rw [c5] ; conv=>whnf)
  ·rw [hpb (.inr (.inr (.inr (.inr (of_decide_eq_true c5)))))]
   refine cl (strange_ok n hn.od) [0,1,2,3,4,5,6,7,8,9,10,11,12] ?_
   conv=>whnf
   exact cv [0,1,2,3,4,5,6,7,8,9,10,11,12,3,5,7,11,99]
  have he:e=0:=by simpa using c3
  have hk:m.kind=9:=of_decide_eq_true k9
  have hl:m.log=0:=by have:=log_nn (hdr he); have:=of_decide_eq_false c5; omega
  have hgood:=hpo (by rintro (a | a | a | a | a); exact absurd a (of_decide_eq_false c1); exact absurd a (of_decide_eq_false c2); exact a he; (rw [hk] at a; cases a); exact absurd a (of_decide_eq_false c5))
  rw [hk] at hgood
  rw [show R=(n,[]) from hgood]
  refine clN (nbusy_ok n frm m) [0,1,2,3,4,5,6,7,8,9,10,11,12,13,14,15] [sdRs []] ?_
  conv=>whnf
  exact cv [0,1,2,3,4,5,6,7,8,9,10,11,12,3,5,7,11,18]
 case kn =>
  refine ⟨rfl,?_⟩
  conv=>whnf
  refine br_of (fun c1 => ?_) (fun c1 => ?_) <;> (rw [c1] ; conv=>whnf)
  ·refine ⟨rfl,?_⟩
   conv=>whnf
   rw [hpb (.inl (of_decide_eq_true c1))]
   refine cl (strange_ok n hn.od) [0,1,2,3,4,5,6,7,8,9,10,11,12] ?_
   conv=>whnf
   exact cv [0,1,2,3,4,5,6,7,8,9,10,11,12,3,5,7,11,99]
  refine br_of (fun c2 => ?_) (fun c2 => ?_) <;> (rw [c2] ; conv=>whnf)
  ·refine ⟨rfl,?_⟩
   conv=>whnf
   rw [hpb (.inr (.inl (of_decide_eq_true c2)))]
   refine cl (strange_ok n hn.od) [0,1,2,3,4,5,6,7,8,9,10,11,12] ?_
   conv=>whnf
   exact cv [0,1,2,3,4,5,6,7,8,9,10,11,12,3,5,7,11,99]
  refine br_of (fun c3 => ?_) (fun c3 => ?_) <;> (rw [c3] ; conv=>whnf)
  ·refine ⟨rfl,?_⟩
   conv=>whnf
   rw [hpb (.inr (.inr (.inl (by simpa using c3))))]
   refine cl (strange_ok n hn.od) [0,1,2,3,4,5,6,7,8,9,10,11,12] ?_
   conv=>whnf
   exact cv [0,1,2,3,4,5,6,7,8,9,10,11,12,3,5,7,11,99]
  refine ⟨rfl,?_⟩
  conv=>whnf
  rw [hpb (.inr (.inr (.inr (.inl (by have n1:m.kind≠1:=of_decide_eq_false k; have n2:m.kind≠2:=of_decide_eq_false k2; have n3:m.kind≠3:=of_decide_eq_false k3; have n4:m.kind≠4:=of_decide_eq_false k4; have n9:m.kind≠9:=of_decide_eq_false k9; simp [n1,n2,n3,n4,n9])))))]
  refine cl (strange_ok n hn.od) [0,1,2,3,4,5,6,7,8,9,10,11,12] ?_
  conv=>whnf
  exact cv [0,1,2,3,4,5,6,7,8,9,10,11,12,3,5,7,11,99]
theorem ans_a {n:Nd} {m:Mg} (h:m.log≠0∨n.opn=0):n.answers m=false:=if_pos h
theorem ans_b {n:Nd} {m:Mg} (h:¬ (m.log≠0∨n.opn=0)):n.answers m=(m.id==((mpGet n.opn n.reqs.2).getD Mg.nil).id&&((((mpGet n.opn n.reqs.2).getD Mg.nil).kind==5&&m.kind==7)||(((mpGet n.opn n.reqs.2).getD Mg.nil).kind==6&&m.kind==8&&((mpGet n.opn n.reqs.2).getD Mg.nil).m==m.m&&((mpGet n.opn n.reqs.2).getD Mg.nil).n==m.n))):=if_neg h
theorem nans_ok (n:Nd) (m:Mg):Tri Tryz.prog G 130 [.p 0 0 0,i64 0,.a (mgE 13 14 15 m)] (ndH n++mgH m) (bv (n.answers m)) (ndH n++mgH m):=by
 have ha:=ans_a (n:=n) (m:=m)
 have hb:=ans_b (n:=n) (m:=m)
 refine fn Tryz.func130 ?_
 conv=>whnf
 refine br_of (fun h => ?_) (fun h => ?_) <;> (rw [h] ; conv=>whnf)
 ·rw [ha (.inl (by simpa using h))]
  exact cv [0,1,2,3,4,5,6,7,8,9,10,11,12,13,14,15]
 refine ⟨by decide,?_⟩
 conv=>whnf
 refine br_of (fun h2 => ?_) (fun h2 => ?_) <;> (try rw [h2]) <;> conv=>whnf
 ·rw [ha (.inr (eq_of_beq h2))]
  exact cv [0,1,2,3,4,5,6,7,8,9,10,11,12,13,14,15]
 rw [hb (by simp at h h2; simp [h,h2])]
 rw [← eq_c ((mpGet n.opn n.reqs.2).getD Mg.nil).m m.m,← eq_c ((mpGet n.opn n.reqs.2).getD Mg.nil).n m.n,← eq_c m.id ((mpGet n.opn n.reqs.2).getD Mg.nil).id]
 refine ⟨by decide,?_⟩
 conv=>whnf
 refine mGetD_of Mg.nil ?_ ?_
 rotate_left
 ·intro h
  conv at h=>whnf
  conv=>whnf
  exact h
 generalize (mpGet n.opn n.reqs.2).getD Mg.nil=q
 conv=>whnf
 refine ⟨rfl,?_⟩
 conv=>whnf
 repeat' (refine br_of (fun h => ?_) (fun h => ?_) <;> (rw [h] ; conv=>whnf))
 all_goals exact cv [0,1,2,3,4,5,6,7,8,9,10,11,12,13,14,15]
theorem log_bad {n:Nd} {s:Bs} (h:(Mg.dec s).2≠0∨(!n.answers (Mg.dec s).1)=true):n.log s=n.strange:=if_pos h
abbrev lgN (n:Nd):Nd:={ n with t:=n.t.done n.opn,reqs:=n.reqs.del n.opn,opn:=0 }
abbrev lgM (m:Mg):Mg:={ m with kind:=if m.kind=7 then 3 else m.kind,id:=0 }
theorem log_ok {n:Nd} {s:Bs} (h:¬ ((Mg.dec s).2≠0∨(!n.answers (Mg.dec s).1)=true)):n.log s=if ((lgN n).keep (lgM (Mg.dec s).1)).2=7 then ((lgN n).keep (lgM (Mg.dec s).1)).1.strange else ((lgN n).keep (lgM (Mg.dec s).1)).1:=if_neg h
theorem ans_log {n:Nd} {m:Mg} (h:n.answers m=true):m.log=0:=by
 by_cases h2:m.log=0
 ·exact h2
 ·rw [ans_a (.inl h2)] at h; cases h
theorem lgN_ok {n:Nd} (h:n.ok):(lgN n).ok:=⟨h.c,h.k,h.p,h.j,h.t.done n.opn,h.tc,h.st,h.nx,h.od,h.te,h.tu,fun x hx=>h.rq x (mpDel_mem hx),h.i1,h.i2,fun x hx=>h.rk x (mpDel_mem hx)⟩
theorem Nd.ok.log {n:Nd} (h:n.ok) (hl:n.j.l.length<900000) (s:Bs):(n.log s).ok∧Same n (n.log s)∧(n.log s).j.l.length≤n.j.l.length+1:=by
 by_cases hb:(Mg.dec s).2≠0∨(!n.answers (Mg.dec s).1)=true
 ·rw [log_bad hb]; exact ⟨h.strange.1,h.strange.2,Nat.le_succ _⟩
 ·rw [log_ok hb]
  obtain ⟨k1,k2,k3⟩:=(lgN_ok h).keep hl (lgM (Mg.dec s).1)
  have hs:Same n (lgN n):=⟨rfl,rfl,rfl⟩
  split
  ·exact ⟨k1.strange.1,hs.trans (k2.trans k1.strange.2),k3⟩
  ·exact ⟨k1,hs.trans k2,k3⟩
theorem nlog_ok (hG:GSig G) (hS:GSha G) (hH:GHas G) (n:Nd) (hn:n.ok) (hjl:n.j.l.length<900000) (s:Bs):Tri Tryz.prog G 79 [.p 0 0 0,i64 0,sv s] (ndH n) (.s 17 0 0 false) (ndP 13 14 15 16 (n.log s)++ndT (n.log s)++[sdRs []]):=by
 have hpb:=log_bad (n:=n) (s:=s)
 have hpo:=log_ok (n:=n) (s:=s)
 obtain ⟨hf,hpl⟩:=dec_fit s
 generalize n.log s=R at hpb hpo
 refine fn Tryz.func79 ?_
 conv=>whnf
 refine cl (mdec_ok hH hS s) [] ?_
 generalize (Mg.dec s).2=e at hpb hpo
 generalize (Mg.dec s).1=m at hpb hpo hf hpl
 conv=>whnf
 refine br_of (fun c1 => ?_) (fun c1 => ?_) <;> (rw [c1] ; conv=>whnf)
 ·rw [hpb (.inl (by simpa using c1))]
  refine cl (strange_ok n hn.od) [0,1,2,3,4,5,6,7,8,9,10,11,12] ?_
  conv=>whnf
  exact cv [0,1,2,3,4,5,6,7,8,9,10,11,12,3,5,7,11,99]
 refine clQ (nans_ok n m) [0,1,2,3,4,5,6,7,8,9,10,11,12,13,14,15] ?_
 have hal:=ans_log (n:=n) (m:=m)
 generalize n.answers m=a at hpb hpo hal
 conv=>whnf
 refine br_of (fun c2 => ?_) (fun c2 => ?_) <;> conv=>whnf
 ·rw [hpb (.inr c2)]
  refine cl (strange_ok n hn.od) [0,1,2,3,4,5,6,7,8,9,10,11,12] ?_
  conv=>whnf
  exact cv [0,1,2,3,4,5,6,7,8,9,10,11,12,3,5,7,11,99]
 have hl:m.log=0:=hal (by simpa using c2)
 have hgood:=hpo (by rintro (x | x); exact absurd x (by simpa using c1); rw [c2] at x; cases x)
 refine ⟨by decide,?_⟩
 conv=>whnf
 refine cl (rdone_ok n.t hn.t n.opn) [8,9,10,11] ?_
 conv=>whnf
 refine ⟨rfl,?_⟩
 conv=>whnf
 refine mDel_of ?_
 conv=>whnf
 refine ⟨rfl,?_⟩
 conv=>whnf
 have hN:=lgN_ok hn
 have fin:∀ (M:Mg),lgM m=M→M.log=0∧M.fit∧M.path.length≤10000:=fun M h=>by subst h; exact ⟨hl,⟨show 0<_ by decide,hf.2⟩,by show m.path.length≤_; omega⟩
 obtain ⟨M,hM⟩:∃ M,lgM m=M:=⟨_,rfl⟩
 obtain ⟨f1,f2,f3⟩:=fin M hM
 rw [hM] at hgood
 have hk:=(hN.keep hjl M).1
 obtain ⟨n2,hn2⟩:∃ n2,((lgN n).keep M).1=n2:=⟨_,rfl⟩
 obtain ⟨x,hx2⟩:∃ x,((lgN n).keep M).2=x:=⟨_,rfl⟩
 have kk:=nkeep_ok hG hS hH (lgN n) hN M f1 f2 f3
 rw [hn2] at hk
 rw [hn2,hx2] at hgood kk
 refine br_of (fun c3 => ?_) (fun c3 => ?_) <;> conv=>whnf
 case' refine_1=>have hM2:M={ m with kind:=3,id:=0 }:=by rw [← hM]; simp [lgM,eq_of_beq c3]
 case' refine_2=>have hM2:M={ m with kind:=m.kind,id:=0 }:=by rw [← hM]; have:=beq_eq_false_iff_ne.1 c3; simp [lgM,this]
 all_goals
  subst hM2
  refine cl kk [0,1,2,3,4,5,6,7,8,9,10,11,12,13,14,15] ?_
  clear kk
  conv=>whnf
  refine br_of (fun c4 => ?_) (fun c4 => ?_) <;> conv=>whnf
  ·rw [if_pos (eq_of_beq c4)] at hgood
   rw [hgood]
   refine cl (strange_ok n2 hk.od) [0,1,2,17,4,18,6,19,8,9,10,20,12] ?_
   conv=>whnf
   exact cv [0,1,2,3,4,5,6,7,8,9,10,11,12,17,18,19,20,99]
  ·rw [if_neg (beq_eq_false_iff_ne.1 c4)] at hgood
   rw [hgood]
   exact cv [0,1,2,3,4,5,6,7,8,9,10,11,12,17,18,19,20,99]
end Go.Proofs.YtdhgpocbcccieaaGreatDoor.M
namespace Go.Proofs.YtdhgpocbcccieaaGreatDoor.E
open Go Go.RowKit
def nilR:List EV→List EV→Prop
 | [],[]=>True
 | x::xs,y::ys=>((∃ u,x = .v u∧y = .v u)∨x = .v (.slice none 0 0)∧∃ L i z,y = .s L i 0 z)∧nilR xs ys
 | _,_=>False
theorem nilR.at_ {B B':Bm}:∀ {xs ys:List EV},nilR xs ys→xs.length=ys.length∧∀ (i:Nat) (y:EV) (u:Value),ys[i]? = some y→(∀ x,xs[i]? = some x→ER B x u)→ER B' y u:=by
 intro xs
 induction xs with
 | nil=>intro ys h; cases ys with | nil=>exact ⟨rfl,fun i y u hy=>by simp at hy⟩ | cons _ _=>exact h.elim
 | cons x xs ih =>
  intro ys h
  cases ys with
  | nil=>exact h.elim
  | cons y ys =>
   obtain ⟨h1,h2⟩:=h
   obtain ⟨i1,i2⟩:=ih h2
   refine ⟨by simp [i1],fun i z u hz hx => ?_⟩
   cases i with
   | zero =>
    cases hz
    have he:=hx x rfl
    rcases h1 with ⟨v,rfl,rfl⟩ | ⟨rfl,L,i,z',rfl⟩
    ·rw [he.v_inv]; exact .v _
    ·rw [he.v_inv]; exact .e none
   | succ i=>exact i2 i z u (by simpa using hz) fun x' hx'=>hx x' (by simpa using hx')
theorem Tri.noR {P:Program} {G:Gl} {f:FuncId} {xs ys:List EV} {ts:List TypeId} {u:Value} (t:Tri P G f [.a ys] (ts.map fun t => .rs t []) (.v u) (ts.map fun t => .rs t [])) (h:nilR xs ys):Tri P G f [.a xs] [] (.v u) []:=by
 refine ⟨t.1,fun S0 w0 B w vs has hw => ?_⟩
 have hb:∀ L,(hf (ts.map fun t=>EB.rs t []) L = .n)∨∃ t,hf (ts.map fun t=>EB.rs t []) L = .rs t []:=fun L=>by
  unfold hf
  rw [List.getD_eq_getElem?_getD,List.getElem?_map]
  cases ts[L]? with
  | none=>exact .inl rfl
  | some t=>exact .inr ⟨t,rfl⟩
 have hw0:Wd P G S0 w0 (fun _=>none) (hf (ts.map fun t=>EB.rs t [])) w:=by
  refine ⟨hw.t,fun L t rows hv => ?_,fun L x hx => ?_,fun L _=>rfl,fun L t rows hx => ?_,fun L L' q q' _ _ h=>(by cases h),fun L q _ h=>(by cases h),hw.gl⟩
  ·rcases hb L with e | ⟨t',e⟩ <;> rw [e] at hv <;> cases hv
   exact .inr ⟨rfl,rfl⟩
  ·rcases hb L with e | ⟨t',e⟩ <;> rw [e] at hx <;> cases hx
  ·rcases hb L with e | ⟨t',e⟩ <;> rw [e] at hx <;> cases hx
   exact fun row hr=>by cases hr
 have has0:ERs (fun _=>none) [.a ys] vs:=by
  obtain ⟨v,rfl,hv⟩:=has.one
  refine ⟨rfl,fun i x u hx hu => ?_⟩
  match i,hx,hu with
  | 0,hx,hu =>
   cases hx; cases hu
   cases hv with
   | a hl he =>
    obtain ⟨n1,n2⟩:=nilR.at_ (B:=B) (B':=fun _=>none) h
    refine .a (n1 ▸ hl) fun i y u hy hu=>n2 i y u hy fun x hx=>he i x u hx hu
  | i+1,hx,_=>simp at hx
 refine (t.2 S0 w0 _ w vs has0 hw0).mono fun e w' ⟨B',v,he,_,hv,hw'⟩=>⟨B,v,he,.refl B,?_,?_⟩
 ·rw [hv.v_inv]; exact .v _
 ·have hn:∀ L,hf [] L=EB.n:=fun L=>by simp [hf]
  refine ⟨hw'.t,fun L t rows hv => ?_,fun L x hx => ?_,fun L _=>hw.n L (hn L),fun L t rows hx => ?_,fun L L' q q' h => ?_,fun L q h => ?_,hw'.gl⟩
  ·rw [hn] at hv; cases hv
  ·rw [hn] at hx; cases hx
  ·rw [hn] at hx; cases hx
  ·rw [hn] at h; cases h
  ·rw [hn] at h; cases h
end Go.Proofs.YtdhgpocbcccieaaGreatDoor.E
namespace Go.Proofs.YtdhgpocbcccieaaGreatDoor.M
open Go Go.RowKit Go.Proofs.YtdhgpocbcccieaaGreatDoor.E
variable {G:Gl}
theorem enc0_ok (hH:GHas G) (hS:GSha G) (m:Mg) (hf:m.fit) (h1:m.b.path=[]) (h2:m.path=[]) (h3:m.marks=[]):Tri Tryz.prog G 125 [.a (mgN m nl nl nl)] [] (sv m.enc) []:=by
 have h:=menc_ok (G:=G) hH hS m hf
 obtain ⟨kind,log,id,mm,nn,hd,⟨a,b,bp⟩,p,mk⟩:=m
 simp only at h1 h2 h3
 subst h1 h2 h3
 refine Tri.noR (ts:=[9,9,219]) h ?_
 repeat' (first | exact True.intro | exact .inl ⟨_,rfl,rfl⟩ | exact .inr ⟨rfl,_,_,_,rfl⟩ | refine And.intro ?_ ?_)
def recsL (n:Nd):List Bs:=(if n.s.has then [Mg.enc { kind:=3,h:=n.s.fr }] else [])++(n.s.pend.map fun h=>Mg.enc { kind:=3,h:=h })++(if n.s.bad≠[] then [n.proof.enc] else [])
theorem renew_eq (n:Nd) (steps:Nat):n.renew steps=({ n with j:=(n.j.renew (recsL n) steps).1 },(n.j.renew (recsL n) steps).2):=rfl
abbrev hmg (h:Hd):Mg:={ kind:=3,h:=h }
theorem hmg_fit (h:Hd):(hmg h).fit:=⟨show 0<_ by decide,show 0<_ by decide,show 0<_ by decide,show 0≤_ by decide,show 0≤_ by decide,show 0≤_ by decide⟩
theorem nrenew_ok (hS:GSha G) (hH:GHas G) (n:Nd) (hn:n.ok) (steps:Nat) (hs:steps≤1000000):Tri Tryz.prog G 77 [.p 0 0 0,i64 (steps:Nat)] (ndH n) (i64 (n.renew steps).2) (ndP 13 14 15 16 (n.renew steps).1++ndT (n.renew steps).1):=by
 have hp:n.s.pend.length≤16:=by have:=hn.p.1; have:=hn.c.r2; omega
 have e0:=ne_nil n.s.bad
 have hpr:=nproof_ok (G:=G) n
 have hpf:=proof_fit n
 have hp2:n.proof.path=[]:=rfl
 have hp3:n.proof.marks=[]:=rfl
 rw [renew_eq]
 obtain ⟨R,hR⟩:∃ R,recsL n=R:=⟨_,rfl⟩
 rw [hR]
 obtain ⟨r1,hr1⟩:∃ r1,(if n.s.has then [Mg.enc (hmg n.s.fr)] else [])=r1:=⟨_,rfl⟩
 have hR:r1++(n.s.pend.map fun h=>Mg.enc (hmg h))++(if n.s.bad≠[] then [n.proof.enc] else [])=R:=by rw [← hr1]; exact hR
 obtain ⟨P,hP⟩:∃ P,n.proof=P:=⟨_,rfl⟩
 obtain ⟨X,hX⟩:∃ X,n.proof.enc=X:=⟨_,rfl⟩
 have hXl:X.length≤100000:=by rw [← hX]; exact Nat.le_trans (enc_len _) (by decide)
 rw [hX] at hR
 rw [hP] at hpr hpf hp2 hp3 hX
 clear hP
 obtain ⟨kind,log,id,mm,nn,hd,⟨ba,bb,bp⟩,pp,mk⟩:=P
 simp only at hp2 hp3
 subst hp2 hp3
 have hme:=menc_ok (G:=G) hH hS ⟨kind,log,id,mm,nn,hd,⟨ba,bb,bp⟩,[],[]⟩ hpf
 rw [hX] at hme
 have hw:=hn.j.d.mono (show 1≤1000 by decide)
 refine fn Tryz.func77 ?_
 conv=>whnf
 refine lu 2 ?_
 conv=>whnf
 refine ⟨by decide,?_⟩
 conv=>whnf
 refine br_of (fun h => ?_) (fun h => ?_) <;> conv=>whnf
 case' refine_1 =>
  rw [h] at hr1
  rw [if_pos rfl] at hr1
  refine clQ (enc0_ok hH hS (hmg n.s.fr) (hmg_fit _) rfl rfl rfl) [] ?_
  conv=>whnf
  refine ⟨⟨rfl,rfl⟩,?_⟩
  conv=>whnf
  refine ⟨by simp,?_⟩
  conv=>whnf
  have hrl:r1.length≤1:=by rw [← hr1]; simp
  refine lp2 (fun (i:Nat) (l:List Bs)=>([(0,.p 0 0 0),(1,i64 (steps:Nat)),(5,.s 14 0 l.length false),(6,i64 0),(7,.p 13 0 0),(13,.s 2 0 1 false),(14,i64 1),(15,i64 0),(34,.s 3 0 n.s.pend.length false),(35,i64 (n.s.pend.length:Nat)),(36,i64 (i:Nat))],ndH n++[.r 94 (wtE 3 n),sRs l])) (fun i l=>(i≤n.s.pend.length∧l.length=r1.length+i)∧l++((n.s.pend.drop i).map fun h=>Mg.enc (hmg h))=r1++(n.s.pend.map fun h=>Mg.enc (hmg h))) (fun i _=>n.s.pend.length-i) 0 r1 ⟨⟨by omega,rfl⟩,rfl⟩ (by subst hr1; exact cv [0,1,2,3,4,5,6,7,8,9,10,11,12,13,15]) fun i l ⟨⟨hi,hl⟩,hx⟩ => ?_
 case' refine_2 =>
  rw [h] at hr1
  rw [if_neg (by simp)] at hr1
  have hrl:r1.length≤1:=by rw [← hr1]; simp
  refine lp2 (fun (i:Nat) (l:List Bs)=>([(0,.p 0 0 0),(1,i64 (steps:Nat)),(5,.s 14 0 l.length false),(6,i64 0),(7,.p 13 0 0),(13,.s 2 0 1 false),(14,i64 1),(15,i64 0),(34,.s 3 0 n.s.pend.length false),(35,i64 (n.s.pend.length:Nat)),(36,i64 (i:Nat))],ndH n++[.r 94 (wtE 3 n),sRs l])) (fun i l=>(i≤n.s.pend.length∧l.length=r1.length+i)∧l++((n.s.pend.drop i).map fun h=>Mg.enc (hmg h))=r1++(n.s.pend.map fun h=>Mg.enc (hmg h))) (fun i _=>n.s.pend.length-i) 0 r1 ⟨⟨by omega,rfl⟩,rfl⟩ (by subst hr1; exact cv [0,1,2,3,4,5,6,7,8,9,10,11,12,13,99]) fun i l ⟨⟨hi,hl⟩,hx⟩ => ?_
 all_goals
  conv=>whnf
  refine br_of (fun h1 => ?_) (fun h1 => ?_) <;> conv=>whnf
  ·have h1:i<n.s.pend.length:=by have:=of_decide_eq_true h1; omega
   rw [List.drop_eq_getElem_cons h1,List.map_cons] at hx
   refine ⟨by omega,?_⟩
   conv=>whnf
   refine ob_of (hdE n.s.pend[i]) (by simp [h1]) ?_
   conv=>whnf
   generalize n.s.pend[i]=x at hx
   refine clQ (enc0_ok hH hS (hmg x) (hmg_fit _) rfl rfl rfl) [] ?_
   conv=>whnf
   refine ⟨⟨rfl,rfl⟩,?_⟩
   conv=>whnf
   refine ⟨by simp,?_⟩
   conv=>whnf
   refine ⟨⟨by omega,by simp⟩,?_⟩
   conv=>whnf
   rw [wI64 (n:=(i:Int)+1) (by omega) (by omega)]
   exact ⟨(i+1,l++[Mg.enc (hmg x)]),⟨⟨⟨h1,by simp; omega⟩,by simpa using hx⟩,by show n.s.pend.length-(i+1)<n.s.pend.length-i; omega⟩,cw [0,1,2,3,4,5,6,7,8,9,10,11,12,13,17]⟩
  ·have h1:i=n.s.pend.length:=by have:=of_decide_eq_false h1; omega
   subst h1
   rw [List.drop_length,List.map_nil,List.append_nil] at hx
   have hlx:∀ x∈l,x.length≤100000:=by
    rw [hx,← hr1]
    intro x hm
    simp only [List.mem_append,List.mem_map,List.mem_singleton,List.not_mem_nil,false_or] at hm
    first
     | (rcases hm with rfl | ⟨y, -,rfl⟩ <;> exact Nat.le_trans (enc_len _) (by decide))
     | (obtain ⟨y, -,rfl⟩:=hm; exact Nat.le_trans (enc_len _) (by decide))
   rw [e0]
   refine br_of (fun hb => ?_) (fun hb => ?_) <;> conv=>whnf
   ·rw [if_pos (bne_iff_ne.1 hb),← hx] at hR
    refine clN hpr [0,1,2,3,4,5,6,7,8,9,10,11,12] [sRs bp] ?_
    conv=>whnf
    refine CallE.ph 9 ?_
    refine CallE.ph 219 ?_
    refine cl hme [15,16,17] ?_
    conv=>whnf
    refine ⟨⟨rfl,rfl⟩,?_⟩
    conv=>whnf
    refine ⟨by simp,?_⟩
    conv=>whnf
    refine ⟨⟨by omega,by simp⟩,?_⟩
    conv=>whnf
    rw [show (sR l++[[EV.v (Value.string (sB X))]])=sR (l++[X]) from by simp,show l.length+1=(l++[X]).length from by simp]
    rw [hR]
    refine cl (jrenew_ok n.j R steps hn.j.fit hw (by rw [← hR]; simp; omega) (by rw [← hR]; intro x hx; rcases List.mem_append.1 hx with h | h; exact hlx x h; simp at h; subst h; exact hXl) hs) [4,5,6,7,19] ?_
    conv=>whnf
    exact cv [0,1,2,3,4,5,6,7,8,9,10,11,12,3,20,21,11]
   ·rw [if_neg (fun h=>h (by simpa using hb)),← hx,List.append_nil] at hR
    subst hR
    refine cl (jrenew_ok n.j l steps hn.j.fit hw (by omega) hlx hs) [4,5,6,7,14] ?_
    conv=>whnf
    exact cv [0,1,2,3,4,5,6,7,8,9,10,11,12,3,15,16,11]
end Go.Proofs.YtdhgpocbcccieaaGreatDoor.M
namespace Go.Proofs.YtdhgpocbcccieaaGreatDoor.E
open Go Go.RowKit
def pkB (ρ:List Nat) (d:Nat) (H:List EB):Nat→List EB→List EB
 | _,[]=>[]
 | L,.g::r => .g::pkB ρ d H (L+1) r
 | L,b::r=>(H[ρ.getD L d]?).getD .n::pkB ρ d H (L+1) r
def rnB (ρ:List Nat) (d:Nat):List EB→List EB
 | []=>[]
 | b::r=>renB ρ d b::rnB ρ d r
def liveg:List EB→Bool
 | []=>true
 | .n::_=>false
 | _::r=>liveg r
theorem covR_refl {ρ:List Nat} {d:Nat}:∀ l:List EV,covR ρ d (rens ρ d l) l
 | []=>trivial
 | x::l=>⟨.inl rfl,covR_refl l⟩
theorem covRs_refl {ρ:List Nat} {d:Nat}:∀ l:List (List EV),covRs ρ d (l.map (rens ρ d)) l
 | []=>trivial
 | x::l=>⟨covR_refl x,covRs_refl l⟩
theorem getD_n {ρ:List Nat} {d:Nat} {o:Option EB} {b:EB} (h:o.getD .n=renB ρ d b) (hb:b ≠ .n):o=some (renB ρ d b):=by
 cases o with
 | some x=>exact congrArg some h
 | none=>cases b <;> first | exact absurd rfl hb | cases h
theorem covL_of {ρ:List Nat} {d:Nat} {H:List EB}:∀ {HI:List EB} {L:Nat},pkB ρ d H L HI=rnB ρ d HI→liveg HI=true→covL ρ d H L HI
 | [],_,_,_=>trivial
 | .g::r,L,h,hl=>covL_of (HI:=r) (List.cons.inj h).2 hl
 | .n::r,L,h,hl=>by cases hl
 | .rs t rows::r,L,h,hl=>⟨.inl (getD_n (b := .rs t rows) (List.cons.inj h).1 (by simp)),covL_of (HI:=r) (List.cons.inj h).2 hl⟩
 | .r t row::r,L,h,hl=>⟨⟨_,getD_n (b := .r t row) (List.cons.inj h).1 (by simp),covR_refl row⟩,covL_of (HI:=r) (List.cons.inj h).2 hl⟩
 | .rv t rows::r,L,h,hl=>⟨⟨_,getD_n (b := .rv t rows) (List.cons.inj h).1 (by simp),covRs_refl rows⟩,covL_of (HI:=r) (List.cons.inj h).2 hl⟩
 | .o x::r,L,h,hl=>⟨getD_n (b := .o x) (List.cons.inj h).1 (by simp),covL_of (HI:=r) (List.cons.inj h).2 hl⟩
def ndB':List Nat→Bool
 | []=>true
 | x::r=>(r.all fun y => !Nat.beq x y)&&ndB' r
theorem nd_of:∀ {l:List Nat},ndB' l=true→l.Nodup
 | [],_=>List.nodup_nil
 | x::r,h=>by
  obtain ⟨h1,h2⟩:=Bool.and_eq_true_iff.1 h
  refine List.nodup_cons.2 ⟨fun hm => ?_,nd_of h2⟩
  have:=List.all_eq_true.1 h1 x hm
  simp at this
variable {P:Program} {G:Gl}
theorem ck {f:FuncId} {args args':List EV} {H H' Hc:List EB} {r:EV} {K:KE} (t:Tri P G f args H r H') (ρ:List Nat) (hk:postK ρ Hc r H' K)
  (hargs:covR ρ Hc.length args' args:=by repeat' (first | exact True.intro | exact Or.inl rfl | refine And.intro ?_ ?_))
  (hcov:pkB ρ Hc.length Hc 0 H=rnB ρ Hc.length H:=by kernel_rfl) (hlv:liveg H=true:=by kernel_rfl)
  (hck:(Nat.beq ρ.length H.length&&H.all EB.live&&Nat.ble H.length H'.length&&(ρ.all fun L=>Nat.blt L Hc.length)&&(wfEs H.length args&&H.all (wfB H.length)))=true:=by kernel_rfl) (hnd:ndB' ρ=true:=by kernel_rfl):CallE P G f args' Hc K:=call_of t ρ hargs (covL_of hcov hlv) hck (nd_of hnd) hk
theorem ckQ {f:FuncId} {args args':List EV} {H Hc:List EB} {r:EV} {K:KE} (t:Tri P G f args H r H) (ρ:List Nat) (hk:renK ρ Hc.length r fun r'=>K r' Hc ρ [])
  (hargs:covR ρ Hc.length args' args:=by repeat' (first | exact True.intro | exact Or.inl rfl | refine And.intro ?_ ?_))
  (hcov:pkB ρ Hc.length Hc 0 H=rnB ρ Hc.length H:=by kernel_rfl) (hlv:liveg H=true:=by kernel_rfl)
  (hck:(Nat.beq ρ.length H.length&&H.all EB.live&&Nat.ble H.length H.length&&(ρ.all fun L=>Nat.blt L Hc.length)&&(wfEs H.length args&&H.all (wfB H.length)))=true:=by kernel_rfl) (hnd:ndB' ρ=true:=by kernel_rfl)
  (hlen:H.length=ρ.length:=by kernel_rfl) (hput:putsL ρ Hc.length ρ H Hc=Hc:=by kernel_rfl):CallE P G f args' Hc K:=clQ t ρ hk hargs (covL_of hcov hlv) hck (nd_of hnd) hlen hput
theorem kv {n0:Nat} {T:TL} {H:List EB} {I:TL×List EB} (ρ:List Nat)
  (h5:pkB ρ H.length H 0 I.2=rnB ρ H.length I.2:=by kernel_rfl) (hlv:liveg I.2=true:=by kernel_rfl)
  (h4:covT ρ H.length T I.1:=by repeat' (first | exact True.intro | exact Or.inl rfl | exact Or.inr (Or.inl (And.intro rfl ⟨_,_,_,rfl⟩)) | refine And.intro ?_ ?_ | refine dCt ?_ | refine dCa ?_ | refine dC ?_ ?_ | exact dN | exact dE rfl | exact dS | refine dT ?_ | refine dA ?_))
  (h1:((List.range n0).all fun L=>ρ[L]? == some L)=true:=by kernel_rfl) (h2:ρ.length=I.2.length:=by kernel_rfl) (h3:ndL ρ I.2=true:=by kernel_rfl):Cov n0 T H I:=cv ρ h4 (covL_of h5 hlv) h1 h2 h3
end Go.Proofs.YtdhgpocbcccieaaGreatDoor.E
namespace Go.Proofs.YtdhgpocbcccieaaGreatDoor.M
open Go Go.RowKit Go.Proofs.YtdhgpocbcccieaaGreatDoor.E
variable {G:Gl}
abbrev msB (LN K:Nat) (m:Ms):EB := .r 77 [sv m.c.secret,i64 (m.c.nodes:Nat),i64 (m.c.room:Nat),u64 m.c.every,u64 m.c.gossip,u64 m.c.retry.base,u64 m.c.retry.most,u64 m.c.retry.span,i64 m.c.retry.tries,i64 m.c.retry.room,sv m.k.a,sv m.k.pre,sv m.k.pub,.s 1 0 K false,.s LN 0 m.net.length false,u64 m.now]
abbrev acE (a:Ac):List E.EV:=[i64 a.kind,i64 a.a,i64 a.b,u64 a.n,sv a.s]
theorem lpub_ok (k:Ky):Tri Tryz.prog G 59 [.a (kyE k)] [] (sv k.pub) []:=by
 refine fn Tryz.func59 ?_
 conv=>whnf
 refine clQ (spub_ok k) [] ?_
 conv=>whnf
 exact cv []
def putN (net:List Pk) (p:Pk):List Pk:=if 64≤net.length then net else net++[p]
def putE (net:List Pk):Int:=if 64≤net.length then 8 else 0
def sndX (i:Nat) (net:List Pk) (x:Sd):List Pk:=if x.1≥(i:Int) then putN net ⟨i,i64w (x.1+1),x.2⟩ else if x.1 < -1 then net else putN net ⟨i,x.1,x.2⟩
def sndN (i:Nat) (net:List Pk) (l:List Sd):List Pk:=l.foldl (sndX i) net
theorem put_eq (m:Ms) (p:Pk):m.put p=({ m with net:=putN m.net p },putE m.net):=by
 unfold Ms.put putN putE
 split <;> rfl
theorem send_eq (i:Nat):∀ (l:List Sd) (m:Ms),m.send i l={ m with net:=sndN i m.net l }:=by
 intro l
 induction l with
 | nil=>intro m; rfl
 | cons x l ih =>
  intro m
  have h:m.send i (x::l)=Ms.send (if x.1≥(i:Int) then (m.put ⟨i,i64w (x.1+1),x.2⟩).1 else if x.1 < -1 then m else (m.put ⟨i,x.1,x.2⟩).1) i l:=rfl
  rw [h,ih]
  have e:(if x.1≥(i:Int) then (m.put ⟨i,i64w (x.1+1),x.2⟩).1 else if x.1 < -1 then m else (m.put ⟨i,x.1,x.2⟩).1)={ m with net:=sndX i m.net x }:=by
   unfold sndX
   rw [put_eq,put_eq]
   split
   ·rfl
   ·split <;> rfl
  rw [e]
  rfl
theorem putN_a {net:List Pk} {p:Pk} (h:64≤net.length):putN net p=net:=if_pos h
theorem putN_b {net:List Pk} {p:Pk} (h:¬ 64≤net.length):putN net p=net++[p]:=if_neg h
theorem putN_len {net:List Pk} {p:Pk} (h:net.length≤64):(putN net p).length≤64:=by
 unfold putN
 split
 ·exact h
 ·simp only [List.length_append,List.length_singleton]; omega
def nowT (now n:Nat):Nat:=(now+(1+n%8))%18446744073709551616
theorem tick_no {m:Ms} {a:Ac} (h:m.has a.a=false):m.tick a=(m,1):=by unfold Ms.tick; rw [h]; rfl
theorem tick_yes {m:Ms} {a:Ac} (h:m.has a.a=true):m.tick a=({ m with now:=nowT m.now a.n,l:=m.l.set a.a.toNat { m.at_ a.a.toNat with n:=((m.at_ a.a.toNat).n.tick (nowT m.now a.n) a.n).1 },net:=sndN a.a.toNat m.net ((m.at_ a.a.toNat).n.tick (nowT m.now a.n) a.n).2 },0):=by
 unfold Ms.tick
 rw [h]
 simp only [Bool.not_true,Bool.false_eq_true,if_false]
 rw [send_eq]
 rfl
theorem nowT_lt (now n:Nat):nowT now n<18446744073709551616:=Nat.mod_lt _ (by decide)
theorem wrU (i:Int):IntKind.u64.wrap i=i%18446744073709551616:=by simp [IntKind.wrap,IntKind.bits,IntKind.signed]
theorem now_eq (now n:Nat):IntKind.u64.wrap ((now:Int)+IntKind.u64.wrap (1+Int.tmod (n:Int) 8))=((nowT now n:Nat):Int):=by
 rw [Int.tmod_eq_emod_of_nonneg (by omega),wrU,wrU]
 unfold nowT
 omega
structure Ms.ok (b:Nat) (m:Ms):Prop where
 n:∀ q∈m.l,q.n.ok∧q.n.id+b≤4611686018427387904∧q.n.j.l.length+b≤900000∧q.n.c=m.conf∧q.n.key=m.k.pub
 v:∀ q∈m.l,q.view.length≤12∧∀ x∈q.view,x.length≤40
 net:m.net.length≤64
 p:∀ p∈m.net,(p.dst = -1∧0≤p.frm∧p.frm<m.l.length)∨(0≤p.dst∧p.dst<m.l.length ∧ -1≤p.frm∧p.frm<m.l.length)
 now:m.now<18446744073709551616
 k:m.k.a.length+m.k.pre.length+m.k.pub.length≤100000
 kp:m.k.pub.length=32
 c:m.conf.ok
 cn:m.c.nodes=m.l.length
theorem renew_no {m:Ms} {a:Ac} (h:m.has a.a=false):m.renew a=(m,1):=by unfold Ms.renew; rw [h]; rfl
theorem renew_yes {m:Ms} {a:Ac} (h:m.has a.a=true):m.renew a=({ m with l:=m.l.set a.a.toNat { m.at_ a.a.toNat with n:=((m.at_ a.a.toNat).n.renew (a.n%6)).1 } },((m.at_ a.a.toNat).n.renew (a.n%6)).2):=by
 unfold Ms.renew
 rw [h]
 rfl
theorem feed_no {m:Ms} {a:Ac} (h:m.has a.a=false):m.feed a=(m,1):=by unfold Ms.feed; rw [h]; rfl
theorem feed_peer {m:Ms} {a:Ac} (h:m.has a.a=true) (h2:a.b<m.l.length-1):m.feed a=({ m with l:=m.l.set a.a.toNat { m.at_ a.a.toNat with n:=((m.at_ a.a.toNat).n.peer a.b a.s).1 },net:=sndN a.a.toNat m.net ((m.at_ a.a.toNat).n.peer a.b a.s).2 },0):=by
 unfold Ms.feed
 rw [h]
 simp only [Bool.not_true,Bool.false_eq_true,if_false]
 rw [if_pos h2,send_eq]
 rfl
theorem feed_log {m:Ms} {a:Ac} (h:m.has a.a=true) (h2:¬ a.b<m.l.length-1):m.feed a=({ m with l:=m.l.set a.a.toNat { m.at_ a.a.toNat with n:=(m.at_ a.a.toNat).n.log a.s } },0):=by
 unfold Ms.feed
 rw [h]
 simp only [Bool.not_true,Bool.false_eq_true,if_false]
 rw [if_neg h2]
 rfl
theorem crash_no {m:Ms} {a:Ac} (h:m.has a.a=false):m.crash a=(m,1):=by unfold Ms.crash; rw [h]; rfl
theorem crash_yes {m:Ms} {a:Ac} (h:m.has a.a=true):m.crash a=match Nd.boot m.conf m.k.pub ((m.at_ a.a.toNat).n.j.d.crash a.n) with | some n=>({ m with l:=m.l.set a.a.toNat { m.at_ a.a.toNat with n:=n } },0) | none=>({ m with l:=m.l.set a.a.toNat { m.at_ a.a.toNat with n:={ (m.at_ a.a.toNat).n with j:={ (m.at_ a.a.toNat).n.j with d:=(Jn.open ((m.at_ a.a.toNat).n.j.d.crash a.n)).d } } } },3):=by
 unfold Ms.crash
 rw [h]
 rfl
theorem crash_at {m:Ms} {a:Ac} {i:Nat} {q:Pl} (h:m.has a.a=true) (hi:a.a.toNat=i) (hq:m.at_ i=q):m.crash a=match Nd.boot m.conf m.k.pub (q.n.j.d.crash a.n) with | some n=>({ m with l:=m.l.set i { q with n:=n } },0) | none=>({ m with l:=m.l.set i { q with n:={ q.n with j:={ q.n.j with d:=(Jn.open (q.n.j.d.crash a.n)).d } } } },3):=by
 subst hi hq
 exact crash_yes h
theorem undo_le (d:Dk) (u:Bool×Nat×Nat):(d.undo1 u).room=d.room∧(d.undo1 u).f0.length≤d.f0.length∧(d.undo1 u).f1.length≤d.f1.length:=by
 obtain ⟨f,n,k⟩:=u
 cases f <;> refine ⟨rfl,?_,?_⟩ <;> simp [Dk.undo1,Dk.set,Dk.read] <;> omega
theorem undos_le:∀ (us:List (Bool×Nat×Nat)) (d:Dk),(us.foldl Dk.undo1 d).room=d.room∧(us.foldl Dk.undo1 d).f0.length≤d.f0.length∧(us.foldl Dk.undo1 d).f1.length≤d.f1.length:=by
 intro us
 induction us with
 | nil=>intro d; exact ⟨rfl,Nat.le_refl _,Nat.le_refl _⟩
 | cons u us ih =>
  intro d
  obtain ⟨a,b,c⟩:=ih (d.undo1 u)
  obtain ⟨a',b',c'⟩:=undo_le d u
  exact ⟨a.trans a',Nat.le_trans b b',Nat.le_trans c c'⟩
theorem crash_w {j:Jn} (h:j.ok) (n:Nat):(j.d.crash n).w 1000∧(j.d.crash n).room≤100000:=by
 obtain ⟨a,b,c⟩:=undos_le (undoF n j.d.loose).reverse j.d
 have h1:=h.d.1
 have h2:=h.d.2.1
 have h3:=h.r
 refine ⟨⟨?_,?_,Nat.zero_le _,fun x hx=>by cases hx⟩,?_⟩
 ·show ((undoF n j.d.loose).reverse.foldl Dk.undo1 j.d).f0.length+((undoF n j.d.loose).reverse.foldl Dk.undo1 j.d).f1.length≤((undoF n j.d.loose).reverse.foldl Dk.undo1 j.d).room
  omega
 ·show ((undoF n j.d.loose).reverse.foldl Dk.undo1 j.d).room≤_
  omega
 ·show ((undoF n j.d.loose).reverse.foldl Dk.undo1 j.d).room≤_
  omega
theorem arrive_a {m:Ms} {p:Pk} (h:p.dst = -1):m.arrive p={ m with net:=if ansL m.k (m.at_ p.frm.toNat).view m.now p.s≠[] then putN m.net ⟨-1,p.frm,ansL m.k (m.at_ p.frm.toNat).view m.now p.s⟩ else m.net }:=by
 unfold Ms.arrive
 rw [if_pos h]
 simp only
 rw [put_eq]
 split <;> rfl
theorem arrive_b {m:Ms} {p:Pk} (h:¬ p.dst = -1) (h2:p.frm = -1):m.arrive p={ m with l:=m.l.set p.dst.toNat { m.at_ p.dst.toNat with n:=(m.at_ p.dst.toNat).n.log p.s } }:=by
 unfold Ms.arrive
 rw [if_neg h]
 simp only
 rw [if_pos h2]
 rfl
theorem arrive_c {m:Ms} {p:Pk} (h:¬ p.dst = -1) (h2:¬ p.frm = -1):m.arrive p={ m with l:=m.l.set p.dst.toNat { m.at_ p.dst.toNat with n:=((m.at_ p.dst.toNat).n.peer (if p.frm>p.dst then p.frm-1 else p.frm) p.s).1 },net:=sndN p.dst.toNat m.net ((m.at_ p.dst.toNat).n.peer (if p.frm>p.dst then p.frm-1 else p.frm) p.s).2 }:=by
 unfold Ms.arrive
 rw [if_neg h]
 simp only
 rw [if_neg h2,send_eq]
 rfl
theorem moved_no {m:Ms} {a:Ac} (h:m.net.length=0):m.moved a=(m,5):=if_pos h
abbrev mvI (m:Ms) (a:Int):Nat:=(a%m.net.length).toNat
theorem moved_3 {m:Ms} {a:Ac} (h:¬ m.net.length=0) (h3:a.kind=3):m.moved a=({ m with net:=putN m.net (m.net.getD (mvI m a.a) default) },putE m.net):=by
 unfold Ms.moved
 rw [if_neg h]
 simp only
 rw [if_pos h3,put_eq]
theorem moved_4 {m:Ms} {a:Ac} (h:¬ m.net.length=0) (h4:a.kind=4):m.moved a=({ m with net:=putN (m.net.eraseIdx (mvI m a.a)) (m.net.getD (mvI m a.a) default) },0):=by
 unfold Ms.moved
 rw [if_neg h]
 simp only
 rw [if_neg (by omega),if_pos h4,put_eq]
theorem moved_1 {m:Ms} {a:Ac} (h:¬ m.net.length=0) (h1:a.kind=1):m.moved a=(({ m with net:=m.net.eraseIdx (mvI m a.a) }:Ms).arrive (m.net.getD (mvI m a.a) default),0):=by
 unfold Ms.moved
 rw [if_neg h]
 simp only
 rw [if_neg (by omega),if_neg (by omega),if_pos h1]
theorem moved_2 {m:Ms} {a:Ac} (h:¬ m.net.length=0) (h1:¬ a.kind=1) (h3:¬ a.kind=3) (h4:¬ a.kind=4):m.moved a=({ m with net:=m.net.eraseIdx (mvI m a.a) },0):=by
 unfold Ms.moved
 rw [if_neg h]
 simp only
 rw [if_neg h3,if_neg h4,if_neg h1]
theorem erase_rows {α:Type} (l:List α) (z:α) (i:Nat) (h:i<l.length):E.putL (E.putL (List.replicate (l.length-1) z) 0 ((l.drop 0).take (min i (l.length-1)))) i ((l.drop (i+1)).take (min (l.length-(i+1)) (l.length-1-i)))=l.eraseIdx i:=by
 have e1:min i (l.length-1)=i:=by omega
 have e2:min (l.length-(i+1)) (l.length-1-i)=l.length-(i+1):=by omega
 have hl:(l.take i).length=i:=by rw [List.length_take]; omega
 have hX:E.putL (List.replicate (l.length-1) z) 0 ((l.drop 0).take i)=l.take i++(List.replicate (l.length-1) z).drop i:=by
  unfold E.putL
  rw [List.drop_zero,hl,Nat.zero_add,List.take_zero,List.nil_append]
 have hd:(l.drop (i+1)).take (l.length-(i+1))=l.drop (i+1):=List.take_of_length_le (by rw [List.length_drop]; omega)
 rw [e1,e2,hX,hd]
 unfold E.putL
 have hR:(l.drop (i+1)).length=l.length-(i+1):=List.length_drop
 rw [List.eraseIdx_eq_take_drop_succ]
 generalize l.drop (i+1)=R at hR
 rw [List.take_left' hl,List.drop_eq_nil_of_le (by rw [List.length_append,hl,List.length_drop,List.length_replicate]; omega),List.append_nil]
theorem act1_ok (i:Int):Tri Tryz.prog G 71 [i64 i] [] (bv (decide (i≥0)&&decide (i≤255))) []:=by
 refine fn Tryz.func71 ?_
 conv=>whnf
 refine br_of (fun h => ?_) (fun h => ?_) <;> rw [h] <;> conv=>whnf
 ·exact cv []
 ·exact cv []
end Go.Proofs.YtdhgpocbcccieaaGreatDoor.M
namespace Go.Proofs.YtdhgpocbcccieaaGreatDoor.M
open Go Go.RowKit Go.Proofs.YtdhgpocbcccieaaGreatDoor.E
theorem stepsF_l (all:Bs):∀ (k i:Nat) (j:Jn),(Jn.stepsF j all k i).1.l=j.l:=by
 intro k
 induction k with
 | zero=>intro i j; rfl
 | succ k ih =>
  intro i j
  unfold Jn.stepsF
  simp only
  split
  ·exact (step_l j i all).1
  ·rw [ih]; exact (step_l j i all).1
theorem renew_l (j:Jn) (recs:List Bs) (n:Nat):(j.renew recs n).1.l=j.l∨(j.renew recs n).1.l=recs:=by
 unfold Jn.renew
 simp only
 split
 ·exact .inl rfl
 ·split
  ·exact .inl rfl
  ·split
   ·exact .inl (stepsF_l _ _ _ _)
   ·split
    ·exact .inl (stepsF_l _ _ _ _)
    ·exact .inr rfl
theorem lostF_j:∀ (l:List Int) (n:Nd) (o:List Sd),(Nd.lostF l n o).1.j=n.j:=by
 intro l
 induction l with
 | nil=>intro n o; rfl
 | cons id l ih=>intro n o; rw [lost_s,ih]
theorem due_j (n:Nd) (now draw:Nat):(n.due now draw).1.j=n.j:=by unfold Nd.due; exact lostF_j _ _ _
theorem goA_j (n:Nd) (m:Mg) (now draw:Nat):(goA n m now draw).1.j=n.j:=by unfold goA; split <;> rfl
theorem ask_j (n:Nd) (now draw:Nat):(n.ask now draw).1.j=n.j:=by
 by_cases h1:n.opn>0∨n.s.bad≠[]
 ·rw [ask_a h1]
 cases h2:n.s.need.2.2 with
 | true=>rw [ask_b h1 h2]; exact goA_j _ _ _ _
 | false =>
  by_cases h3:n.next≤now
  ·rw [ask_c h1 h2 h3]; exact goA_j _ _ _ _
  ·rw [ask_d h1 h2 h3]
theorem tick_j (n:Nd) (now draw:Nat):(n.tick now draw).1.j=n.j:=by
 unfold Nd.tick
 simp only
 split
 ·exact (ask_j _ _ _).trans (due_j _ _ _)
 ·exact (ask_j _ _ _).trans (due_j _ _ _)
theorem Nd.ok.renew {n:Nd} (h:n.ok) (k:Nat):(n.renew k).1.ok∧Same n (n.renew k).1∧(n.renew k).1.j.l.length≤max n.j.l.length 100:=by
 have hp:n.s.pend.length≤16:=by have:=h.p.1; have:=h.c.r2; omega
 have hr:(recsL n).length≤18:=by
  unfold recsL
  simp only [List.length_append,List.length_map]
  have e1:(if n.s.has=true then [Mg.enc { kind:=3,h:=n.s.fr }] else []).length≤1:=by split <;> simp
  have e2:(if n.s.bad≠[] then [n.proof.enc] else []).length≤1:=by split <;> simp
  omega
 rw [renew_eq]
 refine ⟨h.setJ (h.j.renew _ k (by omega)),⟨rfl,rfl,rfl⟩,?_⟩
 show (n.j.renew (recsL n) k).1.l.length≤_
 rcases renew_l n.j (recsL n) k with e | e <;> rw [e] <;> omega
theorem Nd.ok.peer {n:Nd} (h:n.ok) (hl:n.j.l.length<900000) (frm:Int) (s:Bs):(n.peer frm s).1.ok∧Same n (n.peer frm s).1∧(n.peer frm s).1.j.l.length≤n.j.l.length+1∧sdOk n (n.peer frm s).2∧(n.peer frm s).2.length≤2:=by
 by_cases hb:frm<0∨frm≥n.c.peers∨(Mg.dec s).2≠0∨(!((Mg.dec s).1.kind==1||(Mg.dec s).1.kind==2||(Mg.dec s).1.kind==3||(Mg.dec s).1.kind==4||(Mg.dec s).1.kind==9))=true∨(Mg.dec s).1.log≥1
 ·rw [peer_bad hb]
  exact ⟨h.strange.1,h.strange.2,Nat.le_succ _,fun x hx=>(by cases hx),Nat.zero_le _⟩
 have hf:0≤frm∧frm<n.c.peers:=by
  refine ⟨?_,?_⟩
  ·exact Int.not_lt.1 fun e=>hb (.inl e)
  ·exact Int.not_le.1 fun e=>hb (.inr (.inl e))
 have one:∀ (y:Bs),sdOk n [(frm,y)]:=fun y x hx=>by rw [List.mem_singleton.1 hx]; exact ⟨by show (-2:Int)≤frm; omega,hf.2⟩
 obtain ⟨k1,k2,k3⟩:=h.keep hl (Mg.dec s).1
 rw [peer_ok' hb]
 split
 ·unfold Nd.heads
  simp only
  split
  ·exact ⟨k1,k2,k3,one _,by simp⟩
  ·split
   ·exact ⟨k1,k2,k3,one _,by simp⟩
   ·split
    ·exact ⟨k1.strange.1,k2.trans k1.strange.2,k3,fun x hx=>(by cases hx),Nat.zero_le _⟩
    ·exact ⟨k1,k2,k3,fun x hx=>(by cases hx),Nat.zero_le _⟩
 ·split
  ·unfold Nd.proven
   simp only
   split
   ·exact ⟨k1.strange.1,k2.trans k1.strange.2,k3,fun x hx=>(by cases hx),Nat.zero_le _⟩
   ·exact ⟨k1,k2,k3,fun x hx=>(by cases hx),Nat.zero_le _⟩
  ·split
   ·exact ⟨h,.refl n,Nat.le_succ _,fun x hx=>(by cases hx),Nat.zero_le _⟩
   ·rw [digest_eq]
    have ht:sdOk n (tells n frm (marked (Mg.dec s).1.marks))∧(tells n frm (marked (Mg.dec s).1.marks)).length≤1:=by
     unfold tells
     split
     ·split
      ·exact ⟨one _,by simp⟩
      ·exact ⟨fun x hx=>(by cases hx),by simp⟩
     ·split
      ·exact ⟨one _,by simp⟩
      ·exact ⟨fun x hx=>(by cases hx),by simp⟩
    refine ⟨h,.refl n,Nat.le_succ _,?_,?_⟩
    ·simp only
     split
     ·intro x hx
      rcases List.mem_append.1 hx with hx | hx
      ·exact ht.1 x hx
      ·exact one _ x hx
     ·exact ht.1
    ·simp only
     split
     ·have:=ht.2; simp; omega
     ·have:=ht.2; omega
def okP (K:Nat) (p:Pk):Prop:=(p.dst = -1∧0≤p.frm∧p.frm<K)∨(0≤p.dst∧p.dst<K ∧ -1≤p.frm∧p.frm<K)
theorem putN_ok {K:Nat} {net:List Pk} {p:Pk} (h:∀ p∈net,okP K p) (hp:okP K p):∀ x∈putN net p,okP K x:=by
 unfold putN
 split
 ·exact h
 ·intro x hx
  rcases List.mem_append.1 hx with hx | hx
  ·exact h x hx
  ·rw [List.mem_singleton.1 hx]; exact hp
theorem sndX_ok {K i:Nat} (hi:i<K) (hK:K≤1000) {net:List Pk} (h:∀ p∈net,okP K p) (h2:net.length≤64) {x:Sd} (hx : -2≤x.1∧x.1<(K:Int)-1):(∀ p∈sndX i net x,okP K p)∧(sndX i net x).length≤64:=by
 unfold sndX
 split
 ·rename_i h3
  rw [show i64w (x.1+1)=x.1+1 from wI64 (by omega) (by omega)]
  exact ⟨putN_ok h (.inr ⟨by show 0≤x.1+1; omega,by show x.1+1<(K:Int); omega,by show (-1:Int)≤i; omega,by show (i:Int)<K; omega⟩),putN_len h2⟩
 ·split
  ·exact ⟨h,h2⟩
  ·rename_i h3 h4
   refine ⟨putN_ok h ?_,putN_len h2⟩
   by_cases h5:x.1 = -1
   ·exact .inl ⟨h5,by show (0:Int)≤i; omega,by show (i:Int)<K; omega⟩
   ·exact .inr ⟨by show 0≤x.1; omega,by show x.1<(K:Int); omega,by show (-1:Int)≤i; omega,by show (i:Int)<K; omega⟩
theorem sndN_ok {K i:Nat} (hi:i<K) (hK:K≤1000):∀ (l:List Sd) {net:List Pk},(∀ p∈net,okP K p)→net.length≤64→(∀ x∈l, -2≤x.1∧x.1<(K:Int)-1)→(∀ p∈sndN i net l,okP K p)∧(sndN i net l).length≤64:=by
 intro l
 induction l with
 | nil=>intro net h h2 _; exact ⟨h,h2⟩
 | cons x l ih =>
  intro net h h2 hl
  obtain ⟨a,b⟩:=sndX_ok hi hK h h2 (hl x (by simp))
  exact ih a b fun y hy=>hl y (List.mem_cons_of_mem _ hy)
end Go.Proofs.YtdhgpocbcccieaaGreatDoor.M
namespace Go.Proofs.YtdhgpocbcccieaaGreatDoor.M
open Go Go.RowKit Go.Proofs.YtdhgpocbcccieaaGreatDoor.E
variable {G:Gl}
theorem cfg1_ok (s:Bs):Tri Tryz.prog G 106 [sv s] [] (bv (!((s.length:Int)==32))) []:=by
 refine fn Tryz.func106 ?_
 conv=>whnf
 exact cv []
theorem cfg2_ok (n:Nat) (h1:1≤n) (h2:n≤1099511627776):Tri Tryz.prog G 108 [u64 n] [] (bv true) []:=by
 refine fn Tryz.func108 ?_
 conv=>whnf
 rw [show decide ((n:Int)≥1)=true from decide_eq_true (by omega)]
 conv=>whnf
 rw [show decide ((n:Int)≤1099511627776)=true from decide_eq_true (by omega)]
 exact cv []
theorem nright_ok (c:Nc) (hc:c.ok) (key:Bs) (hk:key.length=32):Tri Tryz.prog G 62 [.a (ncE 0 c)] [sRs [key]] (bv true) [sRs [key]]:=by
 refine fn Tryz.func62 ?_
 conv=>whnf
 refine clQ (has_ok [key] (by simp) _ _ cfg1_ok) [0] ?_
 rw [show ([key].any fun s => !((s.length:Int)==32))=false from by simp [hk]]
 conv=>whnf
 rw [show decide ((c.peers:Int)≤63)=true from decide_eq_true (by have:=hc.p; omega)]
 conv=>whnf
 rw [show decide ((c.room:Int)≥1)=true from decide_eq_true (by have:=hc.r1; omega)]
 conv=>whnf
 rw [show decide ((c.room:Int)≤16)=true from decide_eq_true (by have:=hc.r2; omega)]
 conv=>whnf
 refine clQ (cfg2_ok c.every hc.e1 hc.e2) [] ?_
 conv=>whnf
 refine clQ (cfg2_ok c.gossip hc.g1 hc.g2) [] ?_
 conv=>whnf
 exact cv [0]
theorem bootF_n (n:Nd):Nd.bootF [] n=some n:=rfl
theorem bootF_a {r:Bs} {l:List Bs} {n:Nd} (h:(Mg.dec r).2≠0∨(Mg.dec r).1.log≥1):Nd.bootF (r::l) n=none:=by unfold Nd.bootF; simp only; rw [if_pos h]
theorem bootF_b {r:Bs} {l:List Bs} {n:Nd} (h:¬ ((Mg.dec r).2≠0∨(Mg.dec r).1.log≥1)) (h2:cntB (n.done (Mg.dec r).1).2=false):Nd.bootF (r::l) n=none:=by unfold Nd.bootF; simp only; rw [if_neg h,h2]; rfl
theorem bootF_c {r:Bs} {l:List Bs} {n:Nd} (h:¬ ((Mg.dec r).2≠0∨(Mg.dec r).1.log≥1)) (h2:cntB (n.done (Mg.dec r).1).2=true):Nd.bootF (r::l) n=Nd.bootF l { n with s:=(n.done (Mg.dec r).1).1 }:=by rw [Nd.bootF]; simp only; rw [if_neg h,h2]; rfl
theorem bootF_ok:∀ (l:List Bs) (n n':Nd),n.ok→Nd.bootF l n=some n'→n'.ok∧Same n n'∧n'.j=n.j:=by
 intro l
 induction l with
 | nil=>intro n n' h e; cases e; exact ⟨h,.refl n,rfl⟩
 | cons r l ih =>
  intro n n' h e
  by_cases h1:(Mg.dec r).2≠0∨(Mg.dec r).1.log≥1
  ·rw [bootF_a h1] at e; cases e
  ·cases h2:cntB (n.done (Mg.dec r).1).2 with
   | false=>rw [bootF_b h1 h2] at e; cases e
   | true =>
    rw [bootF_c h1 h2] at e
    obtain ⟨a,b,c⟩:=ih _ _ (h.setS (done_inv h (Mg.dec r).1)) e
    exact ⟨a,⟨b.c,b.i,b.k⟩,c⟩
abbrev nd0 (c:Nc) (key:Bs) (d:Dk):Nd:={ c:=c,key:=key,j:=Jn.open d,t:={ c:=c.retry } }
theorem boot_eq (c:Nc) (key:Bs) (d:Dk):Nd.boot c key d=Nd.bootF (Jn.open d).l (nd0 c key d):=rfl
theorem nd0_ok {c:Nc} (hc:c.ok) {key:Bs} (hk:key.length=32) {d:Dk} (hd:d.w 1000) (hr:d.room≤100000):(nd0 c key d).ok:=by
 obtain ⟨hj, -⟩:=open_ok hd hr
 obtain ⟨-, -, -, -, -,r6, -⟩:=Rc.right_inv hc.t
 refine ⟨hc,hk,⟨Nat.zero_le _,Nat.zero_le _,fun x hx=>by cases hx⟩,hj,⟨hc.t,by show ((0:Nat):Int)≤c.retry.room; omega,fun x hx=>by cases hx⟩,rfl,show 0<_ by decide,show 0<_ by decide,show 0<_ by decide,show 0<_ by decide,?_,fun x hx=>(by cases hx),show (1:Int)≤1 by decide,show (1:Int)≤_ by decide,fun x hx=>by cases hx⟩
 show c.peers=0∨0<c.peers
 omega
theorem boot_ok {c:Nc} (hc:c.ok) {key:Bs} (hk:key.length=32) {d:Dk} (hd:d.w 1000) (hr:d.room≤100000) {n:Nd} (h:Nd.boot c key d=some n):n.ok∧n.c=c∧n.key=key∧n.id=1∧n.j=Jn.open d∧n.j.l.length≤100000:=by
 obtain ⟨a,b,e⟩:=bootF_ok _ _ _ (nd0_ok hc hk hd hr) h
 exact ⟨a,b.c,b.k,b.i,e,by rw [e]; exact (open_ok hd hr).2⟩
abbrev ndN (n:Nd):List EB:=[ndB 4 5 7 10 14 n,sRs [n.key],wtB 6 n,hdRs n.s.pend,jnB 8 1 n.j,sRs n.j.l,wrRs n.j.d.loose,tbB 11 12 n.t,tmB n.t.tried,hpB 13 n.t.due n.t.c.room,alRs n.t.due,rqB n]
abbrev btR:Option Nd→E.EV
 | some _ => .t [.p 3 0 0,i64 0]
 | none => .t [.v (.pointer none),i64 3]
abbrev btH (key:Bs) (d:Dk):Option Nd→List EB
 | some n=>[sRs [key],dkB 9 n.j.d,.g]++ndN n
 | none=>[sRs [key],dkB 3 (Jn.open d).d,.g,wrRs (Jn.open d).d.loose]
theorem nboot_ok (hG:GSig G) (hS:GSha G) (hH:GHas G) (c:Nc) (hc:c.ok) (key:Bs) (hk:key.length=32) (d:Dk) (hd:d.w 1000) (hr:d.room≤100000) (R:Option Nd) (hb:Nd.boot c key d=R):Tri Tryz.prog G 24 [.a (ncE 0 c),.p 1 0 0] [sRs [key],dkB 2 d,wrRs d.loose] (btR R) (btH key d R):=by
 rw [boot_eq] at hb
 refine fn Tryz.func24 ?_
 conv=>whnf
 refine cl (rnew_ok c.retry hc.t) [] ?_
 conv=>whnf
 refine clQ (nright_ok c hc key hk) [0] ?_
 conv=>whnf
 refine cl (cloneS_ok [key] (by simp)) [0] ?_
 conv=>whnf
 refine cl (jopen_ok d hd) [1,2] ?_
 have hn0:=nd0_ok hc hk hd hr
 have hl0:=(open_ok hd hr).2
 obtain ⟨n0,hn0e⟩:∃ n0,nd0 c key d=n0:=⟨_,rfl⟩
 have hj0:Jn.open d=n0.j:=by rw [← hn0e]
 rw [hn0e] at hn0 hb
 rw [hj0] at hb hl0 ⊢
 conv=>whnf
 refine ⟨rfl,?_⟩
 conv=>whnf
 refine lu 2 ?_
 conv=>whnf
 refine ⟨by simp,?_⟩
 conv=>whnf
 refine ⟨⟨rfl,rfl⟩,?_⟩
 conv=>whnf
 refine ⟨by simp,?_⟩
 conv=>whnf
 refine cl (jrecs_ok n0.j hn0.j.fit) [11,12,1,10] ?_
 conv=>whnf
 obtain ⟨rs,hrs⟩:∃ rs,n0.j.l=rs:=⟨_,rfl⟩
 rw [hrs] at hb hl0
 refine lp2 (fun (i:Nat) (n:Nd)=>([(8,.p 3 0 0),(64,.s 15 0 rs.length false),(65,i64 (rs.length:Nat)),(66,i64 (i:Nat))],[sRs [key],dkB 9 n.j.d,.g]++ndN n++[sRs rs])) (fun i n=>i≤rs.length∧n.ok∧n.j=n0.j∧Nd.bootF (rs.drop i) n=R) (fun i _=>rs.length-i) 0 n0 ⟨Nat.zero_le _,hn0,rfl,hb⟩ (by subst hrs hn0e; exact cvS (.toq 9 0 rfl (.tov 15 _ _ rfl (.refl _))) (cv [0,1,2,13,8,15,99,11,12,10,4,5,6,7,9,16])) fun i n ⟨hi,hn,hj,hx⟩ => ?_
 conv=>whnf
 refine br_of (fun h1 => ?_) (fun h1 => ?_) <;> conv=>whnf
 rotate_left
 ·have h1:i=rs.length:=by have:=of_decide_eq_false h1; omega
  subst h1
  rw [List.drop_length,bootF_n] at hx
  subst hx
  exact cv [0,1,2,3,4,5,6,7,8,9,10,11,12,13,14]
 have h1:i<rs.length:=by have:=of_decide_eq_true h1; omega
 rw [List.drop_eq_getElem_cons h1] at hx
 refine ⟨by omega,?_⟩
 conv=>whnf
 refine ob_of [sv rs[i]] (by simp [h1]) ?_
 conv=>whnf
 generalize rs[i]=r at hx
 have hbn:btH key d none=[sRs [key],dkB 3 n.j.d,.g,wrRs n.j.d.loose]:=by show [sRs [key],dkB 3 (Jn.open d).d,.g,wrRs (Jn.open d).d.loose]=_; rw [hj0,hj]
 refine cl (mdec_ok hH hS r) [] ?_
 obtain ⟨hf,hpl⟩:=dec_fit r
 have hdr:=dec_right (s:=r)
 have ha:=bootF_a (r:=r) (l:=rs.drop (i+1)) (n:=n)
 have hb:=bootF_b (r:=r) (l:=rs.drop (i+1)) (n:=n)
 have hc:=bootF_c (r:=r) (l:=rs.drop (i+1)) (n:=n)
 rw [hx] at ha hb hc
 generalize (Mg.dec r).2=e at hdr ha hb hc
 generalize (Mg.dec r).1=m at hf hpl hdr ha hb hc
 conv=>whnf
 refine br_of (fun c1 => ?_) (fun c1 => ?_) <;> (rw [c1] ; conv=>whnf)
 ·have:=ha (.inl (by simpa using c1))
  subst this
  refine ⟨rfl,?_⟩
  conv=>whnf
  rw [hbn]
  exact cv [0,1,2,9]
 refine ⟨rfl,?_⟩
 conv=>whnf
 refine br_of (fun c2 => ?_) (fun c2 => ?_) <;> conv=>whnf
 ·have:=ha (.inr (of_decide_eq_true c2))
  subst this
  rw [hbn]
  exact cv [0,1,2,9]
 have hl:m.log=0:=by have:=log_nn (hdr (by simpa using c1)); have:=of_decide_eq_false c2; omega
 have hno:¬ (e≠0∨m.log≥1):=by rintro (a | a); exact a (by simpa using c1); omega
 by_cases hk3:m.kind=3∨m.kind=8∨m.kind=4
 ·refine clN (ndone_ok hG hS n m hl hk3 (by have:=hn.p.1; have:=hn.c.r2; omega) (by rw [hn.k]; decide) (by have:=hn.c.r2; omega) hf (by omega)) [3,4,5,6,7,8,1,9,10,11,12,13,14,16,17,18] [hdRs (n.done m).1.pend] ?_
  conv=>whnf
  refine clQ (counts_ok (n.done m).2) [] ?_
  have hin:=done_inv hn m
  generalize (n.done m).1=s1 at hin hc
  generalize (n.done m).2=x1 at hb hc
  conv=>whnf
  refine br_of (fun c3 => ?_) (fun c3 => ?_) <;> conv=>whnf
  ·have:=hb hno (by simpa using c3)
   subst this
   rw [hbn]
   exact cv [0,1,2,9]
  have hx:=hc hno (by simpa using c3)
  rw [hl]
  refine ⟨by decide,?_⟩
  conv=>whnf
  refine ⟨rfl,?_⟩
  conv=>whnf
  rw [wI64 (n:=(i:Int)+1) (by omega) (by omega)]
  exact ⟨(i+1,{ n with s:=s1 }),⟨⟨h1,hn.setS hin,hj,hx.symm⟩,by show rs.length-(i+1)<rs.length-i; omega⟩,cv [0,1,2,3,4,5,20,7,8,9,10,11,12,13,14,15]⟩
 ·refine clQ (ndone_no n m hl hk3) [3,4,5,6,7,8,1,9,10,11,12,13,14,16,17,18] ?_
  rw [done_no hk3] at hb hc
  conv=>whnf
  refine clQ (counts_ok 0) [] ?_
  have:=hb hno rfl
  subst this
  conv=>whnf
  rw [hbn]
  exact cv [0,1,2,9]
theorem right_eq (kind a b:Int) (n:Nat) (s:Bs):(Ac.mk kind a b n s).right=(((((decide (kind≥0)&&decide (kind<9))&&(decide (a≥0)&&decide (a≤255)))&&(decide (b≥0)&&decide (b≤255)))&&decide ((n:Int)≤4294967296))&&decide ((((sB s).size:Nat):Int)≤4096)):=by
 unfold Ac.right
 rw [sB_size,show decide ((n:Int)≤4294967296)=decide (n≤4294967296) from by rw [decide_eq_decide]; omega,show decide (((s.length:Nat):Int)≤4096)=decide (s.length≤4096) from by rw [decide_eq_decide]; omega]
theorem actr_ok (a:Ac):Tri Tryz.prog G 27 [.a (acE a)] [] (bv a.right) []:=by
 obtain ⟨kind,ai,bi,n,s⟩:=a
 rw [right_eq]
 have ka:=act1_ok (G:=G) ai
 have kb:=act1_ok (G:=G) bi
 generalize (decide (ai≥0)&&decide (ai≤255))=A at ka ⊢
 generalize (decide (bi≥0)&&decide (bi≤255))=B at kb ⊢
 show Tri Tryz.prog G 27 [.a [i64 kind,i64 ai,i64 bi,u64 n,sv s]] [] _ []
 refine fn Tryz.func27 ?_
 conv=>whnf
 refine br_of (fun h => ?_) (fun h => ?_) <;> (rw [h] ; conv=>whnf)
 rotate_left
 ·exact cv []
 refine br_of (fun h => ?_) (fun h => ?_) <;> (rw [h] ; conv=>whnf)
 rotate_left
 ·exact cv []
 refine clQ ka [] ?_
 conv=>whnf
 refine br_of (fun h => ?_) (fun h => ?_) <;> (rw [h] ; conv=>whnf)
 rotate_left
 ·exact cv []
 refine clQ kb [] ?_
 conv=>whnf
 refine br_of (fun h => ?_) (fun h => ?_) <;> (rw [h] ; conv=>whnf)
 rotate_left
 ·exact cv []
 refine br_of (fun h => ?_) (fun h => ?_) <;> (rw [h] ; conv=>whnf)
 ·exact cv []
 ·exact cv []
theorem Ms.ok.K {b:Nat} {m:Ms} (h:Ms.ok b m):m.l.length≤4:=by
 have:=h.c.p
 have e:m.conf.peers=m.c.nodes-1:=rfl
 have:=h.cn
 omega
theorem Ms.ok.mono {b c:Nat} {m:Ms} (h:Ms.ok b m) (hc:c≤b):Ms.ok c m:=⟨fun q hq=>by obtain ⟨a1,a2,a3,a4,a5⟩:=h.n q hq; exact ⟨a1,by omega,by omega,a4,a5⟩,h.v,h.net,h.p,h.now,h.k,h.kp,h.c,h.cn⟩
theorem at_mem {m:Ms} {i:Nat} (hi:i<m.l.length):m.at_ i∈m.l:=by
 unfold Ms.at_
 rw [List.getD_eq_getElem?_getD,List.getElem?_eq_getElem hi]
 exact List.getElem_mem hi
theorem Ms.ok.put {b:Nat} {m:Ms} (h:Ms.ok (b+1) m) (hb:b≤100000) {i:Nat} (hi:i<m.l.length) {n2:Nd} (h1:n2.ok) (h2:n2.id≤(m.at_ i).n.id+1) (h3:n2.j.l.length≤max ((m.at_ i).n.j.l.length+1) 100000) (h4:n2.c=m.conf) (h5:n2.key=m.k.pub) {net:List Pk} (hn:net.length≤64) (hp:∀ p∈net,okP m.l.length p) {now:Nat} (hw:now<18446744073709551616):Ms.ok b { m with now:=now,l:=m.l.set i { m.at_ i with n:=n2 },net:=net }:=by
 obtain ⟨a1,a2,a3,a4,a5⟩:=h.n _ (at_mem hi)
 refine ⟨fun q hq => ?_,fun q hq => ?_,hn,fun p hp' => ?_,hw,h.k,h.kp,h.c,by show m.c.nodes=(m.l.set i _).length; rw [List.length_set]; exact h.cn⟩
 ·rcases List.mem_or_eq_of_mem_set hq with hq | rfl
  ·obtain ⟨b1,b2,b3,b4,b5⟩:=h.n q hq
   exact ⟨b1,by omega,by omega,b4,b5⟩
  ·exact ⟨h1,by show n2.id+b≤_; omega,by show n2.j.l.length+b≤_; omega,h4,h5⟩
 ·rcases List.mem_or_eq_of_mem_set hq with hq | rfl
  ·exact h.v q hq
  ·exact h.v (m.at_ i) (at_mem hi)
 ·have:=hp p hp'
  show (p.dst = -1∧0≤p.frm∧p.frm<(m.l.set i _).length)∨(0≤p.dst∧p.dst<(m.l.set i _).length ∧ -1≤p.frm∧p.frm<(m.l.set i _).length)
  rw [List.length_set]
  exact this
theorem has_lt' {m:Ms} {i:Int} (h:m.has i=true):i.toNat<m.l.length:=by
 unfold Ms.has at h
 simp only [Bool.and_eq_true,decide_eq_true_eq] at h
 omega
theorem Ms.ok.snd {b:Nat} {m:Ms} (h:Ms.ok b m) {i:Nat} (hi:i<m.l.length) {c:Nd} (hc:c.c=m.conf) {l:List Sd} (hl:sdOk c l):(sndN i m.net l).length≤64∧∀ p∈sndN i m.net l,okP m.l.length p:=by
 have hk:=h.K
 have e:m.conf.peers=m.c.nodes-1:=rfl
 have hcn:=h.cn
 have:=sndN_ok hi (by omega) l h.p h.net fun x hx=>by
  have:=hl x hx
  rw [hc,e] at this
  omega
 exact ⟨this.2,this.1⟩
theorem Ms.ok.tick {b:Nat} {m:Ms} (h:Ms.ok (b+1) m) (hb:b≤100000) (a:Ac):Ms.ok b (m.tick a).1:=by
 cases hh:m.has a.a with
 | false=>rw [tick_no hh]; exact h.mono (by omega)
 | true =>
  rw [tick_yes hh]
  have hi:=has_lt' hh
  obtain ⟨a1,a2,a3,a4,a5⟩:=h.n _ (at_mem hi)
  obtain ⟨t1,t2,t3,t4,t5,t6⟩:=a1.tick (by omega) (nowT m.now a.n) a.n
  obtain ⟨s1,s2⟩:=h.snd hi a4 t2
  exact h.put hb hi t1 t4 (by rw [tick_j]; omega) (t3.trans a4) (t5.trans a5) s1 s2 (nowT_lt _ _)
theorem Ms.ok.renew {b:Nat} {m:Ms} (h:Ms.ok (b+1) m) (hb:b≤100000) (a:Ac):Ms.ok b (m.renew a).1:=by
 cases hh:m.has a.a with
 | false=>rw [renew_no hh]; exact h.mono (by omega)
 | true =>
  rw [renew_yes hh]
  have hi:=has_lt' hh
  obtain ⟨a1,a2,a3,a4,a5⟩:=h.n _ (at_mem hi)
  obtain ⟨t1,t2,t3⟩:=a1.renew (a.n%6)
  exact h.put hb hi t1 (by rw [t2.i]; omega) (by omega) (t2.c.trans a4) (t2.k.trans a5) h.net h.p h.now
theorem Ms.ok.feed {b:Nat} {m:Ms} (h:Ms.ok (b+1) m) (hb:b≤100000) (a:Ac):Ms.ok b (m.feed a).1:=by
 cases hh:m.has a.a with
 | false=>rw [feed_no hh]; exact h.mono (by omega)
 | true =>
  have hi:=has_lt' hh
  obtain ⟨a1,a2,a3,a4,a5⟩:=h.n _ (at_mem hi)
  by_cases h2:a.b<m.l.length-1
  ·rw [feed_peer hh h2]
   obtain ⟨t1,t2,t3,t4,t5⟩:=a1.peer (by omega) a.b a.s
   obtain ⟨s1,s2⟩:=h.snd hi a4 t4
   exact h.put hb hi t1 (by rw [t2.i]; omega) (by omega) (t2.c.trans a4) (t2.k.trans a5) s1 s2 h.now
  ·rw [feed_log hh h2]
   obtain ⟨t1,t2,t3⟩:=a1.log (by omega) a.s
   exact h.put hb hi t1 (by rw [t2.i]; omega) (by omega) (t2.c.trans a4) (t2.k.trans a5) h.net h.p h.now
theorem act_no {m:Ms} {a:Ac} (h:a.right=false):m.act a=(m,1):=by unfold Ms.act; rw [h]; rfl
theorem act_yes {m:Ms} {a:Ac} (h:a.right=true):m.act a=if a.kind=0 then m.tick a else if a.kind≤4 then m.moved a else if a.kind=5 then m.leaf a else if a.kind=6 then m.crash a else if a.kind=7 then m.renew a else m.feed a:=by unfold Ms.act; rw [h]; rfl
theorem right_inv {a:Ac} (h:a.right=true):0≤a.kind∧a.kind<9∧0≤a.a∧a.a≤255∧0≤a.b∧a.b≤255∧a.n≤4294967296∧a.s.length≤4096:=by
 unfold Ac.right at h
 simp only [Bool.and_eq_true,decide_eq_true_eq] at h
 obtain ⟨⟨⟨⟨⟨h1,h2⟩,h3,h4⟩,h5,h6⟩,h7⟩,h8⟩:=h
 exact ⟨h1,h2,h3,h4,h5,h6,h7,h8⟩
theorem Ms.ok.nets {b:Nat} {m:Ms} (h:Ms.ok b m) {net:List Pk} (hn:net.length≤64) (hp:∀ p∈net,okP m.l.length p):Ms.ok b { m with net:=net }:=⟨h.n,h.v,hn,hp,h.now,h.k,h.kp,h.c,h.cn⟩
theorem Ms.ok.arrive {b:Nat} {m:Ms} (h:Ms.ok (b+1) m) (hb:b≤100000) (p:Pk) (hp:okP m.l.length p):Ms.ok b (m.arrive p):=by
 unfold okP at hp
 by_cases h1:p.dst = -1
 ·rw [arrive_a h1]
  refine (h.mono (by omega)).nets ?_ ?_
  ·split
   ·exact putN_len h.net
   ·exact h.net
  ·split
   ·exact putN_ok h.p (.inr ⟨by show 0≤p.frm; omega,by show p.frm<(m.l.length:Nat); omega,by show (-1:Int) ≤ -1; omega,by show (-1:Int)<(m.l.length:Nat); omega⟩)
   ·exact h.p
 ·have hi:p.dst.toNat<m.l.length:=by omega
  obtain ⟨a1,a2,a3,a4,a5⟩:=h.n _ (at_mem hi)
  by_cases h2:p.frm = -1
  ·rw [arrive_b h1 h2]
   obtain ⟨t1,t2,t3⟩:=a1.log (by omega) p.s
   exact h.put hb hi t1 (by rw [t2.i]; omega) (by omega) (t2.c.trans a4) (t2.k.trans a5) h.net h.p h.now
  ·rw [arrive_c h1 h2]
   obtain ⟨t1,t2,t3,t4,t5⟩:=a1.peer (by omega) (if p.frm>p.dst then p.frm-1 else p.frm) p.s
   obtain ⟨s1,s2⟩:=h.snd hi a4 t4
   exact h.put hb hi t1 (by rw [t2.i]; omega) (by omega) (t2.c.trans a4) (t2.k.trans a5) s1 s2 h.now
theorem Ms.ok.moved {b:Nat} {m:Ms} (h:Ms.ok (b+1) m) (hb:b≤100000) (a:Ac) (ha:0≤a.a):Ms.ok b (m.moved a).1:=by
 have h':Ms.ok b m:=h.mono (by omega)
 by_cases h0:m.net.length=0
 ·rw [moved_no h0]; exact h'
 have hil:mvI m a.a<m.net.length:=by
  have h1:=Int.emod_lt_of_pos a.a (show (0:Int)<m.net.length by omega)
  have h2:=Int.emod_nonneg a.a (show (m.net.length:Int)≠0 by omega)
  unfold mvI
  omega
 have hp:okP m.l.length (m.net.getD (mvI m a.a) default):=by
  rw [List.getD_eq_getElem?_getD,List.getElem?_eq_getElem hil]
  exact h.p _ (List.getElem_mem hil)
 have he:(m.net.eraseIdx (mvI m a.a)).length≤64:=by rw [List.length_eraseIdx]; have:=h.net; split <;> omega
 have hq:∀ p∈m.net.eraseIdx (mvI m a.a),okP m.l.length p:=fun p hx=>h.p p (List.mem_of_mem_eraseIdx hx)
 by_cases h3:a.kind=3
 ·rw [moved_3 h0 h3]; exact h'.nets (putN_len h.net) (putN_ok h.p hp)
 by_cases h4:a.kind=4
 ·rw [moved_4 h0 h4]; exact h'.nets (putN_len he) (putN_ok hq hp)
 by_cases h1:a.kind=1
 ·rw [moved_1 h0 h1]; exact (h.nets he hq).arrive hb _ hp
 ·rw [moved_2 h0 h1 h3 h4]; exact h'.nets he hq
theorem Ms.ok.crash {b:Nat} {m:Ms} (h:Ms.ok (b+1) m) (hb:b≤100000) (a:Ac):Ms.ok b (m.crash a).1:=by
 cases hh:m.has a.a with
 | false=>rw [crash_no hh]; exact h.mono (by omega)
 | true =>
  rw [crash_yes hh]
  have hi:=has_lt' hh
  obtain ⟨a1,a2,a3,a4,a5⟩:=h.n _ (at_mem hi)
  obtain ⟨w1,w2⟩:=crash_w a1.j a.n
  cases hB:Nd.boot m.conf m.k.pub ((m.at_ a.a.toNat).n.j.d.crash a.n) with
  | some n2 =>
   obtain ⟨t1,t2,t3,t4,t5,t6⟩:=boot_ok h.c h.kp w1 w2 hB
   exact h.put hb hi t1 (by rw [t4]; have:=a1.i1; omega) (by omega) t2 t3 h.net h.p h.now
  | none =>
   obtain ⟨o1, -⟩:=open_ok w1 w2
   have hj:({ (m.at_ a.a.toNat).n.j with d:=(Jn.open ((m.at_ a.a.toNat).n.j.d.crash a.n)).d }:Jn).ok:=⟨o1.d,o1.r,a1.j.l,a1.j.s,fun _=>o1.a rfl,fun x hx=>o1.u x hx⟩
   exact h.put hb hi (a1.setJ hj) (by show (m.at_ a.a.toNat).n.id≤_; omega) (by show (m.at_ a.a.toNat).n.j.l.length≤_; omega) a4 a5 h.net h.p h.now
theorem leaf_ok' {b:Nat} {m:Ms} (h:Ms.ok b m) (lo hi:Nat) (h1:lo≤hi) (h2:hi≤m.l.length) (s:Bs) (hv:¬ (((m.l.take hi).drop lo).any fun x=>decide (12≤x.view.length))=true):Ms.ok b { m with l:=m.l.take lo++(((m.l.take hi).drop lo).map fun x=>{ x with view:=x.view++[s.take 40] })++m.l.drop hi }:=by
 have hlen:(m.l.take lo++(((m.l.take hi).drop lo).map fun x=>({ x with view:=x.view++[s.take 40] }:Pl))++m.l.drop hi).length=m.l.length:=by
  simp only [List.length_append,List.length_map,List.length_drop,List.length_take]
  omega
 have hin:∀ q∈m.l.take lo++(((m.l.take hi).drop lo).map fun x=>({ x with view:=x.view++[s.take 40] }:Pl))++m.l.drop hi,∃ q0∈m.l,q.n=q0.n∧(q.view=q0.view∨q0.view.length<12∧q.view=q0.view++[s.take 40]):=by
  intro q hq
  rcases List.mem_append.1 hq with hq | hq
  ·rcases List.mem_append.1 hq with hq | hq
   ·exact ⟨q,List.mem_of_mem_take hq,rfl,.inl rfl⟩
   ·obtain ⟨x,hx,rfl⟩:=List.mem_map.1 hq
    refine ⟨x,List.mem_of_mem_take (List.mem_of_mem_drop hx),rfl,.inr ⟨?_,rfl⟩⟩
    refine Nat.lt_of_not_le fun e=>hv ?_
    rw [List.any_eq_true]
    exact ⟨x,hx,decide_eq_true e⟩
  ·exact ⟨q,List.mem_of_mem_drop hq,rfl,.inl rfl⟩
 refine ⟨fun q hq => ?_,fun q hq => ?_,h.net,fun p hp => ?_,h.now,h.k,h.kp,h.c,by show m.c.nodes=List.length _; rw [hlen]; exact h.cn⟩
 ·obtain ⟨q0,hq0,e1, -⟩:=hin q hq
  rw [e1]
  exact h.n q0 hq0
 ·obtain ⟨q0,hq0, -,e2⟩:=hin q hq
  obtain ⟨v1,v2⟩:=h.v q0 hq0
  rcases e2 with e2 | ⟨e3,e2⟩
  ·rw [e2]; exact ⟨v1,v2⟩
  ·rw [e2]
   refine ⟨by simp only [List.length_append,List.length_singleton]; omega,fun x hx => ?_⟩
   rcases List.mem_append.1 hx with hx | hx
   ·exact v2 x hx
   ·rw [List.mem_singleton.1 hx,List.length_take]; omega
 ·have:=h.p p hp
  show (p.dst = -1∧0≤p.frm∧p.frm<(List.length _:Nat))∨(0≤p.dst∧p.dst<(List.length _:Nat) ∧ -1≤p.frm∧p.frm<(List.length _:Nat))
  rw [hlen]
  exact this
theorem Ms.ok.leaf {b:Nat} {m:Ms} (h:Ms.ok b m) (a:Ac):Ms.ok b (m.leaf a).1:=by
 unfold Ms.leaf
 cases hh:m.has a.a with
 | true =>
  have hi:=has_lt' hh
  simp only [if_true]
  split
  ·exact h
  ·rename_i hv
   exact leaf_ok' h _ _ (by simp) (by omega) a.s hv
 | false =>
  simp only [Bool.false_eq_true,if_false]
  split
  ·exact h
  ·rename_i hv
   exact leaf_ok' h _ _ (by simp) (by simp) a.s hv
theorem Ms.ok.act {b:Nat} {m:Ms} (h:Ms.ok (b+1) m) (hb:b≤100000) (a:Ac):Ms.ok b (m.act a).1:=by
 cases hr:a.right with
 | false=>rw [act_no hr]; exact h.mono (by omega)
 | true =>
  rw [act_yes hr]
  obtain ⟨r1,r2,r3,r4,r5,r6,r7,r8⟩:=right_inv hr
  split
  ·exact h.tick hb a
  ·split
   ·exact h.moved hb a r3
   ·split
    ·exact (h.mono (by omega)).leaf a
    ·split
     ·exact h.crash hb a
     ·split
      ·exact h.renew hb a
      ·exact h.feed hb a
theorem eputL_len {α:Type} (rows:List α) (i:Nat) (src:List α) (h:i+src.length≤rows.length):(E.putL rows i src).length=rows.length:=by
 unfold E.putL
 rw [List.length_append,List.length_append,List.length_take,List.length_drop]
 omega
theorem mv_rows (l:List Pk) (i:Nat) (h:i<l.length):E.putL (E.putL (List.replicate (((l.length-1:Nat):Int)).toNat [E.EV.v (Value.int IntKind.i64 0),E.EV.v (Value.int IntKind.i64 0),E.EV.v (Value.string { data := #[] })]) 0 (List.take (((i:Int)-0).toNat.min (((l.length-1:Nat):Int)).toNat) (List.drop (0+Int.toNat 0) (pkR l)))) (0+(i:Int).toNat) (List.take (((l.length:Int)-((i:Int)+1)).toNat.min ((((((l.length-1:Nat):Int)).toNat:Int)-(i:Int)).toNat)) (List.drop (0+((i:Int)+1).toNat) (pkR l)))=pkR (l.eraseIdx i):=by
 have e:=erase_rows (pkR l) [E.EV.v (Value.int IntKind.i64 0),E.EV.v (Value.int IntKind.i64 0),E.EV.v (Value.string { data := #[] })] i (by simpa using h)
 rw [List.length_map] at e
 simp only [Int.sub_zero,Int.toNat_natCast,Nat.zero_add]
 rw [show ((i:Int)+1).toNat=i+1 by omega,show ((l.length:Int)-((i:Int)+1)).toNat=l.length-(i+1) by omega,show (((l.length-1:Nat):Int)-(i:Int)).toNat=l.length-1-i by omega]
 exact e.trans (by simp [List.eraseIdx_eq_take_drop_succ])
abbrev msN (l:E.EV) (m:Ms):EB := .r 77 [sv m.c.secret,i64 (m.c.nodes:Nat),i64 (m.c.room:Nat),u64 m.c.every,u64 m.c.gossip,u64 m.c.retry.base,u64 m.c.retry.most,u64 m.c.retry.span,i64 m.c.retry.tries,i64 m.c.retry.room,sv m.k.a,sv m.k.pre,sv m.k.pub,l,nl,u64 m.now]
theorem lnew_ok (hG:GSig G) (s:Bs) (hs:s.length=32):Tri Tryz.prog G 22 [sv s] [] (.t [.a (kyE (keyL s)),i64 0]) []:=by
 refine fn Tryz.func22 ?_
 conv=>whnf
 refine cl (snew_ok hG s hs) [] ?_
 conv=>whnf
 exact cv []
theorem pub_len (s:Bs):(keyL s).pub.length=32:=baseL_len _
theorem open0:Jn.open { room:=100000 }={ d:={ room:=100000 } }:=by decide +kernel
theorem d0_w:({ room:=100000 }:Dk).w 1000:=⟨by decide,by decide,by decide,fun x hx=>by cases hx⟩
def pl0 (sec:Bs) (K:Nat):Pl:={ n:={ c:=⟨K-1,4,1,3,⟨2,8,0,3,2⟩⟩,key:=(keyL sec).pub,j:={ d:={ room:=100000 } },t:={ c:=⟨2,8,0,3,2⟩ } } }
theorem boot0 (c:Nc) (key:Bs):Nd.boot c key { room:=100000 }=some { c:=c,key:=key,j:={ d:={ room:=100000 } },t:={ c:=c.retry } }:=by
 rw [boot_eq]
 unfold nd0
 rw [open0]
 rfl
theorem conf_plain (sec:Bs) (K:Nat) (h:1≤K) (h4:K≤4):(Ms.new (plain sec K)).conf.ok:=⟨by show K-1≤3; omega,by show 1≤4; decide,by show 4≤16; decide,by show 1≤1; decide,by show 1≤1099511627776; decide,by show 1≤3; decide,by show 3≤1099511627776; decide,by show Rc.right ⟨2,8,0,3,2⟩=true; decide⟩
end Go.Proofs.YtdhgpocbcccieaaGreatDoor.M
namespace Go.Proofs.YtdhgpocbcccieaaGreatDoor.M
open Go Go.RowKit Go.Proofs.YtdhgpocbcccieaaGreatDoor.E
def tickR (m:Ms) (i:Nat):Ms:={ m with now:=addL m.now m.c.gossip,l:=m.l.set i { m.at_ i with n:=((m.at_ i).n.tick (addL m.now m.c.gossip) 0).1 },net:=sndN i m.net ((m.at_ i).n.tick (addL m.now m.c.gossip) 0).2 }
theorem ticksF_s (i:Nat) (l:List Nat) (m:Ms):Ms.ticksF (i::l) m=Ms.ticksF l (tickR m i):=by
 rw [Ms.ticksF]
 simp only
 rw [send_eq]
 rfl
theorem Ms.ok.tickR {b:Nat} {m:Ms} (h:Ms.ok (b+1) m) (hb:b≤100000) {i:Nat} (hi:i<m.l.length):Ms.ok b (tickR m i):=by
 obtain ⟨a1,a2,a3,a4,a5⟩:=h.n _ (at_mem hi)
 obtain ⟨t1,t2,t3,t4,t5,t6⟩:=a1.tick (by omega) (addL m.now m.c.gossip) 0
 obtain ⟨s1,s2⟩:=h.snd hi a4 t2
 exact h.put hb hi t1 t4 (by rw [tick_j]; omega) (t3.trans a4) (t5.trans a5) s1 s2 addL_lt
abbrev dlv:Ac:=⟨1,0,0,0,[]⟩
theorem movesF_a {k:Nat} {m:Ms} (h:(m.moved dlv).2≠0):Ms.movesF (k+1) m=(m.moved dlv).1:=by
 rw [Ms.movesF]
 exact if_pos h
theorem movesF_b {k:Nat} {m:Ms} (h:(m.moved dlv).2=0):Ms.movesF (k+1) m=Ms.movesF k (m.moved dlv).1:=by
 rw [Ms.movesF]
 exact if_neg (by simpa using h)
theorem arrive_len {m:Ms} (p:Pk):(m.arrive p).l.length=m.l.length:=by
 by_cases h1:p.dst = -1
 ·rw [arrive_a h1]
 ·by_cases h2:p.frm = -1
  ·rw [arrive_b h1 h2]; exact List.length_set
  ·rw [arrive_c h1 h2]; exact List.length_set
theorem moved_len {m:Ms} (a:Ac):(m.moved a).1.l.length=m.l.length:=by
 unfold Ms.moved
 simp only
 split
 ·rfl
 ·split
  ·rw [put_eq]
  ·split
   ·rw [put_eq]
   ·split
    ·exact arrive_len _
    ·rfl
theorem two_of {l:List Pl} (h:l.length=2):l=[l.getD 0 default,l.getD 1 default]:=by
 match l,h with
 | [a,b],_=>rfl
end Go.Proofs.YtdhgpocbcccieaaGreatDoor.M
namespace Go.Proofs.YtdhgpocbcccieaaGreatDoor.M
open Go Go.RowKit Go.Proofs.YtdhgpocbcccieaaGreatDoor.E
variable {G:Gl}
abbrev acR (l:List Ac):List (List E.EV):=l.map acE
abbrev acRs (l:List Ac):EB := .rs 36 (acR l)
end Go.Proofs.YtdhgpocbcccieaaGreatDoor.M
namespace Go.Proofs.YtdhgpocbcccieaaGreatDoor
end Go.Proofs.YtdhgpocbcccieaaGreatDoor
namespace Go.Proofs.YtdhgpocbcccieaaGreatDoor
open Go Go.ChangeShapes Go.WideShapes Go.ChangeAt Go.RowKit Go.Proofs.YtdhgpocbcccieaaGreatDoor.E Go.Proofs.YtdhgpocbcccieaaGreatDoor.M
def laidTop:List (String×DataW Unit):=[("syngraph/scalar.order",Rows.laid_syngraph_scalar_order),("syngraph/sha.begin",Rows.laid_syngraph_sha_begin),("syngraph/sha.key",Rows.laid_syngraph_sha_key),("syngraph/wide.begin",Rows.laid_syngraph_wide_begin),("syngraph/wide.key",Rows.laid_syngraph_wide_key),("syngraph/msg.has",Rows.laid_syngraph_msg_has)]
def glW (W:World):Gl:=⟨fun g=>match W.heap[g]? with | some (.cells cs t _)=>some (t,cs) | _=>none⟩
theorem glW_ok (W:World):(glW W).ok [] W:=fun g t cs h=>by
 refine ⟨?_,List.not_mem_nil⟩
 simp only [glW] at h
 split at h
 ·rename_i cs' t' fr hh
  cases h
  exact ⟨fr,hh⟩
 ·cases h
theorem glW_at {W:World} {g:Nat} {t:TypeId} {cs:Array Value} {fr:Nat×Nat} (h:W.heap[g]? = some (.cells cs t fr)):(glW W).at_ g=some (t,cs):=by
 simp only [glW,h]
theorem glW_var {P:Program} {W:World} {n:String} {g:Nat} {cs:Array Value} (hg:P.globalNamed n=some g) (h:W.var? P n=some cs):∃ t,(glW W).at_ g=some (t,cs):=by
 simp only [World.var?,hg,Option.bind_some] at h
 split at h
 ·rename_i cs' t fr hh
  cases h
  exact ⟨t,glW_at hh⟩
 ·cases h
theorem laid_get {P:Program} {W:World}:∀ {l:List (String×DataW Unit)} {ps:List MemPlace},DataW.LaidVars P W l ps→∀ n d,(n,d)∈l →
  ∃ g t cs fuel p,P.globalNamed n=some g∧(P.globals[g]?).map (·.type)=some t∧W.var? P n=some cs∧DataW.trod (fun _=>()) P W 0 (fun _=>true) false fuel t cs.toList=some (d,p)
 | [],_,_,_,_,hm=>by cases hm
 | (n',d')::r,ps,h,n,d,hm=>by
  obtain ⟨g,t,cs,fuel,p,q,h1,h2,h3,h4,h5,_⟩:=h
  rcases List.mem_cons.1 hm with e | e
  ·cases e
   exact ⟨g,t,cs,fuel,p,h1,h2,h3,h4⟩
  ·exact laid_get h5 n d e
theorem cells_of_strs {H:Type} {enc:TypeId×Value→H} {P:Program} {w:World} {base:Nat} {sp:Nat→Bool} {held:Bool} {fuel:Nat} {t e:TypeId} {n:Nat} {cs:List Value} {zs:List (List UInt8)} {p:List MemPlace}
  (ht:P.underlying t=some (.array n e)) (he:P.underlying e=some .string) (hce:P.cellsOf e=1) (hct:P.cellsOf t=n)
  (h:DataW.trod enc P w base sp held fuel t cs=some (.agg (zs.map fun z => .lit (.string z)),p)):cs=zs.map fun z=>Value.string ⟨z.toArray⟩:=by
 cases fuel with
 | zero=>simp [DataW.trod] at h
 | succ fuel =>
  simp only [DataW.trod,ht,hce,hct,Nat.mul_one] at h
  split at h
  ·rename_i hl
   obtain ⟨xs,hm,hx⟩:=Option.map_eq_some_iff.1 h
   have hxs:xs.map (·.1)=zs.map fun z=>(DataW.lit (.string z):DataW H):=by
    have:=congrArg Prod.fst hx
    simpa using this
   have hxl:xs.length=n:=by simpa using Lib.mapM_length hm
   have hzl:zs.length=n:=by
    have:=congrArg List.length hxs
    simp at this
    omega
   apply List.ext_getElem?
   intro i
   by_cases hi:i<n
   ·obtain ⟨b,hb,hf⟩:=Lib.mapM_at hm i i (by simp [hi])
    obtain ⟨s,hc,rfl,_⟩:=DataW.trod_string he hf
    have h1:cs[i]? = some (.string s):=by
     have:=congrArg (·[0]?) hc
     simpa [List.getElem?_take,List.getElem?_drop] using this
    have h2:(xs.map (·.1))[i]? = some (DataW.lit (.string s.data.toList):DataW H):=by simp [hb]
    rw [hxs] at h2
    simp only [List.getElem?_map,Option.map_eq_some_iff,DataW.lit.injEq,Lit.string.injEq] at h2
    obtain ⟨z',hz',e'⟩:=h2
    simp [h1,hz',e']
   ·rw [List.getElem?_eq_none (by omega),List.getElem?_eq_none (by simp; omega)]
  ·cases h
section
variable {W:World} (h:laidMetH Tryz.prog laidTop W)
include h
theorem laid_ints {n:String} {g:Nat} {t e:TypeId} {m:Nat} {k:IntKind} {zs:List Int} (hm:(n,Lib.tabData k zs)∈laidTop) (hg:Tryz.prog.globalNamed n=some g) (hty:(Tryz.prog.globals[g]?).map (·.type)=some t)
  (ht:Tryz.prog.underlying t=some (.array m e)) (he:Tryz.prog.underlying e=some (.int k)) (hce:Tryz.prog.cellsOf e=1) (hct:Tryz.prog.cellsOf t=m):∃ t,(glW W).at_ g=some (t,(zs.map fun z=>Value.int k z).toArray):=by
 rw [MakeChecks.laidMetH_plain _ _ _ (by kernel_rfl)] at h
 obtain ⟨ps,hv,_⟩:=h
 obtain ⟨g',t',cs,fuel,p,hg',ht',hvar,hd⟩:=laid_get hv _ _ hm
 obtain rfl:=Option.some.inj (hg.symm.trans hg')
 obtain rfl:=Option.some.inj (hty.symm.trans ht')
 have:=Lib.cells_of_tab ht he hce hct hd
 obtain ⟨tt,hat⟩:=glW_var hg hvar
 exact ⟨tt,by rw [hat,← this]⟩
theorem laid_nats {n:String} {g:Nat} {t e:TypeId} {m:Nat} {k:IntKind} {zs:List Nat} (hm:(n,Lib.tabData k (zs.map fun n:Nat=>(n:Int)))∈laidTop) (hg:Tryz.prog.globalNamed n=some g) (hty:(Tryz.prog.globals[g]?).map (·.type)=some t)
  (ht:Tryz.prog.underlying t=some (.array m e)) (he:Tryz.prog.underlying e=some (.int k)) (hce:Tryz.prog.cellsOf e=1) (hct:Tryz.prog.cellsOf t=m):∃ t,(glW W).at_ g=some (t,(zs.map fun n:Nat=>Value.int k (n:Nat)).toArray):=by
 obtain ⟨t,h⟩:=laid_ints h hm hg hty ht he hce hct
 exact ⟨t,by rw [h,List.map_map]; rfl⟩
theorem laid_sig:GSig (glW W):=by
 refine ⟨⟨?_⟩,⟨?_,?_⟩⟩
 ·exact laid_ints h (n := "syngraph/scalar.order") (zs:=[6346243789798364141,1503914060200516822,0,1152921504606846976]) (by simp [laidTop,Lib.tabData,Rows.laid_syngraph_scalar_order]) (by kernel_rfl) (by kernel_rfl) Tryz.underlying358 Tryz.underlying27 (by kernel_rfl) (by kernel_rfl)
 ·exact laid_nats h (n := "syngraph/wide.begin") (k := .u64) (zs:=begS) (by simp [laidTop,Lib.tabData,Rows.laid_syngraph_wide_begin,begS]) (by kernel_rfl) (by kernel_rfl) Tryz.underlying241 Tryz.underlying27 (by kernel_rfl) (by kernel_rfl)
 ·exact laid_nats h (n := "syngraph/wide.key") (k := .u64) (zs:=keyS) (by simp [laidTop,Lib.tabData,Rows.laid_syngraph_wide_key,keyS]) (by kernel_rfl) (by kernel_rfl) Tryz.underlying305 Tryz.underlying27 (by kernel_rfl) (by kernel_rfl)
theorem laid_sha:GSha (glW W):=by
 refine ⟨?_,?_⟩
 ·exact laid_nats h (n := "syngraph/sha.begin") (k := .u32) (zs:=hbegS) (by simp [laidTop,Lib.tabData,Rows.laid_syngraph_sha_begin,hbegS]) (by kernel_rfl) (by kernel_rfl) Tryz.underlying288 Tryz.underlying135 (by kernel_rfl) (by kernel_rfl)
 ·exact laid_nats h (n := "syngraph/sha.key") (k := .u32) (zs:=hkeyS) (by simp [laidTop,Lib.tabData,Rows.laid_syngraph_sha_key,hkeyS]) (by kernel_rfl) (by kernel_rfl) Tryz.underlying354 Tryz.underlying135 (by kernel_rfl) (by kernel_rfl)
theorem laid_has:GHas (glW W):=by
 rw [MakeChecks.laidMetH_plain _ _ _ (by kernel_rfl)] at h
 obtain ⟨ps,hv,_⟩:=h
 have hg:Tryz.prog.globalNamed "syngraph/msg.has" = some 0:=by kernel_rfl
 obtain ⟨g',t',cs,fuel,p,hg',ht',hvar,hd⟩:=laid_get hv "syngraph/msg.has" Rows.laid_syngraph_msg_has (by simp [laidTop])
 obtain rfl:=Option.some.inj (hg.symm.trans hg')
 obtain rfl:=Option.some.inj ((show (Tryz.prog.globals[0]?).map (·.type)=some 116 by kernel_rfl).symm.trans ht')
 have:=cells_of_strs (zs:=[[],[107],[107],[108,104],[108,98],[108,105],[108,105,109,110],[108,105,104],[108,105,109,110,112],[108],[108,110]]) Tryz.underlying116 Tryz.underlying9 (by kernel_rfl) (by kernel_rfl) hd
 obtain ⟨tt,hat⟩:=glW_var hg hvar
 exact ⟨tt,by rw [hat]; congr 2; exact Array.toList_inj.1 this⟩
end
theorem door_met (os:Os) (args:Array Value):laidMetH Tryz.prog laidTop ((World.doorLaid Tryz.prog 39 os).forCall (fun _ _=>0) ⟨#[],args,[]⟩).memory :=
 laidMetH_of_parts3 (fuel:=8) (laidMet_of_run' 8 (by kernel_rfl) (by kernel_rfl)) (by kernel_rfl) (by kernel_rfl)
theorem run_tri {f:FuncId} {W:World} {xs:List EV} {vs:Array Value} {H H':List EB} (hx:ERs (fun _=>none) xs vs) (hH:∀ b∈H,b=EB.g) (h:Tri Tryz.prog (glW W) f xs H (.v (.bool true)) H'):Calls Tryz.prog f vs W fun e W'=>e = .returned (.bool true)∧Touch [] W W':=by
 have hg:∀ L,hf H L = .g∨hf H L = .n:=fun L=>by
  unfold hf
  by_cases hL:L<H.length
  ·exact .inl (by rw [List.getD_eq_getElem?_getD,List.getElem?_eq_getElem hL]; exact hH _ (List.getElem_mem hL))
  ·exact .inr (by rw [List.getD_eq_getElem?_getD,List.getElem?_eq_none (by omega)]; rfl)
 have hw:Wd Tryz.prog (glW W) [] W (fun _=>none) (hf H) W:=⟨Touch.refl _ _,fun L t rows hv=>by rcases hg L with e | e <;> (rw [e] at hv; cases hv),fun L x e'=>by rcases hg L with e | e <;> (rw [e] at e'; cases e'),fun _ _=>rfl,fun L t rows e'=>by rcases hg L with e | e <;> (rw [e] at e'; cases e'),fun L L' q q' hl=>by rcases hg L with e | e <;> (rw [e] at hl; cases hl),fun L q hl=>by rcases hg L with e | e <;> (rw [e] at hl; cases hl),glW_ok W⟩
 refine (h.2 [] W (fun _=>none) W vs hx hw).mono fun e w' ⟨B',u,he,_,hu,hw'⟩ => ?_
 rw [hu.v_inv] at he
 exact ⟨he,hw'.t⟩
theorem law_returns_laid {H:Type} {enc:TypeId×Value→H} {os:Os} {f:FuncId} {fn:Func} {s:ChangeSpec} {tb:TypeId}
  (own:ownKnob Tryz.checked.prog.godebug=none) (started:os.Started) (noInit:Tryz.checked.prog.inits.idxOf? f=none) (hfn:Tryz.checked.prog.funcs[f]? = some fn)
  (witness:∃ (w:World) (tape:Tape) (i:Input),w.os=os∧(w.forCall tape i).Shaped Tryz.checked.prog∧i.vars=[]∧Input.okWide Tryz.checked.prog (w.forCall tape i) .any w.heap.size f i ∧
   ((s.pre enc Tryz.checked.prog fn [] false (w.forCall tape i).memory i.args∧laidMetH Tryz.prog laidTop (w.forCall tape i).memory)∧sizedMet enc Tryz.checked.prog fn (OpenSpec.ofChange s) false (w.forCall tape i).memory i.args)∧({}:Assume).holds Tryz.checked.prog (lone (Frame.enter Tryz.checked.prog f i.args .normal) [] (w.forCall tape i)))
  (hl:laidOutB Tryz.checked.prog=true) (hr:∀ t,t∈fn.params.toList→Tryz.checked.prog.readableRec t=true∧t<Tryz.checked.prog.types.size) (htb:Tryz.checked.prog.underlying tb=some .bool) (hres:fn.resultTypes = #[tb])
  (hsv:s.vars=[]) (hf:∀ ds:List (DataW H),ds.length=fn.params.size→(s.fn H (ds++[]))={ results:=[.lit (.bool true)],args:=ds })
  (walk:∀ (W:World) (base:Nat) (args:Array Value) (ds:List (DataW H)) (ps:List MemPlace),laidMetH Tryz.prog laidTop W →
   (∀ (j:Nat) t v,fn.params[j]? = some t→args[j]? = some v→Value.okWide Tryz.checked.prog W .any base t v) →
   DataW.TrodAll enc Tryz.checked.prog W 0 (fun _=>true) true fn.params.toList args.toList ds ps→(∀ x∈ps,x.block<W.heap.size) →
   Calls Tryz.checked.prog f args W fun e W'=>e = .returned (.bool true)∧Touch [] W W') :
  ReturnsInHanded {} Tryz.checked os f .any (fun w args=>(s.pre enc Tryz.checked.prog fn [] false w args∧laidMetH Tryz.prog laidTop w)∧sizedMet enc Tryz.checked.prog fn (OpenSpec.ofChange s) false w args) (s.post enc Tryz.checked.prog fn false true false false):=by
 refine returnsInHanded_of_change_and (C:=Tryz.checked) (X:=fun w _=>laidMetH Tryz.prog laidTop w) (fun _ _ _ hh h=>h.of_heap hh) own started noInit hfn witness ?_
 intro W base args ds gs before hval hW _ _ hL _
 have hlt:=hW.lt
 obtain ⟨p,q,hA,hV,rfl,hfz,_⟩:=hW
 rw [hsv] at hV
 obtain ⟨rfl,rfl⟩:=trodVars_none hV
 rw [List.append_nil] at hlt hfz
 refine (walk W base args ds p hL hval hA hlt).mono fun e W' ⟨he,ht⟩ => ?_
 subst he
 refine ⟨_,rfl,law_post hl hr htb hres hsv (hf ds ?_) hA hlt hfz (ht.below (Nat.le_refl _) (by simp))⟩
 have:=trodAll_length _ _ _ _ hA
 simpa using this
end Go.Proofs.YtdhgpocbcccieaaGreatDoor
namespace Go.Proofs.YtdhgpocbcccieaaGreatDoor.M
open Go Go.RowKit
def w32 (x:Nat):Nat:=x%4294967296
def hsb (a b:Nat):Nat:=(IntKind.u32.wrap ((a:Int)-b)).toNat
def rt1 (x:Nat):Nat:=had (w32 (x/2)) (w32 (2147483648*(x%2)))
def rtN:Nat→Nat→Nat
 | 0,x=>x
 | n+1,x=>rtN n (rt1 x)
def dnN:Nat→Nat→Nat
 | 0,x=>x
 | n+1,x=>dnN n (w32 (x/2))
def endF:Nat→Nat→Bs→Bs
 | 0,_,e=>e
 | k+1,n,e=>endF k (n/256) ((n%256).toUInt8::e)
def distR (n:Nat):Nat:=(120-n%64)%64
def padR (s:Bs):Bs:=(s++[128])++List.replicate (distR (s.length+1)) 0++endF 8 (s.length*8) []
def b32 (b:Bs) (i:Nat):Nat:=had (had (had (w32 (16777216*(b.getD (4*i) 0).toNat)) (w32 (65536*(b.getD (4*i+1) 0).toNat))) (w32 (256*(b.getD (4*i+2) 0).toNat))) (b.getD (4*i+3) 0).toNat
def wA (b:Bs):Nat→Nat→List Nat→List Nat
 | 0,_,w=>w
 | k+1,i,w=>wA b k (i+1) (w++[b32 b i])
def wX (w:List Nat) (i:Nat):Nat :=
 let a:=w.getD (i-15) 0
 let b:=w.getD (i-2) 0
 let s0:=hxo (hxo (rtN 7 a) (rtN 18 a)) (dnN 3 a)
 let s1:=hxo (hxo (rtN 17 b) (rtN 19 b)) (dnN 10 b)
 had (had (had (w.getD (i-16) 0) s0) (w.getD (i-7) 0)) s1
def wF:Nat→Nat→List Nat→List Nat
 | 0,_,w=>w
 | k+1,i,w=>wF k (i+1) (w++[wX w i])
def wordsR (b:Bs):List Nat:=wF 48 16 (wA b 16 0 [])
def roundR (v:List Nat) (k w:Nat):List Nat :=
 let a:=v.getD 0 0
 let b:=v.getD 1 0
 let c:=v.getD 2 0
 let e:=v.getD 4 0
 let f:=v.getD 5 0
 let g:=v.getD 6 0
 let x:=had (had (had (had (v.getD 7 0) (hxo (hxo (rtN 6 e) (rtN 11 e)) (rtN 25 e))) (hxo (han e f) (han (hsb 4294967295 e) g))) k) w
 let y:=had (hxo (hxo (rtN 2 a) (rtN 13 a)) (rtN 22 a)) (hxo (hxo (han a b) (han a c)) (han b c))
 [had x y,a,b,c,had (v.getD 3 0) x,e,f,g]
def roundsR (w:List Nat):Nat→Nat→List Nat→List Nat
 | 0,_,v=>v
 | k+1,i,v=>roundsR w k (i+1) (roundR v (hkeyS.getD i 0) (w.getD i 0))
def addsR (v:List Nat):Nat→Nat→List Nat→List Nat
 | 0,_,h=>h
 | k+1,i,h=>addsR v k (i+1) (h.set i (had (h.getD i 0) (v.getD i 0)))
def blockR (h:List Nat) (b:Bs):List Nat:=addsR (roundsR (wordsR b) 64 0 h) 8 0 h
def blocksR:Nat→Bs→List Nat→List Nat
 | 0,_,h=>h
 | k+1,t,h=>blocksR k (t.drop 64) (blockR h (t.take 64))
def outR (h:List Nat):Nat→Nat→Bs→Bs
 | 0,_,o=>o
 | k+1,i,o=>outR h k (i+1) (o++[(w32 (h.getD i 0/16777216)).toUInt8,(w32 (h.getD i 0/65536)%256).toUInt8,(w32 (h.getD i 0/256)%256).toUInt8,(h.getD i 0%256).toUInt8])
def refL (s:Bs):Bs:=outR (blocksR ((padR s).length/64) (padR s) hbegS) 8 0 []
theorem outR_len (h:List Nat):∀ (k i:Nat) (o:Bs),(outR h k i o).length=o.length+4*k:=by
 intro k
 induction k with
 | zero=>intro i o; rfl
 | succ k ih=>intro i o; unfold outR; rw [ih]; simp; omega
theorem refL_len (s:Bs):(refL s).length=32:=outR_len _ 8 0 []
theorem ref_top:refL [116,111,112]=shaL [116,111,112]:=by decide +kernel
end Go.Proofs.YtdhgpocbcccieaaGreatDoor.M
namespace Go.Proofs.YtdhgpocbcccieaaGreatDoor.M
open Go Go.RowKit Go.Proofs.YtdhgpocbcccieaaGreatDoor.E
variable {G:Gl}
abbrev u32 (n:Nat):E.EV := .v (.int .u32 (n:Nat))
abbrev u32R (l:List Nat):List (List E.EV):=l.map fun x=>[u32 x]
abbrev u32Rs (l:List Nat):EB := .rs 135 (u32R l)
theorem w32_c (n:Nat):IntKind.u32.wrap (n:Int)=((w32 n:Nat):Int):=by
 unfold w32
 exact hwrap_c n
theorem td_c (a b:Nat):(a:Int).tdiv (b:Int)=((a/b:Nat):Int):=rfl
theorem tm_c (a b:Nat):(a:Int).tmod (b:Int)=((a%b:Nat):Int):=rfl
theorem rt1_c (x:Nat):IntKind.u32.wrap (IntKind.u32.wrap ((x:Int).tdiv 2)+IntKind.u32.wrap ((x:Int).tmod 2*2147483648))=((rt1 x:Nat):Int):=by
 unfold rt1
 rw [show (x:Int).tdiv 2=((x/2:Nat):Int) from td_c x 2,show (x:Int).tmod 2*2147483648=((2147483648*(x%2):Nat):Int) from by rw [show (x:Int).tmod 2=((x%2:Nat):Int) from tm_c x 2]; omega,w32_c,w32_c,eadd]
theorem dn1_c (x:Nat):IntKind.u32.wrap ((x:Int).tdiv 2)=((w32 (x/2):Nat):Int):=by
 rw [show (x:Int).tdiv 2=((x/2:Nat):Int) from td_c x 2,w32_c]
theorem rt_z (x:Nat):rtN 0 x=x:=rfl
theorem rt_s (n x:Nat):rtN (n+1) x=rtN n (rt1 x):=rfl
theorem dn_z (x:Nat):dnN 0 x=x:=rfl
theorem dn_s (n x:Nat):dnN (n+1) x=dnN n (w32 (x/2)):=rfl
theorem rright2_ok (x n:Nat) (hn:n≤1000):Tri Tryz.prog G 117 [u32 x,i64 (n:Nat)] [] (u32 (rtN n x)) []:=by
 obtain ⟨R,hR⟩:∃ R,rtN n x=R:=⟨_,rfl⟩
 rw [hR]
 refine fn Tryz.func117 ?_
 conv=>whnf
 refine lp2 (fun (i x:Nat)=>([(0,u32 x),(1,i64 (n:Nat)),(5,i64 (i:Nat))],[])) (fun i x=>i≤n∧rtN (n-i) x=R) (fun i _=>n-i) 0 x ⟨by omega,hR⟩ (cv []) fun i x ⟨hi,hx⟩ => ?_
 conv=>whnf
 refine br_of (fun h1 => ?_) (fun h1 => ?_) <;> conv=>whnf
 ·have h1:i<n:=by have:=of_decide_eq_true h1; omega
  rw [show n-i=(n-(i+1))+1 by omega,rt_s] at hx
  rw [rt1_c,wI64 (n:=(i:Int)+1) (by omega) (by omega)]
  exact ⟨(i+1,rt1 x),⟨⟨by omega,hx⟩,by omega⟩,cv []⟩
 ·have h1:i=n:=by have:=of_decide_eq_false h1; omega
  subst h1
  rw [Nat.sub_self,rt_z] at hx
  subst hx
  exact cv []
theorem rdown2_ok (x n:Nat) (hn:n≤1000):Tri Tryz.prog G 118 [u32 x,i64 (n:Nat)] [] (u32 (dnN n x)) []:=by
 obtain ⟨R,hR⟩:∃ R,dnN n x=R:=⟨_,rfl⟩
 rw [hR]
 refine fn Tryz.func118 ?_
 conv=>whnf
 refine lp2 (fun (i x:Nat)=>([(0,u32 x),(1,i64 (n:Nat)),(5,i64 (i:Nat))],[])) (fun i x=>i≤n∧dnN (n-i) x=R) (fun i _=>n-i) 0 x ⟨by omega,hR⟩ (cv []) fun i x ⟨hi,hx⟩ => ?_
 conv=>whnf
 refine br_of (fun h1 => ?_) (fun h1 => ?_) <;> conv=>whnf
 ·have h1:i<n:=by have:=of_decide_eq_true h1; omega
  rw [show n-i=(n-(i+1))+1 by omega,dn_s] at hx
  rw [dn1_c,wI64 (n:=(i:Int)+1) (by omega) (by omega)]
  exact ⟨(i+1,w32 (x/2)),⟨⟨by omega,hx⟩,by omega⟩,cv []⟩
 ·have h1:i=n:=by have:=of_decide_eq_false h1; omega
  subst h1
  rw [Nat.sub_self,dn_z] at hx
  subst hx
  exact cv []
theorem end_z (n:Nat) (e:Bs):endF 0 n e=e:=rfl
theorem end_s (k n:Nat) (e:Bs):endF (k+1) n e=endF k (n/256) ((n%256).toUInt8::e):=rfl
theorem byte_c (n:Nat):IntKind.u8.wrap (n:Int)=((n.toUInt8.toNat:Nat):Int):=by
 simp [IntKind.wrap,IntKind.bits,IntKind.signed]
theorem rpad_ok (s:Bs) (hs:s.length≤100000):Tri Tryz.prog G 68 [sv s] [] (sv (padR s)) []:=by
 refine fn Tryz.func68 ?_
 conv=>whnf
 refine ⟨by rw [sB_size]; exact Nat.le_trans (Nat.succ_le_succ hs) (by decide),?_⟩
 conv=>whnf
 rw [show sB s++ByteArray.mk #[128]=sB (s++[128]) from by rw [← sB_app]]
 obtain ⟨R,hR⟩:∃ R,(s++[128])++List.replicate (distR (s.length+1)) 0=R:=⟨_,rfl⟩
 have hp:padR s=R++endF 8 (s.length*8) []:=by rw [← hR]; rfl
 rw [hp]
 have e8:IntKind.u64.wrap (IntKind.u64.wrap ((sB s).size:Int)*8)=((s.length*8:Nat):Int):=by
  rw [sB_size,wU64 (n:=(s.length:Int)) (by omega) (by omega),wU64 (by omega) (by omega)]; omega
 rw [e8]
 have hz:∀ t:Bs,(t.length%64≠56→distR t.length=distR (t.length+1)+1)∧(t.length%64=56→distR t.length=0):=fun t=>by unfold distR; omega
 refine lp1 (X:=Nat×Bs) (fun (d,t)=>([(3,u64 (s.length*8)),(4,sv t)],[])) (fun (d,t)=>(d=distR t.length∧t.length+d≤200000)∧t++List.replicate d 0=R) (fun (d,t)=>d) (distR (s.length+1),s++[128]) ⟨⟨by simp,by simp [distR]; omega⟩,hR⟩ (cv []) ?_
 rintro ⟨d,t⟩ ⟨⟨hd,hl⟩,hx⟩
 conv=>whnf
 rw [sB_size,show ((t.length:Nat):Int).tmod 64=((t.length%64:Nat):Int) from tm_c t.length 64]
 refine br_of (fun h => ?_) (fun h => ?_) <;> conv=>whnf
 ·have h:t.length%64≠56:=by
   intro e
   rw [e] at h
   exact absurd h (by decide)
  have h1:=(hz t).1 h
  obtain ⟨d',rfl⟩:∃ d',d=d'+1:=⟨distR (t.length+1),by omega⟩
  refine ⟨by rw [sB_size]; exact Nat.le_trans (show t.length+1≤200001 by omega) (by decide),?_⟩
  conv=>whnf
  rw [show sB t++ByteArray.mk #[0]=sB (t++[0]) from by rw [← sB_app]]
  exact ⟨(d',t++[0]),⟨⟨⟨by simp; omega,by simp; omega⟩,by rw [← hx,List.replicate_succ]; simp⟩,by simp⟩,cv []⟩
 ·have h:t.length%64=56:=by
   apply Classical.byContradiction
   intro e
   simp at h
   omega
  have h1:=(hz t).2 h
  have hd0:d=0:=by omega
  subst hd0
  have hx:t++[]=R:=hx
  rw [List.append_nil] at hx
  subst hx
  obtain ⟨E0,hE⟩:∃ E0,endF 8 (s.length*8) []=E0:=⟨_,rfl⟩
  rw [hE]
  refine lp1 (X:=Nat×Nat×Bs) (fun (i,n,e)=>([(3,u64 n),(4,sv t),(5,sv e),(6,i64 (i:Nat))],[])) (fun (i,n,e)=>(i≤8∧n<18446744073709551616∧e.length=i)∧endF (8-i) n e=E0) (fun (i,n,e)=>8-i) (0,s.length*8,[]) ⟨⟨by omega,by omega,rfl⟩,hE⟩ (cv []) ?_
  rintro ⟨i,n,e⟩ ⟨⟨hi,hn,he⟩,hx⟩
  conv=>whnf
  refine br_of (fun h2 => ?_) (fun h2 => ?_) <;> conv=>whnf
  ·have h2:i<8:=by have:=of_decide_eq_true h2; omega
   rw [show 8-i=(8-(i+1))+1 by omega,end_s] at hx
   rw [show ((n:Nat):Int).tmod 256=((n%256:Nat):Int) from tm_c n 256,byte_c]
   refine ⟨[(n%256).toUInt8],⟨rfl,rfl,rfl⟩,?_⟩
   conv=>whnf
   refine ⟨by rw [sB_size,sB_size]; exact Nat.le_trans (show _≤100 by simp; omega) (by decide),?_⟩
   conv=>whnf
   rw [sB_app,show ((n:Nat):Int).tdiv 256=((n/256:Nat):Int) from td_c n 256,wU64 (n:=((n/256:Nat):Int)) (by omega) (by omega),wI64 (n:=(i:Int)+1) (by omega) (by omega)]
   exact ⟨(i+1,n/256,(n%256).toUInt8::e),⟨⟨⟨by show i+1≤8; omega,by show n/256<_; omega,by simp [he]⟩,hx⟩,by show 8-(i+1)<8-i; omega⟩,cv []⟩
  ·have h2:i=8:=by have:=of_decide_eq_false h2; omega
   subst h2
   rw [Nat.sub_self,end_z] at hx
   subst hx
   refine ⟨by rw [sB_size,sB_size]; exact Nat.le_trans (show _≤300000 by omega) (by decide),?_⟩
   conv=>whnf
   rw [sB_app]
   exact cv []
theorem wA_z (b:Bs) (i:Nat) (w:List Nat):wA b 0 i w=w:=rfl
theorem wA_s (b:Bs) (k i:Nat) (w:List Nat):wA b (k+1) i w=wA b k (i+1) (w++[b32 b i]):=rfl
theorem wF_z (i:Nat) (w:List Nat):wF 0 i w=w:=rfl
theorem wF_s (k i:Nat) (w:List Nat):wF (k+1) i w=wF k (i+1) (w++[wX w i]):=rfl
theorem mul_c (k c:Nat):IntKind.u32.wrap (IntKind.u32.wrap ((c:Nat):Int)*((k:Nat):Int))=((w32 (k*w32 c):Nat):Int):=by
 rw [w32_c,show ((w32 c:Nat):Int)*(k:Int)=((k*w32 c:Nat):Int) from by rw [Int.natCast_mul,Int.mul_comm],w32_c]
theorem w32_b (c:UInt8):w32 c.toNat=c.toNat:=by
 unfold w32
 have:=c.toNat_lt
 omega
theorem mul_1 (c:Nat):IntKind.u32.wrap (IntKind.u32.wrap ((c:Nat):Int)*16777216)=((w32 (16777216*w32 c):Nat):Int):=mul_c 16777216 c
theorem mul_2 (c:Nat):IntKind.u32.wrap (IntKind.u32.wrap ((c:Nat):Int)*65536)=((w32 (65536*w32 c):Nat):Int):=mul_c 65536 c
theorem mul_3 (c:Nat):IntKind.u32.wrap (IntKind.u32.wrap ((c:Nat):Int)*256)=((w32 (256*w32 c):Nat):Int):=mul_c 256 c
theorem b32_c (b:Bs) (i:Nat):IntKind.u32.wrap (IntKind.u32.wrap (IntKind.u32.wrap (IntKind.u32.wrap (IntKind.u32.wrap (((b.getD (4*i) 0).toNat:Nat):Int)*16777216)+IntKind.u32.wrap (IntKind.u32.wrap (((b.getD (4*i+1) 0).toNat:Nat):Int)*65536))+IntKind.u32.wrap (IntKind.u32.wrap (((b.getD (4*i+2) 0).toNat:Nat):Int)*256))+IntKind.u32.wrap (((b.getD (4*i+3) 0).toNat:Nat):Int))=((b32 b i:Nat):Int):=by
 rw [mul_1,mul_2,mul_3,w32_c,eadd,eadd,eadd,w32_b,w32_b,w32_b,w32_b]
 rfl
theorem u32_at {l:List Nat} {i:Nat} (h:i<l.length):(u32R l)[0+(i:Int).toNat]? = some [u32 (l.getD i 0)]:=by
 rw [Nat.zero_add,Int.toNat_natCast,List.getElem?_map,List.getElem?_eq_getElem h,List.getD_eq_getElem?_getD,List.getElem?_eq_getElem h]
 rfl
theorem words2_ok (b:Bs) (hb:b.length=64):Tri Tryz.prog G 69 [sv b] [] (.s 0 0 (wordsR b).length false) [u32Rs (wordsR b)]:=by
 obtain ⟨R,hR⟩:∃ R,wordsR b=R:=⟨_,rfl⟩
 rw [hR]
 refine fn Tryz.func69 ?_
 conv=>whnf
 refine lp2 (fun (i:Nat) (w:List Nat)=>([(0,sv b),(3,.s 0 0 w.length false),(4,i64 (i:Nat))],[u32Rs w])) (fun i w=>(i≤16∧w.length=i)∧wF 48 16 (wA b (16-i) i w)=R) (fun i _=>16-i) 0 [] ⟨⟨by omega,rfl⟩,hR⟩ (cv [0]) fun i w ⟨⟨hi,hw⟩,hx⟩ => ?_
 conv=>whnf
 refine br_of (fun h1 => ?_) (fun h1 => ?_) <;> conv=>whnf
 ·have h1:i<16:=by have:=of_decide_eq_true h1; omega
  rw [show 16-i=(16-(i+1))+1 by omega,wA_s] at hx
  have e0:IntKind.i64.wrap (4*(i:Int))=((4*i:Nat):Int):=by rw [wI64 (by omega) (by omega)]; omega
  have e1:IntKind.i64.wrap (((4*i:Nat):Int)+1)=((4*i+1:Nat):Int):=by rw [wI64 (by omega) (by omega)]; omega
  have e2:IntKind.i64.wrap (((4*i:Nat):Int)+2)=((4*i+2:Nat):Int):=by rw [wI64 (by omega) (by omega)]; omega
  have e3:IntKind.i64.wrap (((4*i:Nat):Int)+3)=((4*i+3:Nat):Int):=by rw [wI64 (by omega) (by omega)]; omega
  rw [e0,sB_size]
  refine ⟨by omega,?_⟩
  conv=>whnf
  rw [e0,e1,sB_size]
  refine ⟨by omega,?_⟩
  conv=>whnf
  rw [e0,e2,sB_size]
  refine ⟨by omega,?_⟩
  conv=>whnf
  rw [e0,e3,sB_size]
  refine ⟨by omega,?_⟩
  conv=>whnf
  rw [sB_at,sB_at,sB_at,sB_at,Int.toNat_natCast,Int.toNat_natCast,Int.toNat_natCast,Int.toNat_natCast]
  rw [b32_c b i]
  refine ⟨⟨rfl,rfl⟩,?_⟩
  conv=>whnf
  refine ⟨by simp,?_⟩
  conv=>whnf
  refine ⟨⟨by omega,by simp⟩,?_⟩
  conv=>whnf
  refine ⟨rfl,?_⟩
  conv=>whnf
  rw [wI64 (n:=(i:Int)+1) (by omega) (by omega)]
  exact ⟨(i+1,w++[b32 b i]),⟨⟨⟨by omega,by simp [hw]⟩,hx⟩,by simp only; omega⟩,cv [2] (h4:=⟨.inl rfl,.inl (by simp [lk,ren]),.inl rfl,trivial⟩) (h5:=⟨.inl (by simp),trivial⟩)⟩
 ·have h1:i=16:=by have:=of_decide_eq_false h1; omega
  subst h1
  rw [Nat.sub_self,wA_z] at hx
  refine lp2 (fun (i:Nat) (w:List Nat)=>([(3,.s 0 0 w.length false),(5,i64 (i:Nat))],[u32Rs w])) (fun i w=>(16≤i∧i≤64∧w.length=i)∧wF (64-i) i w=R) (fun i _=>64-i) 16 w ⟨⟨by omega,by omega,hw⟩,hx⟩ (cv [0]) fun i w ⟨⟨hi,hi2,hw⟩,hx⟩ => ?_
  conv=>whnf
  refine br_of (fun h1 => ?_) (fun h1 => ?_) <;> conv=>whnf
  ·have h1:i<64:=by have:=of_decide_eq_true h1; omega
   rw [show 64-i=(64-(i+1))+1 by omega,wF_s] at hx
   have g:∀ k:Nat,0<k→k≤16→(u32R w)[0+((i-k:Nat):Int).toNat]? = some [u32 (w.getD (i-k) 0)]:=fun k h0 hk=>u32_at (by omega)
   have e15:IntKind.i64.wrap ((i:Int)-15)=((i-15:Nat):Int):=by rw [wI64 (by omega) (by omega)]; omega
   have e2:IntKind.i64.wrap ((i:Int)-2)=((i-2:Nat):Int):=by rw [wI64 (by omega) (by omega)]; omega
   have e16:IntKind.i64.wrap ((i:Int)-16)=((i-16:Nat):Int):=by rw [wI64 (by omega) (by omega)]; omega
   have e7:IntKind.i64.wrap ((i:Int)-7)=((i-7:Nat):Int):=by rw [wI64 (by omega) (by omega)]; omega
   rw [e15]
   refine ⟨by omega,?_⟩
   conv=>whnf
   refine ob_of _ (g 15 (by decide) (by decide)) ?_
   conv=>whnf
   rw [e2]
   refine ⟨by omega,?_⟩
   conv=>whnf
   refine ob_of _ (g 2 (by decide) (by decide)) ?_
   conv=>whnf
   refine ⟨rfl,?_⟩
   conv=>whnf
   unfold wX at hx
   simp only at hx
   generalize w.getD (i-15) 0=a at hx
   generalize w.getD (i-2) 0=b at hx
   refine cl (rright2_ok a 7 (by decide)) [] ?_
   conv=>whnf
   refine cl (rright2_ok a 18 (by decide)) [] ?_
   conv=>whnf
   rw [exor]
   refine cl (rdown2_ok a 3 (by decide)) [] ?_
   conv=>whnf
   rw [exor]
   refine cl (rright2_ok b 17 (by decide)) [] ?_
   conv=>whnf
   refine cl (rright2_ok b 19 (by decide)) [] ?_
   conv=>whnf
   rw [exor]
   refine cl (rdown2_ok b 10 (by decide)) [] ?_
   conv=>whnf
   rw [exor,e16]
   refine ⟨by omega,?_⟩
   conv=>whnf
   refine ob_of _ (g 16 (by decide) (by decide)) ?_
   conv=>whnf
   rw [e7]
   refine ⟨by omega,?_⟩
   conv=>whnf
   refine ob_of _ (g 7 (by decide) (by decide)) ?_
   conv=>whnf
   rw [eadd,eadd,eadd]
   generalize had _ _=y at hx
   refine ⟨⟨rfl,rfl⟩,?_⟩
   conv=>whnf
   refine ⟨by simp,?_⟩
   conv=>whnf
   refine ⟨⟨by omega,by simp⟩,?_⟩
   conv=>whnf
   refine ⟨rfl,?_⟩
   conv=>whnf
   rw [wI64 (n:=(i:Int)+1) (by omega) (by omega)]
   exact ⟨(i+1,w++[y]),⟨⟨⟨by omega,by omega,by simp [hw]⟩,hx⟩,by simp only; omega⟩,cv [2] (h4:=⟨.inl (by simp [lk,ren]),.inl rfl,trivial⟩) (h5:=⟨.inl (by simp),trivial⟩)⟩
  ·have h1:i=64:=by have:=of_decide_eq_false h1; omega
   subst h1
   rw [Nat.sub_self,wF_z] at hx
   subst hx
   exact cv [0]
theorem hsb_c (e:Nat):IntKind.u32.wrap (4294967295-(e:Int))=((hsb 4294967295 e:Nat):Int):=by
 unfold hsb
 rw [Int.toNat_of_nonneg (wrap_nn _)]
 rfl
theorem round2_ok (v:List Nat) (k w:Nat) (hv:v.length=8):Tri Tryz.prog G 70 [.s 0 0 8 false,u32 k,u32 w] [u32Rs v] (.s 1 0 8 false) [u32Rs v,u32Rs (roundR v k w)]:=by
 obtain ⟨v0,v1,v2,v3,v4,v5,v6,v7,rfl⟩:∃ v0 v1 v2 v3 v4 v5 v6 v7,v=[v0,v1,v2,v3,v4,v5,v6,v7]:=by
  match v,hv with
  | [v0,v1,v2,v3,v4,v5,v6,v7],_=>exact ⟨v0,v1,v2,v3,v4,v5,v6,v7,rfl⟩
 refine fn Tryz.func70 ?_
 conv=>whnf
 iterate 6
  refine ⟨by decide,?_⟩
  conv=>whnf
 refine ⟨rfl,?_⟩
 conv=>whnf
 refine ⟨by decide,?_⟩
 conv=>whnf
 refine cl (rright2_ok v4 6 (by decide)) [] ?_
 conv=>whnf
 refine cl (rright2_ok v4 11 (by decide)) [] ?_
 conv=>whnf
 rw [exor]
 refine cl (rright2_ok v4 25 (by decide)) [] ?_
 conv=>whnf
 rw [exor,eadd,eand,hsb_c,eand,exor,eadd,eadd,eadd]
 refine ⟨rfl,?_⟩
 conv=>whnf
 refine cl (rright2_ok v0 2 (by decide)) [] ?_
 conv=>whnf
 refine cl (rright2_ok v0 13 (by decide)) [] ?_
 conv=>whnf
 rw [exor]
 refine cl (rright2_ok v0 22 (by decide)) [] ?_
 conv=>whnf
 rw [exor,eand,eand,exor,eand,exor,eadd]
 rw [eadd]
 refine ⟨by decide,?_⟩
 conv=>whnf
 rw [eadd]
 exact cv [0,1]
theorem keys2_ok:Tri Tryz.prog G 67 [] [] (.s 0 0 64 false) [u32Rs hkeyS]:=by
 refine fn Tryz.func67 ?_
 conv=>whnf
 exact cv [0]
theorem wA_len (b:Bs):∀ (k i:Nat) (w:List Nat),(wA b k i w).length=w.length+k:=by
 intro k
 induction k with
 | zero=>intro i w; rfl
 | succ k ih=>intro i w; rw [wA_s,ih]; simp; omega
theorem wF_len:∀ (k i:Nat) (w:List Nat),(wF k i w).length=w.length+k:=by
 intro k
 induction k with
 | zero=>intro i w; rfl
 | succ k ih=>intro i w; rw [wF_s,ih]; simp; omega
theorem wordsR_len (b:Bs):(wordsR b).length=64:=by unfold wordsR; rw [wF_len,wA_len]; rfl
theorem endF_len:∀ (k n:Nat) (e:Bs),(endF k n e).length=e.length+k:=by
 intro k
 induction k with
 | zero=>intro n e; rfl
 | succ k ih=>intro n e; rw [end_s,ih]; simp; omega
theorem padR_len (s:Bs):∃ K,(padR s).length=64*K∧K≤s.length+2:=by
 have h:(padR s).length=s.length+1+distR (s.length+1)+8:=by
  unfold padR
  rw [List.length_append,List.length_append,List.length_append,endF_len,List.length_replicate]
  rfl
 refine ⟨(padR s).length/64,?_,?_⟩ <;> (rw [h]; unfold distR; omega)
theorem roundsR_s (w:List Nat) (k i:Nat) (v:List Nat):roundsR w (k+1) i v=roundsR w k (i+1) (roundR v (hkeyS.getD i 0) (w.getD i 0)):=rfl
theorem addsR_s (v:List Nat) (k i:Nat) (h:List Nat):addsR v (k+1) i h=addsR v k (i+1) (h.set i (had (h.getD i 0) (v.getD i 0))):=rfl
theorem blocksR_s (k:Nat) (t:Bs) (h:List Nat):blocksR (k+1) t h=blocksR k (t.drop 64) (blockR h (t.take 64)):=rfl
theorem outR_s (h:List Nat) (k i:Nat) (o:Bs):outR h (k+1) i o=outR h k (i+1) (o++[(w32 (h.getD i 0/16777216)).toUInt8,(w32 (h.getD i 0/65536)%256).toUInt8,(w32 (h.getD i 0/256)%256).toUInt8,(h.getD i 0%256).toUInt8]):=rfl
theorem roundR_len (v:List Nat) (k w:Nat):(roundR v k w).length=8:=rfl
theorem addsR_len (v:List Nat):∀ (k i:Nat) (h:List Nat),(addsR v k i h).length=h.length:=by
 intro k
 induction k with
 | zero=>intro i h; rfl
 | succ k ih=>intro i h; rw [addsR_s,ih]; simp
theorem u32_set (l:List Nat) (i x:Nat):(u32R l).set (0+(i:Int).toNat) [u32 x]=u32R (l.set i x):=by
 rw [Nat.zero_add,Int.toNat_natCast,← List.map_set]
theorem by1 (x:Nat):IntKind.u8.wrap (IntKind.u32.wrap ((x:Int).tdiv 16777216))=(((w32 (x/16777216)).toUInt8.toNat:Nat):Int):=by rw [show (x:Int).tdiv 16777216=((x/16777216:Nat):Int) from td_c x 16777216,w32_c,byte_c]
theorem by2 (x:Nat):IntKind.u8.wrap ((IntKind.u32.wrap ((x:Int).tdiv 65536)).tmod 256)=(((w32 (x/65536)%256).toUInt8.toNat:Nat):Int):=by rw [show (x:Int).tdiv 65536=((x/65536:Nat):Int) from td_c x 65536,w32_c,show ((w32 (x/65536):Nat):Int).tmod 256=((w32 (x/65536)%256:Nat):Int) from tm_c _ 256,byte_c]
theorem by3 (x:Nat):IntKind.u8.wrap ((IntKind.u32.wrap ((x:Int).tdiv 256)).tmod 256)=(((w32 (x/256)%256).toUInt8.toNat:Nat):Int):=by rw [show (x:Int).tdiv 256=((x/256:Nat):Int) from td_c x 256,w32_c,show ((w32 (x/256):Nat):Int).tmod 256=((w32 (x/256)%256:Nat):Int) from tm_c _ 256,byte_c]
theorem by4 (x:Nat):IntKind.u8.wrap ((x:Int).tmod 256)=(((x%256).toUInt8.toNat:Nat):Int):=by rw [show (x:Int).tmod 256=((x%256:Nat):Int) from tm_c x 256,byte_c]
theorem refsum_ok (s:Bs) (hs:s.length≤100000):Tri Tryz.prog G 26 [sv s] [] (sv (refL s)) []:=by
 obtain ⟨K,hK,hKs⟩:=padR_len s
 obtain ⟨R,hR⟩:∃ R,refL s=R:=⟨_,rfl⟩
 have hR:outR (blocksR K (padR s) hbegS) 8 0 []=R:=by
  rw [← hR]
  unfold refL
  rw [hK,Nat.mul_div_cancel_left _ (by decide)]
 rw [show refL s=R from by rw [← hR]; unfold refL; rw [hK,Nat.mul_div_cancel_left _ (by decide)]]
 refine fn Tryz.func26 ?_
 conv=>whnf
 refine cl keys2_ok [] ?_
 conv=>whnf
 refine clQ (rpad_ok s hs) [] ?_
 generalize padR s=P at hK hR
 conv=>whnf
 obtain ⟨R1,hR1⟩:∃ R1,blocksR K P hbegS=R1:=⟨_,rfl⟩
 rw [hR1] at hR
 refine lp2 (fun (a:Nat) (h:List Nat)=>([(3,.s 0 0 8 false),(4,.s 1 0 64 false),(5,sv P),(6,i64 ((64*a:Nat):Nat))],[u32Rs h,u32Rs hkeyS])) (fun a h=>(a≤K∧h.length=8)∧blocksR (K-a) (P.drop (64*a)) h=R1) (fun a _=>K-a) 0 hbegS ⟨⟨by omega,rfl⟩,hR1⟩ (cv [0,1]) fun a h ⟨⟨ha,hh⟩,hx⟩ => ?_
 conv=>whnf
 rw [sB_size,hK]
 refine br_of (fun h1 => ?_) (fun h1 => ?_) <;> conv=>whnf
 ·have h1:a<K:=by have:=of_decide_eq_true h1; omega
  rw [show K-a=(K-(a+1))+1 by omega,blocksR_s,List.drop_drop,show 64*a+64=64*(a+1) by omega] at hx
  have e64:IntKind.i64.wrap (((64*a:Nat):Int)+64)=((64*(a+1):Nat):Int):=by rw [wI64 (by omega) (by omega)]; omega
  rw [e64,sB_size,hK]
  refine ⟨⟨by omega,by omega,by omega⟩,?_⟩
  conv=>whnf
  rw [sB_ext,show ((64*(a+1):Nat):Int).toNat-((64*a:Nat):Int).toNat=64 by omega,Int.toNat_natCast]
  have hbl:((P.drop (64*a)).take 64).length=64:=by rw [List.length_take,List.length_drop]; omega
  generalize (P.drop (64*a)).take 64=b at hbl hx
  refine cl (words2_ok b hbl) [] ?_
  rw [wordsR_len]
  unfold blockR at hx
  have hwl:=wordsR_len b
  generalize wordsR b=w at hx hwl
  conv=>whnf
  refine ⟨⟨rfl,by simp [hh]⟩,?_⟩
  conv=>whnf
  refine ⟨rfl,?_⟩
  conv=>whnf
  refine ⟨⟨by decide,by simp⟩,?_⟩
  conv=>whnf
  obtain ⟨R2,hR2⟩:∃ R2,roundsR w 64 0 h=R2:=⟨_,rfl⟩
  rw [hR2] at hx
  refine lp2 (fun (i:Nat) (v:List Nat)=>([(3,.s 0 0 8 false),(4,.s 1 0 64 false),(5,sv P),(6,i64 ((64*a:Nat):Nat)),(7,.s 2 0 64 false),(8,.s 3 0 8 false),(9,i64 (i:Nat))],[u32Rs h,u32Rs hkeyS,u32Rs w,u32Rs v])) (fun i v=>(i≤64∧v.length=8)∧roundsR w (64-i) i v=R2) (fun i _=>64-i) 0 h ⟨⟨by omega,hh⟩,hR2⟩ (cw [0,1,2,4]) fun i v ⟨⟨hi,hv⟩,hy⟩ => ?_
  conv=>whnf
  refine br_of (fun h2 => ?_) (fun h2 => ?_) <;> conv=>whnf
  ·have h2:i<64:=by have:=of_decide_eq_true h2; omega
   rw [show 64-i=(64-(i+1))+1 by omega,roundsR_s] at hy
   refine ⟨by omega,?_⟩
   conv=>whnf
   refine ob_of _ (u32_at (l:=hkeyS) (i:=i) (by show i<64; omega)) ?_
   conv=>whnf
   refine ⟨by omega,?_⟩
   conv=>whnf
   refine ob_of _ (u32_at (l:=w) (i:=i) (by omega)) ?_
   conv=>whnf
   refine cl (round2_ok v (hkeyS.getD i 0) (w.getD i 0) hv) [3] ?_
   conv=>whnf
   refine ⟨rfl,?_⟩
   conv=>whnf
   rw [wI64 (n:=(i:Int)+1) (by omega) (by omega)]
   exact ⟨(i+1,roundR v (hkeyS.getD i 0) (w.getD i 0)),⟨⟨⟨by omega,roundR_len _ _ _⟩,hy⟩,by simp only; omega⟩,cv [0,1,2,4]⟩
  ·have h2:i=64:=by have:=of_decide_eq_false h2; omega
   subst h2
   rw [Nat.sub_self] at hy
   have hy:v=R2:=hy
   subst hy
   obtain ⟨R3,hR3⟩:∃ R3,addsR v 8 0 h=R3:=⟨_,rfl⟩
   rw [hR3] at hx
   have hl3:R3.length=8:=by rw [← hR3,addsR_len,hh]
   refine lp2 (fun (i:Nat) (h:List Nat)=>([(3,.s 0 0 8 false),(4,.s 1 0 64 false),(5,sv P),(6,i64 ((64*a:Nat):Nat)),(8,.s 3 0 8 false),(10,i64 (i:Nat))],[u32Rs h,u32Rs hkeyS,.g,u32Rs v])) (fun i h=>(i≤8∧h.length=8)∧addsR v (8-i) i h=R3) (fun i _=>8-i) 0 h ⟨⟨by omega,hh⟩,hR3⟩ (cv [0,1,2,3]) fun i h ⟨⟨hi,hh⟩,hy⟩ => ?_
   conv=>whnf
   refine br_of (fun h2 => ?_) (fun h2 => ?_) <;> conv=>whnf
   ·have h2:i<8:=by have:=of_decide_eq_true h2; omega
    rw [show 8-i=(8-(i+1))+1 by omega,addsR_s] at hy
    have hat:=u32_at (l:=h) (i:=i) (by omega)
    refine ⟨by omega,?_⟩
    conv=>whnf
    refine ob_of _ hat ?_
    conv=>whnf
    refine ⟨by omega,?_⟩
    conv=>whnf
    refine ob_of _ (u32_at (l:=v) (i:=i) (by omega)) ?_
    conv=>whnf
    rw [eadd]
    refine ⟨by omega,?_⟩
    conv=>whnf
    refine ob_of _ hat ?_
    conv=>whnf
    rw [u32_set]
    refine ⟨rfl,?_⟩
    conv=>whnf
    rw [wI64 (n:=(i:Int)+1) (by omega) (by omega)]
    exact ⟨(i+1,h.set i (had (h.getD i 0) (v.getD i 0))),⟨⟨⟨by omega,by simp [hh]⟩,hy⟩,by simp only; omega⟩,cv [0,1,2,3]⟩
   ·have h2:i=8:=by have:=of_decide_eq_false h2; omega
    subst h2
    rw [Nat.sub_self] at hy
    have hy:h=R3:=hy
    subst hy
    rw [e64]
    exact ⟨(a+1,h),⟨⟨⟨by omega,hh⟩,hx⟩,by simp only; omega⟩,cv [0,1]⟩
 ·have h1:a=K:=by have:=of_decide_eq_false h1; omega
  subst h1
  rw [Nat.sub_self] at hx
  have hx:h=R1:=hx
  subst hx
  refine lp2 (fun (i:Nat) (o:Bs)=>([(3,.s 0 0 8 false),(11,.s 1 0 o.length false),(12,i64 (i:Nat))],[u32Rs h,by_ o])) (fun i o=>(i≤8∧o.length=4*i)∧outR h (8-i) i o=R) (fun i _=>8-i) 0 [] ⟨⟨by omega,rfl⟩,hR⟩ (cv [0,2]) fun i o ⟨⟨hi,ho⟩,hy⟩ => ?_
  conv=>whnf
  refine br_of (fun h2 => ?_) (fun h2 => ?_) <;> conv=>whnf
  ·have h2:i<8:=by have:=of_decide_eq_true h2; omega
   rw [show 8-i=(8-(i+1))+1 by omega,outR_s] at hy
   have hat:=u32_at (l:=h) (i:=i) (by omega)
   generalize h.getD i 0=x at hat hy
   iterate 4
    refine ⟨by omega,?_⟩
    conv=>whnf
    refine ob_of _ hat ?_
    conv=>whnf
   rw [by1,by2,by3,by4]
   generalize (w32 (x/16777216)).toUInt8=c1 at hy
   generalize (w32 (x/65536)%256).toUInt8=c2 at hy
   generalize (w32 (x/256)%256).toUInt8=c3 at hy
   generalize (x%256).toUInt8=c4 at hy
   refine ⟨⟨rfl,rfl⟩,?_⟩
   conv=>whnf
   refine ⟨by simp [byR],?_⟩
   conv=>whnf
   refine ⟨⟨by omega,by simp⟩,?_⟩
   conv=>whnf
   refine ⟨rfl,?_⟩
   conv=>whnf
   rw [wI64 (n:=(i:Int)+1) (by omega) (by omega)]
   exact ⟨(i+1,o++[c1,c2,c3,c4]),⟨⟨⟨by omega,by simp [ho]; omega⟩,hy⟩,by simp only; omega⟩,cv [0,3] (h4:=⟨.inl rfl,.inl (by simp [lk,ren]),.inl rfl,trivial⟩) (h5:=⟨.inl rfl,.inl (by simp [byR]),trivial⟩)⟩
  ·have h2:i=8:=by have:=of_decide_eq_false h2; omega
   subst h2
   rw [Nat.sub_self] at hy
   have hy:o=R:=hy
   subst hy
   refine ⟨o,⟨rfl,rfl,rfl⟩,?_⟩
   conv=>whnf
   exact cv []
abbrev mcE (c:Mc):List E.EV:=[sv c.secret,i64 (c.nodes:Nat),i64 (c.room:Nat),u64 c.every,u64 c.gossip,u64 c.retry.base,u64 c.retry.most,u64 c.retry.span,i64 c.retry.tries,i64 c.retry.room]
theorem plain_ok (hS:GSha G) (s:Bs) (n:Nat) (hs:s.length≤9223372036854775807):Tri Tryz.prog G 6 [sv s,i64 (n:Nat)] [] (.a (mcE (plain (refL (s.take 100)) n))) []:=by
 have hsz:(sB s).size=s.length:=by show s.toArray.size=_; rw [List.size_toArray]
 have e:(if (100:Int)<(((sB s).size:Nat):Int) then (100:Int) else (((sB s).size:Nat):Int))=((min s.length 100:Nat):Int):=by rw [hsz]; split <;> omega
 refine fn Tryz.func6 ?_
 conv=>whnf
 rw [e]
 refine ⟨⟨by decide,by omega,by rw [hsz]; omega⟩,?_⟩
 conv=>whnf
 rw [show (sB s).extract (Int.toNat 0) (((min s.length 100:Nat):Int)).toNat=sB (s.take 100) from by
  rw [sB_ext]
  congr 1
  simp
  omega]
 refine cl (refsum_ok (s.take 100) (by simp; omega)) [] ?_
 conv=>whnf
 exact cv []
end Go.Proofs.YtdhgpocbcccieaaGreatDoor.M
namespace Go.Proofs.YtdhgpocbcccieaaGreatDoor.M
open Go Go.RowKit Go.Proofs.YtdhgpocbcccieaaGreatDoor.E
theorem clL_len (s:Bs):(clL s).length=s.length:=by
 unfold clL
 simp
theorem new_inv (sec:Bs) (K:Nat) (h1:1≤K) (h4:K≤4):Ms.ok 100000 (Ms.new (plain sec K)):=by
 have hcf:=conf_plain sec K h1 h4
 have hp:=pub_len sec
 have ha:(keyL sec).a.length=32:=(clL_len _).trans (by rw [List.length_take,sumL_len]; rfl)
 have hpre:(keyL sec).pre.length≤64:=by
  show ((sumL [sec]).drop 32).length≤64
  rw [List.length_drop,sumL_len]
  omega
 have hb:=boot_ok hcf hp d0_w (by decide) (boot0 (Ms.new (plain sec K)).conf (keyL sec).pub)
 refine ⟨fun q hq => ?_,fun q hq => ?_,Nat.zero_le _,fun p hp=>(by cases hp),show 0<_ by decide,?_,hp,hcf,?_⟩
 ·obtain rfl:=(List.mem_replicate.1 hq).2
  refine ⟨hb.1,?_,?_,rfl,rfl⟩
  ·show (1:Int)+_≤_; omega
  ·show 0+100000≤_; decide
 ·obtain rfl:=(List.mem_replicate.1 hq).2
  exact ⟨by show 0≤12; decide,fun x hx=>(by cases hx)⟩
 ·show (keyL sec).a.length+(keyL sec).pre.length+(keyL sec).pub.length≤100000
  omega
 ·show K=(List.replicate K _).length
  rw [List.length_replicate]
theorem setN_len {m:Ms} {i:Nat} {n:Nd}:(m.setN i n).l.length=m.l.length:=List.length_set
theorem send_len {m:Ms} {i:Nat} {o:List Sd}:(m.send i o).l.length=m.l.length:=by rw [send_eq]
theorem act_len {m:Ms} (a:Ac):(m.act a).1.l.length=m.l.length:=by
 unfold Ms.act
 split
 ·rfl
 split
 ·unfold Ms.tick
  split
  ·rfl
  ·simp only [send_len,setN_len]
 split
 ·exact moved_len a
 split
 ·unfold Ms.leaf
  simp only
  by_cases h:m.has a.a=true
  ·have h2:=has_lt' h
   simp only [if_pos h]
   split
   ·rfl
   ·simp only [List.length_append,List.length_map,List.length_drop,List.length_take]
    omega
  ·simp only [if_neg h]
   split
   ·rfl
   ·simp only [List.length_append,List.length_map,List.length_drop,List.length_take]
    omega
 split
 ·unfold Ms.crash
  split
  ·rfl
  ·simp only
   split <;> exact setN_len
 split
 ·unfold Ms.renew
  split
  ·rfl
  ·exact setN_len
 ·unfold Ms.feed
  split
  ·rfl
  ·simp only
   split
   ·exact send_len.trans setN_len
   ·exact setN_len
theorem tickR_len {m:Ms} (i:Nat):(tickR m i).l.length=m.l.length:=List.length_set
theorem ticksF_inv:∀ (l:List Nat) (m:Ms) (b:Nat),Ms.ok (b+l.length) m→b+l.length≤100000→(∀ i∈l,i<m.l.length)→Ms.ok b (Ms.ticksF l m)∧(Ms.ticksF l m).l.length=m.l.length
 | [],m,b,h,_,_=>⟨h,rfl⟩
 | i::l,m,b,h,hb,hl=>by
  rw [ticksF_s]
  have h2:Ms.ok (b+l.length+1) m:=h
  have hb2:b+l.length+1≤100000:=hb
  obtain ⟨h3,h4⟩:=ticksF_inv l (tickR m i) b (h2.tickR (by omega) (hl i (List.mem_cons_self ..))) (by omega) fun j hj=>by rw [tickR_len]; exact hl j (List.mem_cons_of_mem _ hj)
  exact ⟨h3,h4.trans (tickR_len i)⟩
theorem movesF_inv:∀ (k:Nat) (m:Ms) (b:Nat),Ms.ok (b+k) m→b+k≤100000→Ms.ok b (Ms.movesF k m)∧(Ms.movesF k m).l.length=m.l.length
 | 0,m,b,h,_=>⟨h,rfl⟩
 | k+1,m,b,h,hb=>by
  have h2:Ms.ok (b+k) (m.moved dlv).1:=Ms.ok.moved (b:=b+k) h (by omega) dlv (Int.le_refl 0)
  by_cases he:(m.moved dlv).2=0
  ·rw [movesF_b he]
   obtain ⟨h3,h4⟩:=movesF_inv k _ b h2 (by omega)
   exact ⟨h3,h4.trans (moved_len dlv)⟩
  ·rw [movesF_a he]
   exact ⟨h2.mono (by omega),moved_len dlv⟩
theorem round_inv {m:Ms} {b:Nat} (h:Ms.ok (b+300) m) (hb:b≤90000):Ms.ok b m.round∧m.round.l.length=m.l.length:=by
 have hK:=h.K
 unfold Ms.round
 obtain ⟨h1,h2⟩:=ticksF_inv (List.range m.l.length) m (b+200) (h.mono (by simp only [List.length_range]; omega)) (by simp only [List.length_range]; omega) fun i hi=>List.mem_range.1 hi
 obtain ⟨h3,h4⟩:=movesF_inv 200 _ b h1 (by omega)
 exact ⟨h3,h4.trans h2⟩
end Go.Proofs.YtdhgpocbcccieaaGreatDoor.M
namespace Go.Proofs.YtdhgpocbcccieaaGreatDoor.M
open Go Go.RowKit Go.Proofs.YtdhgpocbcccieaaGreatDoor.E
variable {G:Gl}
abbrev lgB (k:Ky):EB := .r 72 (kyE k)
abbrev vwB (view:List Bs):EB := .r 52 [.s 0 0 view.length false]
abbrev tiB (time:Nat):EB := .r 27 [u64 time]
theorem ans1_ok (hG:GSig G) (hS:GSha G) (k:Ky) (hk:k.a.length+k.pre.length+k.pub.length≤100000) (view:List Bs) (hv:view.length≤1000) (hx:∀ x∈view,x.length≤100000) (time:Nat) (ht:time<18446744073709551616) (m:Mg):Tri Tryz.prog G 188 [.a (mgE 4 5 6 m),.p 1 0 0,.p 2 0 0,.p 3 0 0] ([sRs view,lgB k,vwB view,tiB time]++mgH m) (.a (mgN { kind:=7,log:=m.log,id:=m.id,h:=(headL k view time).1 } nl nl nl)) ([sRs view,lgB k,vwB view,tiB time]++mgH m):=by
 refine fn Tryz.func188 ?_
 conv=>whnf
 refine clQ (lhead_ok hG hS k hk view hv hx time ht) [0] ?_
 conv=>whnf
 exact cv [0,1,2,3,4,5,6]
theorem ans2a_ok (view:List Bs) (m:Mg) (h:view.length<m.n) (hv:view.length≤1000):Tri Tryz.prog G 190 [.a (mgE 2 3 4 m),.p 1 0 0] ([sRs view,vwB view]++mgH m) (.a (mgN Mg.nil nl nl nl)) ([sRs view,vwB view]++mgH m):=by
 refine fn Tryz.func190 ?_
 conv=>whnf
 rw [wU64 (n:=(view.length:Int)) (by omega) (by omega)]
 rw [show decide ((m.n:Int)>view.length)=true from decide_eq_true (by omega)]
 conv=>whnf
 exact cv [0,1,2,3,4]
theorem ans2b_ok (hS:GSha G) (view:List Bs) (m:Mg) (h:¬ view.length<m.n) (hm:m.m≤m.n) (hv:view.length≤1000) (hx:∀ x∈view,x.length≤100000):Tri Tryz.prog G 190 [.a (mgE 2 3 4 m),.p 1 0 0] ([sRs view,vwB view]++mgH m) (.a (mgE 2 5 4 { m with kind:=8,path:=(bridgeL m.m (view.take m.n)).1 })) ([sRs view,vwB view]++mgH m++[sRs (bridgeL m.m (view.take m.n)).1]):=by
 refine fn Tryz.func190 ?_
 conv=>whnf
 rw [wU64 (n:=(view.length:Int)) (by omega) (by omega)]
 rw [show decide ((m.n:Int)>view.length)=false from decide_eq_false (by omega)]
 conv=>whnf
 refine ⟨⟨by decide,by omega,by omega⟩,?_⟩
 conv=>whnf
 rw [wI64 (n:=(m.m:Int)) (by omega) (by omega),show ((m.n:Int)-0).toNat=m.n from by omega]
 refine clN (bridge_ok hS m.m view m.n hx (by omega) (by omega) (by omega)) [0] [sRs (bridgeL m.m (view.take m.n)).1] ?_
 conv=>whnf
 refine ⟨rfl,?_⟩
 conv=>whnf
 exact cv [0,1,2,3,4,7]
theorem ansL_a {k:Ky} {view:List Bs} {time:Nat} {s:Bs} (h:(Mg.dec s).2≠0):ansL k view time s=[]:=if_pos h
theorem ansL_b {k:Ky} {view:List Bs} {time:Nat} {s:Bs} (h:¬ (Mg.dec s).2≠0) (h2:(Mg.dec s).1.kind=5):ansL k view time s=Mg.enc { kind:=7,log:=(Mg.dec s).1.log,id:=(Mg.dec s).1.id,h:=(headL k view time).1 }:=by
 unfold ansL headL
 simp only
 rw [if_neg h,if_pos h2]
 split <;> rfl
theorem ansL_c {k:Ky} {view:List Bs} {time:Nat} {s:Bs} (h:¬ (Mg.dec s).2≠0) (h2:(Mg.dec s).1.kind=6) (h3:view.length<(Mg.dec s).1.n):ansL k view time s=Mg.nil.enc:=by
 unfold ansL
 simp only
 rw [if_neg h,if_neg (by omega),if_pos h2,if_pos h3]
 rfl
theorem ansL_d {k:Ky} {view:List Bs} {time:Nat} {s:Bs} (h:¬ (Mg.dec s).2≠0) (h2:(Mg.dec s).1.kind=6) (h3:¬ view.length<(Mg.dec s).1.n):ansL k view time s=Mg.enc { (Mg.dec s).1 with kind:=8,path:=(bridgeL (Mg.dec s).1.m (view.take (Mg.dec s).1.n)).1 }:=by
 unfold ansL
 simp only
 rw [if_neg h,if_neg (by omega),if_pos h2,if_neg h3]
theorem ansL_e {k:Ky} {view:List Bs} {time:Nat} {s:Bs} (h5:¬ (Mg.dec s).1.kind=5) (h6:¬ (Mg.dec s).1.kind=6):ansL k view time s=[]:=by
 unfold ansL
 simp only
 rw [if_neg h5,if_neg h6]
 split <;> rfl
theorem bridge_len' (m:Nat) (l:List Bs):(bridgeL m l).1.length≤1000:=by
 unfold bridgeL
 split
 ·simp
 ·have:=steps_len 64 m l.length
  simp only [List.length_reverse,bridgeF_len,List.length_nil]
  unfold stepsL
  omega
theorem lans_ok (hG:GSig G) (hS:GSha G) (hH:GHas G) (k:Ky) (hk:k.a.length+k.pre.length+k.pub.length≤100000) (view:List Bs) (hv:view.length≤1000) (hx:∀ x∈view,x.length≤100000) (time:Nat) (ht:time<18446744073709551616) (s:Bs):Tri Tryz.prog G 123 [.a (kyE k),.s 0 0 view.length false,u64 time,sv s] [sRs view] (sv (ansL k view time s)) [sRs view]:=by
 have ha:=ansL_a (k:=k) (view:=view) (time:=time) (s:=s)
 have hb:=ansL_b (k:=k) (view:=view) (time:=time) (s:=s)
 have hc:=ansL_c (k:=k) (view:=view) (time:=time) (s:=s)
 have hd:=ansL_d (k:=k) (view:=view) (time:=time) (s:=s)
 have he:=ansL_e (k:=k) (view:=view) (time:=time) (s:=s)
 obtain ⟨hf,hpl⟩:=dec_fit s
 have hdr:=dec_right (s:=s)
 generalize ansL k view time s=R at ha hb hc hd he
 refine fn Tryz.func123 ?_
 conv=>whnf
 refine cl (mdec_ok hH hS s) [] ?_
 generalize (Mg.dec s).2=e at ha hb hc hd hdr
 generalize (Mg.dec s).1=m at ha hb hc hd he hdr hf hpl
 conv=>whnf
 refine br_of (fun k5 => ?_) (fun k5 => ?_) <;> conv=>whnf
 ·refine br_of (fun c1 => ?_) (fun c1 => ?_) <;> (rw [c1] ; conv=>whnf)
  ·rw [ha (by simpa using c1)]
   exact cv [0]
  have c1:¬ e≠0:=by simpa using c1
  rw [hb c1 (of_decide_eq_true k5)]
  refine clQ (ans1_ok hG hS k hk view hv hx time ht m) [0,1,2,3,5,6,7] ?_
  conv=>whnf
  refine clQ (enc0_ok hH hS { kind:=7,log:=m.log,id:=m.id,h:=(headL k view time).1 } ⟨hf.1,show 0<_ by decide,show 0<_ by decide,show 0≤_ by decide,show 0≤_ by decide,show 0≤_ by decide⟩ rfl rfl rfl) [] ?_
  conv=>whnf
  exact cv [0]
 refine br_of (fun k6 => ?_) (fun k6 => ?_) <;> conv=>whnf
 ·refine br_of (fun c1 => ?_) (fun c1 => ?_) <;> (rw [c1] ; conv=>whnf)
  ·rw [ha (by simpa using c1)]
   exact cv [0]
  have c1:¬ e≠0:=by simpa using c1
  have k6:m.kind=6:=of_decide_eq_true k6
  obtain ⟨p1,p2, -, -, -⟩:=part2 (hdr (Classical.not_not.1 c1)) k6
  by_cases h3:view.length<m.n
  ·rw [hc c1 k6 h3]
   refine clQ (ans2a_ok view m h3 hv) [0,2,5,6,7] ?_
   conv=>whnf
   refine clQ (enc0_ok hH hS Mg.nil ⟨show 0<_ by decide,show 0<_ by decide,show 0<_ by decide,show 0≤_ by decide,show 0≤_ by decide,show 0≤_ by decide⟩ rfl rfl rfl) [] ?_
   conv=>whnf
   exact cv [0]
  ·rw [hd c1 k6 h3]
   refine clN (ans2b_ok hS view m h3 p2 hv hx) [0,2,5,6,7] [sRs (bridgeL m.m (view.take m.n)).1] ?_
   have hbl:=bridge_len' m.m (view.take m.n)
   generalize (bridgeL m.m (view.take m.n)).1=P at hbl
   conv=>whnf
   refine clQ (menc_ok hH hS { m with kind:=8,path:=P } ⟨hf.1,hf.2.1,hf.2.2.1,hf.2.2.2.1,by show P.length≤_; omega,hf.2.2.2.2.2⟩) [5,9,7] ?_
   conv=>whnf
   exact cv [0]
 refine br_of (fun c1 => ?_) (fun c1 => ?_) <;> (rw [c1] ; conv=>whnf)
 ·rw [ha (by simpa using c1)]
  exact cv [0]
 ·rw [he (of_decide_eq_false k5) (of_decide_eq_false k6)]
  exact cv [0]
end Go.Proofs.YtdhgpocbcccieaaGreatDoor.M
namespace Go.Proofs.YtdhgpocbcccieaaGreatDoor.M2
open Go Go.RowKit Go.Proofs.YtdhgpocbcccieaaGreatDoor.E Go.Proofs.YtdhgpocbcccieaaGreatDoor.M
variable {G:Gl}
abbrev mH (m:Ms) (q0 q1:Pl):List EB:=[msB 2 2 m,.rv 87 [[.p 3 0 0,.p 9 0 0,.s 16 0 q0.view.length false],[.p 17 0 0,.p 23 0 0,.s 30 0 q1.view.length false]],pkRs m.net,ndB 4 5 7 11 15 q0.n,sRs [q0.n.key],wtB 6 q0.n,hdRs q0.n.s.pend,jnB 8 9 q0.n.j,sRs q0.n.j.l,dkB 10 q0.n.j.d,wrRs q0.n.j.d.loose,tbB 12 13 q0.n.t,tmB q0.n.t.tried,hpB 14 q0.n.t.due q0.n.t.c.room,alRs q0.n.t.due,rqB q0.n,sRs q0.view,ndB 18 19 21 25 29 q1.n,sRs [q1.n.key],wtB 20 q1.n,hdRs q1.n.s.pend,jnB 22 23 q1.n.j,sRs q1.n.j.l,dkB 24 q1.n.j.d,wrRs q1.n.j.d.loose,tbB 26 27 q1.n.t,tmB q1.n.t.tried,hpB 28 q1.n.t.due q1.n.t.c.room,alRs q1.n.t.due,rqB q1.n,sRs q1.view]
abbrev mN (c:Nat) (m:Ms) (q0 q1:Pl):List EB:=[msB c 2 m,.rv 87 [[.p 3 0 0,.p 9 0 0,.s 16 0 q0.view.length false],[.p 17 0 0,.p 23 0 0,.s 30 0 q1.view.length false]],.g,ndB 4 5 7 11 15 q0.n,sRs [q0.n.key],wtB 6 q0.n,hdRs q0.n.s.pend,jnB 8 9 q0.n.j,sRs q0.n.j.l,dkB 10 q0.n.j.d,wrRs q0.n.j.d.loose,tbB 12 13 q0.n.t,tmB q0.n.t.tried,hpB 14 q0.n.t.due q0.n.t.c.room,alRs q0.n.t.due,rqB q0.n,sRs q0.view,ndB 18 19 21 25 29 q1.n,sRs [q1.n.key],wtB 20 q1.n,hdRs q1.n.s.pend,jnB 22 23 q1.n.j,sRs q1.n.j.l,dkB 24 q1.n.j.d,wrRs q1.n.j.d.loose,tbB 26 27 q1.n.t,tmB q1.n.t.tried,hpB 28 q1.n.t.due q1.n.t.c.room,alRs q1.n.t.due,rqB q1.n,sRs q1.view]
abbrev mP (m:Ms) (q0 q1:Pl):List EB:=[msB 31 2 m,.rv 87 [[.p 32 0 0,.p 9 0 0,.s 44 0 q0.view.length false],[.p 45 0 0,.p 23 0 0,.s 57 0 q1.view.length false]],.g,.g,.g,.g,.g,.g,.g,dkB 38 q0.n.j.d,.g,.g,.g,.g,.g,.g,.g,.g,.g,.g,.g,.g,.g,dkB 51 q1.n.j.d,.g,.g,.g,.g,.g,.g,.g]
abbrev mQ (m:Ms) (q0 q1:Pl):List EB:=[pkRs m.net,ndB 33 34 36 39 43 q0.n,sRs [q0.n.key],wtB 35 q0.n,hdRs q0.n.s.pend,jnB 37 9 q0.n.j,sRs q0.n.j.l,wrRs q0.n.j.d.loose,tbB 40 41 q0.n.t,tmB q0.n.t.tried,hpB 42 q0.n.t.due q0.n.t.c.room,alRs q0.n.t.due,rqB q0.n,sRs q0.view,ndB 46 47 49 52 56 q1.n,sRs [q1.n.key],wtB 48 q1.n,hdRs q1.n.s.pend,jnB 50 23 q1.n.j,sRs q1.n.j.l,wrRs q1.n.j.d.loose,tbB 53 54 q1.n.t,tmB q1.n.t.tried,hpB 55 q1.n.t.due q1.n.t.c.room,alRs q1.n.t.due,rqB q1.n,sRs q1.view]
theorem has_ok (m:Ms) (q0 q1:Pl) (i:Int):Tri Tryz.prog G 35 [.p 0 0 0,i64 i] (mH m q0 q1) (bv (decide (i≥0)&&decide (i<2))) (mH m q0 q1):=by
 refine fn Tryz.func35 ?_
 conv=>whnf
 refine br_of (fun h => ?_) (fun h => ?_) <;> rw [h] <;> conv=>whnf
 ·exact kv [0,1,2,3,4,5,6,7,8,9,10,11,12,13,14,15,16,17,18,19,20,21,22,23,24,25,26,27,28,29,30]
 ·exact kv [0,1,2,3,4,5,6,7,8,9,10,11,12,13,14,15,16,17,18,19,20,21,22,23,24,25,26,27,28,29,30]
theorem put_ok (m:Ms) (q0 q1:Pl) (p:Pk):Tri Tryz.prog G 74 [.p 0 0 0,.a (pkE p)] (mH m q0 q1) (i64 (putE m.net)) (mN 31 { m with net:=putN m.net p } q0 q1++[pkRs (putN m.net p)]):=by
 have ha:=putN_a (net:=m.net) (p:=p)
 have hb:=putN_b (net:=m.net) (p:=p)
 refine fn Tryz.func74 ?_
 conv=>whnf
 refine br_of (fun h => ?_) (fun h => ?_) <;> conv=>whnf
 ·have h:64≤m.net.length:=by have:=of_decide_eq_true h; omega
  rw [ha h,show putE m.net=8 from if_pos h]
  exact kv [0,1,2,3,4,5,6,7,8,9,10,11,12,13,14,15,16,17,18,19,20,21,22,23,24,25,26,27,28,29,30,2]
 ·have h:¬ 64≤m.net.length:=by have:=of_decide_eq_false h; omega
  rw [hb h,show putE m.net=0 from if_neg h]
  refine ⟨⟨rfl,rfl⟩,?_⟩
  conv=>whnf
  refine ⟨by simp,?_⟩
  conv=>whnf
  refine ⟨⟨by omega,by simp⟩,?_⟩
  conv=>whnf
  refine ⟨rfl,?_⟩
  conv=>whnf
  rw [show (m.net.map pkE++[[i64 p.frm,i64 p.dst,sv p.s]])=(m.net++[p]).map pkE from by simp,show m.net.length+1=(m.net++[p]).length from by simp]
  exact kv [0,1,2,3,4,5,6,7,8,9,10,11,12,13,14,15,16,17,18,19,20,21,22,23,24,25,26,27,28,29,30,33]
theorem send_ok (m:Ms) (q0 q1:Pl) (i:Nat) (out:List Sd) (ho:out.length≤100000):Tri Tryz.prog G 72 [.p 0 0 0,i64 (i:Nat),.s 31 0 out.length false] (mH m q0 q1++[sdRs out]) (.t []) (mN 32 { m with net:=sndN i m.net out } q0 q1++[sdRs out,pkRs (sndN i m.net out)]):=by
 refine fn Tryz.func72 ?_
 conv=>whnf
 refine lp2 (fun (j:Nat) (nt:List Pk)=>([(0,.p 0 0 0),(1,i64 (i:Nat)),(9,.s 31 0 out.length false),(10,i64 (out.length:Nat)),(11,i64 (j:Nat))],mN 32 { m with net:=nt } q0 q1++[sdRs out,pkRs nt])) (fun j nt=>j≤out.length∧sndN i nt (out.drop j)=sndN i m.net out) (fun j _=>out.length-j) 0 m.net ⟨Nat.zero_le _,rfl⟩ (kv [0,1,2,3,4,5,6,7,8,9,10,11,12,13,14,15,16,17,18,19,20,21,22,23,24,25,26,27,28,29,30,31,2]) fun j nt ⟨hj,hx⟩ => ?_
 conv=>whnf
 refine br_of (fun h1 => ?_) (fun h1 => ?_) <;> conv=>whnf
 rotate_left
 ·have h1:j=out.length:=by have:=of_decide_eq_false h1; omega
  subst h1
  rw [List.drop_length] at hx
  have hx:nt=sndN i m.net out:=hx
  rw [← hx]
  exact kv [0,1,2,3,4,5,6,7,8,9,10,11,12,13,14,15,16,17,18,19,20,21,22,23,24,25,26,27,28,29,30,31,32]
 have h1:j<out.length:=by have:=of_decide_eq_true h1; omega
 rw [List.drop_eq_getElem_cons h1] at hx
 refine ⟨by omega,?_⟩
 conv=>whnf
 refine ob_of (sdE out[j]) (by simp [h1]) ?_
 conv=>whnf
 generalize out[j]=x at hx
 have hx:sndN i (sndX i nt x) (out.drop (j+1))=sndN i m.net out:=hx
 have hw:IntKind.i64.wrap ((j:Int)+1)=((j+1:Nat):Int):=wI64 (n:=(j:Int)+1) (by omega) (by omega)
 refine br_of (fun h2 => ?_) (fun h2 => ?_) <;> conv=>whnf
 ·rw [show sndX i nt x=putN nt ⟨i,i64w (x.1+1),x.2⟩ from if_pos (of_decide_eq_true h2)] at hx
  refine ck (put_ok { m with net:=nt } q0 q1 ⟨i,i64w (x.1+1),x.2⟩) [0,1,32,3,4,5,6,7,8,9,10,11,12,13,14,15,16,17,18,19,20,21,22,23,24,25,26,27,28,29,30] ?_
  conv=>whnf
  rw [hw]
  exact ⟨(j+1,_),⟨⟨h1,hx⟩,by show out.length-(j+1)<out.length-j; omega⟩,kv [0,1,2,3,4,5,6,7,8,9,10,11,12,13,14,15,16,17,18,19,20,21,22,23,24,25,26,27,28,29,30,31,34]⟩
 refine br_of (fun h3 => ?_) (fun h3 => ?_) <;> conv=>whnf
 ·rw [show sndX i nt x=nt from by unfold sndX; rw [if_neg (of_decide_eq_false h2),if_pos (of_decide_eq_true h3)]] at hx
  rw [hw]
  exact ⟨(j+1,_),⟨⟨h1,hx⟩,by show out.length-(j+1)<out.length-j; omega⟩,kv [0,1,2,3,4,5,6,7,8,9,10,11,12,13,14,15,16,17,18,19,20,21,22,23,24,25,26,27,28,29,30,31,32]⟩
 ·rw [show sndX i nt x=putN nt ⟨i,x.1,x.2⟩ from by unfold sndX; rw [if_neg (of_decide_eq_false h2),if_neg (of_decide_eq_false h3)]] at hx
  refine ck (put_ok { m with net:=nt } q0 q1 ⟨i,x.1,x.2⟩) [0,1,32,3,4,5,6,7,8,9,10,11,12,13,14,15,16,17,18,19,20,21,22,23,24,25,26,27,28,29,30] ?_
  conv=>whnf
  rw [hw]
  exact ⟨(j+1,_),⟨⟨h1,hx⟩,by show out.length-(j+1)<out.length-j; omega⟩,kv [0,1,2,3,4,5,6,7,8,9,10,11,12,13,14,15,16,17,18,19,20,21,22,23,24,25,26,27,28,29,30,31,34]⟩
theorem net_ok (m:Ms) (q0 q1:Pl) (hl:m.net.length≤64):Tri Tryz.prog G 9 [.p 0 0 0] (mH m q0 q1) (.s 31 0 m.net.length false) (mH m q0 q1++[pkRs m.net]):=by
 refine fn Tryz.func9 ?_
 conv=>whnf
 refine ck (cloneP_ok m.net (by omega)) [2] ?_
 conv=>whnf
 exact kv [0,1,2,3,4,5,6,7,8,9,10,11,12,13,14,15,16,17,18,19,20,21,22,23,24,25,26,27,28,29,30,31]
theorem public_ok (m:Ms) (q0 q1:Pl):Tri Tryz.prog G 21 [.p 0 0 0] (mH m q0 q1) (sv m.k.pub) (mH m q0 q1):=by
 refine fn Tryz.func21 ?_
 conv=>whnf
 refine ckQ (lpub_ok m.k) [] ?_
 conv=>whnf
 exact kv [0,1,2,3,4,5,6,7,8,9,10,11,12,13,14,15,16,17,18,19,20,21,22,23,24,25,26,27,28,29,30]
theorem conf_ok (m:Ms) (q0 q1:Pl) (hn:m.c.nodes=2):Tri Tryz.prog G 25 [.p 0 0 0] (mH m q0 q1) (.a (ncE 31 m.conf)) (mH m q0 q1++[sRs [m.k.pub]]):=by
 have hc:m.conf=⟨1,m.c.room,m.c.every,m.c.gossip,m.c.retry⟩:=by unfold Ms.conf; rw [hn]
 rw [hc]
 refine fn Tryz.func25 ?_
 conv=>whnf
 refine ckQ (lpub_ok m.k) [] ?_
 conv=>whnf
 refine ⟨rfl,?_⟩
 conv=>whnf
 rw [hn]
 exact kv [0,1,2,3,4,5,6,7,8,9,10,11,12,13,14,15,16,17,18,19,20,21,22,23,24,25,26,27,28,29,30,32]
theorem node0_ok (m:Ms) (q0 q1:Pl):Tri Tryz.prog G 11 [.p 0 0 0,i64 0] (mH m q0 q1) (.p 3 0 0) (mH m q0 q1):=by
 refine fn Tryz.func11 ?_
 conv=>whnf
 refine ckQ (has_ok m q0 q1 0) [0,1,2,3,4,5,6,7,8,9,10,11,12,13,14,15,16,17,18,19,20,21,22,23,24,25,26,27,28,29,30] ?_
 conv=>whnf
 refine ⟨by decide,?_⟩
 conv=>whnf
 exact kv [0,1,2,3,4,5,6,7,8,9,10,11,12,13,14,15,16,17,18,19,20,21,22,23,24,25,26,27,28,29,30]
theorem node1_ok (m:Ms) (q0 q1:Pl):Tri Tryz.prog G 11 [.p 0 0 0,i64 1] (mH m q0 q1) (.p 17 0 0) (mH m q0 q1):=by
 refine fn Tryz.func11 ?_
 conv=>whnf
 refine ckQ (has_ok m q0 q1 1) [0,1,2,3,4,5,6,7,8,9,10,11,12,13,14,15,16,17,18,19,20,21,22,23,24,25,26,27,28,29,30] ?_
 conv=>whnf
 refine ⟨by decide,?_⟩
 conv=>whnf
 exact kv [0,1,2,3,4,5,6,7,8,9,10,11,12,13,14,15,16,17,18,19,20,21,22,23,24,25,26,27,28,29,30]
end Go.Proofs.YtdhgpocbcccieaaGreatDoor.M2
