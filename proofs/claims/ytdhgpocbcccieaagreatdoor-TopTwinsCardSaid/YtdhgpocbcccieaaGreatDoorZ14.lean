/- Part 14 of the proof: U3i Fu. -/
import Derived.Test.YtdhgpocbcccieaaGreatDoorZ7
import Derived.Test.YtdhgpocbcccieaaGreatDoorZ9
import Derived.Test.YtdhgpocbcccieaaGreatDoorZ10
import Derived.Test.YtdhgpocbcccieaaGreatDoorZ12
set_option maxRecDepth 1000000
set_option maxHeartbeats 20000000
set_option linter.unusedVariables false
set_option linter.unusedSimpArgs false
namespace Go.Proofs.YtdhgpocbcccieaaGreatDoor.M3
open Go Go.RowKit Go.Proofs.YtdhgpocbcccieaaGreatDoor.E Go.Proofs.YtdhgpocbcccieaaGreatDoor.M
variable {G:Gl}
theorem conf0_ok (m:Ms)  (hn:m.c.nodes=3):Tri Tryz.prog G 25 [.p 0 0 0] [msN nl m] (.a (ncE 1 m.conf)) ([msN nl m]++[sRs [m.k.pub]]):=by
 have hc:m.conf=⟨2,m.c.room,m.c.every,m.c.gossip,m.c.retry⟩:=by unfold Ms.conf; rw [hn]
 rw [hc]
 refine fn Tryz.func25 ?_
 conv=>whnf
 refine ckQ (lpub_ok m.k) [] ?_
 conv=>whnf
 refine ⟨rfl,?_⟩
 conv=>whnf
 rw [hn]
 exact kv [0,2]
theorem conf1_ok (m:Ms) (n0:Nd) (hn:m.c.nodes=3):Tri Tryz.prog G 25 [.p 0 0 0] [msN (.s 1 0 1 false) m,.rv 87 [[.p 2 0 0,.p 8 0 0,nl]],ndB 3 4 6 10 14 n0,sRs [n0.key],wtB 5 n0,hdRs n0.s.pend,jnB 7 8 n0.j,sRs n0.j.l,dkB 9 n0.j.d,wrRs n0.j.d.loose,tbB 11 12 n0.t,tmB n0.t.tried,hpB 13 n0.t.due n0.t.c.room,alRs n0.t.due,rqB n0] (.a (ncE 15 m.conf)) ([msN (.s 1 0 1 false) m,.rv 87 [[.p 2 0 0,.p 8 0 0,nl]],ndB 3 4 6 10 14 n0,sRs [n0.key],wtB 5 n0,hdRs n0.s.pend,jnB 7 8 n0.j,sRs n0.j.l,dkB 9 n0.j.d,wrRs n0.j.d.loose,tbB 11 12 n0.t,tmB n0.t.tried,hpB 13 n0.t.due n0.t.c.room,alRs n0.t.due,rqB n0]++[sRs [m.k.pub]]):=by
 have hc:m.conf=⟨2,m.c.room,m.c.every,m.c.gossip,m.c.retry⟩:=by unfold Ms.conf; rw [hn]
 rw [hc]
 refine fn Tryz.func25 ?_
 conv=>whnf
 refine ckQ (lpub_ok m.k) [] ?_
 conv=>whnf
 refine ⟨rfl,?_⟩
 conv=>whnf
 rw [hn]
 exact kv [0,1,2,3,4,5,6,7,8,9,10,11,12,13,14,16]
theorem conf2_ok (m:Ms) (n0 n1:Nd) (hn:m.c.nodes=3):Tri Tryz.prog G 25 [.p 0 0 0] [msN (.s 1 0 2 false) m,.rv 87 [[.p 2 0 0,.p 8 0 0,nl],[.p 15 0 0,.p 21 0 0,nl]],ndB 3 4 6 10 14 n0,sRs [n0.key],wtB 5 n0,hdRs n0.s.pend,jnB 7 8 n0.j,sRs n0.j.l,dkB 9 n0.j.d,wrRs n0.j.d.loose,tbB 11 12 n0.t,tmB n0.t.tried,hpB 13 n0.t.due n0.t.c.room,alRs n0.t.due,rqB n0,ndB 16 17 19 23 27 n1,sRs [n1.key],wtB 18 n1,hdRs n1.s.pend,jnB 20 21 n1.j,sRs n1.j.l,dkB 22 n1.j.d,wrRs n1.j.d.loose,tbB 24 25 n1.t,tmB n1.t.tried,hpB 26 n1.t.due n1.t.c.room,alRs n1.t.due,rqB n1] (.a (ncE 28 m.conf)) ([msN (.s 1 0 2 false) m,.rv 87 [[.p 2 0 0,.p 8 0 0,nl],[.p 15 0 0,.p 21 0 0,nl]],ndB 3 4 6 10 14 n0,sRs [n0.key],wtB 5 n0,hdRs n0.s.pend,jnB 7 8 n0.j,sRs n0.j.l,dkB 9 n0.j.d,wrRs n0.j.d.loose,tbB 11 12 n0.t,tmB n0.t.tried,hpB 13 n0.t.due n0.t.c.room,alRs n0.t.due,rqB n0,ndB 16 17 19 23 27 n1,sRs [n1.key],wtB 18 n1,hdRs n1.s.pend,jnB 20 21 n1.j,sRs n1.j.l,dkB 22 n1.j.d,wrRs n1.j.d.loose,tbB 24 25 n1.t,tmB n1.t.tried,hpB 26 n1.t.due n1.t.c.room,alRs n1.t.due,rqB n1]++[sRs [m.k.pub]]):=by
 have hc:m.conf=⟨2,m.c.room,m.c.every,m.c.gossip,m.c.retry⟩:=by unfold Ms.conf; rw [hn]
 rw [hc]
 refine fn Tryz.func25 ?_
 conv=>whnf
 refine ckQ (lpub_ok m.k) [] ?_
 conv=>whnf
 refine ⟨rfl,?_⟩
 conv=>whnf
 rw [hn]
 exact kv [0,1,2,3,4,5,6,7,8,9,10,11,12,13,14,15,16,17,18,19,20,21,22,23,24,25,26,27,29]
theorem new_ok (hG:GSig G) (hS:GSha G) (hH:GHas G) (sec:Bs) (hs:sec.length=32):Tri Tryz.prog G 5 [.a (mcE (plain sec 3))] [] (.t [.p 0 0 0,i64 0]) (mH (Ms.new (plain sec 3)) (pl0 sec 3) (pl0 sec 3) (pl0 sec 3)):=by
 have e1:Ms.new (plain sec 3)={ c:=plain sec 3,k:=keyL sec,l:=[pl0 sec 3,pl0 sec 3,pl0 sec 3] }:=rfl
 have hcf:=conf_plain sec 3 (by decide) (by decide)
 have hpl:=pub_len sec
 have hln:=lnew_ok hG sec hs
 have hpl0:pl0 sec 3={ n:={ c:=⟨2,4,1,3,⟨2,8,0,3,2⟩⟩,key:=(keyL sec).pub,j:={ d:={ room:=100000 } },t:={ c:=⟨2,8,0,3,2⟩ } } }:=rfl
 rw [e1,hpl0]
 rw [e1] at hcf
 clear e1 hpl0
 generalize keyL sec=k at hcf hpl hln
 obtain ⟨nd,hnd⟩:∃ nd:Nd,nd={ c:=⟨2,4,1,3,⟨2,8,0,3,2⟩⟩,key:=k.pub,j:={ d:={ room:=100000 } },t:={ c:=⟨2,8,0,3,2⟩ } }:=⟨_,rfl⟩
 rw [← hnd]
 obtain ⟨m,hm⟩:∃ m:Ms,m={ c:=plain sec 3,k:=k }:=⟨_,rfl⟩
 have hmn:m.c.nodes=3:=by rw [hm]; rfl
 have hB:=nboot_ok hG hS hH ⟨2,4,1,3,⟨2,8,0,3,2⟩⟩ hcf k.pub hpl { room:=100000 } d0_w (by decide) (some nd) (by rw [boot0,hnd])
 refine fn Tryz.func5 ?_
 conv=>whnf
 refine clQ hln [] ?_
 conv=>whnf
 refine lu 4 ?_
 conv=>whnf
 refine cl (dnew_ok 100000 (by decide)) [] ?_
 conv=>whnf
 refine ckN (conf0_ok { c:=plain sec 3,k:=k }  rfl) [2] [sRs [k.pub]] ?_
 conv=>whnf
 refine ck hB [5,3,4] ?_
 conv=>whnf
 iterate 5 (first
  | (refine ⟨⟨rfl,rfl⟩,?_⟩; conv=>whnf)
  | (refine ⟨rfl,?_⟩; conv=>whnf)
  | (refine ⟨⟨by decide,by simp⟩,?_⟩; conv=>whnf)
  | (refine ⟨by simp,?_⟩; conv=>whnf)
  | skip)
 refine cl (dnew_ok 100000 (by decide)) [] ?_
 conv=>whnf
 refine ckN (conf1_ok { c:=plain sec 3,k:=k } nd rfl) [2,19,6,7,8,9,10,11,3,12,13,14,15,16,17] [sRs [k.pub]] ?_
 conv=>whnf
 refine ck hB [22,20,21] ?_
 conv=>whnf
 iterate 5 (first
  | (refine ⟨⟨rfl,rfl⟩,?_⟩; conv=>whnf)
  | (refine ⟨rfl,?_⟩; conv=>whnf)
  | (refine ⟨⟨by decide,by simp⟩,?_⟩; conv=>whnf)
  | (refine ⟨by simp,?_⟩; conv=>whnf)
  | skip)
 refine cl (dnew_ok 100000 (by decide)) [] ?_
 conv=>whnf
 refine ckN (conf2_ok { c:=plain sec 3,k:=k } nd nd rfl) [2,36,6,7,8,9,10,11,3,12,13,14,15,16,17,23,24,25,26,27,28,20,29,30,31,32,33,34] [sRs [k.pub]] ?_
 conv=>whnf
 refine ck hB [39,37,38] ?_
 conv=>whnf
 iterate 5 (first
  | (refine ⟨⟨rfl,rfl⟩,?_⟩; conv=>whnf)
  | (refine ⟨rfl,?_⟩; conv=>whnf)
  | (refine ⟨⟨by decide,by simp⟩,?_⟩; conv=>whnf)
  | (refine ⟨by simp,?_⟩; conv=>whnf)
  | skip)
 exact cv [2,53,300,6,7,8,9,10,11,3,12,13,14,15,16,17,301,23,24,25,26,27,28,20,29,30,31,32,33,34,302,40,41,42,43,44,45,37,46,47,48,49,50,51,303]
end Go.Proofs.YtdhgpocbcccieaaGreatDoor.M3
namespace Go.Proofs.YtdhgpocbcccieaaGreatDoor.M
open Go Go.RowKit Go.Proofs.YtdhgpocbcccieaaGreatDoor.E
variable {G:Gl}
theorem fsame_ok (a b:Fs) (hl:a.pend.length≤10000):Tri Tryz.prog G 12 [.a (fsE 0 a),.a (fsE 1 b)] [hdRs a.pend,hdRs b.pend] (bv (decide (a=b))) [hdRs a.pend,hdRs b.pend]:=by
 have e:decide (a=b)=((a.has==b.has)&&decide (a.fr=b.fr)&&decide (a.pend=b.pend)&&(a.bad==b.bad)):=by
  obtain ⟨a1,a2,a3,a4⟩:=a
  obtain ⟨b1,b2,b3,b4⟩:=b
  rw [Bool.eq_iff_iff]
  simp [and_assoc]
 rw [e]
 refine fn Tryz.func12 ?_
 conv=>whnf
 refine br_of (fun h => ?_) (fun h => ?_) <;> rw [h] <;> conv=>whnf
 rotate_left
 ·exact cv [0,1]
 refine ob_of _ (hd_eqE a.fr b.fr) ?_
 conv=>whnf
 refine br_of (fun h => ?_) (fun h => ?_) <;> rw [h] <;> conv=>whnf
 rotate_left
 ·exact cv [0,1]
 refine clQ (eqH_ok a.pend b.pend (by omega)) [0,1] ?_
 conv=>whnf
 refine br_of (fun h => ?_) (fun h => ?_) <;> rw [h] <;> conv=>whnf
 rotate_left
 ·exact cv [0,1]
 rw [eqL]
 exact cv [0,1]
end Go.Proofs.YtdhgpocbcccieaaGreatDoor.M
