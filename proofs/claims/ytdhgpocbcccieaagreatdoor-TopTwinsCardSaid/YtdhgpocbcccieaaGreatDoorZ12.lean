/- Part 12 of the proof: U2i U2j Ns Vf U3a U3b U3c U3f U3g U3d U3e. -/
import Derived.Test.YtdhgpocbcccieaaGreatDoorZ8
import Derived.Test.YtdhgpocbcccieaaGreatDoorZ9
import Derived.Test.YtdhgpocbcccieaaGreatDoorZ10
import Derived.Test.YtdhgpocbcccieaaGreatDoorZ11
set_option maxRecDepth 1000000
set_option maxHeartbeats 20000000
set_option linter.unusedVariables false
set_option linter.unusedSimpArgs false
namespace Go.Proofs.YtdhgpocbcccieaaGreatDoor.M2
open Go Go.RowKit Go.Proofs.YtdhgpocbcccieaaGreatDoor.E Go.Proofs.YtdhgpocbcccieaaGreatDoor.M
variable {G:Gl}
theorem conf0_ok (m:Ms)  (hn:m.c.nodes=2):Tri Tryz.prog G 25 [.p 0 0 0] [msN nl m] (.a (ncE 1 m.conf)) ([msN nl m]++[sRs [m.k.pub]]):=by
 have hc:m.conf=⟨1,m.c.room,m.c.every,m.c.gossip,m.c.retry⟩:=by unfold Ms.conf; rw [hn]
 rw [hc]
 refine fn Tryz.func25 ?_
 conv=>whnf
 refine ckQ (lpub_ok m.k) [] ?_
 conv=>whnf
 refine ⟨rfl,?_⟩
 conv=>whnf
 rw [hn]
 exact kv [0,2]
theorem conf1_ok (m:Ms) (n0:Nd) (hn:m.c.nodes=2):Tri Tryz.prog G 25 [.p 0 0 0] [msN (.s 1 0 1 false) m,.rv 87 [[.p 2 0 0,.p 8 0 0,nl]],ndB 3 4 6 10 14 n0,sRs [n0.key],wtB 5 n0,hdRs n0.s.pend,jnB 7 8 n0.j,sRs n0.j.l,dkB 9 n0.j.d,wrRs n0.j.d.loose,tbB 11 12 n0.t,tmB n0.t.tried,hpB 13 n0.t.due n0.t.c.room,alRs n0.t.due,rqB n0] (.a (ncE 15 m.conf)) ([msN (.s 1 0 1 false) m,.rv 87 [[.p 2 0 0,.p 8 0 0,nl]],ndB 3 4 6 10 14 n0,sRs [n0.key],wtB 5 n0,hdRs n0.s.pend,jnB 7 8 n0.j,sRs n0.j.l,dkB 9 n0.j.d,wrRs n0.j.d.loose,tbB 11 12 n0.t,tmB n0.t.tried,hpB 13 n0.t.due n0.t.c.room,alRs n0.t.due,rqB n0]++[sRs [m.k.pub]]):=by
 have hc:m.conf=⟨1,m.c.room,m.c.every,m.c.gossip,m.c.retry⟩:=by unfold Ms.conf; rw [hn]
 rw [hc]
 refine fn Tryz.func25 ?_
 conv=>whnf
 refine ckQ (lpub_ok m.k) [] ?_
 conv=>whnf
 refine ⟨rfl,?_⟩
 conv=>whnf
 rw [hn]
 exact kv [0,1,2,3,4,5,6,7,8,9,10,11,12,13,14,16]
theorem new_ok (hG:GSig G) (hS:GSha G) (hH:GHas G) (sec:Bs) (hs:sec.length=32):Tri Tryz.prog G 5 [.a (mcE (plain sec 2))] [] (.t [.p 0 0 0,i64 0]) (mH (Ms.new (plain sec 2)) (pl0 sec 2) (pl0 sec 2)):=by
 have e1:Ms.new (plain sec 2)={ c:=plain sec 2,k:=keyL sec,l:=[pl0 sec 2,pl0 sec 2] }:=rfl
 have hcf:=conf_plain sec 2 (by decide) (by decide)
 have hpl:=pub_len sec
 have hln:=lnew_ok hG sec hs
 have hpl0:pl0 sec 2={ n:={ c:=⟨1,4,1,3,⟨2,8,0,3,2⟩⟩,key:=(keyL sec).pub,j:={ d:={ room:=100000 } },t:={ c:=⟨2,8,0,3,2⟩ } } }:=rfl
 rw [e1,hpl0]
 rw [e1] at hcf
 clear e1 hpl0
 generalize keyL sec=k at hcf hpl hln
 obtain ⟨nd,hnd⟩:∃ nd:Nd,nd={ c:=⟨1,4,1,3,⟨2,8,0,3,2⟩⟩,key:=k.pub,j:={ d:={ room:=100000 } },t:={ c:=⟨2,8,0,3,2⟩ } }:=⟨_,rfl⟩
 rw [← hnd]
 obtain ⟨m,hm⟩:∃ m:Ms,m={ c:=plain sec 2,k:=k }:=⟨_,rfl⟩
 have hmn:m.c.nodes=2:=by rw [hm]; rfl
 have hB:=nboot_ok hG hS hH ⟨1,4,1,3,⟨2,8,0,3,2⟩⟩ hcf k.pub hpl { room:=100000 } d0_w (by decide) (some nd) (by rw [boot0,hnd])
 refine fn Tryz.func5 ?_
 conv=>whnf
 refine clQ hln [] ?_
 conv=>whnf
 refine lu 3 ?_
 conv=>whnf
 refine cl (dnew_ok 100000 (by decide)) [] ?_
 conv=>whnf
 refine ckN (conf0_ok { c:=plain sec 2,k:=k }  rfl) [2] [sRs [k.pub]] ?_
 conv=>whnf
 refine ck hB [5,3,4] ?_
 conv=>whnf
 iterate 5 (first
  | (refine ⟨⟨rfl,rfl⟩,?_⟩; conv=>whnf)
  | (refine ⟨rfl,?_⟩; conv=>whnf)
  | (refine ⟨⟨by decide,by simp⟩,?_⟩; conv=>whnf)
  | (refine ⟨by simp,?_⟩; conv=>whnf)
  | skip)
 refine cl (dnew_ok 100000 (by decide)) [] ?_
 conv=>whnf
 refine ckN (conf1_ok { c:=plain sec 2,k:=k } nd rfl) [2,19,6,7,8,9,10,11,3,12,13,14,15,16,17] [sRs [k.pub]] ?_
 conv=>whnf
 refine ck hB [22,20,21] ?_
 conv=>whnf
 iterate 5 (first
  | (refine ⟨⟨rfl,rfl⟩,?_⟩; conv=>whnf)
  | (refine ⟨rfl,?_⟩; conv=>whnf)
  | (refine ⟨⟨by decide,by simp⟩,?_⟩; conv=>whnf)
  | (refine ⟨by simp,?_⟩; conv=>whnf)
  | skip)
 exact cv [2,36,300,6,7,8,9,10,11,3,12,13,14,15,16,17,301,23,24,25,26,27,28,20,29,30,31,32,33,34,302]
theorem round_ok (hG:GSig G) (hS:GSha G) (hH:GHas G) (m:Ms) (q0 q1:Pl) (hm:m.l=[q0,q1]) (b:Nat) (hok:Ms.ok (b+300) m) (hb:b≤90000) (M:Ms) (p0 p1:Pl) (h:m.round=M) (hM:M.l=[p0,p1]):Tri Tryz.prog G 40 [.p 0 0 0] (mH m q0 q1) (.t []) (mP M p0 p1++mQ M p0 p1):=by
 obtain ⟨c,k,l,net,now⟩:=m
 obtain rfl:l=[q0,q1]:=hm
 have hgo:c.gossip<18446744073709551616:=by have:=hok.c.g2; have e:(Ms.mk c k [q0,q1] net now).conf.gossip=c.gossip:=rfl; omega
 unfold Ms.round at h
 rw [show List.range (Ms.mk c k [q0,q1] net now).l.length=[0,1] from rfl,ticksF_s,ticksF_s] at h
 refine fn Tryz.func40 ?_
 conv=>whnf
 refine lu 3 ?_
 conv=>whnf
 have k0:=hok.tickR (b:=b+299) (by omega) (i:=0) (by show 0<2; decide)
 obtain ⟨o1,o2,o3, -, -⟩:=hok.n q0 (by simp)
 have w0:=hok.now
 have t0:=o1.tick (by omega) (addL now c.gossip) 0
 have e0:tickR (Ms.mk c k [q0,q1] net now) 0=Ms.mk c k [{ q0 with n:=(q0.n.tick (addL now c.gossip) 0).1 },q1] (sndN 0 net (q0.n.tick (addL now c.gossip) 0).2) (addL now c.gossip):=rfl
 rw [e0] at h k0
 have hq0:=ntick_ok (G:=G) hS hH q0.n o1 (by omega) (addL now c.gossip) 0 addL_lt (by decide)
 have ha0:=add_ok (G:=G) now c.gossip w0 hgo
 generalize addL now c.gossip=nw0 at *
 clear hok
 refine ckQ ha0 [] ?_
 conv=>whnf
 refine ⟨rfl,?_⟩
 conv=>whnf
 refine ⟨⟨of_decide_eq_true rfl,of_decide_eq_true rfl⟩,?_⟩
 conv=>whnf
 refine ck hq0 [3,4,5,6,7,8,9,10,11,12,13,14,15] ?_
 generalize (q0.n.tick nw0 0).1=n0 at *
 generalize (q0.n.tick nw0 0).2=out0 at *
 conv=>whnf
 refine ck (send_ok (Ms.mk c k [({ q0 with n:=n0 }:Pl),q1] net nw0) ({ q0 with n:=n0 }:Pl) q1 0 out0 (by omega)) [0,1,2,3,4,5,31,7,32,9,33,11,12,13,34,15,16,17,18,19,20,21,22,23,24,25,26,27,28,29,30,35] ?_
 conv=>whnf
 refine ⟨rfl,?_⟩
 conv=>whnf
 have hok:=k0
 clear k0 e0 t0
 have k1:=hok.tickR (b:=b+298) (by omega) (i:=1) (by show 1<2; decide)
 obtain ⟨o1,o2,o3, -, -⟩:=hok.n q1 (by simp)
 have w1:=hok.now
 have t1:=o1.tick (by omega) (addL nw0 c.gossip) 0
 have e1:tickR (Ms.mk c k [({ q0 with n:=n0 }:Pl),q1] (sndN 0 net out0) nw0) 1=Ms.mk c k [({ q0 with n:=n0 }:Pl),{ q1 with n:=(q1.n.tick (addL nw0 c.gossip) 0).1 }] (sndN 1 (sndN 0 net out0) (q1.n.tick (addL nw0 c.gossip) 0).2) (addL nw0 c.gossip):=rfl
 rw [e1] at h k1
 have hq1:=ntick_ok (G:=G) hS hH q1.n o1 (by omega) (addL nw0 c.gossip) 0 addL_lt (by decide)
 have ha1:=add_ok (G:=G) nw0 c.gossip w1 hgo
 generalize addL nw0 c.gossip=nw1 at *
 clear hok
 refine ckQ ha1 [] ?_
 conv=>whnf
 refine ⟨rfl,?_⟩
 conv=>whnf
 refine ⟨⟨of_decide_eq_true rfl,of_decide_eq_true rfl⟩,?_⟩
 conv=>whnf
 refine ck hq1 [17,18,19,20,21,22,23,24,25,26,27,28,29] ?_
 generalize (q1.n.tick nw1 0).1=n1 at *
 generalize (q1.n.tick nw1 0).2=out1 at *
 conv=>whnf
 refine ck (send_ok (Ms.mk c k [({ q0 with n:=n0 }:Pl),({ q1 with n:=n1 }:Pl)] (sndN 0 net out0) nw1) ({ q0 with n:=n0 }:Pl) ({ q1 with n:=n1 }:Pl) 1 out1 (by omega)) [0,1,36,3,4,5,31,7,32,9,33,11,12,13,34,15,16,17,18,19,37,21,38,23,39,25,26,27,40,29,30,41] ?_
 conv=>whnf
 refine ⟨rfl,?_⟩
 conv=>whnf
 have hok:=k1
 clear k1 e1 t1
 generalize hM1:Ms.mk c k [({ q0 with n:=n0 }:Pl),({ q1 with n:=n1 }:Pl)] (sndN 1 (sndN 0 net out0) out1) nw1=m1 at h hok
 obtain ⟨mr,hmr⟩:∃ mr,Ms.movesF 200 m1=mr:=⟨_,rfl⟩
 have h:mr=M:=hmr.symm.trans h
 rw [h] at hmr
 refine lp2 (fun (i:Nat) (m:Ms)=>([(0,.p 0 0 0),(41,i64 (i:Nat))],mP m (m.at_ 0) (m.at_ 1)++mQ m (m.at_ 0) (m.at_ 1))) (fun i m=>(i≤200∧m.l.length=2)∧Ms.ok (b+(201-i)) m∧Ms.movesF (200-i) m=M) (fun i _=>200-i) 0 m1 ⟨⟨by omega,by rw [← hM1]; rfl⟩,hok.mono (by omega),hmr⟩ (by subst hM1; exact kv [0,1,2,3,4,5,6,7,8,9,10,11,12,13,14,15,16,17,18,19,20,21,22,23,24,25,26,27,28,29,30,42,3,4,5,31,7,32,33,11,12,13,34,15,16,17,18,19,37,21,38,39,25,26,27,40,29,30]) fun i m ⟨⟨hi,hml⟩,hok,hx⟩ => ?_
 conv=>whnf
 refine br_of (fun h1 => ?_) (fun h1 => ?_) <;> conv=>whnf
 rotate_left
 ·have h1:i=200:=by have:=of_decide_eq_false h1; omega
  subst h1
  have hx:m=M:=hx
  subst hx
  have a0:m.at_ 0=p0:=by unfold Ms.at_; rw [hM]; rfl
  have a1:m.at_ 1=p1:=by unfold Ms.at_; rw [hM]; rfl
  rw [a0,a1]
  exact kv [0,1,2,3,4,5,6,7,8,9,10,11,12,13,14,15,16,17,18,19,20,21,22,23,24,25,26,27,28,29,30,31,32,33,34,35,36,37,38,39,40,41,42,43,44,45,46,47,48,49,50,51,52,53,54,55,56,57]
 have h1:i<200:=by have:=of_decide_eq_true h1; omega
 have hl:m.l=[m.at_ 0,m.at_ 1]:=two_of hml
 have hok2:Ms.ok (b+(200-i)+1) m:=by rwa [show b+(200-i)+1=b+(201-i) by omega]
 have hok3:=hok2.moved (by omega) dlv (Int.le_refl 0)
 have hl3:=(moved_len (m:=m) dlv).trans hml
 have ha:=movesF_a (k:=199-i) (m:=m)
 have hb2:=movesF_b (k:=199-i) (m:=m)
 rw [show 199-i+1=200-i by omega,hx] at ha hb2
 obtain ⟨M2,e2,hmv⟩:∃ M2 e2,m.moved dlv=(M2,e2):=⟨_,_,rfl⟩
 rw [hmv] at hok3 hl3 ha hb2
 have hl4:M2.l=[M2.at_ 0,M2.at_ 1]:=two_of hl3
 refine ck (moved_ok hG hS hH m (m.at_ 0) (m.at_ 1) hl (b+(200-i)) hok2 dlv (Int.le_refl 0) M2 e2 (M2.at_ 0) (M2.at_ 1) hmv hl4) [0,1,31,32,33,34,35,36,37,9,38,39,40,41,42,43,44,45,46,47,48,49,50,23,51,52,53,54,55,56,57] ?_
 conv=>whnf
 refine br_of (fun h2 => ?_) (fun h2 => ?_) <;> conv=>whnf
 ·obtain rfl:M=M2:=ha (bne_iff_ne.1 h2)
  have a0:M.at_ 0=p0:=by unfold Ms.at_; rw [hM]; rfl
  have a1:M.at_ 1=p1:=by unfold Ms.at_; rw [hM]; rfl
  rw [a0,a1]
  exact kv [0,1,2,3,4,5,6,7,8,9,10,11,12,13,14,15,16,17,18,19,20,21,22,23,24,25,26,27,28,29,30,58,59,60,61,62,63,64,65,66,67,68,69,70,71,72,73,74,75,76,77,78,79,80,81,82,83,84]
 ·have e0:e2=0:=by simpa using h2
  have hb2:=hb2 e0
  rw [wI64 (n:=(i:Int)+1) (by omega) (by omega)]
  exact ⟨(i+1,M2),⟨⟨⟨h1,hl3⟩,by rwa [show b+(201-(i+1))=b+(200-i) by omega],by rw [show 200-(i+1)=199-i by omega]; exact hb2.symm⟩,by show 200-(i+1)<200-i; omega⟩,kv [0,1,2,3,4,5,6,7,8,9,10,11,12,13,14,15,16,17,18,19,20,21,22,23,24,25,26,27,28,29,30,58,59,60,61,62,63,64,65,66,67,68,69,70,71,72,73,74,75,76,77,78,79,80,81,82,83,84]⟩
end Go.Proofs.YtdhgpocbcccieaaGreatDoor.M2
namespace Go.Proofs.YtdhgpocbcccieaaGreatDoor.M
open Go Go.RowKit Go.Proofs.YtdhgpocbcccieaaGreatDoor.E
variable {G:Gl}
theorem nhas_ok (n:Nd):Tri Tryz.prog G 37 [.p 0 0 0,i64 0] (ndH n) (bv true) (ndH n):=by
 refine fn Tryz.func37 ?_
 conv=>whnf
 exact cv [0,1,2,3,4,5,6,7,8,9,10,11,12]
theorem nstate_ok (n:Nd) (hp:n.s.pend.length≤1000000):Tri Tryz.prog G 13 [.p 0 0 0,i64 0] (ndH n) (.a (fsE 13 n.s)) (ndH n++[hdRs n.s.pend]):=by
 refine fn Tryz.func13 ?_
 conv=>whnf
 refine clQ (nhas_ok n) [0,1,2,3,4,5,6,7,8,9,10,11,12] ?_
 conv=>whnf
 refine ⟨by decide,?_⟩
 conv=>whnf
 refine clN (cloneH_ok n.s.pend hp) [3] [hdRs n.s.pend] ?_
 conv=>whnf
 exact cv [0,1,2,3,4,5,6,7,8,9,10,11,12,15]
end Go.Proofs.YtdhgpocbcccieaaGreatDoor.M
namespace Go.Proofs.YtdhgpocbcccieaaGreatDoor.M2
open Go Go.RowKit Go.Proofs.YtdhgpocbcccieaaGreatDoor.E Go.Proofs.YtdhgpocbcccieaaGreatDoor.M
variable {G:Gl}
def rndF:Nat→Ms→Ms
 | 0,m=>m
 | k+1,m=>rndF k m.round
theorem fixed_ok (hG:GSig G) (hS:GSha G) (hH:GHas G):Tri Tryz.prog G 16 [] [] (bv fixedL) []:=by
 have hp:=plain_ok (G:=G) hS [116,111,112] 2 (by decide)
 rw [show ([116,111,112]:Bs).take 100=[116,111,112] from rfl,ref_top] at hp
 have hs:(shaL [116,111,112]).length=32:=shaL_len _
 have hn:=new_ok hG hS hH (shaL [116,111,112]) hs
 have hok:=new_inv (shaL [116,111,112]) 2 (by decide) (by decide)
 have hl:(Ms.new (plain (shaL [116,111,112]) 2)).l=[pl0 (shaL [116,111,112]) 2,pl0 (shaL [116,111,112]) 2]:=rfl
 obtain ⟨fl,hfl⟩:∃ fl,fixedL=fl:=⟨_,rfl⟩
 rw [hfl]
 unfold fixedL at hfl
 simp only at hfl
 generalize Ms.new (plain (shaL [116,111,112]) 2)=m at *
 generalize pl0 (shaL [116,111,112]) 2=q at *
 generalize plain (shaL [116,111,112]) 2=cc at *
 clear hs
 refine fn Tryz.func16 ?_
 conv=>whnf
 refine ckQ hp [] ?_
 conv=>whnf
 refine ck hn [] ?_
 conv=>whnf
 have h1:=hok.act (b:=99999) (by omega) ⟨5,0,0,0,[97]⟩
 have l1:(m.act ⟨5,0,0,0,[97]⟩).1.l.length=2:=(act_len _).trans (by rw [hl]; rfl)
 obtain ⟨m1,e1,hm1⟩:∃ m1 e1,m.act ⟨5,0,0,0,[97]⟩=(m1,e1):=⟨_,_,rfl⟩
 rw [hm1] at h1 l1 hfl
 refine ck (do_ok hG hS hH m q q hl 99999 hok ⟨5,0,0,0,[97]⟩ m1 e1 (m1.at_ 0) (m1.at_ 1) hm1 (two_of l1)) [0,1,2,3,4,5,6,7,8,9,10,11,12,13,14,15,16,17,18,19,20,21,22,23,24,25,26,27,28,29,30] ?_
 conv=>whnf
 have h2:=h1.act (b:=99998) (by omega) ⟨5,1,0,0,[98]⟩
 have l2:(m1.act ⟨5,1,0,0,[98]⟩).1.l.length=2:=(act_len _).trans l1
 obtain ⟨m2,e2,hm2⟩:∃ m2 e2,m1.act ⟨5,1,0,0,[98]⟩=(m2,e2):=⟨_,_,rfl⟩
 have hfl:(Bd.check m2.round.round.round.round.k.pub (m2.round.round.round.round.at_ 0).n.s.bad&&Bd.check m2.round.round.round.round.k.pub (m2.round.round.round.round.at_ 1).n.s.bad&&m2.round.round.round.round.net.length==0)=fl:=by rw [← hfl,hm2]
 rw [hm2] at h2 l2
 refine ck (do_ok hG hS hH m1 (m1.at_ 0) (m1.at_ 1) (two_of l1) 99998 h1 ⟨5,1,0,0,[98]⟩ m2 e2 (m2.at_ 0) (m2.at_ 1) hm2 (two_of l2)) [0,1,31,32,33,34,35,36,37,9,38,39,40,41,42,43,44,45,46,47,48,49,50,23,51,52,53,54,55,56,57] ?_
 conv=>whnf
 clear hok h1 hp hn
 obtain ⟨mf,hmf⟩:∃ mf,m2.round.round.round.round=mf:=⟨_,rfl⟩
 rw [hmf] at hfl
 refine lp2 (fun (i:Nat) (m:Ms)=>([(0,bv false),(1,.p 0 0 0),(3,i64 (i:Nat))],mP m (m.at_ 0) (m.at_ 1)++mQ m (m.at_ 0) (m.at_ 1))) (fun i m=>(i≤4∧m.l.length=2)∧Ms.ok (80000+(4-i)*300) m∧rndF (4-i) m=mf) (fun i _=>4-i) 0 m2 ⟨⟨by omega,l2⟩,h2.mono (by omega),hmf⟩ (kv [0,1,2,3,4,5,6,7,8,9,10,11,12,13,14,15,16,17,18,19,20,21,22,23,24,25,26,27,28,29,30,58,59,60,61,62,63,64,65,66,67,68,69,70,71,72,73,74,75,76,77,78,79,80,81,82,83,84]) fun i m ⟨⟨hi,hml⟩,hok,hx⟩ => ?_
 conv=>whnf
 refine br_of (fun h1 => ?_) (fun h1 => ?_) <;> conv=>whnf
 rotate_left
 ·have h1:i=4:=by have:=of_decide_eq_false h1; omega
  subst h1
  have hx:m=mf:=hx
  subst hx
  clear hmf h2
  refine ckQ (node0_ok m (m.at_ 0) (m.at_ 1)) [0,1,31,32,33,34,35,36,37,9,38,39,40,41,42,43,44,45,46,47,48,49,50,23,51,52,53,54,55,56,57] ?_
  conv=>whnf
  refine ckQ (node1_ok m (m.at_ 0) (m.at_ 1)) [0,1,31,32,33,34,35,36,37,9,38,39,40,41,42,43,44,45,46,47,48,49,50,23,51,52,53,54,55,56,57] ?_
  conv=>whnf
  have hml2:=two_of hml
  obtain ⟨a1, -, -, -, -⟩:=hok.n _ (at_mem (i:=0) (by omega))
  obtain ⟨b1', -, -, -, -⟩:=hok.n _ (at_mem (i:=1) (by omega))
  have hkp:m.k.pub.length≤10000:=by rw [hok.kp]; decide
  have c0:=bcheck_ok (G:=G) hG hS m.k.pub (m.at_ 0).n.s.bad hkp
  have c1:=bcheck_ok (G:=G) hG hS m.k.pub (m.at_ 1).n.s.bad hkp
  refine ckQ (public_ok m (m.at_ 0) (m.at_ 1)) [0,1,31,32,33,34,35,36,37,9,38,39,40,41,42,43,44,45,46,47,48,49,50,23,51,52,53,54,55,56,57] ?_
  conv=>whnf
  refine ckQ (node0_ok m (m.at_ 0) (m.at_ 1)) [0,1,31,32,33,34,35,36,37,9,38,39,40,41,42,43,44,45,46,47,48,49,50,23,51,52,53,54,55,56,57] ?_
  conv=>whnf
  refine ckN (nstate_ok (m.at_ 0).n (by have:=a1.p.1; have:=a1.c.r2; omega)) [32,33,34,35,36,37,9,38,39,40,41,42,43] [hdRs (m.at_ 0).n.s.pend] ?_
  conv=>whnf
  generalize Bd.check m.k.pub (m.at_ 0).n.s.bad=b0 at *
  generalize Bd.check m.k.pub (m.at_ 1).n.s.bad=b1 at *
  refine ckQ c0 [] ?_
  conv=>whnf
  cases b0 with
  | false =>
   obtain rfl:false=fl:=hfl
   conv=>whnf
   exact kv []
  | true =>
   conv=>whnf
   refine ckQ (public_ok m (m.at_ 0) (m.at_ 1)) [0,1,31,32,33,34,35,36,37,9,38,39,40,41,42,43,44,45,46,47,48,49,50,23,51,52,53,54,55,56,57] ?_
   conv=>whnf
   refine ckQ (node1_ok m (m.at_ 0) (m.at_ 1)) [0,1,31,32,33,34,35,36,37,9,38,39,40,41,42,43,44,45,46,47,48,49,50,23,51,52,53,54,55,56,57] ?_
   conv=>whnf
   refine ckN (nstate_ok (m.at_ 1).n (by have:=b1'.p.1; have:=b1'.c.r2; omega)) [45,46,47,48,49,50,23,51,52,53,54,55,56] [hdRs (m.at_ 1).n.s.pend] ?_
   conv=>whnf
   refine ckQ c1 [] ?_
   conv=>whnf
   cases b1 with
   | false =>
    obtain rfl:false=fl:=hfl
    conv=>whnf
    exact kv []
   | true =>
    have hfl:(m.net.length==0)=fl:=hfl
    conv=>whnf
    refine ckN (net_ok m (m.at_ 0) (m.at_ 1) hok.net) [0,1,31,32,33,34,35,36,37,9,38,39,40,41,42,43,44,45,46,47,48,49,50,23,51,52,53,54,55,56,57] [pkRs m.net] ?_
    conv=>whnf
    rw [show (((m.net.length:Nat):Int)==0)=fl from by rw [← hfl]; cases m.net <;> rfl]
    exact kv []
 have h1:i<4:=by have:=of_decide_eq_true h1; omega
 have hok2:Ms.ok (80000+(3-i)*300+300) m:=by rwa [show 80000+(3-i)*300+300=80000+(4-i)*300 by omega]
 obtain ⟨i1,i2⟩:=round_inv hok2 (by omega)
 have hr:=round_ok hG hS hH m (m.at_ 0) (m.at_ 1) (two_of hml) _ hok2 (by omega) m.round (m.round.at_ 0) (m.round.at_ 1) rfl (two_of (i2.trans hml))
 have hx2:rndF (3-i) m.round=mf:=by rw [← hx,show 4-i=3-i+1 by omega]; rfl
 generalize m.round=M at *
 refine ck hr [0,1,31,32,33,34,35,36,37,9,38,39,40,41,42,43,44,45,46,47,48,49,50,23,51,52,53,54,55,56,57] ?_
 conv=>whnf
 rw [wI64 (n:=(i:Int)+1) (by omega) (by omega)]
 exact ⟨(i+1,M),⟨⟨⟨h1,i2.trans hml⟩,by rwa [show 4-(i+1)=3-i by omega],by rw [show 4-(i+1)=3-i by omega]; exact hx2⟩,by show 4-(i+1)<4-i; omega⟩,kv [0,1,2,3,4,5,6,7,8,9,10,11,12,13,14,15,16,17,18,19,20,21,22,23,24,25,26,27,28,29,30,58,59,60,61,62,63,64,65,66,67,68,69,70,71,72,73,74,75,76,77,78,79,80,81,82,83,84]⟩
end Go.Proofs.YtdhgpocbcccieaaGreatDoor.M2
namespace Go.Proofs.YtdhgpocbcccieaaGreatDoor.M3
open Go Go.RowKit Go.Proofs.YtdhgpocbcccieaaGreatDoor.E Go.Proofs.YtdhgpocbcccieaaGreatDoor.M
variable {G:Gl}
abbrev mH (m:Ms) (q0 q1 q2:Pl):List EB:=[msB 2 3 m,.rv 87 [[.p 3 0 0,.p 9 0 0,.s 16 0 q0.view.length false],[.p 17 0 0,.p 23 0 0,.s 30 0 q1.view.length false],[.p 31 0 0,.p 37 0 0,.s 44 0 q2.view.length false]],pkRs m.net,ndB 4 5 7 11 15 q0.n,sRs [q0.n.key],wtB 6 q0.n,hdRs q0.n.s.pend,jnB 8 9 q0.n.j,sRs q0.n.j.l,dkB 10 q0.n.j.d,wrRs q0.n.j.d.loose,tbB 12 13 q0.n.t,tmB q0.n.t.tried,hpB 14 q0.n.t.due q0.n.t.c.room,alRs q0.n.t.due,rqB q0.n,sRs q0.view,ndB 18 19 21 25 29 q1.n,sRs [q1.n.key],wtB 20 q1.n,hdRs q1.n.s.pend,jnB 22 23 q1.n.j,sRs q1.n.j.l,dkB 24 q1.n.j.d,wrRs q1.n.j.d.loose,tbB 26 27 q1.n.t,tmB q1.n.t.tried,hpB 28 q1.n.t.due q1.n.t.c.room,alRs q1.n.t.due,rqB q1.n,sRs q1.view,ndB 32 33 35 39 43 q2.n,sRs [q2.n.key],wtB 34 q2.n,hdRs q2.n.s.pend,jnB 36 37 q2.n.j,sRs q2.n.j.l,dkB 38 q2.n.j.d,wrRs q2.n.j.d.loose,tbB 40 41 q2.n.t,tmB q2.n.t.tried,hpB 42 q2.n.t.due q2.n.t.c.room,alRs q2.n.t.due,rqB q2.n,sRs q2.view]
abbrev mN (c:Nat) (m:Ms) (q0 q1 q2:Pl):List EB:=[msB c 3 m,.rv 87 [[.p 3 0 0,.p 9 0 0,.s 16 0 q0.view.length false],[.p 17 0 0,.p 23 0 0,.s 30 0 q1.view.length false],[.p 31 0 0,.p 37 0 0,.s 44 0 q2.view.length false]],.g,ndB 4 5 7 11 15 q0.n,sRs [q0.n.key],wtB 6 q0.n,hdRs q0.n.s.pend,jnB 8 9 q0.n.j,sRs q0.n.j.l,dkB 10 q0.n.j.d,wrRs q0.n.j.d.loose,tbB 12 13 q0.n.t,tmB q0.n.t.tried,hpB 14 q0.n.t.due q0.n.t.c.room,alRs q0.n.t.due,rqB q0.n,sRs q0.view,ndB 18 19 21 25 29 q1.n,sRs [q1.n.key],wtB 20 q1.n,hdRs q1.n.s.pend,jnB 22 23 q1.n.j,sRs q1.n.j.l,dkB 24 q1.n.j.d,wrRs q1.n.j.d.loose,tbB 26 27 q1.n.t,tmB q1.n.t.tried,hpB 28 q1.n.t.due q1.n.t.c.room,alRs q1.n.t.due,rqB q1.n,sRs q1.view,ndB 32 33 35 39 43 q2.n,sRs [q2.n.key],wtB 34 q2.n,hdRs q2.n.s.pend,jnB 36 37 q2.n.j,sRs q2.n.j.l,dkB 38 q2.n.j.d,wrRs q2.n.j.d.loose,tbB 40 41 q2.n.t,tmB q2.n.t.tried,hpB 42 q2.n.t.due q2.n.t.c.room,alRs q2.n.t.due,rqB q2.n,sRs q2.view]
abbrev mP (m:Ms) (q0 q1 q2:Pl):List EB:=[msB 45 3 m,.rv 87 [[.p 46 0 0,.p 9 0 0,.s 58 0 q0.view.length false],[.p 59 0 0,.p 23 0 0,.s 71 0 q1.view.length false],[.p 72 0 0,.p 37 0 0,.s 84 0 q2.view.length false]],.g,.g,.g,.g,.g,.g,.g,dkB 52 q0.n.j.d,.g,.g,.g,.g,.g,.g,.g,.g,.g,.g,.g,.g,.g,dkB 65 q1.n.j.d,.g,.g,.g,.g,.g,.g,.g,.g,.g,.g,.g,.g,.g,dkB 78 q2.n.j.d,.g,.g,.g,.g,.g,.g,.g]
abbrev mQ (m:Ms) (q0 q1 q2:Pl):List EB:=[pkRs m.net,ndB 47 48 50 53 57 q0.n,sRs [q0.n.key],wtB 49 q0.n,hdRs q0.n.s.pend,jnB 51 9 q0.n.j,sRs q0.n.j.l,wrRs q0.n.j.d.loose,tbB 54 55 q0.n.t,tmB q0.n.t.tried,hpB 56 q0.n.t.due q0.n.t.c.room,alRs q0.n.t.due,rqB q0.n,sRs q0.view,ndB 60 61 63 66 70 q1.n,sRs [q1.n.key],wtB 62 q1.n,hdRs q1.n.s.pend,jnB 64 23 q1.n.j,sRs q1.n.j.l,wrRs q1.n.j.d.loose,tbB 67 68 q1.n.t,tmB q1.n.t.tried,hpB 69 q1.n.t.due q1.n.t.c.room,alRs q1.n.t.due,rqB q1.n,sRs q1.view,ndB 73 74 76 79 83 q2.n,sRs [q2.n.key],wtB 75 q2.n,hdRs q2.n.s.pend,jnB 77 37 q2.n.j,sRs q2.n.j.l,wrRs q2.n.j.d.loose,tbB 80 81 q2.n.t,tmB q2.n.t.tried,hpB 82 q2.n.t.due q2.n.t.c.room,alRs q2.n.t.due,rqB q2.n,sRs q2.view]
theorem has_ok (m:Ms) (q0 q1 q2:Pl) (i:Int):Tri Tryz.prog G 35 [.p 0 0 0,i64 i] (mH m q0 q1 q2) (bv (decide (i≥0)&&decide (i<3))) (mH m q0 q1 q2):=by
 refine fn Tryz.func35 ?_
 conv=>whnf
 refine br_of (fun h => ?_) (fun h => ?_) <;> rw [h] <;> conv=>whnf
 ·exact kv [0,1,2,3,4,5,6,7,8,9,10,11,12,13,14,15,16,17,18,19,20,21,22,23,24,25,26,27,28,29,30,31,32,33,34,35,36,37,38,39,40,41,42,43,44]
 ·exact kv [0,1,2,3,4,5,6,7,8,9,10,11,12,13,14,15,16,17,18,19,20,21,22,23,24,25,26,27,28,29,30,31,32,33,34,35,36,37,38,39,40,41,42,43,44]
theorem put_ok (m:Ms) (q0 q1 q2:Pl) (p:Pk):Tri Tryz.prog G 74 [.p 0 0 0,.a (pkE p)] (mH m q0 q1 q2) (i64 (putE m.net)) (mN 45 { m with net:=putN m.net p } q0 q1 q2++[pkRs (putN m.net p)]):=by
 have ha:=putN_a (net:=m.net) (p:=p)
 have hb:=putN_b (net:=m.net) (p:=p)
 refine fn Tryz.func74 ?_
 conv=>whnf
 refine br_of (fun h => ?_) (fun h => ?_) <;> conv=>whnf
 ·have h:64≤m.net.length:=by have:=of_decide_eq_true h; omega
  rw [ha h,show putE m.net=8 from if_pos h]
  exact kv [0,1,2,3,4,5,6,7,8,9,10,11,12,13,14,15,16,17,18,19,20,21,22,23,24,25,26,27,28,29,30,31,32,33,34,35,36,37,38,39,40,41,42,43,44,2]
 ·have h:¬ 64≤m.net.length:=by have:=of_decide_eq_false h; omega
  rw [hb h,show putE m.net=0 from if_neg h]
  refine ⟨⟨rfl,rfl⟩,?_⟩
  conv=>whnf
  refine ⟨by simp,?_⟩
  conv=>whnf
  refine ⟨⟨by omega,by simp⟩,?_⟩
  conv=>whnf
  refine ⟨rfl,?_⟩
  conv=>whnf
  rw [show (m.net.map pkE++[[i64 p.frm,i64 p.dst,sv p.s]])=(m.net++[p]).map pkE from by simp,show m.net.length+1=(m.net++[p]).length from by simp]
  exact kv [0,1,2,3,4,5,6,7,8,9,10,11,12,13,14,15,16,17,18,19,20,21,22,23,24,25,26,27,28,29,30,31,32,33,34,35,36,37,38,39,40,41,42,43,44,47]
theorem send_ok (m:Ms) (q0 q1 q2:Pl) (i:Nat) (out:List Sd) (ho:out.length≤100000):Tri Tryz.prog G 72 [.p 0 0 0,i64 (i:Nat),.s 45 0 out.length false] (mH m q0 q1 q2++[sdRs out]) (.t []) (mN 46 { m with net:=sndN i m.net out } q0 q1 q2++[sdRs out,pkRs (sndN i m.net out)]):=by
 refine fn Tryz.func72 ?_
 conv=>whnf
 refine lp2 (fun (j:Nat) (nt:List Pk)=>([(0,.p 0 0 0),(1,i64 (i:Nat)),(9,.s 45 0 out.length false),(10,i64 (out.length:Nat)),(11,i64 (j:Nat))],mN 46 { m with net:=nt } q0 q1 q2++[sdRs out,pkRs nt])) (fun j nt=>j≤out.length∧sndN i nt (out.drop j)=sndN i m.net out) (fun j _=>out.length-j) 0 m.net ⟨Nat.zero_le _,rfl⟩ (kv [0,1,2,3,4,5,6,7,8,9,10,11,12,13,14,15,16,17,18,19,20,21,22,23,24,25,26,27,28,29,30,31,32,33,34,35,36,37,38,39,40,41,42,43,44,45,2]) fun j nt ⟨hj,hx⟩ => ?_
 conv=>whnf
 refine br_of (fun h1 => ?_) (fun h1 => ?_) <;> conv=>whnf
 rotate_left
 ·have h1:j=out.length:=by have:=of_decide_eq_false h1; omega
  subst h1
  rw [List.drop_length] at hx
  have hx:nt=sndN i m.net out:=hx
  rw [← hx]
  exact kv [0,1,2,3,4,5,6,7,8,9,10,11,12,13,14,15,16,17,18,19,20,21,22,23,24,25,26,27,28,29,30,31,32,33,34,35,36,37,38,39,40,41,42,43,44,45,46]
 have h1:j<out.length:=by have:=of_decide_eq_true h1; omega
 rw [List.drop_eq_getElem_cons h1] at hx
 refine ⟨by omega,?_⟩
 conv=>whnf
 refine ob_of (sdE out[j]) (by simp [h1]) ?_
 conv=>whnf
 generalize out[j]=x at hx
 have hx:sndN i (sndX i nt x) (out.drop (j+1))=sndN i m.net out:=hx
 have hw:IntKind.i64.wrap ((j:Int)+1)=((j+1:Nat):Int):=wI64 (n:=(j:Int)+1) (by omega) (by omega)
 refine br_of (fun h2 => ?_) (fun h2 => ?_) <;> conv=>whnf
 ·rw [show sndX i nt x=putN nt ⟨i,i64w (x.1+1),x.2⟩ from if_pos (of_decide_eq_true h2)] at hx
  refine ck (put_ok { m with net:=nt } q0 q1 q2 ⟨i,i64w (x.1+1),x.2⟩) [0,1,46,3,4,5,6,7,8,9,10,11,12,13,14,15,16,17,18,19,20,21,22,23,24,25,26,27,28,29,30,31,32,33,34,35,36,37,38,39,40,41,42,43,44] ?_
  conv=>whnf
  rw [hw]
  exact ⟨(j+1,_),⟨⟨h1,hx⟩,by show out.length-(j+1)<out.length-j; omega⟩,kv [0,1,2,3,4,5,6,7,8,9,10,11,12,13,14,15,16,17,18,19,20,21,22,23,24,25,26,27,28,29,30,31,32,33,34,35,36,37,38,39,40,41,42,43,44,45,48]⟩
 refine br_of (fun h3 => ?_) (fun h3 => ?_) <;> conv=>whnf
 ·rw [show sndX i nt x=nt from by unfold sndX; rw [if_neg (of_decide_eq_false h2),if_pos (of_decide_eq_true h3)]] at hx
  rw [hw]
  exact ⟨(j+1,_),⟨⟨h1,hx⟩,by show out.length-(j+1)<out.length-j; omega⟩,kv [0,1,2,3,4,5,6,7,8,9,10,11,12,13,14,15,16,17,18,19,20,21,22,23,24,25,26,27,28,29,30,31,32,33,34,35,36,37,38,39,40,41,42,43,44,45,46]⟩
 ·rw [show sndX i nt x=putN nt ⟨i,x.1,x.2⟩ from by unfold sndX; rw [if_neg (of_decide_eq_false h2),if_neg (of_decide_eq_false h3)]] at hx
  refine ck (put_ok { m with net:=nt } q0 q1 q2 ⟨i,x.1,x.2⟩) [0,1,46,3,4,5,6,7,8,9,10,11,12,13,14,15,16,17,18,19,20,21,22,23,24,25,26,27,28,29,30,31,32,33,34,35,36,37,38,39,40,41,42,43,44] ?_
  conv=>whnf
  rw [hw]
  exact ⟨(j+1,_),⟨⟨h1,hx⟩,by show out.length-(j+1)<out.length-j; omega⟩,kv [0,1,2,3,4,5,6,7,8,9,10,11,12,13,14,15,16,17,18,19,20,21,22,23,24,25,26,27,28,29,30,31,32,33,34,35,36,37,38,39,40,41,42,43,44,45,48]⟩
theorem net_ok (m:Ms) (q0 q1 q2:Pl) (hl:m.net.length≤64):Tri Tryz.prog G 9 [.p 0 0 0] (mH m q0 q1 q2) (.s 45 0 m.net.length false) (mH m q0 q1 q2++[pkRs m.net]):=by
 refine fn Tryz.func9 ?_
 conv=>whnf
 refine ck (cloneP_ok m.net (by omega)) [2] ?_
 conv=>whnf
 exact kv [0,1,2,3,4,5,6,7,8,9,10,11,12,13,14,15,16,17,18,19,20,21,22,23,24,25,26,27,28,29,30,31,32,33,34,35,36,37,38,39,40,41,42,43,44,45]
theorem now_ok (m:Ms) (q0 q1 q2:Pl):Tri Tryz.prog G 10 [.p 0 0 0] (mH m q0 q1 q2) (u64 m.now) (mH m q0 q1 q2):=by
 refine fn Tryz.func10 ?_
 conv=>whnf
 exact kv [0,1,2,3,4,5,6,7,8,9,10,11,12,13,14,15,16,17,18,19,20,21,22,23,24,25,26,27,28,29,30,31,32,33,34,35,36,37,38,39,40,41,42,43,44]
theorem public_ok (m:Ms) (q0 q1 q2:Pl):Tri Tryz.prog G 21 [.p 0 0 0] (mH m q0 q1 q2) (sv m.k.pub) (mH m q0 q1 q2):=by
 refine fn Tryz.func21 ?_
 conv=>whnf
 refine ckQ (lpub_ok m.k) [] ?_
 conv=>whnf
 exact kv [0,1,2,3,4,5,6,7,8,9,10,11,12,13,14,15,16,17,18,19,20,21,22,23,24,25,26,27,28,29,30,31,32,33,34,35,36,37,38,39,40,41,42,43,44]
theorem conf_ok (m:Ms) (q0 q1 q2:Pl) (hn:m.c.nodes=3):Tri Tryz.prog G 25 [.p 0 0 0] (mH m q0 q1 q2) (.a (ncE 45 m.conf)) (mH m q0 q1 q2++[sRs [m.k.pub]]):=by
 have hc:m.conf=⟨2,m.c.room,m.c.every,m.c.gossip,m.c.retry⟩:=by unfold Ms.conf; rw [hn]
 rw [hc]
 refine fn Tryz.func25 ?_
 conv=>whnf
 refine ckQ (lpub_ok m.k) [] ?_
 conv=>whnf
 refine ⟨rfl,?_⟩
 conv=>whnf
 rw [hn]
 exact kv [0,1,2,3,4,5,6,7,8,9,10,11,12,13,14,15,16,17,18,19,20,21,22,23,24,25,26,27,28,29,30,31,32,33,34,35,36,37,38,39,40,41,42,43,44,46]
theorem node0_ok (m:Ms) (q0 q1 q2:Pl):Tri Tryz.prog G 11 [.p 0 0 0,i64 0] (mH m q0 q1 q2) (.p 3 0 0) (mH m q0 q1 q2):=by
 refine fn Tryz.func11 ?_
 conv=>whnf
 refine ckQ (has_ok m q0 q1 q2 0) [0,1,2,3,4,5,6,7,8,9,10,11,12,13,14,15,16,17,18,19,20,21,22,23,24,25,26,27,28,29,30,31,32,33,34,35,36,37,38,39,40,41,42,43,44] ?_
 conv=>whnf
 refine ⟨by decide,?_⟩
 conv=>whnf
 exact kv [0,1,2,3,4,5,6,7,8,9,10,11,12,13,14,15,16,17,18,19,20,21,22,23,24,25,26,27,28,29,30,31,32,33,34,35,36,37,38,39,40,41,42,43,44]
theorem view0_ok (m:Ms) (q0 q1 q2:Pl) (hl:q0.view.length≤12):Tri Tryz.prog G 15 [.p 0 0 0,i64 0] (mH m q0 q1 q2) (.s 45 0 q0.view.length false) (mH m q0 q1 q2++[sRs q0.view]):=by
 refine fn Tryz.func15 ?_
 conv=>whnf
 refine ckQ (has_ok m q0 q1 q2 0) [0,1,2,3,4,5,6,7,8,9,10,11,12,13,14,15,16,17,18,19,20,21,22,23,24,25,26,27,28,29,30,31,32,33,34,35,36,37,38,39,40,41,42,43,44] ?_
 conv=>whnf
 refine ⟨by decide,?_⟩
 conv=>whnf
 refine ck (cloneS_ok q0.view (by omega)) [16] ?_
 conv=>whnf
 exact kv [0,1,2,3,4,5,6,7,8,9,10,11,12,13,14,15,16,17,18,19,20,21,22,23,24,25,26,27,28,29,30,31,32,33,34,35,36,37,38,39,40,41,42,43,44,45]
theorem node1_ok (m:Ms) (q0 q1 q2:Pl):Tri Tryz.prog G 11 [.p 0 0 0,i64 1] (mH m q0 q1 q2) (.p 17 0 0) (mH m q0 q1 q2):=by
 refine fn Tryz.func11 ?_
 conv=>whnf
 refine ckQ (has_ok m q0 q1 q2 1) [0,1,2,3,4,5,6,7,8,9,10,11,12,13,14,15,16,17,18,19,20,21,22,23,24,25,26,27,28,29,30,31,32,33,34,35,36,37,38,39,40,41,42,43,44] ?_
 conv=>whnf
 refine ⟨by decide,?_⟩
 conv=>whnf
 exact kv [0,1,2,3,4,5,6,7,8,9,10,11,12,13,14,15,16,17,18,19,20,21,22,23,24,25,26,27,28,29,30,31,32,33,34,35,36,37,38,39,40,41,42,43,44]
theorem view1_ok (m:Ms) (q0 q1 q2:Pl) (hl:q1.view.length≤12):Tri Tryz.prog G 15 [.p 0 0 0,i64 1] (mH m q0 q1 q2) (.s 45 0 q1.view.length false) (mH m q0 q1 q2++[sRs q1.view]):=by
 refine fn Tryz.func15 ?_
 conv=>whnf
 refine ckQ (has_ok m q0 q1 q2 1) [0,1,2,3,4,5,6,7,8,9,10,11,12,13,14,15,16,17,18,19,20,21,22,23,24,25,26,27,28,29,30,31,32,33,34,35,36,37,38,39,40,41,42,43,44] ?_
 conv=>whnf
 refine ⟨by decide,?_⟩
 conv=>whnf
 refine ck (cloneS_ok q1.view (by omega)) [30] ?_
 conv=>whnf
 exact kv [0,1,2,3,4,5,6,7,8,9,10,11,12,13,14,15,16,17,18,19,20,21,22,23,24,25,26,27,28,29,30,31,32,33,34,35,36,37,38,39,40,41,42,43,44,45]
theorem node2_ok (m:Ms) (q0 q1 q2:Pl):Tri Tryz.prog G 11 [.p 0 0 0,i64 2] (mH m q0 q1 q2) (.p 31 0 0) (mH m q0 q1 q2):=by
 refine fn Tryz.func11 ?_
 conv=>whnf
 refine ckQ (has_ok m q0 q1 q2 2) [0,1,2,3,4,5,6,7,8,9,10,11,12,13,14,15,16,17,18,19,20,21,22,23,24,25,26,27,28,29,30,31,32,33,34,35,36,37,38,39,40,41,42,43,44] ?_
 conv=>whnf
 refine ⟨by decide,?_⟩
 conv=>whnf
 exact kv [0,1,2,3,4,5,6,7,8,9,10,11,12,13,14,15,16,17,18,19,20,21,22,23,24,25,26,27,28,29,30,31,32,33,34,35,36,37,38,39,40,41,42,43,44]
theorem view2_ok (m:Ms) (q0 q1 q2:Pl) (hl:q2.view.length≤12):Tri Tryz.prog G 15 [.p 0 0 0,i64 2] (mH m q0 q1 q2) (.s 45 0 q2.view.length false) (mH m q0 q1 q2++[sRs q2.view]):=by
 refine fn Tryz.func15 ?_
 conv=>whnf
 refine ckQ (has_ok m q0 q1 q2 2) [0,1,2,3,4,5,6,7,8,9,10,11,12,13,14,15,16,17,18,19,20,21,22,23,24,25,26,27,28,29,30,31,32,33,34,35,36,37,38,39,40,41,42,43,44] ?_
 conv=>whnf
 refine ⟨by decide,?_⟩
 conv=>whnf
 refine ck (cloneS_ok q2.view (by omega)) [44] ?_
 conv=>whnf
 exact kv [0,1,2,3,4,5,6,7,8,9,10,11,12,13,14,15,16,17,18,19,20,21,22,23,24,25,26,27,28,29,30,31,32,33,34,35,36,37,38,39,40,41,42,43,44,45]
theorem tick_ok (hS:GSha G) (hH:GHas G) (m:Ms) (q0 q1 q2:Pl) (hm:m.l=[q0,q1,q2]) (b:Nat) (hok:Ms.ok (b+1) m) (a:Ac) (ha:a.n≤4294967296) (M:Ms) (e:Int) (p0 p1 p2:Pl) (h:m.tick a=(M,e)) (hM:M.l=[p0,p1,p2]):Tri Tryz.prog G 28 [.p 0 0 0,.a (acE a)] (mH m q0 q1 q2) (i64 e) (mP M p0 p1 p2++mQ M p0 p1 p2):=by
 obtain ⟨kind,ai,bi,n,s⟩:=a
 simp only at ha
 refine fn Tryz.func28 ?_
 conv=>whnf
 refine ckQ (has_ok m q0 q1 q2 ai) [0,1,2,3,4,5,6,7,8,9,10,11,12,13,14,15,16,17,18,19,20,21,22,23,24,25,26,27,28,29,30,31,32,33,34,35,36,37,38,39,40,41,42,43,44] ?_
 conv=>whnf
 by_cases hi:ai≥0∧ai<3
 rotate_left
 ·have hb:(decide (ai≥0)&&decide (ai<3))=false:=by
   cases hx:(decide (ai≥0)&&decide (ai<3)) with
   | false=>rfl
   | true=>simp only [Bool.and_eq_true,decide_eq_true_eq] at hx; exact absurd hx hi
  rw [hb]
  conv=>whnf
  rw [tick_no (a:=⟨kind,ai,bi,n,s⟩) (by unfold Ms.has; rw [hm]; exact hb)] at h
  cases h
  rw [hm] at hM
  cases hM
  exact kv [0,1,2,3,4,5,6,7,8,9,10,11,12,13,14,15,16,17,18,19,20,21,22,23,24,25,26,27,28,29,30,31,32,33,34,35,36,37,38,39,40,41,42,43,44,2,3,4,5,6,7,8,10,11,12,13,14,15,16,17,18,19,20,21,22,24,25,26,27,28,29,30,31,32,33,34,35,36,38,39,40,41,42,43,44]
 have hb:(decide (ai≥0)&&decide (ai<3))=true:=by rw [decide_eq_true hi.1,decide_eq_true hi.2]; rfl
 have hmh:m.has ai=true:=by unfold Ms.has; rw [hm]; exact hb
 rw [hb]
 conv=>whnf
 have hnw:=nowT_lt m.now n
 have hnow:=hok.now
 have hor:ai=0∨ai=1∨ai=2:=by omega
 rcases hor with rfl | rfl | rfl
 ·have e0:m.at_ 0=q0:=by unfold Ms.at_; rw [hm]; rfl
  obtain ⟨o1,o2,o3, -, -⟩:=hok.n q0 (by rw [hm]; simp)
  have h0:m.tick ⟨kind,0,bi,n,s⟩=({ m with now:=nowT m.now n,l:=[{ q0 with n:=(q0.n.tick (nowT m.now n) n).1 },q1,q2],net:=sndN 0 m.net (q0.n.tick (nowT m.now n) n).2 },0):=by
   rw [tick_yes hmh]
   show ({ m with now:=nowT m.now n,l:=m.l.set 0 { m.at_ 0 with n:=((m.at_ 0).n.tick (nowT m.now n) n).1 },net:=sndN 0 m.net ((m.at_ 0).n.tick (nowT m.now n) n).2 },(0:Int))=_
   rw [e0,hm]
   rfl
  rw [h0] at h
  cases h
  have hM:[{ q0 with n:=(q0.n.tick (nowT m.now n) n).1 },q1,q2]=[p0,p1,p2]:=hM
  cases hM
  refine ⟨rfl,?_⟩
  conv=>whnf
  refine ⟨⟨(by show (0:Int)≤0; decide),(by show (0:Int)<((3:Nat):Int); decide)⟩,?_⟩
  conv=>whnf
  rw [now_eq]
  refine ck (ntick_ok hS hH q0.n o1 (by omega) (nowT m.now n) n hnw (by omega)) [3,4,5,6,7,8,9,10,11,12,13,14,15] ?_
  have ht:=o1.tick (by omega) (nowT m.now n) n
  generalize (q0.n.tick (nowT m.now n) n).1=n2 at ht
  generalize (q0.n.tick (nowT m.now n) n).2=out at ht
  conv=>whnf
  refine ck (send_ok { m with now:=nowT m.now n } ({ q0 with n:=n2 }) q1 q2 0 out (by omega)) [0,1,2,3,4,5,46,7,47,9,48,11,12,13,49,15,16,17,18,19,20,21,22,23,24,25,26,27,28,29,30,31,32,33,34,35,36,37,38,39,40,41,42,43,44,50] ?_
  conv=>whnf
  refine ⟨rfl,?_⟩
  conv=>whnf
  exact kv [0,1,2,3,4,5,6,7,8,9,10,11,12,13,14,15,16,17,18,19,20,21,22,23,24,25,26,27,28,29,30,31,32,33,34,35,36,37,38,39,40,41,42,43,44,51,3,4,5,46,7,47,48,11,12,13,49,15,16,17,18,19,20,21,22,24,25,26,27,28,29,30,31,32,33,34,35,36,38,39,40,41,42,43,44]
 ·have e0:m.at_ 1=q1:=by unfold Ms.at_; rw [hm]; rfl
  obtain ⟨o1,o2,o3, -, -⟩:=hok.n q1 (by rw [hm]; simp)
  have h0:m.tick ⟨kind,1,bi,n,s⟩=({ m with now:=nowT m.now n,l:=[q0,{ q1 with n:=(q1.n.tick (nowT m.now n) n).1 },q2],net:=sndN 1 m.net (q1.n.tick (nowT m.now n) n).2 },0):=by
   rw [tick_yes hmh]
   show ({ m with now:=nowT m.now n,l:=m.l.set 1 { m.at_ 1 with n:=((m.at_ 1).n.tick (nowT m.now n) n).1 },net:=sndN 1 m.net ((m.at_ 1).n.tick (nowT m.now n) n).2 },(0:Int))=_
   rw [e0,hm]
   rfl
  rw [h0] at h
  cases h
  have hM:[q0,{ q1 with n:=(q1.n.tick (nowT m.now n) n).1 },q2]=[p0,p1,p2]:=hM
  cases hM
  refine ⟨rfl,?_⟩
  conv=>whnf
  refine ⟨⟨(by show (0:Int)≤1; decide),(by show (1:Int)<((3:Nat):Int); decide)⟩,?_⟩
  conv=>whnf
  rw [now_eq]
  refine ck (ntick_ok hS hH q1.n o1 (by omega) (nowT m.now n) n hnw (by omega)) [17,18,19,20,21,22,23,24,25,26,27,28,29] ?_
  have ht:=o1.tick (by omega) (nowT m.now n) n
  generalize (q1.n.tick (nowT m.now n) n).1=n2 at ht
  generalize (q1.n.tick (nowT m.now n) n).2=out at ht
  conv=>whnf
  refine ck (send_ok { m with now:=nowT m.now n } q0 ({ q1 with n:=n2 }) q2 1 out (by omega)) [0,1,2,3,4,5,6,7,8,9,10,11,12,13,14,15,16,17,18,19,46,21,47,23,48,25,26,27,49,29,30,31,32,33,34,35,36,37,38,39,40,41,42,43,44,50] ?_
  conv=>whnf
  refine ⟨rfl,?_⟩
  conv=>whnf
  exact kv [0,1,2,3,4,5,6,7,8,9,10,11,12,13,14,15,16,17,18,19,20,21,22,23,24,25,26,27,28,29,30,31,32,33,34,35,36,37,38,39,40,41,42,43,44,51,3,4,5,6,7,8,10,11,12,13,14,15,16,17,18,19,46,21,47,48,25,26,27,49,29,30,31,32,33,34,35,36,38,39,40,41,42,43,44]
 ·have e0:m.at_ 2=q2:=by unfold Ms.at_; rw [hm]; rfl
  obtain ⟨o1,o2,o3, -, -⟩:=hok.n q2 (by rw [hm]; simp)
  have h0:m.tick ⟨kind,2,bi,n,s⟩=({ m with now:=nowT m.now n,l:=[q0,q1,{ q2 with n:=(q2.n.tick (nowT m.now n) n).1 }],net:=sndN 2 m.net (q2.n.tick (nowT m.now n) n).2 },0):=by
   rw [tick_yes hmh]
   show ({ m with now:=nowT m.now n,l:=m.l.set 2 { m.at_ 2 with n:=((m.at_ 2).n.tick (nowT m.now n) n).1 },net:=sndN 2 m.net ((m.at_ 2).n.tick (nowT m.now n) n).2 },(0:Int))=_
   rw [e0,hm]
   rfl
  rw [h0] at h
  cases h
  have hM:[q0,q1,{ q2 with n:=(q2.n.tick (nowT m.now n) n).1 }]=[p0,p1,p2]:=hM
  cases hM
  refine ⟨rfl,?_⟩
  conv=>whnf
  refine ⟨⟨(by show (0:Int)≤2; decide),(by show (2:Int)<((3:Nat):Int); decide)⟩,?_⟩
  conv=>whnf
  rw [now_eq]
  refine ck (ntick_ok hS hH q2.n o1 (by omega) (nowT m.now n) n hnw (by omega)) [31,32,33,34,35,36,37,38,39,40,41,42,43] ?_
  have ht:=o1.tick (by omega) (nowT m.now n) n
  generalize (q2.n.tick (nowT m.now n) n).1=n2 at ht
  generalize (q2.n.tick (nowT m.now n) n).2=out at ht
  conv=>whnf
  refine ck (send_ok { m with now:=nowT m.now n } q0 q1 ({ q2 with n:=n2 }) 2 out (by omega)) [0,1,2,3,4,5,6,7,8,9,10,11,12,13,14,15,16,17,18,19,20,21,22,23,24,25,26,27,28,29,30,31,32,33,46,35,47,37,48,39,40,41,49,43,44,50] ?_
  conv=>whnf
  refine ⟨rfl,?_⟩
  conv=>whnf
  exact kv [0,1,2,3,4,5,6,7,8,9,10,11,12,13,14,15,16,17,18,19,20,21,22,23,24,25,26,27,28,29,30,31,32,33,34,35,36,37,38,39,40,41,42,43,44,51,3,4,5,6,7,8,10,11,12,13,14,15,16,17,18,19,20,21,22,24,25,26,27,28,29,30,31,32,33,46,35,47,48,39,40,41,49,43,44]
theorem renew_ok (hS:GSha G) (hH:GHas G) (m:Ms) (q0 q1 q2:Pl) (hm:m.l=[q0,q1,q2]) (b:Nat) (hok:Ms.ok (b+1) m) (a:Ac) (ha:a.n≤4294967296) (M:Ms) (e:Int) (p0 p1 p2:Pl) (h:m.renew a=(M,e)) (hM:M.l=[p0,p1,p2]):Tri Tryz.prog G 32 [.p 0 0 0,.a (acE a)] (mH m q0 q1 q2) (i64 e) (mP M p0 p1 p2++mQ M p0 p1 p2):=by
 obtain ⟨kind,ai,bi,n,s⟩:=a
 simp only at ha
 refine fn Tryz.func32 ?_
 conv=>whnf
 refine ckQ (has_ok m q0 q1 q2 ai) [0,1,2,3,4,5,6,7,8,9,10,11,12,13,14,15,16,17,18,19,20,21,22,23,24,25,26,27,28,29,30,31,32,33,34,35,36,37,38,39,40,41,42,43,44] ?_
 conv=>whnf
 by_cases hi:ai≥0∧ai<3
 rotate_left
 ·have hb:(decide (ai≥0)&&decide (ai<3))=false:=by
   cases hx:(decide (ai≥0)&&decide (ai<3)) with
   | false=>rfl
   | true=>simp only [Bool.and_eq_true,decide_eq_true_eq] at hx; exact absurd hx hi
  rw [hb]
  conv=>whnf
  rw [renew_no (a:=⟨kind,ai,bi,n,s⟩) (by unfold Ms.has; rw [hm]; exact hb)] at h
  cases h
  rw [hm] at hM
  cases hM
  exact kv [0,1,2,3,4,5,6,7,8,9,10,11,12,13,14,15,16,17,18,19,20,21,22,23,24,25,26,27,28,29,30,31,32,33,34,35,36,37,38,39,40,41,42,43,44,2,3,4,5,6,7,8,10,11,12,13,14,15,16,17,18,19,20,21,22,24,25,26,27,28,29,30,31,32,33,34,35,36,38,39,40,41,42,43,44]
 have hb:(decide (ai≥0)&&decide (ai<3))=true:=by rw [decide_eq_true hi.1,decide_eq_true hi.2]; rfl
 have hmh:m.has ai=true:=by unfold Ms.has; rw [hm]; exact hb
 rw [hb]
 conv=>whnf
 have hor:ai=0∨ai=1∨ai=2:=by omega
 rcases hor with rfl | rfl | rfl
 ·have e0:m.at_ 0=q0:=by unfold Ms.at_; rw [hm]; rfl
  obtain ⟨o1,o2,o3, -, -⟩:=hok.n q0 (by rw [hm]; simp)
  have h0:m.renew ⟨kind,0,bi,n,s⟩=({ m with l:=[{ q0 with n:=(q0.n.renew (n%6)).1 },q1,q2] },(q0.n.renew (n%6)).2):=by
   rw [renew_yes hmh]
   show ({ m with l:=m.l.set 0 { m.at_ 0 with n:=((m.at_ 0).n.renew (n%6)).1 } },((m.at_ 0).n.renew (n%6)).2)=_
   rw [e0,hm]
   rfl
  rw [h0] at h
  cases h
  have hM:[{ q0 with n:=(q0.n.renew (n%6)).1 },q1,q2]=[p0,p1,p2]:=hM
  cases hM
  refine ⟨⟨(by show (0:Int)≤0; decide),(by show (0:Int)<((3:Nat):Int); decide)⟩,?_⟩
  conv=>whnf
  rw [show Int.tmod (n:Int) 6=((n%6:Nat):Int) from by rw [Int.tmod_eq_emod_of_nonneg (by omega)]; simp,wI64 (n:=((n%6:Nat):Int)) (by omega) (by omega)]
  refine ck (nrenew_ok hS hH q0.n o1 (n%6) (by omega)) [3,4,5,6,7,8,9,10,11,12,13,14,15] ?_
  conv=>whnf
  refine ⟨rfl,?_⟩
  conv=>whnf
  exact kv [0,1,2,3,4,5,6,7,8,9,10,11,12,13,14,15,16,17,18,19,20,21,22,23,24,25,26,27,28,29,30,31,32,33,34,35,36,37,38,39,40,41,42,43,44,2,3,4,5,46,7,47,48,11,12,13,49,15,16,17,18,19,20,21,22,24,25,26,27,28,29,30,31,32,33,34,35,36,38,39,40,41,42,43,44]
 ·have e0:m.at_ 1=q1:=by unfold Ms.at_; rw [hm]; rfl
  obtain ⟨o1,o2,o3, -, -⟩:=hok.n q1 (by rw [hm]; simp)
  have h0:m.renew ⟨kind,1,bi,n,s⟩=({ m with l:=[q0,{ q1 with n:=(q1.n.renew (n%6)).1 },q2] },(q1.n.renew (n%6)).2):=by
   rw [renew_yes hmh]
   show ({ m with l:=m.l.set 1 { m.at_ 1 with n:=((m.at_ 1).n.renew (n%6)).1 } },((m.at_ 1).n.renew (n%6)).2)=_
   rw [e0,hm]
   rfl
  rw [h0] at h
  cases h
  have hM:[q0,{ q1 with n:=(q1.n.renew (n%6)).1 },q2]=[p0,p1,p2]:=hM
  cases hM
  refine ⟨⟨(by show (0:Int)≤1; decide),(by show (1:Int)<((3:Nat):Int); decide)⟩,?_⟩
  conv=>whnf
  rw [show Int.tmod (n:Int) 6=((n%6:Nat):Int) from by rw [Int.tmod_eq_emod_of_nonneg (by omega)]; simp,wI64 (n:=((n%6:Nat):Int)) (by omega) (by omega)]
  refine ck (nrenew_ok hS hH q1.n o1 (n%6) (by omega)) [17,18,19,20,21,22,23,24,25,26,27,28,29] ?_
  conv=>whnf
  refine ⟨rfl,?_⟩
  conv=>whnf
  exact kv [0,1,2,3,4,5,6,7,8,9,10,11,12,13,14,15,16,17,18,19,20,21,22,23,24,25,26,27,28,29,30,31,32,33,34,35,36,37,38,39,40,41,42,43,44,2,3,4,5,6,7,8,10,11,12,13,14,15,16,17,18,19,46,21,47,48,25,26,27,49,29,30,31,32,33,34,35,36,38,39,40,41,42,43,44]
 ·have e0:m.at_ 2=q2:=by unfold Ms.at_; rw [hm]; rfl
  obtain ⟨o1,o2,o3, -, -⟩:=hok.n q2 (by rw [hm]; simp)
  have h0:m.renew ⟨kind,2,bi,n,s⟩=({ m with l:=[q0,q1,{ q2 with n:=(q2.n.renew (n%6)).1 }] },(q2.n.renew (n%6)).2):=by
   rw [renew_yes hmh]
   show ({ m with l:=m.l.set 2 { m.at_ 2 with n:=((m.at_ 2).n.renew (n%6)).1 } },((m.at_ 2).n.renew (n%6)).2)=_
   rw [e0,hm]
   rfl
  rw [h0] at h
  cases h
  have hM:[q0,q1,{ q2 with n:=(q2.n.renew (n%6)).1 }]=[p0,p1,p2]:=hM
  cases hM
  refine ⟨⟨(by show (0:Int)≤2; decide),(by show (2:Int)<((3:Nat):Int); decide)⟩,?_⟩
  conv=>whnf
  rw [show Int.tmod (n:Int) 6=((n%6:Nat):Int) from by rw [Int.tmod_eq_emod_of_nonneg (by omega)]; simp,wI64 (n:=((n%6:Nat):Int)) (by omega) (by omega)]
  refine ck (nrenew_ok hS hH q2.n o1 (n%6) (by omega)) [31,32,33,34,35,36,37,38,39,40,41,42,43] ?_
  conv=>whnf
  refine ⟨rfl,?_⟩
  conv=>whnf
  exact kv [0,1,2,3,4,5,6,7,8,9,10,11,12,13,14,15,16,17,18,19,20,21,22,23,24,25,26,27,28,29,30,31,32,33,34,35,36,37,38,39,40,41,42,43,44,2,3,4,5,6,7,8,10,11,12,13,14,15,16,17,18,19,20,21,22,24,25,26,27,28,29,30,31,32,33,46,35,47,48,39,40,41,49,43,44]
theorem feed_ok (hG:GSig G) (hS:GSha G) (hH:GHas G) (m:Ms) (q0 q1 q2:Pl) (hm:m.l=[q0,q1,q2]) (b:Nat) (hok:Ms.ok (b+1) m) (a:Ac) (M:Ms) (e:Int) (p0 p1 p2:Pl) (h:m.feed a=(M,e)) (hM:M.l=[p0,p1,p2]):Tri Tryz.prog G 33 [.p 0 0 0,.a (acE a)] (mH m q0 q1 q2) (i64 e) (mP M p0 p1 p2++mQ M p0 p1 p2):=by
 obtain ⟨kind,ai,bi,n,s⟩:=a
 refine fn Tryz.func33 ?_
 conv=>whnf
 refine ckQ (has_ok m q0 q1 q2 ai) [0,1,2,3,4,5,6,7,8,9,10,11,12,13,14,15,16,17,18,19,20,21,22,23,24,25,26,27,28,29,30,31,32,33,34,35,36,37,38,39,40,41,42,43,44] ?_
 conv=>whnf
 by_cases hi:ai≥0∧ai<3
 rotate_left
 ·have hb:(decide (ai≥0)&&decide (ai<3))=false:=by
   cases hx:(decide (ai≥0)&&decide (ai<3)) with
   | false=>rfl
   | true=>simp only [Bool.and_eq_true,decide_eq_true_eq] at hx; exact absurd hx hi
  rw [hb]
  conv=>whnf
  rw [feed_no (a:=⟨kind,ai,bi,n,s⟩) (by unfold Ms.has; rw [hm]; exact hb)] at h
  cases h
  rw [hm] at hM
  cases hM
  exact kv [0,1,2,3,4,5,6,7,8,9,10,11,12,13,14,15,16,17,18,19,20,21,22,23,24,25,26,27,28,29,30,31,32,33,34,35,36,37,38,39,40,41,42,43,44,2,3,4,5,6,7,8,10,11,12,13,14,15,16,17,18,19,20,21,22,24,25,26,27,28,29,30,31,32,33,34,35,36,38,39,40,41,42,43,44]
 have hb:(decide (ai≥0)&&decide (ai<3))=true:=by rw [decide_eq_true hi.1,decide_eq_true hi.2]; rfl
 have hmh:m.has ai=true:=by unfold Ms.has; rw [hm]; exact hb
 rw [hb]
 conv=>whnf
 have hor:ai=0∨ai=1∨ai=2:=by omega
 rcases hor with rfl | rfl | rfl
 ·have e0:m.at_ 0=q0:=by unfold Ms.at_; rw [hm]; rfl
  obtain ⟨o1,o2,o3, -, -⟩:=hok.n q0 (by rw [hm]; simp)
  refine ⟨rfl,?_⟩
  conv=>whnf
  refine br_of (fun c1 => ?_) (fun c1 => ?_) <;> conv=>whnf
  ·have h0:m.feed ⟨kind,0,bi,n,s⟩=({ m with l:=[{ q0 with n:=(q0.n.peer bi s).1 },q1,q2],net:=sndN 0 m.net (q0.n.peer bi s).2 },0):=by
    rw [feed_peer hmh (by rw [hm]; have c2:bi<2:=of_decide_eq_true c1; simp; omega)]
    show ({ m with l:=m.l.set 0 { m.at_ 0 with n:=((m.at_ 0).n.peer bi s).1 },net:=sndN 0 m.net ((m.at_ 0).n.peer bi s).2 },(0:Int))=_
    rw [e0,hm]
    rfl
   rw [h0] at h
   cases h
   have hM:[{ q0 with n:=(q0.n.peer bi s).1 },q1,q2]=[p0,p1,p2]:=hM
   cases hM
   refine ⟨⟨(by show (0:Int)≤0; decide),(by show (0:Int)<((3:Nat):Int); decide)⟩,?_⟩
   conv=>whnf
   refine ck (npeer_ok hG hS hH q0.n o1 (by omega) bi s) [3,4,5,6,7,8,9,10,11,12,13,14,15] ?_
   have ht:=(o1.peer (by omega) bi s).2.2.2.2
   generalize (q0.n.peer bi s).1=n2 at ht
   generalize (q0.n.peer bi s).2=out at ht
   conv=>whnf
   refine ck (send_ok m ({ q0 with n:=n2 }) q1 q2 0 out (by omega)) [0,1,2,3,4,5,46,7,47,9,48,11,12,13,49,15,16,17,18,19,20,21,22,23,24,25,26,27,28,29,30,31,32,33,34,35,36,37,38,39,40,41,42,43,44,50] ?_
   conv=>whnf
   refine ⟨rfl,?_⟩
   conv=>whnf
   exact kv [0,1,2,3,4,5,6,7,8,9,10,11,12,13,14,15,16,17,18,19,20,21,22,23,24,25,26,27,28,29,30,31,32,33,34,35,36,37,38,39,40,41,42,43,44,51,3,4,5,46,7,47,48,11,12,13,49,15,16,17,18,19,20,21,22,24,25,26,27,28,29,30,31,32,33,34,35,36,38,39,40,41,42,43,44]
  ·have h0:m.feed ⟨kind,0,bi,n,s⟩=({ m with l:=[{ q0 with n:=q0.n.log s },q1,q2] },0):=by
    rw [feed_log hmh (by rw [hm]; have c2:¬ bi<2:=of_decide_eq_false c1; simp; omega)]
    show ({ m with l:=m.l.set 0 { m.at_ 0 with n:=(m.at_ 0).n.log s } },(0:Int))=_
    rw [e0,hm]
    rfl
   rw [h0] at h
   cases h
   have hM:[{ q0 with n:=q0.n.log s },q1,q2]=[p0,p1,p2]:=hM
   cases hM
   refine ⟨⟨(by show (0:Int)≤0; decide),(by show (0:Int)<((3:Nat):Int); decide)⟩,?_⟩
   conv=>whnf
   refine ck (nlog_ok hG hS hH q0.n o1 (by omega) s) [3,4,5,6,7,8,9,10,11,12,13,14,15] ?_
   conv=>whnf
   refine ck (send_ok m ({ q0 with n:=q0.n.log s }) q1 q2 0 [] (by decide)) [0,1,2,3,4,5,46,7,47,9,48,11,12,13,49,15,16,17,18,19,20,21,22,23,24,25,26,27,28,29,30,31,32,33,34,35,36,37,38,39,40,41,42,43,44,50] ?_
   conv=>whnf
   refine ⟨rfl,?_⟩
   conv=>whnf
   exact kv [0,1,2,3,4,5,6,7,8,9,10,11,12,13,14,15,16,17,18,19,20,21,22,23,24,25,26,27,28,29,30,31,32,33,34,35,36,37,38,39,40,41,42,43,44,51,3,4,5,46,7,47,48,11,12,13,49,15,16,17,18,19,20,21,22,24,25,26,27,28,29,30,31,32,33,34,35,36,38,39,40,41,42,43,44]
 ·have e0:m.at_ 1=q1:=by unfold Ms.at_; rw [hm]; rfl
  obtain ⟨o1,o2,o3, -, -⟩:=hok.n q1 (by rw [hm]; simp)
  refine ⟨rfl,?_⟩
  conv=>whnf
  refine br_of (fun c1 => ?_) (fun c1 => ?_) <;> conv=>whnf
  ·have h0:m.feed ⟨kind,1,bi,n,s⟩=({ m with l:=[q0,{ q1 with n:=(q1.n.peer bi s).1 },q2],net:=sndN 1 m.net (q1.n.peer bi s).2 },0):=by
    rw [feed_peer hmh (by rw [hm]; have c2:bi<2:=of_decide_eq_true c1; simp; omega)]
    show ({ m with l:=m.l.set 1 { m.at_ 1 with n:=((m.at_ 1).n.peer bi s).1 },net:=sndN 1 m.net ((m.at_ 1).n.peer bi s).2 },(0:Int))=_
    rw [e0,hm]
    rfl
   rw [h0] at h
   cases h
   have hM:[q0,{ q1 with n:=(q1.n.peer bi s).1 },q2]=[p0,p1,p2]:=hM
   cases hM
   refine ⟨⟨(by show (0:Int)≤1; decide),(by show (1:Int)<((3:Nat):Int); decide)⟩,?_⟩
   conv=>whnf
   refine ck (npeer_ok hG hS hH q1.n o1 (by omega) bi s) [17,18,19,20,21,22,23,24,25,26,27,28,29] ?_
   have ht:=(o1.peer (by omega) bi s).2.2.2.2
   generalize (q1.n.peer bi s).1=n2 at ht
   generalize (q1.n.peer bi s).2=out at ht
   conv=>whnf
   refine ck (send_ok m q0 ({ q1 with n:=n2 }) q2 1 out (by omega)) [0,1,2,3,4,5,6,7,8,9,10,11,12,13,14,15,16,17,18,19,46,21,47,23,48,25,26,27,49,29,30,31,32,33,34,35,36,37,38,39,40,41,42,43,44,50] ?_
   conv=>whnf
   refine ⟨rfl,?_⟩
   conv=>whnf
   exact kv [0,1,2,3,4,5,6,7,8,9,10,11,12,13,14,15,16,17,18,19,20,21,22,23,24,25,26,27,28,29,30,31,32,33,34,35,36,37,38,39,40,41,42,43,44,51,3,4,5,6,7,8,10,11,12,13,14,15,16,17,18,19,46,21,47,48,25,26,27,49,29,30,31,32,33,34,35,36,38,39,40,41,42,43,44]
  ·have h0:m.feed ⟨kind,1,bi,n,s⟩=({ m with l:=[q0,{ q1 with n:=q1.n.log s },q2] },0):=by
    rw [feed_log hmh (by rw [hm]; have c2:¬ bi<2:=of_decide_eq_false c1; simp; omega)]
    show ({ m with l:=m.l.set 1 { m.at_ 1 with n:=(m.at_ 1).n.log s } },(0:Int))=_
    rw [e0,hm]
    rfl
   rw [h0] at h
   cases h
   have hM:[q0,{ q1 with n:=q1.n.log s },q2]=[p0,p1,p2]:=hM
   cases hM
   refine ⟨⟨(by show (0:Int)≤1; decide),(by show (1:Int)<((3:Nat):Int); decide)⟩,?_⟩
   conv=>whnf
   refine ck (nlog_ok hG hS hH q1.n o1 (by omega) s) [17,18,19,20,21,22,23,24,25,26,27,28,29] ?_
   conv=>whnf
   refine ck (send_ok m q0 ({ q1 with n:=q1.n.log s }) q2 1 [] (by decide)) [0,1,2,3,4,5,6,7,8,9,10,11,12,13,14,15,16,17,18,19,46,21,47,23,48,25,26,27,49,29,30,31,32,33,34,35,36,37,38,39,40,41,42,43,44,50] ?_
   conv=>whnf
   refine ⟨rfl,?_⟩
   conv=>whnf
   exact kv [0,1,2,3,4,5,6,7,8,9,10,11,12,13,14,15,16,17,18,19,20,21,22,23,24,25,26,27,28,29,30,31,32,33,34,35,36,37,38,39,40,41,42,43,44,51,3,4,5,6,7,8,10,11,12,13,14,15,16,17,18,19,46,21,47,48,25,26,27,49,29,30,31,32,33,34,35,36,38,39,40,41,42,43,44]
 ·have e0:m.at_ 2=q2:=by unfold Ms.at_; rw [hm]; rfl
  obtain ⟨o1,o2,o3, -, -⟩:=hok.n q2 (by rw [hm]; simp)
  refine ⟨rfl,?_⟩
  conv=>whnf
  refine br_of (fun c1 => ?_) (fun c1 => ?_) <;> conv=>whnf
  ·have h0:m.feed ⟨kind,2,bi,n,s⟩=({ m with l:=[q0,q1,{ q2 with n:=(q2.n.peer bi s).1 }],net:=sndN 2 m.net (q2.n.peer bi s).2 },0):=by
    rw [feed_peer hmh (by rw [hm]; have c2:bi<2:=of_decide_eq_true c1; simp; omega)]
    show ({ m with l:=m.l.set 2 { m.at_ 2 with n:=((m.at_ 2).n.peer bi s).1 },net:=sndN 2 m.net ((m.at_ 2).n.peer bi s).2 },(0:Int))=_
    rw [e0,hm]
    rfl
   rw [h0] at h
   cases h
   have hM:[q0,q1,{ q2 with n:=(q2.n.peer bi s).1 }]=[p0,p1,p2]:=hM
   cases hM
   refine ⟨⟨(by show (0:Int)≤2; decide),(by show (2:Int)<((3:Nat):Int); decide)⟩,?_⟩
   conv=>whnf
   refine ck (npeer_ok hG hS hH q2.n o1 (by omega) bi s) [31,32,33,34,35,36,37,38,39,40,41,42,43] ?_
   have ht:=(o1.peer (by omega) bi s).2.2.2.2
   generalize (q2.n.peer bi s).1=n2 at ht
   generalize (q2.n.peer bi s).2=out at ht
   conv=>whnf
   refine ck (send_ok m q0 q1 ({ q2 with n:=n2 }) 2 out (by omega)) [0,1,2,3,4,5,6,7,8,9,10,11,12,13,14,15,16,17,18,19,20,21,22,23,24,25,26,27,28,29,30,31,32,33,46,35,47,37,48,39,40,41,49,43,44,50] ?_
   conv=>whnf
   refine ⟨rfl,?_⟩
   conv=>whnf
   exact kv [0,1,2,3,4,5,6,7,8,9,10,11,12,13,14,15,16,17,18,19,20,21,22,23,24,25,26,27,28,29,30,31,32,33,34,35,36,37,38,39,40,41,42,43,44,51,3,4,5,6,7,8,10,11,12,13,14,15,16,17,18,19,20,21,22,24,25,26,27,28,29,30,31,32,33,46,35,47,48,39,40,41,49,43,44]
  ·have h0:m.feed ⟨kind,2,bi,n,s⟩=({ m with l:=[q0,q1,{ q2 with n:=q2.n.log s }] },0):=by
    rw [feed_log hmh (by rw [hm]; have c2:¬ bi<2:=of_decide_eq_false c1; simp; omega)]
    show ({ m with l:=m.l.set 2 { m.at_ 2 with n:=(m.at_ 2).n.log s } },(0:Int))=_
    rw [e0,hm]
    rfl
   rw [h0] at h
   cases h
   have hM:[q0,q1,{ q2 with n:=q2.n.log s }]=[p0,p1,p2]:=hM
   cases hM
   refine ⟨⟨(by show (0:Int)≤2; decide),(by show (2:Int)<((3:Nat):Int); decide)⟩,?_⟩
   conv=>whnf
   refine ck (nlog_ok hG hS hH q2.n o1 (by omega) s) [31,32,33,34,35,36,37,38,39,40,41,42,43] ?_
   conv=>whnf
   refine ck (send_ok m q0 q1 ({ q2 with n:=q2.n.log s }) 2 [] (by decide)) [0,1,2,3,4,5,6,7,8,9,10,11,12,13,14,15,16,17,18,19,20,21,22,23,24,25,26,27,28,29,30,31,32,33,46,35,47,37,48,39,40,41,49,43,44,50] ?_
   conv=>whnf
   refine ⟨rfl,?_⟩
   conv=>whnf
   exact kv [0,1,2,3,4,5,6,7,8,9,10,11,12,13,14,15,16,17,18,19,20,21,22,23,24,25,26,27,28,29,30,31,32,33,34,35,36,37,38,39,40,41,42,43,44,51,3,4,5,6,7,8,10,11,12,13,14,15,16,17,18,19,20,21,22,24,25,26,27,28,29,30,31,32,33,46,35,47,48,39,40,41,49,43,44]
theorem arrive_ok (hG:GSig G) (hS:GSha G) (hH:GHas G) (m:Ms) (q0 q1 q2:Pl) (hm:m.l=[q0,q1,q2]) (b:Nat) (hok:Ms.ok (b+1) m) (p:Pk) (hp:okP 3 p) (M:Ms) (p0 p1 p2:Pl) (h:m.arrive p=M) (hM:M.l=[p0,p1,p2]):Tri Tryz.prog G 75 [.p 0 0 0,.a (pkE p)] (mH m q0 q1 q2) (.t []) (mP M p0 p1 p2++mQ M p0 p1 p2):=by
 have ha:=arrive_a (m:=m) (p:=p)
 have hb:=arrive_b (m:=m) (p:=p)
 have hc:=arrive_c (m:=m) (p:=p)
 rw [h] at ha hb hc
 clear h
 obtain ⟨frm,dst,s⟩:=p
 simp only at ha hb hc
 unfold okP at hp
 simp only at hp
 show Tri Tryz.prog G 75 [.p 0 0 0,.a [i64 frm,i64 dst,sv s]] (mH m q0 q1 q2) (.t []) (mP M p0 p1 p2++mQ M p0 p1 p2)
 refine fn Tryz.func75 ?_
 conv=>whnf
 refine br_of (fun c1 => ?_) (fun c1 => ?_) <;> conv=>whnf
 ·have c1:dst = -1:=eq_of_beq c1
  have ha:=ha c1
  have hor:frm=0∨frm=1∨frm=2:=by omega
  rcases hor with rfl | rfl | rfl
  ·have e0:m.at_ 0=q0:=by unfold Ms.at_; rw [hm]; rfl
   obtain ⟨v1,v2⟩:=hok.v q0 (by rw [hm]; simp)
   have ha:M={ m with net:=if ansL m.k (m.at_ 0).view m.now s≠[] then putN m.net ⟨-1,0,ansL m.k (m.at_ 0).view m.now s⟩ else m.net }:=ha
   rw [e0] at ha
   refine ⟨⟨of_decide_eq_true rfl,of_decide_eq_true rfl⟩,?_⟩
   conv=>whnf
   refine ckQ (lans_ok hG hS hH m.k hok.k q0.view (by omega) (fun x hx=>by have:=v2 x hx; omega) m.now hok.now s) [16] ?_
   generalize ansL m.k q0.view m.now s=r at ha
   conv=>whnf
   refine ⟨rfl,?_⟩
   conv=>whnf
   rw [ne_nil]
   refine br_of (fun c2 => ?_) (fun c2 => ?_) <;> conv=>whnf
   ·rw [if_pos (bne_iff_ne.1 c2)] at ha
    subst ha
    have hM:m.l=[p0,p1,p2]:=hM
    rw [hm] at hM
    cases hM
    refine ck (put_ok m q0 q1 q2 ⟨-1,0,r⟩) [0,1,2,3,4,5,6,7,8,9,10,11,12,13,14,15,16,17,18,19,20,21,22,23,24,25,26,27,28,29,30,31,32,33,34,35,36,37,38,39,40,41,42,43,44] ?_
    conv=>whnf
    exact kv [0,1,2,3,4,5,6,7,8,9,10,11,12,13,14,15,16,17,18,19,20,21,22,23,24,25,26,27,28,29,30,31,32,33,34,35,36,37,38,39,40,41,42,43,44,46,3,4,5,6,7,8,10,11,12,13,14,15,16,17,18,19,20,21,22,24,25,26,27,28,29,30,31,32,33,34,35,36,38,39,40,41,42,43,44]
   ·rw [if_neg (by simpa using c2)] at ha
    subst ha
    have hM:m.l=[p0,p1,p2]:=hM
    rw [hm] at hM
    cases hM
    exact kv [0,1,2,3,4,5,6,7,8,9,10,11,12,13,14,15,16,17,18,19,20,21,22,23,24,25,26,27,28,29,30,31,32,33,34,35,36,37,38,39,40,41,42,43,44,2,3,4,5,6,7,8,10,11,12,13,14,15,16,17,18,19,20,21,22,24,25,26,27,28,29,30,31,32,33,34,35,36,38,39,40,41,42,43,44]
  ·have e0:m.at_ 1=q1:=by unfold Ms.at_; rw [hm]; rfl
   obtain ⟨v1,v2⟩:=hok.v q1 (by rw [hm]; simp)
   have ha:M={ m with net:=if ansL m.k (m.at_ 1).view m.now s≠[] then putN m.net ⟨-1,1,ansL m.k (m.at_ 1).view m.now s⟩ else m.net }:=ha
   rw [e0] at ha
   refine ⟨⟨of_decide_eq_true rfl,of_decide_eq_true rfl⟩,?_⟩
   conv=>whnf
   refine ckQ (lans_ok hG hS hH m.k hok.k q1.view (by omega) (fun x hx=>by have:=v2 x hx; omega) m.now hok.now s) [30] ?_
   generalize ansL m.k q1.view m.now s=r at ha
   conv=>whnf
   refine ⟨rfl,?_⟩
   conv=>whnf
   rw [ne_nil]
   refine br_of (fun c2 => ?_) (fun c2 => ?_) <;> conv=>whnf
   ·rw [if_pos (bne_iff_ne.1 c2)] at ha
    subst ha
    have hM:m.l=[p0,p1,p2]:=hM
    rw [hm] at hM
    cases hM
    refine ck (put_ok m q0 q1 q2 ⟨-1,1,r⟩) [0,1,2,3,4,5,6,7,8,9,10,11,12,13,14,15,16,17,18,19,20,21,22,23,24,25,26,27,28,29,30,31,32,33,34,35,36,37,38,39,40,41,42,43,44] ?_
    conv=>whnf
    exact kv [0,1,2,3,4,5,6,7,8,9,10,11,12,13,14,15,16,17,18,19,20,21,22,23,24,25,26,27,28,29,30,31,32,33,34,35,36,37,38,39,40,41,42,43,44,46,3,4,5,6,7,8,10,11,12,13,14,15,16,17,18,19,20,21,22,24,25,26,27,28,29,30,31,32,33,34,35,36,38,39,40,41,42,43,44]
   ·rw [if_neg (by simpa using c2)] at ha
    subst ha
    have hM:m.l=[p0,p1,p2]:=hM
    rw [hm] at hM
    cases hM
    exact kv [0,1,2,3,4,5,6,7,8,9,10,11,12,13,14,15,16,17,18,19,20,21,22,23,24,25,26,27,28,29,30,31,32,33,34,35,36,37,38,39,40,41,42,43,44,2,3,4,5,6,7,8,10,11,12,13,14,15,16,17,18,19,20,21,22,24,25,26,27,28,29,30,31,32,33,34,35,36,38,39,40,41,42,43,44]
  ·have e0:m.at_ 2=q2:=by unfold Ms.at_; rw [hm]; rfl
   obtain ⟨v1,v2⟩:=hok.v q2 (by rw [hm]; simp)
   have ha:M={ m with net:=if ansL m.k (m.at_ 2).view m.now s≠[] then putN m.net ⟨-1,2,ansL m.k (m.at_ 2).view m.now s⟩ else m.net }:=ha
   rw [e0] at ha
   refine ⟨⟨of_decide_eq_true rfl,of_decide_eq_true rfl⟩,?_⟩
   conv=>whnf
   refine ckQ (lans_ok hG hS hH m.k hok.k q2.view (by omega) (fun x hx=>by have:=v2 x hx; omega) m.now hok.now s) [44] ?_
   generalize ansL m.k q2.view m.now s=r at ha
   conv=>whnf
   refine ⟨rfl,?_⟩
   conv=>whnf
   rw [ne_nil]
   refine br_of (fun c2 => ?_) (fun c2 => ?_) <;> conv=>whnf
   ·rw [if_pos (bne_iff_ne.1 c2)] at ha
    subst ha
    have hM:m.l=[p0,p1,p2]:=hM
    rw [hm] at hM
    cases hM
    refine ck (put_ok m q0 q1 q2 ⟨-1,2,r⟩) [0,1,2,3,4,5,6,7,8,9,10,11,12,13,14,15,16,17,18,19,20,21,22,23,24,25,26,27,28,29,30,31,32,33,34,35,36,37,38,39,40,41,42,43,44] ?_
    conv=>whnf
    exact kv [0,1,2,3,4,5,6,7,8,9,10,11,12,13,14,15,16,17,18,19,20,21,22,23,24,25,26,27,28,29,30,31,32,33,34,35,36,37,38,39,40,41,42,43,44,46,3,4,5,6,7,8,10,11,12,13,14,15,16,17,18,19,20,21,22,24,25,26,27,28,29,30,31,32,33,34,35,36,38,39,40,41,42,43,44]
   ·rw [if_neg (by simpa using c2)] at ha
    subst ha
    have hM:m.l=[p0,p1,p2]:=hM
    rw [hm] at hM
    cases hM
    exact kv [0,1,2,3,4,5,6,7,8,9,10,11,12,13,14,15,16,17,18,19,20,21,22,23,24,25,26,27,28,29,30,31,32,33,34,35,36,37,38,39,40,41,42,43,44,2,3,4,5,6,7,8,10,11,12,13,14,15,16,17,18,19,20,21,22,24,25,26,27,28,29,30,31,32,33,34,35,36,38,39,40,41,42,43,44]
 have c1:¬ dst = -1:=beq_eq_false_iff_ne.1 c1
 refine br_of (fun c2 => ?_) (fun c2 => ?_) <;> conv=>whnf
 ·have c2:frm = -1:=eq_of_beq c2
  have hb:=hb c1 c2
  have hor:dst=0∨dst=1∨dst=2:=by omega
  rcases hor with rfl | rfl | rfl
  ·have e0:m.at_ 0=q0:=by unfold Ms.at_; rw [hm]; rfl
   obtain ⟨o1,o2,o3, -, -⟩:=hok.n q0 (by rw [hm]; simp)
   have hb:M={ m with l:=m.l.set 0 { m.at_ 0 with n:=(m.at_ 0).n.log s } }:=hb
   rw [e0,hm] at hb
   subst hb
   have hM:[{ q0 with n:=q0.n.log s },q1,q2]=[p0,p1,p2]:=hM
   cases hM
   refine ⟨⟨of_decide_eq_true rfl,of_decide_eq_true rfl⟩,?_⟩
   conv=>whnf
   refine ck (nlog_ok hG hS hH q0.n o1 (by omega) s) [3,4,5,6,7,8,9,10,11,12,13,14,15] ?_
   conv=>whnf
   refine ck (send_ok m ({ q0 with n:=q0.n.log s }) q1 q2 0 [] (by decide)) [0,1,2,3,4,5,46,7,47,9,48,11,12,13,49,15,16,17,18,19,20,21,22,23,24,25,26,27,28,29,30,31,32,33,34,35,36,37,38,39,40,41,42,43,44,50] ?_
   conv=>whnf
   refine ⟨rfl,?_⟩
   conv=>whnf
   exact kv [0,1,2,3,4,5,6,7,8,9,10,11,12,13,14,15,16,17,18,19,20,21,22,23,24,25,26,27,28,29,30,31,32,33,34,35,36,37,38,39,40,41,42,43,44,51,3,4,5,46,7,47,48,11,12,13,49,15,16,17,18,19,20,21,22,24,25,26,27,28,29,30,31,32,33,34,35,36,38,39,40,41,42,43,44]
  ·have e0:m.at_ 1=q1:=by unfold Ms.at_; rw [hm]; rfl
   obtain ⟨o1,o2,o3, -, -⟩:=hok.n q1 (by rw [hm]; simp)
   have hb:M={ m with l:=m.l.set 1 { m.at_ 1 with n:=(m.at_ 1).n.log s } }:=hb
   rw [e0,hm] at hb
   subst hb
   have hM:[q0,{ q1 with n:=q1.n.log s },q2]=[p0,p1,p2]:=hM
   cases hM
   refine ⟨⟨of_decide_eq_true rfl,of_decide_eq_true rfl⟩,?_⟩
   conv=>whnf
   refine ck (nlog_ok hG hS hH q1.n o1 (by omega) s) [17,18,19,20,21,22,23,24,25,26,27,28,29] ?_
   conv=>whnf
   refine ck (send_ok m q0 ({ q1 with n:=q1.n.log s }) q2 1 [] (by decide)) [0,1,2,3,4,5,6,7,8,9,10,11,12,13,14,15,16,17,18,19,46,21,47,23,48,25,26,27,49,29,30,31,32,33,34,35,36,37,38,39,40,41,42,43,44,50] ?_
   conv=>whnf
   refine ⟨rfl,?_⟩
   conv=>whnf
   exact kv [0,1,2,3,4,5,6,7,8,9,10,11,12,13,14,15,16,17,18,19,20,21,22,23,24,25,26,27,28,29,30,31,32,33,34,35,36,37,38,39,40,41,42,43,44,51,3,4,5,6,7,8,10,11,12,13,14,15,16,17,18,19,46,21,47,48,25,26,27,49,29,30,31,32,33,34,35,36,38,39,40,41,42,43,44]
  ·have e0:m.at_ 2=q2:=by unfold Ms.at_; rw [hm]; rfl
   obtain ⟨o1,o2,o3, -, -⟩:=hok.n q2 (by rw [hm]; simp)
   have hb:M={ m with l:=m.l.set 2 { m.at_ 2 with n:=(m.at_ 2).n.log s } }:=hb
   rw [e0,hm] at hb
   subst hb
   have hM:[q0,q1,{ q2 with n:=q2.n.log s }]=[p0,p1,p2]:=hM
   cases hM
   refine ⟨⟨of_decide_eq_true rfl,of_decide_eq_true rfl⟩,?_⟩
   conv=>whnf
   refine ck (nlog_ok hG hS hH q2.n o1 (by omega) s) [31,32,33,34,35,36,37,38,39,40,41,42,43] ?_
   conv=>whnf
   refine ck (send_ok m q0 q1 ({ q2 with n:=q2.n.log s }) 2 [] (by decide)) [0,1,2,3,4,5,6,7,8,9,10,11,12,13,14,15,16,17,18,19,20,21,22,23,24,25,26,27,28,29,30,31,32,33,46,35,47,37,48,39,40,41,49,43,44,50] ?_
   conv=>whnf
   refine ⟨rfl,?_⟩
   conv=>whnf
   exact kv [0,1,2,3,4,5,6,7,8,9,10,11,12,13,14,15,16,17,18,19,20,21,22,23,24,25,26,27,28,29,30,31,32,33,34,35,36,37,38,39,40,41,42,43,44,51,3,4,5,6,7,8,10,11,12,13,14,15,16,17,18,19,20,21,22,24,25,26,27,28,29,30,31,32,33,46,35,47,48,39,40,41,49,43,44]
 have c2:¬ frm = -1:=beq_eq_false_iff_ne.1 c2
 have hc:=hc c1 c2
 obtain ⟨f,hf2⟩:∃ f,(if frm>dst then frm-1 else frm)=f:=⟨_,rfl⟩
 rw [hf2] at hc
 refine br_of (fun c3 => ?ga) (fun c3 => ?gb) <;> conv=>whnf
 case' ga =>
  rw [wI64 (n:=frm-1) (by omega) (by omega)]
  rw [if_pos (of_decide_eq_true c3)] at hf2
  rw [hf2]
 case' gb =>
  rw [if_neg (of_decide_eq_false c3)] at hf2
  rw [hf2]
 all_goals
  clear c3
  have hor:dst=0∨dst=1∨dst=2:=by omega
  rcases hor with rfl | rfl | rfl
  ·have e0:m.at_ 0=q0:=by unfold Ms.at_; rw [hm]; rfl
   obtain ⟨o1,o2,o3, -, -⟩:=hok.n q0 (by rw [hm]; simp)
   have hc:M={ m with l:=m.l.set 0 { m.at_ 0 with n:=((m.at_ 0).n.peer f s).1 },net:=sndN 0 m.net ((m.at_ 0).n.peer f s).2 }:=hc
   rw [e0,hm] at hc
   subst hc
   have hM:[{ q0 with n:=(q0.n.peer f s).1 },q1,q2]=[p0,p1,p2]:=hM
   cases hM
   refine ⟨⟨of_decide_eq_true rfl,of_decide_eq_true rfl⟩,?_⟩
   conv=>whnf
   refine ck (npeer_ok hG hS hH q0.n o1 (by omega) f s) [3,4,5,6,7,8,9,10,11,12,13,14,15] ?_
   have ht:=(o1.peer (by omega) f s).2.2.2.2
   generalize (q0.n.peer f s).1=n2 at ht
   generalize (q0.n.peer f s).2=out at ht
   conv=>whnf
   refine ck (send_ok m ({ q0 with n:=n2 }) q1 q2 0 out (by omega)) [0,1,2,3,4,5,46,7,47,9,48,11,12,13,49,15,16,17,18,19,20,21,22,23,24,25,26,27,28,29,30,31,32,33,34,35,36,37,38,39,40,41,42,43,44,50] ?_
   conv=>whnf
   refine ⟨rfl,?_⟩
   conv=>whnf
   exact kv [0,1,2,3,4,5,6,7,8,9,10,11,12,13,14,15,16,17,18,19,20,21,22,23,24,25,26,27,28,29,30,31,32,33,34,35,36,37,38,39,40,41,42,43,44,51,3,4,5,46,7,47,48,11,12,13,49,15,16,17,18,19,20,21,22,24,25,26,27,28,29,30,31,32,33,34,35,36,38,39,40,41,42,43,44]
  ·have e0:m.at_ 1=q1:=by unfold Ms.at_; rw [hm]; rfl
   obtain ⟨o1,o2,o3, -, -⟩:=hok.n q1 (by rw [hm]; simp)
   have hc:M={ m with l:=m.l.set 1 { m.at_ 1 with n:=((m.at_ 1).n.peer f s).1 },net:=sndN 1 m.net ((m.at_ 1).n.peer f s).2 }:=hc
   rw [e0,hm] at hc
   subst hc
   have hM:[q0,{ q1 with n:=(q1.n.peer f s).1 },q2]=[p0,p1,p2]:=hM
   cases hM
   refine ⟨⟨of_decide_eq_true rfl,of_decide_eq_true rfl⟩,?_⟩
   conv=>whnf
   refine ck (npeer_ok hG hS hH q1.n o1 (by omega) f s) [17,18,19,20,21,22,23,24,25,26,27,28,29] ?_
   have ht:=(o1.peer (by omega) f s).2.2.2.2
   generalize (q1.n.peer f s).1=n2 at ht
   generalize (q1.n.peer f s).2=out at ht
   conv=>whnf
   refine ck (send_ok m q0 ({ q1 with n:=n2 }) q2 1 out (by omega)) [0,1,2,3,4,5,6,7,8,9,10,11,12,13,14,15,16,17,18,19,46,21,47,23,48,25,26,27,49,29,30,31,32,33,34,35,36,37,38,39,40,41,42,43,44,50] ?_
   conv=>whnf
   refine ⟨rfl,?_⟩
   conv=>whnf
   exact kv [0,1,2,3,4,5,6,7,8,9,10,11,12,13,14,15,16,17,18,19,20,21,22,23,24,25,26,27,28,29,30,31,32,33,34,35,36,37,38,39,40,41,42,43,44,51,3,4,5,6,7,8,10,11,12,13,14,15,16,17,18,19,46,21,47,48,25,26,27,49,29,30,31,32,33,34,35,36,38,39,40,41,42,43,44]
  ·have e0:m.at_ 2=q2:=by unfold Ms.at_; rw [hm]; rfl
   obtain ⟨o1,o2,o3, -, -⟩:=hok.n q2 (by rw [hm]; simp)
   have hc:M={ m with l:=m.l.set 2 { m.at_ 2 with n:=((m.at_ 2).n.peer f s).1 },net:=sndN 2 m.net ((m.at_ 2).n.peer f s).2 }:=hc
   rw [e0,hm] at hc
   subst hc
   have hM:[q0,q1,{ q2 with n:=(q2.n.peer f s).1 }]=[p0,p1,p2]:=hM
   cases hM
   refine ⟨⟨of_decide_eq_true rfl,of_decide_eq_true rfl⟩,?_⟩
   conv=>whnf
   refine ck (npeer_ok hG hS hH q2.n o1 (by omega) f s) [31,32,33,34,35,36,37,38,39,40,41,42,43] ?_
   have ht:=(o1.peer (by omega) f s).2.2.2.2
   generalize (q2.n.peer f s).1=n2 at ht
   generalize (q2.n.peer f s).2=out at ht
   conv=>whnf
   refine ck (send_ok m q0 q1 ({ q2 with n:=n2 }) 2 out (by omega)) [0,1,2,3,4,5,6,7,8,9,10,11,12,13,14,15,16,17,18,19,20,21,22,23,24,25,26,27,28,29,30,31,32,33,46,35,47,37,48,39,40,41,49,43,44,50] ?_
   conv=>whnf
   refine ⟨rfl,?_⟩
   conv=>whnf
   exact kv [0,1,2,3,4,5,6,7,8,9,10,11,12,13,14,15,16,17,18,19,20,21,22,23,24,25,26,27,28,29,30,31,32,33,34,35,36,37,38,39,40,41,42,43,44,51,3,4,5,6,7,8,10,11,12,13,14,15,16,17,18,19,20,21,22,24,25,26,27,28,29,30,31,32,33,46,35,47,48,39,40,41,49,43,44]
theorem moved_ok (hG:GSig G) (hS:GSha G) (hH:GHas G) (m:Ms) (q0 q1 q2:Pl) (hm:m.l=[q0,q1,q2]) (b:Nat) (hok:Ms.ok (b+1) m) (a:Ac) (ha:0≤a.a) (M:Ms) (e:Int) (p0 p1 p2:Pl) (h:m.moved a=(M,e)) (hM:M.l=[p0,p1,p2]):Tri Tryz.prog G 29 [.p 0 0 0,.a (acE a)] (mH m q0 q1 q2) (i64 e) (mP M p0 p1 p2++mQ M p0 p1 p2):=by
 have h0:=moved_no (m:=m) (a:=a)
 have h1:=moved_1 (m:=m) (a:=a)
 have h2:=moved_2 (m:=m) (a:=a)
 have h3:=moved_3 (m:=m) (a:=a)
 have h4:=moved_4 (m:=m) (a:=a)
 rw [h] at h0 h1 h2 h3 h4
 clear h
 obtain ⟨kind,ai,bi,n,s⟩:=a
 simp only at ha h0 h1 h2 h3 h4
 have hnl:=hok.net
 show Tri Tryz.prog G 29 [.p 0 0 0,.a [i64 kind,i64 ai,i64 bi,u64 n,sv s]] (mH m q0 q1 q2) (i64 e) (mP M p0 p1 p2++mQ M p0 p1 p2)
 refine fn Tryz.func29 ?_
 conv=>whnf
 refine br_of (fun c0 => ?_) (fun c0 => ?_) <;> conv=>whnf
 ·have c0:m.net.length=0:=by have:=eq_of_beq c0; omega
  have h0:=h0 c0
  cases h0
  rw [hm] at hM
  cases hM
  exact kv [0,1,2,3,4,5,6,7,8,9,10,11,12,13,14,15,16,17,18,19,20,21,22,23,24,25,26,27,28,29,30,31,32,33,34,35,36,37,38,39,40,41,42,43,44,2,3,4,5,6,7,8,10,11,12,13,14,15,16,17,18,19,20,21,22,24,25,26,27,28,29,30,31,32,33,34,35,36,38,39,40,41,42,43,44]
 have c0:¬ m.net.length=0:=by have:=beq_eq_false_iff_ne.1 c0; omega
 rw [rem_some (by omega)]
 obtain ⟨i,hi⟩:∃ i,mvI m ai=i:=⟨_,rfl⟩
 have hie:ai%(m.net.length:Int)=(i:Nat):=by rw [← hi]; exact (Int.toNat_of_nonneg (Int.emod_nonneg _ (by omega))).symm
 have hil:i<m.net.length:=by have:=Int.emod_lt_of_pos ai (show (0:Int)<m.net.length by omega); omega
 rw [show Int.tmod ai (m.net.length:Int)=(i:Nat) from by rw [Int.tmod_eq_emod_of_nonneg ha,hie]]
 rw [hi] at h1 h2 h3 h4
 obtain ⟨p,hp⟩:∃ p,m.net.getD i default=p:=⟨_,rfl⟩
 have hpe:m.net[i]? = some p:=by rw [List.getD_eq_getElem?_getD,List.getElem?_eq_getElem hil] at hp; rw [List.getElem?_eq_getElem hil]; exact congrArg some hp
 rw [hp] at h1 h3 h4
 conv=>whnf
 refine ⟨rfl,?_⟩
 conv=>whnf
 refine ⟨⟨by omega,by omega⟩,?_⟩
 conv=>whnf
 refine ob_of (pkE p) (by simp [hpe]) ?_
 conv=>whnf
 refine br_of (fun c3 => ?_) (fun c3 => ?_) <;> conv=>whnf
 ·have h3:=h3 c0 (eq_of_beq c3)
  cases h3
  have hM:m.l=[p0,p1,p2]:=hM
  rw [hm] at hM
  cases hM
  refine ck (put_ok m q0 q1 q2 p) [0,1,2,3,4,5,6,7,8,9,10,11,12,13,14,15,16,17,18,19,20,21,22,23,24,25,26,27,28,29,30,31,32,33,34,35,36,37,38,39,40,41,42,43,44] ?_
  conv=>whnf
  exact kv [0,1,2,3,4,5,6,7,8,9,10,11,12,13,14,15,16,17,18,19,20,21,22,23,24,25,26,27,28,29,30,31,32,33,34,35,36,37,38,39,40,41,42,43,44,47,3,4,5,6,7,8,10,11,12,13,14,15,16,17,18,19,20,21,22,24,25,26,27,28,29,30,31,32,33,34,35,36,38,39,40,41,42,43,44]
 have hne:IntKind.i64.wrap ((m.net.length:Int)-1)=((m.net.length-1:Nat):Int):=by rw [wI64 (n:=(m.net.length:Int)-1) (by omega) (by omega)]; omega
 rw [hne]
 refine ⟨⟨by omega,rfl,by omega⟩,?_⟩
 conv=>whnf
 refine ⟨⟨by decide,by omega,by omega⟩,?_⟩
 conv=>whnf
 refine ⟨⟨by simp,by simp; omega⟩,?_⟩
 conv=>whnf
 refine ⟨⟨by omega,by omega,by omega⟩,?_⟩
 conv=>whnf
 rw [wI64 (n:=(i:Int)+1) (by omega) (by omega)]
 refine ⟨⟨by omega,by omega,by omega⟩,?_⟩
 conv=>whnf
 refine ⟨⟨by rw [eputL_len _ _ _ (by simp; omega)]; simp; omega,by simp; omega⟩,?_⟩
 conv=>whnf
 refine ⟨rfl,?_⟩
 conv=>whnf
 have eX:=mv_rows m.net i hil
 rw [eX,show (((m.net.length-1:Nat):Int)).toNat=(m.net.eraseIdx i).length by rw [List.length_eraseIdx_of_lt hil]; rfl]
 have hrl:(m.net.eraseIdx i).length≤64:=by rw [List.length_eraseIdx_of_lt hil]; omega
 have hrp:∀ x∈m.net.eraseIdx i,okP m.l.length x:=fun x hx=>hok.p x (List.mem_of_mem_eraseIdx hx)
 have hpp:okP m.l.length p:=hok.p p (List.mem_of_getElem? hpe)
 have hok2:Ms.ok (b+1) { m with net:=m.net.eraseIdx i }:=hok.nets hrl hrp
 generalize m.net.eraseIdx i=rest at hok2 h1 h2 h4
 have c3:¬ kind=3:=beq_eq_false_iff_ne.1 c3
 refine br_of (fun c4 => ?_) (fun c4 => ?_) <;> conv=>whnf
 ·have h4:=h4 c0 (eq_of_beq c4)
  cases h4
  have hM:m.l=[p0,p1,p2]:=hM
  rw [hm] at hM
  cases hM
  refine ck (put_ok { m with net:=rest } q0 q1 q2 p) [0,1,47,3,4,5,6,7,8,9,10,11,12,13,14,15,16,17,18,19,20,21,22,23,24,25,26,27,28,29,30,31,32,33,34,35,36,37,38,39,40,41,42,43,44] ?_
  conv=>whnf
  exact kv [0,1,2,3,4,5,6,7,8,9,10,11,12,13,14,15,16,17,18,19,20,21,22,23,24,25,26,27,28,29,30,31,32,33,34,35,36,37,38,39,40,41,42,43,44,48,3,4,5,6,7,8,10,11,12,13,14,15,16,17,18,19,20,21,22,24,25,26,27,28,29,30,31,32,33,34,35,36,38,39,40,41,42,43,44]
 have c4:¬ kind=4:=beq_eq_false_iff_ne.1 c4
 refine br_of (fun c1 => ?_) (fun c1 => ?_) <;> conv=>whnf
 ·have h1:=h1 c0 (eq_of_beq c1)
  have hMa:({ m with net:=rest }:Ms).arrive p=M:=(congrArg Prod.fst h1).symm
  obtain rfl:e=0:=congrArg Prod.snd h1
  rw [hm] at hpp
  refine ck (arrive_ok hG hS hH { m with net:=rest } q0 q1 q2 hm b hok2 p hpp M p0 p1 p2 hMa hM) [0,1,47,3,4,5,6,7,8,9,10,11,12,13,14,15,16,17,18,19,20,21,22,23,24,25,26,27,28,29,30,31,32,33,34,35,36,37,38,39,40,41,42,43,44] ?_
  conv=>whnf
  exact kv [0,1,2,3,4,5,6,7,8,9,10,11,12,13,14,15,16,17,18,19,20,21,22,23,24,25,26,27,28,29,30,31,32,33,34,35,36,37,38,39,40,41,42,43,44,48,49,50,51,52,53,54,55,56,57,58,59,60,61,62,63,64,65,66,67,68,69,70,71,72,73,74,75,76,77,78,79,80,81,82,83,84,85,86,87]
 have h2:=h2 c0 (beq_eq_false_iff_ne.1 c1) c3 c4
 cases h2
 have hM:m.l=[p0,p1,p2]:=hM
 rw [hm] at hM
 cases hM
 exact kv [0,1,2,3,4,5,6,7,8,9,10,11,12,13,14,15,16,17,18,19,20,21,22,23,24,25,26,27,28,29,30,31,32,33,34,35,36,37,38,39,40,41,42,43,44,47,3,4,5,6,7,8,10,11,12,13,14,15,16,17,18,19,20,21,22,24,25,26,27,28,29,30,31,32,33,34,35,36,38,39,40,41,42,43,44]
theorem crash_ok (hG:GSig G) (hS:GSha G) (hH:GHas G) (m:Ms) (q0 q1 q2:Pl) (hm:m.l=[q0,q1,q2]) (b:Nat) (hok:Ms.ok (b+1) m) (a:Ac) (ha:a.n≤4294967296) (M:Ms) (e:Int) (p0 p1 p2:Pl) (h:m.crash a=(M,e)) (hM:M.l=[p0,p1,p2]):Tri Tryz.prog G 31 [.p 0 0 0,.a (acE a)] (mH m q0 q1 q2) (i64 e) (mP M p0 p1 p2++mQ M p0 p1 p2):=by
 obtain ⟨kind,ai,bi,n,s⟩:=a
 simp only at ha
 have hcn:m.c.nodes=3:=by rw [hok.cn,hm]; rfl
 refine fn Tryz.func31 ?_
 conv=>whnf
 refine ckQ (has_ok m q0 q1 q2 ai) [0,1,2,3,4,5,6,7,8,9,10,11,12,13,14,15,16,17,18,19,20,21,22,23,24,25,26,27,28,29,30,31,32,33,34,35,36,37,38,39,40,41,42,43,44] ?_
 conv=>whnf
 by_cases hi:ai≥0∧ai<3
 rotate_left
 ·have hb:(decide (ai≥0)&&decide (ai<3))=false:=by
   cases hx:(decide (ai≥0)&&decide (ai<3)) with
   | false=>rfl
   | true=>simp only [Bool.and_eq_true,decide_eq_true_eq] at hx; exact absurd hx hi
  rw [hb]
  conv=>whnf
  rw [crash_no (a:=⟨kind,ai,bi,n,s⟩) (by unfold Ms.has; rw [hm]; exact hb)] at h
  cases h
  rw [hm] at hM
  cases hM
  exact kv [0,1,2,3,4,5,6,7,8,9,10,11,12,13,14,15,16,17,18,19,20,21,22,23,24,25,26,27,28,29,30,31,32,33,34,35,36,37,38,39,40,41,42,43,44,2,3,4,5,6,7,8,10,11,12,13,14,15,16,17,18,19,20,21,22,24,25,26,27,28,29,30,31,32,33,34,35,36,38,39,40,41,42,43,44]
 have hb:(decide (ai≥0)&&decide (ai<3))=true:=by rw [decide_eq_true hi.1,decide_eq_true hi.2]; rfl
 have hmh:m.has ai=true:=by unfold Ms.has; rw [hm]; exact hb
 rw [hb]
 conv=>whnf
 have hor:ai=0∨ai=1∨ai=2:=by omega
 rcases hor with rfl | rfl | rfl
 ·have e0:m.at_ 0=q0:=by unfold Ms.at_; rw [hm]; rfl
  obtain ⟨o1,o2,o3, -, -⟩:=hok.n q0 (by rw [hm]; simp)
  have hd:=crash_w o1.j n
  have h0:=crash_at (m:=m) (a:=⟨kind,0,bi,n,s⟩) hmh rfl e0
  rw [h0,hm] at h
  clear h0
  refine ⟨⟨(by show (0:Int)≤0; decide),(by show (0:Int)<((3:Nat):Int); decide)⟩,?_⟩
  conv=>whnf
  refine ⟨rfl,?_⟩
  conv=>whnf
  rw [wI64 (n:=(n:Int)) (by omega) (by omega)]
  refine ck (dcrash_ok q0.n.j.d n (o1.j.d.fit (by decide)) o1.j.d.2.2.1 o1.j.u (by omega)) [9,10] ?_
  conv=>whnf
  refine ⟨rfl,?_⟩
  conv=>whnf
  refine ckN (conf_ok m ({ q0 with n:={ q0.n with j:={ q0.n.j with d:=q0.n.j.d.crash n } } }) q1 q2 hcn) [0,1,2,3,4,5,6,7,8,9,46,11,12,13,14,15,16,17,18,19,20,21,22,23,24,25,26,27,28,29,30,31,32,33,34,35,36,37,38,39,40,41,42,43,44] [sRs [m.k.pub]] ?_
  conv=>whnf
  have hB:=nboot_ok hG hS hH m.conf hok.c m.k.pub hok.kp (q0.n.j.d.crash n) hd.1 hd.2 _ rfl
  cases hb:Nd.boot m.conf m.k.pub (q0.n.j.d.crash n) with
  | some n2 =>
   rw [hb] at h hB
   have h:(({ m with l:=[{ q0 with n:=n2 },q1,q2] }:Ms),(0:Int))=(M,e):=h
   cases h
   have hM:[{ q0 with n:=n2 },q1,q2]=[p0,p1,p2]:=hM
   cases hM
   refine ck hB [47,9,46] ?_
   conv=>whnf
   refine ⟨rfl,?_⟩
   conv=>whnf
   exact kv [0,1,2,3,4,5,6,7,8,9,10,11,12,13,14,15,16,17,18,19,20,21,22,23,24,25,26,27,28,29,30,31,32,33,34,35,36,37,38,39,40,41,42,43,44,2,48,49,50,51,52,53,54,55,56,57,58,59,16,17,18,19,20,21,22,24,25,26,27,28,29,30,31,32,33,34,35,36,38,39,40,41,42,43,44]
  | none =>
   rw [hb] at h hB
   have h:(({ m with l:=[{ q0 with n:={ q0.n with j:={ q0.n.j with d:=(Jn.open (q0.n.j.d.crash n)).d } } },q1,q2] }:Ms),(3:Int))=(M,e):=h
   cases h
   have hM:[{ q0 with n:={ q0.n with j:={ q0.n.j with d:=(Jn.open (q0.n.j.d.crash n)).d } } },q1,q2]=[p0,p1,p2]:=hM
   cases hM
   refine ck hB [47,9,46] ?_
   conv=>whnf
   refine ⟨rfl,?_⟩
   conv=>whnf
   exact kv [0,1,2,3,4,5,6,7,8,9,10,11,12,13,14,15,16,17,18,19,20,21,22,23,24,25,26,27,28,29,30,31,32,33,34,35,36,37,38,39,40,41,42,43,44,2,3,4,5,6,7,8,48,11,12,13,14,15,16,17,18,19,20,21,22,24,25,26,27,28,29,30,31,32,33,34,35,36,38,39,40,41,42,43,44]
 ·have e0:m.at_ 1=q1:=by unfold Ms.at_; rw [hm]; rfl
  obtain ⟨o1,o2,o3, -, -⟩:=hok.n q1 (by rw [hm]; simp)
  have hd:=crash_w o1.j n
  have h0:=crash_at (m:=m) (a:=⟨kind,1,bi,n,s⟩) hmh rfl e0
  rw [h0,hm] at h
  clear h0
  refine ⟨⟨(by show (0:Int)≤1; decide),(by show (1:Int)<((3:Nat):Int); decide)⟩,?_⟩
  conv=>whnf
  refine ⟨rfl,?_⟩
  conv=>whnf
  rw [wI64 (n:=(n:Int)) (by omega) (by omega)]
  refine ck (dcrash_ok q1.n.j.d n (o1.j.d.fit (by decide)) o1.j.d.2.2.1 o1.j.u (by omega)) [23,24] ?_
  conv=>whnf
  refine ⟨rfl,?_⟩
  conv=>whnf
  refine ckN (conf_ok m q0 ({ q1 with n:={ q1.n with j:={ q1.n.j with d:=q1.n.j.d.crash n } } }) q2 hcn) [0,1,2,3,4,5,6,7,8,9,10,11,12,13,14,15,16,17,18,19,20,21,22,23,46,25,26,27,28,29,30,31,32,33,34,35,36,37,38,39,40,41,42,43,44] [sRs [m.k.pub]] ?_
  conv=>whnf
  have hB:=nboot_ok hG hS hH m.conf hok.c m.k.pub hok.kp (q1.n.j.d.crash n) hd.1 hd.2 _ rfl
  cases hb:Nd.boot m.conf m.k.pub (q1.n.j.d.crash n) with
  | some n2 =>
   rw [hb] at h hB
   have h:(({ m with l:=[q0,{ q1 with n:=n2 },q2] }:Ms),(0:Int))=(M,e):=h
   cases h
   have hM:[q0,{ q1 with n:=n2 },q2]=[p0,p1,p2]:=hM
   cases hM
   refine ck hB [47,23,46] ?_
   conv=>whnf
   refine ⟨rfl,?_⟩
   conv=>whnf
   exact kv [0,1,2,3,4,5,6,7,8,9,10,11,12,13,14,15,16,17,18,19,20,21,22,23,24,25,26,27,28,29,30,31,32,33,34,35,36,37,38,39,40,41,42,43,44,2,3,4,5,6,7,8,10,11,12,13,14,15,16,48,49,50,51,52,53,54,55,56,57,58,59,30,31,32,33,34,35,36,38,39,40,41,42,43,44]
  | none =>
   rw [hb] at h hB
   have h:(({ m with l:=[q0,{ q1 with n:={ q1.n with j:={ q1.n.j with d:=(Jn.open (q1.n.j.d.crash n)).d } } },q2] }:Ms),(3:Int))=(M,e):=h
   cases h
   have hM:[q0,{ q1 with n:={ q1.n with j:={ q1.n.j with d:=(Jn.open (q1.n.j.d.crash n)).d } } },q2]=[p0,p1,p2]:=hM
   cases hM
   refine ck hB [47,23,46] ?_
   conv=>whnf
   refine ⟨rfl,?_⟩
   conv=>whnf
   exact kv [0,1,2,3,4,5,6,7,8,9,10,11,12,13,14,15,16,17,18,19,20,21,22,23,24,25,26,27,28,29,30,31,32,33,34,35,36,37,38,39,40,41,42,43,44,2,3,4,5,6,7,8,10,11,12,13,14,15,16,17,18,19,20,21,22,48,25,26,27,28,29,30,31,32,33,34,35,36,38,39,40,41,42,43,44]
 ·have e0:m.at_ 2=q2:=by unfold Ms.at_; rw [hm]; rfl
  obtain ⟨o1,o2,o3, -, -⟩:=hok.n q2 (by rw [hm]; simp)
  have hd:=crash_w o1.j n
  have h0:=crash_at (m:=m) (a:=⟨kind,2,bi,n,s⟩) hmh rfl e0
  rw [h0,hm] at h
  clear h0
  refine ⟨⟨(by show (0:Int)≤2; decide),(by show (2:Int)<((3:Nat):Int); decide)⟩,?_⟩
  conv=>whnf
  refine ⟨rfl,?_⟩
  conv=>whnf
  rw [wI64 (n:=(n:Int)) (by omega) (by omega)]
  refine ck (dcrash_ok q2.n.j.d n (o1.j.d.fit (by decide)) o1.j.d.2.2.1 o1.j.u (by omega)) [37,38] ?_
  conv=>whnf
  refine ⟨rfl,?_⟩
  conv=>whnf
  refine ckN (conf_ok m q0 q1 ({ q2 with n:={ q2.n with j:={ q2.n.j with d:=q2.n.j.d.crash n } } }) hcn) [0,1,2,3,4,5,6,7,8,9,10,11,12,13,14,15,16,17,18,19,20,21,22,23,24,25,26,27,28,29,30,31,32,33,34,35,36,37,46,39,40,41,42,43,44] [sRs [m.k.pub]] ?_
  conv=>whnf
  have hB:=nboot_ok hG hS hH m.conf hok.c m.k.pub hok.kp (q2.n.j.d.crash n) hd.1 hd.2 _ rfl
  cases hb:Nd.boot m.conf m.k.pub (q2.n.j.d.crash n) with
  | some n2 =>
   rw [hb] at h hB
   have h:(({ m with l:=[q0,q1,{ q2 with n:=n2 }] }:Ms),(0:Int))=(M,e):=h
   cases h
   have hM:[q0,q1,{ q2 with n:=n2 }]=[p0,p1,p2]:=hM
   cases hM
   refine ck hB [47,37,46] ?_
   conv=>whnf
   refine ⟨rfl,?_⟩
   conv=>whnf
   exact kv [0,1,2,3,4,5,6,7,8,9,10,11,12,13,14,15,16,17,18,19,20,21,22,23,24,25,26,27,28,29,30,31,32,33,34,35,36,37,38,39,40,41,42,43,44,2,3,4,5,6,7,8,10,11,12,13,14,15,16,17,18,19,20,21,22,24,25,26,27,28,29,30,48,49,50,51,52,53,54,55,56,57,58,59,44]
  | none =>
   rw [hb] at h hB
   have h:(({ m with l:=[q0,q1,{ q2 with n:={ q2.n with j:={ q2.n.j with d:=(Jn.open (q2.n.j.d.crash n)).d } } }] }:Ms),(3:Int))=(M,e):=h
   cases h
   have hM:[q0,q1,{ q2 with n:={ q2.n with j:={ q2.n.j with d:=(Jn.open (q2.n.j.d.crash n)).d } } }]=[p0,p1,p2]:=hM
   cases hM
   refine ck hB [47,37,46] ?_
   conv=>whnf
   refine ⟨rfl,?_⟩
   conv=>whnf
   exact kv [0,1,2,3,4,5,6,7,8,9,10,11,12,13,14,15,16,17,18,19,20,21,22,23,24,25,26,27,28,29,30,31,32,33,34,35,36,37,38,39,40,41,42,43,44,2,3,4,5,6,7,8,10,11,12,13,14,15,16,17,18,19,20,21,22,24,25,26,27,28,29,30,31,32,33,34,35,36,48,39,40,41,42,43,44]
theorem leafA0 {m:Ms} {q0 q1 q2:Pl} (hm:m.l=[q0,q1,q2]) {kind bi:Int} {n:Nat} {s:Bs} (h:12≤q0.view.length):m.leaf ⟨kind,0,bi,n,s⟩=(m,8):=by
 have hmh:m.has 0=true:=by unfold Ms.has; rw [hm]; rfl
 unfold Ms.leaf
 simp only [hmh,if_true,hm]
 exact if_pos (show ([q0].any fun x=>decide (12≤x.view.length))=true by simp [h])
theorem leafB0 {m:Ms} {q0 q1 q2:Pl} (hm:m.l=[q0,q1,q2]) {kind bi:Int} {n:Nat} {s:Bs} (h:¬ 12≤q0.view.length):m.leaf ⟨kind,0,bi,n,s⟩=({ m with l:=[{ q0 with view:=q0.view++[s.take 40] },q1,q2] },0):=by
 have hmh:m.has 0=true:=by unfold Ms.has; rw [hm]; rfl
 unfold Ms.leaf
 simp only [hmh,if_true,hm]
 exact if_neg (show ¬ ([q0].any fun x=>decide (12≤x.view.length))=true by simp [h])
theorem leafA1 {m:Ms} {q0 q1 q2:Pl} (hm:m.l=[q0,q1,q2]) {kind bi:Int} {n:Nat} {s:Bs} (h:12≤q1.view.length):m.leaf ⟨kind,1,bi,n,s⟩=(m,8):=by
 have hmh:m.has 1=true:=by unfold Ms.has; rw [hm]; rfl
 unfold Ms.leaf
 simp only [hmh,if_true,hm]
 exact if_pos (show ([q1].any fun x=>decide (12≤x.view.length))=true by simp [h])
theorem leafB1 {m:Ms} {q0 q1 q2:Pl} (hm:m.l=[q0,q1,q2]) {kind bi:Int} {n:Nat} {s:Bs} (h:¬ 12≤q1.view.length):m.leaf ⟨kind,1,bi,n,s⟩=({ m with l:=[q0,{ q1 with view:=q1.view++[s.take 40] },q2] },0):=by
 have hmh:m.has 1=true:=by unfold Ms.has; rw [hm]; rfl
 unfold Ms.leaf
 simp only [hmh,if_true,hm]
 exact if_neg (show ¬ ([q1].any fun x=>decide (12≤x.view.length))=true by simp [h])
theorem leafA2 {m:Ms} {q0 q1 q2:Pl} (hm:m.l=[q0,q1,q2]) {kind bi:Int} {n:Nat} {s:Bs} (h:12≤q2.view.length):m.leaf ⟨kind,2,bi,n,s⟩=(m,8):=by
 have hmh:m.has 2=true:=by unfold Ms.has; rw [hm]; rfl
 unfold Ms.leaf
 simp only [hmh,if_true,hm]
 exact if_pos (show ([q2].any fun x=>decide (12≤x.view.length))=true by simp [h])
theorem leafB2 {m:Ms} {q0 q1 q2:Pl} (hm:m.l=[q0,q1,q2]) {kind bi:Int} {n:Nat} {s:Bs} (h:¬ 12≤q2.view.length):m.leaf ⟨kind,2,bi,n,s⟩=({ m with l:=[q0,q1,{ q2 with view:=q2.view++[s.take 40] }] },0):=by
 have hmh:m.has 2=true:=by unfold Ms.has; rw [hm]; rfl
 unfold Ms.leaf
 simp only [hmh,if_true,hm]
 exact if_neg (show ¬ ([q2].any fun x=>decide (12≤x.view.length))=true by simp [h])
theorem leafA {m:Ms} {q0 q1 q2:Pl} (hm:m.l=[q0,q1,q2]) {kind ai bi:Int} {n:Nat} {s:Bs} (hh:m.has ai=false) (h:12≤q0.view.length∨12≤q1.view.length∨12≤q2.view.length):m.leaf ⟨kind,ai,bi,n,s⟩=(m,8):=by
 unfold Ms.leaf
 simp only [hh,Bool.false_eq_true,if_false,hm]
 exact if_pos (show ([q0,q1,q2].any fun x=>decide (12≤x.view.length))=true by simp [h])
theorem leafB {m:Ms} {q0 q1 q2:Pl} (hm:m.l=[q0,q1,q2]) {kind ai bi:Int} {n:Nat} {s:Bs} (hh:m.has ai=false) (h:¬ (12≤q0.view.length∨12≤q1.view.length∨12≤q2.view.length)):m.leaf ⟨kind,ai,bi,n,s⟩=({ m with l:=[{ q0 with view:=q0.view++[s.take 40] },{ q1 with view:=q1.view++[s.take 40] },{ q2 with view:=q2.view++[s.take 40] }] },0):=by
 unfold Ms.leaf
 simp only [hh,Bool.false_eq_true,if_false,hm]
 exact if_neg (show ¬ ([q0,q1,q2].any fun x=>decide (12≤x.view.length))=true by simpa using h)
theorem leaf_ok (m:Ms) (q0 q1 q2:Pl) (hm:m.l=[q0,q1,q2]) (hv:∀ q∈m.l,q.view.length≤12) (a:Ac) (ha:a.s.length≤4096) (M:Ms) (e:Int) (p0 p1 p2:Pl) (h:m.leaf a=(M,e)) (hM:M.l=[p0,p1,p2]):Tri Tryz.prog G 30 [.p 0 0 0,.a (acE a)] (mH m q0 q1 q2) (i64 e) (mP M p0 p1 p2++mQ M p0 p1 p2):=by
 obtain ⟨kind,ai,bi,n,s⟩:=a
 simp only at ha
 show Tri Tryz.prog G 30 [.p 0 0 0,.a [i64 kind,i64 ai,i64 bi,u64 n,sv s]] (mH m q0 q1 q2) (i64 e) (mP M p0 p1 p2++mQ M p0 p1 p2)
 have hsz:=sB_size s
 have e40:(if (40:Int)<(((sB s).size:Nat):Int) then (40:Int) else (((sB s).size:Nat):Int))=((min s.length 40:Nat):Int):=by rw [hsz]; split <;> omega
 have ex40:(sB s).extract (Int.toNat 0) (((min s.length 40:Nat):Int)).toNat=sB (s.take 40):=by
  rw [sB_ext]
  congr 1
  simp
  omega
 refine fn Tryz.func30 ?_
 conv=>whnf
 refine ⟨rfl,?_⟩
 conv=>whnf
 refine ckQ (has_ok m q0 q1 q2 ai) [0,1,2,3,4,5,6,7,8,9,10,11,12,13,14,15,16,17,18,19,20,21,22,23,24,25,26,27,28,29,30,31,32,33,34,35,36,37,38,39,40,41,42,43,44] ?_
 conv=>whnf
 by_cases hi:ai≥0∧ai<3
 ·rw [show (decide (ai≥0)&&decide (ai<3))=true from by rw [decide_eq_true hi.1,decide_eq_true hi.2]; rfl]
  conv=>whnf
  have hor:ai=0∨ai=1∨ai=2:=by omega
  rcases hor with rfl | rfl | rfl
  ·refine ⟨rfl,?_⟩
   conv=>whnf
   refine ⟨⟨of_decide_eq_true rfl,of_decide_eq_true rfl,of_decide_eq_true rfl⟩,?_⟩
   conv=>whnf
   refine lu 2 ?_
   conv=>whnf
   refine ⟨⟨of_decide_eq_true rfl,of_decide_eq_true rfl⟩,?_⟩
   conv=>whnf
   refine br_of (fun c1 => ?_) (fun c1 => ?_) <;> conv=>whnf
   ·have c1:12≤q0.view.length:=by have:=of_decide_eq_true c1; omega
    rw [leafA0 hm c1] at h
    cases h
    rw [hm] at hM
    cases hM
    exact kv [0,1,2,3,4,5,6,7,8,9,10,11,12,13,14,15,16,17,18,19,20,21,22,23,24,25,26,27,28,29,30,31,32,33,34,35,36,37,38,39,40,41,42,43,44,2,3,4,5,6,7,8,10,11,12,13,14,15,16,17,18,19,20,21,22,24,25,26,27,28,29,30,31,32,33,34,35,36,38,39,40,41,42,43,44]
   have c1:¬ 12≤q0.view.length:=by have:=of_decide_eq_false c1; omega
   rw [leafB0 hm c1] at h
   cases h
   have hM:[{ q0 with view:=q0.view++[s.take 40] },q1,q2]=[p0,p1,p2]:=hM
   cases hM
   refine lu 2 ?_
   conv=>whnf
   refine ⟨⟨of_decide_eq_true rfl,of_decide_eq_true rfl⟩,?_⟩
   conv=>whnf
   have hvi:=hv q0 (by rw [hm]; simp)
   rw [e40]
   refine ⟨⟨by decide,by omega,by rw [hsz]; omega⟩,?_⟩
   conv=>whnf
   rw [ex40]
   refine ⟨⟨rfl,rfl⟩,?_⟩
   conv=>whnf
   refine ⟨by simp,?_⟩
   conv=>whnf
   refine ⟨⟨by omega,by simp⟩,?_⟩
   conv=>whnf
   refine ⟨⟨of_decide_eq_true rfl,of_decide_eq_true rfl⟩,?_⟩
   conv=>whnf
   refine ⟨rfl,?_⟩
   conv=>whnf
   rw [show (sR q0.view++[[EV.v (Value.string (sB (s.take 40)))]])=sR (q0.view++[s.take 40]) from by simp,show q0.view.length+1=(q0.view++[s.take 40]).length from by simp]
   exact kv [0,1,2,3,4,5,6,7,8,9,10,11,12,13,14,15,16,17,18,19,20,21,22,23,24,25,26,27,28,29,30,31,32,33,34,35,36,37,38,39,40,41,42,43,44,2,3,4,5,6,7,8,10,11,12,13,14,15,48,17,18,19,20,21,22,24,25,26,27,28,29,30,31,32,33,34,35,36,38,39,40,41,42,43,44]
  ·refine ⟨rfl,?_⟩
   conv=>whnf
   refine ⟨⟨of_decide_eq_true rfl,of_decide_eq_true rfl,of_decide_eq_true rfl⟩,?_⟩
   conv=>whnf
   refine lu 2 ?_
   conv=>whnf
   refine ⟨⟨of_decide_eq_true rfl,of_decide_eq_true rfl⟩,?_⟩
   conv=>whnf
   refine br_of (fun c1 => ?_) (fun c1 => ?_) <;> conv=>whnf
   ·have c1:12≤q1.view.length:=by have:=of_decide_eq_true c1; omega
    rw [leafA1 hm c1] at h
    cases h
    rw [hm] at hM
    cases hM
    exact kv [0,1,2,3,4,5,6,7,8,9,10,11,12,13,14,15,16,17,18,19,20,21,22,23,24,25,26,27,28,29,30,31,32,33,34,35,36,37,38,39,40,41,42,43,44,2,3,4,5,6,7,8,10,11,12,13,14,15,16,17,18,19,20,21,22,24,25,26,27,28,29,30,31,32,33,34,35,36,38,39,40,41,42,43,44]
   have c1:¬ 12≤q1.view.length:=by have:=of_decide_eq_false c1; omega
   rw [leafB1 hm c1] at h
   cases h
   have hM:[q0,{ q1 with view:=q1.view++[s.take 40] },q2]=[p0,p1,p2]:=hM
   cases hM
   refine lu 2 ?_
   conv=>whnf
   refine ⟨⟨of_decide_eq_true rfl,of_decide_eq_true rfl⟩,?_⟩
   conv=>whnf
   have hvi:=hv q1 (by rw [hm]; simp)
   rw [e40]
   refine ⟨⟨by decide,by omega,by rw [hsz]; omega⟩,?_⟩
   conv=>whnf
   rw [ex40]
   refine ⟨⟨rfl,rfl⟩,?_⟩
   conv=>whnf
   refine ⟨by simp,?_⟩
   conv=>whnf
   refine ⟨⟨by omega,by simp⟩,?_⟩
   conv=>whnf
   refine ⟨⟨of_decide_eq_true rfl,of_decide_eq_true rfl⟩,?_⟩
   conv=>whnf
   refine ⟨rfl,?_⟩
   conv=>whnf
   rw [show (sR q1.view++[[EV.v (Value.string (sB (s.take 40)))]])=sR (q1.view++[s.take 40]) from by simp,show q1.view.length+1=(q1.view++[s.take 40]).length from by simp]
   exact kv [0,1,2,3,4,5,6,7,8,9,10,11,12,13,14,15,16,17,18,19,20,21,22,23,24,25,26,27,28,29,30,31,32,33,34,35,36,37,38,39,40,41,42,43,44,2,3,4,5,6,7,8,10,11,12,13,14,15,16,17,18,19,20,21,22,24,25,26,27,28,29,48,31,32,33,34,35,36,38,39,40,41,42,43,44]
  ·refine ⟨rfl,?_⟩
   conv=>whnf
   refine ⟨⟨of_decide_eq_true rfl,of_decide_eq_true rfl,of_decide_eq_true rfl⟩,?_⟩
   conv=>whnf
   refine lu 2 ?_
   conv=>whnf
   refine ⟨⟨of_decide_eq_true rfl,of_decide_eq_true rfl⟩,?_⟩
   conv=>whnf
   refine br_of (fun c1 => ?_) (fun c1 => ?_) <;> conv=>whnf
   ·have c1:12≤q2.view.length:=by have:=of_decide_eq_true c1; omega
    rw [leafA2 hm c1] at h
    cases h
    rw [hm] at hM
    cases hM
    exact kv [0,1,2,3,4,5,6,7,8,9,10,11,12,13,14,15,16,17,18,19,20,21,22,23,24,25,26,27,28,29,30,31,32,33,34,35,36,37,38,39,40,41,42,43,44,2,3,4,5,6,7,8,10,11,12,13,14,15,16,17,18,19,20,21,22,24,25,26,27,28,29,30,31,32,33,34,35,36,38,39,40,41,42,43,44]
   have c1:¬ 12≤q2.view.length:=by have:=of_decide_eq_false c1; omega
   rw [leafB2 hm c1] at h
   cases h
   have hM:[q0,q1,{ q2 with view:=q2.view++[s.take 40] }]=[p0,p1,p2]:=hM
   cases hM
   refine lu 2 ?_
   conv=>whnf
   refine ⟨⟨of_decide_eq_true rfl,of_decide_eq_true rfl⟩,?_⟩
   conv=>whnf
   have hvi:=hv q2 (by rw [hm]; simp)
   rw [e40]
   refine ⟨⟨by decide,by omega,by rw [hsz]; omega⟩,?_⟩
   conv=>whnf
   rw [ex40]
   refine ⟨⟨rfl,rfl⟩,?_⟩
   conv=>whnf
   refine ⟨by simp,?_⟩
   conv=>whnf
   refine ⟨⟨by omega,by simp⟩,?_⟩
   conv=>whnf
   refine ⟨⟨of_decide_eq_true rfl,of_decide_eq_true rfl⟩,?_⟩
   conv=>whnf
   refine ⟨rfl,?_⟩
   conv=>whnf
   rw [show (sR q2.view++[[EV.v (Value.string (sB (s.take 40)))]])=sR (q2.view++[s.take 40]) from by simp,show q2.view.length+1=(q2.view++[s.take 40]).length from by simp]
   exact kv [0,1,2,3,4,5,6,7,8,9,10,11,12,13,14,15,16,17,18,19,20,21,22,23,24,25,26,27,28,29,30,31,32,33,34,35,36,37,38,39,40,41,42,43,44,2,3,4,5,6,7,8,10,11,12,13,14,15,16,17,18,19,20,21,22,24,25,26,27,28,29,30,31,32,33,34,35,36,38,39,40,41,42,43,48]
 ·have hb:(decide (ai≥0)&&decide (ai<3))=false:=by
   cases hx:(decide (ai≥0)&&decide (ai<3)) with
   | false=>rfl
   | true=>simp only [Bool.and_eq_true,decide_eq_true_eq] at hx; exact absurd hx hi
  have hmh:m.has ai=false:=by unfold Ms.has; rw [hm]; exact hb
  rw [hb]
  conv=>whnf
  refine ⟨⟨of_decide_eq_true rfl,of_decide_eq_true rfl,of_decide_eq_true rfl⟩,?_⟩
  conv=>whnf
  refine lu 4 ?_
  conv=>whnf
  refine ⟨⟨of_decide_eq_true rfl,of_decide_eq_true rfl⟩,?_⟩
  conv=>whnf
  refine br_of (fun c1 => ?_) (fun d0 => ?_) <;> conv=>whnf
  ·have c1:12≤q0.view.length:=by have:=of_decide_eq_true c1; omega
   rw [leafA hm hmh (by simp [c1])] at h
   cases h
   rw [hm] at hM
   cases hM
   exact kv [0,1,2,3,4,5,6,7,8,9,10,11,12,13,14,15,16,17,18,19,20,21,22,23,24,25,26,27,28,29,30,31,32,33,34,35,36,37,38,39,40,41,42,43,44,2,3,4,5,6,7,8,10,11,12,13,14,15,16,17,18,19,20,21,22,24,25,26,27,28,29,30,31,32,33,34,35,36,38,39,40,41,42,43,44]
  have d0:¬ 12≤q0.view.length:=by have:=of_decide_eq_false d0; omega
  refine ⟨⟨of_decide_eq_true rfl,of_decide_eq_true rfl⟩,?_⟩
  conv=>whnf
  refine br_of (fun c1 => ?_) (fun d1 => ?_) <;> conv=>whnf
  ·have c1:12≤q1.view.length:=by have:=of_decide_eq_true c1; omega
   rw [leafA hm hmh (by simp [c1])] at h
   cases h
   rw [hm] at hM
   cases hM
   exact kv [0,1,2,3,4,5,6,7,8,9,10,11,12,13,14,15,16,17,18,19,20,21,22,23,24,25,26,27,28,29,30,31,32,33,34,35,36,37,38,39,40,41,42,43,44,2,3,4,5,6,7,8,10,11,12,13,14,15,16,17,18,19,20,21,22,24,25,26,27,28,29,30,31,32,33,34,35,36,38,39,40,41,42,43,44]
  have d1:¬ 12≤q1.view.length:=by have:=of_decide_eq_false d1; omega
  refine ⟨⟨of_decide_eq_true rfl,of_decide_eq_true rfl⟩,?_⟩
  conv=>whnf
  refine br_of (fun c1 => ?_) (fun d2 => ?_) <;> conv=>whnf
  ·have c1:12≤q2.view.length:=by have:=of_decide_eq_true c1; omega
   rw [leafA hm hmh (by simp [c1])] at h
   cases h
   rw [hm] at hM
   cases hM
   exact kv [0,1,2,3,4,5,6,7,8,9,10,11,12,13,14,15,16,17,18,19,20,21,22,23,24,25,26,27,28,29,30,31,32,33,34,35,36,37,38,39,40,41,42,43,44,2,3,4,5,6,7,8,10,11,12,13,14,15,16,17,18,19,20,21,22,24,25,26,27,28,29,30,31,32,33,34,35,36,38,39,40,41,42,43,44]
  have d2:¬ 12≤q2.view.length:=by have:=of_decide_eq_false d2; omega
  rw [leafB hm hmh (by simp only [d0,d1,d2,or_self,not_false_eq_true])] at h
  cases h
  have hM:[{ q0 with view:=q0.view++[s.take 40] },{ q1 with view:=q1.view++[s.take 40] },{ q2 with view:=q2.view++[s.take 40] }]=[p0,p1,p2]:=hM
  cases hM
  refine lu 4 ?_
  conv=>whnf
  refine ⟨⟨of_decide_eq_true rfl,of_decide_eq_true rfl⟩,?_⟩
  conv=>whnf
  rw [e40]
  refine ⟨⟨by decide,by omega,by rw [hsz]; omega⟩,?_⟩
  conv=>whnf
  rw [ex40]
  refine ⟨⟨rfl,rfl⟩,?_⟩
  conv=>whnf
  refine ⟨by simp,?_⟩
  conv=>whnf
  refine ⟨⟨by omega,by simp⟩,?_⟩
  conv=>whnf
  refine ⟨⟨of_decide_eq_true rfl,of_decide_eq_true rfl⟩,?_⟩
  conv=>whnf
  refine ⟨rfl,?_⟩
  conv=>whnf
  rw [show (sR q0.view++[[EV.v (Value.string (sB (s.take 40)))]])=sR (q0.view++[s.take 40]) from by simp,show q0.view.length+1=(q0.view++[s.take 40]).length from by simp]
  refine ⟨⟨of_decide_eq_true rfl,of_decide_eq_true rfl⟩,?_⟩
  conv=>whnf
  rw [e40]
  refine ⟨⟨by decide,by omega,by rw [hsz]; omega⟩,?_⟩
  conv=>whnf
  rw [ex40]
  refine ⟨⟨rfl,rfl⟩,?_⟩
  conv=>whnf
  refine ⟨by simp,?_⟩
  conv=>whnf
  refine ⟨⟨by omega,by simp⟩,?_⟩
  conv=>whnf
  refine ⟨⟨of_decide_eq_true rfl,of_decide_eq_true rfl⟩,?_⟩
  conv=>whnf
  refine ⟨rfl,?_⟩
  conv=>whnf
  rw [show (sR q1.view++[[EV.v (Value.string (sB (s.take 40)))]])=sR (q1.view++[s.take 40]) from by simp,show q1.view.length+1=(q1.view++[s.take 40]).length from by simp]
  refine ⟨⟨of_decide_eq_true rfl,of_decide_eq_true rfl⟩,?_⟩
  conv=>whnf
  rw [e40]
  refine ⟨⟨by decide,by omega,by rw [hsz]; omega⟩,?_⟩
  conv=>whnf
  rw [ex40]
  refine ⟨⟨rfl,rfl⟩,?_⟩
  conv=>whnf
  refine ⟨by simp,?_⟩
  conv=>whnf
  refine ⟨⟨by omega,by simp⟩,?_⟩
  conv=>whnf
  refine ⟨⟨of_decide_eq_true rfl,of_decide_eq_true rfl⟩,?_⟩
  conv=>whnf
  refine ⟨rfl,?_⟩
  conv=>whnf
  rw [show (sR q2.view++[[EV.v (Value.string (sB (s.take 40)))]])=sR (q2.view++[s.take 40]) from by simp,show q2.view.length+1=(q2.view++[s.take 40]).length from by simp]
  exact kv [0,1,2,3,4,5,6,7,8,9,10,11,12,13,14,15,16,17,18,19,20,21,22,23,24,25,26,27,28,29,30,31,32,33,34,35,36,37,38,39,40,41,42,43,44,2,3,4,5,6,7,8,10,11,12,13,14,15,50,17,18,19,20,21,22,24,25,26,27,28,29,52,31,32,33,34,35,36,38,39,40,41,42,43,54]
end Go.Proofs.YtdhgpocbcccieaaGreatDoor.M3
