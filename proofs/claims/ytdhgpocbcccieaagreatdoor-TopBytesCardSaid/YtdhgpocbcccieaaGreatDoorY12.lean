/- Part 12 of the proof: U2i U2j Ns Vf Wa Wb Wc We Wg Wh Wj Wk Wm Wn Wo Wq. -/
import Derived.Test.YtdhgpocbcccieaaGreatDoorY4
import Derived.Test.YtdhgpocbcccieaaGreatDoorY6
import Derived.Test.YtdhgpocbcccieaaGreatDoorY8
import Derived.Test.YtdhgpocbcccieaaGreatDoorY9
import Derived.Test.YtdhgpocbcccieaaGreatDoorY10
import Derived.Test.YtdhgpocbcccieaaGreatDoorY11
set_option maxRecDepth 1000000
set_option maxHeartbeats 20000000
set_option linter.unusedVariables false
set_option linter.unusedSimpArgs false
namespace Go.Proofs.YtdhgpocbcccieaaGreatDoor.M2
open Go Go.RowKit Go.Proofs.YtdhgpocbcccieaaGreatDoor.E Go.Proofs.YtdhgpocbcccieaaGreatDoor.M
variable {G:Gl}
theorem conf0_ok (m:Ms)  (hn:m.c.nodes=2):Tri Tryz.prog G 25 [.p 0 0 0] [msN nl m] (.a (ncE 1 m.conf)) ([msN nl m]++[sRs [m.k.pub]]):=by
 have hc:m.conf=⟨1,m.c.room,m.c.every,m.c.gossip,m.c.retry⟩:=by unfold Ms.conf; rw [hn]
 rw [hc]
 refine fn Tryz.func25 ?_
 conv=>whnf
 refine ckQ (lpub_ok m.k) [] ?_
 conv=>whnf
 refine ⟨rfl,?_⟩
 conv=>whnf
 rw [hn]
 exact kv [0,2]
theorem conf1_ok (m:Ms) (n0:Nd) (hn:m.c.nodes=2):Tri Tryz.prog G 25 [.p 0 0 0] [msN (.s 1 0 1 false) m,.rv 87 [[.p 2 0 0,.p 8 0 0,nl]],ndB 3 4 6 10 14 n0,sRs [n0.key],wtB 5 n0,hdRs n0.s.pend,jnB 7 8 n0.j,sRs n0.j.l,dkB 9 n0.j.d,wrRs n0.j.d.loose,tbB 11 12 n0.t,tmB n0.t.tried,hpB 13 n0.t.due n0.t.c.room,alRs n0.t.due,rqB n0] (.a (ncE 15 m.conf)) ([msN (.s 1 0 1 false) m,.rv 87 [[.p 2 0 0,.p 8 0 0,nl]],ndB 3 4 6 10 14 n0,sRs [n0.key],wtB 5 n0,hdRs n0.s.pend,jnB 7 8 n0.j,sRs n0.j.l,dkB 9 n0.j.d,wrRs n0.j.d.loose,tbB 11 12 n0.t,tmB n0.t.tried,hpB 13 n0.t.due n0.t.c.room,alRs n0.t.due,rqB n0]++[sRs [m.k.pub]]):=by
 have hc:m.conf=⟨1,m.c.room,m.c.every,m.c.gossip,m.c.retry⟩:=by unfold Ms.conf; rw [hn]
 rw [hc]
 refine fn Tryz.func25 ?_
 conv=>whnf
 refine ckQ (lpub_ok m.k) [] ?_
 conv=>whnf
 refine ⟨rfl,?_⟩
 conv=>whnf
 rw [hn]
 exact kv [0,1,2,3,4,5,6,7,8,9,10,11,12,13,14,16]
theorem new_ok (hG:GSig G) (hS:GSha G) (hH:GHas G) (sec:Bs) (hs:sec.length=32):Tri Tryz.prog G 5 [.a (mcE (plain sec 2))] [] (.t [.p 0 0 0,i64 0]) (mH (Ms.new (plain sec 2)) (pl0 sec 2) (pl0 sec 2)):=by
 have e1:Ms.new (plain sec 2)={ c:=plain sec 2,k:=keyL sec,l:=[pl0 sec 2,pl0 sec 2] }:=rfl
 have hcf:=conf_plain sec 2 (by decide) (by decide)
 have hpl:=pub_len sec
 have hln:=lnew_ok hG sec hs
 have hpl0:pl0 sec 2={ n:={ c:=⟨1,4,1,3,⟨2,8,0,3,2⟩⟩,key:=(keyL sec).pub,j:={ d:={ room:=100000 } },t:={ c:=⟨2,8,0,3,2⟩ } } }:=rfl
 rw [e1,hpl0]
 rw [e1] at hcf
 clear e1 hpl0
 generalize keyL sec=k at hcf hpl hln
 obtain ⟨nd,hnd⟩:∃ nd:Nd,nd={ c:=⟨1,4,1,3,⟨2,8,0,3,2⟩⟩,key:=k.pub,j:={ d:={ room:=100000 } },t:={ c:=⟨2,8,0,3,2⟩ } }:=⟨_,rfl⟩
 rw [← hnd]
 obtain ⟨m,hm⟩:∃ m:Ms,m={ c:=plain sec 2,k:=k }:=⟨_,rfl⟩
 have hmn:m.c.nodes=2:=by rw [hm]; rfl
 have hB:=nboot_ok hG hS hH ⟨1,4,1,3,⟨2,8,0,3,2⟩⟩ hcf k.pub hpl { room:=100000 } d0_w (by decide) (some nd) (by rw [boot0,hnd])
 refine fn Tryz.func5 ?_
 conv=>whnf
 refine clQ hln [] ?_
 conv=>whnf
 refine lu 3 ?_
 conv=>whnf
 refine cl (dnew_ok 100000 (by decide)) [] ?_
 conv=>whnf
 refine ckN (conf0_ok { c:=plain sec 2,k:=k }  rfl) [2] [sRs [k.pub]] ?_
 conv=>whnf
 refine ck hB [5,3,4] ?_
 conv=>whnf
 iterate 5 (first
  | (refine ⟨⟨rfl,rfl⟩,?_⟩; conv=>whnf)
  | (refine ⟨rfl,?_⟩; conv=>whnf)
  | (refine ⟨⟨by decide,by simp⟩,?_⟩; conv=>whnf)
  | (refine ⟨by simp,?_⟩; conv=>whnf)
  | skip)
 refine cl (dnew_ok 100000 (by decide)) [] ?_
 conv=>whnf
 refine ckN (conf1_ok { c:=plain sec 2,k:=k } nd rfl) [2,19,6,7,8,9,10,11,3,12,13,14,15,16,17] [sRs [k.pub]] ?_
 conv=>whnf
 refine ck hB [22,20,21] ?_
 conv=>whnf
 iterate 5 (first
  | (refine ⟨⟨rfl,rfl⟩,?_⟩; conv=>whnf)
  | (refine ⟨rfl,?_⟩; conv=>whnf)
  | (refine ⟨⟨by decide,by simp⟩,?_⟩; conv=>whnf)
  | (refine ⟨by simp,?_⟩; conv=>whnf)
  | skip)
 exact cv [2,36,300,6,7,8,9,10,11,3,12,13,14,15,16,17,301,23,24,25,26,27,28,20,29,30,31,32,33,34,302]
theorem round_ok (hG:GSig G) (hS:GSha G) (hH:GHas G) (m:Ms) (q0 q1:Pl) (hm:m.l=[q0,q1]) (b:Nat) (hok:Ms.ok (b+300) m) (hb:b≤90000) (M:Ms) (p0 p1:Pl) (h:m.round=M) (hM:M.l=[p0,p1]):Tri Tryz.prog G 40 [.p 0 0 0] (mH m q0 q1) (.t []) (mP M p0 p1++mQ M p0 p1):=by
 obtain ⟨c,k,l,net,now⟩:=m
 obtain rfl:l=[q0,q1]:=hm
 have hgo:c.gossip<18446744073709551616:=by have:=hok.c.g2; have e:(Ms.mk c k [q0,q1] net now).conf.gossip=c.gossip:=rfl; omega
 unfold Ms.round at h
 rw [show List.range (Ms.mk c k [q0,q1] net now).l.length=[0,1] from rfl,ticksF_s,ticksF_s] at h
 refine fn Tryz.func40 ?_
 conv=>whnf
 refine lu 3 ?_
 conv=>whnf
 have k0:=hok.tickR (b:=b+299) (by omega) (i:=0) (by show 0<2; decide)
 obtain ⟨o1,o2,o3, -, -⟩:=hok.n q0 (by simp)
 have w0:=hok.now
 have t0:=o1.tick (by omega) (addL now c.gossip) 0
 have e0:tickR (Ms.mk c k [q0,q1] net now) 0=Ms.mk c k [{ q0 with n:=(q0.n.tick (addL now c.gossip) 0).1 },q1] (sndN 0 net (q0.n.tick (addL now c.gossip) 0).2) (addL now c.gossip):=rfl
 rw [e0] at h k0
 have hq0:=ntick_ok (G:=G) hS hH q0.n o1 (by omega) (addL now c.gossip) 0 addL_lt (by decide)
 have ha0:=add_ok (G:=G) now c.gossip w0 hgo
 generalize addL now c.gossip=nw0 at *
 clear hok
 refine ckQ ha0 [] ?_
 conv=>whnf
 refine ⟨rfl,?_⟩
 conv=>whnf
 refine ⟨⟨of_decide_eq_true rfl,of_decide_eq_true rfl⟩,?_⟩
 conv=>whnf
 refine ck hq0 [3,4,5,6,7,8,9,10,11,12,13,14,15] ?_
 generalize (q0.n.tick nw0 0).1=n0 at *
 generalize (q0.n.tick nw0 0).2=out0 at *
 conv=>whnf
 refine ck (send_ok (Ms.mk c k [({ q0 with n:=n0 }:Pl),q1] net nw0) ({ q0 with n:=n0 }:Pl) q1 0 out0 (by omega)) [0,1,2,3,4,5,31,7,32,9,33,11,12,13,34,15,16,17,18,19,20,21,22,23,24,25,26,27,28,29,30,35] ?_
 conv=>whnf
 refine ⟨rfl,?_⟩
 conv=>whnf
 have hok:=k0
 clear k0 e0 t0
 have k1:=hok.tickR (b:=b+298) (by omega) (i:=1) (by show 1<2; decide)
 obtain ⟨o1,o2,o3, -, -⟩:=hok.n q1 (by simp)
 have w1:=hok.now
 have t1:=o1.tick (by omega) (addL nw0 c.gossip) 0
 have e1:tickR (Ms.mk c k [({ q0 with n:=n0 }:Pl),q1] (sndN 0 net out0) nw0) 1=Ms.mk c k [({ q0 with n:=n0 }:Pl),{ q1 with n:=(q1.n.tick (addL nw0 c.gossip) 0).1 }] (sndN 1 (sndN 0 net out0) (q1.n.tick (addL nw0 c.gossip) 0).2) (addL nw0 c.gossip):=rfl
 rw [e1] at h k1
 have hq1:=ntick_ok (G:=G) hS hH q1.n o1 (by omega) (addL nw0 c.gossip) 0 addL_lt (by decide)
 have ha1:=add_ok (G:=G) nw0 c.gossip w1 hgo
 generalize addL nw0 c.gossip=nw1 at *
 clear hok
 refine ckQ ha1 [] ?_
 conv=>whnf
 refine ⟨rfl,?_⟩
 conv=>whnf
 refine ⟨⟨of_decide_eq_true rfl,of_decide_eq_true rfl⟩,?_⟩
 conv=>whnf
 refine ck hq1 [17,18,19,20,21,22,23,24,25,26,27,28,29] ?_
 generalize (q1.n.tick nw1 0).1=n1 at *
 generalize (q1.n.tick nw1 0).2=out1 at *
 conv=>whnf
 refine ck (send_ok (Ms.mk c k [({ q0 with n:=n0 }:Pl),({ q1 with n:=n1 }:Pl)] (sndN 0 net out0) nw1) ({ q0 with n:=n0 }:Pl) ({ q1 with n:=n1 }:Pl) 1 out1 (by omega)) [0,1,36,3,4,5,31,7,32,9,33,11,12,13,34,15,16,17,18,19,37,21,38,23,39,25,26,27,40,29,30,41] ?_
 conv=>whnf
 refine ⟨rfl,?_⟩
 conv=>whnf
 have hok:=k1
 clear k1 e1 t1
 generalize hM1:Ms.mk c k [({ q0 with n:=n0 }:Pl),({ q1 with n:=n1 }:Pl)] (sndN 1 (sndN 0 net out0) out1) nw1=m1 at h hok
 obtain ⟨mr,hmr⟩:∃ mr,Ms.movesF 200 m1=mr:=⟨_,rfl⟩
 have h:mr=M:=hmr.symm.trans h
 rw [h] at hmr
 refine lp2 (fun (i:Nat) (m:Ms)=>([(0,.p 0 0 0),(41,i64 (i:Nat))],mP m (m.at_ 0) (m.at_ 1)++mQ m (m.at_ 0) (m.at_ 1))) (fun i m=>(i≤200∧m.l.length=2)∧Ms.ok (b+(201-i)) m∧Ms.movesF (200-i) m=M) (fun i _=>200-i) 0 m1 ⟨⟨by omega,by rw [← hM1]; rfl⟩,hok.mono (by omega),hmr⟩ (by subst hM1; exact kv [0,1,2,3,4,5,6,7,8,9,10,11,12,13,14,15,16,17,18,19,20,21,22,23,24,25,26,27,28,29,30,42,3,4,5,31,7,32,33,11,12,13,34,15,16,17,18,19,37,21,38,39,25,26,27,40,29,30]) fun i m ⟨⟨hi,hml⟩,hok,hx⟩ => ?_
 conv=>whnf
 refine br_of (fun h1 => ?_) (fun h1 => ?_) <;> conv=>whnf
 rotate_left
 ·have h1:i=200:=by have:=of_decide_eq_false h1; omega
  subst h1
  have hx:m=M:=hx
  subst hx
  have a0:m.at_ 0=p0:=by unfold Ms.at_; rw [hM]; rfl
  have a1:m.at_ 1=p1:=by unfold Ms.at_; rw [hM]; rfl
  rw [a0,a1]
  exact kv [0,1,2,3,4,5,6,7,8,9,10,11,12,13,14,15,16,17,18,19,20,21,22,23,24,25,26,27,28,29,30,31,32,33,34,35,36,37,38,39,40,41,42,43,44,45,46,47,48,49,50,51,52,53,54,55,56,57]
 have h1:i<200:=by have:=of_decide_eq_true h1; omega
 have hl:m.l=[m.at_ 0,m.at_ 1]:=two_of hml
 have hok2:Ms.ok (b+(200-i)+1) m:=by rwa [show b+(200-i)+1=b+(201-i) by omega]
 have hok3:=hok2.moved (by omega) dlv (Int.le_refl 0)
 have hl3:=(moved_len (m:=m) dlv).trans hml
 have ha:=movesF_a (k:=199-i) (m:=m)
 have hb2:=movesF_b (k:=199-i) (m:=m)
 rw [show 199-i+1=200-i by omega,hx] at ha hb2
 obtain ⟨M2,e2,hmv⟩:∃ M2 e2,m.moved dlv=(M2,e2):=⟨_,_,rfl⟩
 rw [hmv] at hok3 hl3 ha hb2
 have hl4:M2.l=[M2.at_ 0,M2.at_ 1]:=two_of hl3
 refine ck (moved_ok hG hS hH m (m.at_ 0) (m.at_ 1) hl (b+(200-i)) hok2 dlv (Int.le_refl 0) M2 e2 (M2.at_ 0) (M2.at_ 1) hmv hl4) [0,1,31,32,33,34,35,36,37,9,38,39,40,41,42,43,44,45,46,47,48,49,50,23,51,52,53,54,55,56,57] ?_
 conv=>whnf
 refine br_of (fun h2 => ?_) (fun h2 => ?_) <;> conv=>whnf
 ·obtain rfl:M=M2:=ha (bne_iff_ne.1 h2)
  have a0:M.at_ 0=p0:=by unfold Ms.at_; rw [hM]; rfl
  have a1:M.at_ 1=p1:=by unfold Ms.at_; rw [hM]; rfl
  rw [a0,a1]
  exact kv [0,1,2,3,4,5,6,7,8,9,10,11,12,13,14,15,16,17,18,19,20,21,22,23,24,25,26,27,28,29,30,58,59,60,61,62,63,64,65,66,67,68,69,70,71,72,73,74,75,76,77,78,79,80,81,82,83,84]
 ·have e0:e2=0:=by simpa using h2
  have hb2:=hb2 e0
  rw [wI64 (n:=(i:Int)+1) (by omega) (by omega)]
  exact ⟨(i+1,M2),⟨⟨⟨h1,hl3⟩,by rwa [show b+(201-(i+1))=b+(200-i) by omega],by rw [show 200-(i+1)=199-i by omega]; exact hb2.symm⟩,by show 200-(i+1)<200-i; omega⟩,kv [0,1,2,3,4,5,6,7,8,9,10,11,12,13,14,15,16,17,18,19,20,21,22,23,24,25,26,27,28,29,30,58,59,60,61,62,63,64,65,66,67,68,69,70,71,72,73,74,75,76,77,78,79,80,81,82,83,84]⟩
end Go.Proofs.YtdhgpocbcccieaaGreatDoor.M2
namespace Go.Proofs.YtdhgpocbcccieaaGreatDoor.M
open Go Go.RowKit Go.Proofs.YtdhgpocbcccieaaGreatDoor.E
variable {G:Gl}
theorem nhas_ok (n:Nd):Tri Tryz.prog G 37 [.p 0 0 0,i64 0] (ndH n) (bv true) (ndH n):=by
 refine fn Tryz.func37 ?_
 conv=>whnf
 exact cv [0,1,2,3,4,5,6,7,8,9,10,11,12]
theorem nstate_ok (n:Nd) (hp:n.s.pend.length≤1000000):Tri Tryz.prog G 13 [.p 0 0 0,i64 0] (ndH n) (.a (fsE 13 n.s)) (ndH n++[hdRs n.s.pend]):=by
 refine fn Tryz.func13 ?_
 conv=>whnf
 refine clQ (nhas_ok n) [0,1,2,3,4,5,6,7,8,9,10,11,12] ?_
 conv=>whnf
 refine ⟨by decide,?_⟩
 conv=>whnf
 refine clN (cloneH_ok n.s.pend hp) [3] [hdRs n.s.pend] ?_
 conv=>whnf
 exact cv [0,1,2,3,4,5,6,7,8,9,10,11,12,15]
end Go.Proofs.YtdhgpocbcccieaaGreatDoor.M
namespace Go.Proofs.YtdhgpocbcccieaaGreatDoor.M2
open Go Go.RowKit Go.Proofs.YtdhgpocbcccieaaGreatDoor.E Go.Proofs.YtdhgpocbcccieaaGreatDoor.M
variable {G:Gl}
def rndF:Nat→Ms→Ms
 | 0,m=>m
 | k+1,m=>rndF k m.round
theorem fixed_ok (hG:GSig G) (hS:GSha G) (hH:GHas G):Tri Tryz.prog G 16 [] [] (bv fixedL) []:=by
 have hp:=plain_ok (G:=G) hS [116,111,112] 2 (by decide)
 rw [show ([116,111,112]:Bs).take 100=[116,111,112] from rfl,ref_top] at hp
 have hs:(shaL [116,111,112]).length=32:=shaL_len _
 have hn:=new_ok hG hS hH (shaL [116,111,112]) hs
 have hok:=new_inv (shaL [116,111,112]) 2 (by decide) (by decide)
 have hl:(Ms.new (plain (shaL [116,111,112]) 2)).l=[pl0 (shaL [116,111,112]) 2,pl0 (shaL [116,111,112]) 2]:=rfl
 obtain ⟨fl,hfl⟩:∃ fl,fixedL=fl:=⟨_,rfl⟩
 rw [hfl]
 unfold fixedL at hfl
 simp only at hfl
 generalize Ms.new (plain (shaL [116,111,112]) 2)=m at *
 generalize pl0 (shaL [116,111,112]) 2=q at *
 generalize plain (shaL [116,111,112]) 2=cc at *
 clear hs
 refine fn Tryz.func16 ?_
 conv=>whnf
 refine ckQ hp [] ?_
 conv=>whnf
 refine ck hn [] ?_
 conv=>whnf
 have h1:=hok.act (b:=99999) (by omega) ⟨5,0,0,0,[97]⟩
 have l1:(m.act ⟨5,0,0,0,[97]⟩).1.l.length=2:=(act_len _).trans (by rw [hl]; rfl)
 obtain ⟨m1,e1,hm1⟩:∃ m1 e1,m.act ⟨5,0,0,0,[97]⟩=(m1,e1):=⟨_,_,rfl⟩
 rw [hm1] at h1 l1 hfl
 refine ck (do_ok hG hS hH m q q hl 99999 hok ⟨5,0,0,0,[97]⟩ m1 e1 (m1.at_ 0) (m1.at_ 1) hm1 (two_of l1)) [0,1,2,3,4,5,6,7,8,9,10,11,12,13,14,15,16,17,18,19,20,21,22,23,24,25,26,27,28,29,30] ?_
 conv=>whnf
 have h2:=h1.act (b:=99998) (by omega) ⟨5,1,0,0,[98]⟩
 have l2:(m1.act ⟨5,1,0,0,[98]⟩).1.l.length=2:=(act_len _).trans l1
 obtain ⟨m2,e2,hm2⟩:∃ m2 e2,m1.act ⟨5,1,0,0,[98]⟩=(m2,e2):=⟨_,_,rfl⟩
 have hfl:(Bd.check m2.round.round.round.round.k.pub (m2.round.round.round.round.at_ 0).n.s.bad&&Bd.check m2.round.round.round.round.k.pub (m2.round.round.round.round.at_ 1).n.s.bad&&m2.round.round.round.round.net.length==0)=fl:=by rw [← hfl,hm2]
 rw [hm2] at h2 l2
 refine ck (do_ok hG hS hH m1 (m1.at_ 0) (m1.at_ 1) (two_of l1) 99998 h1 ⟨5,1,0,0,[98]⟩ m2 e2 (m2.at_ 0) (m2.at_ 1) hm2 (two_of l2)) [0,1,31,32,33,34,35,36,37,9,38,39,40,41,42,43,44,45,46,47,48,49,50,23,51,52,53,54,55,56,57] ?_
 conv=>whnf
 clear hok h1 hp hn
 obtain ⟨mf,hmf⟩:∃ mf,m2.round.round.round.round=mf:=⟨_,rfl⟩
 rw [hmf] at hfl
 refine lp2 (fun (i:Nat) (m:Ms)=>([(0,bv false),(1,.p 0 0 0),(3,i64 (i:Nat))],mP m (m.at_ 0) (m.at_ 1)++mQ m (m.at_ 0) (m.at_ 1))) (fun i m=>(i≤4∧m.l.length=2)∧Ms.ok (80000+(4-i)*300) m∧rndF (4-i) m=mf) (fun i _=>4-i) 0 m2 ⟨⟨by omega,l2⟩,h2.mono (by omega),hmf⟩ (kv [0,1,2,3,4,5,6,7,8,9,10,11,12,13,14,15,16,17,18,19,20,21,22,23,24,25,26,27,28,29,30,58,59,60,61,62,63,64,65,66,67,68,69,70,71,72,73,74,75,76,77,78,79,80,81,82,83,84]) fun i m ⟨⟨hi,hml⟩,hok,hx⟩ => ?_
 conv=>whnf
 refine br_of (fun h1 => ?_) (fun h1 => ?_) <;> conv=>whnf
 rotate_left
 ·have h1:i=4:=by have:=of_decide_eq_false h1; omega
  subst h1
  have hx:m=mf:=hx
  subst hx
  clear hmf h2
  refine ckQ (node0_ok m (m.at_ 0) (m.at_ 1)) [0,1,31,32,33,34,35,36,37,9,38,39,40,41,42,43,44,45,46,47,48,49,50,23,51,52,53,54,55,56,57] ?_
  conv=>whnf
  refine ckQ (node1_ok m (m.at_ 0) (m.at_ 1)) [0,1,31,32,33,34,35,36,37,9,38,39,40,41,42,43,44,45,46,47,48,49,50,23,51,52,53,54,55,56,57] ?_
  conv=>whnf
  have hml2:=two_of hml
  obtain ⟨a1, -, -, -, -⟩:=hok.n _ (at_mem (i:=0) (by omega))
  obtain ⟨b1', -, -, -, -⟩:=hok.n _ (at_mem (i:=1) (by omega))
  have hkp:m.k.pub.length≤10000:=by rw [hok.kp]; decide
  have c0:=bcheck_ok (G:=G) hG hS m.k.pub (m.at_ 0).n.s.bad hkp
  have c1:=bcheck_ok (G:=G) hG hS m.k.pub (m.at_ 1).n.s.bad hkp
  refine ckQ (public_ok m (m.at_ 0) (m.at_ 1)) [0,1,31,32,33,34,35,36,37,9,38,39,40,41,42,43,44,45,46,47,48,49,50,23,51,52,53,54,55,56,57] ?_
  conv=>whnf
  refine ckQ (node0_ok m (m.at_ 0) (m.at_ 1)) [0,1,31,32,33,34,35,36,37,9,38,39,40,41,42,43,44,45,46,47,48,49,50,23,51,52,53,54,55,56,57] ?_
  conv=>whnf
  refine ckN (nstate_ok (m.at_ 0).n (by have:=a1.p.1; have:=a1.c.r2; omega)) [32,33,34,35,36,37,9,38,39,40,41,42,43] [hdRs (m.at_ 0).n.s.pend] ?_
  conv=>whnf
  generalize Bd.check m.k.pub (m.at_ 0).n.s.bad=b0 at *
  generalize Bd.check m.k.pub (m.at_ 1).n.s.bad=b1 at *
  refine ckQ c0 [] ?_
  conv=>whnf
  cases b0 with
  | false =>
   obtain rfl:false=fl:=hfl
   conv=>whnf
   exact kv []
  | true =>
   conv=>whnf
   refine ckQ (public_ok m (m.at_ 0) (m.at_ 1)) [0,1,31,32,33,34,35,36,37,9,38,39,40,41,42,43,44,45,46,47,48,49,50,23,51,52,53,54,55,56,57] ?_
   conv=>whnf
   refine ckQ (node1_ok m (m.at_ 0) (m.at_ 1)) [0,1,31,32,33,34,35,36,37,9,38,39,40,41,42,43,44,45,46,47,48,49,50,23,51,52,53,54,55,56,57] ?_
   conv=>whnf
   refine ckN (nstate_ok (m.at_ 1).n (by have:=b1'.p.1; have:=b1'.c.r2; omega)) [45,46,47,48,49,50,23,51,52,53,54,55,56] [hdRs (m.at_ 1).n.s.pend] ?_
   conv=>whnf
   refine ckQ c1 [] ?_
   conv=>whnf
   cases b1 with
   | false =>
    obtain rfl:false=fl:=hfl
    conv=>whnf
    exact kv []
   | true =>
    have hfl:(m.net.length==0)=fl:=hfl
    conv=>whnf
    refine ckN (net_ok m (m.at_ 0) (m.at_ 1) hok.net) [0,1,31,32,33,34,35,36,37,9,38,39,40,41,42,43,44,45,46,47,48,49,50,23,51,52,53,54,55,56,57] [pkRs m.net] ?_
    conv=>whnf
    rw [show (((m.net.length:Nat):Int)==0)=fl from by rw [← hfl]; cases m.net <;> rfl]
    exact kv []
 have h1:i<4:=by have:=of_decide_eq_true h1; omega
 have hok2:Ms.ok (80000+(3-i)*300+300) m:=by rwa [show 80000+(3-i)*300+300=80000+(4-i)*300 by omega]
 obtain ⟨i1,i2⟩:=round_inv hok2 (by omega)
 have hr:=round_ok hG hS hH m (m.at_ 0) (m.at_ 1) (two_of hml) _ hok2 (by omega) m.round (m.round.at_ 0) (m.round.at_ 1) rfl (two_of (i2.trans hml))
 have hx2:rndF (3-i) m.round=mf:=by rw [← hx,show 4-i=3-i+1 by omega]; rfl
 generalize m.round=M at *
 refine ck hr [0,1,31,32,33,34,35,36,37,9,38,39,40,41,42,43,44,45,46,47,48,49,50,23,51,52,53,54,55,56,57] ?_
 conv=>whnf
 rw [wI64 (n:=(i:Int)+1) (by omega) (by omega)]
 exact ⟨(i+1,M),⟨⟨⟨h1,i2.trans hml⟩,by rwa [show 4-(i+1)=3-i by omega],by rw [show 4-(i+1)=3-i by omega]; exact hx2⟩,by show 4-(i+1)<4-i; omega⟩,kv [0,1,2,3,4,5,6,7,8,9,10,11,12,13,14,15,16,17,18,19,20,21,22,23,24,25,26,27,28,29,30,58,59,60,61,62,63,64,65,66,67,68,69,70,71,72,73,74,75,76,77,78,79,80,81,82,83,84]⟩
end Go.Proofs.YtdhgpocbcccieaaGreatDoor.M2
namespace Go.Proofs.YtdhgpocbcccieaaGreatDoor.M
open Go Go.RowKit
theorem or_add (acc x i:Nat) (h:acc<2 ^ (7*i)):acc|||(x<<<(7*i))=acc+x*2 ^ (7*i):=by
 rw [Nat.or_comm,Nat.shiftLeft_eq,Nat.mul_comm x,← Nat.two_pow_add_eq_or_of_lt h,Nat.add_comm]
theorem or_addM (acc x i:Nat) (h:acc<2 ^ (7*i)) (hx:x*2 ^ (7*i)<18446744073709551616):acc|||(x<<<(7*i))%18446744073709551616=acc+x*2 ^ (7*i):=by
 rw [← or_add acc x i h,Nat.mod_eq_of_lt]
 rwa [Nat.shiftLeft_eq]
def lim7 (i:Nat):Nat:=2 ^ (64-7*i)
theorem lim7_step {i:Nat} (h:i≤8):lim7 i=128*lim7 (i+1):=by
 unfold lim7
 rw [show 64-7*i=(64-7*(i+1))+7 by omega,Nat.pow_add,Nat.mul_comm]
theorem lim7_mul {i:Nat} (h:i≤9):lim7 i*2 ^ (7*i)=18446744073709551616:=by
 unfold lim7
 rw [← Nat.pow_add,show 64-7*i+7*i=64 by omega]
theorem u8v (n:Nat) (h:n<256):n.toUInt8.toNat=n:=by
 simp [Nat.toUInt8,UInt8.toNat_ofNat',Nat.mod_eq_of_lt h]
theorem numR_numF:∀ (k i acc n:Nat) (l:Bs),i+k=10→0<k→acc<2 ^ (7*i)→n<lim7 i→(1≤i→1≤n)→numR k i acc (numF k n++l)=(0,acc+n*2 ^ (7*i),l):=by
 intro k
 induction k with
 | zero=>intro i acc n l _ h0; omega
 | succ k ih =>
  intro i acc n l hik _ hacc hn h1
  have hm:=lim7_mul (i:=i) (by omega)
  have hnm:n*2 ^ (7*i)<18446744073709551616:=by rw [← hm]; exact Nat.mul_lt_mul_of_pos_right hn (Nat.two_pow_pos _)
  unfold numF
  by_cases hs:n<128
  ·rw [if_pos hs]
   simp only [List.cons_append,List.nil_append,numR,u8v n (by omega)]
   have h9:¬ (i=9∧1<n):=fun ⟨h,h'⟩=>by
    subst h
    have:lim7 9=2:=by decide
    omega
   rw [if_neg (by omega),if_neg (by omega),Nat.mod_eq_of_lt hs,or_addM acc n i hacc hnm]
  ·rw [if_neg hs]
   have hi:i≤8:=by
    have:i≤9:=by omega
    by_cases h9:i=9
    ·subst h9
     have:lim7 9=2:=by decide
     omega
    ·omega
   have hmod:n%128<128:=Nat.mod_lt _ (by decide)
   have hlt:n%128*2 ^ (7*i)<18446744073709551616:=Nat.lt_of_le_of_lt (Nat.mul_le_mul_right _ (Nat.mod_le _ _)) hnm
   simp only [List.cons_append,numR,u8v (n%128+128) (by omega)]
   rw [if_pos (by omega),show (n%128+128)%128=n%128 by omega,or_addM acc _ i hacc hlt]
   have hp:2 ^ (7*(i+1))=128*2 ^ (7*i):=by rw [show 7*(i+1)=7*i+7 by omega,Nat.pow_add,Nat.mul_comm]
   have hn':n/128<lim7 (i+1):=by
    have:=lim7_step hi
    omega
   rw [ih (i+1) _ (n/128) l (by omega) (by omega) ?_ hn' (by omega),hp]
   ·congr 2
    have e:n=128*(n/128)+n%128:=(Nat.div_add_mod n 128).symm
    generalize 2 ^ (7*i)=W at *
    generalize n/128=a at *
    generalize n%128=b at *
    subst e
    rw [Nat.add_mul,Nat.mul_assoc,← Nat.mul_assoc a 128,Nat.mul_comm a 128,Nat.mul_assoc]
    omega
   ·rw [hp]
    generalize 2 ^ (7*i)=W at *
    have:n%128*W≤127*W:=Nat.mul_le_mul_right _ (by omega)
    omega
theorem numR_num (n:Nat) (h:n<18446744073709551616) (l:Bs):numR 10 0 0 (numL n++l)=(0,n,l):=by
 have:=numR_numF 10 0 0 n l rfl (by decide) (by decide) (by rw [show lim7 0=18446744073709551616 by decide]; exact h) (by omega)
 simpa [numL] using this
theorem numF_numR:∀ (k i acc:Nat) (s:Bs) (v:Nat) (l:Bs),i+k=10→acc<2 ^ (7*i)→numR k i acc s=(0,v,l)→∃ n,n<lim7 i∧(1≤i→1≤n)∧v=acc+n*2 ^ (7*i)∧s=numF k n++l:=by
 intro k
 induction k with
 | zero=>intro i acc s v l _ _ h; simp [numR] at h
 | succ k ih =>
  intro i acc s v l hik hacc h
  cases s with
  | nil=>simp [numR] at h
  | cons c s =>
   simp only [numR] at h
   have hc:c.toNat<256:=c.toNat_lt
   have hcc:c.toNat.toUInt8=c:=by simp [Nat.toUInt8]
   split at h
   ·rename_i h128
    have hk:0<k:=by
     rcases Nat.eq_zero_or_pos k with e | e
     ·subst e; simp [numR] at h
     ·exact e
    have hm:=lim7_mul (i:=i) (by omega)
    have hmod:c.toNat%128<128:=Nat.mod_lt _ (by decide)
    have h7:2 ^ 7≤lim7 i:=by unfold lim7; exact Nat.pow_le_pow_right (by decide) (by omega)
    have hlt:c.toNat%128*2 ^ (7*i)<18446744073709551616:=by
     rw [← hm]
     exact Nat.mul_lt_mul_of_pos_right (by omega) (Nat.two_pow_pos _)
    rw [or_addM acc _ i hacc hlt] at h
    have hp:2 ^ (7*(i+1))=128*2 ^ (7*i):=by rw [show 7*(i+1)=7*i+7 by omega,Nat.pow_add,Nat.mul_comm]
    obtain ⟨n,h1,h2,h3,h4⟩:=ih (i+1) _ s v l (by omega) (by
     rw [hp]
     generalize 2 ^ (7*i)=W at *
     have:c.toNat%128*W≤127*W:=Nat.mul_le_mul_right _ (by omega)
     omega) h
    have h2:=h2 (by omega)
    have hst:=lim7_step (i:=i) (by omega)
    refine ⟨128*n+c.toNat%128,by omega,fun _=>by omega,?_,?_⟩
    ·rw [h3,hp]
     generalize 2 ^ (7*i)=W at *
     generalize c.toNat%128=b at *
     rw [Nat.add_mul,← Nat.mul_assoc n,Nat.mul_comm n 128]
     omega
    ·unfold numF
     rw [if_neg (by omega),show (128*n+c.toNat%128)%128+128=c.toNat by omega,show (128*n+c.toNat%128)/128=n by omega,hcc,h4]
     rfl
   ·rename_i h128
    split at h
    ·cases h
    ·rename_i h0
     have hm:=lim7_mul (i:=i) (by omega)
     have hl:c.toNat<lim7 i:=by
      by_cases h9:i=9
      ·subst h9
       have:lim7 9=2:=by decide
       omega
      ·have:2 ^ 7≤lim7 i:=by unfold lim7; exact Nat.pow_le_pow_right (by decide) (by omega)
       omega
     rw [Nat.mod_eq_of_lt (show c.toNat<128 by omega),or_addM acc _ i hacc (by rw [← hm]; exact Nat.mul_lt_mul_of_pos_right hl (Nat.two_pow_pos _))] at h
     injection h with _ h
     injection h with h h'
     subst h'
     refine ⟨c.toNat,hl,fun _=>by omega,h.symm,?_⟩
     unfold numF
     rw [if_pos (by omega),hcc]
     rfl
theorem num_numR {s:Bs} {v:Nat} {l:Bs} (h:numR 10 0 0 s=(0,v,l)):v<18446744073709551616∧s=numL v++l:=by
 obtain ⟨n,h1,_,h3,h4⟩:=numF_numR 10 0 0 s v l rfl (by decide) h
 have e:v=n:=by simpa using h3
 subst e
 exact ⟨by rw [show lim7 0=18446744073709551616 by decide] at h1; exact h1,h4⟩
abbrev B64:Nat:=18446744073709551616
theorem rTk_app (s r:Bs) (n:Int) (h:n=s.length):rTk n (s++r,0)=(s,(r,0)):=by
 unfold rTk
 simp only [h]
 rw [if_neg (by simp),if_neg (by omega),if_neg (by simp)]
 simp
theorem rNm_app (n:Nat) (h:n<B64) (r:Bs):rNm (numL n++r,0)=(n,(r,0)):=by
 unfold rNm
 rw [if_neg (by simp)]
 simp only [numR_num n h r]
theorem rBy_app (c:UInt8) (r:Bs):rBy ([c]++r,0)=((c.toNat:Int),(r,0)):=by
 unfold rBy
 rw [rTk_app [c] r 1 rfl]
theorem wNum_t (t:Bs) (n:Nat):wNum (t,0) n=(t++numL n,0):=by simp [wNum,wPut]
theorem wRaw_t (t s:Bs) (n:Nat) (h:s.length=n):wRaw (t,0) s n=(t++s,0):=by simp [wRaw,wPut,h]
theorem wByte_t (t:Bs) (n:Int) (h0:0≤n) (h:n≤255):wByte (t,0) n=(t++[n.toNat.toUInt8],0):=by
 have:(n%256).toNat=n.toNat:=by omega
 simp [wByte,wPut,h0,h,this]
theorem byN (n:Int) (h0:0≤n) (h:n≤255):((n.toNat.toUInt8).toNat:Int)=n:=by
 rw [u8v _ (by omega)]
 omega
def hdT (h:Hd):Bs:=numL h.size++(numL h.time++(h.root++h.sig))
theorem Hd.right_iff {h:Hd} (k:h.right=true):1≤h.size∧h.size≤1099511627776∧h.time≤1099511627776∧h.root.length=32∧h.sig.length=64:=by
 simpa [Hd.right,and_assoc] using k
theorem hd_put (t:Bs) {h:Hd} (k:h.right=true):Hd.put (t,0) h=(t++hdT h,0):=by
 obtain ⟨_,_,_,h1,h2⟩:=Hd.right_iff k
 simp [Hd.put,wNum_t,wRaw_t _ _ _ h1,wRaw_t _ _ _ h2,hdT]
theorem hd_get {h:Hd} (k:h.right=true) (r:Bs):Hd.get (hdT h++r,0)=(h,(r,0)):=by
 obtain ⟨_,h3,h4,h1,h2⟩:=Hd.right_iff k
 unfold Hd.get hdT
 simp only [List.append_assoc]
 rw [rNm_app _ (by unfold B64; omega)]
 simp only
 rw [rNm_app _ (by unfold B64; omega)]
 simp only
 rw [rTk_app _ _ _ (by rw [h1]; rfl)]
 simp only
 rw [rTk_app _ _ _ (by rw [h2]; rfl)]
theorem raws_put (l:List Bs) (h:∀ x∈l,x.length=32):∀ t:Bs,wRaws (t,0) l=(t++l.flatten,0):=by
 induction l with
 | nil=>intro t; simp [wRaws]
 | cons x l ih =>
  intro t
  have:=ih (fun y hy=>h y (List.mem_cons_of_mem _ hy)) (t++x)
  unfold wRaws at this ⊢
  rw [List.foldl_cons,wRaw_t t x 32 (h x (by simp)),this]
  simp
theorem raws_get (l:List Bs) (h:∀ x∈l,x.length=32) (r:Bs):rRaws l.length (l.flatten++r,0)=(l,(r,0)):=by
 induction l with
 | nil=>rfl
 | cons x l ih =>
  have hx:=h x (by simp)
  simp only [List.length_cons,rRaws,List.flatten_cons,List.append_assoc]
  rw [rTk_app x _ 32 (by rw [hx]; rfl)]
  simp only
  rw [ih fun y hy=>h y (List.mem_cons_of_mem _ hy)]
def pathT (l:List Bs):Bs:=numL l.length++l.flatten
theorem path_put (l:List Bs) (h:∀ x∈l,x.length=32) (t:Bs):wList (t,0) l=(t++pathT l,0):=by
 unfold wList
 rw [wNum_t,raws_put l h]
 simp [pathT]
theorem path_get (l:List Bs) (h:∀ x∈l,x.length=32) (hl:l.length≤48) (r:Bs):rList (pathT l++r,0)=(l,(r,0)):=by
 unfold rList pathT
 rw [List.append_assoc,rNm_app _ (by unfold B64; omega)]
 simp only
 rw [if_neg (by omega),raws_get l h]
theorem path_all {l:List Bs} (h:(l.all fun h=>h.length==32)=true):∀ x∈l,x.length=32:=fun x hx=>by simpa using List.all_eq_true.1 h x hx
def bdT (b:Bd):Bs:=hdT b.a++(hdT b.b++pathT b.path)
theorem Bd.right_iff {b:Bd} (k:b.right=true):b.a.right=true∧b.b.right=true∧b.path.length≤48∧∀ x∈b.path,x.length=32:=by
 simp only [Bd.right,Bool.and_eq_true,decide_eq_true_eq] at k
 exact ⟨k.1.1.1,k.1.1.2,k.1.2,path_all k.2⟩
theorem bd_put (t:Bs) {b:Bd} (k:b.right=true):Bd.put (t,0) b=(t++bdT b,0):=by
 obtain ⟨h1,h2,h3,h4⟩:=Bd.right_iff k
 unfold Bd.put
 rw [hd_put t h1,hd_put _ h2,wNum_t,raws_put _ h4]
 simp [bdT,pathT]
theorem bd_get {b:Bd} (k:b.right=true) (r:Bs):Bd.get (bdT b++r,0)=(b,(r,0)):=by
 obtain ⟨h1,h2,h3,h4⟩:=Bd.right_iff k
 unfold Bd.get bdT pathT
 simp only [List.append_assoc]
 rw [hd_get h1]
 simp only
 rw [hd_get h2]
 simp only
 rw [rNm_app _ (by unfold B64; omega)]
 simp only
 rw [if_neg (by omega),Nat.min_eq_left h3,raws_get _ h4]
theorem bd_enc {b:Bd} (k:b.right=true):b.enc=bdT b:=by
 unfold Bd.enc
 rw [k,bd_put [] k]
 simp [wText]
theorem bd_dec {b:Bd} (k:b.right=true):Bd.dec b.enc=(b,0):=by
 have:=bd_get k []
 rw [List.append_nil] at this
 rw [bd_enc k]
 simp [Bd.dec,this,rEn,k]
def mkT (k:Mk):Bs:=[k.log.toNat.toUInt8]++([(if k.bad then 1 else 0:UInt8)]++(numL k.size++(if k.size>0 then k.root else [])))
def mkOk (k:Mk):Prop:=0≤k.log∧k.log<8∧k.size≤1099511627776∧(0<k.size→k.root.length=32)∧(k.size=0→k.root=[])
theorem marksF_ok:∀ (l:List Mk) (last:Int), -1≤last→marksF last l=true→∀ k∈l,mkOk k:=by
 intro l
 induction l with
 | nil=>intro last _ _ k hk; cases hk
 | cons x l ih =>
  intro last h0 h k hk
  unfold marksF at h
  split at h
  ·cases h
  ·rename_i hx
   simp only [Bool.or_eq_true,not_or,decide_eq_true_eq,Bool.not_eq_true',Bool.not_eq_true,Bool.and_eq_true,beq_iff_eq,Bool.or_eq_false_iff,bne_iff_ne,ne_eq] at hx
   rcases List.mem_cons.1 hk with e | e
   ·subst e
    obtain ⟨⟨⟨⟨h1,h2⟩,h3⟩,h4⟩,h5⟩:=hx
    refine ⟨by omega,by omega,by omega,fun hp => ?_,fun hz=>Decidable.byContradiction fun hn=>h5 ⟨hz,hn⟩⟩
    refine Decidable.byContradiction fun hn=>h4 ⟨by simpa using hn,?_⟩
    have:k.size≠0:=by omega
    simp [this]
   ·exact ih x.log (by omega) h k e
theorem mk_put (t:Bs) {k:Mk} (h:mkOk k):wMark (t,0) k=(t++mkT k,0):=by
 obtain ⟨h0,h8,hs,h1,h2⟩:=h
 unfold wMark mkT
 rw [wByte_t t k.log h0 (by omega),wByte_t _ _ (by split <;> omega) (by split <;> omega),wNum_t]
 simp only
 by_cases hp:k.size>0
 ·rw [if_pos hp,if_pos hp,wRaw_t _ _ _ (h1 hp)]
  cases k.bad <;> simp
 ·rw [if_neg hp,if_neg hp]
  cases k.bad <;> simp
theorem mk_get {k:Mk} (h:mkOk k) (r:Bs):rMark (mkT k++r,0)=(k,(r,0)):=by
 obtain ⟨h0,h8,hs,h1,h2⟩:=h
 unfold rMark mkT
 simp only [List.append_assoc]
 rw [rBy_app]
 simp only
 rw [rBy_app]
 simp only
 have hb:(((if k.bad=true then 1 else 0:UInt8)).toNat:Int)=if k.bad=true then 1 else 0:=by cases k.bad <;> rfl
 rw [hb,if_neg (by split <;> omega),rNm_app _ (by unfold B64; omega)]
 simp only
 have hl:((k.log.toNat.toUInt8).toNat:Int)=k.log:=byN _ h0 (by omega)
 have hbb:(((if k.bad=true then 1 else 0:Int))==1)=k.bad:=by cases k.bad <;> rfl
 by_cases hp:k.size>0
 ·rw [if_pos hp,if_pos hp,rTk_app _ _ _ (by rw [h1 hp]; rfl),hl,hbb]
 ·rw [if_neg hp,if_neg hp,hl,hbb,List.nil_append]
  rw [← h2 (by omega)]
def mksT (l:List Mk):Bs:=[l.length.toUInt8]++l.flatMap mkT
theorem mks_put (l:List Mk) (h:∀ k∈l,mkOk k) (hl:l.length≤8) (t:Bs):wMarks (t,0) l=(t++mksT l,0):=by
 unfold wMarks mksT
 rw [wByte_t t l.length (by omega) (by omega)]
 have:∀ (l:List Mk),(∀ k∈l,mkOk k)→∀ t,l.foldl wMark (t,0)=(t++l.flatMap mkT,0):=fun l=>by
  induction l with
  | nil=>intro _ t; simp
  | cons x l ih =>
   intro h t
   rw [List.foldl_cons,mk_put t (h x (by simp)),ih fun k hk=>h k (List.mem_cons_of_mem _ hk)]
   simp
 rw [this l h]
 simp
theorem mks_get (l:List Mk) (h:∀ k∈l,mkOk k) (hl:l.length≤8) (r:Bs):rMarks (mksT l++r,0)=(l,(r,0)):=by
 unfold rMarks mksT
 rw [List.append_assoc,rBy_app]
 simp only
 rw [u8v _ (by omega),if_neg (by omega),Int.toNat_natCast]
 have:∀ (l:List Mk),(∀ k∈l,mkOk k)→rMarksF l.length (l.flatMap mkT++r,0)=(l,(r,0)):=fun l=>by
  induction l with
  | nil=>intro _; rfl
  | cons x l ih =>
   intro h
   simp only [List.length_cons,rMarksF,List.flatMap_cons,List.append_assoc]
   rw [mk_get (h x (by simp))]
   simp only
   rw [ih fun k hk=>h k (List.mem_cons_of_mem _ hk)]
 rw [this l h]
def Mg.pT (m:Mg):Nat→Bs
 | 0=>[m.log.toNat.toUInt8] | 1=>numL m.id | 2=>numL m.m | 3=>numL m.n | 4=>hdT m.h | 5=>bdT m.b | 6=>pathT m.path | _=>mksT m.marks
def Mg.fits (m:Mg):Prop:=m.id<B64∧m.m<B64∧m.n<B64
theorem odd_right {b:Bd} (h:b.odd=true):b.right=true:=by
 unfold Bd.odd at h
 split at h
 ·cases h
 ·rename_i hr
  simpa using hr
theorem put1_t (m:Mg) (t:Bs) (p:Nat) (h8:p<8) (h:m.part p=true):m.put1 (t,0) p=(t++m.pT p,0):=by
 match p,h8,h with
 | 0,_,h =>
  simp only [Mg.part,Bool.and_eq_true,decide_eq_true_eq] at h
  exact wByte_t t m.log (by omega) (by omega)
 | 1,_,_=>exact wNum_t _ _
 | 2,_,_=>exact wNum_t _ _
 | 3,_,_=>exact wNum_t _ _
 | 4,_,h=>exact hd_put t h
 | 5,_,h=>exact bd_put t (odd_right h)
 | 6,_,h =>
  simp only [Mg.part,Bool.and_eq_true] at h
  exact path_put _ (path_all h.2) t
 | 7,_,h =>
  have h:marksL m.marks=true:=h
  simp only [marksL,Bool.and_eq_true,decide_eq_true_eq] at h
  exact mks_put _ (marksF_ok _ _ (by omega) h.1) h.2 t
theorem get1_t (m x:Mg) (r:Bs) (p:Nat) (h8:p<8) (h:m.part p=true) (hf:m.fits):Mg.get1 (x,(m.pT p++r,0)) p=(Mg.set1 m x p,(r,0)):=by
 obtain ⟨f1,f2,f3⟩:=hf
 match p,h8,h with
 | 0,_,h =>
  simp only [Mg.part,Bool.and_eq_true,decide_eq_true_eq] at h
  simp only [Mg.get1,Mg.pT,rBy_app,byN m.log (by omega) (by omega)]
  rfl
 | 1,_,_=>simp only [Mg.get1,Mg.pT,rNm_app _ f1]; rfl
 | 2,_,_=>simp only [Mg.get1,Mg.pT,rNm_app _ f2]; rfl
 | 3,_,_=>simp only [Mg.get1,Mg.pT,rNm_app _ f3]; rfl
 | 4,_,h=>have h:m.h.right=true:=h; simp only [Mg.get1,Mg.pT,hd_get h]; rfl
 | 5,_,h=>have h:m.b.odd=true:=h; simp only [Mg.get1,Mg.pT,bd_get (odd_right h)]; rfl
 | 6,_,h =>
  simp only [Mg.part,Bool.and_eq_true,decide_eq_true_eq] at h
  simp only [Mg.get1,Mg.pT,path_get _ (path_all h.2) h.1]
  rfl
 | 7,_,h =>
  have h:marksL m.marks=true:=h
  simp only [marksL,Bool.and_eq_true,decide_eq_true_eq] at h
  simp only [Mg.get1,Mg.pT,mks_get _ (marksF_ok _ _ (by omega) h.1) h.2]
  rfl
theorem puts_t (m:Mg):∀ (l:List Nat) (t:Bs),(∀ p∈l,p<8)→l.all m.part=true→l.foldl m.put1 (t,0)=(t++l.flatMap m.pT,0):=by
 intro l
 induction l with
 | nil=>intro t _ _; simp
 | cons p l ih =>
  intro t h8 h
  simp only [List.all_cons,Bool.and_eq_true] at h
  rw [List.foldl_cons,put1_t m t p (h8 p (by simp)) h.1,ih _ (fun q hq=>h8 q (List.mem_cons_of_mem _ hq)) h.2]
  simp
theorem gets_t (m:Mg) (hf:m.fits):∀ (l:List Nat) (x:Mg) (r:Bs),(∀ p∈l,p<8)→l.all m.part=true→l.foldl Mg.get1 (x,(l.flatMap m.pT++r,0))=(l.foldl (Mg.set1 m) x,(r,0)):=by
 intro l
 induction l with
 | nil=>intro x r _ _; rfl
 | cons p l ih =>
  intro x r h8 h
  simp only [List.all_cons,Bool.and_eq_true] at h
  rw [List.foldl_cons,List.flatMap_cons,List.append_assoc,get1_t m x _ p (h8 p (by simp)) h.1 hf,ih _ _ (fun q hq=>h8 q (List.mem_cons_of_mem _ hq)) h.2]
  rfl
theorem Mg.right_iff {m:Mg} (h:m.right=true):1≤m.kind∧m.kind<11∧m=m.bare∧(hasL m.kind.toNat).all m.part=true:=by
 unfold Mg.right at h
 split at h
 ·cases h
 ·rename_i hk
  simp only [ofL,Bool.or_eq_true,Bool.not_eq_true',Bool.and_eq_false_iff,decide_eq_false_iff_not,not_or,Decidable.not_not] at hk
  exact ⟨by omega,by omega,by simpa using hk.2,h⟩
theorem hasL_lt (k:Nat):∀ p∈hasL k,p<8:=by
 unfold hasL
 split <;> decide
theorem mg_enc {m:Mg} (h:m.right=true):m.enc=[m.kind.toNat.toUInt8]++(hasL m.kind.toNat).flatMap m.pT:=by
 obtain ⟨h1,h2,_,h4⟩:=Mg.right_iff h
 unfold Mg.enc
 rw [h,wByte_t [] m.kind (by omega) (by omega),puts_t m _ _ (hasL_lt _) h4]
 simp [wText]
theorem mg_dec {m:Mg} (h:m.right=true) (hf:m.fits):Mg.dec m.enc=(m,0):=by
 obtain ⟨h1,h2,h3,h4⟩:=Mg.right_iff h
 have hk:((m.kind.toNat.toUInt8).toNat:Int)=m.kind:=byN _ (by omega) (by omega)
 have hg:=gets_t m hf (hasL m.kind.toNat) { kind:=m.kind } [] (hasL_lt _) h4
 rw [List.append_nil] at hg
 rw [mg_enc h]
 unfold Mg.dec
 rw [rBy_app]
 simp only [hk]
 rw [if_neg (by simp),if_neg (by simp [ofL]; omega),hg]
 have hb:(hasL m.kind.toNat).foldl (Mg.set1 m) { kind:=m.kind }=m:=h3.symm
 rw [hb]
 simp [rEn,h]
theorem frame_iff (s:Bs):frame s≠[]↔s≠[]∧s.length≤4096:=by
 unfold frame
 split
 ·rename_i h
  constructor
  ·intro k; exact absurd rfl k
  ·rintro ⟨h1,h2⟩; rcases h with h | h
   ·exact absurd h h1
   ·omega
 ·rename_i h
  have h1:s≠[]:=fun e=>h (.inl e)
  have h2:¬ 4096<s.length:=fun e=>h (.inr e)
  constructor
  ·intro _; exact ⟨h1,by omega⟩
  ·intro _ e
   simp at e
   exact h1 e.2.1
theorem frame_eq {s:Bs} (h:frame s≠[]):frame s=numL s.length++(s++crcL s):=by
 obtain ⟨h1,h2⟩:=(frame_iff s).1 h
 unfold frame
 rw [if_neg (by rintro (e | e); exact h1 e; omega),List.append_assoc]
theorem frame_1 {s:Bs} (h:frame s≠[]):1≤(frame s).length:=List.length_pos_iff.2 h
theorem rBl_frame {s:Bs} (h:frame s≠[]) (t:Bs):(rBl 4096 (frame s++t,0)).1=s:=by
 obtain ⟨h1,h2⟩:=(frame_iff s).1 h
 rw [frame_eq h,List.append_assoc,List.append_assoc]
 unfold rBl
 rw [rNm_app _ (by unfold B64; omega)]
 simp only
 rw [if_neg (by simp),if_neg (by omega),rTk_app _ _ _ rfl]
 simp
theorem openF_app {x:Bs} (h:frame x≠[]) (k:Nat) (t:Bs):openF (k+1) (frame x++t)=(x::(openF k t).1,(frame x).length+(openF k t).2):=by
 rw [openF]
 simp only [rBl_frame h]
 rw [if_neg (by rintro (e | e | e); exact h e; simp at e; omega; simp at e),List.drop_left]
theorem openF_all:∀ (l:List Bs) (k:Nat),(∀ x∈l,frame x≠[])→l.length<k→openF k (l.flatMap frame)=(l,(l.flatMap frame).length):=by
 intro l
 induction l with
 | nil =>
  intro k _ hk
  obtain ⟨k,rfl⟩:∃ j,k=j+1:=⟨k-1,by simp at hk; omega⟩
  rw [openF]
  have:(rBl 4096 (List.flatMap frame [],0)).1=[]:=rfl
  simp only [this]
  rw [if_pos (.inl (by simp [frame]))]
  rfl
 | cons x l ih =>
  intro k h hk
  obtain ⟨k,rfl⟩:∃ j,k=j+1:=⟨k-1,by simp at hk; omega⟩
  rw [List.flatMap_cons,openF_app (h x (by simp)),ih k (fun y hy=>h y (List.mem_cons_of_mem _ hy)) (by simp at hk; omega)]
  simp
theorem len_frames:∀ (l:List Bs),(∀ x∈l,frame x≠[])→l.length≤(l.flatMap frame).length:=by
 intro l
 induction l with
 | nil=>intro _; simp
 | cons x l ih =>
  intro h
  have h1:=frame_1 (h x (by simp))
  have h2:=ih fun y hy=>h y (List.mem_cons_of_mem _ hy)
  rw [List.flatMap_cons,List.length_append,List.length_cons]
  omega
theorem frames_t:∀ (l:List Bs) (all:Bs),(frames l all).2=true→(∀ x∈l,frame x≠[])∧(frames l all).1=all++l.flatMap frame:=by
 intro l
 induction l with
 | nil=>intro all _; exact ⟨fun x h=>(List.not_mem_nil h).elim,by simp [frames]⟩
 | cons x l ih =>
  intro all h
  unfold frames at h ⊢
  split at h
  ·cases h
  ·rename_i hx
   rw [if_neg hx]
   obtain ⟨h1,h2⟩:=ih _ h
   refine ⟨fun y hy => ?_,by rw [h2]; simp⟩
   rcases List.mem_cons.1 hy with e | e
   ·subst e; exact hx
   ·exact h1 y e
theorem open_eq (d:Dk) (l:List Bs) (h:∀ x∈l,frame x≠[]) (hd:d.f0=l.flatMap frame):Jn.open d={ d:={ f0:=d.f0,f1:=[],loose:=[],room:=d.room },l:=l,sure:=l.length }:=by
 have hl:=len_frames l h
 have ho:=openF_all l (d.f0.length+1) h (by rw [hd]; omega)
 rw [← hd] at ho
 unfold Jn.open
 simp [Dk.sync,ho,Dk.trim,Dk.read,Dk.lost,Dk.set]
theorem undo_f0 (u:Bool×Nat×Nat) (d:Dk) (h:u.1=true):(d.undo1 u).f0=d.f0:=by
 unfold Dk.undo1
 rw [h]
 rfl
theorem undoF_file:∀ (l:List (Bool×Nat)) (keep:Nat),(∀ x∈l,x.1=true)→∀ u∈undoF keep l,u.1=true:=by
 intro l
 induction l with
 | nil=>intro keep _ u hu; cases hu
 | cons x l ih =>
  intro keep h u hu
  obtain ⟨f,n⟩:=x
  rcases List.mem_cons.1 hu with e | e
  ·subst e; exact h (f,n) (by simp)
  ·exact ih _ (fun y hy=>h y (List.mem_cons_of_mem _ hy)) u e
theorem undos_f0:∀ (vs:List (Bool×Nat×Nat)) (d:Dk),(∀ u∈vs,u.1=true)→(vs.foldl Dk.undo1 d).f0=d.f0:=by
 intro vs
 induction vs with
 | nil=>intro d _; rfl
 | cons u vs ih =>
  intro d h
  rw [List.foldl_cons,ih _ fun v hv=>h v (List.mem_cons_of_mem _ hv),undo_f0 u d (h u (by simp))]
theorem crash_f0 (d:Dk) (keep:Nat) (h:∀ x∈d.loose,x.1=true):(d.crash keep).f0=d.f0:=by
 have hu:=undoF_file d.loose keep h
 exact undos_f0 _ d fun u hu'=>hu u (by simpa using hu')
theorem Hd.check_right {pub:Bs} {h:Hd} (k:h.check pub=true):h.right=true:=by
 unfold Hd.check at k
 exact (Bool.and_eq_true_iff.1 k).1
def BdOk (pub s:Bs):Prop:=∃ b:Bd,b.odd=true∧s=b.enc∧b.a.check pub=true∧b.b.check pub=true
theorem BdOk.check {pub s:Bs} (h:BdOk pub s):Bd.check pub s=true:=by
 obtain ⟨b,h1,rfl,h2,h3⟩:=h
 simp [Bd.check,bd_dec (odd_right h1),h1,h2,h3]
theorem BdOk.of_check {pub:Bs} {b:Bd} (h:Bd.check pub b.enc=true):BdOk pub b.enc:=by
 by_cases hr:b.right=true
 ·simp only [Bd.check,bd_dec hr,Bool.and_eq_true] at h
  exact ⟨b,h.1.1.2,rfl,h.1.2,h.2⟩
 ·exfalso
  have:b.enc=[]:=by unfold Bd.enc; rw [if_pos (by simpa using hr)]
  rw [this] at h
  have e:Bd.dec []=(.nil,2):=rfl
  simp [Bd.check,e] at h
theorem build_ok {pub:Bs} {a b:Hd} {path:List Bs} (ha:a.check pub=true) (hb:b.check pub=true) (h:(Bd.build a b path).2=0):BdOk pub (Bd.build a b path).1.enc:=by
 unfold Bd.build at h ⊢
 split
 ·rename_i k; exact ⟨_,k,rfl,ha,hb⟩
 ·split
  ·rename_i k; exact ⟨_,k,rfl,hb,ha⟩
  ·split
   ·rename_i k; exact ⟨_,k,rfl,ha,hb⟩
   ·split
    ·rename_i k; exact ⟨_,k,rfl,hb,ha⟩
    ·rename_i h1 h2 h3 h4
     rw [if_neg h1,if_neg h2,if_neg h3,if_neg h4] at h
     simp at h
structure SI (pub:Bs) (room:Nat) (s:Fs):Prop where
 has0:s.has=false→s.fr = .nil∧s.pend=[]
 fr:s.has=true→s.fr.check pub=true
 pend:∀ h∈s.pend,h.check pub=true
 srt:s.pend.Pairwise fun a b=>a.size<b.size
 ne:∀ h∈s.pend,h.size≠s.fr.size
 len:s.pend.length≤room
 bad:s.bad≠[]→BdOk pub s.bad
theorem SI.nil (pub:Bs) (room:Nat):SI pub room {}:=⟨fun _=>⟨rfl,rfl⟩,fun h=>(by cases h),fun h hh=>(List.not_mem_nil hh).elim,List.Pairwise.nil,fun h hh=>(List.not_mem_nil hh).elim,Nat.zero_le _,fun h=>absurd rfl h⟩
theorem cmpN_lt {a b:Nat} (h:a<b):cmpN a b = -1:=by unfold cmpN; rw [if_pos h]
theorem cmpN_gt {a b:Nat} (h:b<a):cmpN a b=1:=by unfold cmpN; rw [if_neg (by omega),if_pos h]
theorem cmpN_self (a:Nat):cmpN a a=0:=by unfold cmpN; rw [if_neg (by omega),if_neg (by omega)]
theorem ahead_size {x h:Hd} (hne:x.size≠h.size):decide (Hd.ahead x h>0)=decide (h.size<x.size):=by
 unfold Hd.ahead
 rw [if_neg fun e=>hne (by rw [e])]
 unfold orI
 by_cases h1:x.size<h.size
 ·rw [cmpN_lt h1]; simp; omega
 ·rw [cmpN_gt (show h.size<x.size by omega)]; simp; omega
theorem cmpB_flip:∀ (a b:Bs),a≠b→cmpB a b<0∨cmpB b a<0:=by
 intro a
 induction a with
 | nil=>intro b h; cases b with
  | nil=>exact absurd rfl h
  | cons y b=>exact .inl (by simp [cmpB])
 | cons x a ih =>
  intro b h
  cases b with
  | nil=>exact .inr (by simp [cmpB])
  | cons y b =>
   by_cases h1:x.toNat<y.toNat
   ·exact .inl (by simp [cmpB,h1])
   ·by_cases h2:y.toNat<x.toNat
    ·exact .inr (by simp [cmpB,h2])
    ·have e:x=y:=UInt8.toNat_inj.1 (by omega)
     subst e
     rcases ih b (fun e=>h (by rw [e])) with k | k
     ·exact .inl (by simpa [cmpB] using k)
     ·exact .inr (by simpa [cmpB] using k)
theorem ahead_flip {x h:Hd} (hs:x.size=h.size) (hr:x.root≠h.root):Hd.ahead x h<0∨Hd.ahead h x<0:=by
 have hne:x≠h:=fun e=>hr (by rw [e])
 unfold Hd.ahead
 rw [if_neg hne,if_neg (Ne.symm hne),hs,cmpN_self]
 unfold orI
 simp only [ne_eq,not_true_eq_false,if_false]
 by_cases h1:x.time<h.time
 ·rw [cmpN_lt h1]; exact .inl (by simp)
 ·by_cases h2:h.time<x.time
  ·rw [cmpN_lt h2]; exact .inr (by simp)
  ·rw [show x.time=h.time by omega,cmpN_self]
   simp only [not_true_eq_false,if_false]
   rcases cmpB_flip _ _ hr with k | k
   ·exact .inl (by rw [if_pos (by omega)]; exact k)
   ·exact .inr (by rw [if_pos (by omega)]; exact k)
theorem build_same {x h:Hd} (hx:x.right=true) (hh:h.right=true) (hs:x.size=h.size) (hr:x.root≠h.root):(Bd.build x h []).2=0:=by
 have key:∀ a b:Hd,a.right=true→b.right=true→a.size=b.size→a.root≠b.root→Hd.ahead a b<0→Bd.odd ⟨a,b,[]⟩=true:=fun a b h1 h2 h3 h4 h5=>by
  unfold Bd.odd
  rw [if_neg (by simp [Bd.right,h1,h2]),if_pos h3]
  simp [h4,h5]
 unfold Bd.build
 rcases ahead_flip hs hr with k | k
 ·rw [if_pos (key x h hx hh hs hr k)]
 ·split
  ·rfl
  ·rw [if_pos (key h x hh hx hs.symm (Ne.symm hr) k)]
theorem findIdx_size {h:Hd}:∀ {l:List Hd},(∀ x∈l,x.size≠h.size)→(l.findIdx fun x=>decide (Hd.ahead x h>0))=l.findIdx fun x=>decide (h.size<x.size):=by
 intro l
 induction l with
 | nil=>intro _; rfl
 | cons x l ih =>
  intro hl
  rw [List.findIdx_cons,List.findIdx_cons,ahead_size (hl x (by simp)),ih fun y hy=>hl y (List.mem_cons_of_mem _ hy)]
theorem ins_srt {h:Hd}:∀ {l:List Hd},l.Pairwise (fun a b=>a.size<b.size)→(∀ x∈l,x.size≠h.size) →
  (l.take (l.findIdx fun x=>decide (h.size<x.size))++h::l.drop (l.findIdx fun x=>decide (h.size<x.size))).Pairwise fun a b=>a.size<b.size:=by
 intro l
 induction l with
 | nil=>intro _ _; simp
 | cons x l ih =>
  intro hp hl
  obtain ⟨h1,h2⟩:=List.pairwise_cons.1 hp
  rw [List.findIdx_cons]
  by_cases hx:h.size<x.size
  ·simp only [hx,decide_true,cond_true,List.take_zero,List.nil_append,List.drop_zero]
   exact List.pairwise_cons.2 ⟨fun y hy=>by
    rcases List.mem_cons.1 hy with e | e
    ·subst e; exact hx
    ·exact Nat.lt_trans hx (h1 y e),hp⟩
  ·simp only [hx,decide_false,cond_false,List.take_succ_cons,List.cons_append,List.drop_succ_cons]
   have hne:=hl x (by simp)
   refine List.pairwise_cons.2 ⟨fun y hy => ?_,ih h2 fun y hy=>hl y (List.mem_cons_of_mem _ hy)⟩
   rcases List.mem_append.1 hy with e | e
   ·exact h1 y (List.mem_of_mem_take e)
   ·rcases List.mem_cons.1 e with e | e
    ·subst e; omega
    ·exact h1 y (List.mem_of_mem_drop e)
theorem takeF_bd {pub:Bs} {s:Fs} {h:Hd} {room:Nat} (hh:h.check pub=true):∀ (l:List Hd),(∀ x∈l,x.check pub=true) →
  s.takeF h room l=(s,2)∨(∃ e,BdOk pub e∧s.takeF h room l=({ s with bad:=e },5))∨(∀ x∈l,x.size≠h.size)∧s.takeF h room l=s.takeF h room []:=by
 intro l
 induction l with
 | nil=>intro _; exact .inr (.inr ⟨fun x hx=>(List.not_mem_nil hx).elim,rfl⟩)
 | cons x l ih =>
  intro hl
  have ih:=ih fun y hy=>hl y (List.mem_cons_of_mem _ hy)
  by_cases h1:x.size=h.size
  ·by_cases h2:x.root=h.root
   ·exact .inl (by rw [Fs.takeF,if_neg (by simpa using h1),if_pos h2])
   ·have h3:=build_same (Hd.check_right (hl x (by simp))) (Hd.check_right hh) h1 h2
    exact .inr (.inl ⟨_,build_ok (hl x (by simp)) hh h3,by rw [Fs.takeF,if_neg (by simpa using h1),if_neg h2]; simp only [h3]; rfl⟩)
  ·have e0:s.takeF h room (x::l)=s.takeF h room l:=by rw [Fs.takeF,if_pos h1]
   rw [e0]
   rcases ih with e | e | ⟨e,e'⟩
   ·exact .inl e
   ·exact .inr (.inl e)
   ·exact .inr (.inr ⟨fun y hy=>by
     rcases List.mem_cons.1 hy with k | k
     ·subst k; exact h1
     ·exact e y k,e'⟩)
theorem takeF_nil {pub:Bs} {room:Nat} {s:Fs} {h:Hd} (hs:SI pub room s) (hhas:s.has=true) (hh:h.check pub=true) (hne:∀ x∈s.fr::s.pend,x.size≠h.size):SI pub room (s.takeF h room []).1:=by
 have hnp:∀ x∈s.pend,x.size≠h.size:=fun x hx=>hne x (List.mem_cons_of_mem _ hx)
 unfold Fs.takeF
 split
 ·exact hs
 ·rename_i hl
  simp only
  rw [findIdx_size hnp]
  refine ⟨fun e=>(by rw [hhas] at e; cases e),hs.fr,fun x hx => ?_,ins_srt hs.srt hnp,fun x hx => ?_,?_,hs.bad⟩
  ·rcases List.mem_append.1 hx with e | e
   ·exact hs.pend x (List.mem_of_mem_take e)
   ·rcases List.mem_cons.1 e with e | e
    ·subst e; exact hh
    ·exact hs.pend x (List.mem_of_mem_drop e)
  ·rcases List.mem_append.1 hx with e | e
   ·exact hs.ne x (List.mem_of_mem_take e)
   ·rcases List.mem_cons.1 e with e | e
    ·subst e; exact Ne.symm (hne s.fr (by simp))
    ·exact hs.ne x (List.mem_of_mem_drop e)
  ·simp only [List.length_append,List.length_cons,List.length_take,List.length_drop]
   omega
theorem SI.laid {pub:Bs} {room:Nat} {s:Fs} (hs:SI pub room s) {e:Bs} (h:BdOk pub e):SI pub room { s with bad:=e }:=⟨hs.has0,hs.fr,hs.pend,hs.srt,hs.ne,hs.len,fun _=>h⟩
theorem SI.take {pub:Bs} {room:Nat} {s:Fs} (hs:SI pub room s) (h:Hd):SI pub room (s.take pub h room).1:=by
 unfold Fs.take
 split
 ·exact hs
 ·rename_i hb
  have hb:s.bad=[]:=by simpa using hb
  split
  ·exact hs
  ·rename_i hc
   have hc:h.check pub=true:=by simpa using hc
   split
   ·rename_i hn
    have hn:s.has=false:=by simpa using hn
    obtain ⟨_,h2⟩:=hs.has0 hn
    exact ⟨fun e=>(by cases e),fun _=>hc,fun x hx=>hs.pend x hx,hs.srt,fun x hx=>(by rw [h2] at hx; cases hx),hs.len,hs.bad⟩
   ·rename_i hn
    have hn:s.has=true:=by simpa using hn
    rcases takeF_bd (s:=s) (room:=room) hc (s.fr::s.pend) (fun x hx=>by
     rcases List.mem_cons.1 hx with k | k
     ·subst k; exact hs.fr hn
     ·exact hs.pend x k) with e | ⟨e',h1,e⟩ | ⟨h1,e⟩
    ·rw [e]; exact hs
    ·rw [e]; exact hs.laid h1
    ·rw [e]; exact takeF_nil hs hn hc h1
theorem SI.lay {pub:Bs} {room:Nat} {s:Fs} (hs:SI pub room s) (b:Bd):SI pub room (s.lay pub b.enc).1:=by
 unfold Fs.lay
 split
 ·exact hs
 ·split
  ·exact hs
  ·rename_i h
   exact hs.laid (BdOk.of_check (by simpa using h))
theorem srt_ne {l:List Hd} (h:l.Pairwise fun a b=>a.size<b.size) (i:Nat) (hi:i<l.length):∀ x∈l.eraseIdx i,x.size≠l[i].size:=by
 intro x hx e
 obtain ⟨j,hj,rfl⟩:=List.mem_iff_getElem.1 hx
 rw [List.getElem_eraseIdx] at e
 have hlt:=List.pairwise_iff_getElem.1 h
 split at e
 ·rename_i hji
  have:=hlt j i (by omega) hi hji
  omega
 ·rename_i hji
  have hl:=List.length_eraseIdx_of_lt hi
  have:=hlt i (j+1) hi (by omega) (by omega)
  omega
theorem SI.link {pub:Bs} {room:Nat} {s:Fs} (hs:SI pub room s) (m n:Nat) (path:List Bs):SI pub room (s.link m n path).1:=by
 unfold Fs.link
 split
 ·exact hs
 ·simp only
  split
  ·exact hs
  ·rename_i hb ha
   simp only [Bool.or_eq_true,Bool.not_eq_true',decide_eq_false_iff_not,not_or,Bool.not_eq_false,Decidable.not_not] at ha
   obtain ⟨hn,hat⟩:=ha
   generalize (s.pend.findIdx fun x=>min x.size s.fr.size==m&&max x.size s.fr.size==n)=i at *
   have hx:s.pend.getD i .nil=s.pend[i]:=by simp [hat]
   rw [hx]
   have hxc:=hs.pend s.pend[i] (List.getElem_mem hat)
   obtain ⟨low,hlo⟩:∃ low,(if decide (s.pend[i].size<s.fr.size)=true then s.pend[i] else s.fr)=low:=⟨_,rfl⟩
   obtain ⟨high,hhi⟩:∃ high,(if decide (s.pend[i].size<s.fr.size)=true then s.fr else s.pend[i])=high:=⟨_,rfl⟩
   have hlc:low.check pub=true:=by
    rw [← hlo]
    split
    ·exact hxc
    ·exact hs.fr hn
   have hhc:high.check pub=true:=by
    rw [← hhi]
    split
    ·exact hs.fr hn
    ·exact hxc
   have hne:∀ h∈s.pend.eraseIdx i,h.size≠high.size:=fun h hh=>by
    rw [← hhi]
    split
    ·exact hs.ne h (List.mem_of_mem_eraseIdx hh)
    ·exact srt_ne hs.srt i hat h hh
   rw [hlo,hhi]
   clear hlo hhi
   split
   ·exact hs
   ·split
    ·exact ⟨fun e=>(by rw [hn] at e; cases e),fun _=>hhc,fun h hh=>hs.pend h (List.mem_of_mem_eraseIdx hh),hs.srt.sublist (List.eraseIdx_sublist ..),hne,Nat.le_trans (by simp [List.length_eraseIdx]; split <;> omega) hs.len,hs.bad⟩
    ·split
     ·exact hs
     ·rename_i hbl
      exact hs.laid (build_ok hlc hhc (by simpa using hbl))
def doneS (key:Bs) (room:Nat) (s:Fs) (m:Mg):Fs×Int :=
 if m.kind=3 then s.take key m.h room else if m.kind=8 then s.link m.m m.n m.path else if m.kind=4 then s.lay key m.b.enc else (s,0)
theorem done_eq (n:Nd) (m:Mg):n.done m=doneS n.key n.c.room n.s m:=rfl
theorem SI.done {key:Bs} {room:Nat} {s:Fs} (hs:SI key room s) (m:Mg):SI key room (doneS key room s m).1:=by
 unfold doneS
 split
 ·exact hs.take m.h
 ·split
  ·exact hs.link _ _ _
  ·split
   ·exact hs.lay m.b
   ·exact hs
def rep (key:Bs) (room:Nat):List Bs→Fs→Option Fs
 | [],s=>some s
 | r::l,s =>
  let m:=Mg.dec r
  if m.2≠0∨m.1.log≥1 then none else
  let x:=doneS key room s m.1
  if !cntB x.2 then none else rep key room l x.1
theorem bootF_eq:∀ (l:List Bs) (n:Nd),Nd.bootF l n=(rep n.key n.c.room l n.s).map fun s=>{ n with s:=s }:=by
 intro l
 induction l with
 | nil=>intro n; rfl
 | cons r l ih =>
  intro n
  have e:Nd.bootF (r::l) n=if (Mg.dec r).2≠0∨(Mg.dec r).1.log≥1 then none else if !cntB (doneS n.key n.c.room n.s (Mg.dec r).1).2 then none else Nd.bootF l { n with s:=(doneS n.key n.c.room n.s (Mg.dec r).1).1 }:=rfl
  have e':rep n.key n.c.room (r::l) n.s=if (Mg.dec r).2≠0∨(Mg.dec r).1.log≥1 then none else if !cntB (doneS n.key n.c.room n.s (Mg.dec r).1).2 then none else rep n.key n.c.room l (doneS n.key n.c.room n.s (Mg.dec r).1).1:=rfl
  rw [e,e']
  by_cases h1:(Mg.dec r).2≠0∨(Mg.dec r).1.log≥1
  ·rw [if_pos h1,if_pos h1]; rfl
  ·rw [if_neg h1,if_neg h1]
   by_cases h2:(!cntB (doneS n.key n.c.room n.s (Mg.dec r).1).2)=true
   ·rw [if_pos h2,if_pos h2]; rfl
   ·rw [if_neg h2,if_neg h2,ih]
theorem rep_app (key:Bs) (room:Nat) (l k:List Bs) (s:Fs):rep key room (l++k) s=(rep key room l s).bind (rep key room k):=by
 induction l generalizing s with
 | nil=>rfl
 | cons r l ih =>
  rw [List.cons_append,rep,rep]
  simp only
  split
  ·rfl
  ·split
   ·rfl
   ·exact ih _
theorem rep_SI {key:Bs} {room:Nat}:∀ (l:List Bs) (s t:Fs),SI key room s→rep key room l s=some t→SI key room t:=by
 intro l
 induction l with
 | nil=>intro s t h e; cases e; exact h
 | cons r l ih =>
  intro s t h e
  rw [rep] at e
  simp only at e
  split at e
  ·cases e
  ·split at e
   ·cases e
   ·exact ih _ t (h.done _) e
abbrev mgH3 (h:Hd):Mg:={ kind:=3,h:=h }
abbrev mgB4 (b:Bd):Mg:={ kind:=4,log:=0,b:=b }
theorem mgH3_right {h:Hd} (k:h.right=true):(mgH3 h).right=true:=by
 have e:(mgH3 h)=(mgH3 h).bare:=rfl
 unfold Mg.right
 rw [if_neg (by rw [decide_eq_true e]; exact Bool.false_ne_true)]
 show (hasL 3).all (mgH3 h).part=true
 simp [hasL,Mg.part,k]
theorem mgB4_right {b:Bd} (k:b.odd=true):(mgB4 b).right=true:=by
 have e:(mgB4 b)=(mgB4 b).bare:=rfl
 unfold Mg.right
 rw [if_neg (by rw [decide_eq_true e]; exact Bool.false_ne_true)]
 show (hasL 4).all (mgB4 b).part=true
 simp [hasL,Mg.part,k]
theorem rep_one {key:Bs} {room:Nat} {m:Mg} {l:List Bs} {s:Fs} (hr:m.right=true) (hf:m.fits) (h0:m.log<1) (hc:cntB (doneS key room s m).2=true):rep key room (m.enc::l) s=rep key room l (doneS key room s m).1:=by
 rw [rep,mg_dec hr hf]
 simp only
 rw [if_neg (by simp; omega),if_neg (by simp [hc])]
theorem fits3 (h:Hd):(mgH3 h).fits:=⟨Nat.le_of_ble_eq_true rfl,Nat.le_of_ble_eq_true rfl,Nat.le_of_ble_eq_true rfl⟩
theorem fits4 (b:Bd):(mgB4 b).fits:=⟨Nat.le_of_ble_eq_true rfl,Nat.le_of_ble_eq_true rfl,Nat.le_of_ble_eq_true rfl⟩
theorem rep_pend {key:Bs} {room:Nat} (fr:Hd):∀ (suf pre:List Hd),(∀ h∈suf,h.check key=true)→(pre++suf).Pairwise (fun a b=>a.size<b.size)→(∀ h∈suf,h.size≠fr.size)→(pre++suf).length≤room →
  rep key room (suf.map fun h=>(mgH3 h).enc) ⟨true,fr,pre,[]⟩=some ⟨true,fr,pre++suf,[]⟩:=by
 intro suf
 induction suf with
 | nil=>intro pre _ _ _ _; rw [List.append_nil]; rfl
 | cons h suf ih =>
  intro pre hc hp hn hl
  have hh:=hc h (by simp)
  have hlt:∀ x∈pre,x.size<h.size:=fun x hx=>(List.pairwise_append.1 hp).2.2 x hx h (by simp)
  have e:doneS key room ⟨true,fr,pre,[]⟩ (mgH3 h)=(⟨true,fr,pre++[h],[]⟩,3):=by
   show Fs.take ⟨true,fr,pre,[]⟩ key h room=_
   unfold Fs.take
   rw [if_neg (by simp),if_neg (by simp [hh]),if_neg (by simp)]
   have:∀ l:List Hd,(∀ x∈l,x.size≠h.size)→Fs.takeF ⟨true,fr,pre,[]⟩ h room l=(⟨true,fr,pre++[h],[]⟩,3):=fun l=>by
    induction l with
    | nil =>
     intro _
     unfold Fs.takeF
     rw [if_neg (by simp only [List.length_append,List.length_cons] at hl; simp only; omega)]
     simp only
     rw [findIdx_size fun x hx=>Nat.ne_of_lt (hlt x hx),List.findIdx_eq_length.2 fun x hx=>by simpa using Nat.le_of_lt (hlt x hx)]
     simp
    | cons x l ih =>
     intro hx
     rw [Fs.takeF,if_pos (hx x (by simp))]
     exact ih fun y hy=>hx y (List.mem_cons_of_mem _ hy)
   exact this _ fun x hx=>by
    rcases List.mem_cons.1 hx with k | k
    ·subst k; exact Ne.symm (hn h (by simp))
    ·exact Nat.ne_of_lt (hlt x k)
  rw [List.map_cons,rep_one (mgH3_right (Hd.check_right hh)) (fits3 h) (show (0:Int)<1 by decide) (by rw [e]; rfl),e,ih (pre++[h]) (fun x hx=>hc x (List.mem_cons_of_mem _ hx)) (by simpa using hp) (fun x hx=>hn x (List.mem_cons_of_mem _ hx)) (by simpa using hl)]
  simp
def renewR (s:Fs):List Bs:=(if s.has then [(mgH3 s.fr).enc] else [])++(s.pend.map fun h=>(mgH3 h).enc)++(if s.bad≠[] then [(mgB4 (Bd.dec s.bad).1).enc] else [])
theorem rep_renew {key:Bs} {room:Nat} {s:Fs} (hs:SI key room s):rep key room (renewR s) {}=some s:=by
 have h1:rep key room (if s.has then [(mgH3 s.fr).enc] else []) {}=some ⟨s.has,s.fr,[],[]⟩:=by
  cases hh:s.has with
  | false=>rw [(hs.has0 hh).1]; rfl
  | true =>
   have hc:=hs.fr hh
   have e:doneS key room {} (mgH3 s.fr)=(⟨true,s.fr,[],[]⟩,1):=by
    show Fs.take {} key s.fr room=_
    unfold Fs.take
    rw [if_neg (by simp),if_neg (by simp [hc]),if_pos (by simp)]
   rw [if_pos rfl,rep_one (mgH3_right (Hd.check_right hc)) (fits3 _) (show (0:Int)<1 by decide) (by rw [e]; rfl),e]
   rfl
 have h2:rep key room (s.pend.map fun h=>(mgH3 h).enc) ⟨s.has,s.fr,[],[]⟩=some ⟨s.has,s.fr,s.pend,[]⟩:=by
  cases hh:s.has with
  | false=>rw [(hs.has0 hh).2]; rfl
  | true=>exact rep_pend s.fr s.pend [] hs.pend hs.srt hs.ne hs.len
 have h3:rep key room (if s.bad≠[] then [(mgB4 (Bd.dec s.bad).1).enc] else []) ⟨s.has,s.fr,s.pend,[]⟩=some s:=by
  by_cases hb:s.bad=[]
  ·rw [if_neg (by simp [hb])]
   show some _=some s
   rw [← hb]
  ·have hok:=hs.bad hb
   obtain ⟨b,ho,he,_,_⟩:=hs.bad hb
   have hd:(Bd.dec s.bad).1=b:=by rw [he,bd_dec (odd_right ho)]
   have e:doneS key room ⟨s.has,s.fr,s.pend,[]⟩ (mgB4 b)=(s,5):=by
    show Fs.lay ⟨s.has,s.fr,s.pend,[]⟩ key b.enc=_
    unfold Fs.lay
    rw [if_neg (by simp),if_neg (by rw [← he,hok.check]; simp),← he]
   rw [if_pos hb,hd,rep_one (mgB4_right ho) (fits4 _) (show (0:Int)<1 by decide) (by rw [e]; rfl),e]
   rfl
 unfold renewR
 rw [rep_app,rep_app,h1]
 show Option.bind (Option.bind (some _) _) _=_
 rw [Option.bind_some,h2,Option.bind_some,h3]
structure JI (key:Bs) (room:Nat) (j:Jn) (s:Fs):Prop where
 ex:∃ L,j.d.f0=L.flatMap frame∧(∀ x∈L,frame x≠[])∧(rep key room L {}).isSome=true∧(j.cut=false→L=j.l∧rep key room L {}=some s)
 lo:∀ x∈j.d.loose,x.1=true
 nl:j.cut=false→j.d.loose=[]∧j.d.f1=[]
theorem addJ_ok {j:Jn} {r:Bs} (h:(j.add r).2=0) (hl:j.cut=false→j.d.loose=[]∧j.d.f1=[]) :
  j.cut=false∧frame r≠[]∧(j.add r).1={ j with d:={ j.d with f0:=j.d.f0++frame r,loose:=[] },l:=j.l++[r],sure:=j.l.length+1 }:=by
 unfold Jn.add Jn.loose at h ⊢
 by_cases hc:j.cut=true
 ·simp [hc] at h
 ·have hc:j.cut=false:=by simpa using hc
  simp only [hc,Bool.false_eq_true,if_false] at h ⊢
  by_cases hf:frame r=[]
  ·simp [hf] at h
  ·rw [if_neg hf] at h ⊢
   unfold Dk.put at h ⊢
   by_cases hp:((frame r).length:Int)>j.d.free
   ·rw [if_pos hp] at h
    simp at h
   ·rw [if_neg hp] at h ⊢
    refine ⟨trivial,hf,?_⟩
    simp [Dk.sync,Dk.set,Dk.read]
theorem addJ_no {j:Jn} {r:Bs} (h:(j.add r).2≠0):(j.add r).1=j:=by
 obtain ⟨d,l,sure,cut⟩:=j
 unfold Jn.add Jn.loose at h ⊢
 cases cut with
 | true=>simp
 | false =>
  simp only [Bool.false_eq_true,if_false] at h ⊢
  by_cases hf:frame r=[]
  ·simp [hf]
  ·rw [if_neg hf] at h ⊢
   unfold Dk.put at h ⊢
   by_cases hp:((frame r).length:Int)>d.free
   ·rw [if_pos hp]
    simp
   ·rw [if_neg hp] at h
    simp at h
theorem steps_renew (f0:Bs) (room:Nat) (l:List Bs) (sure:Nat) (A:Bs) (k:Nat) (hk:k≤4) :
  ((Jn.stepsF ⟨⟨f0,[],[],room⟩,l,sure,false⟩ A k 0).2≠0→(Jn.stepsF ⟨⟨f0,[],[],room⟩,l,sure,false⟩ A k 0).1=⟨⟨f0,[],[],room⟩,l,sure,false⟩) ∧
  ((Jn.stepsF ⟨⟨f0,[],[],room⟩,l,sure,false⟩ A k 0).2=0→∃ d,(Jn.stepsF ⟨⟨f0,[],[],room⟩,l,sure,false⟩ A k 0).1=⟨d,l,sure,false⟩∧(d.f0=f0∨d.f0=A)∧(∀ x∈d.loose,x.1=true)∧(k=4→d=⟨A,[],[],room⟩)):=by
 by_cases hA:(A.length:Int)>(⟨f0,[],[],room⟩:Dk).free
 ·match k,hk with
  | 0,_=>exact ⟨fun _=>rfl,fun _=>⟨_,rfl,.inl rfl,fun x hx=>(by cases hx),fun h=>(by cases h)⟩⟩
  | k+1,_ =>
   have e:Jn.stepsF ⟨⟨f0,[],[],room⟩,l,sure,false⟩ A (k+1) 0=(⟨⟨f0,[],[],room⟩,l,sure,false⟩,8):=by
    unfold Jn.stepsF Jn.step Dk.put
    simp only
    rw [if_pos hA]
    rfl
   rw [e]
   exact ⟨fun _=>rfl,fun h=>absurd (show (8:Int)=0 from h) (by decide)⟩
 ·have e0:(⟨⟨f0,[],[],room⟩,l,sure,false⟩:Jn).step 0 A=(⟨⟨f0,A,[(true,A.length)],room⟩,l,sure,false⟩,0):=by
   unfold Jn.step Dk.put
   simp only
   rw [if_neg hA]
   simp [Dk.set,Dk.read]
  have e1:(⟨⟨f0,A,[(true,A.length)],room⟩,l,sure,false⟩:Jn).step 1 A=(⟨⟨f0,A,[],room⟩,l,sure,false⟩,0):=rfl
  have e2:(⟨⟨f0,A,[],room⟩,l,sure,false⟩:Jn).step 2 A=(⟨⟨A,f0,[],room⟩,l,sure,false⟩,0):=rfl
  have e3:(⟨⟨A,f0,[],room⟩,l,sure,false⟩:Jn).step 3 A=(⟨⟨A,[],[],room⟩,l,sure,false⟩,0):=by simp [Jn.step,Dk.trim,Dk.read,Dk.lost,Dk.set]
  match k,hk with
  | 0,_=>exact ⟨fun _=>rfl,fun _=>⟨_,rfl,.inl rfl,fun x hx=>(by cases hx),fun h=>(by cases h)⟩⟩
  | 1,_ =>
   have e:Jn.stepsF ⟨⟨f0,[],[],room⟩,l,sure,false⟩ A 1 0=(⟨⟨f0,A,[(true,A.length)],room⟩,l,sure,false⟩,0):=by simp [Jn.stepsF,e0]
   rw [e]
   exact ⟨fun h=>absurd rfl h,fun _=>⟨_,rfl,.inl rfl,fun x hx=>(by rw [List.mem_singleton.1 hx]),fun h=>(by cases h)⟩⟩
  | 2,_ =>
   have e:Jn.stepsF ⟨⟨f0,[],[],room⟩,l,sure,false⟩ A 2 0=(⟨⟨f0,A,[],room⟩,l,sure,false⟩,0):=by simp [Jn.stepsF,e0,e1]
   rw [e]
   exact ⟨fun h=>absurd rfl h,fun _=>⟨_,rfl,.inl rfl,fun x hx=>(by cases hx),fun h=>(by cases h)⟩⟩
  | 3,_ =>
   have e:Jn.stepsF ⟨⟨f0,[],[],room⟩,l,sure,false⟩ A 3 0=(⟨⟨A,f0,[],room⟩,l,sure,false⟩,0):=by simp [Jn.stepsF,e0,e1,e2]
   rw [e]
   exact ⟨fun h=>absurd rfl h,fun _=>⟨_,rfl,.inr rfl,fun x hx=>(by cases hx),fun h=>(by cases h)⟩⟩
  | 4,_ =>
   have e:Jn.stepsF ⟨⟨f0,[],[],room⟩,l,sure,false⟩ A 4 0=(⟨⟨A,[],[],room⟩,l,sure,false⟩,0):=by simp [Jn.stepsF,e0,e1,e2,e3]
   rw [e]
   exact ⟨fun h=>absurd rfl h,fun _=>⟨_,rfl,.inr rfl,fun x hx=>(by cases hx),fun _=>rfl⟩⟩
theorem steps_code (j:Jn) (A:Bs):∀ (k i:Nat),(j.stepsF A k i).2=0∨(j.stepsF A k i).2=1∨(j.stepsF A k i).2=7∨(j.stepsF A k i).2=8:=by
 intro k
 induction k generalizing j with
 | zero=>intro i; exact .inl rfl
 | succ k ih =>
  intro i
  have hs:(j.step i A).2=0∨(j.step i A).2=1∨(j.step i A).2=7∨(j.step i A).2=8:=by
   unfold Jn.step
   split
   ·simp only [Dk.put]; split <;> simp
   ·simp
   ·simp only [Dk.turn]; split <;> simp
   ·simp only [Dk.trim]; split
    ·simp
    ·split <;> simp
  unfold Jn.stepsF
  simp only
  split
  ·exact hs
  ·exact ih _ _
theorem renewJ_code (j:Jn) (R:List Bs) (n:Nat):(j.renew R n).2=0∨(j.renew R n).2=1∨(j.renew R n).2=7∨(j.renew R n).2=8:=by
 unfold Jn.renew
 simp only
 split
 ·simp
 ·split
  ·simp
  ·split
   ·exact steps_code _ _ _ _
   ·split <;> simp
theorem JI.renew {key:Bs} {room:Nat} {j:Jn} {s:Fs} (hj:JI key room j s) (hs:SI key room s) (n:Nat):JI key room (j.renew (renewR s) n).1 s:=by
 unfold Jn.renew
 simp only
 split
 ·exact hj
 ·rename_i hcut
  have hc:j.cut=false:=by
   cases h:j.cut with
   | false=>rfl
   | true=>exact absurd (.inl h) hcut
  split
  ·exact hj
  ·rename_i hfr
   obtain ⟨hne,hall⟩:=frames_t (renewR s) [] (by simpa using hfr)
   rw [List.nil_append] at hall
   rw [hall]
   have hrep:=rep_renew hs
   generalize renewR s=R at *
   obtain ⟨⟨f0,f1,loose,rm⟩,l,sure,cut⟩:=j
   obtain ⟨L,e1,e2,e3,e4⟩:=hj.ex
   simp only at hc
   subst hc
   obtain ⟨h1,h2⟩:=hj.nl rfl
   simp only at h1 h2
   subst h1; subst h2
   obtain ⟨rfl,e5⟩:=e4 rfl
   simp only at e1 e2 e3 e5
   obtain ⟨k1,k2⟩:=steps_renew f0 rm L sure (R.flatMap frame) (min n 4) (Nat.min_le_right _ _)
   split
   ·rename_i hx
    rw [k1 hx]
    exact hj
   ·rename_i hx
    obtain ⟨d,d1,d2,d3,d4⟩:=k2 (by simpa using hx)
    rw [d1]
    split
    ·refine ⟨?_,d3,fun h=>(by cases h)⟩
     rcases d2 with d2 | d2
     ·exact ⟨L,d2.trans e1,e2,e3,fun h=>(by cases h)⟩
     ·exact ⟨R,d2,hne,by rw [hrep]; rfl,fun h=>(by cases h)⟩
    ·rename_i hn
     have d5:=d4 (by omega)
     subst d5
     exact ⟨⟨R,rfl,hne,by rw [hrep]; rfl,fun _=>⟨rfl,hrep⟩⟩,fun x hx=>(by cases hx),fun _=>⟨rfl,rfl⟩⟩
theorem JI.crash {key:Bs} {j:Jn} {s:Fs} {c:Nc} (hj:JI key c.room j s) (keep:Nat):∃ n,Nd.boot c key (j.d.crash keep)=some n∧JI key c.room n.j n.s∧SI key c.room n.s∧n.opn=0∧n.t.due=[]∧n.reqs.2=[]:=by
 obtain ⟨L,e1,e2,e3, -⟩:=hj.ex
 have hf:=crash_f0 j.d keep hj.lo
 have ho:=open_eq (j.d.crash keep) L e2 (hf.trans e1)
 obtain ⟨t,ht⟩:=Option.isSome_iff_exists.1 e3
 refine ⟨{ c:=c,key:=key,s:=t,j:=Jn.open (j.d.crash keep),t:={ c:=c.retry } },?_,?_,rep_SI L {} t (SI.nil _ _) ht,rfl,rfl,rfl⟩
 ·show Nd.bootF (Jn.open (j.d.crash keep)).l _=_
  rw [bootF_eq,ho]
  show Option.map _ (rep key c.room L {})=_
  rw [ht]
  rfl
 ·show JI key c.room (Jn.open (j.d.crash keep)) t
  rw [ho]
  exact ⟨⟨L,hf.trans e1,e2,e3,fun _=>⟨rfl,ht⟩⟩,fun x hx=>(by cases hx),fun _=>⟨rfl,rfl⟩⟩
theorem JI.nil (key:Bs) (room:Nat) (r:Nat):JI key room { d:={ room:=r } } {}:=⟨⟨[],rfl,fun x hx=>(by cases hx),rfl,fun _=>⟨rfl,rfl⟩⟩,fun x hx=>(by cases hx),fun _=>⟨rfl,rfl⟩⟩
theorem JI.keep {n:Nd} (hj:JI n.key n.c.room n.j n.s) (hs:SI n.key n.c.room n.s) {m:Mg} (hr:m.right=true) (hf:m.fits) (h0:m.log<1) :
  (n.keep m).1.key=n.key∧(n.keep m).1.c=n.c∧JI n.key n.c.room (n.keep m).1.j (n.keep m).1.s∧SI n.key n.c.room (n.keep m).1.s:=by
 cases hc:cntB (n.done m).2 with
 | false=>rw [keep_a hc]; exact ⟨rfl,rfl,hj,hs⟩
 | true =>
  by_cases ha:(n.j.add m.enc).2=0
  ·rw [keep_c hc ha]
   rw [done_eq] at hc ⊢
   obtain ⟨h1,h2,h3⟩:=addJ_ok ha hj.nl
   obtain ⟨L,e1,e2,e3,e4⟩:=hj.ex
   obtain ⟨rfl,e5⟩:=e4 h1
   refine ⟨rfl,rfl,⟨⟨n.j.l++[m.enc],?_,?_,?_,fun _=>⟨?_,?_⟩⟩,?_,fun _ => ?_⟩,hs.done m⟩
   ·simp only [h3,e1,List.flatMap_append]; simp
   ·intro x hx
    rcases List.mem_append.1 hx with k | k
    ·exact e2 x k
    ·rw [List.mem_singleton.1 k]; exact h2
   ·rw [rep_app,e5,Option.bind_some,rep_one hr hf h0 hc]; rfl
   ·simp only [h3]
   ·rw [rep_app,e5,Option.bind_some,rep_one hr hf h0 hc]; rfl
   ·simp only [h3]; intro x hx; cases hx
   ·simp only [h3]; exact ⟨trivial,(hj.nl h1).2⟩
  ·rw [keep_b hc ha]
   rw [addJ_no ha]
   exact ⟨rfl,rfl,hj,hs⟩
def msgB (s:Bs):Prop:=(Mg.dec s).2=0
instance (s:Bs):Decidable (msgB s):=inferInstanceAs (Decidable (_=_))
theorem msgB.of {m:Mg} (hr:m.right=true) (hf:m.fits):msgB m.enc:=by unfold msgB; rw [mg_dec hr hf]
theorem decM_right {s:Bs} (h:msgB s):(Mg.dec s).1.right=true∧(Mg.dec s).1.fits:=by
 refine ⟨?_,(dec_fit s).1.1,(dec_fit s).1.2.1,(dec_fit s).1.2.2.1⟩
 unfold msgB at h
 rw [dec_eq] at h ⊢
 split
 ·rename_i k; rw [if_pos k] at h; exact absurd h (by decide)
 ·rename_i k
  rw [if_neg k] at h
  split
  ·rename_i k; rw [if_pos k] at h; exact absurd h (by decide)
  ·rename_i k
   rw [if_neg k] at h
   generalize List.foldl Mg.get1 _ _=x at h ⊢
   obtain ⟨m,r⟩:=x
   by_cases he:rEn r=0
   ·cases hr:m.right with
    | false=>rw [fin_b he hr] at h; exact absurd h (by decide)
    | true=>rw [fin_c he hr]; exact hr
   ·rw [fin_a he] at h; exact absurd h he
theorem rightM {m:Mg} (hb:m=m.bare) (hk:ofL m.kind=true) (hp:(hasL m.kind.toNat).all m.part=true):m.right=true:=by
 unfold Mg.right
 rw [if_neg (by rw [hk,decide_eq_true hb]; decide)]
 exact hp
theorem msg3 {h:Hd} (k:h.right=true):msgB (Mg.enc { kind:=3,h:=h }) := .of (mgH3_right k) (fits3 h)
theorem msg4 {b:Bd} (k:b.odd=true):msgB (Mg.enc { kind:=4,log:=0,b:=b }) := .of (mgB4_right k) (fits4 b)
theorem b64p:0<B64:=Nat.le_of_ble_eq_true rfl
theorem right5 (i:Nat):Mg.right { kind:=5,id:=i }=true:=rightM rfl rfl (by show (hasL 5).all _=true; simp [hasL,Mg.part])
theorem right6 (i m n:Nat) (h1:1≤m) (h2:m≤n) (h3:n≤1099511627776):Mg.right { kind:=6,id:=i,m:=m,n:=n }=true:=rightM rfl rfl (by show (hasL 6).all _=true; simp [hasL,Mg.part,h1,h2,h3])
theorem msg9 (l:Int) (h0:0≤l) (h8:l<8):msgB (Mg.enc { kind:=9,log:=l }) := .of (rightM rfl rfl (by show (hasL 9).all _=true; simp [hasL,Mg.part,h0,h8])) ⟨b64p,b64p,b64p⟩
theorem msg10 (n:Nat) (hn:n<B64):msgB (Mg.enc { kind:=10,log:=0,n:=n }) := .of (rightM rfl rfl (by show (hasL 10).all _=true; simp [hasL,Mg.part])) ⟨b64p,b64p,hn⟩
theorem msg1 (l:List Mk) (h:marksL l=true):msgB (Mg.enc { kind:=1,marks:=l }) := .of (rightM rfl rfl (by show (hasL 1).all _=true; simp [hasL,Mg.part,h])) ⟨b64p,b64p,b64p⟩
theorem msg2 (l:List Mk) (h:marksL l=true):msgB (Mg.enc { kind:=2,marks:=l }) := .of (rightM rfl rfl (by show (hasL 2).all _=true; simp [hasL,Mg.part,h])) ⟨b64p,b64p,b64p⟩
theorem marks_right {n:Nd} (hs:SI n.key n.c.room n.s):marksL n.marks=true:=by
 unfold Nd.marks
 split
 ·cases hh:n.s.has with
  | true =>
   obtain ⟨h1,h2, -,h3, -⟩:=Hd.right_iff (Hd.check_right (hs.fr hh))
   have h4:n.s.fr.size≠0:=by omega
   simp [marksL,marksF,h2,h3,h4]
  | false =>
   rw [(hs.has0 hh).1]
   simp [marksL,marksF,Hd.nil]
 ·rfl
theorem proof_msg {n:Nd} (hs:SI n.key n.c.room n.s) (hb:n.s.bad≠[]):msgB n.proof.enc:=by
 obtain ⟨b,ho,he,_,_⟩:=hs.bad hb
 have hd:(Bd.dec n.s.bad).1=b:=by rw [he,bd_dec (odd_right ho)]
 unfold Nd.proof
 rw [hd]
 exact msg4 ho
theorem pop1 (t:Nat) (o:Int) (now:Nat):popA 1 [(t,o)] now=if t≤now then ([o],[]) else ([],[(t,o)]):=by
 have:removeA [(t,o)] 0=[]:=rfl
 unfold popA
 simp only [this]
 rfl
theorem set0 (most:Int) (hm:1≤most) (id:Int) (at_:Nat):setA [] most id at_=([(at_,id)],0):=by
 unfold setA
 rw [if_neg (by simp [findA]),if_neg (by simp; omega)]
 rfl
theorem drop1 (t:Nat) (o:Int):(dropA [(t,o)] o).1=[]:=by
 have:findA [(t,o)] o=0:=by simp [findA]
 unfold dropA
 rw [this]
 rfl
theorem get1_ {α:Type} (o:Int) (b:Nat) (m:α):mpGet o [(o,b,m)]=some m:=by simp [mpGet]
theorem del1_ {α:Type} (o:Int) (b c:Nat) (m:α):(Mp.del (c,[(o,b,m)]) o).2=[]:=by simp [Mp.del,mpDel]
structure NI (n:Nd):Prop where
 ji:JI n.key n.c.room n.j n.s
 si:SI n.key n.c.room n.s
 rq:(n.opn=0∧n.t.due=[]∧n.reqs.2=[])∨(0<n.opn∧∃ t b m,n.t.due=[(t,n.opn)]∧n.reqs.2=[(n.opn,b,m)]∧m.right=true∧m.fits)
def sent (l:List Sd):Prop:=∀ x∈l,msgB x.2
theorem sent.nil:sent []:=fun x hx=>(by cases hx)
theorem sent.one {d:Int} {m:Mg} (h:msgB m.enc):sent [sendL d m]:=fun x hx=>by rw [List.mem_singleton.1 hx]; exact h
theorem sent.app {a b:List Sd} (ha:sent a) (hb:sent b):sent (a++b):=fun x hx=>(List.mem_append.1 hx).elim (ha x) (hb x)
theorem room1 {n:Nd} (hk:n.ok):1≤n.t.c.room:=by
 have h:=hk.c.t
 rw [hk.tc]
 simp only [Rc.right,Bool.and_eq_true,decide_eq_true_eq] at h
 omega
theorem NI.due {n:Nd} (h:NI n) (hk:n.ok) (now draw:Nat):NI (n.due now draw).1∧sent (n.due now draw).2:=by
 unfold Nd.due
 rcases h.rq with ⟨a,b,c⟩ | ⟨a,t,b,m,c,d,e,f⟩
 ·have e:n.t.dueL now draw=(n.t,[],[]):=by
   unfold Tb.dueL
   rw [b]
   show (({ n.t with due:=[] }:Tb),_,_)=_
   rw [← b]
  simp only [e]
  exact ⟨⟨h.ji,h.si,.inl ⟨a,b,c⟩⟩,sent.nil⟩
 ·have hm:n.req n.opn=m:=by
   unfold Nd.req
   rw [d,get1_]
   rfl
  have hl:m.log=0:=(hk.rq (n.opn,b,m) (by rw [d]; simp)).l
  by_cases ht:t≤now
  ·by_cases hx:n.t.c.tries≤(mpGet n.opn n.t.tried.2).getD 0
   ·have e0:n.t.dueL now draw=({ n.t with due:=[],tried:=n.t.tried.del n.opn },[],[n.opn]):=by
     unfold Tb.dueL
     rw [c]
     simp only [List.length_singleton,pop1,if_pos ht]
     unfold Tb.dueF
     simp only [if_pos hx]
     rfl
    simp only [e0,List.map_nil]
    rw [lost_s]
    have hq:(n.reqs.del n.opn).2=[]:=by
     have:n.reqs=(n.reqs.1,[(n.opn,b,m)]):=by rw [← d]
     rw [this]; exact del1_ _ _ _ _
    refine ⟨⟨h.ji,h.si,.inl ⟨rfl,rfl,hq⟩⟩,?_⟩
    show sent ([]++[sendL (-2) { kind:=10,log:=(n.req n.opn).log,n:=addL n.stalls 1 }])
    rw [hm,hl]
    exact sent.one (msg10 _ addL_lt)
   ·have e0:n.t.dueL now draw=({ n.t with tried:=n.t.tried.set n.opn ((mpGet n.opn n.t.tried.2).getD 0+1),due:=[(addL now (n.t.c.wait ((mpGet n.opn n.t.tried.2).getD 0) draw),n.opn)] },[n.opn],[]):=by
     unfold Tb.dueL
     rw [c]
     simp only [List.length_singleton,pop1,if_pos ht]
     unfold Tb.dueF
     simp only [if_neg hx,set0 _ (room1 hk)]
     rfl
    simp only [e0,List.map_cons,List.map_nil]
    refine ⟨⟨h.ji,h.si,.inr ⟨a,_,b,m,rfl,d,e,f⟩⟩,?_⟩
    show sent [sendL (-1-(n.req n.opn).log) (n.req n.opn)]
    rw [hm]
    exact sent.one (.of e f)
  ·have e0:n.t.dueL now draw=(n.t,[],[]):=by
    unfold Tb.dueL
    rw [c]
    simp only [List.length_singleton,pop1,if_neg ht]
    show (({ n.t with due:=[(t,n.opn)] }:Tb),_,_)=_
    rw [← c]
   simp only [e0]
   exact ⟨⟨h.ji,h.si,.inr ⟨a,t,b,m,c,d,e,f⟩⟩,sent.nil⟩
theorem NI.go {n:Nd} (h:NI n) (hk:n.ok) (h0:n.opn=0) (hid:n.id<4611686018427387904) {m:Mg} (hr:m.right=true) (hf:m.fits) (now draw:Nat):NI (goA n m now draw).1∧sent (goA n m now draw).2:=by
 rcases h.rq with ⟨a,b,c⟩ | ⟨a, -⟩
 rotate_left
 ·omega
 have e:n.t.ask n.id now draw=({ n.t with due:=[(addL now (n.t.c.wait 0 draw),n.id)],tried:=n.t.tried.set n.id 1 },0):=by
  unfold Tb.ask
  rw [b,set0 _ (room1 hk)]
  rfl
 unfold goA
 rw [e,if_neg (by simp)]
 refine ⟨⟨h.ji,h.si,.inr ⟨by have:=hk.i1; show 0<n.id; omega,_,n.reqs.1,m,rfl,?_,hr,hf⟩⟩,sent.one (.of hr hf)⟩
 show (n.reqs.set n.id m).2=_
 unfold Mp.set
 rw [c]
 rfl
theorem NI.next {n:Nd} (h:NI n) (x:Nat):NI { n with next:=x }:=⟨h.ji,h.si,h.rq⟩
theorem NI.ask {n:Nd} (h:NI n) (hk:n.ok) (hid:n.id<4611686018427387904) (now draw:Nat):NI (n.ask now draw).1∧sent (n.ask now draw).2:=by
 by_cases h1:n.opn>0∨n.s.bad≠[]
 ·rw [ask_a h1]; exact ⟨h,sent.nil⟩
 have h0:n.opn=0:=by
  rcases h.rq with ⟨a, -⟩ | ⟨a, -⟩
  ·exact a
  ·exact absurd (.inl a) h1
 cases h2:n.s.need.2.2 with
 | true =>
  rw [ask_b h1 h2]
  obtain ⟨x,l,e1,e2,e3⟩:=need_b h2
  have hh:n.s.has=true:=by
   cases hh:n.s.has with
   | true=>rfl
   | false=>rw [(h.si.has0 hh).2] at e1; cases e1
  obtain ⟨a1,a2, -⟩:=Hd.right_iff (Hd.check_right (h.si.fr hh))
  obtain ⟨b1,b2, -⟩:=Hd.right_iff (Hd.check_right (h.si.pend x (by rw [e1]; simp)))
  exact h.go hk h0 hid (right6 _ _ _ (by rw [e2]; omega) (by rw [e2,e3]; omega) (by rw [e3]; omega)) ⟨id_lt _,by rw [e2]; unfold B64; simp only; omega,by rw [e3]; unfold B64; simp only; omega⟩ _ _
 | false =>
  by_cases h3:n.next≤now
  ·rw [ask_c h1 h2 h3]
   have hk':({ n with next:=addL now n.c.every }:Nd).ok:=⟨hk.c,hk.k,hk.p,hk.j,hk.t,hk.tc,hk.st,addL_lt,hk.od,hk.te,hk.tu,hk.rq,hk.i1,hk.i2,hk.rk⟩
   exact (h.next _).go hk' h0 hid (right5 _) ⟨id_lt _,b64p,b64p⟩ _ _
  ·rw [ask_d h1 h2 h3]; exact ⟨h,sent.nil⟩
theorem NI.tick {n:Nd} (h:NI n) (hk:n.ok) (hid:n.id<4611686018427387904) (now draw:Nat):NI (n.tick now draw).1∧sent (n.tick now draw).2:=by
 obtain ⟨a1,a2⟩:=h.due hk now draw
 obtain ⟨d1, -, -,d4, -⟩:=hk.due now draw
 obtain ⟨b1,b2⟩:=a1.ask d1 (by rw [d4]; exact hid) now draw
 unfold Nd.tick
 simp only
 split
 ·exact ⟨b1,a2.app b2⟩
 ·exact ⟨⟨b1.ji,b1.si,b1.rq⟩,(a2.app b2).app (sent.one (msg1 _ (marks_right b1.si)))⟩
theorem NI.strange {n:Nd} (h:NI n):NI n.strange:=⟨h.ji,h.si,h.rq⟩
theorem NI.keep {n:Nd} (h:NI n) {m:Mg} (hr:m.right=true) (hf:m.fits) (h0:m.log<1):NI (n.keep m).1:=by
 obtain ⟨e1,e2,e3,e4⟩:=JI.keep h.ji h.si hr hf h0
 have e5:(n.keep m).1.opn=n.opn∧(n.keep m).1.t=n.t∧(n.keep m).1.reqs=n.reqs:=by
  unfold Nd.keep
  simp only
  split
  ·exact ⟨rfl,rfl,rfl⟩
  ·split <;> exact ⟨rfl,rfl,rfl⟩
 refine ⟨by rw [e1,e2]; exact e3,by rw [e1,e2]; exact e4,?_⟩
 rw [e5.1,e5.2.1,e5.2.2]
 exact h.rq
theorem odd_enc {b:Bd} (h:b.odd=true):b.enc≠[]:=by
 intro e
 have h1:=bd_dec (odd_right h)
 rw [e] at h1
 have h2:Bd.dec []=(.nil,2):=rfl
 rw [h2] at h1
 exact absurd (show (2:Int)=0 from congrArg Prod.snd h1) (by decide)
theorem build_odd {a b:Hd} {path:List Bs} (h:(Bd.build a b path).2=0):(Bd.build a b path).1.odd=true:=by
 unfold Bd.build at h ⊢
 split
 ·assumption
 ·rename_i h1
  rw [if_neg h1] at h
  split
  ·assumption
  ·rename_i h2
   rw [if_neg h2] at h
   split
   ·assumption
   ·rename_i h3
    rw [if_neg h3] at h
    split
    ·assumption
    ·rename_i h4
     rw [if_neg h4] at h
     exact absurd h (by decide)
theorem take_code {pub:Bs} {room:Nat} {s:Fs} (hs:SI pub room s) (h:Hd):((s.take pub h room).2=5→(s.take pub h room).1.bad≠[])∧((s.take pub h room).2=9→s.bad≠[]):=by
 unfold Fs.take
 split
 ·rename_i hb; exact ⟨fun e=>(by simp at e),fun _=>hb⟩
 ·split
  ·exact ⟨fun e=>(by simp at e),fun e=>(by simp at e)⟩
  ·rename_i hc
   have hc:h.check pub=true:=by simpa using hc
   split
   ·exact ⟨fun e=>(by simp at e),fun e=>(by simp at e)⟩
   ·rename_i hn
    have hn:s.has=true:=by simpa using hn
    rcases takeF_bd (s:=s) (room:=room) hc (s.fr::s.pend) (fun x hx=>by
     rcases List.mem_cons.1 hx with k | k
     ·subst k; exact hs.fr hn
     ·exact hs.pend x k) with e | ⟨e',⟨b,h1,h2, -⟩,e⟩ | ⟨h1,e⟩
    ·rw [e]; exact ⟨fun e=>(by simp at e),fun e=>(by simp at e)⟩
    ·rw [e]; exact ⟨fun _=>by rw [h2]; exact odd_enc h1,fun e=>(by simp at e)⟩
    ·rw [e]
     unfold Fs.takeF
     split
     ·exact ⟨fun e=>(by simp at e),fun e=>(by simp at e)⟩
     ·exact ⟨fun e=>(by simp at e),fun e=>(by simp at e)⟩
theorem link_code {s:Fs} (m n:Nat) (path:List Bs):((s.link m n path).2=5→(s.link m n path).1.bad≠[])∧((s.link m n path).2=9→s.bad≠[]):=by
 unfold Fs.link
 split
 ·rename_i hb; exact ⟨fun e=>(by simp at e),fun _=>hb⟩
 ·simp only
  generalize (s.pend.findIdx fun x=>min x.size s.fr.size==m&&max x.size s.fr.size==n)=i
  generalize s.pend.getD i .nil=x
  generalize (if decide (x.size<s.fr.size)=true then x else s.fr)=low
  generalize (if decide (x.size<s.fr.size)=true then s.fr else x)=high
  split
  ·exact ⟨fun e=>(by simp at e),fun e=>(by simp at e)⟩
  ·split
   ·exact ⟨fun e=>(by simp at e),fun e=>(by simp at e)⟩
   ·split
    ·exact ⟨fun e=>(by simp at e),fun e=>(by simp at e)⟩
    ·split
     ·exact ⟨fun e=>(by simp at e),fun e=>(by simp at e)⟩
     ·rename_i hb
      exact ⟨fun _=>odd_enc (build_odd (by simpa using hb)),fun e=>(by simp at e)⟩
theorem lay_code {s:Fs} (pub bad:Bs):((s.lay pub bad).2=5→(s.lay pub bad).1.bad≠[])∧((s.lay pub bad).2=9→s.bad≠[]):=by
 unfold Fs.lay
 split
 ·rename_i hb; exact ⟨fun e=>(by simp at e),fun _=>hb⟩
 ·split
  ·exact ⟨fun e=>(by simp at e),fun e=>(by simp at e)⟩
  ·rename_i hc
   refine ⟨fun _ e=>hc ?_,fun e=>(by simp at e)⟩
   have e:bad=[]:=e
   rw [e]
   have h2:Bd.dec []=(.nil,2):=rfl
   simp [Bd.check,h2]
theorem done_code {pub:Bs} {room:Nat} {s:Fs} (hs:SI pub room s) (m:Mg):((doneS pub room s m).2=5→(doneS pub room s m).1.bad≠[])∧((doneS pub room s m).2=9→s.bad≠[]):=by
 unfold doneS
 split
 ·exact take_code hs m.h
 ·split
  ·exact link_code _ _ _
  ·split
   ·exact lay_code _ _
   ·exact ⟨fun e=>(by simp at e),fun e=>(by simp at e)⟩
theorem keep_bad {n:Nd} (h:NI n) {m:Mg} (hc:(n.keep m).2=5∨(n.keep m).2=9):(n.keep m).1.s.bad≠[]:=by
 obtain ⟨k1,k2⟩:=done_code h.si m
 rw [← done_eq] at k1 k2
 cases hx:cntB (n.done m).2 with
 | false =>
  rw [keep_a hx] at hc ⊢
  rcases hc with hc | hc
  ·rw [show (n.done m).2=5 from hc] at hx; exact absurd hx (by decide)
  ·exact k2 hc
 | true =>
  by_cases ha:(n.j.add m.enc).2=0
  ·rw [keep_c hx ha] at hc ⊢
   rcases hc with hc | hc
   ·exact k1 hc
   ·rw [show (n.done m).2=9 from hc] at hx; exact absurd hx (by decide)
  ·rw [keep_b hx ha] at hc
   simp at hc
theorem NI.digest {n:Nd} (h:NI n) (frm:Int) (m:Mg):sent (n.digest frm m).2:=by
 have ht:sent (tells n frm (marked m.marks)):=by
  unfold tells
  split
  ·rename_i hb
   split
   ·exact sent.one (proof_msg h.si hb)
   ·exact sent.nil
  ·split
   ·rename_i hx
    simp only [Bool.and_eq_true] at hx
    exact sent.one (msg3 (Hd.check_right (h.si.fr hx.1.2)))
   ·exact sent.nil
 rw [digest_eq]
 simp only
 split
 ·exact ht.app (sent.one (msg2 _ (marks_right h.si)))
 ·exact ht
theorem log_rng {m:Mg} (h:m.right=true) (hk:m.kind=3∨m.kind=4∨m.kind=9):0≤m.log∧m.log<8:=by
 obtain ⟨-, -, -,h4⟩:=Mg.right_iff h
 have:0∈hasL m.kind.toNat:=by rcases hk with e | e | e <;> rw [e] <;> decide
 have:=List.all_eq_true.1 h4 0 this
 simpa [Mg.part] using this
theorem NI.peer {n:Nd} (h:NI n) (frm:Int) (s:Bs):NI (n.peer frm s).1∧sent (n.peer frm s).2:=by
 by_cases hb:frm<0∨frm≥n.c.peers∨(Mg.dec s).2≠0∨(!((Mg.dec s).1.kind==1||(Mg.dec s).1.kind==2||(Mg.dec s).1.kind==3||(Mg.dec s).1.kind==4||(Mg.dec s).1.kind==9))=true∨(Mg.dec s).1.log≥1
 ·rw [peer_bad hb]
  exact ⟨h.strange,sent.nil⟩
 have hd:msgB s:=Decidable.byContradiction fun e=>hb (.inr (.inr (.inl e)))
 have h1:(Mg.dec s).1.log<1:=Int.not_le.1 fun e=>hb (.inr (.inr (.inr (.inr e))))
 obtain ⟨r1,r2⟩:=decM_right hd
 have hk:=h.keep r1 r2 h1
 rw [peer_ok' hb]
 split
 ·rename_i k3
  obtain ⟨l0,l8⟩:=log_rng r1 (.inl k3)
  unfold Nd.heads
  simp only
  split
  ·exact ⟨hk,sent.one (msg9 _ l0 l8)⟩
  ·split
   ·rename_i hc
    exact ⟨hk,sent.one (proof_msg hk.si (keep_bad h hc))⟩
   ·split
    ·exact ⟨hk.strange,sent.nil⟩
    ·exact ⟨hk,sent.nil⟩
 ·split
  ·unfold Nd.proven
   simp only
   split
   ·exact ⟨hk.strange,sent.nil⟩
   ·exact ⟨hk,sent.nil⟩
  ·split
   ·exact ⟨h,sent.nil⟩
   ·exact ⟨h,h.digest _ _⟩
theorem lgM_right {m:Mg} (h:m.right=true) (hf:m.fits) (hk:m.kind=7∨m.kind=8):(lgM m).right=true∧(lgM m).fits:=by
 obtain ⟨-, -,h3,h4⟩:=Mg.right_iff h
 rcases hk with e | e
 ·unfold Mg.bare at h3
  rw [e] at h3 h4
  have h5:(hasL 7).all m.part=true:=h4
  simp [hasL,Mg.part] at h5
  have h6:lgM m={ kind:=3,log:=m.log,h:=m.h }:=by
   show ({ m with kind:=if m.kind=7 then 3 else m.kind,id:=0 }:Mg)=_
   rw [e,h3]
   rfl
  rw [h6]
  exact ⟨rightM rfl rfl (by show (hasL 3).all _=true; simp [hasL,Mg.part,h5]),b64p,b64p,b64p⟩
 ·unfold Mg.bare at h3
  rw [e] at h3 h4
  have h5:(hasL 8).all m.part=true:=h4
  have h6:lgM m={ kind:=8,log:=m.log,m:=m.m,n:=m.n,path:=m.path }:=by
   show ({ m with kind:=if m.kind=7 then 3 else m.kind,id:=0 }:Mg)=_
   rw [e,h3]
   rfl
  rw [h6]
  simp only [hasL,List.all_cons,List.all_nil,Bool.and_true,Bool.and_eq_true] at h5
  refine ⟨rightM rfl rfl (by show (hasL 8).all _=true; simp only [hasL,List.all_cons,List.all_nil,Bool.and_true,Bool.and_eq_true]; exact h5),b64p,hf.2.1,hf.2.2⟩
theorem NI.lg {n:Nd} (h:NI n) (ho:n.opn≠0):NI (lgN n):=by
 rcases h.rq with ⟨a, -⟩ | ⟨a,t,b,m,c,d, -⟩
 ·exact absurd a ho
 ·refine ⟨h.ji,h.si,.inl ⟨rfl,?_,?_⟩⟩
  ·show (dropA n.t.due n.opn).1=[]
   rw [c]; exact drop1 _ _
  ·show (n.reqs.del n.opn).2=[]
   have:n.reqs=(n.reqs.1,[(n.opn,b,m)]):=by rw [← d]
   rw [this]; exact del1_ _ _ _ _
theorem ans_kind {n:Nd} {m:Mg} (h:n.answers m=true):(m.kind=7∨m.kind=8)∧n.opn≠0:=by
 by_cases hc:m.log≠0∨n.opn=0
 ·rw [ans_a hc] at h; cases h
 ·rw [ans_b hc] at h
  simp only [Bool.and_eq_true,Bool.or_eq_true,beq_iff_eq] at h
  refine ⟨?_,fun e=>hc (.inr e)⟩
  rcases h.2 with k | k
  ·exact .inl k.2
  ·exact .inr k.1.1.2
theorem NI.log {n:Nd} (h:NI n) (s:Bs):NI (n.log s):=by
 by_cases hb:(Mg.dec s).2≠0∨(!n.answers (Mg.dec s).1)=true
 ·rw [log_bad hb]; exact h.strange
 have hd:msgB s:=Decidable.byContradiction fun e=>hb (.inl e)
 have ha:n.answers (Mg.dec s).1=true:=by
  cases ha:n.answers (Mg.dec s).1 with
  | true=>rfl
  | false=>exact absurd (.inr (by rw [ha]; rfl)) hb
 obtain ⟨k1,k2⟩:=ans_kind ha
 obtain ⟨r1,r2⟩:=decM_right hd
 obtain ⟨q1,q2⟩:=lgM_right r1 r2 k1
 have hk:=(h.lg k2).keep q1 q2 (by show (Mg.dec s).1.log<1; rw [ans_log ha]; decide)
 rw [log_ok hb]
 split
 ·exact hk.strange
 ·exact hk
theorem NI.renew {n:Nd} (h:NI n) (k:Nat):NI (n.renew k).1∧((n.renew k).2=0∨(n.renew k).2=1∨(n.renew k).2=7∨(n.renew k).2=8):=by
 rw [renew_eq]
 exact ⟨⟨h.ji.renew h.si k,h.si,h.rq⟩,renewJ_code _ _ _⟩
structure MI (m:Ms):Prop where
 n:∀ q∈m.l,NI q.n
 p:∀ p∈m.net,msgB p.s
def okC (e:Int):Prop:=e=0∨e=1∨e=5∨e=7∨e=8
theorem okC.zero:okC 0 := .inl rfl
theorem MI.set {m:Ms} (h:MI m) {i:Nat} {n2:Nd} (h2:NI n2) {net:List Pk} (hn:∀ p∈net,msgB p.s) {now:Nat}:MI { m with now:=now,l:=m.l.set i { m.at_ i with n:=n2 },net:=net }:=by
 refine ⟨fun q hq => ?_,hn⟩
 rcases List.mem_or_eq_of_mem_set hq with hq | rfl
 ·exact h.n q hq
 ·exact h2
theorem MI.nets {m:Ms} (h:MI m) {net:List Pk} (hn:∀ p∈net,msgB p.s):MI { m with net:=net }:=⟨h.n,hn⟩
theorem putN_msg {net:List Pk} (h:∀ p∈net,msgB p.s) {p:Pk} (hp:msgB p.s):∀ x∈putN net p,msgB x.s:=by
 unfold putN
 split
 ·exact h
 ·intro x hx
  rcases List.mem_append.1 hx with k | k
  ·exact h x k
  ·rw [List.mem_singleton.1 k]; exact hp
theorem sndN_msg (i:Nat):∀ (l:List Sd) {net:List Pk},(∀ p∈net,msgB p.s)→sent l→∀ p∈sndN i net l,msgB p.s:=by
 intro l
 induction l with
 | nil=>intro net h _; exact h
 | cons x l ih =>
  intro net h hl
  refine ih (net:=sndX i net x) ?_ fun y hy=>hl y (List.mem_cons_of_mem _ hy)
  have hx:=hl x (by simp)
  unfold sndX
  split
  ·exact putN_msg h hx
  ·split
   ·exact h
   ·exact putN_msg h hx
theorem ans_msg (k:Ky) (view:List Bs) (now:Nat) (s:Bs) (h:ansL k view now s≠[]):msgB (ansL k view now s):=by
 have hne:∀ m:Mg,m.enc≠[]→m.right=true:=fun m hm=>by
  cases hr:m.right with
  | true=>rfl
  | false=>unfold Mg.enc at hm; rw [hr] at hm; exact absurd rfl hm
 have hf:=(dec_fit s).1
 unfold ansL at h ⊢
 simp only at h ⊢
 split
 ·rename_i hx; rw [if_pos hx] at h; exact absurd rfl h
 ·rename_i hx
  rw [if_neg hx] at h
  split
  ·rename_i h5
   rw [if_pos h5] at h
   exact .of (hne _ h) ⟨hf.1,b64p,b64p⟩
  ·rename_i h5
   rw [if_neg h5] at h
   split
   ·rename_i h6
    rw [if_pos h6] at h
    split
    ·rename_i h7; rw [if_pos h7] at h; exact absurd rfl h
    ·rename_i h7
     rw [if_neg h7] at h
     exact .of (hne _ h) ⟨hf.1,hf.2.1,hf.2.2.1⟩
   ·rename_i h6; rw [if_neg h6] at h; exact absurd rfl h
theorem MI.at_ {m:Ms} (h:MI m) {i:Nat} (hi:i<m.l.length):NI (m.at_ i).n:=h.n _ (at_mem hi)
theorem MI.tick {b:Nat} {m:Ms} (h:MI m) (hk:Ms.ok (b+1) m) (a:Ac):MI (m.tick a).1∧okC (m.tick a).2:=by
 cases hh:m.has a.a with
 | false=>rw [tick_no hh]; exact ⟨h,.inr (.inl rfl)⟩
 | true =>
  rw [tick_yes hh]
  have hi:=has_lt' hh
  obtain ⟨a1,a2,a3,a4,a5⟩:=hk.n _ (at_mem hi)
  obtain ⟨t1,t2⟩:=(h.at_ hi).tick a1 (by omega) (nowT m.now a.n) a.n
  exact ⟨h.set t1 (sndN_msg _ _ h.p t2),okC.zero⟩
theorem MI.arrive {b:Nat} {m:Ms} (h:MI m) (hk:Ms.ok (b+1) m) (p:Pk) (hp:okP m.l.length p):MI (m.arrive p):=by
 unfold okP at hp
 by_cases h1:p.dst = -1
 ·rw [arrive_a h1]
  refine h.nets ?_
  split
  ·rename_i hs
   exact putN_msg h.p (ans_msg _ _ _ _ hs)
  ·exact h.p
 ·have hi:p.dst.toNat<m.l.length:=by omega
  by_cases h2:p.frm = -1
  ·rw [arrive_b h1 h2]
   exact h.set ((h.at_ hi).log p.s) h.p
  ·rw [arrive_c h1 h2]
   obtain ⟨t1,t2⟩:=(h.at_ hi).peer (if p.frm>p.dst then p.frm-1 else p.frm) p.s
   exact h.set t1 (sndN_msg _ _ h.p t2)
theorem MI.moved {b:Nat} {m:Ms} (h:MI m) (hk:Ms.ok (b+1) m) (a:Ac) (ha:0≤a.a):MI (m.moved a).1∧okC (m.moved a).2:=by
 by_cases h0:m.net.length=0
 ·rw [moved_no h0]; exact ⟨h,.inr (.inr (.inl rfl))⟩
 have hil:mvI m a.a<m.net.length:=by
  have h1:=Int.emod_lt_of_pos a.a (show (0:Int)<m.net.length by omega)
  have h2:=Int.emod_nonneg a.a (show (m.net.length:Int)≠0 by omega)
  unfold mvI
  omega
 have hg:m.net.getD (mvI m a.a) default∈m.net:=by
  rw [List.getD_eq_getElem?_getD,List.getElem?_eq_getElem hil]
  exact List.getElem_mem hil
 have hp:okP m.l.length (m.net.getD (mvI m a.a) default):=hk.p _ hg
 have he:(m.net.eraseIdx (mvI m a.a)).length≤64:=by rw [List.length_eraseIdx]; have:=hk.net; split <;> omega
 have hq:∀ p∈m.net.eraseIdx (mvI m a.a),okP m.l.length p:=fun p hx=>hk.p p (List.mem_of_mem_eraseIdx hx)
 have hm:∀ p∈m.net.eraseIdx (mvI m a.a),msgB p.s:=fun p hx=>h.p p (List.mem_of_mem_eraseIdx hx)
 have hE:okC (putE m.net):=by
  unfold putE
  split
  ·exact .inr (.inr (.inr (.inr rfl)))
  ·exact okC.zero
 by_cases h3:a.kind=3
 ·rw [moved_3 h0 h3]; exact ⟨h.nets (putN_msg h.p (h.p _ hg)),hE⟩
 by_cases h4:a.kind=4
 ·rw [moved_4 h0 h4]; exact ⟨h.nets (putN_msg hm (h.p _ hg)),okC.zero⟩
 by_cases h1:a.kind=1
 ·rw [moved_1 h0 h1]; exact ⟨(h.nets hm).arrive (hk.nets he hq) _ hp,okC.zero⟩
 ·rw [moved_2 h0 h1 h3 h4]; exact ⟨h.nets hm,okC.zero⟩
theorem leafMI {m:Ms} (h:MI m) (lo hi:Nat) (s:Bs):MI { m with l:=m.l.take lo++(((m.l.take hi).drop lo).map fun x=>{ x with view:=x.view++[s.take 40] })++m.l.drop hi }:=by
 refine ⟨fun q hq => ?_,h.p⟩
 rcases List.mem_append.1 hq with hq | hq
 ·rcases List.mem_append.1 hq with hq | hq
  ·exact h.n q (List.mem_of_mem_take hq)
  ·obtain ⟨x,hx,rfl⟩:=List.mem_map.1 hq
   exact h.n x (List.mem_of_mem_take (List.mem_of_mem_drop hx))
 ·exact h.n q (List.mem_of_mem_drop hq)
theorem MI.leaf {m:Ms} (h:MI m) (a:Ac):MI (m.leaf a).1∧okC (m.leaf a).2:=by
 unfold Ms.leaf
 cases hh:m.has a.a with
 | true =>
  simp only [if_true]
  split
  ·exact ⟨h,.inr (.inr (.inr (.inr rfl)))⟩
  ·exact ⟨leafMI h _ _ _,okC.zero⟩
 | false =>
  simp only [Bool.false_eq_true,if_false]
  split
  ·exact ⟨h,.inr (.inr (.inr (.inr rfl)))⟩
  ·exact ⟨leafMI h _ _ _,okC.zero⟩
theorem MI.crash {b:Nat} {m:Ms} (h:MI m) (hk:Ms.ok (b+1) m) (a:Ac):MI (m.crash a).1∧okC (m.crash a).2:=by
 cases hh:m.has a.a with
 | false=>rw [crash_no hh]; exact ⟨h,.inr (.inl rfl)⟩
 | true =>
  have hi:=has_lt' hh
  obtain ⟨a1,a2,a3,a4,a5⟩:=hk.n _ (at_mem hi)
  have hj:=(h.at_ hi).ji
  rw [a5,a4] at hj
  obtain ⟨n2,e1,e2,e3,e4,e5,e6⟩:=hj.crash a.n
  have hw:=(crash_w a1.j a.n)
  obtain ⟨t1,t2,t3, -⟩:=boot_ok hk.c hk.kp hw.1 hw.2 e1
  rw [crash_yes hh,e1]
  exact ⟨h.set ⟨by rw [t2,t3]; exact e2,by rw [t2,t3]; exact e3,.inl ⟨e4,e5,e6⟩⟩ h.p,okC.zero⟩
theorem MI.renew {b:Nat} {m:Ms} (h:MI m) (hk:Ms.ok (b+1) m) (a:Ac):MI (m.renew a).1∧okC (m.renew a).2:=by
 cases hh:m.has a.a with
 | false=>rw [renew_no hh]; exact ⟨h,.inr (.inl rfl)⟩
 | true =>
  rw [renew_yes hh]
  obtain ⟨t1,t2⟩:=(h.at_ (has_lt' hh)).renew (a.n%6)
  refine ⟨h.set t1 h.p,?_⟩
  unfold okC
  simp only
  omega
theorem MI.feed {b:Nat} {m:Ms} (h:MI m) (hk:Ms.ok (b+1) m) (a:Ac):MI (m.feed a).1∧okC (m.feed a).2:=by
 cases hh:m.has a.a with
 | false=>rw [feed_no hh]; exact ⟨h,.inr (.inl rfl)⟩
 | true =>
  have hi:=has_lt' hh
  by_cases h2:a.b<m.l.length-1
  ·rw [feed_peer hh h2]
   obtain ⟨t1,t2⟩:=(h.at_ hi).peer a.b a.s
   exact ⟨h.set t1 (sndN_msg _ _ h.p t2),okC.zero⟩
  ·rw [feed_log hh h2]
   exact ⟨h.set ((h.at_ hi).log a.s) h.p,okC.zero⟩
theorem MI.act {b:Nat} {m:Ms} (h:MI m) (hk:Ms.ok (b+1) m) (a:Ac):MI (m.act a).1∧okC (m.act a).2:=by
 cases hr:a.right with
 | false=>rw [act_no hr]; exact ⟨h,.inr (.inl rfl)⟩
 | true =>
  rw [act_yes hr]
  obtain ⟨r1,r2,r3,r4,r5,r6,r7,r8⟩:=right_inv hr
  split
  ·exact h.tick hk a
  ·split
   ·exact h.moved hk a r3
   ·split
    ·exact h.leaf a
    ·split
     ·exact h.crash hk a
     ·split
      ·exact h.renew hk a
      ·exact h.feed hk a
theorem MI.bad {b:Nat} {m:Ms} (h:MI m) (hk:Ms.ok b m) {q:Pl} (hq:q∈m.l) (hb:q.n.s.bad≠[]):Bd.check m.k.pub q.n.s.bad=true:=by
 obtain ⟨-, -, -, -,a5⟩:=hk.n q hq
 have:=((h.n q hq).si.bad hb).check
 rwa [a5] at this
theorem MI.new (sec:Bs) (K:Nat):MI (Ms.new (plain sec K)):=by
 refine ⟨fun q hq => ?_,fun p hp=>(by cases hp)⟩
 obtain ⟨-,rfl⟩:=List.mem_replicate.1 hq
 exact ⟨JI.nil _ _ _,SI.nil _ _,.inl ⟨rfl,rfl,rfl⟩⟩
def acGet (r:Rr):Ac×Rr :=
 (⟨(rBy r).1,(rBy (rBy r).2).1,(rBy (rBy (rBy r).2).2).1,(rNm (rBy (rBy (rBy r).2).2).2).1,(rBl 4096 (rNm (rBy (rBy (rBy r).2).2).2).2).1⟩,(rBl 4096 (rNm (rBy (rBy (rBy r).2).2).2).2).2)
def acsF:Nat→List Ac→Rr→List Ac×Int
 | 0,_,_=>([],14)
 | k+1,l,r=>if r.1.length=0 then (if rEn r=0 then (l,0) else ([],14)) else
  if (acGet r).2.1.length=r.1.length∨(acGet r).1.right=false∨1000≤l.length then ([],14) else acsF k (l++[(acGet r).1]) (acGet r).2
def acsDec (s:Bs):List Ac×Int:=acsF (s.length+1) [] (s,0)
def acPut (w:Ww) (a:Ac):Ww:=wBlob (wNum (wByte (wByte (wByte w a.kind) a.a) a.b) a.n) a.s
def acsEnc (l:List Ac):Bs:=if 1000<l.length∨(l.any fun a => !a.right)=true then [] else wText (l.foldl acPut ([],0))
theorem rTk_sub (n:Int) (r:Rr):(rTk n r).2.1.length≤r.1.length:=by
 unfold rTk
 split
 ·exact Nat.le_refl _
 ·split
  ·exact Nat.le_refl _
  ·split
   ·exact Nat.le_refl _
   ·simp
theorem rTk_e (n:Int) {r:Rr} (h:r.2≠0):rTk n r=([],r):=if_pos h
theorem rBy_e {r:Rr} (h:r.2≠0):rBy r=(0,r):=by unfold rBy; rw [rTk_e 1 h]
theorem rNm_e {r:Rr} (h:r.2≠0):rNm r=(0,r):=if_pos h
theorem rBy_inv {r:Rr} (h:(rBy r).2.2=0):∃ c:UInt8,r=([c]++(rBy r).2.1,0)∧(rBy r).1=c.toNat∧(rBy r).2=((rBy r).2.1,0):=by
 obtain ⟨s,e⟩:=r
 by_cases he:e=0
 ·subst he
  cases s with
  | nil=>exact absurd (show (2:Int)=0 from h) (by decide)
  | cons c s =>
   have:=rBy_app c s
   rw [show c::s=[c]++s from rfl,this]
   exact ⟨c,rfl,rfl,rfl⟩
 ·rw [rBy_e (r:=(s,e)) he] at h
  exact absurd h he
theorem rNm_inv {r:Rr} (h:(rNm r).2.2=0):(rNm r).1<B64∧r=(numL (rNm r).1++(rNm r).2.1,0)∧(rNm r).2=((rNm r).2.1,0):=by
 obtain ⟨s,e⟩:=r
 by_cases he:e=0
 ·subst he
  have h1:rNm (s,0)=match numR 10 0 0 s with | (0,n,l)=>(n,(l,0)) | (e,_,_)=>(0,(s,e)):=by
   unfold rNm
   rw [if_neg (by simp)]
   rfl
  generalize hq:numR 10 0 0 s=q at h1
  obtain ⟨e,n,l⟩:=q
  by_cases h0:e=0
  ·subst h0
   simp only at h1
   obtain ⟨k1,k2⟩:=num_numR hq
   rw [h1]
   exact ⟨k1,by rw [k2],rfl⟩
  ·have h2:rNm (s,0)=(0,(s,e)):=by
    rw [h1]
    split
    ·rename_i h3; exact absurd (congrArg Prod.fst h3) h0
    ·rename_i h3
     have:=congrArg Prod.fst h3
     simp only at this
     rw [this]
   rw [h2] at h
   exact absurd h h0
 ·rw [rNm_e (r:=(s,e)) he] at h
  exact absurd h he
theorem rTk_inv {n:Int} {r:Rr} (h:(rTk n r).2.2=0):r=((rTk n r).1++(rTk n r).2.1,0)∧((rTk n r).1.length:Int)=n∧(rTk n r).2=((rTk n r).2.1,0):=by
 obtain ⟨s,e⟩:=r
 unfold rTk at h ⊢
 split
 ·rename_i k; rw [if_pos k] at h; exact absurd h k
 ·rename_i k
  rw [if_neg k] at h
  have k:e=0:=by simpa using k
  subst k
  split
  ·rename_i k; rw [if_pos k] at h; exact absurd (show (1:Int)=0 from h) (by decide)
  ·rename_i k1
   rw [if_neg k1] at h
   split
   ·rename_i k; rw [if_pos k] at h; exact absurd (show (2:Int)=0 from h) (by decide)
   ·rename_i k2
    refine ⟨by simp,?_,rfl⟩
    simp only [List.length_take]
    simp only at k2
    omega
theorem rBl_inv {r:Rr} (h:(rBl 4096 r).2.2=0):r=(numL (rBl 4096 r).1.length++(rBl 4096 r).1++(rBl 4096 r).2.1,0)∧(rBl 4096 r).1.length≤4096∧(rBl 4096 r).2=((rBl 4096 r).2.1,0):=by
 unfold rBl at h ⊢
 simp only at h ⊢
 split
 ·rename_i k; rw [if_pos k] at h; exact absurd h k
 ·rename_i k
  rw [if_neg k] at h
  obtain ⟨a1,a2,a3⟩:=rNm_inv (Decidable.not_not.1 k)
  split
  ·rename_i k; rw [if_pos k] at h; exact absurd (show (4:Int)=0 from h) (by decide)
  ·rename_i k2
   rw [if_neg k2] at h
   split
   ·rename_i k; rw [if_pos k] at h; exact absurd h k
   ·rename_i k3
    obtain ⟨b1,b2,b3⟩:=rTk_inv (Decidable.not_not.1 k3)
    refine ⟨?_,by omega,b3⟩
    have b1:=congrArg Prod.fst b1
    simp only at b1
    have e:(rTk (rNm r).1 (rNm r).2).1.length=(rNm r).1:=by omega
    rw [e,List.append_assoc,← b1]
    exact a2
theorem rBy_ok {r:Rr} (h:(rBy r).2.2=0):r.2=0:=by
 obtain ⟨c,h1, -⟩:=rBy_inv h
 rw [h1]
theorem rNm_ok {r:Rr} (h:(rNm r).2.2=0):r.2=0:=by
 obtain ⟨-,h1, -⟩:=rNm_inv h
 rw [h1]
theorem rBl_ok {r:Rr} (h:(rBl 4096 r).2.2=0):r.2=0:=by
 obtain ⟨h1, -⟩:=rBl_inv h
 rw [h1]
def acT (a:Ac):Bs:=[a.kind.toNat.toUInt8]++([a.a.toNat.toUInt8]++([a.b.toNat.toUInt8]++(numL a.n++(numL a.s.length++a.s))))
theorem byN' (c:UInt8):(((c.toNat:Nat):Int).toNat).toUInt8=c:=by simp
theorem acGet_inv {r:Rr} (h:(acGet r).2.2=0):r=(acT (acGet r).1++(acGet r).2.1,0)∧(acGet r).2=((acGet r).2.1,0):=by
 unfold acGet at h ⊢
 simp only at h ⊢
 have h4:=rBl_ok h
 have h3:=rNm_ok h4
 have h2:=rBy_ok h3
 have h1:=rBy_ok h2
 obtain ⟨e1,e2,e3⟩:=rBl_inv h
 obtain ⟨d1,d2,d3⟩:=rNm_inv h4
 obtain ⟨c3,c31,c32,c33⟩:=rBy_inv h3
 obtain ⟨c2,c21,c22,c23⟩:=rBy_inv h2
 obtain ⟨c1,c11,c12,c13⟩:=rBy_inv h1
 refine ⟨?_,e3⟩
 unfold acT
 simp only
 generalize rBl 4096 (rNm (rBy (rBy (rBy r).2).2).2).2=x5 at *
 generalize rNm (rBy (rBy (rBy r).2).2).2=x4 at *
 generalize rBy (rBy (rBy r).2).2=x3 at *
 generalize rBy (rBy r).2=x2 at *
 generalize rBy r=x1 at *
 obtain ⟨v5,s5,q5⟩:=x5
 obtain ⟨v4,s4,q4⟩:=x4
 obtain ⟨v3,s3,q3⟩:=x3
 obtain ⟨v2,s2,q2⟩:=x2
 obtain ⟨v1,s1,q1⟩:=x1
 simp only [Prod.mk.injEq] at *
 rw [c11,c21.1,c31.1,d2.1,e1.1,c12,c22,c32,byN',byN',byN']
 simp
theorem acPut_t (t:Bs) {a:Ac} (h:a.right=true):acPut (t,0) a=(t++acT a,0):=by
 unfold Ac.right at h
 simp only [Bool.and_eq_true,decide_eq_true_eq] at h
 obtain ⟨⟨⟨⟨⟨h1,h2⟩,h3,h4⟩,h5,h6⟩,h7⟩,h8⟩:=h
 unfold acPut acT
 rw [wByte_t t _ h1 (by omega),wByte_t _ _ h3 h4,wByte_t _ _ h5 h6,wNum_t]
 unfold wBlob wPut
 simp [h8]
theorem acsPut_t:∀ (l:List Ac) (t:Bs),(∀ a∈l,a.right=true)→l.foldl acPut (t,0)=(t++l.flatMap acT,0):=by
 intro l
 induction l with
 | nil=>intro t _; simp
 | cons a l ih =>
  intro t h
  rw [List.foldl_cons,acPut_t t (h a (by simp)),ih _ fun x hx=>h x (List.mem_cons_of_mem _ hx)]
  simp
theorem acsF_inv:∀ (k:Nat) (l:List Ac) (r:Rr) (L:List Ac),l.length≤1000→acsF k l r=(L,0)→∃ M,L=l++M∧L.length≤1000∧(∀ a∈M,a.right=true)∧r=(M.flatMap acT,0):=by
 intro k
 induction k with
 | zero=>intro l r L _ h; exact absurd (show (14:Int)=0 from congrArg Prod.snd h) (by decide)
 | succ k ih =>
  intro l r L hl h
  unfold acsF at h
  split at h
  ·rename_i h0
   split at h
   ·rename_i he
    have h:l=L:=congrArg Prod.fst h
    refine ⟨[],by rw [h]; simp,by rw [← h]; exact hl,fun a ha=>(by cases ha),?_⟩
    obtain ⟨s,e⟩:=r
    have hs:s=[]:=List.length_eq_zero_iff.1 h0
    subst hs
    unfold rEn at he
    rw [if_neg (by simp)] at he
    simp only at he
    rw [he]
    rfl
   ·exact absurd (show (14:Int)=0 from congrArg Prod.snd h) (by decide)
  ·split at h
   ·exact absurd (show (14:Int)=0 from congrArg Prod.snd h) (by decide)
   ·rename_i h1
    obtain ⟨M,m1,m2,m3,m4⟩:=ih _ _ _ (by simp; omega) h
    have hr:(acGet r).2.2=0:=by rw [m4]
    obtain ⟨g1,g2⟩:=acGet_inv hr
    have ha:(acGet r).1.right=true:=by
     cases hx:(acGet r).1.right with
     | true=>rfl
     | false=>exact absurd (.inr (.inl hx)) h1
    refine ⟨(acGet r).1::M,by rw [m1]; simp,m2,fun a hm => ?_,?_⟩
    ·rcases List.mem_cons.1 hm with e | e
     ·rw [e]; exact ha
     ·exact m3 a e
    ·rw [m4] at g1
     refine g1.trans ?_
     rw [List.flatMap_cons]
theorem acs_back {s:Bs} {L:List Ac} (h:acsDec s=(L,0)):acsEnc L=s∧L.length≤1000∧∀ a∈L,a.right=true:=by
 obtain ⟨M,m1,m2,m3,m4⟩:=acsF_inv _ _ _ _ (by simp) h
 rw [List.nil_append] at m1
 subst m1
 refine ⟨?_,m2,m3⟩
 unfold acsEnc
 rw [if_neg (by
  rintro (e | e)
  ·omega
  ·obtain ⟨a,a1,a2⟩:=List.any_eq_true.1 e
   rw [m3 a a1] at a2
   cases a2),acsPut_t _ _ m3,List.nil_append]
 have:=congrArg Prod.fst m4
 simp only at this
 rw [this]
 rfl
theorem acsF_code:∀ (k:Nat) (l:List Ac) (r:Rr),(acsF k l r).2=0∨(acsF k l r).2=14∧(acsF k l r).1=[]:=by
 intro k
 induction k with
 | zero=>intro l r; exact .inr ⟨by rw [acsF],by rw [acsF]⟩
 | succ k ih =>
  intro l r
  unfold acsF
  split
  ·split
   ·exact .inl rfl
   ·exact .inr ⟨rfl,rfl⟩
  ·split
   ·exact .inr ⟨rfl,rfl⟩
   ·exact ih _ _
theorem acsDec_code (s:Bs):(acsDec s).2=0∨(acsDec s).2=14∧(acsDec s).1=[]:=acsF_code _ _ _
end Go.Proofs.YtdhgpocbcccieaaGreatDoor.M
namespace Go.Proofs.YtdhgpocbcccieaaGreatDoor.M
open Go Go.RowKit Go.Proofs.YtdhgpocbcccieaaGreatDoor.E
variable {G:Gl}
theorem acGet_len (r:Rr):(acGet r).2.1.length≤r.1.length:=by
 have h1:∀ r:Rr,(rBy r).2.1.length≤r.1.length:=fun r=>by
  have:=rTk_sub 1 r
  unfold rBy
  split
  ·rename_i h; rw [h] at this; exact this
  ·rename_i h; rw [h] at this; exact this
 have h2:∀ r:Rr,(rNm r).2.1.length≤r.1.length:=fun r=>by
  by_cases hz:(rNm r).2.2=0
  ·obtain ⟨-,e, -⟩:=rNm_inv hz
   have:=congrArg (fun x:Rr=>x.1.length) e
   simp only [List.length_append] at this
   omega
  ·unfold rNm at hz ⊢
   split
   ·exact Nat.le_refl _
   ·rename_i hc
    rw [if_neg hc] at hz
    split
    ·rename_i h; rw [h] at hz; exact absurd rfl hz
    ·exact Nat.le_refl _
 have h3:∀ r:Rr,(rBl 4096 r).2.1.length≤r.1.length:=fun r=>by
  by_cases hz:(rBl 4096 r).2.2=0
  ·obtain ⟨e, -⟩:=rBl_inv hz
   have:=congrArg (fun x:Rr=>x.1.length) e
   simp only [List.length_append] at this
   omega
  ·have:=h2 r
   unfold rBl at hz ⊢
   simp only at hz ⊢
   split
   ·exact this
   ·split
    ·exact Nat.le_refl _
    ·split
     ·exact Nat.le_refl _
     ·rename_i k1 k2 k3
      rw [if_neg k1,if_neg k2,if_neg k3] at hz
      exact absurd (Decidable.not_not.1 k3) hz
 unfold acGet
 simp only
 exact Nat.le_trans (h3 _) (Nat.le_trans (h2 _) (Nat.le_trans (h1 _) (Nat.le_trans (h1 _) (h1 _))))
theorem acsF_z {k:Nat} {l:List Ac} {r:Rr} (h:r.1.length=0) (he:rEn r=0):acsF (k+1) l r=(l,0):=by unfold acsF; rw [if_pos h,if_pos he]
theorem acsF_y {k:Nat} {l:List Ac} {r:Rr} (h:r.1.length=0) (he:¬ rEn r=0):acsF (k+1) l r=([],14):=by unfold acsF; rw [if_pos h,if_neg he]
theorem acsF_x {k:Nat} {l:List Ac} {r:Rr} (h:¬ r.1.length=0) (he:(acGet r).2.1.length=r.1.length∨(acGet r).1.right=false∨1000≤l.length):acsF (k+1) l r=([],14):=by rw [acsF,if_neg h,if_pos he]
theorem acsF_w {k:Nat} {l:List Ac} {r:Rr} (h:¬ r.1.length=0) (he:¬ ((acGet r).2.1.length=r.1.length∨(acGet r).1.right=false∨1000≤l.length)):acsF (k+1) l r=acsF k (l++[(acGet r).1]) (acGet r).2:=by rw [acsF,if_neg h,if_neg he]
theorem acsEnc_t {l:List Ac} (h:l.length≤1000) (hr:∀ a∈l,a.right=true):acsEnc l=l.flatMap acT:=by
 unfold acsEnc
 rw [if_neg (by
  rintro (e | e)
  ·omega
  ·obtain ⟨a,a1,a2⟩:=List.any_eq_true.1 e
   rw [hr a a1] at a2
   cases a2),acsPut_t _ _ hr,List.nil_append]
 rfl
theorem acs_len {l:List Ac} (h:l.length≤1000) (hr:∀ a∈l,a.right=true) (hb:(acsEnc l).length≤400):l.length≤150:=by
 rw [acsEnc_t h hr] at hb
 have:∀ l:List Ac,3*l.length≤(l.flatMap acT).length:=fun l=>by
  induction l with
  | nil=>simp
  | cons a l ih =>
   rw [List.flatMap_cons,List.length_append,List.length_cons]
   have:3≤(acT a).length:=by unfold acT; simp only [List.length_append,List.length_singleton]; omega
   omega
 have:=this l
 omega
theorem oddAc_ok (a:Ac):Tri Tryz.prog G 47 [.a (acE a)] [] (bv (!a.right)) []:=by
 refine fn Tryz.func47 ?_
 conv=>whnf
 refine clQ (actr_ok a) [] ?_
 conv=>whnf
 exact cv []
theorem idxAc_ok (l:List Ac) (hl:l.length≤1000000) (g:Nat) (p:Ac→Bool) (hp:∀ a,Tri Tryz.prog G g [.a (acE a)] [] (bv (p a)) []):Tri Tryz.prog G 82 [.s 0 0 l.length false,.f g [] []] [acRs l] (i64 (idxA p 0 l)) [acRs l]:=by
 refine fn Tryz.func82 ?_
 conv=>whnf
 refine lp1 (fun (i:Nat)=>([(0,.s 0 0 l.length false),(1,.f g [] []),(6,.s 0 0 l.length false),(7,i64 (l.length:Nat)),(8,i64 (i:Nat))],[acRs l])) (fun i=>i≤l.length∧idxA p i (l.drop i)=idxA p 0 l) (fun i=>l.length-i) 0 ⟨by omega,rfl⟩ (cv [0]) fun i ⟨hi,hx⟩ => ?_
 conv=>whnf
 refine br_of (fun h1 => ?_) (fun h1 => ?_) <;> conv=>whnf
 ·have h1:i<l.length:=by have:=of_decide_eq_true h1; omega
  rw [List.drop_eq_getElem_cons h1] at hx
  refine ⟨by omega,?_⟩
  conv=>whnf
  refine ob_of (acE l[i]) (by simp [h1]) ?_
  conv=>whnf
  refine clQ (hp l[i]) [] ?_
  conv=>whnf
  have hx:(if p l[i] then (i:Int) else idxA p (i+1) (l.drop (i+1)))=idxA p 0 l:=hx
  refine br_of (fun h2 => ?_) (fun h2 => ?_) <;> conv=>whnf
  ·rw [if_pos h2] at hx
   rw [← hx]
   exact cv [0]
  ·rw [if_neg (fun e=>Bool.noConfusion (e.symm.trans h2))] at hx
   rw [wI64 (n:=(i:Int)+1) (by omega) (by omega)]
   exact ⟨i+1,⟨⟨by omega,hx⟩,by omega⟩,cv [0]⟩
 ·have h1:i=l.length:=by have:=of_decide_eq_false h1; omega
  subst h1
  rw [List.drop_length] at hx
  rw [← hx]
  exact cv [0]
theorem hasAc_ok (l:List Ac) (hl:l.length≤1000000) (g:Nat) (p:Ac→Bool) (hp:∀ a,Tri Tryz.prog G g [.a (acE a)] [] (bv (p a)) []):Tri Tryz.prog G 48 [.s 0 0 l.length false,.f g [] []] [acRs l] (bv (l.any p)) [acRs l]:=by
 refine fn Tryz.func48 ?_
 conv=>whnf
 refine clQ (idxAc_ok l hl g p hp) [0] ?_
 conv=>whnf
 rw [idxA_nn]
 exact cv [0]
theorem acPut_len {a:Ac} (h:a.right=true) (w:Ww):(acPut w a).1.length≤w.1.length+4120:=by
 have h8:=(right_inv h).2.2.2.2.2.2.2
 have e1:=wByte_len w a.kind
 have e2:=wByte_len (wByte w a.kind) a.a
 have e3:=wByte_len (wByte (wByte w a.kind) a.a) a.b
 have e4:=wNum_len (wByte (wByte (wByte w a.kind) a.a) a.b) a.n
 have e5:=wPut_len (wNum (wByte (wByte (wByte w a.kind) a.a) a.b) a.n) (decide (a.s.length≤4096)) 4 (numL a.s.length++a.s)
 have e6:=numL_len a.s.length
 rw [List.length_append] at e5
 show (wPut (wNum (wByte (wByte (wByte w a.kind) a.a) a.b) a.n) (decide (a.s.length≤4096)) 4 (numL a.s.length++a.s)).1.length≤_
 omega
theorem mencode_ok (l:List Ac) (hl:l.length≤150) (hr:∀ a∈l,a.right=true):Tri Tryz.prog G 18 [.s 0 0 l.length false] [acRs l] (sv (acsEnc l)) [acRs l]:=by
 have hany:(l.any fun a => !a.right)=false:=by
  rw [List.any_eq_false]
  intro a ha
  rw [hr a ha]
  decide
 have hEnc:acsEnc l=wText (l.foldl acPut ([],0)):=by
  unfold acsEnc
  rw [if_neg (by
   rintro (e | e)
   ·omega
   ·rw [hany] at e; cases e)]
 have hc:=hasAc_ok (G:=G) l (by omega) 47 (fun a => !a.right) oddAc_ok
 rw [hany] at hc
 rw [hEnc]
 refine fn Tryz.func18 ?_
 conv=>whnf
 rw [show decide ((l.length:Int)>1000)=false from decide_eq_false (by omega)]
 conv=>whnf
 refine clQ hc [0] ?_
 conv=>whnf
 obtain ⟨W,hW⟩:∃ W,l.foldl acPut ([],0)=W:=⟨_,rfl⟩
 rw [hW]
 refine lp2 (fun (i:Nat) (v:Ww)=>([(4,.p 1 0 0),(15,.s 0 0 l.length false),(16,i64 (l.length:Nat)),(17,i64 (i:Nat))],[acRs l,wr 2 v.1.length v.2,by_ v.1])) (fun i v=>(i≤l.length∧v.1.length≤4120*i)∧(l.drop i).foldl acPut v=W) (fun i _=>l.length-i) 0 ([],0) ⟨⟨by omega,by simp⟩,hW⟩ (cv [0,1,9]) fun i v ⟨⟨hi,hv⟩,hx⟩ => ?_
 conv=>whnf
 refine br_of (fun h1 => ?_) (fun h1 => ?_) <;> conv=>whnf
 ·have h1:i<l.length:=by have:=of_decide_eq_true h1; omega
  rw [List.drop_eq_getElem_cons h1] at hx
  have hx:(l.drop (i+1)).foldl acPut (acPut v l[i])=W:=hx
  have h3:=hr l[i] (List.getElem_mem h1)
  have h4:=acPut_len h3 v
  obtain ⟨r1,r2,r3,r4,r5,r6,r7,r8⟩:=right_inv h3
  refine ⟨by omega,?_⟩
  conv=>whnf
  refine ob_of (acE l[i]) (by simp [h1]) ?_
  conv=>whnf
  have e1:=wByte_len v l[i].kind
  have e2:=wByte_len (wByte v l[i].kind) l[i].a
  have e3:=wByte_len (wByte (wByte v l[i].kind) l[i].a) l[i].b
  have e4:=wNum_len (wByte (wByte (wByte v l[i].kind) l[i].a) l[i].b) l[i].n
  refine cl (lwbyte_ok v l[i].kind (by omega)) [1,2] ?_
  conv=>whnf
  refine cl (lwbyte_ok (wByte v l[i].kind) l[i].a (by omega)) [1,4] ?_
  conv=>whnf
  refine cl (lwbyte_ok (wByte (wByte v l[i].kind) l[i].a) l[i].b (by omega)) [1,5] ?_
  conv=>whnf
  refine cl (lwnum_ok (wByte (wByte (wByte v l[i].kind) l[i].a) l[i].b) l[i].n (by omega) (by omega)) [1,6] ?_
  conv=>whnf
  refine cl (lwblob_ok (wNum (wByte (wByte (wByte v l[i].kind) l[i].a) l[i].b) l[i].n) l[i].s (by omega) (by omega)) [1,7] ?_
  conv=>whnf
  rw [wI64 (n:=(i:Int)+1) (by omega) (by omega)]
  exact ⟨(i+1,acPut v l[i]),⟨⟨⟨by simp only; omega,by simp only; omega⟩,hx⟩,by simp only; omega⟩,cv [0,1,8]⟩
 ·have h1:i=l.length:=by have:=of_decide_eq_false h1; omega
  subst h1
  rw [List.drop_length] at hx
  have hx:v=W:=hx
  rw [← hx]
  refine clQ (lwtext_ok v) [1,2] ?_
  conv=>whnf
  exact cv [0]
theorem mdecode_ok (s:Bs) (hs:s.length≤1000):Tri Tryz.prog G 17 [sv s] [] (.t [.s 0 0 (acsDec s).1.length false,i64 (acsDec s).2]) [acRs (acsDec s).1]:=by
 refine fn Tryz.func17 ?_
 conv=>whnf
 refine cl (lread_ok s) [] ?_
 conv=>whnf
 obtain ⟨L,hL⟩:∃ L,acsDec s=L:=⟨_,rfl⟩
 rw [hL]
 refine lp1 (X:=Nat×List Ac×Rr) (fun (k,l,r)=>([(4,.s 1 0 l.length false),(5,.p 0 0 0)],[rdE r,acRs l])) (fun (k,l,r)=>(r.1.length<k∧k+l.length≤2000∧r.1.length≤1000)∧acsF k l r=L) (fun (k,_,_)=>k) (s.length+1,[],(s,0)) ⟨⟨Nat.lt_succ_self _,by simp; omega,hs⟩,hL⟩ (cv [0,9]) ?_
 rintro ⟨k,l,r⟩ ⟨⟨hk,hl,hr⟩,hx⟩
 conv=>whnf
 obtain ⟨k,rfl⟩:∃ j,k=j+1:=⟨k-1,by omega⟩
 refine clQ (lleft_ok r) [0] ?_
 conv=>whnf
 refine br_of (fun h => ?_) (fun h => ?_) <;> conv=>whnf
 rotate_left
 ·have h0:r.1.length=0:=by have:=of_decide_eq_false h; omega
  refine clQ (lend_ok r) [0] ?_
  conv=>whnf
  refine br_of (fun h2 => ?_) (fun h2 => ?_) <;> conv=>whnf
  ·rw [acsF_y h0 (by simpa using h2)] at hx
   subst hx
   exact cv [9]
  ·rw [acsF_z h0 (by simpa using h2)] at hx
   subst hx
   exact cv [1]
 have h0:¬ r.1.length=0:=by have:=of_decide_eq_true h; omega
 refine clQ (lleft_ok r) [0] ?_
 conv=>whnf
 refine cl (lbyte_ok r) [0] ?_
 conv=>whnf
 refine cl (lbyte_ok (rBy r).2) [0] ?_
 conv=>whnf
 refine cl (lbyte_ok (rBy (rBy r).2).2) [0] ?_
 conv=>whnf
 refine cl (lnum_ok (rBy (rBy (rBy r).2).2).2) [0] ?_
 conv=>whnf
 refine cl (lblob_ok 4096 (rNm (rBy (rBy (rBy r).2).2).2).2) [0] ?_
 conv=>whnf
 have hg:(rBl 4096 (rNm (rBy (rBy (rBy r).2).2).2).2).2=(acGet r).2:=rfl
 rw [hg]
 refine clQ (lleft_ok (acGet r).2) [0] ?_
 conv=>whnf
 have hle:=acGet_len r
 have ha:=actr_ok (G:=G) (acGet r).1
 refine br_of (fun h2 => ?_) (fun h2 => ?_) <;> (rw [h2]; conv=>whnf)
 ·rw [acsF_x h0 (.inl (by have:=eq_of_beq h2; omega))] at hx
  subst hx
  exact cv [9]
 have h2:¬ (acGet r).2.1.length=r.1.length:=fun e=>by rw [e] at h2; simp at h2
 refine clQ ha [] ?_
 conv=>whnf
 refine br_of (fun h3 => ?_) (fun h3 => ?_) <;> (rw [h3]; conv=>whnf)
 ·rw [acsF_x h0 (.inr (.inl (by simpa using h3)))] at hx
  subst hx
  exact cv [9]
 have h3:(acGet r).1.right=true:=by simpa using h3
 refine br_of (fun h4 => ?_) (fun h4 => ?_) <;> conv=>whnf
 ·rw [acsF_x h0 (.inr (.inr (by have:=of_decide_eq_true h4; omega)))] at hx
  subst hx
  exact cv [9]
 have h4:¬ 1000≤l.length:=by have:=of_decide_eq_false h4; omega
 rw [acsF_w h0 (by rintro (e | e | e); exact h2 e; rw [h3] at e; cases e; exact h4 e)] at hx
 refine ⟨⟨rfl,rfl⟩,?_⟩
 conv=>whnf
 refine ⟨by simp,?_⟩
 conv=>whnf
 refine ⟨⟨by omega,by simp⟩,?_⟩
 conv=>whnf
 exact ⟨(k,l++[(acGet r).1],(acGet r).2),⟨⟨⟨by show (acGet r).2.1.length<k; omega,by rw [List.length_append,List.length_singleton]; omega,by show (acGet r).2.1.length≤1000; omega⟩,hx⟩,Nat.lt_succ_self k⟩,cv [0,4] (h4:=⟨.inl (by simp [lk,ren]),.inl rfl,trivial⟩) (h5:=⟨⟨_,rfl,⟨.inl rfl,.inl rfl,trivial⟩⟩,.inl (by simp [acGet]),trivial⟩)⟩
end Go.Proofs.YtdhgpocbcccieaaGreatDoor.M
namespace Go.Proofs.YtdhgpocbcccieaaGreatDoor.M2
open Go Go.RowKit Go.Proofs.YtdhgpocbcccieaaGreatDoor.E Go.Proofs.YtdhgpocbcccieaaGreatDoor.M
variable {G:Gl}
abbrev bwH (la:List Ac) (m:Ms):List EB:=[msB 32 2 m,.rv 87 [[.p 33 0 0,.p 9 0 0,.s 45 0 (m.at_ 0).view.length false],[.p 46 0 0,.p 23 0 0,.s 58 0 (m.at_ 1).view.length false]],.g,.g,.g,.g,.g,.g,.g,dkB 39 (m.at_ 0).n.j.d,.g,.g,.g,.g,.g,.g,.g,.g,.g,.g,.g,.g,.g,dkB 52 (m.at_ 1).n.j.d,.g,.g,.g,.g,.g,.g,.g,acRs la,pkRs m.net,ndB 34 35 37 40 44 (m.at_ 0).n,sRs [(m.at_ 0).n.key],wtB 36 (m.at_ 0).n,hdRs (m.at_ 0).n.s.pend,jnB 38 9 (m.at_ 0).n.j,sRs (m.at_ 0).n.j.l,wrRs (m.at_ 0).n.j.d.loose,tbB 41 42 (m.at_ 0).n.t,tmB (m.at_ 0).n.t.tried,hpB 43 (m.at_ 0).n.t.due (m.at_ 0).n.t.c.room,alRs (m.at_ 0).n.t.due,rqB (m.at_ 0).n,sRs (m.at_ 0).view,ndB 47 48 50 53 57 (m.at_ 1).n,sRs [(m.at_ 1).n.key],wtB 49 (m.at_ 1).n,hdRs (m.at_ 1).n.s.pend,jnB 51 23 (m.at_ 1).n.j,sRs (m.at_ 1).n.j.l,wrRs (m.at_ 1).n.j.d.loose,tbB 54 55 (m.at_ 1).n.t,tmB (m.at_ 1).n.t.tried,hpB 56 (m.at_ 1).n.t.due (m.at_ 1).n.t.c.room,alRs (m.at_ 1).n.t.due,rqB (m.at_ 1).n,sRs (m.at_ 1).view]
theorem share {A B:Prop} (f:A→B) (a:A):B:=f a
theorem cut_min (s:Bs) (k:Nat):(sB s).extract (Int.toNat 0) (((min s.length k:Nat):Int)).toNat=sB (s.take k):=by
 rw [sB_ext]
 congr 1
 simp
 omega
theorem bytes_ok (hG:GSig G) (hS:GSha G) (hH:GHas G) (hF:fixedL=true) (s:Bs) (hs:s.length≤9223372036854775807):Tri Tryz.prog G 4 [sv s] [] (bv true) []:=by
 have hp:=plain_ok (G:=G) hS [98,121,116,101,115] 2 (by decide)
 rw [show ([98,121,116,101,115]:Bs).take 100=[98,121,116,101,115] from rfl] at hp
 have hfx:=M2.fixed_ok hG hS hH
 rw [hF] at hfx
 have hs2:(refL [98,121,116,101,115]).length=32:=refL_len _
 have hn:=new_ok hG hS hH (refL [98,121,116,101,115]) hs2
 have hok:=new_inv (refL [98,121,116,101,115]) 2 (by decide) (by decide)
 have hmi:=MI.new (refL [98,121,116,101,115]) 2
 have hl0:(Ms.new (plain (refL [98,121,116,101,115]) 2)).l=[pl0 (refL [98,121,116,101,115]) 2,pl0 (refL [98,121,116,101,115]) 2]:=rfl
 generalize Ms.new (plain (refL [98,121,116,101,115]) 2)=m at *
 generalize pl0 (refL [98,121,116,101,115]) 2=q at *
 generalize plain (refL [98,121,116,101,115]) 2=cc at *
 clear hs2
 have hml:m.l.length=2:=by rw [hl0]; rfl
 have a0:m.at_ 0=q:=by unfold Ms.at_; rw [hl0]; rfl
 have a1:m.at_ 1=q:=by unfold Ms.at_; rw [hl0]; rfl
 rw [show mH m q q=mH m (m.at_ 0) (m.at_ 1) from by rw [a0,a1]] at hn
 clear a0 a1 hl0
 have hsz:(sB s).size=s.length:=by show s.toArray.size=_; rw [List.size_toArray]
 have e:(if (400:Int)<(((sB s).size:Nat):Int) then (400:Int) else (((sB s).size:Nat):Int))=((min s.length 400:Nat):Int):=by rw [hsz]; split <;> omega
 refine fn Tryz.func4 ?_
 conv=>whnf
 refine ckQ hp [] ?_
 conv=>whnf
 refine ck hn [] ?_
 conv=>whnf
 rw [e]
 refine ⟨⟨by decide,by omega,by rw [hsz]; omega⟩,?_⟩
 conv=>whnf
 rw [cut_min s 400]
 have ht:(s.take 400).length≤400:=by rw [List.length_take]; omega
 generalize s.take 400=t at *
 clear hs hsz e hp hn
 have hd:=mdecode_ok (G:=G) t (by omega)
 have hcode:=acsDec_code t
 have hback:=fun L=>acs_back (s:=t) (L:=L)
 obtain ⟨⟨la,f⟩,hla⟩:∃ x,acsDec t=x:=⟨_,rfl⟩
 rw [hla] at hd hcode hback
 refine ckN hd [] [acRs la] ?_
 conv=>whnf
 rcases hcode with h0 | ⟨h14,hnil⟩
 rotate_left
 ·have h14:f=14:=h14
  have hnil:la=[]:=hnil
  subst h14 hnil
  conv=>whnf
  refine ckQ hfx [] ?_
  conv=>whnf
  exact kv []
 have h0:f=0:=h0
 subst h0
 obtain ⟨b1,b2,b3⟩:=hback la rfl
 have hlt:=acs_len b2 b3 (by rw [b1]; exact ht)
 have he:=mencode_ok (G:=G) la hlt b3
 rw [b1] at he
 conv=>whnf
 refine ckQ he [31] ?_
 conv=>whnf
 rw [eqL,show (t==t)=true from beq_self_eq_true t]
 conv=>whnf
 clear he hd b1 b3 hback hla
 refine lp2 (fun (i:Nat) (m:Ms)=>([(3,.p 0 0 0),(5,.s 31 0 la.length false),(7,i64 (i:Nat))],bwH la m)) (fun i m=>(i≤la.length∧i≤30∧m.l.length=2)∧Ms.ok (100000-i) m∧MI m) (fun i _=>la.length-i) 0 m ⟨⟨by omega,by omega,hml⟩,hok,hmi⟩ (kv [0,1,2,3,4,5,6,7,8,9,10,11,12,13,14,15,16,17,18,19,20,21,22,23,24,25,26,27,28,29,30,31,2,3,4,5,6,7,8,10,11,12,13,14,15,16,17,18,19,20,21,22,24,25,26,27,28,29,30]) fun i m ⟨⟨hi,hi3,hml⟩,hok,hmi⟩ => ?_
 conv=>whnf
 have hm2:=two_of hml
 refine br_of (fun h1 => ?_) (fun h1 => ?_) <;> conv=>whnf
 rotate_left
 ·rw [h1]
  conv=>whnf
  refine ckQ hfx [] ?_
  conv=>whnf
  exact kv []
 rw [h1]
 conv=>whnf
 refine br_of (fun h3 => ?_) (fun h3 => ?_) <;> conv=>whnf
 rotate_left
 ·refine ckQ hfx [] ?_
  conv=>whnf
  exact kv []
 have h1:i<la.length:=by have:=of_decide_eq_true h1; omega
 have h3:i<30:=by have:=of_decide_eq_true h3; omega
 refine ⟨by omega,?_⟩
 conv=>whnf
 refine ob_of (acE la[i]) (by simp [h1]) ?_
 conv=>whnf
 obtain ⟨a,ha⟩:∃ a,la[i]=a:=⟨_,rfl⟩
 rw [ha]
 have hok2:Ms.ok (100000-(i+1)+1) m:=by rwa [show 100000-(i+1)+1=100000-i by omega]
 have hk:=hok2.act (by omega) a
 obtain ⟨hmi2,hcd⟩:=hmi.act hok2 a
 have hl2:=(act_len (m:=m) a).trans hml
 obtain ⟨m2,e,hma⟩:∃ m2 e,m.act a=(m2,e):=⟨_,_,rfl⟩
 rw [hma] at hk hl2 hmi2 hcd
 have hd:=do_ok hG hS hH m (m.at_ 0) (m.at_ 1) hm2 _ hok2 a m2 e (m2.at_ 0) (m2.at_ 1) hma (two_of hl2)
 refine ck hd [0,1,32,33,34,35,36,37,38,9,39,40,41,42,43,44,45,46,47,48,49,50,51,23,52,53,54,55,56,57,58] ?_
 clear hd hok2 hok hmi hm2 hma ha
 have hpd:∀ k,k<2→(m2.at_ k).n.s.pend.length≤1000000:=fun k hk2=>by obtain ⟨x, -⟩:=hk.n _ (at_mem (m:=m2) (i:=k) (by rw [hl2]; exact hk2)); have:=x.p.1; have:=x.c.r2; omega
 have hbad:∀ k,k<2→(m2.at_ k).n.s.bad≠[]→Bd.check m2.k.pub (m2.at_ k).n.s.bad=true:=fun k hk2 hb=>hmi2.bad hk (at_mem (m:=m2) (i:=k) (by rw [hl2]; exact hk2)) hb
 have hkp:m2.k.pub.length≤10000:=by rw [hk.kp]; decide
 have hnl:m2.net.length≤64:=hk.net
 have hnp:=hmi2.p
 have hcd:e=0∨e=1∨e=5∨e=7∨e=8:=hcd
 conv=>whnf
 apply share
 ·intro hA
  refine hcd.elim (fun q1 => ?_) fun h=>h.elim (fun q1 => ?_) fun h=>h.elim (fun q1 => ?_) fun h=>h.elim (fun q1 => ?_) (fun q1 => ?_)
  all_goals
   rw [q1]
   conv=>whnf
   refine ckN (net_ok m2 (m2.at_ 0) (m2.at_ 1) hk.net) [0,1,59,60,61,62,63,64,65,9,66,67,68,69,70,71,72,73,74,75,76,77,78,23,79,80,81,82,83,84,85] [pkRs m2.net] ?_
   conv=>whnf
   refine lp1 (fun (j:Nat)=>([(3,.p 0 0 0),(5,.s 31 0 la.length false),(7,i64 (i:Nat)),(9,.s 59 0 m2.net.length false),(10,i64 (j:Nat))],bwH la m2++[pkRs m2.net])) (fun j=>j≤m2.net.length) (fun j=>m2.net.length-j) 0 (Nat.zero_le _) (kv [0,1,2,3,4,5,6,7,8,9,10,11,12,13,14,15,16,17,18,19,20,21,22,23,24,25,26,27,28,29,30,31,59,60,61,62,63,64,65,66,67,68,69,70,71,72,73,74,75,76,77,78,79,80,81,82,83,84,85,86]) hA
 intro j hj
 conv=>whnf
 refine br_of (fun h4 => ?_) (fun h4 => ?_) <;> conv=>whnf
 ·have h4:j<m2.net.length:=by have:=of_decide_eq_true h4; omega
  refine ⟨by omega,?_⟩
  conv=>whnf
  refine ob_of (pkE m2.net[j]) (by simp [h4]) ?_
  conv=>whnf
  have hmd:=mdec_ok (G:=G) hH hS m2.net[j].s
  have hz:(Mg.dec m2.net[j].s).2=0:=hnp _ (List.getElem_mem h4)
  rw [hz] at hmd
  generalize (Mg.dec m2.net[j].s).1=D at hmd
  refine ckN hmd [] (mgH D) ?_
  conv=>whnf
  rw [wI64 (n:=(j:Int)+1) (by omega) (by omega)]
  exact ⟨j+1,⟨h4,by show m2.net.length-(j+1)<m2.net.length-j; omega⟩,kv [0,1,2,3,4,5,6,7,8,9,10,11,12,13,14,15,16,17,18,19,20,21,22,23,24,25,26,27,28,29,30,31,32,33,34,35,36,37,38,39,40,41,42,43,44,45,46,47,48,49,50,51,52,53,54,55,56,57,58,59]⟩
 clear h4
 refine lp1 (fun (k:Nat)=>([(3,.p 0 0 0),(5,.s 31 0 la.length false),(7,i64 (i:Nat)),(13,i64 (k:Nat))],bwH la m2)) (fun k=>k≤2) (fun k=>2-k) 0 (by omega) (kv [0,1,2,3,4,5,6,7,8,9,10,11,12,13,14,15,16,17,18,19,20,21,22,23,24,25,26,27,28,29,30,31,32,33,34,35,36,37,38,39,40,41,42,43,44,45,46,47,48,49,50,51,52,53,54,55,56,57,58]) fun k hk2 => ?_
 have hk3:k=0∨k=1∨k=2:=by omega
 clear hk2
 rcases hk3 with rfl | rfl | rfl <;> conv=>whnf
 ·refine ckQ (node0_ok m2 (m2.at_ 0) (m2.at_ 1)) [0,1,32,33,34,35,36,37,38,9,39,40,41,42,43,44,45,46,47,48,49,50,51,23,52,53,54,55,56,57,58] ?_
  conv=>whnf
  refine ckQ (node0_ok m2 (m2.at_ 0) (m2.at_ 1)) [0,1,32,33,34,35,36,37,38,9,39,40,41,42,43,44,45,46,47,48,49,50,51,23,52,53,54,55,56,57,58] ?_
  conv=>whnf
  refine ckN (nstate_ok (m2.at_ 0).n (hpd 0 (by omega))) [33,34,35,36,37,38,9,39,40,41,42,43,44] [hdRs (m2.at_ 0).n.s.pend] ?_
  conv=>whnf
  have hbc:=hbad 0 (by omega)
  have c0:=bcheck_ok (G:=G) hG hS m2.k.pub (m2.at_ 0).n.s.bad hkp
  have hne:(!((sB (m2.at_ 0).n.s.bad).toList==(⟨#[]⟩:ByteArray).toList))=((m2.at_ 0).n.s.bad != []):=by rw [show (⟨#[]⟩:ByteArray)=sB [] from rfl,eqL]; rfl
  rw [hne]
  refine br_of (fun h5 => ?_) (fun h5 => ?_) <;> (rw [h5]; conv=>whnf)
  ·rw [hbc (by simpa using h5)] at c0
   refine ckQ (public_ok m2 (m2.at_ 0) (m2.at_ 1)) [0,1,32,33,34,35,36,37,38,9,39,40,41,42,43,44,45,46,47,48,49,50,51,23,52,53,54,55,56,57,58] ?_
   conv=>whnf
   refine ckQ c0 [] ?_
   conv=>whnf
   exact ⟨0+1,⟨by omega,by omega⟩,kv [0,1,2,3,4,5,6,7,8,9,10,11,12,13,14,15,16,17,18,19,20,21,22,23,24,25,26,27,28,29,30,31,32,33,34,35,36,37,38,39,40,41,42,43,44,45,46,47,48,49,50,51,52,53,54,55,56,57,58]⟩
  ·exact ⟨0+1,⟨by omega,by omega⟩,kv [0,1,2,3,4,5,6,7,8,9,10,11,12,13,14,15,16,17,18,19,20,21,22,23,24,25,26,27,28,29,30,31,32,33,34,35,36,37,38,39,40,41,42,43,44,45,46,47,48,49,50,51,52,53,54,55,56,57,58]⟩
 ·refine ckQ (node1_ok m2 (m2.at_ 0) (m2.at_ 1)) [0,1,32,33,34,35,36,37,38,9,39,40,41,42,43,44,45,46,47,48,49,50,51,23,52,53,54,55,56,57,58] ?_
  conv=>whnf
  refine ckQ (node1_ok m2 (m2.at_ 0) (m2.at_ 1)) [0,1,32,33,34,35,36,37,38,9,39,40,41,42,43,44,45,46,47,48,49,50,51,23,52,53,54,55,56,57,58] ?_
  conv=>whnf
  refine ckN (nstate_ok (m2.at_ 1).n (hpd 1 (by omega))) [46,47,48,49,50,51,23,52,53,54,55,56,57] [hdRs (m2.at_ 1).n.s.pend] ?_
  conv=>whnf
  have hbc:=hbad 1 (by omega)
  have c0:=bcheck_ok (G:=G) hG hS m2.k.pub (m2.at_ 1).n.s.bad hkp
  have hne:(!((sB (m2.at_ 1).n.s.bad).toList==(⟨#[]⟩:ByteArray).toList))=((m2.at_ 1).n.s.bad != []):=by rw [show (⟨#[]⟩:ByteArray)=sB [] from rfl,eqL]; rfl
  rw [hne]
  refine br_of (fun h5 => ?_) (fun h5 => ?_) <;> (rw [h5]; conv=>whnf)
  ·rw [hbc (by simpa using h5)] at c0
   refine ckQ (public_ok m2 (m2.at_ 0) (m2.at_ 1)) [0,1,32,33,34,35,36,37,38,9,39,40,41,42,43,44,45,46,47,48,49,50,51,23,52,53,54,55,56,57,58] ?_
   conv=>whnf
   refine ckQ c0 [] ?_
   conv=>whnf
   exact ⟨1+1,⟨by omega,by omega⟩,kv [0,1,2,3,4,5,6,7,8,9,10,11,12,13,14,15,16,17,18,19,20,21,22,23,24,25,26,27,28,29,30,31,32,33,34,35,36,37,38,39,40,41,42,43,44,45,46,47,48,49,50,51,52,53,54,55,56,57,58]⟩
  ·exact ⟨1+1,⟨by omega,by omega⟩,kv [0,1,2,3,4,5,6,7,8,9,10,11,12,13,14,15,16,17,18,19,20,21,22,23,24,25,26,27,28,29,30,31,32,33,34,35,36,37,38,39,40,41,42,43,44,45,46,47,48,49,50,51,52,53,54,55,56,57,58]⟩
 ·rw [wI64 (n:=(i:Int)+1) (by omega) (by omega)]
  exact ⟨(i+1,m2),⟨⟨⟨h1,h3,hl2⟩,hk,hmi2⟩,by show la.length-(i+1)<la.length-i; omega⟩,kv [0,1,2,3,4,5,6,7,8,9,10,11,12,13,14,15,16,17,18,19,20,21,22,23,24,25,26,27,28,29,30,31,32,33,34,35,36,37,38,39,40,41,42,43,44,45,46,47,48,49,50,51,52,53,54,55,56,57,58]⟩
end Go.Proofs.YtdhgpocbcccieaaGreatDoor.M2
