/- Part 10 of the proof: U2b U2c U2f U2g Uk U2d U2e. -/
import Derived.Test.YtdhgpocbcccieaaGreatDoorY8
import Derived.Test.YtdhgpocbcccieaaGreatDoorY9
set_option maxRecDepth 1000000
set_option maxHeartbeats 20000000
set_option linter.unusedVariables false
set_option linter.unusedSimpArgs false
namespace Go.Proofs.YtdhgpocbcccieaaGreatDoor.M2
open Go Go.RowKit Go.Proofs.YtdhgpocbcccieaaGreatDoor.E Go.Proofs.YtdhgpocbcccieaaGreatDoor.M
variable {G:Gl}
theorem tick_ok (hS:GSha G) (hH:GHas G) (m:Ms) (q0 q1:Pl) (hm:m.l=[q0,q1]) (b:Nat) (hok:Ms.ok (b+1) m) (a:Ac) (ha:a.n≤4294967296) (M:Ms) (e:Int) (p0 p1:Pl) (h:m.tick a=(M,e)) (hM:M.l=[p0,p1]):Tri Tryz.prog G 28 [.p 0 0 0,.a (acE a)] (mH m q0 q1) (i64 e) (mP M p0 p1++mQ M p0 p1):=by
 obtain ⟨kind,ai,bi,n,s⟩:=a
 simp only at ha
 refine fn Tryz.func28 ?_
 conv=>whnf
 refine ckQ (has_ok m q0 q1 ai) [0,1,2,3,4,5,6,7,8,9,10,11,12,13,14,15,16,17,18,19,20,21,22,23,24,25,26,27,28,29,30] ?_
 conv=>whnf
 by_cases hi:ai≥0∧ai<2
 rotate_left
 ·have hb:(decide (ai≥0)&&decide (ai<2))=false:=by
   cases hx:(decide (ai≥0)&&decide (ai<2)) with
   | false=>rfl
   | true=>simp only [Bool.and_eq_true,decide_eq_true_eq] at hx; exact absurd hx hi
  rw [hb]
  conv=>whnf
  rw [tick_no (a:=⟨kind,ai,bi,n,s⟩) (by unfold Ms.has; rw [hm]; exact hb)] at h
  cases h
  rw [hm] at hM
  cases hM
  exact kv [0,1,2,3,4,5,6,7,8,9,10,11,12,13,14,15,16,17,18,19,20,21,22,23,24,25,26,27,28,29,30,2,3,4,5,6,7,8,10,11,12,13,14,15,16,17,18,19,20,21,22,24,25,26,27,28,29,30]
 have hb:(decide (ai≥0)&&decide (ai<2))=true:=by rw [decide_eq_true hi.1,decide_eq_true hi.2]; rfl
 have hmh:m.has ai=true:=by unfold Ms.has; rw [hm]; exact hb
 rw [hb]
 conv=>whnf
 have hnw:=nowT_lt m.now n
 have hnow:=hok.now
 have hor:ai=0∨ai=1:=by omega
 rcases hor with rfl | rfl
 ·have e0:m.at_ 0=q0:=by unfold Ms.at_; rw [hm]; rfl
  obtain ⟨o1,o2,o3, -, -⟩:=hok.n q0 (by rw [hm]; simp)
  have h0:m.tick ⟨kind,0,bi,n,s⟩=({ m with now:=nowT m.now n,l:=[{ q0 with n:=(q0.n.tick (nowT m.now n) n).1 },q1],net:=sndN 0 m.net (q0.n.tick (nowT m.now n) n).2 },0):=by
   rw [tick_yes hmh]
   show ({ m with now:=nowT m.now n,l:=m.l.set 0 { m.at_ 0 with n:=((m.at_ 0).n.tick (nowT m.now n) n).1 },net:=sndN 0 m.net ((m.at_ 0).n.tick (nowT m.now n) n).2 },(0:Int))=_
   rw [e0,hm]
   rfl
  rw [h0] at h
  cases h
  have hM:[{ q0 with n:=(q0.n.tick (nowT m.now n) n).1 },q1]=[p0,p1]:=hM
  cases hM
  refine ⟨rfl,?_⟩
  conv=>whnf
  refine ⟨⟨(by show (0:Int)≤0; decide),(by show (0:Int)<((2:Nat):Int); decide)⟩,?_⟩
  conv=>whnf
  rw [now_eq]
  refine ck (ntick_ok hS hH q0.n o1 (by omega) (nowT m.now n) n hnw (by omega)) [3,4,5,6,7,8,9,10,11,12,13,14,15] ?_
  have ht:=o1.tick (by omega) (nowT m.now n) n
  generalize (q0.n.tick (nowT m.now n) n).1=n2 at ht
  generalize (q0.n.tick (nowT m.now n) n).2=out at ht
  conv=>whnf
  refine ck (send_ok { m with now:=nowT m.now n } ({ q0 with n:=n2 }) q1 0 out (by omega)) [0,1,2,3,4,5,32,7,33,9,34,11,12,13,35,15,16,17,18,19,20,21,22,23,24,25,26,27,28,29,30,36] ?_
  conv=>whnf
  refine ⟨rfl,?_⟩
  conv=>whnf
  exact kv [0,1,2,3,4,5,6,7,8,9,10,11,12,13,14,15,16,17,18,19,20,21,22,23,24,25,26,27,28,29,30,37,3,4,5,32,7,33,34,11,12,13,35,15,16,17,18,19,20,21,22,24,25,26,27,28,29,30]
 ·have e0:m.at_ 1=q1:=by unfold Ms.at_; rw [hm]; rfl
  obtain ⟨o1,o2,o3, -, -⟩:=hok.n q1 (by rw [hm]; simp)
  have h0:m.tick ⟨kind,1,bi,n,s⟩=({ m with now:=nowT m.now n,l:=[q0,{ q1 with n:=(q1.n.tick (nowT m.now n) n).1 }],net:=sndN 1 m.net (q1.n.tick (nowT m.now n) n).2 },0):=by
   rw [tick_yes hmh]
   show ({ m with now:=nowT m.now n,l:=m.l.set 1 { m.at_ 1 with n:=((m.at_ 1).n.tick (nowT m.now n) n).1 },net:=sndN 1 m.net ((m.at_ 1).n.tick (nowT m.now n) n).2 },(0:Int))=_
   rw [e0,hm]
   rfl
  rw [h0] at h
  cases h
  have hM:[q0,{ q1 with n:=(q1.n.tick (nowT m.now n) n).1 }]=[p0,p1]:=hM
  cases hM
  refine ⟨rfl,?_⟩
  conv=>whnf
  refine ⟨⟨(by show (0:Int)≤1; decide),(by show (1:Int)<((2:Nat):Int); decide)⟩,?_⟩
  conv=>whnf
  rw [now_eq]
  refine ck (ntick_ok hS hH q1.n o1 (by omega) (nowT m.now n) n hnw (by omega)) [17,18,19,20,21,22,23,24,25,26,27,28,29] ?_
  have ht:=o1.tick (by omega) (nowT m.now n) n
  generalize (q1.n.tick (nowT m.now n) n).1=n2 at ht
  generalize (q1.n.tick (nowT m.now n) n).2=out at ht
  conv=>whnf
  refine ck (send_ok { m with now:=nowT m.now n } q0 ({ q1 with n:=n2 }) 1 out (by omega)) [0,1,2,3,4,5,6,7,8,9,10,11,12,13,14,15,16,17,18,19,32,21,33,23,34,25,26,27,35,29,30,36] ?_
  conv=>whnf
  refine ⟨rfl,?_⟩
  conv=>whnf
  exact kv [0,1,2,3,4,5,6,7,8,9,10,11,12,13,14,15,16,17,18,19,20,21,22,23,24,25,26,27,28,29,30,37,3,4,5,6,7,8,10,11,12,13,14,15,16,17,18,19,32,21,33,34,25,26,27,35,29,30]
theorem renew_ok (hS:GSha G) (hH:GHas G) (m:Ms) (q0 q1:Pl) (hm:m.l=[q0,q1]) (b:Nat) (hok:Ms.ok (b+1) m) (a:Ac) (ha:a.n≤4294967296) (M:Ms) (e:Int) (p0 p1:Pl) (h:m.renew a=(M,e)) (hM:M.l=[p0,p1]):Tri Tryz.prog G 32 [.p 0 0 0,.a (acE a)] (mH m q0 q1) (i64 e) (mP M p0 p1++mQ M p0 p1):=by
 obtain ⟨kind,ai,bi,n,s⟩:=a
 simp only at ha
 refine fn Tryz.func32 ?_
 conv=>whnf
 refine ckQ (has_ok m q0 q1 ai) [0,1,2,3,4,5,6,7,8,9,10,11,12,13,14,15,16,17,18,19,20,21,22,23,24,25,26,27,28,29,30] ?_
 conv=>whnf
 by_cases hi:ai≥0∧ai<2
 rotate_left
 ·have hb:(decide (ai≥0)&&decide (ai<2))=false:=by
   cases hx:(decide (ai≥0)&&decide (ai<2)) with
   | false=>rfl
   | true=>simp only [Bool.and_eq_true,decide_eq_true_eq] at hx; exact absurd hx hi
  rw [hb]
  conv=>whnf
  rw [renew_no (a:=⟨kind,ai,bi,n,s⟩) (by unfold Ms.has; rw [hm]; exact hb)] at h
  cases h
  rw [hm] at hM
  cases hM
  exact kv [0,1,2,3,4,5,6,7,8,9,10,11,12,13,14,15,16,17,18,19,20,21,22,23,24,25,26,27,28,29,30,2,3,4,5,6,7,8,10,11,12,13,14,15,16,17,18,19,20,21,22,24,25,26,27,28,29,30]
 have hb:(decide (ai≥0)&&decide (ai<2))=true:=by rw [decide_eq_true hi.1,decide_eq_true hi.2]; rfl
 have hmh:m.has ai=true:=by unfold Ms.has; rw [hm]; exact hb
 rw [hb]
 conv=>whnf
 have hor:ai=0∨ai=1:=by omega
 rcases hor with rfl | rfl
 ·have e0:m.at_ 0=q0:=by unfold Ms.at_; rw [hm]; rfl
  obtain ⟨o1,o2,o3, -, -⟩:=hok.n q0 (by rw [hm]; simp)
  have h0:m.renew ⟨kind,0,bi,n,s⟩=({ m with l:=[{ q0 with n:=(q0.n.renew (n%6)).1 },q1] },(q0.n.renew (n%6)).2):=by
   rw [renew_yes hmh]
   show ({ m with l:=m.l.set 0 { m.at_ 0 with n:=((m.at_ 0).n.renew (n%6)).1 } },((m.at_ 0).n.renew (n%6)).2)=_
   rw [e0,hm]
   rfl
  rw [h0] at h
  cases h
  have hM:[{ q0 with n:=(q0.n.renew (n%6)).1 },q1]=[p0,p1]:=hM
  cases hM
  refine ⟨⟨(by show (0:Int)≤0; decide),(by show (0:Int)<((2:Nat):Int); decide)⟩,?_⟩
  conv=>whnf
  rw [show Int.tmod (n:Int) 6=((n%6:Nat):Int) from by rw [Int.tmod_eq_emod_of_nonneg (by omega)]; simp,wI64 (n:=((n%6:Nat):Int)) (by omega) (by omega)]
  refine ck (nrenew_ok hS hH q0.n o1 (n%6) (by omega)) [3,4,5,6,7,8,9,10,11,12,13,14,15] ?_
  conv=>whnf
  refine ⟨rfl,?_⟩
  conv=>whnf
  exact kv [0,1,2,3,4,5,6,7,8,9,10,11,12,13,14,15,16,17,18,19,20,21,22,23,24,25,26,27,28,29,30,2,3,4,5,32,7,33,34,11,12,13,35,15,16,17,18,19,20,21,22,24,25,26,27,28,29,30]
 ·have e0:m.at_ 1=q1:=by unfold Ms.at_; rw [hm]; rfl
  obtain ⟨o1,o2,o3, -, -⟩:=hok.n q1 (by rw [hm]; simp)
  have h0:m.renew ⟨kind,1,bi,n,s⟩=({ m with l:=[q0,{ q1 with n:=(q1.n.renew (n%6)).1 }] },(q1.n.renew (n%6)).2):=by
   rw [renew_yes hmh]
   show ({ m with l:=m.l.set 1 { m.at_ 1 with n:=((m.at_ 1).n.renew (n%6)).1 } },((m.at_ 1).n.renew (n%6)).2)=_
   rw [e0,hm]
   rfl
  rw [h0] at h
  cases h
  have hM:[q0,{ q1 with n:=(q1.n.renew (n%6)).1 }]=[p0,p1]:=hM
  cases hM
  refine ⟨⟨(by show (0:Int)≤1; decide),(by show (1:Int)<((2:Nat):Int); decide)⟩,?_⟩
  conv=>whnf
  rw [show Int.tmod (n:Int) 6=((n%6:Nat):Int) from by rw [Int.tmod_eq_emod_of_nonneg (by omega)]; simp,wI64 (n:=((n%6:Nat):Int)) (by omega) (by omega)]
  refine ck (nrenew_ok hS hH q1.n o1 (n%6) (by omega)) [17,18,19,20,21,22,23,24,25,26,27,28,29] ?_
  conv=>whnf
  refine ⟨rfl,?_⟩
  conv=>whnf
  exact kv [0,1,2,3,4,5,6,7,8,9,10,11,12,13,14,15,16,17,18,19,20,21,22,23,24,25,26,27,28,29,30,2,3,4,5,6,7,8,10,11,12,13,14,15,16,17,18,19,32,21,33,34,25,26,27,35,29,30]
theorem feed_ok (hG:GSig G) (hS:GSha G) (hH:GHas G) (m:Ms) (q0 q1:Pl) (hm:m.l=[q0,q1]) (b:Nat) (hok:Ms.ok (b+1) m) (a:Ac) (M:Ms) (e:Int) (p0 p1:Pl) (h:m.feed a=(M,e)) (hM:M.l=[p0,p1]):Tri Tryz.prog G 33 [.p 0 0 0,.a (acE a)] (mH m q0 q1) (i64 e) (mP M p0 p1++mQ M p0 p1):=by
 obtain ⟨kind,ai,bi,n,s⟩:=a
 refine fn Tryz.func33 ?_
 conv=>whnf
 refine ckQ (has_ok m q0 q1 ai) [0,1,2,3,4,5,6,7,8,9,10,11,12,13,14,15,16,17,18,19,20,21,22,23,24,25,26,27,28,29,30] ?_
 conv=>whnf
 by_cases hi:ai≥0∧ai<2
 rotate_left
 ·have hb:(decide (ai≥0)&&decide (ai<2))=false:=by
   cases hx:(decide (ai≥0)&&decide (ai<2)) with
   | false=>rfl
   | true=>simp only [Bool.and_eq_true,decide_eq_true_eq] at hx; exact absurd hx hi
  rw [hb]
  conv=>whnf
  rw [feed_no (a:=⟨kind,ai,bi,n,s⟩) (by unfold Ms.has; rw [hm]; exact hb)] at h
  cases h
  rw [hm] at hM
  cases hM
  exact kv [0,1,2,3,4,5,6,7,8,9,10,11,12,13,14,15,16,17,18,19,20,21,22,23,24,25,26,27,28,29,30,2,3,4,5,6,7,8,10,11,12,13,14,15,16,17,18,19,20,21,22,24,25,26,27,28,29,30]
 have hb:(decide (ai≥0)&&decide (ai<2))=true:=by rw [decide_eq_true hi.1,decide_eq_true hi.2]; rfl
 have hmh:m.has ai=true:=by unfold Ms.has; rw [hm]; exact hb
 rw [hb]
 conv=>whnf
 have hor:ai=0∨ai=1:=by omega
 rcases hor with rfl | rfl
 ·have e0:m.at_ 0=q0:=by unfold Ms.at_; rw [hm]; rfl
  obtain ⟨o1,o2,o3, -, -⟩:=hok.n q0 (by rw [hm]; simp)
  refine ⟨rfl,?_⟩
  conv=>whnf
  refine br_of (fun c1 => ?_) (fun c1 => ?_) <;> conv=>whnf
  ·have h0:m.feed ⟨kind,0,bi,n,s⟩=({ m with l:=[{ q0 with n:=(q0.n.peer bi s).1 },q1],net:=sndN 0 m.net (q0.n.peer bi s).2 },0):=by
    rw [feed_peer hmh (by rw [hm]; have c2:bi<1:=of_decide_eq_true c1; simp; omega)]
    show ({ m with l:=m.l.set 0 { m.at_ 0 with n:=((m.at_ 0).n.peer bi s).1 },net:=sndN 0 m.net ((m.at_ 0).n.peer bi s).2 },(0:Int))=_
    rw [e0,hm]
    rfl
   rw [h0] at h
   cases h
   have hM:[{ q0 with n:=(q0.n.peer bi s).1 },q1]=[p0,p1]:=hM
   cases hM
   refine ⟨⟨(by show (0:Int)≤0; decide),(by show (0:Int)<((2:Nat):Int); decide)⟩,?_⟩
   conv=>whnf
   refine ck (npeer_ok hG hS hH q0.n o1 (by omega) bi s) [3,4,5,6,7,8,9,10,11,12,13,14,15] ?_
   have ht:=(o1.peer (by omega) bi s).2.2.2.2
   generalize (q0.n.peer bi s).1=n2 at ht
   generalize (q0.n.peer bi s).2=out at ht
   conv=>whnf
   refine ck (send_ok m ({ q0 with n:=n2 }) q1 0 out (by omega)) [0,1,2,3,4,5,32,7,33,9,34,11,12,13,35,15,16,17,18,19,20,21,22,23,24,25,26,27,28,29,30,36] ?_
   conv=>whnf
   refine ⟨rfl,?_⟩
   conv=>whnf
   exact kv [0,1,2,3,4,5,6,7,8,9,10,11,12,13,14,15,16,17,18,19,20,21,22,23,24,25,26,27,28,29,30,37,3,4,5,32,7,33,34,11,12,13,35,15,16,17,18,19,20,21,22,24,25,26,27,28,29,30]
  ·have h0:m.feed ⟨kind,0,bi,n,s⟩=({ m with l:=[{ q0 with n:=q0.n.log s },q1] },0):=by
    rw [feed_log hmh (by rw [hm]; have c2:¬ bi<1:=of_decide_eq_false c1; simp; omega)]
    show ({ m with l:=m.l.set 0 { m.at_ 0 with n:=(m.at_ 0).n.log s } },(0:Int))=_
    rw [e0,hm]
    rfl
   rw [h0] at h
   cases h
   have hM:[{ q0 with n:=q0.n.log s },q1]=[p0,p1]:=hM
   cases hM
   refine ⟨⟨(by show (0:Int)≤0; decide),(by show (0:Int)<((2:Nat):Int); decide)⟩,?_⟩
   conv=>whnf
   refine ck (nlog_ok hG hS hH q0.n o1 (by omega) s) [3,4,5,6,7,8,9,10,11,12,13,14,15] ?_
   conv=>whnf
   refine ck (send_ok m ({ q0 with n:=q0.n.log s }) q1 0 [] (by decide)) [0,1,2,3,4,5,32,7,33,9,34,11,12,13,35,15,16,17,18,19,20,21,22,23,24,25,26,27,28,29,30,36] ?_
   conv=>whnf
   refine ⟨rfl,?_⟩
   conv=>whnf
   exact kv [0,1,2,3,4,5,6,7,8,9,10,11,12,13,14,15,16,17,18,19,20,21,22,23,24,25,26,27,28,29,30,37,3,4,5,32,7,33,34,11,12,13,35,15,16,17,18,19,20,21,22,24,25,26,27,28,29,30]
 ·have e0:m.at_ 1=q1:=by unfold Ms.at_; rw [hm]; rfl
  obtain ⟨o1,o2,o3, -, -⟩:=hok.n q1 (by rw [hm]; simp)
  refine ⟨rfl,?_⟩
  conv=>whnf
  refine br_of (fun c1 => ?_) (fun c1 => ?_) <;> conv=>whnf
  ·have h0:m.feed ⟨kind,1,bi,n,s⟩=({ m with l:=[q0,{ q1 with n:=(q1.n.peer bi s).1 }],net:=sndN 1 m.net (q1.n.peer bi s).2 },0):=by
    rw [feed_peer hmh (by rw [hm]; have c2:bi<1:=of_decide_eq_true c1; simp; omega)]
    show ({ m with l:=m.l.set 1 { m.at_ 1 with n:=((m.at_ 1).n.peer bi s).1 },net:=sndN 1 m.net ((m.at_ 1).n.peer bi s).2 },(0:Int))=_
    rw [e0,hm]
    rfl
   rw [h0] at h
   cases h
   have hM:[q0,{ q1 with n:=(q1.n.peer bi s).1 }]=[p0,p1]:=hM
   cases hM
   refine ⟨⟨(by show (0:Int)≤1; decide),(by show (1:Int)<((2:Nat):Int); decide)⟩,?_⟩
   conv=>whnf
   refine ck (npeer_ok hG hS hH q1.n o1 (by omega) bi s) [17,18,19,20,21,22,23,24,25,26,27,28,29] ?_
   have ht:=(o1.peer (by omega) bi s).2.2.2.2
   generalize (q1.n.peer bi s).1=n2 at ht
   generalize (q1.n.peer bi s).2=out at ht
   conv=>whnf
   refine ck (send_ok m q0 ({ q1 with n:=n2 }) 1 out (by omega)) [0,1,2,3,4,5,6,7,8,9,10,11,12,13,14,15,16,17,18,19,32,21,33,23,34,25,26,27,35,29,30,36] ?_
   conv=>whnf
   refine ⟨rfl,?_⟩
   conv=>whnf
   exact kv [0,1,2,3,4,5,6,7,8,9,10,11,12,13,14,15,16,17,18,19,20,21,22,23,24,25,26,27,28,29,30,37,3,4,5,6,7,8,10,11,12,13,14,15,16,17,18,19,32,21,33,34,25,26,27,35,29,30]
  ·have h0:m.feed ⟨kind,1,bi,n,s⟩=({ m with l:=[q0,{ q1 with n:=q1.n.log s }] },0):=by
    rw [feed_log hmh (by rw [hm]; have c2:¬ bi<1:=of_decide_eq_false c1; simp; omega)]
    show ({ m with l:=m.l.set 1 { m.at_ 1 with n:=(m.at_ 1).n.log s } },(0:Int))=_
    rw [e0,hm]
    rfl
   rw [h0] at h
   cases h
   have hM:[q0,{ q1 with n:=q1.n.log s }]=[p0,p1]:=hM
   cases hM
   refine ⟨⟨(by show (0:Int)≤1; decide),(by show (1:Int)<((2:Nat):Int); decide)⟩,?_⟩
   conv=>whnf
   refine ck (nlog_ok hG hS hH q1.n o1 (by omega) s) [17,18,19,20,21,22,23,24,25,26,27,28,29] ?_
   conv=>whnf
   refine ck (send_ok m q0 ({ q1 with n:=q1.n.log s }) 1 [] (by decide)) [0,1,2,3,4,5,6,7,8,9,10,11,12,13,14,15,16,17,18,19,32,21,33,23,34,25,26,27,35,29,30,36] ?_
   conv=>whnf
   refine ⟨rfl,?_⟩
   conv=>whnf
   exact kv [0,1,2,3,4,5,6,7,8,9,10,11,12,13,14,15,16,17,18,19,20,21,22,23,24,25,26,27,28,29,30,37,3,4,5,6,7,8,10,11,12,13,14,15,16,17,18,19,32,21,33,34,25,26,27,35,29,30]
theorem arrive_ok (hG:GSig G) (hS:GSha G) (hH:GHas G) (m:Ms) (q0 q1:Pl) (hm:m.l=[q0,q1]) (b:Nat) (hok:Ms.ok (b+1) m) (p:Pk) (hp:okP 2 p) (M:Ms) (p0 p1:Pl) (h:m.arrive p=M) (hM:M.l=[p0,p1]):Tri Tryz.prog G 75 [.p 0 0 0,.a (pkE p)] (mH m q0 q1) (.t []) (mP M p0 p1++mQ M p0 p1):=by
 have ha:=arrive_a (m:=m) (p:=p)
 have hb:=arrive_b (m:=m) (p:=p)
 have hc:=arrive_c (m:=m) (p:=p)
 rw [h] at ha hb hc
 clear h
 obtain ⟨frm,dst,s⟩:=p
 simp only at ha hb hc
 unfold okP at hp
 simp only at hp
 show Tri Tryz.prog G 75 [.p 0 0 0,.a [i64 frm,i64 dst,sv s]] (mH m q0 q1) (.t []) (mP M p0 p1++mQ M p0 p1)
 refine fn Tryz.func75 ?_
 conv=>whnf
 refine br_of (fun c1 => ?_) (fun c1 => ?_) <;> conv=>whnf
 ·have c1:dst = -1:=eq_of_beq c1
  have ha:=ha c1
  have hor:frm=0∨frm=1:=by omega
  rcases hor with rfl | rfl
  ·have e0:m.at_ 0=q0:=by unfold Ms.at_; rw [hm]; rfl
   obtain ⟨v1,v2⟩:=hok.v q0 (by rw [hm]; simp)
   have ha:M={ m with net:=if ansL m.k (m.at_ 0).view m.now s≠[] then putN m.net ⟨-1,0,ansL m.k (m.at_ 0).view m.now s⟩ else m.net }:=ha
   rw [e0] at ha
   refine ⟨⟨of_decide_eq_true rfl,of_decide_eq_true rfl⟩,?_⟩
   conv=>whnf
   refine ckQ (lans_ok hG hS hH m.k hok.k q0.view (by omega) (fun x hx=>by have:=v2 x hx; omega) m.now hok.now s) [16] ?_
   generalize ansL m.k q0.view m.now s=r at ha
   conv=>whnf
   refine ⟨rfl,?_⟩
   conv=>whnf
   rw [ne_nil]
   refine br_of (fun c2 => ?_) (fun c2 => ?_) <;> conv=>whnf
   ·rw [if_pos (bne_iff_ne.1 c2)] at ha
    subst ha
    have hM:m.l=[p0,p1]:=hM
    rw [hm] at hM
    cases hM
    refine ck (put_ok m q0 q1 ⟨-1,0,r⟩) [0,1,2,3,4,5,6,7,8,9,10,11,12,13,14,15,16,17,18,19,20,21,22,23,24,25,26,27,28,29,30] ?_
    conv=>whnf
    exact kv [0,1,2,3,4,5,6,7,8,9,10,11,12,13,14,15,16,17,18,19,20,21,22,23,24,25,26,27,28,29,30,32,3,4,5,6,7,8,10,11,12,13,14,15,16,17,18,19,20,21,22,24,25,26,27,28,29,30]
   ·rw [if_neg (by simpa using c2)] at ha
    subst ha
    have hM:m.l=[p0,p1]:=hM
    rw [hm] at hM
    cases hM
    exact kv [0,1,2,3,4,5,6,7,8,9,10,11,12,13,14,15,16,17,18,19,20,21,22,23,24,25,26,27,28,29,30,2,3,4,5,6,7,8,10,11,12,13,14,15,16,17,18,19,20,21,22,24,25,26,27,28,29,30]
  ·have e0:m.at_ 1=q1:=by unfold Ms.at_; rw [hm]; rfl
   obtain ⟨v1,v2⟩:=hok.v q1 (by rw [hm]; simp)
   have ha:M={ m with net:=if ansL m.k (m.at_ 1).view m.now s≠[] then putN m.net ⟨-1,1,ansL m.k (m.at_ 1).view m.now s⟩ else m.net }:=ha
   rw [e0] at ha
   refine ⟨⟨of_decide_eq_true rfl,of_decide_eq_true rfl⟩,?_⟩
   conv=>whnf
   refine ckQ (lans_ok hG hS hH m.k hok.k q1.view (by omega) (fun x hx=>by have:=v2 x hx; omega) m.now hok.now s) [30] ?_
   generalize ansL m.k q1.view m.now s=r at ha
   conv=>whnf
   refine ⟨rfl,?_⟩
   conv=>whnf
   rw [ne_nil]
   refine br_of (fun c2 => ?_) (fun c2 => ?_) <;> conv=>whnf
   ·rw [if_pos (bne_iff_ne.1 c2)] at ha
    subst ha
    have hM:m.l=[p0,p1]:=hM
    rw [hm] at hM
    cases hM
    refine ck (put_ok m q0 q1 ⟨-1,1,r⟩) [0,1,2,3,4,5,6,7,8,9,10,11,12,13,14,15,16,17,18,19,20,21,22,23,24,25,26,27,28,29,30] ?_
    conv=>whnf
    exact kv [0,1,2,3,4,5,6,7,8,9,10,11,12,13,14,15,16,17,18,19,20,21,22,23,24,25,26,27,28,29,30,32,3,4,5,6,7,8,10,11,12,13,14,15,16,17,18,19,20,21,22,24,25,26,27,28,29,30]
   ·rw [if_neg (by simpa using c2)] at ha
    subst ha
    have hM:m.l=[p0,p1]:=hM
    rw [hm] at hM
    cases hM
    exact kv [0,1,2,3,4,5,6,7,8,9,10,11,12,13,14,15,16,17,18,19,20,21,22,23,24,25,26,27,28,29,30,2,3,4,5,6,7,8,10,11,12,13,14,15,16,17,18,19,20,21,22,24,25,26,27,28,29,30]
 have c1:¬ dst = -1:=beq_eq_false_iff_ne.1 c1
 refine br_of (fun c2 => ?_) (fun c2 => ?_) <;> conv=>whnf
 ·have c2:frm = -1:=eq_of_beq c2
  have hb:=hb c1 c2
  have hor:dst=0∨dst=1:=by omega
  rcases hor with rfl | rfl
  ·have e0:m.at_ 0=q0:=by unfold Ms.at_; rw [hm]; rfl
   obtain ⟨o1,o2,o3, -, -⟩:=hok.n q0 (by rw [hm]; simp)
   have hb:M={ m with l:=m.l.set 0 { m.at_ 0 with n:=(m.at_ 0).n.log s } }:=hb
   rw [e0,hm] at hb
   subst hb
   have hM:[{ q0 with n:=q0.n.log s },q1]=[p0,p1]:=hM
   cases hM
   refine ⟨⟨of_decide_eq_true rfl,of_decide_eq_true rfl⟩,?_⟩
   conv=>whnf
   refine ck (nlog_ok hG hS hH q0.n o1 (by omega) s) [3,4,5,6,7,8,9,10,11,12,13,14,15] ?_
   conv=>whnf
   refine ck (send_ok m ({ q0 with n:=q0.n.log s }) q1 0 [] (by decide)) [0,1,2,3,4,5,32,7,33,9,34,11,12,13,35,15,16,17,18,19,20,21,22,23,24,25,26,27,28,29,30,36] ?_
   conv=>whnf
   refine ⟨rfl,?_⟩
   conv=>whnf
   exact kv [0,1,2,3,4,5,6,7,8,9,10,11,12,13,14,15,16,17,18,19,20,21,22,23,24,25,26,27,28,29,30,37,3,4,5,32,7,33,34,11,12,13,35,15,16,17,18,19,20,21,22,24,25,26,27,28,29,30]
  ·have e0:m.at_ 1=q1:=by unfold Ms.at_; rw [hm]; rfl
   obtain ⟨o1,o2,o3, -, -⟩:=hok.n q1 (by rw [hm]; simp)
   have hb:M={ m with l:=m.l.set 1 { m.at_ 1 with n:=(m.at_ 1).n.log s } }:=hb
   rw [e0,hm] at hb
   subst hb
   have hM:[q0,{ q1 with n:=q1.n.log s }]=[p0,p1]:=hM
   cases hM
   refine ⟨⟨of_decide_eq_true rfl,of_decide_eq_true rfl⟩,?_⟩
   conv=>whnf
   refine ck (nlog_ok hG hS hH q1.n o1 (by omega) s) [17,18,19,20,21,22,23,24,25,26,27,28,29] ?_
   conv=>whnf
   refine ck (send_ok m q0 ({ q1 with n:=q1.n.log s }) 1 [] (by decide)) [0,1,2,3,4,5,6,7,8,9,10,11,12,13,14,15,16,17,18,19,32,21,33,23,34,25,26,27,35,29,30,36] ?_
   conv=>whnf
   refine ⟨rfl,?_⟩
   conv=>whnf
   exact kv [0,1,2,3,4,5,6,7,8,9,10,11,12,13,14,15,16,17,18,19,20,21,22,23,24,25,26,27,28,29,30,37,3,4,5,6,7,8,10,11,12,13,14,15,16,17,18,19,32,21,33,34,25,26,27,35,29,30]
 have c2:¬ frm = -1:=beq_eq_false_iff_ne.1 c2
 have hc:=hc c1 c2
 obtain ⟨f,hf2⟩:∃ f,(if frm>dst then frm-1 else frm)=f:=⟨_,rfl⟩
 rw [hf2] at hc
 refine br_of (fun c3 => ?ga) (fun c3 => ?gb) <;> conv=>whnf
 case' ga =>
  rw [wI64 (n:=frm-1) (by omega) (by omega)]
  rw [if_pos (of_decide_eq_true c3)] at hf2
  rw [hf2]
 case' gb =>
  rw [if_neg (of_decide_eq_false c3)] at hf2
  rw [hf2]
 all_goals
  clear c3
  have hor:dst=0∨dst=1:=by omega
  rcases hor with rfl | rfl
  ·have e0:m.at_ 0=q0:=by unfold Ms.at_; rw [hm]; rfl
   obtain ⟨o1,o2,o3, -, -⟩:=hok.n q0 (by rw [hm]; simp)
   have hc:M={ m with l:=m.l.set 0 { m.at_ 0 with n:=((m.at_ 0).n.peer f s).1 },net:=sndN 0 m.net ((m.at_ 0).n.peer f s).2 }:=hc
   rw [e0,hm] at hc
   subst hc
   have hM:[{ q0 with n:=(q0.n.peer f s).1 },q1]=[p0,p1]:=hM
   cases hM
   refine ⟨⟨of_decide_eq_true rfl,of_decide_eq_true rfl⟩,?_⟩
   conv=>whnf
   refine ck (npeer_ok hG hS hH q0.n o1 (by omega) f s) [3,4,5,6,7,8,9,10,11,12,13,14,15] ?_
   have ht:=(o1.peer (by omega) f s).2.2.2.2
   generalize (q0.n.peer f s).1=n2 at ht
   generalize (q0.n.peer f s).2=out at ht
   conv=>whnf
   refine ck (send_ok m ({ q0 with n:=n2 }) q1 0 out (by omega)) [0,1,2,3,4,5,32,7,33,9,34,11,12,13,35,15,16,17,18,19,20,21,22,23,24,25,26,27,28,29,30,36] ?_
   conv=>whnf
   refine ⟨rfl,?_⟩
   conv=>whnf
   exact kv [0,1,2,3,4,5,6,7,8,9,10,11,12,13,14,15,16,17,18,19,20,21,22,23,24,25,26,27,28,29,30,37,3,4,5,32,7,33,34,11,12,13,35,15,16,17,18,19,20,21,22,24,25,26,27,28,29,30]
  ·have e0:m.at_ 1=q1:=by unfold Ms.at_; rw [hm]; rfl
   obtain ⟨o1,o2,o3, -, -⟩:=hok.n q1 (by rw [hm]; simp)
   have hc:M={ m with l:=m.l.set 1 { m.at_ 1 with n:=((m.at_ 1).n.peer f s).1 },net:=sndN 1 m.net ((m.at_ 1).n.peer f s).2 }:=hc
   rw [e0,hm] at hc
   subst hc
   have hM:[q0,{ q1 with n:=(q1.n.peer f s).1 }]=[p0,p1]:=hM
   cases hM
   refine ⟨⟨of_decide_eq_true rfl,of_decide_eq_true rfl⟩,?_⟩
   conv=>whnf
   refine ck (npeer_ok hG hS hH q1.n o1 (by omega) f s) [17,18,19,20,21,22,23,24,25,26,27,28,29] ?_
   have ht:=(o1.peer (by omega) f s).2.2.2.2
   generalize (q1.n.peer f s).1=n2 at ht
   generalize (q1.n.peer f s).2=out at ht
   conv=>whnf
   refine ck (send_ok m q0 ({ q1 with n:=n2 }) 1 out (by omega)) [0,1,2,3,4,5,6,7,8,9,10,11,12,13,14,15,16,17,18,19,32,21,33,23,34,25,26,27,35,29,30,36] ?_
   conv=>whnf
   refine ⟨rfl,?_⟩
   conv=>whnf
   exact kv [0,1,2,3,4,5,6,7,8,9,10,11,12,13,14,15,16,17,18,19,20,21,22,23,24,25,26,27,28,29,30,37,3,4,5,6,7,8,10,11,12,13,14,15,16,17,18,19,32,21,33,34,25,26,27,35,29,30]
theorem moved_ok (hG:GSig G) (hS:GSha G) (hH:GHas G) (m:Ms) (q0 q1:Pl) (hm:m.l=[q0,q1]) (b:Nat) (hok:Ms.ok (b+1) m) (a:Ac) (ha:0≤a.a) (M:Ms) (e:Int) (p0 p1:Pl) (h:m.moved a=(M,e)) (hM:M.l=[p0,p1]):Tri Tryz.prog G 29 [.p 0 0 0,.a (acE a)] (mH m q0 q1) (i64 e) (mP M p0 p1++mQ M p0 p1):=by
 have h0:=moved_no (m:=m) (a:=a)
 have h1:=moved_1 (m:=m) (a:=a)
 have h2:=moved_2 (m:=m) (a:=a)
 have h3:=moved_3 (m:=m) (a:=a)
 have h4:=moved_4 (m:=m) (a:=a)
 rw [h] at h0 h1 h2 h3 h4
 clear h
 obtain ⟨kind,ai,bi,n,s⟩:=a
 simp only at ha h0 h1 h2 h3 h4
 have hnl:=hok.net
 show Tri Tryz.prog G 29 [.p 0 0 0,.a [i64 kind,i64 ai,i64 bi,u64 n,sv s]] (mH m q0 q1) (i64 e) (mP M p0 p1++mQ M p0 p1)
 refine fn Tryz.func29 ?_
 conv=>whnf
 refine br_of (fun c0 => ?_) (fun c0 => ?_) <;> conv=>whnf
 ·have c0:m.net.length=0:=by have:=eq_of_beq c0; omega
  have h0:=h0 c0
  cases h0
  rw [hm] at hM
  cases hM
  exact kv [0,1,2,3,4,5,6,7,8,9,10,11,12,13,14,15,16,17,18,19,20,21,22,23,24,25,26,27,28,29,30,2,3,4,5,6,7,8,10,11,12,13,14,15,16,17,18,19,20,21,22,24,25,26,27,28,29,30]
 have c0:¬ m.net.length=0:=by have:=beq_eq_false_iff_ne.1 c0; omega
 rw [rem_some (by omega)]
 obtain ⟨i,hi⟩:∃ i,mvI m ai=i:=⟨_,rfl⟩
 have hie:ai%(m.net.length:Int)=(i:Nat):=by rw [← hi]; exact (Int.toNat_of_nonneg (Int.emod_nonneg _ (by omega))).symm
 have hil:i<m.net.length:=by have:=Int.emod_lt_of_pos ai (show (0:Int)<m.net.length by omega); omega
 rw [show Int.tmod ai (m.net.length:Int)=(i:Nat) from by rw [Int.tmod_eq_emod_of_nonneg ha,hie]]
 rw [hi] at h1 h2 h3 h4
 obtain ⟨p,hp⟩:∃ p,m.net.getD i default=p:=⟨_,rfl⟩
 have hpe:m.net[i]? = some p:=by rw [List.getD_eq_getElem?_getD,List.getElem?_eq_getElem hil] at hp; rw [List.getElem?_eq_getElem hil]; exact congrArg some hp
 rw [hp] at h1 h3 h4
 conv=>whnf
 refine ⟨rfl,?_⟩
 conv=>whnf
 refine ⟨⟨by omega,by omega⟩,?_⟩
 conv=>whnf
 refine ob_of (pkE p) (by simp [hpe]) ?_
 conv=>whnf
 refine br_of (fun c3 => ?_) (fun c3 => ?_) <;> conv=>whnf
 ·have h3:=h3 c0 (eq_of_beq c3)
  cases h3
  have hM:m.l=[p0,p1]:=hM
  rw [hm] at hM
  cases hM
  refine ck (put_ok m q0 q1 p) [0,1,2,3,4,5,6,7,8,9,10,11,12,13,14,15,16,17,18,19,20,21,22,23,24,25,26,27,28,29,30] ?_
  conv=>whnf
  exact kv [0,1,2,3,4,5,6,7,8,9,10,11,12,13,14,15,16,17,18,19,20,21,22,23,24,25,26,27,28,29,30,33,3,4,5,6,7,8,10,11,12,13,14,15,16,17,18,19,20,21,22,24,25,26,27,28,29,30]
 have hne:IntKind.i64.wrap ((m.net.length:Int)-1)=((m.net.length-1:Nat):Int):=by rw [wI64 (n:=(m.net.length:Int)-1) (by omega) (by omega)]; omega
 rw [hne]
 refine ⟨⟨by omega,rfl,by omega⟩,?_⟩
 conv=>whnf
 refine ⟨⟨by decide,by omega,by omega⟩,?_⟩
 conv=>whnf
 refine ⟨⟨by simp,by simp; omega⟩,?_⟩
 conv=>whnf
 refine ⟨⟨by omega,by omega,by omega⟩,?_⟩
 conv=>whnf
 rw [wI64 (n:=(i:Int)+1) (by omega) (by omega)]
 refine ⟨⟨by omega,by omega,by omega⟩,?_⟩
 conv=>whnf
 refine ⟨⟨by rw [eputL_len _ _ _ (by simp; omega)]; simp; omega,by simp; omega⟩,?_⟩
 conv=>whnf
 refine ⟨rfl,?_⟩
 conv=>whnf
 have eX:=mv_rows m.net i hil
 rw [eX,show (((m.net.length-1:Nat):Int)).toNat=(m.net.eraseIdx i).length by rw [List.length_eraseIdx_of_lt hil]; rfl]
 have hrl:(m.net.eraseIdx i).length≤64:=by rw [List.length_eraseIdx_of_lt hil]; omega
 have hrp:∀ x∈m.net.eraseIdx i,okP m.l.length x:=fun x hx=>hok.p x (List.mem_of_mem_eraseIdx hx)
 have hpp:okP m.l.length p:=hok.p p (List.mem_of_getElem? hpe)
 have hok2:Ms.ok (b+1) { m with net:=m.net.eraseIdx i }:=hok.nets hrl hrp
 generalize m.net.eraseIdx i=rest at hok2 h1 h2 h4
 have c3:¬ kind=3:=beq_eq_false_iff_ne.1 c3
 refine br_of (fun c4 => ?_) (fun c4 => ?_) <;> conv=>whnf
 ·have h4:=h4 c0 (eq_of_beq c4)
  cases h4
  have hM:m.l=[p0,p1]:=hM
  rw [hm] at hM
  cases hM
  refine ck (put_ok { m with net:=rest } q0 q1 p) [0,1,33,3,4,5,6,7,8,9,10,11,12,13,14,15,16,17,18,19,20,21,22,23,24,25,26,27,28,29,30] ?_
  conv=>whnf
  exact kv [0,1,2,3,4,5,6,7,8,9,10,11,12,13,14,15,16,17,18,19,20,21,22,23,24,25,26,27,28,29,30,34,3,4,5,6,7,8,10,11,12,13,14,15,16,17,18,19,20,21,22,24,25,26,27,28,29,30]
 have c4:¬ kind=4:=beq_eq_false_iff_ne.1 c4
 refine br_of (fun c1 => ?_) (fun c1 => ?_) <;> conv=>whnf
 ·have h1:=h1 c0 (eq_of_beq c1)
  have hMa:({ m with net:=rest }:Ms).arrive p=M:=(congrArg Prod.fst h1).symm
  obtain rfl:e=0:=congrArg Prod.snd h1
  rw [hm] at hpp
  refine ck (arrive_ok hG hS hH { m with net:=rest } q0 q1 hm b hok2 p hpp M p0 p1 hMa hM) [0,1,33,3,4,5,6,7,8,9,10,11,12,13,14,15,16,17,18,19,20,21,22,23,24,25,26,27,28,29,30] ?_
  conv=>whnf
  exact kv [0,1,2,3,4,5,6,7,8,9,10,11,12,13,14,15,16,17,18,19,20,21,22,23,24,25,26,27,28,29,30,34,35,36,37,38,39,40,41,42,43,44,45,46,47,48,49,50,51,52,53,54,55,56,57,58,59,60]
 have h2:=h2 c0 (beq_eq_false_iff_ne.1 c1) c3 c4
 cases h2
 have hM:m.l=[p0,p1]:=hM
 rw [hm] at hM
 cases hM
 exact kv [0,1,2,3,4,5,6,7,8,9,10,11,12,13,14,15,16,17,18,19,20,21,22,23,24,25,26,27,28,29,30,33,3,4,5,6,7,8,10,11,12,13,14,15,16,17,18,19,20,21,22,24,25,26,27,28,29,30]
end Go.Proofs.YtdhgpocbcccieaaGreatDoor.M2
namespace Go.Proofs.YtdhgpocbcccieaaGreatDoor.E
open Go Go.RowKit
variable {P:Program} {G:Gl}
theorem ckN {f:FuncId} {args args':List EV} {H Hn Hc:List EB} {r:EV} {K:KE} (t:Tri P G f args H r (H++Hn)) (ρ:List Nat) (X:List EB) (hk:renK (ρ++List.range' Hc.length Hn.length) (Hc.length+Hn.length) r fun r'=>appK Hc X fun H2=>K r' H2 (ρ++List.range' Hc.length Hn.length) (List.range' Hc.length Hn.length))
  (hput:putsL (ρ++List.range' Hc.length Hn.length) (Hc.length+Hn.length) ρ (H++Hn) Hc=Hc++X:=by kernel_rfl)
  (hargs:covR ρ Hc.length args' args:=by repeat' (first | exact True.intro | exact Or.inl rfl | refine And.intro ?_ ?_))
  (hcov:pkB ρ Hc.length Hc 0 H=rnB ρ Hc.length H:=by kernel_rfl) (hlv:liveg H=true:=by kernel_rfl)
  (hck:(Nat.beq ρ.length H.length&&H.all EB.live&&Nat.ble H.length (H++Hn).length&&(ρ.all fun L=>Nat.blt L Hc.length)&&(wfEs H.length args&&H.all (wfB H.length)))=true:=by kernel_rfl) (hnd:ndB' ρ=true:=by kernel_rfl)
  (hlen:H.length=ρ.length:=by kernel_rfl):CallE P G f args' Hc K:=clN t ρ X hk hput hargs (covL_of hcov hlv) hck (nd_of hnd) hlen
end Go.Proofs.YtdhgpocbcccieaaGreatDoor.E
namespace Go.Proofs.YtdhgpocbcccieaaGreatDoor.M2
open Go Go.RowKit Go.Proofs.YtdhgpocbcccieaaGreatDoor.E Go.Proofs.YtdhgpocbcccieaaGreatDoor.M
variable {G:Gl}
theorem crash_ok (hG:GSig G) (hS:GSha G) (hH:GHas G) (m:Ms) (q0 q1:Pl) (hm:m.l=[q0,q1]) (b:Nat) (hok:Ms.ok (b+1) m) (a:Ac) (ha:a.n≤4294967296) (M:Ms) (e:Int) (p0 p1:Pl) (h:m.crash a=(M,e)) (hM:M.l=[p0,p1]):Tri Tryz.prog G 31 [.p 0 0 0,.a (acE a)] (mH m q0 q1) (i64 e) (mP M p0 p1++mQ M p0 p1):=by
 obtain ⟨kind,ai,bi,n,s⟩:=a
 simp only at ha
 have hcn:m.c.nodes=2:=by rw [hok.cn,hm]; rfl
 refine fn Tryz.func31 ?_
 conv=>whnf
 refine ckQ (has_ok m q0 q1 ai) [0,1,2,3,4,5,6,7,8,9,10,11,12,13,14,15,16,17,18,19,20,21,22,23,24,25,26,27,28,29,30] ?_
 conv=>whnf
 by_cases hi:ai≥0∧ai<2
 rotate_left
 ·have hb:(decide (ai≥0)&&decide (ai<2))=false:=by
   cases hx:(decide (ai≥0)&&decide (ai<2)) with
   | false=>rfl
   | true=>simp only [Bool.and_eq_true,decide_eq_true_eq] at hx; exact absurd hx hi
  rw [hb]
  conv=>whnf
  rw [crash_no (a:=⟨kind,ai,bi,n,s⟩) (by unfold Ms.has; rw [hm]; exact hb)] at h
  cases h
  rw [hm] at hM
  cases hM
  exact kv [0,1,2,3,4,5,6,7,8,9,10,11,12,13,14,15,16,17,18,19,20,21,22,23,24,25,26,27,28,29,30,2,3,4,5,6,7,8,10,11,12,13,14,15,16,17,18,19,20,21,22,24,25,26,27,28,29,30]
 have hb:(decide (ai≥0)&&decide (ai<2))=true:=by rw [decide_eq_true hi.1,decide_eq_true hi.2]; rfl
 have hmh:m.has ai=true:=by unfold Ms.has; rw [hm]; exact hb
 rw [hb]
 conv=>whnf
 have hor:ai=0∨ai=1:=by omega
 rcases hor with rfl | rfl
 ·have e0:m.at_ 0=q0:=by unfold Ms.at_; rw [hm]; rfl
  obtain ⟨o1,o2,o3, -, -⟩:=hok.n q0 (by rw [hm]; simp)
  have hd:=crash_w o1.j n
  have h0:=crash_at (m:=m) (a:=⟨kind,0,bi,n,s⟩) hmh rfl e0
  rw [h0,hm] at h
  clear h0
  refine ⟨⟨(by show (0:Int)≤0; decide),(by show (0:Int)<((2:Nat):Int); decide)⟩,?_⟩
  conv=>whnf
  refine ⟨rfl,?_⟩
  conv=>whnf
  rw [wI64 (n:=(n:Int)) (by omega) (by omega)]
  refine ck (dcrash_ok q0.n.j.d n (o1.j.d.fit (by decide)) o1.j.d.2.2.1 o1.j.u (by omega)) [9,10] ?_
  conv=>whnf
  refine ⟨rfl,?_⟩
  conv=>whnf
  refine ckN (conf_ok m ({ q0 with n:={ q0.n with j:={ q0.n.j with d:=q0.n.j.d.crash n } } }) q1 hcn) [0,1,2,3,4,5,6,7,8,9,32,11,12,13,14,15,16,17,18,19,20,21,22,23,24,25,26,27,28,29,30] [sRs [m.k.pub]] ?_
  conv=>whnf
  have hB:=nboot_ok hG hS hH m.conf hok.c m.k.pub hok.kp (q0.n.j.d.crash n) hd.1 hd.2 _ rfl
  cases hb:Nd.boot m.conf m.k.pub (q0.n.j.d.crash n) with
  | some n2 =>
   rw [hb] at h hB
   have h:(({ m with l:=[{ q0 with n:=n2 },q1] }:Ms),(0:Int))=(M,e):=h
   cases h
   have hM:[{ q0 with n:=n2 },q1]=[p0,p1]:=hM
   cases hM
   refine ck hB [33,9,32] ?_
   conv=>whnf
   refine ⟨rfl,?_⟩
   conv=>whnf
   exact kv [0,1,2,3,4,5,6,7,8,9,10,11,12,13,14,15,16,17,18,19,20,21,22,23,24,25,26,27,28,29,30,2,34,35,36,37,38,39,40,41,42,43,44,45,16,17,18,19,20,21,22,24,25,26,27,28,29,30]
  | none =>
   rw [hb] at h hB
   have h:(({ m with l:=[{ q0 with n:={ q0.n with j:={ q0.n.j with d:=(Jn.open (q0.n.j.d.crash n)).d } } },q1] }:Ms),(3:Int))=(M,e):=h
   cases h
   have hM:[{ q0 with n:={ q0.n with j:={ q0.n.j with d:=(Jn.open (q0.n.j.d.crash n)).d } } },q1]=[p0,p1]:=hM
   cases hM
   refine ck hB [33,9,32] ?_
   conv=>whnf
   refine ⟨rfl,?_⟩
   conv=>whnf
   exact kv [0,1,2,3,4,5,6,7,8,9,10,11,12,13,14,15,16,17,18,19,20,21,22,23,24,25,26,27,28,29,30,2,3,4,5,6,7,8,34,11,12,13,14,15,16,17,18,19,20,21,22,24,25,26,27,28,29,30]
 ·have e0:m.at_ 1=q1:=by unfold Ms.at_; rw [hm]; rfl
  obtain ⟨o1,o2,o3, -, -⟩:=hok.n q1 (by rw [hm]; simp)
  have hd:=crash_w o1.j n
  have h0:=crash_at (m:=m) (a:=⟨kind,1,bi,n,s⟩) hmh rfl e0
  rw [h0,hm] at h
  clear h0
  refine ⟨⟨(by show (0:Int)≤1; decide),(by show (1:Int)<((2:Nat):Int); decide)⟩,?_⟩
  conv=>whnf
  refine ⟨rfl,?_⟩
  conv=>whnf
  rw [wI64 (n:=(n:Int)) (by omega) (by omega)]
  refine ck (dcrash_ok q1.n.j.d n (o1.j.d.fit (by decide)) o1.j.d.2.2.1 o1.j.u (by omega)) [23,24] ?_
  conv=>whnf
  refine ⟨rfl,?_⟩
  conv=>whnf
  refine ckN (conf_ok m q0 ({ q1 with n:={ q1.n with j:={ q1.n.j with d:=q1.n.j.d.crash n } } }) hcn) [0,1,2,3,4,5,6,7,8,9,10,11,12,13,14,15,16,17,18,19,20,21,22,23,32,25,26,27,28,29,30] [sRs [m.k.pub]] ?_
  conv=>whnf
  have hB:=nboot_ok hG hS hH m.conf hok.c m.k.pub hok.kp (q1.n.j.d.crash n) hd.1 hd.2 _ rfl
  cases hb:Nd.boot m.conf m.k.pub (q1.n.j.d.crash n) with
  | some n2 =>
   rw [hb] at h hB
   have h:(({ m with l:=[q0,{ q1 with n:=n2 }] }:Ms),(0:Int))=(M,e):=h
   cases h
   have hM:[q0,{ q1 with n:=n2 }]=[p0,p1]:=hM
   cases hM
   refine ck hB [33,23,32] ?_
   conv=>whnf
   refine ⟨rfl,?_⟩
   conv=>whnf
   exact kv [0,1,2,3,4,5,6,7,8,9,10,11,12,13,14,15,16,17,18,19,20,21,22,23,24,25,26,27,28,29,30,2,3,4,5,6,7,8,10,11,12,13,14,15,16,34,35,36,37,38,39,40,41,42,43,44,45,30]
  | none =>
   rw [hb] at h hB
   have h:(({ m with l:=[q0,{ q1 with n:={ q1.n with j:={ q1.n.j with d:=(Jn.open (q1.n.j.d.crash n)).d } } }] }:Ms),(3:Int))=(M,e):=h
   cases h
   have hM:[q0,{ q1 with n:={ q1.n with j:={ q1.n.j with d:=(Jn.open (q1.n.j.d.crash n)).d } } }]=[p0,p1]:=hM
   cases hM
   refine ck hB [33,23,32] ?_
   conv=>whnf
   refine ⟨rfl,?_⟩
   conv=>whnf
   exact kv [0,1,2,3,4,5,6,7,8,9,10,11,12,13,14,15,16,17,18,19,20,21,22,23,24,25,26,27,28,29,30,2,3,4,5,6,7,8,10,11,12,13,14,15,16,17,18,19,20,21,22,34,25,26,27,28,29,30]
theorem leafA0 {m:Ms} {q0 q1:Pl} (hm:m.l=[q0,q1]) {kind bi:Int} {n:Nat} {s:Bs} (h:12≤q0.view.length):m.leaf ⟨kind,0,bi,n,s⟩=(m,8):=by
 have hmh:m.has 0=true:=by unfold Ms.has; rw [hm]; rfl
 unfold Ms.leaf
 simp only [hmh,if_true,hm]
 exact if_pos (show ([q0].any fun x=>decide (12≤x.view.length))=true by simp [h])
theorem leafB0 {m:Ms} {q0 q1:Pl} (hm:m.l=[q0,q1]) {kind bi:Int} {n:Nat} {s:Bs} (h:¬ 12≤q0.view.length):m.leaf ⟨kind,0,bi,n,s⟩=({ m with l:=[{ q0 with view:=q0.view++[s.take 40] },q1] },0):=by
 have hmh:m.has 0=true:=by unfold Ms.has; rw [hm]; rfl
 unfold Ms.leaf
 simp only [hmh,if_true,hm]
 exact if_neg (show ¬ ([q0].any fun x=>decide (12≤x.view.length))=true by simp [h])
theorem leafA1 {m:Ms} {q0 q1:Pl} (hm:m.l=[q0,q1]) {kind bi:Int} {n:Nat} {s:Bs} (h:12≤q1.view.length):m.leaf ⟨kind,1,bi,n,s⟩=(m,8):=by
 have hmh:m.has 1=true:=by unfold Ms.has; rw [hm]; rfl
 unfold Ms.leaf
 simp only [hmh,if_true,hm]
 exact if_pos (show ([q1].any fun x=>decide (12≤x.view.length))=true by simp [h])
theorem leafB1 {m:Ms} {q0 q1:Pl} (hm:m.l=[q0,q1]) {kind bi:Int} {n:Nat} {s:Bs} (h:¬ 12≤q1.view.length):m.leaf ⟨kind,1,bi,n,s⟩=({ m with l:=[q0,{ q1 with view:=q1.view++[s.take 40] }] },0):=by
 have hmh:m.has 1=true:=by unfold Ms.has; rw [hm]; rfl
 unfold Ms.leaf
 simp only [hmh,if_true,hm]
 exact if_neg (show ¬ ([q1].any fun x=>decide (12≤x.view.length))=true by simp [h])
theorem leafA {m:Ms} {q0 q1:Pl} (hm:m.l=[q0,q1]) {kind ai bi:Int} {n:Nat} {s:Bs} (hh:m.has ai=false) (h:12≤q0.view.length∨12≤q1.view.length):m.leaf ⟨kind,ai,bi,n,s⟩=(m,8):=by
 unfold Ms.leaf
 simp only [hh,Bool.false_eq_true,if_false,hm]
 exact if_pos (show ([q0,q1].any fun x=>decide (12≤x.view.length))=true by simp [h])
theorem leafB {m:Ms} {q0 q1:Pl} (hm:m.l=[q0,q1]) {kind ai bi:Int} {n:Nat} {s:Bs} (hh:m.has ai=false) (h:¬ (12≤q0.view.length∨12≤q1.view.length)):m.leaf ⟨kind,ai,bi,n,s⟩=({ m with l:=[{ q0 with view:=q0.view++[s.take 40] },{ q1 with view:=q1.view++[s.take 40] }] },0):=by
 unfold Ms.leaf
 simp only [hh,Bool.false_eq_true,if_false,hm]
 exact if_neg (show ¬ ([q0,q1].any fun x=>decide (12≤x.view.length))=true by simpa using h)
theorem leaf_ok (m:Ms) (q0 q1:Pl) (hm:m.l=[q0,q1]) (hv:∀ q∈m.l,q.view.length≤12) (a:Ac) (ha:a.s.length≤4096) (M:Ms) (e:Int) (p0 p1:Pl) (h:m.leaf a=(M,e)) (hM:M.l=[p0,p1]):Tri Tryz.prog G 30 [.p 0 0 0,.a (acE a)] (mH m q0 q1) (i64 e) (mP M p0 p1++mQ M p0 p1):=by
 obtain ⟨kind,ai,bi,n,s⟩:=a
 simp only at ha
 show Tri Tryz.prog G 30 [.p 0 0 0,.a [i64 kind,i64 ai,i64 bi,u64 n,sv s]] (mH m q0 q1) (i64 e) (mP M p0 p1++mQ M p0 p1)
 have hsz:=sB_size s
 have e40:(if (40:Int)<(((sB s).size:Nat):Int) then (40:Int) else (((sB s).size:Nat):Int))=((min s.length 40:Nat):Int):=by rw [hsz]; split <;> omega
 have ex40:(sB s).extract (Int.toNat 0) (((min s.length 40:Nat):Int)).toNat=sB (s.take 40):=by
  rw [sB_ext]
  congr 1
  simp
  omega
 refine fn Tryz.func30 ?_
 conv=>whnf
 refine ⟨rfl,?_⟩
 conv=>whnf
 refine ckQ (has_ok m q0 q1 ai) [0,1,2,3,4,5,6,7,8,9,10,11,12,13,14,15,16,17,18,19,20,21,22,23,24,25,26,27,28,29,30] ?_
 conv=>whnf
 by_cases hi:ai≥0∧ai<2
 ·rw [show (decide (ai≥0)&&decide (ai<2))=true from by rw [decide_eq_true hi.1,decide_eq_true hi.2]; rfl]
  conv=>whnf
  have hor:ai=0∨ai=1:=by omega
  rcases hor with rfl | rfl
  ·refine ⟨rfl,?_⟩
   conv=>whnf
   refine ⟨⟨of_decide_eq_true rfl,of_decide_eq_true rfl,of_decide_eq_true rfl⟩,?_⟩
   conv=>whnf
   refine lu 2 ?_
   conv=>whnf
   refine ⟨⟨of_decide_eq_true rfl,of_decide_eq_true rfl⟩,?_⟩
   conv=>whnf
   refine br_of (fun c1 => ?_) (fun c1 => ?_) <;> conv=>whnf
   ·have c1:12≤q0.view.length:=by have:=of_decide_eq_true c1; omega
    rw [leafA0 hm c1] at h
    cases h
    rw [hm] at hM
    cases hM
    exact kv [0,1,2,3,4,5,6,7,8,9,10,11,12,13,14,15,16,17,18,19,20,21,22,23,24,25,26,27,28,29,30,2,3,4,5,6,7,8,10,11,12,13,14,15,16,17,18,19,20,21,22,24,25,26,27,28,29,30]
   have c1:¬ 12≤q0.view.length:=by have:=of_decide_eq_false c1; omega
   rw [leafB0 hm c1] at h
   cases h
   have hM:[{ q0 with view:=q0.view++[s.take 40] },q1]=[p0,p1]:=hM
   cases hM
   refine lu 2 ?_
   conv=>whnf
   refine ⟨⟨of_decide_eq_true rfl,of_decide_eq_true rfl⟩,?_⟩
   conv=>whnf
   have hvi:=hv q0 (by rw [hm]; simp)
   rw [e40]
   refine ⟨⟨by decide,by omega,by rw [hsz]; omega⟩,?_⟩
   conv=>whnf
   rw [ex40]
   refine ⟨⟨rfl,rfl⟩,?_⟩
   conv=>whnf
   refine ⟨by simp,?_⟩
   conv=>whnf
   refine ⟨⟨by omega,by simp⟩,?_⟩
   conv=>whnf
   refine ⟨⟨of_decide_eq_true rfl,of_decide_eq_true rfl⟩,?_⟩
   conv=>whnf
   refine ⟨rfl,?_⟩
   conv=>whnf
   rw [show (sR q0.view++[[EV.v (Value.string (sB (s.take 40)))]])=sR (q0.view++[s.take 40]) from by simp,show q0.view.length+1=(q0.view++[s.take 40]).length from by simp]
   exact kv [0,1,2,3,4,5,6,7,8,9,10,11,12,13,14,15,16,17,18,19,20,21,22,23,24,25,26,27,28,29,30,2,3,4,5,6,7,8,10,11,12,13,14,15,34,17,18,19,20,21,22,24,25,26,27,28,29,30]
  ·refine ⟨rfl,?_⟩
   conv=>whnf
   refine ⟨⟨of_decide_eq_true rfl,of_decide_eq_true rfl,of_decide_eq_true rfl⟩,?_⟩
   conv=>whnf
   refine lu 2 ?_
   conv=>whnf
   refine ⟨⟨of_decide_eq_true rfl,of_decide_eq_true rfl⟩,?_⟩
   conv=>whnf
   refine br_of (fun c1 => ?_) (fun c1 => ?_) <;> conv=>whnf
   ·have c1:12≤q1.view.length:=by have:=of_decide_eq_true c1; omega
    rw [leafA1 hm c1] at h
    cases h
    rw [hm] at hM
    cases hM
    exact kv [0,1,2,3,4,5,6,7,8,9,10,11,12,13,14,15,16,17,18,19,20,21,22,23,24,25,26,27,28,29,30,2,3,4,5,6,7,8,10,11,12,13,14,15,16,17,18,19,20,21,22,24,25,26,27,28,29,30]
   have c1:¬ 12≤q1.view.length:=by have:=of_decide_eq_false c1; omega
   rw [leafB1 hm c1] at h
   cases h
   have hM:[q0,{ q1 with view:=q1.view++[s.take 40] }]=[p0,p1]:=hM
   cases hM
   refine lu 2 ?_
   conv=>whnf
   refine ⟨⟨of_decide_eq_true rfl,of_decide_eq_true rfl⟩,?_⟩
   conv=>whnf
   have hvi:=hv q1 (by rw [hm]; simp)
   rw [e40]
   refine ⟨⟨by decide,by omega,by rw [hsz]; omega⟩,?_⟩
   conv=>whnf
   rw [ex40]
   refine ⟨⟨rfl,rfl⟩,?_⟩
   conv=>whnf
   refine ⟨by simp,?_⟩
   conv=>whnf
   refine ⟨⟨by omega,by simp⟩,?_⟩
   conv=>whnf
   refine ⟨⟨of_decide_eq_true rfl,of_decide_eq_true rfl⟩,?_⟩
   conv=>whnf
   refine ⟨rfl,?_⟩
   conv=>whnf
   rw [show (sR q1.view++[[EV.v (Value.string (sB (s.take 40)))]])=sR (q1.view++[s.take 40]) from by simp,show q1.view.length+1=(q1.view++[s.take 40]).length from by simp]
   exact kv [0,1,2,3,4,5,6,7,8,9,10,11,12,13,14,15,16,17,18,19,20,21,22,23,24,25,26,27,28,29,30,2,3,4,5,6,7,8,10,11,12,13,14,15,16,17,18,19,20,21,22,24,25,26,27,28,29,34]
 ·have hb:(decide (ai≥0)&&decide (ai<2))=false:=by
   cases hx:(decide (ai≥0)&&decide (ai<2)) with
   | false=>rfl
   | true=>simp only [Bool.and_eq_true,decide_eq_true_eq] at hx; exact absurd hx hi
  have hmh:m.has ai=false:=by unfold Ms.has; rw [hm]; exact hb
  rw [hb]
  conv=>whnf
  refine ⟨⟨of_decide_eq_true rfl,of_decide_eq_true rfl,of_decide_eq_true rfl⟩,?_⟩
  conv=>whnf
  refine lu 3 ?_
  conv=>whnf
  refine ⟨⟨of_decide_eq_true rfl,of_decide_eq_true rfl⟩,?_⟩
  conv=>whnf
  refine br_of (fun c1 => ?_) (fun d0 => ?_) <;> conv=>whnf
  ·have c1:12≤q0.view.length:=by have:=of_decide_eq_true c1; omega
   rw [leafA hm hmh (by simp [c1])] at h
   cases h
   rw [hm] at hM
   cases hM
   exact kv [0,1,2,3,4,5,6,7,8,9,10,11,12,13,14,15,16,17,18,19,20,21,22,23,24,25,26,27,28,29,30,2,3,4,5,6,7,8,10,11,12,13,14,15,16,17,18,19,20,21,22,24,25,26,27,28,29,30]
  have d0:¬ 12≤q0.view.length:=by have:=of_decide_eq_false d0; omega
  refine ⟨⟨of_decide_eq_true rfl,of_decide_eq_true rfl⟩,?_⟩
  conv=>whnf
  refine br_of (fun c1 => ?_) (fun d1 => ?_) <;> conv=>whnf
  ·have c1:12≤q1.view.length:=by have:=of_decide_eq_true c1; omega
   rw [leafA hm hmh (by simp [c1])] at h
   cases h
   rw [hm] at hM
   cases hM
   exact kv [0,1,2,3,4,5,6,7,8,9,10,11,12,13,14,15,16,17,18,19,20,21,22,23,24,25,26,27,28,29,30,2,3,4,5,6,7,8,10,11,12,13,14,15,16,17,18,19,20,21,22,24,25,26,27,28,29,30]
  have d1:¬ 12≤q1.view.length:=by have:=of_decide_eq_false d1; omega
  rw [leafB hm hmh (by simp only [d0,d1,or_self,not_false_eq_true])] at h
  cases h
  have hM:[{ q0 with view:=q0.view++[s.take 40] },{ q1 with view:=q1.view++[s.take 40] }]=[p0,p1]:=hM
  cases hM
  refine lu 3 ?_
  conv=>whnf
  refine ⟨⟨of_decide_eq_true rfl,of_decide_eq_true rfl⟩,?_⟩
  conv=>whnf
  rw [e40]
  refine ⟨⟨by decide,by omega,by rw [hsz]; omega⟩,?_⟩
  conv=>whnf
  rw [ex40]
  refine ⟨⟨rfl,rfl⟩,?_⟩
  conv=>whnf
  refine ⟨by simp,?_⟩
  conv=>whnf
  refine ⟨⟨by omega,by simp⟩,?_⟩
  conv=>whnf
  refine ⟨⟨of_decide_eq_true rfl,of_decide_eq_true rfl⟩,?_⟩
  conv=>whnf
  refine ⟨rfl,?_⟩
  conv=>whnf
  rw [show (sR q0.view++[[EV.v (Value.string (sB (s.take 40)))]])=sR (q0.view++[s.take 40]) from by simp,show q0.view.length+1=(q0.view++[s.take 40]).length from by simp]
  refine ⟨⟨of_decide_eq_true rfl,of_decide_eq_true rfl⟩,?_⟩
  conv=>whnf
  rw [e40]
  refine ⟨⟨by decide,by omega,by rw [hsz]; omega⟩,?_⟩
  conv=>whnf
  rw [ex40]
  refine ⟨⟨rfl,rfl⟩,?_⟩
  conv=>whnf
  refine ⟨by simp,?_⟩
  conv=>whnf
  refine ⟨⟨by omega,by simp⟩,?_⟩
  conv=>whnf
  refine ⟨⟨of_decide_eq_true rfl,of_decide_eq_true rfl⟩,?_⟩
  conv=>whnf
  refine ⟨rfl,?_⟩
  conv=>whnf
  rw [show (sR q1.view++[[EV.v (Value.string (sB (s.take 40)))]])=sR (q1.view++[s.take 40]) from by simp,show q1.view.length+1=(q1.view++[s.take 40]).length from by simp]
  exact kv [0,1,2,3,4,5,6,7,8,9,10,11,12,13,14,15,16,17,18,19,20,21,22,23,24,25,26,27,28,29,30,2,3,4,5,6,7,8,10,11,12,13,14,15,35,17,18,19,20,21,22,24,25,26,27,28,29,37]
end Go.Proofs.YtdhgpocbcccieaaGreatDoor.M2
