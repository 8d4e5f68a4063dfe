/- Part 11 of the proof: U2h. -/
import Derived.Test.YtdhgpocbcccieaaGreatDoorY9
import Derived.Test.YtdhgpocbcccieaaGreatDoorY10
set_option maxRecDepth 1000000
set_option maxHeartbeats 20000000
set_option linter.unusedVariables false
set_option linter.unusedSimpArgs false
namespace Go.Proofs.YtdhgpocbcccieaaGreatDoor.M2
open Go Go.RowKit Go.Proofs.YtdhgpocbcccieaaGreatDoor.E Go.Proofs.YtdhgpocbcccieaaGreatDoor.M
variable {G:Gl}
theorem do_ok (hG:GSig G) (hS:GSha G) (hH:GHas G) (m:Ms) (q0 q1:Pl) (hm:m.l=[q0,q1]) (b:Nat) (hok:Ms.ok (b+1) m) (a:Ac) (M:Ms) (e:Int) (p0 p1:Pl) (h:m.act a=(M,e)) (hM:M.l=[p0,p1]):Tri Tryz.prog G 8 [.p 0 0 0,.a (acE a)] (mH m q0 q1) (i64 e) (mP M p0 p1++mQ M p0 p1):=by
 refine fn Tryz.func8 ?_
 conv=>whnf
 refine ckQ (actr_ok a) [] ?_
 cases hr:a.right with
 | false =>
  rw [act_no hr] at h
  cases h
  rw [hm] at hM
  cases hM
  conv=>whnf
  exact kv [0,1,2,3,4,5,6,7,8,9,10,11,12,13,14,15,16,17,18,19,20,21,22,23,24,25,26,27,28,29,30,2,3,4,5,6,7,8,10,11,12,13,14,15,16,17,18,19,20,21,22,24,25,26,27,28,29,30]
 | true =>
  rw [act_yes hr] at h
  obtain ⟨r1,r2,r3,r4,r5,r6,r7,r8⟩:=right_inv hr
  clear hr
  conv=>whnf
  refine br_of (fun k0 => ?_) (fun k0 => ?_) <;> conv=>whnf
  ·have k0:a.kind=0:=of_decide_eq_true k0
   have h:m.tick a=(M,e):=by
    rw [k0] at h
    exact h
   refine ck (tick_ok hS hH m q0 q1 hm b hok a r7 M e p0 p1 h hM) [0,1,2,3,4,5,6,7,8,9,10,11,12,13,14,15,16,17,18,19,20,21,22,23,24,25,26,27,28,29,30] ?_
   conv=>whnf
   exact kv [0,1,2,3,4,5,6,7,8,9,10,11,12,13,14,15,16,17,18,19,20,21,22,23,24,25,26,27,28,29,30,33,34,35,36,37,38,39,40,41,42,43,44,45,46,47,48,49,50,51,52,53,54,55,56,57,58,59]
  have k0:¬ a.kind=0:=of_decide_eq_false k0
  refine br_of (fun k1 => ?_) (fun k1 => ?_) <;> conv=>whnf
  ·have k1:a.kind=1:=of_decide_eq_true k1
   have h:m.moved a=(M,e):=by
    rw [k1] at h
    exact h
   refine ck (moved_ok hG hS hH m q0 q1 hm b hok a r3 M e p0 p1 h hM) [0,1,2,3,4,5,6,7,8,9,10,11,12,13,14,15,16,17,18,19,20,21,22,23,24,25,26,27,28,29,30] ?_
   conv=>whnf
   exact kv [0,1,2,3,4,5,6,7,8,9,10,11,12,13,14,15,16,17,18,19,20,21,22,23,24,25,26,27,28,29,30,33,34,35,36,37,38,39,40,41,42,43,44,45,46,47,48,49,50,51,52,53,54,55,56,57,58,59]
  have k1:¬ a.kind=1:=of_decide_eq_false k1
  refine br_of (fun k2 => ?_) (fun k2 => ?_) <;> conv=>whnf
  ·have k2:a.kind=2:=of_decide_eq_true k2
   have h:m.moved a=(M,e):=by
    rw [k2] at h
    exact h
   refine ck (moved_ok hG hS hH m q0 q1 hm b hok a r3 M e p0 p1 h hM) [0,1,2,3,4,5,6,7,8,9,10,11,12,13,14,15,16,17,18,19,20,21,22,23,24,25,26,27,28,29,30] ?_
   conv=>whnf
   exact kv [0,1,2,3,4,5,6,7,8,9,10,11,12,13,14,15,16,17,18,19,20,21,22,23,24,25,26,27,28,29,30,33,34,35,36,37,38,39,40,41,42,43,44,45,46,47,48,49,50,51,52,53,54,55,56,57,58,59]
  have k2:¬ a.kind=2:=of_decide_eq_false k2
  refine br_of (fun k3 => ?_) (fun k3 => ?_) <;> conv=>whnf
  ·have k3:a.kind=3:=of_decide_eq_true k3
   have h:m.moved a=(M,e):=by
    rw [k3] at h
    exact h
   refine ck (moved_ok hG hS hH m q0 q1 hm b hok a r3 M e p0 p1 h hM) [0,1,2,3,4,5,6,7,8,9,10,11,12,13,14,15,16,17,18,19,20,21,22,23,24,25,26,27,28,29,30] ?_
   conv=>whnf
   exact kv [0,1,2,3,4,5,6,7,8,9,10,11,12,13,14,15,16,17,18,19,20,21,22,23,24,25,26,27,28,29,30,33,34,35,36,37,38,39,40,41,42,43,44,45,46,47,48,49,50,51,52,53,54,55,56,57,58,59]
  have k3:¬ a.kind=3:=of_decide_eq_false k3
  refine br_of (fun k4 => ?_) (fun k4 => ?_) <;> conv=>whnf
  ·have k4:a.kind=4:=of_decide_eq_true k4
   have h:m.moved a=(M,e):=by
    rw [k4] at h
    exact h
   refine ck (moved_ok hG hS hH m q0 q1 hm b hok a r3 M e p0 p1 h hM) [0,1,2,3,4,5,6,7,8,9,10,11,12,13,14,15,16,17,18,19,20,21,22,23,24,25,26,27,28,29,30] ?_
   conv=>whnf
   exact kv [0,1,2,3,4,5,6,7,8,9,10,11,12,13,14,15,16,17,18,19,20,21,22,23,24,25,26,27,28,29,30,33,34,35,36,37,38,39,40,41,42,43,44,45,46,47,48,49,50,51,52,53,54,55,56,57,58,59]
  have k4:¬ a.kind=4:=of_decide_eq_false k4
  refine br_of (fun k5 => ?_) (fun k5 => ?_) <;> conv=>whnf
  ·have k5:a.kind=5:=of_decide_eq_true k5
   have h:m.leaf a=(M,e):=by
    rw [k5] at h
    exact h
   refine ck (leaf_ok m q0 q1 hm (fun q hq=>(hok.v q hq).1) a r8 M e p0 p1 h hM) [0,1,2,3,4,5,6,7,8,9,10,11,12,13,14,15,16,17,18,19,20,21,22,23,24,25,26,27,28,29,30] ?_
   conv=>whnf
   exact kv [0,1,2,3,4,5,6,7,8,9,10,11,12,13,14,15,16,17,18,19,20,21,22,23,24,25,26,27,28,29,30,33,34,35,36,37,38,39,40,41,42,43,44,45,46,47,48,49,50,51,52,53,54,55,56,57,58,59]
  have k5:¬ a.kind=5:=of_decide_eq_false k5
  refine br_of (fun k6 => ?_) (fun k6 => ?_) <;> conv=>whnf
  ·have k6:a.kind=6:=of_decide_eq_true k6
   have h:m.crash a=(M,e):=by
    rw [k6] at h
    exact h
   refine ck (crash_ok hG hS hH m q0 q1 hm b hok a r7 M e p0 p1 h hM) [0,1,2,3,4,5,6,7,8,9,10,11,12,13,14,15,16,17,18,19,20,21,22,23,24,25,26,27,28,29,30] ?_
   conv=>whnf
   exact kv [0,1,2,3,4,5,6,7,8,9,10,11,12,13,14,15,16,17,18,19,20,21,22,23,24,25,26,27,28,29,30,33,34,35,36,37,38,39,40,41,42,43,44,45,46,47,48,49,50,51,52,53,54,55,56,57,58,59]
  have k6:¬ a.kind=6:=of_decide_eq_false k6
  refine br_of (fun k7 => ?_) (fun k7 => ?_) <;> conv=>whnf
  ·have k7:a.kind=7:=of_decide_eq_true k7
   have h:m.renew a=(M,e):=by
    rw [k7] at h
    exact h
   refine ck (renew_ok hS hH m q0 q1 hm b hok a r7 M e p0 p1 h hM) [0,1,2,3,4,5,6,7,8,9,10,11,12,13,14,15,16,17,18,19,20,21,22,23,24,25,26,27,28,29,30] ?_
   conv=>whnf
   exact kv [0,1,2,3,4,5,6,7,8,9,10,11,12,13,14,15,16,17,18,19,20,21,22,23,24,25,26,27,28,29,30,33,34,35,36,37,38,39,40,41,42,43,44,45,46,47,48,49,50,51,52,53,54,55,56,57,58,59]
  have k7:¬ a.kind=7:=of_decide_eq_false k7
  refine br_of (fun k8 => ?_) (fun k8 => ?_) <;> conv=>whnf
  ·have k8:a.kind=8:=of_decide_eq_true k8
   have h:m.feed a=(M,e):=by
    rw [k8] at h
    exact h
   refine ck (feed_ok hG hS hH m q0 q1 hm b hok a M e p0 p1 h hM) [0,1,2,3,4,5,6,7,8,9,10,11,12,13,14,15,16,17,18,19,20,21,22,23,24,25,26,27,28,29,30] ?_
   conv=>whnf
   exact kv [0,1,2,3,4,5,6,7,8,9,10,11,12,13,14,15,16,17,18,19,20,21,22,23,24,25,26,27,28,29,30,33,34,35,36,37,38,39,40,41,42,43,44,45,46,47,48,49,50,51,52,53,54,55,56,57,58,59]
  have k8:¬ a.kind=8:=of_decide_eq_false k8
  exact absurd r1 (by omega)
end Go.Proofs.YtdhgpocbcccieaaGreatDoor.M2
