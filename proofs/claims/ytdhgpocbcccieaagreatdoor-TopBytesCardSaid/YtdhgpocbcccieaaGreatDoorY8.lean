/- Part 8 of the proof: Db Dc Dd De Df Np Rc Rg Ra Rb Rh Rj Ft Na Nb Nc Nq La Nf Nd Ne. -/
import Derived.Test.YtdhgpocbcccieaaGreatDoorY7
set_option maxRecDepth 1000000
set_option maxHeartbeats 20000000
set_option linter.unusedVariables false
set_option linter.unusedSimpArgs false
namespace Go.Proofs.YtdhgpocbcccieaaGreatDoor.M
open Go Go.RowKit Go.Proofs.YtdhgpocbcccieaaGreatDoor.E
variable {G:Gl}
abbrev fI (f:Bool):E.EV := .v (.int .i64 (if f then 1 else 0))
abbrev wrR (l:List (Bool×Nat)):List (List E.EV):=l.map fun x=>[fI x.1,i64 (x.2:Nat)]
abbrev wrRs (l:List (Bool×Nat)):EB := .rs 203 (wrR l)
abbrev dkE (L:Nat) (d:Dk):List E.EV:=[sv d.f0,sv d.f1,.s L 0 d.loose.length false,i64 (d.room:Nat)]
abbrev dkB (L:Nat) (d:Dk):EB := .r 128 (dkE L d)
def Dk.fit (d:Dk):Prop:=d.f0.length≤100000000∧d.f1.length≤100000000∧d.room≤100000000∧d.loose.length≤1000000∧∀ x∈d.loose,x.2≤100000000
def lostTo (l:List (Bool×Nat)) (i:Nat):Nat:=((l.take i).map (·.2)).sum
theorem sum_take (l:List (Bool×Nat)) (hb:∀ x∈l,x.2≤100000000):∀ i,lostTo l i≤100000000*i:=by
 intro i
 unfold lostTo
 induction i generalizing l with
 | zero=>simp
 | succ i ih =>
  cases l with
  | nil=>simp
  | cons x l =>
   have h1:=ih l (fun y hy=>hb y (List.mem_cons_of_mem _ hy))
   have h2:=hb x (by simp)
   simp only [List.take_succ_cons,List.map_cons,List.sum_cons]
   omega
theorem sum_succ (l:List (Bool×Nat)) {i:Nat} (h:i<l.length):lostTo l (i+1)=lostTo l i+l[i].2:=by
 unfold lostTo
 rw [List.take_succ_eq_append_getElem h,List.map_append,List.sum_append]
 rfl
theorem dloose_ok (d:Dk) (hd:d.fit):Tri Tryz.prog G 175 [.p 0 0 0] [dkB 1 d,wrRs d.loose] (i64 (d.lost:Nat)) [dkB 1 d,wrRs d.loose]:=by
 obtain ⟨h1,h2,h3,h4,h5⟩:=hd
 obtain ⟨f0,f1,l,room⟩:=d
 simp only at h1 h2 h3 h4 h5
 refine fn Tryz.func175 ?_
 conv=>whnf
 refine lp1 (X:=Nat) (fun i=>([(0,.p 0 0 0),(3,i64 (lostTo l i:Nat)),(9,.s 1 0 l.length false),(10,i64 (l.length:Nat)),(11,i64 (i:Nat))],[dkB 1 ⟨f0,f1,l,room⟩,wrRs l])) (fun i=>i≤l.length) (fun i=>l.length-i) 0 (Nat.zero_le _) (cv [0,1]) ?_
 intro i hi
 conv=>whnf
 refine br_of (fun hc => ?_) (fun hc => ?_) <;> conv=>whnf
 ·have hc:i<l.length:=by have:=of_decide_eq_true hc; omega
  refine ⟨by omega,?_⟩
  conv=>whnf
  refine ob_of [fI l[i].1,i64 (l[i].2:Nat)] (by simp [hc]) ?_
  conv=>whnf
  have e:=sum_succ l hc
  have e2:=sum_take l h5 (i+1)
  rw [wI64 (n:=(lostTo l i:Int)+(l[i].2:Nat)) (by omega) (by omega)]
  rw [wI64 (n:=(i:Int)+1) (by omega) (by omega)]
  exact ⟨i+1,⟨by omega,by omega⟩,cv [0,1] (h4:=⟨.inl rfl,.inl (by rw [e]; rfl),.inl rfl,.inl rfl,.inl rfl,trivial⟩)⟩
 ·have hc:i=l.length:=by have:=of_decide_eq_false hc; omega
  subst hc
  rw [show lostTo l l.length=(⟨f0,f1,l,room⟩:Dk).lost from by unfold lostTo; rw [List.take_length]; rfl]
  exact cv [0,1]
theorem dfree_ok (d:Dk) (hd:d.fit):Tri Tryz.prog G 275 [.p 0 0 0] [dkB 1 d,wrRs d.loose] (i64 d.free) [dkB 1 d,wrRs d.loose]:=by
 obtain ⟨h1,h2,h3,h4,h5⟩:=hd
 refine fn Tryz.func275 ?_
 conv=>whnf
 refine ⟨by decide,?_⟩
 conv=>whnf
 refine ⟨by decide,?_⟩
 conv=>whnf
 refine ⟨rfl,?_⟩
 conv=>whnf
 rw [sB_size,sB_size]
 rw [wI64 (n:=(d.room:Int)-(d.f0.length:Nat)) (by omega) (by omega)]
 rw [wI64 (n:=(d.room:Int)-(d.f0.length:Nat)-(d.f1.length:Nat)) (by omega) (by omega)]
 exact cv [0,1]
theorem dhas_ok (f:Bool):Tri Tryz.prog G 171 [fI f] [] (bv true) []:=by
 cases f
 all_goals
  refine fn Tryz.func171 ?_
  conv=>whnf
  exact cv []
theorem dread_ok (d:Dk) (f:Bool):Tri Tryz.prog G 110 [.p 0 0 0,fI f] [dkB 1 d,wrRs d.loose] (sv (d.read f)) [dkB 1 d,wrRs d.loose]:=by
 cases f
 ·refine fn Tryz.func110 ?_
  conv=>whnf
  refine clQ (dhas_ok false) [] ?_
  conv=>whnf
  refine ⟨by decide,?_⟩
  conv=>whnf
  exact cv [0,1]
 ·refine fn Tryz.func110 ?_
  conv=>whnf
  refine clQ (dhas_ok true) [] ?_
  conv=>whnf
  refine ⟨by decide,?_⟩
  conv=>whnf
  exact cv [0,1]
theorem dsync_ok (d:Dk):Tri Tryz.prog G 109 [.p 0 0 0] [dkB 1 d,wrRs d.loose] (.t []) [dkB 2 d.sync,.g,wrRs d.sync.loose]:=by
 refine fn Tryz.func109 ?_
 conv=>whnf
 exact cv [0,1,9]
theorem dput_ok (d:Dk) (f:Bool) (s:Bs) (hd:d.fit) (hs:s.length≤100000000):Tri Tryz.prog G 245 [.p 0 0 0,fI f,sv s] [dkB 1 d,wrRs d.loose] (i64 (d.put f s).2) [dkB 2 (d.put f s).1,.g,wrRs (d.put f s).1.loose]:=by
 have hd':=hd
 obtain ⟨h1,h2,h3,h4,h5⟩:=hd
 by_cases hx:(s.length:Int)>d.free
 ·rw [show d.put f s=(d,8) from by unfold Dk.put; rw [if_pos hx]]
  refine fn Tryz.func245 ?_
  conv=>whnf
  refine clQ (dhas_ok f) [] ?_
  conv=>whnf
  refine clQ (dfree_ok d hd') [0,1] ?_
  conv=>whnf
  refine br_t (by rw [sB_size]; simpa using hx) ?_
  conv=>whnf
  exact cv [0,1,1]
 ·rw [show d.put f s=({ d.set f (d.read f++s) with loose:=d.loose++[(f,s.length)] },0) from by unfold Dk.put; rw [if_neg hx]]
  cases f
  all_goals
   refine fn Tryz.func245 ?_
   conv=>whnf
  ·refine clQ (dhas_ok false) [] ?_
   conv=>whnf
   refine clQ (dfree_ok d hd') [0,1] ?_
   conv=>whnf
   refine br_f (by rw [sB_size]; simpa using hx) ?_
   conv=>whnf
   refine ⟨by decide,?_⟩
   conv=>whnf
   refine ⟨by rw [sB_size,sB_size]; omega,?_⟩
   conv=>whnf
   refine ⟨by decide,?_⟩
   conv=>whnf
   refine ⟨rfl,?_⟩
   conv=>whnf
   rw [sB_app,sB_size]
   refine ⟨⟨rfl,rfl⟩,?_⟩
   conv=>whnf
   refine ⟨by simp,?_⟩
   conv=>whnf
   refine ⟨⟨by omega,by simp⟩,?_⟩
   conv=>whnf
   exact cv [0,1,3] (h5:=⟨⟨_,rfl,⟨.inl rfl,.inl rfl,.inl (by simp [ren]),.inl rfl,trivial⟩⟩,.inl (by simp),trivial⟩)
  ·refine clQ (dhas_ok true) [] ?_
   conv=>whnf
   refine clQ (dfree_ok d hd') [0,1] ?_
   conv=>whnf
   refine br_f (by rw [sB_size]; simpa using hx) ?_
   conv=>whnf
   refine ⟨by decide,?_⟩
   conv=>whnf
   refine ⟨by rw [sB_size,sB_size]; omega,?_⟩
   conv=>whnf
   refine ⟨by decide,?_⟩
   conv=>whnf
   refine ⟨rfl,?_⟩
   conv=>whnf
   rw [sB_app,sB_size]
   refine ⟨⟨rfl,rfl⟩,?_⟩
   conv=>whnf
   refine ⟨by simp,?_⟩
   conv=>whnf
   refine ⟨⟨by omega,by simp⟩,?_⟩
   conv=>whnf
   exact cv [0,1,3] (h5:=⟨⟨_,rfl,⟨.inl rfl,.inl rfl,.inl (by simp [ren]),.inl rfl,trivial⟩⟩,.inl (by simp),trivial⟩)
theorem dtrim_ok (d:Dk) (f:Bool) (n:Nat) (hd:d.fit) (hn:n≤100000000):Tri Tryz.prog G 112 [.p 0 0 0,fI f,i64 (n:Nat)] [dkB 1 d,wrRs d.loose] (i64 (d.trim f n).2) [dkB 1 (d.trim f n).1,wrRs (d.trim f n).1.loose]:=by
 have hd':=hd
 obtain ⟨h1,h2,h3,h4,h5⟩:=hd
 unfold Dk.trim
 cases f
 all_goals
  refine fn Tryz.func112 ?_
  conv=>whnf
 ·refine clQ (dhas_ok false) [] ?_
  conv=>whnf
  refine ⟨by decide,?_⟩
  conv=>whnf
  rw [sB_size]
  refine br_of (fun h => ?_) (fun h => ?_) <;> conv=>whnf
  ·rw [if_pos (show (d.read false).length<n from by have:=of_decide_eq_true h; show d.f0.length<n; omega)]
   exact cv [0,1]
  rw [if_neg (show ¬ (d.read false).length<n from by have:=of_decide_eq_false h; show ¬ d.f0.length<n; omega)]
  refine clQ (dloose_ok d hd') [0,1] ?_
  conv=>whnf
  refine br_of (fun h2 => ?_) (fun h2 => ?_) <;> conv=>whnf
  ·rw [if_pos (show d.lost>0 from by have:=of_decide_eq_true h2; omega)]
   exact cv [0,1]
  rw [if_neg (show ¬ d.lost>0 from by have:=of_decide_eq_false h2; omega)]
  have hn2:n≤d.f0.length:=by have:=of_decide_eq_false h; omega
  refine ⟨by decide,?_⟩
  conv=>whnf
  refine ⟨⟨by omega,by omega,by rw [sB_size]; omega⟩,?_⟩
  conv=>whnf
  refine ⟨by decide,?_⟩
  conv=>whnf
  refine ⟨rfl,?_⟩
  conv=>whnf
  rw [sB_ext]
  exact cv [0,1]
 ·refine clQ (dhas_ok true) [] ?_
  conv=>whnf
  refine ⟨by decide,?_⟩
  conv=>whnf
  rw [sB_size]
  refine br_of (fun h => ?_) (fun h => ?_) <;> conv=>whnf
  ·rw [if_pos (show (d.read true).length<n from by have:=of_decide_eq_true h; show d.f1.length<n; omega)]
   exact cv [0,1]
  rw [if_neg (show ¬ (d.read true).length<n from by have:=of_decide_eq_false h; show ¬ d.f1.length<n; omega)]
  refine clQ (dloose_ok d hd') [0,1] ?_
  conv=>whnf
  refine br_of (fun h2 => ?_) (fun h2 => ?_) <;> conv=>whnf
  ·rw [if_pos (show d.lost>0 from by have:=of_decide_eq_true h2; omega)]
   exact cv [0,1]
  rw [if_neg (show ¬ d.lost>0 from by have:=of_decide_eq_false h2; omega)]
  have hn2:n≤d.f1.length:=by have:=of_decide_eq_false h; omega
  refine ⟨by decide,?_⟩
  conv=>whnf
  refine ⟨⟨by omega,by omega,by rw [sB_size]; omega⟩,?_⟩
  conv=>whnf
  refine ⟨by decide,?_⟩
  conv=>whnf
  refine ⟨rfl,?_⟩
  conv=>whnf
  rw [sB_ext]
  exact cv [0,1]
theorem dturn_ok (d:Dk) (hd:d.fit):Tri Tryz.prog G 246 [.p 0 0 0] [dkB 1 d,wrRs d.loose] (i64 (d.turn).2) [dkB 1 (d.turn).1,wrRs (d.turn).1.loose]:=by
 unfold Dk.turn
 refine fn Tryz.func246 ?_
 conv=>whnf
 refine clQ (dloose_ok d hd) [0,1] ?_
 conv=>whnf
 refine br_of (fun h2 => ?_) (fun h2 => ?_) <;> conv=>whnf
 ·rw [if_pos (show d.lost>0 from by have:=of_decide_eq_true h2; omega)]
  exact cv [0,1]
 rw [if_neg (show ¬ d.lost>0 from by have:=of_decide_eq_false h2; omega)]
 refine ⟨by decide,?_⟩
 conv=>whnf
 refine ⟨by decide,?_⟩
 conv=>whnf
 refine ⟨by decide,?_⟩
 conv=>whnf
 refine ⟨by decide,?_⟩
 conv=>whnf
 refine ⟨rfl,?_⟩
 conv=>whnf
 exact cv [0,1]
theorem dnew_ok (room:Nat) (h:room≤16777216):Tri Tryz.prog G 23 [i64 (room:Nat)] [] (.t [.p 0 0 0,i64 0]) [dkB 1 { room:=room },wrRs []]:=by
 refine fn Tryz.func23 ?_
 conv=>whnf
 refine br_f (decide_eq_false (by omega)) ?_
 conv=>whnf
 exact cv [0,9]
theorem undo_ok (d:Dk) (f:Bool) (n k:Nat) (hd:d.fit) (hk:k≤n) (hn:n≤(d.read f).length):Tri Tryz.prog G 124 [.p 2 0 0,.p 3 0 0,.p 4 0 0] [dkB 1 d,wrRs d.loose,.r 78 [.p 0 0 0],.r 203 [fI f,i64 (n:Nat)],.r 3 [i64 (k:Nat)]] (.t []) [dkB 1 (d.undo1 (f,n,k)),wrRs (d.undo1 (f,n,k)).loose,.r 78 [.p 0 0 0],.r 203 [fI f,i64 (n:Nat)],.r 3 [i64 (k:Nat)]]:=by
 obtain ⟨h1,h2,h3,h4,h5⟩:=hd
 cases f
 all_goals
  refine fn Tryz.func124 ?_
  conv=>whnf
  refine ⟨by decide,?_⟩
  conv=>whnf
  refine ⟨by decide,?_⟩
  conv=>whnf
 ·have hn:n≤d.f0.length:=hn
  rw [sB_size]
  rw [wI64 (n:=(d.f0.length:Int)-(n:Nat)) (by omega) (by omega)]
  rw [wI64 (n:=(d.f0.length:Int)-(n:Nat)+(k:Nat)) (by omega) (by omega)]
  refine ⟨⟨by omega,by omega,by omega⟩,?_⟩
  conv=>whnf
  refine ⟨by decide,?_⟩
  conv=>whnf
  refine ⟨rfl,?_⟩
  conv=>whnf
  rw [sB_ext,show ((d.f0.length:Int)-(n:Nat)+(k:Nat)).toNat=d.f0.length-n+k from by omega]
  exact cv [0,1,2,3,4]
 ·have hn:n≤d.f1.length:=hn
  rw [sB_size]
  rw [wI64 (n:=(d.f1.length:Int)-(n:Nat)) (by omega) (by omega)]
  rw [wI64 (n:=(d.f1.length:Int)-(n:Nat)+(k:Nat)) (by omega) (by omega)]
  refine ⟨⟨by omega,by omega,by omega⟩,?_⟩
  conv=>whnf
  refine ⟨by decide,?_⟩
  conv=>whnf
  refine ⟨rfl,?_⟩
  conv=>whnf
  rw [sB_ext,show ((d.f1.length:Int)-(n:Nat)+(k:Nat)).toNat=d.f1.length-n+k from by omega]
  exact cv [0,1,2,3,4]
theorem dcrash0 (d:Dk) (keep:Nat) (h0:d.loose=[]):Tri Tryz.prog G 76 [.p 0 0 0,i64 (keep:Nat)] [dkB 1 d,wrRs d.loose] (.t []) [dkB 2 (d.crash keep),.g,wrRs (d.crash keep).loose]:=by
 rw [show d.crash keep=d.sync from by unfold Dk.crash; rw [h0]; rfl]
 obtain ⟨f0,f1,l,room⟩:=d
 simp only at h0
 subst h0
 refine fn Tryz.func76 ?_
 conv=>whnf
 refine lu 1 ?_
 conv=>whnf
 refine lu 1 ?_
 conv=>whnf
 refine cl (dsync_ok ⟨f0,f1,[],room⟩) [0,1] ?_
 conv=>whnf
 exact cv [0,1,3]
theorem dcrash1 (d:Dk) (keep:Nat) (f:Bool) (n:Nat) (hd:d.fit) (h0:d.loose=[(f,n)]) (hn:n≤(d.read f).length) (hkp:keep≤1000000000000):Tri Tryz.prog G 76 [.p 0 0 0,i64 (keep:Nat)] [dkB 1 d,wrRs d.loose] (.t []) [dkB 2 (d.crash keep),.g,wrRs (d.crash keep).loose]:=by
 have hd':=hd
 obtain ⟨h1,h2,h3,h4,h5⟩:=hd
 have hnn:=h5 (f,n) (by rw [h0]; simp)
 simp only at hnn
 rw [show d.crash keep=(d.undo1 (f,n,min keep n)).sync from by unfold Dk.crash; rw [h0]; rfl]
 obtain ⟨f0,f1,l,room⟩:=d
 simp only at h0
 subst h0
 refine fn Tryz.func76 ?_
 conv=>whnf
 refine lu 2 ?_
 conv=>whnf
 refine ⟨⟨by decide,by simp⟩,?_⟩
 conv=>whnf
 simp only
 rw [show (if (if ((n:Nat):Int)<((keep:Nat):Int) then ((n:Nat):Int) else ((keep:Nat):Int))>0 then (if ((n:Nat):Int)<((keep:Nat):Int) then ((n:Nat):Int) else ((keep:Nat):Int)) else 0)=((min keep n:Nat):Int) from by split <;> split <;> omega]
 refine ⟨⟨by decide,by simp⟩,?_⟩
 conv=>whnf
 refine ⟨⟨by decide,by simp⟩,?_⟩
 conv=>whnf
 refine lu 2 ?_
 conv=>whnf
 refine ⟨⟨by decide,by decide⟩,?_⟩
 conv=>whnf
 refine cl (undo_ok ⟨f0,f1,[(f,n)],room⟩ f n (min keep n) hd' (by omega) hn) [0,1,2,3,4] ?_
 conv=>whnf
 refine cl (dsync_ok (Dk.undo1 ⟨f0,f1,[(f,n)],room⟩ (f,n,min keep n))) [0,1] ?_
 conv=>whnf
 exact cv [0,1,7]
theorem dcrash_ok (d:Dk) (keep:Nat) (hd:d.fit) (hl:d.loose.length≤1) (hn:∀ x∈d.loose,x.2≤(d.read x.1).length) (hkp:keep≤1000000000000):Tri Tryz.prog G 76 [.p 0 0 0,i64 (keep:Nat)] [dkB 1 d,wrRs d.loose] (.t []) [dkB 2 (d.crash keep),.g,wrRs (d.crash keep).loose]:=by
 cases h:d.loose with
 | nil=>rw [← h]; exact dcrash0 d keep h
 | cons x l =>
  cases l with
  | cons y l=>rw [h] at hl; simp at hl
  | nil =>
   obtain ⟨f,n⟩:=x
   rw [← h]
   exact dcrash1 d keep f n hd h (hn (f,n) (by rw [h]; simp)) hkp
abbrev jnB (LL LD:Nat) (j:Jn):EB := .r 188 [.p LD 0 0,.s LL 0 j.l.length false,i64 (j.sure:Nat),bv j.cut]
def Jn.fit (j:Jn):Prop:=j.d.fit∧j.l.length≤1000000∧j.sure≤1000000
theorem frame_len (s:Bs):(frame s).length≤4110:=by
 unfold frame
 split
 ·simp
 ·have:=numL_len s.length
  simp only [List.length_append,show (crcL s).length=4 from rfl]
  omega
theorem jl_a {j:Jn} {s:Bs} (h:j.cut=true):j.loose s=(j,7):=by unfold Jn.loose; simp [h]
theorem jl_b {j:Jn} {s:Bs} (h:j.cut=false) (h2:frame s=[]):j.loose s=(j,1):=by unfold Jn.loose; simp [h,h2]
theorem jl_c {j:Jn} {s:Bs} (h:j.cut=false) (h2:frame s≠[]) (h3:(j.d.put false (frame s)).2=0):j.loose s=({ j with d:=(j.d.put false (frame s)).1,l:=j.l++[s] },0):=by unfold Jn.loose; simp [h,h2,h3]
theorem jl_d {j:Jn} {s:Bs} (h:j.cut=false) (h2:frame s≠[]) (h3:(j.d.put false (frame s)).2≠0):j.loose s=({ j with d:=(j.d.put false (frame s)).1 },(j.d.put false (frame s)).2):=by unfold Jn.loose; simp [h,h2,h3]
theorem jloose_ok (j:Jn) (s:Bs) (hj:j.fit) (hs:s.length≤100000):Tri Tryz.prog G 252 [.p 0 0 0,sv s] [jnB 1 2 j,sRs j.l,dkB 3 j.d,wrRs j.d.loose] (i64 (j.loose s).2) [jnB 4 2 (j.loose s).1,.g,dkB 5 (j.loose s).1.d,.g,sRs (j.loose s).1.l,wrRs (j.loose s).1.d.loose]:=by
 obtain ⟨hd,h1,h2⟩:=hj
 have hfl:=frame_len s
 refine fn Tryz.func252 ?_
 conv=>whnf
 refine clQ (frame_ok s hs) [] ?_
 conv=>whnf
 cases hc:j.cut with
 | true =>
  rw [jl_a hc]
  conv=>whnf
  exact cv [0,1,2,3,1,3]
 | false =>
 conv=>whnf
 refine br_of (fun h => ?_) (fun h => ?_) <;> conv=>whnf
 ·rw [jl_b hc (eq_of_beq ((eqL (frame s) []).symm.trans h))]
  exact cv [0,1,2,3,1,3]
 have h0:frame s≠[]:=by have e:=(eqL (frame s) []).symm.trans h; simpa using e
 refine cl (dput_ok j.d false (frame s) hd (by omega)) [2,3] ?_
 conv=>whnf
 refine br_of (fun h3 => ?_) (fun h3 => ?_) <;> conv=>whnf
 ·have h3:=eq_of_beq h3
  rw [jl_c hc h0 h3]
  refine ⟨⟨rfl,rfl⟩,?_⟩
  conv=>whnf
  refine ⟨by simp,?_⟩
  conv=>whnf
  refine ⟨⟨by omega,by simp⟩,?_⟩
  conv=>whnf
  rw [h3]
  exact cv [0,1,2,3,6,4] (h5:=⟨⟨_,rfl,⟨.inl rfl,.inl (by simp [ren]),.inl rfl,.inl rfl,trivial⟩⟩,⟨_,rfl,⟨.inl rfl,.inl rfl,.inl rfl,.inl rfl,trivial⟩⟩,.inl (by simp),.inl rfl,trivial⟩)
 ·have h3:(j.d.put false (frame s)).2≠0:=by simpa using h3
  rw [jl_d hc h0 h3]
  exact cv [0,1,2,3,1,4]
theorem jadd_ok (j:Jn) (s:Bs) (hj:j.fit) (hs:s.length≤100000):Tri Tryz.prog G 202 [.p 0 0 0,sv s] [jnB 1 2 j,sRs j.l,dkB 3 j.d,wrRs j.d.loose] (i64 (j.add s).2) [jnB 4 2 (j.add s).1,.g,dkB 5 (j.add s).1.d,.g,sRs (j.add s).1.l,wrRs (j.add s).1.d.loose]:=by
 refine fn Tryz.func202 ?_
 conv=>whnf
 refine cl (jloose_ok j s hj hs) [0,1,2,3] ?_
 conv=>whnf
 unfold Jn.add
 refine br_of (fun h => ?_) (fun h => ?_) <;> conv=>whnf
 ·have h:(j.loose s).2≠0:=by simpa using h
  rw [show (let x:=j.loose s; if x.2≠0 then x else ({ x.1 with d:=x.1.d.sync,sure:=x.1.l.length },0))=j.loose s from if_pos h]
  exact cv [0,1,2,3,4,5]
 ·have h:(j.loose s).2=0:=by simpa using h
  rw [show (let x:=j.loose s; if x.2≠0 then x else ({ x.1 with d:=x.1.d.sync,sure:=x.1.l.length },0))=({ (j.loose s).1 with d:=(j.loose s).1.d.sync,sure:=(j.loose s).1.l.length },0) from if_neg (by simp [h])]
  refine cl (dsync_ok (j.loose s).1.d) [2,5] ?_
  conv=>whnf
  exact cv [0,1,2,3,4,6]
theorem jrecs_ok (j:Jn) (hj:j.fit):Tri Tryz.prog G 64 [.p 0 0 0] [jnB 1 2 j,sRs j.l,dkB 3 j.d,wrRs j.d.loose] (.s 4 0 j.l.length false) [jnB 1 2 j,sRs j.l,dkB 3 j.d,wrRs j.d.loose,sRs j.l]:=by
 obtain ⟨hd,h1,h2⟩:=hj
 refine fn Tryz.func64 ?_
 conv=>whnf
 refine cl (cloneS_ok j.l h1) [1] ?_
 conv=>whnf
 exact cv [0,1,2,3,4]
theorem frames_a {s:Bs} {l:List Bs} {all:Bs} (h:frame s=[]):frames (s::l) all=([],false):=by simp [frames,h]
theorem frames_b {s:Bs} {l:List Bs} {all:Bs} (h:frame s≠[]):frames (s::l) all=frames l (all++frame s):=by simp [frames,h]
theorem frames_ok (l:List Bs) (hl:l.length≤10000) (hs:∀ x∈l,x.length≤100000):Tri Tryz.prog G 195 [.s 0 0 l.length false] [sRs l] (.t [sv (frames l []).1,bv (frames l []).2]) [sRs l]:=by
 refine fn Tryz.func195 ?_
 conv=>whnf
 obtain ⟨R,hR⟩:∃ R,frames l []=R:=⟨_,rfl⟩
 rw [hR]
 refine lp2 (fun (i:Nat) (a:Bs)=>([(4,sv a),(8,.s 0 0 l.length false),(9,i64 (l.length:Nat)),(10,i64 (i:Nat))],[sRs l])) (fun i a=>(i≤l.length∧a.length≤4110*i)∧frames (l.drop i) a=R) (fun i _=>l.length-i) 0 [] ⟨⟨by omega,by simp⟩,hR⟩ (cv [0]) fun i a ⟨⟨hi,ha⟩,hx⟩ => ?_
 conv=>whnf
 refine br_of (fun h1 => ?_) (fun h1 => ?_) <;> conv=>whnf
 ·have h1:i<l.length:=by have:=of_decide_eq_true h1; omega
  rw [List.drop_eq_getElem_cons h1] at hx
  have h3:=hs l[i] (List.getElem_mem h1)
  refine ⟨by omega,?_⟩
  conv=>whnf
  refine ob_of [sv l[i]] (by simp [h1]) ?_
  conv=>whnf
  generalize l[i]=s at hx h3
  have hfl:=frame_len s
  refine clQ (frame_ok s h3) [] ?_
  conv=>whnf
  refine br_of (fun h => ?_) (fun h => ?_) <;> conv=>whnf
  ·rw [frames_a (eq_of_beq ((eqL (frame s) []).symm.trans h))] at hx
   rw [← hx]
   exact cv [0]
  ·rw [frames_b (by have e:=(eqL (frame s) []).symm.trans h; simpa using e)] at hx
   refine ⟨by rw [sB_size,sB_size]; omega,?_⟩
   conv=>whnf
   rw [sB_app,wI64 (n:=(i:Int)+1) (by omega) (by omega)]
   exact ⟨(i+1,a++frame s),⟨⟨⟨by omega,by simp only [List.length_append]; omega⟩,hx⟩,Nat.sub_lt_sub_left h1 (Nat.lt_succ_self i)⟩,cv [0]⟩
 ·have h1:i=l.length:=by have:=of_decide_eq_false h1; omega
  subst h1
  rw [List.drop_length] at hx
  have hx:(a,true)=R:=hx
  rw [← hx]
  exact cv [0]
def Dk.w (n:Nat) (d:Dk):Prop:=d.f0.length+d.f1.length≤d.room∧d.room≤16777216∧d.loose.length≤n∧∀ x∈d.loose,x.2≤16777216
theorem Dk.w.fit {n:Nat} {d:Dk} (h:d.w n) (hn:n≤1000000):d.fit:=⟨by have:=h.1; have:=h.2.1; omega,by have:=h.1; have:=h.2.1; omega,by have:=h.2.1; omega,by have:=h.2.2.1; omega,fun x hx=>by have:=h.2.2.2 x hx; omega⟩
theorem Dk.w.mono {n m:Nat} {d:Dk} (h:d.w n) (hm:n≤m):d.w m:=⟨h.1,h.2.1,by have:=h.2.2.1; omega,h.2.2.2⟩
theorem Dk.w.put {n:Nat} {d:Dk} (h:d.w n) (f:Bool) (s:Bs):(d.put f s).1.w (n+1):=by
 have h':=h
 obtain ⟨h1,h2,h3,h4⟩:=h
 unfold Dk.put
 split
 ·exact h'.mono (Nat.le_succ _)
 ·rename_i hx
  unfold Dk.free at hx
  refine ⟨?_,?_,by simp only [List.length_append,List.length_singleton]; omega,?_⟩
  ·cases f
   ·show (d.f0++s).length+d.f1.length≤d.room
    rw [List.length_append]; omega
   ·show d.f0.length+(d.f1++s).length≤d.room
    rw [List.length_append]; omega
  ·cases f <;> exact h2
  ·intro x hx'
   rcases List.mem_append.1 hx' with hx' | hx'
   ·exact h4 x hx'
   ·rw [List.mem_singleton.1 hx']; simp only; omega
theorem Dk.w.sync {n:Nat} {d:Dk} (h:d.w n) (m:Nat):d.sync.w m:=⟨h.1,h.2.1,Nat.zero_le _,fun x hx=>by cases hx⟩
theorem Dk.w.trim {n:Nat} {d:Dk} (h:d.w n) (f:Bool) (k:Nat):(d.trim f k).1.w n:=by
 unfold Dk.trim
 split
 ·exact h
 ·split
  ·exact h
  ·obtain ⟨h1,h2,h3,h4⟩:=h
   cases f
   ·exact ⟨by show (d.f0.take k).length+d.f1.length≤d.room; rw [List.length_take]; omega,h2,h3,h4⟩
   ·exact ⟨by show d.f0.length+(d.f1.take k).length≤d.room; rw [List.length_take]; omega,h2,h3,h4⟩
theorem Dk.w.turn {n:Nat} {d:Dk} (h:d.w n):d.turn.1.w n:=by
 unfold Dk.turn
 split
 ·exact h
 ·obtain ⟨h1,h2,h3,h4⟩:=h
  exact ⟨by show d.f1.length+d.f0.length≤d.room; omega,h2,h3,h4⟩
theorem step_w {j:Jn} {n:Nat} (h:j.d.w n) (i:Nat) (all:Bs):(j.step i all).1.d.w (n+1):=by
 unfold Jn.step
 split
 ·exact h.put true all
 ·exact h.sync _
 ·exact (h.turn).mono (Nat.le_succ _)
 ·exact (h.trim true 0).mono (Nat.le_succ _)
theorem step_l (j:Jn) (i:Nat) (all:Bs):(j.step i all).1.l=j.l∧(j.step i all).1.sure=j.sure∧(j.step i all).1.cut=j.cut:=by
 unfold Jn.step
 split <;> exact ⟨rfl,rfl,rfl⟩
theorem jstep_ok (j:Jn) (i:Nat) (all:Bs) (hi:i<4) (hd:j.d.fit) (ha:all.length≤100000000):Tri Tryz.prog G 196 [.p 0 0 0,i64 (i:Nat),sv all] [jnB 1 2 j,sRs j.l,dkB 3 j.d,wrRs j.d.loose] (i64 (j.step i all).2) [jnB 1 2 (j.step i all).1,sRs (j.step i all).1.l,dkB 4 (j.step i all).1.d,.g,wrRs (j.step i all).1.d.loose]:=by
 have hcc:i=0∨i=1∨i=2∨i=3:=by omega
 rcases hcc with rfl | rfl | rfl | rfl
 all_goals
  refine fn Tryz.func196 ?_
  conv=>whnf
 ·refine cl (dput_ok j.d true all hd ha) [2,3] ?_
  conv=>whnf
  exact cv [0,1,2,3,4]
 ·refine cl (dsync_ok j.d) [2,3] ?_
  conv=>whnf
  exact cv [0,1,2,3,4]
 ·refine cl (dturn_ok j.d hd) [2,3] ?_
  conv=>whnf
  exact cv [0,1,2,3,3]
 ·refine cl (dtrim_ok j.d true 0 hd (by decide)) [2,3] ?_
  conv=>whnf
  exact cv [0,1,2,3,3]
theorem frames_len:∀ (l:List Bs) (all:Bs),(frames l all).1.length≤all.length+4110*l.length:=by
 intro l
 induction l with
 | nil=>intro all; simp [frames]
 | cons s l ih =>
  intro all
  have:=frame_len s
  have h:=ih (all++frame s)
  rw [List.length_append] at h
  rw [List.length_cons]
  unfold frames
  split
  ·simp
  ·omega
theorem stepsF_z (j:Jn) (all:Bs) (i:Nat):j.stepsF all 0 i=(j,0):=rfl
theorem stepsF_s (j:Jn) (all:Bs) (k i:Nat):j.stepsF all (k+1) i=if (j.step i all).2≠0 then j.step i all else (j.step i all).1.stepsF all k (i+1):=rfl
theorem renew_a {j:Jn} {recs:List Bs} {n:Nat} (h:j.cut=true∨j.sure<j.l.length):j.renew recs n=(j,7):=by unfold Jn.renew; simp [h]
theorem renew_b {j:Jn} {recs:List Bs} {n:Nat} (h:¬ (j.cut=true∨j.sure<j.l.length)) (h2:(frames recs []).2=false):j.renew recs n=(j,1):=by unfold Jn.renew; rw [if_neg h,if_pos (by simp [h2])]
theorem renew_c {j:Jn} {recs:List Bs} {n:Nat} (h:¬ (j.cut=true∨j.sure<j.l.length)) (h2:(frames recs []).2=true):j.renew recs n=if (j.stepsF (frames recs []).1 (min n 4) 0).2≠0 then j.stepsF (frames recs []).1 (min n 4) 0 else if n<4 then ({ (j.stepsF (frames recs []).1 (min n 4) 0).1 with cut:=true },7) else ({ (j.stepsF (frames recs []).1 (min n 4) 0).1 with l:=recs,sure:=recs.length },0):=by unfold Jn.renew; rw [if_neg h,if_neg (by simp [h2])]
theorem jrenew_ok (j:Jn) (recs:List Bs) (n:Nat) (hj:j.fit) (hw:j.d.w 1000) (hr:recs.length≤10000) (hs:∀ x∈recs,x.length≤100000) (hn:n≤1000000):Tri Tryz.prog G 127 [.p 0 0 0,.s 4 0 recs.length false,i64 (n:Nat)] [jnB 1 2 j,sRs j.l,dkB 3 j.d,wrRs j.d.loose,sRs recs] (i64 (j.renew recs n).2) [jnB 5 2 (j.renew recs n).1,.g,dkB 6 (j.renew recs n).1.d,.g,sRs recs,sRs (j.renew recs n).1.l,wrRs (j.renew recs n).1.d.loose]:=by
 obtain ⟨-,h1,h2⟩:=hj
 have hfl:=frames_len recs []
 simp only [List.length_nil] at hfl
 refine fn Tryz.func127 ?_
 conv=>whnf
 refine cl (frames_ok recs hr hs) [4] ?_
 conv=>whnf
 by_cases hc:j.cut=true∨j.sure<j.l.length
 ·rw [renew_a hc]
  cases hct:j.cut with
  | true =>
   conv=>whnf
   refine ⟨rfl,?_⟩
   conv=>whnf
   exact cv [0,1,2,3,4,1,3]
  | false =>
   conv=>whnf
   refine ⟨rfl,?_⟩
   conv=>whnf
   refine br_t (decide_eq_true (by rw [hct] at hc; simp at hc; omega)) ?_
   conv=>whnf
   exact cv [0,1,2,3,4,1,3]
 ·cases hct:j.cut with
  | true=>exact absurd (.inl hct) hc
  | false =>
  conv=>whnf
  refine ⟨rfl,?_⟩
  conv=>whnf
  refine br_f (decide_eq_false (by simp at hc; omega)) ?_
  conv=>whnf
  cases hf:(frames recs []).2 with
  | false =>
   rw [renew_b hc hf]
   conv=>whnf
   exact cv [0,1,2,3,4,1,3]
  | true =>
  rw [renew_c hc hf]
  conv=>whnf
  generalize (frames recs []).1=fs at hfl
  rw [show (if (4:Int)<((n:Nat):Int) then (4:Int) else (n:Int))=((min n 4:Nat):Int) from by split <;> omega]
  obtain ⟨K,hK⟩:∃ K,min n 4=K:=⟨_,rfl⟩
  rw [hK]
  have hK4:K≤4:=by omega
  obtain ⟨R,hR⟩:∃ R,j.stepsF fs K 0=R:=⟨_,rfl⟩
  rw [hR]
  refine lp1 (X:=Nat×Jn) (fun (i,x)=>([(0,.p 0 0 0),(1,.s 4 0 recs.length false),(2,i64 (n:Nat)),(7,sv fs),(41,i64 (K:Nat)),(42,i64 (i:Nat))],[jnB 1 2 x,sRs x.l,dkB 5 x.d,.g,sRs recs,wrRs x.d.loose])) (fun (i,x)=>(i≤K∧x.d.w (1000+i))∧x.stepsF fs (K-i) i=R) (fun (i,_)=>K-i) (0,j) ⟨⟨by omega,hw⟩,hR⟩ (cv [0,1,2,3,4,3]) ?_
  rintro ⟨i,x⟩ ⟨⟨hi,hw⟩,hx⟩
  conv=>whnf
  refine br_of (fun h3 => ?_) (fun h3 => ?_) <;> conv=>whnf
  ·have h3:i<K:=by have:=of_decide_eq_true h3; omega
   rw [show K-i=(K-(i+1))+1 by omega,stepsF_s] at hx
   refine cl (jstep_ok x i fs (by omega) (hw.fit (by omega)) (by omega)) [0,1,2,5] ?_
   conv=>whnf
   have sw:=step_w hw i fs
   refine br_of (fun h4 => ?_) (fun h4 => ?_) <;> conv=>whnf
   ·have h4:(x.step i fs).2≠0:=by simpa using h4
    rw [if_pos h4] at hx
    rw [← hx,if_pos h4]
    exact cv [0,1,2,3,4,1,6]
   ·have h4:(x.step i fs).2=0:=by simpa using h4
    rw [if_neg (by simp [h4])] at hx
    rw [wI64 (n:=(i:Int)+1) (by omega) (by omega)]
    exact ⟨(i+1,(x.step i fs).1),⟨⟨⟨by omega,sw⟩,hx⟩,Nat.sub_lt_sub_left h3 (Nat.lt_succ_self i)⟩,cv [0,1,2,3,4,6]⟩
  ·have h3:i=K:=by have:=of_decide_eq_false h3; omega
   subst h3
   rw [Nat.sub_self,stepsF_z] at hx
   rw [← hx,if_neg (by simp)]
   refine br_of (fun h5 => ?_) (fun h5 => ?_) <;> conv=>whnf
   ·rw [if_pos (by have:=of_decide_eq_true h5; omega)]
    exact cv [0,1,2,3,4,1,5]
   ·rw [if_neg (by have:=of_decide_eq_false h5; omega)]
    refine br_of (fun h6 => ?_) (fun h6 => ?_) <;> conv=>whnf
    ·refine cl (cloneS_ok recs (by omega)) [4] ?_
     conv=>whnf
     exact cv [0,1,2,3,4,6,5]
    ·refine cl (cloneS_ok recs (by omega)) [4] ?_
     conv=>whnf
     exact cv [0,1,2,3,4,6,5]
theorem rTk_len (n:Int) (r:Rr):(rTk n r).1.length≤n.toNat:=by
 unfold rTk
 split
 ·simp
 ·split
  ·simp
  ·split
   ·simp
   ·simp only [List.length_take]; omega
theorem rBl_len (lim:Nat) (r:Rr):(rBl lim r).1.length≤4096:=by
 unfold rBl
 simp only
 split
 ·simp
 ·split
  ·simp
  ·have h:=rTk_len (((rNm r).1:Nat):Int) (rNm r).2
   rename_i h2
   split
   ·simp only at h ⊢; omega
   ·omega
theorem openF_s (k:Nat) (s:Bs):openF (k+1) s=if frame (rBl 4096 (s,0)).1=[]∨s.length<(frame (rBl 4096 (s,0)).1).length∨s.take (frame (rBl 4096 (s,0)).1).length≠frame (rBl 4096 (s,0)).1 then ([],0) else ((rBl 4096 (s,0)).1::(openF k (s.drop (frame (rBl 4096 (s,0)).1).length)).1,(frame (rBl 4096 (s,0)).1).length+(openF k (s.drop (frame (rBl 4096 (s,0)).1).length)).2):=rfl
theorem openF_le:∀ (k:Nat) (s:Bs),(openF k s).2≤s.length∧(openF k s).1.length≤s.length:=by
 intro k
 induction k with
 | zero=>intro s; simp [openF]
 | succ k ih =>
  intro s
  rw [openF_s]
  split
  ·simp
  ·rename_i h
   have h2:=ih (s.drop (frame (rBl 4096 (s,0)).1).length)
   have h3:frame (rBl 4096 (s,0)).1≠[]:=fun e=>h (.inl e)
   have h4:0<(frame (rBl 4096 (s,0)).1).length:=List.length_pos_iff.2 h3
   have h5:¬ s.length<(frame (rBl 4096 (s,0)).1).length:=fun e=>h (.inr (.inl e))
   rw [List.length_drop] at h2
   simp only [List.length_cons]
   omega
theorem jopen_ok (d:Dk) (hd:d.w 1000):Tri Tryz.prog G 63 [.p 0 0 0] [dkB 1 d,wrRs d.loose] (.p 3 0 0) [dkB 2 (Jn.open d).d,.g,wrRs (Jn.open d).d.loose,jnB 4 0 (Jn.open d),sRs (Jn.open d).l]:=by
 have hw:=hd.sync 0
 have hle:=openF_le (d.f0.length+1) d.f0
 have h0:d.f0.length≤16777216:=by have:=hd.1; have:=hd.2.1; omega
 obtain ⟨Q,hQ⟩:∃ Q,openF (d.f0.length+1) d.f0=Q:=⟨_,rfl⟩
 rw [hQ] at hle
 have ho:Jn.open d={ d:=((d.sync.trim false Q.2).1.trim true 0).1,l:=Q.1,sure:=Q.1.length }:=by
  unfold Jn.open
  simp only [show d.sync.f0=d.f0 from rfl,hQ]
 rw [ho]
 refine fn Tryz.func63 ?_
 conv=>whnf
 refine cl (dsync_ok d) [0,1] ?_
 conv=>whnf
 refine clQ (dread_ok d.sync false) [0,2] ?_
 conv=>whnf
 refine lp1 (X:=Nat×Nat×Nat×List Bs) (fun (k,i,p,acc)=>([(0,.p 0 0 0),(3,.p 3 0 0),(4,sv d.f0),(5,i64 (p:Nat))],[dkB 2 d.sync,.g,wrRs d.sync.loose,jnB 4 0 { d:=d.sync,l:=acc },sRs acc])) (fun (k,i,p,acc)=>(p≤d.f0.length∧i≤p∧k+i=d.f0.length+1∧acc.length=i)∧acc++(openF k (d.f0.drop p)).1=Q.1∧p+(openF k (d.f0.drop p)).2=Q.2) (fun (_,_,p,_)=>d.f0.length-p) (d.f0.length+1,0,0,[]) ⟨⟨by omega,by omega,by omega,rfl⟩,by rw [← hQ]; rfl,by rw [← hQ]; simp⟩ (cv [0,1,2,3,9]) ?_
 rintro ⟨k,i,p,acc⟩ ⟨⟨hp,hi,hk,hal⟩,hx1,hx2⟩
 obtain ⟨k,rfl⟩:∃ k',k=k'+1:=⟨k-1,by omega⟩
 rw [openF_s] at hx1 hx2
 conv=>whnf
 refine ⟨⟨by omega,by rw [sB_size]; omega,by omega⟩,?_⟩
 conv=>whnf
 rw [sB_ext,sB_size,Int.toNat_natCast,Int.toNat_natCast,List.take_of_length_le (by rw [List.length_drop]; omega)]
 refine cl (lread_ok (d.f0.drop p)) [] ?_
 conv=>whnf
 refine cl (lblob_ok 4096 (d.f0.drop p,0)) [5] ?_
 conv=>whnf
 have hbl:=rBl_len 4096 (d.f0.drop p,0)
 generalize rBl 4096 (d.f0.drop p,0)=B at hx1 hx2 hbl
 obtain ⟨x,rb⟩:=B
 simp only at hx1 hx2 hbl
 have hfl:=frame_len x
 refine clQ (frame_ok x (by omega)) [] ?_
 simp only
 generalize frame x=f at hx1 hx2 hfl
 conv=>whnf
 refine br_of (fun h => ?_) (fun h => ?_) <;> rw [h] <;> conv=>whnf
 ·have h:f=[]:=eq_of_beq ((eqL f []).symm.trans h)
  rw [if_pos (.inl h)] at hx1 hx2
  have hx1:acc++[]=Q.1:=hx1
  have hx2:p+0=Q.2:=hx2
  rw [List.append_nil] at hx1
  rw [Nat.add_zero] at hx2
  refine cl (dtrim_ok d.sync false p (hw.fit (by decide)) (by omega)) [0,2] ?_
  conv=>whnf
  have hw2:=hw.trim false p
  refine cl (dtrim_ok (d.sync.trim false p).1 true 0 (hw2.fit (by decide)) (by decide)) [0,2] ?_
  conv=>whnf
  rw [← hx1,← hx2]
  exact cv [0,1,2,3,4]
 have hf0:f≠[]:=by have e:=(eqL f []).symm.trans h; simpa using e
 have hfp:0<f.length:=List.length_pos_iff.2 hf0
 rw [sB_size,sB_size,wI64 (n:=(d.f0.length:Int)-(p:Nat)) (by omega) (by omega)]
 refine br_of (fun h2 => ?_) (fun h2 => ?_) <;> rw [h2] <;> conv=>whnf
 ·have h2:(d.f0.drop p).length<f.length:=by have:=of_decide_eq_true h2; rw [List.length_drop]; omega
  rw [if_pos (.inr (.inl h2))] at hx1 hx2
  have hx1:acc++[]=Q.1:=hx1
  have hx2:p+0=Q.2:=hx2
  rw [List.append_nil] at hx1
  rw [Nat.add_zero] at hx2
  refine cl (dtrim_ok d.sync false p (hw.fit (by decide)) (by omega)) [0,2] ?_
  conv=>whnf
  have hw2:=hw.trim false p
  refine cl (dtrim_ok (d.sync.trim false p).1 true 0 (hw2.fit (by decide)) (by decide)) [0,2] ?_
  conv=>whnf
  rw [← hx1,← hx2]
  exact cv [0,1,2,3,4]
 have h2:p+f.length≤d.f0.length:=by have:=of_decide_eq_false h2; omega
 rw [sB_size,wI64 (n:=(p:Int)+(f.length:Nat)) (by omega) (by omega)]
 refine ⟨⟨by omega,by omega,by rw [sB_size]; omega⟩,?_⟩
 conv=>whnf
 rw [sB_ext,show ((p:Int)+(f.length:Nat)).toNat-(p:Int).toNat=f.length from by omega,Int.toNat_natCast,neL]
 refine br_of (fun h3 => ?_) (fun h3 => ?_) <;> rw [h3] <;> conv=>whnf
 ·have h3:(d.f0.drop p).take f.length≠f:=of_decide_eq_true h3
  rw [if_pos (.inr (.inr h3))] at hx1 hx2
  have hx1:acc++[]=Q.1:=hx1
  have hx2:p+0=Q.2:=hx2
  rw [List.append_nil] at hx1
  rw [Nat.add_zero] at hx2
  refine cl (dtrim_ok d.sync false p (hw.fit (by decide)) (by omega)) [0,2] ?_
  conv=>whnf
  have hw2:=hw.trim false p
  refine cl (dtrim_ok (d.sync.trim false p).1 true 0 (hw2.fit (by decide)) (by decide)) [0,2] ?_
  conv=>whnf
  rw [← hx1,← hx2]
  exact cv [0,1,2,3,4]
 have h3:(d.f0.drop p).take f.length=f:=Classical.not_not.1 (of_decide_eq_false h3)
 have hn:¬ (f=[]∨(d.f0.drop p).length<f.length∨(d.f0.drop p).take f.length≠f):=by
  rintro (e | e | e)
  ·exact hf0 e
  ·rw [List.length_drop] at e; omega
  ·exact e h3
 rw [if_neg hn,List.drop_drop] at hx1 hx2
 refine ⟨⟨rfl,rfl⟩,?_⟩
 conv=>whnf
 refine ⟨by simp,?_⟩
 conv=>whnf
 refine ⟨⟨by simp only; omega,by simp⟩,?_⟩
 conv=>whnf
 rw [sB_size,wI64 (n:=(p:Int)+(f.length:Nat)) (by omega) (by omega)]
 exact ⟨(k,i+1,p+f.length,acc++[x]),⟨⟨⟨by simp only; omega,by simp only; omega,by simp only; omega,by simp; omega⟩,by simpa using hx1,by simp only at hx2 ⊢; omega⟩,by simp only; omega⟩,cv [0,1,2,3,7] (h5:=⟨⟨_,rfl,⟨.inl rfl,.inl rfl,.inl rfl,.inl rfl,trivial⟩⟩,.inl rfl,⟨_,rfl,⟨.inl rfl,.inl (by simp [ren]),.inl rfl,.inl rfl,trivial⟩⟩,.inl (by simp),trivial⟩)⟩
end Go.Proofs.YtdhgpocbcccieaaGreatDoor.M
namespace Go.Proofs.YtdhgpocbcccieaaGreatDoor.M
open Go Go.RowKit Go.Proofs.YtdhgpocbcccieaaGreatDoor.E
structure Jn.ok (j:Jn):Prop where
 d:j.d.w 1
 r:j.d.room≤100000
 l:j.l.length≤900000
 s:j.sure≤900000
 a:j.cut=false→j.d.loose=[]
 u:∀ x∈j.d.loose,x.2≤(j.d.read x.1).length
theorem Jn.ok.fit {j:Jn} (h:j.ok):j.fit:=⟨h.d.fit (by decide),by have:=h.l; omega,by have:=h.s; omega⟩
theorem frame_pos {s:Bs} (h:frame s≠[]):1≤(frame s).length:=List.length_pos_iff.2 h
theorem Jn.ok.add {j:Jn} (h:j.ok) (hl:j.l.length<900000) (s:Bs):(j.add s).1.ok∧(j.add s).1.l.length≤j.l.length+1:=by
 unfold Jn.add
 cases hc:j.cut with
 | true=>rw [jl_a hc]; exact ⟨by simpa using h,by simp⟩
 | false =>
  by_cases h2:frame s=[]
  ·rw [jl_b hc h2]; exact ⟨by simpa using h,by simp⟩
  ·have a1:=h.a hc
   by_cases h3:(j.d.put false (frame s)).2=0
   ·rw [jl_c hc h2 h3]
    have hw:=h.d.put false (frame s)
    unfold Dk.put at h3 hw ⊢
    split at h3
    ·cases h3
    ·rename_i hx
     rw [if_neg hx] at hw
     rw [if_neg hx]
     have hr:=h.r
     have hw1:=hw.1
     simp only [Dk.set,Dk.read,Bool.false_eq_true,if_false,List.length_append] at hw1
     simp only [ne_eq,not_true_eq_false,if_false]
     refine ⟨⟨hw.sync 1,hr,?_,?_,fun _=>rfl,fun x hx=>by cases hx⟩,?_⟩ <;> simp only [List.length_append,List.length_singleton] <;> omega
   ·rw [jl_d hc h2 h3]
    unfold Dk.put at h3 ⊢
    split
    ·exact ⟨by simpa using h,by simp⟩
    ·rename_i hx
     rw [if_neg hx] at h3
     exact (h3 rfl).elim
theorem openF_le2:∀ (k:Nat) (s:Bs),(openF k s).1.length≤(openF k s).2:=by
 intro k
 induction k with
 | zero=>intro s; simp [openF]
 | succ k ih =>
  intro s
  rw [openF_s]
  split
  ·simp
  ·rename_i h
   have h2:=ih (s.drop (frame (rBl 4096 (s,0)).1).length)
   have h3:=frame_pos (fun e=>h (.inl e))
   simp only [List.length_cons]
   omega
theorem open_ok {d:Dk} (h:d.w 1000) (hr:d.room≤100000):(Jn.open d).ok∧(Jn.open d).l.length≤100000:=by
 have hw:=h.sync 0
 have l1:=openF_le (d.f0.length+1) d.f0
 have l2:=openF_le2 (d.f0.length+1) d.f0
 have h0:d.f0.length+d.f1.length≤d.room:=h.1
 unfold Jn.open
 simp only [show d.sync.f0=d.f0 from rfl]
 generalize openF (d.f0.length+1) d.f0=Q at l1 l2
 have e1:d.sync.trim false Q.2=({ d with f0:=d.f0.take Q.2,loose:=[] },0):=by
  unfold Dk.trim
  rw [if_neg (by show ¬ d.f0.length<Q.2; omega),if_neg (by simp [Dk.lost,Dk.sync])]
  rfl
 rw [e1]
 have e2:({ d with f0:=d.f0.take Q.2,loose:=[] }:Dk).trim true 0=({ d with f0:=d.f0.take Q.2,f1:=[],loose:=[] },0):=by
  unfold Dk.trim
  rw [if_neg (by simp),if_neg (by simp [Dk.lost])]
  simp [Dk.set,Dk.read]
 rw [e2]
 refine ⟨⟨⟨by simp only [List.length_take,List.length_nil]; omega,h.2.1,by simp,fun x hx=>(by cases hx)⟩,hr,by first | omega | (simp only; omega),by first | omega | (simp only; omega),fun _=>rfl,fun x hx=>by cases hx⟩,by first | omega | (simp only; omega)⟩
theorem frames_pos:∀ (l:List Bs) (all:Bs),(frames l all).2=true→all.length+l.length≤(frames l all).1.length:=by
 intro l
 induction l with
 | nil=>intro all _; simp [frames]
 | cons s l ih =>
  intro all h
  by_cases h2:frame s=[]
  ·rw [frames_a h2] at h; cases h
  ·rw [frames_b h2] at h ⊢
   have:=ih _ h
   have hp:=frame_pos h2
   rw [List.length_append] at this
   rw [List.length_cons]
   omega
theorem Jn.ok.renew {j:Jn} (h:j.ok) (recs:List Bs) (n:Nat) (hr:recs.length≤10000):(j.renew recs n).1.ok:=by
 by_cases hc:j.cut=true∨j.sure<j.l.length
 ·rw [renew_a hc]; exact h
 cases hf:(frames recs []).2 with
 | false=>rw [renew_b hc hf]; exact h
 | true =>
  rw [renew_c hc hf]
  have hp:=frames_pos recs [] hf
  simp only [List.length_nil,Nat.zero_add] at hp
  generalize (frames recs []).1=fs at hp
  have hcf:j.cut=false:=by cases hx:j.cut <;> simp_all
  have a1:=h.a hcf
  have hd:=h.d
  have hrm:=h.r
  have hsl:=h.s
  have hl:=h.l
  obtain ⟨⟨f0,f1,loose,room⟩,l,sure,cut⟩:=j
  simp only at a1 hrm hsl hl hcf
  subst a1 hcf
  obtain ⟨d1,d2, -, -⟩:=hd
  simp only at d1 d2
  by_cases hx:(fs.length:Int)>room-f0.length-f1.length
  ·obtain ⟨k,hk⟩:∃ k,min n 4=k:=⟨_,rfl⟩
   rw [hk]
   cases k with
   | zero =>
    simp only [stepsF_z,ne_eq,not_true_eq_false,if_false]
    rw [if_pos (by omega)]
    exact ⟨h.d,h.r,h.l,h.s,fun e=>(by cases e),fun x hx=>by cases hx⟩
   | succ k =>
    have e1:(Jn.stepsF ⟨⟨f0,f1,[],room⟩,l,sure,false⟩ fs (k+1) 0)=(⟨⟨f0,f1,[],room⟩,l,sure,false⟩,8):=by
     rw [stepsF_s]
     simp [Jn.step,Dk.put,Dk.free,if_pos hx]
    rw [e1]
    simpa using h
  ·have w2:f1.length+fs.length+f0.length≤room:=by omega
   have hk:n=0∨n=1∨n=2∨n=3∨4≤n:=by omega
   have s0:(Jn.step ⟨⟨f0,f1,[],room⟩,l,sure,false⟩ 0 fs)=(⟨⟨f0,f1++fs,[(true,fs.length)],room⟩,l,sure,false⟩,0):=by
    simp [Jn.step,Dk.put,Dk.free,if_neg hx,Dk.set,Dk.read]
   have s1:(Jn.step ⟨⟨f0,f1++fs,[(true,fs.length)],room⟩,l,sure,false⟩ 1 fs)=(⟨⟨f0,f1++fs,[],room⟩,l,sure,false⟩,0):=rfl
   have s2:(Jn.step ⟨⟨f0,f1++fs,[],room⟩,l,sure,false⟩ 2 fs)=(⟨⟨f1++fs,f0,[],room⟩,l,sure,false⟩,0):=by simp [Jn.step,Dk.turn,Dk.lost]
   have s3:(Jn.step ⟨⟨f1++fs,f0,[],room⟩,l,sure,false⟩ 3 fs)=(⟨⟨f1++fs,[],[],room⟩,l,sure,false⟩,0):=by simp [Jn.step,Dk.trim,Dk.lost,Dk.set,Dk.read]
   rcases hk with rfl | rfl | rfl | rfl | hk
   ·simp only [show min 0 4=0 from rfl,stepsF_z,ne_eq,not_true_eq_false,if_false]
    exact ⟨h.d,h.r,h.l,h.s,fun e=>(by cases e),fun x hx=>by cases hx⟩
   ·simp only [show min 1 4=0+1 from rfl,stepsF_s,s0,stepsF_z,ne_eq,not_true_eq_false,if_false]
    exact ⟨⟨by show f0.length+(f1++fs).length≤room; rw [List.length_append]; omega,d2,by simp,fun x hx=>by simp at hx; subst hx; show fs.length≤16777216; omega⟩,hrm,hl,hsl,fun e=>(by cases e),fun x hx=>by simp at hx; subst hx; simp [Dk.read]⟩
   ·simp only [show min 2 4=0+1+1 from rfl,stepsF_s,s0,s1,stepsF_z,ne_eq,not_true_eq_false,if_false]
    exact ⟨⟨by show f0.length+(f1++fs).length≤room; rw [List.length_append]; omega,d2,by simp,fun x hx=>by cases hx⟩,hrm,hl,hsl,fun e=>(by cases e),fun x hx=>by cases hx⟩
   ·simp only [show min 3 4=0+1+1+1 from rfl,stepsF_s,s0,s1,s2,stepsF_z,ne_eq,not_true_eq_false,if_false]
    exact ⟨⟨by show (f1++fs).length+f0.length≤room; rw [List.length_append]; omega,d2,by simp,fun x hx=>by cases hx⟩,hrm,hl,hsl,fun e=>(by cases e),fun x hx=>by cases hx⟩
   ·rw [show min n 4=0+1+1+1+1 by omega]
    simp only [stepsF_s,s0,s1,s2,s3,stepsF_z,ne_eq,not_true_eq_false,if_false]
    rw [if_neg (by omega)]
    exact ⟨⟨by show (f1++fs).length+0≤room; rw [List.length_append]; omega,d2,by simp,fun x hx=>by cases hx⟩,hrm,by simp only; omega,by simp only; omega,fun _=>rfl,fun x hx=>by cases hx⟩
theorem swapA_len (l:List Al) (i k:Nat):(swapA l i k).length=l.length:=by simp [swapA]
theorem upA_len:∀ (f:Nat) (l:List Al) (i:Nat),(upA f l i).length=l.length:=by
 intro f
 induction f with
 | zero=>intro l i; rfl
 | succ f ih=>intro l i; unfold upA; split <;> simp [ih,swapA_len]
theorem downA_len:∀ (f:Nat) (l:List Al) (i:Nat),(downA f l i).length=l.length:=by
 intro f
 induction f with
 | zero=>intro l i; rfl
 | succ f ih =>
  intro l i
  unfold downA
  simp only
  repeat' split
  all_goals simp [ih,swapA_len]
theorem removeA_len (l:List Al) (i:Nat):(removeA l i).length=l.length-1:=by
 unfold removeA
 simp only
 split <;> simp [upA_len,downA_len,swapA_len]
structure Tb.ok (t:Tb):Prop where
 c:t.c.right=true
 l:(t.due.length:Int)≤t.c.room
 k:∀ x∈t.tried.2,0≤x.2.2∧x.2.2≤1000
theorem Rc.right_inv {c:Rc} (h:c.right=true):c.base<1099511627777∧c.most<1099511627777∧c.span<1099511627777∧c.tries≤1000∧1≤c.tries∧1≤c.room∧c.room≤10000:=by
 simp only [Rc.right,Bool.and_eq_true,decide_eq_true_eq] at h
 omega
theorem setA_len {l:List Al} {most:Int} (h:(l.length:Int)≤most) (id:Int) (a:Nat):((setA l most id a).1.length:Int)≤most:=by
 unfold setA
 split
 ·exact h
 ·split
  ·exact h
  ·simp only [upA_len,List.length_append,List.length_singleton]; omega
theorem popA_len:∀ (f:Nat) (l:List Al) (now:Nat),(popA f l now).2.length≤l.length∧(popA f l now).1.length≤f:=by
 intro f
 induction f with
 | zero=>intro l now; simp [popA]
 | succ f ih =>
  intro l now
  cases l with
  | nil=>simp [popA]
  | cons a l =>
   unfold popA
   simp only
   split
   ·have h:=ih (removeA (a::l) 0) now
    rw [removeA_len] at h
    simp only [List.length_cons] at h ⊢
    omega
   ·simp
theorem mpSet_mem {α:Type} {k:Int} {y:α} {x:Int×Nat×α}:∀ {l:List (Int×Nat×α)},x∈mpSet k y l→x∈l∨x.2.2=y:=by
 intro l
 induction l with
 | nil=>intro h; cases h
 | cons z l ih =>
  obtain ⟨i,b,v⟩:=z
  intro h
  unfold mpSet at h
  split at h
  ·rcases List.mem_cons.1 h with rfl | h
   ·exact .inr rfl
   ·exact .inl (List.mem_cons_of_mem _ h)
  ·rcases List.mem_cons.1 h with rfl | h
   ·exact .inl (by simp)
   ·exact (ih h).imp (List.mem_cons_of_mem _) id
theorem mpDel_mem {α:Type} {k:Int} {x:Int×Nat×α}:∀ {l:List (Int×Nat×α)},x∈mpDel k l→x∈l:=by
 intro l
 induction l with
 | nil=>intro h; cases h
 | cons z l ih =>
  obtain ⟨i,b,v⟩:=z
  intro h
  unfold mpDel at h
  split at h
  ·exact List.mem_cons_of_mem _ h
  ·rcases List.mem_cons.1 h with rfl | h
   ·simp
   ·exact List.mem_cons_of_mem _ (ih h)
theorem set_mem {α:Type} {m:Mp α} {k:Int} {y:α} {x:Int×Nat×α} (h:x∈(m.set k y).2):x∈m.2∨x.2.2=y:=by
 unfold Mp.set at h
 split at h
 ·exact mpSet_mem h
 ·rcases List.mem_append.1 h with h | h
  ·exact .inl h
  ·rw [List.mem_singleton.1 h]; exact .inr rfl
theorem get_mem {α:Type} {k:Int} {y:α}:∀ {l:List (Int×Nat×α)},mpGet k l=some y→∃ x∈l,x.2.2=y:=by
 intro l
 induction l with
 | nil=>intro h; cases h
 | cons z l ih =>
  obtain ⟨i,b,v⟩:=z
  intro h
  unfold mpGet at h
  split at h
  ·cases h; exact ⟨_,List.mem_cons_self ..,rfl⟩
  ·obtain ⟨x,hx,e⟩:=ih h
   exact ⟨x,List.mem_cons_of_mem _ hx,e⟩
theorem Tb.ok.get {t:Tb} (h:t.ok) (id:Int):0≤(mpGet id t.tried.2).getD 0∧(mpGet id t.tried.2).getD 0≤1000:=by
 cases hg:mpGet id t.tried.2 with
 | none=>decide
 | some y=>obtain ⟨x,hx,rfl⟩:=get_mem hg; exact h.k x hx
theorem Tb.ok.ask {t:Tb} (h:t.ok) (id:Int) (now draw:Nat):(t.ask id now draw).1.ok:=by
 unfold Tb.ask
 refine ⟨h.c,setA_len h.l _ _,fun x hx => ?_⟩
 simp only at hx
 split at hx
 ·rcases set_mem hx with hx | hx
  ·exact h.k x hx
  ·omega
 ·exact h.k x hx
theorem Tb.ok.done {t:Tb} (h:t.ok) (id:Int):(t.done id).ok:=by
 refine ⟨h.c,?_,fun x hx=>h.k x (mpDel_mem hx)⟩
 have:=h.l
 unfold Tb.done dropA
 split
 ·simp only [removeA_len]; omega
 ·exact this
theorem dueF_ok (now draw:Nat):∀ (l:List Int) (t:Tb) (a b:List Int),t.ok→(Tb.dueF now draw l t a b).1.ok∧(Tb.dueF now draw l t a b).1.c=t.c:=by
 intro l
 induction l with
 | nil=>intro t a b h; exact ⟨h,rfl⟩
 | cons id l ih =>
  intro t a b h
  unfold Tb.dueF
  simp only
  split
  ·exact ih _ _ _ ⟨h.c,h.l,fun x hx=>h.k x (mpDel_mem hx)⟩
  ·rename_i hk
   have:=Rc.right_inv h.c
   have hg:=h.get id
   exact ih _ _ _ ⟨h.c,setA_len h.l _ _,fun x hx=>by
    rcases set_mem hx with hx | hx
    ·exact h.k x hx
    ·omega⟩
theorem dueF_len (now draw:Nat):∀ (l:List Int) (t:Tb) (a b:List Int),(Tb.dueF now draw l t a b).2.1.length+(Tb.dueF now draw l t a b).2.2.length=l.length+a.length+b.length:=by
 intro l
 induction l with
 | nil=>intro t a b; simp [Tb.dueF]
 | cons id l ih =>
  intro t a b
  unfold Tb.dueF
  simp only
  split <;> rw [ih] <;> simp <;> omega
theorem Tb.ok.dueL {t:Tb} (h:t.ok) (now draw:Nat):(t.dueL now draw).1.ok∧(t.dueL now draw).1.c=t.c∧(t.dueL now draw).2.1.length+(t.dueL now draw).2.2.length≤10000:=by
 have hp:=popA_len t.due.length t.due now
 have hl:=h.l
 have hr:=Rc.right_inv h.c
 have h1:=dueF_ok now draw (popA t.due.length t.due now).1 { t with due:=(popA t.due.length t.due now).2 } [] [] ⟨h.c,by simp only; omega,h.k⟩
 have h2:=dueF_len now draw (popA t.due.length t.due now).1 { t with due:=(popA t.due.length t.due now).2 } [] []
 refine ⟨h1.1,h1.2,?_⟩
 show (Tb.dueF now draw _ _ [] []).2.1.length+(Tb.dueF now draw _ _ [] []).2.2.length≤10000
 simp only [List.length_nil] at h2
 omega
theorem Tb.ask_c (t:Tb) (id:Int) (now draw:Nat):(t.ask id now draw).1.c=t.c:=rfl
end Go.Proofs.YtdhgpocbcccieaaGreatDoor.M
namespace Go.Proofs.YtdhgpocbcccieaaGreatDoor.M
open Go Go.RowKit Go.Proofs.YtdhgpocbcccieaaGreatDoor.E
variable {G:Gl}
abbrev alE (a:Al):List E.EV:=[u64 a.1,i64 a.2]
abbrev alR (l:List Al):List (List E.EV):=l.map alE
abbrev alRs (l:List Al):EB := .rs 343 (alR l)
abbrev rwV (L n:Nat):E.EV := .i 252 (.s L 0 n false)
theorem al_at {l x:List Al} {i:Nat} (h:i<l.length):(alR (l++x))[i]? = some (alE (l.getD i (0,0))):=by
 rw [List.getElem?_map,List.getElem?_append_left h,List.getElem?_eq_getElem h,List.getD_eq_getElem?_getD,List.getElem?_eq_getElem h]
 rfl
theorem al_ix {l x:List Al} {i:Nat} (h:i<l.length):(alR (l++x))[0+(i:Int).toNat]? = some (alE (l.getD i (0,0))):=by
 rw [Nat.zero_add,Int.toNat_natCast]
 exact al_at h
theorem al_set (l x:List Al) (i:Nat) (a:Al) (h:i<l.length):(alR (l++x)).set i (alE a)=alR (l.set i a++x):=by
 rw [← List.map_set,List.set_append,if_pos h]
theorem al_sx {l x:List Al} {i:Nat} {a:Al} (h:i<l.length):(alR (l++x)).set (0+(i:Int).toNat) (alE a)=alR (l.set i a++x):=by
 rw [Nat.zero_add,Int.toNat_natCast]
 exact al_set l x i a h
theorem me_len:methE Tryz.prog 252 "Len" = some 316:=by unfold methE; kernel_rfl
theorem me_less:methE Tryz.prog 252 "Less" = some 317:=by unfold methE; kernel_rfl
theorem me_swap:methE Tryz.prog 252 "Swap" = some 282:=by unfold methE; kernel_rfl
theorem tlen_ok (l x:List Al):Tri Tryz.prog G 316 [.s 0 0 l.length false] [alRs (l++x)] (i64 (l.length:Nat)) [alRs (l++x)]:=by
 refine fn Tryz.func316 ?_
 conv=>whnf
 exact cv [0]
theorem tless_ok (l x:List Al) (i k:Nat) (hi:i<l.length) (hk:k<l.length):Tri Tryz.prog G 317 [.s 0 0 l.length false,i64 (i:Nat),i64 (k:Nat)] [alRs (l++x)] (bv (lessA l i k)) [alRs (l++x)]:=by
 refine fn Tryz.func317 ?_
 have h1:=al_ix (x:=x) hi
 have h2:=al_ix (x:=x) hk
 unfold lessA
 simp only
 generalize l.getD i (0,0)=a at h1
 generalize l.getD k (0,0)=b at h2
 conv=>whnf
 refine ⟨by omega,?_⟩
 conv=>whnf
 refine ob_of (alE a) h1 ?_
 conv=>whnf
 refine ⟨by omega,?_⟩
 conv=>whnf
 refine ob_of (alE b) h2 ?_
 conv=>whnf
 rw [show decide ((a.1:Int)<(b.1:Int))=decide (a.1<b.1) from by rw [Bool.eq_iff_iff]; simp]
 refine br_of (fun h => ?_) (fun h => ?_) <;> rw [h] <;> conv=>whnf
 ·refine ⟨rfl,?_⟩
  conv=>whnf
  exact cv [0]
 refine ⟨by omega,?_⟩
 conv=>whnf
 refine ob_of (alE a) h1 ?_
 conv=>whnf
 refine ⟨by omega,?_⟩
 conv=>whnf
 refine ob_of (alE b) h2 ?_
 conv=>whnf
 rw [show ((a.1:Int)==(b.1:Int))=(a.1==b.1) from by rw [Bool.eq_iff_iff]; simp [Int.ofNat_inj]]
 refine br_of (fun h => ?_) (fun h => ?_) <;> rw [h] <;> conv=>whnf
 ·refine ⟨by omega,?_⟩
  conv=>whnf
  refine ob_of (alE a) h1 ?_
  conv=>whnf
  refine ⟨by omega,?_⟩
  conv=>whnf
  refine ob_of (alE b) h2 ?_
  conv=>whnf
  refine ⟨rfl,?_⟩
  conv=>whnf
  exact cv [0]
 ·refine ⟨rfl,?_⟩
  conv=>whnf
  exact cv [0]
theorem tswap_ok (l x:List Al) (i k:Nat) (hi:i<l.length) (hk:k<l.length):Tri Tryz.prog G 282 [.s 0 0 l.length false,i64 (i:Nat),i64 (k:Nat)] [alRs (l++x)] (.t []) [alRs (swapA l i k++x)]:=by
 refine fn Tryz.func282 ?_
 have h1:=al_ix (x:=x) hi
 have h2:=al_ix (x:=x) hk
 obtain ⟨a,ha⟩:∃ a,l.getD i (0,0)=a:=⟨_,rfl⟩
 obtain ⟨b,hb⟩:∃ b,l.getD k (0,0)=b:=⟨_,rfl⟩
 unfold swapA
 rw [ha,hb]
 rw [ha] at h1
 rw [hb] at h2
 conv=>whnf
 refine ⟨by omega,?_⟩
 conv=>whnf
 refine ob_of (alE b) h2 ?_
 conv=>whnf
 refine ⟨by omega,?_⟩
 conv=>whnf
 refine ob_of (alE a) h1 ?_
 conv=>whnf
 refine ⟨by omega,?_⟩
 conv=>whnf
 refine ob_of (alE a) h1 ?_
 conv=>whnf
 rw [al_sx hi]
 have h3:=al_ix (l:=l.set i b) (x:=x) (i:=k) (by simpa using hk)
 refine ⟨by omega,?_⟩
 conv=>whnf
 refine ob_of _ h3 ?_
 conv=>whnf
 rw [al_sx (l:=l.set i b) (by simpa using hk)]
 refine ⟨rfl,?_⟩
 conv=>whnf
 exact cv [0]
theorem upR_s (f:Nat) (l:List Al) (i:Nat):upA (f+1) l i=if decide (0<i)&&lessA l i ((i-1)/2) then upA f (swapA l i ((i-1)/2)) ((i-1)/2) else l:=rfl
theorem half_c {i:Nat} (h:0<i) (hi:i<1000000):IntKind.i64.wrap ((IntKind.i64.wrap ((i:Int)-1)).tdiv 2)=(((i-1)/2:Nat):Int):=by
 rw [wI64 (n:=(i:Int)-1) (by omega) (by omega),show ((i:Int)-1)=((i-1:Nat):Int) by omega,show ((i-1:Nat):Int).tdiv 2=(((i-1)/2:Nat):Int) from rfl,wI64 (by omega) (by omega)]
theorem up_ok (l x:List Al) (i:Nat) (hi:i<l.length) (hl:l.length≤100000) (f:Nat) (hf:i<f):Tri Tryz.prog G 268 [rwV 0 l.length,i64 (i:Nat)] [alRs (l++x)] (.t []) [alRs (upA f l i++x)]:=by
 obtain ⟨R,hR⟩:∃ R,upA f l i=R:=⟨_,rfl⟩
 rw [hR]
 obtain ⟨N,hN⟩:∃ N,l.length=N:=⟨_,rfl⟩
 rw [hN] at hi hl ⊢
 refine fn Tryz.func268 ?_
 conv=>whnf
 refine lp1 (X:=Nat×Nat×List Al) (fun (f,i,m)=>([(0,rwV 0 N),(1,i64 (i:Nat))],[alRs (m++x)])) (fun (f,i,m)=>(m.length=N∧i<N∧i<f)∧upA f m i=R) (fun (f,i,m)=>i) (f,i,l) ⟨⟨hN,hi,hf⟩,hR⟩ (cv [0]) ?_
 rintro ⟨f,i,m⟩ ⟨⟨hm,hi,hf⟩,hx⟩
 subst hm
 obtain ⟨f,rfl⟩:∃ g,f=g+1:=⟨f-1,by omega⟩
 rw [upR_s] at hx
 conv=>whnf
 refine br_of (fun h => ?_) (fun h => ?_) <;> rw [h] <;> conv=>whnf
 rotate_left
 ·have h:i=0:=by have:=of_decide_eq_false h; omega
  subst h
  rw [if_neg (by simp)] at hx
  subst hx
  exact cv [0]
 have h:0<i:=by have:=of_decide_eq_true h; omega
 rw [half_c h (by omega)]
 have hk:(i-1)/2<m.length:=by omega
 refine ob_of _ me_less ?_
 refine clQ (tless_ok m x i ((i-1)/2) hi hk) [0] ?_
 conv=>whnf
 rw [decide_eq_true h,Bool.true_and] at hx
 refine br_of (fun h2 => ?_) (fun h2 => ?_) <;> rw [h2] <;> conv=>whnf
 rotate_left
 ·rw [if_neg (by simp [h2])] at hx
  subst hx
  exact cv [0]
 rw [if_pos h2] at hx
 rw [half_c h (by omega)]
 refine ob_of _ me_swap ?_
 refine cl (tswap_ok m x i ((i-1)/2) hi hk) [0] ?_
 conv=>whnf
 rw [half_c h (by omega)]
 exact ⟨(f,(i-1)/2,swapA m i ((i-1)/2)),⟨⟨⟨swapA_len _ _ _,hk,by show (i-1)/2<f; omega⟩,hx⟩,by show (i-1)/2<i; omega⟩,cv [0]⟩
abbrev downK (l:List Al) (i:Nat):Nat:=if decide (2*i+2<l.length)&&lessA l (2*i+2) (2*i+1) then 2*i+2 else 2*i+1
theorem down_s (f:Nat) (l:List Al) (i:Nat):downA (f+1) l i=if decide (l.length≤downK l i) || !lessA l (downK l i) i then l else downA f (swapA l (downK l i) i) (downK l i):=rfl
theorem down_ok (l x:List Al) (i:Nat) (hi:i<l.length) (hl:l.length≤100000) (f:Nat) (hf:l.length≤f+i):Tri Tryz.prog G 283 [rwV 0 l.length,i64 (i:Nat)] [alRs (l++x)] (.t []) [alRs (downA f l i++x)]:=by
 obtain ⟨R,hR⟩:∃ R,downA f l i=R:=⟨_,rfl⟩
 rw [hR]
 obtain ⟨N,hN⟩:∃ N,l.length=N:=⟨_,rfl⟩
 rw [hN] at hi hl hf ⊢
 refine fn Tryz.func283 ?_
 conv=>whnf
 refine lp1 (X:=Nat×Nat×List Al) (fun (f,i,m)=>([(0,rwV 0 N),(1,i64 (i:Nat))],[alRs (m++x)])) (fun (f,i,m)=>(m.length=N∧i<N∧N≤f+i)∧downA f m i=R) (fun (f,i,m)=>N-i) (f,i,l) ⟨⟨hN,hi,hf⟩,hR⟩ (cv [0]) ?_
 rintro ⟨f,i,m⟩ ⟨⟨hm,hi,hf⟩,hx⟩
 subst hm
 obtain ⟨f,rfl⟩:∃ g,f=g+1:=⟨f-1,by omega⟩
 rw [down_s] at hx
 have e1:IntKind.i64.wrap (IntKind.i64.wrap (2*(i:Int))+1)=((2*i+1:Nat):Int):=by
  rw [wI64 (n:=2*(i:Int)) (by omega) (by omega),wI64 (by omega) (by omega)]; omega
 have e2:IntKind.i64.wrap (((2*i+1:Nat):Int)+1)=((2*i+2:Nat):Int):=by
  rw [wI64 (by omega) (by omega)]; omega
 conv=>whnf
 rw [e1]
 refine ob_of _ me_len ?_
 refine clQ (tlen_ok m x) [0] ?_
 conv=>whnf
 rw [e2]
 refine br_of (fun h => ?ga) (fun h => ?gb) <;> rw [h] <;> conv=>whnf
 case' ga =>
  have hk2:2*i+2<m.length:=by have:=of_decide_eq_true h; omega
  rw [e2]
  refine ob_of _ me_less ?_
  refine clQ (tless_ok m x (2*i+2) (2*i+1) hk2 (by omega)) [0] ?_
  conv=>whnf
  refine br_of (fun h2 => ?gc) (fun h2 => ?gd) <;> rw [h2] <;> conv=>whnf
 case' gc =>
  rw [e2]
  have hd:downK m i=2*i+2:=by simp [downK,hk2,h2]
  have hi2:i<2*i+2:=by omega
  generalize 2*i+2=K at hd hi2
 case' gd =>
  have hd:downK m i=2*i+1:=by simp [downK,h2]
  have hi2:i<2*i+1:=by omega
  generalize 2*i+1=K at hd hi2
 case' gb =>
  have hk2:¬ 2*i+2<m.length:=by have:=of_decide_eq_false h; omega
  have hd:downK m i=2*i+1:=by simp [downK,hk2]
  have hi2:i<2*i+1:=by omega
  generalize 2*i+1=K at hd hi2
 all_goals
  rw [hd] at hx
  clear hd
  refine ob_of _ me_len ?_
  refine clQ (tlen_ok m x) [0] ?_
  conv=>whnf
  refine br_of (fun h3 => ?_) (fun h3 => ?_) <;> rw [h3] <;> conv=>whnf
  ·have h3:m.length≤K:=by have:=of_decide_eq_true h3; omega
   rw [if_pos (by simp [h3])] at hx
   subst hx
   exact cv [0]
  have h3:K<m.length:=by have:=of_decide_eq_false h3; omega
  refine ob_of _ me_less ?_
  refine clQ (tless_ok m x K i h3 hi) [0] ?_
  conv=>whnf
  refine br_of (fun h4 => ?_) (fun h4 => ?_) <;> conv=>whnf
  ·have h4:lessA m K i=false:=by simpa using h4
   rw [if_pos (by simp [h4])] at hx
   subst hx
   exact cv [0]
  have h4:lessA m K i=true:=by simpa using h4
  rw [if_neg (by simp [h4,h3])] at hx
  refine ob_of _ me_swap ?_
  refine cl (tswap_ok m x K i h3 hi) [0] ?_
  conv=>whnf
  exact ⟨(f,K,swapA m K i),⟨⟨⟨swapA_len _ _ _,h3,by show m.length≤f+K; omega⟩,hx⟩,by show m.length-K<m.length-i; omega⟩,cv [0]⟩
abbrev hpB (L:Nat) (l:List Al) (most:Int):EB := .r 254 [.s L 0 l.length false,i64 most]
abbrev inRs (l:List Int):EB := .rs 3 (l.map fun x=>[i64 x])
theorem tnew_ok (most:Int) (h1:1≤most) (h2:most≤10000):Tri Tryz.prog G 105 [i64 most] [] (.t [.p 0 0 0,i64 0]) [hpB 1 [] most,alRs []]:=by
 have d1:decide (most<1)=false:=decide_eq_false (by omega)
 have d2:decide (most>10000)=false:=decide_eq_false (by omega)
 refine fn Tryz.func105 ?_
 conv=>whnf
 rw [d1]
 conv=>whnf
 rw [d2]
 conv=>whnf
 exact cv [0,9]
theorem tfind1_ok (a:Al) (id:Int):Tri Tryz.prog G 281 [.a (alE a),.p 0 0 0] [.r 3 [i64 id]] (bv (a.2==id)) [.r 3 [i64 id]]:=by
 refine fn Tryz.func281 ?_
 conv=>whnf
 exact cv [0]
theorem tidx_ok (l:List Al) (hl:l.length≤1000000) (id:Int):Tri Tryz.prog G 280 [.s 0 0 l.length false,.f 281 [] [.p 1 0 0]] [alRs l,.r 3 [i64 id]] (i64 (idxA (fun a=>a.2==id) 0 l)) [alRs l,.r 3 [i64 id]]:=by
 refine fn Tryz.func280 ?_
 conv=>whnf
 refine lp1 (fun (i:Nat)=>([(0,.s 0 0 l.length false),(1,.f 281 [] [.p 1 0 0]),(7,i64 (l.length:Nat)),(8,i64 (i:Nat))],[alRs l,.r 3 [i64 id]])) (fun i=>i≤l.length∧idxA (fun a=>a.2==id) i (l.drop i)=idxA (fun a=>a.2==id) 0 l) (fun i=>l.length-i) 0 ⟨by omega,rfl⟩ (cv [0,1]) fun i ⟨hi,hx⟩ => ?_
 conv=>whnf
 refine br_of (fun h1 => ?_) (fun h1 => ?_) <;> conv=>whnf
 ·have h1:i<l.length:=by have:=of_decide_eq_true h1; omega
  rw [List.drop_eq_getElem_cons h1] at hx
  refine ⟨by omega,?_⟩
  conv=>whnf
  refine ob_of (alE l[i]) (by simp [h1]) ?_
  conv=>whnf
  refine clQ (tfind1_ok l[i] id) [1] ?_
  conv=>whnf
  have hx:(if (fun a:Al=>a.2==id) l[i] then (i:Int) else idxA (fun a=>a.2==id) (i+1) (l.drop (i+1)))=idxA (fun a=>a.2==id) 0 l:=hx
  refine br_of (fun h2 => ?_) (fun h2 => ?_) <;> conv=>whnf
  ·rw [if_pos h2] at hx
   rw [← hx]
   exact cv [0,1]
  ·rw [if_neg (fun e=>Bool.noConfusion (e.symm.trans h2))] at hx
   rw [wI64 (n:=(i:Int)+1) (by omega) (by omega)]
   exact ⟨i+1,⟨⟨by omega,hx⟩,by omega⟩,cv [0,1]⟩
 ·have h1:i=l.length:=by have:=of_decide_eq_false h1; omega
  subst h1
  rw [List.drop_length] at hx
  rw [← hx]
  exact cv [0,1]
theorem tfind_ok (l:List Al) (most id:Int) (hl:l.length≤1000000):Tri Tryz.prog G 250 [.p 0 0 0,i64 id] [hpB 1 l most,alRs l] (i64 (idxA (fun a=>a.2==id) 0 l)) [hpB 1 l most,alRs l]:=by
 refine fn Tryz.func250 ?_
 conv=>whnf
 refine clQ (tidx_ok l hl id) [1,2] ?_
 conv=>whnf
 exact cv [0,1]
theorem fnd_y {l:List Al} {id:Int} (h:findA l id<l.length):idxA (fun a:Al=>a.2==id) 0 l=(findA l id:Nat):=by
 rw [idxA_eq]
 unfold findA at h ⊢
 rw [if_pos h]
 simp
theorem fnd_n {l:List Al} {id:Int} (h:¬ findA l id<l.length):idxA (fun a:Al=>a.2==id) 0 l = -1:=by
 rw [idxA_eq]
 unfold findA at h
 rw [if_neg h]
theorem tset_ok (l:List Al) (most id:Int) (a:Nat) (hl:l.length≤10000):Tri Tryz.prog G 240 [.p 0 0 0,i64 id,u64 a] [hpB 1 l most,alRs l] (i64 (setA l most id a).2) [hpB 2 (setA l most id a).1 most,.g,alRs (setA l most id a).1]:=by
 refine fn Tryz.func240 ?_
 conv=>whnf
 refine clQ (tfind_ok l most id (by omega)) [0,1] ?_
 conv=>whnf
 unfold setA
 by_cases h:findA l id<l.length
 ·rw [if_pos h,fnd_y h]
  rw [show decide ((findA l id:Int)≥0)=true from decide_eq_true (by omega)]
  conv=>whnf
  exact cv [0,1,1]
 rw [if_neg h,fnd_n h]
 conv=>whnf
 refine ⟨rfl,?_⟩
 conv=>whnf
 refine br_of (fun h2 => ?_) (fun h2 => ?_) <;> conv=>whnf
 ·rw [if_pos (by have:=of_decide_eq_true h2; omega)]
  exact cv [0,1,1]
 rw [if_neg (by have:=of_decide_eq_false h2; omega)]
 refine ⟨⟨rfl,rfl⟩,?_⟩
 conv=>whnf
 refine ⟨by simp,?_⟩
 conv=>whnf
 obtain ⟨m,hm,hml⟩:∃ m,l++[(a,id)]=m∧l.length+1=m.length:=⟨_,rfl,by simp⟩
 rw [hml,hm]
 refine ⟨⟨by omega,by simp⟩,?_⟩
 conv=>whnf
 rw [show alR l++[[u64 a,i64 id]]=alR (m++[]) from by rw [← hm]; simp,show IntKind.i64.wrap ((m.length:Int)-1)=((l.length:Nat):Int) from by rw [wI64 (by omega) (by omega)]; omega]
 refine cl (up_ok m [] l.length (by omega) (by omega) m.length (by omega)) [3] ?_
 conv=>whnf
 refine ⟨rfl,?_⟩
 conv=>whnf
 exact cv [0,1,3] (h5:=⟨⟨_,rfl,⟨.inl (by simp [ren,upA_len]),.inl rfl,trivial⟩⟩,.inl (by simp),trivial⟩)
theorem tremove_ok (l:List Al) (most:Int) (i:Nat) (hi:i<l.length) (hl:l.length≤10000):Tri Tryz.prog G 251 [.p 0 0 0,i64 (i:Nat)] [hpB 1 l most,alRs l] (.t []) [hpB 1 (removeA l i) most,alRs (removeA l i)]:=by
 obtain ⟨K,hK⟩:∃ K,l.length=K+1:=⟨l.length-1,by omega⟩
 obtain ⟨R,hR⟩:∃ R,removeA l i=R:=⟨_,rfl⟩
 rw [hR]
 have eK:IntKind.i64.wrap ((l.length:Int)-1)=((K:Nat):Int):=by rw [wI64 (by omega) (by omega)]; omega
 refine fn Tryz.func251 ?_
 conv=>whnf
 rw [eK]
 have hs:=tswap_ok (G:=G) l [] i K hi (by omega)
 rw [List.append_nil,List.append_nil] at hs
 refine cl hs [1] ?_
 conv=>whnf
 obtain ⟨m,hm⟩:∃ m,(swapA l i K).take K=m:=⟨_,rfl⟩
 obtain ⟨x,hx⟩:∃ x,(swapA l i K).drop K=x:=⟨_,rfl⟩
 have hmx:swapA l i K=m++x:=by rw [← hm,← hx]; exact (List.take_append_drop _ _).symm
 have hml:m.length=K:=by rw [← hm,List.length_take,swapA_len]; omega
 rw [hmx]
 refine ⟨by omega,?_⟩
 conv=>whnf
 rw [show ((K:Int)-0).toNat=m.length from by omega]
 have hR:(if i<K then upA (i+1) (downA l.length m i) i else m)=R:=by
  rw [← hR,← hm]
  unfold removeA
  simp only [hK,Nat.add_sub_cancel]
 refine br_of (fun h => ?_) (fun h => ?_) <;> conv=>whnf
 ·have h:i<K:=by have:=of_decide_eq_true h; omega
  rw [if_pos h] at hR
  refine cl (down_ok m x i (by omega) (by omega) l.length (by omega)) [1] ?_
  conv=>whnf
  have hu:=up_ok (G:=G) (downA l.length m i) x i (by rw [downA_len]; omega) (by rw [downA_len]; omega) (i+1) (by omega)
  rw [hR,downA_len] at hu
  refine cl hu [1] ?_
  conv=>whnf
  have hRl:R.length=m.length:=by rw [← hR,upA_len,downA_len]
  rw [← hRl]
  refine cvS (Shr.cut 1 343 (alR R) (alR x) (by rw [← List.map_append]; rfl) (.refl _)) ?_
  exact cv [0,1]
 ·have h:¬ i<K:=by have:=of_decide_eq_false h; omega
  rw [if_neg h] at hR
  subst hR
  refine cvS (Shr.cut 1 343 (alR m) (alR x) (by rw [← List.map_append]; rfl) (.refl _)) ?_
  exact cv [0,1]
theorem tdrop_ok (l:List Al) (most id:Int) (hl:l.length≤10000):Tri Tryz.prog G 201 [.p 0 0 0,i64 id] [hpB 1 l most,alRs l] (i64 (dropA l id).2) [hpB 1 (dropA l id).1 most,alRs (dropA l id).1]:=by
 refine fn Tryz.func201 ?_
 conv=>whnf
 refine clQ (tfind_ok l most id (by omega)) [0,1] ?_
 conv=>whnf
 unfold dropA
 by_cases h:findA l id<l.length
 ·rw [if_pos h,fnd_y h]
  rw [show decide ((findA l id:Int)<0)=false from decide_eq_false (by omega)]
  conv=>whnf
  refine cl (tremove_ok l most (findA l id) h hl) [0,1] ?_
  conv=>whnf
  exact cv [0,1]
 ·rw [if_neg h,fnd_n h]
  conv=>whnf
  exact cv [0,1]
theorem pop_n (f now:Nat):popA f [] now=([],[]):=by cases f <;> rfl
theorem pop_s (f:Nat) (a:Al) (l:List Al) (now:Nat):popA (f+1) (a::l) now=if a.1≤now then (a.2::(popA f (removeA (a::l) 0) now).1,(popA f (removeA (a::l) 0) now).2) else ([],a::l):=rfl
theorem tpop_ok (l:List Al) (most:Int) (now:Nat) (hl:l.length≤10000):Tri Tryz.prog G 239 [.p 0 0 0,u64 now] [hpB 1 l most,alRs l] (.s 2 0 (popA l.length l now).1.length false) [hpB 1 (popA l.length l now).2 most,alRs (popA l.length l now).2,inRs (popA l.length l now).1]:=by
 obtain ⟨Q,hQ⟩:∃ Q,popA l.length l now=Q:=⟨_,rfl⟩
 rw [hQ]
 refine fn Tryz.func239 ?_
 conv=>whnf
 refine lp1 (X:=Nat×List Al×List Int) (fun (f,m,o)=>([(0,.p 0 0 0),(1,u64 now),(5,.s 2 0 o.length false)],[hpB 1 m most,alRs m,inRs o])) (fun (f,m,o)=>(m.length≤f∧f+o.length≤10000)∧o++(popA f m now).1=Q.1∧(popA f m now).2=Q.2) (fun (f,m,o)=>m.length) (l.length,l,[]) ⟨⟨Nat.le_refl _,by simpa using hl⟩,by rw [hQ]; rfl,by rw [hQ]⟩ (cv [0,1,9]) ?_
 rintro ⟨f,m,o⟩ ⟨⟨hf,ho⟩,hx1,hx2⟩
 cases m with
 | nil =>
  rw [pop_n] at hx1 hx2
  have hx1:o++[]=Q.1:=hx1
  have hx2:[]=Q.2:=hx2
  rw [List.append_nil] at hx1
  conv=>whnf
  rw [← hx1,← hx2]
  exact cv [0,1,2]
 | cons a m =>
  obtain ⟨f,rfl⟩:∃ g,f=g+1:=⟨f-1,by simp only [List.length_cons] at hf; omega⟩
  rw [pop_s] at hx1 hx2
  conv=>whnf
  rw [show decide ((((a::m).length:Nat):Int)>0)=true from decide_eq_true (by simp only [List.length_cons]; omega)]
  conv=>whnf
  refine ⟨by simp only [List.length_cons]; omega,?_⟩
  conv=>whnf
  refine br_of (fun h => ?_) (fun h => ?_) <;> conv=>whnf
  ·have h:a.1≤now:=by have:=of_decide_eq_true h; omega
   rw [if_pos h] at hx1 hx2
   refine ⟨by simp only [List.length_cons]; omega,?_⟩
   conv=>whnf
   refine ⟨⟨rfl,rfl⟩,?_⟩
   conv=>whnf
   refine ⟨by simp,?_⟩
   conv=>whnf
   refine ⟨⟨by omega,by simp⟩,?_⟩
   conv=>whnf
   refine cl (tremove_ok (a::m) most 0 (by simp) (by omega)) [0,1] ?_
   conv=>whnf
   have hrl:=removeA_len (a::m) 0
   simp only [List.length_cons] at hf hrl
   exact ⟨(f,removeA (a::m) 0,o++[a.2]),⟨⟨⟨by omega,by simp; omega⟩,by rw [← hx1]; simp,hx2⟩,by simp only [List.length_cons]; omega⟩,cv [0,1,4] (h4:=⟨.inl rfl,.inl rfl,.inl (by simp [lk,ren]),trivial⟩) (h5:=⟨⟨_,rfl,⟨.inl rfl,.inl rfl,trivial⟩⟩,.inl rfl,.inl (by simp),trivial⟩)⟩
  ·have h:¬ a.1≤now:=by have:=of_decide_eq_false h; omega
   rw [if_neg h] at hx1 hx2
   have hx1:o++[]=Q.1:=hx1
   rw [List.append_nil] at hx1
   rw [← hx1,← hx2]
   exact cv [0,1,2]
theorem addL_lt {a b:Nat}:addL a b<18446744073709551616:=by
 unfold addL
 split <;> omega
theorem add_ok (a b:Nat) (ha:a<18446744073709551616) (hb:b<18446744073709551616):Tri Tryz.prog G 80 [u64 a,u64 b] [] (u64 (addL a b:Nat)) []:=by
 have h:=sadd_ok (G:=G) (a:Int) (b:Int) (by omega) (by omega) (by omega) (by omega)
 have e:addS (a:Int) (b:Int)=((addL a b:Nat):Int):=by
  unfold addS addL
  split <;> split <;> omega
 rw [e] at h
 exact h
theorem rem_some {P:Program} {t:TypeId} {k:IntKind} {a b:Int} (hb:b≠0):binE P .rem t (.v (.int k a)) (.v (.int k b))=some (.v (.int k (a.tmod b))):=by simp [binE,intE,hb]
theorem spread_ok (span draw:Nat) (hs:span<18446744073709551616) (hd:draw<18446744073709551616):Tri Tryz.prog G 270 [u64 span,u64 draw] [] (u64 (spreadL span draw:Nat)) []:=by
 refine fn Tryz.func270 ?_
 conv=>whnf
 unfold spreadL
 refine br_of (fun h => ?_) (fun h => ?_) <;> conv=>whnf
 ·rw [if_pos (by have:=eq_of_beq h; omega)]
  exact cv []
 ·have h:span≠18446744073709551615:=by have:=beq_eq_false_iff_ne.1 h; omega
  rw [if_neg h]
  rw [wU64 (n:=(span:Int)+1) (by omega) (by omega)]
  rw [rem_some (by omega),Int.tmod_eq_emod_of_nonneg (by omega),show ((draw:Int)%((span:Int)+1))=((draw%(span+1):Nat):Int) from by simp]
  conv=>whnf
  exact cv []
theorem backF_z (n most:Nat):backF 0 n most=n:=rfl
theorem backF_s (k n most:Nat):backF (k+1) n most=if most≤n∨n=0 then n else backF k (addL n n) most:=rfl
theorem back_ok (base:Nat) (k:Int) (most:Nat) (hb:base<18446744073709551616) (hm:most<18446744073709551616) (hk:k≤1000000):Tri Tryz.prog G 269 [u64 base,i64 k,u64 most] [] (u64 (backL base k most:Nat)) []:=by
 obtain ⟨R,hR⟩:∃ R,backF k.toNat base most=R:=⟨_,rfl⟩
 unfold backL
 rw [hR]
 refine Tri.ofG (by kernel_rfl) Tryz.func269 (by kernel_rfl) rfl (by kernel_rfl) rfl (X:=Unit) (fun _=>([(0,u64 base),(1,i64 k),(2,u64 most),(7,u64 base)],[])) (fun _=>True) (fun _=>0) ?_ ?_
 ·conv=>whnf
  exact ⟨(),trivial,cv []⟩
 ·intro _ _
  conv=>whnf
  rw [show (if k>0 then k else 0)=((k.toNat:Nat):Int) from by split <;> omega]
  generalize hK:k.toNat=K at hR
  refine lp2 (fun (i:Nat) (n:Nat)=>([(2,u64 most),(7,u64 n),(10,i64 (K:Nat)),(11,i64 (i:Nat))],[])) (fun i n=>(i≤K∧n<18446744073709551616)∧backF (K-i) n most=R) (fun i _=>K-i) 0 base ⟨⟨by omega,hb⟩,hR⟩ (cv []) fun i n ⟨⟨hi,hn⟩,hx⟩ => ?_
  conv=>whnf
  refine br_of (fun h1 => ?_) (fun h1 => ?_) <;> conv=>whnf
  ·have h1:i<K:=by have:=of_decide_eq_true h1; omega
   rw [show K-i=(K-(i+1))+1 by omega,backF_s] at hx
   refine br_of (fun h2 => ?_) (fun h2 => ?_) <;> rw [h2] <;> conv=>whnf
   ·rw [if_pos (.inl (by have:=of_decide_eq_true h2; omega))] at hx
    subst hx
    rw [show (if ((most:Nat):Int)<((n:Nat):Int) then ((most:Nat):Int) else ((n:Nat):Int))=((min n most:Nat):Int) from by split <;> omega]
    exact cv []
   ·refine br_of (fun h3 => ?_) (fun h3 => ?_) <;> conv=>whnf
    ·rw [if_pos (.inr (by have:=eq_of_beq h3; omega))] at hx
     subst hx
     rw [show (if ((most:Nat):Int)<((n:Nat):Int) then ((most:Nat):Int) else ((n:Nat):Int))=((min n most:Nat):Int) from by split <;> omega]
     exact cv []
    ·rw [if_neg (by have:=of_decide_eq_false h2; have:=beq_eq_false_iff_ne.1 h3; omega)] at hx
     refine cl (add_ok n n hn hn) [] ?_
     conv=>whnf
     rw [wI64 (n:=(i:Int)+1) (by omega) (by omega)]
     exact ⟨(i+1,addL n n),⟨⟨⟨by omega,addL_lt⟩,hx⟩,Nat.sub_lt_sub_left h1 (Nat.lt_succ_self i)⟩,cv []⟩
  ·have h1:i=K:=by have:=of_decide_eq_false h1; omega
   subst h1
   rw [Nat.sub_self,backF_z] at hx
   subst hx
   rw [show (if ((most:Nat):Int)<((n:Nat):Int) then ((most:Nat):Int) else ((n:Nat):Int))=((min n most:Nat):Int) from by split <;> omega]
   exact cv []
abbrev rcE (c:Rc):List E.EV:=[u64 c.base,u64 c.most,u64 c.span,i64 c.tries,i64 c.room]
theorem rright_ok (c:Rc):Tri Tryz.prog G 104 [.a (rcE c)] [] (bv c.right) []:=by
 rw [show c.right=(decide ((c.base:Int)≥1)&&decide ((c.base:Int)≤c.most)&&decide ((c.most:Int)≤1099511627776)&&decide ((c.span:Int)≤1099511627776)&&decide (c.tries≥1)&&decide (c.tries≤1000)&&decide (c.room≥1)&&decide (c.room≤10000)) from by
  unfold Rc.right
  rw [Bool.eq_iff_iff]
  simp only [Bool.and_eq_true,decide_eq_true_eq]
  omega]
 refine fn Tryz.func104 ?_
 conv=>whnf
 iterate 7
  refine br_of (fun h => ?_) (fun h => ?_) <;> rw [h] <;> conv=>whnf
  rotate_left
  ·exact cv []
 exact cv []
theorem wait_ok (c:Rc) (k:Int) (draw:Nat) (h1:c.base<18446744073709551616) (h2:c.most<18446744073709551616) (h3:c.span<18446744073709551616) (hk:k≤1000000) (hd:draw<18446744073709551616):Tri Tryz.prog G 241 [.a (rcE c),i64 k,u64 draw] [] (u64 (c.wait k draw:Nat)) []:=by
 have l1:backL c.base k c.most<18446744073709551616:=by unfold backL; omega
 have l2:spreadL c.span draw<18446744073709551616:=by
  unfold spreadL
  split
  ·exact hd
  ·have:=Nat.mod_lt draw (Nat.succ_pos c.span); simp only [Nat.succ_eq_add_one] at this; omega
 refine fn Tryz.func241 ?_
 conv=>whnf
 refine clQ (back_ok c.base k c.most h1 h2 hk) [] ?_
 conv=>whnf
 refine clQ (spread_ok c.span draw h3 hd) [] ?_
 conv=>whnf
 refine clQ (add_ok (backL c.base k c.most) (spreadL c.span draw) l1 l2) [] ?_
 conv=>whnf
 refine ⟨rfl,?_⟩
 conv=>whnf
 exact cv []
def mpE {α:Type} (f:α→E.EV) (l:List (Int×Nat×α)):List (Int×Nat×E.EV):=l.map fun p=>(p.1,p.2.1,f p.2.2)
theorem mGet_of {α:Type} {f:α→E.EV} {k:Int} {K:E.EV→Prop} {N:Prop}:∀ {l:List (Int×Nat×α)},(match mpGet k l with | some x=>K (f x) | none=>N)→mGetK k (mpE f l) K N:=by
 intro l
 induction l with
 | nil=>exact id
 | cons x l ih =>
  obtain ⟨i,b,x⟩:=x
  intro h
  unfold mpGet at h
  show br (decide (k=i)) (K (f x)) (mGetK k (mpE f l) K N)
  by_cases e:k=i
  ·rw [if_pos e] at h; rw [decide_eq_true e]; exact h
  ·rw [if_neg e] at h; rw [decide_eq_false e]; exact ih h
theorem mSet_of {α:Type} {f:α→E.EV} {k:Int} {y:α} {N:Prop}:∀ {l:List (Int×Nat×α)} {K:List (Int×Nat×E.EV)→Prop},(if (mpGet k l).isSome then K (mpE f (mpSet k y l)) else N)→mSetK k (f y) (mpE f l) K N:=by
 intro l
 induction l with
 | nil=>intro K h; exact h
 | cons x l ih =>
  obtain ⟨i,b,x⟩:=x
  intro K h
  unfold mpGet mpSet at h
  show br (decide (k=i)) (K ((i,b,f y)::mpE f l)) (mSetK k (f y) (mpE f l) (fun l=>K ((i,b,f x)::l)) N)
  by_cases e:k=i
  ·rw [if_pos e,if_pos e] at h; rw [decide_eq_true e]; exact h
  ·rw [if_neg e,if_neg e] at h; rw [decide_eq_false e]; exact ih h
theorem mDel_of {α:Type} {f:α→E.EV} {k:Int}:∀ {l:List (Int×Nat×α)} {K:List (Int×Nat×E.EV)→Prop},K (mpE f (mpDel k l))→mDelK k (mpE f l) K:=by
 intro l
 induction l with
 | nil=>intro K h; exact h
 | cons x l ih =>
  obtain ⟨i,b,x⟩:=x
  intro K h
  unfold mpDel at h
  show br (decide (k=i)) (K (mpE f l)) (mDelK k (mpE f l) fun l=>K ((i,b,f x)::l))
  by_cases e:k=i
  ·rw [if_pos e] at h; rw [decide_eq_true e]; exact h
  ·rw [if_neg e] at h; rw [decide_eq_false e]; exact ih h
theorem mUpd_of {α:Type} {f:α→E.EV} {m:Mp α} {k:Int} {y:α} {H:List EB} {L:Nat} {K:KE} (h:setK H L (.o (.mq (m.set k y).1 (mpE f (m.set k y).2))) fun H'=>K (.t []) H' [L] [L]):mSetK k (f y) (mpE f m.2) (mqWr H L m.1 K) (appK (mpE f m.2) [(k,m.1,f y)] (mqWr H L (m.1+1) K)):=by
 refine mSet_of ?_
 unfold Mp.set at h
 split
 ·rename_i hs
  rw [if_pos hs] at h
  exact h
 ·rename_i hs
  rw [if_neg hs] at h
  rw [appK_eq]
  have e:mpE f (m.2++[(k,m.1,y)])=mpE f m.2++[(k,m.1,f y)]:=by simp [mpE]
  simp only [e] at h
  exact h
abbrev tmB (m:Mp Int):EB := .o (.mq m.1 (mpE (fun x=>i64 x) m.2))
abbrev tbB (LM LH:Nat) (t:Tb):EB := .r 184 [u64 t.c.base,u64 t.c.most,u64 t.c.span,i64 t.c.tries,i64 t.c.room,.m LM,.p LH 0 0]
theorem rnew_ok (c:Rc) (h:c.right=true):Tri Tryz.prog G 61 [.a (rcE c)] [] (.t [.p 0 0 0,i64 0]) [tbB 1 2 { c:=c },tmB (0,[]),hpB 3 [] c.room,alRs []]:=by
 have hr:=Rc.right_inv h
 refine fn Tryz.func61 ?_
 conv=>whnf
 refine clQ (rright_ok c) [] ?_
 rw [h]
 conv=>whnf
 refine cl (tnew_ok c.room (by omega) (by omega)) [] ?_
 conv=>whnf
 exact cvS (.toq 3 0 rfl (.refl _)) (cv [4,3,1,2])
theorem wait_lt (c:Rc) (k:Int) (d:Nat):c.wait k d<18446744073709551616:=addL_lt
theorem rask_ok (t:Tb) (ht:t.ok) (id:Int) (now draw:Nat) (hn:now<18446744073709551616) (hd:draw<18446744073709551616):Tri Tryz.prog G 187 [.p 0 0 0,i64 id,u64 now,u64 draw] [tbB 1 2 t,tmB t.tried,hpB 3 t.due t.c.room,alRs t.due] (i64 (t.ask id now draw).2) [tbB 1 2 (t.ask id now draw).1,tmB (t.ask id now draw).1.tried,hpB 4 (t.ask id now draw).1.due (t.ask id now draw).1.c.room,.g,alRs (t.ask id now draw).1.due]:=by
 have hr:=Rc.right_inv ht.c
 have hl:=ht.l
 refine fn Tryz.func187 ?_
 conv=>whnf
 refine clQ (wait_ok t.c 0 draw (by omega) (by omega) (by omega) (by decide) hd) [] ?_
 conv=>whnf
 refine clQ (add_ok now (t.c.wait 0 draw) hn (wait_lt _ _ _)) [] ?_
 conv=>whnf
 refine cl (tset_ok t.due t.c.room id (addL now (t.c.wait 0 draw)) (by omega)) [2,3] ?_
 conv=>whnf
 refine ⟨rfl,?_⟩
 conv=>whnf
 unfold Tb.ask
 simp only
 generalize setA t.due t.c.room id (addL now (t.c.wait 0 draw))=x
 refine br_of (fun h => ?_) (fun h => ?_) <;> conv=>whnf
 ·rw [if_pos (eq_of_beq h)]
  refine mUpd_of (f:=fun x=>i64 x) (m:=t.tried) (y:=(1:Int)) ?_
  conv=>whnf
  exact cv [0,1,2,3,4]
 ·rw [if_neg (by simpa using h)]
  exact cv [0,1,2,3,4]
theorem rdone_ok (t:Tb) (ht:t.ok) (id:Int):Tri Tryz.prog G 131 [.p 0 0 0,i64 id] [tbB 1 2 t,tmB t.tried,hpB 3 t.due t.c.room,alRs t.due] (i64 (dropA t.due id).2) [tbB 1 2 (t.done id),tmB (t.done id).tried,hpB 3 (t.done id).due (t.done id).c.room,alRs (t.done id).due]:=by
 have hr:=Rc.right_inv ht.c
 have hl:=ht.l
 refine fn Tryz.func131 ?_
 conv=>whnf
 refine cl (tdrop_ok t.due t.c.room id (by omega)) [2,3] ?_
 conv=>whnf
 refine mDel_of ?_
 conv=>whnf
 exact cv [0,1,2,3]
theorem mGetD_of {α:Type} {f:α→E.EV} {k:Int} {K:E.EV→Prop} {N:Prop} {l:List (Int×Nat×α)} (d:α) (h:K (f ((mpGet k l).getD d))) (hN:K (f d)→N):mGetK k (mpE f l) K N:=by
 refine mGet_of ?_
 cases hg:mpGet k l with
 | none=>rw [hg] at h; exact hN h
 | some x=>rw [hg] at h; exact h
theorem due_n (now draw:Nat) (t:Tb) (a b:List Int):Tb.dueF now draw [] t a b=(t,a,b):=rfl
theorem due_a {now draw:Nat} {id:Int} {l:List Int} {t:Tb} {a b:List Int} (h:t.c.tries≤(mpGet id t.tried.2).getD 0):Tb.dueF now draw (id::l) t a b=Tb.dueF now draw l { t with tried:=t.tried.del id } a (b++[id]):=if_pos h
theorem due_b {now draw:Nat} {id:Int} {l:List Int} {t:Tb} {a b:List Int} (h:¬ t.c.tries≤(mpGet id t.tried.2).getD 0):Tb.dueF now draw (id::l) t a b=Tb.dueF now draw l { t with tried:=t.tried.set id ((mpGet id t.tried.2).getD 0+1),due:=(setA t.due t.c.room id (addL now (t.c.wait ((mpGet id t.tried.2).getD 0) draw))).1 } (a++[id]) b:=if_neg h
theorem rdue_ok (t:Tb) (ht:t.ok) (now draw:Nat) (hn:now<18446744073709551616) (hd:draw<18446744073709551616):Tri Tryz.prog G 185 [.p 0 0 0,u64 now,u64 draw] [tbB 1 2 t,tmB t.tried,hpB 3 t.due t.c.room,alRs t.due] (.t [.s 5 0 (t.dueL now draw).2.1.length false,.s 6 0 (t.dueL now draw).2.2.length false])
  [tbB 1 2 (t.dueL now draw).1,tmB (t.dueL now draw).1.tried,hpB 4 (t.dueL now draw).1.due (t.dueL now draw).1.c.room,.g,alRs (t.dueL now draw).1.due,inRs (t.dueL now draw).2.1,inRs (t.dueL now draw).2.2]:=by
 have hr:=Rc.right_inv ht.c
 have hl:=ht.l
 have hpl:=popA_len t.due.length t.due now
 obtain ⟨R,hR⟩:∃ R,t.dueL now draw=R:=⟨_,rfl⟩
 rw [hR]
 have hR:Tb.dueF now draw (popA t.due.length t.due now).1 { t with due:=(popA t.due.length t.due now).2 } [] []=R:=hR
 refine fn Tryz.func185 ?_
 conv=>whnf
 refine cl (tpop_ok t.due t.c.room now (by omega)) [2,3] ?_
 generalize popA t.due.length t.due now=Q at hpl hR
 obtain ⟨ps,d0⟩:=Q
 simp only at hpl hR
 conv=>whnf
 refine lp1 (X:=Nat×Tb×List Int×List Int) (fun (i,s,a,b)=>([(0,.p 0 0 0),(1,u64 now),(2,u64 draw),(6,.s 6 0 a.length false),(7,.s 7 0 b.length false),(16,.s 4 0 ps.length false),(17,i64 (ps.length:Nat)),(18,i64 (i:Nat))],[tbB 1 2 s,tmB s.tried,hpB 5 s.due s.c.room,.g,inRs ps,alRs s.due,inRs a,inRs b])) (fun (i,s,a,b)=>(i≤ps.length∧s.ok∧a.length+b.length=i)∧Tb.dueF now draw (ps.drop i) s a b=R) (fun (i,s,a,b)=>ps.length-i) (0,{ t with due:=d0 },[],[]) ⟨⟨by omega,⟨ht.c,by simp only; omega,ht.k⟩,rfl⟩,hR⟩ (cv [0,1,2,3,4,3,9,19]) ?_
 rintro ⟨i,s,a,b⟩ ⟨⟨hi,hs,hab⟩,hx⟩
 have hsr:=Rc.right_inv hs.c
 have hsl:=hs.l
 conv=>whnf
 refine br_of (fun h1 => ?_) (fun h1 => ?_) <;> conv=>whnf
 ·have h1:i<ps.length:=by have:=of_decide_eq_true h1; omega
  rw [List.drop_eq_getElem_cons h1] at hx
  refine ⟨by omega,?_⟩
  conv=>whnf
  refine ob_of [i64 ps[i]] (by simp [h1]) ?_
  conv=>whnf
  generalize ps[i]=id at hx
  have hk:=hs.get id
  refine mGetD_of (0:Int) ?_ ?_
  rotate_left
  ·intro h
   conv at h=>whnf
   conv=>whnf
   exact h
  generalize hg:(mpGet id s.tried.2).getD 0=k at hk
  conv=>whnf
  refine br_of (fun h2 => ?_) (fun h2 => ?_) <;> conv=>whnf
  ·rw [due_a (by rw [hg]; exact of_decide_eq_true h2)] at hx
   refine mDel_of ?_
   conv=>whnf
   refine ⟨⟨rfl,rfl⟩,?_⟩
   conv=>whnf
   refine ⟨by simp,?_⟩
   conv=>whnf
   refine ⟨⟨by omega,by simp⟩,?_⟩
   conv=>whnf
   rw [wI64 (n:=(i:Int)+1) (by omega) (by omega)]
   exact ⟨(i+1,{ s with tried:=s.tried.del id },a,b++[id]),⟨⟨⟨h1,⟨hs.c,hs.l,fun x hx=>hs.k x (mpDel_mem hx)⟩,by simp; omega⟩,hx⟩,by show ps.length-(i+1)<ps.length-i; omega⟩,cv [0,1,2,3,4,5,6,9] (h4:=⟨.inl rfl,.inl rfl,.inl rfl,.inl rfl,.inl (by simp [lk,ren]),.inl rfl,.inl rfl,.inl rfl,trivial⟩) (h5:=⟨⟨_,rfl,⟨.inl rfl,.inl rfl,.inl rfl,.inl rfl,.inl rfl,.inl rfl,.inl rfl,trivial⟩⟩,rfl,⟨_,rfl,⟨.inl rfl,.inl rfl,trivial⟩⟩,.inl rfl,.inl rfl,.inl rfl,.inl (by simp),trivial⟩)⟩
  ·rw [due_b (by rw [hg]; exact of_decide_eq_false h2),hg] at hx
   rw [wI64 (n:=k+1) (by omega) (by omega)]
   refine mUpd_of (f:=fun x=>i64 x) (m:=s.tried) (y:=k+1) ?_
   conv=>whnf
   refine clQ (wait_ok s.c k draw (by omega) (by omega) (by omega) (by omega) hd) [] ?_
   conv=>whnf
   refine clQ (add_ok now (s.c.wait k draw) hn (wait_lt _ _ _)) [] ?_
   conv=>whnf
   refine cl (tset_ok s.due s.c.room id (addL now (s.c.wait k draw)) (by omega)) [2,5] ?_
   conv=>whnf
   refine ⟨rfl,?_⟩
   conv=>whnf
   have hs2:(⟨s.c,s.tried.set id (k+1),(setA s.due s.c.room id (addL now (s.c.wait k draw))).1⟩:Tb).ok:=⟨hs.c,setA_len hs.l _ _,fun x hx=>by
    rcases set_mem hx with hx | hx
    ·exact hs.k x hx
    ·have:=of_decide_eq_false h2
     omega⟩
   generalize setA s.due s.c.room id (addL now (s.c.wait k draw))=y at hx hs2
   refine ⟨⟨rfl,rfl⟩,?_⟩
   conv=>whnf
   refine ⟨by simp,?_⟩
   conv=>whnf
   refine ⟨⟨by omega,by simp⟩,?_⟩
   conv=>whnf
   rw [wI64 (n:=(i:Int)+1) (by omega) (by omega)]
   exact ⟨(i+1,⟨s.c,s.tried.set id (k+1),y.1⟩,a++[id],b),⟨⟨⟨h1,hs2,by simp; omega⟩,hx⟩,by show ps.length-(i+1)<ps.length-i; omega⟩,cv [0,1,2,3,4,8,10,7] (h4:=⟨.inl rfl,.inl rfl,.inl rfl,.inl (by simp [lk,ren]),.inl rfl,.inl rfl,.inl rfl,.inl rfl,trivial⟩) (h5:=⟨⟨_,rfl,⟨.inl rfl,.inl rfl,.inl rfl,.inl rfl,.inl rfl,.inl rfl,.inl rfl,trivial⟩⟩,rfl,⟨_,rfl,⟨.inl rfl,.inl rfl,trivial⟩⟩,.inl rfl,.inl rfl,.inl (by simp),.inl rfl,trivial⟩)⟩
 ·have h1:i=ps.length:=by have:=of_decide_eq_false h1; omega
  subst h1
  rw [List.drop_length,due_n] at hx
  subst hx
  exact cv [0,1,2,3,5,6,7]
theorem link_ok (hS:GSha G) (s:Fs) (m n:Nat) (path:List Bs) (hl:s.pend.length≤10000) (hp:path.length≤10000):Tri Tryz.prog G 114 [.a (fsE 0 s),u64 m,u64 n,.s 1 0 path.length false] [hdRs s.pend,sRs path] (.t [.a (fsE 2 (s.link m n path).1),i64 (s.link m n path).2]) [hdRs s.pend,sRs path,hdRs (s.link m n path).1.pend]:=by
 refine fn Tryz.func114 ?_
 conv=>whnf
 rw [neL s.bad []]
 obtain ⟨k,hk⟩:∃ k,s.pend.findIdx (linkP s m n)=k:=⟨_,rfl⟩
 have tk:s.link m n path=if s.bad≠[] then (s,9) else if !s.has || !decide (k<s.pend.length) then (s,8) else
  (let x:=s.pend.getD k .nil
   let sw:=decide (x.size<s.fr.size)
   let low:=if sw then x else s.fr
   let high:=if sw then s.fr else x
   let i:=impliedL m n path
   if i.2.2≠0∨i.2.1≠high.root then (s,7) else
   if i.1=low.root then ({ s with fr:=high,pend:=s.pend.eraseIdx k },4) else
   let b:=Bd.build low high path
   if b.2≠0 then (s,7) else ({ s with bad:=b.1.enc },5)):=by rw [← hk]; rfl
 refine br_of (fun h0 => ?_) (fun h0 => ?_) <;> conv=>whnf
 ·rw [tk,if_pos (of_decide_eq_true h0)]
  refine clN (own_ok s (by omega)) [0] [hdRs s.pend] ?_
  conv=>whnf
  exact cv [0,1,6]
 rw [if_neg (of_decide_eq_false h0)] at tk
 refine clQ (idxL_ok s (by omega) m n) [0,2,3,4] ?_
 conv=>whnf
 rw [idxA_eq,hk,Nat.zero_add]
 have no:(s.has=false∨¬ k<s.pend.length)→s.link m n path=(s,8):=fun h=>by
  rw [tk,if_pos]
  rcases h with h | h
  ·rw [h]; rfl
  ·rw [decide_eq_false h]; simp
 cases hh:s.has with
 | false =>
  rw [no (.inl hh)]
  conv=>whnf
  refine clN (own_ok s (by omega)) [0] [hdRs s.pend] (hargs:=⟨.inl (by simp [ren,rens,hh]),trivial⟩) ?_
  conv=>whnf
  exact cv [0,1,6] (h4:=⟨.inl (by simp [lk,ren,rens]),trivial⟩)
 | true =>
 conv=>whnf
 by_cases hkl:k<s.pend.length
 rotate_left
 ·rw [no (.inr hkl),if_neg hkl]
  conv=>whnf
  refine clN (own_ok s (by omega)) [0] [hdRs s.pend] (hargs:=⟨.inl (by simp [ren,rens,hh]),trivial⟩) ?_
  conv=>whnf
  exact cv [0,1,6] (h4:=⟨.inl (by simp [lk,ren,rens]),trivial⟩)
 clear no
 rw [hh,decide_eq_true hkl,show s.pend.getD k .nil=s.pend[k] from by rw [List.getD_eq_getElem?_getD,List.getElem?_eq_getElem hkl]; rfl] at tk
 rw [if_pos hkl]
 conv=>whnf
 refine ⟨⟨by omega,by omega⟩,?_⟩
 conv=>whnf
 refine ob_of (hdE s.pend[k]) (by simp [hkl]) ?_
 conv=>whnf
 generalize s.pend[k]=x at tk
 refine ⟨rfl,?_⟩
 conv=>whnf
 rw [show decide ((x.size:Int)<(s.fr.size:Int))=decide (x.size<s.fr.size) from by rw [Bool.eq_iff_iff]; simp]
 rw [show (!true || !true)=false from rfl,if_neg (by decide)] at tk
 dsimp only at tk
 cases hsw:decide (x.size<s.fr.size) with
 | true =>
  rw [hsw] at tk
  simp only [if_true] at tk
  conv=>whnf
  refine clQ (implied_ok hS m n path (by omega)) [1] ?_
  conv=>whnf
  generalize impliedL m n path=I at tk
  refine br_of (fun h1 => ?_) (fun h1 => ?_) <;> rw [h1] <;> conv=>whnf
  ·rw [tk,if_pos (.inl (by simpa using h1))]
   refine clN (own_ok s (by omega)) [0] [hdRs s.pend] (hargs:=⟨.inl (by simp [ren,rens,hh]),trivial⟩) ?_
   conv=>whnf
   exact cv [0,1,8] (h4:=⟨.inl (by simp [lk,ren,rens]),trivial⟩)
  have h1:I.2.2=0:=by simpa using h1
  rw [neL I.2.1 s.fr.root]
  refine br_of (fun h2 => ?_) (fun h2 => ?_) <;> conv=>whnf
  ·rw [tk,if_pos (.inr (of_decide_eq_true h2))]
   refine clN (own_ok s (by omega)) [0] [hdRs s.pend] (hargs:=⟨.inl (by simp [ren,rens,hh]),trivial⟩) ?_
   conv=>whnf
   exact cv [0,1,8] (h4:=⟨.inl (by simp [lk,ren,rens]),trivial⟩)
  have h2:I.2.1=s.fr.root:=by simpa using h2
  rw [if_neg (by rw [h1,h2]; simp)] at tk
  rw [eqL I.1 x.root]
  refine br_of (fun h3 => ?_) (fun h3 => ?_) <;> conv=>whnf
  ·rw [tk,if_pos (eq_of_beq h3)]
   refine clN (own_ok s (by omega)) [0] [hdRs s.pend] (hargs:=⟨.inl (by simp [ren,rens,hh]),trivial⟩) ?_
   conv=>whnf
   rw [wI64 (n:=(k:Int)+1) (by omega) (by omega)]
   refine cl (delete_ok s.pend k hkl (by omega)) [8] ?_
   conv=>whnf
   refine ⟨rfl,?_⟩
   conv=>whnf
   have hle:(s.pend.eraseIdx k).length=s.pend.length-1:=List.length_eraseIdx_of_lt hkl
   exact cv [0,1,8] (h4:=⟨.inl (by simp [lk,ren,rens,hh,hle]),trivial⟩)
  rw [if_neg (by simpa using h3)] at tk
  refine clN (bbuild_ok hS x s.fr path (by omega)) [1] [sRs (Bd.build x s.fr path).1.path] ?_
  have hbl:=bbuild_len x s.fr path
  conv=>whnf
  generalize Bd.build x s.fr path=b at tk hbl
  refine br_of (fun h4 => ?_) (fun h4 => ?_) <;> conv=>whnf
  ·rw [tk,if_pos (by simpa using h4)]
   refine clN (own_ok s (by omega)) [0] [hdRs s.pend] (hargs:=⟨.inl (by simp [ren,rens,hh]),trivial⟩) ?_
   conv=>whnf
   exact cv [0,1,10] (h4:=⟨.inl (by simp [lk,ren,rens]),trivial⟩)
  ·rw [tk,if_neg (by simpa using h4)]
   refine clQ (benc_ok b.1 (by omega)) [8] ?_
   conv=>whnf
   refine clN (forked_ok s b.1.enc (by omega)) [0] [hdRs s.pend] (hargs:=⟨.inl (by simp [ren,rens,hh]),.inl rfl,trivial⟩) ?_
   conv=>whnf
   refine ⟨rfl,?_⟩
   conv=>whnf
   exact cv [0,1,10] (h4:=⟨.inl (by simp [lk,ren,rens,hh]),trivial⟩)
 | false =>
  rw [hsw] at tk
  simp only [Bool.false_eq_true,if_false] at tk
  conv=>whnf
  refine clQ (implied_ok hS m n path (by omega)) [1] ?_
  conv=>whnf
  generalize impliedL m n path=I at tk
  refine br_of (fun h1 => ?_) (fun h1 => ?_) <;> rw [h1] <;> conv=>whnf
  ·rw [tk,if_pos (.inl (by simpa using h1))]
   refine clN (own_ok s (by omega)) [0] [hdRs s.pend] (hargs:=⟨.inl (by simp [ren,rens,hh]),trivial⟩) ?_
   conv=>whnf
   exact cv [0,1,8] (h4:=⟨.inl (by simp [lk,ren,rens]),trivial⟩)
  have h1:I.2.2=0:=by simpa using h1
  rw [neL I.2.1 x.root]
  refine br_of (fun h2 => ?_) (fun h2 => ?_) <;> conv=>whnf
  ·rw [tk,if_pos (.inr (of_decide_eq_true h2))]
   refine clN (own_ok s (by omega)) [0] [hdRs s.pend] (hargs:=⟨.inl (by simp [ren,rens,hh]),trivial⟩) ?_
   conv=>whnf
   exact cv [0,1,8] (h4:=⟨.inl (by simp [lk,ren,rens]),trivial⟩)
  have h2:I.2.1=x.root:=by simpa using h2
  rw [if_neg (by rw [h1,h2]; simp)] at tk
  rw [eqL I.1 s.fr.root]
  refine br_of (fun h3 => ?_) (fun h3 => ?_) <;> conv=>whnf
  ·rw [tk,if_pos (eq_of_beq h3)]
   refine clN (own_ok s (by omega)) [0] [hdRs s.pend] (hargs:=⟨.inl (by simp [ren,rens,hh]),trivial⟩) ?_
   conv=>whnf
   rw [wI64 (n:=(k:Int)+1) (by omega) (by omega)]
   refine cl (delete_ok s.pend k hkl (by omega)) [8] ?_
   conv=>whnf
   refine ⟨rfl,?_⟩
   conv=>whnf
   have hle:(s.pend.eraseIdx k).length=s.pend.length-1:=List.length_eraseIdx_of_lt hkl
   exact cv [0,1,8] (h4:=⟨.inl (by simp [lk,ren,rens,hh,hle]),trivial⟩)
  rw [if_neg (by simpa using h3)] at tk
  refine clN (bbuild_ok hS s.fr x path (by omega)) [1] [sRs (Bd.build s.fr x path).1.path] ?_
  have hbl:=bbuild_len s.fr x path
  conv=>whnf
  generalize Bd.build s.fr x path=b at tk hbl
  refine br_of (fun h4 => ?_) (fun h4 => ?_) <;> conv=>whnf
  ·rw [tk,if_pos (by simpa using h4)]
   refine clN (own_ok s (by omega)) [0] [hdRs s.pend] (hargs:=⟨.inl (by simp [ren,rens,hh]),trivial⟩) ?_
   conv=>whnf
   exact cv [0,1,10] (h4:=⟨.inl (by simp [lk,ren,rens]),trivial⟩)
  ·rw [tk,if_neg (by simpa using h4)]
   refine clQ (benc_ok b.1 (by omega)) [8] ?_
   conv=>whnf
   refine clN (forked_ok s b.1.enc (by omega)) [0] [hdRs s.pend] (hargs:=⟨.inl (by simp [ren,rens,hh]),.inl rfl,trivial⟩) ?_
   conv=>whnf
   refine ⟨rfl,?_⟩
   conv=>whnf
   exact cv [0,1,10] (h4:=⟨.inl (by simp [lk,ren,rens,hh]),trivial⟩)
abbrev wtE (LP:Nat) (n:Nd):List E.EV:=[sv n.key,bv n.s.has,u64 n.s.fr.size,u64 n.s.fr.time,sv n.s.fr.root,sv n.s.fr.sig,.s LP 0 n.s.pend.length false,sv n.s.bad,u64 n.stalls,u64 n.next,i64 n.opn]
abbrev wtB (LP:Nat) (n:Nd):EB := .rv 94 [wtE LP n]
abbrev ncE (LK:Nat) (c:Nc):List E.EV:=[.s LK 0 1 false,i64 (c.peers:Nat),i64 (c.room:Nat),u64 c.every,u64 c.gossip,u64 c.retry.base,u64 c.retry.most,u64 c.retry.span,i64 c.retry.tries,i64 c.retry.room]
abbrev ndE (LK LL LJ LT LR:Nat) (n:Nd):List E.EV:=[.s LK 0 1 false,i64 (n.c.peers:Nat),i64 (n.c.room:Nat),u64 n.c.every,u64 n.c.gossip,u64 n.c.retry.base,u64 n.c.retry.most,u64 n.c.retry.span,i64 n.c.retry.tries,i64 n.c.retry.room,.s LL 0 1 false,.p LJ 0 0,.p LT 0 0,.m LR,i64 n.id,u64 n.odd,u64 n.tell,i64 (n.turn:Nat)]
abbrev ndB (LK LL LJ LT LR:Nat) (n:Nd):EB := .r 100 (ndE LK LL LJ LT LR n)
abbrev rqE (m:Mg):E.EV := .a (mgN m nl nl nl)
abbrev rqB (n:Nd):EB := .o (.mq n.reqs.1 (mpE rqE n.reqs.2))
abbrev ndH (n:Nd):List EB:=[ndB 1 2 4 8 12 n,sRs [n.key],wtB 3 n,hdRs n.s.pend,jnB 5 6 n.j,sRs n.j.l,dkB 7 n.j.d,wrRs n.j.d.loose,tbB 9 10 n.t,tmB n.t.tried,hpB 11 n.t.due n.t.c.room,alRs n.t.due,rqB n]
abbrev ndP (p jl dl hr:Nat) (n:Nd):List EB:=[ndB 1 2 4 8 12 n,sRs [n.key],wtB p n,.g,jnB jl 6 n.j,.g,dkB dl n.j.d,.g,tbB 9 10 n.t,tmB n.t.tried,hpB hr n.t.due n.t.c.room,.g,rqB n]
abbrev ndT (n:Nd):List EB:=[hdRs n.s.pend,sRs n.j.l,wrRs n.j.d.loose,alRs n.t.due]
abbrev sdE (x:Sd):List E.EV:=[i64 x.1,sv x.2]
abbrev sdRs (l:List Sd):EB := .rs 196 (l.map sdE)
theorem counts_ok (x:Int):Tri Tryz.prog G 66 [i64 x] [] (bv (cntB x)) []:=by
 refine fn Tryz.func66 ?_
 unfold cntB
 conv=>whnf
 iterate 3
  refine br_of (fun h => ?_) (fun h => ?_) <;> rw [h] <;> conv=>whnf
  ·exact cv []
 exact cv []
theorem send_ok (hH:GHas G) (hS:GSha G) (d:Int) (m:Mg) (hf:m.fit):Tri Tryz.prog G 121 [i64 d,.a (mgE 0 1 2 m)] (mgH m) (.a (sdE (d,m.enc))) (mgH m):=by
 refine fn Tryz.func121 ?_
 conv=>whnf
 refine clQ (menc_ok hH hS m hf) [0,1,2] ?_
 conv=>whnf
 exact cv [0,1,2]
theorem strange_ok (n:Nd) (h:n.odd<18446744073709551616):Tri Tryz.prog G 129 [.p 0 0 0] (ndH n) (.t []) (ndH n.strange):=by
 refine fn Tryz.func129 ?_
 conv=>whnf
 refine clQ (add_ok n.odd 1 h (by decide)) [] ?_
 conv=>whnf
 exact cv [0,1,2,3,4,5,6,7,8,9,10,11,12]
theorem marks_a {n:Nd} (h:n.s.has=true):n.marks=[⟨0,n.s.fr.size,n.s.fr.root,n.s.bad != []⟩]:=by simp [Nd.marks,h]
theorem marks_b {n:Nd} (h:n.s.has=false) (h2:n.s.bad≠[]):n.marks=[⟨0,n.s.fr.size,n.s.fr.root,n.s.bad != []⟩]:=by simp [Nd.marks,h,h2]
theorem marks_c {n:Nd} (h:n.s.has=false) (h2:n.s.bad=[]):n.marks=[]:=by simp [Nd.marks,h,h2]
theorem ne_nil (s:Bs):(!((sB s).toList==(ByteArray.mk #[]).toList))=(s != []):=by
 have:=eqL s []
 rw [show sB []=ByteArray.mk #[] from rfl] at this
 rw [this]
 rfl
theorem nmarks_ok (n:Nd):Tri Tryz.prog G 122 [.p 0 0 0] (ndH n) (.s 13 0 n.marks.length false) (ndH n++[mkRs n.marks]):=by
 have e0:=ne_nil n.s.bad
 have fin:∀ (l:List Mk),n.marks=l→Tri Tryz.prog G 122 [.p 0 0 0] (ndH n) (.s 13 0 l.length false) (ndH n++[mkRs l]):=by
  intro l hl
  refine fn Tryz.func122 ?_
  conv=>whnf
  refine lu 2 ?_
  conv=>whnf
  refine ⟨by decide,?_⟩
  conv=>whnf
  refine br_of (fun h => ?_) (fun h => ?_) <;> rw [h] <;> conv=>whnf
  ·rw [marks_a h] at hl
   subst hl
   rw [e0]
   refine ⟨⟨rfl,rfl⟩,?_⟩
   conv=>whnf
   refine ⟨by simp,?_⟩
   conv=>whnf
   exact cv [0,1,2,3,4,5,6,7,8,9,10,11,12,15]
  ·rw [e0]
   refine br_of (fun h2 => ?_) (fun h2 => ?_) <;> conv=>whnf
   ·rw [marks_b h (by simpa using h2)] at hl
    subst hl
    rw [e0]
    refine ⟨⟨rfl,rfl⟩,?_⟩
    conv=>whnf
    refine ⟨by simp,?_⟩
    conv=>whnf
    exact cv [0,1,2,3,4,5,6,7,8,9,10,11,12,15]
   ·rw [marks_c h (by simpa using h2)] at hl
    subst hl
    exact cv [0,1,2,3,4,5,6,7,8,9,10,11,12,99]
 exact fin _ rfl
theorem nproof_ok (n:Nd):Tri Tryz.prog G 126 [.p 0 0 0,i64 0] (ndH n) (.a (mgN n.proof (.s 13 0 n.proof.b.path.length false) nl nl)) (ndH n++[sRs n.proof.b.path]):=by
 refine fn Tryz.func126 ?_
 conv=>whnf
 refine ⟨by decide,?_⟩
 conv=>whnf
 refine cl (bdec_ok n.s.bad) [] ?_
 conv=>whnf
 exact cv [0,1,2,3,4,5,6,7,8,9,10,11,12,14]
theorem proof_fit (n:Nd):n.proof.fit:=⟨show 0<_ by decide,show 0<_ by decide,show 0<_ by decide,by have:=bdec_len n.s.bad; show (Bd.dec n.s.bad).1.path.length≤_; omega,show 0≤_ by decide,show 0≤_ by decide⟩
theorem done_no {n:Nd} {m:Mg} (h:¬ (m.kind=3∨m.kind=8∨m.kind=4)):n.done m=(n.s,0):=by
 unfold Nd.done
 rw [if_neg (by omega),if_neg (by omega),if_neg (by omega)]
theorem ndone_no (n:Nd) (m:Mg) (hl:m.log=0) (h:¬ (m.kind=3∨m.kind=8∨m.kind=4)):Tri Tryz.prog G 65 [.p 0 0 0,.a (mgE 13 14 15 m)] (ndH n++mgH m) (.t [.a (fsE 3 n.s),i64 0]) (ndH n++mgH m):=by
 refine fn Tryz.func65 ?_
 conv=>whnf
 rw [hl]
 refine ⟨by decide,?_⟩
 conv=>whnf
 refine ⟨rfl,?_⟩
 conv=>whnf
 iterate 3
  refine br_f (by rw [beq_eq_false_iff_ne]; omega) ?_
  conv=>whnf
 exact cv [0,1,2,3,4,5,6,7,8,9,10,11,12,13,14,15]
theorem ndone_ok (hG:GSig G) (hS:GSha G) (n:Nd) (m:Mg) (hl:m.log=0) (h:m.kind=3∨m.kind=8∨m.kind=4) (hp:n.s.pend.length≤10000) (hk:n.key.length≤10000) (hr:n.c.room≤10000) (hf:m.fit) (hpl:m.path.length≤10000):Tri Tryz.prog G 65 [.p 0 0 0,.a (mgE 13 14 15 m)] (ndH n++mgH m) (.t [.a (fsE 16 (n.done m).1),i64 (n.done m).2]) (ndH n++mgH m++[hdRs (n.done m).1.pend]):=by
 refine fn Tryz.func65 ?_
 conv=>whnf
 rw [hl]
 refine ⟨by decide,?_⟩
 conv=>whnf
 refine ⟨rfl,?_⟩
 conv=>whnf
 rcases h with h | h | h
 ·rw [show n.done m=n.s.take n.key m.h n.c.room from if_pos h]
  refine br_t (by rw [h]; rfl) ?_
  conv=>whnf
  refine clN (take_ok' hG hS n.s n.key m.h n.c.room hp hk hr) [3] [hdRs (n.s.take n.key m.h n.c.room).1.pend] ?_
  conv=>whnf
  refine ⟨rfl,?_⟩
  conv=>whnf
  exact cv [0,1,2,3,4,5,6,7,8,9,10,11,12,13,14,15,19]
 ·rw [show n.done m=n.s.link m.m m.n m.path from by unfold Nd.done; rw [if_neg (by omega),if_pos h]]
  refine br_f (by rw [beq_eq_false_iff_ne]; omega) ?_
  conv=>whnf
  refine br_t (by rw [h]; rfl) ?_
  conv=>whnf
  refine clN (link_ok hS n.s m.m m.n m.path hp hpl) [3,14] [hdRs (n.s.link m.m m.n m.path).1.pend] ?_
  conv=>whnf
  exact cv [0,1,2,3,4,5,6,7,8,9,10,11,12,13,14,15,19]
 ·rw [show n.done m=n.s.lay n.key m.b.enc from by unfold Nd.done; rw [if_neg (by omega),if_neg (by omega),if_pos h]]
  refine br_f (by rw [beq_eq_false_iff_ne]; omega) ?_
  conv=>whnf
  refine br_f (by rw [beq_eq_false_iff_ne]; omega) ?_
  conv=>whnf
  refine br_t (by rw [h]; rfl) ?_
  conv=>whnf
  refine clQ (benc_ok m.b hf.2.2.2.1) [13] ?_
  conv=>whnf
  refine clN (lay_ok hG hS n.s n.key m.b.enc (by omega) hk) [3] [hdRs (n.s.lay n.key m.b.enc).1.pend] ?_
  conv=>whnf
  refine ⟨rfl,?_⟩
  conv=>whnf
  exact cv [0,1,2,3,4,5,6,7,8,9,10,11,12,13,14,15,19]
theorem cov_mq {ρ:List Nat} {d ck:Nat} {b':Option EB} {es es':List (Int×Nat×E.EV)} (h:b'=some (.o (.mq ck es))) (he:es=es'):covBk ρ d b' (.o (.mq ck es')):=by
 subst he
 exact h
theorem mpE_app {α:Type} (f:α→E.EV) (l:List (Int×Nat×α)) (k:Int) (b:Nat) (x:α):mpE f l++[(k,b,f x)]=mpE f (l++[(k,b,x)]):=by simp [mpE]
theorem cw {n0:Nat} {T:TL} {H:List EB} {I:TL×List EB} (ρ:List Nat)
  (h4:covT ρ H.length T I.1:=by repeat' (first | exact True.intro | exact Or.inl rfl | exact Or.inr (And.intro rfl (Nat.le_of_ble_eq_true rfl)) | refine And.intro ?_ ?_ | exact Or.inl (by simp [lk,ren])))
  (h5:covL ρ H.length H 0 I.2:=by repeat' (first | exact True.intro | exact Or.inl rfl | exact Or.inr (Or.inl (And.intro rfl ⟨_,_,_,rfl⟩)) | exact Or.inr (And.intro rfl (Nat.le_of_ble_eq_true rfl)) | exact rfl | refine Exists.intro _ (And.intro rfl ?_) | refine And.intro ?_ ?_ | exact Or.inl (by simp [ren]) | exact cov_mq rfl (mpE_app _ _ _ _ _)))
  (h1:((List.range n0).all fun L=>ρ[L]? == some L)=true:=by rfl) (h2:ρ.length=I.2.length:=by rfl) (h3:ndL ρ I.2=true:=by rfl):Cov n0 T H I:=cv ρ h4 h5 h1 h2 h3
structure Nc.ok (c:Nc):Prop where
 p:c.peers≤3
 r1:1≤c.room
 r2:c.room≤16
 e1:1≤c.every
 e2:c.every≤1099511627776
 g1:1≤c.gossip
 g2:c.gossip≤1099511627776
 t:c.retry.right=true
structure Mg.req (m:Mg):Prop where
 l:m.log=0
 i:m.id<18446744073709551616
 mm:m.m<18446744073709551616
 nn:m.n<18446744073709551616
 bb:m.b.path=[]
 pp:m.path=[]
 kk:m.marks=[]
def Fs.ok (s:Fs) (room:Nat):Prop:=s.pend.length≤room∧s.fr.size≤1099511627776∧∀ x∈s.pend,x.size≤1099511627776
structure Nd.ok (n:Nd):Prop where
 c:n.c.ok
 k:n.key.length=32
 p:n.s.ok n.c.room
 j:n.j.ok
 t:n.t.ok
 tc:n.t.c=n.c.retry
 st:n.stalls<18446744073709551616
 nx:n.next<18446744073709551616
 od:n.odd<18446744073709551616
 te:n.tell<18446744073709551616
 tu:n.c.peers=0∨n.turn<n.c.peers
 rq:∀ x∈n.reqs.2,x.2.2.req
 i1:1≤n.id
 i2:n.id≤4611686018427387904
 rk:∀ x∈n.reqs.2,x.1<n.id∧x.2.1<n.reqs.1
theorem put_len (m:Mg):∀ (l:List Nat) (w:Ww),(∀ c∈l,c<8∧m.part c=true)→(l.foldl m.put1 w).1.length≤w.1.length+2000*l.length:=by
 intro l
 induction l with
 | nil=>intro w _; simp
 | cons c l ih =>
  intro w h
  rw [List.foldl_cons]
  have h1:=h c (by simp)
  have h2:=put1_len m w c h1.1 h1.2
  have h3:=ih (m.put1 w c) fun x hx=>h x (List.mem_cons_of_mem _ hx)
  rw [List.length_cons]
  omega
theorem has_lt {k:Int} (h:ofL k=true):(hasL k.toNat).length≤5∧∀ c∈hasL k.toNat,c<8:=by
 rcases kinds h with rfl | rfl | rfl | rfl | rfl | rfl | rfl | rfl | rfl | rfl <;> decide
theorem enc_len (m:Mg):m.enc.length≤10010:=by
 unfold Mg.enc
 cases hr:m.right with
 | false=>simp
 | true =>
  obtain ⟨h1,_,h3⟩:=Mg.right_inv hr
  obtain ⟨h4,h5⟩:=has_lt h1
  have:=put_len m (hasL m.kind.toNat) (wByte ([],0) m.kind) fun c hc=>⟨h5 c hc,List.all_eq_true.1 h3 c hc⟩
  have hb:(wByte ([],0) m.kind).1.length≤1:=wByte_len ([],0) m.kind
  simp only [Bool.not_true,Bool.false_eq_true,if_false]
  unfold wText
  split <;> simp <;> omega
theorem keep_a {n:Nd} {m:Mg} (h:cntB (n.done m).2=false):n.keep m=(n,(n.done m).2):=by unfold Nd.keep; simp [h]
theorem keep_b {n:Nd} {m:Mg} (h:cntB (n.done m).2=true) (h2:(n.j.add m.enc).2≠0):n.keep m=({ n with j:=(n.j.add m.enc).1 },6):=by unfold Nd.keep; simp [h,h2]
theorem keep_c {n:Nd} {m:Mg} (h:cntB (n.done m).2=true) (h2:(n.j.add m.enc).2=0):n.keep m=({ n with j:=(n.j.add m.enc).1,s:=(n.done m).1 },(n.done m).2):=by unfold Nd.keep; simp [h,h2]
theorem nkeep_ok (hG:GSig G) (hS:GSha G) (hH:GHas G) (n:Nd) (hn:n.ok) (m:Mg) (hl:m.log=0) (hf:m.fit) (hpl:m.path.length≤10000):Tri Tryz.prog G 132 [.p 0 0 0,.a (mgE 13 14 15 m)] (ndH n++mgH m) (i64 (n.keep m).2) (ndP 16 17 18 19 (n.keep m).1++mgH m++ndT (n.keep m).1):=by
 have hp:n.s.pend.length≤10000:=by have:=hn.p.1; have:=hn.c.r2; omega
 have hr:n.c.room≤10000:=by have:=hn.c.r2; omega
 by_cases h:m.kind=3∨m.kind=8∨m.kind=4
 rotate_left
 ·have hd:=done_no (n:=n) h
  rw [keep_a (by rw [hd]; rfl),hd]
  refine fn Tryz.func132 ?_
  conv=>whnf
  refine clQ (ndone_no n m hl h) [0,1,2,3,4,5,6,7,8,9,10,11,12,13,14,15] ?_
  conv=>whnf
  refine clQ (counts_ok 0) [] ?_
  conv=>whnf
  exact cv [0,1,2,3,4,5,6,7,8,9,10,11,12,13,14,15,3,5,7,11]
 refine fn Tryz.func132 ?_
 conv=>whnf
 refine clN (ndone_ok hG hS n m hl h hp (by rw [hn.k]; decide) hr hf hpl) [0,1,2,3,4,5,6,7,8,9,10,11,12,13,14,15] [hdRs (n.done m).1.pend] ?_
 conv=>whnf
 refine clQ (counts_ok (n.done m).2) [] ?_
 conv=>whnf
 cases hc:cntB (n.done m).2 with
 | false =>
  rw [keep_a hc]
  conv=>whnf
  exact cv [0,1,2,3,4,5,6,7,8,9,10,11,12,13,14,15,3,5,7,11]
 | true =>
  conv=>whnf
  refine clQ (menc_ok hH hS m hf) [13,14,15] ?_
  conv=>whnf
  refine cl (jadd_ok n.j m.enc hn.j.fit (by have:=enc_len m; omega)) [4,5,6,7] ?_
  conv=>whnf
  refine ⟨rfl,?_⟩
  conv=>whnf
  refine br_of (fun h2 => ?_) (fun h2 => ?_) <;> conv=>whnf
  ·rw [keep_b hc (by simpa using h2)]
   exact cv [0,1,2,3,4,5,6,7,8,9,10,11,12,13,14,15,3,19,20,11]
  ·rw [keep_c hc (by simpa using h2),hl]
   refine ⟨by decide,?_⟩
   conv=>whnf
   refine ⟨rfl,?_⟩
   conv=>whnf
   exact cv [0,1,2,3,4,5,6,7,8,9,10,11,12,13,14,15,17,19,20,11]
theorem Mg.req.fit {m:Mg} (h:m.req):m.fit:=⟨h.i,h.mm,h.nn,by rw [h.bb]; decide,by rw [h.pp]; decide,by rw [h.kk]; decide⟩
theorem send0_ok (hH:GHas G) (hS:GSha G) (d:Int) (m:Mg) (hf:m.fit) (h1:m.b.path=[]) (h2:m.path=[]) (h3:m.marks=[]):Tri Tryz.prog G 121 [i64 d,.a (mgN m nl nl nl)] [] (.a (sdE (d,m.enc))) []:=by
 obtain ⟨kind,log,id,mm,nn,h,⟨a,b,bp⟩,p,mk⟩:=m
 simp only at h1 h2 h3
 subst h1 h2 h3
 refine fn Tryz.func121 ?_
 conv=>whnf
 refine CallE.ph 9 ?_
 refine CallE.ph 9 ?_
 refine CallE.ph 219 ?_
 refine cl (menc_ok hH hS ⟨kind,log,id,mm,nn,h,⟨a,b,[]⟩,[],[]⟩ hf) [2,3,4] ?_
 conv=>whnf
 exact cv []
theorem req_ok {l:List (Int×Nat×Mg)} (h:∀ x∈l,x.2.2.req) (id:Int):((mpGet id l).getD .nil).req:=by
 cases hg:mpGet id l with
 | none=>exact ⟨rfl,show 0<_ by decide,show 0<_ by decide,show 0<_ by decide,rfl,rfl,rfl⟩
 | some y=>obtain ⟨x,hx,rfl⟩:=get_mem hg; exact h x hx
abbrev ndD (n:Nd):List EB:=[ndB 1 2 4 8 12 n,sRs [n.key],wtB 3 n,hdRs n.s.pend,jnB 5 6 n.j,sRs n.j.l,dkB 7 n.j.d,wrRs n.j.d.loose,tbB 9 10 n.t,tmB n.t.tried,hpB 13 n.t.due n.t.c.room,.g,rqB n,alRs n.t.due]
theorem lost_n (n:Nd) (o:List Sd):Nd.lostF [] n o=(n,o):=rfl
theorem lost_s (id:Int) (l:List Int) (n:Nd) (o:List Sd):Nd.lostF (id::l) n o=Nd.lostF l { n with stalls:=addL n.stalls 1,opn:=0,reqs:=n.reqs.del id } (o++[sendL (-2) { kind:=10,log:=(n.req id).log,n:=addL n.stalls 1 }]):=rfl
theorem ndue_ok (hS:GSha G) (hH:GHas G) (n:Nd) (hn:n.ok) (now draw:Nat) (hnw:now<18446744073709551616) (hd:draw<18446744073709551616):Tri Tryz.prog G 119 [.p 0 0 0,u64 now,u64 draw] (ndH n) (.s 17 0 (n.due now draw).2.length false) (ndP 13 14 15 16 (n.due now draw).1++ndT (n.due now draw).1++[sdRs (n.due now draw).2]):=by
 obtain ⟨R,hR⟩:∃ R,n.due now draw=R:=⟨_,rfl⟩
 rw [hR]
 have hdl:=hn.t.dueL now draw
 have hR:Nd.lostF (n.t.dueL now draw).2.2 { n with t:=(n.t.dueL now draw).1 } ((n.t.dueL now draw).2.1.map fun id=>sendL (-1-(n.req id).log) (n.req id))=R:=hR
 refine fn Tryz.func119 ?_
 conv=>whnf
 refine cl (rdue_ok n.t hn.t now draw hnw hd) [8,9,10,11] ?_
 generalize n.t.dueL now draw=Q at hdl hR
 obtain ⟨t',ag,lo⟩:=Q
 simp only at hdl hR
 obtain ⟨ht',htc,hlen⟩:=hdl
 conv=>whnf
 obtain ⟨n1,hn1⟩:∃ n1:Nd,n1={ n with t:=t' }:=⟨_,rfl⟩
 rw [← hn1] at hR
 obtain ⟨O,hO⟩:∃ O,(ag.map fun id=>sendL (-1-(n.req id).log) (n.req id))=O:=⟨_,rfl⟩
 rw [hO] at hR
 refine lp2 (fun (i:Nat) (o:List Sd)=>([(0,.p 0 0 0),(7,.s 16 0 o.length false),(9,.s 15 0 lo.length false),(25,.s 14 0 ag.length false),(26,i64 (ag.length:Nat)),(27,i64 (i:Nat))],ndD n1++[inRs ag,inRs lo,sdRs o])) (fun i o=>(i≤ag.length∧o.length=i)∧o++((ag.drop i).map fun id=>sendL (-1-(n.req id).log) (n.req id))=O) (fun i _=>ag.length-i) 0 [] ⟨⟨by omega,rfl⟩,by rw [← hO]; rfl⟩ (by subst hn1; exact cv [0,1,2,3,4,5,6,7,8,9,10,11,12,13,14,15,99]) fun i o ⟨⟨hi,ho⟩,hx⟩ => ?_
 conv=>whnf
 refine br_of (fun h1 => ?_) (fun h1 => ?_) <;> conv=>whnf
 ·have h1:i<ag.length:=by have:=of_decide_eq_true h1; omega
  rw [List.drop_eq_getElem_cons h1,List.map_cons] at hx
  refine ⟨by omega,?_⟩
  conv=>whnf
  refine ob_of [i64 ag[i]] (by simp [h1]) ?_
  conv=>whnf
  generalize ag[i]=id at hx
  have hrq:((mpGet id n1.reqs.2).getD Mg.nil).req:=req_ok (by subst hn1; exact hn.rq) id
  rw [show n.req id=(mpGet id n1.reqs.2).getD Mg.nil from by subst hn1; rfl] at hx
  refine mGetD_of Mg.nil ?_ ?_
  rotate_left
  ·intro h
   conv at h=>whnf
   conv=>whnf
   exact h
  conv=>whnf
  refine mGetD_of Mg.nil ?_ ?_
  rotate_left
  ·intro h
   conv at h=>whnf
   conv=>whnf
   exact h
  generalize (mpGet id n1.reqs.2).getD Mg.nil=m at hrq hx
  rw [wI64 (n := -1-m.log) (by rw [hrq.l]; decide) (by rw [hrq.l]; decide)]
  conv=>whnf
  refine clQ (send0_ok hH hS (-1-m.log) m hrq.fit hrq.bb hrq.pp hrq.kk) [] ?_
  conv=>whnf
  refine ⟨⟨rfl,rfl⟩,?_⟩
  conv=>whnf
  refine ⟨by simp,?_⟩
  conv=>whnf
  refine ⟨⟨by omega,by simp⟩,?_⟩
  conv=>whnf
  refine ⟨rfl,?_⟩
  conv=>whnf
  rw [wI64 (n:=(i:Int)+1) (by omega) (by omega)]
  exact ⟨(i+1,o++[(-1-m.log,m.enc)]),⟨⟨⟨h1,by simp [ho]⟩,by rw [← hx]; simp [sendL]⟩,by simp only; omega⟩,cw [0,1,2,3,4,5,6,7,8,9,10,11,12,13,14,15,18]⟩
 ·have h1:i=ag.length:=by have:=of_decide_eq_false h1; omega
  subst h1
  rw [List.drop_length] at hx
  have hx:o++[]=O:=hx
  rw [List.append_nil] at hx
  subst hx
  have hn1':n1.stalls<18446744073709551616∧∀ x∈n1.reqs.2,x.2.2.req:=by subst hn1; exact ⟨hn.st,hn.rq⟩
  refine lp1 (X:=Nat×Nd×List Sd) (fun (i,n,o)=>([(0,.p 0 0 0),(7,.s 16 0 o.length false),(50,.s 15 0 lo.length false),(51,i64 (lo.length:Nat)),(52,i64 (i:Nat))],ndD n++[inRs ag,inRs lo,sdRs o])) (fun (i,n,o)=>(i≤lo.length∧o.length=ag.length+i∧n.stalls<18446744073709551616∧∀ x∈n.reqs.2,x.2.2.req)∧Nd.lostF (lo.drop i) n o=R) (fun (i,n,o)=>lo.length-i) (0,n1,o) ⟨⟨by omega,ho,hn1'⟩,hR⟩ (cv [0,1,2,3,4,5,6,7,8,9,10,11,12,13,14,15,16]) ?_
  rintro ⟨i,n,o⟩ ⟨⟨hi,ho,hst,hrq⟩,hx⟩
  conv=>whnf
  refine br_of (fun h1 => ?_) (fun h1 => ?_) <;> conv=>whnf
  ·have h1:i<lo.length:=by have:=of_decide_eq_true h1; omega
   rw [List.drop_eq_getElem_cons h1,lost_s] at hx
   refine ⟨by omega,?_⟩
   conv=>whnf
   refine ob_of [i64 lo[i]] (by simp [h1]) ?_
   conv=>whnf
   generalize lo[i]=id at hx
   have hm:((mpGet id n.reqs.2).getD Mg.nil).req:=req_ok hrq id
   rw [show n.req id=(mpGet id n.reqs.2).getD Mg.nil from rfl] at hx
   refine mGetD_of Mg.nil ?_ ?_
   rotate_left
   ·intro h
    conv at h=>whnf
    conv=>whnf
    exact h
   conv=>whnf
   rw [hm.l]
   refine ⟨by decide,?_⟩
   conv=>whnf
   refine ⟨rfl,?_⟩
   conv=>whnf
   rw [hm.l] at hx
   refine clQ (add_ok n.stalls 1 hst (by decide)) [] ?_
   conv=>whnf
   rw [show IntKind.i64.wrap (-1-((1:Nat):Int)) = -2 from rfl]
   refine mGetD_of Mg.nil ?_ ?_
   rotate_left
   ·intro h
    conv at h=>whnf
    conv=>whnf
    exact h
   conv=>whnf
   rw [hm.l]
   refine clQ (send0_ok hH hS (-2) { kind:=10,log:=0,n:=addL n.stalls 1 } ⟨show 0<_ by decide,show 0<_ by decide,addL_lt,show 0≤_ by decide,show 0≤_ by decide,show 0≤_ by decide⟩ rfl rfl rfl) [] ?_
   conv=>whnf
   refine ⟨⟨rfl,rfl⟩,?_⟩
   conv=>whnf
   refine ⟨by simp,?_⟩
   conv=>whnf
   refine ⟨⟨by omega,by simp⟩,?_⟩
   conv=>whnf
   refine ⟨rfl,?_⟩
   conv=>whnf
   refine mDel_of ?_
   conv=>whnf
   rw [wI64 (n:=(i:Int)+1) (by omega) (by omega)]
   exact ⟨(i+1,{ n with stalls:=addL n.stalls 1,opn:=0,reqs:=n.reqs.del id },o++[(-2,Mg.enc { kind:=10,log:=0,n:=addL n.stalls 1 })]),⟨⟨⟨h1,by simp; omega,addL_lt,fun x hx=>hrq x (mpDel_mem hx)⟩,hx⟩,by show lo.length-(i+1)<lo.length-i; omega⟩,cw [0,1,2,3,4,5,6,7,8,9,10,11,12,13,14,15,18]⟩
  ·have h1:i=lo.length:=by have:=of_decide_eq_false h1; omega
   subst h1
   rw [List.drop_length,lost_n] at hx
   subst hx
   exact cv [0,1,2,3,4,5,6,7,8,9,10,11,12,3,5,7,13,16]
end Go.Proofs.YtdhgpocbcccieaaGreatDoor.M
namespace Go.Proofs.YtdhgpocbcccieaaGreatDoor.M
open Go Go.RowKit Go.Proofs.YtdhgpocbcccieaaGreatDoor.E
def goA (n:Nd) (m:Mg) (now draw:Nat):Nd×List Sd :=
 if (n.t.ask n.id now draw).2≠0 then ({ n with t:=(n.t.ask n.id now draw).1 },[]) else
 ({ n with t:=(n.t.ask n.id now draw).1,reqs:=n.reqs.set n.id m,opn:=n.id,id:=i64w (n.id+1) },[sendL (-1) m])
theorem ask_a {n:Nd} (h:n.opn>0∨n.s.bad≠[]) (now draw:Nat):n.ask now draw=(n,[]):=if_pos h
theorem ask_b {n:Nd} (h:¬ (n.opn>0∨n.s.bad≠[])) (h2:n.s.need.2.2=true) (now draw:Nat):n.ask now draw=goA n { kind:=6,id:=(n.id%18446744073709551616).toNat,m:=n.s.need.1,n:=n.s.need.2.1 } now draw:=by
 unfold Nd.ask
 simp only
 rw [if_neg h,if_pos h2]
 rfl
theorem ask_c {n:Nd} (h:¬ (n.opn>0∨n.s.bad≠[])) (h2:n.s.need.2.2=false) {now:Nat} (h3:n.next≤now) (draw:Nat):n.ask now draw=goA { n with next:=addL now n.c.every } { kind:=5,id:=(n.id%18446744073709551616).toNat } now draw:=by
 unfold Nd.ask
 simp only
 rw [if_neg h,if_neg (by simp [h2]),if_pos h3]
 rfl
theorem ask_d {n:Nd} (h:¬ (n.opn>0∨n.s.bad≠[])) (h2:n.s.need.2.2=false) {now:Nat} (h3:¬ n.next≤now) (draw:Nat):n.ask now draw=(n,[]):=by
 unfold Nd.ask
 simp only
 rw [if_neg h,if_neg (by simp [h2]),if_neg h3]
theorem no_key {α:Type} {k:Int}:∀ {l:List (Int×Nat×α)},(∀ x∈l,x.1<k)→mpGet k l=none:=by
 intro l
 induction l with
 | nil=>intro _; rfl
 | cons x l ih =>
  obtain ⟨i,b,y⟩:=x
  intro h
  unfold mpGet
  have h1:=h (i,b,y) (by simp)
  simp only at h1
  rw [if_neg (by omega)]
  exact ih fun x hx=>h x (List.mem_cons_of_mem _ hx)
theorem need_b {s:Fs} (h:s.need.2.2=true):∃ x l,s.pend=x::l∧s.need.1=min x.size s.fr.size∧s.need.2.1=max x.size s.fr.size:=by
 unfold Fs.need at h ⊢
 split
 ·rename_i hc; rw [if_pos hc] at h; cases h
 ·rename_i hc
  rw [if_neg hc] at h
  cases hp:s.pend with
  | nil=>rw [hp] at h; cases h
  | cons x l=>exact ⟨x,l,rfl,rfl,rfl⟩
abbrev sdOk (n:Nd) (l:List Sd):Prop:=∀ x∈l, -2≤x.1∧x.1<n.c.peers
theorem Nd.ok.setT {n:Nd} (h:n.ok) {t:Tb} (ht:t.ok) (hc:t.c=n.t.c):({ n with t:=t }:Nd).ok:=⟨h.c,h.k,h.p,h.j,ht,hc.trans h.tc,h.st,h.nx,h.od,h.te,h.tu,h.rq,h.i1,h.i2,h.rk⟩
theorem lostF_ok:∀ (l:List Int) (n:Nd) (o:List Sd),n.ok→sdOk n o→(Nd.lostF l n o).1.ok∧sdOk n (Nd.lostF l n o).2∧(Nd.lostF l n o).1.c=n.c∧(Nd.lostF l n o).1.id=n.id∧(Nd.lostF l n o).1.key=n.key:=by
 intro l
 induction l with
 | nil=>intro n o h ho; exact ⟨h,ho,rfl,rfl,rfl⟩
 | cons id l ih =>
  intro n o h ho
  rw [lost_s]
  have h2:({ n with stalls:=addL n.stalls 1,opn:=0,reqs:=n.reqs.del id }:Nd).ok:=⟨h.c,h.k,h.p,h.j,h.t,h.tc,addL_lt,h.nx,h.od,h.te,h.tu,fun x hx=>h.rq x (mpDel_mem hx),h.i1,h.i2,fun x hx=>h.rk x (mpDel_mem hx)⟩
  exact ih _ _ h2 fun x hx=>by
   rcases List.mem_append.1 hx with hx | hx
   ·exact ho x hx
   ·rw [List.mem_singleton.1 hx]
    exact ⟨by show (-2:Int) ≤ -2; decide,by show (-2:Int)<n.c.peers; omega⟩
theorem lostF_len:∀ (l:List Int) (n:Nd) (o:List Sd),(Nd.lostF l n o).2.length=o.length+l.length:=by
 intro l
 induction l with
 | nil=>intro n o; rfl
 | cons id l ih=>intro n o; rw [lost_s,ih]; simp; omega
theorem Nd.ok.due {n:Nd} (h:n.ok) (now draw:Nat):(n.due now draw).1.ok∧sdOk n (n.due now draw).2∧(n.due now draw).1.c=n.c∧(n.due now draw).1.id=n.id∧(n.due now draw).1.key=n.key∧(n.due now draw).2.length≤10000:=by
 have hd:=h.t.dueL now draw
 have h1:=lostF_ok (n.t.dueL now draw).2.2 { n with t:=(n.t.dueL now draw).1 } ((n.t.dueL now draw).2.1.map fun id=>sendL (-1-(n.req id).log) (n.req id)) (h.setT hd.1 hd.2.1) (fun x hx=>by
  obtain ⟨id,_,rfl⟩:=List.mem_map.1 hx
  have:=(req_ok h.rq id).l
  rw [show n.req id=(mpGet id n.reqs.2).getD .nil from rfl]
  show (-2:Int) ≤ -1-_ ∧ -1-_<(n.c.peers:Int)
  rw [this]
  omega)
 have h2:=lostF_len (n.t.dueL now draw).2.2 { n with t:=(n.t.dueL now draw).1 } ((n.t.dueL now draw).2.1.map fun id=>sendL (-1-(n.req id).log) (n.req id))
 rw [List.length_map] at h2
 exact ⟨h1.1,h1.2.1,h1.2.2.1,h1.2.2.2.1,h1.2.2.2.2,Nat.le_trans (Nat.le_of_eq h2) hd.2.2⟩
theorem goA_ok {n:Nd} (h:n.ok) (hid:n.id<4611686018427387904) {m:Mg} (hm:m.req) (now draw:Nat):(goA n m now draw).1.ok∧sdOk n (goA n m now draw).2∧(goA n m now draw).1.c=n.c∧(goA n m now draw).1.id≤n.id+1∧(goA n m now draw).1.key=n.key∧(goA n m now draw).2.length≤1:=by
 unfold goA
 split
 ·exact ⟨h.setT (h.t.ask _ _ _) rfl,fun x hx=>(by cases hx),rfl,by show n.id≤n.id+1; omega,rfl,Nat.zero_le _⟩
 ·have hw:i64w (n.id+1)=n.id+1:=wI64 (by have:=h.i1; omega) (by omega)
  have hk:mpGet n.id n.reqs.2=none:=no_key fun x hx=>(h.rk x hx).1
  have hs:n.reqs.set n.id m=(n.reqs.1+1,n.reqs.2++[(n.id,n.reqs.1,m)]):=by unfold Mp.set; rw [hk]; rfl
  rw [hw,hs]
  refine ⟨⟨h.c,h.k,h.p,h.j,h.t.ask _ _ _,h.tc,h.st,h.nx,h.od,h.te,h.tu,fun x hx => ?_,by have:=h.i1; simp only; omega,by simp only; omega,fun x hx => ?_⟩,fun x hx => ?_,rfl,Int.le_refl _,rfl,by simp⟩
  ·rcases List.mem_append.1 hx with hx | hx
   ·exact h.rq x hx
   ·rw [List.mem_singleton.1 hx]; exact hm
  ·rcases List.mem_append.1 hx with hx | hx
   ·have:=h.rk x hx
    simp only
    omega
   ·rw [List.mem_singleton.1 hx]
    simp only
    omega
  ·rw [List.mem_singleton.1 hx]
   exact ⟨by show (-2:Int) ≤ -1; decide,by show (-1:Int)<n.c.peers; omega⟩
theorem id_lt (i:Int):(i%18446744073709551616).toNat<18446744073709551616:=by omega
theorem takeF_ok {s:Fs} {room:Nat} (hs:s.ok room) {h:Hd} (hh:h.size≤1099511627776):∀ l:List Hd,(s.takeF h room l).1.ok room:=by
 intro l
 induction l with
 | nil =>
  unfold Fs.takeF
  simp only
  split
  ·exact hs
  ·rename_i hr
   refine ⟨?_,hs.2.1,fun x hx => ?_⟩
   ·simp only [List.length_append,List.length_cons,List.length_take,List.length_drop]
    omega
   ·simp only at hx
    rcases List.mem_append.1 hx with hx | hx
    ·exact hs.2.2 x (List.mem_of_mem_take hx)
    ·rcases List.mem_cons.1 hx with rfl | hx
     ·exact hh
     ·exact hs.2.2 x (List.mem_of_mem_drop hx)
 | cons x l ih =>
  unfold Fs.takeF
  split
  ·exact ih
  ·split
   ·exact hs
   ·simp only
    split
    ·exact ⟨hs.1,hs.2.1,hs.2.2⟩
    ·exact ih
theorem check_size {pub:Bs} {h:Hd} (hc:h.check pub=true):h.size≤1099511627776:=by
 unfold Hd.check at hc
 exact (Hd.right_inv (Bool.and_eq_true_iff.1 hc).1).1
theorem take_inv {s:Fs} {room:Nat} (hs:s.ok room) (pub:Bs) (h:Hd):(s.take pub h room).1.ok room:=by
 unfold Fs.take
 split
 ·exact hs
 ·split
  ·exact hs
  ·rename_i hc
   have hc:h.check pub=true:=by simpa using hc
   split
   ·exact ⟨hs.1,check_size hc,hs.2.2⟩
   ·exact takeF_ok hs (check_size hc) _
theorem ite_inv {p:Prop} [Decidable p] {room:Nat} {a b:Fs×Int} (ha:a.1.ok room) (hb:b.1.ok room):(if p then a else b).1.ok room:=by
 split <;> assumption
theorem link_inv {s:Fs} {room:Nat} (hs:s.ok room) (m n:Nat) (path:List Bs):(s.link m n path).1.ok room:=by
 unfold Fs.link
 simp only
 refine ite_inv hs (ite_inv hs (ite_inv hs (ite_inv ⟨?_,?_,fun x hx=>hs.2.2 x (List.mem_of_mem_eraseIdx hx)⟩ (ite_inv hs ⟨hs.1,hs.2.1,hs.2.2⟩))))
 ·have:=hs.1
  simp only [List.length_eraseIdx]
  split <;> omega
 ·simp only
  split
  ·exact hs.2.1
  ·rw [List.getD_eq_getElem?_getD]
   cases hg:s.pend[s.pend.findIdx fun x=>min x.size s.fr.size==m&&max x.size s.fr.size==n]? with
   | none=>show (0:Nat)≤_; decide
   | some y=>exact hs.2.2 y (List.mem_of_getElem? hg)
theorem lay_inv {s:Fs} {room:Nat} (hs:s.ok room) (pub bad:Bs):(s.lay pub bad).1.ok room:=by
 unfold Fs.lay
 split
 ·exact hs
 ·split <;> exact hs
theorem done_inv {n:Nd} (h:n.ok) (m:Mg):(n.done m).1.ok n.c.room:=by
 unfold Nd.done
 split
 ·exact take_inv h.p _ _
 ·split
  ·exact link_inv h.p _ _ _
  ·split
   ·exact lay_inv h.p _ _
   ·exact h.p
theorem Nd.ok.setJ {n:Nd} (h:n.ok) {j:Jn} (hj:j.ok):({ n with j:=j }:Nd).ok:=⟨h.c,h.k,h.p,hj,h.t,h.tc,h.st,h.nx,h.od,h.te,h.tu,h.rq,h.i1,h.i2,h.rk⟩
theorem Nd.ok.setS {n:Nd} (h:n.ok) {s:Fs} (hs:s.ok n.c.room):({ n with s:=s }:Nd).ok:=⟨h.c,h.k,hs,h.j,h.t,h.tc,h.st,h.nx,h.od,h.te,h.tu,h.rq,h.i1,h.i2,h.rk⟩
structure Same (n n':Nd):Prop where
 c:n'.c=n.c
 i:n'.id=n.id
 k:n'.key=n.key
theorem Same.refl (n:Nd):Same n n:=⟨rfl,rfl,rfl⟩
theorem Same.trans {a b c:Nd} (h:Same a b) (k:Same b c):Same a c:=⟨k.c.trans h.c,k.i.trans h.i,k.k.trans h.k⟩
theorem Nd.ok.keep {n:Nd} (h:n.ok) (hl:n.j.l.length<900000) (m:Mg):(n.keep m).1.ok∧Same n (n.keep m).1∧(n.keep m).1.j.l.length≤n.j.l.length+1:=by
 cases hc:cntB (n.done m).2 with
 | false=>rw [keep_a hc]; exact ⟨h,.refl n,Nat.le_succ _⟩
 | true =>
  obtain ⟨hj,hjl⟩:=h.j.add hl m.enc
  by_cases h2:(n.j.add m.enc).2=0
  ·rw [keep_c hc h2]
   exact ⟨(h.setJ hj).setS (done_inv h m),⟨rfl,rfl,rfl⟩,hjl⟩
  ·rw [keep_b hc h2]
   exact ⟨h.setJ hj,⟨rfl,rfl,rfl⟩,hjl⟩
theorem Nd.ok.strange {n:Nd} (h:n.ok):n.strange.ok∧Same n n.strange:=⟨⟨h.c,h.k,h.p,h.j,h.t,h.tc,h.st,h.nx,addL_lt,h.te,h.tu,h.rq,h.i1,h.i2,h.rk⟩,⟨rfl,rfl,rfl⟩⟩
theorem Nd.ok.ask {n:Nd} (h:n.ok) (hid:n.id<4611686018427387904) (now draw:Nat):(n.ask now draw).1.ok∧sdOk n (n.ask now draw).2∧(n.ask now draw).1.c=n.c∧(n.ask now draw).1.id≤n.id+1∧(n.ask now draw).1.key=n.key∧(n.ask now draw).2.length≤1:=by
 have z:(n,([]:List Sd)).1.ok∧sdOk n (n,([]:List Sd)).2∧(n,([]:List Sd)).1.c=n.c∧(n,([]:List Sd)).1.id≤n.id+1∧(n,([]:List Sd)).1.key=n.key∧(n,([]:List Sd)).2.length≤1:=⟨h,fun x hx=>(by cases hx),rfl,by show n.id≤n.id+1; omega,rfl,Nat.zero_le _⟩
 by_cases h1:n.opn>0∨n.s.bad≠[]
 ·rw [ask_a h1]; exact z
 cases h2:n.s.need.2.2 with
 | true =>
  rw [ask_b h1 h2]
  obtain ⟨x,l,hp,e1,e2⟩:=need_b h2
  have hx:=h.p.2.2 x (by rw [hp]; simp)
  have hf:=h.p.2.1
  exact goA_ok h hid ⟨rfl,id_lt _,by show n.s.need.1<_; rw [e1]; omega,by show n.s.need.2.1<_; rw [e2]; omega,rfl,rfl,rfl⟩ now draw
 | false =>
  by_cases h3:n.next≤now
  ·rw [ask_c h1 h2 h3]
   have h4:({ n with next:=addL now n.c.every }:Nd).ok:=⟨h.c,h.k,h.p,h.j,h.t,h.tc,h.st,addL_lt,h.od,h.te,h.tu,h.rq,h.i1,h.i2,h.rk⟩
   exact goA_ok h4 hid ⟨rfl,id_lt _,show 0<_ by decide,show 0<_ by decide,rfl,rfl,rfl⟩ now draw
  ·rw [ask_d h1 h2 h3]; exact z
theorem Nd.ok.tick {n:Nd} (h:n.ok) (hid:n.id<4611686018427387904) (now draw:Nat):(n.tick now draw).1.ok∧sdOk n (n.tick now draw).2∧(n.tick now draw).1.c=n.c∧(n.tick now draw).1.id≤n.id+1∧(n.tick now draw).1.key=n.key∧(n.tick now draw).2.length≤10002:=by
 obtain ⟨d1,d2,d3,d4,d5,d6⟩:=h.due now draw
 obtain ⟨a1,a2,a3,a4,a5,a6⟩:=d1.ask (by rw [d4]; exact hid) now draw
 have hs:sdOk n ((n.due now draw).2++((n.due now draw).1.ask now draw).2):=fun x hx=>by
  rcases List.mem_append.1 hx with hx | hx
  ·exact d2 x hx
  ·have:=a2 x hx
   rw [d3] at this
   exact this
 have hlen:((n.due now draw).2++((n.due now draw).1.ask now draw).2).length≤10001:=by rw [List.length_append]; omega
 have hid2:((n.due now draw).1.ask now draw).1.id≤n.id+1:=by rw [← d4]; exact a4
 have hc2:((n.due now draw).1.ask now draw).1.c=n.c:=a3.trans d3
 unfold Nd.tick
 simp only
 generalize (n.due now draw).2++((n.due now draw).1.ask now draw).2=o at hs hlen
 generalize ((n.due now draw).1.ask now draw).1=n2 at a1 a5 hid2 hc2
 split
 ·exact ⟨a1,hs,hc2,hid2,a5.trans d5,by simp only; omega⟩
 ·rename_i hp
  have hp0:0<n2.c.peers:=by omega
  have hm:=Nat.mod_lt (n2.turn+1) hp0
  refine ⟨⟨a1.c,a1.k,a1.p,a1.j,a1.t,a1.tc,a1.st,a1.nx,a1.od,addL_lt,.inr hm,a1.rq,a1.i1,a1.i2,a1.rk⟩,fun x hx => ?_,hc2,hid2,a5.trans d5,by simp; omega⟩
  rcases List.mem_append.1 hx with hx | hx
  ·exact hs x hx
  ·rw [List.mem_singleton.1 hx]
   have ht:n2.turn<n2.c.peers:=a1.tu.resolve_left (by omega)
   rw [hc2] at ht
   exact ⟨by show (-2:Int)≤(n2.turn:Nat); omega,by show ((n2.turn:Nat):Int)<n.c.peers; omega⟩
end Go.Proofs.YtdhgpocbcccieaaGreatDoor.M
namespace Go.Proofs.YtdhgpocbcccieaaGreatDoor.M
open Go Go.RowKit Go.Proofs.YtdhgpocbcccieaaGreatDoor.E
variable {G:Gl}
theorem get1_fit (x:Mg×Rr) (h:x.1.fit∧x.1.path.length≤48) (c:Nat):(Mg.get1 x c).1.fit∧(Mg.get1 x c).1.path.length≤48:=by
 obtain ⟨⟨h1,h2,h3,h4,h5,h6⟩,h7⟩:=h
 unfold Mg.get1
 split
 ·exact ⟨⟨h1,h2,h3,h4,h5,h6⟩,h7⟩
 ·exact ⟨⟨rNm_lt _,h2,h3,h4,h5,h6⟩,h7⟩
 ·exact ⟨⟨h1,rNm_lt _,h3,h4,h5,h6⟩,h7⟩
 ·exact ⟨⟨h1,h2,rNm_lt _,h4,h5,h6⟩,h7⟩
 ·exact ⟨⟨h1,h2,h3,h4,h5,h6⟩,h7⟩
 ·exact ⟨⟨h1,h2,h3,Nat.le_trans (bget_len _) (by decide),h5,h6⟩,h7⟩
 ·exact ⟨⟨h1,h2,h3,h4,Nat.le_trans (rList_len _) (by decide),h6⟩,rList_len _⟩
 ·exact ⟨⟨h1,h2,h3,h4,h5,Nat.le_trans (rMarks_len _) (by decide)⟩,h7⟩
theorem gets_fit:∀ (l:List Nat) (x:Mg×Rr),x.1.fit∧x.1.path.length≤48→(l.foldl Mg.get1 x).1.fit∧(l.foldl Mg.get1 x).1.path.length≤48:=by
 intro l
 induction l with
 | nil=>intro x h; exact h
 | cons c l ih=>intro x h; rw [List.foldl_cons]; exact ih _ (get1_fit x h c)
theorem kind_fit (k:Int):({ kind:=k }:Mg).fit∧({ kind:=k }:Mg).path.length≤48:=⟨⟨show 0<_ by decide,show 0<_ by decide,show 0<_ by decide,show 0≤_ by decide,show 0≤_ by decide,show 0≤_ by decide⟩,show 0≤_ by decide⟩
theorem dec_fit (s:Bs):(Mg.dec s).1.fit∧(Mg.dec s).1.path.length≤48:=by
 rw [dec_eq]
 split
 ·exact kind_fit 0
 ·split
  ·exact kind_fit 0
  ·have hg:=gets_fit (hasL (rBy (s,0)).1.toNat) ({ kind:=(rBy (s,0)).1 },(rBy (s,0)).2) (kind_fit _)
   generalize (hasL (rBy (s,0)).1.toNat).foldl Mg.get1 ({ kind:=(rBy (s,0)).1 },(rBy (s,0)).2)=x at hg
   obtain ⟨m,r⟩:=x
   by_cases he:rEn r=0
   ·cases hr:m.right with
    | true=>rw [fin_c he hr]; exact hg
    | false=>rw [fin_b he hr]; exact kind_fit 0
   ·rw [fin_a he]; exact kind_fit 0
theorem dec_right {s:Bs} (h:(Mg.dec s).2=0):(Mg.dec s).1.right=true:=by
 rw [dec_eq] at h ⊢
 split at h
 ·cases h
 ·rename_i h1
  rw [if_neg h1]
  split at h
  ·cases h
  ·rename_i h2
   rw [if_neg h2]
   generalize (hasL (rBy (s,0)).1.toNat).foldl Mg.get1 ({ kind:=(rBy (s,0)).1 },(rBy (s,0)).2)=x at h ⊢
   obtain ⟨m,r⟩:=x
   by_cases he:rEn r=0
   ·cases hr:m.right with
    | true=>rw [fin_c he hr]; exact hr
    | false=>rw [fin_b he hr] at h; cases h
   ·rw [fin_a he] at h; exact absurd h he
theorem part2 {m:Mg} (h:m.right=true) (hk:m.kind=6):1≤m.m∧m.m≤m.n∧m.b.path=[]∧m.path=[]∧m.marks=[]:=by
 obtain ⟨h1,h2,h3⟩:=Mg.right_inv h
 rw [hk] at h3
 have h4:=List.all_eq_true.1 h3 2 (by decide)
 unfold Mg.part at h4
 simp only [Bool.and_eq_true,decide_eq_true_eq] at h4
 rw [Mg.bare,hk] at h2
 refine ⟨h4.1.1,h4.1.2,?_,?_,?_⟩ <;> (rw [h2]; rfl)
theorem log_nn {m:Mg} (h:m.right=true):0≤m.log:=by
 obtain ⟨h1,h2,h3⟩:=Mg.right_inv h
 have key:0∈hasL m.kind.toNat∨m.bare.log=0:=by
  unfold Mg.bare
  rcases kinds h1 with e | e | e | e | e | e | e | e | e | e <;> rw [e] <;> first | exact .inl (by decide) | exact .inr rfl
 rcases key with k | k
 ·have h4:=List.all_eq_true.1 h3 0 k
  unfold Mg.part at h4
  simp only [Bool.and_eq_true,decide_eq_true_eq] at h4
  exact h4.1
 ·rw [h2,k]
  exact Int.le_refl 0
def headL (k:Ky) (view:List Bs) (time:Nat):Hd×Int:=if view.length=0 then (.nil,5) else Hd.make k view.length time (rootL view)
theorem root_len (l:List Bs):(rootL l).length≤10000:=by
 unfold rootL
 split
 ·rw [shaL_len]; decide
 ·exact Nat.le_trans (Nat.le_of_eq (rootF_len 63 l)) (by decide)
theorem lhead_ok (hG:GSig G) (hS:GSha G) (k:Ky) (hk:k.a.length+k.pre.length+k.pub.length≤100000) (view:List Bs) (hv:view.length≤1000) (hx:∀ x∈view,x.length≤100000) (time:Nat) (ht:time<18446744073709551616):Tri Tryz.prog G 189 [.a (kyE k),.s 0 0 view.length false,u64 time] [sRs view] (.t [.a (hdE (headL k view time).1),i64 (headL k view time).2]) [sRs view]:=by
 refine fn Tryz.func189 ?_
 conv=>whnf
 unfold headL
 refine br_of (fun h => ?_) (fun h => ?_) <;> conv=>whnf
 ·rw [if_pos (by have:=eq_of_beq h; omega)]
  exact cv [0]
 rw [if_neg (by have:=beq_eq_false_iff_ne.1 h; omega)]
 have hr:=root_ok hS view 0 view.length hx (by omega) (by omega)
 rw [List.drop_zero,List.take_length] at hr
 refine clQ hr [0] ?_
 conv=>whnf
 rw [wU64 (n:=(view.length:Int)) (by omega) (by omega)]
 refine cl (hmake_ok hG k view.length time (rootL view) (by omega) ht (root_len view) hk) [] ?_
 conv=>whnf
 refine ⟨rfl,?_⟩
 conv=>whnf
 exact cv [0]
theorem mk1_ok (k:Mk):Tri Tryz.prog G 277 [.a (mkE k),.p 0 0 0] [.r 3 [i64 0]] (bv (k.log==0)) [.r 3 [i64 0]]:=by
 refine fn Tryz.func277 ?_
 conv=>whnf
 exact cv [0]
theorem idxK_ok (l:List Mk) (hl:l.length≤1000000):Tri Tryz.prog G 276 [.s 0 0 l.length false,.f 277 [] [.p 1 0 0]] [mkRs l,.r 3 [i64 0]] (i64 (idxA (fun k=>k.log==0) 0 l)) [mkRs l,.r 3 [i64 0]]:=by
 refine fn Tryz.func276 ?_
 conv=>whnf
 refine lp1 (fun (i:Nat)=>([(0,.s 0 0 l.length false),(1,.f 277 [] [.p 1 0 0]),(6,.s 0 0 l.length false),(7,i64 (l.length:Nat)),(8,i64 (i:Nat))],[mkRs l,.r 3 [i64 0]])) (fun i=>i≤l.length∧idxA (fun k=>k.log==0) i (l.drop i)=idxA (fun k=>k.log==0) 0 l) (fun i=>l.length-i) 0 ⟨by omega,rfl⟩ (cv [0,1]) fun i ⟨hi,hx⟩ => ?_
 conv=>whnf
 refine br_of (fun h1 => ?_) (fun h1 => ?_) <;> conv=>whnf
 ·have h1:i<l.length:=by have:=of_decide_eq_true h1; omega
  rw [List.drop_eq_getElem_cons h1] at hx
  refine ⟨by omega,?_⟩
  conv=>whnf
  refine ob_of (mkE l[i]) (by simp [h1]) ?_
  conv=>whnf
  refine clQ (mk1_ok l[i]) [1] ?_
  conv=>whnf
  have hx:(if (fun k:Mk=>k.log==0) l[i] then (i:Int) else idxA (fun k=>k.log==0) (i+1) (l.drop (i+1)))=idxA (fun k=>k.log==0) 0 l:=hx
  refine br_of (fun h2 => ?_) (fun h2 => ?_) <;> conv=>whnf
  ·rw [if_pos h2] at hx
   rw [← hx]
   exact cv [0,1]
  ·rw [if_neg (fun e=>Bool.noConfusion (e.symm.trans h2))] at hx
   rw [wI64 (n:=(i:Int)+1) (by omega) (by omega)]
   exact ⟨i+1,⟨⟨by omega,hx⟩,by omega⟩,cv [0,1]⟩
 ·have h1:i=l.length:=by have:=of_decide_eq_false h1; omega
  subst h1
  rw [List.drop_length] at hx
  rw [← hx]
  exact cv [0,1]
theorem find_idx {α:Type} (p:α→Bool) (l:List α):l.find? p=l[l.findIdx p]? := by
 induction l with
 | nil=>rfl
 | cons x l ih =>
  rw [List.find?_cons,List.findIdx_cons]
  cases p x <;> simp [ih]
theorem marked_ok (l:List Mk) (hl:l.length≤1000000):Tri Tryz.prog G 247 [.s 0 0 l.length false,i64 0] [mkRs l] (.a (mkE (marked l))) [mkRs l]:=by
 have e:=idxA_eq (fun k:Mk=>k.log==0) l 0
 have hm:marked l=(l[l.findIdx fun k=>k.log==0]?).getD ⟨0,0,[],false⟩:=by unfold marked; rw [find_idx]
 refine fn Tryz.func247 ?_
 conv=>whnf
 refine cl (idxK_ok l hl) [0,1] ?_
 conv=>whnf
 rw [e,hm]
 by_cases h:l.findIdx (fun k=>k.log==0)<l.length
 ·rw [if_pos h,Nat.zero_add]
  rw [show decide (((l.findIdx fun k=>k.log==0:Nat):Int)<0)=false from decide_eq_false (by omega)]
  conv=>whnf
  refine ⟨by omega,?_⟩
  conv=>whnf
  refine ob_of (mkE (l[l.findIdx fun k=>k.log==0]'h)) (by simp [h]) ?_
  conv=>whnf
  rw [List.getElem?_eq_getElem h]
  exact cv [0]
 ·rw [if_neg h,List.getElem?_eq_none (by omega)]
  conv=>whnf
  exact cv [0]
theorem lt_c (a b:Nat):decide ((a:Int)>(b:Int))=decide (a>b):=by rw [Bool.eq_iff_iff]; simp
theorem eq_c (a b:Nat):((a:Int)==(b:Int))=(a==b):=by rw [Bool.eq_iff_iff]; simp [Int.ofNat_inj]
theorem ne_L (a b:Bs):(!((sB a).toList==(sB b).toList))=(a != b):=by rw [eqL]; rfl
theorem behind_ok (s:Fs) (k:Mk):Tri Tryz.prog G 248 [.a (fsE 0 s),.a (mkE k)] [hdRs s.pend] (bv (behind s k)) [hdRs s.pend]:=by
 have e0:=ne_nil s.bad
 refine fn Tryz.func248 ?_
 conv=>whnf
 rw [e0]
 unfold behind
 refine br_of (fun h => ?_) (fun h => ?_) <;> conv=>whnf
 ·rw [if_pos (by simpa using h)]
  exact cv [0]
 rw [if_neg (by simpa using h)]
 refine br_of (fun h => ?_) (fun h => ?_) <;> rw [h] <;> conv=>whnf
 ·exact cv [0]
 rw [lt_c]
 refine br_of (fun h => ?_) (fun h => ?_) <;> rw [h] <;> conv=>whnf
 ·exact cv [0]
 rw [show decide ((k.size:Int)>0)=decide (k.size>0) from lt_c k.size 0]
 refine br_of (fun h => ?_) (fun h => ?_) <;> rw [h] <;> conv=>whnf
 rotate_left
 ·exact cv [0]
 rw [eq_c]
 refine br_of (fun h => ?_) (fun h => ?_) <;> rw [h] <;> conv=>whnf
 rotate_left
 ·exact cv [0]
 rw [ne_L]
 exact cv [0]
theorem containsA_ok (l:List Hd) (hl:l.length≤1000000) (k:Mk):Tri Tryz.prog G 279 [.s 0 0 l.length false,.f 278 [] [.p 1 0 0]] [hdRs l,.r 219 (mkE k)] (bv (l.any fun h=>h.size==k.size&&h.root==k.root)) [hdRs l,.r 219 (mkE k)]:=by
 refine fn Tryz.func279 ?_
 conv=>whnf
 refine clQ (idxA_ok l hl k) [0,1] ?_
 conv=>whnf
 rw [idxA_nn]
 exact cv [0,1]
theorem ahead_a {s:Fs} {k:Mk} (h:decide (s.fr.size>k.size)=true):ahead s k=true:=by unfold ahead; rw [h]; rfl
theorem ahead_b {s:Fs} {k:Mk} (h:decide (s.fr.size>k.size)=false) (h2:(s.fr.size==k.size)=true) (h3:(s.fr.root != k.root)=true):ahead s k=true:=by unfold ahead; rw [h,h2,h3]; rfl
theorem ahead_c {s:Fs} {k:Mk} (h:decide (s.fr.size>k.size)=false) (h2:(s.fr.size==k.size)=true) (h3:(s.fr.root != k.root)=false):ahead s k=s.pend.any fun h=>h.size==k.size&&h.root==k.root:=by unfold ahead; rw [h,h2,h3]; simp only [Bool.false_or,Bool.and_false]
theorem ahead_d {s:Fs} {k:Mk} (h:decide (s.fr.size>k.size)=false) (h2:(s.fr.size==k.size)=false):ahead s k=s.pend.any fun h=>h.size==k.size&&h.root==k.root:=by unfold ahead; rw [h,h2]; simp only [Bool.false_or,Bool.false_and]
theorem ahd_ok (s:Fs) (k:Mk) (hl:s.pend.length≤100000):Tri Tryz.prog G 249 [.a (fsE 0 s),.a (mkE k)] [hdRs s.pend] (bv (ahead s k)) [hdRs s.pend]:=by
 have ha:=ahead_a (s:=s) (k:=k)
 have hb:=ahead_b (s:=s) (k:=k)
 have hc:=ahead_c (s:=s) (k:=k)
 have hd:=ahead_d (s:=s) (k:=k)
 generalize ahead s k=R at ha hb hc hd
 refine fn Tryz.func249 ?_
 conv=>whnf
 rw [lt_c]
 refine br_of (fun h => ?_) (fun h => ?_) <;> rw [h] <;> conv=>whnf
 ·rw [ha h]
  exact cv [0]
 rw [eq_c]
 refine br_of (fun h2 => ?_) (fun h2 => ?_) <;> rw [h2] <;> conv=>whnf
 ·rw [ne_L]
  refine br_of (fun h3 => ?_) (fun h3 => ?_) <;> rw [h3] <;> conv=>whnf
  ·rw [hb h h2 h3]
   exact cv [0]
  rw [hc h h2 h3]
  refine cl (containsA_ok s.pend (by omega) k) [0,2] ?_
  conv=>whnf
  exact cv [0]
 rw [hd h h2]
 refine cl (containsA_ok s.pend (by omega) k) [0,2] ?_
 conv=>whnf
 exact cv [0]
theorem mBorn_of {α:Type} {f:α→E.EV} {ck:Nat} {k:Int} {z y:E.EV}:∀ {l:List (Int×Nat×α)} {K:List (Int×Nat×E.EV)→Prop},(∀ x∈l,x.2.1<ck)→K (mpE f l++[(k,ck,y)])→mBornK ck y (mpE f l++[(k,ck,z)]) K:=by
 intro l
 induction l with
 | nil =>
  intro K _ h
  show br (decide (ck=ck)) (K [(k,ck,y)]) _
  rw [decide_eq_true rfl]
  exact h
 | cons x l ih =>
  obtain ⟨i,b,v⟩:=x
  intro K hb h
  have h1:=hb (i,b,v) (by simp)
  simp only at h1
  show br (decide (b=ck)) _ (mBornK ck y (mpE f l++[(k,ck,z)]) fun r=>K ((i,b,f v)::r))
  rw [decide_eq_false (by omega)]
  exact ih (fun x hx=>hb x (List.mem_cons_of_mem _ hx)) h
theorem mBorn_req {ck:Nat} {k:Int} {z:E.EV} {m:Mg} (hm:m.req) {l:List (Int×Nat×Mg)} {K:List (Int×Nat×E.EV)→Prop} (h:∀ x∈l,x.2.1<ck) (hk:K (mpE rqE (l++[(k,ck,m)]))):mBornK ck (rqE m) (mpE rqE l++[(k,ck,z)]) K :=
 mBorn_of h (by rw [mpE_app]; exact hk)
theorem goA_a {n:Nd} {m:Mg} {now draw:Nat} (h:(n.t.ask n.id now draw).2≠0):goA n m now draw=({ n with t:=(n.t.ask n.id now draw).1 },[]):=if_pos h
theorem goA_b {n:Nd} (hn:n.ok) (hid:n.id<4611686018427387904) {m:Mg} {now draw:Nat} (h:¬ (n.t.ask n.id now draw).2≠0):goA n m now draw=({ n with t:=(n.t.ask n.id now draw).1,reqs:=(n.reqs.1+1,n.reqs.2++[(n.id,n.reqs.1,m)]),opn:=n.id,id:=n.id+1 },[(-1,m.enc)]):=by
 have hw:i64w (n.id+1)=n.id+1:=wI64 (by have:=hn.i1; omega) (by omega)
 have hk:mpGet n.id n.reqs.2=none:=no_key fun x hx=>(hn.rk x hx).1
 have hs:n.reqs.set n.id m=(n.reqs.1+1,n.reqs.2++[(n.id,n.reqs.1,m)]):=by unfold Mp.set; rw [hk]; rfl
 unfold goA
 rw [if_neg h,hw,hs]
 rfl
theorem u64w (i:Int):IntKind.u64.wrap i=(((i%18446744073709551616).toNat:Nat):Int):=by
 rw [Int.toNat_of_nonneg (Int.emod_nonneg _ (by decide))]
 simp [IntKind.wrap,IntKind.bits,IntKind.signed]
theorem nask_ok (hS:GSha G) (hH:GHas G) (n:Nd) (hn:n.ok) (hid:n.id<4611686018427387904) (now draw:Nat) (hnw:now<18446744073709551616) (hd:draw<18446744073709551616):Tri Tryz.prog G 120 [.p 0 0 0,i64 0,u64 now,u64 draw] (ndH n) (.s 17 0 (n.ask now draw).2.length false) (ndP 13 14 15 16 (n.ask now draw).1++ndT (n.ask now draw).1++[sdRs (n.ask now draw).2]):=by
 have hp:n.s.pend.length≤100000:=by have:=hn.p.1; have:=hn.c.r2; omega
 have e0:=ne_nil n.s.bad
 refine fn Tryz.func120 ?_
 conv=>whnf
 refine ⟨by decide,?_⟩
 conv=>whnf
 refine clQ (need_ok n.s hp) [3] ?_
 conv=>whnf
 refine br_of (fun h => ?_) (fun h => ?_) <;> rw [h] <;> conv=>whnf
 ·rw [ask_a (.inl (of_decide_eq_true h))]
  exact cv [0,1,2,3,4,5,6,7,8,9,10,11,12,3,5,7,11,99]
 rw [e0]
 refine br_of (fun h0 => ?_) (fun h0 => ?_) <;> conv=>whnf
 ·rw [ask_a (.inr (by simpa using h0))]
  exact cv [0,1,2,3,4,5,6,7,8,9,10,11,12,3,5,7,11,99]
 have h1:¬ (n.opn>0∨n.s.bad≠[]):=by
  rintro (e | e)
  ·exact absurd e (of_decide_eq_false h)
  ·simp at h0; exact e h0
 refine br_of (fun h2 => ?ga) (fun h2 => ?gb) <;> conv=>whnf
 case' gb =>
  refine br_of (fun h3 => ?gc) (fun h3 => ?gd) <;> conv=>whnf
 case gd =>
  rw [ask_d h1 h2 (by have:=of_decide_eq_false h3; omega)]
  exact cv [0,1,2,3,4,5,6,7,8,9,10,11,12,3,5,7,11,99]
 case' gc =>
  rw [ask_c h1 h2 (by have:=of_decide_eq_true h3; omega)]
  refine clQ (add_ok now n.c.every hnw (by have:=hn.c.e2; omega)) [] ?_
  conv=>whnf
  have hn2:({ n with next:=addL now n.c.every }:Nd).ok:=⟨hn.c,hn.k,hn.p,hn.j,hn.t,hn.tc,hn.st,addL_lt,hn.od,hn.te,hn.tu,hn.rq,hn.i1,hn.i2,hn.rk⟩
  have hmf:({ kind:=5,id:=(n.id%18446744073709551616).toNat }:Mg).req:=⟨rfl,id_lt _,show 0<_ by decide,show 0<_ by decide,rfl,rfl,rfl⟩
 case' ga =>
  rw [ask_b h1 h2]
  have hn2:=hn
  have hmf:({ kind:=6,id:=(n.id%18446744073709551616).toNat,m:=n.s.need.1,n:=n.s.need.2.1 }:Mg).req:=by
   obtain ⟨x,l,hp,e1,e2⟩:=need_b h2
   have hx:=hn.p.2.2 x (by rw [hp]; simp)
   have hf:=hn.p.2.1
   exact ⟨rfl,id_lt _,by show n.s.need.1<_; rw [e1]; omega,by show n.s.need.2.1<_; rw [e2]; omega,rfl,rfl,rfl⟩
 all_goals
  rw [u64w]
  refine cl (rask_ok n.t hn.t n.id now draw hnw hd) [8,9,10,11] ?_
  conv=>whnf
  refine ⟨rfl,?_⟩
  conv=>whnf
  refine br_of (fun h3 => ?_) (fun h3 => ?_) <;> conv=>whnf
  ·rw [goA_a (by simpa using h3)]
   exact cv [0,1,2,3,4,5,6,7,8,9,10,11,12,3,5,7,14,99]
  rw [goA_b hn2 hid (by simpa using h3)]
  refine mGet_of ?_
  rw [show mpGet n.id n.reqs.2=none from no_key fun x hx=>(hn.rk x hx).1]
  conv=>whnf
  rw [appK_eq]
  conv=>whnf
  refine mBorn_req hmf (fun x hx=>(hn.rk x hx).2) ?_
  conv=>whnf
  refine ⟨rfl,?_⟩
  conv=>whnf
  rw [wI64 (n:=n.id+1) (by have:=hn.i1; omega) (by omega),show IntKind.i64.wrap (-1-0) = -1 from rfl]
  refine clQ (send0_ok hH hS (-1) _ hmf.fit rfl rfl rfl) [] ?_
  conv=>whnf
  exact cv [0,1,2,3,4,5,6,7,8,9,10,11,12,3,5,7,14,15]
theorem tick_a {n:Nd} {now draw:Nat} {o:List Sd} {n2:Nd} (h1:((n.due now draw).1.ask now draw).1=n2) (h2:(n.due now draw).2++((n.due now draw).1.ask now draw).2=o) (h:n2.c.peers=0∨now<n2.tell):n.tick now draw=(n2,o):=by
 unfold Nd.tick
 simp only
 rw [h1,h2,if_pos h]
theorem tick_b {n:Nd} {now draw:Nat} {o:List Sd} {n2:Nd} (h1:((n.due now draw).1.ask now draw).1=n2) (h2:(n.due now draw).2++((n.due now draw).1.ask now draw).2=o) (h:¬ (n2.c.peers=0∨now<n2.tell)):n.tick now draw=({ n2 with turn:=(n2.turn+1)%n2.c.peers,tell:=addL now n2.c.gossip },o++[(((n2.turn:Nat):Int),Mg.enc { kind:=1,marks:=n2.marks })]):=by
 unfold Nd.tick
 simp only
 rw [h1,h2,if_neg h]
 rfl
theorem sendK_ok (hH:GHas G) (hS:GSha G) (d:Int) (m:Mg) (hf:m.fit) (h1:m.b.path=[]) (h2:m.path=[]):Tri Tryz.prog G 121 [i64 d,.a (mgN m nl nl (.s 0 0 m.marks.length false))] [mkRs m.marks] (.a (sdE (d,m.enc))) [mkRs m.marks]:=by
 obtain ⟨kind,log,id,mm,nn,h,⟨a,b,bp⟩,p,mk⟩:=m
 simp only at h1 h2
 subst h1 h2
 refine fn Tryz.func121 ?_
 conv=>whnf
 refine CallE.ph 9 ?_
 refine CallE.ph 9 ?_
 refine cl (menc_ok hH hS ⟨kind,log,id,mm,nn,h,⟨a,b,[]⟩,[],mk⟩ hf) [3,4,0] ?_
 conv=>whnf
 exact cv [0]
theorem sendB_ok (hH:GHas G) (hS:GSha G) (d:Int) (m:Mg) (hf:m.fit) (h2:m.path=[]) (h3:m.marks=[]):Tri Tryz.prog G 121 [i64 d,.a (mgN m (.s 0 0 m.b.path.length false) nl nl)] [sRs m.b.path] (.a (sdE (d,m.enc))) [sRs m.b.path]:=by
 obtain ⟨kind,log,id,mm,nn,h,b,p,mk⟩:=m
 simp only at h2 h3
 subst h2 h3
 refine fn Tryz.func121 ?_
 conv=>whnf
 refine CallE.ph 9 ?_
 refine CallE.ph 219 ?_
 refine cl (menc_ok hH hS ⟨kind,log,id,mm,nn,h,b,[],[]⟩ hf) [0,3,4] ?_
 conv=>whnf
 exact cv [0]
theorem marks_len (n:Nd):n.marks.length≤1:=by unfold Nd.marks; split <;> simp
theorem ntick_ok (hS:GSha G) (hH:GHas G) (n:Nd) (hn:n.ok) (hid:n.id<4611686018427387904) (now draw:Nat) (hnw:now<18446744073709551616) (hd:draw<18446744073709551616):Tri Tryz.prog G 73 [.p 0 0 0,u64 now,u64 draw] (ndH n) (.s 17 0 (n.tick now draw).2.length false) (ndP 13 14 15 16 (n.tick now draw).1++ndT (n.tick now draw).1++[sdRs (n.tick now draw).2]):=by
 obtain ⟨d1,d2,d3,d4,d5,d6⟩:=hn.due now draw
 obtain ⟨a1,a2,a3,a4,a5,a6⟩:=d1.ask (by rw [d4]; exact hid) now draw
 obtain ⟨n2,hn2⟩:∃ n2,((n.due now draw).1.ask now draw).1=n2:=⟨_,rfl⟩
 obtain ⟨o,ho⟩:∃ o,(n.due now draw).2++((n.due now draw).1.ask now draw).2=o:=⟨_,rfl⟩
 have hta:=tick_a hn2 ho
 have htb:=tick_b hn2 ho
 refine fn Tryz.func73 ?_
 conv=>whnf
 refine cl (ndue_ok hS hH n hn now draw hnw hd) [0,1,2,3,4,5,6,7,8,9,10,11,12] ?_
 have ka:=nask_ok (G:=G) hS hH (n.due now draw).1 d1 (by rw [d4]; exact hid) now draw hnw hd
 rw [hn2] at ka a1
 generalize (n.due now draw).1=n1 at ka d1 ho a6
 generalize (n.due now draw).2=o1 at ho d6
 conv=>whnf
 refine lu 2 ?_
 conv=>whnf
 refine cl ka [0,1,2,13,4,14,6,15,8,9,10,16,12] ?_
 generalize (n1.ask now draw).2=o2 at ho a6
 conv=>whnf
 refine ⟨⟨rfl,by simp⟩,?_⟩
 conv=>whnf
 refine ⟨by simp,?_⟩
 conv=>whnf
 refine ⟨⟨by omega,by simp⟩,?_⟩
 conv=>whnf
 have hol:o1.length+o2.length=o.length:=by rw [← ho,List.length_append]
 rw [← List.map_append,ho,hol]
 have hmt:=a1.tu
 refine br_of (fun h => ?_) (fun h => ?_) <;> rw [h] <;> conv=>whnf
 ·rw [hta (.inl (by have:=eq_of_beq h; omega))]
  exact cv [0,1,2,3,4,5,6,7,8,9,10,11,12,18,19,20,21,23]
 have hp0:n2.c.peers≠0:=by have:=beq_eq_false_iff_ne.1 h; omega
 refine br_of (fun h2 => ?_) (fun h2 => ?_) <;> conv=>whnf
 ·rw [hta (.inr (by have:=of_decide_eq_true h2; omega))]
  exact cv [0,1,2,3,4,5,6,7,8,9,10,11,12,18,19,20,21,23]
 rw [htb (by have:=of_decide_eq_false h2; omega)]
 refine clN (nmarks_ok n2) [0,1,2,18,4,19,6,20,8,9,10,21,12] [mkRs n2.marks] ?_
 conv=>whnf
 have hml:=marks_len n2
 refine clQ (sendK_ok hH hS (n2.turn:Nat) { kind:=1,marks:=n2.marks } ⟨show 0<_ by decide,show 0<_ by decide,show 0<_ by decide,show 0≤_ by decide,show 0≤_ by decide,by show n2.marks.length≤_; omega⟩ rfl rfl) [24] ?_
 conv=>whnf
 refine ⟨⟨rfl,rfl⟩,?_⟩
 conv=>whnf
 refine ⟨by simp,?_⟩
 conv=>whnf
 refine ⟨⟨by rw [← hol]; omega,by simp⟩,?_⟩
 conv=>whnf
 refine ⟨rfl,?_⟩
 conv=>whnf
 have hmtb:n2.turn<n2.c.peers:=by omega
 have hpe:=a1.c.p
 rw [wI64 (n:=(n2.turn:Int)+1) (by omega) (by omega),rem_some (by omega)]
 rw [show Int.tmod ((n2.turn:Int)+1) (n2.c.peers:Int)=(((n2.turn+1)%n2.c.peers:Nat):Int) from by rw [Int.tmod_eq_emod_of_nonneg (by omega)]; simp]
 conv=>whnf
 refine clQ (add_ok now n2.c.gossip hnw (by have:=a1.c.g2; omega)) [] ?_
 conv=>whnf
 refine ⟨rfl,?_⟩
 conv=>whnf
 exact cw [0,1,2,3,4,5,6,7,8,9,10,11,12,18,19,20,21,26]
end Go.Proofs.YtdhgpocbcccieaaGreatDoor.M
