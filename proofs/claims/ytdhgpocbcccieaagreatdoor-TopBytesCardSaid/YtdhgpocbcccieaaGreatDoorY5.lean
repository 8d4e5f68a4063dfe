/- Part 5 of the proof: Kb Kc Kd Ke Kf Li Kl Kn Lj Kg Kh Ko Ki Kj Kk Kp Lk Ll Lq WdSpec WdTurn Lr Ls Lt Ps. -/
import Derived.Test.YtdhgpocbcccieaaGreatDoorRows
import Derived.WalkKit
import Derived.WalkLawsBesides
import Derived.Lib.Hide
import Derived.Deep.QuietTactic
import Derived.BigQuiet
import Derived.Deep.RegionHeld3
import Derived.RegionTactic
import Derived.Deep.DeepCutAuto
import Derived.Deep.CutBlock
import Derived.Deep.LoopGhost
import Derived.StillTailTactics
import Derived.IntWalk
import Derived.Test.YtdhgpocbcccieaaGreatDoorY3
import Derived.Test.YtdhgpocbcccieaaGreatDoorY4
set_option maxRecDepth 1000000
set_option maxHeartbeats 20000000
set_option linter.unusedVariables false
set_option linter.unusedSimpArgs false
namespace Go.Proofs.YtdhgpocbcccieaaGreatDoor.M
open Go Go.RowKit Go.Proofs.YtdhgpocbcccieaaGreatDoor.E
variable {G:Gl}
abbrev zi (x:Int):E.EV := .v (.int .i64 x)
abbrev el (f:Dg):List E.EV:=[zi (f 0),zi (f 1),zi (f 2),zi (f 3),zi (f 4),zi (f 5),zi (f 6),zi (f 7),zi (f 8),zi (f 9),zi (f 10),zi (f 11),zi (f 12),zi (f 13),zi (f 14),zi (f 15)]
abbrev elB (f:Dg):EB := .r 172 (el f)
abbrev el2 (f:Dg):List E.EV:=el f++el fun i=>f (i+16)
theorem lt16 {P:Nat→Prop} (h:P 0∧P 1∧P 2∧P 3∧P 4∧P 5∧P 6∧P 7∧P 8∧P 9∧P 10∧P 11∧P 12∧P 13∧P 14∧P 15) {k:Nat} (hk:k<16):P k:=by
 have:k=0∨k=1∨k=2∨k=3∨k=4∨k=5∨k=6∨k=7∨k=8∨k=9∨k=10∨k=11∨k=12∨k=13∨k=14∨k=15:=by omega
 obtain ⟨h0,h1,h2,h3,h4,h5,h6,h7,h8,h9,h10,h11,h12,h13,h14,h15⟩:=h
 rcases this with rfl | rfl | rfl | rfl | rfl | rfl | rfl | rfl | rfl | rfl | rfl | rfl | rfl | rfl | rfl | rfl <;> assumption
theorem el_at (f:Dg) {k:Nat} (h:k<16):(el f)[k]? = some (zi (f k)):=lt16 (P:=fun k=>(el f)[k]? = some (zi (f k))) ⟨rfl,rfl,rfl,rfl,rfl,rfl,rfl,rfl,rfl,rfl,rfl,rfl,rfl,rfl,rfl,rfl⟩ h
theorem el_st {f:Dg} {k:Nat} {x:Int} (h:k<16):(el f).set k (zi x)=el (up f k x):=lt16 (P:=fun k=>(el f).set k (zi x)=el (up f k x)) ⟨rfl,rfl,rfl,rfl,rfl,rfl,rfl,rfl,rfl,rfl,rfl,rfl,rfl,rfl,rfl,rfl⟩ h
theorem el2_at (f:Dg) {k:Nat} (h:k<32):(el2 f)[k]? = some (zi (f k)):=by
 by_cases e:k<16
 ·rw [List.getElem?_append_left (by exact e)]; exact el_at f e
 ·rw [List.getElem?_append_right (by show 16≤k; omega)]
  have:=el_at (fun i=>f (i+16)) (k:=k-16) (by omega)
  rw [show k-(el f).length=k-16 from rfl,this,show k-16+16=k by omega]
theorem el2_st {f:Dg} {k:Nat} {x:Int} (h:k<32):(el2 f).set k (zi x)=el2 (up f k x):=by
 refine List.ext_getElem? fun j => ?_
 by_cases hj:j<32
 ·rw [el2_at _ hj,List.getElem?_set]
  by_cases e:k=j
  ·subst e; rw [if_pos rfl,if_pos (by exact h),up_s]
  ·rw [if_neg e,el2_at _ hj,up_n (Ne.symm e)]
 ·rw [List.getElem?_eq_none (by rw [List.length_set]; show 32≤j; omega),List.getElem?_eq_none (by show 32≤j; omega)]
theorem wh (k:Nat):0+(k:Int).toNat*Tryz.prog.cellsOf 2=k:=by rw [show Tryz.prog.cellsOf 2=1 from rfl]; simp
theorem lda {row:List E.EV} {k:Nat} {x:E.EV} (h:row[k]? = some x):row[0+(k:Int).toNat*Tryz.prog.cellsOf 2]? = some x:=by rw [wh]; exact h
theorem ldx {row:List E.EV} {k:Nat} {x:E.EV} (h:row[k]? = some x):row[(k:Int).toNat*Tryz.prog.cellsOf 2]? = some x:=by rw [show Tryz.prog.cellsOf 2=1 from rfl]; simpa using h
theorem sta {row:List E.EV} {k:Nat} {x:Int} {K:List E.EV→Prop} (n:Nat) (h:k<row.length) {r2:List E.EV} (e:row.set k (zi x)=r2) (hk:K r2):br (Nat.ble (0+(k:Int).toNat*Tryz.prog.cellsOf 2+[zi x].length) row.length) (setsK row (0+(k:Int).toNat*Tryz.prog.cellsOf 2) [zi x] K) False:=by
 rw [wh]
 refine br_t (Nat.ble_eq_true_of_le h) ?_
 rw [setsK_eq,show setsL row k [zi x]=row.set k (zi x) from rfl,e]
 exact hk
theorem in_ {i n:Nat} (h:decide ((i:Int)<(n:Int))=true):i<n:=by have:=of_decide_eq_true h; omega
theorem cvq {ρ:List Nat} {d:Nat} {l l':List E.EV} (e:l=l') (h:l'.all EV.isV=true):covR ρ d l l':=by subst e; exact cov_pl h
theorem p16:(2:Int) ^ min (Int.toNat 16) IntKind.i64.bits=65536:=by decide
theorem fd16 (x:Int):x.fdiv 65536=x/65536:=Int.fdiv_eq_ediv_of_nonneg _ (by decide)
theorem carry_ok (f:Dg):Tri Tryz.prog G 233 [.p 0 0 0] [elB f] (.t []) [elB (car f)]:=by
 obtain ⟨R,hR⟩:∃ R,car f=R:=⟨_,rfl⟩
 rw [hR]
 unfold car at hR
 refine fn Tryz.func233 ?_
 conv=>whnf
 refine lp2 (fun (i:Nat) (f:Dg)=>([(0,.p 0 0 0),(4,zi (i:Nat))],[elB f])) (fun i g=>i≤16∧carF (16-i) i g=R) (fun i _=>16-i) 0 f ⟨by omega,hR⟩ (cv [0]) fun i f ⟨hi,hx⟩ => ?_
 conv=>whnf
 refine br_of (fun h => ?_) (fun h => ?_) <;> conv=>whnf
 ·have h:i<16:=in_ h
  rw [show 16-i=(16-(i+1))+1 by omega] at hx
  iterate 60 (first
   | (refine ⟨rfl,?_⟩; conv=>whnf)
   | (refine ⟨by omega,?_⟩; conv=>whnf)
   | (refine ob_of _ (lda (el_at _ h)) ?_; conv=>whnf)
   | (refine sta 0 h (el_st h) ?_; conv=>whnf)
   | skip)
  refine br_of (fun h1 => ?_) (fun h1 => ?_) <;> conv=>whnf
  ·have h1:i<15:=in_ h1
   rw [show IntKind.i64.wrap ((i:Int)+1)=((i+1:Nat):Int) from w64_of (by omega)]
   iterate 60 (first
    | (refine ⟨rfl,?_⟩; conv=>whnf)
    | (refine ⟨by omega,?_⟩; conv=>whnf)
    | (refine ob_of _ (lda (el_at _ (show i+1<16 by omega))) ?_; conv=>whnf)
    | (refine sta 0 (show i+1<16 by omega) (el_st (by omega)) ?_; conv=>whnf)
    | skip)
   refine ⟨(i+1,carS f i),⟨⟨by omega,hx⟩,by simp only; omega⟩,cv [0] (h4:=⟨.inl rfl,.inl (congrArg zi (w64_of (by omega))),trivial⟩) (h5:=⟨⟨_,rfl,cvq (congrArg el (by unfold carS; simp only [p16,fd16,if_pos h1])) rfl⟩,trivial⟩)⟩
  ·have h1:i=15:=by have:=of_decide_eq_false h1; omega
   iterate 60 (first
    | (refine ⟨rfl,?_⟩; conv=>whnf)
    | (refine ⟨by omega,?_⟩; conv=>whnf)
    | skip)
   refine ⟨(i+1,carS f i),⟨⟨by omega,hx⟩,by simp only; omega⟩,cv [0] (h4:=⟨.inl rfl,.inl (congrArg zi (w64_of (by omega))),trivial⟩) (h5:=⟨⟨_,rfl,cvq (l':=el (carS f i)) (by unfold carS; simp only [p16,fd16,if_neg (show ¬ i<15 by omega)]; rfl) rfl⟩,trivial⟩)⟩
 ·have h:i=16:=by have:=of_decide_eq_false h; omega
  subst h
  cases hx
  exact cv [0]
theorem mul_ok (a b:Dg):Tri Tryz.prog G 167 [.a (el a),.a (el b)] [] (.a (el (mulD a b))) []:=by
 obtain ⟨T,hT⟩:∃ T,mulI a b 16 0 zD=T:=⟨_,rfl⟩
 obtain ⟨F,hF⟩:∃ F,folS T 16 0 a=F:=⟨_,rfl⟩
 rw [show mulD a b=car (car F) by unfold mulD; rw [hT,hF]]
 refine fn Tryz.func167 ?_
 conv=>whnf
 refine lp2 (fun (i:Nat) (t:Dg)=>([(2,.p 0 0 0),(3,.p 1 0 0),(4,.p 2 0 0),(5,.p 3 0 0),(12,.a (el a)),(13,zi (i:Nat))],[elB a,elB b,elB zD,.r 317 (el2 t)])) (fun i t=>i≤16∧mulI a b (16-i) i t=T) (fun i _=>16-i) 0 zD ⟨by omega,hT⟩ (cv [0,1,2,3]) fun i t ⟨hi,hx⟩ => ?_
 conv=>whnf
 refine br_of (fun h => ?_) (fun h => ?_) <;> conv=>whnf
 ·have h:i<16:=in_ h
  rw [show 16-i=(16-(i+1))+1 by omega] at hx
  obtain ⟨T1,hT1⟩:∃ T1,mulJ i (a i) b 16 0 t=T1:=⟨_,rfl⟩
  have hx:mulI a b (16-(i+1)) (i+1) (mulJ i (a i) b 16 0 t)=T:=hx
  rw [hT1] at hx
  refine ⟨by omega,?_⟩
  conv=>whnf
  refine ob_of _ (ldx (el_at a h)) ?_
  conv=>whnf
  refine lp2 (fun (j:Nat) (t:Dg)=>([(2,.p 0 0 0),(3,.p 1 0 0),(4,.p 2 0 0),(5,.p 3 0 0),(6,zi (i:Nat)),(7,zi (a i)),(12,.a (el a)),(13,zi (i:Nat)),(18,.a (el b)),(19,zi (j:Nat))],[elB a,elB b,elB zD,.r 317 (el2 t)])) (fun j t=>j≤16∧mulJ i (a i) b (16-j) j t=T1) (fun j _=>16-j) 0 t ⟨by omega,hT1⟩ (cv [0,1,2,3]) fun j t ⟨hj,hy⟩ => ?_
  conv=>whnf
  refine br_of (fun h1 => ?_) (fun h1 => ?_) <;> conv=>whnf
  ·have h1:j<16:=in_ h1
   rw [show 16-j=(16-(j+1))+1 by omega] at hy
   refine ⟨by omega,?_⟩
   conv=>whnf
   refine ob_of _ (ldx (el_at b h1)) ?_
   conv=>whnf
   rw [show IntKind.i64.wrap ((i:Int)+(j:Int))=((i+j:Nat):Int) from w64_of (by omega)]
   refine ⟨by omega,?_⟩
   conv=>whnf
   refine ob_of _ (lda (el2_at _ (by omega))) ?_
   conv=>whnf
   refine ⟨by omega,?_⟩
   conv=>whnf
   refine sta 0 (show i+j<32 by omega) (el2_st (by omega)) ?_
   conv=>whnf
   exact ⟨(j+1,_),⟨⟨by omega,hy⟩,by simp only; omega⟩,cv [0,1,2,3] (h4:=⟨.inl rfl,.inl rfl,.inl rfl,.inl rfl,.inl rfl,.inl rfl,.inl rfl,.inl rfl,.inl rfl,.inl (congrArg zi (w64_of (by omega))),trivial⟩)⟩
  ·have h1:j=16:=by have:=of_decide_eq_false h1; omega
   subst h1
   have hy:t=T1:=hy
   subst hy
   exact ⟨(i+1,_),⟨⟨by omega,hx⟩,by simp only; omega⟩,cv [0,1,2,3] (h4:=⟨.inl rfl,.inl rfl,.inl rfl,.inl rfl,.inl rfl,.inl (congrArg zi (w64_of (by omega))),trivial⟩)⟩
 ·have h:i=16:=by have:=of_decide_eq_false h; omega
  subst h
  have hx:t=T:=hx
  subst hx
  refine lp2 (fun (i:Nat) (f:Dg)=>([(2,.p 0 0 0),(4,.p 2 0 0),(5,.p 3 0 0),(35,zi (i:Nat))],[elB f,.g,elB zD,.r 317 (el2 t)])) (fun i f=>i≤16∧folS t (16-i) i f=F) (fun i _=>16-i) 0 a ⟨by omega,hF⟩ (cv [0,1,2,3]) fun i f ⟨hi,hx⟩ => ?_
  conv=>whnf
  refine br_of (fun h => ?_) (fun h => ?_) <;> conv=>whnf
  ·have h:i<16:=in_ h
   rw [show 16-i=(16-(i+1))+1 by omega] at hx
   refine ⟨by omega,?_⟩
   conv=>whnf
   refine ob_of _ (lda (el2_at _ (by omega))) ?_
   conv=>whnf
   rw [show IntKind.i64.wrap ((i:Int)+16)=((i+16:Nat):Int) from w64_of (by omega)]
   refine ⟨by omega,?_⟩
   conv=>whnf
   refine ob_of _ (lda (el2_at _ (by omega))) ?_
   conv=>whnf
   refine ⟨by omega,?_⟩
   conv=>whnf
   refine sta 0 h (el_st h) ?_
   conv=>whnf
   refine ⟨rfl,?_⟩
   conv=>whnf
   exact ⟨(i+1,_),⟨⟨by omega,hx⟩,by simp only; omega⟩,cv [0,1,2,3] (h4:=⟨.inl rfl,.inl rfl,.inl rfl,.inl (congrArg zi (w64_of (by omega))),trivial⟩)⟩
  ·have h:i=16:=by have:=of_decide_eq_false h; omega
   subst h
   have hx:f=F:=hx
   subst hx
   refine cl (carry_ok f) [0] ?_
   conv=>whnf
   refine cl (carry_ok (car f)) [0] ?_
   conv=>whnf
   exact cv []
theorem sum_ok (a b:Dg):Tri Tryz.prog G 226 [.a (el a),.a (el b)] [] (.a (el (addD a b))) []:=by
 obtain ⟨F,hF⟩:∃ F,sumS 1 b 16 0 a=F:=⟨_,rfl⟩
 rw [show addD a b=car F by unfold addD; rw [hF]]
 refine fn Tryz.func226 ?_
 conv=>whnf
 refine lp2 (fun (i:Nat) (f:Dg)=>([(2,.p 0 0 0),(3,.p 1 0 0),(4,.p 2 0 0),(6,zi (i:Nat))],[elB f,elB b,elB zD])) (fun i f=>i≤16∧sumS 1 b (16-i) i f=F) (fun i _=>16-i) 0 a ⟨by omega,hF⟩ (cv [0,1,2]) fun i f ⟨hi,hx⟩ => ?_
 conv=>whnf
 refine br_of (fun h => ?_) (fun h => ?_) <;> conv=>whnf
 ·have h:i<16:=in_ h
  rw [show 16-i=(16-(i+1))+1 by omega] at hx
  have hx:sumS 1 b (16-(i+1)) (i+1) (up f i (w64 (f i+1*b i)))=F:=hx
  rw [Int.one_mul] at hx
  iterate 2
   refine ⟨by omega,?_⟩
   conv=>whnf
   refine ob_of _ (lda (el_at _ h)) ?_
   conv=>whnf
  refine ⟨by omega,?_⟩
  conv=>whnf
  refine sta 0 h (el_st h) ?_
  conv=>whnf
  refine ⟨rfl,?_⟩
  conv=>whnf
  exact ⟨(i+1,_),⟨⟨by omega,hx⟩,by simp only; omega⟩,cv [0,1,2] (h4:=⟨.inl rfl,.inl rfl,.inl rfl,.inl (congrArg zi (w64_of (by omega))),trivial⟩)⟩
 ·have h:i=16:=by have:=of_decide_eq_false h; omega
  subst h
  have hx:f=F:=hx
  subst hx
  refine cl (carry_ok f) [0] ?_
  conv=>whnf
  exact cv []
theorem dif_ok (a b:Dg):Tri Tryz.prog G 224 [.a (el a),.a (el b)] [] (.a (el (subD a b))) []:=by
 obtain ⟨F,hF⟩:∃ F,sumS (-1) b 16 0 a=F:=⟨_,rfl⟩
 rw [show subD a b=car F by unfold subD; rw [hF]]
 refine fn Tryz.func224 ?_
 conv=>whnf
 refine lp2 (fun (i:Nat) (f:Dg)=>([(2,.p 0 0 0),(3,.p 1 0 0),(4,.p 2 0 0),(6,zi (i:Nat))],[elB f,elB b,elB zD])) (fun i f=>i≤16∧sumS (-1) b (16-i) i f=F) (fun i _=>16-i) 0 a ⟨by omega,hF⟩ (cv [0,1,2]) fun i f ⟨hi,hx⟩ => ?_
 conv=>whnf
 refine br_of (fun h => ?_) (fun h => ?_) <;> conv=>whnf
 ·have h:i<16:=in_ h
  rw [show 16-i=(16-(i+1))+1 by omega] at hx
  have hx:sumS (-1) b (16-(i+1)) (i+1) (up f i (w64 (f i + -1*b i)))=F:=hx
  rw [show f i + -1*b i=f i-b i by omega] at hx
  iterate 2
   refine ⟨by omega,?_⟩
   conv=>whnf
   refine ob_of _ (lda (el_at _ h)) ?_
   conv=>whnf
  refine ⟨by omega,?_⟩
  conv=>whnf
  refine sta 0 h (el_st h) ?_
  conv=>whnf
  refine ⟨rfl,?_⟩
  conv=>whnf
  exact ⟨(i+1,_),⟨⟨by omega,hx⟩,by simp only; omega⟩,cv [0,1,2] (h4:=⟨.inl rfl,.inl rfl,.inl rfl,.inl (congrArg zi (w64_of (by omega))),trivial⟩)⟩
 ·have h:i=16:=by have:=of_decide_eq_false h; omega
  subst h
  have hx:f=F:=hx
  subst hx
  refine cl (carry_ok f) [0] ?_
  conv=>whnf
  exact cv []
theorem neg_ok (a:Dg):Tri Tryz.prog G 229 [.a (el a)] [] (.a (el (subD zD a))) []:=by
 refine fn Tryz.func229 ?_
 conv=>whnf
 refine cl (dif_ok zD a) [] ?_
 conv=>whnf
 exact cv []
theorem and1 (n:Int):IntKind.i64.wrap ↑(BitVec.ofInt IntKind.i64.bits n&&&BitVec.ofInt IntKind.i64.bits 1).toNat=n%2:=by
 have h1:(BitVec.ofInt 64 1).toNat=2 ^ 1-1:=by decide
 have key:(BitVec.ofInt 64 n&&&BitVec.ofInt 64 1).toNat=(n%((2 ^ 64:Nat):Int)).toNat%2 ^ 1:=by
  rw [BitVec.toNat_and,BitVec.toNat_ofInt,h1,Nat.and_two_pow_sub_one_eq_mod]
 show IntKind.i64.wrap ((BitVec.ofInt 64 n&&&BitVec.ofInt 64 1).toNat:Nat)=n%2
 rw [key,IntKind.wrap_i64]
 omega
theorem and65535 (n:Int):IntKind.i64.wrap ↑(BitVec.ofInt IntKind.i64.bits n&&&BitVec.ofInt IntKind.i64.bits 65535).toNat=n%65536:=by
 have h1:(BitVec.ofInt 64 65535).toNat=2 ^ 16-1:=by decide
 have key:(BitVec.ofInt 64 n&&&BitVec.ofInt 64 65535).toNat=(n%((2 ^ 64:Nat):Int)).toNat%2 ^ 16:=by
  rw [BitVec.toNat_and,BitVec.toNat_ofInt,h1,Nat.and_two_pow_sub_one_eq_mod]
 show IntKind.i64.wrap ((BitVec.ofInt 64 n&&&BitVec.ofInt 64 65535).toNat:Nat)=n%65536
 rw [key,IntKind.wrap_i64]
 omega
abbrev arB (f:Dg):EB := .r 170 (el f)
theorem less_ok (t:Dg):Tri Tryz.prog G 234 [.a (el t)] [] (.t [.a (el (lesD t)),.v (.bool (lesB t))]) []:=by
 obtain ⟨R,hR⟩:∃ R,lesD t=R:=⟨_,rfl⟩
 rw [show lesB t=(R 15/65536%2==1) by unfold lesB; rw [hR],hR]
 unfold lesD at hR
 refine fn Tryz.func234 ?_
 conv=>whnf
 iterate 2
  refine ⟨by decide,?_⟩
  conv=>whnf
 refine lp2 (fun (i:Nat) (m:Dg)=>([(2,.p 1 0 0),(4,.p 2 0 0),(5,zi (i+1:Nat))],[arB t,arB zD,arB m])) (fun i m=>i≤15∧lesF (15-i) (i+1) m=R) (fun i _=>15-i) 0 (up t 0 (w64 (t 0-65517))) ⟨by omega,hR⟩ (cv [0,1,2]) fun i m ⟨hi,hx⟩ => ?_
 conv=>whnf
 refine br_of (fun h => ?_) (fun h => ?_) <;> conv=>whnf
 ·have h:i+1<16:=in_ h
  rw [show 15-i=(15-(i+1))+1 by omega] at hx
  have hx:lesF (15-(i+1)) (i+1+1) (lesS m (i+1))=R:=hx
  refine br_of (fun h1 => ?a) (fun h1 => ?b) <;> conv=>whnf
  case' a=>have hp:pD (i+1)=65535:=if_pos (in_ h1)
  case' b=>have hp:pD (i+1)=32767:=if_neg (by have:=of_decide_eq_false h1; omega)
  all_goals
   refine ⟨by omega,?_⟩
   conv=>whnf
   refine ob_of _ (lda (el_at m h)) ?_
   conv=>whnf
   refine ⟨by omega,?_⟩
   conv=>whnf
   refine sta 0 h (el_st h) ?_
   conv=>whnf
   refine ⟨by omega,?_⟩
   conv=>whnf
   refine ob_of _ (lda (el_at _ h)) ?_
   conv=>whnf
   rw [show IntKind.i64.wrap (((i+1:Nat):Int)-1)=((i:Nat):Int) by rw [show ((i+1:Nat):Int)-1=(i:Nat) by omega]; exact w64_of (by omega)]
   refine ⟨by omega,?_⟩
   conv=>whnf
   refine ob_of _ (lda (el_at _ (by omega))) ?_
   conv=>whnf
   refine ⟨by omega,?_⟩
   conv=>whnf
   refine sta 0 h (el_st h) ?_
   conv=>whnf
   refine ⟨rfl,?_⟩
   conv=>whnf
   rw [show IntKind.i64.wrap (((i+1:Nat):Int)-1)=((i:Nat):Int) by rw [show ((i+1:Nat):Int)-1=(i:Nat) by omega]; exact w64_of (by omega)]
   refine ⟨by omega,?_⟩
   conv=>whnf
   refine ob_of _ (lda (el_at _ (show i<16 by omega))) ?_
   conv=>whnf
   refine ⟨by omega,?_⟩
   conv=>whnf
   refine sta 0 (show i<16 by omega) (el_st (by omega)) ?_
   conv=>whnf
   refine ⟨(i+1,lesS m (i+1)),⟨⟨by omega,hx⟩,by simp only; omega⟩,cv [0,1,2] (h4:=⟨.inl rfl,.inl rfl,.inl (congrArg zi (w64_of (x:=((i+1:Nat):Int)+1) (by omega))),trivial⟩) (h5:=⟨⟨_,rfl,cvq rfl rfl⟩,⟨_,rfl,cvq rfl rfl⟩,⟨_,rfl,cvq (congrArg el ?_) rfl⟩,trivial⟩)⟩
   unfold lesS
   simp only [hp,and1,and65535,p16,fd16,Nat.add_sub_cancel]
 ·have h:i=15:=by have:=of_decide_eq_false h; omega
  subst h
  have hx:m=R:=hx
  subst hx
  refine ⟨by decide,?_⟩
  conv=>whnf
  refine ⟨rfl,?_⟩
  conv=>whnf
  rw [and1,p16,fd16]
  exact cv []
def cuD (l:Bs):Dg:=fun i=>((l.getD (2*i) 0).toNat:Int)+256*((l.getD (2*i+1) 0).toNat:Int)
theorem orB (a c:Nat) (ha:a<256) (hc:c<256):IntKind.i64.wrap ↑(BitVec.ofInt IntKind.i64.bits (a:Int)|||BitVec.ofInt IntKind.i64.bits ((256*c:Nat):Int)).toNat=((a+256*c:Nat):Int):=by
 have key:(BitVec.ofInt 64 (a:Int)|||BitVec.ofInt 64 ((256*c:Nat):Int)).toNat=a+256*c:=by
  rw [BitVec.toNat_or,BitVec.toNat_ofInt,BitVec.toNat_ofInt,Nat.or_comm,Nat.add_comm]
  rw [show (((256*c:Nat):Int)%((2 ^ 64:Nat):Int)).toNat=2 ^ 8*c by omega,show ((a:Int)%((2 ^ 64:Nat):Int)).toNat=a by omega]
  exact (Nat.two_pow_add_eq_or_of_lt (by exact ha) c).symm
 show IntKind.i64.wrap ((BitVec.ofInt 64 (a:Int)|||BitVec.ofInt 64 ((256*c:Nat):Int)).toNat:Nat)=_
 rw [key]
 exact w64_of (by omega)
theorem orK (c:Nat) (hc:c<256):IntKind.i64.wrap ↑(BitVec.ofInt IntKind.i64.bits 0|||BitVec.ofInt IntKind.i64.bits (c:Int)).toNat=(c:Int):=by
 have key:(BitVec.ofInt 64 0|||BitVec.ofInt 64 (c:Int)).toNat=c:=by
  rw [show BitVec.ofInt 64 0=0#64 from rfl,BitVec.zero_or,BitVec.toNat_ofInt]
  omega
 show IntKind.i64.wrap ((BitVec.ofInt 64 0|||BitVec.ofInt 64 (c:Int)).toNat:Nat)=_
 rw [key]
 exact w64_of (by omega)
theorem gtk (l:Bs) (i j:Nat):(l.take i).getD j 0=if j<i then l.getD j 0 else 0:=by
 rw [List.getD_eq_getElem?_getD,List.getElem?_take,List.getD_eq_getElem?_getD]
 split <;> rfl
theorem cuD_s {l:Bs} {i:Nat} {f:Dg} {x:Int} (h:i<l.length) (hx:x=cuD (l.take (i+1)) (i/2)):up (cuD (l.take i)) (i/2) x=cuD (l.take (i+1)):=by
 funext j
 by_cases e:j=i/2
 ·rw [e,up_s,hx]
 ·rw [up_n e]
  unfold cuD
  rw [gtk,gtk,gtk,gtk]
  congr 2
  ·by_cases h1:2*j<i
   ·rw [if_pos h1,if_pos (by omega)]
   ·rw [if_neg h1,if_neg (by omega)]
  ·by_cases h1:2*j+1<i
   ·rw [if_pos h1,if_pos (by omega)]
   ·rw [if_neg h1,if_neg (by omega)]
theorem fcut_ok (s:Bs):Tri Tryz.prog G 225 [sv s] [] (.a (el (cuD (s.take 32)))) []:=by
 refine fn Tryz.func225 ?_
 conv=>whnf
 have hsz:=sB_size s
 rw [show (if (32:Int)<(((sB s).size:Nat):Int) then (32:Int) else (((sB s).size:Nat):Int))=((min s.length 32:Nat):Int) by rw [hsz]; split <;> omega]
 refine ⟨⟨by decide,by omega,by rw [hsz]; omega⟩,?_⟩
 conv=>whnf
 rw [show (sB s).extract (Int.toNat 0) (((min s.length 32:Nat):Int)).toNat=sB (s.take 32) from by
  rw [sB_ext]
  congr 1
  simp
  omega]
 have hl:(s.take 32).length≤32:=by rw [List.length_take]; omega
 generalize s.take 32=l at hl
 refine ⟨by rw [sB_size]; omega,?_⟩
 conv=>whnf
 refine lp1 (fun (i:Nat)=>([(2,.p 0 0 0),(3,.p 1 0 0),(11,.s 2 0 l.length false),(12,zi (l.length:Nat)),(13,zi (i:Nat))],[elB zD,elB (cuD (l.take i)),by_ l])) (fun i=>i≤l.length) (fun i=>l.length-i) 0 (by omega) (cv [0,1,2]) fun i hi => ?_
 conv=>whnf
 refine br_of (fun h => ?_) (fun h => ?_) <;> conv=>whnf
 ·have h:i<l.length:=in_ h
  refine ⟨by omega,?_⟩
  conv=>whnf
  refine ob_of [.v (.int .u8 (l[i].toNat:Nat))] (by simp [byR,h]) ?_
  conv=>whnf
  have e2:IntKind.i64.wrap ((i:Int).tdiv 2)=((i/2:Nat):Int):=by
   rw [Int.tdiv_eq_ediv_of_nonneg (by omega)]
   exact (w64_of (by omega)).trans (by omega)
  rw [e2]
  refine ⟨by omega,?_⟩
  conv=>whnf
  refine ob_of _ (lda (el_at _ (show i/2<16 by omega))) ?_
  conv=>whnf
  have hc:=l[i].toNat_lt
  have hw1:IntKind.i64.wrap (l[i].toNat:Int)=l[i].toNat:=w64_of (by omega)
  rcases (by omega:i%2=0∨i%2=1) with h2 | h2
  ·rw [show IntKind.i64.wrap (8*(i:Int).tmod 2)=0 by rw [Int.tmod_eq_emod_of_nonneg (by omega)]; exact (w64_of (by omega)).trans (by omega)]
   conv=>whnf
   refine ⟨by omega,?_⟩
   conv=>whnf
   refine sta 0 (show i/2<16 by omega) ((el_st (by omega)).trans (congrArg el (cuD_s (f:=zD) h ?_))) ?_
   ·have e1:cuD (l.take i) (i/2)=0:=by
     unfold cuD
     rw [gtk,gtk,if_neg (by omega),if_neg (by omega)]
     rfl
    have e3:cuD (l.take (i+1)) (i/2)=(l[i].toNat:Int):=by
     unfold cuD
     rw [gtk,gtk,if_pos (by omega),if_neg (by omega),show 2*(i/2)=i by omega,List.getD_eq_getElem?_getD,List.getElem?_eq_getElem h]
     simp
    rw [e1,e3,hw1,show (2:Int) ^ min (Int.toNat 0) IntKind.i64.bits=1 by decide,Int.mul_one,hw1]
    exact orK _ (by omega)
   conv=>whnf
   refine ⟨rfl,?_⟩
   conv=>whnf
   exact ⟨i+1,⟨h,by omega⟩,cv [0,1,2] (h4:=⟨.inl rfl,.inl rfl,.inl rfl,.inl rfl,.inl (congrArg zi (w64_of (by omega))),trivial⟩)⟩
  ·rw [show IntKind.i64.wrap (8*(i:Int).tmod 2)=8 by rw [Int.tmod_eq_emod_of_nonneg (by omega)]; exact (w64_of (by omega)).trans (by omega)]
   conv=>whnf
   refine ⟨by omega,?_⟩
   conv=>whnf
   refine sta 0 (show i/2<16 by omega) ((el_st (by omega)).trans (congrArg el (cuD_s (f:=zD) h ?_))) ?_
   ·have hd:=(l.getD (2*(i/2)) 0).toNat_lt
    have e1:cuD (l.take i) (i/2)=((l.getD (2*(i/2)) 0).toNat:Int):=by
     unfold cuD
     rw [gtk,gtk,if_pos (by omega),if_neg (by omega)]
     simp
    have e3:cuD (l.take (i+1)) (i/2)=(((l.getD (2*(i/2)) 0).toNat+256*l[i].toNat:Nat):Int):=by
     unfold cuD
     rw [gtk,gtk,if_pos (by omega),if_pos (by omega),show 2*(i/2)+1=i by omega,List.getD_eq_getElem?_getD (i:=i),List.getElem?_eq_getElem h]
     simp
    rw [e1,e3,hw1,show (2:Int) ^ min (Int.toNat 8) IntKind.i64.bits=256 by decide,show IntKind.i64.wrap ((l[i].toNat:Int)*256)=(l[i].toNat:Int)*256 from w64_of (by omega),show (l[i].toNat:Int)*256=((256*l[i].toNat:Nat):Int) by omega]
    exact orB _ _ (by omega) (by omega)
   conv=>whnf
   refine ⟨rfl,?_⟩
   conv=>whnf
   exact ⟨i+1,⟨h,by omega⟩,cv [0,1,2] (h4:=⟨.inl rfl,.inl rfl,.inl rfl,.inl rfl,.inl (congrArg zi (w64_of (by omega))),trivial⟩)⟩
 ·have h:i=l.length:=by have:=of_decide_eq_false h; omega
  subst h
  rw [List.take_length]
  exact cv []
def nuD (n:Int):Dg:=up zD 0 n
theorem fnum_ok (n:Int) (h:n=1∨n=2):Tri Tryz.prog G 223 [.v (.int .u64 n)] [] (.a (el (nuD n))) []:=by
 rcases h with rfl | rfl
 all_goals
  refine fn Tryz.func223 ?_
  conv=>whnf
  refine lu 5 ?_
  conv=>whnf
  iterate 4
   refine ⟨by decide,?_⟩
   conv=>whnf
  exact cv [] (h4:=⟨.inl (by kernel_rfl),trivial⟩)
def powF (sk:Nat→Bool) (a:Dg):Nat→Dg→Dg
 | 0,c=>c
 | k+1,c=>powF sk a k (if sk k then mulD c c else mulD (mulD c c) a)
@[irreducible] def powD (top:Nat) (sk:Nat→Bool) (a:Dg):Dg:=powF sk a top a
theorem pof_ok (top:Nat) (ht:top≤1000) (sk:Nat→Bool) (g:Nat) (hg:∀ i:Nat,Tri Tryz.prog G g [zi (i:Nat)] [] (.v (.bool (sk i))) []) (a:Dg):Tri Tryz.prog G 232 [.a [zi (top:Nat),.f g [] []],.a (el a)] [] (.a (el (powD top sk a))) []:=by
 obtain ⟨R,hR⟩:∃ R,powD top sk a=R:=⟨_,rfl⟩
 rw [hR]
 unfold powD at hR
 refine fn Tryz.func232 ?_
 conv=>whnf
 rw [show IntKind.i64.wrap ((top:Int)-1)=(top:Int)-1 from w64_of (by omega)]
 refine lp2 (fun (k:Nat) (c:Dg)=>([(2,.p 0 0 0),(3,.p 1 0 0),(4,.p 2 0 0),(5,.p 3 0 0),(6,zi ((k:Int)-1))],[.r 316 [zi (top:Nat),.f g [] []],elB a,elB zD,elB c])) (fun k c=>k≤top∧powF sk a k c=R) (fun k _=>k) top a ⟨by omega,hR⟩ (cv [0,1,2,3]) fun k c ⟨hk,hx⟩ => ?_
 conv=>whnf
 refine br_of (fun h => ?_) (fun h => ?_) <;> conv=>whnf
 ·obtain ⟨j,rfl⟩:∃ j,k=j+1:=⟨k-1,by have:=of_decide_eq_true h; omega⟩
  have hx:powF sk a j (if sk j then mulD c c else mulD (mulD c c) a)=R:=hx
  refine cl (mul_ok c c) [] ?_
  conv=>whnf
  rw [show ((j+1:Nat):Int)-1=(j:Nat) by omega]
  refine cl (hg j) [] ?_
  conv=>whnf
  cases hs:sk j with
  | false =>
   rw [hs,if_neg Bool.false_ne_true] at hx
   conv=>whnf
   refine cl (mul_ok (mulD c c) a) [] ?_
   conv=>whnf
   exact ⟨(j,_),⟨⟨by omega,hx⟩,Nat.lt_succ_self j⟩,cv [0,1,2,3] (h4:=⟨.inl rfl,.inl rfl,.inl rfl,.inl rfl,.inl (congrArg zi (w64_of (by omega))),trivial⟩)⟩
  | true =>
   rw [hs,if_pos rfl] at hx
   conv=>whnf
   exact ⟨(j,_),⟨⟨by omega,hx⟩,Nat.lt_succ_self j⟩,cv [0,1,2,3] (h4:=⟨.inl rfl,.inl rfl,.inl rfl,.inl rfl,.inl (congrArg zi (w64_of (by omega))),trivial⟩)⟩
 ·obtain rfl:k=0:=by have:=of_decide_eq_false h; omega
  have hx:c=R:=hx
  subst hx
  exact cv []
theorem skI_ok (i:Nat):Tri Tryz.prog G 231 [zi (i:Nat)] [] (.v (.bool (decide (i=2)||decide (i=4)))) []:=by
 refine fn Tryz.func231 ?_
 rw [show decide (i=2)=((i:Int)==2) by rw [Bool.eq_iff_iff]; simp; omega,show decide (i=4)=((i:Int)==4) by rw [Bool.eq_iff_iff]; simp; omega]
 conv=>whnf
 refine br_of (fun h => ?_) (fun h => ?_) <;> rw [h] <;> conv=>whnf
 ·exact cv []
 ·exact cv []
theorem finv_ok (a:Dg):Tri Tryz.prog G 166 [.a (el a)] [] (.a (el (powD 254 (fun i=>decide (i=2)||decide (i=4)) a))) []:=by
 refine fn Tryz.func166 ?_
 conv=>whnf
 refine cl (pof_ok 254 (by omega) _ _ skI_ok a) [] ?_
 conv=>whnf
 exact cv []
theorem skR1_ok (i:Nat):Tri Tryz.prog G 263 [zi (i:Nat)] [] (.v (.bool (decide (i=1)))) []:=by
 refine fn Tryz.func263 ?_
 conv=>whnf
 rw [show ((i:Int)==1)=decide (i=1) by rw [Bool.eq_iff_iff]; simp; omega]
 exact cv []
theorem skR2_ok (i:Nat):Tri Tryz.prog G 265 [zi (i:Nat)] [] (.v (.bool (decide (i=2)))) []:=by
 refine fn Tryz.func265 ?_
 conv=>whnf
 rw [show ((i:Int)==2)=decide (i=2) by rw [Bool.eq_iff_iff]; simp; omega]
 exact cv []
theorem u8n (x:Int):IntKind.u8.wrap x=(((UInt8.ofNat (IntKind.u8.wrap x).toNat).toNat:Nat):Int):=by
 rw [show IntKind.u8.wrap x=x%256 by simp [IntKind.wrap,IntKind.bits,IntKind.signed],UInt8.toNat_ofNat']
 omega
theorem p8:(2:Int) ^ min (Int.toNat 8) IntKind.i64.bits=256:=by decide
theorem fd8 (x:Int):x.fdiv 256=x/256:=Int.fdiv_eq_ediv_of_nonneg _ (by decide)
theorem bytes_ok (f:Dg):Tri Tryz.prog G 168 [.a (el f)] [] (sv (byteD f)) []:=by
 refine fn Tryz.func168 ?_
 conv=>whnf
 refine lu 4 ?_
 conv=>whnf
 iterate 3
  refine cl (carry_ok _) [0] ?_
  conv=>whnf
 obtain ⟨R,hR⟩:∃ R,canD f=R:=⟨_,rfl⟩
 rw [show byteD f=byD 16 0 R by unfold byteD; rw [hR]]
 unfold canD at hR
 refine lp2 (fun (i:Nat) (g:Dg)=>([(1,.p 0 0 0),(12,zi (i:Nat))],[elB g])) (fun i g=>i≤2∧cutF (2-i) g=R) (fun i _=>2-i) 0 _ ⟨by omega,hR⟩ (cv [0]) fun i g ⟨hi,hx⟩ => ?_
 conv=>whnf
 refine br_of (fun h => ?_) (fun h => ?_) <;> conv=>whnf
 ·have h:i<2:=in_ h
  rw [show 2-i=(2-(i+1))+1 by omega] at hx
  have hx:cutF (2-(i+1)) (cutD g)=R:=hx
  refine cl (less_ok g) [] ?_
  unfold cutD at hx
  conv=>whnf
  cases hb:lesB g with
  | true =>
   rw [hb,if_pos rfl] at hx
   conv=>whnf
   exact ⟨(i+1,g),⟨⟨by omega,hx⟩,by simp only; omega⟩,cv [0] (h4:=⟨.inl rfl,.inl (congrArg zi (w64_of (by omega))),trivial⟩)⟩
  | false =>
   rw [hb,if_neg Bool.false_ne_true] at hx
   conv=>whnf
   exact ⟨(i+1,_),⟨⟨by omega,hx⟩,by simp only; omega⟩,cv [0] (h4:=⟨.inl rfl,.inl (congrArg zi (w64_of (by omega))),trivial⟩)⟩
 ·have h:i=2:=by have:=of_decide_eq_false h; omega
  subst h
  have hx:g=R:=hx
  subst hx
  refine lu 17 ?_
  conv=>whnf
  iterate 100 (first
   | (refine ⟨rfl,?_⟩; conv=>whnf)
   | (refine ⟨by decide,?_⟩; conv=>whnf)
   | skip)
  refine ⟨byD 16 0 g,⟨rfl,?_⟩,?_⟩
  ·simp only [p8,fd8,byC,byD,List.map_cons,List.map_nil,← u8n]
  conv=>whnf
  exact cv []
theorem byD_len:∀ (k i:Nat) (f:Dg),(byD k i f).length=2*k:=by
 intro k
 induction k with
 | zero=>intro i f; rfl
 | succ k ih=>intro i f; unfold byD; rw [List.length_cons,List.length_cons,ih]; omega
theorem byteD_len (f:Dg):(byteD f).length=32:=byD_len _ _ _
theorem and8 (c:Nat):IntKind.u8.wrap ↑(BitVec.ofInt IntKind.u8.bits (c:Int)&&&BitVec.ofInt IntKind.u8.bits 1).toNat=((c%2:Nat):Int):=by
 have h1:(BitVec.ofInt 8 1).toNat=2 ^ 1-1:=by decide
 have key:(BitVec.ofInt 8 (c:Int)&&&BitVec.ofInt 8 1).toNat=c%2:=by
  rw [BitVec.toNat_and,BitVec.toNat_ofInt,h1,Nat.and_two_pow_sub_one_eq_mod]
  omega
 show IntKind.u8.wrap ((BitVec.ofInt 8 (c:Int)&&&BitVec.ofInt 8 1).toNat:Nat)=_
 rw [key,show IntKind.u8.wrap ((c%2:Nat):Int)=((c%2:Nat):Int)%256 by simp [IntKind.wrap,IntKind.bits,IntKind.signed]]
 omega
theorem odd_ok (f:Dg):Tri Tryz.prog G 169 [.a (el f)] [] (.v (.bool (((byteD f).getD 0 0).toNat%2==1))) []:=by
 refine fn Tryz.func169 ?_
 conv=>whnf
 refine cl (bytes_ok f) [] ?_
 have hl:=byteD_len f
 obtain ⟨c,r,hr⟩:∃ c r,byteD f=c::r:=by cases h:byteD f with | nil=>rw [h] at hl; cases hl | cons c r=>exact ⟨c,r,rfl⟩
 rw [hr]
 conv=>whnf
 refine ⟨⟨by decide,by rw [sB_size]; simp⟩,?_⟩
 conv=>whnf
 rw [show strAt (sB (c::r)) (Int.toNat 0)=c from rfl,and8]
 exact cv [] (h4:=⟨.inl (congrArg (fun b=>E.EV.v (.bool b)) (by rw [Bool.eq_iff_iff]; simp; omega)),trivial⟩)
theorem eqd_ok (f g:Dg):Tri Tryz.prog G 264 [.a (el f),.a (el g)] [] (.v (.bool (byteD f==byteD g))) []:=by
 refine fn Tryz.func264 ?_
 conv=>whnf
 refine cl (bytes_ok f) [] ?_
 conv=>whnf
 refine cl (bytes_ok g) [] ?_
 conv=>whnf
 rw [eqL]
 refine ⟨rfl,?_⟩
 conv=>whnf
 exact cv []
theorem fzero_ok (f:Dg):Tri Tryz.prog G 228 [.a (el f)] [] (.v (.bool (byteD f==byteD zD))) []:=by
 refine fn Tryz.func228 ?_
 conv=>whnf
 refine cl (eqd_ok f zD) [] ?_
 conv=>whnf
 exact cv []
def ofD (s:Bs):Dg×Int:=if s.length<32 then (zD,2) else if 32<s.length then (zD,4) else if byteD (cuD s)≠s then (zD,3) else (cuD s,0)
theorem fof_ok (s:Bs):Tri Tryz.prog G 222 [sv s] [] (.t [.a (el (ofD s).1),zi (ofD s).2]) []:=by
 obtain ⟨R,hR⟩:∃ R,ofD s=R:=⟨_,rfl⟩
 rw [hR]
 unfold ofD at hR
 have hsz:=sB_size s
 refine fn Tryz.func222 ?_
 conv=>whnf
 refine br_of (fun h => ?_) (fun h => ?_) <;> conv=>whnf
 ·have h:s.length<32:=in_ (n:=32) h
  rw [if_pos h] at hR
  subst hR
  exact cv []
 have h:¬ s.length<32:=by have:=of_decide_eq_false h; omega
 rw [if_neg h] at hR
 refine br_of (fun h1 => ?_) (fun h1 => ?_) <;> conv=>whnf
 ·have h1:32<s.length:=by have:=of_decide_eq_true h1; omega
  rw [if_pos h1] at hR
  subst hR
  exact cv []
 have h1:¬ 32<s.length:=by have:=of_decide_eq_false h1; omega
 rw [if_neg h1] at hR
 refine cl (fcut_ok s) [] ?_
 rw [List.take_of_length_le (by omega)]
 conv=>whnf
 refine cl (bytes_ok (cuD s)) [] ?_
 conv=>whnf
 rw [eqL]
 refine br_of (fun h2 => ?_) (fun h2 => ?_) <;> conv=>whnf
 ·rw [if_pos (by simpa using h2)] at hR
  subst hR
  exact cv []
 ·rw [if_neg (by simpa using h2)] at hR
  subst hR
  exact cv []
def rtA (f:Dg):Dg:=mulD (powD 251 (fun i=>decide (i=1)) f) f
def rtB (f a:Dg):Dg:=if byteD (mulD a a)==byteD f then a else mulD a (powD 252 (fun i=>decide (i=2)) (nuD 2))
def rtC (f b:Dg):Dg×Bool:=if byteD (mulD b b)==byteD f then (if ((byteD b).getD 0 0).toNat%2==1 then subD zD b else b,true) else (zD,false)
def rtD (f:Dg):Dg×Bool:=rtC f (rtB f (rtA f))
theorem froot_ok (f:Dg):Tri Tryz.prog G 227 [.a (el f)] [] (.t [.a (el (rtD f).1),.v (.bool (rtD f).2)]) []:=by
 obtain ⟨R,hR⟩:∃ R,rtD f=R:=⟨_,rfl⟩
 rw [hR]
 unfold rtD rtC rtB rtA at hR
 refine fn Tryz.func227 ?_
 conv=>whnf
 refine cl (pof_ok 251 (by omega) _ _ skR1_ok f) [] ?_
 conv=>whnf
 refine cl (mul_ok _ f) [] ?_
 generalize mulD (powD 251 (fun i=>decide (i=1)) f) f=a at hR
 conv=>whnf
 refine ⟨rfl,?_⟩
 conv=>whnf
 refine cl (mul_ok a a) [] ?_
 conv=>whnf
 refine cl (eqd_ok _ f) [] ?_
 conv=>whnf
 refine ⟨rfl,?_⟩
 conv=>whnf
 obtain ⟨b,hb⟩:∃ b,(if byteD (mulD a a)==byteD f then a else mulD a (powD 252 (fun i=>decide (i=2)) (nuD 2)))=b:=⟨_,rfl⟩
 rw [hb] at hR
 cases h1:byteD (mulD a a)==byteD f
 case' true =>
  rw [h1,if_pos rfl] at hb
  rw [hb]
  conv=>whnf
 case' false =>
  rw [h1,if_neg Bool.false_ne_true] at hb
  conv=>whnf
  refine cl (fnum_ok 2 (.inr rfl)) [] ?_
  conv=>whnf
  refine cl (pof_ok 252 (by omega) _ _ skR2_ok (nuD 2)) [] ?_
  conv=>whnf
  refine cl (mul_ok a _) [] ?_
  rw [hb]
  conv=>whnf
  refine ⟨rfl,?_⟩
  conv=>whnf
 all_goals
  clear hb h1
  refine cl (mul_ok b b) [] ?_
  conv=>whnf
  refine cl (eqd_ok _ f) [] ?_
  conv=>whnf
  refine ⟨rfl,?_⟩
  conv=>whnf
  cases h2:byteD (mulD b b)==byteD f with
  | false =>
   rw [h2,if_neg Bool.false_ne_true] at hR
   subst hR
   conv=>whnf
   exact cv []
  | true =>
   rw [h2,if_pos rfl] at hR
   conv=>whnf
   refine cl (odd_ok b) [] ?_
   conv=>whnf
   cases h3:((byteD b).getD 0 0).toNat%2==1 with
   | false =>
    rw [h3,if_neg Bool.false_ne_true] at hR
    subst hR
    conv=>whnf
    exact cv []
   | true =>
    rw [h3,if_pos rfl] at hR
    subst hR
    conv=>whnf
    refine cl (neg_ok b) [] ?_
    conv=>whnf
    exact cv []
def byW (f:Wd4):List UInt8:=(List.range 32).map fun i=>UInt8.ofNat (f (i/8)/2 ^ (8*(i%8))%256)
theorem cons2 {a b:E.EV} {l m:List E.EV} (h:a=b) (k:l=m):a::l=b::m:=by rw [h,k]
theorem tB (n i:Nat) (s:Int) (hs:min s.toNat IntKind.u64.bits=8*(i%8)):IntKind.u8.wrap ((n:Int).fdiv (2 ^ min s.toNat IntKind.u64.bits))=(((UInt8.ofNat (n/2 ^ (8*(i%8))%256)).toNat:Nat):Int):=by
 rw [hs,Int.fdiv_eq_ediv_of_nonneg _ (Int.pow_nonneg (by decide)),UInt8.toNat_ofNat']
 have e:(n:Int)/2 ^ (8*(i%8))=((n/2 ^ (8*(i%8)):Nat):Int):=by norm_cast
 rw [e,show ∀ x:Int,IntKind.u8.wrap x=x%256 from fun x=>by simp [IntKind.wrap,IntKind.bits,IntKind.signed]]
 omega
theorem wtext_ok (f:Wd4):Tri Tryz.prog G 288 [.a (w4 f)] [] (sv (byW f)) []:=by
 refine fn Tryz.func288 ?_
 conv=>whnf
 refine lu 33 ?_
 conv=>whnf
 iterate 200 (first
   | (refine ⟨rfl,?_⟩; conv=>whnf)
   | (refine ⟨by decide,?_⟩; conv=>whnf)
   | skip)
 refine ⟨byW f,⟨rfl,?_⟩,?_⟩
 ·show _=List.map _ [_,_,_,_,_,_,_,_,_,_,_,_,_,_,_,_,_,_,_,_,_,_,_,_,_,_,_,_,_,_,_,_]
  iterate 32 (refine cons2 (congrArg (fun z:Int=>E.EV.v (Value.int IntKind.u8 z)) (tB (f _) _ _ (by decide))) ?_)
  rfl
 conv=>whnf
 exact cv []
end Go.Proofs.YtdhgpocbcccieaaGreatDoor.M
namespace Go.Proofs.YtdhgpocbcccieaaGreatDoor.M
open Go Go.RowKit
theorem V_lin (a b:Dg) (s:Int) (n:Nat):V (fun i=>a i+s*b i) n=V a n+s*V b n:=by
 induction n with
 | zero=>simp [V]
 | succ n ih =>
  rw [V,V,V,ih]
  generalize (65536:Int) ^ n=P
  grind
theorem sumS_at (s:Int) (b:Dg):∀ (k i:Nat) (f:Dg) (j:Nat),sumS s b k i f j=if i≤j∧j<i+k then w64 (f j+s*b j) else f j:=by
 intro k
 induction k with
 | zero=>intro i f j; rw [if_neg (by omega)]; rfl
 | succ k ih =>
  intro i f j
  unfold sumS
  rw [ih]
  by_cases e:j=i
  ·subst e; rw [if_neg (by omega),if_pos (by omega),up_s]
  ·rw [up_n e]
   by_cases h:i+1≤j∧j<i+1+k
   ·rw [if_pos h,if_pos (by omega)]
   ·rw [if_neg h,if_neg (by omega)]
theorem sumS_v {s:Int} {a b:Dg} (hs:s=1∨s = -1) (ha:Red a) (hb:Red b):FE (car (sumS s b 16 0 a)) (fz (V a 16+s*V b 16)):=by
 have e:∀ i,i<16→sumS s b 16 0 a i=a i+s*b i:=fun i hi=>by
  have h1:=ha i hi
  have h2:=hb i hi
  rw [sumS_at,if_pos (by omega)]
  exact w64_of (by rcases hs with rfl | rfl <;> omega)
 have hB:∀ i,i<16 → -133070≤sumS s b 16 0 a i∧sumS s b 16 0 a i≤133070:=fun i hi=>by
  have h1:=ha i hi
  have h2:=hb i hi
  rw [e i hi]
  rcases hs with rfl | rfl <;> omega
 have:=FE.one (car_b (f:=sumS s b 16 0 a) fun i hi=>by have:=hB i hi; omega) hB
 rwa [V_ext e,V_lin] at this
theorem FE.lt {f:Dg} {n:Nat} (h:FE f n):n<PP:=h.v ▸ fz_lt _
theorem FE.add {a b:Dg} {x y:Nat} (ha:FE a x) (hb:FE b y):FE (addD a b) (addF x y):=by
 have:=sumS_v (.inl rfl) ha.r hb.r
 rw [Int.one_mul,fz_add,ha.v,hb.v] at this
 unfold addD
 exact this
theorem FE.sub {a b:Dg} {x y:Nat} (ha:FE a x) (hb:FE b y):FE (subD a b) (subF x y):=by
 have:=sumS_v (.inr rfl) ha.r hb.r
 rw [show V a 16 + -1*V b 16=V a 16-V b 16 by omega,fz_sub,ha.v,hb.v] at this
 unfold subD
 exact this
theorem FE.zero:FE zD 0:=⟨fun i _=>by unfold zD; omega,by decide⟩
theorem FE.neg {a:Dg} {x:Nat} (ha:FE a x):FE (subD zD a) (subF 0 x):=FE.zero.sub ha
theorem mul_abs {x y M:Int} (hx : -M≤x∧x≤M) (hy : -M≤y∧y≤M) : -(M*M)≤x*y∧x*y≤M*M:=by
 obtain ⟨h1,h2⟩:=hx
 obtain ⟨h3,h4⟩:=hy
 have a1:0≤(M-x)*(M-y):=Int.mul_nonneg (by omega) (by omega)
 have a2:0≤(M+x)*(M+y):=Int.mul_nonneg (by omega) (by omega)
 have a3:0≤(M-x)*(M+y):=Int.mul_nonneg (by omega) (by omega)
 have a4:0≤(M+x)*(M-y):=Int.mul_nonneg (by omega) (by omega)
 rw [Int.sub_mul,Int.mul_sub,Int.mul_sub] at a1
 rw [Int.add_mul,Int.mul_add,Int.mul_add] at a2
 rw [Int.sub_mul,Int.mul_add,Int.mul_add] at a3
 rw [Int.add_mul,Int.mul_sub,Int.mul_sub] at a4
 rw [Int.mul_comm M y] at a1 a2 a3 a4
 omega
theorem mul_dig {x y:Int} (hx : -66535≤x∧x≤66535) (hy : -66535≤y∧y≤66535) : -4426906225≤x*y∧x*y≤4426906225:=by
 have:=mul_abs hx hy
 omega
structure MJ (a b t:Dg) (i j:Nat):Prop where
 v:V t 32=V a i*V b 16+65536 ^ i*a i*V b j
 b:∀ k,k<32 → -(70830499600*i+4426906225*j)≤t k∧t k≤70830499600*i+4426906225*j
theorem mulJ_ok {a b:Dg} (ha:Red a) (hb:Red b) {i:Nat} (hi:i<16):∀ (k j:Nat) (t:Dg),j+k=16→MJ a b t i j→MJ a b (mulJ i (a i) b k j t) i 16:=by
 intro k
 induction k with
 | zero=>intro j t hj h; obtain rfl:j=16:=by omega
         exact h
 | succ k ih =>
  intro j t hj h
  refine ih (j+1) _ (by omega) ?_
  have h1:=mul_dig (ha i hi) (hb j (by omega))
  have h2:=h.b (i+j) (by omega)
  rw [w64_of (x:=a i*b j) (by omega),w64_of (by omega)]
  refine ⟨?_,fun k hk => ?_⟩
  ·show _=V a i*V b 16+65536 ^ i*a i*(V b j+65536 ^ j*b j)
   rw [V_up (by omega),h.v,Int.pow_add]
   generalize (65536:Int) ^ i=P
   generalize (65536:Int) ^ j=Q
   grind
  ·have h3:=h.b k hk
   by_cases e:k=i+j
   ·subst e; rw [up_s]; omega
   ·rw [up_n e]; omega
theorem mulI_ok {a b:Dg} (ha:Red a) (hb:Red b):∀ (k i:Nat) (t:Dg),i+k=16→MJ a b t i 0→MJ a b (mulI a b k i t) 16 0:=by
 intro k
 induction k with
 | zero=>intro i t hi h; obtain rfl:i=16:=by omega
         exact h
 | succ k ih =>
  intro i t hi h
  refine ih (i+1) _ (by omega) ?_
  obtain ⟨h1,h2⟩:=mulJ_ok ha hb (by omega) 16 0 t rfl h
  refine ⟨?_,fun k hk=>by have:=h2 k hk; omega⟩
  show _=(V a i+65536 ^ i*a i)*V b 16+65536 ^ (i+1)*a (i+1)*0
  rw [h1]
  generalize (65536:Int) ^ i=P
  grind
theorem folS_at (t:Dg):∀ (k i:Nat) (f:Dg) (j:Nat),folS t k i f j=if i≤j∧j<i+k then w64 (t j+w64 (38*t (j+16))) else f j:=by
 intro k
 induction k with
 | zero=>intro i f j; rw [if_neg (by omega)]; rfl
 | succ k ih =>
  intro i f j
  unfold folS
  rw [ih]
  by_cases e:j=i
  ·subst e; rw [if_neg (by omega),if_pos (by omega),up_s]
  ·rw [up_n e]
   by_cases h:i+1≤j∧j<i+1+k
   ·rw [if_pos h,if_pos (by omega)]
   ·rw [if_neg h,if_neg (by omega)]
theorem V_split (t:Dg) (m:Nat):∀ n,V t (m+n)=V t m+65536 ^ m*V (fun i=>t (i+m)) n:=by
 intro n
 induction n with
 | zero=>simp [V]
 | succ n ih =>
  rw [← Nat.add_assoc,V,V,ih,Int.pow_add,Nat.add_comm n m]
  generalize (65536:Int) ^ m=P
  grind
theorem FE.mul {a b:Dg} {x y:Nat} (ha:FE a x) (hb:FE b y):FE (mulD a b) (mulF x y):=by
 obtain ⟨h1,h2⟩:=mulI_ok ha.r hb.r 16 0 zD rfl ⟨by simp [V,zD],fun k _=>by unfold zD; omega⟩
 unfold mulD
 generalize mulI a b 16 0 zD=t at h1 h2
 have e:∀ i,i<16→folS t 16 0 a i=t i+38*t (i+16):=fun i hi=>by
  have h3:=h2 i (by omega)
  have h4:=h2 (i+16) (by omega)
  rw [folS_at,if_pos (by omega),w64_of (x:=38*_) (by omega)]
  exact w64_of (by omega)
 have hB:∀ i,i<16 → -65535000000000≤folS t 16 0 a i∧folS t 16 0 a i≤65535000000000:=fun i hi=>by
  have h3:=h2 i (by omega)
  have h4:=h2 (i+16) (by omega)
  rw [e i hi]
  omega
 have c1:=car_b (f:=folS t 16 0 a) fun i hi=>by have:=hB i hi; omega
 have b1:=c1.bnd (M:=1000000000) fun i hi=>by have:=hB i hi; omega
 have c2:=car_b (f:=car (folS t 16 0 a)) fun i hi=>by have:=b1 i hi; omega
 have:=FE.two c1 c2 hB
 rw [V_ext e,V_lin t (fun i=>t (i+16)) 38 16,fz_fold,Int.mul_comm (V _ 16),← b16,← V_split t 16 16,h1] at this
 rw [show V a 16*V b 16+65536 ^ 16*a 16*V b 0=V a 16*V b 16 by simp [V],fz_mul,ha.v,hb.v] at this
 exact this
def leL:Bs→Nat
 | []=>0
 | c::l=>c.toNat+256*leL l
def toL:Nat→Nat→Bs
 | 0,_=>[]
 | k+1,n=>n.toUInt8::toL k (n/256)
theorem V_cons (f:Dg) (k:Nat):V f (k+1)=f 0+65536*V (fun i=>f (i+1)) k:=by
 have:=V_split f 1 k
 rw [Nat.add_comm 1 k] at this
 simpa [V] using this
def Dig (f:Dg):Prop:=∀ i,i<16→0≤f i∧f i<65536
theorem car3 {f:Dg} (h:Red f):Dig (car (car (car f)))∧fz (V (car (car (car f))) 16)=fz (V f 16):=by
 have h0:=V_bnd h
 have c1:=car_b (f:=f) fun i hi=>by have:=h i hi; omega
 have b1:=c1.bnd (M:=2) fun i hi=>by have:=h i hi; omega
 have c2:=car_b (f:=car f) fun i hi=>by have:=b1 i hi; omega
 have b2:=c2.bnd (M:=2) fun i hi=>by have:=b1 i hi; omega
 have c3:=car_b (f:=car (car f)) fun i hi=>by have:=b2 i hi; omega
 refine ⟨?_,c3.fz.trans (c2.fz.trans c1.fz)⟩
 generalize car (car (car f))=g3 at c3
 generalize car (car f)=g2 at c2 c3 b2
 generalize car f=g1 at c1 c2 b1
 obtain ⟨q,c,hd,hv,rfl⟩:=c1
 obtain ⟨q2,k,hd2,hv2,rfl⟩:=c2
 have h3:=V_dig hd
 have h4:=V_dig hd2
 have h5:=hd2 0 (by omega)
 have h6:=V_bnd (f:=fun i=>q2 (i+1)) (a:=0) (b:=65535) (n:=15) fun i hi=>by have:=hd2 (i+1) (by omega); omega
 have h7:V q2 16=_:=V_cons q2 15
 rw [V_up (by omega),show (65536:Int) ^ 0*(q 0+38*c-q 0)=38*c by omega] at hv2
 rw [b16] at h0
 rw [show (65536:Int) ^ 15=1766847064778384329583297500742918515827483896875618958121606201292619776 by decide] at h6
 unfold B16 at *
 have hc : -2≤c∧c≤1:=by omega
 have hk:k = -1∨k=0∨k=1:=by omega
 have hg:Dig (up q2 0 (q2 0+38*k)):=fun i hi=>by
  by_cases e:i=0
  ·subst e; rw [up_s]; rcases hk with rfl | rfl | rfl <;> omega
  ·rw [up_n e]; exact hd2 i hi
 have h8:=V_dig hg
 obtain ⟨q3,k3,hd3,hv3,rfl⟩:=c3
 have h9:=V_dig hd3
 unfold B16 at *
 have hk3:k3=0:=by omega
 subst hk3
 intro i hi
 by_cases e:i=0
 ·subst e; rw [up_s]; have:=hd3 0 hi; omega
 ·rw [up_n e]; exact hd3 i hi
def pV (i:Nat):Int:=if i=0 then 65517 else pD i
structure LA (t m:Dg) (i:Nat):Prop where
 d:∀ j,j<i→0≤m j∧m j<65536
 r:∀ j,i<j→m j=t j
 b : -65536≤m i∧m i≤65535
 v:V m (i+1)=V t (i+1)-V pV (i+1)
theorem lesS_ok {t m:Dg} (ht:Dig t) {i:Nat} (hi:i+1<16) (h:LA t m i):LA t (lesS m (i+1)) (i+1):=by
 obtain ⟨hd,hr,hb,hv⟩:=h
 have h1:=hr (i+1) (by omega)
 have h2:=ht (i+1) hi
 have hq:pD (i+1)=65535∨pD (i+1)=32767:=by unfold pD; split <;> simp
 have hp:pV (i+1)=pD (i+1):=if_neg (by omega)
 have e:lesS m (i+1)=up (up (up m (i+1) (m (i+1)-pD (i+1))) (i+1) (m (i+1)-pD (i+1)-m i/65536%2)) i (m i%65536):=by
  unfold lesS
  simp only [up_s,Nat.add_sub_cancel,up_n (show i≠i+1 by omega)]
  rw [w64_of (x:=m (i+1)-pD (i+1)) (by omega),w64_of (by omega)]
 rw [e]
 refine ⟨fun j hj => ?_,fun j hj => ?_,?_,?_⟩
 ·by_cases hji:j=i
  ·subst hji; rw [up_s]; omega
  ·rw [up_n hji,up_n (by omega),up_n (by omega)]; exact hd j (by omega)
 ·rw [up_n (by omega),up_n (by omega),up_n (by omega)]; exact hr j (by omega)
 ·rw [up_n (by omega),up_s]; omega
 ·rw [V_up (by omega),V_up (by omega),V_up (by omega),up_s,up_n (show i≠i+1 by omega),up_n (show i≠i+1 by omega)]
  rw [show V m (i+1+1)=V m (i+1)+65536 ^ (i+1)*m (i+1) from rfl,show V t (i+1+1)=V t (i+1)+65536 ^ (i+1)*t (i+1) from rfl,show V pV (i+1+1)=V pV (i+1)+65536 ^ (i+1)*pV (i+1) from rfl,hv,hp,h1,Int.pow_succ]
  have e4:m i=m i%65536-65536*(m i/65536%2):=by omega
  generalize m i/65536%2=q at *
  generalize m i%65536=z at *
  rw [e4]
  generalize (65536:Int) ^ i=P at *
  grind
theorem lesF_ok {t:Dg} (ht:Dig t):∀ (k i:Nat) (m:Dg),i+k=15→LA t m i→LA t (lesF k (i+1) m) 15:=by
 intro k
 induction k with
 | zero=>intro i m hi h; obtain rfl:i=15:=by omega
         exact h
 | succ k ih=>intro i m hi h; exact ih (i+1) _ (by omega) (lesS_ok ht (by omega) h)
theorem cutD_ok {t:Dg} (ht:Dig t):Dig (cutD t)∧V (cutD t) 16=if V t 16<PP then V t 16 else V t 16-PP:=by
 have h0:=ht 0 (by omega)
 have h:=lesF_ok ht 15 0 (up t 0 (w64 (t 0-65517))) rfl (by
  rw [w64_of (by omega)]
  refine ⟨fun j hj=>by omega,fun j hj=>up_n (by omega),by rw [up_s]; omega,?_⟩
  rw [V_up (by omega)]
  show _=_-(0+65536 ^ 0*65517)
  omega)
 have hL:lesD t=lesF 15 1 (up t 0 (w64 (t 0-65517))):=by unfold lesD; rfl
 rw [← show lesD t=lesF 15 (0+1) (up t 0 (w64 (t 0-65517))) from hL] at h
 obtain ⟨hd,hr,hb,hv⟩:=h
 have hp:V pV 16=PP:=by decide
 have h5:=V_bnd (f:=lesD t) (a:=0) (b:=65535) (n:=15) fun i hi=>by have:=hd i hi; omega
 have h6:V (lesD t) (15+1)=V (lesD t) 15+65536 ^ 15*lesD t 15:=rfl
 rw [hp] at hv
 rw [show (65536:Int) ^ 15=1766847064778384329583297500742918515827483896875618958121606201292619776 by decide] at h5 h6
 unfold cutD lesB
 have hb2:(lesD t 15/65536%2==1)=decide (V t 16<PP):=by
  rw [Bool.eq_iff_iff,beq_iff_eq,decide_eq_true_eq]
  have e:V (lesD t) (15+1)=V t 16-PP:=hv
  omega
 rw [hb2]
 by_cases hlt:V t 16<PP
 ·rw [decide_eq_true hlt,if_pos rfl,if_pos hlt]; exact ⟨ht,rfl⟩
 ·rw [decide_eq_false hlt,if_neg Bool.false_ne_true,if_neg hlt]
  refine ⟨fun i hi => ?_,hv⟩
  have e:V (lesD t) (15+1)=V t 16-PP:=hv
  by_cases e15:i=15
  ·subst e15; omega
  ·exact hd i (by omega)
theorem canD_ok {f:Dg} {n:Nat} (h:FE f n):Dig (canD f)∧V (canD f) 16=n:=by
 obtain ⟨h1,h2⟩:=car3 h.r
 unfold canD
 show Dig (cutD (cutD (car (car (car f)))))∧V (cutD (cutD (car (car (car f))))) 16=n
 generalize car (car (car f))=g at h1 h2
 have h3:=V_dig h1
 obtain ⟨h4,h5⟩:=cutD_ok h1
 obtain ⟨h6,h7⟩:=cutD_ok h4
 refine ⟨h6,?_⟩
 rw [h7,h5]
 have h8:=h.v
 rw [← h2] at h8
 unfold B16 at h3
 unfold fz at h8
 unfold PP
 generalize V g 16=v at *
 by_cases a1:v<(57896044618658097711785492504343953926634992332820282019728792003956564819949:Nat)
 ·rw [if_pos a1,if_pos a1]; omega
 ·rw [if_neg a1]
  by_cases a2:v-(57896044618658097711785492504343953926634992332820282019728792003956564819949:Nat)<(57896044618658097711785492504343953926634992332820282019728792003956564819949:Nat)
  ·rw [if_pos a2]; omega
  ·rw [if_neg a2]; omega
theorem byD_ok:∀ (k i:Nat) (g:Dg),(∀ j,i≤j→j<i+k→0≤g j∧g j<65536)→byD k i g=toL (2*k) (V (fun j=>g (j+i)) k).toNat:=by
 intro k
 induction k with
 | zero=>intro i g h; rfl
 | succ k ih =>
  intro i g h
  have h1:=h i (by omega) (by omega)
  unfold byD
  rw [ih (i+1) g fun j hj hj2=>h j (by omega) (by omega),V_cons,show 2*(k+1)=2*k+1+1 by omega]
  have e:(fun j=>g (j+1+i))=fun j=>g (j+(i+1)):=by funext j; rw [show j+1+i=j+(i+1) by omega]
  rw [e,Nat.zero_add]
  have h2:=V_bnd (f:=fun j=>g (j+(i+1))) (a:=0) (b:=65535) (n:=k) fun j hj=>by have:=h (j+(i+1)) (by omega) (by omega); omega
  have hp:=pw_pos k
  generalize V (fun j=>g (j+(i+1))) k=m at *
  have hm:0≤m:=by omega
  rw [show ∀ N,toL (2*k+1+1) N=N.toUInt8::(N/256).toUInt8::toL (2*k) (N/256/256) from fun _=>rfl]
  have w8:∀ x:Int,IntKind.u8.wrap x=x%256:=fun x=>by simp [IntKind.wrap,IntKind.bits,IntKind.signed]
  rw [w8,w8]
  have e1:∀ a b:Nat,a%256=b%256→UInt8.ofNat a=b.toUInt8:=fun a b h=>by
   apply UInt8.toNat_inj.1
   rw [UInt8.toNat_ofNat',Nat.toUInt8,UInt8.toNat_ofNat']
   exact h
  rw [e1 _ (g i+65536*m).toNat (by omega),e1 _ ((g i+65536*m).toNat/256) (by omega),show (g i+65536*m).toNat/256/256=m.toNat by omega]
theorem FE.bytes {f:Dg} {n:Nat} (h:FE f n):byteD f=toL 32 n:=by
 obtain ⟨h1,h2⟩:=canD_ok h
 unfold byteD
 rw [byD_ok 16 0 _ fun j _ hj=>h1 j (by omega)]
 show toL 32 (V (canD f) 16).toNat=_
 rw [h2]
 rfl
end Go.Proofs.YtdhgpocbcccieaaGreatDoor.M
namespace Go.Proofs.YtdhgpocbcccieaaGreatDoor.M
open Go Go.RowKit Go.Proofs.YtdhgpocbcccieaaGreatDoor.E
variable {G:Gl}
def wlN (n N:Nat):List Nat:=(List.range n).map fun k=>N/18446744073709551616 ^ k%18446744073709551616
theorem wlN_len (n N:Nat):(wlN n N).length=n:=by simp [wlN]
theorem wlN_lt (n N:Nat):∀ x∈wlN n N,x<18446744073709551616:=fun x hx=>by
 obtain ⟨k,_,rfl⟩:=List.mem_map.1 hx
 exact Nat.mod_lt _ (by decide)
theorem leL_lt:∀ l:Bs,leL l<256 ^ l.length
 | []=>by decide
 | c::l=>by
  have h1:=leL_lt l
  have h2:=c.toNat_lt
  rw [List.length_cons,Nat.pow_succ,leL]
  omega
theorem leL_take:∀ {b:Bs} {i:Nat} (h:i<b.length),leL (b.take (i+1))=leL (b.take i)+256 ^ i*b[i].toNat
 | [],_,h=>by simp at h
 | c::b,0,h=>by simp [leL]
 | c::b,i+1,h=>by
  have h2:i<b.length:=by simpa using h
  rw [List.take_succ_cons,List.take_succ_cons,leL,leL,leL_take h2,List.getElem_cons_succ,Nat.pow_succ,Nat.mul_add,← Nat.mul_assoc,Nat.mul_comm 256 (256 ^ i),Nat.add_assoc]
theorem p256 (i:Nat):256 ^ i=18446744073709551616 ^ (i/8)*256 ^ (i%8):=by
 rw [show (18446744073709551616:Nat)=256 ^ 8 by decide,← Nat.pow_mul,← Nat.pow_add,Nat.div_add_mod]
theorem wlN_at {n k:Nat} (N:Nat) (h:k<n):(wlN n N).getD k 0=N/18446744073709551616 ^ k%18446744073709551616:=by
 rw [List.getD_eq_getElem?_getD,wlN,List.getElem?_map,List.getElem?_range h]; rfl
theorem p256le {r:Nat} (h:r<8):256 ^ (r+1)≤18446744073709551616:=by
 rw [show (18446744073709551616:Nat)=256 ^ 8 by decide]; exact Nat.pow_le_pow_right (by decide) h
theorem wl_low {n i N:Nat} (hN:N<256 ^ i) (hq:i/8<n):(wlN n N).getD (i/8) 0=N/18446744073709551616 ^ (i/8)∧N/18446744073709551616 ^ (i/8)<256 ^ (i%8):=by
 have h1:N/18446744073709551616 ^ (i/8)<256 ^ (i%8):=by rw [p256] at hN; exact Nat.div_lt_of_lt_mul hN
 have h2:=p256le (Nat.mod_lt i (by decide:0<8))
 rw [Nat.pow_succ] at h2
 rw [wlN_at N hq,Nat.mod_eq_of_lt (by omega)]
 exact ⟨rfl,h1⟩
theorem wl_step {n i N c:Nat} (hN:N<256 ^ i) (hc:c<256) (hq:i/8<n):wlN n (N+256 ^ i*c)=(wlN n N).set (i/8) ((wlN n N).getD (i/8) 0+c*256 ^ (i%8)):=by
 obtain ⟨h1,h2⟩:=wl_low hN hq
 rw [h1]
 have h3:=p256le (Nat.mod_lt i (by decide:0<8))
 have hp:0<256 ^ (i%8):=Nat.pow_pos (by decide)
 have h4:c*256 ^ (i%8)≤255*256 ^ (i%8):=Nat.mul_le_mul_right _ (by omega)
 refine List.ext_getElem (by simp [wlN]) fun k hk1 hk2 => ?_
 rw [List.getElem_set]
 simp only [wlN,List.getElem_map,List.getElem_range]
 have hWp:∀ k,0<18446744073709551616 ^ k:=fun k=>Nat.pow_pos (by decide)
 split
 ·next e =>
  subst e
  rw [p256 i,Nat.mul_assoc,Nat.add_mul_div_left _ _ (hWp _),Nat.mul_comm _ c,Nat.mod_eq_of_lt]
  rw [Nat.pow_succ] at h3
  omega
 ·next e =>
  rcases Nat.lt_or_gt_of_ne e with h | h
  ·have h5:18446744073709551616 ^ (i/8)*18446744073709551616≤18446744073709551616 ^ k:=by rw [← Nat.pow_succ]; exact Nat.pow_le_pow_right (by decide) h
   have h6:N+256 ^ i*c<18446744073709551616 ^ k:=by
    have h7:256 ^ i*(c+1)≤256 ^ i*256:=Nat.mul_le_mul_left _ hc
    have h8:256 ^ i*256≤18446744073709551616 ^ (i/8)*18446744073709551616:=by
     rw [p256 i,Nat.mul_assoc,← Nat.pow_succ]
     exact Nat.mul_le_mul_left _ h3
    rw [Nat.mul_succ] at h7
    omega
   have h9:N<18446744073709551616 ^ k:=by omega
   rw [Nat.div_eq_of_lt h6,Nat.div_eq_of_lt h9]
  ·have h5:256 ^ i=18446744073709551616 ^ k*(18446744073709551616*(18446744073709551616 ^ (i/8-(k+1))*256 ^ (i%8))):=by
    rw [← Nat.mul_assoc,← Nat.pow_succ,← Nat.mul_assoc,← Nat.pow_add,show k+1+(i/8-(k+1))=i/8 by omega]
    exact p256 i
   rw [h5,Nat.mul_assoc,Nat.add_mul_div_left _ _ (hWp _),Nat.mul_assoc,Nat.add_mul_mod_self_left]
theorem orV (x c k:Nat) (hc:c<256) (hk:k<8) (hx:x<256 ^ k):IntKind.u64.wrap ↑(BitVec.ofInt IntKind.u64.bits (x:Int)|||BitVec.ofInt IntKind.u64.bits (IntKind.u64.wrap (IntKind.u64.wrap (c:Int)*2 ^ min (8*((k:Nat):Int)).toNat IntKind.u64.bits))).toNat=((x+c*256 ^ k:Nat):Int):=by
 have h3:=p256le hk
 have h4:c*256 ^ k≤255*256 ^ k:=Nat.mul_le_mul_right _ (by omega)
 rw [Nat.pow_succ] at h3
 have e0:min (8*((k:Nat):Int)).toNat IntKind.u64.bits=8*k:=by rw [show (8*((k:Nat):Int)).toNat=8*k by omega]; exact Nat.min_eq_left (by show 8*k≤64; omega)
 have e1:((c:Int)*2 ^ (8*k))=((c*256 ^ k:Nat):Int):=by rw [show (256:Nat)=2 ^ 8 by decide,← Nat.pow_mul]; norm_cast
 rw [e0,wU64 (n:=(c:Int)) (by omega) (by omega),e1,wU64 (n:=((c*256 ^ k:Nat):Int)) (by omega) (by omega),BitVec.toNat_or,tn,tn,Nat.mod_eq_of_lt (by omega),Nat.mod_eq_of_lt (by omega)]
 have e2:x|||c*256 ^ k=x+c*256 ^ k:=by
  have:=Nat.shiftLeft_add_eq_or_of_lt (i:=8*k) (b:=x) (by rw [Nat.pow_mul]; exact hx) c
  rw [Nat.shiftLeft_eq,Nat.pow_mul] at this
  rw [Nat.or_comm,← this,Nat.add_comm]
 rw [e2,wU64 (by omega) (by omega)]
theorem ws_at {ws:List Nat} {k:Nat} (h:k<ws.length):(ws.map fun x=>[wi x])[0+((k:Nat):Int).toNat]? = some [wi (ws.getD k 0)]:=by
 rw [Nat.zero_add,Int.toNat_natCast,List.getElem?_map,List.getD_eq_getElem?_getD,List.getElem?_eq_getElem h]
 rfl
theorem wload_ok (s:Bs) (hs:s.length<1000000000000) (n:Nat) (hn:n≤100) (h0:0<n):Tri Tryz.prog G 287 [sv s,.v (.int .i64 (n:Nat))] [] (.s 0 0 n false) [wsRs (wlN n (leL (s.take (8*n))))]:=by
 refine fn Tryz.func287 ?_
 conv=>whnf
 refine ⟨⟨by omega,rfl,by omega⟩,?_⟩
 conv=>whnf
 have hsz:(sB s).size=s.length:=by show s.toArray.size=_; rw [List.size_toArray]
 rw [wI64 (n:=8*(n:Int)) (by omega) (by omega)]
 rw [show (if 8*(n:Int)<((sB s).size:Nat) then 8*(n:Int) else ((sB s).size:Nat))=((min s.length (8*n):Nat):Int) from by rw [hsz]; split <;> omega]
 refine ⟨⟨by decide,by omega,by rw [hsz]; omega⟩,?_⟩
 conv=>whnf
 rw [show (sB s).extract (Int.toNat 0) (((min s.length (8*n):Nat):Int)).toNat=sB (s.take (8*n)) from by
  rw [sB_ext]
  congr 1
  simp
  omega]
 have hb:(s.take (8*n)).length≤8*n:=by rw [List.length_take]; omega
 generalize s.take (8*n)=b at *
 have hbz:(sB b).size=b.length:=by show b.toArray.size=_; rw [List.size_toArray]
 refine ⟨by rw [hbz]; omega,?_⟩
 conv=>whnf
 rw [show List.replicate ((n:Int)).toNat [E.EV.v (Value.int IntKind.u64 0)]=(List.replicate n 0).map (fun x=>[wi x]) from by simp]
 refine lp2 (fun (i:Nat) (ws:List Nat)=>([(5,.s 0 0 n false),(17,.s 1 0 b.length false),(18,.v (.int .i64 (b.length:Nat))),(19,.v (.int .i64 (i:Nat)))],[wsRs ws,.rs 5 (byR b)])) (fun i ws=>i≤b.length∧ws=wlN n (leL (b.take i))) (fun i ws=>b.length-i) 0 (List.replicate n 0) ⟨by omega,by rw [List.take_zero,show leL []=0 from rfl]; exact List.ext_getElem (by simp [wlN]) fun k _ _=>by simp [wlN]⟩ (cv [0,1]) fun i ws ⟨hi,hw⟩ => ?_
 conv=>whnf
 refine br_of (fun h => ?_) (fun h => ?_) <;> conv=>whnf
 rotate_left
 ·have h:i=b.length:=by have:=of_decide_eq_false h; omega
  rw [hw,h,List.take_length]
  exact cv [0]
 have h:i<b.length:=by have:=of_decide_eq_true h; omega
 refine ⟨by omega,?_⟩
 conv=>whnf
 refine ob_of _ (byR_at (l:=b) (i:=i) h) ?_
 conv=>whnf
 rw [show (i:Int).tdiv 8=((i/8:Nat):Int) from rfl,wI64 (n:=((i/8:Nat):Int)) (by omega) (by omega)]
 refine ⟨⟨by omega,by omega⟩,?_⟩
 conv=>whnf
 have hwl:ws.length=n:=by rw [hw,wlN_len]
 refine ob_of _ (ws_at (by omega)) ?_
 conv=>whnf
 rw [show (i:Int).tmod 8=((i%8:Nat):Int) from rfl,wI64 (n:=8*((i%8:Nat):Int)) (by omega) (by omega)]
 refine ⟨by omega,?_⟩
 conv=>whnf
 refine ob_of _ (ws_at (by omega)) ?_
 conv=>whnf
 refine ⟨rfl,?_⟩
 conv=>whnf
 rw [wI64 (n:=(i:Int)+1) (by omega) (by omega)]
 refine ⟨(i+1,wlN n (leL (b.take (i+1)))),⟨⟨by omega,rfl⟩,by simp only; omega⟩,cv [0,1] (h5 := ?_)⟩
 have hbl:leL (b.take i)<256 ^ i:=Nat.lt_of_lt_of_le (leL_lt _) (Nat.pow_le_pow_right (by decide) (by rw [List.length_take]; omega))
 have hq:i/8<n:=by omega
 obtain ⟨l1,l2⟩:=wl_low (n:=n) hbl hq
 refine ⟨.inl ?_,.inl rfl,trivial⟩
 rw [hw,orV _ _ _ (b[i].toNat_lt) (Nat.mod_lt _ (by decide)) (by rw [l1]; exact l2),Nat.zero_add,Int.toNat_natCast]
 show some (EB.rs _ _)=some (EB.rs _ _)
 rw [leL_take h,wl_step hbl b[i].toNat_lt hq,List.map_set]
structure PD where
 on:Bool
 x:Dg
 y:Dg
 z:Dg
 t:Dg
abbrev ql (p:PD):List E.EV:=el p.x++(el p.y++(el p.z++el p.t))
abbrev pl (p:PD):List E.EV := .v (.bool p.on)::ql p
def ofP (x y:Dg):PD:=⟨true,x,y,nuD 1,mulD x y⟩
def zerP:PD:=ofP zD (nuD 1)
def whoP (p:PD):PD:=if p.on then p else zerP
theorem of_ok (x y:Dg):Tri Tryz.prog G 230 [.a (el x),.a (el y)] [] (.a (pl (ofP x y))) []:=by
 refine fn Tryz.func230 ?_
 conv=>whnf
 refine cl (fnum_ok 1 (.inl rfl)) [] ?_
 conv=>whnf
 refine cl (mul_ok x y) [] ?_
 conv=>whnf
 refine ⟨rfl,?_⟩
 conv=>whnf
 exact cv []
theorem zer_ok:Tri Tryz.prog G 162 [] [] (.a (pl zerP)) []:=by
 refine fn Tryz.func162 ?_
 conv=>whnf
 refine cl (fnum_ok 1 (.inl rfl)) [] ?_
 conv=>whnf
 refine cl (of_ok zD (nuD 1)) [] ?_
 conv=>whnf
 exact cv []
theorem who_ok (p:PD):Tri Tryz.prog G 165 [.a (pl p)] [] (.a (ql (whoP p))) []:=by
 obtain ⟨on,x,y,z,t⟩:=p
 refine fn Tryz.func165 ?_
 conv=>whnf
 cases on with
 | true =>
  conv=>whnf
  exact cv []
 | false =>
  conv=>whnf
  refine cl zer_ok [] ?_
  conv=>whnf
  exact cv []
def dB:Bs:=[163,120,89,19,202,77,235,117,171,216,65,65,77,10,112,0,152,232,121,119,121,64,199,140,115,254,111,43,238,108,3,82]
@[irreducible] def dD:Dg:=cuD dB
theorem cutd_ok:Tri Tryz.prog G 225 [sv dB] [] (.a (el dD)) []:=by
 unfold dD
 exact fcut_ok dB
@[irreducible] def adP (p q:PD):PD :=
 let v:=whoP p
 let w:=whoP q
 let a:=mulD (subD v.y v.x) (subD w.y w.x)
 let b:=mulD (addD v.y v.x) (addD w.y w.x)
 let c:=mulD (mulD v.t w.t) dD
 let c:=addD c c
 let z:=mulD v.z w.z
 let z:=addD z z
 let e:=subD b a
 let f:=subD z c
 let g:=addD z c
 let h:=addD b a
 ⟨true,mulD e f,mulD h g,mulD g f,mulD e h⟩
theorem padd_ok (p q:PD):Tri Tryz.prog G 163 [.a (pl p),.a (pl q)] [] (.a (pl (adP p q))) []:=by
 unfold adP
 obtain ⟨v,hv⟩:∃ v,whoP p=v:=⟨_,rfl⟩
 obtain ⟨w,hw⟩:∃ w,whoP q=w:=⟨_,rfl⟩
 have h1:=who_ok (G:=G) p
 have h2:=who_ok (G:=G) q
 rw [hv] at h1
 rw [hw] at h2
 rw [hv,hw]
 clear hv hw
 refine fn Tryz.func163 ?_
 conv=>whnf
 refine cl h1 [] ?_
 conv=>whnf
 refine cl h2 [] ?_
 conv=>whnf
 iterate 60 (first
  | (refine ⟨rfl,?_⟩; conv=>whnf)
  | (refine cl (dif_ok _ _) [] ?_; conv=>whnf)
  | (refine cl (sum_ok _ _) [] ?_; conv=>whnf)
  | (refine cl (mul_ok _ _) [] ?_; conv=>whnf)
  | (refine cl cutd_ok [] ?_; conv=>whnf)
  | skip)
 exact cv []
end Go.Proofs.YtdhgpocbcccieaaGreatDoor.M
namespace Go.Proofs.YtdhgpocbcccieaaGreatDoor.M
def bitL (s:Bs) (i:Nat):Nat:=(s.getD (i/8) 0).toNat/2 ^ (i%8)%2
def powN (sk:Nat→Bool) (a:Nat):Nat→Nat→Nat
 | 0,c=>c
 | k+1,c=>powN sk a k (if sk k then mulF c c else mulF (mulF c c) a)
def powQ (top:Nat) (sk:Nat→Bool) (a:Nat):Nat:=powN sk a top a
def invQ (a:Nat):Nat:=powQ 254 (fun i=>decide (i=2)||decide (i=4)) a
structure Qd where
 x:Nat
 y:Nat
 z:Nat
 t:Nat
 deriving DecidableEq
def dQ:Nat:=37095705934669439343138083508754565189542113879843219016388785533085940283555
def ofQ (x y:Nat):Qd:=⟨x,y,1,mulF x y⟩
def zerQ:Qd:=ofQ 0 1
def addQ (v w:Qd):Qd :=
 let a:=mulF (subF v.y v.x) (subF w.y w.x)
 let b:=mulF (addF v.y v.x) (addF w.y w.x)
 let c:=mulF (mulF v.t w.t) dQ
 let c:=addF c c
 let z:=mulF v.z w.z
 let z:=addF z z
 let e:=subF b a
 let f:=subF z c
 let g:=addF z c
 let h:=addF b a
 ⟨mulF e f,mulF h g,mulF g f,mulF e h⟩
def negQ (q:Qd):Qd:=⟨subF 0 q.x,q.y,q.z,subF 0 q.t⟩
def mulS (s:Bs) (p:Qd):Nat→Qd→Qd
 | 0,r=>r
 | k+1,r=>mulS s p k (if bitL s k=1 then addQ (addQ r r) p else addQ r r)
def mulQ (p:Qd) (s:Bs):Qd:=mulS s p 256 zerQ
def encQ (q:Qd):Bs :=
 let b:=toL 32 (mulF q.y (invQ q.z))
 if mulF q.x (invQ q.z)%2==1 then b.set 31 ((b.getD 31 0).toNat%128+128).toUInt8 else b
def ofN (s:Bs):Nat×Int:=if s.length<32 then (0,2) else if 32<s.length then (0,4) else if toL 32 (leL s%PP)≠s then (0,3) else (leL s%PP,0)
def rtX (n:Nat):Nat:=mulF (powQ 251 (fun i=>decide (i=1)) n) n
def rtY (n a:Nat):Nat:=if mulF a a==n then a else mulF a (powQ 252 (fun i=>decide (i=2)) 2)
def rtZ (n b:Nat):Nat×Bool:=if mulF b b==n then (if b%2==1 then subF 0 b else b,true) else (0,false)
def rtQ (n:Nat):Nat×Bool:=rtZ n (rtY n (rtX n))
def deQ (s:Bs):Qd×Int :=
 if s.length≠32 then (zerQ,9) else
 let o:=ofN (s.take 31++[((s.getD 31 0).toNat%128).toUInt8])
 if o.2≠0 then (zerQ,9) else
 let q:=mulF o.1 o.1
 let r:=rtQ (mulF (subF q 1) (invQ (addF (mulF dQ q) 1)))
 let odd:=decide (128≤(s.getD 31 0).toNat)
 if !r.2||(odd&&r.1==0) then (zerQ,9) else (ofQ (if odd then subF 0 r.1 else r.1) o.1,0)
end Go.Proofs.YtdhgpocbcccieaaGreatDoor.M
namespace Go.Proofs.YtdhgpocbcccieaaGreatDoor.M
open Go Go.RowKit Go.Proofs.YtdhgpocbcccieaaGreatDoor.E
variable {G:Gl}
@[irreducible] def neP (p:PD):PD:=⟨true,subD zD (whoP p).x,(whoP p).y,(whoP p).z,subD zD (whoP p).t⟩
theorem pneg_ok (p:PD):Tri Tryz.prog G 212 [.a (pl p)] [] (.a (pl (neP p))) []:=by
 unfold neP
 obtain ⟨v,hv⟩:∃ v,whoP p=v:=⟨_,rfl⟩
 have h1:=who_ok (G:=G) p
 rw [hv] at h1
 rw [hv]
 refine fn Tryz.func212 ?_
 conv=>whnf
 refine cl h1 [] ?_
 conv=>whnf
 iterate 10 (first
  | (refine ⟨rfl,?_⟩; conv=>whnf)
  | (refine cl (neg_ok _) [] ?_; conv=>whnf)
  | skip)
 exact cv []
theorem sbit_ok (s:Bs) (i:Nat) (hi:i<256):Tri Tryz.prog G 164 [sv s,zi (i:Nat)] [] (zi (bitL s i:Nat)) []:=by
 have hsz:=sB_size s
 refine fn Tryz.func164 ?_
 conv=>whnf
 rw [show decide ((i:Int)<0)=false from decide_eq_false (by omega)]
 conv=>whnf
 have e1:IntKind.i64.wrap ((i:Int).tdiv 8)=((i/8:Nat):Int):=by
  rw [Int.tdiv_eq_ediv_of_nonneg (by omega)]
  exact (w64_of (by omega)).trans (by omega)
 rw [e1]
 refine br_of (fun h => ?_) (fun h => ?_) <;> conv=>whnf
 ·have h:s.length≤i/8:=by have:=of_decide_eq_true h; omega
  rw [show bitL s i=0 by unfold bitL; rw [List.getD_eq_getElem?_getD,List.getElem?_eq_none h]; simp]
  exact cv []
 have h:i/8<s.length:=by have:=of_decide_eq_false h; omega
 rw [e1]
 refine ⟨by omega,?_⟩
 conv=>whnf
 have e2:((((s.getD (i/8) 0).toNat:Nat):Int).fdiv (2 ^ min ((i:Int).tmod 8).toNat IntKind.u8.bits))=(((s.getD (i/8) 0).toNat/2 ^ (i%8):Nat):Int):=by
  rw [show min ((i:Int).tmod 8).toNat IntKind.u8.bits=i%8 by rw [Int.tmod_eq_emod_of_nonneg (by omega)]; show min _ 8=_; omega,Int.fdiv_eq_ediv_of_nonneg _ (Int.le_of_lt (Int.pow_pos (by decide))),Int.natCast_ediv,Int.natCast_pow]
  rfl
 rw [sB_at,Int.toNat_natCast,e2,and8]
 exact cv [] (h4:=⟨.inl (congrArg zi (w64_of (by have:=Nat.mod_lt ((s.getD (i/8) 0).toNat/2 ^ (i%8)) (show 0<2 by decide); omega))),trivial⟩)
def mulF' (s:Bs) (p:PD):Nat→PD→PD
 | 0,r=>r
 | k+1,r=>mulF' s p k (if bitL s k=1 then adP (adP r r) p else adP r r)
def muP (p:PD) (s:Bs):PD:=mulF' s p 256 zerP
abbrev plB (p:PD):EB := .r 176 (pl p)
theorem pmul_ok (p:PD) (s:Bs):Tri Tryz.prog G 102 [.a (pl p),sv s] [] (.a (pl (muP p s))) []:=by
 obtain ⟨R,hR⟩:∃ R,muP p s=R:=⟨_,rfl⟩
 rw [hR]
 unfold muP at hR
 refine fn Tryz.func102 ?_
 conv=>whnf
 refine cl zer_ok [] ?_
 conv=>whnf
 refine lp2 (fun (k:Nat) (r:PD)=>([(1,sv s),(2,.p 0 0 0),(4,.p 1 0 0),(5,.p 2 0 0),(6,zi ((k:Int)-1))],[plB p,plB ⟨false,zD,zD,zD,zD⟩,plB r])) (fun k r=>k≤256∧mulF' s p k r=R) (fun k _=>k) 256 zerP ⟨by omega,hR⟩ (cv [0,1,2]) fun k r ⟨hk,hx⟩ => ?_
 conv=>whnf
 refine br_of (fun h => ?_) (fun h => ?_) <;> conv=>whnf
 ·obtain ⟨j,rfl⟩:∃ j,k=j+1:=⟨k-1,by have:=of_decide_eq_true h; omega⟩
  have hx:mulF' s p j (if bitL s j=1 then adP (adP r r) p else adP r r)=R:=hx
  refine cl (padd_ok r r) [] ?_
  conv=>whnf
  rw [show ((j+1:Nat):Int)-1=(j:Nat) by omega]
  refine cl (sbit_ok s j (by omega)) [] ?_
  conv=>whnf
  refine br_of (fun h1 => ?_) (fun h1 => ?_) <;> conv=>whnf
  ·rw [if_pos (by have:=eq_of_beq h1; omega)] at hx
   refine cl (padd_ok (adP r r) p) [] ?_
   conv=>whnf
   exact ⟨(j,_),⟨⟨by omega,hx⟩,Nat.lt_succ_self j⟩,cv [0,1,2] (h4:=⟨.inl rfl,.inl rfl,.inl rfl,.inl rfl,.inl (congrArg zi (w64_of (by omega))),trivial⟩)⟩
  ·rw [if_neg (by have:=beq_eq_false_iff_ne.1 h1; omega)] at hx
   exact ⟨(j,_),⟨⟨by omega,hx⟩,Nat.lt_succ_self j⟩,cv [0,1,2] (h4:=⟨.inl rfl,.inl rfl,.inl rfl,.inl rfl,.inl (congrArg zi (w64_of (by omega))),trivial⟩)⟩
 ·obtain rfl:k=0:=by have:=of_decide_eq_false h; omega
  have hx:r=R:=hx
  subst hx
  exact cv []
def invD (a:Dg):Dg:=powD 254 (fun i=>decide (i=2)||decide (i=4)) a
def oddD (a:Dg):Bool:=((byteD a).getD 0 0).toNat%2==1
theorem odd_ok' (f:Dg):Tri Tryz.prog G 169 [.a (el f)] [] (.v (.bool (oddD f))) []:=odd_ok f
theorem inv_ok' (f:Dg):Tri Tryz.prog G 166 [.a (el f)] [] (.a (el (invD f))) []:=finv_ok f
def enD (p:PD):Bs :=
 let b:=byteD (mulD (whoP p).y (invD (whoP p).z))
 if oddD (mulD (whoP p).x (invD (whoP p).z)) then b.set 31 ((b.getD 31 0).toNat%128+128).toUInt8 else b
theorem or128:∀ c:Fin 256,IntKind.u8.wrap ↑(BitVec.ofInt IntKind.u8.bits (c.val:Int)|||BitVec.ofInt IntKind.u8.bits 128).toNat=((c.val%128+128:Nat):Int):=by decide
theorem an128:∀ c:Fin 256,decide (IntKind.u8.wrap ↑(BitVec.ofInt IntKind.u8.bits (c.val:Int)&&&BitVec.ofInt IntKind.u8.bits 128).toNat>0)=decide (128≤c.val):=by decide
theorem list32 {b:Bs} (h:b.length=32):∃ c0 c1 c2 c3 c4 c5 c6 c7 c8 c9 c10 c11 c12 c13 c14 c15 c16 c17 c18 c19 c20 c21 c22 c23 c24 c25 c26 c27 c28 c29 c30 c31,b=[c0,c1,c2,c3,c4,c5,c6,c7,c8,c9,c10,c11,c12,c13,c14,c15,c16,c17,c18,c19,c20,c21,c22,c23,c24,c25,c26,c27,c28,c29,c30,c31]:=by
 match b,h with
 | [c0,c1,c2,c3,c4,c5,c6,c7,c8,c9,c10,c11,c12,c13,c14,c15,c16,c17,c18,c19,c20,c21,c22,c23,c24,c25,c26,c27,c28,c29,c30,c31],_=>exact ⟨c0,c1,c2,c3,c4,c5,c6,c7,c8,c9,c10,c11,c12,c13,c14,c15,c16,c17,c18,c19,c20,c21,c22,c23,c24,c25,c26,c27,c28,c29,c30,c31,rfl⟩
theorem penc_ok (p:PD):Tri Tryz.prog G 103 [.a (pl p)] [] (sv (enD p)) []:=by
 obtain ⟨R,hR⟩:∃ R,enD p=R:=⟨_,rfl⟩
 rw [hR]
 unfold enD at hR
 obtain ⟨v,hv⟩:∃ v,whoP p=v:=⟨_,rfl⟩
 have h1:=who_ok (G:=G) p
 rw [hv] at h1 hR
 refine fn Tryz.func103 ?_
 conv=>whnf
 refine cl h1 [] ?_
 conv=>whnf
 refine cl (inv_ok' v.z) [] ?_
 generalize invD v.z=one at hR
 conv=>whnf
 refine cl (mul_ok v.y one) [] ?_
 conv=>whnf
 refine cl (bytes_ok _) [] ?_
 have hl:=byteD_len (mulD v.y one)
 generalize byteD (mulD v.y one)=b at hR hl
 conv=>whnf
 refine ⟨by rw [sB_size]; omega,?_⟩
 conv=>whnf
 refine cl (mul_ok v.x one) [] ?_
 conv=>whnf
 refine cl (odd_ok' _) [] ?_
 conv=>whnf
 cases ho:oddD (mulD v.x one) with
 | false =>
  rw [ho,if_neg Bool.false_ne_true] at hR
  subst hR
  conv=>whnf
  refine ⟨b,⟨rfl,rfl,by rw [sB_size]⟩,?_⟩
  conv=>whnf
  exact cv []
 | true =>
  rw [ho,if_pos rfl] at hR
  conv=>whnf
  obtain ⟨c0,c1,c2,c3,c4,c5,c6,c7,c8,c9,c10,c11,c12,c13,c14,c15,c16,c17,c18,c19,c20,c21,c22,c23,c24,c25,c26,c27,c28,c29,c30,c31,rfl⟩:=list32 hl
  refine ⟨⟨by decide,of_decide_eq_true rfl⟩,?_⟩
  conv=>whnf
  have hc:=c31.toNat_lt
  rw [show IntKind.u8.wrap ↑(BitVec.ofInt IntKind.u8.bits (c31.toNat:Int)|||BitVec.ofInt IntKind.u8.bits 128).toNat=(((c31.toNat%128+128).toUInt8.toNat:Nat):Int) from (or128 ⟨c31.toNat,hc⟩).trans (congrArg Int.ofNat ((UInt8.toNat_ofNat' ..).trans (Nat.mod_eq_of_lt (by omega))).symm)]
  refine ⟨⟨by decide,of_decide_eq_true rfl⟩,?_⟩
  conv=>whnf
  subst hR
  refine ⟨[c0,c1,c2,c3,c4,c5,c6,c7,c8,c9,c10,c11,c12,c13,c14,c15,c16,c17,c18,c19,c20,c21,c22,c23,c24,c25,c26,c27,c28,c29,c30,(c31.toNat%128+128).toUInt8],⟨rfl,rfl,rfl⟩,?_⟩
  conv=>whnf
  exact cv []
def pnil:PD:=⟨false,zD,zD,zD,zD⟩
def deD (s:Bs):PD×Int :=
 if s.length≠32 then (pnil,9) else
 let o:=ofD (s.take 31++[((s.getD 31 0).toNat%128).toUInt8])
 if o.2≠0 then (pnil,9) else
 let q:=mulD o.1 o.1
 let r:=rtD (mulD (subD q (nuD 1)) (invD (addD (mulD dD q) (nuD 1))))
 let odd:=decide (128≤(s.getD 31 0).toNat)
 if !r.2||(odd&&byteD r.1==byteD zD) then (pnil,9) else (ofP (if odd then subD zD r.1 else r.1) o.1,0)
theorem ann128:∀ c:Fin 256,IntKind.u8.wrap ↑(BitVec.ofInt IntKind.u8.bits (c.val:Int) &&& ~~~(BitVec.ofInt IntKind.u8.bits 128)).toNat=((c.val%128:Nat):Int):=by decide
theorem pdec_ok (s:Bs):Tri Tryz.prog G 161 [sv s] [] (.t [.a (pl (deD s).1),zi (deD s).2]) []:=by
 obtain ⟨R,hR⟩:∃ R,deD s=R:=⟨_,rfl⟩
 rw [hR]
 unfold deD at hR
 have hsz:=sB_size s
 refine fn Tryz.func161 ?_
 conv=>whnf
 refine br_of (fun h => ?_) (fun h => ?_) <;> conv=>whnf
 ·rw [if_pos (by rw [bne_iff_ne] at h; omega)] at hR
  subst hR
  exact cv []
 have h:s.length=32:=by have:(((sB s).size:Nat):Int)=32:=by simpa using h
                        omega
 rw [if_neg (by omega)] at hR
 refine ⟨by omega,?_⟩
 conv=>whnf
 refine ⟨by omega,?_⟩
 conv=>whnf
 refine ⟨rfl,?_⟩
 conv=>whnf
 refine ⟨by omega,?_⟩
 conv=>whnf
 have ha:=sB_at s 31
 generalize s.getD 31 0=c at hR ha
 have hc:=c.toNat_lt
 have e1:IntKind.u8.wrap ↑(BitVec.ofInt IntKind.u8.bits (c.toNat:Int) &&& ~~~(BitVec.ofInt IntKind.u8.bits 128)).toNat=(((c.toNat%128).toUInt8.toNat:Nat):Int):=(ann128 ⟨c.toNat,hc⟩).trans (congrArg Int.ofNat ((UInt8.toNat_ofNat' ..).trans (Nat.mod_eq_of_lt (by omega))).symm)
 have e2:decide (IntKind.u8.wrap ↑(BitVec.ofInt IntKind.u8.bits (c.toNat:Int)&&&BitVec.ofInt IntKind.u8.bits 128).toNat>0)=decide (128≤c.toNat):=an128 ⟨c.toNat,hc⟩
 rw [show strAt (sB s) (Int.toNat 31)=c from ha,e1,e2]
 clear ha e1 e2
 generalize decide (128≤c.toNat)=odd at hR
 refine ⟨[(c.toNat%128).toUInt8],⟨rfl,rfl,rfl⟩,?_⟩
 conv=>whnf
 have ex:(sB s).extract (Int.toNat 0) (Int.toNat 31)=sB (s.take 31):=sB_ext s 0 31
 rw [ex,show (⟨#[(c.toNat%128).toUInt8]⟩:ByteArray)=sB [(c.toNat%128).toUInt8] from rfl,sB_app]
 refine ⟨by rw [sB_size,sB_size]; simp; omega,?_⟩
 generalize s.take 31++[(c.toNat%128).toUInt8]=u at hR
 conv=>whnf
 refine cl (fof_ok u) [] ?_
 change (if (ofD u).2≠0 then (pnil,9) else
  let q:=mulD (ofD u).1 (ofD u).1
  let r:=rtD (mulD (subD q (nuD 1)) (invD (addD (mulD dD q) (nuD 1))))
  if !r.2||(odd&&byteD r.1==byteD zD) then (pnil,9) else (ofP (if odd then subD zD r.1 else r.1) (ofD u).1,0))=R at hR
 generalize (ofD u).1=y at hR
 generalize (ofD u).2=e at hR
 conv=>whnf
 refine ⟨rfl,?_⟩
 conv=>whnf
 refine br_of (fun h => ?_) (fun h => ?_) <;> conv=>whnf
 ·rw [if_pos (by simpa using h)] at hR
  subst hR
  exact cv []
 rw [if_neg (by simpa using h)] at hR
 refine cl (fnum_ok 1 (.inl rfl)) [] ?_
 conv=>whnf
 refine cl (mul_ok y y) [] ?_
 change (let r:=rtD (mulD (subD (mulD y y) (nuD 1)) (invD (addD (mulD dD (mulD y y)) (nuD 1)))); if !r.2||(odd&&byteD r.1==byteD zD) then (pnil,9) else (ofP (if odd then subD zD r.1 else r.1) y,0))=R at hR
 generalize mulD y y=q at hR
 conv=>whnf
 refine ⟨rfl,?_⟩
 conv=>whnf
 refine cl (dif_ok q (nuD 1)) [] ?_
 conv=>whnf
 refine cl cutd_ok [] ?_
 conv=>whnf
 refine cl (mul_ok dD q) [] ?_
 conv=>whnf
 refine cl (sum_ok _ (nuD 1)) [] ?_
 conv=>whnf
 refine cl (inv_ok' _) [] ?_
 conv=>whnf
 refine cl (mul_ok _ _) [] ?_
 conv=>whnf
 refine cl (froot_ok _) [] ?_
 change (if !(rtD (mulD (subD q (nuD 1)) (invD (addD (mulD dD q) (nuD 1))))).2||(odd&&byteD (rtD (mulD (subD q (nuD 1)) (invD (addD (mulD dD q) (nuD 1))))).1==byteD zD) then (pnil,9) else (ofP (if odd then subD zD (rtD (mulD (subD q (nuD 1)) (invD (addD (mulD dD q) (nuD 1))))).1 else (rtD (mulD (subD q (nuD 1)) (invD (addD (mulD dD q) (nuD 1))))).1) y,0))=R at hR
 generalize (rtD (mulD (subD q (nuD 1)) (invD (addD (mulD dD q) (nuD 1))))).1=x at hR
 generalize (rtD (mulD (subD q (nuD 1)) (invD (addD (mulD dD q) (nuD 1))))).2=is at hR
 conv=>whnf
 refine ⟨rfl,?_⟩
 conv=>whnf
 cases is with
 | false =>
  subst hR
  conv=>whnf
  exact cv []
 | true =>
 conv=>whnf
 cases odd with
 | false =>
  subst hR
  conv=>whnf
  refine cl (of_ok x y) [] ?_
  conv=>whnf
  exact cv []
 | true =>
 conv=>whnf
 refine cl (fzero_ok x) [] ?_
 conv=>whnf
 cases hz:byteD x==byteD zD with
 | true =>
  rw [hz] at hR
  subst hR
  conv=>whnf
  exact cv []
 | false =>
  rw [hz] at hR
  subst hR
  conv=>whnf
  refine cl (neg_ok x) [] ?_
  conv=>whnf
  refine cl (of_ok (subD zD x) y) [] ?_
  conv=>whnf
  exact cv []
end Go.Proofs.YtdhgpocbcccieaaGreatDoor.M
namespace Go.Proofs.YtdhgpocbcccieaaGreatDoor.M
open Go Go.RowKit
theorem leL_toL:∀ (k n:Nat),leL (toL k n)=n%256 ^ k:=by
 intro k
 induction k with
 | zero=>intro n; simp [toL,leL,Nat.mod_one]
 | succ k ih =>
  intro n
  unfold toL leL
  rw [ih,show n.toUInt8.toNat=n%256 from UInt8.toNat_ofNat' ..,Nat.pow_succ,Nat.mul_comm (256 ^ k),Nat.mod_mul]
theorem toL_inj {a b:Nat} (ha:a<PP) (hb:b<PP) (h:toL 32 a=toL 32 b):a=b:=by
 have:=congrArg leL h
 rw [leL_toL,leL_toL] at this
 unfold PP at ha hb
 rwa [Nat.mod_eq_of_lt (Nat.lt_trans ha (by decide)),Nat.mod_eq_of_lt (Nat.lt_trans hb (by decide))] at this
theorem FE.same {f g:Dg} {n m:Nat} (h:FE f n) (k:FE g m):(byteD f==byteD g)=(n==m):=by
 rw [h.bytes,k.bytes,Bool.eq_iff_iff,beq_iff_eq,beq_iff_eq]
 exact ⟨fun e=>toL_inj h.lt k.lt e,fun e=>by rw [e]⟩
theorem FE.odd {f:Dg} {n:Nat} (h:FE f n):oddD f=(n%2==1):=by
 unfold oddD
 rw [h.bytes]
 show (n.toUInt8.toNat%2==1)=_
 rw [show n.toUInt8.toNat=n%256 from UInt8.toNat_ofNat' ..,show n%256%2=n%2 by omega]
theorem V_cu:∀ (k:Nat) (l:Bs),l.length≤2*k→V (cuD l) k=(leL l:Nat):=by
 intro k
 induction k with
 | zero=>intro l h; obtain rfl:l=[]:=List.eq_nil_of_length_eq_zero (by omega)
         rfl
 | succ k ih =>
  intro l h
  rw [V_cons]
  match l,h with
  | [],h =>
   have e:(fun i=>cuD [] (i+1))=cuD []:=rfl
   rw [e,ih [] (by simp)]
   rfl
  | [c],h =>
   have e:(fun i=>cuD [c] (i+1))=cuD []:=by
    funext i
    unfold cuD
    rw [show 2*(i+1)=2*i+1+1 by omega]
    rfl
   rw [e,ih [] (by simp)]
   simp [cuD,leL]
  | c::d::l,h =>
   have e:(fun i=>cuD (c::d::l) (i+1))=cuD l:=by
    funext i
    unfold cuD
    rw [show 2*(i+1)=2*i+1+1 by omega]
    rfl
   rw [e,ih l (by simp at h; omega)]
   simp only [cuD,leL]
   show ((c.toNat:Int)+256*(d.toNat:Int))+_=_
   omega
theorem FE.cut {l:Bs} (h:l.length≤32):FE (cuD l) (leL l%PP):=by
 refine ⟨fun i _ => ?_,?_⟩
 ·have h1:=(l.getD (2*i) 0).toNat_lt
  have h2:=(l.getD (2*i+1) 0).toNat_lt
  unfold cuD
  omega
 ·rw [V_cu 16 l (by omega),fz_nat]
theorem FE.d:FE dD dQ:=by
 have:=FE.cut (l:=dB) (by decide)
 unfold dD
 rwa [show leL dB%PP=dQ by decide +kernel] at this
theorem FE.num {n:Nat} (h:n≤2):FE (nuD n) n:=by
 refine ⟨fun i _ => ?_,?_⟩
 ·unfold nuD
  by_cases e:i=0
  ·subst e; rw [up_s]; omega
  ·rw [up_n e]; unfold zD; omega
 ·unfold nuD
  rw [V_up (by omega),show V zD 16=0 by decide,show zD 0=0 from rfl,show (0:Int)+65536 ^ 0*((n:Int)-0)=n by omega,fz_nat]
  unfold PP
  omega
theorem FE.n1:FE (nuD 1) 1:=FE.num (n:=1) (by omega)
theorem FE.n2:FE (nuD 2) 2:=FE.num (n:=2) (by omega)
theorem FE.pow (sk:Nat→Bool) {a:Dg} {n:Nat} (ha:FE a n):∀ (k:Nat) {c:Dg} {m:Nat},FE c m→FE (powF sk a k c) (powN sk n k m):=by
 intro k
 induction k with
 | zero=>intro c m h; exact h
 | succ k ih =>
  intro c m h
  refine ih ?_
  split
  ·exact h.mul h
  ·exact (h.mul h).mul ha
theorem FE.powD {a:Dg} {n:Nat} (ha:FE a n) (top:Nat) (sk:Nat→Bool):FE (powD top sk a) (powQ top sk n):=by
 unfold Go.Proofs.YtdhgpocbcccieaaGreatDoor.M.powD
 exact ha.pow sk top ha
theorem FE.inv {a:Dg} {n:Nat} (ha:FE a n):FE (invD a) (invQ n):=ha.powD 254 _
theorem FE.rtB {f a:Dg} {n x:Nat} (h:FE f n) (ha:FE a x):FE (rtB f a) (rtY n x):=by
 unfold Go.Proofs.YtdhgpocbcccieaaGreatDoor.M.rtB rtY
 rw [(ha.mul ha).same h]
 split
 ·exact ha
 ·exact ha.mul (FE.n2.powD 252 (fun i=>decide (i=2)))
theorem FE.rtC {f b:Dg} {n y:Nat} (h:FE f n) (hb:FE b y):FE (rtC f b).1 (rtZ n y).1∧(rtC f b).2=(rtZ n y).2:=by
 unfold Go.Proofs.YtdhgpocbcccieaaGreatDoor.M.rtC rtZ
 have:=hb.odd
 unfold oddD at this
 rw [(hb.mul hb).same h,this]
 split
 ·refine ⟨?_,rfl⟩
  split
  ·exact hb.neg
  ·exact hb
 ·exact ⟨FE.zero,rfl⟩
theorem FE.root {f:Dg} {n:Nat} (h:FE f n):FE (rtD f).1 (rtQ n).1∧(rtD f).2=(rtQ n).2:=h.rtC (h.rtB ((h.powD 251 (fun i=>decide (i=1))).mul h))
structure PR (p:PD) (q:Qd):Prop where
 x:FE (whoP p).x q.x
 y:FE (whoP p).y q.y
 z:FE (whoP p).z q.z
 t:FE (whoP p).t q.t
theorem PR.of {x y:Dg} {a b:Nat} (hx:FE x a) (hy:FE y b):PR (ofP x y) (ofQ a b):=⟨hx,hy,FE.n1,hx.mul hy⟩
theorem PR.zer:PR zerP zerQ:=PR.of FE.zero FE.n1
theorem PR.nil:PR pnil zerQ:=⟨PR.zer.x,PR.zer.y,PR.zer.z,PR.zer.t⟩
theorem PR.add {p p':PD} {q q':Qd} (h:PR p q) (k:PR p' q'):PR (adP p p') (addQ q q'):=by
 have ha:=(h.y.sub h.x).mul (k.y.sub k.x)
 have hb:=(h.y.add h.x).mul (k.y.add k.x)
 have hc0:=(h.t.mul k.t).mul FE.d
 have hc:=hc0.add hc0
 have hz0:=h.z.mul k.z
 have hz:=hz0.add hz0
 have he:=hb.sub ha
 have hf:=hz.sub hc
 have hg:=hz.add hc
 have hh:=hb.add ha
 unfold adP
 exact ⟨he.mul hf,hh.mul hg,hg.mul hf,he.mul hh⟩
theorem PR.neg {p:PD} {q:Qd} (h:PR p q):PR (neP p) (negQ q):=by
 unfold neP
 exact ⟨h.x.neg,h.y,h.z,h.t.neg⟩
theorem PR.mulS (s:Bs) {p:PD} {q:Qd} (h:PR p q):∀ (k:Nat) {r:PD} {u:Qd},PR r u→PR (mulF' s p k r) (mulS s q k u):=by
 intro k
 induction k with
 | zero=>intro r u hr; exact hr
 | succ k ih =>
  intro r u hr
  refine ih ?_
  split
  ·exact (hr.add hr).add h
  ·exact hr.add hr
theorem PR.mul {p:PD} {q:Qd} (h:PR p q) (s:Bs):PR (muP p s) (mulQ q s):=h.mulS s 256 PR.zer
theorem PR.enc {p:PD} {q:Qd} (h:PR p q):enD p=encQ q:=by
 unfold enD encQ
 simp only
 rw [(h.y.mul h.z.inv).bytes,(h.x.mul h.z.inv).odd]
theorem of_N (s:Bs) (h:s.length=32):FE (ofD s).1 (ofN s).1∧(ofD s).2=(ofN s).2:=by
 unfold ofD ofN
 rw [if_neg (show ¬ s.length<32 by omega),if_neg (show ¬ 32<s.length by omega),if_neg (show ¬ s.length<32 by omega),if_neg (show ¬ 32<s.length by omega),(FE.cut (l:=s) (by omega)).bytes]
 split
 ·exact ⟨FE.zero,rfl⟩
 ·exact ⟨FE.cut (by omega),rfl⟩
theorem PR.dec (s:Bs):PR (deD s).1 (deQ s).1∧(deD s).2=(deQ s).2:=by
 unfold deD deQ
 by_cases h:s.length≠32
 ·rw [if_pos h,if_pos h]; exact ⟨PR.nil,rfl⟩
 rw [if_neg h,if_neg h]
 obtain ⟨h1,h2⟩:=of_N (s.take 31++[((s.getD 31 0).toNat%128).toUInt8]) (by rw [List.length_append,List.length_take]; simp; omega)
 simp only
 rw [h2]
 generalize (ofD (s.take 31++[((s.getD 31 0).toNat%128).toUInt8])).1=y at h1
 generalize (ofN (s.take 31++[((s.getD 31 0).toNat%128).toUInt8])).1=n at h1
 split
 ·exact ⟨PR.nil,rfl⟩
 have hq:=h1.mul h1
 obtain ⟨h3,h4⟩:=((hq.sub FE.n1).mul ((FE.d.mul hq).add FE.n1).inv).root
 rw [h4,h3.same FE.zero]
 split
 ·exact ⟨PR.nil,rfl⟩
 ·refine ⟨PR.of ?_ h1,rfl⟩
  split
  ·exact h3.neg
  ·exact h3
end Go.Proofs.YtdhgpocbcccieaaGreatDoor.M
namespace Go.Proofs.YtdhgpocbcccieaaGreatDoor.M
open Go Go.RowKit Go.Proofs.YtdhgpocbcccieaaGreatDoor.E
variable {G:Gl}
def cutL (s:Bs):Bs:=toL 32 (leL (s.take 64)%ellC)
def rightL (s:Bs):Bool:=s.length==32&&cutL s==s
theorem wlG (W n N:Nat):((List.range (n+1)).map fun k=>N/W ^ k%W)=N%W::(List.range n).map fun k=>N/W/W ^ k%W:=by
 rw [List.range_succ_eq_map,List.map_cons,List.map_map,Nat.pow_zero,Nat.div_one]
 congr 1
 refine List.map_congr_left fun k _ => ?_
 simp only [Function.comp,Nat.succ_eq_add_one]
 rw [Nat.pow_succ,Nat.mul_comm,Nat.div_div_eq_div_mul]
theorem wlN_succ (n N:Nat):wlN (n+1) N=N%18446744073709551616::wlN n (N/18446744073709551616):=wlG 18446744073709551616 n N
theorem dlt {W N n:Nat} (h:N<W ^ (n+1)):N/W<W ^ n:=Nat.div_lt_of_lt_mul (by rw [Nat.mul_comm,← Nat.pow_succ]; exact h)
theorem valL_wl:∀ (n N:Nat),N<18446744073709551616 ^ n→valL (wlN n N)=N
 | 0,N,h=>by have:N=0:=by simpa using h
             subst this; rfl
 | n+1,N,h=>by
  rw [wlN_succ,valL,valL_wl n _ (dlt h)]
  omega
theorem toL_get:∀ (k n i:Nat),i<k→(toL k n)[i]? = some ((n/256 ^ i).toUInt8):=by
 intro k
 induction k with
 | zero=>intro n i h; omega
 | succ k ih =>
  intro n i h
  unfold toL
  cases i with
  | zero=>simp
  | succ i=>rw [List.getElem?_cons_succ,ih _ _ (by omega),Nat.div_div_eq_div_mul,Nat.pow_succ,Nat.mul_comm 256]
theorem toL_len:∀ (k n:Nat),(toL k n).length=k:=by
 intro k
 induction k with
 | zero=>intro n; rfl
 | succ k ih=>intro n; simp [toL,ih]
theorem byt8 (q r:Nat) (h:r<8):q%18446744073709551616/256 ^ r%256=q/256 ^ r%256:=by
 have e:18446744073709551616=256 ^ r*(256*256 ^ (7-r)):=by
  rw [← Nat.mul_assoc,← Nat.pow_succ,← Nat.pow_add,show r+1+(7-r)=8 by omega]
 rw [e,Nat.mod_mul_right_div_self,Nat.mod_mul_right_mod]
theorem byW_toL (m:Nat):byW (wN m)=toL 32 m:=by
 refine List.ext_getElem? fun i => ?_
 unfold byW
 rw [List.getElem?_map]
 by_cases h:i<32
 ·rw [List.getElem?_range h,toL_get 32 m i h]
  simp only [Option.map_some,Option.some.injEq]
  apply UInt8.toNat_inj.1
  rw [UInt8.toNat_ofNat',Nat.toUInt8,UInt8.toNat_ofNat']
  unfold wN
  rw [Nat.mod_mod,p256 i,← Nat.div_div_eq_div_mul,Nat.pow_mul,show (2:Nat) ^ 8=256 by decide]
  generalize m/18446744073709551616 ^ (i/8)=q
  exact byt8 q (i%8) (Nat.mod_lt _ (by decide))
 ·rw [List.getElem?_eq_none (by simp; omega),List.getElem?_eq_none (by rw [toL_len]; omega)]
  rfl
theorem take_lt (s:Bs) (n:Nat):leL (s.take (8*n))<18446744073709551616 ^ n:=by
 have h:=leL_lt (s.take (8*n))
 rw [show (18446744073709551616:Nat)=256 ^ 8 by decide,← Nat.pow_mul]
 exact Nat.lt_of_lt_of_le h (Nat.pow_le_pow_right (by decide) (by rw [List.length_take]; omega))
theorem sccut_ok (hG:GNum G) (s:Bs) (hs:s.length<1000000000000):Tri Tryz.prog G 256 [sv s] [] (sv (cutL s)) []:=by
 refine fn Tryz.func256 ?_
 conv=>whnf
 refine cl (wload_ok s hs 8 (by decide) (by decide)) [] ?_
 obtain ⟨ws,hw⟩:∃ ws,wlN 8 (leL (s.take (8*8)))=ws:=⟨_,rfl⟩
 have hl:ws.length=8:=by rw [← hw,wlN_len]
 have hv:valL ws=leL (s.take 64):=by rw [← hw,valL_wl _ _ (take_lt s 8)]
 have hc:=wcut_ok hG ws (by omega) (by rw [← hw]; exact wlN_lt _ _)
 rw [hl,hv] at hc
 rw [hw]
 conv=>whnf
 refine cl hc [0] ?_
 conv=>whnf
 refine cl (wtext_ok (wN (leL (s.take 64)%ellC))) [] ?_
 rw [byW_toL]
 conv=>whnf
 exact cv []
theorem scright_ok (hG:GNum G) (s:Bs) (hs:s.length<1000000000000):Tri Tryz.prog G 211 [sv s] [] (.v (.bool (rightL s))) []:=by
 refine fn Tryz.func211 ?_
 conv=>whnf
 have e:(((sB s).size:Int)==32)=(s.length==32):=by rw [sB_size,Bool.eq_iff_iff]; simp; omega
 rw [e]
 cases h:s.length==32 with
 | false =>
  conv=>whnf
  unfold rightL
  rw [h]
  exact cv []
 | true =>
  conv=>whnf
  refine cl (sccut_ok hG s hs) [] ?_
  conv=>whnf
  unfold rightL
  rw [h,eqL]
  exact cv []
def maL (a b c:Bs):Bs:=toL 32 ((leL (a.take 32)*leL (b.take 32)+leL (c.take 32))%ellC)
theorem mul64_ok (x y:Nat) (hx:x<18446744073709551616) (hy:y<18446744073709551616):Tri Tryz.prog G 260 [wi x,wi y] [] (.t [wi (x*y/18446744073709551616),wi (x*y%18446744073709551616)]) [] :=
 Tri.lift (us:=[.int .u64 (x:Int),.int .u64 (y:Int)]) ⟨_,Tryz.func260,by kernel_rfl,rfl⟩ fun w=>(Tryz.bits_Mul64 x y hx hy w).mono fun e w' ⟨h1,h2⟩=>⟨_,h1,fun B=>ER.tv B [_,_],h2 ▸ Touch.refl _ _⟩
theorem mac_step {t c p q B:Nat} (hB:B=18446744073709551616) (ht:t<B) (hc:c<B) (hp:p<B) (hq:q<B) :
  ∃ t' c',t'=(t+(p*q%B+c)%B)%B∧c'=p*q/B+(p*q%B+c)/B+(t+(p*q%B+c)%B)/B∧t'<B∧c'<B∧p*q/B+(p*q%B+c)/B<B∧t'+c'*B=t+c+p*q:=by
 have h1:p*q≤340282366920938463426481119284349108225:=by
  have:=Nat.mul_le_mul (show p≤18446744073709551615 by omega) (show q≤18446744073709551615 by omega)
  omega
 generalize p*q=m at *
 subst hB
 refine ⟨_,_,rfl,rfl,?_,?_,?_,?_⟩ <;> omega
def vW (W:Nat):List Nat→Nat
 | []=>0
 | x::l=>x+W*vW W l
theorem valL_vW:∀ l,valL l=vW 18446744073709551616 l
 | []=>rfl
 | x::l=>by rw [valL,vW,valL_vW l]
theorem vW_set {W:Nat}:∀ {l:List Nat} {k:Nat} (h:k<l.length) (v:Nat),vW W (l.set k v)+l.getD k 0*W ^ k=vW W l+v*W ^ k
 | x::l,0,h,v=>by simp only [List.set_cons_zero,vW,List.getD_cons_zero,Nat.pow_zero]; omega
 | x::l,k+1,h,v=>by
  have ih:=vW_set (W:=W) (l:=l) (k:=k) (by simpa using h) v
  rw [List.set_cons_succ,vW,vW,List.getD_cons_succ,Nat.pow_succ]
  generalize vW W (l.set k v)=a at *
  generalize vW W l=b at *
  generalize l.getD k 0=t at *
  generalize W ^ k=P at *
  grind
theorem vW_take {W:Nat}:∀ {l:List Nat} {k:Nat} (h:k<l.length),vW W (l.take (k+1))=vW W (l.take k)+l.getD k 0*W ^ k
 | x::l,0,h=>by simp [vW]
 | x::l,k+1,h=>by
  rw [List.take_succ_cons,List.take_succ_cons,vW,vW,vW_take (l:=l) (k:=k) (by simpa using h),List.getD_cons_succ,Nat.pow_succ]
  generalize vW W (l.take k)=b at *
  generalize l.getD k 0=t at *
  generalize W ^ k=P at *
  grind
theorem mac_val {W:Nat} {ts ys:List Nat} {i j t' c c' p C Z:Nat} (hi:i+j<ts.length) (hj:j<ys.length) (hs:t'+c'*W=ts.getD (i+j) 0+c+p*ys.getD j 0)
  (hv:vW W ts+c*W ^ (i+j)=C+Z+p*vW W (ys.take j)*W ^ i) :
  vW W (ts.set (i+j) t')+c'*W ^ (i+(j+1))=C+Z+p*vW W (ys.take (j+1))*W ^ i:=by
 have h1:=vW_set (W:=W) (l:=ts) (k:=i+j) hi t'
 rw [vW_take hj,show i+(j+1)=(i+j)+1 by omega,Nat.pow_succ]
 rw [Nat.pow_add] at h1 hv ⊢
 generalize W ^ i=P at *
 generalize W ^ j=Q at *
 generalize ts.getD (i+j) 0=t at *
 generalize ys.getD j 0=q at *
 generalize vW W (ts.set (i+j) t')=V' at *
 generalize vW W ts=V at *
 generalize vW W (ys.take j)=Yj at *
 grind
theorem carry_val {W:Nat} {ts:List Nat} {k t' c c' T:Nat} (hk:k<ts.length) (hs:t'+c'*W=ts.getD k 0+c)
  (hv:vW W ts+c*W ^ k=T):vW W (ts.set k t')+c'*W ^ (k+1)=T:=by
 have h1:=vW_set (W:=W) hk t'
 rw [Nat.pow_succ]
 generalize W ^ k=P at *
 generalize ts.getD k 0=t at *
 generalize vW W (ts.set k t')=V' at *
 generalize vW W ts=V at *
 grind
theorem set_lt {l:List Nat} {k v:Nat} (h:∀ x∈l,x<18446744073709551616) (hv:v<18446744073709551616):∀ x∈l.set k v,x<18446744073709551616:=fun x hx=>by
 rcases List.mem_or_eq_of_mem_set hx with h1 | rfl
 ·exact h x h1
 ·exact hv
theorem getD_w {l:List Nat} (h:∀ x∈l,x<18446744073709551616) (k:Nat):l.getD k 0<18446744073709551616:=by
 rw [List.getD_eq_getElem?_getD]
 by_cases hk:k<l.length
 ·rw [List.getElem?_eq_getElem hk]; exact h _ (List.getElem_mem hk)
 ·rw [List.getElem?_eq_none (by omega)]; simp
theorem scma_ok (hG:GNum G) (a b c:Bs) (ha:a.length<1000000000000) (hb:b.length<1000000000000) (hc:c.length<1000000000000):Tri Tryz.prog G 292 [sv a,sv b,sv c] [] (sv (maL a b c)) []:=by
 have load4:∀ s:Bs,s.length<1000000000000→∃ ws,(ws.length=4∧(∀ x∈ws,x<18446744073709551616)∧valL ws=leL (s.take 32))∧Tri Tryz.prog G 287 [sv s,.v (.int .i64 4)] [] (.s 0 0 4 false) [wsRs ws]:=fun s hs =>
  ⟨_,⟨wlN_len _ _,wlN_lt _ _,valL_wl _ _ (take_lt s 4)⟩,wload_ok s hs 4 (by decide) (by decide)⟩
 obtain ⟨xs,⟨hxl,hxw,hxv⟩,hx⟩:=load4 a ha
 obtain ⟨ys,⟨hyl,hyw,hyv⟩,hy⟩:=load4 b hb
 obtain ⟨zs,⟨hzl,hzw,hzv⟩,hz⟩:=load4 c hc
 have fin:maL a b c=byW (wN ((valL xs*valL ys+valL zs)%ellC)):=by rw [byW_toL,hxv,hyv,hzv]; rfl
 rw [fin]
 clear fin hxv hyv hzv
 refine fn Tryz.func292 ?_
 conv=>whnf
 refine cl hx [] ?_
 conv=>whnf
 refine cl hy [] ?_
 conv=>whnf
 refine ⟨by decide,?_⟩
 conv=>whnf
 refine cl hz [] ?_
 conv=>whnf
 obtain ⟨z0,z1,z2,z3,rfl⟩:∃ a b c d,zs=[a,b,c,d]:=by match zs,hzl with | [a,b,c,d],_=>exact ⟨a,b,c,d,rfl⟩
 refine ⟨⟨by decide,by simp⟩,?_⟩
 conv=>whnf
 obtain ⟨ts0,hts⟩:∃ ts,[z0,z1,z2,z3,0,0,0,0,0]=ts:=⟨_,rfl⟩
 have hz0:valL ts0=valL [z0,z1,z2,z3]:=by rw [← hts]; simp only [valL]
 have hzw0:∀ x∈ts0,x<18446744073709551616:=fun x hx=>by
  rw [← hts] at hx
  have:x∈[z0,z1,z2,z3]∨x=0:=by simp at hx ⊢; omega
  rcases this with h | rfl
  ·exact hzw x h
  ·decide
 have hzb:vW 18446744073709551616 [z0,z1,z2,z3]<2 ^ (64*4):=by rw [← valL_vW]; exact valL_lt hzw
 have hyb:vW 18446744073709551616 ys<2 ^ (64*4):=by rw [← valL_vW,← hyl]; exact valL_lt hyw
 rw [valL_vW,valL_vW] at hz0
 rw [valL_vW,valL_vW,valL_vW]
 generalize vW 18446744073709551616 [z0,z1,z2,z3]=Z at *
 have hxb:∀ k,vW 18446744073709551616 (xs.take k)<2 ^ (64*4):=fun k=>by
  rw [← valL_vW]
  refine Nat.lt_of_lt_of_le (valL_lt fun x hx=>hxw x (List.mem_of_mem_take hx)) (Nat.pow_le_pow_right (by decide) ?_)
  rw [List.length_take]
  omega
 refine lp2 (fun (i:Nat) (ts:List Nat)=>([(7,.s 0 0 4 false),(8,.s 1 0 4 false),(9,.s 2 0 9 false),(28,.s 0 0 4 false),(29,.v (.int .i64 4)),(30,.v (.int .i64 (i:Nat)))],[wsRs xs,wsRs ys,wsRs ts])) (fun i ts=>(i≤4∧ts.length=9∧(∀ x∈ts,x<18446744073709551616))∧vW 18446744073709551616 ts=Z+vW 18446744073709551616 (xs.take i)*vW 18446744073709551616 ys) (fun i ts=>4-i) 0 ts0 ⟨⟨by omega,by rw [← hts]; rfl,hzw0⟩,by rw [hz0,List.take_zero]; simp [vW]⟩ (cv [0,1,2] (h5:=⟨.inl rfl,.inl rfl,.inl (by rw [← hts]; rfl),trivial⟩)) fun i ts ⟨⟨hi,htl,htw⟩,htv⟩ => ?_
 conv=>whnf
 refine br_of (fun h => ?_) (fun h => ?_) <;> conv=>whnf
 rotate_left
 ·have h:i=4:=by have:=of_decide_eq_false h; omega
  rw [h,List.take_of_length_le (by omega)] at htv
  have hc:=wcut_ok hG ts (by omega) htw
  rw [htl,valL_vW,htv,Nat.add_comm] at hc
  refine cl hc [2] ?_
  conv=>whnf
  refine cl (wtext_ok _) [] ?_
  conv=>whnf
  exact cv []
 have h:i<4:=by have:=of_decide_eq_true h; omega
 refine ⟨by omega,?_⟩
 conv=>whnf
 refine ob_of _ (ws_at (by omega)) ?_
 have hpw:=getD_w hxw i
 have hvt:=vW_take (W:=18446744073709551616) (l:=xs) (k:=i) (by omega)
 have hvt:=hvt
 obtain ⟨p,hp⟩:∃ p,xs.getD i 0=p:=⟨_,rfl⟩
 rw [hp] at hpw hvt
 rw [hp]
 obtain ⟨Q,hQ⟩:∃ Q,vW 18446744073709551616 (xs.take i)*vW 18446744073709551616 ys=Q:=⟨_,rfl⟩
 rw [hQ] at htv
 conv=>whnf
 refine lp1 (fun (x:Nat×Nat×List Nat)=>([(7,.s 0 0 4 false),(8,.s 1 0 4 false),(9,.s 2 0 9 false),(28,.s 0 0 4 false),(29,.v (.int .i64 4)),(30,.v (.int .i64 (i:Nat))),(10,.v (.int .i64 (i:Nat))),(11,wi p),(12,wi x.2.1),(35,.s 1 0 4 false),(36,.v (.int .i64 4)),(37,.v (.int .i64 (x.1:Nat)))],[wsRs xs,wsRs ys,wsRs x.2.2])) (fun x=>(x.1≤4∧x.2.1<18446744073709551616∧x.2.2.length=9∧(∀ y∈x.2.2,y<18446744073709551616))∧vW 18446744073709551616 x.2.2+x.2.1*18446744073709551616 ^ (i+x.1)=Z+Q+p*vW 18446744073709551616 (ys.take x.1)*18446744073709551616 ^ i) (fun x=>4-x.1) (0,0,ts) ⟨⟨by omega,by simp only; omega,htl,htw⟩,by simp only [htv,List.take_zero,vW]; omega⟩ (cv [0,1,2]) fun ⟨j,cc,ts⟩ ⟨⟨hj,hcc,htl,htw⟩,htv⟩ => ?_
 simp only at hj hcc htl htw htv
 conv=>whnf
 refine br_of (fun h1 => ?_) (fun h1 => ?_) <;> conv=>whnf
 ·have h1:j<4:=by have:=of_decide_eq_true h1; omega
  refine ⟨by omega,?_⟩
  conv=>whnf
  refine ob_of _ (ws_at (by omega)) ?_
  have hqw:=getD_w hyw j
  have htj:=getD_w htw (i+j)
  obtain ⟨t',c',e1,e2,b1,b2,b3,e3⟩:=mac_step rfl htj hcc hpw hqw
  have hval:=mac_val (by omega) (by omega) e3 htv
  conv=>whnf
  refine cl (mul64_ok p (ys.getD j 0) hpw hqw) [] ?_
  generalize p*ys.getD j 0/18446744073709551616=hg at *
  generalize p*ys.getD j 0%18446744073709551616=lw at *
  conv=>whnf
  refine add64_e lw cc 0 (by decide) ?_
  rw [Nat.add_zero]
  conv=>whnf
  rw [wU64 (n:=(hg:Int)+(((lw+cc)/18446744073709551616:Nat):Int)) (by omega) (by omega),wI64 (n:=(i:Int)+(j:Int)) (by omega) (by omega),show (i:Int)+(j:Int)=((i+j:Nat):Int) by omega]
  refine ⟨⟨by omega,by omega⟩,?_⟩
  conv=>whnf
  refine ob_of _ (ws_at (ws:=ts) (k:=i+j) (by omega)) ?_
  conv=>whnf
  refine add64_e (ts.getD (i+j) 0) ((lw+cc)%18446744073709551616) 0 (by decide) ?_
  rw [Nat.add_zero,← e1]
  conv=>whnf
  refine ⟨⟨by omega,by omega⟩,?_⟩
  conv=>whnf
  refine ob_of _ (ws_at (ws:=ts) (k:=i+j) (by omega)) ?_
  conv=>whnf
  rw [wU64 (n:=(hg:Int)+(((lw+cc)/18446744073709551616:Nat):Int)+(((ts.getD (i+j) 0+(lw+cc)%18446744073709551616)/18446744073709551616:Nat):Int)) (by omega) (by omega),wI64 (n:=(j:Int)+1) (by omega) (by omega),show (hg:Int)+(((lw+cc)/18446744073709551616:Nat):Int)+(((ts.getD (i+j) 0+(lw+cc)%18446744073709551616)/18446744073709551616:Nat):Int)=(c':Int) by omega]
  exact ⟨(j+1,c',ts.set (i+j) t'),⟨⟨⟨by simp only; omega,b2,by simp only [List.length_set]; exact htl,set_lt htw b1⟩,hval⟩,by simp only; omega⟩,cv [0,1,2] (h5:=⟨.inl rfl,.inl rfl,.inl (by rw [Nat.zero_add,Int.toNat_natCast]; show some (EB.rs _ _)=some (EB.rs _ _); rw [List.map_set]),trivial⟩)⟩
 have h1:j=4:=by have:=of_decide_eq_false h1; omega
 subst h1
 rw [List.take_of_length_le (by omega)] at htv
 have hsum:Z+Q+p*vW 18446744073709551616 ys*18446744073709551616 ^ i=Z+vW 18446744073709551616 (xs.take (i+1))*vW 18446744073709551616 ys:=by
  rw [hvt,← hQ]
  generalize 18446744073709551616 ^ i=P
  generalize vW 18446744073709551616 (xs.take i)=A
  generalize vW 18446744073709551616 ys=B
  grind
 rw [hsum] at htv
 have hTlt:Z+vW 18446744073709551616 (xs.take (i+1))*vW 18446744073709551616 ys<18446744073709551616 ^ 9:=by
  have h4:=Nat.mul_le_mul (Nat.le_of_lt (hxb (i+1))) (Nat.le_of_lt hyb)
  rw [show (2:Nat) ^ (64*4)=115792089237316195423570985008687907853269984665640564039457584007913129639936 by decide] at h4 hzb
  rw [show (18446744073709551616:Nat) ^ 9=247330401473104534060502521019647190035131349101211839914063056092897225106531867170316401061243044989597671426016139339351365034306751209967546155101893167916606772148699136 by decide]
  omega
 obtain ⟨T,hT⟩:∃ T,Z+vW 18446744073709551616 (xs.take (i+1))*vW 18446744073709551616 ys=T:=⟨_,rfl⟩
 rw [hT] at htv hTlt
 rw [wI64 (n:=(i:Int)+4) (by omega) (by omega)]
 clear hvt hsum hQ hp
 refine lp1 (fun (x:Nat×Nat×List Nat)=>([(7,.s 0 0 4 false),(8,.s 1 0 4 false),(9,.s 2 0 9 false),(28,.s 0 0 4 false),(29,.v (.int .i64 4)),(30,.v (.int .i64 (i:Nat))),(12,wi x.2.1),(18,.v (.int .i64 (x.1:Nat)))],[wsRs xs,wsRs ys,wsRs x.2.2])) (fun x=>(x.1≤9∧x.2.1<18446744073709551616∧x.2.2.length=9∧(∀ y∈x.2.2,y<18446744073709551616))∧vW 18446744073709551616 x.2.2+x.2.1*18446744073709551616 ^ x.1=T) (fun x=>9-x.1) (i+4,cc,ts) ⟨⟨by simp only; omega,hcc,htl,htw⟩,htv⟩ (cv [0,1,2]) fun ⟨k,cc,ts⟩ ⟨⟨hk,hcc,htl,htw⟩,htv⟩ => ?_
 simp only at hk hcc htl htw htv
 conv=>whnf
 refine br_of (fun h1 => ?_) (fun h1 => ?_) <;> conv=>whnf
 ·have hcp:0<cc:=by have:=of_decide_eq_true h1; simp only at this; omega
  clear h1
  have hk9:k<9:=by
   rcases Nat.lt_or_ge k 9 with h | h
   ·exact h
   ·obtain rfl:k=9:=by omega
    have h3:1*18446744073709551616 ^ 9≤cc*18446744073709551616 ^ 9:=Nat.mul_le_mul_right _ hcp
    rw [Nat.one_mul] at h3
    exact absurd hTlt (Nat.not_lt.2 (Nat.le_trans h3 (by rw [← htv]; exact Nat.le_add_left _ _)))
  have htk:=getD_w htw k
  obtain ⟨t',ht'⟩:∃ t',(ts.getD k 0+cc)%18446744073709551616=t':=⟨_,rfl⟩
  obtain ⟨c',hc'⟩:∃ c',(ts.getD k 0+cc)/18446744073709551616=c':=⟨_,rfl⟩
  have hval:=carry_val (k:=k) (by omega) (show t'+c'*18446744073709551616=ts.getD k 0+cc by omega) htv
  refine ⟨⟨by omega,by omega⟩,?_⟩
  conv=>whnf
  refine ob_of _ (ws_at (ws:=ts) (k:=k) (by omega)) ?_
  conv=>whnf
  refine add64_e (ts.getD k 0) cc 0 (by decide) ?_
  rw [Nat.add_zero,ht',hc']
  conv=>whnf
  refine ⟨⟨by omega,by omega⟩,?_⟩
  conv=>whnf
  refine ob_of _ (ws_at (ws:=ts) (k:=k) (by omega)) ?_
  conv=>whnf
  rw [wI64 (n:=(k:Int)+1) (by omega) (by omega)]
  exact ⟨(k+1,c',ts.set k t'),⟨⟨⟨by show k+1≤9; exact hk9,by show c'<18446744073709551616; omega,by simp only [List.length_set]; exact htl,set_lt htw (by omega)⟩,hval⟩,by simp only; omega⟩,cv [0,1,2] (h5:=⟨.inl rfl,.inl rfl,.inl (by rw [Nat.zero_add,Int.toNat_natCast]; show some (EB.rs _ _)=some (EB.rs _ _); rw [List.map_set]),trivial⟩)⟩
 ·have h1:cc=0:=by have:=of_decide_eq_false h1; simp only at this; omega
  subst h1
  rw [Nat.zero_mul,Nat.add_zero] at htv
  rw [wI64 (n:=(i:Int)+1) (by omega) (by omega)]
  exact ⟨(i+1,ts),⟨⟨⟨by simp only; omega,htl,htw⟩,htv.trans hT.symm⟩,by simp only; omega⟩,cv [0,1,2]⟩
def clL (s:Bs):Bs:=(s.set 0 ((s.getD 0 0).toNat-(s.getD 0 0).toNat%8).toUInt8).set 31 ((s.getD 31 0).toNat%64+64).toUInt8
theorem an248:∀ c:Fin 256,IntKind.u8.wrap ↑(BitVec.ofInt IntKind.u8.bits (c.val:Int)&&&BitVec.ofInt IntKind.u8.bits 248).toNat=((c.val-c.val%8:Nat):Int):=by decide
theorem an63:∀ c:Fin 256,IntKind.u8.wrap ↑(BitVec.ofInt IntKind.u8.bits (IntKind.u8.wrap ↑(BitVec.ofInt IntKind.u8.bits (c.val:Int)&&&BitVec.ofInt IntKind.u8.bits 63).toNat)|||BitVec.ofInt IntKind.u8.bits 64).toNat=((c.val%64+64:Nat):Int):=by decide
theorem scclamp_ok (s:Bs) (hs:s.length=32):Tri Tryz.prog G 100 [sv s] [] (sv (clL s)) []:=by
 obtain ⟨c0,c1,c2,c3,c4,c5,c6,c7,c8,c9,c10,c11,c12,c13,c14,c15,c16,c17,c18,c19,c20,c21,c22,c23,c24,c25,c26,c27,c28,c29,c30,c31,rfl⟩:=list32 hs
 refine fn Tryz.func100 ?_
 conv=>whnf
 refine ⟨⟨rfl,rfl⟩,?_⟩
 conv=>whnf
 have h0:=c0.toNat_lt
 have h1:=c31.toNat_lt
 iterate 4 (first | (refine ⟨⟨by decide,of_decide_eq_true rfl⟩,?_⟩; conv=>whnf) | skip)
 rw [show IntKind.u8.wrap ↑(BitVec.ofInt IntKind.u8.bits (c0.toNat:Int)&&&BitVec.ofInt IntKind.u8.bits 248).toNat=(((c0.toNat-c0.toNat%8).toUInt8.toNat:Nat):Int) from (an248 ⟨c0.toNat,h0⟩).trans (congrArg Int.ofNat ((UInt8.toNat_ofNat' ..).trans (Nat.mod_eq_of_lt (by omega))).symm),show IntKind.u8.wrap ↑(BitVec.ofInt IntKind.u8.bits (IntKind.u8.wrap ↑(BitVec.ofInt IntKind.u8.bits (c31.toNat:Int)&&&BitVec.ofInt IntKind.u8.bits 63).toNat)|||BitVec.ofInt IntKind.u8.bits 64).toNat=(((c31.toNat%64+64).toUInt8.toNat:Nat):Int) from (an63 ⟨c31.toNat,h1⟩).trans (congrArg Int.ofNat ((UInt8.toNat_ofNat' ..).trans (Nat.mod_eq_of_lt (by omega))).symm)]
 refine ⟨clL [c0,c1,c2,c3,c4,c5,c6,c7,c8,c9,c10,c11,c12,c13,c14,c15,c16,c17,c18,c19,c20,c21,c22,c23,c24,c25,c26,c27,c28,c29,c30,c31],⟨rfl,rfl⟩,?_⟩
 conv=>whnf
 exact cv []
theorem repL (s:Bs):∀ c,Lib.repeatL s c=(List.replicate c s).flatten
 | 0=>rfl
 | c+1=>by rw [List.replicate_succ,List.flatten_cons,← repL s c]; rfl
theorem rep_ok (s:Bs) (c:Nat) (h:s.length*c≤1000000) (hc:c≤1000000):Tri Tryz.prog G 158 [sv s,.v (.int .i64 (c:Nat))] [] (sv (List.replicate c s).flatten) [] :=
 Tri.lift (us:=[.string (sB s),.int .i64 (c:Int)]) ⟨_,Tryz.func158,by kernel_rfl,rfl⟩ fun w=>(Tryz.strings_Repeat (sB s) c w (by omega) (by rw [sB_size]; omega)).mono fun e w' ⟨h1,h2⟩=>⟨_,h1,fun B=>by
  rw [show Lib.repeatL (sB s).data.toList c=(List.replicate c s).flatten from repL s c]
  exact .v _,Touch.of_below h2⟩
def baseB:Bs:=88::List.replicate 31 102
theorem pbase_ok:Tri Tryz.prog G 101 [] [] (.a (pl (deD baseB).1)) []:=by
 refine fn Tryz.func101 ?_
 conv=>whnf
 refine cl (rep_ok [102] 31 (by decide) (by decide)) [] ?_
 conv=>whnf
 refine ⟨by decide,?_⟩
 conv=>whnf
 refine cl (pdec_ok baseB) [] ?_
 conv=>whnf
 exact cv []
end Go.Proofs.YtdhgpocbcccieaaGreatDoor.M
namespace Go.Proofs.YtdhgpocbcccieaaGreatDoor
open Go Go.RowKit
def xo (a b:Nat):Nat:=(a%18446744073709551616)^^^(b%18446744073709551616)
def an (a b:Nat):Nat:=(a%18446744073709551616)&&&(b%18446744073709551616)
def orr (a b:Nat):Nat:=(a%18446744073709551616)|||(b%18446744073709551616)
def ad (a b:Nat):Nat:=(a+b)%18446744073709551616
def nt (a:Nat):Nat:=xo 18446744073709551615 a
def rot (x n:Nat):Nat:=orr (x*2 ^ (64-n)%18446744073709551616) (x/2 ^ n)
def keyS:List Nat:=[4794697086780616226,8158064640168781261,13096744586834688815,16840607885511220156,4131703408338449720,6480981068601479193,10538285296894168987,12329834152419229976,15566598209576043074,1334009975649890238,2608012711638119052,6128411473006802146,8268148722764581231,9286055187155687089,11230858885718282805,13951009754708518548,16472876342353939154,17275323862435702243,1135362057144423861,2597628984639134821,3308224258029322869,5365058923640841347,6679025012923562964,8573033837759648693,10970295158949994411,12119686244451234320,12683024718118986047,13788192230050041572,14330467153632333762,15395433587784984357,489312712824947311,1452737877330783856,2861767655752347644,3322285676063803686,5560940570517711597,5996557281743188959,7280758554555802590,8532644243296465576,9350256976987008742,10552545826968843579,11727347734174303076,12113106623233404929,14000437183269869457,14369950271660146224,15101387698204529176,15463397548674623760,17586052441742319658,1182934255886127544,1847814050463011016,2177327727835720531,2830643537854262169,3796741975233480872,4115178125766777443,5681478168544905931,6601373596472566643,7507060721942968483,8399075790359081724,8693463985226723168,9568029438360202098,10144078919501101548,10430055236837252648,11840083180663258601,13761210420658862357,14299343276471374635,14566680578165727644,15097957966210449927,16922976911328602910,17689382322260857208,500013540394364858,748580250866718886,1242879168328830382,1977374033974150939,2944078676154940804,3659926193048069267,4368137639120453308,4836135668995329356,5532061633213252278,6448918945643986474,6902733635092675308,7801388544844847127]
def begS:List Nat:=[7640891576956012808,13503953896175478587,4354685564936845355,11912009170470909681,5840696475078001361,11170449401992604703,2270897969802886507,6620516959819538809]
def beS (l:List Nat):Nat:=l.foldl (fun n c=>orr (n*256%18446744073709551616) c) 0
def wnext (W:List Nat):Nat :=
 let i:=W.length
 let x:=W.getD (i-15) 0
 let y:=W.getD (i-2) 0
 ad (ad (ad (W.getD (i-16) 0) (W.getD (i-7) 0)) (xo (xo (rot x 1) (rot x 8)) (x/2 ^ 7))) (xo (xo (rot y 19) (rot y 61)) (y/2 ^ 6))
def wpre (b:List Nat):Nat→List Nat
 | 0=>[]
 | i+1=>wpre b i++[if i<16 then beS ((b.drop (8*i)).take 8) else wnext (wpre b i)]
def rndX (s:List Nat) (k w:Nat):Nat :=
 let e:=s.getD 4 0
 ad (ad (ad (ad (s.getD 7 0) (xo (xo (rot e 14) (rot e 18)) (rot e 41))) (xo (an e (s.getD 5 0)) (an (nt e) (s.getD 6 0)))) k) w
def rndY (s:List Nat):Nat :=
 let a:=s.getD 0 0
 ad (xo (xo (rot a 28) (rot a 34)) (rot a 39)) (xo (xo (an a (s.getD 1 0)) (an a (s.getD 2 0))) (an (s.getD 1 0) (s.getD 2 0)))
def rnd (s:List Nat) (k w:Nat):List Nat :=
 let x:=rndX s k w
 [ad x (rndY s),s.getD 0 0,s.getD 1 0,s.getD 2 0,ad (s.getD 3 0) x,s.getD 4 0,s.getD 5 0,s.getD 6 0]
def rnds (s:List Nat) (W:List Nat):Nat→List Nat
 | 0=>s
 | i+1=>rnd (rnds s W i) (keyS.getD i 0) (W.getD i 0)
def eatS (s b:List Nat):List Nat:=List.zipWith ad (rnds s (wpre b 80) 80) s
def smS (n:Nat):List Nat:=(List.range 8).map fun j=>n/2 ^ (8*(7-j))%256
def fillS (n:Nat):Nat:=(247-n%128)%128
def padS (m:List Nat):List Nat:=m++[128]++List.replicate (fillS m.length) 0++(if fillS m.length<8 then List.replicate 128 0 else [])++smS (m.length*8%18446744073709551616)
def blkS (t:List Nat):Nat→List Nat
 | 0=>begS
 | i+1=>eatS (blkS t i) ((t.drop (128*i)).take 128)
def sumS (m:List Nat):List Nat:=(blkS (padS m) ((padS m).length/128)).flatMap smS
theorem wrap_c (n:Nat):IntKind.u64.wrap (n:Int)=((n%18446744073709551616:Nat):Int):=by
 simp [IntKind.wrap,IntKind.signed,IntKind.bits]
theorem bv_c (a:Nat):(BitVec.ofInt 64 (a:Int)).toNat=a%18446744073709551616:=by
 rw [BitVec.toNat_ofInt]
 have:((a:Int)%((2 ^ 64:Nat):Int))=((a%18446744073709551616:Nat):Int):=by
  rw [show (2 ^ 64:Nat)=18446744073709551616 by decide]
  omega
 rw [this]
 rfl
theorem xor_c (a b:Nat):bits .xor .u64 (a:Int) (b:Int)=((xo a b:Nat):Int):=by
 have h:bits .xor .u64 (a:Int) (b:Int)=IntKind.u64.wrap (((BitVec.ofInt 64 (a:Int)^^^BitVec.ofInt 64 (b:Int)).toNat:Nat):Int):=rfl
 rw [h,wrap_c,Nat.mod_eq_of_lt (BitVec.isLt _),BitVec.toNat_xor,bv_c,bv_c]
 rfl
theorem and_c (a b:Nat):bits .and .u64 (a:Int) (b:Int)=((an a b:Nat):Int):=by
 have h:bits .and .u64 (a:Int) (b:Int)=IntKind.u64.wrap (((BitVec.ofInt 64 (a:Int)&&&BitVec.ofInt 64 (b:Int)).toNat:Nat):Int):=rfl
 rw [h,wrap_c,Nat.mod_eq_of_lt (BitVec.isLt _),BitVec.toNat_and,bv_c,bv_c]
 rfl
theorem or_c (a b:Nat):bits .or .u64 (a:Int) (b:Int)=((orr a b:Nat):Int):=by
 have h:bits .or .u64 (a:Int) (b:Int)=IntKind.u64.wrap (((BitVec.ofInt 64 (a:Int)|||BitVec.ofInt 64 (b:Int)).toNat:Nat):Int):=rfl
 rw [h,wrap_c,Nat.mod_eq_of_lt (BitVec.isLt _),BitVec.toNat_or,bv_c,bv_c]
 rfl
theorem add_c (a b:Nat):IntKind.u64.wrap ((a:Int)+(b:Int))=((ad a b:Nat):Int):=by
 rw [show (a:Int)+(b:Int)=((a+b:Nat):Int) by omega,wrap_c]
 rfl
theorem shl_c (a n:Nat):IntKind.u64.wrap ((a:Int)*2 ^ n)=((a*2 ^ n%18446744073709551616:Nat):Int):=by
 rw [show (a:Int)*2 ^ n=((a*2 ^ n:Nat):Int) by push_cast; rfl,wrap_c]
theorem shr_c (a n:Nat):(a:Int).fdiv (2 ^ n)=((a/2 ^ n:Nat):Int):=by
 rw [Int.fdiv_eq_ediv_of_nonneg _ (by exact Int.pow_nonneg (by decide))]
 push_cast
 rfl
theorem shd_c (a n:Nat):(a:Int)/2 ^ n=((a/2 ^ n:Nat):Int):=by push_cast; rfl
theorem rnds_len {s:List Nat} (hs:s.length=8) (W:List Nat) (i:Nat):(rnds s W i).length=8:=by
 cases i with
 | zero=>exact hs
 | succ i=>rfl
theorem eatS_len {s:List Nat} (hs:s.length=8) (b:List Nat):(eatS s b).length=8:=by
 unfold eatS
 rw [List.length_zipWith,rnds_len hs,hs]
 rfl
theorem wpre_len (b:List Nat) (i:Nat):(wpre b i).length=i:=by
 induction i with
 | zero=>rfl
 | succ i ih=>rw [wpre,List.length_append,ih]; rfl
theorem blkS_len (t:List Nat) (i:Nat):(blkS t i).length=8:=by
 induction i with
 | zero=>rfl
 | succ i ih=>exact eatS_len ih _
theorem rotn:∀ n:Fin 64,0<n.val→bits .and .u64 (IntKind.u64.wrap (-(n.val:Int))) 63=((64-n.val:Nat):Int):=by decide +kernel
theorem rotl_any (x n:Nat) (hn0:0<n) (hn:n<64) (w:World) :
  Calls Tryz.prog 262 #[.int .u64 (x:Int),.int .i64 (-(n:Int))] w fun e w'=>e = .returned (.int .u64 ((rot x n:Nat):Int))∧w'=w:=by
 have h1:bits .and .u64 (IntKind.u64.wrap (-(n:Int))) 63=((64-n:Nat):Int):=rotn ⟨n,hn⟩ hn0
 go_enter Tryz.func262,Tryz.ntmps262
 go_wp2_with fail
 go_ret
 refine ⟨ret_int ?_,rfl⟩
 rw [shl_c,shd_c,or_c,show 64-(64-n)=n by omega]
 rfl
theorem turn_any (x n:Nat) (hn0:0<n) (hn:n<64) (w:World) :
  Calls Tryz.prog 221 #[.int .u64 (x:Int),.int .i64 (n:Int)] w fun e w'=>e = .returned (.int .u64 ((rot x n:Nat):Int))∧w'=w:=by
 have h1:wrap64 (-(n:Int)) = -(n:Int):=IntWalk.wrap64_in _ (by omega)
 have H:=Lib.hid (fun W=>rotl_any x n hn0 hn W)
 go_enter Tryz.func221,Tryz.ntmps221
 go_wp2_with fail
 refine (H.out _).mono ?_
 rintro e w1 ⟨rfl,rfl⟩
 go_wp2_with fail
 go_ret
 exact ⟨rfl,rfl⟩
end Go.Proofs.YtdhgpocbcccieaaGreatDoor
namespace Go.Proofs.YtdhgpocbcccieaaGreatDoor.M
open Go Go.RowKit Go.Proofs.YtdhgpocbcccieaaGreatDoor.E
variable {G:Gl}
theorem wturn_ok (x n:Nat) (hn0:0<n) (hn:n<64):Tri Tryz.prog G 221 [wi x,.v (.int .i64 (n:Int))] [] (wi (rot x n)) [] :=
 Tri.lift (us:=[.int .u64 (x:Int),.int .i64 (n:Int)]) ⟨_,Tryz.func221,by kernel_rfl,rfl⟩ fun w=>(turn_any x n hn0 hn w).mono fun e w' ⟨h1,h2⟩=>⟨_,h1,fun B => .v _,h2 ▸ Touch.refl _ _⟩
theorem exor8 (a b:Nat):IntKind.u64.wrap ↑(BitVec.ofInt IntKind.u64.bits (a:Int)^^^BitVec.ofInt IntKind.u64.bits (b:Int)).toNat=((xo a b:Nat):Int):=xor_c a b
theorem eand8 (a b:Nat):IntKind.u64.wrap ↑(BitVec.ofInt IntKind.u64.bits (a:Int)&&&BitVec.ofInt IntKind.u64.bits (b:Int)).toNat=((an a b:Nat):Int):=and_c a b
theorem eor8 (a b:Nat):IntKind.u64.wrap ↑(BitVec.ofInt IntKind.u64.bits (a:Int)|||BitVec.ofInt IntKind.u64.bits (b:Int)).toNat=((orr a b:Nat):Int):=or_c a b
theorem eadd8 (a b:Nat):IntKind.u64.wrap ((a:Int)+(b:Int))=((ad a b:Nat):Int):=add_c a b
theorem enot8 (a:Nat):IntKind.u64.wrap ↑(BitVec.ofInt IntKind.u64.bits (if IntKind.u64.signed then -1 else IntKind.u64.max)^^^BitVec.ofInt IntKind.u64.bits (a:Int)).toNat=((nt a:Nat):Int):=xor_c 18446744073709551615 a
theorem eshl8 (n:Nat):IntKind.u64.wrap ((n:Int)*2 ^ min (Int.toNat 8) IntKind.u64.bits)=((n*256%18446744073709551616:Nat):Int):=shl_c n 8
theorem eb8 (c:UInt8):IntKind.u64.wrap (c.toNat:Int)=(c.toNat:Int):=by have:=c.toNat_lt; rw [wU64 (by omega) (by omega)]
abbrev natB (s:Bs):List Nat:=s.map UInt8.toNat
theorem wbig_ok (s:Bs) (hs:s.length≤1000):Tri Tryz.prog G 220 [sv s] [] (wi (beS (natB s))) []:=by
 refine fn Tryz.func220 ?_
 conv=>whnf
 have hsz:=sB_size s
 refine ⟨by omega,?_⟩
 conv=>whnf
 refine lp2 (fun (i:Nat) (n:Nat)=>([(3,wi n),(7,.s 0 0 s.length false),(8,.v (.int .i64 (s.length:Nat))),(9,.v (.int .i64 (i:Nat)))],[.rs 5 (byR s)])) (fun i n=>i≤s.length∧(natB (s.drop i)).foldl (fun n c=>orr (n*256%18446744073709551616) c) n=beS (natB s)) (fun i _=>s.length-i) 0 0 ⟨by omega,rfl⟩ (cv [0]) fun i n ⟨hi,hx⟩ => ?_
 conv=>whnf
 refine br_of (fun h => ?_) (fun h => ?_) <;> conv=>whnf
 rotate_left
 ·have h:i=s.length:=by have:=of_decide_eq_false h; omega
  rw [h,List.drop_length] at hx
  have hx:n=beS (natB s):=hx
  rw [hx]
  exact cv []
 have h:i<s.length:=by have:=of_decide_eq_true h; omega
 refine ⟨by omega,?_⟩
 conv=>whnf
 refine ob_of _ (byR_at h) ?_
 conv=>whnf
 rw [eb8,eshl8,eor8,wI64 (n:=(i:Int)+1) (by omega) (by omega)]
 rw [List.drop_eq_getElem_cons h,show ∀ c l,natB (c::l)=c.toNat::natB l from fun _ _=>rfl,List.foldl_cons] at hx
 exact ⟨(i+1,_),⟨⟨by simp only; omega,hx⟩,by simp only; omega⟩,cv [0]⟩
def smB (n:Nat):Bs:=(List.range 8).map fun j=>UInt8.ofNat (n/2 ^ (8*(7-j))%256)
theorem tB8 (n k:Nat) (s:Int) (hs:min s.toNat IntKind.u64.bits=k):IntKind.u8.wrap ((n:Int).fdiv (2 ^ min s.toNat IntKind.u64.bits))=(((UInt8.ofNat (n/2 ^ k%256)).toNat:Nat):Int):=by
 rw [hs,Int.fdiv_eq_ediv_of_nonneg _ (Int.pow_nonneg (by decide)),UInt8.toNat_ofNat']
 have e:(n:Int)/2 ^ k=((n/2 ^ k:Nat):Int):=by norm_cast
 rw [e,show ∀ x:Int,IntKind.u8.wrap x=x%256 from fun x=>by simp [IntKind.wrap,IntKind.bits,IntKind.signed]]
 omega
theorem wsmall_ok (n:Nat):Tri Tryz.prog G 159 [wi n] [] (sv (smB n)) []:=by
 refine fn Tryz.func159 ?_
 conv=>whnf
 refine lu 9 ?_
 conv=>whnf
 iterate 60 (first
   | (refine ⟨rfl,?_⟩; conv=>whnf)
   | (refine ⟨by decide,?_⟩; conv=>whnf)
   | skip)
 refine ⟨smB n,⟨rfl,?_⟩,?_⟩
 ·show _=List.map _ [_,_,_,_,_,_,_,_]
  iterate 8 (refine cons2 (congrArg (fun z:Int=>E.EV.v (Value.int IntKind.u8 z)) (tB8 n _ _ (by decide))) ?_)
  rfl
 conv=>whnf
 exact cv []
theorem w8_at {l:List Nat} {i:Nat} (h:i<l.length):(nums .u64 l)[0+(i:Int).toNat*Tryz.prog.cellsOf 27]? = some (wi (l.getD i 0)):=by
 rw [show Tryz.prog.cellsOf 27=1 from rfl,Nat.mul_one,Int.toNat_natCast,Nat.zero_add]
 exact nums_at rfl h
theorem w8_ok {l:List Nat} {i:Nat} {v:E.EV} (h:i<l.length):Nat.ble (0+(i:Int).toNat*Tryz.prog.cellsOf 27+[v].length) (nums .u64 l).length=true:=by
 rw [show Tryz.prog.cellsOf 27=1 from rfl,Nat.mul_one,Int.toNat_natCast,Nat.zero_add,nums_len]
 exact Nat.ble_eq_true_of_le h
theorem setsK_8 {l:List Nat} {i m:Nat} {x:Int} {K:List E.EV→Prop} (hx:x=(m:Nat)) (h:K (nums .u64 (l.set i m))):setsK (nums .u64 l) (0+(i:Int).toNat*Tryz.prog.cellsOf 27) [.v (.int .u64 x)] K:=by
 rw [setsK_eq,show Tryz.prog.cellsOf 27=1 from rfl,Nat.mul_one,Int.toNat_natCast,Nat.zero_add,nums_set rfl hx]
 exact h
theorem key8_at {i:Nat} (h:i<80):((keyS.map fun n=>Value.int .u64 (n:Nat)).toArray)[0+(i:Int).toNat*Tryz.prog.cellsOf 27]? = some (.int .u64 ((keyS.getD i 0:Nat):Int)):=by
 rw [show Tryz.prog.cellsOf 27=1 from rfl,Nat.mul_one,Int.toNat_natCast,Nat.zero_add,List.getElem?_toArray,List.getElem?_map,List.getD_eq_getElem?_getD,List.getElem?_eq_getElem (by simpa [keyS] using h)]
 rfl
structure GWid (G:Gl):Prop where
 b:∃ t,G.at_ 1=some (t,(begS.map fun n=>Value.int .u64 (n:Nat)).toArray)
 k:∃ t,G.at_ 2=some (t,(keyS.map fun n=>Value.int .u64 (n:Nat)).toArray)
def wT (b:List Nat) (i:Nat):List Nat:=wpre b i++List.replicate (80-i) 0
theorem wT_len (b:List Nat) {i:Nat} (h:i≤80):(wT b i).length=80:=by simp [wT,wpre_len]; omega
theorem wT_step (b:List Nat) {i:Nat} (h:i<80) {x:Nat} (hx:wpre b (i+1)=wpre b i++[x]):(wT b i).set i x=wT b (i+1):=by
 unfold wT
 rw [List.set_append,if_neg (by rw [wpre_len]; omega),wpre_len,Nat.sub_self,show 80-i=(80-(i+1))+1 by omega,List.replicate_succ,List.set_cons_zero,hx]
 simp
theorem wT_at (b:List Nat) {i j:Nat} (h:j<i):(wT b i).getD j 0=(wpre b i).getD j 0:=by
 unfold wT
 rw [List.getD_eq_getElem?_getD,List.getElem?_append_left (by rw [wpre_len]; exact h),← List.getD_eq_getElem?_getD]
theorem wT_all (b:List Nat):wT b 80=wpre b 80:=by simp [wT]
theorem weat_ok (hG:GWid G) (st:List Nat) (s:Bs) (hst:st.length=8) (hs:s.length=128):Tri Tryz.prog G 160 [.a (nums .u64 st),sv s] [] (.a (nums .u64 (eatS st (natB s)))) []:=by
 obtain ⟨tk,hk⟩:=hG.k
 have hsz:=sB_size s
 obtain ⟨s0,s1,s2,s3,s4,s5,s6,s7,rfl⟩:=list8 hst
 refine fn Tryz.func160 ?_
 conv=>whnf
 refine lp2 (fun (i:Nat) (W:List Nat)=>([(1,sv s),(2,.p 0 0 0),(4,.p 1 0 0),(5,.p 2 0 0),(16,.v (.int .i64 (i:Nat)))],[.r 241 (nums .u64 [s0,s1,s2,s3,s4,s5,s6,s7]),.r 241 (nums .u64 (List.replicate 8 0)),.r 305 (nums .u64 W)])) (fun i W=>i≤80∧W=wT (natB s) i) (fun i _=>80-i) 0 (List.replicate 80 0) ⟨by omega,by rfl⟩ (cv [0,1,2] (h5:=⟨⟨_,rfl,cov_pl (pl_nums _ _)⟩,⟨_,rfl,cov_pl (by rfl)⟩,⟨_,rfl,cov_pl (by rfl)⟩,trivial⟩)) fun i W ⟨hi,hW⟩ => ?_
 have hlen:W.length=80:=by rw [hW]; exact wT_len _ (by omega)
 conv=>whnf
 refine br_of (fun h1 => ?_) (fun h1 => ?_) <;> conv=>whnf
 ·have h1:i<80:=by have:=of_decide_eq_true h1; omega
  refine br_of (fun h2 => ?_) (fun h2 => ?_) <;> conv=>whnf
  ·have h2:i<16:=by have:=of_decide_eq_true h2; omega
   rw [wI64 (n:=8*(i:Int)) (by omega) (by omega),wI64 (n:=8*(i:Int)+8) (by omega) (by omega)]
   refine ⟨⟨by omega,by omega,by omega⟩,?_⟩
   conv=>whnf
   rw [sB_ext,show (s.drop (8*(i:Int)).toNat).take ((8*(i:Int)+8).toNat-(8*(i:Int)).toNat)=(s.drop (8*i)).take 8 by rw [show (8*(i:Int)).toNat=8*i by omega,show (8*(i:Int)+8).toNat-8*i=8 by omega]]
   refine cl (wbig_ok ((s.drop (8*i)).take 8) (by rw [List.length_take]; omega)) [] ?_
   conv=>whnf
   refine ⟨⟨by omega,by omega⟩,?_⟩
   conv=>whnf
   refine br_t (w8_ok (by omega)) ?_
   refine setsK_8 (m:=beS (((natB s).drop (8*i)).take 8)) (by simp only [natB,List.map_take,List.map_drop]) ?_
   conv=>whnf
   rw [wI64 (n:=(i:Int)+1) (by omega) (by omega)]
   exact ⟨(i+1,_),⟨⟨by simp only; omega,by rw [hW]; exact wT_step _ (by omega) (by simp [wpre,h2])⟩,by simp only; omega⟩,cv [0,1,2] (h5:=⟨⟨_,rfl,cov_pl (pl_nums _ _)⟩,⟨_,rfl,cov_pl (by rfl)⟩,⟨_,rfl,cov_pl (pl_nums _ _)⟩,trivial⟩)⟩
  have h2:¬ i<16:=by have:=of_decide_eq_false h2; omega
  have e15:IntKind.i64.wrap ((i:Int)-15)=((i-15:Nat):Int):=by rw [wI64 (by omega) (by omega)]; omega
  have e2:IntKind.i64.wrap ((i:Int)-2)=((i-2:Nat):Int):=by rw [wI64 (by omega) (by omega)]; omega
  have e16:IntKind.i64.wrap ((i:Int)-16)=((i-16:Nat):Int):=by rw [wI64 (by omega) (by omega)]; omega
  have e7:IntKind.i64.wrap ((i:Int)-7)=((i-7:Nat):Int):=by rw [wI64 (by omega) (by omega)]; omega
  rw [e15]
  refine ⟨⟨by omega,by omega⟩,?_⟩
  conv=>whnf
  refine ob_of _ (w8_at (by omega)) ?_
  conv=>whnf
  rw [e2]
  refine ⟨⟨by omega,by omega⟩,?_⟩
  conv=>whnf
  refine ob_of _ (w8_at (by omega)) ?_
  conv=>whnf
  refine ⟨rfl,?_⟩
  conv=>whnf
  rw [e16]
  refine ⟨⟨by omega,by omega⟩,?_⟩
  conv=>whnf
  refine ob_of _ (w8_at (by omega)) ?_
  conv=>whnf
  rw [e7]
  refine ⟨⟨by omega,by omega⟩,?_⟩
  conv=>whnf
  refine ob_of _ (w8_at (by omega)) ?_
  conv=>whnf
  refine cl (wturn_ok _ 1 (by omega) (by omega)) [] ?_
  conv=>whnf
  refine cl (wturn_ok _ 8 (by omega) (by omega)) [] ?_
  conv=>whnf
  refine cl (wturn_ok _ 19 (by omega) (by omega)) [] ?_
  conv=>whnf
  refine cl (wturn_ok _ 61 (by omega) (by omega)) [] ?_
  conv=>whnf
  refine ⟨⟨by omega,by omega⟩,?_⟩
  conv=>whnf
  refine br_t (w8_ok (by omega)) ?_
  refine setsK_8 (m:=wnext (wpre (natB s) i)) ?_ ?_
  ·unfold wnext
   rw [wpre_len,hW,wT_at _ (by omega),wT_at _ (by omega),wT_at _ (by omega),wT_at _ (by omega)]
   simp only [shr_c,exor8,eadd8]
   rfl
  conv=>whnf
  refine ⟨rfl,?_⟩
  conv=>whnf
  rw [wI64 (n:=(i:Int)+1) (by omega) (by omega)]
  exact ⟨(i+1,_),⟨⟨by simp only; omega,by rw [hW]; exact wT_step _ (by omega) (by simp [wpre]; omega)⟩,by simp only; omega⟩,cv [0,1,2] (h5:=⟨⟨_,rfl,cov_pl (pl_nums _ _)⟩,⟨_,rfl,cov_pl (by rfl)⟩,⟨_,rfl,cov_pl (pl_nums _ _)⟩,trivial⟩)⟩
 have h80:i=80:=by have:=of_decide_eq_false h1; omega
 subst h80
 rw [wT_all] at hW
 refine lp2 (fun (i:Nat) (t:List Nat)=>([(2,.p 0 0 0),(4,.p 1 0 0),(5,.p 2 0 0),(9,.p 3 0 0),(70,.v (.int .i64 (i:Nat)))],[.r 241 (nums .u64 [s0,s1,s2,s3,s4,s5,s6,s7]),.r 241 (nums .u64 (List.replicate 8 0)),.r 305 (nums .u64 W),.r 241 (nums .u64 t)])) (fun i t=>i≤80∧t=rnds [s0,s1,s2,s3,s4,s5,s6,s7] W i) (fun i _=>80-i) 0 [s0,s1,s2,s3,s4,s5,s6,s7] ⟨by omega,rfl⟩ (cv [0,1,2,3] (h5:=⟨⟨_,rfl,cov_pl (pl_nums _ _)⟩,⟨_,rfl,cov_pl (by rfl)⟩,⟨_,rfl,cov_pl (pl_nums _ _)⟩,⟨_,rfl,cov_pl (by rfl)⟩,trivial⟩)) fun i t ⟨hi,ht⟩ => ?_
 have hlt:t.length=8:=by rw [ht]; exact rnds_len rfl _ _
 obtain ⟨a0,a1,a2,a3,a4,a5,a6,a7,rfl⟩:=list8 hlt
 conv=>whnf
 refine br_of (fun h1 => ?_) (fun h1 => ?_) <;> conv=>whnf
 rotate_left
 ·have h64:i=80:=by have:=of_decide_eq_false h1; omega
  subst h64
  have e:eatS [s0,s1,s2,s3,s4,s5,s6,s7] (natB s)=List.zipWith ad [a0,a1,a2,a3,a4,a5,a6,a7] [s0,s1,s2,s3,s4,s5,s6,s7]:=by unfold eatS; rw [← hW,ht]
  rw [e]
  refine lu 9 ?_
  conv=>whnf
  iterate 32 (first
   | (refine ⟨rfl,?_⟩; (conv=>whnf))
   | (refine ⟨by decide,?_⟩; (conv=>whnf)) | skip)
  simp only [eadd8]
  exact cv []
 have h1:i<80:=by have:=of_decide_eq_true h1; omega
 iterate 34 (first
   | (refine And.intro rfl ?_; (conv=>whnf))
   | (refine And.intro (by decide) ?_; (conv=>whnf))
   | (refine cl (wturn_ok _ 14 (by omega) (by omega)) [] ?_ (hargs:=⟨.inl rfl,.inl rfl,trivial⟩) (hcov:=trivial); (conv=>whnf))
   | (refine cl (wturn_ok _ 18 (by omega) (by omega)) [] ?_ (hargs:=⟨.inl rfl,.inl rfl,trivial⟩) (hcov:=trivial); (conv=>whnf))
   | (refine cl (wturn_ok _ 41 (by omega) (by omega)) [] ?_ (hargs:=⟨.inl rfl,.inl rfl,trivial⟩) (hcov:=trivial); (conv=>whnf))
   | (refine cl (wturn_ok _ 28 (by omega) (by omega)) [] ?_ (hargs:=⟨.inl rfl,.inl rfl,trivial⟩) (hcov:=trivial); (conv=>whnf))
   | (refine cl (wturn_ok _ 34 (by omega) (by omega)) [] ?_ (hargs:=⟨.inl rfl,.inl rfl,trivial⟩) (hcov:=trivial); (conv=>whnf))
   | (refine cl (wturn_ok _ 39 (by omega) (by omega)) [] ?_ (hargs:=⟨.inl rfl,.inl rfl,trivial⟩) (hcov:=trivial); (conv=>whnf))
   | (refine And.intro (And.intro (by omega) (by omega)) ?_; (conv=>whnf))
   | (refine ob_of _ hk ?_; (conv=>whnf))
   | (refine ob_of _ (key8_at (by omega)) ?_; (conv=>whnf))
   | (refine ob_of _ (w8_at (l:=W) (i:=i) (by omega)) ?_; (conv=>whnf)) | skip)
 rw [wI64 (n:=(i:Int)+1) (by omega) (by omega)]
 refine ⟨(i+1,rnd [a0,a1,a2,a3,a4,a5,a6,a7] (keyS.getD i 0) (W.getD i 0)),⟨⟨by simp only; omega,by show _=rnd (rnds _ _ _) _ _; rw [← ht]⟩,by simp only; omega⟩,cv [0,1,2,3] (h5:=⟨⟨_,rfl,cov_pl (pl_nums _ _)⟩,⟨_,rfl,cov_pl (by rfl)⟩,⟨_,rfl,cov_pl (pl_nums _ _)⟩,⟨_,rfl,cov_eq ?_ (pl_nums _ _)⟩,trivial⟩)⟩
 simp only [exor8,eand8,enot8,eadd8]
 rfl
end Go.Proofs.YtdhgpocbcccieaaGreatDoor.M
namespace Go.Proofs.YtdhgpocbcccieaaGreatDoor.E
open Go Go.RowKit
section
variable {P:Program} {G:Gl}
theorem Tri.gives {f:FuncId} {xs:List EV} {r:EV} {H:List EB} {u:Value} (hfn:∃ fn,P.funcs[f]? = some fn∧(fn.name == "runtime.NumGoroutine")=false∧fn.body.isSome=true)
  (h:∀ S0 w0 B w vs,ERs B xs vs→Wd P G S0 w0 B (hf H) w→Calls P f vs w fun e w'=>e = .returned u∧Touch [] w w') (hp:∀ B,ER B r u):Tri P G f xs H r H :=
 ⟨hfn,fun S0 w0 B w vs has hw=>(h S0 w0 B w vs has hw).mono fun _ _ ⟨he,ht⟩=>⟨B,u,he,Bm.le.refl _,hp B,hw.grow ht⟩⟩
end
end Go.Proofs.YtdhgpocbcccieaaGreatDoor.E
namespace Go.Proofs.YtdhgpocbcccieaaGreatDoor.M
open Go Go.RowKit Go.Proofs.YtdhgpocbcccieaaGreatDoor.E
variable {G:Gl}
abbrev sRa (l:List Bs):List (List E.EV):=l.map fun s=>[sv s]
abbrev sRb (l:List Bs):EB := .rs 9 (sRa l)
theorem join_flat (xs:List (List UInt8)):Lib.join xs []=xs.flatten:=by
 cases xs with
 | nil=>rfl
 | cons x r=>rw [Lib.join_cons]; simp [Lib.joinTail]
theorem joinL (xs:List Bs):Lib.join ((xs.map sB).map (·.data.toList)) (⟨#[]⟩:ByteArray).data.toList=xs.flatten:=by
 rw [show (⟨#[]⟩:ByteArray).data.toList=[] from rfl,join_flat,List.map_map]
 show (xs.map fun x=>x).flatten=_
 rw [List.map_id']
theorem joinB (xs:List Bs):(⟨(Lib.join ((xs.map sB).map (·.data.toList)) (⟨#[]⟩:ByteArray).data.toList).toArray⟩:ByteArray)=sB xs.flatten:=by rw [joinL]
theorem join_ok (xs:List Bs) (h0:xs≠[]) (hN:xs.length≤1000) (hlen:xs.flatten.length≤1000000):Tri Tryz.prog G 157 [.s 0 0 xs.length false,.v (.string ⟨#[]⟩)] [sRb xs] (sv xs.flatten) [sRb xs] :=
 Tri.gives (u := .string (sB xs.flatten)) ⟨_,Tryz.func157,by kernel_rfl,rfl⟩ (fun S0 w0 B w vs has hw=>by
  obtain ⟨u,v,rfl,hu,hv⟩:=has.two
  rw [hv.v_inv]
  have hl:0<xs.length:=List.length_pos_iff.2 h0
  obtain ⟨q,hq,hk,c,hc,hcs,hrl,hr⟩:=(hw.row 0 9 (sRa xs) rfl).here (i:=0) (row:=[sv (xs[0]'hl)]) (by simp [sRa,hl])
  have hk1:q.k=1:=hk.trans rfl
  rcases hu.s_inv with ⟨q',cp,hq',hn,hc0,hcm,hcq, -,rfl⟩ | ⟨h, -⟩
  ·rw [hq] at hq'; cases hq'
   rw [Nat.zero_mul]
   have:=Tryz.strings_Join q.b 0 cp (xs.map sB) ⟨#[]⟩ w (fun j x hj=>by
    rw [List.getElem?_map] at hj
    obtain ⟨y,hy,rfl⟩:=Option.map_eq_some_iff.1 hj
    obtain ⟨-,hrow⟩:=hr j [sv y] (by simp [sRa,hy])
    obtain ⟨u,h1,h2, -⟩:=hrow 0 _ rfl
    rw [hc.cell,Nat.zero_add]
    rw [hk1,Nat.mul_one,Nat.add_zero] at h1
    rw [h1,h2.v_inv]) hc.lt (by rw [List.length_map]; omega) (by rw [List.length_map]; omega) (by rw [joinL]; omega)
   rw [joinB,List.length_map] at this
   exact this.mono fun e w' ⟨h1,h2⟩=>⟨h1,Touch.of_below h2⟩
  ·omega) fun B => .v _
def padB (m:Bs):Bs:=m++[128]++List.replicate (fillS m.length) 0++(if fillS m.length<8 then List.replicate 128 0 else [])++smB (m.length*8)
def sumB (m:Bs):Bs:=(blkS (natB (padB m)) ((padB m).length/128)).flatMap smB
def sumL (l:List Bs):Bs:=sumB l.flatten
theorem smB_len (n:Nat):(smB n).length=8:=by simp [smB]
theorem rep1 (c:UInt8) (n:Nat):(List.replicate n [c]).flatten=List.replicate n c:=by
 induction n with
 | zero=>rfl
 | succ n ih=>rw [List.replicate_succ,List.flatten_cons,ih,List.replicate_succ]; rfl
theorem lwsum_ok (hG:GWid G) (xs:List Bs) (h0:xs≠[]) (hN:xs.length≤1000) (hl:xs.flatten.length≤1000000):Tri Tryz.prog G 99 [.s 0 0 xs.length false] [sRb xs] (sv (sumL xs)) [sRb xs]:=by
 obtain ⟨tb,hb⟩:=hG.b
 have hj:=join_ok (G:=G) xs h0 hN hl
 unfold sumL
 generalize xs.flatten=m at *
 refine fn Tryz.func99 ?_
 conv=>whnf
 refine clQ hj [0] ?_
 conv=>whnf
 have hsz:=sB_size m
 rw [hsz]
 have hf:fillS m.length<128:=Nat.mod_lt _ (by decide)
 have ef:(IntKind.i64.wrap (247-(m.length:Int).tmod 128)).tmod 128=((fillS m.length:Nat):Int):=by
  rw [show (m.length:Int).tmod 128=((m.length%128:Nat):Int) from rfl,wI64 (by omega) (by omega),show (247:Int)-((m.length%128:Nat):Int)=((247-m.length%128:Nat):Int) by omega]
  rfl
 rw [ef]
 have e8:decide (((fillS m.length:Nat):Int)<8)=decide (fillS m.length<8):=by rw [Bool.eq_iff_iff,decide_eq_true_eq,decide_eq_true_eq]; omega
 obtain ⟨Z,hZ⟩:∃ Z:Bs,(if fillS m.length<8 then List.replicate 128 0 else [])=Z:=⟨_,rfl⟩
 have hZl:Z.length≤128:=by rw [← hZ]; split <;> simp
 have hp:padB m=m++[128]++List.replicate (fillS m.length) 0++Z++smB (m.length*8):=by unfold padB; rw [hZ]
 generalize fillS m.length=fl at *
 refine ⟨by show m.length+1≤_; omega,?_⟩
 conv=>whnf
 refine cl (rep_ok [0] fl (by simp; omega) (by omega)) [] ?_
 rw [rep1]
 conv=>whnf
 rw [show (⟨#[128]⟩:ByteArray)=sB [128] from rfl,sB_app]
 refine ⟨by rw [sB_size,sB_size]; simp; omega,?_⟩
 conv=>whnf
 rw [sB_app]
 refine br_of (fun h => ?_) (fun h => ?_)
 case' refine_1 =>
  have h:fl<8:=by have:=of_decide_eq_true h; omega
  rw [if_pos h] at hZ
  conv=>whnf
  refine cl (rep_ok [0] 128 (by decide) (by decide)) [] ?_
  rw [rep1]
  conv=>whnf
  refine ⟨by rw [sB_size,sB_size]; simp; omega,?_⟩
  conv=>whnf
  rw [sB_app,hZ]
 case' refine_2 =>
  have h:¬ fl<8:=by have:=of_decide_eq_false h; omega
  rw [if_neg h] at hZ
  conv=>whnf
  rw [show m++[128]++List.replicate fl 0=m++[128]++List.replicate fl 0++Z by rw [← hZ,List.append_nil]]
 all_goals
  rw [hsz,wU64 (n:=(m.length:Int)) (by omega) (by omega),wU64 (n:=(m.length:Int)*8) (by omega) (by omega),show (m.length:Int)*8=((m.length*8:Nat):Int) by omega]
  refine cl (wsmall_ok (m.length*8)) [] ?_
  conv=>whnf
  have hsl:(smB (m.length*8)).length=8:=smB_len _
  refine ⟨by rw [sB_size,sB_size,hsl]; simp; omega,?_⟩
  conv=>whnf
  rw [sB_app,← hp]
  have hpl:(padB m).length≤1000400:=by rw [hp]; simp [hsl]; omega
  clear hp e8 ef
  refine ob_of _ hb ?_
  conv=>whnf
  unfold sumB
  generalize padB m=t at *
  rw [sB_size,show (t.length:Int).tdiv 128=((t.length/128:Nat):Int) from rfl,wI64 (n:=((t.length/128:Nat):Int)) (by omega) (by omega)]
  refine lp2 (fun (i:Nat) (st:List Nat)=>([(5,sv t),(6,.p 1 0 0),(38,.v (.int .i64 (t.length/128:Nat))),(39,.v (.int .i64 (i:Nat)))],[sRb xs,.r 241 (nums .u64 st)])) (fun i st=>i≤t.length/128∧st=blkS (natB t) i) (fun i _=>t.length/128-i) 0 begS ⟨by omega,rfl⟩ (cv [0,1]) fun i st ⟨hi,hst⟩ => ?_
  have hlt:st.length=8:=by rw [hst]; exact blkS_len _ _
  obtain ⟨a0,a1,a2,a3,a4,a5,a6,a7,rfl⟩:=list8 hlt
  conv=>whnf
  refine br_of (fun h1 => ?_) (fun h1 => ?_) <;> conv=>whnf
  ·have h1:i<t.length/128:=by have:=of_decide_eq_true h1; omega
   rw [wI64 (n:=128*(i:Int)) (by omega) (by omega),wI64 (n:=128*(i:Int)+128) (by omega) (by omega)]
   refine ⟨⟨by omega,by omega,by rw [sB_size]; omega⟩,?_⟩
   conv=>whnf
   rw [sB_ext,show (t.drop (128*(i:Int)).toNat).take ((128*(i:Int)+128).toNat-(128*(i:Int)).toNat)=(t.drop (128*i)).take 128 by rw [show (128*(i:Int)).toNat=128*i by omega,show (128*(i:Int)+128).toNat-128*i=128 by omega]]
   have he:=weat_ok hG [a0,a1,a2,a3,a4,a5,a6,a7] ((t.drop (128*i)).take 128) rfl (by rw [List.length_take,List.length_drop]; omega)
   have hb2:blkS (natB t) (i+1)=eatS [a0,a1,a2,a3,a4,a5,a6,a7] (natB ((t.drop (128*i)).take 128)):=by
    rw [blkS,← hst]
    simp only [natB,List.map_take,List.map_drop]
   rw [← hb2] at he
   obtain ⟨b0,b1,b2,b3,b4,b5,b6,b7,hb8⟩:=list8 (blkS_len (natB t) (i+1))
   rw [hb8] at he
   refine cl he [] ?_
   conv=>whnf
   refine ⟨rfl,?_⟩
   conv=>whnf
   rw [wI64 (n:=(i:Int)+1) (by omega) (by omega)]
   exact ⟨(i+1,_),⟨⟨by simp only; omega,hb8.symm⟩,by simp only; omega⟩,cv [0,1]⟩
  have h1:i=t.length/128:=by have:=of_decide_eq_false h1; omega
  rw [← h1,← hst]
  refine lu 9 ?_
  conv=>whnf
  iterate 8
   refine ⟨by decide,?_⟩
   conv=>whnf
   refine cl (wsmall_ok _) [] ?_
   conv=>whnf
   refine ⟨by simp only [ByteArray.size_append,sB_size,smB_len,show (⟨#[]⟩:ByteArray).size=0 from rfl]; decide,?_⟩
   conv=>whnf
  rw [show (⟨#[]⟩:ByteArray)=sB [] from rfl,sB_app,sB_app,sB_app,sB_app,sB_app,sB_app,sB_app,sB_app,show []++smB a0++smB a1++smB a2++smB a3++smB a4++smB a5++smB a6++smB a7=[a0,a1,a2,a3,a4,a5,a6,a7].flatMap smB by simp]
  exact cv [0]
end Go.Proofs.YtdhgpocbcccieaaGreatDoor.M
namespace Go.Proofs.YtdhgpocbcccieaaGreatDoor.M
open Go Go.RowKit Go.Proofs.YtdhgpocbcccieaaGreatDoor.E
def endL (r:HR):Bs:=(hfin r).2.1.flatMap wordU
def shaL (s:Bs):Bs:=endL (s.foldl hstep hstart)
def leafL (s:Bs):Bs:=endL (s.foldl hstep (hstep hstart 0))
def nodeL (l r:Bs):Bs:=endL (r.foldl hstep (l.foldl hstep (hstep hstart 1)))
structure Ky where
 a:Bs
 pre:Bs
 pub:Bs
 deriving DecidableEq,Inhabited
def bsQ:Qd:=ofQ 15112221349535400772501151409588531511454012693041857206046113283949847762202 46316835694926478169428394003475163141307993866256225615783033603165251855960
theorem bsQ_eq:deQ baseB=(bsQ,0):=by decide +kernel
def baseL (s:Bs):Bs:=encQ (mulQ bsQ s)
def keyL (s:Bs):Ky :=
 let h:=sumL [s]
 let a:=clL (h.take 32)
 ⟨a,h.drop 32,baseL a⟩
def signL (k:Ky) (m:Bs):Bs :=
 if k.pub=[] then [] else
 let r:=cutL (sumL [k.pre,m])
 baseL r++maL (cutL (sumL [baseL r,k.pub,m])) k.a r
def fitsL (pub m sig:Bs):Bool :=
 if (deQ pub).2≠0 then false else encQ (addQ (mulQ bsQ (sig.drop 32)) (mulQ (negQ (deQ pub).1) (cutL (sumL [sig.take 32,pub,m]))))==sig.take 32
def verL (pub m sig:Bs):Bool:=if sig.length≠64 then false else if !rightL (sig.drop 32) then false else fitsL pub m sig
end Go.Proofs.YtdhgpocbcccieaaGreatDoor.M
