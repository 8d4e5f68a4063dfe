/- Part 15 of the proof: Vt. -/
import Derived.Test.YtdhgpocbcccieaaGreatDoorZ9
import Derived.Test.YtdhgpocbcccieaaGreatDoorZ12
import Derived.Test.YtdhgpocbcccieaaGreatDoorZ13
import Derived.Test.YtdhgpocbcccieaaGreatDoorZ14
set_option maxRecDepth 1000000
set_option maxHeartbeats 20000000
set_option linter.unusedVariables false
set_option linter.unusedSimpArgs false
namespace Go.Proofs.YtdhgpocbcccieaaGreatDoor.M3
open Go Go.RowKit Go.Proofs.YtdhgpocbcccieaaGreatDoor.E Go.Proofs.YtdhgpocbcccieaaGreatDoor.M
variable {G:Gl}
abbrev msO (PL LN K:Nat) (m:Ms):EB := .r 77 [sv m.c.secret,i64 (m.c.nodes:Nat),i64 (m.c.room:Nat),u64 m.c.every,u64 m.c.gossip,u64 m.c.retry.base,u64 m.c.retry.most,u64 m.c.retry.span,i64 m.c.retry.tries,i64 m.c.retry.room,sv m.k.a,sv m.k.pre,sv m.k.pub,.s PL 0 K false,.s LN 0 m.net.length false,u64 m.now]
abbrev twH (la:List Ac) (m:Ms):List EB:=[.g,msO 2 92 3 m,.rv 87 [[.p 93 0 0,.p 10 0 0,.s 105 0 (m.at_ 0).view.length false],[.p 106 0 0,.p 24 0 0,.s 118 0 (m.at_ 1).view.length false],[.p 119 0 0,.p 38 0 0,.s 131 0 (m.at_ 2).view.length false]],.g,.g,.g,.g,.g,.g,.g,dkB 99 (m.at_ 0).n.j.d,.g,.g,.g,.g,.g,.g,.g,.g,.g,.g,.g,.g,.g,dkB 112 (m.at_ 1).n.j.d,.g,.g,.g,.g,.g,.g,.g,.g,.g,.g,.g,.g,.g,dkB 125 (m.at_ 2).n.j.d,.g,.g,.g,.g,.g,.g,.g,msO 47 132 3 m,.rv 87 [[.p 133 0 0,.p 55 0 0,.s 145 0 (m.at_ 0).view.length false],[.p 146 0 0,.p 69 0 0,.s 158 0 (m.at_ 1).view.length false],[.p 159 0 0,.p 83 0 0,.s 171 0 (m.at_ 2).view.length false]],.g,.g,.g,.g,.g,.g,.g,dkB 139 (m.at_ 0).n.j.d,.g,.g,.g,.g,.g,.g,.g,.g,.g,.g,.g,.g,.g,dkB 152 (m.at_ 1).n.j.d,.g,.g,.g,.g,.g,.g,.g,.g,.g,.g,.g,.g,.g,dkB 165 (m.at_ 2).n.j.d,.g,.g,.g,.g,.g,.g,.g,acRs la,pkRs m.net,ndB 94 95 97 100 104 (m.at_ 0).n,sRs [(m.at_ 0).n.key],wtB 96 (m.at_ 0).n,hdRs (m.at_ 0).n.s.pend,jnB 98 10 (m.at_ 0).n.j,sRs (m.at_ 0).n.j.l,wrRs (m.at_ 0).n.j.d.loose,tbB 101 102 (m.at_ 0).n.t,tmB (m.at_ 0).n.t.tried,hpB 103 (m.at_ 0).n.t.due (m.at_ 0).n.t.c.room,alRs (m.at_ 0).n.t.due,rqB (m.at_ 0).n,sRs (m.at_ 0).view,ndB 107 108 110 113 117 (m.at_ 1).n,sRs [(m.at_ 1).n.key],wtB 109 (m.at_ 1).n,hdRs (m.at_ 1).n.s.pend,jnB 111 24 (m.at_ 1).n.j,sRs (m.at_ 1).n.j.l,wrRs (m.at_ 1).n.j.d.loose,tbB 114 115 (m.at_ 1).n.t,tmB (m.at_ 1).n.t.tried,hpB 116 (m.at_ 1).n.t.due (m.at_ 1).n.t.c.room,alRs (m.at_ 1).n.t.due,rqB (m.at_ 1).n,sRs (m.at_ 1).view,ndB 120 121 123 126 130 (m.at_ 2).n,sRs [(m.at_ 2).n.key],wtB 122 (m.at_ 2).n,hdRs (m.at_ 2).n.s.pend,jnB 124 38 (m.at_ 2).n.j,sRs (m.at_ 2).n.j.l,wrRs (m.at_ 2).n.j.d.loose,tbB 127 128 (m.at_ 2).n.t,tmB (m.at_ 2).n.t.tried,hpB 129 (m.at_ 2).n.t.due (m.at_ 2).n.t.c.room,alRs (m.at_ 2).n.t.due,rqB (m.at_ 2).n,sRs (m.at_ 2).view,pkRs m.net,ndB 134 135 137 140 144 (m.at_ 0).n,sRs [(m.at_ 0).n.key],wtB 136 (m.at_ 0).n,hdRs (m.at_ 0).n.s.pend,jnB 138 55 (m.at_ 0).n.j,sRs (m.at_ 0).n.j.l,wrRs (m.at_ 0).n.j.d.loose,tbB 141 142 (m.at_ 0).n.t,tmB (m.at_ 0).n.t.tried,hpB 143 (m.at_ 0).n.t.due (m.at_ 0).n.t.c.room,alRs (m.at_ 0).n.t.due,rqB (m.at_ 0).n,sRs (m.at_ 0).view,ndB 147 148 150 153 157 (m.at_ 1).n,sRs [(m.at_ 1).n.key],wtB 149 (m.at_ 1).n,hdRs (m.at_ 1).n.s.pend,jnB 151 69 (m.at_ 1).n.j,sRs (m.at_ 1).n.j.l,wrRs (m.at_ 1).n.j.d.loose,tbB 154 155 (m.at_ 1).n.t,tmB (m.at_ 1).n.t.tried,hpB 156 (m.at_ 1).n.t.due (m.at_ 1).n.t.c.room,alRs (m.at_ 1).n.t.due,rqB (m.at_ 1).n,sRs (m.at_ 1).view,ndB 160 161 163 166 170 (m.at_ 2).n,sRs [(m.at_ 2).n.key],wtB 162 (m.at_ 2).n,hdRs (m.at_ 2).n.s.pend,jnB 164 83 (m.at_ 2).n.j,sRs (m.at_ 2).n.j.l,wrRs (m.at_ 2).n.j.d.loose,tbB 167 168 (m.at_ 2).n.t,tmB (m.at_ 2).n.t.tried,hpB 169 (m.at_ 2).n.t.due (m.at_ 2).n.t.c.room,alRs (m.at_ 2).n.t.due,rqB (m.at_ 2).n,sRs (m.at_ 2).view]
theorem pk_ne (p:Pk):eqI Tryz.prog .neq 41 (.a (pkE p)) (.a (pkE p))=some (bv false):=by
 have e:(!((p.frm==p.frm)&&((p.dst==p.dst)&&(((sB p.s).toList==(sB p.s).toList)&&true))))=false:=by simp
 rw [eqI_eq]
 refine Eq.trans (b:=some (bv (!((p.frm==p.frm)&&((p.dst==p.dst)&&(((sB p.s).toList==(sB p.s).toList)&&true)))))) (by kernel_rfl) ?_
 rw [e]
theorem fsame1 (a:Fs) (hl:a.pend.length≤10000):Tri Tryz.prog G 12 [.a (fsE 0 a),.a (fsE 1 a)] [hdRs a.pend,hdRs a.pend] (bv true) [hdRs a.pend,hdRs a.pend]:=by
 have h:=fsame_ok (G:=G) a a hl
 rwa [show decide (a=a)=true from decide_eq_true rfl] at h
theorem same1 (l:List Bs) (hl:l.length≤1000000):Tri Tryz.prog G 14 [.s 0 0 l.length false,.s 1 0 l.length false] [sRs l,sRs l] (bv true) [sRs l,sRs l]:=by
 have h:=same_ok (G:=G) l l hl
 rwa [show decide (l=l)=true from decide_eq_true rfl] at h
theorem twins_ok (hG:GSig G) (hS:GSha G) (hH:GHas G) (hF:fixedL=true) (s:Bs) (hs:s.length≤9223372036854775807) (l:List Ac) (V:Value) (ha:Tri Tryz.prog G 7 [.v V,i64 16] [] (.s 0 0 (l.take 16).length false) [acRs (l.take 16)]):Tri Tryz.prog G 3 [sv s,.v V] [.g] (bv true) [.g]:=by
 have hp:=plain_ok (G:=G) hS s 3 hs
 have hfx:=M2.fixed_ok hG hS hH
 rw [hF] at hfx
 have hs:(refL (s.take 100)).length=32:=refL_len _
 have hn:=new_ok hG hS hH (refL (s.take 100)) hs
 have hok:=new_inv (refL (s.take 100)) 3 (by decide) (by decide)
 have hl0:(Ms.new (plain (refL (s.take 100)) 3)).l=[pl0 (refL (s.take 100)) 3,pl0 (refL (s.take 100)) 3,pl0 (refL (s.take 100)) 3]:=rfl
 generalize Ms.new (plain (refL (s.take 100)) 3)=m at *
 generalize pl0 (refL (s.take 100)) 3=q at *
 generalize plain (refL (s.take 100)) 3=cc at *
 clear hs
 have hml:m.l.length=3:=by rw [hl0]; rfl
 have a0:m.at_ 0=q:=by unfold Ms.at_; rw [hl0]; rfl
 have a1:m.at_ 1=q:=by unfold Ms.at_; rw [hl0]; rfl
 have a2:m.at_ 2=q:=by unfold Ms.at_; rw [hl0]; rfl
 rw [show mH m q q q=mH m (m.at_ 0) (m.at_ 1) (m.at_ 2) from by rw [a0,a1,a2]] at hn
 clear a0 a1 a2 hl0
 refine fn Tryz.func3 ?_
 conv=>whnf
 refine ckQ hp [] ?_
 conv=>whnf
 refine ck hn [] ?_
 conv=>whnf
 refine ckQ hp [] ?_
 conv=>whnf
 refine ck hn [] ?_
 conv=>whnf
 refine ckN ha [] [acRs (l.take 16)] ?_
 conv=>whnf
 have hla:(l.take 16).length≤16:=by rw [List.length_take]; omega
 generalize l.take 16=la at *
 clear hp hn
 refine lp2 (fun (i:Nat) (m:Ms)=>([(4,bv false),(5,.p 1 0 0),(7,.p 46 0 0),(9,.s 91 0 la.length false),(10,i64 (i:Nat))],twH la m)) (fun i m=>(i≤la.length∧m.l.length=3)∧Ms.ok (100000-i) m) (fun i _=>la.length-i) 0 m ⟨⟨by omega,hml⟩,hok⟩ (kv [0,1,2,3,4,5,6,7,8,9,10,11,12,13,14,15,16,17,18,19,20,21,22,23,24,25,26,27,28,29,30,31,32,33,34,35,36,37,38,39,40,41,42,43,44,45,46,47,48,49,50,51,52,53,54,55,56,57,58,59,60,61,62,63,64,65,66,67,68,69,70,71,72,73,74,75,76,77,78,79,80,81,82,83,84,85,86,87,88,89,90,91,3,4,5,6,7,8,9,11,12,13,14,15,16,17,18,19,20,21,22,23,25,26,27,28,29,30,31,32,33,34,35,36,37,39,40,41,42,43,44,45,48,49,50,51,52,53,54,56,57,58,59,60,61,62,63,64,65,66,67,68,70,71,72,73,74,75,76,77,78,79,80,81,82,84,85,86,87,88,89,90]) fun i m ⟨⟨hi,hml⟩,hok⟩ => ?_
 conv=>whnf
 have hm3:=three_of hml
 refine br_of (fun h1 => ?_) (fun h1 => ?_) <;> conv=>whnf
 rotate_left
 ·have hv:=fun i hi=>hok.n _ (at_mem (m:=m) (i:=i) hi)
  have hp:∀ i,i<m.l.length→(m.at_ i).n.s.pend.length≤10000:=fun i hi=>by obtain ⟨a1, -, -, -, -⟩:=hok.n _ (at_mem hi); have:=a1.p.1; have:=a1.c.r2; omega
  have hw:∀ i,i<m.l.length→(m.at_ i).view.length≤12:=fun i hi=>(hok.v _ (at_mem hi)).1
  refine lu 4 ?_
  conv=>whnf
  refine ckQ (node0_ok m (m.at_ 0) (m.at_ 1) (m.at_ 2)) [1,2,92,93,94,95,96,97,98,10,99,100,101,102,103,104,105,106,107,108,109,110,111,24,112,113,114,115,116,117,118,119,120,121,122,123,124,38,125,126,127,128,129,130,131] ?_
  conv=>whnf
  refine ckQ (node0_ok m (m.at_ 0) (m.at_ 1) (m.at_ 2)) [46,47,132,133,134,135,136,137,138,55,139,140,141,142,143,144,145,146,147,148,149,150,151,69,152,153,154,155,156,157,158,159,160,161,162,163,164,83,165,166,167,168,169,170,171] ?_
  conv=>whnf
  refine ckQ (node0_ok m (m.at_ 0) (m.at_ 1) (m.at_ 2)) [1,2,92,93,94,95,96,97,98,10,99,100,101,102,103,104,105,106,107,108,109,110,111,24,112,113,114,115,116,117,118,119,120,121,122,123,124,38,125,126,127,128,129,130,131] ?_
  conv=>whnf
  refine ckN (nstate_ok (m.at_ 0).n (by have:=hp 0 (by omega); omega)) [93,94,95,96,97,98,10,99,100,101,102,103,104] [hdRs (m.at_ 0).n.s.pend] ?_
  conv=>whnf
  refine ckQ (node0_ok m (m.at_ 0) (m.at_ 1) (m.at_ 2)) [46,47,132,133,134,135,136,137,138,55,139,140,141,142,143,144,145,146,147,148,149,150,151,69,152,153,154,155,156,157,158,159,160,161,162,163,164,83,165,166,167,168,169,170,171] ?_
  conv=>whnf
  refine ckN (nstate_ok (m.at_ 0).n (by have:=hp 0 (by omega); omega)) [133,134,135,136,137,138,55,139,140,141,142,143,144] [hdRs (m.at_ 0).n.s.pend] ?_
  conv=>whnf
  refine ckQ (fsame1 (m.at_ 0).n.s (hp 0 (by omega))) [172,173] ?_
  conv=>whnf
  refine ckN (view0_ok m (m.at_ 0) (m.at_ 1) (m.at_ 2) (hw 0 (by omega))) [1,2,92,93,94,95,96,97,98,10,99,100,101,102,103,104,105,106,107,108,109,110,111,24,112,113,114,115,116,117,118,119,120,121,122,123,124,38,125,126,127,128,129,130,131] [sRs (m.at_ 0).view] ?_
  conv=>whnf
  refine ckN (view0_ok m (m.at_ 0) (m.at_ 1) (m.at_ 2) (hw 0 (by omega))) [46,47,132,133,134,135,136,137,138,55,139,140,141,142,143,144,145,146,147,148,149,150,151,69,152,153,154,155,156,157,158,159,160,161,162,163,164,83,165,166,167,168,169,170,171] [sRs (m.at_ 0).view] ?_
  conv=>whnf
  refine ckQ (same1 (m.at_ 0).view (by have:=hw 0 (by omega); omega)) [174,175] ?_
  conv=>whnf
  refine ckQ (node1_ok m (m.at_ 0) (m.at_ 1) (m.at_ 2)) [1,2,92,93,94,95,96,97,98,10,99,100,101,102,103,104,105,106,107,108,109,110,111,24,112,113,114,115,116,117,118,119,120,121,122,123,124,38,125,126,127,128,129,130,131] ?_
  conv=>whnf
  refine ckQ (node1_ok m (m.at_ 0) (m.at_ 1) (m.at_ 2)) [46,47,132,133,134,135,136,137,138,55,139,140,141,142,143,144,145,146,147,148,149,150,151,69,152,153,154,155,156,157,158,159,160,161,162,163,164,83,165,166,167,168,169,170,171] ?_
  conv=>whnf
  refine ckQ (node1_ok m (m.at_ 0) (m.at_ 1) (m.at_ 2)) [1,2,92,93,94,95,96,97,98,10,99,100,101,102,103,104,105,106,107,108,109,110,111,24,112,113,114,115,116,117,118,119,120,121,122,123,124,38,125,126,127,128,129,130,131] ?_
  conv=>whnf
  refine ckN (nstate_ok (m.at_ 1).n (by have:=hp 1 (by omega); omega)) [106,107,108,109,110,111,24,112,113,114,115,116,117] [hdRs (m.at_ 1).n.s.pend] ?_
  conv=>whnf
  refine ckQ (node1_ok m (m.at_ 0) (m.at_ 1) (m.at_ 2)) [46,47,132,133,134,135,136,137,138,55,139,140,141,142,143,144,145,146,147,148,149,150,151,69,152,153,154,155,156,157,158,159,160,161,162,163,164,83,165,166,167,168,169,170,171] ?_
  conv=>whnf
  refine ckN (nstate_ok (m.at_ 1).n (by have:=hp 1 (by omega); omega)) [146,147,148,149,150,151,69,152,153,154,155,156,157] [hdRs (m.at_ 1).n.s.pend] ?_
  conv=>whnf
  refine ckQ (fsame1 (m.at_ 1).n.s (hp 1 (by omega))) [176,177] ?_
  conv=>whnf
  refine ckN (view1_ok m (m.at_ 0) (m.at_ 1) (m.at_ 2) (hw 1 (by omega))) [1,2,92,93,94,95,96,97,98,10,99,100,101,102,103,104,105,106,107,108,109,110,111,24,112,113,114,115,116,117,118,119,120,121,122,123,124,38,125,126,127,128,129,130,131] [sRs (m.at_ 1).view] ?_
  conv=>whnf
  refine ckN (view1_ok m (m.at_ 0) (m.at_ 1) (m.at_ 2) (hw 1 (by omega))) [46,47,132,133,134,135,136,137,138,55,139,140,141,142,143,144,145,146,147,148,149,150,151,69,152,153,154,155,156,157,158,159,160,161,162,163,164,83,165,166,167,168,169,170,171] [sRs (m.at_ 1).view] ?_
  conv=>whnf
  refine ckQ (same1 (m.at_ 1).view (by have:=hw 1 (by omega); omega)) [178,179] ?_
  conv=>whnf
  refine ckQ (node2_ok m (m.at_ 0) (m.at_ 1) (m.at_ 2)) [1,2,92,93,94,95,96,97,98,10,99,100,101,102,103,104,105,106,107,108,109,110,111,24,112,113,114,115,116,117,118,119,120,121,122,123,124,38,125,126,127,128,129,130,131] ?_
  conv=>whnf
  refine ckQ (node2_ok m (m.at_ 0) (m.at_ 1) (m.at_ 2)) [46,47,132,133,134,135,136,137,138,55,139,140,141,142,143,144,145,146,147,148,149,150,151,69,152,153,154,155,156,157,158,159,160,161,162,163,164,83,165,166,167,168,169,170,171] ?_
  conv=>whnf
  refine ckQ (node2_ok m (m.at_ 0) (m.at_ 1) (m.at_ 2)) [1,2,92,93,94,95,96,97,98,10,99,100,101,102,103,104,105,106,107,108,109,110,111,24,112,113,114,115,116,117,118,119,120,121,122,123,124,38,125,126,127,128,129,130,131] ?_
  conv=>whnf
  refine ckN (nstate_ok (m.at_ 2).n (by have:=hp 2 (by omega); omega)) [119,120,121,122,123,124,38,125,126,127,128,129,130] [hdRs (m.at_ 2).n.s.pend] ?_
  conv=>whnf
  refine ckQ (node2_ok m (m.at_ 0) (m.at_ 1) (m.at_ 2)) [46,47,132,133,134,135,136,137,138,55,139,140,141,142,143,144,145,146,147,148,149,150,151,69,152,153,154,155,156,157,158,159,160,161,162,163,164,83,165,166,167,168,169,170,171] ?_
  conv=>whnf
  refine ckN (nstate_ok (m.at_ 2).n (by have:=hp 2 (by omega); omega)) [159,160,161,162,163,164,83,165,166,167,168,169,170] [hdRs (m.at_ 2).n.s.pend] ?_
  conv=>whnf
  refine ckQ (fsame1 (m.at_ 2).n.s (hp 2 (by omega))) [180,181] ?_
  conv=>whnf
  refine ckN (view2_ok m (m.at_ 0) (m.at_ 1) (m.at_ 2) (hw 2 (by omega))) [1,2,92,93,94,95,96,97,98,10,99,100,101,102,103,104,105,106,107,108,109,110,111,24,112,113,114,115,116,117,118,119,120,121,122,123,124,38,125,126,127,128,129,130,131] [sRs (m.at_ 2).view] ?_
  conv=>whnf
  refine ckN (view2_ok m (m.at_ 0) (m.at_ 1) (m.at_ 2) (hw 2 (by omega))) [46,47,132,133,134,135,136,137,138,55,139,140,141,142,143,144,145,146,147,148,149,150,151,69,152,153,154,155,156,157,158,159,160,161,162,163,164,83,165,166,167,168,169,170,171] [sRs (m.at_ 2).view] ?_
  conv=>whnf
  refine ckQ (same1 (m.at_ 2).view (by have:=hw 2 (by omega); omega)) [182,183] ?_
  conv=>whnf
  refine ckQ hfx [] ?_
  conv=>whnf
  exact kv [0]
 have h1:i<la.length:=by have:=of_decide_eq_true h1; omega
 refine ⟨by omega,?_⟩
 conv=>whnf
 refine ob_of (acE la[i]) (by simp [h1]) ?_
 conv=>whnf
 obtain ⟨a,ha⟩:∃ a,la[i]=a:=⟨_,rfl⟩
 rw [ha]
 have hok2:Ms.ok (100000-(i+1)+1) m:=by rwa [show 100000-(i+1)+1=100000-i by omega]
 have hk:=hok2.act (by omega) a
 have hl2:=(act_len (m:=m) a).trans hml
 obtain ⟨m2,e,hma⟩:∃ m2 e,m.act a=(m2,e):=⟨_,_,rfl⟩
 rw [hma] at hk hl2
 have hd:=do_ok hG hS hH m (m.at_ 0) (m.at_ 1) (m.at_ 2) hm3 _ hok2 a m2 e (m2.at_ 0) (m2.at_ 1) (m2.at_ 2) hma (three_of hl2)
 refine ck hd [1,2,92,93,94,95,96,97,98,10,99,100,101,102,103,104,105,106,107,108,109,110,111,24,112,113,114,115,116,117,118,119,120,121,122,123,124,38,125,126,127,128,129,130,131] ?_
 conv=>whnf
 refine ⟨by omega,?_⟩
 conv=>whnf
 refine ob_of (acE a) (by simp [h1,ha]) ?_
 conv=>whnf
 refine ck hd [46,47,132,133,134,135,136,137,138,55,139,140,141,142,143,144,145,146,147,148,149,150,151,69,152,153,154,155,156,157,158,159,160,161,162,163,164,83,165,166,167,168,169,170,171] ?_
 conv=>whnf
 refine ⟨by kernel_rfl,?_⟩
 conv=>whnf
 refine br_of (fun h2=>absurd h2 (by simp)) (fun _ => ?_)
 clear hd hok2 hok hm3
 conv=>whnf
 refine ckN (net_ok m2 (m2.at_ 0) (m2.at_ 1) (m2.at_ 2) hk.net) [1,2,172,173,174,175,176,177,178,10,179,180,181,182,183,184,185,186,187,188,189,190,191,24,192,193,194,195,196,197,198,199,200,201,202,203,204,38,205,206,207,208,209,210,211] [pkRs m2.net] ?_
 conv=>whnf
 refine ckN (net_ok m2 (m2.at_ 0) (m2.at_ 1) (m2.at_ 2) hk.net) [46,47,212,213,214,215,216,217,218,55,219,220,221,222,223,224,225,226,227,228,229,230,231,69,232,233,234,235,236,237,238,239,240,241,242,243,244,83,245,246,247,248,249,250,251] [pkRs m2.net] ?_
 conv=>whnf
 have hb:∀ x:Int,(x != x)=false:=fun x=>by simp
 rw [hb]
 conv=>whnf
 refine ckQ (now_ok m2 (m2.at_ 0) (m2.at_ 1) (m2.at_ 2)) [1,2,172,173,174,175,176,177,178,10,179,180,181,182,183,184,185,186,187,188,189,190,191,24,192,193,194,195,196,197,198,199,200,201,202,203,204,38,205,206,207,208,209,210,211] ?_
 conv=>whnf
 refine ckQ (now_ok m2 (m2.at_ 0) (m2.at_ 1) (m2.at_ 2)) [46,47,212,213,214,215,216,217,218,55,219,220,221,222,223,224,225,226,227,228,229,230,231,69,232,233,234,235,236,237,238,239,240,241,242,243,244,83,245,246,247,248,249,250,251] ?_
 conv=>whnf
 rw [hb]
 conv=>whnf
 have hnl:m2.net.length≤64:=hk.net
 refine lp1 (fun (j:Nat)=>([(4,bv false),(5,.p 1 0 0),(7,.p 46 0 0),(9,.s 91 0 la.length false),(10,i64 (i:Nat)),(11,.s 172 0 m2.net.length false),(12,.s 173 0 m2.net.length false),(13,i64 (j:Nat))],twH la m2++[pkRs m2.net,pkRs m2.net])) (fun j=>j≤m2.net.length) (fun j=>m2.net.length-j) 0 (Nat.zero_le _) (kv [0,1,2,3,4,5,6,7,8,9,10,11,12,13,14,15,16,17,18,19,20,21,22,23,24,25,26,27,28,29,30,31,32,33,34,35,36,37,38,39,40,41,42,43,44,45,46,47,48,49,50,51,52,53,54,55,56,57,58,59,60,61,62,63,64,65,66,67,68,69,70,71,72,73,74,75,76,77,78,79,80,81,82,83,84,85,86,87,88,89,90,91,172,173,174,175,176,177,178,179,180,181,182,183,184,185,186,187,188,189,190,191,192,193,194,195,196,197,198,199,200,201,202,203,204,205,206,207,208,209,210,211,212,213,214,215,216,217,218,219,220,221,222,223,224,225,226,227,228,229,230,231,232,233,234,235,236,237,238,239,240,241,242,243,244,245,246,247,248,249,250,251,252,253]) fun j hj => ?_
 conv=>whnf
 refine br_of (fun h3 => ?_) (fun h3 => ?_) <;> conv=>whnf
 rotate_left
 ·rw [wI64 (n:=(i:Int)+1) (by omega) (by omega)]
  exact ⟨(i+1,m2),⟨⟨⟨h1,hl2⟩,hk⟩,by show la.length-(i+1)<la.length-i; omega⟩,kv [0,1,2,3,4,5,6,7,8,9,10,11,12,13,14,15,16,17,18,19,20,21,22,23,24,25,26,27,28,29,30,31,32,33,34,35,36,37,38,39,40,41,42,43,44,45,46,47,48,49,50,51,52,53,54,55,56,57,58,59,60,61,62,63,64,65,66,67,68,69,70,71,72,73,74,75,76,77,78,79,80,81,82,83,84,85,86,87,88,89,90,91,92,93,94,95,96,97,98,99,100,101,102,103,104,105,106,107,108,109,110,111,112,113,114,115,116,117,118,119,120,121,122,123,124,125,126,127,128,129,130,131,132,133,134,135,136,137,138,139,140,141,142,143,144,145,146,147,148,149,150,151,152,153,154,155,156,157,158,159,160,161,162,163,164,165,166,167,168,169,170,171]⟩
 have h3:j<m2.net.length:=by have:=of_decide_eq_true h3; omega
 refine ⟨by omega,?_⟩
 conv=>whnf
 refine ob_of (pkE m2.net[j]) (by simp [h3]) ?_
 conv=>whnf
 refine ⟨by omega,?_⟩
 conv=>whnf
 refine ob_of (pkE m2.net[j]) (by simp [h3]) ?_
 conv=>whnf
 refine ob_of _ (pk_ne m2.net[j]) ?_
 conv=>whnf
 refine ⟨by kernel_rfl,?_⟩
 conv=>whnf
 rw [wI64 (n:=(j:Int)+1) (by omega) (by omega)]
 exact ⟨j+1,⟨h3,by show m2.net.length-(j+1)<m2.net.length-j; omega⟩,kv [0,1,2,3,4,5,6,7,8,9,10,11,12,13,14,15,16,17,18,19,20,21,22,23,24,25,26,27,28,29,30,31,32,33,34,35,36,37,38,39,40,41,42,43,44,45,46,47,48,49,50,51,52,53,54,55,56,57,58,59,60,61,62,63,64,65,66,67,68,69,70,71,72,73,74,75,76,77,78,79,80,81,82,83,84,85,86,87,88,89,90,91,92,93,94,95,96,97,98,99,100,101,102,103,104,105,106,107,108,109,110,111,112,113,114,115,116,117,118,119,120,121,122,123,124,125,126,127,128,129,130,131,132,133,134,135,136,137,138,139,140,141,142,143,144,145,146,147,148,149,150,151,152,153,154,155,156,157,158,159,160,161,162,163,164,165,166,167,168,169,170,171,172,173]⟩
end Go.Proofs.YtdhgpocbcccieaaGreatDoor.M3
