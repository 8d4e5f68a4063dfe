/- Part 3 of the proof: Eh El Ec Ed Et Eu Ex Ib Ic Id Wi. -/
import Derived.Scope
import Derived.Test.YtdhgpocbcccieaaGreatDoorProg
import Derived.RangeFuncNested
import Derived.RangeFuncBound
import Derived.RangeFuncLeaves
import Derived.OrdersIn
import Derived.Shelf.Abstract
import Derived.Shelf.RegionOpen
import Derived.WalkKit
import Derived.OwnWalkIn
import Derived.TacticsInMore
import Derived.LoopNIn
import Derived.LoopIn
import Derived.Deep.MidRow
import Derived.Test.YtdhgpocbcccieaaGreatDoorY2
set_option maxRecDepth 1000000
set_option maxHeartbeats 20000000
set_option linter.unusedVariables false
set_option linter.unusedSimpArgs false
namespace Go.Proofs.YtdhgpocbcccieaaGreatDoor.E
open Go Go.RowKit
section
variable {P:Program} {G:Gl} {ops:Array Oper} {o:Oper} {T:List (Nat×EV)} {H H':List EB} {K:KE} {B:Bm}
theorem ObjAt.ofq {w:World} {q:BI} {ck:Nat} {es:List (Int×Nat×EV)} (h:ObjAt B w q (.mq ck es)):ObjAt B w q (.mp ck es):=h.2
def lupQ (P:Program) (H:List EB) (t:TypeId) (m k:EV) (c:Bool) (K:KE) (N:Prop):Prop :=
 match m with
 | .m L=>(match H[L]? with
  | some (.o (.mq _ es))=>(match k with | .v (.int .i64 n)=>ob (mapT P t) fun p=>mGetK n es (fun v=>K (okV c v true) H [L] []) (zvK P p.2 fun v=>K (okV c v false) H [L] []) | _=>False)
  | _=>N)
 | _=>N
theorem Out.lupQ {t:TypeId} {m k:Operand} {c:Bool} {N:Prop} (ho:o.op = .lookup t m k c) (h:Go.Proofs.YtdhgpocbcccieaaGreatDoor.E.lupQ P H t (ev T m) (ev T k) c K N):Out P G ops o T H K∨N:=by
 unfold Go.Proofs.YtdhgpocbcccieaaGreatDoor.E.lupQ at h
 split at h
 ·rename_i L hm
  split at h
  ·rename_i ck es hb
   split at h
   ·rename_i n hk
    obtain ⟨p,hp,h⟩:=ob_inv h
    obtain ⟨p1,p2⟩:=mapT_of hp
    have main:∀ r:EV,K r H [L] []→(∀ (B:Bm) (en:List Go.MapEntry) (w:World),EnAt B en es→∃ rr,Instr.findNow (.int .i64) (.int .i64 n) en 0=some rr∧∃ z:Value,(∀ w,(zeroValue p.2).run P w = .ok z w∨rr.isSome=true)∧ER B r (if c then .tuple #[(rr.map (·.2)).getD z,.bool rr.isSome] else (rr.map (·.2)).getD z))→Out P G ops o T H K:=fun r hK hr=>by
     refine Out.rd hK fun S0 w0 B a w g hxs hw hg => ?_
     obtain ⟨q,hq,hob⟩:=hw.mp L (.mq ck es) (by rw [hg,hf_get hb])
     obtain ⟨en,he,hen⟩:=EnAt.of hob.ofq
     have h1:=hxs m (by rw [ho]; simp [Op.operands])
     rw [hm] at h1
     have h1:=m_val hq h1
     have h2:=hxs k (by rw [ho]; simp [Op.operands])
     rw [hk] at h2
     have h2:=h2.v_inv
     obtain ⟨rr,f1,z,f2,f3⟩:=hr B en.toList w hen
     refine ⟨_,?_,f3⟩
     unfold execOp
     have hfk:=run_findKey (P:=P) p2 f1 w
     simp only [ho,h1,h2,Instr.lookup,Sem.run_bind,run_underlying p1,Result.andThen_ok,getObj,Sem.run,he,Sem.run_pure,run_checkKey p2,hfk]
     cases rr with
     | some y=>cases c <;> simp [Sem.run_pure]
     | none =>
      have:=(f2 w).resolve_right (by simp)
      cases c <;> simp [this]
    rcases mGetK_ok h with ⟨i,b',v,h1,h2⟩ | ⟨h1,h2⟩
    ·refine .inl (main _ h2 fun B en w he => ?_)
     obtain ⟨y,_,_,_,a4,a5⟩:=EnAt.find h1 0 he
     exact ⟨_,a5,undef,fun w => .inr rfl,okV_er a4⟩
    ·obtain ⟨z,x,hK,hx,hz⟩:=zvK_ok h2
     exact .inl (main _ hK fun B en w he=>⟨_,EnAt.noFind 0 h1 he,z,fun w => .inl (hz w),okV_er (hx B)⟩)
   ·exact h.elim
  ·exact .inr h
 ·exact .inr h
def mqWr (H:List EB) (L:Nat) (ck:Nat) (K:KE) (es:List (Int×Nat×EV)):Prop:=setK H L (.o (.mq ck es)) fun H'=>K (.t []) H' [L] [L]
theorem Out.mapQ {L ck ck':Nat} {es es':List (Int×Nat×EV)} {r:EV} (hb:H[L]? = some (.o (.mq ck es))) (hK:K r (H.set L (.o (.mq ck' es'))) [L] [L]) (hpl:(∀ p,p∈es→plE p.2.2=true)→∀ p,p∈es'→plE p.2.2=true)
  (hrun:∀ (B:Bm) (a:Act) (w:World) (q:BI) (en:Array Go.MapEntry),(∀ x,x∈o.op.operands→ER B (ev T x) (a.eval x))→B L=some q→w.heap[q.b]? = some (.map en ck)→EnAt B en.toList es →
   ∃ v nx en',(execOp a.eval o).run P w = .ok nx (wset w q.b (.map en' ck'))∧(nx = .value v∨nx = .skip∧v=undef)∧ER B r v∧EnAt B en'.toList es'):Out P G ops o T H K:=by
 refine Out.wr (lt_of_get hb) hK fun S0 w0 B a w g hxs hw hg => ?_
 obtain ⟨q,hq,hob⟩:=hw.mp L (.mq ck es) (by rw [hg,hf_get hb])
 obtain ⟨en,he,hen⟩:=EnAt.of hob.ofq
 obtain ⟨v,nx,en',h1,h2,h3,h4⟩:=hrun B a w q en hxs hq he hen
 exact ⟨v,_,nx,h1,h2,h3,hw.obj (by rw [hg,hf_get hb]) hq _ ⟨hpl hob.1,EnAt.obj (wset_get _ (Array.getElem?_eq_some_iff.1 he).1) h4⟩⟩
def updQ (P:Program) (H:List EB) (t:TypeId) (m k y:EV) (K:KE) (N:Prop):Prop :=
 match m with
 | .m L=>(match H[L]? with
  | some (.o (.mq ck es))=>(match k with | .v (.int .i64 n)=>br (plE y) (ob (mapT P t) fun _=>mSetK n y es (mqWr H L ck K) (appK es [(n,ck,y)] (mqWr H L (ck+1) K))) False | _=>False)
  | _=>N)
 | _=>N
theorem Out.updQ {t:TypeId} {m k x:Operand} {N:Prop} (ho:o.op = .mapUpdate t m k x) (h:Go.Proofs.YtdhgpocbcccieaaGreatDoor.E.updQ P H t (ev T m) (ev T k) (ev T x) K N):Out P G ops o T H K∨N:=by
 unfold Go.Proofs.YtdhgpocbcccieaaGreatDoor.E.updQ at h
 have hops:m∈o.op.operands∧k∈o.op.operands∧x∈o.op.operands:=by rw [ho]; simp [Op.operands]
 have hex:∀ (a:Act) (w w':World),(Instr.mapUpdate t (a.eval m) (a.eval k) (a.eval x)).run P w = .ok () w'→(execOp a.eval o).run P w = .ok .skip w':=fun a w w' h=>by
  unfold execOp
  simp [ho,h]
 split at h
 ·rename_i L hm
  split at h
  ·rename_i ck es hb
   split at h
   ·rename_i n hk
    rcases br_inv h with ⟨hpl,h⟩ | ⟨_,h⟩
    rotate_left
    ·exact h.elim
    obtain ⟨p,hp,h⟩:=ob_inv h
    obtain ⟨p1,p2⟩:=mapT_of hp
    have vals:∀ {B:Bm} {a:Act} {q:BI},(∀ x,x∈o.op.operands→ER B (ev T x) (a.eval x))→B L=some q→a.eval m = .map (some q.b)∧a.eval k = .int .i64 n:=fun hxs hq=>by
     have h1:=hxs m hops.1
     rw [hm] at h1
     have h2:=hxs k hops.2.1
     rw [hk] at h2
     exact ⟨m_val hq h1,h2.v_inv⟩
    rcases mSetK_ok h with ⟨i,b',v,h1,h2⟩ | ⟨h1,h2⟩
    ·unfold mqWr at h2
     rw [setK_eq] at h2
     refine .inl (Out.mapQ hb h2 (fun h0 p hp => ?_) fun B a w q en hxs hq he hen => ?_)
     ·rcases List.mem_or_eq_of_mem_set hp with hp | rfl
      ·exact h0 p hp
      ·exact hpl
     obtain ⟨e1,e2⟩:=vals hxs hq
     obtain ⟨y,a1,a2,a3,a4,a5⟩:=EnAt.find h1 0 hen
     rw [Nat.zero_add] at a5
     refine ⟨undef,.skip,_,hex a w _ ?_,.inr ⟨rfl,rfl⟩,undef_t B,hen.set h1.get (hxs x hops.2.2) (fun e=>{ e with key := .int .i64 n,val:=a.eval x }) fun e he'=>⟨rfl,?_,rfl⟩⟩
     ·have hfk:=run_findKey (P:=P) p2 a5 w
      have a1':en[i]? = some y:=by simpa using a1
      have hs:=run_setObj (P:=P) w (y := .map (en.modify i fun e=>{ e with key := .int .i64 n,val:=a.eval x }) ck) he (by simp)
      simp only [e1,e2,Instr.mapUpdate,Sem.run_bind,run_underlying p1,Result.andThen_ok,get_map he (by simp),run_checkKey p2,hfk,a1',Option.map_some,Option.getD_some,a2,Instr.keyThatStays,Instr.sameBits,beq_self_eq_true,Bool.and_self,if_true,Sem.run_pure,hs]
     ·have a1':en[i]? = some y:=by simpa using a1
      rw [a1'] at he'
      cases he'
      exact a3
    ·rw [appK_eq] at h2
     unfold mqWr at h2
     rw [setK_eq] at h2
     refine .inl (Out.mapQ hb h2 (fun h0 p hp => ?_) fun B a w q en hxs hq he hen => ?_)
     ·rcases List.mem_append.1 hp with hp | hp
      ·exact h0 p hp
      ·rw [List.mem_singleton.1 hp]; exact hpl
     obtain ⟨e1,e2⟩:=vals hxs hq
     refine ⟨undef,.skip,_,hex a w _ ?_,.inr ⟨rfl,rfl⟩,undef_t B,hen.push (hxs x hops.2.2)⟩
     have hfk:=run_findKey (P:=P) p2 (EnAt.noFind 0 h1 hen) w
     have hs:=run_setObj (P:=P) w (y := .map (en.push { key := .int .i64 n,val:=a.eval x,born:=ck }) (ck+1)) he (by simp)
     simp only [e1,e2,Instr.mapUpdate,Sem.run_bind,run_underlying p1,Result.andThen_ok,get_map he (by simp),run_checkKey p2,hfk,hs]
   ·exact h.elim
  ·exact .inr h
 ·exact .inr h
def delQ (P:Program) (H:List EB) (ts:Array TypeId) (m k:EV) (K:KE) (N:Prop):Prop :=
 match m with
 | .m L=>(match H[L]? with
  | some (.o (.mq ck es))=>(match k with | .v (.int .i64 n)=>ob ts[0]? fun t=>ob (mapT P t) fun _=>mDelK n es (mqWr H L ck K) | _=>False)
  | _=>N)
 | _=>N
theorem Out.delQ {m k:Operand} {ts:Array TypeId} {N:Prop} (ho:o.op = .call { callee := .builtin .delete,args := #[m,k],argTypes:=ts }) (h:Go.Proofs.YtdhgpocbcccieaaGreatDoor.E.delQ P H ts (ev T m) (ev T k) K N):Out P G ops o T H K∨N:=by
 unfold Go.Proofs.YtdhgpocbcccieaaGreatDoor.E.delQ at h
 split at h
 ·rename_i L hm
  split at h
  ·rename_i ck es hb
   split at h
   ·rename_i n hk
    obtain ⟨t,ht,h⟩:=ob_inv h
    obtain ⟨p,hp,h⟩:=ob_inv h
    obtain ⟨p1,p2⟩:=mapT_of hp
    have hops:∀ x,x=m∨x=k→x∈o.op.operands:=fun x hx=>by
     have:o.op.operands = #[m,k]:=by rw [ho]; rfl
     rw [this]
     rcases hx with rfl | rfl <;> simp
    have vals:∀ {B:Bm} {a:Act} {q:BI},(∀ x,x∈o.op.operands→ER B (ev T x) (a.eval x))→B L=some q→a.eval m = .map (some q.b)∧a.eval k = .int .i64 n:=fun hxs hq=>by
     have h1:=hxs m (hops m (.inl rfl))
     rw [hm] at h1
     have h2:=hxs k (hops k (.inr rfl))
     rw [hk] at h2
     exact ⟨m_val hq h1,h2.v_inv⟩
    rcases mDelK_ok h with ⟨i,b',v,h1,h2⟩ | ⟨h1,h2⟩
    ·unfold mqWr at h2
     rw [setK_eq] at h2
     refine .inl (Out.mapQ hb h2 (fun h0 p hp=>h0 p (List.mem_of_mem_eraseIdx hp)) fun B a w q en hxs hq he hen => ?_)
     obtain ⟨e1,e2⟩:=vals hxs hq
     obtain ⟨y,a1,a2,a3,a4,a5⟩:=EnAt.find h1 0 hen
     rw [Nat.zero_add] at a5
     refine ⟨.tuple #[],_,_,?_,.inl rfl,undef_t B,hen.del (i:=i)⟩
     have hfk:=run_findKey (P:=P) p2 a5 w
     have hs:=run_setObj (P:=P) w (y := .map (en.eraseIdxIfInBounds i) ck) he (by simp)
     unfold execOp
     simp only [ho,resolve,invoke,builtin,Builtin.delete_,ht,e1,e2,List.map_toArray,List.map_cons,List.map_nil,Sem.run_bind,run_underlying p1,Result.andThen_ok,get_map he (by simp),run_checkKey p2,hfk,hs,Sem.run_pure,List.getElem?_toArray,List.getElem?_cons_zero,List.getElem?_cons_succ]
    ·unfold mqWr at h2
     rw [setK_eq] at h2
     refine .inl (Out.mapQ hb h2 (fun h0=>h0) fun B a w q en hxs hq he hen => ?_)
     obtain ⟨e1,e2⟩:=vals hxs hq
     refine ⟨.tuple #[],_,en,?_,.inl rfl,undef_t B,hen⟩
     have hfk:=run_findKey (P:=P) p2 (EnAt.noFind 0 h1 hen) w
     have hs:=run_setObj (P:=P) w (y := .map en ck) he (by simp)
     unfold execOp
     simp only [ho,resolve,invoke,builtin,Builtin.delete_,ht,e1,e2,List.map_toArray,List.map_cons,List.map_nil,Sem.run_bind,run_underlying p1,Result.andThen_ok,get_map he (by simp),run_checkKey p2,hfk,hs,Sem.run_pure,List.getElem?_toArray,List.getElem?_cons_zero,List.getElem?_cons_succ]
   ·exact h.elim
  ·exact .inr h
 ·exact .inr h
def mentQ (P:Program) (H:List EB) (t:TypeId) (m k:EV) (K:KE) (N:Prop):Prop :=
 match m with
 | .m L=>(match H[L]? with
  | some (.o (.mq ck es))=>(match k with | .v (.int .i64 n)=>ob (mapT P t) fun p=>mGetK n es (fun _=>False) (zvK P p.2 fun z=>br (plE z) (appK es [(n,ck,z)] fun es'=>setK H L (.o (.mq (ck+1) es')) fun H'=>K (.t [z,.v (.int .i64 (ck:Nat))]) H' [L] [L]) False) | _=>False)
  | _=>N)
 | _=>N
theorem Out.mentQ {t:TypeId} {m k:Operand} {N:Prop} (ho:o.op = .mapEntry t m k) (h:Go.Proofs.YtdhgpocbcccieaaGreatDoor.E.mentQ P H t (ev T m) (ev T k) K N):Out P G ops o T H K∨N:=by
 unfold Go.Proofs.YtdhgpocbcccieaaGreatDoor.E.mentQ at h
 split at h
 ·rename_i L hm
  split at h
  ·rename_i ck es hb
   split at h
   ·rename_i n hk
    obtain ⟨p,hp,h⟩:=ob_inv h
    obtain ⟨p1,p2⟩:=mapT_of hp
    rcases mGetK_ok h with ⟨i,b',v,h1,h2⟩ | ⟨h1,h2⟩
    ·exact h2.elim
    ·obtain ⟨z,x,hK,hx,hz⟩:=zvK_ok h2
     rcases br_inv hK with ⟨hpl,hK⟩ | ⟨_,hK⟩
     rotate_left
     ·exact hK.elim
     rw [appK_eq,setK_eq] at hK
     refine .inl (Out.mapQ hb hK (fun h0 p hp => ?_) fun B a w q en hxs hq he hen => ?_)
     ·rcases List.mem_append.1 hp with hp | hp
      ·exact h0 p hp
      ·rw [List.mem_singleton.1 hp]; exact hpl
     have e1:=hxs m (by rw [ho]; simp [Op.operands])
     rw [hm] at e1
     have e1:=m_val hq e1
     have e2:=hxs k (by rw [ho]; simp [Op.operands])
     rw [hk] at e2
     have e2:=e2.v_inv
     refine ⟨.tuple #[z,goInt ck],_,_,?_,.inl rfl,pair_er (hx B) (.v _),hen.push (hx B)⟩
     have hfk:=run_findKey (P:=P) p2 (EnAt.noFind 0 h1 hen) w
     have hs:=run_setObj (P:=P) w (y := .map (en.push { key := .int .i64 n,val:=z,born:=ck }) (ck+1)) he (by simp)
     unfold execOp
     simp only [ho,e1,e2,Instr.mapEntry,Sem.run_bind,run_underlying p1,Result.andThen_ok,get_map he (by simp),run_checkKey p2,hfk,hz,hs,Sem.run_pure]
   ·exact h.elim
  ·exact .inr h
 ·exact .inr h
def estQ (H:List EB) (m s y:EV) (K:KE) (N:Prop):Prop :=
 match m with
 | .m L=>(match H[L]? with
  | some (.o (.mq ck es))=>(match s with | .v (.int .i64 (.ofNat n))=>br (plE y) (mBornK n y es (mqWr H L ck K)) False | _=>False)
  | _=>N)
 | _=>N
theorem Out.estQ {t:TypeId} {m s x:Operand} {N:Prop} (ho:o.op = .entryStore t m s x) (h:Go.Proofs.YtdhgpocbcccieaaGreatDoor.E.estQ H (ev T m) (ev T s) (ev T x) K N):Out P G ops o T H K∨N:=by
 unfold Go.Proofs.YtdhgpocbcccieaaGreatDoor.E.estQ at h
 split at h
 ·rename_i L hm
  split at h
  ·rename_i ck es hb
   split at h
   ·rename_i n hk
    rcases br_inv h with ⟨hpl,h⟩ | ⟨_,h⟩
    rotate_left
    ·exact h.elim
    obtain ⟨i,k,v,h1,h2,h3⟩:=mBornK_ok h
    unfold mqWr at h3
    rw [setK_eq] at h3
    refine .inl (Out.mapQ hb h3 (fun h0 p hp => ?_) fun B a w q en hxs hq he hen => ?_)
    ·rcases List.mem_or_eq_of_mem_set hp with hp | rfl
     ·exact h0 p hp
     ·exact hpl
    have e1:=hxs m (by rw [ho]; simp [Op.operands])
    rw [hm] at e1
    have e1:=m_val hq e1
    have e2:=hxs s (by rw [ho]; simp [Op.operands])
    rw [hk] at e2
    have e2:=e2.v_inv
    obtain ⟨y,a1,a2,a3,a4⟩:=hen.at_ i k n v h1
    have a1':en[i]? = some y:=by simpa using a1
    refine ⟨undef,.skip,_,?_,.inr ⟨rfl,rfl⟩,undef_t B,hen.set h1 (hxs x (by rw [ho]; simp [Op.operands])) (fun e=>{ e with val:=a.eval x }) fun e he' => ?_⟩
    ·have hfi:en.findIdx? (fun e=>(e.born:Int)==((n:Nat):Int))=some i:=by
      rw [Array.findIdx?_eq_some_iff_getElem]
      obtain ⟨hlt,hge⟩:=Array.getElem?_eq_some_iff.1 a1'
      refine ⟨hlt,by rw [hge]; simp [a3],fun j hj => ?_⟩
      have hj':j<es.length:=by have:=hen.len; simp at this; omega
      obtain ⟨⟨k2,b2,v2⟩,hj2⟩:∃ p,es[j]? = some p:=⟨_,List.getElem?_eq_getElem hj'⟩
      obtain ⟨y',c1,c2,c3,c4⟩:=hen.at_ j _ _ _ hj2
      have c1':en[j]? = some y':=by simpa using c1
      obtain ⟨hlt',hge'⟩:=Array.getElem?_eq_some_iff.1 c1'
      rw [hge',c3]
      have:=h2 j _ _ _ hj hj2
      simp
      omega
     have hs:=run_setObj (P:=P) w (y := .map (en.modify i fun e=>{ e with val:=a.eval x }) ck) he (by simp)
     have hI:Int.ofNat n=((n:Nat):Int):=rfl
     unfold execOp
     simp only [ho,e1,e2,Instr.entryStore,asInt,asIntOf,Sem.run_bind,Result.andThen_ok,get_map he (by simp),Sem.run_pure,hI,hfi,hs]
    ·rw [a1'] at he'
     cases he'
     exact ⟨a2,a3,rfl⟩
   ·exact h.elim
  ·exact .inr h
 ·exact .inr h
end
section
variable {P:Program} {G:Gl} {ops:Array Oper} {o:Oper} {T:List (Nat×EV)} {H:List EB} {K:KE} {B:Bm} {w:World}
def slA (P:Program) (H:List EB) (t:TypeId) (x:EV) (lo hi mx:Option EV) (K:KE) (N:Prop):Prop :=
 match x,lo,hi,mx with
 | .p L 0 0,none,none,none=>(match P.underlying t with
  | some (.array n el)=>br (Nat.beq (P.cellsOf el) 1&&Nat.blt 0 n) (K (.y L n) H [] []) False
  | _=>N)
 | _,_,_,_=>N
theorem ER.y_inv {L n:Nat} {u:Value} (h:ER B (.y L n) u):∃ q,B L=some q∧u = .slice (some ⟨q.b,0,none⟩) n n:=by
 cases h with
 | y hq=>exact ⟨_,hq,rfl⟩
theorem Out.sliceA {t:TypeId} {x:Operand} {lo hi mx:Option Operand} {N:Prop} (ho:o.op = .slice t x lo hi mx) (h:slA P H t (ev T x) (lo.map (ev T)) (hi.map (ev T)) (mx.map (ev T)) K N):Out P G ops o T H K∨N:=by
 unfold slA at h
 split at h
 ·rename_i L hex e1 e2 e3
  have e1:lo=none:=by cases lo <;> first | rfl | cases e1
  have e2:hi=none:=by cases hi <;> first | rfl | cases e2
  have e3:mx=none:=by cases mx <;> first | rfl | cases e3
  subst e1 e2 e3
  split at h
  ·rename_i n el hu
   left
   rcases br_inv h with ⟨hc,h⟩ | ⟨_,h⟩
   rotate_left
   ·exact h.elim
   obtain ⟨c2,c3⟩:=Bool.and_eq_true_iff.1 hc
   have c2:P.cellsOf el=1:=Nat.eq_of_beq_eq_true c2
   have c3:0<n:=Nat.le_of_ble_eq_true c3
   refine Out.val h fun B a w hxs => ?_
   have hx:=hxs x (by rw [ho]; simp [Op.operands])
   rw [hex] at hx
   obtain ⟨q,hq,hxv⟩:=hx.p_inv
   refine ⟨.slice (some ⟨q.b,0,none⟩) n n,?_,.y hq⟩
   have hz:(Go.sizeOf el).run P w = .ok 1 w:=by have:=run_sizeOf' (P:=P) (w:=w) (t:=el) (by omega); rw [c2] at this; exact this
   have hb:=run_sliceBounds (P:=P) (w:=w) (isSlice:=false) (len:=n) (cap:=n) (lo:=none) (hi:=none) (.inl ⟨rfl,rfl⟩) (.inl ⟨rfl,rfl⟩) (Int.le_refl _) (by omega) (Int.le_refl _)
   unfold execOp
   simp only [ho,hxv,Option.map_none,Instr.sliceAt,run_underlying hu,Sem.run_bind,Result.andThen_ok,Instr.sureAddr,hb,hz,Sem.run_pure]
   simp [Addr.add]
  ·exact .inr h
 ·exact .inr h
def byC (l:List UInt8):List EV:=l.map fun b => .v (.int .u8 b.toNat)
def b2sQ (P:Program) (H:List EB) (src dst:TypeId) (L n:Nat) (K:KE):Prop :=
 match H[L]? with
 | some (.r _ row)=>br (isBytesT P src dst) (∃ bs:List UInt8,(n=bs.length∧row=byC bs)∧K (.v (.string ⟨bs.toArray⟩)) H [L] []) False
 | _=>False
theorem arr_of {S0:List Nat} {w0:World} {g:EH} {L:Nat} {t:TypeId} {row:List EV} {q:BI} (hw:Wd P G S0 w0 B g w) (hg:g L = .r t row) (hq:B L=some q):∃ c,Bf w q.b t c∧row.length=q.k∧q.k≤c.size∧∀ (f:Nat) (x:EV),row[f]? = some x→∃ u,c[f]? = some u∧ER B x u∧u.oneCell'=true:=by
 rcases hw.row L t [row] (by rw [hg]; rfl) with ⟨q',h,hr⟩ | ⟨h,_⟩
 ·rw [hq] at h; cases h
  obtain ⟨hk,c,hbf,hcs,hle,hrow⟩:=hr
  obtain ⟨h1,h2⟩:=hrow 0 row rfl
  exact ⟨c,hbf,h1,by rw [hcs]; simpa using hle,fun f x hx=>by simpa using h2 f x hx⟩
 ·cases h
theorem Out.b2sA {src dst:TypeId} {x:Operand} {L n:Nat} (ho:o.op = .convert src dst x) (hex:ev T x = .y L n) (h:b2sQ P H src dst L n K):Out P G ops o T H K:=by
 unfold b2sQ at h
 split at h
 ·rename_i t row hbl
  rcases br_inv h with ⟨hb,h⟩ | ⟨_,h⟩
  rotate_left
  ·exact h.elim
  obtain ⟨bs,⟨rfl,rfl⟩,h9⟩:=h
  refine Out.rd h9 fun S0 w0 B a w g hxs hw hg => ?_
  have h1:=hxs x (by rw [ho]; simp [Op.operands])
  rw [hex] at h1
  obtain ⟨q,hq,hv⟩:=h1.y_inv
  obtain ⟨c,c1,c2,c3,c4⟩:=arr_of hw (hg.trans (hf_get hbl)) hq
  have hld:(loadCells ⟨q.b,0,none⟩ bs.length).run P w = .ok ((bs.map fun b=>(b.toNat:Int)).map (Value.int .u8)).toArray w:=by
   have:=run_loadCells_list (P:=P) w ⟨q.b,0,none⟩ ((bs.map fun b=>(b.toNat:Int)).map (Value.int .u8)) (fun j v hj=>by
    rw [Addr.add_lit,c1.cell,Nat.zero_add]
    rw [List.map_map,List.getElem?_map] at hj
    obtain ⟨b,hb,rfl⟩:=Option.map_eq_some_iff.1 hj
    obtain ⟨u,e1,e2, -⟩:=c4 j (.v (.int .u8 b.toNat)) (by unfold byC; rw [List.getElem?_map,hb]; rfl)
    rw [e1,e2.v_inv]
    rfl)
   simpa using this
  refine ⟨.string ⟨bs.toArray⟩,?_,.v _⟩
  obtain ⟨e,h1,h2,h3⟩:∃ e,P.underlying src=some (.slice e)∧P.underlying e=some (.int .u8)∧P.underlying dst=some .string:=by
   unfold isBytesT at hb
   split at hb
   ·split at hb
    ·exact ⟨_,by assumption,by assumption,isStrT_of hb⟩
    ·cases hb
   ·cases hb
  have hr:=run_bytesToString (P:=P) w ⟨q.b,0,none⟩ bs.length bs.length _ hld
  rw [push_bytes] at hr
  have e:(⟨ByteArray.empty.data++bs.toArray⟩:ByteArray)=⟨bs.toArray⟩:=by
   congr 1
   exact Array.empty_append
  rw [e] at hr
  have:(Go.convert src dst (a.eval x)).run P w = .ok (.string ⟨bs.toArray⟩) w:=by
   rw [hv]
   unfold Go.convert
   simp [run_underlying h1,run_underlying h2,run_underlying h3,hr]
  unfold execOp
  simp [ho,this]
 ·exact h.elim
def elOne (P:Program) (ts:Array TypeId):Bool:=match ts[0]? with | some tt=>(match slcEl P tt with | some el=>Nat.beq (P.cellsOf el) 1 | none=>false) | none=>false
def cpyQ (P:Program) (H:List EB) (ts:Array TypeId) (d s:EV) (K:KE) (N:Prop):Prop :=
 match d,s with
 | .y L n,.v (.string s)=>(match H[L]? with
  | some (.r t row)=>br (elOne P ts) ((row.length=n∧s.size=n)∧setK H L (.r t (byC s.data.toList)) fun H'=>K (.v (.int .i64 (n:Nat))) H' [L] [L]) False
  | _=>False)
 | _,_=>N
theorem byC_at {l:List UInt8} {f:Nat} {x:EV} (h:(byC l)[f]? = some x):∃ b,l[f]? = some b∧x = .v (.int .u8 b.toNat):=by
 unfold byC at h
 rw [List.getElem?_map] at h
 obtain ⟨b,hb,rfl⟩:=Option.map_eq_some_iff.1 h
 exact ⟨b,hb,rfl⟩
theorem Out.copyA {d s:Operand} {ts:Array TypeId} {N:Prop} (ho:o.op = .call { callee := .builtin .copy,args := #[d,s],argTypes:=ts }) (h:cpyQ P H ts (ev T d) (ev T s) K N):Out P G ops o T H K∨N:=by
 unfold cpyQ at h
 split at h
 ·rename_i L n r hd hs
  left
  split at h
  ·rename_i t row hb
   rcases br_inv h with ⟨hc,⟨f1,f2⟩,h⟩ | ⟨_,h⟩
   rotate_left
   ·exact h.elim
   rw [setK_eq] at h
   obtain ⟨tt,el,ht,p1,p2⟩:∃ tt el,ts[0]? = some tt∧P.underlying tt=some (.slice el)∧P.cellsOf el=1:=by
    unfold elOne at hc
    split at hc
    ·rename_i tt ht
     split at hc
     ·rename_i el he
      exact ⟨tt,el,ht,(slcEl_of he).1,Nat.eq_of_beq_eq_true hc⟩
     ·cases hc
    ·cases hc
   have hop:o.op.operands = #[d,s]:=by rw [ho]; rfl
   refine Out.wr (lt_of_get hb) h fun S0 w0 B a w g hxs hw hg => ?_
   have hgL:g L = .r t row:=hg.trans (hf_get hb)
   have e1:=hxs d (by rw [hop]; simp)
   have e2:=hxs s (by rw [hop]; simp)
   rw [hd] at e1
   rw [hs] at e2
   obtain ⟨q,hq,hv⟩:=e1.y_inv
   obtain ⟨us,hus⟩:∃ us,us=r.data.toList.map fun b=>Value.int .u8 b.toNat:=⟨_,rfl⟩
   have hul:us.length=n:=by rw [hus,List.length_map,← f2]; simp
   have huo:∀ u∈us,u.oneCell'=true:=fun u hu=>by
    rw [hus] at hu
    obtain ⟨b,_,rfl⟩:=List.mem_map.1 hu
    rfl
   obtain ⟨c,c1,c2,c3, -⟩:=arr_of hw hgL hq
   rcases hw.row L t [row] (by rw [hgL]; rfl) with ⟨q',hh,hr⟩ | ⟨hh,_⟩
   rotate_left
   ·cases hh
   rw [hq] at hh; cases hh
   have hp:=hr.puts 0 [byC r.data.toList] us (by rw [hul,← c2,f1]; simp) (by simp) (fun x hx=>by rw [List.mem_singleton.1 hx,← c2,f1,← f2]; simp [byC]) (fun j x hj f y u hy hu=>by
    match j,hj with
    | 0,hj =>
     cases hj
     obtain ⟨b,hb,rfl⟩:=byC_at hy
     rw [hus,List.getElem?_map,Nat.zero_mul,Nat.zero_add,hb] at hu
     cases hu
     exact .v _
    | j+1,hj=>simp at hj) huo
   have hst:(storeCells ⟨q.b,0,none⟩ us).run P w = .ok () (w.setCells q.b 0 us):=by
    have:=run_storeCells_cells (P:=P) q.b 0 us 0 w (fun j hj=>by rw [c1.cell,Array.getElem?_eq_getElem (by omega)]; rfl) (fun j hj=>c1.frozen _ (by omega)) huo
    simpa using this
   have hsz:(sizeOf el).run P w = .ok 1 w:=by have:=run_sizeOf' (P:=P) (w:=w) (t:=el) (by omega); rw [p2] at this; exact this
   refine ⟨_,w.setCells q.b 0 us,.value (.int .i64 (n:Nat)),?_,.inl rfl,.v _,hw.upd (by rw [hgL]; rfl) hq (Touch.setCells (S:=[q.b]) (b:=q.b) (.inl (by simp)) us _ w (Touch.refl _ _)) _ (by simp) (fun t2 rows2 hv2=>by cases hv2; simpa [putL] using hp) (fun xo he=>by cases he) (fun t2 rows2 he=>by cases he)⟩
   have hfc:(Builtin.firstCells 1 n (.string r)).run P w = .ok us.toArray w:=by
    rw [← f2]
    simp only [Builtin.firstCells,Sem.run_pure]
    rw [hus]
    congr 1
    apply Array.ext'
    simp
   have hmin:Nat.min r.size n=n:=by rw [f2]; exact Nat.min_self _
   unfold execOp
   simp only [ho,resolve,invoke,builtin,Builtin.copy_,Builtin.lenOf,ht,hv,e2.v_inv,List.map_toArray,List.map_cons,List.map_nil,Sem.run_bind,run_underlying p1,Result.andThen_ok,hsz,Sem.run_pure,List.getElem?_toArray,List.getElem?_cons_zero,List.getElem?_cons_succ,hmin,hfc,hst]
   rfl
  ·exact h.elim
 ·exact .inr h
end
section
variable {P:Program} {G:Gl} {ops:Array Oper} {o:Oper} {T:List (Nat×EV)} {H H':List EB} {K:KE} {B:Bm}
def cellsK (x:EV) (K:List EV→Prop):Prop:=match x with | .a cs=>K cs | x=>K [x]
theorem cellsK_eq (x:EV) (K:List EV→Prop):cellsK x K=K x.cells:=by cases x <;> rfl
theorem eqI_ex (P:Program) (b:BinOp) (t:TypeId) (x y:EV):∃ r,r=eqE P b t x y:=⟨_,rfl⟩
noncomputable def eqI (P:Program) (b:BinOp) (t:TypeId) (x y:EV):Option EV:=Classical.choose (eqI_ex P b t x y)
theorem eqI_eq (P:Program) (b:BinOp) (t:TypeId) (x y:EV):eqI P b t x y=eqE P b t x y:=Classical.choose_spec (eqI_ex P b t x y)
noncomputable def binK (P:Program) (b:BinOp) (t:TypeId) (x y:EV) (K:EV→Prop):Prop :=
 match x with
 | .a xs=>ob (eqI P b t (.a xs) y) K
 | .v (.string s)=>(match b with
  | .add=>(match y with | .v (.string r)=>s.size+r.size≤1099511627776∧K (.v (.string (s++r))) | _=>False)
  | b=>ob (binE P b t (.v (.string s)) y) K)
 | .s L i n z=>ob (nilE P b t (.s L i n z) y) K
 | .v (.slice A n c)=>ob (nilE P b t (.v (.slice A n c)) y) K
 | x=>ob (binE P b t x y) K
def cvK (P:Program) (H:List EB) (s d:TypeId) (x:EV) (K:KE):Prop :=
 match x with
 | .v (.int k n)=>ob (cvE P s d (.v (.int k n))) fun y=>K y H [] []
 | .v (.string t)=>s2bE P H s d t K (ob (cvE P s d (.v (.string t))) fun y=>K y H [] [])
 | .y L n=>b2sQ P H s d L n K
 | x=>b2sE P H s d x K
def bK (P:Program) (H:List EB) (T:List (Nat×EV)) (b:Builtin) (xs:List Operand) (ts:Array TypeId) (K:KE):Prop :=
 match b,xs with
 | .append,[s,x]=>evK T s fun s=>evK T x fun x=>apK P H ts s x K
 | .copy,[d,s]=>evK T d fun d=>evK T s fun s=>cpyQ P H ts d s K (cpyE P H ts d s K)
 | .delete,[m,k]=>evK T m fun m=>evK T k fun k=>delQ P H ts m k K (delE P H ts m k K)
 | .len,[x]=>evK T x fun x=>lenMapE P H ts x K (ob (biE P .len ts [x]) fun r=>K r H [] [])
 | b,xs=>evsK T xs fun qa=>ob (biE P b ts qa) fun r=>K r H [] []
noncomputable def opE (P:Program) (G:Gl) (o:Oper) (T:List (Nat×EV)) (H:List EB) (K:KE):Prop :=
 match o.op with
 | .move x=>evK T x fun v=>K v H [] []
 | .assign x=>evK T x fun v=>K v H [] []
 | .pick c x y=>evK T c fun c=>evK T x fun x=>evK T y fun y=>asB c fun b=>br b (K x H [] []) (K y H [] [])
 | .nilCheck x=>evK T x fun v=>ob (nnE v) fun _=>K v H [] []
 | .extract x i=>evK T x fun v=>ob (extE v i) fun y=>K y H [] []
 | .unOp u _ x=>evK T x fun v=>ob (unE u v) fun y=>K y H [] []
 | .binOp b t x y _=>evK T x fun x=>evK T y fun y=>binK P b t x y fun v=>K v H [] []
 | .field t x f=>evK T x fun x=>fieldE P t x f fun y=>K y H [] []
 | .index t x i=>evK T x fun x=>evK T i fun i=>indexE P t x i fun y=>K y H [] []
 | .fieldAddr t x f=>evK T x fun x=>fadE P t x f fun y=>K y H [] []
 | .indexAddr t x i=>evK T x fun x=>evK T i fun i=>iadE P H t x i K
 | .load t x=>evK T x fun x=>ldQ P H t x K (ldE P G H t x K)
 | .store t x y=>evK T x fun x=>evK T y fun y=>stQ P H t x y K (stE P H t x y K)
 | .alloc t=>zeroK P t fun row=>newK H (.r t row) fun L H'=>K (.p L 0 0) H' [L] [L]
 | .box t x=>evK T x fun x=>cellsK x fun cs=>br (x.flat&&Nat.beq cs.length (P.cellsOf t)&&cs.all EV.one) (newK H (.r t cs) fun L H'=>K (.p L 0 0) H' [L] [L]) False
 | .build t ps=>zeroK P t fun row=>ob (placesE P t) fun pl=>fillK pl T row ps.toList fun cs=>K (.a cs) H [] []
 | .convert s d x=>evK T x fun x=>cvK P H s d x K
 | .slice t x lo hi mx=>evK T x fun x=>optK T lo fun lo=>optK T hi fun hi=>optK T mx fun mx=>slA P H t x lo hi mx K (slE P H t x lo hi mx K)
 | .buildSlice t len ps=>bsE P H T t len ps.toList K
 | .makeSlice t l c=>evK T l fun l=>evK T c fun c=>msE P H t l c K
 | .makeFunc (.func g) fs cs=>evsK T fs.toList fun fs=>evsK T cs.toList fun cs=>K (.f g fs cs) H [] []
 | .makeMap _ none=>mkmE H K
 | .mapUpdate t m k x=>evK T m fun m=>evK T k fun k=>evK T x fun x=>updQ P H t m k x K (updE P H t m k x K)
 | .insert t m k x=>evK T m fun m=>evK T k fun k=>evK T x fun x=>updE P H t m k x K
 | .lookup t m k c=>evK T m fun m=>evK T k fun k=>lupQ P H t m k c K (lupE P H t m k c K)
 | .mapEntry t m k=>evK T m fun m=>evK T k fun k=>mentQ P H t m k K (mentE P H t m k K)
 | .entryStore _ m s x=>evK T m fun m=>evK T s fun s=>evK T x fun x=>estQ H m s x K (estE H m s x K)
 | .range t x=>evK T x fun x=>rngE P H t x K
 | .next x b=>evK T x fun x=>nxtE H x b K
 | .call { callee := .value f,args:=xs,argTypes:=_ }=>evK T f fun fv=>evsK T xs.toList fun qa=>callK P G fv qa H K
 | .call { callee := .builtin b,args:=xs,argTypes:=ts }=>bK P H T b xs.toList ts K
 | .makeInterface t x=>evK T x fun x=>mkiE P t x K H
 | .call { callee := .invoke r name,args:=xs,argTypes:=_ }=>evK T r fun rv=>evsK T xs.toList fun qa=>invK P G rv name qa H K
 | _=>False
theorem opE_sound (h:opE P G o T H K):Out P G ops o T H K:=by
 unfold opE at h
 split at h
 ·rw [evK_eq] at h; exact Out.move (.inl ‹_›) h
 ·rw [evK_eq] at h; exact Out.move (.inr ‹_›) h
 ·rw [evK_eq,evK_eq,evK_eq] at h; exact Out.pick ‹_› h
 ·rw [evK_eq] at h; exact Out.nilCheck ‹_› h
 ·rw [evK_eq] at h; exact Out.extract ‹_› h
 ·rw [evK_eq] at h; exact Out.unOp ‹_› h
 ·rw [evK_eq,evK_eq] at h
  unfold binK at h
  split at h
  ·rename_i xs hx
   rw [eqI_eq,← hx] at h
   exact Out.eqA ‹_› h
  ·rename_i hx
   split at h
   ·split at h
    ·rename_i r hy
     refine Out.binOp ‹_› ?_
     rw [hx,hy]
     refine ob_of _ ?_ h.2
     have:=h.1
     simp only [binE,strE]
     rw [if_neg (by simp [IntKind.max,IntKind.bits,IntKind.signed]; omega)]
     rfl
    ·exact h.elim
   ·rw [← hx] at h
    exact Out.binOp ‹_› h
  ·rename_i hx
   rw [← hx] at h
   exact Out.nilEq ‹_› h
  ·rename_i hx
   rw [← hx] at h
   exact Out.nilEq ‹_› h
  ·exact Out.binOp ‹_› h
 ·rw [evK_eq] at h; exact Out.field ‹_› h
 ·rw [evK_eq,evK_eq] at h; exact Out.index ‹_› h
 ·rw [evK_eq] at h; exact Out.fad ‹_› h
 ·rw [evK_eq,evK_eq] at h; exact Out.iad ‹_› h
 ·rw [evK_eq] at h; exact (Out.loadQ ‹_› h).elim id (Out.load ‹_›)
 ·rw [evK_eq,evK_eq] at h; exact (Out.storeQ ‹_› h).elim id (Out.store ‹_›)
 ·exact Out.alloc ‹_› h
 ·rw [evK_eq,cellsK_eq] at h; exact Out.box ‹_› h
 ·exact Out.build ‹_› h
 ·rw [evK_eq] at h
  unfold cvK at h
  split at h
  ·rename_i hx
   rw [← hx] at h
   exact Out.convert ‹_› h
  ·rename_i hx
   refine (Out.s2b ‹_› hx h).elim id fun h => ?_
   rw [← hx] at h
   exact Out.convert ‹_› h
  ·rename_i hx
   exact Out.b2sA ‹_› hx h
  ·exact Out.b2s ‹_› h
 ·rw [evK_eq,optK_eq,optK_eq,optK_eq] at h; exact (Out.sliceA ‹_› h).elim id (Out.slice ‹_›)
 ·exact Out.buildSlice ‹_› h
 ·rw [evK_eq,evK_eq] at h; exact Out.makeSlice ‹_› h
 ·rw [evsK_eq,evsK_eq] at h; exact Out.makeFunc ‹_› h
 ·exact Out.makeMap ‹_› h
 ·rw [evK_eq,evK_eq,evK_eq] at h; exact (Out.updQ ‹_› h).elim id (Out.mapUpdate (.inl ‹_›))
 ·rw [evK_eq,evK_eq,evK_eq] at h; exact Out.mapUpdate (.inr ‹_›) h
 ·rw [evK_eq,evK_eq] at h; exact (Out.lupQ ‹_› h).elim id (Out.lookup ‹_›)
 ·rw [evK_eq,evK_eq] at h; exact (Out.mentQ ‹_› h).elim id (Out.mapEntry ‹_›)
 ·rw [evK_eq,evK_eq,evK_eq] at h; exact (Out.estQ ‹_› h).elim id (Out.entryStore ‹_›)
 ·rw [evK_eq] at h; exact Out.range ‹_› h
 ·rw [evK_eq] at h; exact Out.next ‹_› h
 ·rw [evK_eq,evsK_eq] at h; exact Out.call ‹_› h
 ·unfold bK at h
  split at h
  ·rename_i s x hs _
   rw [evK_eq,evK_eq] at h
   refine Out.append (s:=s) (x:=x) ?_ ‹_› h
   rw [← hs,Array.toArray_toList]
  ·rename_i d s hs _
   rw [evK_eq,evK_eq] at h
   refine (Out.copyA (d:=d) (s:=s) ?_ h).elim id fun h=>Out.copy (d:=d) (s:=s) ?_ h
   all_goals (rw [← hs,Array.toArray_toList]; assumption)
  ·rename_i m k hs _
   rw [evK_eq,evK_eq] at h
   refine (Out.delQ (m:=m) (k:=k) ?_ h).elim id fun h=>Out.delete (m:=m) (k:=k) ?_ h
   all_goals (rw [← hs,Array.toArray_toList]; assumption)
  ·rename_i x hs _
   rw [evK_eq] at h
   refine (Out.lenMap (x:=x) ?_ h).elim id fun h => ?_
   ·rw [← hs,Array.toArray_toList]; assumption
   ·refine Out.biE (xs := #[x]) ?_ h
    rw [← hs,Array.toArray_toList]; assumption
  ·rw [evsK_eq] at h; exact Out.biE ‹_› h
 ·rw [evK_eq] at h; exact Out.mkIface ‹_› h
 ·rw [evK_eq,evsK_eq] at h; exact Out.invk ‹_› h
 ·exact h.elim
def pushK (d:Option Tmp) (x:EV) (T:List (Nat×EV)) (K:List (Nat×EV)→Prop):Prop:=match d with | some d=>K ((d,x)::T) | none=>K T
theorem pushK_ok {d:Option Tmp} {x:EV} {K:List (Nat×EV)→Prop} (h:pushK d x T K):∃ T',lk T'=updT (lk T) d x∧K T':=by
 cases d with
 | none=>exact ⟨T,rfl,h⟩
 | some d=>exact ⟨(d,x)::T,lk_cons T d x,h⟩
def wantB (ops:Array Oper) (o:Oper) (T:Nat→EV):Option (Bool×Bool) :=
 match o.guard with
 | none=>some (true,true)
 | some (j,want) =>
  match (ops[j]?).bind (·.dst) with
  | none=>none
  | some d =>
   match T d with
   | .v (.bool b)=>some (b,want)
   | .t []=>some (false,true)
   | _=>none
theorem wantB_E {T:Nat→EV} {p:Bool×Bool} (h:wantB ops o T=some p):wantE ops o T=some (p.1==p.2):=by
 unfold wantB at h
 unfold wantE
 split at h
 ·cases h; simp [*]
 ·split at h
  ·cases h
  ·split at h
   ·cases h; simp [*]
   ·cases h; simp [*]
   ·cases h
def pairK (p:Bool×Bool) (f:Bool→Bool→Prop):Prop:=match p with | (b,w)=>f b w
def brW (b w:Bool) (A B:Prop):Prop:=match w with | true=>br b A B | false=>br b B A
theorem brW_inv {b w:Bool} {A B:Prop} (h:brW b w A B):((b==w)=true∧A)∨((b==w)=false∧B):=by
 cases b <;> cases w <;> first | exact .inl ⟨rfl,h⟩ | exact .inr ⟨rfl,h⟩
noncomputable def goR (P:Program) (G:Gl) (ops:Array Oper) (l:List Oper):List (Nat×EV)→List EB→List FW→(List (Nat×EV)→List EB→List FW→Prop)→Prop :=
 List.rec (motive:=fun _=>List (Nat×EV)→List EB→List FW→(List (Nat×EV)→List EB→List FW→Prop)→Prop) (fun T H acc K=>K T H acc)
  (fun o _ ih T H acc K=>ob (wantB ops o (lk T)) fun p=>pairK p fun b w=>brW b w (opE P G o T H fun x H' F W=>pushK o.dst x T fun T'=>ih T' H' ((F,W)::acc) K) (pushK o.dst (.t []) T fun T'=>ih T' H (([],[])::acc) K)) l
theorem goR_sound {N:Nat}:∀ (l:List Oper) (T:List (Nat×EV)) (H:List EB) (acc:List FW) (K:List (Nat×EV)→List EB→List FW→Prop),(l.all fun o=>o.dst.all fun d=>Nat.blt d N)=true→goR P G ops l T H acc K →
  ∃ ss T' H',Run P G ops N l (lk T) (hf H) ss (lk T') (hf H')∧K T' H' ((ss.map fun s=>(s.F,s.W)).reverse++acc):=by
 intro l
 induction l with
 | nil=>intro T H acc K _ h; exact ⟨[],T,H,⟨rfl,rfl,rfl⟩,h⟩
 | cons o l ih =>
  intro T H acc K hN h
  rw [List.all_cons] at hN
  obtain ⟨hN1,hN2⟩:=Bool.and_eq_true_iff.1 hN
  have hd:∀ d,o.dst=some d→d<N:=fun d hd=>by rw [hd] at hN1; exact Nat.le_of_ble_eq_true hN1
  obtain ⟨b,hb,h⟩:=ob_inv h
  have hb:=wantB_E hb
  rcases brW_inv h with ⟨he,h2⟩ | ⟨he,h2⟩ <;> rw [he] at hb
  ·obtain ⟨r,H1,F,W,hK,hst,hfr⟩:=opE_sound (ops:=ops) h2
   obtain ⟨T1,hT1,hK⟩:=pushK_ok hK
   obtain ⟨ss,T',H',hr,hK⟩:=ih _ _ _ _ hN2 hK
   refine ⟨⟨F,W,r,hf H1⟩::ss,T',H',⟨_,ss,rfl,⟨hd,.inl ⟨hb,hst⟩,hfr⟩,hT1 ▸ hr⟩,by simpa using hK⟩
  ·obtain ⟨T1,hT1,hK⟩:=pushK_ok h2
   obtain ⟨ss,T',H',hr,hK⟩:=ih _ _ _ _ hN2 hK
   refine ⟨⟨[],[],.t [],hf H⟩::ss,T',H',⟨_,ss,rfl,⟨hd,.inr ⟨hb,rfl,rfl⟩,by simp⟩,hT1 ▸ hr⟩,by simpa using hK⟩
end
mutual
def ren (ρ:List Nat) (d:Nat):EV→EV
 | .v x => .v x
 | .p L i f => .p (ρ.getD L d) i f
 | .s L i n z => .s (ρ.getD L d) i n z
 | .m L => .m (ρ.getD L d)
 | .a cs => .a (rens ρ d cs)
 | .t cs => .t (rens ρ d cs)
 | .f g fs cs => .f g (rens ρ d fs) (rens ρ d cs)
 | .j => .j
 | .q p => .q p
 | .i t x => .i t (ren ρ d x)
 | .y L n => .y (ρ.getD L d) n
def rens (ρ:List Nat) (d:Nat):List EV→List EV
 | []=>[]
 | x::r=>ren ρ d x::rens ρ d r
end
mutual
def renK (ρ:List Nat) (d:Nat):EV→(EV→Prop)→Prop
 | .v x,K=>K (.v x)
 | .p L i f,K=>litK (ρ.getD L d) fun L=>K (.p L i f)
 | .s L i n z,K=>litK (ρ.getD L d) fun L=>K (.s L i n z)
 | .m L,K=>litK (ρ.getD L d) fun L=>K (.m L)
 | .a cs,K=>rensK ρ d cs fun r=>K (.a r)
 | .t cs,K=>rensK ρ d cs fun r=>K (.t r)
 | .f g fs cs,K=>rensK ρ d fs fun r=>rensK ρ d cs fun r'=>K (.f g r r')
 | .j,K=>K .j
 | .q p,K=>K (.q p)
 | .i t x,K=>renK ρ d x fun y=>K (.i t y)
 | .y L n,K=>litK (ρ.getD L d) fun L=>K (.y L n)
def rensK (ρ:List Nat) (d:Nat):List EV→(List EV→Prop)→Prop
 | [],K=>K []
 | x::r,K=>renK ρ d x fun y=>rensK ρ d r fun l=>K (y::l)
end
mutual
theorem renK_eq (ρ:List Nat) (d:Nat):∀ (x:EV) (K:EV→Prop),renK ρ d x K=K (ren ρ d x)
 | .v x,K=>rfl
 | .p L i f,K=>by unfold renK ren; rw [litK_eq]
 | .s L i n z,K=>by unfold renK ren; rw [litK_eq]
 | .m L,K=>by unfold renK ren; rw [litK_eq]
 | .a cs,K=>by unfold renK ren; rw [rensK_eq]
 | .t cs,K=>by unfold renK ren; rw [rensK_eq]
 | .f g fs cs,K=>by unfold renK ren; rw [rensK_eq,rensK_eq]
 | .j,K=>rfl
 | .q p,K=>rfl
 | .i t x,K=>by unfold renK ren; rw [renK_eq]
 | .y L n,K=>by unfold renK ren; rw [litK_eq]
theorem rensK_eq (ρ:List Nat) (d:Nat):∀ (l:List EV) (K:List EV→Prop),rensK ρ d l K=K (rens ρ d l)
 | [],K=>rfl
 | x::l,K=>by unfold rensK rens; rw [renK_eq,rensK_eq]
end
theorem rens_eq (ρ:List Nat) (d:Nat) (l:List EV):rens ρ d l=l.map (ren ρ d):=by
 induction l with
 | nil=>rfl
 | cons x l ih=>simp [rens,ih]
def renO (ρ:List Nat) (d:Nat):EO→EO
 | .mp ck es => .mp ck (es.map fun p=>(p.1,p.2.1,ren ρ d p.2.2))
 | .it s pos => .it s pos
 | .ag t n p => .ag t n p
 | .mq ck es => .mq ck es
def renB (ρ:List Nat) (d:Nat):EB→EB
 | .r t row => .r t (rens ρ d row)
 | .rv t rows => .rv t (rows.map (rens ρ d))
 | .o x => .o (renO ρ d x)
 | b=>b
def rB (B:Bm) (ρ:List Nat) (d:Nat):Bm:=fun L=>B (ρ.getD L d)
theorem ER.ren {B:Bm} {ρ:List Nat} {d:Nat} {y:EV} {u:Value} (h:ER B y u):∀ x,y=ren ρ d x→ER (rB B ρ d) x u:=by
 induction h with
 | v x0 =>
  intro x e
  cases x <;> simp only [Go.Proofs.YtdhgpocbcccieaaGreatDoor.E.ren,reduceCtorEq,EV.v.injEq] at e
  subst e
  exact .v _
 | p hq =>
  intro x e
  cases x <;> simp only [Go.Proofs.YtdhgpocbcccieaaGreatDoor.E.ren,reduceCtorEq,EV.p.injEq] at e
  obtain ⟨rfl,rfl,rfl⟩:=e
  exact .p hq
 | s hq h1 h2 h3 h4 =>
  intro x e
  cases x <;> simp only [Go.Proofs.YtdhgpocbcccieaaGreatDoor.E.ren,reduceCtorEq,EV.s.injEq] at e
  obtain ⟨rfl,rfl,rfl,rfl⟩:=e
  exact .s hq h1 h2 h3 h4
 | e A =>
  intro x e
  cases x <;> simp only [Go.Proofs.YtdhgpocbcccieaaGreatDoor.E.ren,reduceCtorEq,EV.s.injEq] at e
  obtain ⟨rfl,rfl,rfl,rfl⟩:=e
  exact .e A
 | m hq =>
  intro x e
  cases x <;> simp only [Go.Proofs.YtdhgpocbcccieaaGreatDoor.E.ren,reduceCtorEq,EV.m.injEq] at e
  subst e
  exact .m hq
 | a hl _ ih =>
  intro x e
  cases x <;> simp only [Go.Proofs.YtdhgpocbcccieaaGreatDoor.E.ren,reduceCtorEq,EV.a.injEq] at e
  subst e
  rw [rens_eq] at hl ih
  exact .a (by simpa using hl) fun i x u hx hu=>ih i _ u (by rw [List.getElem?_map,hx]; rfl) hu x rfl
 | t hl _ ih =>
  intro x e
  cases x <;> simp only [Go.Proofs.YtdhgpocbcccieaaGreatDoor.E.ren,reduceCtorEq,EV.t.injEq] at e
  subst e
  rw [rens_eq] at hl ih
  exact .t (by simpa using hl) fun i x u hx hu=>ih i _ u (by rw [List.getElem?_map,hx]; rfl) hu x rfl
 | f hl _ hl' _ ih ih' =>
  intro x e
  cases x <;> simp only [Go.Proofs.YtdhgpocbcccieaaGreatDoor.E.ren,reduceCtorEq,EV.f.injEq] at e
  obtain ⟨rfl,rfl,rfl⟩:=e
  rw [rens_eq] at hl ih hl' ih'
  exact .f (by simpa using hl) (fun i x u hx hu=>ih i _ u (by rw [List.getElem?_map,hx]; rfl) hu x rfl) (by simpa using hl') fun i x u hx hu=>ih' i _ u (by rw [List.getElem?_map,hx]; rfl) hu x rfl
 | j x0 =>
  intro x e
  cases x <;> simp only [Go.Proofs.YtdhgpocbcccieaaGreatDoor.E.ren,reduceCtorEq] at e
  exact .j _
 | q hp =>
  intro x e
  cases x <;> simp only [Go.Proofs.YtdhgpocbcccieaaGreatDoor.E.ren,reduceCtorEq,EV.q.injEq] at e
  subst e
  exact .q hp
 | i _ ih =>
  intro x e
  cases x <;> simp only [Go.Proofs.YtdhgpocbcccieaaGreatDoor.E.ren,reduceCtorEq,EV.i.injEq] at e
  obtain ⟨rfl,rfl⟩:=e
  exact .i (ih _ rfl)
 | y hq =>
  intro x e
  cases x <;> simp only [Go.Proofs.YtdhgpocbcccieaaGreatDoor.E.ren,reduceCtorEq,EV.y.injEq] at e
  obtain ⟨rfl,rfl⟩:=e
  exact .y hq
theorem ER.name {B B':Bm} {ρ:List Nat} {d:Nat} (hB:∀ L q,B L=some q→B' (ρ.getD L d)=some q) {x:EV} {u:Value} (h:ER B x u):ER B' (Go.Proofs.YtdhgpocbcccieaaGreatDoor.E.ren ρ d x) u:=by
 induction h with
 | v x=>exact .v x
 | p e=>exact .p (hB _ _ e)
 | s e h1 h2 h3 h4=>exact .s (hB _ _ e) h1 h2 h3 h4
 | e A=>exact .e A
 | m e=>exact .m (hB _ _ e)
 | a hl _ ih =>
  unfold Go.Proofs.YtdhgpocbcccieaaGreatDoor.E.ren
  rw [rens_eq]
  refine .a (by simpa using hl) fun i x u hx hu => ?_
  rw [List.getElem?_map] at hx
  obtain ⟨y,hy,rfl⟩:=Option.map_eq_some_iff.1 hx
  exact ih i y u hy hu
 | t hl _ ih =>
  unfold Go.Proofs.YtdhgpocbcccieaaGreatDoor.E.ren
  rw [rens_eq]
  refine .t (by simpa using hl) fun i x u hx hu => ?_
  rw [List.getElem?_map] at hx
  obtain ⟨y,hy,rfl⟩:=Option.map_eq_some_iff.1 hx
  exact ih i y u hy hu
 | f hl _ hl' _ ih ih' =>
  unfold Go.Proofs.YtdhgpocbcccieaaGreatDoor.E.ren
  rw [rens_eq,rens_eq]
  refine .f (by simpa using hl) (fun i x u hx hu => ?_) (by simpa using hl') fun i x u hx hu => ?_
  ·rw [List.getElem?_map] at hx
   obtain ⟨y,hy,rfl⟩:=Option.map_eq_some_iff.1 hx
   exact ih i y u hy hu
  ·rw [List.getElem?_map] at hx
   obtain ⟨y,hy,rfl⟩:=Option.map_eq_some_iff.1 hx
   exact ih' i y u hy hu
 | j x=>exact .j x
 | q h=>exact .q h
 | i _ ih=>unfold Go.Proofs.YtdhgpocbcccieaaGreatDoor.E.ren; exact .i ih
 | y hq=>unfold Go.Proofs.YtdhgpocbcccieaaGreatDoor.E.ren; exact .y (hB _ _ hq)
section
variable {P:Program} {G:Gl} {S0:List Nat} {w0 w:World} {B B':Bm} {q:BI} {t:TypeId} {rows:List (List EV)} {ρ:List Nat} {d:Nat}
theorem RowsAt.unname (h:RowsAt P B w q t (rows.map (rens ρ d))):RowsAt P (rB B ρ d) w q t rows:=by
 obtain ⟨hk,c,hb,hs,hl,hr⟩:=h
 refine ⟨hk,c,hb,hs,by simpa using hl,fun i row hi => ?_⟩
 obtain ⟨h1,h2⟩:=hr i (rens ρ d row) (by rw [List.getElem?_map,hi]; rfl)
 rw [rens_eq] at h1 h2
 refine ⟨by simpa using h1,fun f x hx => ?_⟩
 obtain ⟨u,hu,he,ho⟩:=h2 f (ren ρ d x) (by rw [List.getElem?_map,hx]; rfl)
 exact ⟨u,hu,he.ren x rfl,ho⟩
theorem RowsAt.name (hB:∀ L q,B L=some q→B' (ρ.getD L d)=some q) (h:RowsAt P B w q t rows):RowsAt P B' w q t (rows.map (rens ρ d)):=by
 obtain ⟨hk,c,hb,hs,hl,hr⟩:=h
 refine ⟨hk,c,hb,hs,by simpa using hl,fun i row hi => ?_⟩
 rw [List.getElem?_map] at hi
 obtain ⟨row',hi',rfl⟩:=Option.map_eq_some_iff.1 hi
 obtain ⟨h1,h2⟩:=hr i row' hi'
 rw [rens_eq]
 refine ⟨by simpa using h1,fun f x hx => ?_⟩
 rw [List.getElem?_map] at hx
 obtain ⟨y,hy,rfl⟩:=Option.map_eq_some_iff.1 hx
 obtain ⟨u,hu,he,ho⟩:=h2 f y hy
 exact ⟨u,hu,he.name hB,ho⟩
theorem plain_map (h:plainR rows):rows.map (rens ρ d)=rows:=by
 refine (List.map_congr_left fun row hm => ?_).trans (List.map_id _)
 rw [rens_eq]
 refine (List.map_congr_left fun x hx => ?_).trans (List.map_id _)
 obtain ⟨u,rfl⟩:=h row hm x hx
 rfl
theorem renB_vec {b:EB} (hp:∀ t rows,b = .rs t rows→plainR rows) (h:b.vec=some (t,rows)):(renB ρ d b).vec=some (t,rows.map (rens ρ d)):=by
 cases b with
 | r t' row=>cases h; rfl
 | rs t' rows'=>cases h; rw [plain_map (hp _ _ rfl)]; rfl
 | rv t' rows'=>cases h; rfl
 | _=>cases h
theorem renB_live {b:EB}:(renB ρ d b).live=b.live:=by cases b <;> rfl
theorem ObjAt.unname {x:EO} (h:ObjAt B w q (renO ρ d x)):ObjAt (rB B ρ d) w q x:=by
 cases x with
 | mp ck es =>
  obtain ⟨en,h1,h2,h3⟩:=h
  refine ⟨en,h1,by simpa using h2,fun i k n x hi => ?_⟩
  obtain ⟨y,a,b,e,c⟩:=h3 i k n (ren ρ d x) (by rw [List.getElem?_map,hi]; rfl)
  exact ⟨y,a,b,e,c.ren x rfl⟩
 | mq ck es=>exact h.pl
 | it s pos=>exact h
 | ag t n p=>exact h
theorem ObjAt.name {x:EO} (hB:∀ L q,B L=some q→B' (ρ.getD L d)=some q) (h:ObjAt B w q x):ObjAt B' w q (renO ρ d x):=by
 cases x with
 | mp ck es =>
  obtain ⟨en,h1,h2,h3⟩:=h
  refine ⟨en,h1,by simpa using h2,fun i k n x hi => ?_⟩
  rw [List.getElem?_map] at hi
  obtain ⟨⟨k',n',x'⟩,hi',he⟩:=Option.map_eq_some_iff.1 hi
  cases he
  obtain ⟨y,a,b,e,c⟩:=h3 i k' n' x' hi'
  exact ⟨y,a,b,e,c.name hB⟩
 | mq ck es=>exact h.pl
 | it s pos=>exact h
 | ag t n p=>exact h
mutual
def covD (ρ:List Nat) (d:Nat):EV→EV→Prop
 | .t xs,y=>y = .t (rens ρ d xs)∨∃ ys,y = .t ys∧covDs ρ d xs ys
 | .a xs,y=>y = .a (rens ρ d xs)∨∃ ys,y = .a ys∧covDs ρ d xs ys
 | .s L i n z,y=>y = .s (ρ.getD L d) i n z∨y = .v (.slice none 0 0)∧n=0
 | x,y=>y=ren ρ d x
def covDs (ρ:List Nat) (d:Nat):List EV→List EV→Prop
 | [],ys=>ys=[]
 | x::xs,ys=>∃ y r,ys=y::r∧covD ρ d x y∧covDs ρ d xs r
end
theorem ER.t_inv {xs:List EV} {u:Value} (h:ER B (.t xs) u):∃ ds:Array Value,u = .tuple ds∧ERs B xs ds:=by cases h with | t h1 h2=>exact ⟨_,rfl,h1,h2⟩
theorem ER.a_inv {xs:List EV} {u:Value} (h:ER B (.a xs) u):∃ ds:Array Value,u = .agg ds∧ERs B xs ds:=by cases h with | a h1 h2=>exact ⟨_,rfl,h1,h2⟩
section
variable {B':Bm} {n:Nat} {W:EV→Prop}
mutual
theorem covD.gen (he:∀ x u,W x→ER B (Go.Proofs.YtdhgpocbcccieaaGreatDoor.E.ren ρ d x) u→ER B' x u) (ht:∀ xs,W (.t xs)→∀ x,x∈xs→W x) (ha:∀ xs,W (.a xs)→∀ x,x∈xs→W x):∀ (x y:EV) (u:Value),W x→covD ρ d x y→ER B y u→ER B' x u
 | .t xs,y,u,hw,h,hy=>by
  unfold covD at h
  rcases h with rfl | ⟨ys,rfl,h⟩
  ·exact he _ _ hw hy
  ·obtain ⟨ds,rfl,h1,h2⟩:=hy.t_inv
   obtain ⟨h3,h4⟩:=covDs.gen he ht ha xs ys (ht xs hw) h
   exact .t (h3.trans h1) fun i x u hx hu=>by
    have hl:i<ys.length:=by rw [← h3]; exact (List.getElem?_eq_some_iff.1 hx).1
    exact h4 i x ys[i] u hx (List.getElem?_eq_getElem hl) (h2 i _ u (List.getElem?_eq_getElem hl) hu)
 | .a xs,y,u,hw,h,hy=>by
  unfold covD at h
  rcases h with rfl | ⟨ys,rfl,h⟩
  ·exact he _ _ hw hy
  ·obtain ⟨ds,rfl,h1,h2⟩:=hy.a_inv
   obtain ⟨h3,h4⟩:=covDs.gen he ht ha xs ys (ha xs hw) h
   exact .a (h3.trans h1) fun i x u hx hu=>by
    have hl:i<ys.length:=by rw [← h3]; exact (List.getElem?_eq_some_iff.1 hx).1
    exact h4 i x ys[i] u hx (List.getElem?_eq_getElem hl) (h2 i _ u (List.getElem?_eq_getElem hl) hu)
 | .s L i n z,y,u,hw,h,hy=>by
  unfold covD at h
  rcases h with rfl | ⟨rfl,rfl⟩
  ·exact he _ _ hw hy
  ·rw [hy.v_inv]; exact .e _
 | .v x,y,u,hw,h,hy=>by unfold covD at h; subst h; exact he _ _ hw hy
 | .p L i f,y,u,hw,h,hy=>by unfold covD at h; subst h; exact he _ _ hw hy
 | .m L,y,u,hw,h,hy=>by unfold covD at h; subst h; exact he _ _ hw hy
 | .f g fs cs,y,u,hw,h,hy=>by unfold covD at h; subst h; exact he _ _ hw hy
 | .j,y,u,hw,h,hy => .j u
 | .q p,y,u,hw,h,hy=>by unfold covD at h; subst h; exact he _ _ hw hy
 | .i t x,y,u,hw,h,hy=>by unfold covD at h; subst h; exact he _ _ hw hy
 | .y L n,y,u,hw,h,hy=>by unfold covD at h; subst h; exact he _ _ hw hy
theorem covDs.gen (he:∀ x u,W x→ER B (Go.Proofs.YtdhgpocbcccieaaGreatDoor.E.ren ρ d x) u→ER B' x u) (ht:∀ xs,W (.t xs)→∀ x,x∈xs→W x) (ha:∀ xs,W (.a xs)→∀ x,x∈xs→W x):∀ (xs ys:List EV),(∀ x,x∈xs→W x)→covDs ρ d xs ys→xs.length=ys.length∧∀ (i:Nat) (x y:EV) (u:Value),xs[i]? = some x→ys[i]? = some y→ER B y u→ER B' x u
 | [],ys,_,h=>by
  unfold covDs at h
  subst h
  exact ⟨rfl,fun i x y u hx=>by simp at hx⟩
 | x::xs,ys,hw,h=>by
  unfold covDs at h
  obtain ⟨y,r,rfl,h1,h2⟩:=h
  obtain ⟨h3,h4⟩:=covDs.gen he ht ha xs r (fun z hz=>hw z (List.mem_cons_of_mem _ hz)) h2
  refine ⟨by simp [h3],fun i a b u hx hy hu => ?_⟩
  cases i with
  | zero=>cases hx; cases hy; exact covD.gen he ht ha x y u (hw x (by simp)) h1 hu
  | succ i=>exact h4 i a b u (by simpa using hx) (by simpa using hy) hu
end
end
def covC (ρ:List Nat) (d:Nat) (y x:EV):Prop:=y=ren ρ d x∨(y = .v (.slice none 0 0)∧∃ L i z,x = .s L i 0 z)∨covD ρ d x y
theorem covC.er {y x:EV} {u:Value} (h:covC ρ d y x) (hy:ER B y u):ER (rB B ρ d) x u:=by
 rcases h with rfl | ⟨rfl,L,i,z,rfl⟩ | h
 ·exact hy.ren x rfl
 ·rw [hy.v_inv]; exact .e _
 ·exact covD.gen (W:=fun _=>True) (fun x u _ h=>h.ren x rfl) (fun _ _ _ _=>trivial) (fun _ _ _ _=>trivial) x y u trivial h hy
def covR (ρ:List Nat) (d:Nat):List EV→List EV→Prop
 | [],[]=>True
 | y::ys,x::xs=>covC ρ d y x∧covR ρ d ys xs
 | _,_=>False
theorem covR.spec:∀ (ys xs:List EV),covR ρ d ys xs→ys.length=xs.length∧∀ (f:Nat) (x:EV),xs[f]? = some x→∃ y,ys[f]? = some y∧covC ρ d y x:=by
 intro ys
 induction ys with
 | nil =>
  intro xs h
  cases xs with
  | nil=>exact ⟨rfl,fun f x hx=>by simp at hx⟩
  | cons x xs=>exact h.elim
 | cons y ys ih =>
  intro xs h
  cases xs with
  | nil=>exact h.elim
  | cons x xs =>
   obtain ⟨h1,h2⟩:=ih xs h.2
   refine ⟨by simp [h1],fun f z hz => ?_⟩
   cases f with
   | zero=>cases hz; exact ⟨y,rfl,h.1⟩
   | succ f=>exact h2 f z (by simpa using hz)
def covRs (ρ:List Nat) (d:Nat):List (List EV)→List (List EV)→Prop
 | [],[]=>True
 | y::ys,x::xs=>covR ρ d y x∧covRs ρ d ys xs
 | _,_=>False
theorem covRs.spec:∀ (ys xs:List (List EV)),covRs ρ d ys xs→ys.length=xs.length∧∀ (i:Nat) (row:List EV),xs[i]? = some row→∃ row',ys[i]? = some row'∧covR ρ d row' row:=by
 intro ys
 induction ys with
 | nil =>
  intro xs h
  cases xs with
  | nil=>exact ⟨rfl,fun f x hx=>by simp at hx⟩
  | cons x xs=>exact h.elim
 | cons y ys ih =>
  intro xs h
  cases xs with
  | nil=>exact h.elim
  | cons x xs =>
   obtain ⟨h1,h2⟩:=ih xs h.2
   refine ⟨by simp [h1],fun f z hz => ?_⟩
   cases f with
   | zero=>cases hz; exact ⟨y,rfl,h.1⟩
   | succ f=>exact h2 f z (by simpa using hz)
def covBk (ρ:List Nat) (d:Nat) (b':Option EB) (b:EB):Prop :=
 match b with
 | .r t row=>∃ row',b'=some (.r t row')∧covR ρ d row' row
 | .rv t rows=>∃ rows',b'=some (.rv t rows')∧covRs ρ d rows' rows
 | b=>b'=some (renB ρ d b)
theorem RowsAt.imp {rows':List (List EV)} (h:RowsAt P B w q t rows') (hl:rows.length=rows'.length) (hc:∀ (i:Nat) (row:List EV),rows[i]? = some row→∃ row',rows'[i]? = some row'∧row'.length=row.length∧∀ (f:Nat) (x:EV),row[f]? = some x→∃ y,row'[f]? = some y∧∀ u,ER B y u→ER B' x u):RowsAt P B' w q t rows:=by
 obtain ⟨hk,c,hb,hs,hle,hr⟩:=h
 refine ⟨hk,c,hb,hs,by rw [hl]; exact hle,fun i row hi => ?_⟩
 obtain ⟨row',h1,h2,h3⟩:=hc i row hi
 obtain ⟨h4,h5⟩:=hr i row' h1
 refine ⟨by rw [← h2]; exact h4,fun f x hx => ?_⟩
 obtain ⟨y,hy,hyx⟩:=h3 f x hx
 obtain ⟨u,hu,he,ho⟩:=h5 f y hy
 exact ⟨u,hu,hyx u he,ho⟩
def ndL:List Nat→List EB→Bool
 | L::ρ,b::H=>(!b.live||(ρ.zip H).all fun p => !p.2.live||p.1 != L)&&ndL ρ H
 | _,_=>true
theorem ndL_ne:∀ (ρ:List Nat) (H:List EB),ndL ρ H=true→∀ (i j:Nat) (L L':Nat) (b b':EB),i<j→ρ[i]? = some L→ρ[j]? = some L'→H[i]? = some b→H[j]? = some b'→b.live=true→b'.live=true→L≠L':=by
 intro ρ
 induction ρ with
 | nil=>intro H _ i j L L' b b' _ h; simp at h
 | cons x ρ ih =>
  intro H h i j L L' b b' hij h1 h2 h3 h4 l1 l2
  cases H with
  | nil=>simp at h3
  | cons y H =>
   unfold ndL at h
   obtain ⟨ha,hb⟩:=Bool.and_eq_true_iff.1 h
   cases j with
   | zero=>omega
   | succ j =>
    cases i with
    | zero =>
     cases h1
     cases h3
     rw [l1] at ha
     have hm:(L',b')∈ρ.zip H:=by
      refine List.mem_iff_getElem?.2 ⟨j,?_⟩
      rw [List.getElem?_cons_succ] at h2 h4
      simp [List.getElem?_zip_eq_some,h2,h4]
     have ha:((ρ.zip H).all fun p => !p.2.live||p.1 != x)=true:=by rw [Bool.not_true,Bool.false_or] at ha; exact ha
     have:=(List.all_eq_true.1 ha) (L',b') hm
     rw [l2] at this
     intro e
     subst e
     simp at this
    | succ i=>exact ih H hb i j L L' b b' (by omega) (by simpa using h1) (by simpa using h2) (by simpa using h3) (by simpa using h4) l1 l2
structure CovH (ρ:List Nat) (H HI:List EB):Prop where
 len:ρ.length=HI.length
 nd:ndL ρ HI=true
 at_:∀ (L:Nat) (b:EB),HI[L]? = some b→b = .g∨b.live=true∧(covBk ρ H.length H[ρ.getD L H.length]? b∨(∃ t,b = .rs t [])∧H.length≤ρ.getD L H.length)
theorem hf_big {H:List EB} {L:Nat} (h:H.length≤L):hf H L = .n:=by simp [hf,List.getD_eq_getElem?_getD,List.getElem?_eq_none h]
theorem Wd.unname {H HI:List EB} (hc:CovH ρ H HI) (hw:Wd P G S0 w0 B (hf H) w):Wd P G S0 w0 (rB B ρ H.length) (hf HI) w:=by
 have get:∀ L,(hf HI L).live=true→HI[L]? = some (hf HI L):=fun L hl=>by
  unfold hf at hl ⊢
  rw [List.getD_eq_getElem?_getD] at hl ⊢
  cases h:HI[L]? with
  | none=>rw [h] at hl; cases hl
  | some b=>rfl
 have at_:∀ L,(hf HI L).live=true→covBk ρ H.length H[ρ.getD L H.length]? (hf HI L)∨(∃ t,hf HI L = .rs t [])∧B (ρ.getD L H.length)=none:=fun L hl=>by
  rcases hc.at_ L _ (get L hl) with h | ⟨_,h | ⟨h1,h2⟩⟩
  ·rw [h] at hl; cases hl
  ·exact .inl h
  ·exact .inr ⟨h1,hw.n _ (hf_big h2)⟩
 have real:∀ L q,(hf HI L).live=true→B (ρ.getD L H.length)=some q→∃ b',hf H (ρ.getD L H.length)=b'∧b'.live=true:=fun L q hl hq=>by
  rcases at_ L hl with h | ⟨_,h⟩
  ·cases hb:hf HI L with
   | r t row =>
    rw [hb] at h
    obtain ⟨row',h1,_⟩:=h
    exact ⟨_,hf_get h1,rfl⟩
   | rs t rows=>rw [hb] at h; exact ⟨_,hf_get h,rfl⟩
   | rv t rows =>
    rw [hb] at h
    obtain ⟨rows',h1,_⟩:=h
    exact ⟨_,hf_get h1,rfl⟩
   | o xo=>rw [hb] at h; exact ⟨_,hf_get h,rfl⟩
   | _=>rw [hb] at hl; cases hl
  ·rw [hq] at h; cases h
 have lt:∀ L,(hf HI L).live=true→L<ρ.length:=fun L hl=>by
  rw [hc.len]
  exact (List.getElem?_eq_some_iff.1 (get L hl)).1
 have hp:∀ L t rows,hf HI L = .rs t rows→plainR rows:=fun L t rows he=>by
  rcases at_ L (by rw [he]; rfl) with h | ⟨⟨t',h⟩,_⟩
  ·rw [he] at h
   exact hw.pl (ρ.getD L H.length) t rows (hf_get h)
  ·rw [he] at h; cases h; exact fun r hr=>(by cases hr)
 refine ⟨hw.t,fun L t rows hv => ?_,fun L xo hv => ?_,fun L hv => ?_,hp,fun L1 L2 q1 q2 h1 h2 e1 e2 e => ?_,fun L q hl hq => ?_,hw.gl⟩
 ·have hl:=EB.live_vec hv
  rcases at_ L hl with h | ⟨⟨t',h⟩,hn⟩
  ·have gen:covBk ρ H.length H[ρ.getD L H.length]? (hf HI L)→H[ρ.getD L H.length]? = some (renB ρ H.length (hf HI L))→RwOk P (rB B ρ H.length) w L t rows:=fun _ h=>by
    rcases hw.row (ρ.getD L H.length) t (rows.map (rens ρ H.length)) (by rw [hf_get h]; exact renB_vec (hp L) hv) with ⟨q,hq,hr⟩ | ⟨h1,h2⟩
    ·exact .inl ⟨q,hq,hr.unname⟩
    ·exact .inr ⟨by simpa using h1,h2⟩
   cases hb:hf HI L with
   | r t' row =>
    rw [hb] at h hv
    obtain ⟨row',h1,h2⟩:=h
    cases hv
    obtain ⟨hlen,hcell⟩:=covR.spec _ _ h2
    rcases hw.row (ρ.getD L H.length) t [row'] (by rw [hf_get h1]; rfl) with ⟨q,hq,hr⟩ | ⟨h1,_⟩
    ·refine .inl ⟨q,hq,hr.imp rfl fun i r hi => ?_⟩
     match i,hi with
     | 0,hi =>
      cases hi
      exact ⟨row',rfl,hlen,fun f x hx=>let ⟨y,hy,hc⟩:=hcell f x hx; ⟨y,hy,fun u=>hc.er⟩⟩
     | i+1,hi=>simp at hi
    ·cases h1
   | rs t' rows'=>exact gen h (by rw [hb] at h ⊢; exact h)
   | rv t' rows' =>
    rw [hb] at h hv
    obtain ⟨rows2,h1,h2⟩:=h
    cases hv
    obtain ⟨hlen,hcell⟩:=covRs.spec _ _ h2
    rcases hw.row (ρ.getD L H.length) t rows2 (by rw [hf_get h1]; rfl) with ⟨q,hq,hr⟩ | ⟨h3,h4⟩
    ·refine .inl ⟨q,hq,hr.imp hlen.symm fun i r hi => ?_⟩
     obtain ⟨row',k1,k2⟩:=hcell i r hi
     obtain ⟨k3,k4⟩:=covR.spec _ _ k2
     exact ⟨row',k1,k3,fun f x hx=>let ⟨y,hy,hc⟩:=k4 f x hx; ⟨y,hy,fun u=>hc.er⟩⟩
    ·exact .inr ⟨List.eq_nil_of_length_eq_zero (by rw [← hlen,h3]; rfl),h4⟩
   | _=>rw [hb] at hv; cases hv
  ·rw [h] at hv
   cases hv
   exact .inr ⟨rfl,hn⟩
 ·have hl:(hf HI L).live=true:=by rw [hv]; rfl
  rcases at_ L hl with h | ⟨⟨t',h⟩,_⟩
  ·rw [hv] at h
   have h:H[ρ.getD L H.length]? = some (.o (renO ρ H.length xo)):=h
   obtain ⟨q,hq,hr⟩:=hw.mp (ρ.getD L H.length) (renO ρ H.length xo) (hf_get h)
   exact ⟨q,hq,hr.unname⟩
  ·rw [hv] at h; cases h
 ·have hL:HI.length≤L:=by
   apply Classical.byContradiction
   intro hn
   have hL:L<HI.length:=by omega
   have hg:HI[L]? = some HI[L]:=List.getElem?_eq_getElem hL
   have:hf HI L=HI[L]:=hf_get hg
   rw [this] at hv
   rcases hc.at_ L _ hg with h | ⟨h,_⟩
   ·rw [hv] at h; cases h
   ·rw [hv] at h; cases h
  show B (ρ.getD L H.length)=none
  rw [List.getD_eq_getElem?_getD,List.getElem?_eq_none (by rw [hc.len]; exact hL)]
  exact hw.n _ (hf_n H)
 ·obtain ⟨b1,hb1,hl1⟩:=real L1 q1 h1 e1
  obtain ⟨b2,hb2,hl2⟩:=real L2 q2 h2 e2
  have:=hw.inj _ _ q1 q2 (hb1 ▸ hl1) (hb2 ▸ hl2) e1 e2 e
  have l1:=lt L1 h1
  have l2:=lt L2 h2
  simp only [List.getD_eq_getElem?_getD,List.getElem?_eq_getElem l1,List.getElem?_eq_getElem l2,Option.getD_some] at this
  apply Classical.byContradiction
  intro hne
  rcases Nat.lt_or_gt_of_ne hne with hlt | hlt
  ·exact ndL_ne ρ HI hc.nd L1 L2 _ _ _ _ hlt (List.getElem?_eq_getElem l1) (List.getElem?_eq_getElem l2) (get L1 h1) (get L2 h2) h1 h2 this
  ·exact ndL_ne ρ HI hc.nd L2 L1 _ _ _ _ hlt (List.getElem?_eq_getElem l2) (List.getElem?_eq_getElem l1) (get L2 h2) (get L1 h1) h2 h1 this.symm
 ·obtain ⟨b,hb,hl'⟩:=real L q hl hq
  exact hw.own _ q (hb ▸ hl') hq
end
abbrev TL:=List (Nat×EV)
abbrev KC:=TL→List EB→Prop
def covT (ρ:List Nat) (d:Nat) (T:TL):TL→Prop
 | []=>True
 | (t,x)::r=>covC ρ d (lk T t) x∧covT ρ d T r
def covL (ρ:List Nat) (d:Nat) (H:List EB):Nat→List EB→Prop
 | _,[]=>True
 | L,.g::r=>covL ρ d H (L+1) r
 | _,.n::_=>False
 | L,.rs t rows::r=>(H[ρ.getD L d]? = some (.rs t rows)∨rows=[]∧H.length≤ρ.getD L d)∧covL ρ d H (L+1) r
 | L,b::r=>covBk ρ d H[ρ.getD L d]? b∧covL ρ d H (L+1) r
inductive Shr:List EB→List EB→Prop
 | refl (H:List EB):Shr H H
 | cut {H H2:List EB} (L:Nat) (t:TypeId) (rows r':List (List EV)) (h:H[L]? = some (.rs t (rows++r'))) (k:Shr (H.set L (.rs t rows)) H2):Shr H H2
 | toq {H H2:List EB} (L ck:Nat) (h:H[L]? = some (.o (.mp ck []))) (k:Shr (H.set L (.o (.mq ck []))) H2):Shr H H2
 | tov {H H2:List EB} (L:Nat) (t:TypeId) (rows:List (List EV)) (h:H[L]? = some (.rs t rows)) (k:Shr (H.set L (.rv t rows)) H2):Shr H H2
structure Cov (n0:Nat) (T:TL) (H:List EB) (I:TL×List EB):Prop where
 h:∃ H2,Shr H H2∧∃ ρ:List Nat,((List.range n0).all fun L=>ρ[L]? == some L)=true∧ρ.length=I.2.length∧ndL ρ I.2=true∧covT ρ H2.length T I.1∧covL ρ H2.length H2 0 I.2
theorem covL_at {ρ:List Nat} {H:List EB}:∀ (HI:List EB) (L0:Nat),covL ρ H.length H L0 HI→∀ (L:Nat) (b:EB),HI[L]? = some b→b = .g∨b.live=true∧(covBk ρ H.length H[ρ.getD (L0+L) H.length]? b∨(∃ t,b = .rs t [])∧H.length≤ρ.getD (L0+L) H.length):=by
 intro HI
 induction HI with
 | nil=>intro L0 _ L b hb; simp at hb
 | cons x r ih =>
  intro L0 h L b hb
  have step:covL ρ H.length H (L0+1) r→∀ (L:Nat),r[L]? = some b→b = .g∨b.live=true∧(covBk ρ H.length H[ρ.getD (L0+(L+1)) H.length]? b∨(∃ t,b = .rs t [])∧H.length≤ρ.getD (L0+(L+1)) H.length):=fun h L hb=>by
   have:=ih (L0+1) h L b hb
   rwa [show L0+1+L=L0+(L+1) by omega] at this
  cases L with
  | zero =>
   cases hb
   cases x with
   | n=>exact h.elim
   | g=>exact .inl rfl
   | r _ _=>exact .inr ⟨rfl,.inl h.1⟩
   | rs t rows=>exact .inr ⟨rfl,h.1.imp id fun h=>⟨⟨t,by rw [h.1]⟩,h.2⟩⟩
   | rv _ _=>exact .inr ⟨rfl,.inl h.1⟩
   | o _=>exact .inr ⟨rfl,.inl h.1⟩
  | succ L =>
   rw [List.getElem?_cons_succ] at hb
   cases x with
   | n=>exact h.elim
   | g=>exact step h L hb
   | r _ _=>exact step h.2 L hb
   | rs t rows=>exact step h.2 L hb
   | rv _ _=>exact step h.2 L hb
   | o _=>exact step h.2 L hb
theorem lk_mem (T:TL) (t:Nat):lk T t = .j∨(t,lk T t)∈T:=by
 induction T with
 | nil=>exact .inl rfl
 | cons p r ih =>
  obtain ⟨k,v⟩:=p
  unfold lk
  by_cases e:k=t
  ·rw [if_pos e,e]; exact .inr (by simp)
  ·rw [if_neg e]
   rcases ih with h | h
   ·exact .inl h
   ·exact .inr (List.mem_cons_of_mem _ h)
theorem covT_mem {ρ:List Nat} {d:Nat} {T:TL}:∀ (TI:TL),covT ρ d T TI→∀ t x,(t,x)∈TI→covC ρ d (lk T t) x:=by
 intro TI
 induction TI with
 | nil=>intro _ t x h; cases h
 | cons p r ih =>
  intro h t x hm
  rcases List.mem_cons.1 hm with rfl | hm
  ·exact h.1
  ·exact ih h.2 t x hm
section
variable {P:Program} {G:Gl}
def drawK (draw:Bool) (ops:Array Oper) (acc:List FW) (K:Prop):Prop:=match draw with | true=>chkE ops acc.reverse=true∧K | false=>K
theorem drawK_inv {draw:Bool} {ops:Array Oper} {acc:List FW} {K:Prop} (h:drawK draw ops acc K):(draw=true→chkE ops acc.reverse=true)∧K:=by
 cases draw with
 | true=>exact ⟨fun _=>h.1,h.2⟩
 | false=>exact ⟨fun e=>(by cases e),h⟩
def condK (v:EV) (A B:Prop):Prop:=match v with | .q p=>(∀ u,p u→∃ b,u = .bool b)∧(p (.bool true)→A)∧(p (.bool false)→B) | v=>asB v fun b=>br b A B
noncomputable def unrC (body:TL→List EB→KC→(Nat→KC)→KC→Prop) (kx:Nat→KC) (kr:KC) (n:Nat):KC:=Nat.rec (motive:=fun _=>KC) (fun _ _=>False) (fun _ ih T H=>body T H ih kx kr) n
noncomputable def goC (P:Program) (G:Gl) (n0:Nat) (c:Code):TL→List EB→KC→(Nat→KC)→KC→Prop :=
 Code.rec (motive:=fun _=>TL→List EB→KC→(Nat→KC)→KC→Prop)
  (fun T H kn _ _=>kn T H)
  (fun _ ops draw T H kn _ _=>goR P G ops ops.toList T H [] fun T' H' acc=>drawK draw ops acc (kn T' H'))
  (fun _ _ ia ib T H kn kx kr=>ia T H (fun T' H'=>ib T' H' kn kx kr) kx kr)
  (fun c _ _ ia ib T H kn kx kr=>evK T c fun v=>condK v (ia T H kn kx kr) (ib T H kn kx kr))
  (fun id _ ia T H kn kx kr=>ia T H kn (fun i T' H'=>br (Nat.beq i id) (kn T' H') (kx i T' H')) kr)
  (fun _ ia T H _ kx kr=>(∃ n,unrC ia kx kr n T H)∨∃ (X:Type) (I:X→TL×List EB) (p:X→Prop) (m:X→Nat) (x0:X),(p x0∧Cov n0 T H (I x0))∧∀ x,p x→ia (I x).1 (I x).2 (fun T' H'=>∃ x',(p x'∧m x'<m x)∧Cov n0 T' H' (I x')) kx kr)
  (fun _ _ _ _ _ _ _ _ _ _ _=>False)
  (fun id T H _ kx _=>kx id T H)
  (fun _ ia T H kn kx kr=>ia T H kn (fun i T' H'=>br (Nat.blt i 1000000) (kx i T' H') False) kr)
  (fun _ T H kn _ _=>kn T H)
  (fun l T H _ kx _=>kx (1000000+l) T H)
  (fun T H _ _ kr=>kr T H)
  (fun _ _ _ _ _ _=>False) c
def exO (i:Nat):Exit:=if i<1000000 then .exit i else .goto (i-1000000)
theorem exO_then {K:Act→World→Prop} {Q:Exit→Act→World→Prop} {i:Nat} {a:Act} {w:World} (h:Q (exO i) a w):Exit.then K Q (exO i) a w:=by
 unfold exO at h ⊢
 by_cases hi:i<1000000
 ·rw [if_pos hi] at h ⊢; exact h
 ·rw [if_neg hi] at h ⊢; exact h
def codeOk (N:Nat):Code→Bool
 | .region _ ops _=>ops.toList.all fun o=>o.dst.all fun d=>Nat.blt d N
 | .seq a b=>codeOk N a&&codeOk N b
 | .cond _ a b=>codeOk N a&&codeOk N b
 | .block i a=>Nat.blt i 1000000&&codeOk N a
 | .exit i=>Nat.blt i 1000000
 | .loop a=>codeOk N a
 | .scope a=>codeOk N a
 | _=>true
theorem wp_loop_ix {c:Code} {Q:Exit→Act→World→Prop} (I:Nat→Act→World→Prop) (round:∀ n a w,I n a w→c.wp P (Exit.then (fun a' w'=>∃ m,m<n∧I m a' w') Q) a w):∀ n a w,I n a w→(Code.loop c).wp P Q a w:=by
 intro n a w h0 b k cs
 have key:∀ n a w,I n a w→∃ e a' w',Q e a' w'∧Arrives P (lone (b.at a (.code c :: .inLoop c::k)) cs w) b k cs e a' w':=by
  intro n
  induction n using Nat.strongRecOn with
  | _ n ih =>
   intro a w hI
   obtain ⟨e,a₁,w₁,hq,harr⟩:=round n a w hI b (.inLoop c::k) cs
   cases e with
   | normal =>
    obtain ⟨m,hlt,hI₁⟩:=hq
    obtain ⟨e₂,a₂,w₂,hq₂,harr₂⟩:=ih m hlt a₁ w₁ hI₁
    exact ⟨e₂,a₂,w₂,hq₂,.of_steps (Steps.trans harr (.one step_inLoop)) harr₂⟩
   | exit id=>exact ⟨_,a₁,w₁,hq,.pass (x := .inLoop c) rfl (fun _ _ => .inl (by simp)) harr⟩
   | goto l=>exact ⟨_,a₁,w₁,hq,.pass (x := .inLoop c) rfl (fun _ _ => .inl (by simp)) harr⟩
   | ret=>exact ⟨_,a₁,w₁,hq,.pass (x := .inLoop c) rfl (fun _ _ => .inl (by simp)) harr⟩
   | panic ch=>exact ⟨_,a₁,w₁,hq,.pass (x := .inLoop c) rfl (fun _ _ => .inl (by simp)) harr⟩
   | outgrown=>exact ⟨_,a₁,w₁,hq,.pass (x := .inLoop c) rfl (fun _ _ => .inl (by simp)) harr⟩
 obtain ⟨e,a',w',hq,harr⟩:=key n a w h0
 exact ⟨e,a',w',hq,.of_steps (.one step_loop) harr⟩
variable {S0:List Nat} {w0:World} {N n0:Nat} {df:List Deferred} {B0:Bm}
def FitE (P:Program) (G:Gl) (S0:List Nat) (w0:World) (N:Nat) (df:List Deferred) (B0:Bm) (T:TL) (H:List EB) (a:Act) (w:World):Prop:=∃ B,B0.le B∧Fit P G S0 w0 N df B (lk T) (hf H) a w
theorem Shr.wd {H H2:List EB} (h:Shr H H2):∀ {B:Bm} {w:World},Wd P G S0 w0 B (hf H) w→Wd P G S0 w0 B (hf H2) w:=by
 induction h with
 | refl H=>exact fun h=>h
 | @cut H H2 L t rows r' hb _ ih =>
  intro B w hw
  refine ih ?_
  have hL:L<H.length:=(List.getElem?_eq_some_iff.1 hb).1
  have hv:=hf_get hb
  have hn:∀ L',L'≠L→updH (hf H) L (.rs t rows) L'=hf H L':=fun L' hne=>by simp [updH,hne]
  have hs:updH (hf H) L (.rs t rows) L = .rs t rows:=by simp [updH]
  have lv:∀ L',(updH (hf H) L (.rs t rows) L').live=true→(hf H L').live=true:=fun L' h=>by
   by_cases e:L'=L
   ·subst e; rw [hv]; rfl
   ·rwa [hn L' e] at h
  rw [hf_set hL]
  refine ⟨hw.t,fun L' t' rows' hx => ?_,fun L' x hx => ?_,fun L' hx => ?_,fun L' t' rows' hx => ?_,fun L1 L2 q q' h1 h2 e1 e2 e=>hw.inj L1 L2 q q' (lv _ h1) (lv _ h2) e1 e2 e,fun L' q h1 hq=>hw.own L' q (lv _ h1) hq,hw.gl⟩
  ·by_cases e:L'=L
   ·subst e
    rw [hs] at hx
    cases hx
    rcases hw.row L' t (rows++r') (by rw [hv]; rfl) with ⟨q,hq,hk,c,hc,hcs,hle,hr⟩ | ⟨h1,h2⟩
    ·refine .inl ⟨q,hq,hk,c,hc,hcs,Nat.le_trans (Nat.mul_le_mul_right _ (by simp)) hle,fun i row hi=>hr i row ?_⟩
     rw [List.getElem?_append_left (List.getElem?_eq_some_iff.1 hi).1]
     exact hi
    ·exact .inr ⟨(List.append_eq_nil_iff.1 h1).1,h2⟩
   ·rw [hn L' e] at hx
    exact hw.row L' t' rows' hx
  ·by_cases e:L'=L
   ·subst e; rw [hs] at hx; cases hx
   ·rw [hn L' e] at hx; exact hw.mp L' x hx
  ·by_cases e:L'=L
   ·subst e; rw [hs] at hx; cases hx
   ·rw [hn L' e] at hx; exact hw.n L' hx
  ·by_cases e:L'=L
   ·subst e
    rw [hs] at hx
    cases hx
    exact fun row hr=>hw.pl L' t (rows++r') hv row (List.mem_append_left _ hr)
   ·rw [hn L' e] at hx; exact hw.pl L' t' rows' hx
 | @toq H H2 L ck hb _ ih =>
  intro B w hw
  refine ih ?_
  have hL:L<H.length:=(List.getElem?_eq_some_iff.1 hb).1
  have hv:=hf_get hb
  have hn:∀ L',L'≠L→updH (hf H) L (.o (.mq ck [])) L'=hf H L':=fun L' hne=>by simp [updH,hne]
  have hs:updH (hf H) L (.o (.mq ck [])) L = .o (.mq ck []):=by simp [updH]
  have lv:∀ L',(updH (hf H) L (.o (.mq ck [])) L').live=true→(hf H L').live=true:=fun L' h=>by
   by_cases e:L'=L
   ·subst e; rw [hv]; rfl
   ·rwa [hn L' e] at h
  rw [hf_set hL]
  refine ⟨hw.t,fun L' t' rows' hx => ?_,fun L' x hx => ?_,fun L' hx => ?_,fun L' t' rows' hx => ?_,fun L1 L2 q q' h1 h2 e1 e2 e=>hw.inj L1 L2 q q' (lv _ h1) (lv _ h2) e1 e2 e,fun L' q h1 hq=>hw.own L' q (lv _ h1) hq,hw.gl⟩
  ·by_cases e:L'=L
   ·subst e; rw [hs] at hx; cases hx
   ·rw [hn L' e] at hx; exact hw.row L' t' rows' hx
  ·by_cases e:L'=L
   ·subst e
    rw [hs] at hx
    cases hx
    obtain ⟨q,hq,en,h1,h2,_⟩:=hw.mp L' (.mp ck []) hv
    exact ⟨q,hq,fun p hp=>(by cases hp),en,h1,h2,fun i k n x hi=>by simp at hi⟩
   ·rw [hn L' e] at hx; exact hw.mp L' x hx
  ·by_cases e:L'=L
   ·subst e; rw [hs] at hx; cases hx
   ·rw [hn L' e] at hx; exact hw.n L' hx
  ·by_cases e:L'=L
   ·subst e; rw [hs] at hx; cases hx
   ·rw [hn L' e] at hx; exact hw.pl L' t' rows' hx
 | @tov H H2 L t rows hb _ ih =>
  intro B w hw
  refine ih ?_
  have hL:L<H.length:=(List.getElem?_eq_some_iff.1 hb).1
  have hv:=hf_get hb
  have hn:∀ L',L'≠L→updH (hf H) L (.rv t rows) L'=hf H L':=fun L' hne=>by simp [updH,hne]
  have hs:updH (hf H) L (.rv t rows) L = .rv t rows:=by simp [updH]
  have lv:∀ L',(updH (hf H) L (.rv t rows) L').live=true→(hf H L').live=true:=fun L' h=>by
   by_cases e:L'=L
   ·subst e; rw [hv]; rfl
   ·rwa [hn L' e] at h
  rw [hf_set hL]
  refine ⟨hw.t,fun L' t' rows' hx => ?_,fun L' x hx => ?_,fun L' hx => ?_,fun L' t' rows' hx => ?_,fun L1 L2 q q' h1 h2 e1 e2 e=>hw.inj L1 L2 q q' (lv _ h1) (lv _ h2) e1 e2 e,fun L' q h1 hq=>hw.own L' q (lv _ h1) hq,hw.gl⟩
  ·by_cases e:L'=L
   ·subst e
    rw [hs] at hx
    cases hx
    exact hw.row L' t rows (by rw [hv]; rfl)
   ·rw [hn L' e] at hx
    exact hw.row L' t' rows' hx
  ·by_cases e:L'=L
   ·subst e; rw [hs] at hx; cases hx
   ·rw [hn L' e] at hx; exact hw.mp L' x hx
  ·by_cases e:L'=L
   ·subst e; rw [hs] at hx; cases hx
   ·rw [hn L' e] at hx; exact hw.n L' hx
  ·by_cases e:L'=L
   ·subst e; rw [hs] at hx; cases hx
   ·rw [hn L' e] at hx; exact hw.pl L' t' rows' hx
theorem Cov.fit (h0:∀ L q,B0 L=some q→L<n0) {T:TL} {H:List EB} {I:TL×List EB} {a:Act} {w:World} (hc:Cov n0 T H I) (hf:FitE P G S0 w0 N df B0 T H a w):FitE P G S0 w0 N df B0 I.1 I.2 a w:=by
 obtain ⟨H2,hs,ρ,h1,h2,h3,h4,h5⟩:=hc.h
 obtain ⟨B,hle,hw,htm,hsz,hdf⟩:=hf
 have hw:=hs.wd hw
 clear hs
 refine ⟨rB B ρ H2.length,fun L q hq => ?_,hw.unname ⟨h2,h3,fun L b hb=>by simpa using covL_at I.2 0 h5 L b hb⟩,fun t => ?_,hsz,hdf⟩
 ·have:=(List.all_eq_true.1 h1) L (List.mem_range.2 (h0 L q hq))
  have e:ρ.getD L H2.length=L:=by rw [List.getD_eq_getElem?_getD,show ρ[L]? = some L by simpa using this]; rfl
  show B (ρ.getD L H2.length)=some q
  rw [e]
  exact hle L q hq
 ·rcases lk_mem I.1 t with h | h
  ·rw [h]; exact .j _
  ·exact (covT_mem I.1 h4 t _ h).er (htm t)
theorem goC_sound (hm:P.follows .mixedOrders=true) (h0:∀ L q,B0 L=some q→L<n0):∀ (c:Code) (T:TL) (H:List EB) (kn:KC) (kx:Nat→KC) (kr:KC) (Q:Exit→Act→World→Prop) (a:Act) (w:World),codeOk N c=true→goC P G n0 c T H kn kx kr→FitE P G S0 w0 N df B0 T H a w →
  (∀ T' H' a' w',kn T' H'→FitE P G S0 w0 N df B0 T' H' a' w'→Q .normal a' w')→(∀ i T' H' a' w',kx i T' H'→FitE P G S0 w0 N df B0 T' H' a' w'→Q (exO i) a' w')→(∀ T' H' a' w',kr T' H'→FitE P G S0 w0 N df B0 T' H' a' w'→Q .ret a' w')→c.wp P Q a w:=by
 intro c
 induction c with
 | skip=>intro T H kn kx kr Q a w _ h hf hn _ _; exact wp_skip (hn _ _ _ _ h hf)
 | label l=>intro T H kn kx kr Q a w _ h hf hn _ _; exact wp_label (hn _ _ _ _ h hf)
 | ret=>intro T H kn kx kr Q a w _ h hf _ _ hr; exact wp_ret (hr _ _ _ _ h hf)
 | exit i=>intro T H kn kx kr Q a w hN h hf _ hx _; exact wp_exit (by have:=hx _ _ _ _ _ h hf; rwa [exO,if_pos (show i<1000000 from Nat.le_of_ble_eq_true hN)] at this)
 | goto l=>intro T H kn kx kr Q a w _ h hf _ hx _; exact wp_goto (by have:=hx _ _ _ _ _ h hf; rwa [exO,if_neg (by omega),show 1000000+l-1000000=l by omega] at this)
 | region id ops draw =>
  intro T H kn kx kr Q a w hN h hf hn _ _
  obtain ⟨ss,T',H',hr,hdk⟩:=goR_sound ops.toList T H [] _ hN h
  obtain ⟨hd,hk⟩:=drawK_inv hdk
  obtain ⟨B,hle,hft⟩:=hf
  exact hr.region hm (fun e=>by simpa using hd e) hft fun B' a' w' hle' hf'=>hn _ _ _ _ hk ⟨B',hle.trans hle',hf'⟩
 | seq a b iha ihb =>
  intro T H kn kx kr Q a w hN h hf hn hx hr
  obtain ⟨hN1,hN2⟩:=Bool.and_eq_true_iff.1 hN
  exact wp_seq (iha _ _ _ _ _ _ _ _ hN1 h hf (fun T' H' a' w' hk hf'=>ihb _ _ _ _ _ _ _ _ hN2 hk hf' hn hx hr) (fun i T' H' a' w' hk hf'=>exO_then (hx _ _ _ _ _ hk hf')) (fun T' H' a' w' hk hf'=>hr _ _ _ _ hk hf'))
 | cond c x y iha ihb =>
  intro T H kn kx kr Q a w hN h hf hn hx hr
  obtain ⟨hN1,hN2⟩:=Bool.and_eq_true_iff.1 hN
  change evK T c (fun v=>condK v (goC P G n0 x T H kn kx kr) (goC P G n0 y T H kn kx kr)) at h
  rw [evK_eq] at h
  obtain ⟨B,hle,hft⟩:=id hf
  have hev:ER B (ev T c) (a.eval c):=by
   cases c with
   | tmp t=>exact hft.tm t
   | const v=>exact .v v
   | global g=>exact .v _
   | func f=>exact .f rfl (fun i x u hx=>by simp at hx) rfl (fun i x u hx=>by simp at hx)
  unfold condK at h
  split at h
  ·rename_i p hv
   obtain ⟨h1,h2,h3⟩:=h
   rw [hv] at hev
   have hp:p (a.eval c):=by cases hev; assumption
   obtain ⟨b,hb⟩:=h1 _ hp
   rw [hb] at hp
   cases b with
   | true=>exact wp_cond_true hb (iha _ _ _ _ _ _ _ _ hN1 (h2 hp) hf hn hx hr)
   | false=>exact wp_cond_false hb (ihb _ _ _ _ _ _ _ _ hN2 (h3 hp) hf hn hx hr)
  obtain ⟨v,hv,h⟩:=asB_inv h
  rw [hv] at hev
  rcases br_inv h with ⟨rfl,h⟩ | ⟨rfl,h⟩
  ·exact wp_cond_true hev.v_inv (iha _ _ _ _ _ _ _ _ hN1 h hf hn hx hr)
  ·exact wp_cond_false hev.v_inv (ihb _ _ _ _ _ _ _ _ hN2 h hf hn hx hr)
 | block id a iha =>
  intro T H kn kx kr Q a w hN h hf hn hx hr
  obtain ⟨hN1,hN⟩:=Bool.and_eq_true_iff.1 hN
  have hN1:id<1000000:=Nat.le_of_ble_eq_true hN1
  refine wp_block (iha _ _ _ _ _ _ _ _ hN h hf (fun T' H' a' w' hk hf'=>hn _ _ _ _ hk hf') (fun i T' H' a' w' hk hf' => ?_) (fun T' H' a' w' hk hf'=>hr _ _ _ _ hk hf'))
  by_cases hi:i<1000000
  ·rw [exO,if_pos hi]
   show if i=id then Q .normal a' w' else Q (.exit i) a' w'
   rcases br_inv hk with ⟨he,hk⟩ | ⟨he,hk⟩
   ·rw [if_pos (Nat.eq_of_beq_eq_true he)]; exact hn _ _ _ _ hk hf'
   ·rw [if_neg (Nat.ne_of_beq_eq_false he)]; have:=hx _ _ _ _ _ hk hf'; rwa [exO,if_pos hi] at this
  ·rcases br_inv hk with ⟨he,hk⟩ | ⟨he,hk⟩
   ·exact absurd (Nat.eq_of_beq_eq_true he) (by omega)
   ·have:=hx _ _ _ _ _ hk hf'
    rw [exO,if_neg hi] at this ⊢
    exact this
 | loop x iha =>
  intro T H kn kx kr Q a w hN h hf hn hx hr
  rcases h with ⟨n,h⟩ | h
  ·refine wp_loop_ix (fun n a w=>∃ T' H',unrC (goC P G n0 x) kx kr n T' H'∧FitE P G S0 w0 N df B0 T' H' a w) (fun n a w ⟨T',H',hb,hfx⟩ => ?_) n a w ⟨T,H,h,hf⟩
   cases n with
   | zero=>exact hb.elim
   | succ n=>exact iha _ _ _ _ _ _ _ _ hN hb hfx (fun T2 H2 a2 w2 hk hf2=>⟨n,Nat.lt_succ_self n,T2,H2,hk,hf2⟩) (fun i T' H' a' w' hk hf'=>exO_then (hx _ _ _ _ _ hk hf')) (fun T' H' a' w' hk hf'=>hr _ _ _ _ hk hf')
  obtain ⟨X,I,p,m,x0,⟨hp,hc⟩,hb⟩:=h
  refine wp_loop_ix (fun n a w=>∃ x,m x=n∧p x∧FitE P G S0 w0 N df B0 (I x).1 (I x).2 a w) (fun n a w ⟨x,hxn,hpx,hfx⟩ => ?_) (m x0) a w ⟨x0,rfl,hp,hc.fit h0 hf⟩
  exact iha _ _ _ _ _ _ _ _ hN (hb x hpx) hfx (fun T' H' a' w' hk hf'=>by
   obtain ⟨x',⟨hp',hlt⟩,hc'⟩:=hk
   exact ⟨m x',hxn ▸ hlt,x',rfl,hp',hc'.fit h0 hf'⟩) (fun i T' H' a' w' hk hf'=>exO_then (hx _ _ _ _ _ hk hf')) (fun T' H' a' w' hk hf'=>hr _ _ _ _ hk hf')
 | scope a iha =>
  intro T H kn kx kr Q a w hN h hf hn hx hr
  refine wp_scope_straight (iha _ _ _ _ _ _ _ _ hN h hf (fun T' H' a' w' hk hf'=>hn _ _ _ _ hk hf') (fun i T' H' a' w' hk hf' => ?_) (fun T' H' a' w' hk hf'=>hr _ _ _ _ hk hf'))
  rcases br_inv hk with ⟨he,hk⟩ | ⟨_,hk⟩
  ·have:=hx _ _ _ _ _ hk hf'
   have he:i<1000000:=Nat.le_of_ble_eq_true he
   rw [exO,if_pos he] at this ⊢
   exact this
  ·exact hk.elim
 | _=>intro T H kn kx kr Q a w _ h; exact h.elim
end
section
variable {P:Program} {G:Gl}
def Tri (P:Program) (G:Gl) (f:FuncId) (args:List EV) (H:List EB) (r:EV) (H':List EB):Prop :=
 (∃ fn,P.funcs[f]? = some fn∧(fn.name == "runtime.NumGoroutine")=false∧fn.body.isSome=true) ∧
 ∀ (S0:List Nat) (w0:World) (B:Bm) (w:World) (qa:Array Value),ERs B args qa→Wd P G S0 w0 B (hf H) w→Calls P f qa w fun e w'=>∃ B' v,e = .returned v∧B.le B'∧ER B' r v∧Wd P G S0 w0 B' (hf H') w'
def resK (P:Program) (T:TL) (H:List EB):List ResultVar→(List EV→Prop)→Prop
 | [],K=>K []
 | .tmp t::r,K=>lkK T t fun v=>resK P T H r fun l=>K (v::l)
 | .cell a t::r,K=>lkK T a fun p=>match p with | .p L i f=>rowK H L i fun row=>cellK P t row f fun v=>resK P T H r fun l=>K (v::l) | _=>False
def retK (P:Program) (T:TL) (H:List EB) (l:List ResultVar) (K:EV→Prop):Prop:=resK P T H l fun l=>match l with | [x]=>K x | l=>K (.t l)
def rvS (tm:Array Value):ResultVar→Sem Value
 | .tmp t=>pure (tm.getD t undef)
 | .cell a t=>do loadVar t (← asAddr (tm.getD a undef))
theorem results_rv (fn:Func) (tm:Array Value):results fn tm=(do let vs ← fn.results.mapM (rvS tm); pure (if h:vs.size=1 then vs[0] else .tuple vs)):=by
 unfold results
 congr 1
theorem resK_ok {T:TL} {H:List EB}:∀ (l:List ResultVar) (K:List EV→Prop),resK P T H l K→∃ xs,K xs∧∀ (S0:List Nat) (w0:World) (B:Bm) (tm:Array Value) (w:World),Wd P G S0 w0 B (hf H) w→(∀ t,ER B (lk T t) (tm.getD t undef)) →
  ∃ us:List Value,(l.mapM (rvS tm)).run P w = .ok us w∧ERs B xs us.toArray:=by
 intro l
 induction l with
 | nil=>intro K h; exact ⟨[],h,fun S0 w0 B tm w _ _=>⟨[],by simp,⟨rfl,fun i x u hx=>by simp at hx⟩⟩⟩
 | cons x l ih =>
  intro K h
  have join:∀ {B:Bm} {y:EV} {u:Value} {xs:List EV} {us:List Value},ER B y u→ERs B xs us.toArray→ERs B (y::xs) (u::us).toArray:=fun hy hxs=>⟨by simpa using hxs.1,fun i x v hx hv=>by
   match i,hx,hv with
   | 0,hx,hv=>cases hx; simp at hv; subst hv; exact hy
   | i+1,hx,hv=>exact hxs.2 i x v (by simpa using hx) (by simpa using hv)⟩
  cases x with
  | tmp t =>
   unfold resK at h
   rw [lkK_eq] at h
   obtain ⟨xs,hK,hr⟩:=ih _ h
   refine ⟨_,hK,fun S0 w0 B tm w hw ht => ?_⟩
   obtain ⟨us,h1,h2⟩:=hr S0 w0 B tm w hw ht
   refine ⟨tm.getD t undef::us,?_,join (ht t) h2⟩
   rw [List.mapM_cons]
   simp only [rvS,Sem.run_bind,Sem.run_pure,Result.andThen_ok,h1]
  | cell a t =>
   unfold resK at h
   rw [lkK_eq] at h
   split at h
   ·rename_i L i f hev
    obtain ⟨b,t',rows,row,hb,hv,hi,h⟩:=rowK_ok h
    obtain ⟨y,h,hy⟩:=cellK_ok h
    obtain ⟨xs,hK,hr⟩:=ih _ h
    refine ⟨_,hK,fun S0 w0 B tm w hw ht => ?_⟩
    obtain ⟨us,h1,h2⟩:=hr S0 w0 B tm w hw ht
    have hp:=ht a
    rw [hev] at hp
    obtain ⟨q,hq,hu⟩:=hp.p_inv
    obtain ⟨q',hq',hrw⟩:=(hw.row L t' rows (by rw [hf_get hb]; exact hv)).here hi
    rw [hq] at hq'; cases hq'
    obtain ⟨u,h3,h4⟩:=hy q t' rows i w B hrw hi
    refine ⟨u::us,?_,join h4 h2⟩
    rw [List.mapM_cons]
    have h5:(rvS tm (.cell a t)).run P w = .ok u w:=by simp [rvS,hu,asAddr,h3]
    simp only [Sem.run_bind,Sem.run_pure,Result.andThen_ok,h5,h1]
   ·exact h.elim
theorem retK_ok {fn:Func} {T:TL} {H:List EB} {K:EV→Prop} (h:retK P T H fn.results.toList K):∃ x,K x∧∀ (S0:List Nat) (w0:World) (B:Bm) (tm:Array Value) (w:World),Wd P G S0 w0 B (hf H) w→(∀ t,ER B (lk T t) (tm.getD t undef)) →
  ∃ u,(results fn tm).run P w = .ok u w∧ER B x u:=by
 obtain ⟨xs,hK,hr⟩:=resK_ok (G:=G) _ _ h
 have fin:∀ (B:Bm) (us:List Value) (tm:Array Value) (w:World),(fn.results.toList.mapM (rvS tm)).run P w = .ok us w→(results fn tm).run P w = .ok (if h:us.toArray.size=1 then us.toArray[0] else .tuple us.toArray) w:=fun B us tm w h1=>by
  rw [results_rv,Array.mapM_eq_mapM_toList]
  simp only [Sem.run_bind,Sem.run_map,h1,Result.andThen_ok,Sem.run_pure]
 match xs,hK,hr with
 | [x],hK,hr =>
  refine ⟨x,hK,fun S0 w0 B tm w hw ht => ?_⟩
  obtain ⟨us,h1,h2⟩:=hr S0 w0 B tm w hw ht
  match us,h1,h2 with
  | [u],h1,h2=>exact ⟨u,fin B [u] tm w h1,h2.2 0 x u rfl rfl⟩
  | [],_,h2=>have:=h2.1; simp at this
  | _::_::_,_,h2=>have:=h2.1; simp at this
 | [],hK,hr =>
  refine ⟨.t [],hK,fun S0 w0 B tm w hw ht => ?_⟩
  obtain ⟨us,h1,h2⟩:=hr S0 w0 B tm w hw ht
  match us,h1,h2 with
  | [],h1,h2=>exact ⟨_,fin B [] tm w h1,.t h2.1 h2.2⟩
  | _::_,_,h2=>have:=h2.1; simp at this
 | x::y::l,hK,hr =>
  refine ⟨.t (x::y::l),hK,fun S0 w0 B tm w hw ht => ?_⟩
  obtain ⟨us,h1,h2⟩:=hr S0 w0 B tm w hw ht
  match us,h1,h2 with
  | u::v::us,h1,h2=>exact ⟨_,fin B _ tm w h1,.t h2.1 h2.2⟩
  | [],_,h2=>have:=h2.1; simp at this
  | [_],_,h2=>have:=h2.1; simp at this
def argT:Nat→List EV→TL
 | _,[]=>[]
 | i,x::r=>(i,x)::argT (i+1) r
theorem lk_argT:∀ (l:List EV) (i t:Nat),lk (argT i l) t=if i≤t then l.getD (t-i) .j else .j:=by
 intro l
 induction l with
 | nil=>intro i t; simp [argT,lk]
 | cons x l ih =>
  intro i t
  unfold argT lk
  by_cases e:i=t
  ·subst e; simp
  ·rw [if_neg e,ih]
   by_cases h:i≤t
   ·rw [if_pos h,if_pos (by omega),show t-i=(t-(i+1))+1 by omega]
    simp
   ·rw [if_neg h,if_neg (by omega)]
theorem Tri.of {f:FuncId} {fn:Func} {c:Code} {args:List EV} {H H':List EB} {r:EV} (hm:P.follows .mixedOrders=true) (hfn:P.funcs[f]? = some fn) (hname:(fn.name == "runtime.NumGoroutine")=false) (hb:fn.body=some c)
  (hN:(codeOk fn.ntmps c&&Nat.ble args.length fn.ntmps)=true)
  (h:goC P G H.length c (argT 0 args) H (fun T H1=>retK P T H1 fn.results.toList fun x=>Cov H.length [(0,x)] H1 ([(0,r)],H')) (fun _ _ _=>False) (fun T H1=>retK P T H1 fn.results.toList fun x=>Cov H.length [(0,x)] H1 ([(0,r)],H'))):Tri P G f args H r H':=by
 obtain ⟨hN1,hN2⟩:=Bool.and_eq_true_iff.1 hN
 have hN2:args.length≤fn.ntmps:=Nat.le_of_ble_eq_true hN2
 refine ⟨⟨fn,hfn,hname,by rw [hb]; rfl⟩,fun S0 w0 B w qa has hw => ?_⟩
 have hsz:qa.size=args.length:=has.1.symm
 have h0:∀ L q,B L=some q→L<H.length:=fun L q hq=>by
  apply Classical.byContradiction
  intro hn
  have:hf H L = .n:=by simp [hf,List.getD_eq_getElem?_getD,List.getElem?_eq_none (show H.length≤L by omega)]
  rw [hw.n L this] at hq
  cases hq
 refine calls_of_wp hfn hb ?_
 have fin:∀ T' H1 a' w',retK P T' H1 fn.results.toList (fun x=>Cov H.length [(0,x)] H1 ([(0,r)],H'))→FitE P G S0 w0 fn.ntmps [] B T' H1 a' w'→a'.defers=[]∧∃ v,(results fn a'.tmps).run P w' = .ok v w'∧∃ B' v',Ending.returned v = .returned v'∧B.le B'∧ER B' r v'∧Wd P G S0 w0 B' (hf H') w':=fun T' H1 a' w' hk hfit=>by
  obtain ⟨B1,hle,hwd,htm,_,hdf⟩:=hfit
  obtain ⟨x,hcov,hr⟩:=retK_ok (G:=G) hk
  obtain ⟨u,h1,h2⟩:=hr S0 w0 B1 a'.tmps w' hwd htm
  have hfit2:FitE P G S0 w0 1 [] B [(0,x)] H1 { tmps := #[u],defers:=[] } w':=⟨B1,hle,hwd,fun t=>by
   show ER B1 (if 0=t then x else .j) _
   by_cases e:0=t
   ·subst e; simpa using h2
   ·rw [if_neg e]; exact .j _,rfl,rfl⟩
  obtain ⟨B2,hle2,hwd2,htm2,_,_⟩:=hcov.fit h0 hfit2
  exact ⟨hdf,u,h1,B2,u,rfl,hle2,by simpa [lk] using htm2 0,hwd2⟩
 refine goC_sound (N:=fn.ntmps) (df:=[]) hm h0 c _ _ _ _ _ _ _ _ hN1 h ⟨B,Bm.le.refl _,hw,fun t => ?_,by simp; omega,rfl⟩ fin (fun _ _ _ _ _ h=>h.elim) fin
 rw [lk_argT,if_pos (Nat.zero_le _),Nat.sub_zero]
 by_cases ht:t<args.length
 ·rw [List.getD_eq_getElem?_getD,List.getElem?_eq_getElem ht,Option.getD_some]
  refine has.2 t _ _ (List.getElem?_eq_getElem ht) ?_
  have h1:(qa++Array.replicate (fn.ntmps-qa.size) undef)[t]? = qa[t]? := Array.getElem?_append_left (by omega)
  show qa[t]? = some ((qa++Array.replicate (fn.ntmps-qa.size) undef).getD t undef)
  rw [Array.getD_eq_getD_getElem?,h1,Array.getElem?_eq_getElem (by omega)]
  rfl
 ·rw [List.getD_eq_getElem?_getD,List.getElem?_eq_none (by omega)]
  exact .j _
end
def renBK (ρ:List Nat) (d:Nat) (b:EB) (K:EB→Prop):Prop :=
 match b with
 | .r t row=>rensK ρ d row fun row=>K (.r t row)
 | .rs t rows=>K (.rs t rows)
 | .rv t rows=>K (.rv t (rows.map (rens ρ d)))
 | .o x=>K (.o (renO ρ d x))
 | .n=>K .n
 | .g=>K .g
theorem renBK_eq (ρ:List Nat) (d:Nat) (b:EB) (K:EB→Prop):renBK ρ d b K=K (renB ρ d b):=by
 cases b with
 | r t row=>exact rensK_eq ρ d row _
 | _=>rfl
mutual
def wfE (n:Nat):EV→Bool
 | .p L _ _=>Nat.blt L n
 | .s L _ _ _=>Nat.blt L n
 | .m L=>Nat.blt L n
 | .a cs=>wfEs n cs
 | .t cs=>wfEs n cs
 | .f _ fs cs=>wfEs n fs&&wfEs n cs
 | .i _ x=>wfE n x
 | .y L _=>Nat.blt L n
 | _=>true
def wfEs (n:Nat):List EV→Bool
 | []=>true
 | x::r=>wfE n x&&wfEs n r
end
theorem wfEs_mem {n:Nat}:∀ {l:List EV},wfEs n l=true→∀ x,x∈l→wfE n x=true:=by
 intro l
 induction l with
 | nil=>intro _ x hx; cases hx
 | cons y l ih =>
  intro h x hx
  unfold wfEs at h
  obtain ⟨h1,h2⟩:=Bool.and_eq_true_iff.1 h
  rcases List.mem_cons.1 hx with rfl | hx
  ·exact h1
  ·exact ih h2 x hx
def wfB (n:Nat):EB→Bool
 | .r _ row=>wfEs n row
 | .rv _ rows=>rows.all (wfEs n)
 | .o (.mp _ es)=>es.all fun p=>wfE n p.2.2
 | .o _=>true
 | _=>true
theorem ER.ren' {B B':Bm} {ρ:List Nat} {d n:Nat} (hB:∀ L q,L<n→B (ρ.getD L d)=some q→B' L=some q) {y:EV} {u:Value} (h:ER B y u):∀ x,y=Go.Proofs.YtdhgpocbcccieaaGreatDoor.E.ren ρ d x→wfE n x=true→ER B' x u:=by
 induction h with
 | v x0 =>
  intro x e _
  cases x <;> simp only [Go.Proofs.YtdhgpocbcccieaaGreatDoor.E.ren,reduceCtorEq,EV.v.injEq] at e
  subst e
  exact .v _
 | p hq =>
  intro x e hw
  cases x <;> simp only [Go.Proofs.YtdhgpocbcccieaaGreatDoor.E.ren,reduceCtorEq,EV.p.injEq] at e
  obtain ⟨rfl,rfl,rfl⟩:=e
  exact .p (hB _ _ (Nat.le_of_ble_eq_true hw) hq)
 | s hq h1 h2 h3 h4 =>
  intro x e hw
  cases x <;> simp only [Go.Proofs.YtdhgpocbcccieaaGreatDoor.E.ren,reduceCtorEq,EV.s.injEq] at e
  obtain ⟨rfl,rfl,rfl,rfl⟩:=e
  exact .s (hB _ _ (Nat.le_of_ble_eq_true hw) hq) h1 h2 h3 h4
 | e A =>
  intro x e _
  cases x <;> simp only [Go.Proofs.YtdhgpocbcccieaaGreatDoor.E.ren,reduceCtorEq,EV.s.injEq] at e
  obtain ⟨rfl,rfl,rfl,rfl⟩:=e
  exact .e A
 | m hq =>
  intro x e hw
  cases x <;> simp only [Go.Proofs.YtdhgpocbcccieaaGreatDoor.E.ren,reduceCtorEq,EV.m.injEq] at e
  subst e
  exact .m (hB _ _ (Nat.le_of_ble_eq_true hw) hq)
 | a hl _ ih =>
  intro x e hw
  cases x <;> simp only [Go.Proofs.YtdhgpocbcccieaaGreatDoor.E.ren,reduceCtorEq,EV.a.injEq] at e
  subst e
  rw [rens_eq] at hl ih
  exact .a (by simpa using hl) fun i x u hx hu=>ih i _ u (by rw [List.getElem?_map,hx]; rfl) hu x rfl (wfEs_mem hw x (List.mem_of_getElem? hx))
 | t hl _ ih =>
  intro x e hw
  cases x <;> simp only [Go.Proofs.YtdhgpocbcccieaaGreatDoor.E.ren,reduceCtorEq,EV.t.injEq] at e
  subst e
  rw [rens_eq] at hl ih
  exact .t (by simpa using hl) fun i x u hx hu=>ih i _ u (by rw [List.getElem?_map,hx]; rfl) hu x rfl (wfEs_mem hw x (List.mem_of_getElem? hx))
 | f hl _ hl' _ ih ih' =>
  intro x e hw
  cases x <;> simp only [Go.Proofs.YtdhgpocbcccieaaGreatDoor.E.ren,reduceCtorEq,EV.f.injEq] at e
  obtain ⟨rfl,rfl,rfl⟩:=e
  rw [rens_eq] at hl ih hl' ih'
  obtain ⟨hw1,hw2⟩:=Bool.and_eq_true_iff.1 hw
  exact .f (by simpa using hl) (fun i x u hx hu=>ih i _ u (by rw [List.getElem?_map,hx]; rfl) hu x rfl (wfEs_mem hw1 x (List.mem_of_getElem? hx))) (by simpa using hl') fun i x u hx hu=>ih' i _ u (by rw [List.getElem?_map,hx]; rfl) hu x rfl (wfEs_mem hw2 x (List.mem_of_getElem? hx))
 | j x0 =>
  intro x e _
  cases x <;> simp only [Go.Proofs.YtdhgpocbcccieaaGreatDoor.E.ren,reduceCtorEq] at e
  exact .j _
 | q hp =>
  intro x e _
  cases x <;> simp only [Go.Proofs.YtdhgpocbcccieaaGreatDoor.E.ren,reduceCtorEq,EV.q.injEq] at e
  subst e
  exact .q hp
 | i _ ih =>
  intro x e hw
  cases x <;> simp only [Go.Proofs.YtdhgpocbcccieaaGreatDoor.E.ren,reduceCtorEq,EV.i.injEq] at e
  obtain ⟨rfl,rfl⟩:=e
  exact .i (ih _ rfl hw)
 | y hq =>
  intro x e hw
  cases x <;> simp only [Go.Proofs.YtdhgpocbcccieaaGreatDoor.E.ren,reduceCtorEq,EV.y.injEq] at e
  obtain ⟨rfl,rfl⟩:=e
  exact .y (hB _ _ (Nat.le_of_ble_eq_true hw) hq)
theorem RowsAt.unname' {P:Program} {w:World} {B B':Bm} {q:BI} {t:TypeId} {rows:List (List EV)} {ρ:List Nat} {d:Nat} (hc:∀ row,row∈rows→∀ x,x∈row→∀ u,ER B (ren ρ d x) u→ER B' x u) (h:RowsAt P B w q t (rows.map (rens ρ d))):RowsAt P B' w q t rows:=by
 obtain ⟨hk,c,hb,hs,hl,hr⟩:=h
 refine ⟨hk,c,hb,hs,by simpa using hl,fun i row hi => ?_⟩
 obtain ⟨h1,h2⟩:=hr i (rens ρ d row) (by rw [List.getElem?_map,hi]; rfl)
 rw [rens_eq] at h1 h2
 refine ⟨by simpa using h1,fun f x hx => ?_⟩
 obtain ⟨u,hu,he,ho⟩:=h2 f (ren ρ d x) (by rw [List.getElem?_map,hx]; rfl)
 exact ⟨u,hu,hc row (List.mem_of_getElem? hi) x (List.mem_of_getElem? hx) u he,ho⟩
def putsL (ρ':List Nat) (d:Nat):List Nat→List EB→List EB→List EB
 | _,[],H=>H
 | L::ρ,b::bs,H=>putsL ρ' d ρ bs (H.set L (renB ρ' d b))
 | [],b::bs,H=>putsL ρ' d [] bs (H++[renB ρ' d b])
def putsK (ρ':List Nat) (d:Nat):List Nat→List EB→List EB→(List EB→Prop)→Prop
 | _,[],H,K=>K H
 | L::ρ,b::bs,H,K=>renBK ρ' d b fun b'=>setK H L b' fun H'=>putsK ρ' d ρ bs H' K
 | [],b::bs,H,K=>renBK ρ' d b fun b'=>appK H [b'] fun H'=>putsK ρ' d [] bs H' K
theorem putsK_eq (ρ':List Nat) (d:Nat):∀ (bs:List EB) (ρ:List Nat) (H:List EB) (K:List EB→Prop),putsK ρ' d ρ bs H K=K (putsL ρ' d ρ bs H):=by
 intro bs
 induction bs with
 | nil=>intro ρ H K; cases ρ <;> rfl
 | cons b bs ih =>
  intro ρ H K
  cases ρ with
  | nil=>unfold putsK putsL; rw [renBK_eq,appK_eq,ih]
  | cons L ρ=>unfold putsK putsL; rw [renBK_eq,setK_eq,ih]
theorem putsL_new (ρ':List Nat) (d:Nat):∀ (bs H:List EB),putsL ρ' d [] bs H=H++bs.map (renB ρ' d):=by
 intro bs
 induction bs with
 | nil=>intro H; simp [putsL]
 | cons b bs ih=>intro H; unfold putsL; rw [ih]; simp
theorem putsL_get (ρ':List Nat) (d:Nat):∀ (ρ:List Nat) (bs H:List EB),ρ.length≤bs.length→ρ.Nodup→(∀ L,L∈ρ→L<H.length) →
  (putsL ρ' d ρ bs H).length=H.length+(bs.length-ρ.length) ∧
  (∀ i b,i<ρ.length→bs[i]? = some b→(putsL ρ' d ρ bs H)[ρ.getD i 0]? = some (renB ρ' d b)) ∧
  (∀ i b,ρ.length≤i→bs[i]? = some b→(putsL ρ' d ρ bs H)[H.length+(i-ρ.length)]? = some (renB ρ' d b)) ∧
  (∀ L,L<H.length→L ∉ ρ→(putsL ρ' d ρ bs H)[L]? = H[L]?):=by
 intro ρ
 induction ρ with
 | nil =>
  intro bs H _ _ _
  rw [putsL_new]
  refine ⟨by simp,fun i b hi=>by simp at hi,fun i b _ hb => ?_,fun L hL _=>List.getElem?_append_left hL⟩
  rw [List.getElem?_append_right (by omega),List.getElem?_map]
  simp [hb]
 | cons L ρ ih =>
  intro bs H hl hn hm
  cases bs with
  | nil=>simp at hl
  | cons b bs =>
   obtain ⟨hn1,hn2⟩:=List.nodup_cons.1 hn
   obtain ⟨h1,h2,h3,h4⟩:=ih bs (H.set L (renB ρ' d b)) (by simpa using hl) hn2 (fun L' hL'=>by simpa using hm L' (List.mem_cons_of_mem _ hL'))
   have hL:L<H.length:=hm L (by simp)
   refine ⟨by rw [putsL,h1]; simp,fun i b' hi hb => ?_,fun i b' hi hb => ?_,fun L' hL' hnm => ?_⟩
   ·cases i with
    | zero =>
     cases hb
     show (putsL ρ' d ρ bs (H.set L (renB ρ' d b)))[L]? = _
     rw [h4 L (by simpa using hL) hn1,List.getElem?_set,if_pos rfl,if_pos hL]
    | succ i =>
     rw [putsL]
     simpa using h2 i b' (by simpa using hi) (by simpa using hb)
   ·cases i with
    | zero=>simp at hi
    | succ i =>
     rw [putsL]
     have:=h3 i b' (by simpa using hi) (by simpa using hb)
     rw [List.length_set] at this
     simpa using this
   ·rw [putsL,h4 L' (by simpa using hL') (fun h=>hnm (List.mem_cons_of_mem _ h)),List.getElem?_set,if_neg fun e=>hnm (by simp [e])]
section
variable {P:Program} {G:Gl}
def postK (ρ:List Nat) (Hc:List EB) (r:EV) (H':List EB) (K:KE):Prop :=
 let ρ':=ρ++List.range' Hc.length (H'.length-ρ.length)
 let d:=Hc.length+(H'.length-ρ.length)
 renK ρ' d r fun r'=>putsK ρ' d ρ H' Hc fun Hc'=>K r' Hc' ρ' ρ'
theorem call_of {f:FuncId} {args args':List EV} {H H' Hc:List EB} {r:EV} {K:KE} (t:Tri P G f args H r H') (ρ:List Nat) (hargs:covR ρ Hc.length args' args) (hcov:covL ρ Hc.length Hc 0 H)
  (hck:(Nat.beq ρ.length H.length&&H.all EB.live&&Nat.ble H.length H'.length&&(ρ.all fun L=>Nat.blt L Hc.length)&&(wfEs H.length args&&H.all (wfB H.length)))=true) (hnd:ρ.Nodup) (hk:postK ρ Hc r H' K):CallE P G f args' Hc K:=by
 simp only [Bool.and_eq_true] at hck
 obtain ⟨⟨⟨⟨hl,hlv⟩,hle⟩,hlt⟩,hwa,hwH⟩:=hck
 have hl:ρ.length=H.length:=Nat.eq_of_beq_eq_true hl
 have hle:H.length≤H'.length:=Nat.le_of_ble_eq_true hle
 have hlt:∀ L,L∈ρ→L<Hc.length:=fun L hL=>Nat.le_of_ble_eq_true ((List.all_eq_true.1 hlt) L hL)
 have hlive:∀ (L:Nat) (b:EB),H[L]? = some b→b.live=true:=fun L b hb=>(List.all_eq_true.1 hlv) b (List.mem_of_getElem? hb)
 unfold postK at hk
 simp only at hk
 rw [renK_eq,putsK_eq] at hk
 obtain ⟨ρ',hρ'⟩:∃ ρ',ρ'=ρ++List.range' Hc.length (H'.length-ρ.length):=⟨_,rfl⟩
 obtain ⟨d,hd⟩:∃ d,d=Hc.length+(H'.length-ρ.length):=⟨_,rfl⟩
 rw [← hρ',← hd] at hk
 obtain ⟨Hc',hHc'⟩:∃ Hc',Hc'=putsL ρ' d ρ H' Hc:=⟨_,rfl⟩
 rw [← hHc'] at hk
 obtain ⟨p1,p2,p3,p4⟩:=putsL_get ρ' d ρ H' Hc (by omega) hnd hlt
 rw [← hHc'] at p1 p2 p3 p4
 have hρl:ρ'.length=H'.length:=by rw [hρ']; simp; omega
 have old:∀ L,L<H.length→ρ'.getD L d=ρ.getD L 0∧ρ.getD L 0∈ρ∧ρ.getD L Hc.length=ρ.getD L 0:=fun L hL=>by
  have h1:L<ρ.length:=by omega
  have e1:ρ.getD L 0=ρ[L]:=by rw [List.getD_eq_getElem?_getD,List.getElem?_eq_getElem h1]; rfl
  have e2:ρ.getD L Hc.length=ρ[L]:=by rw [List.getD_eq_getElem?_getD,List.getElem?_eq_getElem h1]; rfl
  have e3:ρ'.getD L d=ρ[L]:=by rw [hρ',List.getD_eq_getElem?_getD,List.getElem?_append_left h1,List.getElem?_eq_getElem h1]; rfl
  exact ⟨e3.trans e1.symm,e1 ▸ List.getElem_mem h1,e2.trans e1.symm⟩
 have new:∀ L,H.length≤L→L<H'.length→ρ'.getD L d=Hc.length+(L-H.length):=fun L h1 h2=>by
  rw [hρ',List.getD_eq_getElem?_getD,List.getElem?_append_right (by omega),List.getElem?_range' (by omega)]
  simp
  omega
 have at_:∀ (L:Nat) (b:EB),H'[L]? = some b→hf Hc' (ρ'.getD L d)=renB ρ' d b:=fun L b hb=>by
  have hL:L<H'.length:=(List.getElem?_eq_some_iff.1 hb).1
  by_cases h1:L<H.length
  ·rw [(old L h1).1]; exact hf_get (p2 L b (by omega) hb)
  ·rw [new L (by omega) hL]
   have:=p3 L b (by omega) hb
   rw [hl] at this
   exact hf_get this
 have inρ:∀ L,L<H'.length→ρ'.getD L d∈ρ':=fun L hL=>by
  rw [List.getD_eq_getElem?_getD,List.getElem?_eq_getElem (by omega)]
  exact List.getElem_mem _
 have ofρ:∀ L,L∈ρ'→∃ i,i<H'.length∧ρ'.getD i d=L:=fun L hL=>by
  obtain ⟨i,hi,rfl⟩:=List.getElem_of_mem hL
  exact ⟨i,by omega,by rw [List.getD_eq_getElem?_getD,List.getElem?_eq_getElem hi]; rfl⟩
 have out:∀ L,L ∉ ρ'→hf Hc' L=hf Hc L:=fun L hL=>by
  have h1:L ∉ ρ:=fun h=>hL (by rw [hρ']; exact List.mem_append.2 (.inl h))
  by_cases h2:L<Hc.length
  ·unfold hf
   rw [List.getD_eq_getElem?_getD,List.getD_eq_getElem?_getD,p4 L h2 h1]
  ·have h3:Hc'.length≤L:=by
    apply Classical.byContradiction
    intro h3
    exact hL (by rw [hρ']; exact List.mem_append.2 (.inr (List.mem_range'_1.2 ⟨by omega,by omega⟩)))
   unfold hf
   rw [List.getD_eq_getElem?_getD,List.getD_eq_getElem?_getD,List.getElem?_eq_none (by omega),List.getElem?_eq_none (by omega)]
 have injρ:∀ L1 L2,L1<H.length→L2<H.length→ρ.getD L1 0=ρ.getD L2 0→L1=L2:=fun L1 L2 i1 i2 he=>by
  have l1:L1<ρ.length:=by omega
  have l2:L2<ρ.length:=by omega
  simp only [List.getD_eq_getElem?_getD,List.getElem?_eq_getElem l1,List.getElem?_eq_getElem l2,Option.getD_some] at he
  apply Classical.byContradiction
  intro hne
  rcases Nat.lt_or_gt_of_ne hne with hlt | hlt
  ·exact (List.pairwise_iff_getElem.1 hnd) L1 L2 l1 l2 hlt he
  ·exact (List.pairwise_iff_getElem.1 hnd) L2 L1 l2 l1 hlt he.symm
 have inj':∀ L1 L2,L1<H'.length→L2<H'.length→ρ'.getD L1 d=ρ'.getD L2 d→L1=L2:=fun L1 L2 h1 h2 he=>by
  have fst:∀ L,L<H.length→ρ'.getD L d<Hc.length:=fun L hL=>by rw [(old L hL).1]; exact hlt _ (old L hL).2.1
  by_cases i1:L1<H.length
  ·by_cases i2:L2<H.length
   ·rw [(old L1 i1).1,(old L2 i2).1] at he
    exact injρ L1 L2 i1 i2 he
   ·have:=fst L1 i1
    rw [he,new L2 (by omega) h2] at this
    omega
  ·by_cases i2:L2<H.length
   ·have:=fst L2 i2
    rw [← he,new L1 (by omega) h1] at this
    omega
   ·rw [new L1 (by omega) h1,new L2 (by omega) h2] at he
    omega
 refine ⟨⟨ren ρ' d r,Hc',ρ',ρ',hk,⟨trivial,fun S0 w0 B w g qa has hw hg => .fn t.1 ?_⟩,funext fun L => ?_⟩⟩
 rotate_left
 ·by_cases h:L∈ρ'
  ·rw [if_pos h]
  ·rw [if_neg h]; exact out L h
 have hgetH:∀ L,(hf H L).live=true→L<H.length∧H[L]? = some (hf H L):=fun L hlv=>by
  have:L<H.length:=by
   apply Classical.byContradiction
   intro hn
   rw [show hf H L = .n by simp [hf,List.getD_eq_getElem?_getD,List.getElem?_eq_none (show H.length≤L by omega)]] at hlv
   cases hlv
  exact ⟨this,by rw [hf_get (List.getElem?_eq_getElem this)]; exact List.getElem?_eq_getElem this⟩
 have gold:∀ (L:Nat) (b:EB),H[L]? = some b→covBk ρ Hc.length (some (g (ρ.getD L 0))) b:=fun L b hb=>by
  have hL:L<H.length:=(List.getElem?_eq_some_iff.1 hb).1
  have hlt2:=hlt _ (old L hL).2.1
  rw [hg _ (by rw [hρ']; exact List.mem_append.2 (.inl (old L hL).2.1)),hf_get (List.getElem?_eq_getElem hlt2),← List.getElem?_eq_getElem hlt2]
  rcases covL_at H 0 hcov L b hb with h | ⟨_,h | ⟨_,h⟩⟩
  ·have:=hlive L b hb
   rw [h] at this; cases this
  ·rwa [Nat.zero_add,(old L hL).2.2] at h
  ·rw [Nat.zero_add,(old L hL).2.2] at h
   omega
 have gnew:∀ L,Hc.length≤L→L<Hc.length+(H'.length-H.length)→g L = .n:=fun L h1 h2=>by
  rw [hg L (by rw [hρ']; exact List.mem_append.2 (.inr (List.mem_range'_1.2 ⟨h1,by omega⟩)))]
  unfold hf
  rw [List.getD_eq_getElem?_getD,List.getElem?_eq_none h1]
  rfl
 have glive:∀ L,L<H.length→(g (ρ.getD L 0)).live=true:=fun L hL=>by
  have h1:=gold L _ (List.getElem?_eq_getElem hL)
  have h2:=hlive L _ (List.getElem?_eq_getElem hL)
  cases hb:H[L] with
  | r t row =>
   rw [hb] at h1
   obtain ⟨row',h3,_⟩:=h1
   cases h4:g (ρ.getD L 0) <;> rw [h4] at h3 <;> cases h3
   rfl
  | rv t rows =>
   rw [hb] at h1
   obtain ⟨rows',h3,_⟩:=h1
   cases h4:g (ρ.getD L 0) <;> rw [h4] at h3 <;> cases h3
   rfl
  | _ =>
   rw [hb] at h1 h2
   have h3:=Option.some.inj h1
   rw [h3,renB_live]
   exact h2
 obtain ⟨Bc,hBc⟩:∃ Bc:Bm,Bc=fun L=>if L<H.length then B (ρ.getD L 0) else none:=⟨_,rfl⟩
 have hBcB:∀ L,L<H.length→Bc L=B (ρ.getD L 0):=fun L hL=>by rw [hBc]; simp [hL]
 have hBcn:∀ L,H.length≤L→Bc L=none:=fun L hL=>by rw [hBc]; simp; omega
 obtain ⟨S1,hS1⟩:∃ S1:List Nat,S1=ρ.filterMap fun L=>(B L).map (·.b):=⟨_,rfl⟩
 have hS1in:∀ b,b∈S1→∃ i q,i<H.length∧B (ρ.getD i 0)=some q∧q.b=b:=fun b hb=>by
  rw [hS1] at hb
  obtain ⟨L,hL,he⟩:=List.mem_filterMap.1 hb
  obtain ⟨q,hq,rfl⟩:=Option.map_eq_some_iff.1 he
  obtain ⟨i,hi,rfl⟩:=List.getElem_of_mem hL
  refine ⟨i,q,by omega,?_,rfl⟩
  rw [List.getD_eq_getElem?_getD,List.getElem?_eq_getElem hi]
  exact hq
 have hS1own:∀ b,b∈S1→b∈S0∨w0.heap.size≤b:=fun b hb=>by
  obtain ⟨i,q,hi,hq,rfl⟩:=hS1in b hb
  exact hw.own _ q (glive i hi) hq
 have hre:∀ x u,wfE H.length x=true→ER B (ren ρ Hc.length x) u→ER Bc x u:=fun x u hwf he=>he.ren' (n:=H.length) (fun L q hL hq=>by
  rw [(old L hL).2.2] at hq
  rw [hBcB L hL]
  exact hq) x rfl hwf
 have hcv':∀ x y u,wfE H.length x=true→covC ρ Hc.length y x→ER B y u→ER Bc x u:=fun x y u hwf hc he=>by
  rcases hc with rfl | ⟨rfl,L,i,z,rfl⟩ | hc
  ·exact hre x u hwf he
  ·rw [he.v_inv]; exact .e _
  ·exact covD.gen (W:=fun x=>wfE H.length x=true) hre (fun xs h x hx=>wfEs_mem (by unfold wfE at h; exact h) x hx) (fun xs h x hx=>wfEs_mem (by unfold wfE at h; exact h) x hx) x y u hwf hc he
 have hpl:∀ L t rows,hf H L = .rs t rows→plainR rows:=fun L t rows he=>by
  obtain ⟨hL,hb⟩:=hgetH L (by rw [he]; rfl)
  rw [he] at hb
  exact hw.pl (ρ.getD L 0) t rows (Option.some.inj (gold L _ hb))
 have hwdc:Wd P G S1 w Bc (hf H) w:=by
  refine ⟨Touch.refl _ _,fun L t rows hv => ?_,fun L xo hv => ?_,fun L hv => ?_,hpl,fun L1 L2 q1 q2 h1 h2 e1 e2 e => ?_,fun L q hlv hq => ?_,fun gg tt cs hgg => ?_⟩
  ·obtain ⟨hL,hb⟩:=hgetH L (EB.live_vec hv)
   have hwb:=(List.all_eq_true.1 hwH) _ (List.mem_of_getElem? hb)
   have hcv:=gold L _ hb
   have gen:g (ρ.getD L 0)=renB ρ Hc.length (hf H L)→(∀ row,row∈rows→∀ x,x∈row→wfE H.length x=true)→RwOk P Bc w L t rows:=fun he hwf=>by
    rcases hw.row (ρ.getD L 0) t (rows.map (rens ρ Hc.length)) (by rw [he]; exact renB_vec (hpl L) hv) with ⟨q,hq,hr⟩ | ⟨h1,h2⟩
    ·exact .inl ⟨q,by rw [hBcB L hL]; exact hq,hr.unname' fun row hm x hx u he=>hre x u (hwf row hm x hx) he⟩
    ·exact .inr ⟨by simpa using h1,by rw [hBcB L hL]; exact h2⟩
   cases hcase:hf H L with
   | r t' row =>
    rw [hcase] at hwb hv hcv
    obtain ⟨row',h1,h2⟩:=hcv
    cases hv
    obtain ⟨hlen,hcell⟩:=covR.spec _ _ h2
    rcases hw.row (ρ.getD L 0) t [row'] (by rw [Option.some.inj h1]; rfl) with ⟨q,hq,hr⟩ | ⟨h1,_⟩
    ·refine .inl ⟨q,by rw [hBcB L hL]; exact hq,hr.imp rfl fun i r hi => ?_⟩
     match i,hi with
     | 0,hi =>
      cases hi
      refine ⟨row',rfl,hlen,fun f x hx => ?_⟩
      obtain ⟨y,hy,hc⟩:=hcell f x hx
      exact ⟨y,hy,fun u hu=>hcv' x y u (wfEs_mem hwb x (List.mem_of_getElem? hx)) hc hu⟩
     | i+1,hi=>simp at hi
    ·cases h1
   | rs t' rows' =>
    rw [hcase] at hcv
    refine gen (by rw [hcase]; exact Option.some.inj hcv) fun row hm x hx => ?_
    rw [hcase] at hv
    cases hv
    obtain ⟨u',rfl⟩:=hpl L _ _ hcase row hm x hx
    rfl
   | rv t' rows' =>
    rw [hcase] at hwb hv hcv
    obtain ⟨rows2,h1,h2⟩:=hcv
    cases hv
    obtain ⟨hlen,hcell⟩:=covRs.spec _ _ h2
    rcases hw.row (ρ.getD L 0) t rows2 (by rw [Option.some.inj h1]; rfl) with ⟨q,hq,hr⟩ | ⟨h3,h4⟩
    ·refine .inl ⟨q,by rw [hBcB L hL]; exact hq,hr.imp hlen.symm fun i r hi => ?_⟩
     obtain ⟨row',k1,k2⟩:=hcell i r hi
     obtain ⟨k3,k4⟩:=covR.spec _ _ k2
     refine ⟨row',k1,k3,fun f x hx => ?_⟩
     obtain ⟨y,hy,hc⟩:=k4 f x hx
     exact ⟨y,hy,fun u hu=>hcv' x y u (wfEs_mem ((List.all_eq_true.1 hwb) r (List.mem_of_getElem? hi)) x (List.mem_of_getElem? hx)) hc hu⟩
    ·exact .inr ⟨List.eq_nil_of_length_eq_zero (by rw [← hlen,h3]; rfl),by rw [hBcB L hL]; exact h4⟩
   | _=>rw [hcase] at hv; cases hv
  ·obtain ⟨hL,hb⟩:=hgetH L (by rw [hv]; rfl)
   rw [hv] at hb
   have hgm:some (g (ρ.getD L 0))=some (.o (renO ρ Hc.length xo)):=gold L _ hb
   obtain ⟨q,hq,hm0⟩:=hw.mp (ρ.getD L 0) (renO ρ Hc.length xo) (Option.some.inj hgm)
   have hwb:=(List.all_eq_true.1 hwH) _ (List.mem_of_getElem? hb)
   refine ⟨q,by rw [hBcB L hL]; exact hq,?_⟩
   cases xo with
   | it s pos=>exact hm0
   | mq ck es=>exact hm0.pl
   | ag t n p=>exact hm0
   | mp ck es =>
    obtain ⟨en,m1,m2,m3⟩:=hm0
    refine ⟨en,m1,by simpa using m2,fun i k n x hi => ?_⟩
    obtain ⟨y,a1,a2,a4,a3⟩:=m3 i k n (ren ρ Hc.length x) (by rw [List.getElem?_map,hi]; rfl)
    exact ⟨y,a1,a2,a4,hre x _ ((List.all_eq_true.1 hwb) (k,n,x) (List.mem_of_getElem? hi)) a3⟩
  ·refine hBcn L ?_
   apply Classical.byContradiction
   intro hn
   have hL:L<H.length:=by omega
   have hb:H[L]? = some H[L]:=List.getElem?_eq_getElem hL
   have:=hlive L _ hb
   rw [← hf_get hb,hv] at this
   cases this
  ·obtain ⟨hL1,_⟩:=hgetH L1 h1
   obtain ⟨hL2,_⟩:=hgetH L2 h2
   rw [hBcB L1 hL1] at e1
   rw [hBcB L2 hL2] at e2
   exact injρ L1 L2 hL1 hL2 (hw.inj _ _ q1 q2 (glive L1 hL1) (glive L2 hL2) e1 e2 e)
  ·obtain ⟨hL,_⟩:=hgetH L hlv
   rw [hBcB L hL] at hq
   refine .inl ?_
   rw [hS1]
   exact List.mem_filterMap.2 ⟨ρ.getD L 0,(old L hL).2.1,by rw [hq]; rfl⟩
  ·obtain ⟨h1,h2⟩:=hw.gl gg tt cs hgg
   refine ⟨h1.touch hw.t h2,fun hm => ?_⟩
   have:=h1.lt
   rcases hS1own gg hm with h | h
   ·exact h2 h
   ·omega
 have hargs':ERs Bc args qa:=by
  obtain ⟨hlen,hcell⟩:=covR.spec _ _ hargs
  refine ⟨hlen.symm.trans has.1,fun i x u hx hu => ?_⟩
  obtain ⟨y,hy,hc⟩:=hcell i x hx
  exact hcv' x y u (wfEs_mem hwa x (List.mem_of_getElem? hx)) hc (has.2 i y u hy hu)
 refine (t.2 S1 w Bc w qa hargs' hwdc).mono fun e w1 he => ?_
 obtain ⟨B1,v,rfl,hle1,hv1,hwd1⟩:=he
 have hB1n:∀ L,H'.length≤L→B1 L=none:=fun L hL=>hwd1.n L (by simp [hf,List.getD_eq_getElem?_getD,List.getElem?_eq_none hL])
 classical
 obtain ⟨B2,hB2⟩:∃ B2:Bm,B2=fun L=>if h:∃ i,i<H'.length∧ρ'.getD i d=L then B1 (Classical.choose h) else B L:=⟨_,rfl⟩
 have b2in:∀ i,i<H'.length→B2 (ρ'.getD i d)=B1 i:=fun i hi=>by
  have hex:∃ j,j<H'.length∧ρ'.getD j d=ρ'.getD i d:=⟨i,hi,rfl⟩
  rw [hB2]
  simp only
  rw [dif_pos hex]
  have:=Classical.choose_spec hex
  rw [inj' _ _ this.1 hi this.2]
 have b2out:∀ L,L ∉ ρ'→B2 L=B L:=fun L hL=>by
  rw [hB2]
  simp only
  rw [dif_neg]
  rintro ⟨i,hi,rfl⟩
  exact hL (inρ i hi)
 have hle2:B.le B2:=fun L q hq=>by
  by_cases hL:L∈ρ'
  ·obtain ⟨i,hi,rfl⟩:=ofρ L hL
   rw [b2in i hi]
   by_cases h1:i<H.length
   ·rw [(old i h1).1,← hBcB i h1] at hq
    exact hle1 i q hq
   ·rw [new i (by omega) hi,hw.n _ (gnew _ (by omega) (by omega))] at hq
    cases hq
  ·rw [b2out L hL]; exact hq
 have hB12:∀ L q,B1 L=some q→B2 (ρ'.getD L d)=some q:=fun L q hq=>by
  have hL:L<H'.length:=by
   apply Classical.byContradiction
   intro hn
   rw [hB1n L (by omega)] at hq
   cases hq
  rw [b2in L hL]; exact hq
 refine ⟨B2,v,rfl,hle2,hv1.name hB12,?_⟩
 have h2in:∀ i,i<H'.length→(fun L=>if L∈ρ' then hf Hc' L else g L) (ρ'.getD i d)=renB ρ' d (hf H' i):=fun i hi=>by
  show (if ρ'.getD i d∈ρ' then _ else _)=_
  rw [if_pos (inρ i hi),at_ i _ (List.getElem?_eq_getElem hi),hf_get (List.getElem?_eq_getElem hi)]
 have h2out:∀ L,L ∉ ρ'→(fun L=>if L∈ρ' then hf Hc' L else g L) L=g L:=fun L hL=>if_neg hL
 generalize (fun L=>if L∈ρ' then hf Hc' L else g L)=h2 at h2in h2out
 have far:∀ L q,L ∉ ρ'→(g L).live=true→B L=some q→q.b ∉ S1∧q.b<w.heap.size:=fun L q hL hlv hq=>by
  refine ⟨fun hm => ?_,hw.live hlv hq⟩
  obtain ⟨i,q2,hi,hq2,he⟩:=hS1in _ hm
  have:=hw.inj (ρ.getD i 0) L q2 q (glive i hi) hlv hq2 hq he
  exact hL (by rw [← this,hρ']; exact List.mem_append.2 (.inl (old i hi).2.1))
 have own1:∀ i q,(hf H' i).live=true→B1 i=some q→q.b∈S1∨w.heap.size≤q.b:=hwd1.own
 refine ⟨hw.t.growS hwd1.t hS1own,fun L t rows hv => ?_,fun L xo hv => ?_,fun L hv => ?_,fun L t rows hv => ?_,fun L1 L2 q1 q2 k1 k2 e1 e2 e => ?_,fun L q hlv hq => ?_,hw.gl⟩
 ·by_cases hL:L∈ρ'
  ·obtain ⟨i,hi,rfl⟩:=ofρ L hL
   rw [h2in i hi] at hv
   obtain ⟨rows',hr',rfl⟩:∃ rows',(hf H' i).vec=some (t,rows')∧rows'.map (rens ρ' d)=rows:=by
    cases hb:hf H' i with
    | r t' row=>rw [hb] at hv; cases hv; exact ⟨[row],rfl,rfl⟩
    | rs t' rows'=>rw [hb] at hv; cases hv; exact ⟨rows,rfl,plain_map (hwd1.pl i _ _ hb)⟩
    | rv t' rows'=>rw [hb] at hv; cases hv; exact ⟨rows',rfl,rfl⟩
    | _=>rw [hb] at hv; cases hv
   rcases hwd1.row i t rows' hr' with ⟨q,hq,hr⟩ | ⟨h1,h2⟩
   ·exact .inl ⟨q,hB12 i q hq,hr.name hB12⟩
   ·exact .inr ⟨by rw [h1]; rfl,by rw [b2in i hi]; exact h2⟩
  ·rw [h2out L hL] at hv
   exact ((hw.row L t rows hv).touch hwd1.t fun q hq=>(far L q hL (EB.live_vec hv) hq).1).mono hle2 fun _ hn=>by rw [b2out L hL]; exact hn
 ·by_cases hL:L∈ρ'
  ·obtain ⟨i,hi,rfl⟩:=ofρ L hL
   rw [h2in i hi] at hv
   obtain ⟨es',hr',rfl⟩:∃ es',hf H' i = .o es'∧renO ρ' d es'=xo:=by
    cases hb:hf H' i with
    | o es'=>rw [hb] at hv; cases hv; exact ⟨es',rfl,rfl⟩
    | _=>rw [hb] at hv; cases hv
   obtain ⟨q,hq,hr⟩:=hwd1.mp i es' hr'
   exact ⟨q,hB12 i q hq,hr.name hB12⟩
  ·rw [h2out L hL] at hv
   obtain ⟨q,hq,hr⟩:=hw.mp L xo hv
   exact ⟨q,hle2 L q hq,(hr.touch hwd1.t (far L q hL (by rw [hv]; rfl) hq).1).mono hle2⟩
 ·by_cases hL:L∈ρ'
  ·obtain ⟨i,hi,rfl⟩:=ofρ L hL
   rw [h2in i hi] at hv
   rw [b2in i hi]
   refine hwd1.n i ?_
   cases hb:hf H' i with
   | n=>rfl
   | _=>rw [hb] at hv; cases hv
  ·rw [h2out L hL] at hv
   rw [b2out L hL]
   exact hw.n L hv
 ·by_cases hL:L∈ρ'
  ·obtain ⟨i,hi,rfl⟩:=ofρ L hL
   rw [h2in i hi] at hv
   cases hb:hf H' i with
   | rs t' rows'=>rw [hb] at hv; cases hv; exact hwd1.pl i _ _ hb
   | _=>rw [hb] at hv; cases hv
  ·rw [h2out L hL] at hv
   exact hw.pl L t rows hv
 ·have mixed:∀ L1 L2 q1 q2,L1∈ρ'→L2 ∉ ρ'→(h2 L1).live=true→(h2 L2).live=true→B2 L1=some q1→B2 L2=some q2→q1.b=q2.b→False:=fun L1 L2 q1 q2 i1 i2 k1 k2 e1 e2 e=>by
   obtain ⟨i,hi,rfl⟩:=ofρ L1 i1
   rw [h2in i hi,renB_live] at k1
   rw [h2out L2 i2] at k2
   rw [b2in i hi] at e1
   rw [b2out L2 i2] at e2
   obtain ⟨f1,f2⟩:=far L2 q2 i2 k2 e2
   rcases own1 i q1 k1 e1 with h | h
   ·exact f1 (e ▸ h)
   ·omega
  by_cases i1:L1∈ρ'
  ·by_cases i2:L2∈ρ'
   ·obtain ⟨i,hi,rfl⟩:=ofρ L1 i1
    obtain ⟨j,hj,rfl⟩:=ofρ L2 i2
    rw [h2in i hi,renB_live] at k1
    rw [h2in j hj,renB_live] at k2
    rw [b2in i hi] at e1
    rw [b2in j hj] at e2
    rw [hwd1.inj i j q1 q2 k1 k2 e1 e2 e]
   ·exact (mixed L1 L2 q1 q2 i1 i2 k1 k2 e1 e2 e).elim
  ·by_cases i2:L2∈ρ'
   ·exact (mixed L2 L1 q2 q1 i2 i1 k2 k1 e2 e1 e.symm).elim
   ·rw [h2out L1 i1] at k1
    rw [h2out L2 i2] at k2
    rw [b2out L1 i1] at e1
    rw [b2out L2 i2] at e2
    exact hw.inj L1 L2 q1 q2 k1 k2 e1 e2 e
 ·by_cases hL:L∈ρ'
  ·obtain ⟨i,hi,rfl⟩:=ofρ L hL
   rw [h2in i hi,renB_live] at hlv
   rw [b2in i hi] at hq
   rcases own1 i q hlv hq with h | h
   ·exact hS1own _ h
   ·exact .inr (Nat.le_trans hw.t.size h)
  ·rw [h2out L hL] at hlv
   rw [b2out L hL] at hq
   exact hw.own L q hlv hq
theorem CallE.ph {f:FuncId} {args:List EV} {Hc:List EB} {K:KE} (t:TypeId) (h:CallE P G f args (Hc++[.rs t []]) fun r H' F W=>K r H' (Hc.length::F) (Hc.length::W)):CallE P G f args Hc K:=by
 obtain ⟨r,H',F,W,hK,⟨h1,h2⟩,h3⟩:=h.h
 have key:∀ (g:EH) (L:Nat),(if L∈W then hf H' L else updH g Hc.length (.rs t []) L)=if L∈Hc.length::W then hf H' L else g L:=fun g L=>by
  by_cases hW:L∈W
  ·simp [hW]
  ·by_cases e:L=Hc.length
   ·subst e
    rw [if_neg hW,if_pos (by simp)]
    have:=congrFun h3 Hc.length
    rw [if_neg hW,hf_app] at this
    rw [this]
    simp [updH]
   ·rw [if_neg hW,if_neg (by simp [hW,e])]
    unfold updH
    rw [if_neg e]
 refine ⟨⟨r,H',Hc.length::F,Hc.length::W,hK,⟨h1,fun S0 w0 B w g qa has hw hg => ?_⟩,funext fun L => ?_⟩⟩
 ·have hgn:g Hc.length = .n:=(hg Hc.length (by simp)).trans (hf_n Hc)
  have:=h2 S0 w0 B w (updH g Hc.length (.rs t [])) qa has (hw.none_ hgn (.rs t []) (t:=t) (.inl rfl)) (fun L hL=>by
   rw [hf_app]
   unfold updH
   by_cases e:L=Hc.length
   ·simp [e]
   ·rw [if_neg e,if_neg e]
    exact hg L (by simp [hL]))
  refine this.mono fun e w' he => ?_
  obtain ⟨B',v,rfl,hle,hv,hwd⟩:=he
  exact ⟨B',v,rfl,hle,hv,hwd.cast (funext fun L=>key g L)⟩
 ·have:=congrFun h3 L
  rw [hf_app] at this
  exact this.trans (key (hf Hc) L)
end
section
variable {P:Program} {G:Gl}
theorem dE {ρ:List Nat} {d:Nat} {x y:EV} (h:y=ren ρ d x):covD ρ d x y:=by
 subst h
 cases x <;> (unfold covD ren; first | exact .inl rfl | rfl)
theorem dS {ρ:List Nat} {d L i:Nat} {z:Bool}:covD ρ d (.s L i 0 z) (.v (.slice none 0 0)):=by unfold covD; exact .inr ⟨rfl,rfl⟩
theorem dT {ρ:List Nat} {d:Nat} {xs ys:List EV} (h:covDs ρ d xs ys):covD ρ d (.t xs) (.t ys):=by unfold covD; exact .inr ⟨_,rfl,h⟩
theorem dA {ρ:List Nat} {d:Nat} {xs ys:List EV} (h:covDs ρ d xs ys):covD ρ d (.a xs) (.a ys):=by unfold covD; exact .inr ⟨_,rfl,h⟩
theorem dN {ρ:List Nat} {d:Nat}:covDs ρ d [] []:=by unfold covDs; rfl
theorem dC {ρ:List Nat} {d:Nat} {x y:EV} {xs ys:List EV} (h:covD ρ d x y) (k:covDs ρ d xs ys):covDs ρ d (x::xs) (y::ys):=by unfold covDs; exact ⟨_,_,rfl,h,k⟩
theorem dCt {ρ:List Nat} {d:Nat} {xs ys:List EV} (h:covDs ρ d xs ys):covC ρ d (.t ys) (.t xs) := .inr (.inr (dT h))
theorem dCa {ρ:List Nat} {d:Nat} {xs ys:List EV} (h:covDs ρ d xs ys):covC ρ d (.a ys) (.a xs) := .inr (.inr (dA h))
theorem cov_pl {ρ:List Nat} {d:Nat} {l:List EV} (h:l.all EV.isV=true):covR ρ d l l:=by
 induction l with
 | nil=>exact True.intro
 | cons x l ih =>
  obtain ⟨h1,h2⟩:=Bool.and_eq_true_iff.1 h
  obtain ⟨u,rfl⟩:=isV_of h1
  exact ⟨.inl rfl,ih h2⟩
theorem cl {f:FuncId} {args args':List EV} {H H' Hc:List EB} {r:EV} {K:KE} (t:Tri P G f args H r H') (ρ:List Nat) (hk:postK ρ Hc r H' K)
  (hargs:covR ρ Hc.length args' args:=by repeat' (first | exact True.intro | exact Or.inl rfl | exact Or.inr (Or.inl (And.intro rfl ⟨_,_,_,rfl⟩)) | exact Or.inr (And.intro rfl (Nat.le_of_ble_eq_true rfl)) | refine And.intro ?_ ?_ | refine dCt ?_ | refine dCa ?_ | refine dC ?_ ?_ | exact dN | exact dE rfl | exact dS | refine dT ?_ | refine dA ?_))
  (hcov:covL ρ Hc.length Hc 0 H:=by repeat' (first | exact True.intro | exact Or.inl rfl | exact Or.inr (Or.inl (And.intro rfl ⟨_,_,_,rfl⟩)) | exact Or.inr (And.intro rfl (Nat.le_of_ble_eq_true rfl)) | exact rfl | refine Exists.intro _ (And.intro rfl ?_) | refine And.intro ?_ ?_ | refine dCt ?_ | refine dCa ?_ | refine dC ?_ ?_ | exact dN | exact dE rfl | exact dS | refine dT ?_ | refine dA ?_))
  (hck:(Nat.beq ρ.length H.length&&H.all EB.live&&Nat.ble H.length H'.length&&(ρ.all fun L=>Nat.blt L Hc.length)&&(wfEs H.length args&&H.all (wfB H.length)))=true:=by rfl) (hnd:ρ.Nodup:=by decide):CallE P G f args' Hc K:=call_of t ρ hargs hcov hck hnd hk
theorem rens_pl {ρ:List Nat} {d:Nat} {l:List EV} (h:l.all EV.isV=true):rens ρ d l=l:=by
 induction l with
 | nil=>rfl
 | cons x l ih =>
  obtain ⟨h1,h2⟩:=Bool.and_eq_true_iff.1 h
  obtain ⟨u,rfl⟩:=isV_of h1
  show _::rens ρ d l=_
  rw [ih h2]
  rfl
theorem wfEs_pl {n:Nat} {l:List EV} (h:l.all EV.isV=true):wfEs n l=true:=by
 induction l with
 | nil=>rfl
 | cons x l ih =>
  obtain ⟨h1,h2⟩:=Bool.and_eq_true_iff.1 h
  obtain ⟨u,rfl⟩:=isV_of h1
  exact Bool.and_eq_true_iff.2 ⟨rfl,ih h2⟩
theorem clX {f:FuncId} {args args':List EV} {H H' Hc:List EB} {r:EV} {K:KE} (t:Tri P G f args H r H') (ρ:List Nat) (r2:EV) (H2:List EB) (hk:K r2 H2 (ρ++List.range' Hc.length (H'.length-ρ.length)) (ρ++List.range' Hc.length (H'.length-ρ.length)))
  (hr:ren (ρ++List.range' Hc.length (H'.length-ρ.length)) (Hc.length+(H'.length-ρ.length)) r=r2) (hH:putsL (ρ++List.range' Hc.length (H'.length-ρ.length)) (Hc.length+(H'.length-ρ.length)) ρ H' Hc=H2)
  (hargs:covR ρ Hc.length args' args) (hcov:covL ρ Hc.length Hc 0 H)
  (hck:(Nat.beq ρ.length H.length&&H.all EB.live&&Nat.ble H.length H'.length&&(ρ.all fun L=>Nat.blt L Hc.length)&&(wfEs H.length args&&H.all (wfB H.length)))=true) (hnd:ρ.Nodup:=by decide):CallE P G f args' Hc K:=by
 refine call_of t ρ hargs hcov hck hnd ?_
 unfold postK
 simp only
 rw [renK_eq,putsK_eq,hr,hH]
 exact hk
theorem cv {n0:Nat} {T:TL} {H:List EB} {I:TL×List EB} (ρ:List Nat)
  (h4:covT ρ H.length T I.1:=by repeat' (first | exact True.intro | exact Or.inl rfl | exact Or.inr (Or.inl (And.intro rfl ⟨_,_,_,rfl⟩)) | exact Or.inr (And.intro rfl (Nat.le_of_ble_eq_true rfl)) | refine And.intro ?_ ?_ | refine dCt ?_ | refine dCa ?_ | refine dC ?_ ?_ | exact dN | exact dE rfl | exact dS | refine dT ?_ | refine dA ?_))
  (h5:covL ρ H.length H 0 I.2:=by repeat' (first | exact True.intro | exact Or.inl rfl | exact Or.inr (Or.inl (And.intro rfl ⟨_,_,_,rfl⟩)) | exact Or.inr (And.intro rfl (Nat.le_of_ble_eq_true rfl)) | exact rfl | refine Exists.intro _ (And.intro rfl ?_) | refine And.intro ?_ ?_ | refine dCt ?_ | refine dCa ?_ | refine dC ?_ ?_ | exact dN | exact dE rfl | exact dS | refine dT ?_ | refine dA ?_))
  (h1:((List.range n0).all fun L=>ρ[L]? == some L)=true:=by rfl) (h2:ρ.length=I.2.length:=by rfl) (h3:ndL ρ I.2=true:=by rfl):Cov n0 T H I:=⟨⟨H,.refl H,ρ,h1,h2,h3,h4,h5⟩⟩
theorem Shr.trans {H H2 H3:List EB} (h:Shr H H2):Shr H2 H3→Shr H H3:=by
 induction h with
 | refl=>exact id
 | cut L t rows r' h _ ih=>exact fun k => .cut L t rows r' h (ih k)
 | toq L ck h _ ih=>exact fun k => .toq L ck h (ih k)
 | tov L t rows h _ ih=>exact fun k => .tov L t rows h (ih k)
theorem cvS {n0:Nat} {T:TL} {H H2:List EB} {I:TL×List EB} (hs:Shr H H2) (hc:Cov n0 T H2 I):Cov n0 T H I:=by
 obtain ⟨H3,h1,h2⟩:=hc.h
 exact ⟨⟨H3,hs.trans h1,h2⟩⟩
section
variable {n0:Nat} {T:TL} {H:List EB} {body:TL→List EB→KC→(Nat→KC)→KC→Prop} {kx:Nat→KC} {kr:KC}
theorem lp1 {X:Type} (I:X→TL×List EB) (p:X→Prop) (m:X→Nat) (x0:X) (h0:p x0) (hc:Cov n0 T H (I x0)) (h:∀ x,p x→body (I x).1 (I x).2 (fun T' H'=>∃ x',(p x'∧m x'<m x)∧Cov n0 T' H' (I x')) kx kr) :
  (∃ n,unrC body kx kr n T H)∨∃ (X:Type) (I:X→TL×List EB) (p:X→Prop) (m:X→Nat) (x0:X),(p x0∧Cov n0 T H (I x0))∧∀ x,p x→body (I x).1 (I x).2 (fun T' H'=>∃ x',(p x'∧m x'<m x)∧Cov n0 T' H' (I x')) kx kr := .inr ⟨X,I,p,m,x0,⟨h0,hc⟩,h⟩
theorem lu (n:Nat) {Z:Prop} (h:unrC body kx kr n T H):(∃ n,unrC body kx kr n T H)∨Z := .inl ⟨n,h⟩
theorem lp2 {A B:Type} (I:A→B→TL×List EB) (p:A→B→Prop) (m:A→B→Nat) (a0:A) (b0:B) (h0:p a0 b0) (hc:Cov n0 T H (I a0 b0)) (h:∀ a b,p a b→body (I a b).1 (I a b).2 (fun T' H'=>∃ x':A×B,(p x'.1 x'.2∧m x'.1 x'.2<m a b)∧Cov n0 T' H' (I x'.1 x'.2)) kx kr) :
  (∃ n,unrC body kx kr n T H)∨∃ (X:Type) (I:X→TL×List EB) (p:X→Prop) (m:X→Nat) (x0:X),(p x0∧Cov n0 T H (I x0))∧∀ x,p x→body (I x).1 (I x).2 (fun T' H'=>∃ x',(p x'∧m x'<m x)∧Cov n0 T' H' (I x')) kx kr :=
 .inr ⟨A×B,fun x=>I x.1 x.2,fun x=>p x.1 x.2,fun x=>m x.1 x.2,(a0,b0),⟨h0,hc⟩,fun x hp=>h x.1 x.2 hp⟩
end
end
theorem fn {f:FuncId} {F:Func} {c:Code} {args:List EV} {H H':List EB} {r:EV} {G:Gl} (hfn:Tryz.prog.funcs[f]? = some F)
  (h:goC Tryz.prog G H.length c (argT 0 args) H (fun T H1=>retK Tryz.prog T H1 F.results.toList fun x=>Cov H.length [(0,x)] H1 ([(0,r)],H')) (fun _ _ _=>False) (fun T H1=>retK Tryz.prog T H1 F.results.toList fun x=>Cov H.length [(0,x)] H1 ([(0,r)],H')))
  (hb:F.body=some c:=by rfl) (hname:(F.name == "runtime.NumGoroutine")=false:=by kernel_rfl) (hN:(codeOk F.ntmps c&&Nat.ble args.length F.ntmps)=true:=by kernel_rfl) (hm:Tryz.prog.follows .mixedOrders=true:=by kernel_rfl):Tri Tryz.prog G f args H r H':=Tri.of hm hfn hname hb hN h
section
variable {P:Program} {G:Gl} {ops:Array Oper} {Q:Exit→Act→World→Prop} {K K':Act→World→Prop} {l0 n:Nat}
def noDefer (o:Oper):Bool:=match o.op with | .defer _=>false | _=>true
theorem noDefer_spec {o:Oper} (h:noDefer o=true):∀ c,o.op ≠ .defer c:=fun c e=>by unfold noDefer at h; rw [e] at h; cases h
theorem op_round {o:Oper} {a:Act} {w:World} (hd:noDefer o=true) (hQ:¬ LetsOut Q) (h:o.wp P a w K Q∨(o.asks P a w∧LetsOut Q)) (hK:∀ a w,K a w→K' a w):o.wpIn (Fence.wide.inRound l0) n P a w K' Q:=by
 rcases h with h | ⟨_,h⟩
 rotate_left
 ·exact (hQ h).elim
 refine ⟨fun _ _=>trivial,?_⟩
 show o.uponIn _ n P a K' Q ((o.semAt (some l0) a.eval).run P w)
 rw [Oper.semAt_some _ _ _ (noDefer_spec hd)]
 unfold Oper.wp at h
 generalize (execOp a.eval o).run P w=r at *
 cases r with
 | ok x w' =>
  cases x <;> simp only [Oper.upon] at h <;> simp only [Oper.uponIn]
  case value=>exact hK _ _ h
  case skip=>exact hK _ _ h
  case defer=>exact hK _ _ h
  case enter=>exact ⟨(fun e=>by cases e),CallsIn.inRound l0 ((callsIn_wide (n:=n-1)).2 (h.mono fun e w'' he=>(by cases e <;> first | exact hK _ _ he | exact he)))⟩
  case row=>exact ⟨(fun e=>by cases e),fun c cs _=>by obtain ⟨v,w2,hR,hs⟩:=h c cs; exact ⟨v,w2,hK _ _ hR,stepsIn_wide.2 hs⟩⟩
 | halt x w'=>cases x <;> simp only [Oper.upon] at h <;> simp only [Oper.uponIn] <;> exact h
theorem opI_round {i:Nat} {a:Act} {w:World} (hd:∀ o∈ops.toList,noDefer o=true) (hQ:¬ LetsOut Q) (h:wpOp P ops Q i K a w) (hK:∀ a w,K a w→K' a w):wpOpIn (Fence.wide.inRound l0) n P ops Q i K' a w:=by
 unfold wpOp at h
 unfold wpOpIn
 split at h
 ·rename_i ho; rw [ho]; exact hK _ _ h
 ·rename_i o ho
  rw [ho]
  simp only
  split at h
  ·rename_i hw; rw [if_pos hw]; exact op_round (hd o (by have:=Array.mem_of_getElem? ho; simpa using this)) hQ h hK
  ·rename_i hw; rw [if_neg hw]; exact ⟨fun _ _=>trivial,hK _ _ h⟩
theorem any_round (hd:∀ o∈ops.toList,noDefer o=true) (hQ:¬ LetsOut Q):∀ (fuel:Nat) (listed:Array Bool) (a:Act) (w:World),wpAny P .any ops Q fuel listed a w→wpAnyIn (Fence.wide.inRound l0) n P .any ops Q fuel listed a w:=by
 intro fuel
 induction fuel with
 | zero=>intro listed a w h; exact h
 | succ fuel ih=>intro listed a w h; exact ⟨h.1,fun i hi=>opI_round hd hQ (h.2 i hi) fun a w hk=>ih _ _ _ hk⟩
theorem list_round (hQ:¬ LetsOut Q):∀ (l:List Oper),(∀ o∈l,noDefer o=true)→∀ (a:Act) (w:World),wpList P ops Q l a w→wpListIn (Fence.wide.inRound l0) n P ops Q l a w:=by
 intro l
 induction l with
 | nil=>intro _ a w h; exact h
 | cons o l ih =>
  intro hd a w h
  have ih:=ih fun o ho=>hd o (List.mem_cons_of_mem _ ho)
  unfold wpList at h
  unfold wpListIn
  split at h
  ·rename_i hw; rw [if_pos hw]; exact op_round (hd o List.mem_cons_self) hQ h fun a w hk=>ih a w hk
  ·rename_i hw; rw [if_neg hw]; exact ⟨fun _ _=>trivial,ih _ _ h⟩
variable {N n0:Nat} {S0:List Nat} {w0:World} {df:List Deferred} {B B0:Bm} {ss:List Sp}
theorem Run.regionIn {id:Nat} {draw:Bool} {T T':Nat→EV} {h h':EH} {a:Act} {w:World} (hm:P.follows .mixedOrders=true) (hc:draw=true→chkE ops (ss.map fun s=>(s.F,s.W))=true) (hr:Run P G ops N ops.toList T h ss T' h') (hd:∀ o∈ops.toList,noDefer o=true)
  (hf:Fit P G S0 w0 N df B T h a w) (hQ:∀ B' a' w',B.le B'→Fit P G S0 w0 N df B' T' h' a' w'→Q .normal a' w'):(Code.region id ops draw).wpIn (Fence.wide.inRound l0) n P Q a w:=by
 have key:(Code.region id ops draw).wpIn (Fence.wide.inRound l0) n P (fun e a' w'=>e = .normal∧∃ B',B.le B'∧Fit P G S0 w0 N df B' T' h' a' w') a w:=by
  have hL:¬ LetsOut (fun (e:Exit) (a':Act) (w':World)=>e = .normal∧∃ B',B.le B'∧Fit P G S0 w0 N df B' T' h' a' w'):=fun ⟨_,_,h,_⟩=>by cases h
  have hQ':∀ B' a' w',B.le B'→Fit P G S0 w0 N df B' T' h' a' w'→(fun (e:Exit) (a':Act) (w':World)=>e = .normal∧∃ B',B.le B'∧Fit P G S0 w0 N df B' T' h' a' w') .normal a' w':=fun B' a' w' h1 h2=>⟨rfl,B',h1,h2⟩
  cases draw with
  | false=>exact wpIn_region_list (list_round hL _ hd _ _ (hr.list _ _ _ _ _ _ _ _ _ hf hQ'))
  | true =>
   have hrep:∀ i,(Array.replicate ops.size false).getD i false=false:=fun i=>by
    rw [Array.getD_eq_getD_getElem?]
    by_cases hi:i<ops.size
    ·simp [hi]
    ·rw [Array.getElem?_eq_none (by simpa using hi)]
     rfl
   refine wpIn_region_any hm (any_round hd hL _ _ _ _ (hr.any (hc rfl) hQ' ops.size _ a w.drew (by simp) ⟨by simp,fun i hi=>absurd (hi.symm.trans (hrep i)) (by simp),B,Bm.le.refl _,?_⟩))
   have e:∀ {α:Type} (wr:Nat→Nat→Bool) (val:Nat→Nat→α) (f0:Nat→α),lastW wr val f0 (fun k=>(Array.replicate ops.size false).getD k false) ops.size=f0:=fun wr val f0=>funext fun x=>by
    have:∀ n,lastW wr val f0 (fun k=>(Array.replicate ops.size false).getD k false) n x=f0 x:=fun n=>by
     induction n with
     | zero=>rfl
     | succ n ih=>unfold lastW; rw [hrep]; simpa using ih
    exact this _
   rw [e,e]
   exact ⟨⟨hf.wd.t.drew,hf.wd.row,hf.wd.mp,hf.wd.n,hf.wd.pl,hf.wd.inj,hf.wd.own,hf.wd.gl⟩,hf.tm,hf.sz,hf.df⟩
 exact wpIn_mono key fun e a' w' ⟨he,B',h1,h2⟩=>he ▸ hQ B' a' w' h1 h2
def codeRd (N:Nat):Code→Bool
 | .region _ ops _=>ops.toList.all fun o=>o.dst.all (fun d=>Nat.blt d N)&&noDefer o
 | .seq a b=>codeRd N a&&codeRd N b
 | .cond _ a b=>codeRd N a&&codeRd N b
 | .block i a=>Nat.blt i 1000000&&codeRd N a
 | .skip=>true
 | _=>false
theorem goC_soundIn (hm:P.follows .mixedOrders=true):∀ (c:Code) (T:TL) (H:List EB) (kn:KC) (kx:Nat→KC) (kr:KC) (Q:Exit→Act→World→Prop) (a:Act) (w:World),codeRd N c=true→goC P G n0 c T H kn kx kr→FitE P G S0 w0 N df B0 T H a w →
  (∀ T' H' a' w',kn T' H'→FitE P G S0 w0 N df B0 T' H' a' w'→Q .normal a' w')→(∀ i T' H' a' w',kx i T' H'→FitE P G S0 w0 N df B0 T' H' a' w'→Q (exO i) a' w')→c.wpIn (Fence.wide.inRound l0) n P Q a w:=by
 intro c
 induction c with
 | skip=>intro T H kn kx kr Q a w _ h hf hn _; exact wpIn_skip (hn _ _ _ _ h hf)
 | region id ops draw =>
  intro T H kn kx kr Q a w hN h hf hn _
  have hN1:(ops.toList.all fun o=>o.dst.all fun d=>Nat.blt d N)=true:=List.all_eq_true.2 fun o ho=>(Bool.and_eq_true_iff.1 (List.all_eq_true.1 hN o ho)).1
  obtain ⟨ss,T',H',hr,hdk⟩:=goR_sound ops.toList T H [] _ hN1 h
  obtain ⟨hd,hk⟩:=drawK_inv hdk
  obtain ⟨B,hle,hft⟩:=hf
  exact hr.regionIn hm (fun e=>by simpa using hd e) (fun o ho=>(Bool.and_eq_true_iff.1 (List.all_eq_true.1 hN o ho)).2) hft fun B' a' w' hle' hf'=>hn _ _ _ _ hk ⟨B',hle.trans hle',hf'⟩
 | seq a b iha ihb =>
  intro T H kn kx kr Q a w hN h hf hn hx
  obtain ⟨hN1,hN2⟩:=Bool.and_eq_true_iff.1 hN
  exact wpIn_seq (iha _ _ _ _ _ _ _ _ hN1 h hf (fun T' H' a' w' hk hf'=>ihb _ _ _ _ _ _ _ _ hN2 hk hf' hn hx) (fun i T' H' a' w' hk hf'=>exO_then (hx _ _ _ _ _ hk hf')))
 | cond c x y iha ihb =>
  intro T H kn kx kr Q a w hN h hf hn hx
  obtain ⟨hN1,hN2⟩:=Bool.and_eq_true_iff.1 hN
  change evK T c (fun v=>condK v (goC P G n0 x T H kn kx kr) (goC P G n0 y T H kn kx kr)) at h
  rw [evK_eq] at h
  obtain ⟨B,hle,hft⟩:=id hf
  have hev:ER B (ev T c) (a.eval c):=by
   cases c with
   | tmp t=>exact hft.tm t
   | const v=>exact .v v
   | global g=>exact .v _
   | func f=>exact .f rfl (fun i x u hx=>by simp at hx) rfl (fun i x u hx=>by simp at hx)
  unfold condK at h
  split at h
  ·rename_i p hv
   obtain ⟨h1,h2,h3⟩:=h
   rw [hv] at hev
   have hp:p (a.eval c):=by cases hev; assumption
   obtain ⟨b,hb⟩:=h1 _ hp
   rw [hb] at hp
   cases b with
   | true=>exact wpIn_cond_true hb (iha _ _ _ _ _ _ _ _ hN1 (h2 hp) hf hn hx)
   | false=>exact wpIn_cond_false hb (ihb _ _ _ _ _ _ _ _ hN2 (h3 hp) hf hn hx)
  obtain ⟨v,hv,h⟩:=asB_inv h
  rw [hv] at hev
  rcases br_inv h with ⟨rfl,h⟩ | ⟨rfl,h⟩
  ·exact wpIn_cond_true hev.v_inv (iha _ _ _ _ _ _ _ _ hN1 h hf hn hx)
  ·exact wpIn_cond_false hev.v_inv (ihb _ _ _ _ _ _ _ _ hN2 h hf hn hx)
 | block id a iha =>
  intro T H kn kx kr Q a w hN h hf hn hx
  obtain ⟨hN1,hN⟩:=Bool.and_eq_true_iff.1 hN
  have hN1:id<1000000:=Nat.le_of_ble_eq_true hN1
  refine wpIn_block (iha _ _ _ _ _ _ _ _ hN h hf (fun T' H' a' w' hk hf'=>hn _ _ _ _ hk hf') (fun i T' H' a' w' hk hf' => ?_))
  by_cases hi:i<1000000
  ·rw [exO,if_pos hi]
   show if i=id then Q .normal a' w' else Q (.exit i) a' w'
   rcases br_inv hk with ⟨he,hk⟩ | ⟨he,hk⟩
   ·rw [if_pos (Nat.eq_of_beq_eq_true he)]; exact hn _ _ _ _ hk hf'
   ·rw [if_neg (Nat.ne_of_beq_eq_false he)]; have:=hx _ _ _ _ _ hk hf'; rwa [exO,if_pos hi] at this
  ·rcases br_inv hk with ⟨he,hk⟩ | ⟨he,hk⟩
   ·exact absurd (Nat.eq_of_beq_eq_true he) (by omega)
   ·have:=hx _ _ _ _ _ hk hf'
    rw [exO,if_neg hi] at this ⊢
    exact this
 | _=>intro T H kn kx kr Q a w hN; exact absurd hN (by simp [codeRd])
end
end Go.Proofs.YtdhgpocbcccieaaGreatDoor.E
namespace Go.Proofs.YtdhgpocbcccieaaGreatDoor
open Go Go.RowKit Go.Shelf
attribute [local go_sem] Oper.semAt_some
abbrev SIt (n:Nat):={ x:Nat×Bool×Nat // x.1<n }
def sEnc {n:Nat} (x:SIt n):Array Value := #[.int .i64 (x.1.1:Nat),.agg #[.bool x.1.2.1,.int .u64 (x.1.2.2:Nat)]]
def sIt (zs:List (Bool×Nat)) (h:0<zs.length) (j:Nat):SIt zs.length:=⟨(zs.length-1-j,(zs.getD (zs.length-1-j) (false,0)).1,(zs.getD (zs.length-1-j) (false,0)).2),by show zs.length-1-j<_; omega⟩
def sUp (zs:List (Bool×Nat)) (h:0<zs.length) (k:Nat):List (SIt zs.length):=(List.range k).map (sIt zs h)
theorem sUp_succ (zs:List (Bool×Nat)) (h:0<zs.length) (k:Nat):sUp zs h (k+1)=sUp zs h k++[sIt zs h k]:=by simp [sUp,List.range_succ]
theorem sUp_length (zs:List (Bool×Nat)) (h:0<zs.length) (k:Nat):(sUp zs h k).length=k:=by simp [sUp]
def KpB (b1 b2:Nat) (W W':World):Prop:=W'.heap[b1]? = W.heap[b1]? ∧ W'.heap[b2]? = W.heap[b2]?
theorem KpB.trans {b1 b2:Nat} {A B C:World} (h:KpB b1 b2 A B) (k:KpB b1 b2 B C):KpB b1 b2 A C:=⟨k.1.trans h.1,k.2.trans h.2⟩
theorem cell_of_heap {W W':World} {b:Nat} (h:W'.heap[b]? = W.heap[b]?) (o:Nat):W'.cell? ⟨b,o,none⟩=W.cell? ⟨b,o,none⟩:=by
 unfold World.cell?
 rw [h]
theorem back1_in (n l Bs b off cap:Nat) (zs:List (Bool×Nat)) (h0:0<zs.length) (hl:zs.length≤1000000) (J Jx:List (SIt zs.length)→World→Prop)
  (hY:∀ pre x W,J pre W→pre.length<zs.length→YieldAt Fence.wide (n-1) Tryz.prog l (sEnc x) W fun e W' =>
   (e = .returned (.bool true)∧J (pre++[x]) W'∧KpB b Bs W W')∨(e = .returned (.bool false)∧Jx (pre++[x]) W'))
  (W:World) (hBs:W.cell? ⟨Bs,0,none⟩=some (.slice (some ⟨b,off,none⟩) zs.length cap)) (hc:∀ j,j<zs.length→W.rangeAt b (off+j*2) [.bool (zs.getD j (false,0)).1,.int .u64 ((zs.getD j (false,0)).2:Nat)]) (hJ0:J [] W) :
  CallsIn Fence.wide n Tryz.prog 206 #[.func (.yield l) #[] #[],.pointer (some ⟨Bs,0,none⟩)] W fun e W'=>(∃ v,e = .returned v) ∧
   ((∃ ys,ys=sUp zs h0 zs.length∧J ys W')∨(∃ pre,Jx pre W')):=by
 refine callsIn_of_wp Tryz.func206 rfl trivial ?_ rfl
 simp only [Tryz.ntmps206,List.size_toArray,List.length_cons,List.length_nil,Nat.reduceAdd,Nat.reduceSub,Array.replicate_succ,Array.replicate_zero,List.push_toArray,List.append_toArray,List.nil_append,List.cons_append]
 gi_wp2
 gi_loopw [3] (fun i wr=>∃ k:Nat,k≤zs.length∧i = .int .i64 ((zs.length:Int)-1-k)∧J (sUp zs h0 k) wr∧KpB b Bs W wr)
  (fun i _=>(intOf i+1).toNat)
 case atStart=>exact ⟨0,Nat.zero_le _,by simp,hJ0,rfl,rfl⟩
 case round =>
  obtain ⟨k,hk,rfl,hJs,hnx⟩:=hrel
  have hBs':=(cell_of_heap hnx.2 0).trans hBs
  by_cases hlt:k<zs.length
  ·obtain ⟨m,hm⟩:∃ m:Nat,zs.length-1-k=m:=⟨_,rfl⟩
   have hmi:(zs.length:Int)-1-k=(m:Int):=by omega
   rw [hmi]
   have hld0:=(cell_of_heap hnx.1 (off+m*2)).trans (hc m (by omega) 0 _ rfl)
   have hld1:=(cell_of_heap hnx.1 (off+m*2+1)).trans (hc m (by omega) 1 _ rfl)
   obtain ⟨fn,tmps,assign,body,hy,hR⟩:=hY _ (sIt zs h0 k) wr hJs (by rw [sUp_length]; exact hlt)
   simp only [sEnc,sIt,hm] at hy
   obtain ⟨⟨sb,sk⟩,hst⟩:∃ st,zs.getD m (false,0)=st:=⟨_,rfl⟩
   rw [hst] at hld0 hld1 hy
   simp only at hld0 hld1 hy
   have hmlt:m<zs.length:=by omega
   gi_wp2
   refine ⟨(fun h=>by cases h),hR.mono ?_⟩
   rintro e W3 (⟨rfl,hJ3,hk3⟩ | ⟨rfl,hJx3⟩)
   ·gi_wp2
    go_roundw
    case rel=>exact ⟨k+1,by omega,by simp; omega,by rw [sUp_succ]; exact hJ3,hnx.trans hk3⟩
    case measure=>simp [intOf]
   ·gi_wp2
    refine bodyPost_ret (results_none rfl _ _ _) rfl ?_
    exact ⟨⟨_,rfl⟩,.inr ⟨_,hJx3⟩⟩
  ·obtain rfl:k=zs.length:=by omega
   have hmi:(zs.length:Int)-1-(zs.length:Int) = -1:=by omega
   rw [hmi]
   gi_wp2
   go_end0
   exact ⟨⟨_,rfl⟩,.inl ⟨_,rfl,hJs⟩⟩
theorem back0_in (n l Bs:Nat) (cap:Nat) (ad:Option Addr) (J:List (SIt 0)→World→Prop) (W:World) (hBs:W.cell? ⟨Bs,0,none⟩=some (.slice ad 0 cap)) (hJ0:J [] W) :
  CallsIn Fence.wide n Tryz.prog 206 #[.func (.yield l) #[] #[],.pointer (some ⟨Bs,0,none⟩)] W fun e W'=>(∃ v,e = .returned v)∧J [] W':=by
 refine callsIn_of_wp Tryz.func206 rfl trivial ?_ rfl
 simp only [Tryz.ntmps206,List.size_toArray,List.length_cons,List.length_nil,Nat.reduceAdd,Nat.reduceSub,Array.replicate_succ,Array.replicate_zero,List.push_toArray,List.append_toArray,List.nil_append,List.cons_append]
 gi_wp2
 gi_loopw [3] (fun i wr=>i = .int .i64 (-1)∧J [] wr) (fun _ _=>0)
 case atStart=>exact ⟨rfl,hJ0⟩
 case round =>
  obtain ⟨rfl,hJs⟩:=hrel
  gi_wp2
  go_end0
  exact ⟨⟨_,rfl⟩,hJs⟩
def sAll (zs:List (Bool×Nat)):List (SIt zs.length):=if h:0<zs.length then sUp zs h zs.length else []
def SLies (w:World) (zs:List (Bool×Nat)) (ad:Option Addr) (b:Nat):Prop:=0<zs.length→∃ off,ad=some ⟨b,off,none⟩∧b<w.heap.size∧∀ j,j<zs.length→w.rangeAt b (off+j*2) [.bool (zs.getD j (false,0)).1,.int .u64 ((zs.getD j (false,0)).2:Nat)]
theorem back_stops (n Bs b cap:Nat) (ad:Option Addr) (zs:List (Bool×Nat)) (hl:zs.length≤1000000) (w:World) (hB:Bs<w.heap.size) (hBs:w.cell? ⟨Bs,0,none⟩=some (.slice ad zs.length cap)) (hL:SLies w zs ad b) :
  SeqStopsK Fence.wide n Tryz.prog 206 #[.pointer (some ⟨Bs,0,none⟩)] (sEnc (n:=zs.length)) (KpB b Bs) (fun ys=>ys=sAll zs) (fun _=>True) zs.length w:=fun l J Jx W hW _ _ hY h0=>by
 have hc:=(hW.cell (p:=⟨Bs,0,none⟩) hB).trans hBs
 by_cases h:0<zs.length
 ·obtain ⟨off,rfl,hb,hr⟩:=hL h
  refine (back1_in n l Bs b off cap zs h hl J Jx hY W hc (fun j hj i v hv=>(hW.cell (p:=⟨b,off+j*2+i,none⟩) hb).trans (hr j hj i v hv)) h0).mono ?_
  rintro e W' ⟨he,⟨ys,rfl,hj⟩ | ⟨pre,hj⟩⟩
  ·exact ⟨he,.inl ⟨_,by unfold sAll; rw [dif_pos h],hj⟩⟩
  ·exact ⟨he,.inr ⟨_,trivial,hj⟩⟩
 ·obtain rfl:zs=[]:=List.eq_nil_of_length_eq_zero (by omega)
  refine (back0_in n l Bs cap ad J W hc h0).mono ?_
  rintro e W' ⟨he,hj⟩
  exact ⟨he,.inl ⟨[],rfl,hj⟩⟩
end Go.Proofs.YtdhgpocbcccieaaGreatDoor
namespace Go.Proofs.YtdhgpocbcccieaaGreatDoor.E
open Go Go.RowKit
section
variable {P:Program} {G:Gl} {S0 S1:List Nat} {w0 w w':World} {B B':Bm} {h h':EH} {N:Nat} {df:List Deferred}
theorem Wd.rebase (hw:Wd P G S0 w0 B h w) (hS:∀ L q,(h L).live=true→B L=some q→q.b∈S1) (hS2:∀ b∈S1,∃ L q,(h L).live=true∧B L=some q∧q.b=b):Wd P G S1 w B h w :=
 ⟨Touch.refl _ _,hw.row,hw.mp,hw.n,hw.pl,hw.inj,fun L q hl hq => .inl (hS L q hl hq),fun g t cs hg=>by
  obtain ⟨h1,h2⟩:=hw.gl g t cs hg
  refine ⟨h1.touch hw.t h2,fun hm => ?_⟩
  obtain ⟨L,q,hl,hq,rfl⟩:=hS2 g hm
  rcases hw.own L q hl hq with h3 | h3
  ·exact h2 h3
  ·have:=h1.lt; omega⟩
theorem Wd.back (hw0:Wd P G S0 w0 B h w) (hw1:Wd P G S1 w B' h' w') (hS:∀ b∈S1,b∈S0∨w0.heap.size≤b):Wd P G S0 w0 B' h' w' :=
 ⟨hw0.t.growS hw1.t hS,hw1.row,hw1.mp,hw1.n,hw1.pl,hw1.inj,fun L q hl hq=>by
  rcases hw1.own L q hl hq with h3 | h3
  ·exact hS _ h3
  ·exact .inr (Nat.le_trans hw0.t.size h3),hw0.gl⟩
theorem Touch.grownBy {row:Option Nat} (ht:Touch S0 w0 w) (hg:w.grownBy w' row) (hr:∀ r,row=some r→w0.heap.size≤r):Touch S0 w0 w' :=
 ⟨hg.os.trans ht.os,hg.tape.trans ht.tape,hg.output.trans ht.output,Nat.le_trans ht.size hg.size,fun k hk hn=>(hg.block k (Nat.lt_of_lt_of_le hk ht.size) (fun e=>by have:=hr k e.symm; omega)).trans (ht.block k hk hn)⟩
theorem Bf.grownBy {g:Nat} {t:TypeId} {cs:Array Value} {row:Option Nat} (hb:Bf w g t cs) (hg:w.grownBy w' row) (hr:∀ r,row=some r→∃ o:Obj,w.heap[r]? = some o∧o.isCells=false):Bf w' g t cs:=by
 obtain ⟨lo,hi,h1,h2⟩:=hb
 refine ⟨lo,hi,(hg.block g (Array.getElem?_eq_some_iff.1 h1).1 fun e => ?_).trans h1,h2⟩
 obtain ⟨o,ho,hc⟩:=hr g e.symm
 rw [h1] at ho
 cases ho
 cases hc
theorem RowsAt.grownBy {q:BI} {t:TypeId} {rows:List (List EV)} {row:Option Nat} (hb:RowsAt P B w q t rows) (hg:w.grownBy w' row) (hr:∀ r,row=some r→∃ o:Obj,w.heap[r]? = some o∧o.isCells=false):RowsAt P B w' q t rows:=by
 obtain ⟨h1,c,h2,h3⟩:=hb
 exact ⟨h1,c,h2.grownBy hg hr,h3⟩
theorem Wd.grownBy {row:Option Nat} (hw:Wd P G S0 w0 B h w) (ho:∀ L x,h L ≠ .o x) (hg:w.grownBy w' row) (hr:∀ r,row=some r→w0.heap.size≤r∧∃ o:Obj,w.heap[r]? = some o∧o.isCells=false):Wd P G S0 w0 B h w' :=
 ⟨Touch.grownBy hw.t hg fun r e=>(hr r e).1,fun L t rows hv=>(hw.row L t rows hv).imp (fun ⟨q,hq,h1⟩=>⟨q,hq,h1.grownBy hg fun r e=>(hr r e).2⟩) id,fun L x hv=>absurd hv (ho L x),hw.n,hw.pl,hw.inj,hw.own,hw.gl⟩
theorem Wd.add (hw:Wd P G S0 w0 B h w) {L:Nat} {q:BI} (hL:h L = .n) (hf:∀ L' q',(h L').live=true→B L'=some q'→q'.b≠q.b) (ho:q.b∈S0∨w0.heap.size≤q.b) {t:TypeId} {row:List EV} (hr:RowsAt P (B.set L q) w q t [row]):Wd P G S0 w0 (B.set L q) (updH h L (.r t row)) w:=by
 have hle:B.le (B.set L q):=Bm.le_set (hw.n L hL)
 have at_:∀ L',L'≠L→updH h L (.r t row) L'=h L':=fun L' hne=>by unfold updH; rw [if_neg hne]
 have atB:∀ L',L'≠L→B.set L q L'=B L':=fun L' hne=>by unfold Bm.set; rw [if_neg hne]
 have self:updH h L (.r t row) L = .r t row:=by unfold updH; rw [if_pos rfl]
 refine ⟨hw.t,fun L' t' rows hv => ?_,fun L' xo hv => ?_,fun L' hv => ?_,fun L' t' rows hv => ?_,fun L1 L2 q1 q2 h1 h2 e1 e2 e => ?_,fun L' q' hl' hq' => ?_,hw.gl⟩
 ·by_cases e:L'=L
  ·subst e; rw [self] at hv; cases hv; exact .inl ⟨q,Bm.set_self _ _ _,hr⟩
  ·rw [at_ L' e] at hv
   exact (hw.row L' t' rows hv).mono hle fun _ hn=>by rw [atB L' e]; exact hn
 ·by_cases e:L'=L
  ·subst e; rw [self] at hv; cases hv
  ·rw [at_ L' e] at hv
   obtain ⟨q',h1,h2⟩:=hw.mp L' xo hv
   exact ⟨q',hle _ _ h1,h2.mono hle⟩
 ·by_cases e:L'=L
  ·subst e; rw [self] at hv; cases hv
  ·rw [at_ L' e] at hv; rw [atB L' e]; exact hw.n L' hv
 ·by_cases e:L'=L
  ·subst e; rw [self] at hv; cases hv
  ·rw [at_ L' e] at hv; exact hw.pl L' t' rows hv
 ·by_cases i1:L1=L
  ·by_cases i2:L2=L
   ·rw [i1,i2]
   ·exfalso
    subst i1
    rw [Bm.set_self] at e1; cases e1
    rw [at_ L2 i2] at h2; rw [atB L2 i2] at e2
    exact hf L2 q2 h2 e2 e.symm
  ·by_cases i2:L2=L
   ·exfalso
    subst i2
    rw [Bm.set_self] at e2; cases e2
    rw [at_ L1 i1] at h1; rw [atB L1 i1] at e1
    exact hf L1 q1 h1 e1 e
   ·rw [at_ L1 i1] at h1; rw [at_ L2 i2] at h2; rw [atB L1 i1] at e1; rw [atB L2 i2] at e2
    exact hw.inj L1 L2 q1 q2 h1 h2 e1 e2 e
 ·by_cases e:L'=L
  ·subst e
   rw [Bm.set_self] at hq'; cases hq'
   exact ho
  ·rw [at_ L' e] at hl'; rw [atB L' e] at hq'
   exact hw.own L' q' hl' hq'
def swE (n:Nat):EV→Bool
 | .v _=>true
 | .j=>true
 | .p L _ _=>Nat.blt L n
 | _=>false
theorem ER.sw {n:Nat} {x:EV} {u:Value} (hx:ER B x u) (h:swE n x=true) (hB:∀ L q,L<n→B L=some q→B' L=some q):ER B' x u:=by
 cases hx with
 | v=>exact .v _
 | j=>exact .j _
 | p hq=>exact .p (hB _ _ (Nat.le_of_ble_eq_true h) hq)
 | _=>cases h
theorem RowsAt.sw {n:Nat} {q:BI} {t:TypeId} {row:List EV} (hr:RowsAt P B w q t [row]) (h:row.all (swE n)=true) (hB:∀ L q,L<n→B L=some q→B' L=some q):RowsAt P B' w q t [row]:=by
 obtain ⟨h1,c,h2,h3,h4,h5⟩:=hr
 refine ⟨h1,c,h2,h3,h4,fun i r hi => ?_⟩
 obtain ⟨e1,e2⟩:=h5 i r hi
 match i,hi with
 | 0,hi =>
  cases hi
  exact ⟨e1,fun f x hx=>by
   obtain ⟨u,a,b,c⟩:=e2 f x hx
   exact ⟨u,a,b.sw (List.all_eq_true.1 h x (List.mem_of_getElem? hx)) hB,c⟩⟩
theorem Wd.cov {n0:Nat} {B0:Bm} (h0:∀ L q,B0 L=some q→L<n0) {H H':List EB} (hle:B0.le B) (hw:Wd P G S0 w0 B (hf H) w) (hc:Cov n0 [] H ([],H')):∃ B',B0.le B'∧Wd P G S0 w0 B' (hf H') w:=by
 obtain ⟨B',h1,h2,_⟩:=hc.fit (P:=P) (G:=G) (N:=0) (df:=[]) (a:={ tmps := #[],defers:=[] }) h0 ⟨B,hle,hw,fun t => .j _,rfl,rfl⟩
 exact ⟨B',h1,h2⟩
end
end Go.Proofs.YtdhgpocbcccieaaGreatDoor.E
namespace Go.Proofs.YtdhgpocbcccieaaGreatDoor.E
open Go Go.RowKit
variable {G:Gl}
abbrev wr (L n:Nat) (e:Int):EB := .r 112 [.s L 0 n false,.v (.int .i64 e)]
abbrev by_ (bs:List UInt8):EB := .rs 5 (byR bs)
theorem byR_app (a b:List UInt8):byR (a++b)=byR a++byR b:=by simp [byR]
def putB (bs:List UInt8) (e:Int) (so:Bool) (s:List UInt8):List UInt8:=if e=0∧so=true then bs++s else bs
def putE (e:Int) (so:Bool) (e2:Int):Int:=if e=0∧so=false then e2 else e
theorem put_ok (bs:List UInt8) (e e2:Int) (so:Bool) (s:ByteArray) (hb:bs.length+s.size≤1000000):Tri Tryz.prog G 83 [.p 0 0 0,.v (.bool so),.v (.int .i64 e2),.v (.string s)] [wr 1 bs.length e,by_ bs] (.t [])
  [wr 2 (putB bs e so s.data.toList).length (putE e so e2),.g,by_ (putB bs e so s.data.toList)]:=by
 refine fn Tryz.func83 ?_
 conv=>whnf
 refine br_of (fun h => ?_) (fun h => ?_)
 ·conv=>whnf
  have he:¬ e=0:=by simpa using h
  simp only [putB,putE,he,false_and,if_false]
  exact cv [0,1,1]
 ·have he:e=0:=by simpa using h
  subst he
  conv=>whnf
  refine br_of (fun h => ?_) (fun h => ?_)
  ·conv=>whnf
   refine ⟨by simp [byR],?_⟩
   conv=>whnf
   refine ⟨⟨by omega,by simp⟩,?_⟩
   conv=>whnf
   simp only [putB,putE,h,and_self,if_true,List.length_append,← byR_app]
   exact cv [0,1,2]
  ·conv=>whnf
   simp only [putB,putE,h]
   exact cv [0,1,1]
def numB (n:Nat):List UInt8:=if n<128 then [n.toUInt8] else (n%128+128).toUInt8::numB (n/128)
theorem numB_len (k:Nat):∀ n,n<128 ^ (k+1)→(numB n).length≤k+1:=by
 induction k with
 | zero=>intro n h; unfold numB; rw [if_pos (by simpa using h)]; simp
 | succ k ih =>
  intro n h
  unfold numB
  split
  ·simp
  ·have:=ih (n/128) (by rw [Nat.pow_succ] at h; exact Nat.div_lt_of_lt_mul (by omega))
   simp
   omega
theorem number_ok (n:Nat) (hn:n<2 ^ 64):Tri Tryz.prog G 84 [.v (.int .u64 n)] [] (.v (.string ⟨(numB n).toArray⟩)) []:=by
 refine fn Tryz.func84 ?_
 conv=>whnf
 refine lp2 (fun acc m=>([(0,.v (.int .u64 (m:Nat))),(3,.s 0 0 acc.length false)],[by_ acc])) (fun acc m=>acc++numB m=numB n∧m<2 ^ 64) (fun _ m=>m) [] n ⟨rfl,hn⟩ (cv [0]) fun acc m ⟨hx,hm⟩ => ?_
 have hlen:=congrArg List.length hx
 have hl10:=numB_len 9 n (by omega)
 rw [List.length_append] at hlen
 conv=>whnf
 refine br_of (fun h => ?_) (fun h => ?_)
 ·conv=>whnf
  refine ⟨⟨rfl,rfl⟩,?_⟩
  conv=>whnf
  refine ⟨by simp [byR],?_⟩
  conv=>whnf
  refine ⟨⟨by omega,by simp⟩,?_⟩
  conv=>whnf
  have h7:128≤m:=by have:=of_decide_eq_true h; omega
  rw [show (m:Int).fdiv (2 ^ min (Int.toNat 7) IntKind.u64.bits)=((m/128:Nat):Int) from by simp [IntKind.bits,Int.fdiv_eq_ediv],show IntKind.u8.wrap (IntKind.u64.wrap ((m:Int).tmod 128+128))=(((m%128+128).toUInt8).toNat:Int) from by simp [IntKind.wrap,IntKind.bits,IntKind.signed,Int.tmod_eq_emod]]
  have h8:numB m=(m%128+128).toUInt8::numB (m/128):=by rw [numB,if_neg (by omega)]
  exact ⟨(acc++[(m%128+128).toUInt8],m/128),⟨⟨by rw [← hx,h8]; simp,by simp only; omega⟩,by simp only; omega⟩,cv [2] (h4:=⟨.inl rfl,.inl (by simp [lk,ren]),trivial⟩) (h5:=⟨.inl (by simp [byR]),trivial⟩)⟩
 ·conv=>whnf
  refine ⟨⟨rfl,rfl⟩,?_⟩
  conv=>whnf
  refine ⟨by simp [byR],?_⟩
  conv=>whnf
  refine ⟨⟨by omega,by simp⟩,?_⟩
  conv=>whnf
  have h7:m<128:=by have:=of_decide_eq_false h; omega
  have h8:numB m=[m.toUInt8]:=by rw [numB,if_pos h7]
  rw [show IntKind.u8.wrap (m:Int)=((m.toUInt8).toNat:Int) from by simp [IntKind.wrap,IntKind.bits,IntKind.signed]]
  refine ⟨acc++[m.toUInt8],⟨by simp [byR],rfl,by simp⟩,?_⟩
  rw [h8] at hx
  rw [hx]
  conv=>whnf
  exact cv []
def okB (n:Int):Bool:=decide (n≥0)&&decide (n≤255)
def toB (n:Int):UInt8:=(n%256).toNat.toUInt8
theorem wrap8 (n:Int):IntKind.u8.wrap n=((toB n).toNat:Int):=by simp [toB,IntKind.wrap,IntKind.bits,IntKind.signed]; omega
theorem dl (l:List UInt8):(⟨l.toArray⟩:ByteArray).data.toList=l:=by simp
theorem sz1 (l:List UInt8):(⟨l.toArray⟩:ByteArray).size=l.length:=by simp [ByteArray.size]
theorem wbyte_ok (bs:List UInt8) (e:Int) (n:Int) (hb:bs.length≤999999):Tri Tryz.prog G 49 [.p 0 0 0,.v (.int .i64 n)] [wr 1 bs.length e,by_ bs] (.t [])
  [wr 2 (putB bs e (okB n) [toB n]).length (putE e (okB n) 1),.g,by_ (putB bs e (okB n) [toB n])]:=by
 refine fn Tryz.func49 ?_
 conv=>whnf
 refine br_of (fun h => ?_) (fun h => ?_) <;> (try rw [h])
 all_goals
  conv=>whnf
  rw [wrap8]
  refine ⟨[toB n],⟨rfl,rfl,rfl⟩,?_⟩
  conv=>whnf
  refine cl (put_ok bs e 1 _ ⟨[toB n].toArray⟩ (by rw [sz1]; simp; omega)) [0,1] ?_
  conv=>whnf
  simp only [okB,h,Bool.true_and,Bool.false_and]
  exact cv [0,1,3]
theorem wnum_ok (bs:List UInt8) (e:Int) (n:Nat) (hn:n<2 ^ 64) (hb:bs.length≤900000):Tri Tryz.prog G 50 [.p 0 0 0,.v (.int .u64 n)] [wr 1 bs.length e,by_ bs] (.t [])
  [wr 2 (putB bs e true (numB n)).length e,.g,by_ (putB bs e true (numB n))]:=by
 have hl:=numB_len 9 n (by omega)
 refine fn Tryz.func50 ?_
 conv=>whnf
 refine cl (number_ok n hn) [] ?_
 conv=>whnf
 refine cl (put_ok bs e 0 true ⟨(numB n).toArray⟩ (by rw [sz1]; omega)) [0,1] ?_
 conv=>whnf
 simp only [putE,Bool.true_eq_false,and_false,if_false]
 exact cv [0,1,2]
theorem wraw_ok (bs:List UInt8) (e:Int) (s:ByteArray) (n:Int) (hb:bs.length+s.size≤1000000):Tri Tryz.prog G 238 [.p 0 0 0,.v (.string s),.v (.int .i64 n)] [wr 1 bs.length e,by_ bs] (.t [])
  [wr 2 (putB bs e ((s.size:Int)==n) s.data.toList).length (putE e ((s.size:Int)==n) 1),.g,by_ (putB bs e ((s.size:Int)==n) s.data.toList)]:=by
 refine fn Tryz.func238 ?_
 conv=>whnf
 refine cl (put_ok bs e 1 _ _ hb) [0,1] ?_
 conv=>whnf
 exact cv [0,1,2]
theorem wblob_ok (bs:List UInt8) (e:Int) (s:ByteArray) (hs:s.size≤100000) (hb:bs.length≤800000):Tri Tryz.prog G 51 [.p 0 0 0,.v (.string s)] [wr 1 bs.length e,by_ bs] (.t [])
  [wr 2 (putB bs e (decide ((s.size:Int)≤4096)) (numB s.size++s.data.toList)).length (putE e (decide ((s.size:Int)≤4096)) 4),.g,by_ (putB bs e (decide ((s.size:Int)≤4096)) (numB s.size++s.data.toList))]:=by
 have hl:=numB_len 9 s.size (by omega)
 refine fn Tryz.func51 ?_
 conv=>whnf
 rw [show IntKind.u64.wrap (s.size:Int)=((s.size:Nat):Int) from by simp [IntKind.wrap,IntKind.bits,IntKind.signed]; omega]
 refine cl (number_ok s.size (by omega)) [] ?_
 conv=>whnf
 refine ⟨by rw [sz1]; omega,?_⟩
 conv=>whnf
 rw [show (⟨(numB s.size).toArray⟩:ByteArray)++s=⟨(numB s.size++s.data.toList).toArray⟩ from by apply ByteArray.ext; simp]
 refine cl (put_ok bs e 4 _ ⟨(numB s.size++s.data.toList).toArray⟩ (by rw [sz1]; simp; omega)) [0,1] ?_
 conv=>whnf
 rw [dl]
 exact cv [0,1,2]
theorem werr_ok (bs:List UInt8) (e:Int):Tri Tryz.prog G 172 [.p 0 0 0] [wr 1 bs.length e,by_ bs] (.v (.int .i64 e)) [wr 1 bs.length e,by_ bs]:=by
 refine fn Tryz.func172 ?_
 conv=>whnf
 exact cv [0,1]
theorem wtext_ok (bs:List UInt8) (e:Int):Tri Tryz.prog G 52 [.p 0 0 0] [wr 1 bs.length e,by_ bs] (.v (.string (if e=0 then ⟨bs.toArray⟩ else ⟨#[]⟩))) [wr 1 bs.length e,by_ bs]:=by
 refine fn Tryz.func52 ?_
 conv=>whnf
 refine br_of (fun h => ?_) (fun h => ?_)
 ·conv=>whnf
  rw [if_neg (by simpa using h)]
  exact cv [0,1]
 ·conv=>whnf
  refine ⟨bs,⟨rfl,rfl,rfl⟩,?_⟩
  conv=>whnf
  rw [if_pos (by simpa using h)]
  exact cv [0,1]
end Go.Proofs.YtdhgpocbcccieaaGreatDoor.E
