/- Part 2 of the proof: Er Es Ea Eb Ew Ey Ez. -/
import Derived.Laws.BytesString
import Derived.Laws.StructEq
import Derived.Laws.MakeOwn
import Derived.Lib.ConvBytes
import Derived.WalkSpells
import Derived.Test.YtdhgpocbcccieaaGreatDoorY1
set_option maxRecDepth 1000000
set_option maxHeartbeats 20000000
set_option linter.unusedVariables false
set_option linter.unusedSimpArgs false
namespace Go.Proofs.YtdhgpocbcccieaaGreatDoor.E
open Go Go.RowKit
section
variable {P:Program} {G:Gl} {ops:Array Oper} {o:Oper} {T:List (Nat×EV)} {H H':List EB} {K:KE} {B:Bm} {w:World} {ρ:Operand→Value}
theorem Out.move {x:Operand} (ho:o.op = .move x∨o.op = .assign x) (h:K (ev T x) H [] []):Out P G ops o T H K :=
 Out.val h fun B a w hxs=>⟨a.eval x,by unfold execOp; rcases ho with ho | ho <;> rw [ho] <;> rfl,hxs x (by rcases ho with ho | ho <;> (rw [ho]; simp [Op.operands]))⟩
theorem Out.pick {c x y:Operand} (ho:o.op = .pick c x y) (h:asB (ev T c) fun b=>br b (K (ev T x) H [] []) (K (ev T y) H [] [])):Out P G ops o T H K:=by
 obtain ⟨b,hb,h⟩:=asB_inv h
 have hrun:∀ (B:Bm) (a:Act) (w:World),(∀ x,x∈o.op.operands→ER B (ev T x) (a.eval x))→(execOp a.eval o).run P w = .ok (.value (if b then a.eval x else a.eval y)) w:=fun B a w hxs=>by
  have:=hxs c (by rw [ho]; simp [Op.operands])
  rw [hb] at this
  unfold execOp
  simp [ho,this.v_inv,asBool]
 rcases br_inv h with ⟨rfl,h⟩ | ⟨rfl,h⟩
 ·exact Out.val h fun B a w hxs=>⟨_,hrun B a w hxs,by simpa using hxs x (by rw [ho]; simp [Op.operands])⟩
 ·exact Out.val h fun B a w hxs=>⟨_,hrun B a w hxs,by simpa using hxs y (by rw [ho]; simp [Op.operands])⟩
theorem Out.nilCheck {x:Operand} (ho:o.op = .nilCheck x) (h:ob (nnE (ev T x)) fun _=>K (ev T x) H [] []):Out P G ops o T H K:=by
 obtain ⟨_,hn,h⟩:=ob_inv h
 exact Out.val h fun B a w hxs=>⟨a.eval x,nnE_ok hn (hxs x (by rw [ho]; simp [Op.operands])) ho rfl,hxs x (by rw [ho]; simp [Op.operands])⟩
theorem Out.extract {x:Operand} {i:Nat} (ho:o.op = .extract x i) (h:ob (extE (ev T x) i) fun y=>K y H [] []):Out P G ops o T H K:=by
 obtain ⟨y,hy,h⟩:=ob_inv h
 refine Out.val h fun B a w hxs => ?_
 obtain ⟨v,h1,h2⟩:=extE_ok (P:=P) (w:=w) hy (hxs x (by rw [ho]; simp [Op.operands]))
 exact ⟨v,by unfold execOp; simp [ho,h1],h2⟩
theorem Out.unOp {x:Operand} {t:TypeId} {u:UnOp} (ho:o.op = .unOp u t x) (h:ob (unE u (ev T x)) fun y=>K y H [] []):Out P G ops o T H K:=by
 obtain ⟨y,hy,h⟩:=ob_inv h
 refine Out.val h fun B a w hxs => ?_
 obtain ⟨v,h1,h2⟩:=unE_ok (P:=P) (w:=w) hy (hxs x (by rw [ho]; simp [Op.operands]))
 exact ⟨v,by unfold execOp; simp [ho,h1],h2⟩
theorem Out.binOp {x y:Operand} {t ty:TypeId} {b:BinOp} (ho:o.op = .binOp b t x y ty) (h:ob (binE P b t (ev T x) (ev T y)) fun y=>K y H [] []):Out P G ops o T H K:=by
 obtain ⟨r,hr,h⟩:=ob_inv h
 exact Out.val h fun B a w hxs=>binE_ok ho hr (hxs x (by rw [ho]; simp [Op.operands])) (hxs y (by rw [ho]; simp [Op.operands]))
theorem ERs.map_ev {B:Bm} {a:Act} (l:Array Operand) (h:∀ x,x∈l→ER B (ev T x) (a.eval x)):ERs B (l.toList.map (ev T)) (l.map a.eval) :=
 ⟨by simp,fun i x u hx hu=>by
  rw [List.getElem?_map] at hx
  rw [Array.getElem?_map] at hu
  cases hl:l[i]? with
  | none=>rw [hl] at hu; cases hu
  | some y =>
   rw [hl] at hu
   rw [show l.toList[i]? = some y by simpa using hl] at hx
   cases hx; cases hu
   exact h y (Array.mem_of_getElem? hl)⟩
theorem Out.makeFunc {g:FuncId} {fs cs:Array Operand} (ho:o.op = .makeFunc (.func g) fs cs) (h:K (.f g (fs.toList.map (ev T)) (cs.toList.map (ev T))) H [] []):Out P G ops o T H K:=by
 refine Out.val h fun B a w hxs=>⟨.func (.func g) (fs.map a.eval) (cs.map a.eval),by unfold execOp; simp [ho,Instr.makeFunc],?_⟩
 have h1:=ERs.map_ev (T:=T) (B:=B) (a:=a) fs fun x hx=>hxs x (by rw [ho]; simp [Op.operands,hx])
 have h2:=ERs.map_ev (T:=T) (B:=B) (a:=a) cs fun x hx=>hxs x (by rw [ho]; simp [Op.operands,hx])
 exact .f h1.1 h1.2 h2.1 h2.2
def isIntT (P:Program) (t:TypeId):Option IntKind:=match P.underlying t with | some (.int k)=>some k | _=>none
def isStrT (P:Program) (t:TypeId):Bool:=match P.underlying t with | some .string=>true | _=>false
def isSlcT (P:Program) (t:TypeId):Bool:=match P.underlying t with | some (.slice _)=>true | _=>false
def cvE (P:Program) (src dst:TypeId) (x:EV):Option EV :=
 match x with
 | .v (.int _ n)=>match P.underlying src with
  | some (.int _)=>match isIntT P dst with | some k=>some (.v (.int k (k.wrap n))) | none=>none
  | _=>none
 | .v (.string s)=>if isStrT P dst&&isStrT P src then some (.v (.string s)) else none
 | _=>none
theorem Out.convert {src dst:TypeId} {x:Operand} (ho:o.op = .convert src dst x) (h:ob (cvE P src dst (ev T x)) fun y=>K y H [] []):Out P G ops o T H K:=by
 obtain ⟨r,hr,h⟩:=ob_inv h
 refine Out.val h fun B a w hxs => ?_
 have hx:=hxs x (by rw [ho]; simp [Op.operands])
 unfold cvE at hr
 split at hr
 ·rename_i kk n he
  rw [he] at hx
  split at hr
  ·rename_i ks hs
   obtain ⟨k,hk,rfl⟩:∃ k,isIntT P dst=some k∧r = .v (.int k (k.wrap n)):=by
    cases hk:isIntT P dst with
    | none=>rw [hk] at hr; cases hr
    | some k=>rw [hk] at hr; cases hr; exact ⟨k,rfl,rfl⟩
   have hd:P.underlying dst=some (.int k):=by
    unfold isIntT at hk
    split at hk
    ·cases hk; assumption
    ·cases hk
   have hc:(Go.convert src dst (.int kk n)).run P w = .ok (.int k (k.wrap n)) w:=by
    unfold Go.convert
    simp [run_underlying hs,run_underlying hd,Conv.intToInt]
   refine ⟨_,?_,.v _⟩
   unfold execOp
   simp [ho,hx.v_inv,hc]
  ·cases hr
 ·rename_i s he
  rw [he] at hx
  split at hr
  ·rename_i hc
   obtain ⟨h1,h2⟩:=Bool.and_eq_true_iff.1 hc
   have key:∀ t,isStrT P t=true→P.underlying t=some .string:=fun t ht=>by
    unfold isStrT at ht
    split at ht
    ·assumption
    ·cases ht
   cases hr
   have hc:(Go.convert src dst (.string s)).run P w = .ok (.string s) w:=by
    unfold Go.convert
    simp [run_underlying (key _ h1),run_underlying (key _ h2)]
   refine ⟨_,?_,.v _⟩
   unfold execOp
   simp [ho,hx.v_inv,hc]
  ·cases hr
 ·cases hr
inductive Cx (P:Program) (f:FuncId) (qa:Array Value) (w:World) (Q:Ending→World→Prop):Prop
 | fn:(∃ fn,P.funcs[f]? = some fn∧(fn.name == "runtime.NumGoroutine")=false∧fn.body.isSome=true)→Calls P f qa w Q→Cx P f qa w Q
 | ext (v:Value):(callFunc f qa).run P w = .ok (.value v) w→Q (.returned v) w→Cx P f qa w Q
theorem Cx.mono {f:FuncId} {qa:Array Value} {w:World} {Q Q':Ending→World→Prop} (h:Cx P f qa w Q) (k:∀ e w',Q e w'→Q' e w'):Cx P f qa w Q':=by
 cases h with
 | fn a b=>exact .fn a (Calls.mono b k)
 | ext v a b=>exact .ext v a (k _ _ b)
def CallSt (P:Program) (G:Gl) (f:FuncId) (args:List EV) (F W:List Nat) (h h':EH) (r:EV):Prop :=
 True∧∀ (S0:List Nat) (w0:World) (B:Bm) (w:World) (g:EH) (qa:Array Value),ERs B args qa→Wd P G S0 w0 B g w→(∀ L,L∈F→g L=h L) →
  Cx P f qa w fun e w'=>∃ B' v,e = .returned v∧B.le B'∧ER B' r v∧Wd P G S0 w0 B' (fun L=>if L∈W then h' L else g L) w'
structure CallE (P:Program) (G:Gl) (f:FuncId) (args:List EV) (H:List EB) (K:KE):Prop where
 h:∃ r H' F W,K r H' F W∧CallSt P G f args F W (hf H) (hf H') r∧hf H'=fun L=>if L∈W then hf H' L else hf H L
def callK (P:Program) (G:Gl) (fv:EV) (args:List EV) (H:List EB) (K:KE):Prop :=
 match fv with
 | .f g fs cs=>appK fs args fun l=>appK l cs fun l=>CallE P G g l H K
 | _=>False
theorem ERs.app {B:Bm} {xs ys:List EV} {us vs:Array Value} (h1:ERs B xs us) (h2:ERs B ys vs):ERs B (xs++ys) (us++vs):=by
 refine ⟨by rw [List.length_append,Array.size_append,h1.1,h2.1],fun i x u hx hu => ?_⟩
 by_cases hi:i<xs.length
 ·rw [List.getElem?_append_left hi] at hx
  rw [Array.getElem?_append_left (by rw [← h1.1]; exact hi)] at hu
  exact h1.2 i x u hx hu
 ·rw [List.getElem?_append_right (by omega)] at hx
  rw [Array.getElem?_append_right (by rw [← h1.1]; omega)] at hu
  rw [← h1.1] at hu
  exact h2.2 _ x u hx hu
theorem Out.call {f:Operand} {xs:Array Operand} {ts:Array TypeId} (ho:o.op = .call { callee := .value f,args:=xs,argTypes:=ts }) (h:callK P G (ev T f) (xs.toList.map (ev T)) H K):Out P G ops o T H K:=by
 unfold callK at h
 split at h
 ·rename_i g fs cs hev
  rw [appK_eq,appK_eq] at h
  obtain ⟨r,H',F,W,hK,⟨-,hc⟩,hfr⟩:=h.h
  refine ⟨r,H',F,W,hK,fun S0 w0 B a w gg hT hw hF K' Q hK' => ?_,hfr⟩
  have hops:o.op.operands = #[f]++xs:=by rw [ho]; rfl
  have hfx:=ev_ok (o:=o) (T:=T) hT (x:=f) (by rw [hops]; simp)
  rw [hev] at hfx
  have hxs:=ERs.map_ev (T:=T) (B:=B) (a:=a) xs fun x hx=>ev_ok (o:=o) hT (by rw [hops]; simp [hx])
  generalize hax:a.eval f=u at hfx
  cases hfx with
  | f hl1 he1 hl2 he2 =>
   rename_i es ds
   have hargs:ERs B (fs++xs.toList.map (ev T)++cs) (es++xs.map a.eval++ds):=ERs.app (ERs.app ⟨hl1,he1⟩ hxs) ⟨hl2,he2⟩
   have hcall:=hc S0 w0 B w gg _ hargs hw hF
   cases hcall with
   | ext v hrun0 hq =>
    have hrun:(execOp a.eval o).run P w = .ok (.value v) w:=by
     rw [← hrun0]
     unfold execOp
     simp only [ho,hax,resolve,Deferred.ofValue,Sem.run_bind,Sem.run_pure,Result.andThen_ok,invoke]
    unfold Oper.wp
    rw [hrun]
    obtain ⟨B',v',e,hle,hv,hwd⟩:=hq
    cases e
    exact hK' B' v w hle hv hwd
   | fn he hcall =>
    obtain ⟨fn,hfn,hname,hbody⟩:=he
    have h1:fn.name ≠ "runtime.NumGoroutine" := by simpa using hname
    obtain ⟨c,hb⟩:=Option.isSome_iff_exists.1 hbody
    have hcf:(callFunc g (es++xs.map a.eval++ds)).run P w = .ok (.enter g (es++xs.map a.eval++ds)) w:=by simp [callFunc,hfn,h1,hb]
    have hrun:(execOp a.eval o).run P w = .ok (.enter g (es++xs.map a.eval++ds)) w:=by
     rw [← hcf]
     unfold execOp
     simp only [ho,hax,resolve,Deferred.ofValue,Sem.run_bind,Sem.run_pure,Result.andThen_ok,invoke]
    unfold Oper.wp
    rw [hrun,Oper.upon_enter]
    refine Calls.mono hcall fun e w' he => ?_
    obtain ⟨B',v,rfl,hle,hv,hwd⟩:=he
    exact hK' B' v w' hle hv hwd
 ·exact h.elim
def mkiE (P:Program) (t:TypeId) (x:EV) (K:KE) (H:List EB):Prop :=
 match P.underlying t with
 | some (.interface _)=>False
 | some _=>K (.i t x) H [] []
 | none=>False
theorem Out.mkIface {t:TypeId} {x:Operand} (ho:o.op = .makeInterface t x) (h:mkiE P t (ev T x) K H):Out P G ops o T H K:=by
 unfold mkiE at h
 split at h
 ·exact h.elim
 ·rename_i d hn hd
  refine Out.val h fun B a w hxs=>⟨.iface t (a.eval x),?_,.i (hxs x (by rw [ho]; simp [Op.operands]))⟩
  unfold execOp
  cases d <;> first | exact (hn _ rfl).elim | simp [ho,Instr.makeInterface,run_underlying hd]
 ·exact h.elim
@[irreducible] def methE (P:Program) (t:TypeId) (name:String):Option FuncId :=
 match P.info? t with
 | some ti=>match ti.methods.find? (·.name==name) with
  | some m=>match m.func,m.path.toList,P.underlying t with
   | some (_,false),[],some (.pointer _)=>none
   | some (f,false),[],some _=>some f
   | _,_,_=>none
  | none=>none
 | none=>none
def invK (P:Program) (G:Gl) (rv:EV) (name:String) (args:List EV) (H:List EB) (K:KE):Prop :=
 match rv with
 | .i t x=>ob (methE P t name) fun g=>CallE P G g (x::args) H K
 | _=>False
theorem run_method {t:TypeId} {name:String} {g:FuncId} {w:World} (h:methE P t name=some g) (v:Value) (n:Nat):(Go.method (n+1) t v name).run P w = .ok (g,v) w:=by
 unfold methE at h
 split at h
 ·rename_i ti hti
  split at h
  ·rename_i m hm
   split at h
   ·cases h
   ·rename_i f d hnp hf hp hu
    cases h
    cases d <;> first | exact (hnp _ rfl).elim | simp [Go.method,typeInfo,hti,hm,hp,follow,hf,receiverAt,run_underlying hu,Place.get]
   ·cases h
  ·cases h
 ·cases h
theorem Out.invk {r:Operand} {name:String} {xs:Array Operand} {ts:Array TypeId} (ho:o.op = .call { callee := .invoke r name,args:=xs,argTypes:=ts }) (h:invK P G (ev T r) name (xs.toList.map (ev T)) H K):Out P G ops o T H K:=by
 unfold invK at h
 split at h
 ·rename_i t x hev
  obtain ⟨g,hg,h⟩:=ob_inv h
  obtain ⟨r',H',F,W,hK,⟨-,hc⟩,hfr⟩:=h.h
  refine ⟨r',H',F,W,hK,fun S0 w0 B a w gg hT hw hF K' Q hK' => ?_,hfr⟩
  have hops:o.op.operands = #[r]++xs:=by rw [ho]; rfl
  have hfx:=ev_ok (o:=o) (T:=T) hT (x:=r) (by rw [hops]; simp)
  rw [hev] at hfx
  have hxs:=ERs.map_ev (T:=T) (B:=B) (a:=a) xs fun x hx=>ev_ok (o:=o) hT (by rw [hops]; simp [hx])
  generalize hax:a.eval r=u at hfx
  cases hfx with
  | i hx =>
   rename_i v
   have hargs:ERs B ([x]++xs.toList.map (ev T)) (#[v]++xs.map a.eval):=ERs.app ⟨rfl,fun i y u hy hu=>by
    match i,hy,hu with
    | 0,hy,hu=>cases hy; cases hu; exact hx
    | i+1,hy,_=>simp at hy⟩ hxs
   have hcall:=hc S0 w0 B w gg _ hargs hw hF
   obtain ⟨n,hn⟩:=Nat.exists_eq_succ_of_ne_zero (Nat.ne_of_gt (Nat.lt_of_lt_of_le (show 0<Made.depth by decide) (Nat.le_add_left Made.depth P.types.size)))
   have hm:=run_method (w:=w) hg v n
   have e1:(#[Value.iface t v]++xs.map a.eval)[0]? = some (Value.iface t v):=by rw [Array.getElem?_append_left (by simp)]; rfl
   have e2:(#[Value.iface t v]++xs.map a.eval).extract 1 (#[Value.iface t v]++xs.map a.eval).size=xs.map a.eval:=by
    apply Array.ext'
    rw [Array.toList_extract]
    simp [List.extract]
    exact List.take_of_length_le (by simp)
   have hex:(execOp a.eval o).run P w=(callFunc g (#[v]++xs.map a.eval)).run P w:=by
    unfold execOp
    simp only [ho,hax,resolve,Sem.run_bind,Sem.run_pure,Result.andThen_ok,Go.invoke,e1,e2]
    simp [callMethod,hn,hm]
   cases hcall with
   | ext v hrun0 hq =>
    unfold Oper.wp
    rw [hex,hrun0]
    obtain ⟨B',v',e,hle,hv,hwd⟩:=hq
    cases e
    exact hK' B' v w hle hv hwd
   | fn he hcall =>
    obtain ⟨fn,hfn,hname,hbody⟩:=he
    have h1:fn.name ≠ "runtime.NumGoroutine" := by simpa using hname
    obtain ⟨c,hb⟩:=Option.isSome_iff_exists.1 hbody
    have hcf:(callFunc g (#[v]++xs.map a.eval)).run P w = .ok (.enter g (#[v]++xs.map a.eval)) w:=by simp [callFunc,hfn,h1,hb]
    unfold Oper.wp
    rw [hex,hcf,Oper.upon_enter]
    refine Calls.mono hcall fun e w' he => ?_
    obtain ⟨B',v,rfl,hle,hv,hwd⟩:=he
    exact hK' B' v w' hle hv hwd
 ·exact h.elim
theorem Out.bi {b:Builtin} {xs:Array Operand} {ts:Array TypeId} {r:EV} {s:Array TypeId→TypeId→Array Value→Sem Value} (ho:o.op = .call { callee := .builtin b,args:=xs,argTypes:=ts })
  (hb:∀ t cs args,builtin b ts t cs args=do pure (.value (← s ts t args))) (hK:K r H [] []) (h:∀ (B:Bm) (qa:Array Value) (w:World),ERs B (xs.toList.map (ev T)) qa→∃ v,(s ts o.type qa).run P w = .ok v w∧ER B r v):Out P G ops o T H K :=
 Out.val hK fun B a w hxs=>by
  obtain ⟨v,h1,h2⟩:=h B _ w (ERs.map_ev xs fun x hx=>hxs x (by rw [ho]; simpa [Op.operands,Call.operands] using hx))
  refine ⟨v,?_,h2⟩
  unfold execOp
  simp [ho,resolve,invoke,hb,h1]
theorem ERs.one {B:Bm} {x:EV} {qa:Array Value} (h:ERs B [x] qa):∃ u,qa = #[u]∧ER B x u:=by
 obtain ⟨hl,he⟩:=h
 have:qa.size=1:=hl.symm
 obtain ⟨u,rfl⟩:=Array.size_eq_one_iff.1 this
 exact ⟨u,rfl,he 0 x u rfl rfl⟩
theorem ERs.two {B:Bm} {x y:EV} {qa:Array Value} (h:ERs B [x,y] qa):∃ u v,qa = #[u,v]∧ER B x u∧ER B y v:=by
 obtain ⟨hl,he⟩:=h
 match qa,hl,he with
 | ⟨[u,v]⟩,_,he=>exact ⟨u,v,rfl,he 0 x u rfl rfl,he 1 y v rfl rfl⟩
def lenE (P:Program) (t:TypeId) (x:EV):Option Int :=
 match x with
 | .v (.string s)=>if isStrT P t then some s.size else none
 | .s _ _ n _=>if isSlcT P t then some n else none
 | .v (.slice none 0 0)=>if isSlcT P t then some 0 else none
 | .v (.slice _ n _)=>if isSlcT P t then some n else none
 | _=>none
theorem lenE_ok {t:TypeId} {ts:Array TypeId} {ty:TypeId} {x:EV} {n:Int} {u:Value} (hts:ts[0]? = some t) (h:lenE P t x=some n) (hx:ER B x u):(Builtin.len_ ts ty #[u]).run P w = .ok (.int .i64 n) w:=by
 have hs:∀ t,isStrT P t=true→P.underlying t=some .string:=fun t ht=>by
  unfold isStrT at ht
  split at ht
  ·assumption
  ·cases ht
 have hl:∀ t,isSlcT P t=true→∃ e,P.underlying t=some (.slice e):=fun t ht=>by
  unfold isSlcT at ht
  split at ht
  ·exact ⟨_,by assumption⟩
  ·cases ht
 unfold lenE at h
 split at h
 ·split at h
  ·rename_i ht
   cases h
   rw [hx.v_inv]
   simp [Builtin.len_,hts,run_underlying (hs t ht),goInt]
  ·cases h
 ·split at h
  ·rename_i ht
   obtain ⟨e,hu⟩:=hl t ht
   cases h
   cases hx <;> simp [Builtin.len_,hts,run_underlying hu,goInt]
  ·cases h
 ·split at h
  ·rename_i ht
   obtain ⟨e,hu⟩:=hl t ht
   cases h
   rw [hx.v_inv]
   simp [Builtin.len_,hts,run_underlying hu,goInt]
  ·cases h
 ·split at h
  ·rename_i ht
   obtain ⟨e,hu⟩:=hl t ht
   cases h
   rw [hx.v_inv]
   simp [Builtin.len_,hts,run_underlying hu,goInt]
  ·cases h
 ·cases h
def biE (P:Program) (b:Builtin) (ts:Array TypeId) (xs:List EV):Option EV :=
 match b,xs with
 | .len,[x]=>match ts[0]? with | some t=>(match lenE P t x with | some n=>some (.v (.int .i64 n)) | none=>none) | none=>none
 | .min,[.v (.int k x),.v (.int _ y)]=>some (.v (.int k (if y<x then y else x)))
 | .max,[.v (.int k x),.v (.int _ y)]=>some (.v (.int k (if y>x then y else x)))
 | _,_=>none
theorem Out.biE {b:Builtin} {xs:Array Operand} {ts:Array TypeId} (ho:o.op = .call { callee := .builtin b,args:=xs,argTypes:=ts }) (h:ob (biE P b ts (xs.toList.map (ev T))) fun r=>K r H [] []):Out P G ops o T H K:=by
 obtain ⟨r,hr,h⟩:=ob_inv h
 unfold Go.Proofs.YtdhgpocbcccieaaGreatDoor.E.biE at hr
 split at hr
 ·rename_i x hx
  obtain ⟨t,n,ht,hn,rfl⟩:∃ t n,ts[0]? = some t∧lenE P t x=some n∧r = .v (.int .i64 n):=by
   cases ht:ts[0]? with
   | none=>rw [ht] at hr; cases hr
   | some t =>
    rw [ht] at hr
    cases hn:lenE P t x with
    | none=>simp only [hn] at hr; cases hr
    | some n=>simp only [hn] at hr; cases hr; exact ⟨t,n,rfl,hn,rfl⟩
  refine Out.bi (s:=Builtin.len_) ho (fun _ _ _=>rfl) h fun B qa w he => ?_
  rw [hx] at he
  obtain ⟨u,rfl,hu⟩:=he.one
  exact ⟨_,lenE_ok ht hn hu,.v _⟩
 ·rename_i k x k' y hx
  cases hr
  refine Out.bi (s:=Builtin.min_) ho (fun _ _ _=>rfl) h fun B qa w he => ?_
  rw [hx] at he
  obtain ⟨u,v,rfl,hu,hv⟩:=he.two
  exact ⟨_,by rw [hu.v_inv,hv.v_inv]; simp [Builtin.min_,Builtin.min2],.v _⟩
 ·rename_i k x k' y hx
  cases hr
  refine Out.bi (s:=Builtin.max_) ho (fun _ _ _=>rfl) h fun B qa w he => ?_
  rw [hx] at he
  obtain ⟨u,v,rfl,hu,hv⟩:=he.two
  exact ⟨_,by rw [hu.v_inv,hv.v_inv]; simp [Builtin.max_,Builtin.max2],.v _⟩
 ·cases hr
end
section
variable {P:Program} {G:Gl} {ops:Array Oper} {o:Oper} {T:List (Nat×EV)} {H H':List EB} {K:KE} {B:Bm} {w:World} {ρ:Operand→Value}
theorem isStrT_of {t:TypeId} (h:isStrT P t=true):P.underlying t=some .string:=by
 unfold isStrT at h
 split at h
 ·assumption
 ·cases h
theorem isSlcT_of {t:TypeId} (h:isSlcT P t=true):∃ e,P.underlying t=some (.slice e):=by
 unfold isSlcT at h
 split at h
 ·exact ⟨_,by assumption⟩
 ·cases h
def bdK (x:Option EV) (d:Int) (K:Int→Prop):Prop :=
 match x with
 | none=>K d
 | some (.v (.int _ e))=>K e
 | some _=>False
theorem bdK_ok {x:Option EV} {d:Int} {K:Int→Prop} (h:bdK x d K):∃ e,K e∧((x=none∧e=d)∨∃ k,x=some (.v (.int k e))):=by
 unfold bdK at h
 split at h
 ·exact ⟨d,h,.inl ⟨rfl,rfl⟩⟩
 ·exact ⟨_,h,.inr ⟨_,rfl⟩⟩
 ·exact h.elim
def optK (T:List (Nat×EV)) (x:Option Operand) (K:Option EV→Prop):Prop:=match x with | none=>K none | some x=>evK T x fun v=>K (some v)
theorem optK_eq (x:Option Operand) (K:Option EV→Prop):optK T x K=K (x.map (ev T)):=by
 cases x with
 | none=>rfl
 | some x=>exact evK_eq T x _
def slcEl (P:Program) (t:TypeId):Option TypeId:=match P.underlying t with | some (.slice el)=>if Nat.blt 0 (P.cellsOf el) then some el else none | _=>none
theorem slcEl_of {t el:TypeId} (h:slcEl P t=some el):P.underlying t=some (.slice el)∧0<P.cellsOf el:=by
 unfold slcEl at h
 split at h
 ·split at h
  ·rename_i hp
   cases h
   exact ⟨by assumption,Nat.le_of_ble_eq_true hp⟩
  ·cases h
 ·cases h
theorem ER.s_inv {L i n:Nat} {z:Bool} {u:Value} (h:ER B (.s L i n z) u):(∃ q c,B L=some q∧n≤c∧0<c∧c≤maxLen∧(i+c)*q.k≤q.sz∧z=false∧u = .slice (some ⟨q.b,i*q.k,none⟩) n c)∨(n=0∧∃ A,u = .slice A 0 0):=by
 cases h with
 | s hq h1 h2 h3 h4=>exact .inl ⟨_,_,hq,h1,h2,h3,h4,rfl,rfl⟩
 | e A=>exact .inr ⟨rfl,A,rfl⟩
def slE (P:Program) (H:List EB) (t:TypeId) (x:EV) (lo hi mx:Option EV) (K:KE):Prop :=
 match x,mx with
 | .v (.string s),none=>br (isStrT P t) (bdK lo 0 fun l=>bdK hi s.size fun h=>(0≤l∧l≤h∧h≤s.size)∧K (.v (.string (s.extract l.toNat h.toNat))) H [] []) False
 | .v (.slice none 0 0),none=>ob (slcEl P t) fun _=>bdK lo 0 fun l=>bdK hi 0 fun h=>(l=0∧h=0)∧K (.v (.slice none 0 0)) H [] []
 | .s L i n z,none=>ob (slcEl P t) fun el=>bdK lo 0 fun l=>bdK hi n fun h=>(0≤l∧l≤h∧h≤n)∧ob H[L]? fun b=>ob (vecT b) fun t'=>br (Nat.beq (P.cellsOf t') (P.cellsOf el)) (K (.s L (i+l.toNat) (h-l).toNat (z&&decide (l=0))) H [L] []) False
 | .s L i _ _,some (.v (.int _ 0))=>ob (slcEl P t) fun _=>match lo,hi with | none,some (.v (.int _ 0))=>K (.s L i 0 true) H [] [] | _,_=>False
 | .v (.slice none 0 0),some (.v (.int _ 0))=>ob (slcEl P t) fun _=>match lo,hi with | none,some (.v (.int _ 0))=>K (.v (.slice none 0 0)) H [] [] | _,_=>False
 | _,_=>False
theorem run_sliceBounds {isSlice:Bool} {len cap:Nat} {lo hi:Option Value} {l h:Int} (hl:lo=none∧l=0∨∃ k,lo=some (.int k l)) (hh:hi=none∧h=len∨∃ k,hi=some (.int k h)) (h0:0≤l) (h1:l≤h) (h2:h≤cap) :
  (Instr.sliceBounds isSlice len cap lo hi none).run P w = .ok (l.toNat,h.toNat,cap) w:=by
 have bd:∀ (k:IntKind) (e:Int) (y:Nat) (c:BoundsCode),0≤e→e≤y→(Instr.sliceBound (.int k e) y c).run P w = .ok e.toNat w:=fun k e y c a b=>by
  simp [Instr.sliceBound,asIntOf,a,b]
 rcases hh with ⟨rfl,rfl⟩ | ⟨k,rfl⟩
 ·rcases hl with ⟨rfl,rfl⟩ | ⟨k',rfl⟩
  ·simp [Instr.sliceBounds]
  ·have:=bd k' l len .sliceB h0 (by omega)
   simp [Instr.sliceBounds,this]
 ·have b1:=fun c=>bd k h cap c (by omega) h2
  rcases hl with ⟨rfl,rfl⟩ | ⟨k',rfl⟩
  ·simp [Instr.sliceBounds,b1]
  ·have:=bd k' l h.toNat .sliceB h0 (by omega)
   simp [Instr.sliceBounds,b1,this]
theorem bd_val {x:Option Operand} {a:Act} {e d:Int} (hx:∀ y,y∈x→ER B (ev T y) (a.eval y)) (h:(x.map (ev T)=none∧e=d)∨∃ k,x.map (ev T)=some (.v (.int k e))):(x.map a.eval=none∧e=d)∨∃ k,x.map a.eval=some (.int k e):=by
 cases x with
 | none =>
  rcases h with ⟨_,h⟩ | ⟨k,h⟩
  ·exact .inl ⟨rfl,h⟩
  ·cases h
 | some y =>
  rcases h with ⟨h,_⟩ | ⟨k,h⟩
  ·cases h
  ·have hy:=hx y rfl
   simp only [Option.map_some,Option.some.injEq] at h
   rw [h] at hy
   exact .inr ⟨k,by simp [hy.v_inv]⟩
theorem Out.slice {t:TypeId} {x:Operand} {lo hi mx:Option Operand} (ho:o.op = .slice t x lo hi mx) (h:slE P H t (ev T x) (lo.map (ev T)) (hi.map (ev T)) (mx.map (ev T)) K):Out P G ops o T H K:=by
 have hx:x∈o.op.operands:=by rw [ho]; simp [Op.operands]
 have hlo:∀ y,y∈lo→y∈o.op.operands:=fun y hy=>by rw [ho]; cases hy; simp [Op.operands]
 have hhi:∀ y,y∈hi→y∈o.op.operands:=fun y hy=>by rw [ho]; cases hy; simp [Op.operands]
 have hmx:∀ y,y∈mx→y∈o.op.operands:=fun y hy=>by rw [ho]; cases hy; simp [Op.operands]
 have hrun:∀ (a:Act) (w:World) (u v:Value),a.eval x=u→(Instr.sliceAt t u (lo.map a.eval) (hi.map a.eval) (mx.map a.eval)).run P w = .ok v w→(execOp a.eval o).run P w = .ok (.value v) w:=fun a w u v hu hr=>by
  unfold execOp
  simp only [ho,hu,Sem.run_bind,hr,Result.andThen_ok,Sem.run_pure]
 unfold slE at h
 split at h
 ·rename_i s hex hmn
  have hm:mx=none:=by cases mx <;> first | rfl | cases hmn
  rcases br_inv h with ⟨hs,h⟩ | ⟨_,h⟩
  ·obtain ⟨l,h,hl⟩:=bdK_ok h
   obtain ⟨hh,h,hhv⟩:=bdK_ok h
   obtain ⟨⟨h0,h1,h2⟩,h⟩:=h
   refine Out.val h fun B a w hxs => ?_
   have hxx:=hxs x hx
   rw [hex] at hxx
   refine ⟨_,hrun a w _ _ hxx.v_inv ?_,.v _⟩
   have hb:=run_sliceBounds (P:=P) (w:=w) (isSlice:=false) (len:=s.size) (cap:=s.size) (bd_val (fun y hy=>hxs y (hlo y hy)) hl) (bd_val (fun y hy=>hxs y (hhi y hy)) hhv) h0 h1 h2
   subst hm
   simp [Instr.sliceAt,Instr.slice,run_underlying (isStrT_of hs),hb]
  ·exact h.elim
 ·rename_i hex hmn
  have hm:mx=none:=by cases mx <;> first | rfl | cases hmn
  obtain ⟨el,hs,h⟩:=ob_inv h
  obtain ⟨hu,hp⟩:=slcEl_of hs
  obtain ⟨l,h,hl⟩:=bdK_ok h
  obtain ⟨hh,h,hhv⟩:=bdK_ok h
  obtain ⟨⟨h0,h1⟩,h⟩:=h
  refine Out.val h fun B a w hxs => ?_
  have hxx:=hxs x hx
  rw [hex] at hxx
  refine ⟨_,hrun a w _ _ hxx.v_inv ?_,.v _⟩
  have hb:=run_sliceBounds (P:=P) (w:=w) (isSlice:=true) (len:=0) (cap:=0) (bd_val (fun y hy=>hxs y (hlo y hy)) hl) (bd_val (fun y hy=>hxs y (hhi y hy)) hhv) (by omega) (by omega) (by omega)
  subst hm h0 h1
  simp [Instr.sliceAt,Instr.slice,run_underlying hu,hb,run_sizeOf' hp]
 ·rename_i L i n z hex hmn
  have hm:mx=none:=by cases mx <;> first | rfl | cases hmn
  obtain ⟨el,hs,h⟩:=ob_inv h
  obtain ⟨hu,hp⟩:=slcEl_of hs
  obtain ⟨l,h,hl⟩:=bdK_ok h
  obtain ⟨hh,h,hhv⟩:=bdK_ok h
  obtain ⟨⟨h0,h1,h2⟩,h⟩:=h
  obtain ⟨b,hb,h⟩:=ob_inv h
  obtain ⟨t',ht',h⟩:=ob_inv h
  rcases br_inv h with ⟨hk,h⟩ | ⟨_,h⟩
  ·have hk:P.cellsOf t'=P.cellsOf el:=Nat.eq_of_beq_eq_true hk
   refine Out.rd h fun S0 w0 B a w g hxs hw hg => ?_
   have h3:=hxs x hx
   rw [hex] at h3
   have hvec:∃ rows,(g L).vec=some (t',rows):=by
    rw [hg,hf_get hb]
    cases b <;> first | (cases ht'; exact ⟨_,rfl⟩) | cases ht'
   obtain ⟨rows,hvec⟩:=hvec
   subst hm
   rcases h3.s_inv with ⟨q,c,hq',hnc,hc0,hcm,hsz,hz,hax⟩ | ⟨hn0,A,hax⟩
   ·have hr:RowsAt P B w q t' rows:=by
     rcases hw.row L t' rows hvec with ⟨q',h,hr⟩ | ⟨_,h⟩
     ·rw [hq'] at h; cases h; exact hr
     ·rw [hq'] at h; cases h
    have hqk:q.k=P.cellsOf el:=hr.1.trans hk
    have hbd:=run_sliceBounds (P:=P) (w:=w) (isSlice:=true) (len:=n) (cap:=c) (bd_val (fun y hy=>hxs y (hlo y hy)) hl) (bd_val (fun y hy=>hxs y (hhi y hy)) hhv) h0 h1 (by omega)
    refine ⟨.slice (if c=l.toNat then some ⟨q.b,i*q.k,none⟩ else some ⟨q.b,(i+l.toNat)*q.k,none⟩) (hh.toNat-l.toNat) (c-l.toNat),hrun a w _ _ hax ?_,?_⟩
    ·simp [Instr.sliceAt,Instr.slice,run_underlying hu,hbd,run_sizeOf' hp]
     by_cases e:c=l.toNat
     ·simp [e]
     ·simp [e,add_mul,Nat.add_mul,hqk]
    ·rw [show (hh-l).toNat=hh.toNat-l.toNat by omega]
     by_cases e:c=l.toNat
     ·rw [show hh.toNat-l.toNat=0 by omega,show c-l.toNat=0 by omega]
      exact .e _
     ·rw [if_neg e,hz]
      exact .s hq' (by omega) (by omega) (by omega) (by rwa [show i+l.toNat+(c-l.toNat)=i+c by omega])
   ·subst hn0
    have hl0:l=0:=by omega
    have hh0:hh=0:=by omega
    subst hl0 hh0
    have hbd:=run_sliceBounds (P:=P) (w:=w) (isSlice:=true) (len:=0) (cap:=0) (bd_val (fun y hy=>hxs y (hlo y hy)) hl) (bd_val (fun y hy=>hxs y (hhi y hy)) hhv) h0 h1 (by omega)
    refine ⟨.slice A 0 0,hrun a w _ _ hax ?_,.e A⟩
    simp [Instr.sliceAt,Instr.slice,run_underlying hu,hbd,run_sizeOf' hp]
  ·exact h.elim
 ·rename_i L i n z kk hex hmn
  obtain ⟨el,hs,h⟩:=ob_inv h
  obtain ⟨hu,hp⟩:=slcEl_of hs
  split at h
  ·rename_i k2 hlo2 hhi2
   refine Out.val h fun B a w hxs => ?_
   have h3:=hxs x hx
   rw [hex] at h3
   have e1:lo.map a.eval=none:=by cases lo <;> first | rfl | cases hlo2
   have e2:hi.map a.eval=some (.int k2 0):=by
    cases hi with
    | none=>cases hhi2
    | some y =>
     have:=hxs y (hhi y rfl)
     simp only [Option.map_some,Option.some.injEq] at hhi2
     rw [hhi2] at this
     simp [this.v_inv]
   have e3:mx.map a.eval=some (.int kk 0):=by
    cases mx with
    | none=>cases hmn
    | some y =>
     have:=hxs y (hmx y rfl)
     simp only [Option.map_some,Option.some.injEq] at hmn
     rw [hmn] at this
     simp [this.v_inv]
   obtain ⟨A,n',c,hax⟩:∃ A n' c,a.eval x = .slice A n' c:=by
    rcases h3.s_inv with ⟨q,c,_,_,_,_,_,_,hax⟩ | ⟨_,A,hax⟩
    ·exact ⟨_,_,_,hax⟩
    ·exact ⟨_,_,_,hax⟩
   refine ⟨.slice A 0 0,hrun a w _ _ hax ?_,.e A⟩
   simp [Instr.sliceAt,Instr.slice,run_underlying hu,e1,e2,e3,Instr.sliceBounds,Instr.sliceBound,asIntOf,run_sizeOf' hp]
  ·exact h.elim
 ·rename_i kk hex hmn
  obtain ⟨el,hs,h⟩:=ob_inv h
  obtain ⟨hu,hp⟩:=slcEl_of hs
  split at h
  ·rename_i k2 hlo2 hhi2
   refine Out.val h fun B a w hxs => ?_
   have h3:=hxs x hx
   rw [hex] at h3
   have e1:lo.map a.eval=none:=by cases lo <;> first | rfl | cases hlo2
   have e2:hi.map a.eval=some (.int k2 0):=by
    cases hi with
    | none=>cases hhi2
    | some y =>
     have:=hxs y (hhi y rfl)
     simp only [Option.map_some,Option.some.injEq] at hhi2
     rw [hhi2] at this
     simp [this.v_inv]
   have e3:mx.map a.eval=some (.int kk 0):=by
    cases mx with
    | none=>cases hmn
    | some y =>
     have:=hxs y (hmx y rfl)
     simp only [Option.map_some,Option.some.injEq] at hmn
     rw [hmn] at this
     simp [this.v_inv]
   refine ⟨_,hrun a w _ _ h3.v_inv ?_,.v _⟩
   simp [Instr.sliceAt,Instr.slice,run_underlying hu,e1,e2,e3,Instr.sliceBounds,Instr.sliceBound,asIntOf,run_sizeOf' hp]
  ·exact h.elim
 ·exact h.elim
end
section
variable {P:Program} {w:World}
def Own0 (w:World) (e size:Nat) (v:Value) (n:Nat) (xs:List Value) (row:Option Nat):Prop :=
 xs.length=n*size∧((∃ A,v = .slice A 0 0∧n=0∧row=none) ∨
  ∃ (g c:Nat) (cur:Array Value),v = .slice (some ⟨g,0,none⟩) n c∧row=some g∧Bf w g e cur∧0<c∧n≤c∧c≤maxLen∧c*size≤cur.size∧∀ (j:Nat) (u:Value),xs[j]? = some u→cur[j]? = some u)
theorem run_append0 (w:World) (t tx ty e:TypeId) (i:TypeInfo) (z:Value) (size bytes:Nat) (ht:P.underlying t=some (.slice e)) (hi:P.info? e=some i) (hz:i.zero=some z)
  (hsize:i.size=size) (hby:i.bytes=bytes) (hzs:z.cells.size=size)
  (v:Value) (n:Nat) (xs:List Value) (row:Option Nat) (hown:Own0 w e size v n xs row)
  (x:Value) (m:Nat) (news:List Value) (hs:Src P size tx x m news w)
  (h63:n+m≤maxLen) (hbytes:(n+m)*bytes≤140737488355328) :
  ∃ v' w' row',(Builtin.append_ #[t,tx] ty #[v,x]).run P w = .ok v' w'∧Own0 w' e size v' (n+m) (xs++news) row'∧Touch row.toList w w'∧NewRow w row row':=by
 subst hsize
 subst hby
 have hlen:(xs++news).length=(n+m)*i.size:=by rw [List.length_append,hown.1,hs.newsLen,Nat.add_mul]
 have hsmall:((n+m:Nat):Int)≤9223372036854775807:=by simp only [maxLen] at h63; omega
 have grow:∀ (A:Option Addr) (c:Nat),v = .slice A n c→c<n+m →
   (Builtin.firstCells i.size n (.slice A n c)).run P w.drew = .ok xs.toArray w.drew →
   ∃ v' w' row',(Builtin.append_ #[t,tx] ty #[v,x]).run P w = .ok v' w'∧Own0 w' e i.size v' (n+m) (xs++news) row'∧Touch row.toList w w'∧NewRow w row row':=by
  rintro A c rfl hc hold
  have hr:=run_append_grow_src (P:=P) w t tx ty e i z ht hi hz A n c xs hold x m news hs hc hsmall (growslice_fits hc hbytes)
  have hge:=grownCap_ge w (n+m) c e
  have hcm:=grownCap_le_maxLen w (n+m) c e h63
  refine ⟨_,_,some w.heap.size,hr,⟨hlen,.inr ⟨w.heap.size,_,_,rfl,rfl,Bf.new w.drew _ _,by omega,hge,hcm,?_,fun j u hu => ?_⟩⟩,((Touch.refl _ w).drew.alloc _),.fresh _ _ (Nat.le_refl _)⟩
  ·simp only [Array.size_append,List.size_toArray,size_zeroCells,hzs,hlen,← Nat.add_mul]
   have:(n+m+(grownCap w (n+m) c e-(n+m)))=grownCap w (n+m) c e:=by omega
   rw [this]; omega
  ·have hj:j<(xs++news).length:=(List.getElem?_eq_some_iff.1 hu).1
   rw [Array.getElem?_append_left (by simpa using hj),List.getElem?_toArray]
   exact hu
 rcases hown.2 with ⟨A,rfl,rfl,rfl⟩ | ⟨g,c,cur,rfl,rfl,hb,hc0,hnc,hcm,hcs,hx⟩
 ·have hx:xs=[]:=List.eq_nil_of_length_eq_zero (by simpa using hown.1)
  subst hx
  by_cases hm0:m=0
  ·subst hm0
   have hnews:news=[]:=List.eq_nil_of_length_eq_zero (by simpa using hs.newsLen)
   subst hnews
   exact ⟨_,_,none,run_append_nothing (P:=P) w t tx ty e i ht hi A 0 0 (Nat.le_refl _) x hs,⟨by simp,.inl ⟨A,rfl,rfl,rfl⟩⟩,Touch.refl _ _,.refl _ _⟩
  refine grow A 0 rfl (by omega) ?_
  cases A with
  | none=>exact run_firstCells_none w.drew i.size 0 0 0
  | some a=>exact run_firstCells_some w.drew i.size 0 a 0 0 [] (by simp) (by intro _ _ h'; simp at h')
 ·by_cases hroom:n+m≤c
  ·have hmul:(n+m)*i.size≤c*i.size:=Nat.mul_le_mul_right _ hroom
   rw [Nat.add_mul] at hmul
   have hnl:=hs.newsLen
   have hr:=run_append_room_src (P:=P) w t tx ty e i ht hi g 0 n c x m news hs hroom
    (fun j hj=>by rw [hb.cell]; rw [Array.getElem?_eq_getElem (by omega)]; rfl)
    (fun j hj=>hb.frozen _ (by omega))
   obtain ⟨cs',h1,h2,h3,h4⟩:=Bf.setCells news (0+n*i.size) w cur hb
   refine ⟨_,_,some g,hr,⟨hlen,.inr ⟨g,c,cs',rfl,rfl,h1,hc0,hroom,hcm,by omega,fun j u hu => ?_⟩⟩,Touch.setCells (by simp) news _ w (Touch.refl _ w),.refl _ _⟩
   by_cases hj:j<xs.length
   ·rw [List.getElem?_append_left hj] at hu
    rw [h3 _ (by rw [hown.1] at hj; omega)]
    exact hx j u hu
   ·rw [List.getElem?_append_right (by omega)] at hu
    have hj2:j-xs.length<news.length:=(List.getElem?_eq_some_iff.1 hu).1
    have:=h4 _ u hu (by omega)
    rwa [show 0+n*i.size+(j-xs.length)=j by rw [hown.1] at *; omega] at this
  ·refine grow _ c rfl (by omega) ?_
   refine run_firstCells_some w.drew i.size n ⟨g,0,none⟩ n c xs hown.1 (fun j u hu => ?_)
   rw [Addr.add_lit]
   have:=(hb.drew.cell j).trans (hx j u hu)
   simpa using this
end
def byR (l:List UInt8):List (List EV):=l.map fun b=>[.v (.int .u8 b.toNat)]
section
variable {P:Program} {G:Gl} {ops:Array Oper} {o:Oper} {T:List (Nat×EV)} {H H':List EB} {K:KE} {B:Bm} {w:World} {ρ:Operand→Value}
theorem RowsAt.cells {q:BI} {t:TypeId} {rows:List (List EV)} (hr:RowsAt P B w q t rows):∃ us:List Value,us.length=rows.length*q.k∧(∀ u∈us,u.oneCell'=true)∧w.rangeAt q.b 0 us∧(∀ (j:Nat) (u:Value),us[j]? = some u→∃ c:Array Value,Bf w q.b t c∧c[j]? = some u) ∧
  ∀ (i:Nat) (row:List EV),rows[i]? = some row→∀ (f:Nat) (x:EV) (u:Value),row[f]? = some x→us[i*q.k+f]? = some u→ER B x u:=by
 obtain ⟨hk,c,hb,hs,hl,hrow⟩:=hr
 refine ⟨c.toList.take (rows.length*q.k),by simp; omega,fun u hu => ?_,fun j v hv => ?_,fun j u hu => ?_,fun i row hi f x u hx hu => ?_⟩
 ·obtain ⟨j,hj,rfl⟩:=List.getElem_of_mem hu
  have hj':j<rows.length*q.k:=by simp at hj; omega
  have hk0:0<q.k:=by
   apply Classical.byContradiction
   intro hn
   rw [show q.k=0 by omega] at hj'
   simp at hj'
  have hi:j/q.k<rows.length:=Nat.div_lt_of_lt_mul (by rwa [Nat.mul_comm])
  obtain ⟨h1,h2⟩:=hrow (j/q.k) _ (List.getElem?_eq_getElem hi)
  have hf:j%q.k<(rows[j/q.k]).length:=by rw [h1]; exact Nat.mod_lt _ hk0
  obtain ⟨v,h3,_,h4⟩:=h2 (j%q.k) _ (List.getElem?_eq_getElem hf)
  rw [show j/q.k*q.k+j%q.k=j by rw [Nat.mul_comm]; exact Nat.div_add_mod j q.k] at h3
  have:(c.toList.take (rows.length*q.k))[j]? = some v:=by
   rw [List.getElem?_take,if_pos hj']
   simpa using h3
  rw [List.getElem?_eq_getElem hj] at this
  cases this
  exact h4
 ·rw [hb.cell]
  rw [List.getElem?_take] at hv
  split at hv
  ·simpa using hv
  ·cases hv
 ·rw [List.getElem?_take] at hu
  split at hu
  ·exact ⟨c,hb,by simpa using hu⟩
  ·cases hu
 ·obtain ⟨h1,h2⟩:=hrow i row hi
  obtain ⟨v,h3,h4,_⟩:=h2 f x hx
  rw [List.getElem?_take] at hu
  split at hu
  ·have:c[i*q.k+f]? = some u:=by simpa using hu
   rw [h3] at this; cases this
   exact h4
  ·cases hu
def killH (h:EH):Option Nat→EH
 | none=>h
 | some L=>updH h L .g
variable {S0:List Nat} {w0 w':World} {h:EH}
theorem Wd.kill (hw:Wd P G S0 w0 B h w) (c:Option Nat) (hc:∀ L,c=some L→(h L).live=true) {S:List Nat} (ht:Touch S w w') (hS:∀ b,b∈S→∃ L q,c=some L∧B L=some q∧q.b=b):Wd P G S0 w0 B (killH h c) w':=by
 have same:∀ L,(killH h c L).live=true→killH h c L=h L∧c≠some L:=fun L hl=>by
  cases c with
  | none=>exact ⟨rfl,by simp⟩
  | some K =>
   by_cases e:L=K
   ·subst e
    have:killH h (some L) L = .g:=by show updH h L .g L = .g; unfold updH; rw [if_pos rfl]
    rw [this] at hl; cases hl
   ·exact ⟨by show updH h K .g L=h L; unfold updH; rw [if_neg e],fun he=>e (by cases he; rfl)⟩
 have far:∀ L q,(killH h c L).live=true→B L=some q→q.b ∉ S:=fun L q hl hq hm=>by
  obtain ⟨K,q',hK,hq',he⟩:=hS _ hm
  obtain ⟨h1,h2⟩:=same L hl
  have:=hw.inj K L q' q (hc K hK) (h1 ▸ hl) hq' hq he
  exact h2 (this ▸ hK)
 refine ⟨hw.t.growS ht fun b hb => ?_,fun L t rows hv => ?_,fun L xo hv => ?_,fun L hv => ?_,fun L t rows hv => ?_,fun L1 L2 q1 q2 h1 h2 => ?_,fun L q hl => ?_,hw.gl⟩
 ·obtain ⟨L,q,hL,hq,rfl⟩:=hS b hb
  exact hw.own L q (hc L hL) hq
 ·have hl:=EB.live_vec hv
  rw [(same L hl).1] at hv
  exact (hw.row L t rows hv).touch ht fun q hq=>far L q hl hq
 ·have hl:(killH h c L).live=true:=by rw [hv]; rfl
  rw [(same L hl).1] at hv
  obtain ⟨q,h1,h2⟩:=hw.mp L xo hv
  exact ⟨q,h1,h2.touch ht (far L q hl h1)⟩
 ·cases c with
  | none=>exact hw.n L hv
  | some K =>
   by_cases e:L=K
   ·subst e
    have:killH h (some L) L = .g:=by show updH h L .g L = .g; unfold updH; rw [if_pos rfl]
    rw [this] at hv; cases hv
   ·have:killH h (some K) L=h L:=by show updH h K .g L=h L; unfold updH; rw [if_neg e]
    rw [this] at hv
    exact hw.n L hv
 ·have hl:(killH h c L).live=true:=by rw [hv]; rfl
  rw [(same L hl).1] at hv
  exact hw.pl L t rows hv
 ·have e1:=(same L1 h1).1
  have e2:=(same L2 h2).1
  rw [e1] at h1; rw [e2] at h2
  exact hw.inj L1 L2 q1 q2 h1 h2
 ·have e1:=(same L hl).1
  rw [e1] at hl
  exact hw.own L q hl
theorem Wd.more (hw:Wd P G S0 w0 B h w) {L:Nat} {q:BI} (hL:h L = .n) (hfar:∀ L' q',(h L').live=true→B L'=some q'→q'.b≠q.b) (hown:q.b∈S0∨w0.heap.size≤q.b) (x:EB) (hx:x ≠ .n)
  (hr:∀ t rows,x.vec=some (t,rows)→RowsAt P (B.set L q) w q t rows) (hm:∀ xo,x = .o xo→ObjAt (B.set L q) w q xo) (hp:∀ t rows,x = .rs t rows→plainR rows):Wd P G S0 w0 (B.set L q) (updH h L x) w:=by
 have hle:B.le (B.set L q):=Bm.le_set (hw.n L hL)
 have at_:∀ L',L'≠L→updH h L x L'=h L':=fun L' hne=>by unfold updH; rw [if_neg hne]
 have atB:∀ L',L'≠L→B.set L q L'=B L':=fun L' hne=>by unfold Bm.set; rw [if_neg hne]
 have self:updH h L x L=x:=by unfold updH; rw [if_pos rfl]
 refine ⟨hw.t,fun L' t rows hv => ?_,fun L' xo hv => ?_,fun L' hv => ?_,fun L' t rows hv => ?_,fun L1 L2 q1 q2 h1 h2 e1 e2 e => ?_,fun L' q' hl' hq' => ?_,hw.gl⟩
 ·by_cases e:L'=L
  ·subst e; rw [self] at hv; exact .inl ⟨q,Bm.set_self _ _ _,hr t rows hv⟩
  ·rw [at_ L' e] at hv
   exact (hw.row L' t rows hv).mono hle fun _ hn=>by rw [atB L' e]; exact hn
 ·by_cases e:L'=L
  ·subst e; rw [self] at hv; exact ⟨q,Bm.set_self _ _ _,hm xo hv⟩
  ·rw [at_ L' e] at hv
   obtain ⟨q',h1,h2⟩:=hw.mp L' xo hv
   exact ⟨q',hle _ _ h1,h2.mono hle⟩
 ·by_cases e:L'=L
  ·subst e; rw [self] at hv; exact absurd hv hx
  ·rw [at_ L' e] at hv; rw [atB L' e]; exact hw.n L' hv
 ·by_cases e:L'=L
  ·subst e; rw [self] at hv; exact hp t rows hv
  ·rw [at_ L' e] at hv; exact hw.pl L' t rows hv
 ·by_cases i1:L1=L
  ·by_cases i2:L2=L
   ·rw [i1,i2]
   ·exfalso
    subst i1
    rw [Bm.set_self] at e1; cases e1
    rw [at_ L2 i2] at h2; rw [atB L2 i2] at e2
    exact hfar L2 q2 h2 e2 e.symm
  ·by_cases i2:L2=L
   ·exfalso
    subst i2
    rw [Bm.set_self] at e2; cases e2
    rw [at_ L1 i1] at h1; rw [atB L1 i1] at e1
    exact hfar L1 q1 h1 e1 e
   ·rw [at_ L1 i1] at h1; rw [at_ L2 i2] at h2; rw [atB L1 i1] at e1; rw [atB L2 i2] at e2
    exact hw.inj L1 L2 q1 q2 h1 h2 e1 e2 e
 ·by_cases e:L'=L
  ·subst e
   rw [Bm.set_self] at hq'; cases hq'
   exact hown
  ·rw [at_ L' e] at hl'; rw [atB L' e] at hq'
   exact hw.own L' q' hl' hq'
theorem Wd.none_ (hw:Wd P G S0 w0 B h w) {L:Nat} (hL:h L = .n) (x:EB) {t:TypeId} (hx:x = .rs t []∨x = .rv t []):Wd P G S0 w0 B (updH h L x) w:=by
 have hB:=hw.n L hL
 have at_:∀ L',L'≠L→updH h L x L'=h L':=fun L' hne=>by unfold updH; rw [if_neg hne]
 have self:updH h L x L=x:=by unfold updH; rw [if_pos rfl]
 have lv:∀ L' q',(updH h L x L').live=true→B L'=some q'→L'≠L∧(h L').live=true:=fun L' q' hl hq=>by
  have:L'≠L:=fun e=>by rw [e,hB] at hq; cases hq
  rw [at_ L' this] at hl
  exact ⟨this,hl⟩
 refine ⟨hw.t,fun L' t' rows hv => ?_,fun L' xo hv => ?_,fun L' hv => ?_,fun L' t' rows hv => ?_,fun L1 L2 q1 q2 h1 h2 e1 e2=>hw.inj L1 L2 q1 q2 (lv L1 q1 h1 e1).2 (lv L2 q2 h2 e2).2 e1 e2,fun L' q' hl hq=>hw.own L' q' (lv L' q' hl hq).2 hq,hw.gl⟩
 ·by_cases e:L'=L
  ·subst e
   rw [self] at hv
   rcases hx with rfl | rfl <;> cases hv <;> exact .inr ⟨rfl,hB⟩
  ·rw [at_ L' e] at hv; exact hw.row L' t' rows hv
 ·by_cases e:L'=L
  ·subst e
   rw [self] at hv
   rcases hx with rfl | rfl <;> cases hv
  ·rw [at_ L' e] at hv; exact hw.mp L' xo hv
 ·by_cases e:L'=L
  ·subst e
   rw [self] at hv
   rcases hx with rfl | rfl <;> cases hv
  ·rw [at_ L' e] at hv; exact hw.n L' hv
 ·by_cases e:L'=L
  ·subst e
   rw [self] at hv
   rcases hx with rfl | rfl <;> cases hv
   intro row hm
   cases hm
  ·rw [at_ L' e] at hv; exact hw.pl L' t' rows hv
end
section
variable {P:Program} {G:Gl} {ops:Array Oper} {o:Oper} {T:List (Nat×EV)} {H H':List EB} {K:KE} {B:Bm} {w:World} {ρ:Operand→Value} {S0:List Nat} {w0:World} {g:EH}
def srcK (P:Program) (H:List EB) (tx:TypeId) (k:Nat) (x:EV) (K:Nat→List (List EV)→Bool→List Nat→Prop):Prop :=
 match x with
 | .v (.string s)=>br (isStrT P tx&&Nat.beq k 1) (K s.size (byR s.data.toList) true []) False
 | .v (.slice none 0 0)=>br (isSlcT P tx) (K 0 [] true []) False
 | .s L i m _=>br (isSlcT P tx) (ob H[L]? fun b =>
  match b with
  | .rs t' rows=>br (Nat.beq (P.cellsOf t') k) ((i=0∧m=rows.length)∧K m rows true [L]) False
  | .rv t' rows=>br (Nat.beq (P.cellsOf t') k) ((i=0∧m=rows.length)∧K m rows false [L]) False
  | _=>False) False
 | _=>False
theorem byR_plain (l:List UInt8):plainR (byR l):=fun row hm x hx=>by
 obtain ⟨b,_,rfl⟩:=List.mem_map.1 hm
 rw [List.mem_singleton.1 hx]
 exact ⟨_,rfl⟩
theorem srcK_ok {tx:TypeId} {k:Nat} {x:EV} {K:Nat→List (List EV)→Bool→List Nat→Prop} (h:srcK P H tx k x K):∃ m1 rows pl F,K m1 rows pl F∧m1=rows.length ∧
  ∀ (S0:List Nat) (w0:World) (B:Bm) (w:World) (g:EH) (xv:Value),ER B x xv→Wd P G S0 w0 B g w→(∀ L,L∈F→g L=hf H L) →
   (pl=true→plainR rows)∧(∀ row,row∈rows→row.length=k)∧∃ news,Src P k tx xv m1 news w∧∀ (i:Nat) (row:List EV),rows[i]? = some row→∀ (f:Nat) (y:EV) (u:Value),row[f]? = some y→news[i*k+f]? = some u→ER B y u:=by
 unfold srcK at h
 split at h
 ·rename_i s
  rcases br_inv h with ⟨hc,h2⟩ | ⟨_,h2⟩
  ·obtain ⟨hs,hk⟩:=Bool.and_eq_true_iff.1 hc
   have hk:k=1:=Nat.eq_of_beq_eq_true hk
   subst hk
   refine ⟨_,_,_,_,h2,by simp [byR],fun S0 w0 B w g xv hx hw _=>⟨fun _=>byR_plain _,fun row hm => ?_,byteCells s,?_,fun i row hi f y u hy hu => ?_⟩⟩
   ·obtain ⟨b,_,rfl⟩:=List.mem_map.1 hm; rfl
   ·rw [hx.v_inv]; exact Src.ofString w (isStrT_of hs) s
   ·unfold byR at hi
    rw [List.getElem?_map] at hi
    obtain ⟨b,hb,rfl⟩:=Option.map_eq_some_iff.1 hi
    match f,hy with
    | 0,hy =>
     cases hy
     unfold byteCells at hu
     rw [Nat.mul_one,Nat.add_zero,List.getElem?_map,hb] at hu
     cases hu
     exact .v _
    | f+1,hy=>simp at hy
  ·exact h2.elim
 ·rcases br_inv h with ⟨hs,h⟩ | ⟨_,h⟩
  ·obtain ⟨e',hu⟩:=isSlcT_of hs
   exact ⟨_,_,_,_,h,rfl,fun S0 w0 B w g xv hx hw _=>⟨fun _ row hm=>(by cases hm),fun row hm=>(by cases hm),[],by rw [hx.v_inv]; exact Src.ofNil w hu 0,fun i row hi=>by simp at hi⟩⟩
  ·exact h.elim
 ·rename_i L i m z
  rcases br_inv h with ⟨hs,h⟩ | ⟨_,h⟩
  ·obtain ⟨e',hu⟩:=isSlcT_of hs
   obtain ⟨b,hb,h⟩:=ob_inv h
   have base:∀ (t':TypeId) (rows:List (List EV)) (pl:Bool),b.vec=some (t',rows)→(pl=true→b = .rs t' rows)→P.cellsOf t'=k→i=0→m=rows.length→K m rows pl [L]→∃ m1 rows pl F,K m1 rows pl F∧m1=rows.length ∧
     ∀ (S0:List Nat) (w0:World) (B:Bm) (w:World) (g:EH) (xv:Value),ER B (.s L i m z) xv→Wd P G S0 w0 B g w→(∀ L,L∈F→g L=hf H L) →
      (pl=true→plainR rows)∧(∀ row,row∈rows→row.length=k)∧∃ news,Src P k tx xv m1 news w∧∀ (i:Nat) (row:List EV),rows[i]? = some row→∀ (f:Nat) (y:EV) (u:Value),row[f]? = some y→news[i*k+f]? = some u→ER B y u:=fun t' rows pl hv hpl hk hi hm hK=>by
    refine ⟨m,rows,pl,[L],hK,hm,fun S0 w0 B w g xv hx hw hg => ?_⟩
    have hgL:g L=b:=(hg L (by simp)).trans (hf_get hb)
    have hp:pl=true→plainR rows:=fun hp=>hw.pl L t' rows (by rw [hgL,hpl hp])
    have hrow:=hw.row L t' rows (by rw [hgL]; exact hv)
    have hlen:∀ row,row∈rows→row.length=k:=fun row hmem=>by
     obtain ⟨j,hj⟩:=List.mem_iff_getElem?.1 hmem
     obtain ⟨q,_,hr⟩:=hrow.here hj
     obtain ⟨hk',_,_,_,_,hrr⟩:=hr
     rw [(hrr j row hj).1,hk',hk]
    refine ⟨hp,hlen,?_⟩
    rcases hx.s_inv with ⟨q,c,hq,hnc,hc0,hcm,hsz,hz,rfl⟩ | ⟨hm0,A,rfl⟩
    ·have hr:RowsAt P B w q t' rows:=by
      rcases hrow with ⟨q',h,hr⟩ | ⟨_,h⟩
      ·rw [hq] at h; cases h; exact hr
      ·rw [hq] at h; cases h
     have hqk:q.k=k:=hr.1.trans hk
     obtain ⟨us,u1,u2,u3,u4,u5⟩:=hr.cells
     refine ⟨us,Src.ofSlice w hu _ m c us (by rw [u1,hm,hqk]) (fun j u hj => ?_) u2,fun i row hi f y u hy hu=>u5 i row hi f y u hy (by rw [hqk]; exact hu)⟩
     have:=u3 j u hj
     subst hi
     rw [Addr.add_lit]
     simpa using this
    ·subst hm0
     have:rows=[]:=List.eq_nil_of_length_eq_zero hm.symm
     subst this
     refine ⟨[],?_,fun i row hi=>by simp at hi⟩
     cases A with
     | none=>exact Src.ofNil w hu 0
     | some a=>exact Src.ofSlice w hu a 0 0 [] (by simp) (fun j u hj=>by simp at hj) (fun u hu=>by cases hu)
   cases b with
   | rs t' rows =>
    rcases br_inv h with ⟨hk,h⟩ | ⟨_,h⟩
    ·obtain ⟨⟨h1,h2⟩,h⟩:=h
     exact base t' rows true rfl (fun _=>rfl) (Nat.eq_of_beq_eq_true hk) h1 h2 h
    ·exact h.elim
   | rv t' rows =>
    rcases br_inv h with ⟨hk,h⟩ | ⟨_,h⟩
    ·obtain ⟨⟨h1,h2⟩,h⟩:=h
     exact base t' rows false rfl (fun e=>by cases e) (Nat.eq_of_beq_eq_true hk) h1 h2 h
    ·exact h.elim
   | _=>exact h.elim
  ·exact h.elim
 ·exact h.elim
def baseK (H:List EB) (el:TypeId) (s:EV) (K:Nat→List (List EV)→Bool→Option Nat→Prop):Prop :=
 match s with
 | .v (.slice none 0 0)=>K 0 [] true none
 | .s L i n z =>
  match z with
  | true=>(match n with | 0=>K 0 [] true none | _=>False)
  | false=>(match i with
   | 0=>ob H[L]? fun b =>
    match b with
    | .rs t' rows=>br (Nat.beq t' el) (n=rows.length∧K n rows true (some L)) False
    | .rv t' rows=>br (Nat.beq t' el) (n=rows.length∧K n rows false (some L)) False
    | _=>False
   | _=>False)
 | _=>False
theorem baseK_ok {el:TypeId} {s:EV} {K:Nat→List (List EV)→Bool→Option Nat→Prop} (h:baseK H el s K):∃ n rows pl c,K n rows pl c∧n=rows.length ∧
  ((c=none∧n=0∧pl=true∧∀ (B:Bm) (u:Value),ER B s u→∃ A,u = .slice A 0 0)∨∃ L b,c=some L∧s = .s L 0 n false∧H[L]? = some b∧b.vec=some (el,rows)∧(pl=true→b = .rs el rows)):=by
 unfold baseK at h
 split at h
 ·exact ⟨_,_,_,_,h,rfl,.inl ⟨rfl,rfl,rfl,fun B u hu=>⟨none,hu.v_inv⟩⟩⟩
 ·rename_i L i n z
  cases z with
  | true =>
   cases n with
   | zero =>
    exact ⟨_,_,_,_,h,rfl,.inl ⟨rfl,rfl,rfl,fun B u hu=>by
     rcases hu.s_inv with ⟨_,_,_,_,_,_,_,hz,_⟩ | ⟨_,A,hA⟩
     ·cases hz
     ·exact ⟨A,hA⟩⟩⟩
   | succ n=>exact h.elim
  | false =>
   cases i with
   | succ i=>exact h.elim
   | zero =>
    obtain ⟨b,hb,h2⟩:=ob_inv h
    cases b with
    | rs t' rows =>
     rcases br_inv h2 with ⟨hk,h3⟩ | ⟨_,h3⟩
     ·have hk:t'=el:=Nat.eq_of_beq_eq_true hk
      subst hk
      exact ⟨_,_,_,_,h3.2,h3.1,.inr ⟨L,_,rfl,rfl,hb,rfl,fun _=>rfl⟩⟩
     ·exact h3.elim
    | rv t' rows =>
     rcases br_inv h2 with ⟨hk,h3⟩ | ⟨_,h3⟩
     ·have hk:t'=el:=Nat.eq_of_beq_eq_true hk
      subst hk
      exact ⟨_,_,_,_,h3.2,h3.1,.inr ⟨L,_,rfl,rfl,hb,rfl,fun e=>by cases e⟩⟩
     ·exact h3.elim
    | _=>exact h2.elim
 ·exact h.elim
def joinK (el:TypeId) (rows rows':List (List EV)) (pl:Bool) (K:EB→Prop):Prop :=
 match pl with
 | true=>K (.rs el (rows++rows'))
 | false=>appK rows rows' fun l=>K (.rv el l)
theorem joinK_eq {el:TypeId} {rows rows':List (List EV)} {pl:Bool} {K:EB→Prop}:joinK el rows rows' pl K=K (if pl then .rs el (rows++rows') else .rv el (rows++rows')):=by
 cases pl with
 | true=>rfl
 | false=>exact appK_eq rows rows' _
def goneK (H:List EB) (c:Option Nat) (K:List EB→Prop):Prop:=match c with | none=>K H | some L=>setK H L .g K
def smallT (P:Program) (el:TypeId):Bool:=match P.info? el with | some i=>Nat.ble i.bytes 256&&(match i.zero with | some z=>Nat.beq z.cells.size i.size | none=>false) | none=>false
def apK (P:Program) (H:List EB) (ts:Array TypeId) (s x:EV) (K:KE):Prop :=
 ob ts[0]? fun t=>ob ts[1]? fun tx=>br (Nat.beq ts.size 2) (ob (slcEl P t) fun el=>br (smallT P el) (srcK P H tx (P.cellsOf el) x fun m rows pl F=>baseK H el s fun n rows0 pl0 c =>
  (n+m≤549755813888∧∀ L,c=some L→L ∉ F)∧joinK el rows0 rows (pl0&&pl) fun b=>goneK H c fun H1=>newK H1 b fun L' H2=>K (.s L' 0 (n+m) false) H2 (c.toList++L'::F) (c.toList++[L'])) False) False
theorem goneK_eq {c:Option Nat} {K:List EB→Prop}:goneK H c K=K (match c with | none=>H | some L=>H.set L .g):=by
 cases c with
 | none=>rfl
 | some L=>exact setK_eq _ _ _ _
theorem smallT_of {el:TypeId} (h:smallT P el=true):∃ i z,P.info? el=some i∧i.zero=some z∧z.cells.size=i.size∧i.bytes≤256∧i.size=P.cellsOf el:=by
 unfold smallT at h
 split at h
 ·rename_i i hi
  obtain ⟨h1,h2⟩:=Bool.and_eq_true_iff.1 h
  split at h2
  ·rename_i z hz
   exact ⟨i,z,hi,hz,Nat.eq_of_beq_eq_true h2,Nat.le_of_ble_eq_true h1,by unfold Program.cellsOf; rw [hi]; rfl⟩
  ·cases h2
 ·cases h
theorem Out.append {s x:Operand} {xs:Array Operand} {ts:Array TypeId} (hxs:xs = #[s,x]) (ho:o.op = .call { callee := .builtin .append,args:=xs,argTypes:=ts }) (h:apK P H ts (ev T s) (ev T x) K):Out P G ops o T H K:=by
 subst hxs
 unfold apK at h
 obtain ⟨t,ht,h⟩:=ob_inv h
 obtain ⟨tx,htx,h⟩:=ob_inv h
 rcases br_inv h with ⟨hts,h⟩ | ⟨_,h⟩
 rotate_left
 ·exact h.elim
 have hts2:ts = #[t,tx]:=by
  have hsz:ts.size=2:=Nat.eq_of_beq_eq_true hts
  refine Array.ext (by simpa using hsz) fun i h1 h2 => ?_
  match i,h1 with
  | 0,h1=>rw [Array.getElem?_eq_getElem (by omega)] at ht; simpa using ht
  | 1,h1=>rw [Array.getElem?_eq_getElem (by omega)] at htx; simpa using htx
  | i+2,h1=>omega
 subst hts2
 obtain ⟨el,hel,h⟩:=ob_inv h
 obtain ⟨hu,hp⟩:=slcEl_of hel
 rcases br_inv h with ⟨hsm,h⟩ | ⟨_,h⟩
 rotate_left
 ·exact h.elim
 obtain ⟨i,z,hi,hz,hzs,hby,hisz⟩:=smallT_of hsm
 obtain ⟨m,rows,pl,F,h,hm,hsrc⟩:=srcK_ok (P:=P) (G:=G) h
 obtain ⟨n,rows0,pl0,c,h,hn,hbase⟩:=baseK_ok h
 obtain ⟨⟨hnm,hcF⟩,h⟩:=h
 rw [joinK_eq,goneK_eq,newK_eq] at h
 obtain ⟨blk,hblk⟩:∃ blk,blk=if (pl0&&pl)=true then EB.rs el (rows0++rows) else EB.rv el (rows0++rows):=⟨_,rfl⟩
 rw [← hblk] at h
 have hbv:blk.vec=some (el,rows0++rows):=by rw [hblk]; split <;> rfl
 have hbn:blk ≠ .n:=by rw [hblk]; split <;> simp
 have hbm:∀ xo,blk ≠ .o xo:=fun xo=>by rw [hblk]; split <;> simp
 obtain ⟨H1,hH1⟩:∃ H1,H1=(match c with | none=>H | some L=>H.set L .g):=⟨_,rfl⟩
 rw [← hH1] at h
 have hl1:H1.length=H.length:=by rw [hH1]; cases c <;> simp
 have hf1:hf H1=killH (hf H) c:=by
  rw [hH1]
  cases c with
  | none=>rfl
  | some L =>
   refine hf_set ?_ _
   rcases hbase with ⟨hc,_⟩ | ⟨L',b,hc,_,hb,_⟩
   ·cases hc
   ·cases hc; exact (List.getElem?_eq_some_iff.1 hb).1
 have hf2:hf (H1++[blk])=updH (killH (hf H) c) H.length blk:=by rw [hf_app,hf1,hl1]
 have hcl:∀ L,c=some L→L<H.length:=fun L hc=>by
  rcases hbase with ⟨hc',_⟩ | ⟨L',b,hc',_,hb,_⟩
  ·rw [hc] at hc'; cases hc'
  ·rw [hc] at hc'; cases hc'; exact (List.getElem?_eq_some_iff.1 hb).1
 have inW:∀ (g:EH) (L:Nat),(if L∈c.toList++[H.length] then updH (killH (hf H) c) H.length blk L else g L)=updH (killH g c) H.length blk L:=fun g L=>by
  unfold updH
  by_cases e:L=H.length
  ·subst e; simp
  ·cases c with
   | none=>simp [e,killH]
   | some K =>
    by_cases e2:L=K
    ·subst e2; simp [killH,updH,e]
    ·simp [killH,updH,e,e2]
 rw [hl1] at h
 refine ⟨_,_,_,_,h,St.of fun S0 w0 B a w g hxs hw hg => ?_,by rw [hf2]; exact funext fun L=>(inW (hf H) L).symm⟩
 have hs':=hxs s (by rw [ho]; simp [Op.operands,Call.operands])
 have hx':=hxs x (by rw [ho]; simp [Op.operands,Call.operands])
 obtain ⟨hpl,hlen,news,hsr,hrel⟩:=hsrc S0 w0 B w g _ hx' hw fun L hL=>hg L (by simp [hL])
 have hgc:∀ L,c=some L→g L=hf H L:=fun L hc=>hg L (by simp [hc])
 have hgN:g H.length = .n:=(hg H.length (by simp)).trans (hf_n H)
 have hown:∃ xs row,Own0 w el i.size (a.eval s) n xs row∧(∀ b,b∈row.toList→∃ L q,c=some L∧B L=some q∧q.b=b)∧(pl0=true→plainR rows0)∧(∀ r,r∈rows0→r.length=i.size)∧(∀ u,u∈xs→u.oneCell'=true)∧∀ (j:Nat) (row:List EV),rows0[j]? = some row→∀ (f:Nat) (y:EV) (u:Value),row[f]? = some y→xs[j*i.size+f]? = some u→ER B y u:=by
  rcases hbase with ⟨rfl,hn0,_,hA⟩ | ⟨L,b,rfl,hes,hb,hv,hb'⟩
  ·have hr0:rows0=[]:=List.eq_nil_of_length_eq_zero (by omega)
   subst hr0
   obtain ⟨A,hA⟩:=hA B _ hs'
   exact ⟨[],none,⟨by simp [hn0],.inl ⟨A,by rw [hA],hn0,rfl⟩⟩,fun b hb=>by simp at hb,fun _ row hm=>(by cases hm),fun r hm=>(by cases hm),fun u hu=>(by cases hu),fun j row hj=>by simp at hj⟩
  ·rw [hes] at hs'
   have hgL:g L=b:=(hgc L rfl).trans (hf_get hb)
   have hrow:=hw.row L el rows0 (by rw [hgL]; exact hv)
   have hpl0:pl0=true→plainR rows0:=fun e=>hw.pl L el rows0 (by rw [hgL,hb' e])
   have hlen0:∀ r,r∈rows0→r.length=i.size:=fun r hm=>by
    obtain ⟨j,hj⟩:=List.mem_iff_getElem?.1 hm
    obtain ⟨q,_,hr⟩:=hrow.here hj
    obtain ⟨hk',_,_,_,_,hrr⟩:=hr
    rw [(hrr j r hj).1,hk',hisz]
   rcases hs'.s_inv with ⟨q,cc,hq,hnc,hc0,hcm,hsz,_,hv2⟩ | ⟨hn0,A,hv2⟩
   ·have hr:RowsAt P B w q el rows0:=by
     rcases hrow with ⟨q',h,hr⟩ | ⟨_,h⟩
     ·rw [hq] at h; cases h; exact hr
     ·rw [hq] at h; cases h
    have hqk:q.k=i.size:=hr.1.trans hisz.symm
    obtain ⟨us,u1,u2,u3,u4,u5⟩:=hr.cells
    obtain ⟨_,cur,hbk,hcs,_,_⟩:=id hr
    refine ⟨us,some q.b,⟨by rw [u1,hn,hqk],.inr ⟨q.b,cc,cur,by rw [hv2]; simp,rfl,hbk,hc0,hnc,hcm,by rw [hcs,← hqk]; simpa using hsz,fun j u hj => ?_⟩⟩,fun b hb => ?_,hpl0,hlen0,u2,fun j row hj f y u hy hu=>u5 j row hj f y u hy (by rw [hqk]; exact hu)⟩
    ·obtain ⟨c2,hb2,hj2⟩:=u4 j u hj
     rw [(hbk.uniq hb2).1]
     exact hj2
    ·simp at hb
     exact ⟨L,q,rfl,hq,hb.symm⟩
   ·have hr0:rows0=[]:=List.eq_nil_of_length_eq_zero (by omega)
    subst hr0
    exact ⟨[],none,⟨by simp [hn0],.inl ⟨A,hv2,hn0,rfl⟩⟩,fun b hb=>by simp at hb,hpl0,hlen0,fun u hu=>(by cases hu),fun j row hj=>by simp at hj⟩
 obtain ⟨xs,row,hown,hrowS,hpl0,hlen0,hone0,hrel0⟩:=hown
 have hbytes:(n+m)*i.bytes≤140737488355328:=by
  have:=Nat.mul_le_mul hnm hby
  omega
 obtain ⟨v',w',row',hrun,hown',ht,hnew⟩:=run_append0 (P:=P) w t tx o.type el i z i.size i.bytes hu hi hz rfl rfl hzs _ n xs row hown _ m news (by rw [hisz]; exact hsr) (by simp only [maxLen]; omega) hbytes
 have hexec:(execOp a.eval o).run P w = .ok (.value v') w':=by
  unfold execOp
  simp only [ho,resolve,invoke,builtin,Sem.run_bind,Sem.run_pure,Result.andThen_ok,List.map_toArray,List.map_cons,List.map_nil,hrun]
 have hplain:∀ t rows',blk = .rs t rows'→plainR rows':=fun t rows' he=>by
  rw [hblk] at he
  split at he
  ·rename_i hpp
   cases he
   obtain ⟨p1,p2⟩:=Bool.and_eq_true_iff.1 hpp
   intro r hm
   rcases List.mem_append.1 hm with hm | hm
   ·exact hpl0 p1 r hm
   ·exact hpl p2 r hm
  ·cases he
 have hkill:=hw.kill c (fun L hc=>by
  rw [hgc L hc]
  rcases hbase with ⟨hc',_⟩ | ⟨L',b,hc',_,hb,hv,_⟩
  ·rw [hc] at hc'; cases hc'
  ·rw [hc] at hc'; cases hc'
   rw [hf_get hb]
   exact EB.live_vec hv) ht hrowS
 have hkN:killH g c H.length = .n:=by
  cases c with
  | none=>exact hgN
  | some L =>
   have:=hcl L rfl
   show updH g L .g H.length = .n
   unfold updH
   rw [if_neg (by omega)]
   exact hgN
 have hlen2:∀ r,r∈rows0++rows→r.length=i.size:=fun r hm=>by
  rcases List.mem_append.1 hm with hm | hm
  ·exact hlen0 r hm
  ·rw [hisz]; exact hlen r hm
 have fin:∀ B',Wd P G S0 w0 B' (updH (killH g c) H.length blk) w'→Wd P G S0 w0 B' (fun L=>if L∈c.toList++[H.length] then hf (H1++[blk]) L else g L) w':=fun B' hwd=>hwd.cast (funext fun L=>by rw [hf2]; exact (inW g L).symm)
 rcases hown'.2 with ⟨A,rfl,hz0,rfl⟩ | ⟨g',cc,cur,rfl,rfl,hbk,hc0,hnc,hcm,hcs,hcur⟩
 ·have hr0:rows0++rows=[]:=List.eq_nil_of_length_eq_zero (by rw [List.length_append,← hn,← hm]; exact hz0)
  refine ⟨B,.slice A 0 0,w',_,hexec,.inl rfl,Bm.le.refl _,by rw [hz0]; exact .e A,fin B (hkill.none_ hkN blk (t:=el) ?_)⟩
  rw [hblk,hr0]
  split
  ·exact .inl rfl
  ·exact .inr rfl
 ·have hq:∀ L' q',(killH g c L').live=true→B L'=some q'→q'.b≠g':=fun L' q' hl hq' he=>by
   rcases hnew g' rfl with h1 | h1
   ·obtain ⟨L,q,hc,hqq,hqb⟩:=hrowS g' (by rw [h1]; simp)
    have hne:L'≠L:=fun e=>by
     subst e
     subst hc
     have:killH g (some L') L' = .g:=by show updH g L' .g L' = .g; unfold updH; rw [if_pos rfl]
     rw [this] at hl; cases hl
    have hgl:killH g c L'=g L':=by
     subst hc
     show updH g L .g L'=g L'
     unfold updH
     rw [if_neg hne]
    rw [hgl] at hl
    refine hne (hw.inj L' L q' q hl ?_ hq' hqq (he.trans hqb.symm))
    rw [hgc L hc]
    rcases hbase with ⟨hc',_⟩ | ⟨L2,b,hc',_,hb,hv,_⟩
    ·rw [hc] at hc'; cases hc'
    ·rw [hc] at hc'; cases hc'
     rw [hf_get hb]
     exact EB.live_vec hv
   ·have hgl:(g L').live=true:=by
     cases c with
     | none=>exact hl
     | some L =>
      by_cases e:L'=L
      ·subst e
       have:killH g (some L') L' = .g:=by show updH g L' .g L' = .g; unfold updH; rw [if_pos rfl]
       rw [this] at hl; cases hl
      ·have:killH g (some L) L'=g L':=by show updH g L .g L'=g L'; unfold updH; rw [if_neg e]
       rw [this] at hl
       exact hl
    have:=hw.live hgl hq'
    omega
  have hownb:g'∈S0∨w0.heap.size≤g':=by
   rcases hnew g' rfl with h1 | h1
   ·obtain ⟨L,q,hc,hqq,hqb⟩:=hrowS g' (by rw [h1]; simp)
    rw [← hqb]
    refine hw.own L q ?_ hqq
    rw [hgc L hc]
    rcases hbase with ⟨hc',_⟩ | ⟨L2,b,hc',_,hb,hv,_⟩
    ·rw [hc] at hc'; cases hc'
    ·rw [hc] at hc'; cases hc'
     rw [hf_get hb]
     exact EB.live_vec hv
   ·exact .inr (Nat.le_trans hw.t.size h1)
  have hle:B.le (B.set H.length ⟨g',i.size,cur.size⟩):=Bm.le_set (hw.n _ hgN)
  refine ⟨B.set H.length ⟨g',i.size,cur.size⟩,_,w',_,hexec,.inl rfl,hle,?_,fin _ (hkill.more (q:=⟨g',i.size,cur.size⟩) hkN hq hownb blk hbn (fun t2 rows2 hv2 => ?_) (fun xo he=>absurd he (hbm xo)) hplain)⟩
  ·have:=ER.s (B:=B.set H.length ⟨g',i.size,cur.size⟩) (i:=0) (Bm.set_self _ _ _) hnc hc0 hcm (by simpa using hcs)
   simpa using this
  ·rw [hbv] at hv2
   cases hv2
   have hll:(rows0++rows).length=n+m:=by rw [List.length_append,← hn,← hm]
   refine ⟨hisz,cur,hbk,rfl,?_,fun j r hj=>⟨hlen2 r (List.mem_of_getElem? hj),fun f y hy => ?_⟩⟩
   ·rw [hll]
    exact Nat.le_trans (Nat.mul_le_mul_right _ hnc) hcs
   ·have hfl:f<i.size:=by
     rw [← hlen2 r (List.mem_of_getElem? hj)]
     exact (List.getElem?_eq_some_iff.1 hy).1
    have hjl:j<n+m:=by rw [← hll]; exact (List.getElem?_eq_some_iff.1 hj).1
    have hidx:j*i.size+f<(xs++news).length:=by
     rw [hown'.1]
     have:=Nat.mul_le_mul_right i.size hjl
     rw [Nat.succ_mul] at this
     omega
    have hget:(xs++news)[j*i.size+f]? = some (xs++news)[j*i.size+f]:=List.getElem?_eq_getElem hidx
    refine ⟨_,hcur _ _ hget,?_,?_⟩
    ·refine ER.mono hle ?_
     by_cases hj0:j<rows0.length
     ·rw [List.getElem?_append_left hj0] at hj
      have hlx:j*i.size+f<xs.length:=by
       rw [hown.1,hn]
       have:=Nat.mul_le_mul_right i.size hj0
       rw [Nat.succ_mul] at this
       omega
      rw [List.getElem?_append_left hlx] at hget
      exact hrel0 j r hj f y _ hy hget
     ·rw [List.getElem?_append_right (by omega)] at hj
      have hlx:¬ j*i.size+f<xs.length:=by
       rw [hown.1,hn]
       have:=Nat.mul_le_mul_right i.size (show rows0.length≤j by omega)
       omega
      rw [List.getElem?_append_right (by omega)] at hget
      have e:j*i.size+f-xs.length=(j-rows0.length)*i.size+f:=by
       rw [hown.1,hn,Nat.sub_mul]
       have:=Nat.mul_le_mul_right i.size (show rows0.length≤j by omega)
       omega
      rw [e] at hget
      rw [← hisz] at hrel
      exact hrel _ r hj f y _ hy hget
    ·rcases List.mem_append.1 (List.mem_of_getElem? hget) with hm | hm
     ·exact hone0 _ hm
     ·exact hsr.one _ hm
end
section
variable {P:Program} {G:Gl} {ops:Array Oper} {o:Oper} {T:List (Nat×EV)} {H H':List EB} {K:KE} {B:Bm} {w:World} {ρ:Operand→Value} {S0:List Nat} {w0:World} {g:EH}
theorem Wd.rows (hw:Wd P G S0 w0 B g w) {L:Nat} (hL:g L = .n) {el:TypeId} {rows:List (List EV)} {cs:Array Value} {n:Nat} (hn:n=rows.length) (hmx:n≤maxLen) (hcs:cs.size=n*P.cellsOf el)
  (hrl:∀ r,r∈rows→r.length=P.cellsOf el) (hrel:∀ (i:Nat) (r:List EV),rows[i]? = some r→∀ (f:Nat) (x:EV) (u:Value),r[f]? = some x→cs[i*P.cellsOf el+f]? = some u→ER B x u∧u.oneCell'=true)
  (blk:EB) (hb:blk.vec=some (el,rows)) (hpl:∀ t rows,blk = .rs t rows→plainR rows):∃ B',B.le B'∧ER B' (.s L 0 n false) (.slice (some ⟨w.heap.size,0,none⟩) n n)∧Wd P G S0 w0 B' (updH g L blk) (w.alloc (.cells cs el)):=by
 have hle:=Bm.le_set (q:=⟨w.heap.size,P.cellsOf el,cs.size⟩) (hw.n L hL)
 refine ⟨B.set L ⟨w.heap.size,P.cellsOf el,cs.size⟩,hle,?_,hw.new hL ((Touch.refl [] w).alloc _) (Nat.le_refl _) blk (fun e=>by rw [e] at hb; cases hb) (fun t rows' hv => ?_) (fun xo he=>by rw [he] at hb; cases hb) hpl⟩
 ·by_cases h0:n=0
  ·rw [h0]; exact .e _
  ·have:=ER.s (B:=B.set L ⟨w.heap.size,P.cellsOf el,cs.size⟩) (i:=0) (n:=n) (c:=n) (Bm.set_self _ _ _) (Nat.le_refl _) (by omega) hmx (by simp [hcs])
   simpa using this
 ·rw [hb] at hv
  cases hv
  refine ⟨rfl,cs,Bf.new _ _ _,rfl,by rw [← hn,hcs]; exact Nat.le_refl _,fun i r hi=>⟨hrl r (List.mem_of_getElem? hi),fun f x hx => ?_⟩⟩
  have hfl:f<P.cellsOf el:=by rw [← hrl r (List.mem_of_getElem? hi)]; exact (List.getElem?_eq_some_iff.1 hx).1
  have hil:i<n:=by rw [hn]; exact (List.getElem?_eq_some_iff.1 hi).1
  have hlt:i*P.cellsOf el+f<cs.size:=by
   rw [hcs]
   have:=Nat.mul_le_mul_right (P.cellsOf el) hil
   rw [Nat.succ_mul] at this
   omega
  have hg:cs[i*P.cellsOf el+f]? = some cs[i*P.cellsOf el+f]:=Array.getElem?_eq_getElem hlt
  obtain ⟨h1,h2⟩:=hrel i r hi f x _ hx hg
  exact ⟨_,hg,h1.mono hle,h2⟩
def repK {α:Type}:Nat→α→(List α→Prop)→Prop
 | 0,_,K=>K []
 | n+1,x,K=>repK n x fun l=>K (x::l)
theorem repK_eq {α:Type} (x:α):∀ (n:Nat) (K:List α→Prop),repK n x K=K (List.replicate n x):=by
 intro n
 induction n with
 | zero=>intro K; rfl
 | succ n ih=>intro K; unfold repK; rw [ih]; rfl
def chunkK {α:Type}:Nat→Nat→List α→(List (List α)→Prop)→Prop
 | 0,_,_,K=>K []
 | n+1,k,l,K=>takeK k l fun r=>dropK k l fun l'=>chunkK n k l' fun rs=>K (r::rs)
def chunkL {α:Type}:Nat→Nat→List α→List (List α)
 | 0,_,_=>[]
 | n+1,k,l=>l.take k::chunkL n k (l.drop k)
theorem chunkK_eq {α:Type} (k:Nat):∀ (n:Nat) (l:List α) (K:List (List α)→Prop),chunkK n k l K=K (chunkL n k l):=by
 intro n
 induction n with
 | zero=>intro l K; rfl
 | succ n ih=>intro l K; unfold chunkK; rw [takeK_eq,dropK_eq,ih]; rfl
theorem chunkL_spec {α:Type} (k:Nat):∀ (n:Nat) (l:List α),l.length=n*k→(chunkL n k l).length=n∧(∀ r,r∈chunkL n k l→r.length=k)∧∀ (i:Nat) (r:List α),(chunkL n k l)[i]? = some r→∀ (f:Nat) (x:α),r[f]? = some x→l[i*k+f]? = some x:=by
 intro n
 induction n with
 | zero=>intro l _; exact ⟨rfl,fun r h=>(by cases h),fun i r h=>by simp [chunkL] at h⟩
 | succ n ih =>
  intro l hl
  rw [Nat.succ_mul] at hl
  obtain ⟨h1,h2,h3⟩:=ih (l.drop k) (by rw [List.length_drop]; omega)
  refine ⟨by simp [chunkL,h1],fun r hr => ?_,fun i r hi f x hx => ?_⟩
  ·rcases List.mem_cons.1 hr with rfl | hr
   ·rw [List.length_take]; omega
   ·exact h2 r hr
  ·cases i with
   | zero =>
    cases hi
    rw [List.getElem?_take] at hx
    split at hx
    ·simpa using hx
    ·cases hx
   | succ i =>
    have:=h3 i r (by simpa [chunkL] using hi) f x hx
    rw [List.getElem?_drop] at this
    rwa [show (i+1)*k+f=k+(i*k+f) by rw [Nat.succ_mul]; omega]
def bsE (P:Program) (H:List EB) (T:List (Nat×EV)) (t:TypeId) (len:Nat) (ps:List (Nat×Operand)) (K:KE):Prop :=
 ob (slcEl P t) fun el=>br (smallT P el&&Nat.ble len 100000&&Nat.ble (len*P.cellsOf el) 16777216) (repK (len*P.cellsOf el) EV.j fun row=>fillK (fun i=>some (i*P.cellsOf el,P.cellsOf el)) T row ps fun cs=>br (cs.all EV.one&&Nat.beq cs.length (len*P.cellsOf el)) (chunkK len (P.cellsOf el) cs fun rows =>
  br (cs.all EV.isV) (newK H (.rs el rows) fun L H'=>K (.s L 0 len false) H' [L] [L]) (newK H (.rv el rows) fun L H'=>K (.s L 0 len false) H' [L] [L])) False) False
theorem Out.buildSlice {t:TypeId} {len:Nat} {ps:Array (Nat×Operand)} (ho:o.op = .buildSlice t len ps) (h:bsE P H T t len ps.toList K):Out P G ops o T H K:=by
 obtain ⟨el,hel,h⟩:=ob_inv h
 obtain ⟨hu,hp⟩:=slcEl_of hel
 rcases br_inv h with ⟨hsm,h⟩ | ⟨_,h⟩
 rotate_left
 ·exact h.elim
 obtain ⟨hsm,hsz24⟩:=Bool.and_eq_true_iff.1 hsm
 have hsz24:len*P.cellsOf el≤16777216:=Nat.le_of_ble_eq_true hsz24
 obtain ⟨hsm,hlen⟩:=Bool.and_eq_true_iff.1 hsm
 have hlen:len≤100000:=Nat.le_of_ble_eq_true hlen
 obtain ⟨i,z,hi,hz,hzs,hby,hisz⟩:=smallT_of hsm
 rw [repK_eq] at h
 obtain ⟨cs,h,hfill⟩:=fillK_ok _ _ _ h
 rcases br_inv h with ⟨hone,h⟩ | ⟨_,h⟩
 rotate_left
 ·exact h.elim
 rw [chunkK_eq] at h
 obtain ⟨hone,hcl⟩:=Bool.and_eq_true_iff.1 hone
 have hcl:cs.length=len*P.cellsOf el:=Nat.eq_of_beq_eq_true hcl
 obtain ⟨k1,k2,k3⟩:=chunkL_spec (P.cellsOf el) len cs hcl
 have hsz:i.size=P.cellsOf el:=hisz
 have main:∀ blk:EB,blk.vec=some (el,chunkL len (P.cellsOf el) cs)→(∀ t rows,blk = .rs t rows→plainR rows)→K (.s H.length 0 len false) (H++[blk]) [H.length] [H.length]→Out P G ops o T H K:=fun blk hv hpl hK=>by
  refine Out.new hK fun S0 w0 B a w g hxs hw hg => ?_
  obtain ⟨cells0,hc0⟩:∃ c:Array Value,c=(Array.range (len*i.size)).map (fun j=>(if len*i.size=0 then (#[]:Array Value) else z.cells)[j%(if len*i.size=0 then (#[]:Array Value) else z.cells).size]!):=⟨_,rfl⟩
  have hc0s:cells0.size=len*P.cellsOf el:=by rw [hc0]; simp [hsz]
  obtain ⟨cs',hf,hers⟩:=hfill a B cells0 (fun p hp=>hxs p.2 (by
   rw [ho]
   show p.2∈(ps.toList.map (·.2)).toArray
   simpa using ⟨p.1,by simpa using hp⟩)) ⟨by simp [hc0s],fun j x u hx _=>by
    rw [List.getElem?_replicate] at hx
    split at hx
    ·cases hx; exact .j _
    ·cases hx⟩
  have hones:=hers.ones hone
  obtain ⟨B',b1,b2,b3⟩:=hw.rows hg (cs:=cs') (n:=len) k1.symm (by simp only [maxLen]; omega) (by rw [← hers.1,hcl]) k2 (fun j r hj f x u hx hu'=>⟨hers.2 _ x u (k3 j r hj f x hx) hu',hones u (by simpa using List.mem_of_getElem? (show cs'.toList[j*P.cellsOf el+f]? = some u by simpa using hu'))⟩) blk hv hpl
  refine ⟨B',.slice (some ⟨w.heap.size,0,none⟩) len len,_,?_,b1,b2,b3⟩
  have hso:(sizeOf el).run P w = .ok i.size w:=by simp [sizeOf,typeInfo,hi]
  have hf':Instr.fill (fun j=>some (j*i.size,i.size)) cells0 (ps.map fun (i,x)=>(i,a.eval x)).toList=some cs':=by
   rw [hsz]
   simpa using hf
  unfold execOp
  simp only [ho,Instr.buildSlice,Sem.run_bind,run_underlying hu,Result.andThen_ok,hso]
  rw [if_neg (by rw [hsz]; omega)]
  have hzr:(zeroValue el).run P w = .ok z w:=by simp [zeroValue,typeInfo,hi,hz]
  by_cases e:len*i.size=0
  ·rw [if_pos e] at hc0
   rw [if_pos e]
   simp only [Sem.run_bind,Sem.run_pure,Result.andThen_ok]
   rw [← hc0]
   simp only [hf',Sem.run_bind,Sem.run_pure,Result.andThen_ok,newRow,newObj,Sem.run]
   rfl
  ·rw [if_neg e] at hc0
   rw [if_neg e]
   simp only [Sem.run_bind,Sem.run_pure,Result.andThen_ok,hzr]
   rw [← hc0]
   simp only [hf',Sem.run_bind,Sem.run_pure,Result.andThen_ok,newRow,newObj,Sem.run]
   rfl
 rcases br_inv h with ⟨hv,h⟩ | ⟨_,h⟩
 ·rw [newK_eq] at h
  exact main _ rfl (fun t rows he=>by
   cases he
   intro r hr x hx
   obtain ⟨j,hj⟩:=List.mem_iff_getElem?.1 hr
   obtain ⟨f,hf⟩:=List.mem_iff_getElem?.1 hx
   exact isV_of ((List.all_eq_true.1 hv) x (List.mem_of_getElem? (k3 j r hj f x hf)))) h
 ·rw [newK_eq] at h
  exact main _ rfl (fun t rows he=>by cases he) h
def msE (P:Program) (H:List EB) (t:TypeId) (l c:EV) (K:KE):Prop :=
 match l,c with
 | .v (.int _ e),.v (.int _ e')=>ob (slcEl P t) fun el=>br (smallT P el) (zeroK P el fun zr=>(0≤e∧e=e'∧e≤549755813888)∧newK H (.rs el (List.replicate e.toNat zr)) fun L H'=>K (.s L 0 e.toNat false) H' [L] [L]) False
 | _,_=>False
theorem rep_cells (z:Array Value) (n k:Nat) (hk:z.size=k) (i f:Nat) (hi:i<n) (hf:f<k):((Array.range (n*k)).map (z[· % z.size]!))[i*k+f]? = z[f]? := by
 have hlt:i*k+f<n*k:=by
  have:=Nat.mul_le_mul_right k hi
  rw [Nat.succ_mul] at this
  omega
 have hm:(i*k+f)%z.size=f:=by rw [hk,Nat.add_comm,Nat.add_mul_mod_self_right]; exact Nat.mod_eq_of_lt hf
 rw [Array.getElem?_map,Array.getElem?_range,if_pos hlt]
 have h1:f<z.size:=by omega
 simp [Nat.mod_eq_of_lt hf,hk,hf]
theorem Out.makeSlice {t:TypeId} {l c:Operand} (ho:o.op = .makeSlice t l c) (h:msE P H t (ev T l) (ev T c) K):Out P G ops o T H K:=by
 unfold msE at h
 split at h
 ·rename_i k e k' e' hl hc
  obtain ⟨el,hel,h⟩:=ob_inv h
  obtain ⟨hu,hp⟩:=slcEl_of hel
  rcases br_inv h with ⟨hsm,h⟩ | ⟨_,h⟩
  ·obtain ⟨i,z,hi,hz,hzs,hby,hisz⟩:=smallT_of hsm
   obtain ⟨z',hz',hzl,hone,h2⟩:=zeroK_ok h
   have hzz:z'=z:=by
    have h1:=hz' default
    have h2:(zeroValue el).run P default = .ok z default:=by simp [zeroValue,typeInfo,hi,hz]
    rw [h1] at h2
    injection h2
   subst hzz
   obtain ⟨⟨h0,rfl,hmx⟩,h3⟩:=h2
   rw [newK_eq] at h3
   refine Out.new h3 fun S0 w0 B a w g hxs hw hg => ?_
   have h1:=hxs l (by rw [ho]; simp [Op.operands])
   have h2:=hxs c (by rw [ho]; simp [Op.operands])
   rw [hl] at h1
   rw [hc] at h2
   obtain ⟨n,rfl⟩:∃ n:Nat,e=n:=⟨e.toNat,by omega⟩
   have hn:n≤549755813888:=by omega
   obtain ⟨cs,hcs⟩:∃ cs:Array Value,cs=madeCells z'.cells (n*i.size):=⟨_,rfl⟩
   have hkz:i.size≠0:=by omega
   have hget:∀ j f,j<n→f<P.cellsOf el→cs[j*P.cellsOf el+f]? = z'.cells[f]? := fun j f hj hf=>by
    rw [hcs,← hisz]
    exact rep_cells z'.cells n i.size hzs j f hj (by omega)
   obtain ⟨B',b1,b2,b3⟩:=hw.rows hg (cs:=cs) (el:=el) (rows:=List.replicate n (z'.cells.toList.map .v)) (n:=n) (by simp) (by simp only [maxLen]; omega) (by rw [hcs,size_madeCells,hisz]) (fun r hr=>by rw [(List.mem_replicate.1 hr).2]; exact hzl) (fun j r hj f x u hx hu'=>by
    rw [List.getElem?_replicate] at hj
    split at hj
    ·rename_i hjn
     cases hj
     have hfl:f<P.cellsOf el:=by rw [← hzl]; exact (List.getElem?_eq_some_iff.1 hx).1
     rw [hget j f hjn hfl] at hu'
     rw [List.getElem?_map] at hx
     rw [show z'.cells.toList[f]? = some u by simpa using hu'] at hx
     cases hx
     exact ⟨.v u,hone u (by simpa using Array.mem_of_getElem? hu')⟩
    ·cases hj) (.rs el (List.replicate n (z'.cells.toList.map .v))) rfl (fun t rows he=>by
    cases he
    intro r hr x hx
    rw [(List.mem_replicate.1 hr).2] at hx
    obtain ⟨u,_,rfl⟩:=List.mem_map.1 hx
    exact ⟨u,rfl⟩)
   refine ⟨B',.slice (some ⟨w.heap.size,0,none⟩) n n,_,?_,b1,by simpa using b2,by simpa using b3⟩
   have hbn:(i.bytes:Int)*n≤281474976710656:=by
    have h4:i.bytes*n≤281474976710656:=Nat.le_trans (Nat.mul_le_mul hby hn) (by decide)
    have h5:((i.bytes*n:Nat):Int)≤281474976710656:=by omega
    rwa [Int.natCast_mul] at h5
   have hr:=run_make (P:=P) w t el i z' hu hi hz k k' n n (by omega) (Int.le_refl _) hbn (by omega)
   unfold execOp
   simp only [ho,h1.v_inv,h2.v_inv,Sem.run_bind,hr,Result.andThen_ok,Sem.run_pure,Int.toNat_natCast,hcs]
  ·exact h.elim
 ·exact h.elim
def isBytesT (P:Program) (src dst:TypeId):Bool:=match P.underlying src with | some (.slice e)=>(match P.underlying e with | some (.int .u8)=>isStrT P dst | _=>false) | _=>false
def b2sE (P:Program) (H:List EB) (src dst:TypeId) (x:EV) (K:KE):Prop :=
 match x with
 | .v (.slice none 0 0)=>br (isBytesT P src dst) (K (.v (.string ByteArray.empty)) H [] []) False
 | .s L i n _=>br (isBytesT P src dst) (ob H[L]? fun b =>
  match b with
  | .rs t' rows=>br (Nat.beq (P.cellsOf t') 1) (∃ bs:List UInt8,(rows=byR bs∧i=0∧n=bs.length)∧K (.v (.string ⟨bs.toArray⟩)) H [L] []) False
  | _=>False) False
 | _=>False
theorem push_bytes:∀ (bs:List UInt8) (s:ByteArray),(bs.map fun b=>(b.toNat:Int)).foldl (fun r n=>r.push (UInt8.ofNat n.toNat)) s=⟨s.data++bs.toArray⟩:=by
 intro bs
 induction bs with
 | nil=>intro s; simp
 | cons b bs ih =>
  intro s
  rw [List.map_cons,List.foldl_cons,ih]
  simp [ByteArray.push]
theorem Out.b2s {src dst:TypeId} {x:Operand} (ho:o.op = .convert src dst x) (h:b2sE P H src dst (ev T x) K):Out P G ops o T H K:=by
 have hx:x∈o.op.operands:=by rw [ho]; simp [Op.operands]
 have key:isBytesT P src dst=true→∃ e,P.underlying src=some (.slice e)∧P.underlying e=some (.int .u8)∧P.underlying dst=some .string:=fun h=>by
  unfold isBytesT at h
  split at h
  ·split at h
   ·exact ⟨_,by assumption,by assumption,isStrT_of h⟩
   ·cases h
  ·cases h
 have conv:∀ (a:Act) (w:World) (u v:Value),isBytesT P src dst=true→a.eval x=u→(match u with | .slice _ _ _=>true | _=>false)=true→(Conv.bytesToString u).run P w = .ok v w→(execOp a.eval o).run P w = .ok (.value v) w:=fun a w u v hb hu hsl hr=>by
  obtain ⟨e,h1,h2,h3⟩:=key hb
  have:(Go.convert src dst u).run P w = .ok v w:=by
   unfold Go.convert
   cases u <;> first | cases hsl | skip
   simp [run_underlying h1,run_underlying h2,run_underlying h3,hr]
  unfold execOp
  simp [ho,hu,this]
 unfold b2sE at h
 split at h
 ·rename_i hex
  rcases br_inv h with ⟨hb,h⟩ | ⟨_,h⟩
  ·refine Out.val h fun B a w hxs => ?_
   have h1:=hxs x hx
   rw [hex] at h1
   exact ⟨_,conv a w _ _ hb h1.v_inv rfl (by simp [Conv.bytesToString]),.v _⟩
  ·exact h.elim
 ·rename_i L i n z hex
  rcases br_inv h with ⟨hb,h⟩ | ⟨_,h⟩
  ·obtain ⟨b,hbl,h⟩:=ob_inv h
   split at h
   ·rename_i t' rows
    rcases br_inv h with ⟨hk,h⟩ | ⟨_,h⟩
    ·obtain ⟨bs,⟨rfl,rfl,rfl⟩,h9⟩:=h
     have hk:P.cellsOf t'=1:=Nat.eq_of_beq_eq_true hk
     refine Out.rd h9 fun S0 w0 B a w g hxs hw hg => ?_
     have h1:=hxs x hx
     rw [hex] at h1
     rcases h1.s_inv with ⟨q,c,hq,hnc,hc0,hcm,hsz,hz,hv⟩ | ⟨hn0,A,hv⟩
     ·have hr:RowsAt P B w q t' (byR bs):=by
       rcases hw.row L t' (byR bs) (by rw [hg,hf_get hbl]; rfl) with ⟨q',h,hr⟩ | ⟨_,h⟩
       ·rw [hq] at h; cases h; exact hr
       ·rw [hq] at h; cases h
      have hqk:q.k=1:=hr.1.trans hk
      obtain ⟨us,u1,u2,u3,u4,u5⟩:=hr.cells
      have hlen:us.length=bs.length:=by rw [u1,hqk]; simp [byR]
      have hus:us=bs.map fun b=>Value.int .u8 b.toNat:=by
       refine List.ext_getElem? fun j => ?_
       rw [List.getElem?_map]
       by_cases hj:j<bs.length
       ·have hbj:bs[j]? = some bs[j]:=List.getElem?_eq_getElem hj
        have huj:us[j]? = some us[j]:=List.getElem?_eq_getElem (by omega)
        have:=u5 j [.v (.int .u8 bs[j].toNat)] (by unfold byR; rw [List.getElem?_map,hbj]; rfl) 0 _ us[j] rfl (by rw [hqk]; simp)
        rw [huj,hbj,this.v_inv]
        rfl
       ·rw [List.getElem?_eq_none (by omega),List.getElem?_eq_none (by omega)]
        rfl
      have hld:(loadCells ⟨q.b,0*q.k,none⟩ bs.length).run P w = .ok ((bs.map fun b=>(b.toNat:Int)).map (Value.int .u8)).toArray w:=by
       have:=run_loadCells_list (P:=P) w ⟨q.b,0*q.k,none⟩ us (fun j v hj=>by
        rw [Addr.add_lit]
        have:=u3 j v hj
        simpa using this)
       rw [hlen] at this
       rw [this,hus]
       simp
      refine ⟨_,conv a w _ _ hb hv rfl (run_bytesToString w _ _ _ _ hld),?_⟩
      rw [push_bytes]
      have e:(⟨ByteArray.empty.data++bs.toArray⟩:ByteArray)=⟨bs.toArray⟩:=by
       congr 1
       exact Array.empty_append
      rw [e]
      exact .v _
     ·have hb0:bs=[]:=List.eq_nil_of_length_eq_zero hn0
      subst hb0
      refine ⟨_,conv a w _ (.string ByteArray.empty) hb hv rfl ?_,.v _⟩
      cases A with
      | none=>simp [Conv.bytesToString]
      | some a=>exact run_bytesToString w a 0 0 [] (run_loadCells_list (P:=P) w a [] (fun j v hj=>by simp at hj))
    ·exact h.elim
   ·exact h.elim
  ·exact h.elim
 ·exact h.elim
def eqFE (P:Program) (xs ys:List EV):List Field→Option Bool
 | []=>some true
 | f::fs =>
  if f.name = "_" then none else
  match xs[f.offset]?,ys[f.offset]?,P.underlying f.type with
  | some (.v (.int k a)),some (.v (.int k' b)),some (.int _)=>if k=k' then (eqFE P xs ys fs).map fun r=>(a==b)&&r else none
  | some (.v (.string a)),some (.v (.string b)),some .string=>(eqFE P xs ys fs).map fun r=>(a.toList==b.toList)&&r
  | some (.v (.bool a)),some (.v (.bool b)),some .bool=>(eqFE P xs ys fs).map fun r=>(a==b)&&r
  | _,_,_=>none
theorem eqFE_ok {xs ys:List EV} {us vs:Array Value} (hx:ERs B xs us) (hy:ERs B ys vs) (d:Nat):∀ (fs:List Field) (r:Bool),eqFE P xs ys fs=some r→(Op.eqFields (d+1) us vs fs).run P w = .ok r w:=by
 intro fs
 induction fs with
 | nil=>intro r h; cases h; simp [Op.eqFields]
 | cons f fs ih =>
  intro r h
  have part1:∀ {zs:List EV} {ws:Array Value} {x:Value} {dd:TypeDesc},ERs B zs ws→zs[f.offset]? = some (.v x)→P.underlying f.type=some dd→dd.isRow=false→(part f.type ws f.offset).run P w = .ok x w:=fun hz hv hu hd=>by
   rename_i zs ws x dd
   have hl:f.offset<ws.size:=by rw [← hz.1]; exact (List.getElem?_eq_some_iff.1 hv).1
   have hg:=Array.getElem?_eq_getElem hl
   have:=(hz.2 _ _ _ hv hg).v_inv
   unfold part
   rw [Sem.run_bind,run_isAgg hu,hd,Result.andThen_ok]
   simp [hg,this]
  unfold eqFE at h
  split at h
  ·cases h
  ·rename_i hn
   unfold Op.eqFields
   simp only [ne_eq,hn,not_false_eq_true,if_true]
   split at h
   ·rename_i k a k' b kk e1 e2 e3
    split at h
    ·rename_i hk
     subst hk
     obtain ⟨r',hr,rfl⟩:=Option.map_eq_some_iff.1 h
     simp only [Sem.run_bind,part1 hx e1 e3 rfl,part1 hy e2 e3 rfl,Result.andThen_ok,run_equalIn_int w d _ _ _ _ _ e3]
     cases hab:(a==b)
     ·simp
     ·simp [ih r' hr]
    ·cases h
   ·rename_i a b e1 e2 e3
    obtain ⟨r',hr,rfl⟩:=Option.map_eq_some_iff.1 h
    simp only [Sem.run_bind,part1 hx e1 e3 rfl,part1 hy e2 e3 rfl,Result.andThen_ok,run_equalIn_string w d _ _ _ e3]
    cases hab:(a.toList==b.toList)
    ·simp
    ·simp [ih r' hr]
   ·rename_i a b e1 e2 e3
    obtain ⟨r',hr,rfl⟩:=Option.map_eq_some_iff.1 h
    simp only [Sem.run_bind,part1 hx e1 e3 rfl,part1 hy e2 e3 rfl,Result.andThen_ok,run_equalIn_bool' w d _ _ _ e3]
    cases hab:(a==b)
    ·simp
    ·simp [ih r' hr]
   ·cases h
def eqE (P:Program) (op:BinOp) (t:TypeId) (x y:EV):Option EV :=
 match x,y with
 | .a xs,.a ys=>match P.underlying t with
  | some (.struct fs)=>if P.stoodInHeld t||P.eqGuardType P.depth t then none else
   match op with
   | .eql=>(eqFE P xs ys fs.toList).map fun r => .v (.bool r)
   | .neq=>(eqFE P xs ys fs.toList).map fun r => .v (.bool (!r))
   | _=>none
  | _=>none
 | _,_=>none
theorem Out.eqA {x y:Operand} {t ty:TypeId} {b:BinOp} (ho:o.op = .binOp b t x y ty) (h:ob (eqE P b t (ev T x) (ev T y)) fun y=>K y H [] []):Out P G ops o T H K:=by
 obtain ⟨r,hr,h⟩:=ob_inv h
 unfold eqE at hr
 split at hr
 ·rename_i xs ys hex hey
  split at hr
  ·rename_i fs hu
   split at hr
   ·cases hr
   ·rename_i hc
    have hc:P.stoodInHeld t=false∧P.eqGuardType P.depth t=false:=by simpa using hc
    have hfo:P.fieldsOf t=fs:=by unfold Program.fieldsOf; rw [hu]
    have hrun:∀ (B:Bm) (a:Act) (w:World),(∀ x,x∈o.op.operands→ER B (ev T x) (a.eval x))→∃ us vs,a.eval x = .agg us∧a.eval y = .agg vs∧∀ r,eqFE P xs ys fs.toList=some r→(Op.equalIn 10000 t (.agg us) (.agg vs)).run P w = .ok r w:=fun B a w hxs=>by
     have h1:=hxs x (by rw [ho]; simp [Op.operands])
     have h2:=hxs y (by rw [ho]; simp [Op.operands])
     rw [hex] at h1
     rw [hey] at h2
     generalize a.eval x=u at h1
     generalize a.eval y=v at h2
     cases h1 with
     | a hl1 he1 =>
      cases h2 with
      | a hl2 he2 =>
       refine ⟨_,_,rfl,rfl,fun r hr => ?_⟩
       rw [run_equalIn_struct w 9999 t _ _ (by rw [hfo]; exact hu) hc.1,hfo]
       exact eqFE_ok ⟨hl1,he1⟩ ⟨hl2,he2⟩ 9998 fs.toList r hr
    split at hr
    ·obtain ⟨r',hr',rfl⟩:=Option.map_eq_some_iff.1 hr
     refine Out.val h fun B a w hxs => ?_
     obtain ⟨us,vs,e1,e2,e3⟩:=hrun B a w hxs
     refine ⟨_,run_bin ho (by rw [e1,e2]; exact run_eqGuard_agg w _ _ _ _ _ _ hc.2) ?_,.v _⟩
     rw [e1,e2,run_eql_struct,e3 r' hr']
     rfl
    ·obtain ⟨r',hr',rfl⟩:=Option.map_eq_some_iff.1 hr
     refine Out.val h fun B a w hxs => ?_
     obtain ⟨us,vs,e1,e2,e3⟩:=hrun B a w hxs
     refine ⟨_,run_bin ho (by rw [e1,e2]; exact run_eqGuard_agg w _ _ _ _ _ _ hc.2) ?_,.v _⟩
     rw [e1,e2,run_neq_struct,e3 r' hr']
     rfl
    ·cases hr
  ·cases hr
 ·cases hr
end
section
variable {P:Program} {G:Gl} {ops:Array Oper} {o:Oper} {T:List (Nat×EV)} {H H':List EB} {K:KE} {B:Bm} {w:World} {ρ:Operand→Value} {S0:List Nat} {w0:World} {g:EH}
def mapT (P:Program) (t:TypeId):Option (TypeId×TypeId):=match P.underlying t with | some (.map k e)=>(match P.underlying k with | some (.int .i64)=>some (k,e) | _=>none) | _=>none
theorem mapT_of {t:TypeId} {p:TypeId×TypeId} (h:mapT P t=some p):P.underlying t=some (.map p.1 p.2)∧P.underlying p.1=some (.int .i64):=by
 unfold mapT at h
 split at h
 ·split at h
  ·cases h; exact ⟨by assumption,by assumption⟩
  ·cases h
 ·cases h
theorem run_checkKey {k:TypeId} {q:IntKind} (h:P.underlying k=some (.int q)) (e:Bool) (v:Value) (w:World):(Instr.checkKey e 10000 k v).run P w = .ok () w:=by
 show (Instr.checkKey e (9999+1) k v).run P w=_
 unfold Instr.checkKey
 simp only [Sem.run_bind,run_underlying h,Result.andThen_ok]
 rfl
inductive KeyAt (n:Int):List (Int×Nat×EV)→Nat→Nat→EV→Prop
 | here (b:Nat) (v:EV) (r:List (Int×Nat×EV)):KeyAt n ((n,b,v)::r) 0 b v
 | there {k:Int} {b i b':Nat} {v v':EV} {r:List (Int×Nat×EV)} (h:n≠k) (hr:KeyAt n r i b v):KeyAt n ((k,b',v')::r) (i+1) b v
theorem KeyAt.get {n:Int} {es:List (Int×Nat×EV)} {i b:Nat} {v:EV} (h:KeyAt n es i b v):es[i]? = some (n,b,v):=by
 induction h with
 | here=>rfl
 | there _ _ ih=>simpa using ih
def noKey (n:Int) (es:List (Int×Nat×EV)):Prop:=∀ p,p∈es→n≠p.1
structure EnAt (B:Bm) (en:List Go.MapEntry) (es:List (Int×Nat×EV)):Prop where
 len:en.length=es.length
 at_:∀ (i:Nat) (k:Int) (n:Nat) (x:EV),es[i]? = some (k,n,x)→∃ y,en[i]? = some y∧y.key = .int .i64 k∧y.born=n∧ER B x y.val
theorem EnAt.tail {y:Go.MapEntry} {en:List Go.MapEntry} {p:Int×Nat×EV} {es:List (Int×Nat×EV)} (h:EnAt B (y::en) (p::es)):EnAt B en es :=
 ⟨by simpa using h.len,fun i k n x hi=>by simpa using h.at_ (i+1) k n x (by simpa using hi)⟩
theorem EnAt.find {n:Int} {es:List (Int×Nat×EV)} {i b:Nat} {v:EV} (h:KeyAt n es i b v):∀ {en:List Go.MapEntry} (i0:Nat),EnAt B en es→∃ y,en[i]? = some y∧y.key = .int .i64 n∧y.born=b∧ER B v y.val∧Instr.findNow (.int .i64) (.int .i64 n) en i0=some (some (i0+i,y.val)):=by
 induction h with
 | here b v r =>
  intro en i0 he
  obtain ⟨y,h1,h2,h3,h4⟩:=he.at_ 0 n b v rfl
  cases en with
  | nil=>cases h1
  | cons z en =>
   cases h1
   exact ⟨y,rfl,h2,h3,h4,by unfold Instr.findNow; rw [h2]; simp [Instr.sameNow]⟩
 | @there k b i b' v v' r hne hr ih =>
  intro en i0 he
  obtain ⟨z,h1,h2,_,_⟩:=he.at_ 0 k b' v' rfl
  cases en with
  | nil=>cases h1
  | cons z' en =>
   cases h1
   obtain ⟨y,a1,a2,a3,a4,a5⟩:=ih (i0+1) he.tail
   refine ⟨y,by simpa using a1,a2,a3,a4,?_⟩
   unfold Instr.findNow
   rw [h2]
   simp only [Instr.sameNow,if_pos,beq_eq_false_iff_ne.2 hne]
   rw [a5,show i0+1+i=i0+(i+1) by omega]
theorem EnAt.noFind {n:Int}:∀ {es:List (Int×Nat×EV)} {en:List Go.MapEntry} (i0:Nat),noKey n es→EnAt B en es→Instr.findNow (.int .i64) (.int .i64 n) en i0=some none:=by
 intro es
 induction es with
 | nil =>
  intro en i0 _ he
  have:=List.eq_nil_of_length_eq_zero he.len
  subst this
  rfl
 | cons p es ih =>
  intro en i0 hn he
  obtain ⟨k,b,v⟩:=p
  obtain ⟨z,h1,h2,_,_⟩:=he.at_ 0 k b v rfl
  cases en with
  | nil=>cases h1
  | cons z' en =>
   cases h1
   have hne:n≠k:=hn (k,b,v) (by simp)
   unfold Instr.findNow
   rw [h2]
   simp only [Instr.sameNow,if_pos,beq_eq_false_iff_ne.2 hne]
   exact ih (i0+1) (fun p hp=>hn p (List.mem_cons_of_mem _ hp)) he.tail
theorem run_findKey {k:TypeId} (h:P.underlying k=some (.int .i64)) {v:Value} {en:List Go.MapEntry} {r:Option (Nat×Value)} (hf:Instr.findNow (.int .i64) v en 0=some r) (w:World):(Instr.findKey k v en).run P w = .ok r w:=by
 unfold Instr.findKey
 simp only [Sem.run_bind,run_underlying h,Result.andThen_ok,hf,Sem.run_pure]
theorem EnAt.of {q:BI} {ck:Nat} {es:List (Int×Nat×EV)} (h:ObjAt B w q (.mp ck es)):∃ en,w.heap[q.b]? = some (.map en ck)∧EnAt B en.toList es:=by
 obtain ⟨en,h1,h2,h3⟩:=h
 exact ⟨en,h1,by simpa using h2,fun i k n x hi=>by simpa using h3 i k n x hi⟩
theorem EnAt.obj {q:BI} {ck:Nat} {es:List (Int×Nat×EV)} {en:Array Go.MapEntry} (h1:w.heap[q.b]? = some (.map en ck)) (h:EnAt B en.toList es):ObjAt B w q (.mp ck es) :=
 ⟨en,h1,by simpa using h.len,fun i k n x hi=>by simpa using h.at_ i k n x hi⟩
def mGetK (n:Int):List (Int×Nat×EV)→(EV→Prop)→Prop→Prop
 | [],_,N=>N
 | (k,_,v)::r,K,N=>br (decide (n=k)) (K v) (mGetK n r K N)
theorem mGetK_ok {n:Int}:∀ {es:List (Int×Nat×EV)} {K:EV→Prop} {N:Prop},mGetK n es K N→(∃ i b v,KeyAt n es i b v∧K v)∨(noKey n es∧N):=by
 intro es
 induction es with
 | nil=>intro K N h; exact .inr ⟨fun p hp=>(by cases hp),h⟩
 | cons p r ih =>
  intro K N h
  obtain ⟨k,b,v⟩:=p
  rcases br_inv h with ⟨hd,h5⟩ | ⟨hd,h5⟩
  ·have e:=of_decide_eq_true hd
   subst e
   exact .inl ⟨0,b,v,.here b v r,h5⟩
  ·have hne:=of_decide_eq_false hd
   rcases ih h5 with ⟨i,b',v',h1,h2⟩ | ⟨h1,h2⟩
   ·exact .inl ⟨i+1,b',v',.there hne h1,h2⟩
   ·exact .inr ⟨fun p hp=>by rcases List.mem_cons.1 hp with rfl | hp; exact hne; exact h1 p hp,h2⟩
def aggK (z:Value) (K:EV→Prop):Prop:=match z with | .agg ds=>vsK ds.toList fun l=>K (.a l) | z=>K (.v z)
theorem aggK_ok {z:Value} {K:EV→Prop} (h:aggK z K):∃ x,K x∧∀ B,ER B x z:=by
 unfold aggK at h
 split at h
 ·rename_i ds
  rw [vsK_eq] at h
  exact ⟨_,h,fun B => .a (ERs.map_v B ds).1 (ERs.map_v B ds).2⟩
 ·exact ⟨_,h,fun B => .v _⟩
def zvK (P:Program) (t:TypeId) (K:EV→Prop):Prop:=ob (P.info? t) fun i=>ob i.zero fun z=>aggK z K
theorem zvK_ok {t:TypeId} {K:EV→Prop} (h:zvK P t K):∃ z x,K x∧(∀ B,ER B x z)∧∀ w,(zeroValue t).run P w = .ok z w:=by
 obtain ⟨i,hi,h⟩:=ob_inv h
 obtain ⟨z,hz,h⟩:=ob_inv h
 obtain ⟨x,hK,hx⟩:=aggK_ok h
 exact ⟨z,x,hK,hx,fun w=>by simp [zeroValue,typeInfo,hi,hz]⟩
def okV (c:Bool) (v:EV) (f:Bool):EV:=match c with | true => .t [v,.v (.bool f)] | false=>v
def lupE (P:Program) (H:List EB) (t:TypeId) (m k:EV) (c:Bool) (K:KE):Prop :=
 match m,k with
 | .m L,.v (.int .i64 n)=>ob H[L]? fun b=>match b with | .o (.mp _ es)=>ob (mapT P t) fun p=>mGetK n es (fun v=>K (okV c v true) H [L] []) (zvK P p.2 fun v=>K (okV c v false) H [L] []) | _=>False
 | _,_=>False
theorem okV_er {c f:Bool} {v:EV} {u:Value} (h:ER B v u):ER B (okV c v f) (if c then .tuple #[u,.bool f] else u):=by
 cases c with
 | false=>exact h
 | true =>
  refine .t rfl fun i x y hx hy => ?_
  match i,hx,hy with
  | 0,hx,hy=>cases hx; cases hy; exact h
  | 1,hx,hy=>cases hx; cases hy; exact .v _
  | i+2,hx,_=>simp at hx
theorem m_val {q:BI} {L:Nat} {u:Value} (hq:B L=some q) (h:ER B (.m L) u):u = .map (some q.b):=by
 cases h with
 | m h=>rw [hq] at h; cases h; rfl
theorem Out.lookup {t:TypeId} {m k:Operand} {c:Bool} (ho:o.op = .lookup t m k c) (h:lupE P H t (ev T m) (ev T k) c K):Out P G ops o T H K:=by
 unfold lupE at h
 split at h
 ·rename_i L n hm hk
  obtain ⟨b,hb,h⟩:=ob_inv h
  split at h
  ·rename_i ck es
   obtain ⟨p,hp,h⟩:=ob_inv h
   obtain ⟨p1,p2⟩:=mapT_of hp
   have main:∀ r:EV,K r H [L] []→(∀ (B:Bm) (en:List Go.MapEntry) (w:World),EnAt B en es→∃ rr,Instr.findNow (.int .i64) (.int .i64 n) en 0=some rr∧∃ z:Value,(∀ w,(zeroValue p.2).run P w = .ok z w∨rr.isSome=true)∧ER B r (if c then .tuple #[(rr.map (·.2)).getD z,.bool rr.isSome] else (rr.map (·.2)).getD z))→Out P G ops o T H K:=fun r hK hr=>by
    refine Out.rd hK fun S0 w0 B a w g hxs hw hg => ?_
    obtain ⟨q,hq,hob⟩:=hw.mp L (.mp ck es) (by rw [hg,hf_get hb])
    obtain ⟨en,he,hen⟩:=EnAt.of hob
    have h1:=hxs m (by rw [ho]; simp [Op.operands])
    rw [hm] at h1
    have h1:=m_val hq h1
    have h2:=hxs k (by rw [ho]; simp [Op.operands])
    rw [hk] at h2
    have h2:=h2.v_inv
    obtain ⟨rr,f1,z,f2,f3⟩:=hr B en.toList w hen
    refine ⟨_,?_,f3⟩
    unfold execOp
    have hfk:=run_findKey (P:=P) p2 f1 w
    simp only [ho,h1,h2,Instr.lookup,Sem.run_bind,run_underlying p1,Result.andThen_ok,getObj,Sem.run,he,Sem.run_pure,run_checkKey p2,hfk]
    cases rr with
    | some y=>cases c <;> simp [Sem.run_pure]
    | none =>
     have:=(f2 w).resolve_right (by simp)
     cases c <;> simp [this]
   rcases mGetK_ok h with ⟨i,b',v,h1,h2⟩ | ⟨h1,h2⟩
   ·refine main _ h2 fun B en w he => ?_
    obtain ⟨y,_,_,_,a4,a5⟩:=EnAt.find h1 0 he
    exact ⟨_,a5,undef,fun w => .inr rfl,okV_er a4⟩
   ·obtain ⟨z,x,hK,hx,hz⟩:=zvK_ok h2
    refine main _ hK fun B en w he=>⟨_,EnAt.noFind 0 h1 he,z,fun w => .inl (hz w),okV_er (hx B)⟩
  ·exact h.elim
 ·exact h.elim
def mSetK (n:Int) (y:EV):List (Int×Nat×EV)→(List (Int×Nat×EV)→Prop)→Prop→Prop
 | [],_,N=>N
 | (k,b,v)::r,K,N=>br (decide (n=k)) (K ((k,b,y)::r)) (mSetK n y r (fun l=>K ((k,b,v)::l)) N)
theorem mSetK_ok {n:Int} {y:EV}:∀ {es:List (Int×Nat×EV)} {K:List (Int×Nat×EV)→Prop} {N:Prop},mSetK n y es K N→(∃ i b v,KeyAt n es i b v∧K (es.set i (n,b,y)))∨(noKey n es∧N):=by
 intro es
 induction es with
 | nil=>intro K N h; exact .inr ⟨fun p hp=>(by cases hp),h⟩
 | cons p r ih =>
  intro K N h
  obtain ⟨k,b,v⟩:=p
  rcases br_inv h with ⟨hd,h5⟩ | ⟨hd,h5⟩
  ·have e:=of_decide_eq_true hd
   subst e
   exact .inl ⟨0,b,v,.here b v r,h5⟩
  ·have hne:=of_decide_eq_false hd
   rcases ih h5 with ⟨i,b',v',h1,h2⟩ | ⟨h1,h2⟩
   ·exact .inl ⟨i+1,b',v',.there hne h1,h2⟩
   ·exact .inr ⟨fun p hp=>by rcases List.mem_cons.1 hp with rfl | hp; exact hne; exact h1 p hp,h2⟩
def mDelK (n:Int):List (Int×Nat×EV)→(List (Int×Nat×EV)→Prop)→Prop
 | [],K=>K []
 | (k,b,v)::r,K=>br (decide (n=k)) (K r) (mDelK n r fun l=>K ((k,b,v)::l))
theorem mDelK_ok {n:Int}:∀ {es:List (Int×Nat×EV)} {K:List (Int×Nat×EV)→Prop},mDelK n es K→(∃ i b v,KeyAt n es i b v∧K (es.eraseIdx i))∨(noKey n es∧K es):=by
 intro es
 induction es with
 | nil=>intro K h; exact .inr ⟨fun p hp=>(by cases hp),h⟩
 | cons p r ih =>
  intro K h
  obtain ⟨k,b,v⟩:=p
  rcases br_inv h with ⟨hd,h5⟩ | ⟨hd,h5⟩
  ·have e:=of_decide_eq_true hd
   subst e
   exact .inl ⟨0,b,v,.here b v r,h5⟩
  ·have hne:=of_decide_eq_false hd
   rcases ih h5 with ⟨i,b',v',h1,h2⟩ | ⟨h1,h2⟩
   ·exact .inl ⟨i+1,b',v',.there hne h1,h2⟩
   ·exact .inr ⟨fun p hp=>by rcases List.mem_cons.1 hp with rfl | hp; exact hne; exact h1 p hp,h2⟩
theorem EnAt.set {en:Array Go.MapEntry} {es:List (Int×Nat×EV)} {i b:Nat} {n:Int} {y z:EV} {u:Value} (h:EnAt B en.toList es) (hi:es[i]? = some (n,b,z)) (hu:ER B y u) (f:Go.MapEntry→Go.MapEntry) (hf:∀ e,en[i]? = some e→(f e).key = .int .i64 n∧(f e).born=b∧(f e).val=u):EnAt B (en.modify i f).toList (es.set i (n,b,y)):=by
 refine ⟨by simpa using h.len,fun j k m x hj => ?_⟩
 have hlt:i<es.length:=(List.getElem?_eq_some_iff.1 hi).1
 rw [List.getElem?_set] at hj
 by_cases e:i=j
 ·subst e
  rw [if_pos rfl,if_pos hlt] at hj
  cases hj
  obtain ⟨v,h1,_,_,_⟩:=h.at_ i n b z hi
  have h1:en[i]? = some v:=by simpa using h1
  obtain ⟨f1,f2,f3⟩:=hf v h1
  exact ⟨f v,by rw [Array.getElem?_toList,Array.getElem?_modify,if_pos rfl,h1]; rfl,f1,f2,by rw [f3]; exact hu⟩
 ·rw [if_neg e] at hj
  obtain ⟨v,h1,h2⟩:=h.at_ j k m x hj
  exact ⟨v,by rw [Array.getElem?_toList,Array.getElem?_modify,if_neg e]; simpa using h1,h2⟩
theorem EnAt.push {en:Array Go.MapEntry} {es:List (Int×Nat×EV)} {b:Nat} {n:Int} {y:EV} {u:Value} (h:EnAt B en.toList es) (hu:ER B y u):EnAt B (en.push { key := .int .i64 n,val:=u,born:=b }).toList (es++[(n,b,y)]):=by
 refine ⟨by simpa using h.len,fun j k m x hj => ?_⟩
 rw [Array.toList_push]
 by_cases e:j<es.length
 ·rw [List.getElem?_append_left e] at hj
  obtain ⟨v,h1,h2⟩:=h.at_ j k m x hj
  exact ⟨v,by rw [List.getElem?_append_left (by rw [h.len]; exact e)]; exact h1,h2⟩
 ·rw [List.getElem?_append_right (by omega)] at hj
  have hj0:j-es.length=0:=by
   have:=(List.getElem?_eq_some_iff.1 hj).1
   simp at this
   omega
  rw [hj0] at hj
  cases hj
  exact ⟨_,by rw [List.getElem?_append_right (by rw [h.len]; omega),h.len,hj0]; rfl,rfl,rfl,hu⟩
theorem EnAt.del {en:Array Go.MapEntry} {es:List (Int×Nat×EV)} {i:Nat} (h:EnAt B en.toList es):EnAt B (en.eraseIdxIfInBounds i).toList (es.eraseIdx i):=by
 have ht:(en.eraseIdxIfInBounds i).toList=en.toList.eraseIdx i:=by simp
 rw [ht]
 refine ⟨by rw [List.length_eraseIdx,List.length_eraseIdx,h.len],fun j k m x hj => ?_⟩
 rw [List.getElem?_eraseIdx] at hj ⊢
 split at hj
 ·rename_i hlt; rw [if_pos hlt]; exact h.at_ j k m x hj
 ·rename_i hlt; rw [if_neg hlt]; exact h.at_ (j+1) k m x hj
def wset (w:World) (b:Nat) (y:Obj):World:={ w with heap:=w.heap.setIfInBounds b y }
theorem run_setObj (w:World) {b:Nat} {x y:Obj} (h:w.heap[b]? = some x) (hx:∀ c t f,x ≠ .cells c t f):(setObj b y).run P w = .ok () (wset w b y):=by
 simp only [setObj,Sem.run,h]
 cases x <;> first | rfl | exact absurd rfl (hx _ _ _)
theorem wset_get {w:World} {b:Nat} (y:Obj) (h:b<w.heap.size):(wset w b y).heap[b]? = some y:=by simp [wset,h]
theorem wset_touch (w:World) (b:Nat) (y:Obj):Touch [b] w (wset w b y) :=
 ⟨rfl,rfl,rfl,by simp [wset],fun k hk hn=>by
  have:b≠k:=fun e=>hn (by simp [e])
  simp [wset,Array.getElem?_setIfInBounds_ne this]⟩
theorem Wd.obj (hw:Wd P G S0 w0 B g w) {L:Nat} {q:BI} {x x':EO} (hx:g L = .o x) (hq:B L=some q) (y:Obj) (h:ObjAt B (wset w q.b y) q x'):Wd P G S0 w0 B (updH g L (.o x')) (wset w q.b y) :=
 hw.upd (by rw [hx]; rfl) hq (wset_touch w q.b y) (.o x') (by simp) (fun t rows hv=>by cases hv) (fun xo he=>by cases he; exact h) (fun t rows he=>by cases he)
def mapWr (H:List EB) (L:Nat) (r:EV) (ck:Nat) (K:KE) (es:List (Int×Nat×EV)):Prop:=setK H L (.o (.mp ck es)) fun H'=>K r H' [L] [L]
theorem lt_of_get {L:Nat} {b:EB} (h:H[L]? = some b):L<H.length:=(List.getElem?_eq_some_iff.1 h).1
theorem Out.map {L ck ck':Nat} {es es':List (Int×Nat×EV)} {r:EV} (hb:H[L]? = some (.o (.mp ck es))) (hK:K r (H.set L (.o (.mp ck' es'))) [L] [L])
  (hrun:∀ (B:Bm) (a:Act) (w:World) (q:BI) (en:Array Go.MapEntry),(∀ x,x∈o.op.operands→ER B (ev T x) (a.eval x))→B L=some q→w.heap[q.b]? = some (.map en ck)→EnAt B en.toList es →
   ∃ v nx en',(execOp a.eval o).run P w = .ok nx (wset w q.b (.map en' ck'))∧(nx = .value v∨nx = .skip∧v=undef)∧ER B r v∧EnAt B en'.toList es'):Out P G ops o T H K:=by
 refine Out.wr (lt_of_get hb) hK fun S0 w0 B a w g hxs hw hg => ?_
 obtain ⟨q,hq,hob⟩:=hw.mp L (.mp ck es) (by rw [hg,hf_get hb])
 obtain ⟨en,he,hen⟩:=EnAt.of hob
 obtain ⟨v,nx,en',h1,h2,h3,h4⟩:=hrun B a w q en hxs hq he hen
 exact ⟨v,_,nx,h1,h2,h3,hw.obj (by rw [hg,hf_get hb]) hq _ (EnAt.obj (wset_get _ (Array.getElem?_eq_some_iff.1 he).1) h4)⟩
theorem get_map {w:World} {b:Nat} {x:Obj} (h:w.heap[b]? = some x) (hx:∀ c t f,x ≠ .cells c t f):(getObj b).run P w = .ok x w:=by
 simp only [getObj,Sem.run,h]
def updE (P:Program) (H:List EB) (t:TypeId) (m k y:EV) (K:KE):Prop :=
 match m,k with
 | .m L,.v (.int .i64 n)=>ob H[L]? fun b=>match b with
  | .o (.mp ck es)=>ob (mapT P t) fun _=>mSetK n y es (mapWr H L (.t []) ck K) (appK es [(n,ck,y)] (mapWr H L (.t []) (ck+1) K))
  | _=>False
 | _,_=>False
theorem Out.mapUpdate {t:TypeId} {m k x:Operand} (ho:o.op = .mapUpdate t m k x∨o.op = .insert t m k x) (h:updE P H t (ev T m) (ev T k) (ev T x) K):Out P G ops o T H K:=by
 unfold updE at h
 have hops:m∈o.op.operands∧k∈o.op.operands∧x∈o.op.operands:=by rcases ho with ho | ho <;> (rw [ho]; simp [Op.operands])
 have hex:∀ (a:Act) (w w':World),(Instr.mapUpdate t (a.eval m) (a.eval k) (a.eval x)).run P w = .ok () w'→(execOp a.eval o).run P w = .ok .skip w':=fun a w w' h=>by
  unfold execOp
  rcases ho with ho | ho <;> simp [ho,h]
 split at h
 ·rename_i L n hm hk
  obtain ⟨b,hb,h⟩:=ob_inv h
  split at h
  ·rename_i ck es
   obtain ⟨p,hp,h⟩:=ob_inv h
   obtain ⟨p1,p2⟩:=mapT_of hp
   have vals:∀ {B:Bm} {a:Act} {q:BI},(∀ x,x∈o.op.operands→ER B (ev T x) (a.eval x))→B L=some q→a.eval m = .map (some q.b)∧a.eval k = .int .i64 n:=fun hxs hq=>by
    have h1:=hxs m hops.1
    rw [hm] at h1
    have h2:=hxs k hops.2.1
    rw [hk] at h2
    exact ⟨m_val hq h1,h2.v_inv⟩
   rcases mSetK_ok h with ⟨i,b',v,h1,h2⟩ | ⟨h1,h2⟩
   ·unfold mapWr at h2
    rw [setK_eq] at h2
    refine Out.map hb h2 fun B a w q en hxs hq he hen => ?_
    obtain ⟨e1,e2⟩:=vals hxs hq
    obtain ⟨y,a1,a2,a3,a4,a5⟩:=EnAt.find h1 0 hen
    rw [Nat.zero_add] at a5
    refine ⟨undef,.skip,_,hex a w _ ?_,.inr ⟨rfl,rfl⟩,undef_t B,hen.set h1.get (hxs x hops.2.2) (fun e=>{ e with key := .int .i64 n,val:=a.eval x }) fun e he'=>⟨rfl,?_,rfl⟩⟩
    ·have hfk:=run_findKey (P:=P) p2 a5 w
     have a1':en[i]? = some y:=by simpa using a1
     have hs:=run_setObj (P:=P) w (y := .map (en.modify i fun e=>{ e with key := .int .i64 n,val:=a.eval x }) ck) he (by simp)
     simp only [e1,e2,Instr.mapUpdate,Sem.run_bind,run_underlying p1,Result.andThen_ok,get_map he (by simp),run_checkKey p2,hfk,a1',Option.map_some,Option.getD_some,a2,Instr.keyThatStays,Instr.sameBits,beq_self_eq_true,Bool.and_self,if_true,Sem.run_pure,hs]
    ·have a1':en[i]? = some y:=by simpa using a1
     rw [a1'] at he'
     cases he'
     exact a3
   ·rw [appK_eq] at h2
    unfold mapWr at h2
    rw [setK_eq] at h2
    refine Out.map hb h2 fun B a w q en hxs hq he hen => ?_
    obtain ⟨e1,e2⟩:=vals hxs hq
    refine ⟨undef,.skip,_,hex a w _ ?_,.inr ⟨rfl,rfl⟩,undef_t B,hen.push (hxs x hops.2.2)⟩
    have hfk:=run_findKey (P:=P) p2 (EnAt.noFind 0 h1 hen) w
    have hs:=run_setObj (P:=P) w (y := .map (en.push { key := .int .i64 n,val:=a.eval x,born:=ck }) (ck+1)) he (by simp)
    simp only [e1,e2,Instr.mapUpdate,Sem.run_bind,run_underlying p1,Result.andThen_ok,get_map he (by simp),run_checkKey p2,hfk,hs]
  ·exact h.elim
 ·exact h.elim
def mkmE (H:List EB) (K:KE):Prop:=newK H (.o (.mp 0 [])) fun L H'=>K (.m L) H' [L] [L]
theorem Out.makeMap {t:TypeId} (ho:o.op = .makeMap t none) (h:mkmE H K):Out P G ops o T H K:=by
 unfold mkmE at h
 rw [newK_eq] at h
 refine Out.new h fun S0 w0 B a w g hxs hw hg => ?_
 have hle:=Bm.le_set (q:=⟨w.heap.size,0,0⟩) (hw.n H.length hg)
 refine ⟨B.set H.length ⟨w.heap.size,0,0⟩,.map (some w.heap.size),w.alloc (.map #[] 0),?_,hle,.m (Bm.set_self _ _ _),hw.new hg ((Touch.refl [] w).alloc _) (Nat.le_refl _) _ (by simp) (fun t rows hv=>by cases hv) (fun xo he => ?_) (fun t rows he=>by cases he)⟩
 ·unfold execOp
  simp only [ho,Option.map_none,Instr.makeMap,newObj,Sem.run_bind,Sem.run,Result.andThen_ok,Sem.run_pure]
  rfl
 ·cases he
  exact ⟨#[],heap_alloc_new w _,rfl,fun i k n x hi=>by simp at hi⟩
def mentE (P:Program) (H:List EB) (t:TypeId) (m k:EV) (K:KE):Prop :=
 match m,k with
 | .m L,.v (.int .i64 n)=>ob H[L]? fun b=>match b with
  | .o (.mp ck es)=>ob (mapT P t) fun p=>mGetK n es (fun _=>False) (zvK P p.2 fun z=>appK es [(n,ck,z)] (mapWr H L (.t [z,.v (.int .i64 (ck:Nat))]) (ck+1) K))
  | _=>False
 | _,_=>False
theorem pair_er {x y:EV} {u v:Value} (h:ER B x u) (k:ER B y v):ER B (.t [x,y]) (.tuple #[u,v]):=by
 refine .t rfl fun i x y hx hy => ?_
 match i,hx,hy with
 | 0,hx,hy=>cases hx; cases hy; exact h
 | 1,hx,hy=>cases hx; cases hy; exact k
 | i+2,hx,_=>simp at hx
theorem Out.mapEntry {t:TypeId} {m k:Operand} (ho:o.op = .mapEntry t m k) (h:mentE P H t (ev T m) (ev T k) K):Out P G ops o T H K:=by
 unfold mentE at h
 split at h
 ·rename_i L n hm hk
  obtain ⟨b,hb,h⟩:=ob_inv h
  split at h
  ·rename_i ck es
   obtain ⟨p,hp,h⟩:=ob_inv h
   obtain ⟨p1,p2⟩:=mapT_of hp
   rcases mGetK_ok h with ⟨i,b',v,h1,h2⟩ | ⟨h1,h2⟩
   ·exact h2.elim
   ·obtain ⟨z,x,hK,hx,hz⟩:=zvK_ok h2
    rw [appK_eq] at hK
    unfold mapWr at hK
    rw [setK_eq] at hK
    refine Out.map hb hK fun B a w q en hxs hq he hen => ?_
    have e1:=hxs m (by rw [ho]; simp [Op.operands])
    rw [hm] at e1
    have e1:=m_val hq e1
    have e2:=hxs k (by rw [ho]; simp [Op.operands])
    rw [hk] at e2
    have e2:=e2.v_inv
    refine ⟨.tuple #[z,goInt ck],_,_,?_,.inl rfl,pair_er (hx B) (.v _),hen.push (hx B)⟩
    have hfk:=run_findKey (P:=P) p2 (EnAt.noFind 0 h1 hen) w
    have hs:=run_setObj (P:=P) w (y := .map (en.push { key := .int .i64 n,val:=z,born:=ck }) (ck+1)) he (by simp)
    unfold execOp
    simp only [ho,e1,e2,Instr.mapEntry,Sem.run_bind,run_underlying p1,Result.andThen_ok,get_map he (by simp),run_checkKey p2,hfk,hz,hs,Sem.run_pure]
  ·exact h.elim
 ·exact h.elim
def mBornK (n:Nat) (y:EV):List (Int×Nat×EV)→(List (Int×Nat×EV)→Prop)→Prop
 | [],_=>False
 | (k,b,v)::r,K=>br (decide (b=n)) (K ((k,b,y)::r)) (mBornK n y r fun l=>K ((k,b,v)::l))
theorem mBornK_ok {n:Nat} {y:EV}:∀ {es:List (Int×Nat×EV)} {K:List (Int×Nat×EV)→Prop},mBornK n y es K→∃ i k v,es[i]? = some (k,n,v)∧(∀ j k' b' v',j<i→es[j]? = some (k',b',v')→b'≠n)∧K (es.set i (k,n,y)):=by
 intro es
 induction es with
 | nil=>intro K h; exact h.elim
 | cons p r ih =>
  intro K h
  obtain ⟨k,b,v⟩:=p
  rcases br_inv h with ⟨hd,h5⟩ | ⟨hd,h5⟩
  ·have e:=of_decide_eq_true hd
   subst e
   exact ⟨0,k,v,rfl,fun j _ _ _ hj=>absurd hj (by omega),h5⟩
  ·have hne:=of_decide_eq_false hd
   obtain ⟨i,k',v',h1,h2,h3⟩:=ih h5
   refine ⟨i+1,k',v',by simpa using h1,fun j a c d hj hd => ?_,h3⟩
   cases j with
   | zero=>cases hd; exact hne
   | succ j=>exact h2 j a c d (by omega) (by simpa using hd)
def estE (H:List EB) (m s y:EV) (K:KE):Prop :=
 match m,s with
 | .m L,.v (.int .i64 (.ofNat n))=>ob H[L]? fun b=>match b with
  | .o (.mp ck es)=>mBornK n y es (mapWr H L (.t []) ck K)
  | _=>False
 | _,_=>False
theorem Out.entryStore {t:TypeId} {m s x:Operand} (ho:o.op = .entryStore t m s x) (h:estE H (ev T m) (ev T s) (ev T x) K):Out P G ops o T H K:=by
 unfold estE at h
 split at h
 ·rename_i L n hm hk
  obtain ⟨b,hb,h⟩:=ob_inv h
  split at h
  ·rename_i ck es
   obtain ⟨i,k,v,h1,h2,h3⟩:=mBornK_ok h
   unfold mapWr at h3
   rw [setK_eq] at h3
   refine Out.map hb h3 fun B a w q en hxs hq he hen => ?_
   have e1:=hxs m (by rw [ho]; simp [Op.operands])
   rw [hm] at e1
   have e1:=m_val hq e1
   have e2:=hxs s (by rw [ho]; simp [Op.operands])
   rw [hk] at e2
   have e2:=e2.v_inv
   obtain ⟨y,a1,a2,a3,a4⟩:=hen.at_ i k n v h1
   have a1':en[i]? = some y:=by simpa using a1
   refine ⟨undef,.skip,_,?_,.inr ⟨rfl,rfl⟩,undef_t B,hen.set h1 (hxs x (by rw [ho]; simp [Op.operands])) (fun e=>{ e with val:=a.eval x }) fun e he' => ?_⟩
   ·have hfi:en.findIdx? (fun e=>(e.born:Int)==((n:Nat):Int))=some i:=by
     rw [Array.findIdx?_eq_some_iff_getElem]
     obtain ⟨hlt,hge⟩:=Array.getElem?_eq_some_iff.1 a1'
     refine ⟨hlt,by rw [hge]; simp [a3],fun j hj => ?_⟩
     have hj':j<es.length:=by have:=hen.len; simp at this; omega
     obtain ⟨⟨k2,b2,v2⟩,hj2⟩:∃ p,es[j]? = some p:=⟨_,List.getElem?_eq_getElem hj'⟩
     obtain ⟨y',c1,c2,c3,c4⟩:=hen.at_ j _ _ _ hj2
     have c1':en[j]? = some y':=by simpa using c1
     obtain ⟨hlt',hge'⟩:=Array.getElem?_eq_some_iff.1 c1'
     rw [hge',c3]
     have:=h2 j _ _ _ hj hj2
     simp
     omega
    have hs:=run_setObj (P:=P) w (y := .map (en.modify i fun e=>{ e with val:=a.eval x }) ck) he (by simp)
    have hI:Int.ofNat n=((n:Nat):Int):=rfl
    unfold execOp
    simp only [ho,e1,e2,Instr.entryStore,asInt,asIntOf,Sem.run_bind,Result.andThen_ok,get_map he (by simp),Sem.run_pure,hI,hfi,hs]
   ·rw [a1'] at he'
    cases he'
    exact ⟨a2,a3,rfl⟩
  ·exact h.elim
 ·exact h.elim
def delE (P:Program) (H:List EB) (ts:Array TypeId) (m k:EV) (K:KE):Prop :=
 match m,k with
 | .m L,.v (.int .i64 n)=>ob H[L]? fun b=>match b with
  | .o (.mp ck es)=>ob ts[0]? fun t=>ob (mapT P t) fun _=>mDelK n es (mapWr H L (.t []) ck K)
  | _=>False
 | _,_=>False
theorem Out.delete {m k:Operand} {ts:Array TypeId} (ho:o.op = .call { callee := .builtin .delete,args := #[m,k],argTypes:=ts }) (h:delE P H ts (ev T m) (ev T k) K):Out P G ops o T H K:=by
 unfold delE at h
 split at h
 ·rename_i L n hm hk
  obtain ⟨b,hb,h⟩:=ob_inv h
  split at h
  ·rename_i ck es
   obtain ⟨t,ht,h⟩:=ob_inv h
   obtain ⟨p,hp,h⟩:=ob_inv h
   obtain ⟨p1,p2⟩:=mapT_of hp
   have hops:∀ x,x=m∨x=k→x∈o.op.operands:=fun x hx=>by
    have:o.op.operands = #[m,k]:=by rw [ho]; rfl
    rw [this]
    rcases hx with rfl | rfl <;> simp
   have vals:∀ {B:Bm} {a:Act} {q:BI},(∀ x,x∈o.op.operands→ER B (ev T x) (a.eval x))→B L=some q→a.eval m = .map (some q.b)∧a.eval k = .int .i64 n:=fun hxs hq=>by
    have h1:=hxs m (hops m (.inl rfl))
    rw [hm] at h1
    have h2:=hxs k (hops k (.inr rfl))
    rw [hk] at h2
    exact ⟨m_val hq h1,h2.v_inv⟩
   rcases mDelK_ok h with ⟨i,b',v,h1,h2⟩ | ⟨h1,h2⟩
   ·unfold mapWr at h2
    rw [setK_eq] at h2
    refine Out.map hb h2 fun B a w q en hxs hq he hen => ?_
    obtain ⟨e1,e2⟩:=vals hxs hq
    obtain ⟨y,a1,a2,a3,a4,a5⟩:=EnAt.find h1 0 hen
    rw [Nat.zero_add] at a5
    refine ⟨.tuple #[],_,_,?_,.inl rfl,undef_t B,hen.del (i:=i)⟩
    have hfk:=run_findKey (P:=P) p2 a5 w
    have hs:=run_setObj (P:=P) w (y := .map (en.eraseIdxIfInBounds i) ck) he (by simp)
    unfold execOp
    simp only [ho,resolve,invoke,builtin,Builtin.delete_,ht,e1,e2,List.map_toArray,List.map_cons,List.map_nil,Sem.run_bind,run_underlying p1,Result.andThen_ok,get_map he (by simp),run_checkKey p2,hfk,hs,Sem.run_pure,List.getElem?_toArray,List.getElem?_cons_zero,List.getElem?_cons_succ]
   ·unfold mapWr at h2
    rw [setK_eq] at h2
    refine Out.map hb h2 fun B a w q en hxs hq he hen => ?_
    obtain ⟨e1,e2⟩:=vals hxs hq
    refine ⟨.tuple #[],_,en,?_,.inl rfl,undef_t B,hen⟩
    have hfk:=run_findKey (P:=P) p2 (EnAt.noFind 0 h1 hen) w
    have hs:=run_setObj (P:=P) w (y := .map en ck) he (by simp)
    unfold execOp
    simp only [ho,resolve,invoke,builtin,Builtin.delete_,ht,e1,e2,List.map_toArray,List.map_cons,List.map_nil,Sem.run_bind,run_underlying p1,Result.andThen_ok,get_map he (by simp),run_checkKey p2,hfk,hs,Sem.run_pure,List.getElem?_toArray,List.getElem?_cons_zero,List.getElem?_cons_succ]
  ·exact h.elim
 ·exact h.elim
def rngE (P:Program) (H:List EB) (t:TypeId) (x:EV) (K:KE):Prop :=
 match x with
 | .v (.string s)=>br (isStrT P t) (newK H (.o (.it s 0)) fun L H'=>K (.p L 0 0) H' [L] [L]) False
 | _=>False
theorem Out.range {t:TypeId} {x:Operand} (ho:o.op = .range t x) (h:rngE P H t (ev T x) K):Out P G ops o T H K:=by
 unfold rngE at h
 split at h
 ·rename_i s hx
  rcases br_inv h with ⟨ht,h⟩ | ⟨_,h⟩
  ·rw [newK_eq] at h
   refine Out.new h fun S0 w0 B a w g hxs hw hg => ?_
   have hle:=Bm.le_set (q:=⟨w.heap.size,0,0⟩) (hw.n H.length hg)
   have e1:=hxs x (by rw [ho]; simp [Op.operands])
   rw [hx] at e1
   have e1:=e1.v_inv
   refine ⟨B.set H.length ⟨w.heap.size,0,0⟩,.pointer (some ⟨w.heap.size,0,none⟩),w.alloc (.stringIter s 0),?_,hle,?_,hw.new hg ((Touch.refl [] w).alloc _) (Nat.le_refl _) _ (by simp) (fun t rows hv=>by cases hv) (fun xo he => ?_) (fun t rows he=>by cases he)⟩
   ·unfold execOp
    simp only [ho,e1,Instr.range,Sem.run_bind,run_underlying (isStrT_of ht),Result.andThen_ok,Sem.run_pure,newObj,Sem.run]
    rfl
   ·have:=ER.p (B:=B.set H.length ⟨w.heap.size,0,0⟩) (i:=0) (f:=0) (Bm.set_self B H.length ⟨w.heap.size,0,0⟩)
    simpa using this
   ·cases he
    exact heap_alloc_new w _
  ·exact h.elim
 ·exact h.elim
def nxtE (H:List EB) (x:EV) (b:Bool) (K:KE):Prop :=
 match x,b with
 | .p L 0 0,true=>ob H[L]? fun y=>match y with
  | .o (.it s pos)=>br (decide (pos<s.size)) (setK H L (.o (.it s (pos+(Utf8.decode s pos).2))) fun H'=>K (.t [.v (.bool true),.v (.int .i64 (pos:Nat)),.v (.int .i32 (Utf8.decode s pos).1)]) H' [L] [L]) (K (.t [.v (.bool false)]) H [L] [])
  | _=>False
 | _,_=>False
theorem Out.next {x:Operand} {b:Bool} (ho:o.op = .next x b) (h:nxtE H (ev T x) b K):Out P G ops o T H K:=by
 unfold nxtE at h
 split at h
 ·rename_i L hx
  obtain ⟨y,hb,h⟩:=ob_inv h
  split at h
  ·rename_i s pos
   have e1:∀ {B:Bm} {a:Act} {q:BI},(∀ x,x∈o.op.operands→ER B (ev T x) (a.eval x))→B L=some q→a.eval x = .pointer (some ⟨q.b,0,none⟩):=fun hxs hq=>by
    have h1:=hxs x (by rw [ho]; simp [Op.operands])
    rw [hx] at h1
    obtain ⟨q',hq',hu⟩:=h1.p_inv
    rw [hq] at hq'
    cases hq'
    simpa using hu
   rcases br_inv h with ⟨hp,h⟩ | ⟨hp,h⟩
   ·rw [setK_eq] at h
    have hp:=of_decide_eq_true hp
    refine Out.wr (lt_of_get hb) h fun S0 w0 B a w g hxs hw hg => ?_
    obtain ⟨q,hq,hob⟩:=hw.mp L (.it s pos) (by rw [hg,hf_get hb])
    have hob:w.heap[q.b]? = some (.stringIter s pos):=hob
    refine ⟨.tuple #[.bool true,goInt pos,.int .i32 (Utf8.decode s pos).1],_,_,?_,.inl rfl,?_,hw.obj (by rw [hg,hf_get hb]) hq (.stringIter s (pos+(Utf8.decode s pos).2)) (wset_get _ (Array.getElem?_eq_some_iff.1 hob).1)⟩
    ·have hs:=run_setObj (P:=P) w (y := .stringIter s (pos+(Utf8.decode s pos).2)) hob (by simp)
     unfold execOp
     simp only [ho,e1 hxs hq,Instr.next,Sem.run_bind,get_map hob (by simp),Result.andThen_ok,hp,if_true,hs,Sem.run_pure]
    ·refine .t rfl fun i x y hx hy => ?_
     match i,hx,hy with
     | 0,hx,hy=>cases hx; cases hy; exact .v _
     | 1,hx,hy=>cases hx; cases hy; exact .v _
     | 2,hx,hy=>cases hx; cases hy; exact .v _
     | i+3,hx,_=>simp at hx
   ·have hp:=of_decide_eq_false hp
    refine Out.rd h fun S0 w0 B a w g hxs hw hg => ?_
    obtain ⟨q,hq,hob⟩:=hw.mp L (.it s pos) (by rw [hg,hf_get hb])
    have hob:w.heap[q.b]? = some (.stringIter s pos):=hob
    refine ⟨.tuple #[.bool false],?_,.t rfl fun i x y hx hy => ?_⟩
    ·unfold execOp
     simp only [ho,e1 hxs hq,Instr.next,Sem.run_bind,get_map hob (by simp),Result.andThen_ok,hp,if_false,Sem.run_pure]
    ·match i,hx,hy with
     | 0,hx,hy=>cases hx; cases hy; exact .v _
     | i+1,hx,_=>simp at hx
  ·exact h.elim
 ·exact h.elim
def lenMapE (P:Program) (H:List EB) (ts:Array TypeId) (x:EV) (K:KE) (N:Prop):Prop :=
 match x with
 | .m L=>ob H[L]? fun b=>match b with | .o (.mp _ es)=>ob ts[0]? fun t=>ob (mapT P t) fun _=>K (.v (.int .i64 (es.length:Nat))) H [L] [] | _=>False
 | _=>N
theorem Out.lenMap {x:Operand} {ts:Array TypeId} {N:Prop} (ho:o.op = .call { callee := .builtin .len,args := #[x],argTypes:=ts }) (h:lenMapE P H ts (ev T x) K N):Out P G ops o T H K∨N:=by
 unfold lenMapE at h
 split at h
 ·rename_i L hx
  obtain ⟨b,hb,h⟩:=ob_inv h
  split at h
  ·rename_i ck es
   obtain ⟨t,ht,h⟩:=ob_inv h
   obtain ⟨p,hp,h⟩:=ob_inv h
   obtain ⟨p1,p2⟩:=mapT_of hp
   refine .inl (Out.rd h fun S0 w0 B a w g hxs hw hg => ?_)
   obtain ⟨q,hq,hob⟩:=hw.mp L (.mp ck es) (by rw [hg,hf_get hb])
   obtain ⟨en,he,hen⟩:=EnAt.of hob
   have h1:=hxs x (by have:o.op.operands = #[x]:=by rw [ho]; rfl
                      rw [this]; simp)
   rw [hx] at h1
   have h1:=m_val hq h1
   refine ⟨.int .i64 (es.length:Nat),?_,.v _⟩
   unfold execOp
   simp only [ho,resolve,invoke,builtin,Builtin.len_,ht,h1,List.map_toArray,List.map_cons,List.map_nil,Sem.run_bind,run_underlying p1,Result.andThen_ok,get_map he (by simp),Sem.run_pure,List.getElem?_toArray,List.getElem?_cons_zero]
   rw [show en.size=es.length from by simpa using hen.len]
   rfl
  ·exact h.elim
 ·exact .inr h
end
section
variable {P:Program} {G:Gl} {ops:Array Oper} {o:Oper} {T:List (Nat×EV)} {H H':List EB} {K:KE} {B:Bm} {w:World} {ρ:Operand→Value} {S0:List Nat} {w0:World} {g:EH}
def byteEl (P:Program) (t:TypeId):Option TypeId:=match P.underlying t with | some (.slice e)=>(match P.underlying e with | some (.int .u8)=>if P.cellsOf e=1 then some e else none | _=>none) | _=>none
theorem byteEl_of {t e:TypeId} (h:byteEl P t=some e):P.underlying t=some (.slice e)∧P.underlying e=some (.int .u8)∧P.cellsOf e=1:=by
 unfold byteEl at h
 split at h
 ·split at h
  ·split at h
   ·cases h; exact ⟨by assumption,by assumption,by assumption⟩
   ·cases h
  ·cases h
 ·cases h
def s2bE (P:Program) (H:List EB) (src dst:TypeId) (s:ByteArray) (K:KE) (N:Prop):Prop :=
 match byteEl P dst with
 | some e=>br (isStrT P src&&Nat.beq e 5) (s.size≤1099511627776∧newK H (.rs e (byR s.data.toList)) fun L H'=>K (.s L 0 s.size false) H' [L] [L]) False
 | none=>N
theorem byR_get {l:List UInt8} {i:Nat} {row:List EV} (h:(byR l)[i]? = some row):∃ b,l[i]? = some b∧row=[.v (.int .u8 b.toNat)]:=by
 unfold byR at h
 rw [List.getElem?_map] at h
 obtain ⟨b,h1,h2⟩:=Option.map_eq_some_iff.1 h
 exact ⟨b,h1,h2.symm⟩
theorem Out.s2b {src dst:TypeId} {x:Operand} {s:ByteArray} {N:Prop} (ho:o.op = .convert src dst x) (hx:ev T x = .v (.string s)) (h:s2bE P H src dst s K N):Out P G ops o T H K∨N:=by
 unfold s2bE at h
 split at h
 ·rename_i e he
  obtain ⟨d1,d2,d3⟩:=byteEl_of he
  rcases br_inv h with ⟨hs2,hn,h⟩ | ⟨_,h⟩
  ·obtain ⟨hs,hs3⟩:=Bool.and_eq_true_iff.1 hs2
   rw [newK_eq] at h
   refine .inl (Out.new h fun S0 w0 B a w g hxs hw hg => ?_)
   have e1:=hxs x (by rw [ho]; simp [Op.operands])
   rw [hx] at e1
   have e1:=e1.v_inv
   have hcap:=grownCap_ge w s.size 0 e
   have hmax:=grownCap_le_maxLen w s.size 0 e (by simp only [maxLen]; omega)
   have hrun:=Lib.run_convert_string_bytes (P:=P) w src dst e s (isStrT_of hs) d1 d2
   have hsz:(Lib.bytesCells w e s).size=grownCap w s.size 0 e:=by
    have:s.data.size=s.size:=rfl
    simp [Lib.bytesCells,this]; omega
   have hat:=Lib.bytesWorld_at_new w e s
   have hle:=Bm.le_set (q:=⟨w.heap.size,1,(Lib.bytesCells w e s).size⟩) (hw.n H.length hg)
   refine ⟨B.set H.length ⟨w.heap.size,1,(Lib.bytesCells w e s).size⟩,_,Lib.bytesWorld w e s,by unfold execOp; simp [ho,e1,hrun]; rfl,hle,?_,hw.new hg ?_ (Nat.le_refl _) _ (by simp) (fun t rows hv => ?_) (fun xo he=>by cases he) (fun t rows he=>by cases he; exact byR_plain _)⟩
   ·by_cases h0:s.size=0
    ·have hv:(Value.slice (some ⟨w.heap.size,0,none⟩) s.size (grownCap w s.size 0 e))=Value.slice (some ⟨w.heap.size,0,none⟩) 0 (grownCap w s.size 0 e):=by rw [h0]
     by_cases hc0:grownCap w s.size 0 e=0
     ·rw [h0] at hc0 ⊢
      rw [hc0]
      exact .e _
     ·have:=ER.s (B:=B.set H.length ⟨w.heap.size,1,(Lib.bytesCells w e s).size⟩) (i:=0) (n:=s.size) (c:=grownCap w s.size 0 e) (Bm.set_self _ _ _) hcap (by omega) hmax (by simp [hsz])
      simpa using this
    ·have:=ER.s (B:=B.set H.length ⟨w.heap.size,1,(Lib.bytesCells w e s).size⟩) (i:=0) (n:=s.size) (c:=grownCap w s.size 0 e) (Bm.set_self _ _ _) hcap (by omega) hmax (by simp [hsz])
     simpa using this
   ·refine ⟨?_,?_,?_,by rw [Lib.bytesWorld_size]; omega,fun k hk _=>Lib.bytesWorld_at_old w e s k hk⟩ <;> rfl
   ·cases hv
    refine ⟨d3.symm,_,⟨_,_,hat,.inr ⟨Nat.le_refl _,Nat.eq_of_beq_eq_true hs3⟩⟩,rfl,?_,fun i row hi => ?_⟩
    ·have:(byR s.data.toList).length=s.size:=by simp [byR]
     rw [this,Nat.mul_one,hsz]; exact hcap
    ·obtain ⟨b,hb,rfl⟩:=byR_get hi
     refine ⟨rfl,fun f x hx => ?_⟩
     have hf:f=0:=by
      have:=(List.getElem?_eq_some_iff.1 hx).1
      simp at this; omega
     subst hf
     cases hx
     have hb':s.data[i]? = some b:=by simpa using hb
     have hlt:i<s.data.size:=(Array.getElem?_eq_some_iff.1 hb').1
     refine ⟨.int .u8 b.toNat,?_,.v _,rfl⟩
     simp only [Nat.mul_one,Nat.add_zero,Lib.bytesCells]
     rw [Array.getElem?_append_left (by simpa using hlt),Array.getElem?_map,hb']
     rfl
  ·exact h.elim
 ·exact .inr h
theorem RowsAt.puts {q:BI} {t:TypeId} {rows:List (List EV)} (hr:RowsAt P B w q t rows) (i:Nat) (src:List (List EV)) (us:List Value) (hul:us.length=src.length*q.k) (hfit:i+src.length≤rows.length) (hrl:∀ r,r∈src→r.length=q.k)
  (hv:∀ (j:Nat) (row:List EV),src[j]? = some row→∀ (f:Nat) (x:EV) (u:Value),row[f]? = some x→us[j*q.k+f]? = some u→ER B x u) (ho:∀ u∈us,u.oneCell'=true):RowsAt P B (w.setCells q.b (i*q.k) us) q t (putL rows i src):=by
 obtain ⟨hk,c,hb,hs,hlen,hrow⟩:=hr
 obtain ⟨c',hb',hs',hout,hin⟩:=Bf.setCells (g:=q.b) (t:=t) us (i*q.k) w c hb
 have hpl:(putL rows i src).length=rows.length:=by unfold putL; simp; omega
 have hmul:(i+src.length)*q.k≤rows.length*q.k:=Nat.mul_le_mul_right _ hfit
 rw [Nat.add_mul] at hmul
 refine ⟨hk,c',hb',hs'.trans hs,by rw [hpl]; exact hlen,fun j row hj => ?_⟩
 have old:(j<i∨i+src.length≤j)→rows[j]? = some row→row.length=q.k∧∀ (f:Nat) (x:EV),row[f]? = some x→∃ u,c'[j*q.k+f]? = some u∧ER B x u∧u.oneCell'=true:=fun hcase hj=>by
  obtain ⟨h1,h2⟩:=hrow j row hj
  refine ⟨h1,fun f x hx => ?_⟩
  have hf:f<q.k:=by rw [← h1]; exact (List.getElem?_eq_some_iff.1 hx).1
  obtain ⟨u,a1,a2⟩:=h2 f x hx
  refine ⟨u,?_,a2⟩
  rw [hout _ ?_]
  ·exact a1
  ·rcases hcase with hlt | hge
   ·left
    have:=Nat.mul_le_mul_right q.k hlt
    rw [Nat.succ_mul] at this
    omega
   ·right
    have:=Nat.mul_le_mul_right q.k hge
    rw [Nat.add_mul] at this
    omega
 unfold putL at hj
 by_cases h1:j<i
 ·rw [List.append_assoc,List.getElem?_append_left (by simp; omega),List.getElem?_take,if_pos h1] at hj
  exact old (.inl h1) hj
 ·by_cases h2:j<i+src.length
  ·rw [List.append_assoc,List.getElem?_append_right (by simp; omega),List.getElem?_append_left (by simp; omega)] at hj
   have hj':src[j-i]? = some row:=by
    rw [← hj]
    congr 1
    simp
    omega
   have hl:=hrl row (List.mem_of_getElem? hj')
   refine ⟨hl,fun f x hx => ?_⟩
   have hf:f<q.k:=by rw [← hl]; exact (List.getElem?_eq_some_iff.1 hx).1
   have hjl:j-i<src.length:=(List.getElem?_eq_some_iff.1 hj').1
   have hb2:(j-i)*q.k+f<us.length:=by
    rw [hul]
    have:=Nat.mul_le_mul_right q.k hjl
    rw [Nat.succ_mul] at this
    omega
   refine ⟨us[(j-i)*q.k+f],?_,hv _ row hj' f x _ hx (List.getElem?_eq_getElem hb2),ho _ (List.getElem_mem _)⟩
   have hcs:i*q.k+((j-i)*q.k+f)<c.size:=by omega
   have:=hin _ _ (List.getElem?_eq_getElem hb2) hcs
   have e:i*q.k+((j-i)*q.k+f)=j*q.k+f:=by
    rw [← Nat.add_assoc,← Nat.add_mul,show i+(j-i)=j by omega]
   rwa [e] at this
  ·have hj':rows[j]? = some row:=by
    rw [← hj,List.getElem?_append_right (by simp; omega),List.getElem?_drop]
    congr 1
    simp
    omega
   exact old (.inr (by omega)) hj'
theorem src_us {L' i' m:Nat} {z:Bool} {t':TypeId} {rows':List (List EV)} {u:Value} {el:TypeId} (hw:Wd P G S0 w0 B g w) (hg:g L' = .rs t' rows') (hu:ER B (.s L' i' m z) u) (hfit:i'+m≤rows'.length) (hk:P.cellsOf t'=P.cellsOf el) (k:Nat) (hkm:k≤m) :
  ∃ (us:List Value) (A:Option Addr) (c:Nat),u = .slice A m c∧us.length=k*P.cellsOf el∧(Builtin.firstCells (P.cellsOf el) k u).run P w = .ok us.toArray w∧(∀ x∈us,x.oneCell'=true) ∧
   (∀ r,r∈(rows'.drop i').take k→r.length=P.cellsOf el)∧∀ (j:Nat) (row:List EV),((rows'.drop i').take k)[j]? = some row→∀ (f:Nat) (x:EV) (y:Value),row[f]? = some x→us[j*P.cellsOf el+f]? = some y→ER B x y:=by
 rcases hu.s_inv with ⟨q,c,hq,hnc,hc0,hcm,hsz,hz,hv⟩ | ⟨hm0,A,hv⟩
 ·rcases hw.row L' t' rows' (by rw [hg]; rfl) with ⟨q',h,hr⟩ | ⟨_,h⟩
  rotate_left
  ·rw [hq] at h; cases h
  rw [hq] at h; cases h
  obtain ⟨us,u1,u2,u3,u4,u5⟩:=hr.cells
  have hqk:q.k=P.cellsOf el:=hr.1.trans hk
  have hmul:(i'+k)*q.k≤rows'.length*q.k:=Nat.mul_le_mul_right _ (by omega)
  rw [Nat.add_mul] at hmul
  have hl:((us.drop (i'*q.k)).take (k*q.k)).length=k*q.k:=by simp; omega
  have at_:∀ j,j<k*q.k→((us.drop (i'*q.k)).take (k*q.k))[j]? = us[i'*q.k+j]? := fun j hj=>by rw [List.getElem?_take,if_pos hj,List.getElem?_drop]
  refine ⟨(us.drop (i'*q.k)).take (k*q.k),_,c,hv,by rw [hl,hqk],?_,fun x hx=>u2 x (List.mem_of_mem_drop (List.mem_of_mem_take hx)),fun r hr' => ?_,fun j row hj f x y hx hy => ?_⟩
  ·rw [hv]
   refine run_firstCells_some w (P.cellsOf el) k _ m c _ (by rw [hl,hqk]) fun j v hj => ?_
   have hjl:j<k*q.k:=by rw [← hl]; exact (List.getElem?_eq_some_iff.1 hj).1
   rw [at_ j hjl] at hj
   have:=u3 _ v hj
   rw [Addr.add_lit]
   simpa using this
  ·have hr'':=List.mem_of_mem_drop (List.mem_of_mem_take hr')
   obtain ⟨j,hj⟩:=List.mem_iff_getElem?.1 hr''
   obtain ⟨_,_,_,_,_,hrr⟩:=hr
   rw [(hrr j r hj).1,hqk]
  ·rw [List.getElem?_take] at hj
   split at hj
   ·rename_i hjk
    rw [List.getElem?_drop] at hj
    have hrl:row.length=q.k:=by
     obtain ⟨_,_,_,_,_,hrr⟩:=hr
     exact (hrr _ row hj).1
    have hf:f<q.k:=by rw [← hrl]; exact (List.getElem?_eq_some_iff.1 hx).1
    have h7:=Nat.mul_le_mul_right q.k hjk
    rw [Nat.succ_mul] at h7
    rw [← hqk,at_ _ (by omega)] at hy
    refine u5 (i'+j) row hj f x y hx ?_
    rw [Nat.add_mul,Nat.add_assoc]
    exact hy
   ·cases hj
 ·have hm0:m=0:=hm0
  subst hm0
  have hk0:k=0:=by omega
  subst hk0
  refine ⟨[],A,0,hv,by simp,?_,fun x hx=>(by cases hx),fun r hr=>by simp at hr,fun j row hj=>by simp at hj⟩
  rw [hv]
  cases A with
  | none=>exact run_firstCells_none w _ 0 0 0
  | some a=>exact run_firstCells_some w _ 0 a 0 0 [] (by simp) (by intro _ _ h'; simp at h')
def cpyE (P:Program) (H:List EB) (ts:Array TypeId) (d s:EV) (K:KE):Prop :=
 match d,s with
 | .s L i n _,.s L' i' m _=>ob H[L]? fun b=>ob H[L']? fun b'=>match b,b' with
  | .rs t rows,.rs t' rows'=>ob ts[0]? fun tt=>ob (slcEl P tt) fun el=>br (Nat.beq (P.cellsOf t) (P.cellsOf el)&&Nat.beq (P.cellsOf t') (P.cellsOf el)) ((i+n≤rows.length∧i'+m≤rows'.length)∧setK H L (.rs t (putL rows i ((rows'.drop i').take (Nat.min m n)))) fun H'=>K (.v (.int .i64 (Nat.min m n:Nat))) H' [L,L'] [L]) False
  | _,_=>False
 | _,_=>False
theorem putL_nil {α:Type} (rows:List α) (i:Nat):putL rows i []=rows:=by simp [putL]
theorem Out.copy {d s:Operand} {ts:Array TypeId} (ho:o.op = .call { callee := .builtin .copy,args := #[d,s],argTypes:=ts }) (h:cpyE P H ts (ev T d) (ev T s) K):Out P G ops o T H K:=by
 unfold cpyE at h
 split at h
 ·rename_i L i n z L' i' m z' hd hs
  obtain ⟨b,hb,h⟩:=ob_inv h
  obtain ⟨b',hb',h⟩:=ob_inv h
  split at h
  ·rename_i t rows t' rows' _
   obtain ⟨tt,ht,h⟩:=ob_inv h
   obtain ⟨el,hel,h⟩:=ob_inv h
   obtain ⟨p1,p2⟩:=slcEl_of hel
   rcases br_inv h with ⟨hc,⟨f1,f2⟩,h⟩ | ⟨_,h⟩
   ·rw [setK_eq] at h
    obtain ⟨hc1,hc2⟩:=Bool.and_eq_true_iff.1 hc
    have hc1:P.cellsOf t=P.cellsOf el:=Nat.eq_of_beq_eq_true hc1
    have hc2:P.cellsOf t'=P.cellsOf el:=Nat.eq_of_beq_eq_true hc2
    have hop:o.op.operands = #[d,s]:=by rw [ho]; rfl
    refine ⟨_,_,[L,L'],[L],h,St.of fun S0 w0 B a w g hxs hw hF => ?_,by rw [hf_set (lt_of_get hb)]; funext M; unfold updH; by_cases e:M=L <;> simp [e]⟩
    have hgL:g L = .rs t rows:=(hF L (by simp)).trans (hf_get hb)
    have hgL':g L' = .rs t' rows':=(hF L' (by simp)).trans (hf_get hb')
    have e1:=hxs d (by rw [hop]; simp)
    have e2:=hxs s (by rw [hop]; simp)
    rw [hd] at e1
    rw [hs] at e2
    have hkm:Nat.min m n≤m:=Nat.min_le_left _ _
    have hkn:Nat.min m n≤n:=Nat.min_le_right _ _
    obtain ⟨us,A,c,hu,ul,uf,uo,ur,uv⟩:=src_us hw hgL' e2 f2 hc2 (Nat.min m n) hkm
    have hszel:∃ ii,P.info? el=some ii∧ii.size=P.cellsOf el:=by
     have:=cellsOf_info rfl (by omega:P.cellsOf el≠0)
     cases hq2:P.info? el with
     | none=>simp [hq2] at this
     | some i2=>exact ⟨i2,rfl,by simpa [hq2] using this⟩
    obtain ⟨ii,hi1,hi2⟩:=hszel
    have hsz:(sizeOf el).run P w = .ok (P.cellsOf el) w:=by simp [sizeOf,typeInfo,hi1,hi2]
    have hexec:∀ w',(match a.eval d with | .slice (some p) _ _=>(storeCells p us).run P w = .ok () w' | _=>w'=w)→(∃ A' c',a.eval d = .slice A' n c')→(execOp a.eval o).run P w = .ok (.value (.int .i64 (Nat.min m n:Nat))) w':=fun w' hst ⟨A',c',he⟩=>by
     rw [he] at hst
     unfold execOp
     rw [hu] at uf
     cases A' with
     | none=>simp only [ho,resolve,invoke,builtin,Builtin.copy_,Builtin.lenOf,ht,he,hu,List.map_toArray,List.map_cons,List.map_nil,Sem.run_bind,run_underlying p1,Result.andThen_ok,hsz,uf,Sem.run_pure,List.getElem?_toArray,List.getElem?_cons_zero,List.getElem?_cons_succ]; rw [hst]; rfl
     | some p=>simp only [ho,resolve,invoke,builtin,Builtin.copy_,Builtin.lenOf,ht,he,hu,List.map_toArray,List.map_cons,List.map_nil,Sem.run_bind,run_underlying p1,Result.andThen_ok,hsz,uf,Sem.run_pure,List.getElem?_toArray,List.getElem?_cons_zero,List.getElem?_cons_succ,hst]; rfl
    have hnoch:Nat.min m n=0→Wd P G S0 w0 B (fun M=>if M∈[L] then hf (H.set L (.rs t (putL rows i ((rows'.drop i').take (Nat.min m n))))) M else g M) w:=fun h0=>hw.cast (by
     funext M
     by_cases e:M=L
     ·subst e
      rw [if_pos (by simp),hf_set (lt_of_get hb)]
      unfold updH
      rw [if_pos rfl,h0,List.take_zero,putL_nil,hgL]
     ·rw [if_neg (by simpa using e)])
    have hus0:Nat.min m n=0→us=[]:=fun h0=>List.eq_nil_of_length_eq_zero (by rw [ul,h0]; simp)
    rcases e1.s_inv with ⟨q,cc,hq,hnc,hc0,hcm,hsz2,hz,hv⟩ | ⟨hn0,A',hv⟩
    ·rcases hw.row L t rows (by rw [hgL]; rfl) with ⟨q',hh,hr⟩ | ⟨_,hh⟩
     rotate_left
     ·rw [hq] at hh; cases hh
     rw [hq] at hh; cases hh
     have hqk:q.k=P.cellsOf el:=hr.1.trans hc1
     have hsl:((rows'.drop i').take (Nat.min m n)).length=Nat.min m n:=by rw [List.length_take,List.length_drop]; exact Nat.min_eq_left (by omega)
     have hp:=hr.puts i ((rows'.drop i').take (Nat.min m n)) us (by rw [ul,hsl,hqk]) (by rw [hsl]; omega) (fun r hr'=>by rw [hqk]; exact ur r hr') (fun j row hj f x u hx hu'=>uv j row hj f x u hx (by rw [← hqk]; exact hu')) uo
     obtain ⟨_,cur,hcur,hcs,hlen,_⟩:=id hr
     have hmul:(i+Nat.min m n)*q.k≤rows.length*q.k:=Nat.mul_le_mul_right _ (by omega)
     rw [Nat.add_mul] at hmul
     have hst:(storeCells ⟨q.b,i*q.k,none⟩ us).run P w = .ok () (w.setCells q.b (i*q.k) us):=by
      have:=run_storeCells_cells (P:=P) q.b (i*q.k) us 0 w (fun j hj=>by rw [hcur.cell,Array.getElem?_eq_getElem (by rw [ul,← hqk] at hj; omega)]; rfl) (fun j hj=>hcur.frozen _ (by rw [ul,← hqk] at hj; omega)) uo
      simpa using this
     refine ⟨B,_,w.setCells q.b (i*q.k) us,_,hexec _ (by rw [hv]; exact hst) ⟨_,_,hv⟩,.inl rfl,Bm.le.refl _,.v _,?_⟩
     have hupd:=hw.upd (L:=L) (by rw [hgL]; rfl) hq (Touch.setCells (S:=[q.b]) (b:=q.b) (.inl (by simp)) us _ w (Touch.refl _ _)) (.rs t (putL rows i ((rows'.drop i').take (Nat.min m n)))) (by simp) (fun t2 rows2 hv2=>by cases hv2; exact hp) (fun xo he=>by cases he) (fun t2 rows2 he=>by
      cases he
      have h1:=hw.pl L t rows hgL
      have h2:=hw.pl L' t' rows' hgL'
      intro r hr'
      unfold putL at hr'
      rcases List.mem_append.1 hr' with hr' | hr'
      ·rcases List.mem_append.1 hr' with hr' | hr'
       ·exact h1 r (List.mem_of_mem_take hr')
       ·exact h2 r (List.mem_of_mem_drop (List.mem_of_mem_take hr'))
      ·exact h1 r (List.mem_of_mem_drop hr'))
     exact hupd.cast (by rw [hf_set (lt_of_get hb),upd_if])
    ·have h0:Nat.min m n=0:=by omega
     refine ⟨B,_,w,_,hexec w ?_ ⟨A',0,by rw [hv,hn0]⟩,.inl rfl,Bm.le.refl _,.v _,hnoch h0⟩
     rw [hv,hus0 h0]
     cases A' with
     | none=>rfl
     | some p=>simp [storeCells]
   ·exact h.elim
  ·exact h.elim
 ·exact h.elim
def ldQ (P:Program) (H:List EB) (t:TypeId) (x:EV) (K:KE) (N:Prop):Prop :=
 match x with
 | .p L i f=>(match H[L]? with
  | some (.o (.ag _ n p))=>ob (P.underlying t) fun d=>br (d.isRow&&Nat.beq n (P.cellsOf t)&&Nat.blt 0 n&&Nat.beq i 0&&Nat.beq f 0) (K (.q p) H [L] []) False
  | _=>N)
 | _=>N
theorem Out.loadQ {t:TypeId} {x:Operand} {N:Prop} (ho:o.op = .load t x) (h:ldQ P H t (ev T x) K N):Out P G ops o T H K∨N:=by
 have hx:x∈o.op.operands:=by rw [ho]; simp [Op.operands]
 unfold ldQ at h
 split at h
 ·rename_i L i f hev
  split at h
  ·rename_i t' n p hb
   obtain ⟨d,hu,h⟩:=ob_inv h
   rcases br_inv h with ⟨hc,hK⟩ | ⟨_,h⟩
   ·simp only [Bool.and_eq_true] at hc
    obtain ⟨⟨⟨⟨hd,hn⟩,hpos⟩,hi0⟩,hf0⟩:=hc
    have hi0:i=0:=Nat.eq_of_beq_eq_true hi0
    have hf0:f=0:=Nat.eq_of_beq_eq_true hf0
    subst hi0 hf0
    have hn:n=P.cellsOf t:=Nat.eq_of_beq_eq_true hn
    have hpos:0<n:=Nat.le_of_ble_eq_true hpos
    refine .inl (Out.rd hK fun S0 w0 B a w g hxs hw hg => ?_)
    have hxx:=hxs x hx
    rw [hev] at hxx
    obtain ⟨q,hq,hv⟩:=hxx.p_inv
    obtain ⟨q',hq',us,c,hul,hbf,hcell,hp⟩:=hw.mp L _ (by rw [hg,hf_get hb])
    rw [hq] at hq'; cases hq'
    refine ⟨.agg us.toArray,?_,.q hp⟩
    have hl:=run_loadVar_mid w q.b 0 t us d (fun j u hju=>by rw [hbf.cell,Nat.zero_add]; exact hcell j u hju) hu hd (by rw [hul,hn]; exact cellsOf_info rfl (by omega))
    unfold execOp
    simp only [ho,hv,Nat.zero_mul,Nat.add_zero,Instr.loadAt,Instr.sureAddr,Sem.run_bind,Sem.run_pure,Result.andThen_ok,hl]
   ·exact h.elim
  ·exact .inr h
 ·exact .inr h
def stQ (P:Program) (H:List EB) (t:TypeId) (x y:EV) (K:KE) (N:Prop):Prop :=
 match y with
 | .q p=>(match x with
  | .p L 0 0=>ob H[L]? fun b=>(match b with
   | .r t' row=>br (Nat.ble (P.cellsOf t) row.length&&Nat.blt 0 (P.cellsOf t)) ((∀ v,p v→∃ us:List Value,v = .agg us.toArray∧us.length=P.cellsOf t∧∀ u,u∈us→u.oneCell'=true)∧setK H L (.o (.ag t' (P.cellsOf t) p)) fun H'=>K (.t []) H' [L] [L]) False
   | _=>False)
  | _=>False)
 | _=>N
theorem Out.storeQ {t:TypeId} {x y:Operand} {N:Prop} (ho:o.op = .store t x y) (h:stQ P H t (ev T x) (ev T y) K N):Out P G ops o T H K∨N:=by
 have hx:x∈o.op.operands:=by rw [ho]; simp [Op.operands]
 have hy:y∈o.op.operands:=by rw [ho]; simp [Op.operands]
 unfold stQ at h
 split at h
 ·rename_i p hyv
  split at h
  ·rename_i L hev
   obtain ⟨b,hb,h⟩:=ob_inv h
   split at h
   ·rename_i t' row
    rcases br_inv h with ⟨hc,hp,hK⟩ | ⟨_,h⟩
    ·rw [setK_eq] at hK
     obtain ⟨hle,hpos⟩:=Bool.and_eq_true_iff.1 hc
     have hle:P.cellsOf t≤row.length:=Nat.le_of_ble_eq_true hle
     have hpos:0<P.cellsOf t:=Nat.le_of_ble_eq_true hpos
     refine .inl (Out.wr (List.getElem?_eq_some_iff.1 hb).1 hK fun S0 w0 B a w g hxs hw hg => ?_)
     have hxx:=hxs x hx
     rw [hev] at hxx
     obtain ⟨q,hq,hu⟩:=hxx.p_inv
     have hyy:=hxs y hy
     rw [hyv] at hyy
     have hyp:p (a.eval y):=by cases hyy; assumption
     obtain ⟨us,hva,hul,hone⟩:=hp _ hyp
     have hgv:(g L).vec=some (t',[row]):=by rw [hg,hf_get hb]; rfl
     obtain ⟨q',hq',hr⟩:=(hw.row L t' [row] hgv).here (i:=0) rfl
     rw [hq] at hq'; cases hq'
     have hth:w.there q.b 0 us.length:=by
      have:=hr.there (i:=0) rfl 0 us.length (by omega)
      simpa using this
     have hst:(storeVar t ⟨q.b,0,none⟩ (.agg us.toArray)).run P w = .ok () (w.setCells q.b 0 us):=by
      have:=run_storeCells_cells (P:=P) q.b 0 us 0 w (fun j hj=>by simpa using (hth j (by simpa using hj)).1) (fun j hj=>by simpa using (hth j (by simpa using hj)).2) hone
      simp only [Nat.add_zero] at this
      have hi':=cellsOf_info hul.symm (by omega)
      cases hq2:P.info? t with
      | none=>simp [hq2] at hi'
      | some i2 =>
       have hs:us.length=i2.size:=by
        simp [hq2] at hi'
        rw [hi']
       simp [storeVar,sizeOf,typeInfo,hq2,hs,this,Value.cells]
     obtain ⟨hk,c,hbf,hcs,hlen,hrow⟩:=id hr
     have hul2:us.length≤c.size:=by
      have:=(hrow 0 row rfl).1
      rw [hcs]
      simp at hlen
      omega
     obtain ⟨c',hb',hs', -,hin⟩:=Bf.setCells us 0 w c hbf
     refine ⟨undef,w.setCells q.b 0 us,.skip,?_,.inr ⟨rfl,rfl⟩,undef_t B,hw.upd (EB.live_vec hgv) hq (Touch.setCells (S:=[q.b]) (b:=q.b) (.inl (by simp)) _ _ _ (Touch.refl _ _)) _ (by simp) (fun t2 rows2 hv2=>by cases hv2) (fun xo he => ?_) (fun t rows hx'=>by cases hx')⟩
     ·unfold execOp
      simp only [ho,hu,hva,Nat.zero_mul,Nat.add_zero,Instr.storeAt,Instr.sureAddr,Sem.run_bind,Sem.run_pure,Result.andThen_ok,hst]
     ·cases he
      refine ⟨us,c',hul,hb',fun j u hju => ?_,hva ▸ hyp⟩
      have:=hin j u hju (by have:=(List.getElem?_eq_some_iff.1 hju).1; omega)
      simpa using this
    ·exact h.elim
   ·exact h.elim
  ·exact h.elim
 ·exact .inr h
def nilQ (ne:Bool) (n:Nat) (u:Value):Prop:=u = .bool ne∨(u = .bool (!ne)∧n=0)
def nilE (P:Program) (op:BinOp) (t:TypeId) (x y:EV):Option EV :=
 match y with
 | .v (.slice none 0 0)=>if isSlcT P t then
  match x with
  | .s _ _ n _=>(match op with | .eql=>some (.q (nilQ false n)) | .neq=>some (.q (nilQ true n)) | _=>none)
  | .v (.slice none 0 0)=>(match op with | .eql=>some (.v (.bool true)) | .neq=>some (.v (.bool false)) | _=>none)
  | _=>none
  else none
 | _=>none
theorem eqGuard_slc {op:BinOp} {t:TypeId} {x y:Operand} {a:Option Addr} {n c:Nat} {b:Value}:eqGuard op t x y (.slice a n c) b=pure ():=by cases op <;> rfl
theorem Out.nilEq {x y:Operand} {t ty:TypeId} {b:BinOp} (ho:o.op = .binOp b t x y ty) (h:ob (nilE P b t (ev T x) (ev T y)) fun y=>K y H [] []):Out P G ops o T H K:=by
 obtain ⟨r,hr,hK⟩:=ob_inv h
 refine Out.val hK fun B a w hxs => ?_
 have hx:=hxs x (by rw [ho]; simp [Op.operands])
 have hy:=hxs y (by rw [ho]; simp [Op.operands])
 unfold nilE at hr
 split at hr
 ·rename_i hyv
  rw [hyv] at hy
  split at hr
  ·rename_i hb
   obtain ⟨e,hu⟩:∃ e,P.underlying t=some (.slice e):=by
    unfold isSlcT at hb
    split at hb
    ·exact ⟨_,by assumption⟩
    ·cases hb
   have heq:∀ (A:Option Addr) (n c:Nat),(Go.binOp .eql t (.slice A n c) (.slice none 0 0)).run P w = .ok (.bool A.isNone) w:=fun A n c=>by
    simp only [Go.binOp]
    simp [Op.equal,Op.maxDepth,Lib.run_equalIn_slice_nil w 9999 t e A n c 0 0 hu]
   have hne:∀ (A:Option Addr) (n c:Nat),(Go.binOp .neq t (.slice A n c) (.slice none 0 0)).run P w = .ok (.bool (!A.isNone)) w:=fun A n c=>run_neq_slice_nil_any w t e A n c 0 0 hu
   split at hr
   ·rename_i L i n z hxv
    rw [hxv] at hx
    have fin:∀ (A:Option Addr) (c:Nat),a.eval x = .slice A n c→(A.isNone=true→n=0)→∃ v,(execOp a.eval o).run P w = .ok (.value v) w∧ER B r v:=fun A c hA hn=>by
     split at hr
     ·cases hr
      refine ⟨_,run_bin ho (by rw [hA,eqGuard_slc]; rfl) (by rw [hA,hy.v_inv]; exact heq A n c),.q ?_⟩
      cases h:A.isNone with
      | false=>exact .inl rfl
      | true=>exact .inr ⟨rfl,hn h⟩
     ·cases hr
      refine ⟨_,run_bin ho (by rw [hA,eqGuard_slc]; rfl) (by rw [hA,hy.v_inv]; exact hne A n c),.q ?_⟩
      cases h:A.isNone with
      | false=>exact .inl rfl
      | true=>exact .inr ⟨rfl,hn h⟩
     ·cases hr
    rcases hx.s_inv with ⟨q,c,_,_,_,_,_,_,he⟩ | ⟨hn,A,he⟩
    ·exact fin _ c he (fun h=>by cases h)
    ·subst hn
     exact fin A 0 he (fun _=>rfl)
   ·rename_i hxv
    rw [hxv] at hx
    split at hr
    ·cases hr; exact ⟨_,run_bin ho (by rw [hx.v_inv,eqGuard_slc]; rfl) (by rw [hx.v_inv,hy.v_inv]; exact heq none 0 0),.v _⟩
    ·cases hr; exact ⟨_,run_bin ho (by rw [hx.v_inv,eqGuard_slc]; rfl) (by rw [hx.v_inv,hy.v_inv]; exact hne none 0 0),.v _⟩
    ·cases hr
   ·cases hr
  ·cases hr
 ·cases hr
end
end Go.Proofs.YtdhgpocbcccieaaGreatDoor.E
