/- Part 1 of the proof: Mem Law Ij Flow SeqFlow FlowW FlowT Ev Eg Em Ek Eo Ep Eq. -/
import Derived.WalkKit
import Derived.Deep.AppendSrc
import Derived.Deep.Draws
import Derived.Deep.Upon
import Derived.Test.YtdhgpocbcccieaaGreatDoorRows
import Derived.ProofKit
import Derived.OpenShut
import Derived.SizedLaws
import Derived.Deep.Slices
import Derived.Deep.Fields
import Derived.ChangeSame
import Derived.Deep.RegionLaw
import Derived.Shelf.RegionOpenPlain
import Derived.Lib.Walk
import Derived.Lib.SliceRun
import Derived.Laws.IdiomCopy
import Derived.Lib.Hide
import Derived.OwnWalk
import Derived.Orders
import Derived.RegionTactic
import Derived.Deep.MidRow
set_option maxRecDepth 1000000
set_option maxHeartbeats 20000000
set_option linter.unusedVariables false
set_option linter.unusedSimpArgs false
namespace Go.Proofs.YtdhgpocbcccieaaGreatDoor
open Go.RowKit
structure Touch (S:List Nat) (w w':World):Prop where
 os:w'.os=w.os
 tape:w'.tape=w.tape
 output:w'.output=w.output
 size:w.heap.size≤w'.heap.size
 block:∀ k,k<w.heap.size→k ∉ S→w'.heap[k]? = w.heap[k]?
theorem Touch.refl (S:List Nat) (w:World):Touch S w w:=⟨rfl,rfl,rfl,Nat.le_refl _,fun _ _ _=>rfl⟩
theorem Touch.trans {S:List Nat} {a b c:World} (h:Touch S a b) (k:Touch S b c):Touch S a c :=
 ⟨k.os.trans h.os,k.tape.trans h.tape,k.output.trans h.output,Nat.le_trans h.size k.size,
  fun i hi hn=>(k.block i (Nat.lt_of_lt_of_le hi h.size) hn).trans (h.block i hi hn)⟩
theorem Touch.mono {S T:List Nat} {w w':World} (h:Touch S w w') (hS:∀ k,k∈S→k<w.heap.size→k∈T):Touch T w w' :=
 ⟨h.os,h.tape,h.output,h.size,fun i hi hn=>h.block i hi (fun hm=>hn (hS i hm hi))⟩
theorem Touch.drew {S:List Nat} {a w:World} (h:Touch S a w):Touch S a w.drew:=⟨h.os,h.tape,h.output,h.size,h.block⟩
theorem Touch.alloc {S:List Nat} {a w:World} (h:Touch S a w) (o:Obj):Touch S a (w.alloc o) :=
 ⟨h.os,h.tape,h.output,Nat.le_trans h.size (by simp),fun k hk hn=>(Below.heap_alloc w o k (Nat.lt_of_lt_of_le hk h.size)).trans (h.block k hk hn)⟩
theorem Touch.setCell {S:List Nat} {a w:World} (h:Touch S a w) {p:Addr} (hp:p.block∈S∨a.heap.size≤p.block) (u:Value):Touch S a (w.setCell p u) :=
 ⟨h.os,h.tape,h.output,by simpa using h.size,fun k hk hn=>(Below.heap_setCell w p u k (by
  rintro rfl
  rcases hp with hp | hp
  ·exact hn hp
  ·omega)).trans (h.block k hk hn)⟩
theorem Touch.setCells {S:List Nat} {a:World} {b:Nat} (hp:b∈S∨a.heap.size≤b):∀ (vs:List Value) (o:Nat) (w:World),Touch S a w→Touch S a (w.setCells b o vs)
 | [],_,_,h=>h
 | v::r,o,w,h=>by
  rw [World.setCells]
  exact Touch.setCells hp r (o+1) _ (h.setCell (p:=⟨b,o,none⟩) hp v)
theorem Touch.below {S:List Nat} {a w:World} {B:Nat} (h:Touch S a w) (hB:B≤a.heap.size) (hS:∀ k∈S,B≤k):Below B a w :=
 ⟨h.os,h.tape,h.output,h.size,fun k hk=>h.block k (by omega) (fun hm=>by have:=hS k hm; omega)⟩
theorem Touch.of_below {S:List Nat} {a w:World} (h:Below a.heap.size a w):Touch S a w :=
 ⟨h.os,h.tape,h.output,h.size,fun k hk _=>h.block k hk⟩
theorem Touch.cell {S:List Nat} {a w:World} (h:Touch S a w) {p:Addr} (hp:p.block<a.heap.size) (hn:p.block ∉ S):w.cell? p=a.cell? p :=
 World.cell?_of_block (h.block _ hp hn)
theorem Touch.drewN {S:List Nat} {a w:World} (h:Touch S a w) (n:Nat):Touch S a (w.drewN n):=⟨h.os,h.tape,h.output,h.size,h.block⟩
def Blk (w:World) (g:Nat) (t:TypeId) (cs:Array Value):Prop:=w.heap[g]? = some (.cells cs t (0,0))
section
variable {w w':World} {g:Nat} {t:TypeId} {cs:Array Value}
theorem Blk.lt (h:Blk w g t cs):g<w.heap.size:=by
 rcases Nat.lt_or_ge g w.heap.size with hlt | hge
 ·exact hlt
 ·unfold Blk at h; rw [Array.getElem?_eq_none hge] at h; cases h
theorem Blk.cell (h:Blk w g t cs) (i:Nat):w.cell? ⟨g,i,none⟩=cs[i]? := cell_of_row w g i cs t (0,0) h
theorem Blk.frozen (h:Blk w g t cs) (i:Nat):w.frozen? ⟨g,i,none⟩=false:=by
 unfold Blk at h
 simp [World.frozen?,h]
theorem Blk.new (w:World) (t:TypeId) (cs:Array Value):Blk (w.alloc (.cells cs t)) w.heap.size t cs:=heap_alloc_new w _
theorem Blk.alloc (h:Blk w g t cs) (o:Obj):Blk (w.alloc o) g t cs:=(Below.heap_alloc w o g h.lt).trans h
theorem Blk.drew (h:Blk w g t cs):Blk w.drew g t cs:=h
theorem Blk.drewN (h:Blk w g t cs) (n:Nat):Blk (w.drewN n) g t cs:=h
theorem Blk.set_ (h:Blk w g t cs) (i:Nat) (u:Value):Blk (w.setCell ⟨g,i,none⟩ u) g t (cs.setIfInBounds i u):=by
 unfold Blk at h ⊢
 simp [World.setCell,Array.getElem?_modify,h]
theorem Blk.far (h:Blk w g t cs) {p:Addr} (hp:g≠p.block) (u:Value):Blk (w.setCell p u) g t cs:=(Below.heap_setCell w p u g hp).trans h
theorem Blk.touch {S:List Nat} (h:Blk w g t cs) (hb:Touch S w w') (hn:g ∉ S):Blk w' g t cs:=(hb.block g h.lt hn).trans h
theorem Blk.setCells (vs:List Value):∀ (o:Nat) (w:World) (cs:Array Value),Blk w g t cs →
  ∃ cs',Blk (w.setCells g o vs) g t cs'∧cs'.size=cs.size∧(∀ j,j<o∨o+vs.length≤j→cs'[j]? = cs[j]?)∧(∀ j u,vs[j]? = some u→o+j<cs.size→cs'[o+j]? = some u):=by
 induction vs with
 | nil=>intro o w cs h; exact ⟨cs,h,rfl,fun _ _=>rfl,fun _ _ h=>by cases h⟩
 | cons v r ih =>
  intro o w cs h
  obtain ⟨cs',h1,h2,h3,h4⟩:=ih (o+1) _ _ (h.set_ o v)
  refine ⟨cs',h1,by simpa using h2,fun j hj => ?_,fun j u hu hlt => ?_⟩
  ·rw [h3 j (by simp only [List.length_cons] at hj; omega),Array.getElem?_setIfInBounds_ne (by simp only [List.length_cons] at hj; omega)]
  ·match j,hu with
   | 0,hu =>
    simp at hu
    subst hu
    rw [Nat.add_zero,h3 o (by omega),Array.getElem?_setIfInBounds_self_of_lt (by simpa using hlt)]
   | j+1,hu =>
    have:=h4 j u (by simpa using hu) (by simp; omega)
    rwa [show o+1+j=o+(j+1) by omega] at this
end
def NewRow (w:World) (row row':Option Nat):Prop:=∀ g,row'=some g→row=some g∨w.heap.size≤g
theorem NewRow.refl (w:World) (row:Option Nat):NewRow w row row:=fun _ h => .inl h
theorem NewRow.none (w:World) (row:Option Nat):NewRow w row .none:=fun _ h=>by cases h
theorem NewRow.fresh (w:World) (row:Option Nat) {g:Nat} (h:w.heap.size≤g):NewRow w row (some g):=fun _ e=>by cases e; exact .inr h
theorem NewRow.before {w w':World} {row row':Option Nat} (h:NewRow w' row row') (hs:w.heap.size≤w'.heap.size):NewRow w row row' :=
 fun g e=>(h g e).elim .inl (fun hg => .inr (Nat.le_trans hs hg))
theorem NewRow.trans {w w':World} {a b c:Option Nat} (h:NewRow w a b) (k:NewRow w' b c) (hs:w.heap.size≤w'.heap.size):NewRow w a c :=
 fun g e=>(k g e).elim (h g) (fun hg => .inr (Nat.le_trans hs hg))
def Own (w:World) (e size:Nat) (v:Value) (n:Nat) (xs:List Value) (row:Option Nat):Prop :=
 xs.length=n*size∧((∃ A,v = .slice A 0 0∧n=0∧row=none) ∨
  ∃ g off c cur,v = .slice (some ⟨g,off,none⟩) n c∧row=some g∧Blk w g e cur∧0<c∧n≤c∧c≤maxLen∧off+c*size≤cur.size∧∀ j u,xs[j]? = some u→cur[off+j]? = some u)
section
variable {w w':World} {e size n:Nat} {v:Value} {xs:List Value} {row:Option Nat}
theorem Own.nil (w:World) (e size:Nat) (A:Option Addr):Own w e size (.slice A 0 0) 0 [] none:=⟨by simp,.inl ⟨A,rfl,rfl,rfl⟩⟩
theorem Own.lt (h:Own w e size v n xs row) {g:Nat} (hg:row=some g):g<w.heap.size:=by
 rcases h.2 with ⟨_,_,_,hr⟩ | ⟨g',_,_,_,_,hr,hb,_⟩
 ·rw [hr] at hg; cases hg
 ·rw [hr] at hg; cases hg; exact hb.lt
theorem Own.touch {S:List Nat} (h:Own w e size v n xs row) (ht:Touch S w w') (hS:∀ g,row=some g→g ∉ S):Own w' e size v n xs row:=by
 refine ⟨h.1,?_⟩
 rcases h.2 with hn | ⟨g,off,c,cur,hv,hr,hb,rest⟩
 ·exact .inl hn
 ·exact .inr ⟨g,off,c,cur,hv,hr,hb.touch ht (hS g hr),rest⟩
theorem Own.drewN (h:Own w e size v n xs row) (k:Nat):Own (w.drewN k) e size v n xs row:=h
theorem Own.drew (h:Own w e size v n xs row):Own w.drew e size v n xs row:=h
theorem Own.alloc (h:Own w e size v n xs row) (o:Obj):Own (w.alloc o) e size v n xs row:=h.touch ((Touch.refl [] w).alloc o) (fun _ _=>by simp)
theorem Own.far (h:Own w e size v n xs row) {a:Addr} (ha:∀ g,row=some g→g≠a.block) (u:Value):Own (w.setCell a u) e size v n xs row :=
 h.touch ((Touch.refl [a.block] w).setCell (.inl (by simp)) u) (fun g hg=>by simpa using ha g hg)
theorem Own.shape (h:Own w e size v n xs row):∃ A c,v = .slice A n c∧n≤c:=by
 rcases h.2 with ⟨A,hv,hn,_⟩ | ⟨g,off,c,cur,hv,_,_,_,hc,_⟩
 ·subst hn; exact ⟨A,0,hv,Nat.le_refl _⟩
 ·exact ⟨_,c,hv,hc⟩
theorem Own.at_ (h:Own w e size v n xs row) (hn:0<n):∃ g off c cur,v = .slice (some ⟨g,off,none⟩) n c∧row=some g∧Blk w g e cur∧0<c∧n≤c∧c≤maxLen∧off+c*size≤cur.size∧∀ j u,xs[j]? = some u→cur[off+j]? = some u:=by
 rcases h.2 with ⟨_,_,h0,_⟩ | h
 ·omega
 ·exact h
theorem Own.cut {g off c:Nat} (h:Own w e size (.slice (some ⟨g,off,none⟩) n c) n xs row) {k:Nat} (hk:k≤n) (hkc:k<c) :
  Own w e size (.slice (some ⟨g,off+k*size,none⟩) (n-k) (c-k)) (n-k) (xs.drop (k*size)) row:=by
 refine ⟨by rw [List.length_drop,h.1,Nat.sub_mul],?_⟩
 rcases h.2 with ⟨A,hv,hn,hr⟩ | ⟨g',off',c',cur,hv,hr,hb,hc0,hnc,hcm,hcs,hx⟩
 ·injection hv with _ _ hcc; omega
 ·injection hv with ha _ hcc
  injection ha with ha
  injection ha with hg ho
  subst hg; subst ho; subst hcc
  refine .inr ⟨g,off+k*size,c-k,cur,rfl,hr,hb,by omega,by omega,by omega,?_,fun j u hu => ?_⟩
  ·have:k*size+(c-k)*size=c*size:=by rw [← Nat.add_mul]; congr 1; omega
   omega
  ·rw [List.getElem?_drop] at hu
   have:=hx _ u hu
   rwa [show off+(k*size+j)=off+k*size+j by omega] at this
end
theorem Own.src {P:Program} {w:World} {e size n:Nat} {v:Value} {xs:List Value} {row:Option Nat} {tx e':TypeId} (h:Own w e size v n xs row) (h1:∀ u∈xs,u.oneCell'=true)
  (hk:P.underlying tx=some (.slice e')):Src P size tx v n xs w:=by
 rcases h.2 with ⟨A,rfl,rfl,_⟩ | ⟨g,off,c,cur,rfl,_,hb,_,_,_,_,hx⟩
 ·have hx:xs=[]:=List.eq_nil_of_length_eq_zero (by simpa using h.1)
  subst hx
  cases A with
  | none=>exact Src.ofNil w hk 0
  | some a=>exact Src.ofSlice w hk a 0 0 [] (by simp) (by intro _ _ h'; simp at h') h1
 ·exact Src.ofSlice w hk _ n c xs h.1 (fun j u hu=>by rw [Addr.add_lit]; exact (hb.cell _).trans (hx j u hu)) h1
section
variable {P:Program}
end
theorem ret_int {k:IntKind} {a b:Int} (h:a=b):Ending.returned (.int k a) = .returned (.int k b):=by rw [h]
end Go.Proofs.YtdhgpocbcccieaaGreatDoor
namespace Go.Proofs.YtdhgpocbcccieaaGreatDoor
open Go.ChangeShapes Go.WideShapes Go.ChangeAt Go.RowKit
section
variable {H:Type} {enc:TypeId×Value→H} {P:Program}
theorem trodAll_stays (hl:laidOutB P=true) {W W':World} {sp:Nat→Bool} (hb:Below W.heap.size W W'):∀ (ts:List TypeId) (vs:List Value) (ds:List (DataW H)) (ps:List MemPlace),
  (∀ t,t∈ts→P.readableRec t=true∧t<P.types.size)→DataW.TrodAll enc P W 0 (fun _=>true) true ts vs ds ps→(∀ x∈ps,x.block<W.heap.size)→(∀ x∈ps,sp x.block=true) →
  DataW.TrodAll enc P W' 0 sp true ts vs ds ps
 | [],[],[],_,_,h,_,_=>h
 | [],[],_::_,_,_,h,_,_=>h.elim
 | [],_::_,_,_,_,h,_,_=>h.elim
 | _::_,[],_,_,_,h,_,_=>h.elim
 | _::_,_::_,[],_,_,h,_,_=>h.elim
 | t::ts,v::vs,d::ds,ps,hr,h,hlt,hs=>by
  obtain ⟨p,q,h1,h2,rfl⟩:=h
  obtain ⟨hrt,hrow⟩:=hr t (by simp)
  refine ⟨p,q,WideElems.Trod_stays hl hrt hrow h1 (fun x hx=>hb.same (hlt x (by simp [hx]))) (fun x hx=>hs x (by simp [hx])),?_,rfl⟩
  exact trodAll_stays hl hb ts vs ds q (fun t ht=>hr t (by simp [ht])) h2 (fun x hx=>hlt x (by simp [hx])) (fun x hx=>hs x (by simp [hx]))
theorem trodAll_length {w:World} {base:Nat} {sp:Nat→Bool} {hd:Bool}:∀ (ts:List TypeId) (vs:List Value) (ds:List (DataW H)) (ps:List MemPlace),DataW.TrodAll enc P w base sp hd ts vs ds ps→ds.length=ts.length
 | [],[],[],_,_=>rfl
 | [],[],_::_,_,h=>h.elim
 | [],_::_,_,_,h=>h.elim
 | _::_,[],_,_,h=>h.elim
 | _::_,_::_,[],_,h=>h.elim
 | t::ts,v::vs,d::ds,ps,h=>by
  obtain ⟨p,q,_,h2,_⟩:=h
  simp [trodAll_length ts vs ds q h2]
theorem law_post {f:Func} {s:ChangeSpec} {W W':World} {args:Array Value} {ds:List (DataW H)} {ps:List MemPlace} {tb:TypeId}
  (hl:laidOutB P=true) (hr:∀ t,t∈f.params.toList→P.readableRec t=true∧t<P.types.size) (htb:P.underlying tb=some .bool) (hres:f.resultTypes = #[tb])
  (hsv:s.vars=[]) (hf:(s.fn H (ds++[]))={ results:=[.lit (.bool true)],args:=ds })
  (hA:DataW.TrodAll enc P W 0 (fun _=>true) true f.params.toList args.toList ds ps) (hlt:∀ x∈ps,x.block<W.heap.size) (hz:W.noneFrozen ps) (hb:Below W.heap.size W W') :
  s.post enc P f false true false false W args (.bool true) W':=by
 have hstay:=fun (sp:Nat→Bool) (hs:∀ x∈ps,sp x.block=true)=>trodAll_stays (enc:=enc) hl hb f.params.toList args.toList ds ps hr hA hlt hs
 refine ⟨ds,[],ps,[],ps,[],?_,?_,?_,?_,?_,fun h=>by cases h⟩
 ·exact ⟨ps,[],hA,by rw [hsv]; rfl,by simp,hz,fun h=>by cases h⟩
 ·rw [hf,hres]
  exact trodAll_cons_mk (shut_bool htb _) trodAll_mk0
 ·rw [hf]
  exact hstay _ (fun x hx=>by simpa using hlt x hx)
 ·rw [hf,hsv]
  rfl
 ·exact World.keptBut_mono (fun p hp=>⟨hp,.inr (.inl hp)⟩) (hb.frame (· ∈ ps))
end
section
variable {H:Type} {enc:TypeId×Value→H} {P:Program} {W:World}
end
end Go.Proofs.YtdhgpocbcccieaaGreatDoor
namespace Go.Proofs.YtdhgpocbcccieaaGreatDoor
open Go Go.RowKit Go.Lib
def zrH:List Value:=[.int .u64 0,.int .u64 0,.string ⟨#[]⟩,.string ⟨#[]⟩]
theorem clr_one (W:World) (ty:TypeId) (b o c:Nat) (hc:∀ j,j<4→(W.cell? ⟨b,o+j,none⟩).isSome=true) (hf:∀ j,j<4→W.frozen? ⟨b,o+j,none⟩=false) :
  (Builtin.clear_ #[47] ty #[.slice (some ⟨b,o,none⟩) 1 c]).run Tryz.prog W = .ok (.tuple #[]) (W.setCells b o zrH):=by
 have hst:=run_storeCells_cells (P:=Tryz.prog) b o zrH 0 W (fun j hj=>by simpa using hc j hj) (fun j hj=>by simpa using hf j hj) (by intro v hv; simp [zrH] at hv; rcases hv with rfl | rfl <;> rfl)
 have hz:∀ w,(zeroValue 46).run Tryz.prog w = .ok (.agg zrH.toArray) w:=fun w=>by kernel_rfl
 simp only [Nat.add_zero] at hst
 have hzc:(Builtin.zeroCells (Value.agg zrH.toArray).cells 1).toList=zrH:=by kernel_rfl
 unfold Builtin.clear_
 simp [run_underlying Tryz.underlying47,hz,hzc,Sem.run_bind,hst]
theorem isSome_setCells' (b:Nat) (vs:List Value) (o:Nat) (w:World) (h:∀ j,j<vs.length→(w.cell? ⟨b,o+j,none⟩).isSome=true) (k:Nat) (hk:(w.cell? ⟨b,k,none⟩).isSome=true):((w.setCells b o vs).cell? ⟨b,k,none⟩).isSome=true:=by
 by_cases hin:o≤k∧k<o+vs.length
 ·have:=World.cell?_setCells_in b vs o w h (k-o) (by omega)
  rw [show o+(k-o)=k by omega] at this
  rw [this]; rfl
 ·rw [World.cell?_setCells_out b vs o w ⟨b,k,none⟩ (fun _ _=>by show k<o∨o+vs.length≤k; omega)]
  exact hk
theorem infoH:(Tryz.prog.info? 46).map (fun i=>(i.zero,i.size,i.bytes))=some (some (Value.agg zrH.toArray),4,48):=by kernel_rfl
theorem del_any (b n c i:Nat) (cs:List Value) (w:World) (hi:i<n) (hnc:n≤c) (hc63:c≤9223372036854775807) (hcl:cs.length=4*n) (hcs:∀ j v,cs[j]? = some v→w.cell? ⟨b,j,none⟩=some v) (hfz:∀ j,j<4*n→w.frozen? ⟨b,j,none⟩=false) (h1c:∀ v∈cs,v.oneCell'=true) :
  Calls Tryz.prog 183 #[.slice (some ⟨b,0,none⟩) n c,.int .i64 i,.int .i64 ((i:Int)+1)] w fun e w' =>
   e = .returned (.slice (some ⟨b,0,none⟩) (n-1) c)∧w'=(w.drew.setCells b (4*i) (cs.drop (4*(i+1)))).setCells b (4*(n-1)) zrH:=by
 have hw1:IntKind.i64.wrap ((i:Int)+1)=(i:Int)+1:=by rw [IntKind.wrap_i64]; omega
 go_enter Tryz.func183,Tryz.ntmps183
 obtain ⟨news,hnews⟩:∃ news,news=cs.drop (4*(i+1)):=⟨_,rfl⟩
 have hlen:news.length=(n-(i+1))*4:=by rw [hnews,List.length_drop,hcl]; omega
 obtain ⟨A,hA,hsrc⟩:∃ A:Addr,(if c=i+1 then (some ⟨b,0,none⟩:Option Addr) else some ⟨b,(i+1)*4,none⟩)=some A∧Hid (∀ t u,news[t]? = some u→w.drew.cell? (A.add t)=some u):=by
  by_cases h:c=i+1
  ·refine ⟨⟨b,0,none⟩,by simp [h],fun t u hu => ?_⟩
   have h0:news.length=0:=by rw [hlen]; omega
   rw [List.length_eq_zero_iff.1 h0] at hu
   simp at hu
  ·refine ⟨⟨b,(i+1)*4,none⟩,by simp [h],fun t u hu => ?_⟩
   rw [hnews,List.getElem?_drop] at hu
   rw [Addr.add_lit]
   have:=hcs _ u hu
   rw [show (i+1)*4+t=4*(i+1)+t by omega]
   exact this
 have s1:=Lib.hid hlen
 have s2:Hid (∀ u∈news,u.oneCell'=true):=Lib.hid fun u hu=>h1c u (List.mem_of_mem_drop (hnews ▸ hu))
 have s3:Hid (∀ t,t<news.length→(w.drew.cell? ⟨b,0+i*4+t,none⟩).isSome=true∧w.drew.frozen? ⟨b,0+i*4+t,none⟩=false):=Lib.hid fun t ht=>by
  rw [hlen] at ht
  have hb:i*4+t<cs.length:=by rw [hcl]; omega
  rw [Nat.zero_add]
  refine ⟨?_,hfz _ (by omega)⟩
  show (w.cell? ⟨b,i*4+t,none⟩).isSome=true
  rw [hcs _ _ (List.getElem?_eq_getElem hb)]
  rfl
 obtain ⟨W1,hW1⟩:∃ W1,W1=w.drew.setCells b (0+i*4) news:=⟨_,rfl⟩
 have hW:=Lib.hid hW1
 have hc1:∀ j,j<cs.length→(W1.cell? ⟨b,j,none⟩).isSome=true:=fun j hj=>by
  rw [hW1]
  exact isSome_setCells' b news (0+i*4) w.drew (fun t ht=>(s3.out t ht).1) j (by show (w.cell? _).isSome=true; rw [hcs j _ (List.getElem?_eq_getElem hj)]; rfl)
 have hclr:∀ ty,(Builtin.clear_ #[47] ty #[.slice (some ⟨b,(i+(n-(i+1)))*4,none⟩) (n-(i+(n-(i+1)))) (c-(i+(n-(i+1))))]).run Tryz.prog W1 = .ok (.tuple #[]) (W1.setCells b ((i+(n-(i+1)))*4) zrH):=fun ty=>by
  rw [show n-(i+(n-(i+1)))=1 by omega]
  exact clr_one W1 ty b _ _ (fun j hj=>hc1 _ (by omega)) fun j hj=>by rw [hW1,World.frozen?_setCells]; exact hfz _ (by omega)
 clear hc1 hW1
 go_wp2_with fail
 obtain ⟨i0,hi0,hz0,hzs,hzb⟩:=info_parts infoH
 have mixed:Tryz.prog.follows .mixedOrders=true:=by kernel_rfl
 have t47:=Tryz.underlying47
 have u47:=run_underlying Tryz.underlying47
 have z46:∀ w,(Go.sizeOf 46).run Tryz.prog w = .ok 4 w:=fun w=>by kernel_rfl
 have hin:i≤n:=by omega
 have hic:i≤c:=by omega
 have hi1n:i+1≤n:=by omega
 have hi1c:i+1≤c:=by omega
 have q01:(0:Int)≤(i:Int)+1:=by omega
 have q02:(i:Int)+1≤(n:Int):=by omega
 go_region_law_o (refine step_append_room rfl (.tmp 22) (.tmp 25) 47 rfl 46 i0 4 Tryz.underlying47 hi0 hzs b 0 i c (by simp [Act.eval,Act.put]) A (n-(i+1)) (c-(i+1)) news (by simp [Act.eval,Act.put]) s1.out hsrc.out s2.out (by omega) s3.out ?_; rw [← hW.out])
 go_wp2
 go_ret
 refine ⟨by rw [show n-1=i+(n-(i+1)) by omega]; rfl,?_⟩
 rw [hW.out,hnews,Nat.zero_add,Nat.mul_comm i 4,show (i+(n-(i+1)))*4=4*(n-1) by omega]
end Go.Proofs.YtdhgpocbcccieaaGreatDoor
namespace Go.Proofs.YtdhgpocbcccieaaGreatDoor
open Go
section
variable {P:Program} {ops:Array Oper} {Q:Exit→Act→World→Prop}
def OpTo (P:Program) (o:Oper) (a:Act) (w:World) (R:Value→World→Prop):Prop :=
 ∀ (K:Act→World→Prop) (Q:Exit→Act→World→Prop),(∀ v w',R v w'→K (a.put o.dst v) w')→Oper.wp P o a w K Q
def dOf (o:Oper) (T:Tmp→Value→Prop) (v:Value):Prop:=∀ d,o.dst=some d→T d v
def FStep (P:Program) (ops:Array Oper) (S:World→Prop) (T:Tmp→Value→Prop) (o:Oper):Prop :=
 ∀ a w,S w→(∀ t,(o.looksAt ops).contains t=true→T t (a.tmps.getD t undef)) →
  (Region.wanted o (yielded ops a.tmps)=true→OpTo P o a w (fun v w'=>dOf o T v∧S w')) ∧
  (Region.wanted o (yielded ops a.tmps)=false→dOf o T undef)
def FSteps (P:Program) (ops:Array Oper) (S:World→Prop) (T:Tmp→Value→Prop):List Oper→Prop
 | []=>True
 | o::r=>FStep P ops S T o∧FSteps P ops S T r
theorem FSteps.at {S:World→Prop} {T:Tmp→Value→Prop} (l:List Oper) (h:FSteps P ops S T l) (o:Oper) (ho:o∈l):FStep P ops S T o:=by
 induction l with
 | nil=>cases ho
 | cons x r ih =>
  rcases List.mem_cons.1 ho with rfl | hm
  ·exact h.1
  ·exact ih h.2 hm
def FAll (p:Tmp→Prop):List Tmp→Prop
 | []=>True
 | t::r=>p t∧FAll p r
theorem FAll.at {p:Tmp→Prop} (l:List Tmp) (h:FAll p l) (t:Tmp) (ht:t∈l):p t:=by
 induction l with
 | nil=>cases ht
 | cons x r ih =>
  rcases List.mem_cons.1 ht with rfl | hm
  ·exact h.1
  ·exact ih h.2 hm
theorem FAll.of {p:Tmp→Prop} (l:List Tmp) (h:∀ t,t∈l→p t):FAll p l:=by
 induction l with
 | nil=>trivial
 | cons x r ih=>exact ⟨h _ (List.mem_cons_self ..),ih fun t ht=>h t (List.mem_cons_of_mem _ ht)⟩
def dsts (ops:Array Oper):List Tmp:=ops.toList.filterMap (·.dst)
def flowOk (ops:Array Oper) (n:Nat):Bool :=
 (List.range ops.size).all fun i=>match ops[i]? with
  | none=>true
  | some o =>
   (match o.dst with
    | none=>true
    | some d=>decide (d<n)&&(List.range ops.size).all fun j=>j==i||(ops[j]?).bind (·.dst) != some d) &&
   ((o.looksAt ops).all fun t=>(List.range ops.size).all fun j=>(ops[j]?).bind (·.dst) != some t||o.after.any fun e=>Region.binds .any e&&e.on==j) &&
   o.after.all fun e => !Region.binds .any e||decide (e.on<i)
structure FlowOk (ops:Array Oper) (n:Nat):Prop where
 lt:∀ (i:Nat) (o:Oper) (d:Tmp),ops[i]? = some o→o.dst=some d→d<n
 one:∀ (i j:Nat) (o o':Oper) (d:Tmp),ops[i]? = some o→ops[j]? = some o'→o.dst=some d→o'.dst=some d→j=i
 dep:∀ (i j:Nat) (o o':Oper) (t:Tmp),ops[i]? = some o→ops[j]? = some o'→(o.looksAt ops).contains t=true→o'.dst=some t→∃ e∈o.after,Region.binds .any e=true∧e.on=j
 back:∀ (i:Nat) (o:Oper) (e:Edge),ops[i]? = some o→e∈o.after→Region.binds .any e=true→e.on<i
theorem FlowOk.of {n:Nat} (h:flowOk ops n=true):FlowOk ops n:=by
 have key:∀ (i:Nat) (o:Oper),ops[i]? = some o→_:=fun i o ho=>by
  have hi:i<ops.size:=(Array.getElem?_eq_some_iff.1 ho).1
  have:=(List.all_eq_true.1 h) i (List.mem_range.2 hi)
  simp only [ho,Bool.and_eq_true] at this
  exact this
 refine ⟨fun i o d ho hd => ?_,fun i j o o' d ho ho' hd hd' => ?_,fun i j o o' t ho ho' ht hd' => ?_,fun i o e ho he hb => ?_⟩
 ·have:=(key i o ho).1.1
  simp only [hd,Bool.and_eq_true,decide_eq_true_eq] at this
  exact this.1
 ·have:=(key i o ho).1.1
  simp only [hd,Bool.and_eq_true] at this
  have h2:=(List.all_eq_true.1 this.2) j (List.mem_range.2 (Array.getElem?_eq_some_iff.1 ho').1)
  simp only [ho',Option.bind_some,hd',Bool.or_eq_true,beq_iff_eq,bne_self_eq_false,Bool.false_eq_true,or_false] at h2
  exact h2
 ·have:=(key i o ho).1.2
  have h1:=(List.all_eq_true.1 this) t (by simpa using ht)
  have h2:=(List.all_eq_true.1 h1) j (List.mem_range.2 (Array.getElem?_eq_some_iff.1 ho').1)
  simp only [ho',Option.bind_some,hd',bne_self_eq_false,Bool.false_or] at h2
  obtain ⟨e,he,hh⟩:=Array.any_eq_true'.1 h2
  simp only [Bool.and_eq_true,beq_iff_eq] at hh
  exact ⟨e,he,hh.1,hh.2⟩
 ·have:=(key i o ho).2
  have h1:=(Array.all_eq_true_iff_forall_mem.1 this) e he
  simpa [hb] using h1
structure FInv (ops:Array Oper) (S:World→Prop) (T:Tmp→Value→Prop) (a0:Act) (listed:Array Bool) (a:Act) (w:World):Prop where
 s:S w
 ls:listed.size=ops.size
 size:a.tmps.size=a0.tmps.size
 defers:a.defers=a0.defers
 old:∀ t,t ∉ dsts ops→a.tmps.getD t undef=a0.tmps.getD t undef
 got:∀ (i:Nat) (o:Oper) (d:Tmp),ops[i]? = some o→listed.getD i false=true→o.dst=some d→T d (a.tmps.getD d undef)
theorem mem_dsts {i:Nat} {o:Oper} {d:Tmp} (ho:ops[i]? = some o) (hd:o.dst=some d):d∈dsts ops :=
 List.mem_filterMap.2 ⟨o,by simpa using Array.mem_of_getElem? ho,hd⟩
theorem getD_put_same (a:Array Value) {d:Nat} (h:d<a.size) (v:Value):(a.setIfInBounds d v).getD d undef=v:=by simp [h]
theorem getD_put_ne (a:Array Value) {d t:Nat} (h:d≠t) (v:Value):(a.setIfInBounds d v).getD t undef=a.getD t undef:=by
 simp [Array.getD_eq_getD_getElem?,Array.getElem?_setIfInBounds_ne h]
theorem FInv.put {S:World→Prop} {T:Tmp→Value→Prop} {a0 a:Act} {listed:Array Bool} {w w':World} (hf:FlowOk ops a0.tmps.size) (h:FInv ops S T a0 listed a w) {i:Nat} {o:Oper} (ho:ops[i]? = some o)
  {v:Value} (hv:dOf o T v) (hS:S w'):FInv ops S T a0 (listed.setIfInBounds i true) (a.put o.dst v) w':=by
 cases hd:o.dst with
 | none =>
  refine ⟨hS,by rw [Array.size_setIfInBounds]; exact h.ls,h.size,h.defers,h.old,fun j oj d hj hl hdj => ?_⟩
  by_cases hij:i=j
  ·subst hij
   rw [ho] at hj; cases hj
   rw [hd] at hdj; cases hdj
  ·exact h.got j oj d hj (by rwa [getD_set_ne false hij] at hl) hdj
 | some d =>
  refine ⟨hS,by rw [Array.size_setIfInBounds]; exact h.ls,(by show (a.tmps.setIfInBounds d v).size=_; rw [Array.size_setIfInBounds]; exact h.size),h.defers,fun t ht => ?_,fun j oj d' hj hl hdj => ?_⟩
  ·show (a.tmps.setIfInBounds d v).getD t undef=_
   rw [getD_put_ne _ (fun e:d=t=>ht (by rw [← e]; exact mem_dsts ho hd))]
   exact h.old t ht
  ·show T d' ((a.tmps.setIfInBounds d v).getD d' undef)
   by_cases hij:i=j
   ·subst hij
    rw [ho] at hj; cases hj
    rw [hd] at hdj; cases hdj
    rw [getD_put_same _ (by rw [h.size]; exact hf.lt i o d ho hd)]
    exact hv d hd
   ·rw [getD_put_ne _ (fun e:d=d'=>hij (hf.one j i oj o d' hj ho hdj (by rw [← e]; exact hd)))]
    exact h.got j oj d' hj (by rwa [getD_set_ne false hij] at hl) hdj
theorem count_set (l:List Bool):∀ i,l[i]? = some false→(l.set i true).count false+1=l.count false:=by
 induction l with
 | nil=>intro i h; simp at h
 | cons b l ih =>
  intro i h
  cases i with
  | zero =>
   simp only [List.getElem?_cons_zero,Option.some.injEq] at h
   subst h
   simp
  | succ i =>
   simp only [List.getElem?_cons_succ] at h
   have:=ih i h
   simp only [List.set_cons_succ,List.count_cons]
   omega
theorem yielded_of {tmps:Array Value} {g:Nat} {d:Tmp} {b:Bool} (hd:(ops[g]?).bind (·.dst)=some d) (h:tmps.getD d undef = .bool b):yielded ops tmps g=some b:=by
 unfold yielded
 rw [hd]
 cases hx:tmps[d]? with
 | none =>
  rw [Array.getD_eq_getD_getElem?,hx] at h
  cases h
 | some v =>
  rw [Array.getD_eq_getD_getElem?,hx] at h
  simp only [Option.getD_some] at h
  subst h
  simp [hx]
theorem OpTo.val {o:Oper} {a:Act} {w:World} {R:Value→World→Prop} {v:Value} (h:(execOp a.eval o).run P w = .ok (.value v) w) (hR:R v w):OpTo P o a w R:=fun K Q hK=>by
 unfold Oper.wp
 rw [h]
 exact hK v w hR
theorem OpTo.call {o:Oper} {a:Act} {w:World} {R:Value→World→Prop} {f:FuncId} {fn:Func} {xs:Array Operand} {ts:Array TypeId} (args:Array Value) (ho:o.op = .call { callee := .value (.func f),args:=xs,argTypes:=ts })
  (hf:P.funcs[f]? = some fn) (hname:(fn.name == "runtime.NumGoroutine")=false) (hb:fn.body.isSome=true)
  (hx:xs.map a.eval=args) (h:Calls P f args w fun e w'=>∃ v,e = .returned v∧R v w'):OpTo P o a w R:=fun K Q hK=>by
 have h1:fn.name ≠ "runtime.NumGoroutine" := by simpa using hname
 obtain ⟨c,hb⟩:=Option.isSome_iff_exists.1 hb
 have hc:(callFunc f args).run P w = .ok (.enter f args) w:=by simp [callFunc,hf,h1,hb]
 have he:execOp a.eval o=callFunc f (#[]++args ++ #[]):=by
  unfold execOp
  simp only [ho,resolve,hx]
  rfl
 unfold Oper.wp
 rw [he,Array.empty_append,Array.append_empty,hc,Oper.upon_enter]
 refine Calls.mono h fun e w' he => ?_
 obtain ⟨v,rfl,hv⟩:=he
 exact hK v w' hv
theorem OpTo.move {o:Oper} {a:Act} {w:World} {R:Value→World→Prop} {x:Operand} (ho:o.op = .move x) (hR:R (a.eval x) w):OpTo P o a w R :=
 OpTo.val (by unfold execOp; simp only [ho]; rfl) hR
theorem OpTo.assign {o:Oper} {a:Act} {w:World} {R:Value→World→Prop} {x:Operand} (ho:o.op = .assign x) (hR:R (a.eval x) w):OpTo P o a w R :=
 OpTo.val (by unfold execOp; simp only [ho]; rfl) hR
theorem OpTo.not {o:Oper} {a:Act} {w:World} {R:Value→World→Prop} {x:Operand} {ty:TypeId} (b:Bool) (ho:o.op = .unOp .not ty x) (hx:a.eval x = .bool b) (hR:R (.bool (!b)) w):OpTo P o a w R :=
 OpTo.val (v := .bool (!b)) (by unfold execOp; simp only [ho,hx]; rfl) hR
theorem OpTo.pick {o:Oper} {a:Act} {w:World} {R:Value→World→Prop} {c x y:Operand} (b:Bool) (ho:o.op = .pick c x y) (hx:a.eval c = .bool b) (hR:R (if b then a.eval x else a.eval y) w):OpTo P o a w R :=
 OpTo.val (v:=if b then a.eval x else a.eval y) (by unfold execOp; simp only [ho,hx]; rfl) hR
theorem OpTo.row {o:Oper} {a:Act} {w:World} {R:Value→World→Prop} (ty:TypeId) (x:Operand) (ho:o.op = .load ty x)
  (b:Nat) (hx:a.eval x = .pointer (some ⟨b,0,none⟩)) (cs:List Value) (d:TypeDesc) (hc:w.rangeAt b 0 cs)
  (hu:P.underlying ty=some d) (hd:d.isRow=true) (hi:(P.info? ty).map (·.size)=some cs.length) (hR:R (.agg cs.toArray) w):OpTo P o a w R:=fun K Q hK =>
 wp_load_mid (K:=K) (Q:=Q) ty x ho b 0 hx cs d hc hu hd hi (hK _ _ hR)
theorem FSteps.cons {S:World→Prop} {T:Tmp→Value→Prop} {o:Oper} {r:List Oper} (h1:FStep P ops S T o) (h2:FSteps P ops S T r):FSteps P ops S T (o::r):=⟨h1,h2⟩
theorem FSteps.nil {S:World→Prop} {T:Tmp→Value→Prop}:FSteps P ops S T []:=trivial
theorem FStep.plain {S:World→Prop} {T:Tmp→Value→Prop} {o:Oper} (hg:o.guard=none)
  (h:∀ a w,S w→(∀ t,(o.looksAt ops).contains t=true→T t (a.tmps.getD t undef))→OpTo P o a w (fun v w'=>dOf o T v∧S w')):FStep P ops S T o:=fun a w hS hE =>
 ⟨fun _=>h a w hS hE,fun hw=>by simp [Region.wanted,hg] at hw⟩
theorem looks_guard {o:Oper} {g:Nat} {b:Bool} {d:Tmp} (hg:o.guard=some (g,b)) (hd:(ops[g]?).bind (·.dst)=some d):(o.looksAt ops).contains d=true:=by
 unfold Oper.looksAt
 rw [hg]
 simp only [hd]
 simp
theorem wanted_of {o:Oper} {a:Act} {g:Nat} {b b':Bool} {d:Tmp} (hg:o.guard=some (g,b)) (hd:(ops[g]?).bind (·.dst)=some d) (h:a.tmps.getD d undef = .bool b'):Region.wanted o (yielded ops a.tmps)=(b'==b):=by
 unfold Region.wanted
 rw [hg]
 simp only [yielded_of hd h]
 cases b <;> cases b' <;> rfl
theorem FStep.go {S:World→Prop} {T:Tmp→Value→Prop} {o:Oper} {g:Nat} {b:Bool} (d:Tmp) (hg:o.guard=some (g,b)) (hd:(ops[g]?).bind (·.dst)=some d) (hT:∀ v,T d v→v = .bool b)
  (h:∀ a w,S w→(∀ t,(o.looksAt ops).contains t=true→T t (a.tmps.getD t undef))→OpTo P o a w (fun v w'=>dOf o T v∧S w')):FStep P ops S T o:=fun a w hS hE =>
 ⟨fun _=>h a w hS hE,fun hw=>by rw [wanted_of hg hd (hT _ (hE d (looks_guard hg hd)))] at hw; simp at hw⟩
theorem FStep.no {S:World→Prop} {T:Tmp→Value→Prop} {o:Oper} {g:Nat} {b:Bool} (d:Tmp) (hg:o.guard=some (g,b)) (hd:(ops[g]?).bind (·.dst)=some d) (hT:∀ v,T d v→v = .bool (!b))
  (hu:dOf o T undef):FStep P ops S T o:=fun a w hS hE =>
 ⟨fun hw=>by rw [wanted_of hg hd (hT _ (hE d (looks_guard hg hd)))] at hw; cases b <;> simp at hw,fun _=>hu⟩
theorem dOf.of {o:Oper} {T:Tmp→Value→Prop} {v:Value} (d:Tmp) (hd:o.dst=some d) (h:T d v):dOf o T v:=fun d' hd'=>by
 rw [hd] at hd'
 cases hd'
 exact h
def look:List (Nat×(Value→Prop))→Tmp→Value→Prop
 | [],_,_=>True
 | p::r,t,v=>match Nat.beq p.1 t with
  | true=>p.2 v
  | false=>look r t v
def isV (u v:Value):Prop:=v=u
end
section
variable {P:Program} {ops:Array Oper} {Q:Exit→Act→World→Prop}
theorem OpTo.eqI {o:Oper} {a:Act} {w:World} {R:Value→World→Prop} {x y:Operand} {t1 t2:TypeId} (k:IntKind) (i j:Int) (ho:o.op = .binOp .eql t1 x y t2) (hx:a.eval x = .int k i) (hy:a.eval y = .int k j) (hR:R (.bool (decide (i=j))) w):OpTo P o a w R :=
 OpTo.val (v := .bool (decide (i=j))) (by unfold execOp; simp only [ho,hx,hy]; go_simp; rfl) hR
theorem OpTo.eqS {o:Oper} {a:Act} {w:World} {R:Value→World→Prop} {x y:Operand} {t1 t2:TypeId} (s u:ByteArray) (ho:o.op = .binOp .eql t1 x y t2) (hx:a.eval x = .string s) (hy:a.eval y = .string u) (hR:R (.bool (s.toList==u.toList)) w):OpTo P o a w R :=
 OpTo.val (v := .bool (s.toList==u.toList)) (by unfold execOp; simp only [ho,hx,hy]; go_simp) hR
theorem OpTo.lenS {o:Oper} {a:Act} {w:World} {R:Value→World→Prop} {x:Operand} {t1:TypeId} (ht:P.underlying t1=some .string) (s:ByteArray) (ho:o.op = .call { callee := .builtin .len,args := #[x],argTypes := #[t1] }) (hx:a.eval x = .string s) (hR:R (.int .i64 (s.size:Int)) w):OpTo P o a w R :=
 OpTo.val (v := .int .i64 (s.size:Int)) (by unfold execOp; simp only [ho,resolve]; simp only [List.map_toArray,List.map_cons,List.map_nil,hx]; go_simp) hR
end
structure SP where
 p:Value→World→Prop
 st:∀ v w w',p v w→Touch [] w w'→p v w'
section
variable {P:Program} {ops:Array Oper} {Q:Exit→Act→World→Prop}
def dOfW (o:Oper) (T:Tmp→SP) (v:Value) (w:World):Prop:=∀ d,o.dst=some d→(T d).p v w
theorem dOfW.of {o:Oper} {T:Tmp→SP} {v:Value} {w:World} (d:Tmp) (hd:o.dst=some d) (h:(T d).p v w):dOfW o T v w:=fun d' hd'=>by
 rw [hd] at hd'
 cases hd'
 exact h
theorem dOfW.none {o:Oper} {T:Tmp→SP} {v:Value} {w:World} (hd:o.dst=none):dOfW o T v w:=fun d' hd'=>by
 rw [hd] at hd'
 cases hd'
abbrev knownW (ops:Array Oper) (T:Tmp→SP) (o:Oper) (a:Act) (w:World):Prop:=∀ t,(o.looksAt ops).contains t=true→(T t).p (a.tmps.getD t undef) w
def FStepW (P:Program) (ops:Array Oper) (w0:World) (T:Tmp→SP) (o:Oper):Prop :=
 ∀ a w,Touch [] w0 w→knownW ops T o a w →
  (Region.wanted o (yielded ops a.tmps)=true→OpTo P o a w (fun v w'=>dOfW o T v w'∧Touch [] w w')) ∧
  (Region.wanted o (yielded ops a.tmps)=false→dOfW o T undef w)
def FStepsW (P:Program) (ops:Array Oper) (w0:World) (T:Tmp→SP):List Oper→Prop
 | []=>True
 | o::r=>FStepW P ops w0 T o∧FStepsW P ops w0 T r
theorem FStepsW.at {w0:World} {T:Tmp→SP} (l:List Oper) (h:FStepsW P ops w0 T l) (o:Oper) (ho:o∈l):FStepW P ops w0 T o:=by
 induction l with
 | nil=>cases ho
 | cons x r ih =>
  rcases List.mem_cons.1 ho with rfl | hm
  ·exact h.1
  ·exact ih h.2 hm
structure FInvW (ops:Array Oper) (w0:World) (T:Tmp→SP) (a0:Act) (listed:Array Bool) (a:Act) (w:World):Prop where
 s:Touch [] w0 w
 ls:listed.size=ops.size
 size:a.tmps.size=a0.tmps.size
 defers:a.defers=a0.defers
 old:∀ t,t ∉ dsts ops→a.tmps.getD t undef=a0.tmps.getD t undef
 got:∀ (i:Nat) (o:Oper) (d:Tmp),ops[i]? = some o→listed.getD i false=true→o.dst=some d→(T d).p (a.tmps.getD d undef) w
theorem FInvW.put {w0:World} {T:Tmp→SP} {a0 a:Act} {listed:Array Bool} {w w':World} (hf:FlowOk ops a0.tmps.size) (h:FInvW ops w0 T a0 listed a w) {i:Nat} {o:Oper} (ho:ops[i]? = some o)
  {v:Value} (hv:dOfW o T v w') (hS:Touch [] w w'):FInvW ops w0 T a0 (listed.setIfInBounds i true) (a.put o.dst v) w':=by
 cases hd:o.dst with
 | none =>
  refine ⟨h.s.trans hS,by rw [Array.size_setIfInBounds]; exact h.ls,h.size,h.defers,h.old,fun j oj d hj hl hdj => ?_⟩
  by_cases hij:i=j
  ·subst hij
   rw [ho] at hj; cases hj
   rw [hd] at hdj; cases hdj
  ·exact (T d).st _ _ _ (h.got j oj d hj (by rwa [getD_set_ne false hij] at hl) hdj) hS
 | some d =>
  refine ⟨h.s.trans hS,by rw [Array.size_setIfInBounds]; exact h.ls,(by show (a.tmps.setIfInBounds d v).size=_; rw [Array.size_setIfInBounds]; exact h.size),h.defers,fun t ht => ?_,fun j oj d' hj hl hdj => ?_⟩
  ·show (a.tmps.setIfInBounds d v).getD t undef=_
   rw [getD_put_ne _ (fun e:d=t=>ht (by rw [← e]; exact mem_dsts ho hd))]
   exact h.old t ht
  ·show (T d').p ((a.tmps.setIfInBounds d v).getD d' undef) w'
   by_cases hij:i=j
   ·subst hij
    rw [ho] at hj; cases hj
    rw [hd] at hdj; cases hdj
    rw [getD_put_same _ (by rw [h.size]; exact hf.lt i o d ho hd)]
    exact hv d hd
   ·rw [getD_put_ne _ (fun e:d=d'=>hij (hf.one j i oj o d' hj ho hdj (by rw [← e]; exact hd)))]
    exact (T d').st _ _ _ (h.got j oj d' hj (by rwa [getD_set_ne false hij] at hl) hdj) hS
theorem FStepsW.cons {w0:World} {T:Tmp→SP} {o:Oper} {r:List Oper} (h1:FStepW P ops w0 T o) (h2:FStepsW P ops w0 T r):FStepsW P ops w0 T (o::r):=⟨h1,h2⟩
theorem FStepsW.nil {w0:World} {T:Tmp→SP}:FStepsW P ops w0 T []:=trivial
theorem FStepW.plain {w0:World} {T:Tmp→SP} {o:Oper} (hg:o.guard=none)
  (h:∀ a w,Touch [] w0 w→knownW ops T o a w→OpTo P o a w (fun v w'=>dOfW o T v w'∧Touch [] w w')):FStepW P ops w0 T o:=fun a w hS hE =>
 ⟨fun _=>h a w hS hE,fun hw=>by simp [Region.wanted,hg] at hw⟩
theorem FStepW.go {w0:World} {T:Tmp→SP} {o:Oper} {g:Nat} {b:Bool} (d:Tmp) (hg:o.guard=some (g,b)) (hd:(ops[g]?).bind (·.dst)=some d) (hT:∀ v w,(T d).p v w→v = .bool b)
  (h:∀ a w,Touch [] w0 w→knownW ops T o a w→OpTo P o a w (fun v w'=>dOfW o T v w'∧Touch [] w w')):FStepW P ops w0 T o:=fun a w hS hE =>
 ⟨fun _=>h a w hS hE,fun hw=>by rw [wanted_of hg hd (hT _ _ (hE d (looks_guard hg hd)))] at hw; simp at hw⟩
theorem FStepW.no {w0:World} {T:Tmp→SP} {o:Oper} {g:Nat} {b:Bool} (d:Tmp) (hg:o.guard=some (g,b)) (hd:(ops[g]?).bind (·.dst)=some d) (hT:∀ v w,(T d).p v w→v = .bool (!b))
  (hu:∀ w,dOfW o T undef w):FStepW P ops w0 T o:=fun a w hS hE =>
 ⟨fun hw=>by rw [wanted_of hg hd (hT _ _ (hE d (looks_guard hg hd)))] at hw; cases b <;> simp at hw,fun _=>hu w⟩
theorem OpTo.here {o:Oper} {a:Act} {w:World} {T:Tmp→SP} {v:Value} (h:(execOp a.eval o).run P w = .ok (.value v) w) (hv:dOfW o T v w):OpTo P o a w (fun v w'=>dOfW o T v w'∧Touch [] w w') :=
 OpTo.val h ⟨hv,Touch.refl _ _⟩
end
section
variable {P:Program} {ops:Array Oper} {Q:Exit→Act→World→Prop}
def preL (ops:Array Oper) (m:Nat):List Oper:=ops.toList.take m
def depsOf (ops:Array Oper) (i:Nat):List Nat:=match ops[i]? with
 | none=>[]
 | some o=>(o.after.toList.filter fun e=>Region.binds .any e).map (·.on)
def clos (ops:Array Oper):Nat→List Nat→List Nat
 | 0,s=>s
 | j+1,s=>clos ops j (if s.contains j then depsOf ops j++s else s)
def flowOkT (ops:Array Oper) (m n:Nat):Bool :=
 ((List.range m).all fun i=>match ops[i]? with
  | none=>true
  | some o =>
   (match o.dst with
    | none=>true
    | some d=>decide (d<n)&&(List.range m).all fun j=>j==i||(ops[j]?).bind (·.dst) != some d) &&
   ((o.looksAt ops).all fun t=>(List.range m).all fun j=>(ops[j]?).bind (·.dst) != some t||o.after.any fun e=>Region.binds .any e&&e.on==j)) &&
 ((List.range ops.size).all fun i=>(depsOf ops i).all fun j=>decide (j<i)) &&
 ((List.range ops.size).all fun i=>decide (i<m)||(let c:=clos ops i (depsOf ops i); (List.range i).all fun j=>c.contains j))&&decide (m≤ops.size)
structure FlowOkT (ops:Array Oper) (m n:Nat):Prop where
 lt:∀ (i:Nat) (o:Oper) (d:Tmp),i<m→ops[i]? = some o→o.dst=some d→d<n
 one:∀ (i j:Nat) (o o':Oper) (d:Tmp),i<m→j<m→ops[i]? = some o→ops[j]? = some o'→o.dst=some d→o'.dst=some d→j=i
 dep:∀ (i j:Nat) (o o':Oper) (t:Tmp),i<m→j<m→ops[i]? = some o→ops[j]? = some o'→(o.looksAt ops).contains t=true→o'.dst=some t→∃ e∈o.after,Region.binds .any e=true∧e.on=j
 back:∀ (i:Nat) (o:Oper) (e:Edge),ops[i]? = some o→e∈o.after→Region.binds .any e=true→e.on<i
 tail:∀ (i:Nat),m≤i→i<ops.size→∀ j,j<i→j∈clos ops i (depsOf ops i)
 le:m≤ops.size
theorem depsOf_mem {i:Nat} {o:Oper} {e:Edge} (ho:ops[i]? = some o) (he:e∈o.after) (hb:Region.binds .any e=true):e.on∈depsOf ops i:=by
 unfold depsOf
 rw [ho]
 exact List.mem_map.2 ⟨e,List.mem_filter.2 ⟨by simpa using he,hb⟩,rfl⟩
theorem depsOf_of {i j:Nat} (h:j∈depsOf ops i):∃ o e,ops[i]? = some o∧e∈o.after∧Region.binds .any e=true∧e.on=j:=by
 unfold depsOf at h
 cases ho:ops[i]? with
 | none=>rw [ho] at h; cases h
 | some o =>
  rw [ho] at h
  obtain ⟨e,he,rfl⟩:=List.mem_map.1 h
  obtain ⟨h1,h2⟩:=List.mem_filter.1 he
  exact ⟨o,e,rfl,by simpa using h1,h2,rfl⟩
theorem FlowOkT.of {m n:Nat} (h:flowOkT ops m n=true):FlowOkT ops m n:=by
 unfold flowOkT at h
 simp only [Bool.and_eq_true] at h
 obtain ⟨⟨⟨h1,h2⟩,h3⟩,h4⟩:=h
 have key:∀ (i:Nat) (o:Oper),i<m→ops[i]? = some o→_:=fun i o hi ho=>by
  have:=(List.all_eq_true.1 h1) i (List.mem_range.2 hi)
  simp only [ho,Bool.and_eq_true] at this
  exact this
 refine ⟨fun i o d hi ho hd => ?_,fun i j o o' d hi hj ho ho' hd hd' => ?_,fun i j o o' t hi hj ho ho' ht hd' => ?_,fun i o e ho he hb => ?_,fun i hi hs j hj => ?_,by simpa using h4⟩
 ·have:=(key i o hi ho).1
  simp only [hd,Bool.and_eq_true,decide_eq_true_eq] at this
  exact this.1
 ·have:=(key i o hi ho).1
  simp only [hd,Bool.and_eq_true] at this
  have h2:=(List.all_eq_true.1 this.2) j (List.mem_range.2 hj)
  simp only [ho',Option.bind_some,hd',Bool.or_eq_true,beq_iff_eq,bne_self_eq_false,Bool.false_eq_true,or_false] at h2
  exact h2
 ·have:=(key i o hi ho).2
  have h1:=(List.all_eq_true.1 this) t (by simpa using ht)
  have h2:=(List.all_eq_true.1 h1) j (List.mem_range.2 hj)
  simp only [ho',Option.bind_some,hd',bne_self_eq_false,Bool.false_or] at h2
  obtain ⟨e,he,hh⟩:=Array.any_eq_true'.1 h2
  simp only [Bool.and_eq_true,beq_iff_eq] at hh
  exact ⟨e,he,hh.1,hh.2⟩
 ·have hi:i<ops.size:=(Array.getElem?_eq_some_iff.1 ho).1
  have:=(List.all_eq_true.1 h2) i (List.mem_range.2 hi)
  simpa using (List.all_eq_true.1 this) e.on (depsOf_mem ho he hb)
 ·have:=(List.all_eq_true.1 h3) i (List.mem_range.2 hs)
  simp only [Bool.or_eq_true,decide_eq_true_eq] at this
  rcases this with h | h
  ·omega
  ·simpa using (List.all_eq_true.1 h) j (List.mem_range.2 hj)
theorem clos_listed {listed:Nat→Prop} (hc:∀ i,listed i→∀ j,j∈depsOf ops i→listed j):∀ (k:Nat) (s:List Nat),(∀ j,j∈s→listed j)→∀ j,j∈clos ops k s→listed j:=by
 intro k
 induction k with
 | zero=>intro s hs j hj; exact hs j hj
 | succ k ih =>
  intro s hs j hj
  unfold clos at hj
  refine ih _ ?_ j hj
  intro x hx
  split at hx
  ·rename_i hk
   rcases List.mem_append.1 hx with h | h
   ·exact hc k (hs k (by simpa using hk)) x h
   ·exact hs x h
  ·exact hs x hx
def dstsT (ops:Array Oper) (m:Nat):List Tmp:=(preL ops m).filterMap (·.dst)
theorem mem_preL {m i:Nat} {o:Oper} (hi:i<m) (ho:ops[i]? = some o):o∈preL ops m:=by
 unfold preL
 refine List.mem_iff_getElem?.2 ⟨i,?_⟩
 rw [List.getElem?_take,if_pos hi]
 simpa using ho
theorem mem_dstsT {m i:Nat} {o:Oper} {d:Tmp} (hi:i<m) (ho:ops[i]? = some o) (hd:o.dst=some d):d∈dstsT ops m :=
 List.mem_filterMap.2 ⟨o,mem_preL hi ho,hd⟩
structure FInvT (ops:Array Oper) (m:Nat) (w0:World) (T:Tmp→SP) (a0:Act) (listed:Array Bool) (a:Act) (w:World):Prop where
 s:Touch [] w0 w
 ls:listed.size=ops.size
 size:a.tmps.size=a0.tmps.size
 defers:a.defers=a0.defers
 old:∀ t,t ∉ dstsT ops m→a.tmps.getD t undef=a0.tmps.getD t undef
 got:∀ (i:Nat) (o:Oper) (d:Tmp),i<m→ops[i]? = some o→listed.getD i false=true→o.dst=some d→(T d).p (a.tmps.getD d undef) w
 closed:∀ i,listed.getD i false=true→∀ j,j∈depsOf ops i→listed.getD j false=true
 none:∀ i,m≤i→listed.getD i false=false
theorem set_listed {listed:Array Bool} {i j:Nat} (h:(listed.setIfInBounds i true).getD j false=true):j=i∨listed.getD j false=true:=by
 by_cases hij:i=j
 ·exact .inl hij.symm
 ·exact .inr (by rwa [getD_set_ne false hij] at h)
theorem listed_set {listed:Array Bool} {i j:Nat} (h:listed.getD j false=true):(listed.setIfInBounds i true).getD j false=true:=by
 by_cases hij:i=j
 ·subst hij
  have hj:i<listed.size:=by
   apply Classical.byContradiction
   intro hn
   rw [Array.getD_eq_getD_getElem?,Array.getElem?_eq_none (by omega)] at h
   cases h
  simp [Array.getD_eq_getD_getElem?,hj]
 ·rw [getD_set_ne false hij]; exact h
theorem FInvT.put {m:Nat} {w0:World} {T:Tmp→SP} {a0 a:Act} {listed:Array Bool} {w w':World} (hf:FlowOkT ops m a0.tmps.size) (h:FInvT ops m w0 T a0 listed a w) {i:Nat} {o:Oper} (hi:i<m) (ho:ops[i]? = some o)
  (hdeps:∀ j,j∈depsOf ops i→listed.getD j false=true) {v:Value} (hv:dOfW o T v w') (hS:Touch [] w w'):FInvT ops m w0 T a0 (listed.setIfInBounds i true) (a.put o.dst v) w':=by
 have hcl:∀ k,(listed.setIfInBounds i true).getD k false=true→∀ j,j∈depsOf ops k→(listed.setIfInBounds i true).getD j false=true:=fun k hk j hj=>by
  rcases set_listed hk with rfl | hk
  ·exact listed_set (hdeps j hj)
  ·exact listed_set (h.closed k hk j hj)
 have hnone:∀ k,m≤k→(listed.setIfInBounds i true).getD k false=false:=fun k hk=>by
  rw [getD_set_ne false (by omega:i≠k)]; exact h.none k hk
 cases hd:o.dst with
 | none =>
  refine ⟨h.s.trans hS,by rw [Array.size_setIfInBounds]; exact h.ls,h.size,h.defers,h.old,fun j oj d hjm hj hl hdj => ?_,hcl,hnone⟩
  rcases set_listed hl with rfl | hl
  ·rw [ho] at hj; cases hj
   rw [hd] at hdj; cases hdj
  ·exact (T d).st _ _ _ (h.got j oj d hjm hj hl hdj) hS
 | some d =>
  refine ⟨h.s.trans hS,by rw [Array.size_setIfInBounds]; exact h.ls,(by show (a.tmps.setIfInBounds d v).size=_; rw [Array.size_setIfInBounds]; exact h.size),h.defers,fun t ht => ?_,fun j oj d' hjm hj hl hdj => ?_,hcl,hnone⟩
  ·show (a.tmps.setIfInBounds d v).getD t undef=_
   rw [getD_put_ne _ (fun e:d=t=>ht (by rw [← e]; exact mem_dstsT hi ho hd))]
   exact h.old t ht
  ·show (T d').p ((a.tmps.setIfInBounds d v).getD d' undef) w'
   by_cases hij:j=i
   ·subst hij
    rw [ho] at hj; cases hj
    rw [hd] at hdj; cases hdj
    rw [getD_put_same _ (by rw [h.size]; exact hf.lt j o d hi ho hd)]
    exact hv d hd
   ·rw [getD_put_ne _ (fun e:d=d'=>hij (hf.one i j o oj d' hi hjm ho hj (by rw [← e]; exact hd) hdj))]
    rcases set_listed hl with rfl | hl
    ·exact absurd rfl hij
    ·exact (T d').st _ _ _ (h.got j oj d' hjm hj hl hdj) hS
theorem all_listed {listed:Array Bool} (hb:∀ (i:Nat) (o:Oper) (e:Edge),ops[i]? = some o→e∈o.after→Region.binds .any e=true→e.on<i) (hls:listed.size=ops.size) (hr:Region.ready .any ops listed=[]):∀ i,i<ops.size→listed.getD i false=true:=by
 intro i
 induction i using Nat.strongRecOn with
 | ind i ih =>
  intro hi
  cases hl:listed.getD i false with
  | true=>rfl
  | false =>
   have ho:ops[i]? = some ops[i]:=Array.getElem?_eq_getElem hi
   have hm:i∈Region.ready .any ops listed:=mem_ready.2 ⟨by
    have hi':i<listed.size:=by omega
    simp only [Array.getD_eq_getD_getElem?,Array.getElem?_eq_getElem hi',Option.getD_some] at hl ⊢
    exact hl,ops[i],ho,fun e he hbi=>by
    have:=hb i _ e ho he hbi
    exact ih e.on this (by omega)⟩
   rw [hr] at hm
   cases hm
theorem getD_tf {listed:Array Bool} {i:Nat} (h:listed.getD i true=false) (hs:i<listed.size):listed.getD i false=false:=by
 simp only [Array.getD_eq_getD_getElem?,Array.getElem?_eq_getElem hs,Option.getD_some] at h ⊢
 exact h
end
end Go.Proofs.YtdhgpocbcccieaaGreatDoor
namespace Go.Proofs.YtdhgpocbcccieaaGreatDoor.E
open Go Go.RowKit
inductive EV where
 | v (x:Value)
 | p (L i f:Nat)
 | s (L i n:Nat) (z:Bool)
 | m (L:Nat)
 | a (cs:List EV)
 | t (vs:List EV)
 | f (g:FuncId) (fs cs:List EV)
 | j
 | q (p:Value→Prop)
 | i (t:TypeId) (x:EV)
 | y (L n:Nat)
 deriving Inhabited
inductive EO where
 | mp (ck:Nat) (es:List (Int×Nat×EV))
 | it (s:ByteArray) (pos:Nat)
 | ag (t:TypeId) (n:Nat) (p:Value→Prop)
 | mq (ck:Nat) (es:List (Int×Nat×EV))
 deriving Inhabited
inductive EB where
 | n
 | g
 | r (t:TypeId) (row:List EV)
 | rs (t:TypeId) (rows:List (List EV))
 | rv (t:TypeId) (rows:List (List EV))
 | o (x:EO)
 deriving Inhabited
structure BI where
 b:Nat
 k:Nat
 sz:Nat
abbrev Bm:=Nat→Option BI
abbrev EH:=Nat→EB
def EB.live:EB→Bool
 | .r _ _ | .rs _ _ | .rv _ _ | .o _=>true
 | _=>false
def EB.vec:EB→Option (TypeId×List (List EV))
 | .r t row=>some (t,[row])
 | .rs t rows=>some (t,rows)
 | .rv t rows=>some (t,rows)
 | _=>none
theorem EB.live_vec {b:EB} {x:TypeId×List (List EV)} (h:b.vec=some x):b.live=true:=by cases b <;> first | rfl | cases h
inductive ER (B:Bm):EV→Value→Prop
 | v (x:Value):ER B (.v x) x
 | p {L i f:Nat} {q:BI}:B L=some q→ER B (.p L i f) (.pointer (some ⟨q.b,i*q.k+f,none⟩))
 | s {L i n c:Nat} {q:BI}:B L=some q→n≤c→0<c→c≤maxLen→(i+c)*q.k≤q.sz→ER B (.s L i n false) (.slice (some ⟨q.b,i*q.k,none⟩) n c)
 | e {L i:Nat} {z:Bool} (A:Option Addr):ER B (.s L i 0 z) (.slice A 0 0)
 | m {L:Nat} {q:BI}:B L=some q→ER B (.m L) (.map (some q.b))
 | a {cs:List EV} {ds:Array Value}:cs.length=ds.size→(∀ (i:Nat) (x:EV) (u:Value),cs[i]? = some x→ds[i]? = some u→ER B x u)→ER B (.a cs) (.agg ds)
 | t {cs:List EV} {ds:Array Value}:cs.length=ds.size→(∀ (i:Nat) (x:EV) (u:Value),cs[i]? = some x→ds[i]? = some u→ER B x u)→ER B (.t cs) (.tuple ds)
 | f {g:FuncId} {fs cs:List EV} {es ds:Array Value}:fs.length=es.size→(∀ (i:Nat) (x:EV) (u:Value),fs[i]? = some x→es[i]? = some u→ER B x u)→cs.length=ds.size→(∀ (i:Nat) (x:EV) (u:Value),cs[i]? = some x→ds[i]? = some u→ER B x u)→ER B (.f g fs cs) (.func (.func g) es ds)
 | j (x:Value):ER B .j x
 | q {p:Value→Prop} {x:Value}:p x→ER B (.q p) x
 | i {t:TypeId} {x:EV} {u:Value}:ER B x u→ER B (.i t x) (.iface t u)
 | y {L n:Nat} {q:BI}:B L=some q→ER B (.y L n) (.slice (some ⟨q.b,0,none⟩) n n)
def ERs (B:Bm) (cs:List EV) (ds:Array Value):Prop:=cs.length=ds.size∧∀ (i:Nat) (x:EV) (u:Value),cs[i]? = some x→ds[i]? = some u→ER B x u
def Bm.le (B B':Bm):Prop:=∀ L q,B L=some q→B' L=some q
theorem Bm.le.refl (B:Bm):B.le B:=fun _ _ h=>h
theorem Bm.le.trans {A B C:Bm} (h:A.le B) (k:B.le C):A.le C:=fun L q e=>k L q (h L q e)
theorem ER.mono {B B':Bm} (h:B.le B') {x:EV} {u:Value} (hx:ER B x u):ER B' x u:=by
 induction hx with
 | v x=>exact .v x
 | p e=>exact .p (h _ _ e)
 | s e h1 h2 h3 h4=>exact .s (h _ _ e) h1 h2 h3 h4
 | e A=>exact .e A
 | m e=>exact .m (h _ _ e)
 | a hl _ ih=>exact .a hl fun i x u hx hu=>ih i x u hx hu
 | t hl _ ih=>exact .t hl fun i x u hx hu=>ih i x u hx hu
 | f hl _ hl' _ ih ih'=>exact .f hl (fun i x u hx hu=>ih i x u hx hu) hl' fun i x u hx hu=>ih' i x u hx hu
 | j x=>exact .j x
 | q h=>exact .q h
 | i _ ih=>exact .i ih
 | y e=>exact .y (h _ _ e)
theorem ERs.mono {B B':Bm} (h:B.le B') {cs:List EV} {ds:Array Value} (hx:ERs B cs ds):ERs B' cs ds:=⟨hx.1,fun i x u h1 h2=>(hx.2 i x u h1 h2).mono h⟩
mutual
def plE:EV→Bool
 | .v _=>true
 | .a cs=>plEs cs
 | _=>false
def plEs:List EV→Bool
 | []=>true
 | x::r=>plE x&&plEs r
end
theorem plEs_at:∀ {l:List EV} {i:Nat} {x:EV},plEs l=true→l[i]? = some x→plE x=true:=by
 intro l
 induction l with
 | nil=>intro i x _ h; simp at h
 | cons y l ih =>
  intro i x h hx
  unfold plEs at h
  obtain ⟨h1,h2⟩:=Bool.and_eq_true_iff.1 h
  cases i with
  | zero=>cases hx; exact h1
  | succ i=>exact ih h2 (by simpa using hx)
theorem ER.pl {B B':Bm} {x:EV} {u:Value} (h:ER B x u):plE x=true→ER B' x u:=by
 induction h with
 | v x=>intro _; exact .v x
 | a hl _ ih=>intro hp; unfold plE at hp; exact .a hl fun i x u hx hu=>ih i x u hx hu (plEs_at hp hx)
 | _=>intro hp; unfold plE at hp; cases hp
def Bf (w:World) (g:Nat) (t:TypeId) (cs:Array Value):Prop:=∃ lo hi,w.heap[g]? = some (.cells cs t (lo,hi))∧(hi≤lo∨cs.size≤lo∧t=5)
section
variable {w w':World} {g:Nat} {t:TypeId} {cs:Array Value}
theorem _root_.Go.Proofs.YtdhgpocbcccieaaGreatDoor.Blk.bf (h:Blk w g t cs):Bf w g t cs:=⟨0,0,h,.inl (Nat.le_refl _)⟩
theorem Bf.lt (h:Bf w g t cs):g<w.heap.size:=let ⟨_,_,h,_⟩:=h; (Array.getElem?_eq_some_iff.1 h).1
theorem Bf.cell (h:Bf w g t cs) (i:Nat):w.cell? ⟨g,i,none⟩=cs[i]? := let ⟨lo,hi,h,_⟩:=h; cell_of_row w g i cs t (lo,hi) h
theorem Bf.frozen (h:Bf w g t cs) (i:Nat) (hi:i<cs.size):w.frozen? ⟨g,i,none⟩=false:=by
 obtain ⟨lo,hi',h,hl⟩:=h
 simp only [World.frozen?,h]
 rw [Bool.and_eq_false_iff]
 simp
 rcases hl with hl | ⟨hl,_⟩ <;> omega
theorem Bf.nofroz (h:Bf w g t cs) (ht:t≠5) (i:Nat):w.frozen? ⟨g,i,none⟩=false:=by
 obtain ⟨lo,hi',h,hl⟩:=h
 simp only [World.frozen?,h]
 rw [Bool.and_eq_false_iff]
 simp
 rcases hl with hl | ⟨_,hl⟩
 ·omega
 ·exact absurd hl ht
theorem Bf.shape (h:Bf w g t cs):w.shape? g=some (t,cs.size):=by
 obtain ⟨lo,hi',h,_⟩:=h
 simp [World.shape?,h]
theorem Bf.new (w:World) (t:TypeId) (cs:Array Value):Bf (w.alloc (.cells cs t)) w.heap.size t cs:=(Blk.new w t cs).bf
theorem Bf.drew (h:Bf w g t cs):Bf w.drew g t cs:=h
theorem Bf.touch {S:List Nat} (h:Bf w g t cs) (hb:Touch S w w') (hn:g ∉ S):Bf w' g t cs:=let ⟨lo,hi,h1,h2⟩:=h; ⟨lo,hi,(hb.block g h.lt hn).trans h1,h2⟩
theorem Bf.uniq {t':TypeId} {cs':Array Value} (h:Bf w g t cs) (h':Bf w g t' cs'):cs=cs'∧t=t':=by
 obtain ⟨_,_,h,_⟩:=h
 obtain ⟨_,_,h',_⟩:=h'
 rw [h] at h'
 injection h' with h'
 injection h' with h1 h2
 exact ⟨h1,h2⟩
theorem Bf.set_ (h:Bf w g t cs) (i:Nat) (u:Value):Bf (w.setCell ⟨g,i,none⟩ u) g t (cs.setIfInBounds i u):=by
 obtain ⟨lo,hi,h,hl⟩:=h
 exact ⟨lo,hi,by simp [World.setCell,Array.getElem?_modify,h],by simpa using hl⟩
theorem Bf.setCells (vs:List Value):∀ (o:Nat) (w:World) (cs:Array Value),Bf w g t cs →
  ∃ cs',Bf (w.setCells g o vs) g t cs'∧cs'.size=cs.size∧(∀ j,j<o∨o+vs.length≤j→cs'[j]? = cs[j]?)∧(∀ j u,vs[j]? = some u→o+j<cs.size→cs'[o+j]? = some u):=by
 induction vs with
 | nil=>intro o w cs h; exact ⟨cs,h,rfl,fun _ _=>rfl,fun _ _ h=>by cases h⟩
 | cons v r ih =>
  intro o w cs h
  obtain ⟨cs',h1,h2,h3,h4⟩:=ih (o+1) _ _ (h.set_ o v)
  refine ⟨cs',h1,by simpa using h2,fun j hj => ?_,fun j u hu hlt => ?_⟩
  ·rw [h3 j (by simp only [List.length_cons] at hj; omega),Array.getElem?_setIfInBounds_ne (by simp only [List.length_cons] at hj; omega)]
  ·match j,hu with
   | 0,hu =>
    simp at hu
    subst hu
    rw [Nat.add_zero,h3 o (by omega),Array.getElem?_setIfInBounds_self_of_lt (by simpa using hlt)]
   | j+1,hu =>
    have:=h4 j u (by simpa using hu) (by simp; omega)
    rwa [show o+1+j=o+(j+1) by omega] at this
end
def RowsAt (P:Program) (B:Bm) (w:World) (q:BI) (t:TypeId) (rows:List (List EV)):Prop :=
 q.k=P.cellsOf t∧∃ c,Bf w q.b t c∧c.size=q.sz∧rows.length*q.k≤q.sz∧∀ (i:Nat) (row:List EV),rows[i]? = some row→row.length=q.k∧∀ (f:Nat) (x:EV),row[f]? = some x→∃ u,c[i*q.k+f]? = some u∧ER B x u∧u.oneCell'=true
def RwOk (P:Program) (B:Bm) (w:World) (L:Nat) (t:TypeId) (rows:List (List EV)):Prop :=
 (∃ q,B L=some q∧RowsAt P B w q t rows)∨rows=[]∧B L=none
theorem RwOk.here {P:Program} {B:Bm} {w:World} {L:Nat} {t:TypeId} {rows:List (List EV)} {i:Nat} {row:List EV} (h:RwOk P B w L t rows) (hi:rows[i]? = some row):∃ q,B L=some q∧RowsAt P B w q t rows:=by
 rcases h with h | ⟨rfl,_⟩
 ·exact h
 ·simp at hi
def ObjAt (B:Bm) (w:World) (q:BI):EO→Prop
 | .mp ck es=>∃ en,w.heap[q.b]? = some (.map en ck)∧en.size=es.length∧∀ (i:Nat) (k:Int) (n:Nat) (x:EV),es[i]? = some (k,n,x)→∃ y,en[i]? = some y∧y.key = .int .i64 k∧y.born=n∧ER B x y.val
 | .it s pos=>w.heap[q.b]? = some (.stringIter s pos)
 | .mq ck es=>(∀ p,p∈es→plE p.2.2=true)∧∃ en,w.heap[q.b]? = some (.map en ck)∧en.size=es.length∧∀ (i:Nat) (k:Int) (n:Nat) (x:EV),es[i]? = some (k,n,x)→∃ y,en[i]? = some y∧y.key = .int .i64 k∧y.born=n∧ER B x y.val
 | .ag t n p=>∃ (us:List Value) (c:Array Value),us.length=n∧Bf w q.b t c∧(∀ (j:Nat) (u:Value),us[j]? = some u→c[j]? = some u)∧p (.agg us.toArray)
theorem ObjAt.pl {B B':Bm} {w:World} {q:BI} {ck:Nat} {es:List (Int×Nat×EV)} (h:ObjAt B w q (.mq ck es)):ObjAt B' w q (.mq ck es):=by
 obtain ⟨h0,en,h1,h2,h3⟩:=h
 exact ⟨h0,en,h1,h2,fun i k n x hi=>let ⟨y,a,b,d,c⟩:=h3 i k n x hi; ⟨y,a,b,d,c.pl (h0 _ (List.mem_of_getElem? hi))⟩⟩
def plainR (rows:List (List EV)):Prop:=∀ row,row∈rows→∀ x,x∈row→∃ u,x=EV.v u
def Bk (w:World) (g:Nat) (t:TypeId) (cs:Array Value):Prop:=∃ fr,w.heap[g]? = some (.cells cs t fr)
theorem Bk.lt {w:World} {g:Nat} {t:TypeId} {cs:Array Value} (h:Bk w g t cs):g<w.heap.size:=let ⟨_,h⟩:=h; (Array.getElem?_eq_some_iff.1 h).1
theorem Bk.cell {w:World} {g:Nat} {t:TypeId} {cs:Array Value} (h:Bk w g t cs) (i:Nat):w.cell? ⟨g,i,none⟩=cs[i]? := let ⟨fr,h⟩:=h; cell_of_row w g i cs t fr h
theorem Bk.touch {w w':World} {g:Nat} {t:TypeId} {cs:Array Value} {S:List Nat} (h:Bk w g t cs) (hb:Touch S w w') (hn:g ∉ S):Bk w' g t cs:=let ⟨fr,h1⟩:=h; ⟨fr,(hb.block g h.lt hn).trans h1⟩
structure Gl where
 at_:Nat→Option (TypeId×Array Value)
def Gl.ok (G:Gl) (S0:List Nat) (w0:World):Prop:=∀ g t cs,G.at_ g=some (t,cs)→Bk w0 g t cs∧g ∉ S0
structure Wd (P:Program) (G:Gl) (S0:List Nat) (w0:World) (B:Bm) (h:EH) (w:World):Prop where
 t:Touch S0 w0 w
 row:∀ L t rows,(h L).vec=some (t,rows)→RwOk P B w L t rows
 mp:∀ L x,h L = .o x→∃ q,B L=some q∧ObjAt B w q x
 n:∀ L,h L = .n→B L=none
 pl:∀ L t rows,h L = .rs t rows→plainR rows
 inj:∀ L L' q q',(h L).live=true→(h L').live=true→B L=some q→B L'=some q'→q.b=q'.b→L=L'
 own:∀ L q,(h L).live=true→B L=some q→q.b∈S0∨w0.heap.size≤q.b
 gl:G.ok S0 w0
section
variable {P:Program} {G:Gl} {ops:Array Oper} {Q:Exit→Act→World→Prop}
def lastW {α:Type} (wr:Nat→Nat→Bool) (val:Nat→Nat→α) (f0:Nat→α) (ls:Nat→Bool):Nat→Nat→α
 | 0,x=>f0 x
 | k+1,x=>if ls k&&wr k x then val k x else lastW wr val f0 ls k x
section
variable {α:Type} {wr:Nat→Nat→Bool} {val:Nat→Nat→α} {f0:Nat→α} {ls:Nat→Bool}
theorem lastW_past {x i:Nat} (h:∀ k,i≤k→wr k x=true→ls k=false):∀ n,i≤n→lastW wr val f0 ls n x=lastW wr val f0 ls i x:=by
 intro n hn
 induction n with
 | zero=>rw [Nat.le_zero.1 hn]
 | succ n ih =>
  by_cases e:i=n+1
  ·rw [e]
  ·have hi:i≤n:=by omega
   show (if (ls n&&wr n x)=true then val n x else lastW wr val f0 ls n x)=_
   rw [if_neg (fun hc=>by
    have:=Bool.and_eq_true_iff.1 hc
    rw [h n hi this.2] at this
    cases this.1),ih hi]
theorem lastW_same {ls':Nat→Bool} {x:Nat}:∀ n,(∀ k,k<n→wr k x=true→ls k=ls' k)→lastW wr val f0 ls n x=lastW wr val f0 ls' n x:=by
 intro n
 induction n with
 | zero=>intro _; rfl
 | succ n ih =>
  intro h
  unfold lastW
  rw [ih fun k hk=>h k (by omega)]
  by_cases hw:wr n x=true
  ·rw [h n (by omega) hw]
  ·rw [Bool.not_eq_true] at hw
   simp [hw]
theorem lastW_mid {x i n:Nat} (hi:i≤n) (h1:∀ k,k<i→wr k x=true→ls k=true) (h2:∀ k,i≤k→wr k x=true→ls k=false):lastW wr val f0 ls n x=lastW wr val f0 (fun _=>true) i x :=
 (lastW_past h2 n hi).trans (lastW_same i h1)
theorem lastW_set {x i n:Nat} (hi:i<n) (h2:∀ k,i≤k→wr k x=true→ls k=false) (hw:wr i x=true):lastW wr val f0 (fun k=>ls k||k==i) n x=val i x:=by
 rw [lastW_past (i:=i+1) (fun k hk hwk=>by
  rw [h2 k (by omega) hwk]
  simp
  omega) n hi]
 unfold lastW
 simp [hw]
theorem lastW_else {x i n:Nat} (hw:wr i x=false):lastW wr val f0 (fun k=>ls k||k==i) n x=lastW wr val f0 ls n x :=
 lastW_same n fun k _ hk=>by
  have:k≠i:=fun e=>by rw [e,hw] at hk; cases hk
  simp [this]
end
structure Sp where
 F:List Nat
 W:List Nat
 r:EV
 h:EH
def St (P:Program) (G:Gl) (ops:Array Oper) (o:Oper) (T:Nat→EV) (F W:List Nat) (h h':EH) (r:EV):Prop :=
 ∀ S0 w0 B a w g,(∀ t,t∈o.looksAt ops→ER B (T t) (a.tmps.getD t undef))→Wd P G S0 w0 B g w→(∀ L,L∈F→g L=h L) →
  ∀ (K:Act→World→Prop) (Q:Exit→Act→World→Prop),(∀ B' v w',B.le B'→ER B' r v→Wd P G S0 w0 B' (fun L=>if L∈W then h' L else g L) w'→K (a.put o.dst v) w')→o.wp P a w K Q
def wantE (ops:Array Oper) (o:Oper) (T:Nat→EV):Option Bool :=
 match o.guard with
 | none=>some true
 | some (j,want) =>
  match (ops[j]?).bind (·.dst) with
  | none=>none
  | some d =>
   match T d with
   | .v (.bool b)=>some (b==want)
   | .t []=>some false
   | _=>none
theorem ER.bool_inv {B:Bm} {b:Bool} {u:Value} (h:ER B (.v (.bool b)) u):u = .bool b:=by cases h; rfl
theorem ER.v_inv {B:Bm} {x u:Value} (h:ER B (.v x) u):u=x:=by cases h; rfl
theorem wantE_spec {o:Oper} {T:Nat→EV} {b:Bool} {a:Act} {B:Bm} (h:wantE ops o T=some b) (hT:∀ t,t∈o.looksAt ops→ER B (T t) (a.tmps.getD t undef)):Region.wanted o (yielded ops a.tmps)=b:=by
 unfold wantE at h
 unfold Region.wanted
 cases hg:o.guard with
 | none=>rw [hg] at h; cases h; rfl
 | some jw =>
  obtain ⟨j,want⟩:=jw
  rw [hg] at h
  simp only at h ⊢
  cases hd:(ops[j]?).bind (·.dst) with
  | none=>rw [hd] at h; cases h
  | some d =>
   rw [hd] at h
   simp only at h
   have hm:d∈o.looksAt ops:=List.mem_append.2 (.inr (by rw [hg]; simp [hd]))
   have hr:=hT d hm
   unfold yielded
   rw [hd,Option.bind_some]
   cases hTd:T d with
   | v x =>
    rw [hTd] at h hr
    cases x with
    | bool c =>
     cases h
     have hu:=hr.bool_inv
     have:a.tmps[d]? = some (.bool c):=by
      rw [Array.getD_eq_getD_getElem?] at hu
      cases hq:a.tmps[d]? with
      | none=>rw [hq] at hu; cases hu
      | some y=>rw [hq] at hu; exact congrArg some hu
     rw [this]
     cases c <;> cases want <;> rfl
    | _=>cases h
   | t l =>
    rw [hTd] at h hr
    cases l with
    | nil =>
     cases h
     have:∀ c,a.tmps[d]? ≠ some (.bool c):=fun c hc=>by
      rw [Array.getD_eq_getD_getElem?,hc] at hr
      cases hr
     cases hq:a.tmps[d]? with
     | none=>rfl
     | some y =>
      cases y with
      | bool c=>exact absurd hq (this c)
      | _=>rfl
    | cons _ _=>cases h
   | _=>rw [hTd] at h; cases h
def updT (T:Nat→EV) (d:Option Tmp) (r:EV):Nat→EV:=match d with | some d=>fun t=>if t=d then r else T t | none=>T
def stepOk (P:Program) (G:Gl) (ops:Array Oper) (N:Nat) (o:Oper) (s:Sp) (T:Nat→EV) (h:EH):Prop :=
 (∀ d,o.dst=some d→d<N)∧((wantE ops o T=some true∧St P G ops o T s.F s.W h s.h s.r)∨(wantE ops o T=some false∧s.W=[]∧s.r = .t []))∧s.h=fun L=>if L∈s.W then s.h L else h L
def Run (P:Program) (G:Gl) (ops:Array Oper) (N:Nat):List Oper→(Nat→EV)→EH→List Sp→(Nat→EV)→EH→Prop
 | [],T,h,ss,T',h'=>ss=[]∧T=T'∧h=h'
 | o::r,T,h,ss,T',h'=>∃ s ss',ss=s::ss'∧stepOk P G ops N o s T h∧Run P G ops N r (updT T o.dst s.r) s.h ss' T' h'
structure Fit (P:Program) (G:Gl) (S0:List Nat) (w0:World) (N:Nat) (df:List Deferred) (B:Bm) (T:Nat→EV) (h:EH) (a:Act) (w:World):Prop where
 wd:Wd P G S0 w0 B h w
 tm:∀ t,ER B (T t) (a.tmps.getD t undef)
 sz:a.tmps.size=N
 df:a.defers=df
variable {S0:List Nat} {w0:World} {N:Nat} {df:List Deferred} {B:Bm}
theorem put_size (a:Act) (d:Option Tmp) (v:Value):(a.put d v).tmps.size=a.tmps.size:=by cases d <;> simp [Act.put]
theorem put_defers (a:Act) (d:Option Tmp) (v:Value):(a.put d v).defers=a.defers:=by cases d <;> rfl
theorem put_tm {B B':Bm} {T:Nat→EV} {a:Act} {d:Option Tmp} {r:EV} {v:Value} (hle:B.le B') (hd:∀ x,d=some x→x<a.tmps.size) (hT:∀ t,ER B (T t) (a.tmps.getD t undef)) (hv:ER B' r v) :
  ∀ t,ER B' (updT T d r t) ((a.put d v).tmps.getD t undef):=fun t=>by
 cases d with
 | none=>exact (hT t).mono hle
 | some x =>
  show ER B' (if t=x then r else T t) ((a.tmps.setIfInBounds x v).getD t undef)
  by_cases e:t=x
  ·rw [if_pos e,e,getD_put_same _ (hd x rfl)]; exact hv
  ·rw [if_neg e,getD_put_ne _ (fun h=>e h.symm)]; exact (hT t).mono hle
theorem Wd.cast {B:Bm} {h h':EH} {w:World} (k:Wd P G S0 w0 B h w) (e:h=h'):Wd P G S0 w0 B h' w:=e ▸ k
theorem Run.list:∀ (l:List Oper) (T:Nat→EV) (h:EH) (ss:List Sp) (T':Nat→EV) (h':EH) (B:Bm) (a:Act) (w:World),Run P G ops N l T h ss T' h'→Fit P G S0 w0 N df B T h a w →
  (∀ B' a' w',B.le B'→Fit P G S0 w0 N df B' T' h' a' w'→Q .normal a' w')→wpList P ops Q l a w:=by
 intro l
 induction l with
 | nil =>
  intro T h ss T' h' B a w hr hf hQ
  obtain ⟨_,rfl,rfl⟩:=hr
  exact hQ B a w (Bm.le.refl _) hf
 | cons o l ih =>
  intro T h ss T' h' B a w hr hf hQ
  obtain ⟨s,ss',_,⟨hd,hs,hh⟩,hr⟩:=hr
  unfold wpList
  rcases hs with ⟨hw,hs⟩ | ⟨hw,hW,hre⟩
  ·rw [wantE_spec hw fun t _=>hf.tm t,if_pos rfl]
   refine .inl (hs S0 w0 B a w h (fun t _=>hf.tm t) hf.wd (fun _ _=>rfl) _ _ fun B' v w' hle hv hwd => ?_)
   exact ih _ _ _ _ _ B' _ _ hr ⟨hwd.cast hh.symm,put_tm hle (fun x hx=>by rw [hf.sz]; exact hd x hx) hf.tm hv,by rw [put_size]; exact hf.sz,by rw [put_defers]; exact hf.df⟩ fun B'' a' w' hle'=>hQ B'' a' w' (hle.trans hle')
  ·rw [wantE_spec hw fun t _=>hf.tm t,if_neg (by simp)]
   refine ih _ _ _ _ _ B _ _ hr ⟨hf.wd.cast ?_,put_tm (Bm.le.refl _) (fun x hx=>by rw [hf.sz]; exact hd x hx) hf.tm (by rw [hre]; exact ER.t (by rfl) fun i x u hx=>by simp at hx),by rw [put_size]; exact hf.sz,by rw [put_defers]; exact hf.df⟩ hQ
   rw [hh,hW]
   simp
def wrT (l:List Oper) (k t:Nat):Bool:=match l[k]? with | some o=>o.dst==some t | none=>false
def valT (ss:List Sp) (k _t:Nat):EV:=match ss[k]? with | some s=>s.r | none => .j
def wrH (ss:List Sp) (k L:Nat):Bool:=match ss[k]? with | some s=>s.W.contains L | none=>false
def valH (ss:List Sp) (k L:Nat):EB:=match ss[k]? with | some s=>s.h L | none => .n
theorem lastW_cons {α:Type} {wr:Nat→Nat→Bool} {val:Nat→Nat→α} {f0:Nat→α} (x:Nat):∀ k,lastW wr val f0 (fun _=>true) (k+1) x=lastW (fun k=>wr (k+1)) (fun k=>val (k+1)) (fun x=>if wr 0 x then val 0 x else f0 x) (fun _=>true) k x:=by
 intro k
 induction k with
 | zero=>simp [lastW]
 | succ k ih =>
  show (if (true&&wr (k+1) x)=true then val (k+1) x else lastW wr val f0 (fun _=>true) (k+1) x)=if (true&&wr (k+1) x)=true then val (k+1) x else _
  rw [ih]
theorem updT_eq (T:Nat→EV) (o:Oper) (l:List Oper) (s:Sp) (ss:List Sp):updT T o.dst s.r=fun t=>if wrT (o::l) 0 t then valT (s::ss) 0 t else T t:=by
 funext t
 show updT T o.dst s.r t=if (o.dst==some t)=true then s.r else T t
 cases hd:o.dst with
 | none=>simp [updT]
 | some d =>
  by_cases e:t=d
  ·subst e; simp [updT]
  ·have:(some d==some t)=false:=by simpa using fun h=>e h.symm
   simp [updT,this,e]
theorem Run.at:∀ (l:List Oper) (T:Nat→EV) (h:EH) (ss:List Sp) (T':Nat→EV) (h':EH),Run P G ops N l T h ss T' h' →
  (∀ i o,l[i]? = some o→∃ s,ss[i]? = some s∧stepOk P G ops N o s (lastW (wrT l) (valT ss) T (fun _=>true) i) (lastW (wrH ss) (valH ss) h (fun _=>true) i)) ∧
  T'=lastW (wrT l) (valT ss) T (fun _=>true) l.length∧h'=lastW (wrH ss) (valH ss) h (fun _=>true) l.length:=by
 intro l
 induction l with
 | nil=>intro T h ss T' h' ⟨_,h1,h2⟩; exact ⟨fun i o hi=>by simp at hi,h1.symm,h2.symm⟩
 | cons o l ih =>
  intro T h ss T' h' ⟨s,ss',hss,hs,hr⟩
  subst hss
  obtain ⟨h1,h2,h3⟩:=ih _ _ _ _ _ hr
  have eT:∀ k,lastW (wrT (o::l)) (valT (s::ss')) T (fun _=>true) (k+1)=lastW (wrT l) (valT ss') (updT T o.dst s.r) (fun _=>true) k:=fun k=>by
   funext x
   rw [lastW_cons,updT_eq T o l s ss']
   rfl
  have eH:∀ k,lastW (wrH (s::ss')) (valH (s::ss')) h (fun _=>true) (k+1)=lastW (wrH ss') (valH ss') s.h (fun _=>true) k:=fun k=>by
   funext x
   rw [lastW_cons]
   have:s.h=fun x=>if wrH (s::ss') 0 x then valH (s::ss') 0 x else h x:=by
    rw [hs.2.2]
    funext L
    show _=if s.W.contains L=true then s.h L else h L
    by_cases hL:L∈s.W <;> simp [hL]
   rw [this]
   rfl
  refine ⟨fun i o' hi => ?_,?_,?_⟩
  ·cases i with
   | zero=>cases hi; exact ⟨s,rfl,hs⟩
   | succ i =>
    rw [eT,eH]
    exact h1 i o' hi
  ·rw [List.length_cons,eT]; exact h2
  ·rw [List.length_cons,eH]; exact h3
abbrev FW:=List Nat×List Nat
def namesE (ops:Array Oper) (o:Oper):List Tmp:=o.dst.toList++o.looksAt ops
def confE (ops:Array Oper) (fw:List FW) (i j:Nat):Bool :=
 match ops[i]?,ops[j]?,fw[i]?,fw[j]? with
 | some o,some o',some s,some s'=>o.dst.any (namesE ops o').contains||o'.dst.any (namesE ops o).contains||s.2.any (fun L=>s'.1.contains L||s'.2.contains L)||s'.2.any (fun L=>s.1.contains L||s.2.contains L)
 | _,_,_,_=>true
def chkE (ops:Array Oper) (fw:List FW):Bool :=
 (List.range ops.size).all fun j=>(depsOf ops j).all (fun i=>decide (i<j))&&(let c:=clos ops j (depsOf ops j); (List.range j).all fun i=>c.contains i || !confE ops fw i j)
theorem chkE_spec {fw:List FW} (h:chkE ops fw=true):(∀ j i,j<ops.size→i∈depsOf ops j→i<j)∧∀ i j,i<j→j<ops.size→confE ops fw i j=true→i∈clos ops j (depsOf ops j):=by
 unfold chkE at h
 have key:=fun j (hj:j<ops.size)=>Bool.and_eq_true_iff.1 ((List.all_eq_true.1 h) j (List.mem_range.2 hj))
 refine ⟨fun j i hj hi=>of_decide_eq_true ((List.all_eq_true.1 (key j hj).1) i hi),fun i j hij hj hc => ?_⟩
 have:=(List.all_eq_true.1 (key j hj).2) i (List.mem_range.2 hij)
 rw [hc] at this
 simpa using this
theorem getD_set_true {listed:Array Bool} {i:Nat} (hi:i<listed.size):(fun k=>(listed.setIfInBounds i true).getD k false)=fun k=>listed.getD k false||k==i:=by
 funext k
 simp only [Array.getD_eq_getD_getElem?,Array.getElem?_setIfInBounds]
 by_cases e:i=k
 ·subst e; simp [hi]
 ·have e':¬ k=i:=fun h=>e h.symm
  simp [e,e']
structure IvE (P:Program) (G:Gl) (ops:Array Oper) (S0:List Nat) (w0:World) (N:Nat) (df:List Deferred) (B:Bm) (ss:List Sp) (T:Nat→EV) (h:EH) (listed:Array Bool) (a:Act) (w:World):Prop where
 ls:listed.size=ops.size
 closed:∀ i,listed.getD i false=true→∀ j,j∈depsOf ops i→listed.getD j false=true
 fit:∃ B',B.le B'∧Fit P G S0 w0 N df B' (lastW (wrT ops.toList) (valT ss) T (fun k=>listed.getD k false) ops.size) (lastW (wrH ss) (valH ss) h (fun k=>listed.getD k false) ops.size) a w
theorem contains_of {l:List Nat} {x:Nat} (h:x∈l):l.contains x=true:=by simpa using h
theorem Run.any {ss:List Sp} {T T':Nat→EV} {h h':EH} (hc:chkE ops (ss.map fun s=>(s.F,s.W))=true) (hr:Run P G ops N ops.toList T h ss T' h')
  (hQ:∀ B' a' w',B.le B'→Fit P G S0 w0 N df B' T' h' a' w'→Q .normal a' w'):∀ (fuel:Nat) (listed:Array Bool) (a:Act) (w:World),listed.toList.count false≤fuel→IvE P G ops S0 w0 N df B ss T h listed a w→wpAny P .any ops Q fuel listed a w:=by
 obtain ⟨hb,hcf⟩:=chkE_spec hc
 obtain ⟨hat,hT',hh'⟩:=hr.at
 have hlen:ops.toList.length=ops.size:=by simp
 have fin:∀ (listed:Array Bool) (a:Act) (w:World),(∀ i,i<ops.size→listed.getD i false=true)→IvE P G ops S0 w0 N df B ss T h listed a w→Q .normal a w:=fun listed a w hall hI=>by
  obtain ⟨B',hle,hf⟩:=hI.fit
  refine hQ B' a w hle ?_
  rw [hT',hh',hlen]
  have e1:lastW (wrT ops.toList) (valT ss) T (fun k=>listed.getD k false) ops.size=lastW (wrT ops.toList) (valT ss) T (fun _=>true) ops.size:=funext fun x=>lastW_same _ fun k hk _=>hall k hk
  have e2:lastW (wrH ss) (valH ss) h (fun k=>listed.getD k false) ops.size=lastW (wrH ss) (valH ss) h (fun _=>true) ops.size:=funext fun x=>lastW_same _ fun k hk _=>hall k hk
  rw [← e1,← e2]
  exact hf
 have hback:∀ (i:Nat) (o:Oper) (e:Edge),ops[i]? = some o→e∈o.after→Region.binds .any e=true→e.on<i:=fun i o e ho he hbi=>hb i _ (Array.getElem?_eq_some_iff.1 ho).1 (depsOf_mem ho he hbi)
 have none_left:∀ (listed:Array Bool),listed.size=ops.size→Region.ready .any ops listed=[]→∀ i,i<ops.size→listed.getD i false=true:=fun listed hl hr=>all_listed hback hl hr
 intro fuel
 induction fuel with
 | zero =>
  intro listed a w hcnt hI
  have hall:∀ i,i<ops.size→listed.getD i false=true:=fun i hi=>by
   cases hl:listed.getD i false with
   | true=>rfl
   | false =>
    exfalso
    have hil:i<listed.size:=by rw [hI.ls]; exact hi
    simp only [Array.getD_eq_getD_getElem?,Array.getElem?_eq_getElem hil,Option.getD_some] at hl
    have hmem:false∈listed.toList:=by
     rw [← hl]
     exact Array.mem_toList_iff.2 (Array.getElem_mem hil)
    have:=List.count_pos_iff.2 hmem
    omega
  refine ⟨List.eq_nil_iff_forall_not_mem.2 fun i hi => ?_,fin listed a w hall hI⟩
  obtain ⟨hu,o,ho,_⟩:=mem_ready.1 hi
  have his:=(Array.getElem?_eq_some_iff.1 ho).1
  have:=hall i his
  rw [getD_tf hu (by rw [hI.ls]; exact his)] at this
  cases this
 | succ fuel ih =>
  intro listed a w hcnt hI
  refine ⟨fun hr=>fin listed a w (none_left listed hI.ls hr) hI,fun i hi => ?_⟩
  obtain ⟨hu,o,ho,hrd⟩:=mem_ready.1 hi
  have his:i<ops.size:=(Array.getElem?_eq_some_iff.1 ho).1
  have hil:i<listed.size:=by rw [hI.ls]; exact his
  have hun:listed.getD i false=false:=getD_tf hu hil
  have hdeps:∀ j,j∈depsOf ops i→listed.getD j false=true:=fun j hj=>by
   obtain ⟨o',e,ho',he,hbi,rfl⟩:=depsOf_of hj
   rw [ho] at ho'; cases ho'
   exact hrd e he hbi
  obtain ⟨s,hs,hd,hst,hsh⟩:=hat i o (by simpa using ho)
  obtain ⟨B',hle,hf⟩:=hI.fit
  have hfw:(ss.map fun s=>(s.F,s.W))[i]? = some (s.F,s.W):=by rw [List.getElem?_map,hs]; rfl
  have early:∀ k,k<i→confE ops (ss.map fun s=>(s.F,s.W)) k i=true→listed.getD k false=true:=fun k hk hcc=>by
   exact clos_listed (ops:=ops) (listed:=fun j=>listed.getD j false=true) hI.closed i (depsOf ops i) hdeps k (hcf k i hk his hcc)
  have later:∀ k,i≤k→k<ops.size→(k≠i→confE ops (ss.map fun s=>(s.F,s.W)) i k=true)→listed.getD k false=false:=fun k hk hks hcc=>by
   by_cases e:k=i
   ·rw [e]; exact hun
   ·cases hl:listed.getD k false with
    | false=>rfl
    | true =>
     have:=clos_listed (ops:=ops) (listed:=fun j=>listed.getD j false=true) hI.closed k (depsOf ops k) (hI.closed k hl) i (hcf i k (by omega) hks (hcc e))
     rw [hun] at this
     cases this
  have cnf:∀ k ok sk,ops[k]? = some ok→ss[k]? = some sk→(ok.dst.any (namesE ops o).contains||o.dst.any (namesE ops ok).contains||sk.W.any (fun L=>s.F.contains L||s.W.contains L)||s.W.any (fun L=>sk.F.contains L||sk.W.contains L))=true →
    confE ops (ss.map fun s=>(s.F,s.W)) k i=true∧confE ops (ss.map fun s=>(s.F,s.W)) i k=true:=fun k ok sk hok hsk hcc=>by
   have hfk:(ss.map fun s=>(s.F,s.W))[k]? = some (sk.F,sk.W):=by rw [List.getElem?_map,hsk]; rfl
   unfold confE
   simp only [ho,hok,hfw,hfk]
   refine ⟨hcc,?_⟩
   simp only [Bool.or_eq_true] at hcc ⊢
   rcases hcc with ((h | h) | h) | h
   ·exact .inl (.inl (.inr h))
   ·exact .inl (.inl (.inl h))
   ·exact .inr h
   ·exact .inl (.inr h)
  have tmp_ok:∀ x,x∈namesE ops o→(∀ k,k<i→wrT ops.toList k x=true→listed.getD k false=true)∧∀ k,i≤k→wrT ops.toList k x=true→listed.getD k false=false:=fun x hx=>by
   have base:∀ k,wrT ops.toList k x=true→∃ ok sk,ops[k]? = some ok∧ss[k]? = some sk∧ok.dst=some x:=fun k hk=>by
    unfold wrT at hk
    cases hok:ops.toList[k]? with
    | none=>rw [hok] at hk; cases hk
    | some ok =>
     rw [hok] at hk
     obtain ⟨sk,hsk,_⟩:=hat k ok hok
     exact ⟨ok,sk,by simpa using hok,hsk,by simpa using hk⟩
   have cc:∀ k,wrT ops.toList k x=true→confE ops (ss.map fun s=>(s.F,s.W)) k i=true∧confE ops (ss.map fun s=>(s.F,s.W)) i k=true∧k<ops.size:=fun k hk=>by
    obtain ⟨ok,sk,hok,hsk,hdx⟩:=base k hk
    have:=cnf k ok sk hok hsk (by
     simp only [Bool.or_eq_true]
     exact .inl (.inl (.inl (by rw [hdx]; exact contains_of hx))))
    exact ⟨this.1,this.2,(Array.getElem?_eq_some_iff.1 hok).1⟩
   exact ⟨fun k hk hw=>early k hk (cc k hw).1,fun k hk hw=>later k hk (cc k hw).2.2 fun _=>(cc k hw).2.1⟩
  have blk_ok:∀ x,(x∈s.F∨x∈s.W)→(∀ k,k<i→wrH ss k x=true→listed.getD k false=true)∧∀ k,i≤k→wrH ss k x=true→listed.getD k false=false:=fun x hx=>by
   have cc:∀ k,wrH ss k x=true→k<ops.size→confE ops (ss.map fun s=>(s.F,s.W)) k i=true∧confE ops (ss.map fun s=>(s.F,s.W)) i k=true:=fun k hk hks=>by
    unfold wrH at hk
    cases hsk:ss[k]? with
    | none=>rw [hsk] at hk; cases hk
    | some sk =>
     rw [hsk] at hk
     refine cnf k ops[k] sk (Array.getElem?_eq_getElem hks) hsk ?_
     simp only [Bool.or_eq_true]
     refine .inl (.inr (List.any_eq_true.2 ⟨x,by simpa using hk,?_⟩))
     rcases hx with hx | hx <;> simp [hx]
   refine ⟨fun k hk hw=>early k hk (cc k hw (by omega)).1,fun k hk hw => ?_⟩
   by_cases hks:k<ops.size
   ·exact later k hk hks fun _=>(cc k hw hks).2
   ·rw [Array.getD_eq_getD_getElem?,Array.getElem?_eq_none (by rw [hI.ls]; omega)]
    rfl
  have hTi:∀ x,x∈namesE ops o→lastW (wrT ops.toList) (valT ss) T (fun k=>listed.getD k false) ops.size x=lastW (wrT ops.toList) (valT ss) T (fun _=>true) i x:=fun x hx=>lastW_mid (by omega) (tmp_ok x hx).1 (tmp_ok x hx).2
  have hHi:∀ x,x∈s.F→lastW (wrH ss) (valH ss) h (fun k=>listed.getD k false) ops.size x=lastW (wrH ss) (valH ss) h (fun _=>true) i x:=fun x hx=>lastW_mid (by omega) (blk_ok x (.inl hx)).1 (blk_ok x (.inl hx)).2
  have hlook:∀ t,t∈o.looksAt ops→ER B' (lastW (wrT ops.toList) (valT ss) T (fun _=>true) i t) (a.tmps.getD t undef):=fun t ht=>by
   rw [← hTi t (List.mem_append.2 (.inr ht))]
   exact hf.tm t
  have hcnt':(listed.setIfInBounds i true).toList.count false≤fuel:=by
   have hu':listed.toList[i]? = some false:=by
    have:=hun
    simp only [Array.getD_eq_getD_getElem?,Array.getElem?_eq_getElem hil,Option.getD_some] at this
    simp [hil,this]
   have:=count_set listed.toList i hu'
   rw [Array.toList_setIfInBounds]
   omega
  have hcl':∀ k,(listed.setIfInBounds i true).getD k false=true→∀ j,j∈depsOf ops k→(listed.setIfInBounds i true).getD j false=true:=fun k hk j hj=>by
   rcases set_listed hk with rfl | hk
   ·exact listed_set (hdeps j hj)
   ·exact listed_set (hI.closed k hk j hj)
  have go:∀ B'' v w',B'.le B''→ER B'' s.r v→Wd P G S0 w0 B'' (fun L=>if L∈s.W then s.h L else lastW (wrH ss) (valH ss) h (fun k=>listed.getD k false) ops.size L) w'→wpAny P .any ops Q fuel (listed.setIfInBounds i true) (a.put o.dst v) w':=fun B'' v w' hle' hv hwd=>by
   refine ih _ _ _ hcnt' ⟨by rw [Array.size_setIfInBounds]; exact hI.ls,hcl',B'',hle.trans hle',?_⟩
   rw [getD_set_true hil]
   refine ⟨hwd.cast (funext fun L => ?_),fun t => ?_,by rw [put_size]; exact hf.sz,by rw [put_defers]; exact hf.df⟩
   ·by_cases hL:L∈s.W
    ·rw [if_pos hL,lastW_set his (blk_ok L (.inr hL)).2 (by unfold wrH; rw [hs]; exact contains_of hL)]
     unfold valH
     rw [hs]
    ·rw [if_neg hL,lastW_else (by unfold wrH; rw [hs]; simpa using hL)]
   ·have:=put_tm (d:=o.dst) hle' (fun x hx=>by rw [hf.sz]; exact hd x hx) hf.tm hv t
    refine cast ?_ this
    congr 1
    cases hod:o.dst with
    | none=>exact (lastW_else (by unfold wrT; rw [show ops.toList[i]? = some o by simpa using ho]; simp [hod])).symm
    | some d =>
     show (if t=d then s.r else _)=_
     by_cases e:t=d
     ·subst e
      rw [if_pos rfl,lastW_set his (tmp_ok t (List.mem_append.2 (.inl (by simp [hod])))).2 (by unfold wrT; rw [show ops.toList[i]? = some o by simpa using ho]; simp [hod])]
      unfold valT
      rw [hs]
     ·rw [if_neg e]
      exact (lastW_else (by unfold wrT; rw [show ops.toList[i]? = some o by simpa using ho]; simpa [hod] using fun h=>e h.symm)).symm
  unfold wpOp
  rw [ho]
  show if Region.wanted o (yielded ops a.tmps)=true then _ else _
  rcases hst with ⟨hw,hst⟩ | ⟨hw,hW,hre⟩
  ·rw [wantE_spec hw hlook,if_pos rfl]
   exact .inl (hst S0 w0 B' a w _ hlook hf.wd hHi _ _ go)
  ·rw [wantE_spec hw hlook,if_neg (by simp)]
   refine go B' undef w (Bm.le.refl _) (by rw [hre]; exact ER.t (by rfl) fun i x u hx=>by simp at hx) (hf.wd.cast (funext fun L => ?_))
   rw [hW]
   simp
theorem Run.region {id:Nat} {draw:Bool} {ss:List Sp} {T T':Nat→EV} {h h':EH} {a:Act} {w:World} (hm:P.follows .mixedOrders=true) (hc:draw=true→chkE ops (ss.map fun s=>(s.F,s.W))=true) (hr:Run P G ops N ops.toList T h ss T' h')
  (hf:Fit P G S0 w0 N df B T h a w) (hQ:∀ B' a' w',B.le B'→Fit P G S0 w0 N df B' T' h' a' w'→Q .normal a' w'):(Code.region id ops draw).wp P Q a w:=by
 cases draw with
 | false=>exact wp_region_list (hr.list _ _ _ _ _ _ _ _ _ hf hQ)
 | true =>
  have hrep:∀ i,(Array.replicate ops.size false).getD i false=false:=fun i=>by
   rw [Array.getD_eq_getD_getElem?]
   by_cases hi:i<ops.size
   ·simp [hi]
   ·rw [Array.getElem?_eq_none (by simpa using hi)]
    rfl
  refine wp_region_any hm (hr.any (hc rfl) hQ ops.size _ a w.drew (by simp) ⟨by simp,fun i hi=>absurd (hi.symm.trans (hrep i)) (by simp),B,Bm.le.refl _,?_⟩)
  have e:∀ {α:Type} (wr:Nat→Nat→Bool) (val:Nat→Nat→α) (f0:Nat→α),lastW wr val f0 (fun k=>(Array.replicate ops.size false).getD k false) ops.size=f0:=fun wr val f0=>funext fun x=>by
   have:∀ n,lastW wr val f0 (fun k=>(Array.replicate ops.size false).getD k false) n x=f0 x:=fun n=>by
    induction n with
    | zero=>rfl
    | succ n ih=>unfold lastW; rw [hrep]; simpa using ih
   exact this _
  rw [e,e]
  exact ⟨⟨hf.wd.t.drew,hf.wd.row,hf.wd.mp,hf.wd.n,hf.wd.pl,hf.wd.inj,hf.wd.own,hf.wd.gl⟩,hf.tm,hf.sz,hf.df⟩
end
section
variable {P:Program} {G:Gl} {S0:List Nat} {w0 w w':World} {B B':Bm} {h:EH} {q:BI} {t:TypeId} {rows:List (List EV)}
theorem RowsAt.mono (hle:B.le B') (hr:RowsAt P B w q t rows):RowsAt P B' w q t rows:=by
 obtain ⟨hk,c,hb,hs,hl,hrow⟩:=hr
 exact ⟨hk,c,hb,hs,hl,fun i row hi=>⟨(hrow i row hi).1,fun f x hf=>let ⟨u,h1,h2,h3⟩:=(hrow i row hi).2 f x hf; ⟨u,h1,h2.mono hle,h3⟩⟩⟩
theorem RowsAt.lt (hr:RowsAt P B w q t rows):q.b<w.heap.size:=let ⟨_,_,hb,_⟩:=hr; hb.lt
theorem RowsAt.touch {S:List Nat} (hr:RowsAt P B w q t rows) (ht:Touch S w w') (hn:q.b ∉ S):RowsAt P B w' q t rows:=by
 obtain ⟨hk,c,hb,rest⟩:=hr
 exact ⟨hk,c,hb.touch ht hn,rest⟩
theorem ObjAt.mono {x:EO} (hle:B.le B') (hr:ObjAt B w q x):ObjAt B' w q x:=by
 cases x with
 | mp ck es =>
  obtain ⟨en,h1,h2,h3⟩:=hr
  exact ⟨en,h1,h2,fun i k n x hi=>let ⟨y,a,b,d,c⟩:=h3 i k n x hi; ⟨y,a,b,d,c.mono hle⟩⟩
 | mq ck es=>exact hr.pl
 | it s pos=>exact hr
 | ag t n p=>exact hr
theorem ObjAt.heap {x:EO} (hr:ObjAt B w q x):∃ y,w.heap[q.b]? = some y:=by
 cases x with
 | mp ck es=>obtain ⟨en,h1,_⟩:=hr; exact ⟨_,h1⟩
 | mq ck es=>obtain ⟨_,en,h1,_⟩:=hr; exact ⟨_,h1⟩
 | it s pos=>exact ⟨_,hr⟩
 | ag t n p=>let ⟨_,_,_,⟨_,_,h,_⟩,_⟩:=hr; exact ⟨_,h⟩
theorem ObjAt.lt {x:EO} (hr:ObjAt B w q x):q.b<w.heap.size:=let ⟨_,h⟩:=hr.heap; (Array.getElem?_eq_some_iff.1 h).1
theorem ObjAt.kept {x:EO} (hr:ObjAt B w q x) (h:w'.heap[q.b]? = w.heap[q.b]?):ObjAt B w' q x:=by
 cases x with
 | mp ck es=>obtain ⟨en,h1,rest⟩:=hr; exact ⟨en,h.trans h1,rest⟩
 | mq ck es=>obtain ⟨h0,en,h1,rest⟩:=hr; exact ⟨h0,en,h.trans h1,rest⟩
 | it s pos=>exact h.trans hr
 | ag t n p =>
  obtain ⟨us,c,h1,⟨lo,hi,h2,h3⟩,h4⟩:=hr
  exact ⟨us,c,h1,⟨lo,hi,h.trans h2,h3⟩,h4⟩
theorem ObjAt.touch {S:List Nat} {x:EO} (hr:ObjAt B w q x) (ht:Touch S w w') (hn:q.b ∉ S):ObjAt B w' q x:=hr.kept (ht.block q.b hr.lt hn)
theorem Wd.live (hw:Wd P G S0 w0 B h w) {L:Nat} {q:BI} (hl:(h L).live=true) (hq:B L=some q):q.b<w.heap.size:=by
 have key:∀ t rows,(h L).vec=some (t,rows)→q.b<w.heap.size:=fun t rows hv=>by
  rcases hw.row L t rows hv with ⟨q',h1,h2⟩ | ⟨_,h1⟩
  ·rw [hq] at h1; cases h1; exact h2.lt
  ·rw [hq] at h1; cases h1
 cases e:h L with
 | n=>rw [e] at hl; cases hl
 | g=>rw [e] at hl; cases hl
 | r t row=>exact key t [row] (by rw [e]; rfl)
 | rs t rows=>exact key t rows (by rw [e]; rfl)
 | rv t rows=>exact key t rows (by rw [e]; rfl)
 | o xo=>obtain ⟨q',h1,h2⟩:=hw.mp L xo e; rw [hq] at h1; cases h1; exact h2.lt
theorem RwOk.mono {L:Nat} (hle:B.le B') (hn:rows=[]→B L=none→B' L=none) (hr:RwOk P B w L t rows):RwOk P B' w L t rows:=by
 rcases hr with ⟨q,h1,h2⟩ | ⟨h1,h2⟩
 ·exact .inl ⟨q,hle _ _ h1,h2.mono hle⟩
 ·exact .inr ⟨h1,hn h1 h2⟩
theorem RwOk.touch {S:List Nat} {L:Nat} (hr:RwOk P B w L t rows) (ht:Touch S w w') (hn:∀ q,B L=some q→q.b ∉ S):RwOk P B w' L t rows:=by
 rcases hr with ⟨q,h1,h2⟩ | h
 ·exact .inl ⟨q,h1,h2.touch ht (hn q h1)⟩
 ·exact .inr h
def updH (h:EH) (L:Nat) (x:EB):EH:=fun L'=>if L'=L then x else h L'
theorem _root_.Go.Proofs.YtdhgpocbcccieaaGreatDoor.Touch.grow_at {S:List Nat} {a w w':World} {g:Nat} (h:Touch S a w) (ht:Touch [g] w w') (hg:g∈S∨a.heap.size≤g):Touch S a w' :=
 ⟨ht.os.trans h.os,ht.tape.trans h.tape,ht.output.trans h.output,Nat.le_trans h.size ht.size,fun k hk hn=>(ht.block k (Nat.lt_of_lt_of_le hk h.size) (by
  intro e
  cases List.mem_singleton.1 e
  rcases hg with hg | hg
  ·exact hn hg
  ·omega)).trans (h.block k hk hn)⟩
theorem _root_.Go.Proofs.YtdhgpocbcccieaaGreatDoor.Touch.growS {S S':List Nat} {a w w':World} (h:Touch S a w) (ht:Touch S' w w') (hg:∀ g,g∈S'→g∈S∨a.heap.size≤g):Touch S a w' :=
 ⟨ht.os.trans h.os,ht.tape.trans h.tape,ht.output.trans h.output,Nat.le_trans h.size ht.size,fun k hk hn=>(ht.block k (Nat.lt_of_lt_of_le hk h.size) (by
  intro e
  rcases hg k e with hg | hg
  ·exact hn hg
  ·omega)).trans (h.block k hk hn)⟩
theorem Wd.upd (hw:Wd P G S0 w0 B h w) {L:Nat} (hl:(h L).live=true) (hq:B L=some q) (ht:Touch [q.b] w w') (x:EB) (hx:x ≠ .n)
  (hr:∀ t rows,x.vec=some (t,rows)→RowsAt P B w' q t rows) (hm:∀ xo,x = .o xo→ObjAt B w' q xo) (hp:∀ t rows,x = .rs t rows→plainR rows):Wd P G S0 w0 B (updH h L x) w':=by
 have hown:=hw.own L q hl hq
 have far:∀ L' q',L'≠L→(h L').live=true→B L'=some q'→q'.b ∉ [q.b]:=fun L' q' hne hl' hq' hmem=>hne (hw.inj L' L q' q hl' hl hq' hq (by simpa using hmem))
 have at_:∀ L',L'≠L→updH h L x L'=h L':=fun L' hne=>by unfold updH; rw [if_neg hne]
 have self:updH h L x L=x:=by unfold updH; rw [if_pos rfl]
 have lv:∀ L',(updH h L x L').live=true→(h L').live=true:=fun L' hl'=>by
  by_cases e:L'=L
  ·rw [e]; exact hl
  ·rw [at_ L' e] at hl'; exact hl'
 refine ⟨hw.t.grow_at ht hown,fun L' t rows hv => ?_,fun L' xo hv => ?_,fun L' hv => ?_,fun L' t rows hv => ?_,fun L1 L2 q1 q2 h1 h2=>hw.inj L1 L2 q1 q2 (lv _ h1) (lv _ h2),fun L' q' hl'=>hw.own L' q' (lv _ hl'),hw.gl⟩
 ·by_cases e:L'=L
  ·subst e; rw [self] at hv; exact .inl ⟨q,hq,hr t rows hv⟩
  ·rw [at_ L' e] at hv
   exact (hw.row L' t rows hv).touch ht fun q'=>far L' q' e (EB.live_vec hv)
 ·by_cases e:L'=L
  ·subst e; rw [self] at hv; exact ⟨q,hq,hm xo hv⟩
  ·rw [at_ L' e] at hv
   obtain ⟨q',h1,h2⟩:=hw.mp L' xo hv
   exact ⟨q',h1,h2.touch ht (far L' q' e (by rw [hv]; rfl) h1)⟩
 ·by_cases e:L'=L
  ·subst e; rw [self] at hv; exact absurd hv hx
  ·rw [at_ L' e] at hv; exact hw.n L' hv
 ·by_cases e:L'=L
  ·subst e; rw [self] at hv; exact hp t rows hv
  ·rw [at_ L' e] at hv; exact hw.pl L' t rows hv
def Bm.set (B:Bm) (L:Nat) (q:BI):Bm:=fun L'=>if L'=L then some q else B L'
theorem Bm.le_set {L:Nat} (hn:B L=none):B.le (B.set L q):=fun L' q' hq=>by
 unfold Bm.set
 by_cases e:L'=L
 ·subst e; rw [hn] at hq; cases hq
 ·rw [if_neg e]; exact hq
theorem Bm.set_self (B:Bm) (L:Nat) (q:BI):B.set L q L=some q:=by unfold Bm.set; rw [if_pos rfl]
theorem Wd.grow (hw:Wd P G S0 w0 B h w) (ht:Touch [] w w'):Wd P G S0 w0 B h w' :=
 ⟨hw.t.trans (ht.mono fun _ hk=>by cases hk),fun L t rows hv=>(hw.row L t rows hv).touch ht (by simp),fun L xo hv=>let ⟨q,h1,h2⟩:=hw.mp L xo hv; ⟨q,h1,h2.touch ht (by simp)⟩,hw.n,hw.pl,hw.inj,hw.own,hw.gl⟩
theorem Wd.new (hw:Wd P G S0 w0 B h w) {L:Nat} (hL:h L = .n) (ht:Touch [] w w') (hq:w.heap.size≤q.b) (x:EB) (hx:x ≠ .n)
  (hr:∀ t rows,x.vec=some (t,rows)→RowsAt P (B.set L q) w' q t rows) (hm:∀ xo,x = .o xo→ObjAt (B.set L q) w' q xo) (hp:∀ t rows,x = .rs t rows→plainR rows):Wd P G S0 w0 (B.set L q) (updH h L x) w':=by
 have hle:B.le (B.set L q):=Bm.le_set (hw.n L hL)
 have at_:∀ L',L'≠L→updH h L x L'=h L':=fun L' hne=>by unfold updH; rw [if_neg hne]
 have atB:∀ L',L'≠L→B.set L q L'=B L':=fun L' hne=>by unfold Bm.set; rw [if_neg hne]
 have self:updH h L x L=x:=by unfold updH; rw [if_pos rfl]
 have hg:=hw.grow ht
 have old:∀ L' q',L'≠L→(updH h L x L').live=true→B.set L q L'=some q'→q'.b<w.heap.size:=fun L' q' hne hl hq'=>by
  rw [at_ L' hne] at hl
  rw [atB L' hne] at hq'
  exact hw.live hl hq'
 refine ⟨hg.t,fun L' t rows hv => ?_,fun L' xo hv => ?_,fun L' hv => ?_,fun L' t rows hv => ?_,fun L1 L2 q1 q2 h1 h2 e1 e2 e => ?_,fun L' q' hl' hq' => ?_,hw.gl⟩
 ·by_cases e:L'=L
  ·subst e; rw [self] at hv; exact .inl ⟨q,Bm.set_self _ _ _,hr t rows hv⟩
  ·rw [at_ L' e] at hv
   exact (hg.row L' t rows hv).mono hle fun _ hn=>by rw [atB L' e]; exact hn
 ·by_cases e:L'=L
  ·subst e; rw [self] at hv; exact ⟨q,Bm.set_self _ _ _,hm xo hv⟩
  ·rw [at_ L' e] at hv
   obtain ⟨q',h1,h2⟩:=hg.mp L' xo hv
   exact ⟨q',hle _ _ h1,h2.mono hle⟩
 ·by_cases e:L'=L
  ·subst e; rw [self] at hv; exact absurd hv hx
  ·rw [at_ L' e] at hv; rw [atB L' e]; exact hw.n L' hv
 ·by_cases e:L'=L
  ·subst e; rw [self] at hv; exact hp t rows hv
  ·rw [at_ L' e] at hv; exact hw.pl L' t rows hv
 ·by_cases i1:L1=L
  ·by_cases i2:L2=L
   ·rw [i1,i2]
   ·exfalso
    have:=old L2 q2 i2 h2 e2
    subst i1
    rw [Bm.set_self] at e1; cases e1
    omega
  ·by_cases i2:L2=L
   ·exfalso
    have:=old L1 q1 i1 h1 e1
    subst i2
    rw [Bm.set_self] at e2; cases e2
    omega
   ·rw [at_ L1 i1] at h1; rw [at_ L2 i2] at h2; rw [atB L1 i1] at e1; rw [atB L2 i2] at e2
    exact hw.inj L1 L2 q1 q2 h1 h2 e1 e2 e
 ·by_cases e:L'=L
  ·subst e
   rw [Bm.set_self] at hq'; cases hq'
   exact .inr (Nat.le_trans hw.t.size hq)
  ·rw [at_ L' e] at hl'; rw [atB L' e] at hq'
   exact hw.own L' q' hl' hq'
theorem RowsAt.part (hr:RowsAt P B w q t rows) {i:Nat} {row:List EV} (hi:rows[i]? = some row) (f n:Nat) (hf:f+n≤row.length) :
  ∃ us:List Value,us.length=n∧w.rangeAt q.b (i*q.k+f) us∧∀ (j:Nat) (x:EV) (u:Value),((row.drop f).take n)[j]? = some x→us[j]? = some u→ER B x u:=by
 obtain ⟨hk,c,hb,hs,hl,hrow⟩:=hr
 obtain ⟨hrl,hcell⟩:=hrow i row hi
 have hil:i<rows.length:=(List.getElem?_eq_some_iff.1 hi).1
 have hmul:(i+1)*q.k≤rows.length*q.k:=Nat.mul_le_mul_right _ hil
 rw [Nat.add_mul,Nat.one_mul] at hmul
 refine ⟨((c.toList.drop (i*q.k+f)).take n),by simp; omega,fun j v hv => ?_,fun j x u hx hu => ?_⟩
 ·rw [List.getElem?_take] at hv
  split at hv
  ·rw [List.getElem?_drop] at hv
   rw [hb.cell]
   simpa using hv
  ·cases hv
 ·rw [List.getElem?_take] at hx hu
  split at hx
  ·rename_i hj
   rw [if_pos hj,List.getElem?_drop] at hu
   rw [List.getElem?_drop] at hx
   obtain ⟨u',h1,h2,_⟩:=hcell (f+j) x hx
   rw [← Nat.add_assoc] at h1
   have:c[i*q.k+f+j]? = some u:=by simpa using hu
   rw [h1] at this; cases this
   exact h2
  ·cases hx
def putL {α:Type} (row:List α) (f:Nat) (vs:List α):List α:=row.take f++vs++row.drop (f+vs.length)
theorem RowsAt.put (hr:RowsAt P B w q t rows) {i:Nat} {row:List EV} (hi:rows[i]? = some row) (f:Nat) (vs:List EV) (us:List Value) (hl:vs.length=us.length) (hf:f+vs.length≤row.length)
  (hv:∀ (j:Nat) (x:EV) (u:Value),vs[j]? = some x→us[j]? = some u→ER B x u) (ho:∀ u∈us,u.oneCell'=true):RowsAt P B (w.setCells q.b (i*q.k+f) us) q t (rows.set i (putL row f vs)):=by
 obtain ⟨hk,c,hb,hs,hlen,hrow⟩:=hr
 obtain ⟨hrl,hcell⟩:=hrow i row hi
 have hil:i<rows.length:=(List.getElem?_eq_some_iff.1 hi).1
 have hmul:(i+1)*q.k≤rows.length*q.k:=Nat.mul_le_mul_right _ hil
 rw [Nat.add_mul,Nat.one_mul] at hmul
 obtain ⟨c',hb',hs',hout,hin⟩:=Bf.setCells (g:=q.b) (t:=t) us (i*q.k+f) w c hb
 have hpl:(putL row f vs).length=row.length:=by unfold putL; simp; omega
 refine ⟨hk,c',hb',hs'.trans hs,by simpa using hlen,fun i' row' hi' => ?_⟩
 rw [List.getElem?_set] at hi'
 by_cases e:i=i'
 ·subst e
  rw [if_pos rfl,if_pos hil] at hi'
  cases hi'
  refine ⟨hpl.trans hrl,fun f' x hx => ?_⟩
  have hf':f'<row.length:=by rw [← hpl]; exact (List.getElem?_eq_some_iff.1 hx).1
  unfold putL at hx
  by_cases h1:f'<f
  ·rw [List.append_assoc,List.getElem?_append_left (by simp; omega),List.getElem?_take,if_pos h1] at hx
   obtain ⟨u,hu1,hu2⟩:=hcell f' x hx
   exact ⟨u,by rw [hout _ (.inl (by omega))]; exact hu1,hu2⟩
  ·by_cases h2:f'<f+vs.length
   ·rw [List.append_assoc,List.getElem?_append_right (by simp; omega),List.getElem?_append_left (by simp; omega)] at hx
    have hx':vs[f'-f]? = some x:=by
     rw [← hx]
     congr 1
     simp
     omega
    have hj:f'-f<us.length:=by omega
    refine ⟨us[f'-f],?_,hv _ x _ hx' (List.getElem?_eq_getElem hj),ho _ (List.getElem_mem _)⟩
    have:=hin (f'-f) us[f'-f] (List.getElem?_eq_getElem hj) (by omega)
    rwa [show i*q.k+f+(f'-f)=i*q.k+f' by omega] at this
   ·have hx':row[f']? = some x:=by
     rw [← hx,List.getElem?_append_right (by simp; omega),List.getElem?_drop]
     congr 1
     simp
     omega
    obtain ⟨u,hu1,hu2⟩:=hcell f' x hx'
    exact ⟨u,by rw [hout _ (.inr (by omega))]; exact hu1,hu2⟩
 ·rw [if_neg e] at hi'
  obtain ⟨hrl',hcell'⟩:=hrow i' row' hi'
  refine ⟨hrl',fun f' x hx => ?_⟩
  have hf':f'<q.k:=by rw [← hrl']; exact (List.getElem?_eq_some_iff.1 hx).1
  obtain ⟨u,hu1,hu2⟩:=hcell' f' x hx
  refine ⟨u,?_,hu2⟩
  rw [hout _ ?_]
  ·exact hu1
  ·rcases Nat.lt_or_gt_of_ne e with hlt | hgt
   ·right
    have:=Nat.mul_le_mul_right q.k hlt
    rw [Nat.succ_mul] at this
    omega
   ·left
    have:=Nat.mul_le_mul_right q.k hgt
    rw [Nat.succ_mul] at this
    omega
theorem RowsAt.there (hr:RowsAt P B w q t rows) {i:Nat} {row:List EV} (hi:rows[i]? = some row) (f n:Nat) (hf:f+n≤row.length):w.there q.b (i*q.k+f) n:=fun j hj=>by
 obtain ⟨us,h1,h2,_⟩:=hr.part hi f n hf
 obtain ⟨_,c,hb,_⟩:=hr
 have:=h2 j us[j] (List.getElem?_eq_getElem (by omega))
 refine ⟨by simp [this],hb.frozen _ ?_⟩
 rw [hb.cell] at this
 exact (Array.getElem?_eq_some_iff.1 this).1
end
def br (b:Bool) (A B:Prop):Prop:=match b with | true=>A | false=>B
def ob {α:Type} (o:Option α) (K:α→Prop):Prop:=match o with | some x=>K x | none=>False
theorem br_of {b:Bool} {A B:Prop} (h1:b=true→A) (h2:b=false→B):br b A B:=by
 cases b
 ·exact h2 rfl
 ·exact h1 rfl
theorem br_t {b:Bool} {A B:Prop} (h:b=true) (hA:A):br b A B:=by rw [h]; exact hA
theorem br_f {b:Bool} {A B:Prop} (h:b=false) (hB:B):br b A B:=by rw [h]; exact hB
theorem br_inv {b:Bool} {A B:Prop} (h:br b A B):(b=true∧A)∨(b=false∧B):=by
 cases b
 ·exact .inr ⟨rfl,h⟩
 ·exact .inl ⟨rfl,h⟩
theorem ob_of {α:Type} {o:Option α} {K:α→Prop} (x:α) (h:o=some x) (hK:K x):ob o K:=by rw [h]; exact hK
theorem ob_inv {α:Type} {o:Option α} {K:α→Prop} (h:ob o K):∃ x,o=some x∧K x:=by
 cases o
 ·exact h.elim
 ·exact ⟨_,rfl,h⟩
def lk:List (Nat×EV)→Nat→EV
 | [],_ => .j
 | (k,v)::r,t=>if k=t then v else lk r t
def lkK:List (Nat×EV)→Nat→(EV→Prop)→Prop
 | [],_,K=>K .j
 | (k,v)::r,t,K=>br (Nat.beq k t) (K v) (lkK r t K)
theorem lkK_eq (T:List (Nat×EV)) (t:Nat) (K:EV→Prop):lkK T t K=K (lk T t):=by
 induction T with
 | nil=>rfl
 | cons x r ih =>
  obtain ⟨k,v⟩:=x
  unfold lkK lk
  by_cases e:k=t
  ·rw [if_pos e,show Nat.beq k t=true from by simpa using e]; rfl
  ·rw [if_neg e,show Nat.beq k t=false from by simpa [← Nat.beq_eq] using e,← ih]; rfl
theorem lk_cons (T:List (Nat×EV)) (d:Nat) (x:EV):lk ((d,x)::T)=updT (lk T) (some d) x:=by
 funext t
 show (if d=t then x else lk T t)=if t=d then x else lk T t
 by_cases e:d=t
 ·rw [if_pos e,if_pos e.symm]
 ·rw [if_neg e,if_neg fun h=>e h.symm]
def ev (T:List (Nat×EV)):Operand→EV
 | .tmp t=>lk T t
 | .const v => .v v
 | .global g => .v (.pointer (some ⟨g,0,none⟩))
 | .func f => .f f [] []
def evK (T:List (Nat×EV)) (x:Operand) (K:EV→Prop):Prop :=
 match x with
 | .tmp t=>lkK T t K
 | .const v=>K (.v v)
 | .global g=>K (.v (.pointer (some ⟨g,0,none⟩)))
 | .func f=>K (.f f [] [])
theorem evK_eq (T:List (Nat×EV)) (x:Operand) (K:EV→Prop):evK T x K=K (ev T x):=by
 cases x with
 | tmp t=>exact lkK_eq T t K
 | _=>rfl
def evsK (T:List (Nat×EV)):List Operand→(List EV→Prop)→Prop
 | [],K=>K []
 | x::l,K=>evK T x fun v=>evsK T l fun r=>K (v::r)
theorem evsK_eq (T:List (Nat×EV)) (l:List Operand):∀ K,evsK T l K=K (l.map (ev T)):=by
 induction l with
 | nil=>intro K; rfl
 | cons x l ih=>intro K; unfold evsK; rw [evK_eq,ih]; rfl
def appK {α:Type}:List α→List α→(List α→Prop)→Prop
 | [],m,K=>K m
 | x::l,m,K=>appK l m fun r=>K (x::r)
theorem appK_eq {α:Type} (l m:List α):∀ K,appK l m K=K (l++m):=by
 induction l with
 | nil=>intro K; rfl
 | cons x l ih=>intro K; unfold appK; rw [ih]; rfl
def setK {α:Type}:List α→Nat→α→(List α→Prop)→Prop
 | [],_,_,K=>K []
 | _::l,0,y,K=>K (y::l)
 | x::l,n+1,y,K=>setK l n y fun r=>K (x::r)
theorem setK_eq {α:Type} (l:List α):∀ (n:Nat) (y:α) (K:List α→Prop),setK l n y K=K (l.set n y):=by
 induction l with
 | nil=>intro n y K; rfl
 | cons x l ih =>
  intro n y K
  cases n with
  | zero=>rfl
  | succ n=>unfold setK; rw [ih]; rfl
def takeK {α:Type}:Nat→List α→(List α→Prop)→Prop
 | 0,_,K=>K []
 | _+1,[],K=>K []
 | n+1,x::l,K=>takeK n l fun r=>K (x::r)
theorem takeK_eq {α:Type} (n:Nat):∀ (l:List α) (K:List α→Prop),takeK n l K=K (l.take n):=by
 induction n with
 | zero=>intro l K; simp [takeK]
 | succ n ih =>
  intro l K
  cases l with
  | nil=>rfl
  | cons x l=>unfold takeK; rw [ih]; rfl
def dropK {α:Type}:Nat→List α→(List α→Prop)→Prop
 | 0,l,K=>K l
 | _+1,[],K=>K []
 | n+1,_::l,K=>dropK n l K
theorem dropK_eq {α:Type} (n:Nat):∀ (l:List α) (K:List α→Prop),dropK n l K=K (l.drop n):=by
 induction n with
 | zero=>intro l K; rfl
 | succ n ih =>
  intro l K
  cases l with
  | nil=>rfl
  | cons x l=>unfold dropK; rw [ih]; rfl
def setsL {α:Type}:List α→Nat→List α→List α
 | row,_,[]=>row
 | row,f,v::r=>setsL (row.set f v) (f+1) r
def setsK {α:Type}:List α→Nat→List α→(List α→Prop)→Prop
 | row,_,[],K=>K row
 | row,f,v::r,K=>setK row f v fun row'=>setsK row' (f+1) r K
theorem setsK_eq {α:Type} (vs:List α):∀ (row:List α) (f:Nat) (K:List α→Prop),setsK row f vs K=K (setsL row f vs):=by
 induction vs with
 | nil=>intro row f K; cases row <;> rfl
 | cons v r ih=>intro row f K; cases row <;> (unfold setsK; rw [setK_eq,ih]; rfl)
theorem setsL_length {α:Type} (vs:List α):∀ (row:List α) (f:Nat),(setsL row f vs).length=row.length:=by
 induction vs with
 | nil=>intro row f; cases row <;> rfl
 | cons v r ih=>intro row f; unfold setsL; rw [ih]; simp
theorem setsL_get {α:Type} (vs:List α):∀ (row:List α) (f i:Nat),f+vs.length≤row.length→(setsL row f vs)[i]? = if f≤i∧i<f+vs.length then vs[i-f]? else row[i]? := by
 induction vs with
 | nil=>intro row f i _; rw [if_neg (by rw [List.length_nil]; omega)]; cases row <;> rfl
 | cons v r ih =>
  intro row f i hl
  rw [List.length_cons] at hl
  unfold setsL
  rw [ih _ _ _ (by simp; omega),List.length_cons]
  by_cases e:i=f
  ·subst e
   rw [if_neg (by omega),if_pos (by omega),List.getElem?_set,if_pos rfl,if_pos (by omega)]
   simp
  ·by_cases h1:f≤i∧i<f+(r.length+1)
   ·rw [if_pos (by omega),if_pos h1,show i-f=(i-(f+1))+1 by omega,List.getElem?_cons_succ]
   ·rw [if_neg (by omega),if_neg h1,List.getElem?_set,if_neg fun h=>e h.symm]
theorem setsL_putL {α:Type} {row vs:List α} {f:Nat} (hl:f+vs.length≤row.length):setsL row f vs=putL row f vs:=by
 refine List.ext_getElem? fun i => ?_
 rw [setsL_get vs row f i hl]
 unfold putL
 by_cases h1:f≤i∧i<f+vs.length
 ·rw [if_pos h1,List.append_assoc,List.getElem?_append_right (by simp; omega),List.getElem?_append_left (by simp; omega)]
  congr 1
  simp
  omega
 ·rw [if_neg h1]
  by_cases h2:i<f
  ·rw [List.append_assoc,List.getElem?_append_left (by simp; omega),List.getElem?_take,if_pos h2]
  ·rw [List.getElem?_append_right (by simp; omega),List.getElem?_drop]
   congr 1
   simp
   omega
def nthP {α:Type}:Nat→List α→α→α
 | 0,x::_,_=>x
 | n+1,_::l,d=>nthP n l d
 | _,[],d=>d
theorem nthP_eq {α:Type} (d:α):∀ (l:List α) (n:Nat),nthP n l d=(l[n]?).getD d:=by
 intro l
 induction l with
 | nil=>intro n; cases n <;> rfl
 | cons x l ih=>intro n; cases n with
  | zero=>rfl
  | succ n=>simpa [nthP] using ih n
def litT (K:Nat→Prop):List Prop :=
 [K 0,K 1,K 2,K 3,K 4,K 5,K 6,K 7,K 8,K 9,K 10,K 11,K 12,K 13,K 14,K 15,
  K 16,K 17,K 18,K 19,K 20,K 21,K 22,K 23,K 24,K 25,K 26,K 27,K 28,K 29,K 30,K 31,
  K 32,K 33,K 34,K 35,K 36,K 37,K 38,K 39,K 40,K 41,K 42,K 43,K 44,K 45,K 46,K 47,
  K 48,K 49,K 50,K 51,K 52,K 53,K 54,K 55,K 56,K 57,K 58,K 59,K 60,K 61,K 62,K 63,
  K 64,K 65,K 66,K 67,K 68,K 69,K 70,K 71,K 72,K 73,K 74,K 75,K 76,K 77,K 78,K 79,
  K 80,K 81,K 82,K 83,K 84,K 85,K 86,K 87,K 88,K 89,K 90,K 91,K 92,K 93,K 94,K 95,
  K 96,K 97,K 98,K 99,K 100,K 101,K 102,K 103,K 104,K 105,K 106,K 107,K 108,K 109,K 110,K 111,
  K 112,K 113,K 114,K 115,K 116,K 117,K 118,K 119,K 120,K 121,K 122,K 123,K 124,K 125,K 126,K 127,
  K 128,K 129,K 130,K 131,K 132,K 133,K 134,K 135,K 136,K 137,K 138,K 139,K 140,K 141,K 142,K 143,
  K 144,K 145,K 146,K 147,K 148,K 149,K 150,K 151,K 152,K 153,K 154,K 155,K 156,K 157,K 158,K 159,
  K 160,K 161,K 162,K 163,K 164,K 165,K 166,K 167,K 168,K 169,K 170,K 171,K 172,K 173,K 174,K 175,
  K 176,K 177,K 178,K 179,K 180,K 181,K 182,K 183,K 184,K 185,K 186,K 187,K 188,K 189,K 190,K 191,
  K 192,K 193,K 194,K 195,K 196,K 197,K 198,K 199,K 200,K 201,K 202,K 203,K 204,K 205,K 206,K 207,
  K 208,K 209,K 210,K 211,K 212,K 213,K 214,K 215,K 216,K 217,K 218,K 219,K 220,K 221,K 222,K 223,
  K 224,K 225,K 226,K 227,K 228,K 229,K 230,K 231,K 232,K 233,K 234,K 235,K 236,K 237,K 238,K 239,
  K 240,K 241,K 242,K 243,K 244,K 245,K 246,K 247,K 248,K 249,K 250,K 251,K 252,K 253,K 254,K 255]
theorem litT_eq (K:Nat→Prop):litT K=(List.range 256).map K:=rfl
def litB (n:Nat) (K:Nat→Prop):Prop:=nthP n (litT K) (K n)
theorem litB_eq (n:Nat) (K:Nat→Prop):litB n K=K n:=by
 unfold litB
 rw [nthP_eq,litT_eq,List.getElem?_map]
 by_cases h:n<256
 ·rw [List.getElem?_range h]
  rfl
 ·rw [show (List.range 256)[n]? = none from List.getElem?_eq_none (by simpa using h)]
  rfl
def litK (n:Nat) (K:Nat→Prop):Prop :=
 match n with
 | 0=>K 0 | 1=>K 1 | 2=>K 2 | 3=>K 3 | 4=>K 4 | 5=>K 5 | 6=>K 6 | 7=>K 7 | 8=>K 8 | 9=>K 9 | 10=>K 10 | 11=>K 11 | 12=>K 12 | 13=>K 13 | 14=>K 14 | 15=>K 15 | 16=>K 16 | 17=>K 17 | 18=>K 18 | 19=>K 19 | 20=>K 20 | 21=>K 21 | 22=>K 22 | 23=>K 23 | 24=>K 24 | 25=>K 25
 | n=>litB n K
theorem litK_eq (n:Nat) (K:Nat→Prop):litK n K=K n:=by unfold litK; split <;> first | rfl | exact litB_eq _ _
def vsK:List Value→(List EV→Prop)→Prop
 | [],K=>K []
 | x::l,K=>vsK l fun r=>K (.v x::r)
theorem vsK_eq (l:List Value):∀ K,vsK l K=K (l.map .v):=by
 induction l with
 | nil=>intro K; rfl
 | cons x l ih=>intro K; unfold vsK; rw [ih]; rfl
def hf (H:List EB):EH:=fun L=>H.getD L .n
theorem hf_set {H:List EB} {L:Nat} (hL:L<H.length) (x:EB):hf (H.set L x)=updH (hf H) L x:=by
 funext L'
 unfold hf updH
 simp only [List.getD_eq_getElem?_getD,List.getElem?_set]
 by_cases e:L'=L
 ·subst e; simp [hL]
 ·rw [if_neg fun h=>e h.symm,if_neg e]
theorem hf_app (H:List EB) (x:EB):hf (H++[x])=updH (hf H) H.length x:=by
 funext L'
 unfold hf updH
 simp only [List.getD_eq_getElem?_getD]
 by_cases e:L'=H.length
 ·subst e; simp
 ·rw [if_neg e]
  by_cases h1:L'<H.length
  ·rw [List.getElem?_append_left h1]
  ·rw [List.getElem?_eq_none (by simp; omega),List.getElem?_eq_none (by omega)]
theorem hf_n (H:List EB):hf H H.length = .n:=by simp [hf]
theorem hf_get {H:List EB} {L:Nat} {x:EB} (h:H[L]? = some x):hf H L=x:=by simp [hf,h]
section
variable {P:Program} {G:Gl} {ops:Array Oper} {o:Oper} {T:List (Nat×EV)} {H H':List EB} {h h':EH} {F W:List Nat} {r:EV}
theorem ev_ok {B:Bm} {a:Act} (hT:∀ t,t∈o.looksAt ops→ER B (lk T t) (a.tmps.getD t undef)) {x:Operand} (hx:x∈o.op.operands):ER B (ev T x) (a.eval x):=by
 cases x with
 | tmp t=>exact hT t (List.mem_append.2 (.inl (List.mem_filterMap.2 ⟨.tmp t,by simpa using hx,rfl⟩)))
 | const v=>exact .v v
 | global g=>exact .v _
 | func f=>exact .f rfl (fun i x u hx=>by simp at hx) rfl (fun i x u hx=>by simp at hx)
theorem St.of (hrun:∀ (S0:List Nat) (w0:World) (B:Bm) (a:Act) (w:World) (g:EH),(∀ x,x∈o.op.operands→ER B (ev T x) (a.eval x))→Wd P G S0 w0 B g w→(∀ L,L∈F→g L=h L) →
  ∃ B' v w' nx,(execOp a.eval o).run P w = .ok nx w'∧(nx = .value v∨nx = .skip∧v=undef)∧B.le B'∧ER B' r v∧Wd P G S0 w0 B' (fun L=>if L∈W then h' L else g L) w'):St P G ops o (lk T) F W h h' r:=by
 intro S0 w0 B a w g hT hw hF K Q hK
 obtain ⟨B',v,w',nx,hr,hnx,hle,hv,hwd⟩:=hrun S0 w0 B a w g (fun x hx=>ev_ok hT hx) hw hF
 unfold Oper.wp
 rw [hr]
 rcases hnx with rfl | ⟨rfl,rfl⟩
 ·exact hK _ _ _ hle hv hwd
 ·exact hK _ _ _ hle hv hwd
abbrev KE:=EV→List EB→List Nat→List Nat→Prop
def Out (P:Program) (G:Gl) (ops:Array Oper) (o:Oper) (T:List (Nat×EV)) (H:List EB) (K:KE):Prop :=
 ∃ r H' F W,K r H' F W∧St P G ops o (lk T) F W (hf H) (hf H') r∧hf H'=fun L=>if L∈W then hf H' L else hf H L
variable {K:KE}
theorem Out.val (hK:K r H [] []) (hrun:∀ (B:Bm) (a:Act) (w:World),(∀ x,x∈o.op.operands→ER B (ev T x) (a.eval x))→∃ v,(execOp a.eval o).run P w = .ok (.value v) w∧ER B r v):Out P G ops o T H K :=
 ⟨r,H,[],[],hK,St.of fun S0 w0 B a w g hx hw _=>by
  obtain ⟨v,h1,h2⟩:=hrun B a w hx
  exact ⟨B,v,w,_,h1,.inl rfl,Bm.le.refl _,h2,hw.cast (by simp)⟩,by simp⟩
theorem Out.rd {L:Nat} (hK:K r H [L] []) (hrun:∀ (S0:List Nat) (w0:World) (B:Bm) (a:Act) (w:World) (g:EH),(∀ x,x∈o.op.operands→ER B (ev T x) (a.eval x))→Wd P G S0 w0 B g w→g L=hf H L→∃ v,(execOp a.eval o).run P w = .ok (.value v) w∧ER B r v):Out P G ops o T H K :=
 ⟨r,H,[L],[],hK,St.of fun S0 w0 B a w g hx hw hF=>by
  obtain ⟨v,h1,h2⟩:=hrun S0 w0 B a w g hx hw (hF L (by simp))
  exact ⟨B,v,w,_,h1,.inl rfl,Bm.le.refl _,h2,hw.cast (by simp)⟩,by simp⟩
theorem upd_if {g h:EH} {L:Nat} {x:EB}:(fun L'=>if L'∈[L] then updH h L x L' else g L')=updH g L x:=by
 funext L'
 unfold updH
 by_cases e:L'=L <;> simp [e]
theorem Out.wr {L:Nat} {x:EB} (hL:L<H.length) (hK:K r (H.set L x) [L] [L]) (hrun:∀ (S0:List Nat) (w0:World) (B:Bm) (a:Act) (w:World) (g:EH),(∀ x,x∈o.op.operands→ER B (ev T x) (a.eval x))→Wd P G S0 w0 B g w→g L=hf H L →
  ∃ v w' nx,(execOp a.eval o).run P w = .ok nx w'∧(nx = .value v∨nx = .skip∧v=undef)∧ER B r v∧Wd P G S0 w0 B (updH g L x) w'):Out P G ops o T H K :=
 ⟨r,H.set L x,[L],[L],hK,St.of fun S0 w0 B a w g hx hw hF=>by
  obtain ⟨v,w',nx,h1,h2,h3,h4⟩:=hrun S0 w0 B a w g hx hw (hF L (by simp))
  exact ⟨B,v,w',nx,h1,h2,Bm.le.refl _,h3,h4.cast (by rw [hf_set hL,upd_if])⟩,by rw [hf_set hL,upd_if]⟩
theorem Out.new {x:EB} (hK:K r (H++[x]) [H.length] [H.length]) (hrun:∀ (S0:List Nat) (w0:World) (B:Bm) (a:Act) (w:World) (g:EH),(∀ x,x∈o.op.operands→ER B (ev T x) (a.eval x))→Wd P G S0 w0 B g w→g H.length = .n →
  ∃ B' v w',(execOp a.eval o).run P w = .ok (.value v) w'∧B.le B'∧ER B' r v∧Wd P G S0 w0 B' (updH g H.length x) w'):Out P G ops o T H K :=
 ⟨r,H++[x],[H.length],[H.length],hK,St.of fun S0 w0 B a w g hx hw hF=>by
  obtain ⟨B',v,w',h1,h2,h3,h4⟩:=hrun S0 w0 B a w g hx hw ((hF _ (by simp)).trans (hf_n H))
  exact ⟨B',v,w',_,h1,.inl rfl,h2,h3,h4.cast (by rw [hf_app,upd_if])⟩,by rw [hf_app,upd_if]⟩
def asB (x:EV) (f:Bool→Prop):Prop:=match x with | .v (.bool b)=>f b | _=>False
theorem asB_inv {x:EV} {f:Bool→Prop} (h:asB x f):∃ b,x = .v (.bool b)∧f b:=by
 unfold asB at h
 split at h
 ·exact ⟨_,rfl,h⟩
 ·exact h.elim
def nnE:EV→Option Unit
 | .p .. | .s .. | .m .. | .f ..=>some ()
 | .v (.pointer (some _))=>some ()
 | _=>none
theorem nnE_ok {B:Bm} {x:EV} {u:Value} {ρ:Operand→Value} {y:Operand} {w:World} (h:nnE x=some ()) (hx:ER B x u) (ho:o.op = .nilCheck y) (hy:ρ y=u):(execOp ρ o).run P w = .ok (.value u) w:=by
 unfold execOp
 rw [ho]
 simp only [hy]
 cases hx with
 | v _ =>
  cases u with
  | pointer a =>
   cases a with
   | none=>cases h
   | some a=>rfl
  | _=>cases h
 | p _=>rfl
 | s _ _ _ _ _=>rfl
 | e _=>rfl
 | m _=>rfl
 | f _ _ _ _=>rfl
 | a _ _=>cases h
 | t _ _=>cases h
 | j _=>cases h
 | q _=>cases h
 | i _=>cases h
 | y _=>rfl
def extE:EV→Nat→Option EV
 | .t vs,i=>vs[i]?
 | _,_=>none
theorem extE_ok {B:Bm} {x r:EV} {u:Value} {i:Nat} {w:World} (h:extE x i=some r) (hx:ER B x u):∃ v,(Instr.extract u i).run P w = .ok v w∧ER B r v:=by
 cases hx with
 | t hl he =>
  rename_i cs ds
  have hi:i<cs.length:=(List.getElem?_eq_some_iff.1 h).1
  have hd:ds[i]? = some ds[i]:=Array.getElem?_eq_getElem (by omega)
  refine ⟨ds[i],?_,he i r _ h hd⟩
  unfold Instr.extract
  simp [hd]
 | _=>cases h
def unE:UnOp→EV→Option EV
 | .not,.v (.bool b)=>some (.v (.bool (!b)))
 | .neg,.v (.int k n)=>some (.v (.int k (k.wrap (0-n))))
 | .xor,.v (.int k n)=>some (.v (.int k (k.wrap (BitVec.ofInt k.bits (if k.signed then -1 else k.max)^^^BitVec.ofInt k.bits n).toNat)))
 | _,_=>none
theorem unE_ok {B:Bm} {x r:EV} {u:Value} {op:UnOp} {w:World} (h:unE op x=some r) (hx:ER B x u):∃ v,(Op.unary op u).run P w = .ok v w∧ER B r v:=by
 unfold unE at h
 split at h <;> first | (cases h; cases hx; exact ⟨_,rfl,.v _⟩) | cases h
def intE (op:BinOp) (k k':IntKind) (a b:Int):Option Value :=
 match op with
 | .shl=>if b<0 then none else some (.int k (k.wrap (a*2 ^ min b.toNat k.bits)))
 | .shr=>if b<0 then none else some (.int k (a.fdiv (2 ^ min b.toNat k.bits)))
 | op =>
  if k≠k' then none else
  match op with
  | .add=>some (.int k (k.wrap (a+b)))
  | .sub=>some (.int k (k.wrap (a-b)))
  | .mul=>some (.int k (k.wrap (a*b)))
  | .quo=>if b=0 then none else some (.int k (k.wrap (a.tdiv b)))
  | .rem=>if b=0 then none else some (.int k (a.tmod b))
  | .and=>some (.int k (k.wrap (BitVec.ofInt k.bits a&&&BitVec.ofInt k.bits b).toNat))
  | .or=>some (.int k (k.wrap (BitVec.ofInt k.bits a|||BitVec.ofInt k.bits b).toNat))
  | .xor=>some (.int k (k.wrap (BitVec.ofInt k.bits a^^^BitVec.ofInt k.bits b).toNat))
  | .andNot=>some (.int k (k.wrap (BitVec.ofInt k.bits a &&& ~~~BitVec.ofInt k.bits b).toNat))
  | .eql=>some (.bool (a==b))
  | .neq=>some (.bool (a != b))
  | .lss=>some (.bool (decide (a<b)))
  | .leq=>some (.bool (decide (a≤b)))
  | .gtr=>some (.bool (decide (a>b)))
  | .geq=>some (.bool (decide (a≥b)))
  | _=>none
theorem intE_ok {op:BinOp} {k k':IntKind} {a b:Int} {v:Value} {t:TypeId} {w:World} (h:intE op k k' a b=some v):(binOp op t (.int k a) (.int k' b)).run P w = .ok v w:=by
 unfold intE at h
 split at h
 ·split at h
  ·cases h
  ·cases h; simp [binOp,Op.shift, *]
 ·split at h
  ·cases h
  ·cases h; simp [binOp,Op.shift, *]
 ·split at h
  ·cases h
  ·rename_i hk
   simp only [ne_eq,Decidable.not_not] at hk
   subst hk
   split at h <;> first
    | (cases h; simp [binOp,Op.intArith,Op.intBits,Op.intCmp]; done)
    | (split at h
       ·cases h
       ·cases h; simp [binOp,Op.intDiv, *])
    | cases h
def strE (op:BinOp) (x y:ByteArray):Option Value :=
 match op with
 | .add=>if ((x.size+y.size:Nat):Int)>IntKind.i64.max then none else some (.string (x++y))
 | .eql=>some (.bool (x.toList==y.toList))
 | .neq=>some (.bool (!(x.toList==y.toList)))
 | .lss=>some (.bool (Op.bytesLess x.toList y.toList))
 | .leq=>some (.bool (Op.bytesLess x.toList y.toList||x.toList==y.toList))
 | .gtr=>some (.bool (!(Op.bytesLess x.toList y.toList||x.toList==y.toList)))
 | .geq=>some (.bool (!Op.bytesLess x.toList y.toList))
 | _=>none
theorem strE_ok {op:BinOp} {x y:ByteArray} {v:Value} {t:TypeId} {w:World} (h:strE op x y=some v):(binOp op t (.string x) (.string y)).run P w = .ok v w:=by
 unfold strE at h
 split at h
 ·split at h
  ·cases h
  ·rename_i hc
   cases h
   simp only [binOp,Op.stringOp,if_neg hc]
   rfl
 all_goals first | (cases h; simp [binOp,Op.stringOp]; done) | cases h
def isBoolT (P:Program) (t:TypeId):Bool:=match P.underlying t with | some .bool=>true | _=>false
def isPtrT (P:Program) (t:TypeId):Bool:=match P.underlying t with | some (.pointer _)=>true | _=>false
def binE (P:Program) (op:BinOp) (t:TypeId) (x y:EV):Option EV :=
 match x,y with
 | .v (.int k a),.v (.int k' b)=>(intE op k k' a b).map .v
 | .v (.string a),.v (.string b)=>(strE op a b).map .v
 | .v (.bool a),.v (.bool b)=>if isBoolT P t then match op with | .eql=>some (.v (.bool (a==b))) | .neq=>some (.v (.bool (!(a==b)))) | _=>none else none
 | .p ..,.v (.pointer none)=>if isPtrT P t then match op with | .eql=>some (.v (.bool false)) | .neq=>some (.v (.bool true)) | _=>none else none
 | .v (.pointer none),.v (.pointer none)=>if isPtrT P t then match op with | .eql=>some (.v (.bool true)) | .neq=>some (.v (.bool false)) | _=>none else none
 | _,_=>none
theorem eqGuard_int {op:BinOp} {t:TypeId} {x y:Operand} {k:IntKind} {a:Int} {b:Value}:eqGuard op t x y (.int k a) b=pure ():=by cases op <;> rfl
theorem eqGuard_str {op:BinOp} {t:TypeId} {x y:Operand} {a:ByteArray} {b:Value}:eqGuard op t x y (.string a) b=pure ():=by cases op <;> rfl
theorem eqGuard_bool {op:BinOp} {t:TypeId} {x y:Operand} {a:Bool} {b:Value}:eqGuard op t x y (.bool a) b=pure ():=by cases op <;> rfl
theorem eqGuard_ptr {op:BinOp} {t:TypeId} {x y:Operand} {a:Option Addr} {b:Value}:eqGuard op t x y (.pointer a) b=pure ():=by cases op <;> rfl
theorem run_bin {t:TypeId} {x y:Operand} {ty:TypeId} {op:BinOp} {ρ:Operand→Value} {w:World} {v:Value} (ho:o.op = .binOp op t x y ty) (hg:(eqGuard op t x y (ρ x) (ρ y)).run P w = .ok () w)
  (h:(binOp op t (ρ x) (ρ y)).run P w = .ok v w):(execOp ρ o).run P w = .ok (.value v) w:=by
 unfold execOp
 rw [ho]
 simp only [Sem.run_bind,hg,Result.andThen_ok,h,Sem.run_pure]
theorem run_ptr_nil {P:Program} (w:World) {t e:TypeId} (a b:Option Addr) (hab:a=none∨b=none) (ht:P.underlying t=some (.pointer e)) (op:BinOp) (r:Value) (hr:(match op with | .eql=>some (.bool (a.isNone&&b.isNone)) | .neq=>some (.bool (!(a.isNone&&b.isNone))) | _=>none)=some r) :
  (binOp op t (.pointer a) (.pointer b)).run P w = .ok r w:=by
 have h:∀ d:Nat,(Op.equalIn (d+1) t (.pointer a) (.pointer b)).run P w = .ok (a.isNone&&b.isNone) w:=fun d=>by
  cases a with
  | none=>simp [Op.equalIn,run_underlying ht]
  | some a =>
   cases b with
   | none=>simp [Op.equalIn,run_underlying ht]
   | some b=>rcases hab with h | h <;> cases h
 cases op <;> simp only [reduceCtorEq,Option.some.injEq] at hr
 all_goals
  subst hr
  simp only [binOp]
  simp [Op.equal,Op.maxDepth,h 9999]
theorem binE_ok {B:Bm} {op:BinOp} {t ty:TypeId} {x y:Operand} {ex ey r:EV} {ρ:Operand→Value} {w:World} (ho:o.op = .binOp op t x y ty) (h:binE P op t ex ey=some r) (hx:ER B ex (ρ x)) (hy:ER B ey (ρ y)) :
  ∃ v,(execOp ρ o).run P w = .ok (.value v) w∧ER B r v:=by
 unfold binE at h
 split at h
 ·obtain ⟨v,h1,rfl⟩:=Option.map_eq_some_iff.1 h
  exact ⟨v,run_bin ho (by rw [hx.v_inv,eqGuard_int]; rfl) (by rw [hx.v_inv,hy.v_inv]; exact intE_ok h1),.v v⟩
 ·obtain ⟨v,h1,rfl⟩:=Option.map_eq_some_iff.1 h
  exact ⟨v,run_bin ho (by rw [hx.v_inv,eqGuard_str]; rfl) (by rw [hx.v_inv,hy.v_inv]; exact strE_ok h1),.v v⟩
 ·split at h
  ·rename_i hb
   have hu:P.underlying t=some .bool:=by
    unfold isBoolT at hb
    split at hb
    ·assumption
    ·cases hb
   split at h
   ·cases h; exact ⟨_,run_bin ho (by rw [hx.v_inv,eqGuard_bool]; rfl) (by rw [hx.v_inv,hy.v_inv]; exact run_eql_bool w t _ _ hu),.v _⟩
   ·cases h; exact ⟨_,run_bin ho (by rw [hx.v_inv,eqGuard_bool]; rfl) (by rw [hx.v_inv,hy.v_inv]; exact run_neq_bool w t _ _ hu),.v _⟩
   ·cases h
  ·cases h
 ·split at h
  ·rename_i hb
   obtain ⟨e,hu⟩:∃ e,P.underlying t=some (.pointer e):=by
    unfold isPtrT at hb
    split at hb
    ·exact ⟨_,by assumption⟩
    ·cases hb
   have hy':=hy.v_inv
   generalize hux:ρ x=u at hx
   cases hx with
   | p hq =>
    split at h
    ·cases h; exact ⟨_,run_bin ho (by rw [hux,eqGuard_ptr]; rfl) (by rw [hux,hy']; exact run_ptr_nil w _ _ (.inr rfl) hu _ _ rfl),.v _⟩
    ·cases h; exact ⟨_,run_bin ho (by rw [hux,eqGuard_ptr]; rfl) (by rw [hux,hy']; exact run_ptr_nil w _ _ (.inr rfl) hu _ _ rfl),.v _⟩
    ·cases h
  ·cases h
 ·split at h
  ·rename_i hb
   obtain ⟨e,hu⟩:∃ e,P.underlying t=some (.pointer e):=by
    unfold isPtrT at hb
    split at hb
    ·exact ⟨_,by assumption⟩
    ·cases hb
   split at h
   ·cases h; exact ⟨_,run_bin ho (by rw [hx.v_inv,eqGuard_ptr]; rfl) (by rw [hx.v_inv,hy.v_inv]; exact run_ptr_nil w _ _ (.inl rfl) hu _ _ rfl),.v _⟩
   ·cases h; exact ⟨_,run_bin ho (by rw [hx.v_inv,eqGuard_ptr]; rfl) (by rw [hx.v_inv,hy.v_inv]; exact run_ptr_nil w _ _ (.inl rfl) hu _ _ rfl),.v _⟩
   ·cases h
  ·cases h
 ·cases h
end
section
variable {P:Program} {G:Gl} {ops:Array Oper} {o:Oper} {T:List (Nat×EV)} {H H':List EB} {K:KE} {B:Bm} {w:World} {ρ:Operand→Value}
def EV.cells:EV→List EV
 | .a cs=>cs
 | x=>[x]
def EV.one:EV→Bool
 | .v x=>x.oneCell'
 | .p .. | .s .. | .m .. | .f ..=>true
 | _=>false
def EV.isV:EV→Bool
 | .v _=>true
 | _=>false
theorem setsL_mem {α:Type} {x:α}:∀ (vs row:List α) (f:Nat),x∈setsL row f vs→x∈row∨x∈vs:=by
 intro vs
 induction vs with
 | nil=>intro row f h; left; cases row <;> exact h
 | cons v vs ih =>
  intro row f h
  unfold setsL at h
  rcases ih _ _ h with h | h
  ·rcases List.mem_or_eq_of_mem_set h with h | h
   ·exact .inl h
   ·exact .inr (by simp [h])
  ·exact .inr (by simp [h])
theorem plainR.set {rows:List (List EV)} {i:Nat} {row:List EV} (h:plainR rows) (hr:∀ x,x∈row→∃ u,x=EV.v u):plainR (rows.set i row):=fun r hm=>by
 rcases List.mem_or_eq_of_mem_set hm with hm | rfl
 ·exact h r hm
 ·exact hr
theorem isV_of {x:EV} (h:x.isV=true):∃ u,x=EV.v u:=by
 cases x <;> first | exact ⟨_,rfl⟩ | cases h
def EV.flat:EV→Bool
 | .a _=>true
 | x=>x.one
theorem ER.one_cells {x:EV} {u:Value} (h:ER B x u) (h1:x.one=true):u.cells = #[u]∧u.oneCell'=true:=by
 cases h <;> first | exact ⟨rfl,rfl⟩ | (cases u <;> first | exact ⟨rfl,rfl⟩ | cases h1) | cases h1
theorem ER.cells {x:EV} {u:Value} (h:ER B x u) (h1:x.flat=true):ERs B x.cells u.cells:=by
 have key:x.one=true→x.cells=[x]→ERs B x.cells u.cells:=fun ho hc=>by
  rw [hc,(h.one_cells ho).1]
  refine ⟨rfl,fun i y v hy hv => ?_⟩
  match i,hy,hv with
  | 0,hy,hv=>cases hy; cases hv; exact h
  | i+1,hy,_=>simp at hy
 cases x with
 | a cs=>cases h with | a hl he=>exact ⟨hl,he⟩
 | _=>exact key h1 rfl
theorem ERs.ones {cs:List EV} {ds:Array Value} (h:ERs B cs ds) (h1:cs.all EV.one=true):∀ v∈ds.toList,v.oneCell'=true:=fun v hv=>by
 obtain ⟨i,hi⟩:=List.mem_iff_getElem?.1 hv
 have hil:i<ds.size:=by simpa using (List.getElem?_eq_some_iff.1 hi).1
 have hil':i<cs.length:=by have:=h.1; omega
 have hc:cs[i]? = some cs[i]:=List.getElem?_eq_getElem hil'
 exact ((h.2 i _ v hc (by simpa using hi)).one_cells ((List.all_eq_true.1 h1) _ (List.getElem_mem _))).2
theorem ER.p_inv {L i f:Nat} {u:Value} (h:ER B (.p L i f) u):∃ q,B L=some q∧u = .pointer (some ⟨q.b,i*q.k+f,none⟩):=by
 cases h with | p hq=>exact ⟨_,hq,rfl⟩
theorem run_isAgg {t:TypeId} {d:TypeDesc} (hu:P.underlying t=some d):(isAgg t).run P w = .ok d.isRow w:=by
 unfold isAgg
 rw [Sem.run_bind,run_underlying hu,Result.andThen_ok]
 cases d <;> rfl
theorem run_loadVar_one {t:TypeId} {d:TypeDesc} {a:Addr} {u:Value} (hu:P.underlying t=some d) (hd:d.isRow=false) (hc:w.cell? a=some u):(loadVar t a).run P w = .ok u w:=by
 unfold loadVar
 rw [Sem.run_bind,run_isAgg hu,hd,Result.andThen_ok]
 simp [load,Sem.run,hc]
theorem cellsOf_info {t:TypeId} {n:Nat} (h:P.cellsOf t=n) (hn:n≠0):(P.info? t).map (·.size)=some n:=by
 unfold Program.cellsOf at h
 cases hi:P.info? t with
 | none=>rw [hi] at h; exact absurd h.symm hn
 | some i=>rw [hi] at h; exact congrArg some h
def cellK (P:Program) (t:TypeId) (row:List EV) (f:Nat) (K:EV→Prop):Prop :=
 ob (P.underlying t) fun d=>br d.isRow (br (Nat.blt 0 (P.cellsOf t)&&Nat.ble (f+P.cellsOf t) row.length) (dropK f row fun r=>takeK (P.cellsOf t) r fun cs=>K (.a cs)) False) (ob row[f]? K)
theorem cellK_ok {t:TypeId} {row:List EV} {f:Nat} {K:EV→Prop} (h:cellK P t row f K):∃ x,K x∧∀ (q:BI) (t':TypeId) (rows:List (List EV)) (i:Nat) (w:World) (B:Bm),RowsAt P B w q t' rows→rows[i]? = some row →
  ∃ u,(loadVar t ⟨q.b,i*q.k+f,none⟩).run P w = .ok u w∧ER B x u:=by
 obtain ⟨d,hu,h⟩:=ob_inv h
 rcases br_inv h with ⟨hd,h⟩ | ⟨hd,h⟩
 ·rcases br_inv h with ⟨hl,h⟩ | ⟨_,h⟩
  ·rw [dropK_eq,takeK_eq] at h
   obtain ⟨hl0,hl1⟩:=Bool.and_eq_true_iff.1 hl
   have hl0:0<P.cellsOf t:=Nat.le_of_ble_eq_true hl0
   have hl1:f+P.cellsOf t≤row.length:=Nat.le_of_ble_eq_true hl1
   refine ⟨_,h,fun q t' rows i w B hr hi => ?_⟩
   obtain ⟨us,h1,h2,h3⟩:=hr.part hi f (P.cellsOf t) hl1
   refine ⟨_,run_loadVar_mid w q.b _ t us d h2 hu hd (by rw [h1]; exact cellsOf_info rfl (by omega)),.a (by simp [h1]; omega) fun j x u hx hu'=>h3 j x u hx (by simpa using hu')⟩
  ·exact h.elim
 ·obtain ⟨x,hx,h⟩:=ob_inv h
  refine ⟨x,h,fun q t' rows i w B hr hi => ?_⟩
  obtain ⟨_,c,hb,_,_,hrow⟩:=hr
  obtain ⟨u,hu1,hu2,_⟩:=(hrow i row hi).2 f x hx
  exact ⟨u,run_loadVar_one hu hd ((hb.cell _).trans hu1),hu2⟩
def rowK (H:List EB) (L i:Nat) (K:List EV→Prop):Prop :=
 ob H[L]? fun b =>
  match b with
  | .r _ row=>(match i with | 0=>K row | _=>False)
  | .rs _ rows=>ob rows[i]? K
  | .rv _ rows=>ob rows[i]? K
  | _=>False
theorem rowK_ok {L i:Nat} {K:List EV→Prop} (h:rowK H L i K):∃ b t rows row,H[L]? = some b∧b.vec=some (t,rows)∧rows[i]? = some row∧K row:=by
 obtain ⟨b,hb,h⟩:=ob_inv h
 cases b with
 | r t row=>cases i <;> first | exact ⟨_,t,[row],row,hb,rfl,rfl,h⟩ | exact h.elim
 | rs t rows=>obtain ⟨row,hr,h⟩:=ob_inv h; exact ⟨_,t,rows,row,hb,rfl,hr,h⟩
 | rv t rows=>obtain ⟨row,hr,h⟩:=ob_inv h; exact ⟨_,t,rows,row,hb,rfl,hr,h⟩
 | _=>exact h.elim
def rowC (c:Array Value) (f k:Nat):Option (List EV):=if 0<k∧f+k≤c.size then some (((c.toList.drop f).take k).map .v) else none
def ldE (P:Program) (G:Gl) (H:List EB) (t:TypeId) (x:EV) (K:KE):Prop :=
 match x with
 | .p L i f=>rowK H L i fun row=>cellK P t row f fun y=>K y H [L] []
 | .v (.pointer (some ⟨g,f,none⟩))=>ob (G.at_ g) fun c=>ob (P.underlying t) fun d=>br d.isRow (br (Nat.beq f 0&&Nat.beq (P.cellsOf t) c.2.size&&Nat.blt 0 c.2.size) (vsK c.2.toList fun cs=>K (.a cs) H [] []) (ob (rowC c.2 f (P.cellsOf t)) fun cs=>K (.a cs) H [] [])) (ob c.2[f]? fun u=>K (.v u) H [] [])
 | _=>False
theorem Out.load {t:TypeId} {x:Operand} (ho:o.op = .load t x) (h:ldE P G H t (ev T x) K):Out P G ops o T H K:=by
 have hx:x∈o.op.operands:=by rw [ho]; simp [Op.operands]
 have hrun:∀ (a:Act) (w:World) (g off:Nat) (u:Value),a.eval x = .pointer (some ⟨g,off,none⟩)→(loadVar t ⟨g,off,none⟩).run P w = .ok u w→(execOp a.eval o).run P w = .ok (.value u) w:=fun a w g off u he hl=>by
  unfold execOp
  simp only [ho,he,Instr.loadAt,Instr.sureAddr,Sem.run_bind,Sem.run_pure,Result.andThen_ok,hl]
 unfold ldE at h
 split at h
 ·rename_i L i f hev
  obtain ⟨b,t',rows,row,hb,hv,hi,h⟩:=rowK_ok h
  obtain ⟨y,hK,hy⟩:=cellK_ok h
  refine Out.rd hK fun S0 w0 B a w g hxs hw hg => ?_
  have hxx:=hxs x hx
  rw [hev] at hxx
  obtain ⟨q,hq,hu⟩:=hxx.p_inv
  obtain ⟨q',hq',hr⟩:=(hw.row L t' rows (by rw [hg,hf_get hb]; exact hv)).here hi
  rw [hq] at hq'; cases hq'
  obtain ⟨u,h1,h2⟩:=hy q t' rows i w B hr hi
  exact ⟨u,hrun a w _ _ u hu h1,h2⟩
 ·rename_i g f hev
  obtain ⟨c,hc,h⟩:=ob_inv h
  obtain ⟨d,hu,h⟩:=ob_inv h
  have base:∀ (r:EV),K r H [] []→(∀ (w:World) (B:Bm),Bk w g c.1 c.2→∃ u,(loadVar t ⟨g,f,none⟩).run P w = .ok u w∧ER B r u)→Out P G ops o T H K:=fun r hK hl =>
   ⟨r,H,[],[],hK,St.of fun S0 w0 B a w g' hxs hw _=>by
    have hxx:=hxs x hx
    rw [hev] at hxx
    obtain ⟨hb,hn⟩:=hw.gl g c.1 c.2 hc
    obtain ⟨u,h1,h2⟩:=hl w B (hb.touch hw.t hn)
    exact ⟨B,u,w,_,hrun a w _ _ u hxx.v_inv h1,.inl rfl,Bm.le.refl _,h2,hw.cast (by simp)⟩,by simp⟩
  rcases br_inv h with ⟨hd,h⟩ | ⟨hd,h⟩
  ·rcases br_inv h with ⟨hl,h3⟩ | ⟨_,h3⟩
   ·rw [vsK_eq] at h3
    simp only [Bool.and_eq_true] at hl
    obtain ⟨⟨hf0,hsz⟩,hpos⟩:=hl
    have hf0:f=0:=Nat.eq_of_beq_eq_true hf0
    have hsz:P.cellsOf t=c.2.size:=Nat.eq_of_beq_eq_true hsz
    have hpos:0<c.2.size:=Nat.le_of_ble_eq_true hpos
    subst hf0
    refine base _ h3 fun w B ⟨fr,hb⟩=>⟨.agg c.2,run_loadVar_row w g c.1 t c.2 fr d hb hu (by cases d <;> first | rfl | cases hd) (cellsOf_info hsz (by omega)),.a (by simp) fun i y u hy hu' => ?_⟩
    rw [List.getElem?_map] at hy
    have:c.2.toList[i]? = some u:=by simpa using hu'
    rw [this] at hy
    cases hy
    exact .v u
   ·obtain ⟨cs,hc',h3⟩:=ob_inv h3
    unfold rowC at hc'
    split at hc'
    ·rename_i hk
     cases hc'
     obtain ⟨us,hus⟩:∃ us,(c.2.toList.drop f).take (P.cellsOf t)=us:=⟨_,rfl⟩
     rw [hus] at h3
     have hl:us.length=P.cellsOf t:=by rw [← hus,List.length_take,List.length_drop,Array.length_toList]; omega
     refine base _ h3 fun w B hb=>⟨.agg us.toArray,run_loadVar_mid w g _ t us d (fun j u hj => ?_) hu (by cases d <;> first | rfl | cases hd) (by rw [hl]; exact cellsOf_info rfl (by omega)),.a (by simp) fun i y u hy hu' => ?_⟩
     ·rw [← hus,List.getElem?_take] at hj
      split at hj
      ·rw [List.getElem?_drop,Array.getElem?_toList] at hj
       exact (hb.cell _).trans hj
      ·cases hj
     ·rw [List.getElem?_map] at hy
      rw [List.getElem?_toArray] at hu'
      rw [hu'] at hy
      cases hy
      exact .v u
    ·cases hc'
  ·obtain ⟨u,hu',h⟩:=ob_inv h
   exact base _ h fun w B hb=>⟨u,run_loadVar_one hu hd ((hb.cell _).trans hu'),.v u⟩
 ·exact h.elim
def stE (P:Program) (H:List EB) (t:TypeId) (x y:EV) (K:KE):Prop :=
 match x with
 | .p L i f =>
  br (y.flat&&y.cells.all EV.one&&Nat.blt 0 y.cells.length&&Nat.beq y.cells.length (P.cellsOf t)) (ob H[L]? fun b =>
   match b with
   | .r t' row=>(match i with | 0=>br (Nat.ble (f+y.cells.length) row.length) (setsK row f y.cells fun row'=>setK H L (.r t' row') fun H'=>K (.t []) H' [L] [L]) False | _=>False)
   | .rs t' rows=>ob rows[i]? fun row=>br (Nat.ble (f+y.cells.length) row.length&&y.cells.all EV.isV) (setsK row f y.cells fun row'=>setK H L (.rs t' (rows.set i row')) fun H'=>K (.t []) H' [L] [L]) False
   | .rv t' rows=>ob rows[i]? fun row=>br (Nat.ble (f+y.cells.length) row.length) (setsK row f y.cells fun row'=>setK rows i row' fun rows'=>setK H L (.rv t' rows') fun H'=>K (.t []) H' [L] [L]) False
   | _=>False) False
 | _=>False
theorem undef_t (B:Bm):ER B (.t []) undef:=ER.t (by rfl) fun i x u hx=>by simp at hx
theorem Out.store {t:TypeId} {x y:Operand} (ho:o.op = .store t x y) (h:stE P H t (ev T x) (ev T y) K):Out P G ops o T H K:=by
 have hx:x∈o.op.operands:=by rw [ho]; simp [Op.operands]
 have hy:y∈o.op.operands:=by rw [ho]; simp [Op.operands]
 unfold stE at h
 split at h
 ·rename_i L i f hev
  rcases br_inv h with ⟨hc,h⟩ | ⟨_,h⟩
  ·simp only [Bool.and_eq_true] at hc
   obtain ⟨⟨⟨hfl,hone⟩,hpos⟩,hsz⟩:=hc
   have hpos:0<(ev T y).cells.length:=Nat.le_of_ble_eq_true hpos
   have hsz:(ev T y).cells.length=P.cellsOf t:=Nat.eq_of_beq_eq_true hsz
   obtain ⟨b,hb,h⟩:=ob_inv h
   have hLl:L<H.length:=(List.getElem?_eq_some_iff.1 hb).1
   have base:∀ (x':EB) (t':TypeId) (rows:List (List EV)) (row:List EV),b.vec=some (t',rows)→rows[i]? = some row→f+(ev T y).cells.length≤row.length→x' ≠ .n→(∀ xo,x' ≠ .o xo)→x'.vec=some (t',rows.set i (setsL row f (ev T y).cells))→(∀ (h:EH) (hp:∀ t rows,b = .rs t rows→plainR rows) t rows,x' = .rs t rows→plainR rows)→K (.t []) (H.set L x') [L] [L]→Out P G ops o T H K:=fun x' t' rows row hv hi hle hn hm hv' hpl hK=>by
    refine Out.wr hLl hK fun S0 w0 B a w g hxs hw hg => ?_
    have hxx:=hxs x hx
    rw [hev] at hxx
    obtain ⟨q,hq,hu⟩:=hxx.p_inv
    have hgv:(g L).vec=some (t',rows):=by rw [hg,hf_get hb]; exact hv
    obtain ⟨q',hq',hr⟩:=(hw.row L t' rows hgv).here hi
    rw [hq] at hq'; cases hq'
    have hcs:=(hxs y hy).cells hfl
    have hones:=hcs.ones hone
    have hth:w.there q.b (i*q.k+f) (a.eval y).cells.size:=by
     rw [← hcs.1]
     exact hr.there hi f _ hle
    have hst:(storeVar t ⟨q.b,i*q.k+f,none⟩ (a.eval y)).run P w = .ok () (w.setCells q.b (i*q.k+f) (a.eval y).cells.toList):=by
     have:=run_storeCells_cells (P:=P) q.b (i*q.k+f) (a.eval y).cells.toList 0 w (fun j hj=>by simpa using (hth j (by simpa using hj)).1) (fun j hj=>by simpa using (hth j (by simpa using hj)).2) hones
     simp only [Nat.add_zero] at this
     have hi':=cellsOf_info hsz.symm (by omega)
     cases hq2:P.info? t with
     | none=>simp [hq2] at hi'
     | some i2 =>
      have hs:(a.eval y).cells.size=i2.size:=by
       simp [hq2] at hi'
       rw [hi',hcs.1]
      simp [storeVar,sizeOf,typeInfo,hq2,hs,this]
    refine ⟨undef,w.setCells q.b (i*q.k+f) (a.eval y).cells.toList,.skip,?_,.inr ⟨rfl,rfl⟩,undef_t B,hw.upd (EB.live_vec hgv) hq (Touch.setCells (S:=[q.b]) (b:=q.b) (.inl (by simp)) _ _ _ (Touch.refl _ _)) x' hn (fun t2 rows2 hv2 => ?_) (fun xo he=>absurd he (hm xo)) (fun t rows hx'=>hpl g (fun t rows hb'=>hw.pl L t rows (by rw [hg,hf_get hb]; exact hb')) t rows hx')⟩
    ·unfold execOp
     simp only [ho,hu,Instr.storeAt,Instr.sureAddr,Sem.run_bind,Sem.run_pure,Result.andThen_ok,hst]
    ·rw [hv'] at hv2; cases hv2
     rw [setsL_putL hle]
     exact hr.put hi f _ _ (by simpa using hcs.1) hle (fun j x u h1 h2=>hcs.2 j x u h1 (by simpa using h2)) hones
   cases b with
   | r t' row =>
    cases i with
    | zero =>
     rcases br_inv h with ⟨hle,h⟩ | ⟨_,h⟩
     ·rw [setsK_eq,setK_eq] at h
      exact base _ t' [row] row rfl rfl (Nat.le_of_ble_eq_true hle) (by simp) (by simp) rfl (fun _ _ _ _ he=>by cases he) h
     ·exact h.elim
    | succ i=>exact h.elim
   | rs t' rows =>
    obtain ⟨row,hr,h⟩:=ob_inv h
    rcases br_inv h with ⟨hle,h⟩ | ⟨_,h⟩
    ·rw [setsK_eq,setK_eq] at h
     obtain ⟨hle,hv⟩:=Bool.and_eq_true_iff.1 hle
     refine base _ t' rows row rfl hr (Nat.le_of_ble_eq_true hle) (by simp) (by simp) rfl (fun _ hp t2 rows2 he => ?_) h
     cases he
     have:=hp t' rows rfl
     refine this.set fun x hx => ?_
     rcases setsL_mem _ _ _ hx with hx | hx
     ·exact this row (List.mem_of_getElem? hr) x hx
     ·exact isV_of ((List.all_eq_true.1 hv) x hx)
    ·exact h.elim
   | rv t' rows =>
    obtain ⟨row,hr,h⟩:=ob_inv h
    rcases br_inv h with ⟨hle,h⟩ | ⟨_,h⟩
    ·rw [setsK_eq,setK_eq,setK_eq] at h
     exact base _ t' rows row rfl hr (Nat.le_of_ble_eq_true hle) (by simp) (by simp) rfl (fun _ _ _ _ he=>by cases he) h
    ·exact h.elim
   | _=>exact h.elim
  ·exact h.elim
 ·exact h.elim
def newK (H:List EB) (x:EB) (K:Nat→List EB→Prop):Prop:=litK H.length fun L=>appK H [x] (K L)
theorem newK_eq (x:EB) (K:Nat→List EB→Prop):newK H x K=K H.length (H++[x]):=by unfold newK; rw [litK_eq,appK_eq]
theorem RowsAt.new {t:TypeId} {row:List EV} {cs:Array Value} (w:World) (hc:ERs B row cs) (hk:row.length=P.cellsOf t) (ho:∀ u∈cs.toList,u.oneCell'=true):RowsAt P B (w.alloc (.cells cs t)) ⟨w.heap.size,P.cellsOf t,cs.size⟩ t [row] :=
 ⟨rfl,cs,Bf.new _ _ _,rfl,by simp [← hk,hc.1],fun i row' hi=>by
  match i,hi with
  | 0,hi =>
   cases hi
   refine ⟨hk,fun f x hx => ?_⟩
   have hfl:f<cs.size:=by rw [← hc.1]; exact (List.getElem?_eq_some_iff.1 hx).1
   exact ⟨cs[f],by simp [hfl],hc.2 f x _ hx (Array.getElem?_eq_getElem hfl),ho _ (by simp)⟩
  | i+1,hi=>simp at hi⟩
theorem Wd.var {S0:List Nat} {w0:World} {g:EH} (hw:Wd P G S0 w0 B g w) {L:Nat} (hL:g L = .n) {t:TypeId} {row:List EV} {cs:Array Value} (hc:ERs B row cs) (hk:row.length=P.cellsOf t) (ho:∀ u∈cs.toList,u.oneCell'=true) :
  Wd P G S0 w0 (B.set L ⟨w.heap.size,P.cellsOf t,cs.size⟩) (updH g L (.r t row)) (w.alloc (.cells cs t)) :=
 hw.new hL ((Touch.refl [] w).alloc _) (Nat.le_refl _) _ (by simp) (fun t' rows hv=>by
  cases hv
  exact RowsAt.new w (hc.mono (Bm.le_set (hw.n L hL))) hk ho) (fun xo he=>by cases he) (fun t rows he=>by cases he)
def zeroK (P:Program) (t:TypeId) (K:List EV→Prop):Prop:=ob (P.info? t) fun i=>ob i.zero fun z=>vsK z.cells.toList fun row=>br (Nat.beq row.length (P.cellsOf t)&&row.all EV.one) (K row) False
theorem zeroK_ok {t:TypeId} {K:List EV→Prop} (h:zeroK P t K):∃ z,(∀ w,(zeroValue t).run P w = .ok z w)∧(z.cells.toList.map EV.v).length=P.cellsOf t∧(∀ u∈z.cells.toList,u.oneCell'=true)∧K (z.cells.toList.map .v):=by
 obtain ⟨i,hi,h⟩:=ob_inv h
 obtain ⟨z,hz,h⟩:=ob_inv h
 rw [vsK_eq] at h
 rcases br_inv h with ⟨hl,h⟩ | ⟨_,h⟩
 ·obtain ⟨hl,ho⟩:=Bool.and_eq_true_iff.1 hl
  exact ⟨z,fun w=>by simp [zeroValue,typeInfo,hi,hz],Nat.eq_of_beq_eq_true hl,fun u hu=>(List.all_eq_true.1 ho) (.v u) (List.mem_map_of_mem hu),h⟩
 ·exact h.elim
theorem ERs.map_v (B:Bm) (cs:Array Value):ERs B (cs.toList.map .v) cs:=⟨by simp,fun i x u hx hu=>by
 rw [List.getElem?_map] at hx
 have:cs.toList[i]? = some u:=by simpa using hu
 rw [this] at hx
 cases hx
 exact .v u⟩
theorem Out.alloc {t:TypeId} (ho:o.op = .alloc t) (h:zeroK P t fun row=>newK H (.r t row) fun L H'=>K (.p L 0 0) H' [L] [L]):Out P G ops o T H K:=by
 obtain ⟨z,hz,hl,hone,h⟩:=zeroK_ok h
 rw [newK_eq] at h
 refine Out.new h fun S0 w0 B a w g _ hw hg=>⟨_,.pointer (some ⟨w.heap.size,0,none⟩),_,?_,Bm.le_set (hw.n _ hg),?_,hw.var hg (ERs.map_v B z.cells) hl hone⟩
 ·unfold execOp
  simp only [ho,Instr.alloc,Sem.run_bind,hz,Result.andThen_ok,newVar,newRow,newObj,Sem.run,Sem.run_pure]
  rfl
 ·have:=ER.p (B:=B.set H.length ⟨w.heap.size,P.cellsOf t,z.cells.size⟩) (i:=0) (f:=0) (Bm.set_self B H.length ⟨w.heap.size,P.cellsOf t,z.cells.size⟩)
  simpa using this
theorem Out.box {t:TypeId} {x:Operand} (ho:o.op = .box t x) (h:br ((ev T x).flat&&Nat.beq (ev T x).cells.length (P.cellsOf t)&&(ev T x).cells.all EV.one) (newK H (.r t (ev T x).cells) fun L H'=>K (.p L 0 0) H' [L] [L]) False):Out P G ops o T H K:=by
 have hx:x∈o.op.operands:=by rw [ho]; simp [Op.operands]
 rcases br_inv h with ⟨hc,h⟩ | ⟨_,h⟩
 ·obtain ⟨hfl,hone⟩:=Bool.and_eq_true_iff.1 hc
  obtain ⟨hfl,hl⟩:=Bool.and_eq_true_iff.1 hfl
  rw [newK_eq] at h
  refine Out.new h fun S0 w0 B a w g hxs hw hg=>⟨_,.pointer (some ⟨w.heap.size,0,none⟩),_,?_,Bm.le_set (hw.n _ hg),?_,hw.var hg ((hxs x hx).cells hfl) (Nat.eq_of_beq_eq_true hl) (((hxs x hx).cells hfl).ones hone)⟩
  ·unfold execOp
   simp only [ho,Instr.box,Sem.run_bind,Result.andThen_ok,newVar,newRow,newObj,Sem.run,Sem.run_pure]
   rfl
  ·have:=ER.p (B:=B.set H.length ⟨w.heap.size,P.cellsOf t,(a.eval x).cells.size⟩) (i:=0) (f:=0) (Bm.set_self B H.length ⟨w.heap.size,P.cellsOf t,(a.eval x).cells.size⟩)
   simpa using this
 ·exact h.elim
end
section
variable {P:Program} {G:Gl} {ops:Array Oper} {o:Oper} {T:List (Nat×EV)} {H H':List EB} {K:KE} {B:Bm} {w:World} {ρ:Operand→Value}
theorem cellK_part {t:TypeId} {row:List EV} {f:Nat} {K:EV→Prop} (h:cellK P t row f K):∃ x,K x∧∀ (ds:Array Value) (w:World) (B:Bm),ERs B row ds→∃ u,(part t ds f).run P w = .ok u w∧ER B x u:=by
 obtain ⟨d,hu,h⟩:=ob_inv h
 rcases br_inv h with ⟨hd,h⟩ | ⟨hd,h⟩
 ·rcases br_inv h with ⟨hl,h⟩ | ⟨_,h⟩
  ·rw [dropK_eq,takeK_eq] at h
   obtain ⟨hl0,hl1⟩:=Bool.and_eq_true_iff.1 hl
   have hl0:0<P.cellsOf t:=Nat.le_of_ble_eq_true hl0
   have hl1:f+P.cellsOf t≤row.length:=Nat.le_of_ble_eq_true hl1
   refine ⟨_,h,fun ds w B he=>⟨.agg (ds.extract f (f+P.cellsOf t)),?_,.a (by have:=he.1; simp; omega) fun i x u hx hu' => ?_⟩⟩
   ·have hs:(sizeOf t).run P w = .ok (P.cellsOf t) w:=by
     have:=cellsOf_info (P:=P) (t:=t) rfl (by omega)
     cases hi:P.info? t with
     | none=>rw [hi] at this; cases this
     | some i=>exact run_sizeOf w hi
    unfold part
    rw [Sem.run_bind,run_isAgg hu,hd,Result.andThen_ok]
    simp [hs]
   ·rw [List.getElem?_take] at hx
    split at hx
    ·rename_i hi
     rw [List.getElem?_drop] at hx
     refine he.2 (f+i) x u hx ?_
     rw [Array.getElem?_extract] at hu'
     split at hu'
     ·exact hu'
     ·cases hu'
    ·cases hx
  ·exact h.elim
 ·obtain ⟨x,hx,h⟩:=ob_inv h
  refine ⟨x,h,fun ds w B he => ?_⟩
  have hfl:f<ds.size:=by rw [← he.1]; exact (List.getElem?_eq_some_iff.1 hx).1
  have hdf:=Array.getElem?_eq_getElem hfl
  refine ⟨ds[f],?_,he.2 f x _ hx hdf⟩
  unfold part
  rw [Sem.run_bind,run_isAgg hu,hd,Result.andThen_ok]
  simp [hdf]
def fieldE (P:Program) (t:TypeId) (x:EV) (f:Nat) (K:EV→Prop):Prop :=
 match x with
 | .a cs=>ob (P.underlying t) fun d=>match d with | .struct fs=>ob fs[f]? fun fd=>cellK P fd.type cs fd.offset K | _=>False
 | _=>False
theorem Out.field {t:TypeId} {x:Operand} {f:Nat} (ho:o.op = .field t x f) (h:fieldE P t (ev T x) f fun y=>K y H [] []):Out P G ops o T H K:=by
 have hx:x∈o.op.operands:=by rw [ho]; simp [Op.operands]
 unfold fieldE at h
 split at h
 ·rename_i cs hev
  obtain ⟨d,hu,h⟩:=ob_inv h
  split at h
  ·rename_i fs
   obtain ⟨fd,hfd,h⟩:=ob_inv h
   obtain ⟨y,hK,hy⟩:=cellK_part h
   refine Out.val hK fun B a w hxs => ?_
   have hxx:=hxs x hx
   rw [hev] at hxx
   generalize hax:a.eval x=u at hxx
   cases hxx with
   | a hl he =>
    obtain ⟨v,h1,h2⟩:=hy _ w B ⟨hl,he⟩
    refine ⟨v,?_,h2⟩
    unfold execOp
    simp [ho,hax,Instr.field,run_underlying hu,hfd,asAgg,h1]
  ·exact h.elim
 ·exact h.elim
def fadE (P:Program) (t:TypeId) (x:EV) (f:Nat) (K:EV→Prop):Prop :=
 match x with
 | .p L i c=>ob (P.underlying t) fun d=>match d with | .struct fs=>ob fs[f]? fun fd=>br (Nat.blt 0 (P.cellsOf fd.type)) (litK (c+fd.offset) fun n=>K (.p L i n)) False | _=>False
 | _=>False
theorem Out.fad {t:TypeId} {x:Operand} {f:Nat} (ho:o.op = .fieldAddr t x f) (h:fadE P t (ev T x) f fun y=>K y H [] []):Out P G ops o T H K:=by
 have hx:x∈o.op.operands:=by rw [ho]; simp [Op.operands]
 unfold fadE at h
 split at h
 ·rename_i L i c hev
  obtain ⟨d,hu,h⟩:=ob_inv h
  split at h
  ·rename_i fs
   obtain ⟨fd,hfd,h⟩:=ob_inv h
   rcases br_inv h with ⟨hp,h⟩ | ⟨_,h⟩
   ·rw [litK_eq] at h
    have hp:0<P.cellsOf fd.type:=Nat.le_of_ble_eq_true hp
    refine Out.val h fun B a w hxs => ?_
    have hxx:=hxs x hx
    rw [hev] at hxx
    obtain ⟨q,hq,hv⟩:=hxx.p_inv
    have hs:(sizeOf fd.type).run P w = .ok (P.cellsOf fd.type) w:=by
     have:=cellsOf_info (P:=P) (t:=fd.type) rfl (by omega)
     cases hi:P.info? fd.type with
     | none=>rw [hi] at this; cases this
     | some i=>exact run_sizeOf w hi
    refine ⟨.pointer (some ⟨q.b,i*q.k+(c+fd.offset),none⟩),?_,.p hq⟩
    unfold execOp
    simp [ho,hv,Instr.fieldAt,run_underlying hu,hfd,Instr.sureAddr,fieldPlace,hs,show P.cellsOf fd.type≠0 by omega]
    rw [← Nat.add_assoc]
    by_cases e:fd.offset=0
    ·simp [Addr.add,e]
    ·simp [Addr.add,e]
   ·exact h.elim
  ·exact h.elim
 ·exact h.elim
def vecT:EB→Option TypeId
 | .r t _=>some t
 | .rs t _=>some t
 | .rv t _=>some t
 | _=>none
def iadE (P:Program) (H:List EB) (t:TypeId) (x ix:EV) (K:KE):Prop :=
 match ix with
 | .v (.int _ e) =>
  match x with
  | .s L i n _=>ob (P.underlying t) fun d=>match d with
   | .slice el=>(0≤e∧e<n)∧ob H[L]? fun b=>ob (vecT b) fun t'=>br (Nat.blt 0 (P.cellsOf el)&&Nat.beq (P.cellsOf t') (P.cellsOf el)) (K (.p L (i+e.toNat) 0) H [L] []) False
   | _=>False
  | .p L i c=>ob (P.underlying t) fun d=>match d with
   | .array len el=>(0≤e∧e<len)∧br (Nat.blt 0 (P.cellsOf el)) (K (.p L i (c+e.toNat*P.cellsOf el)) H [] []) False
   | _=>False
  | .v (.pointer (some ⟨g,c,none⟩))=>ob (P.underlying t) fun d=>match d with
   | .array len el=>(0≤e∧e<len)∧br (Nat.blt 0 (P.cellsOf el)) (K (.v (.pointer (some ⟨g,c+e.toNat*P.cellsOf el,none⟩))) H [] []) False
   | _=>False
  | .v (.slice (some ⟨g,c,none⟩) n _)=>ob (P.underlying t) fun d=>match d with
   | .slice el=>(0≤e∧e<n)∧br (Nat.blt 0 (P.cellsOf el)) (K (.v (.pointer (some ⟨g,c+e.toNat*P.cellsOf el,none⟩))) H [] []) False
   | _=>False
  | _=>False
 | _=>False
theorem add_mul (a:Addr) (n:Nat) (hs:a.spot=none):a.add n=⟨a.block,a.off+n,none⟩:=by
 unfold Addr.add
 split
 ·rename_i h; subst h; cases a; simp_all
 ·rfl
theorem run_sizeOf' {t:TypeId} (hp:0<P.cellsOf t):(sizeOf t).run P w = .ok (P.cellsOf t) w:=by
 have:=cellsOf_info (P:=P) (t:=t) rfl (by omega)
 cases hi:P.info? t with
 | none=>rw [hi] at this; cases this
 | some i=>exact run_sizeOf w hi
theorem Out.iad {t:TypeId} {x ix:Operand} (ho:o.op = .indexAddr t x ix) (h:iadE P H t (ev T x) (ev T ix) K):Out P G ops o T H K:=by
 have hx:x∈o.op.operands:=by rw [ho]; simp [Op.operands]
 have hix:ix∈o.op.operands:=by rw [ho]; simp [Op.operands]
 unfold iadE at h
 split at h
 ·rename_i kk e hev
  split at h
  ·rename_i L i n z hex
   obtain ⟨d,hu,h⟩:=ob_inv h
   split at h
   ·rename_i el
    obtain ⟨⟨h0,hn⟩,h⟩:=h
    obtain ⟨b,hb,h⟩:=ob_inv h
    obtain ⟨t',ht',h⟩:=ob_inv h
    rcases br_inv h with ⟨hc,h⟩ | ⟨_,h⟩
    ·obtain ⟨hp,hk⟩:=Bool.and_eq_true_iff.1 hc
     have hp:0<P.cellsOf el:=Nat.le_of_ble_eq_true hp
     have hk:P.cellsOf t'=P.cellsOf el:=Nat.eq_of_beq_eq_true hk
     refine Out.rd h fun S0 w0 B a w g hxs hw hg => ?_
     have h1:=hxs x hx
     have h2:=hxs ix hix
     rw [hex] at h1
     rw [hev] at h2
     have hvec:∃ rows,(g L).vec=some (t',rows):=by
      rw [hg,hf_get hb]
      cases b <;> first | (cases ht'; exact ⟨_,rfl⟩) | cases ht'
     obtain ⟨rows,hvec⟩:=hvec
     generalize hax:a.eval x=u at h1
     cases h1 with
     | s hq' hnc hc0 hcm hsz =>
      rename_i c q
      have hr:RowsAt P B w q t' rows:=by
       rcases hw.row L t' rows hvec with ⟨q',h,hr⟩ | ⟨_,h⟩
       ·rw [hq'] at h; cases h; exact hr
       ·rw [hq'] at h; cases h
      have hqk:q.k=P.cellsOf el:=hr.1.trans hk
      refine ⟨.pointer (some ⟨q.b,(i+e.toNat)*q.k+0,none⟩),?_,.p hq'⟩
      unfold execOp
      simp [ho,hax,h2.v_inv,Instr.indexAt,asIntOf,run_underlying hu,h0,hn,run_sizeOf' hp]
      rw [add_mul _ _ rfl,Nat.add_mul,hqk]
     | e A=>omega
    ·exact h.elim
   ·exact h.elim
  ·rename_i L i c hex
   obtain ⟨d,hu,h⟩:=ob_inv h
   split at h
   ·rename_i len el
    obtain ⟨⟨h0,hn⟩,h⟩:=h
    rcases br_inv h with ⟨hp,h⟩ | ⟨_,h⟩
    ·have hp:0<P.cellsOf el:=Nat.le_of_ble_eq_true hp
     refine Out.val h fun B a w hxs => ?_
     have h1:=hxs x hx
     have h2:=hxs ix hix
     rw [hex] at h1
     rw [hev] at h2
     obtain ⟨q,hq,hv⟩:=h1.p_inv
     refine ⟨.pointer (some ⟨q.b,i*q.k+(c+e.toNat*P.cellsOf el),none⟩),?_,.p hq⟩
     unfold execOp
     simp [ho,hv,h2.v_inv,Instr.indexAt,Instr.sureAddr,asIntOf,run_underlying hu,h0,hn,run_sizeOf' hp]
     rw [add_mul _ _ rfl,Nat.add_assoc]
    ·exact h.elim
   ·exact h.elim
  ·rename_i g c hex
   obtain ⟨d,hu,h⟩:=ob_inv h
   split at h
   ·rename_i len el
    obtain ⟨⟨h0,hn⟩,h⟩:=h
    rcases br_inv h with ⟨hp,h⟩ | ⟨_,h⟩
    ·have hp:0<P.cellsOf el:=Nat.le_of_ble_eq_true hp
     refine Out.val h fun B a w hxs => ?_
     have h1:=hxs x hx
     have h2:=hxs ix hix
     rw [hex] at h1
     rw [hev] at h2
     refine ⟨_,?_,.v _⟩
     unfold execOp
     simp [ho,h1.v_inv,h2.v_inv,Instr.indexAt,Instr.sureAddr,asIntOf,run_underlying hu,h0,hn,run_sizeOf' hp]
     rw [add_mul _ _ rfl]
    ·exact h.elim
   ·exact h.elim
  ·rename_i g c n cp hex
   obtain ⟨d,hu,h⟩:=ob_inv h
   split at h
   ·rename_i el
    obtain ⟨⟨h0,hn⟩,h⟩:=h
    rcases br_inv h with ⟨hp,h⟩ | ⟨_,h⟩
    ·have hp:0<P.cellsOf el:=Nat.le_of_ble_eq_true hp
     refine Out.val h fun B a w hxs => ?_
     have h1:=hxs x hx
     have h2:=hxs ix hix
     rw [hex] at h1
     rw [hev] at h2
     refine ⟨_,?_,.v _⟩
     unfold execOp
     simp [ho,h1.v_inv,h2.v_inv,Instr.indexAt,Instr.sureAddr,asIntOf,run_underlying hu,h0,hn,run_sizeOf' hp]
     rw [add_mul _ _ rfl]
    ·exact h.elim
   ·exact h.elim
  ·exact h.elim
 ·exact h.elim
def strAt (s:ByteArray) (i:Nat):UInt8:=s.data.getD i 0
def indexE (P:Program) (t:TypeId) (x ix:EV) (K:EV→Prop):Prop :=
 match ix with
 | .v (.int _ e) =>
  match x with
  | .v (.string s)=>ob (P.underlying t) fun d=>match d with | .string=>(0≤e∧e<s.size)∧K (.v (.int .u8 (strAt s e.toNat).toNat)) | _=>False
  | .a cs=>ob (P.underlying t) fun d=>match d with | .array len el=>(0≤e∧e<len)∧br (Nat.blt 0 (P.cellsOf el)) (cellK P el cs (e.toNat*P.cellsOf el) K) False | _=>False
  | _=>False
 | _=>False
theorem Out.index {t:TypeId} {x ix:Operand} (ho:o.op = .index t x ix) (h:indexE P t (ev T x) (ev T ix) fun y=>K y H [] []):Out P G ops o T H K:=by
 have hx:x∈o.op.operands:=by rw [ho]; simp [Op.operands]
 have hix:ix∈o.op.operands:=by rw [ho]; simp [Op.operands]
 unfold indexE at h
 split at h
 ·rename_i kk e hev
  split at h
  ·rename_i s hex
   obtain ⟨d,hu,h⟩:=ob_inv h
   split at h
   ·obtain ⟨⟨h0,hn⟩,h⟩:=h
    refine Out.val h fun B a w hxs => ?_
    have h1:=hxs x hx
    have h2:=hxs ix hix
    rw [hex] at h1
    rw [hev] at h2
    refine ⟨_,?_,.v _⟩
    have hlt:e.toNat<s.size:=by omega
    have hs:s[e.toNat]? = some (strAt s e.toNat):=by
     have hd:e.toNat<s.data.size:=hlt
     show (if h:e.toNat<s.size then some (s[e.toNat]'h) else none)=_
     rw [dif_pos hlt]
     unfold strAt
     congr 1
     rw [Array.getD_eq_getD_getElem?,Array.getElem?_eq_getElem hd]
     rfl
    unfold execOp
    simp [ho,h1.v_inv,h2.v_inv,Instr.index,asIntOf,run_underlying hu,h0,hs]
   ·exact h.elim
  ·rename_i cs hex
   obtain ⟨d,hu,h⟩:=ob_inv h
   split at h
   ·obtain ⟨⟨h0,hn⟩,h⟩:=h
    rcases br_inv h with ⟨hp,h⟩ | ⟨_,h⟩
    ·have hp:=Nat.le_of_ble_eq_true hp
     obtain ⟨y,hK,hy⟩:=cellK_part h
     refine Out.val hK fun B a w hxs => ?_
     have h1:=hxs x hx
     have h2:=hxs ix hix
     rw [hex] at h1
     rw [hev] at h2
     generalize hax:a.eval x=u at h1
     cases h1 with
     | a hl he =>
      obtain ⟨v,h3,h4⟩:=hy _ w B ⟨hl,he⟩
      refine ⟨v,?_,h4⟩
      unfold execOp
      simp [ho,hax,h2.v_inv,Instr.index,asIntOf,run_underlying hu,h0,hn,run_sizeOf' hp,h3]
    ·exact h.elim
   ·exact h.elim
  ·exact h.elim
 ·exact h.elim
def fillK (place:Nat→Option (Nat×Nat)) (T:List (Nat×EV)):List EV→List (Nat×Operand)→(List EV→Prop)→Prop
 | row,[],K=>K row
 | row,(i,x)::r,K=>evK T x fun v=>ob (place i) fun p=>br (v.flat&&Nat.beq v.cells.length p.2&&Nat.ble (p.1+v.cells.length) row.length) (setsK row p.1 v.cells fun row'=>fillK place T row' r K) False
theorem foldl_sets (off:Nat):∀ (l:List Value) (n:Nat) (cs:Array Value),((l.zipIdx n).foldl (fun cs (x:Value×Nat)=>cs.setIfInBounds (off+x.2) x.1) cs).toList=setsL cs.toList (off+n) l:=by
 intro l
 induction l with
 | nil=>intro n cs; cases h:cs.toList <;> simp [setsL,h]
 | cons v l ih =>
  intro n cs
  rw [List.zipIdx_cons,List.foldl_cons,ih,Array.toList_setIfInBounds]
  cases h:cs.toList <;> simp [setsL,Nat.add_assoc]
theorem ERs.sets {row:List EV} {cs:List Value} {vs:List EV} {us:List Value} {off:Nat} (h:cs.length=row.length∧∀ (i:Nat) (x:EV) (u:Value),row[i]? = some x→cs[i]? = some u→ER B x u) (hv:vs.length=us.length) (hvs:∀ (i:Nat) (x:EV) (u:Value),vs[i]? = some x→us[i]? = some u→ER B x u) (hl:off+vs.length≤row.length) :
  (setsL cs off us).length=(setsL row off vs).length∧∀ (i:Nat) (x:EV) (u:Value),(setsL row off vs)[i]? = some x→(setsL cs off us)[i]? = some u→ER B x u:=by
 refine ⟨by rw [setsL_length,setsL_length]; exact h.1,fun i x u hx hu => ?_⟩
 rw [setsL_get _ _ _ _ hl] at hx
 rw [setsL_get _ _ _ _ (by rw [← hv,h.1]; exact hl),← hv] at hu
 split at hx
 ·rename_i hc
  rw [if_pos hc] at hu
  exact hvs _ x u hx hu
 ·rename_i hc
  rw [if_neg hc] at hu
  exact h.2 _ x u hx hu
theorem fillK_ok {place:Nat→Option (Nat×Nat)}:∀ (ps:List (Nat×Operand)) (row:List EV) (K:List EV→Prop),fillK place T row ps K→∃ row',K row'∧∀ (a:Act) (B:Bm) (cs:Array Value),(∀ p,p∈ps→ER B (ev T p.2) (a.eval p.2))→ERs B row cs →
  ∃ cs',Instr.fill place cs (ps.map fun p=>(p.1,a.eval p.2))=some cs'∧ERs B row' cs':=by
 intro ps
 induction ps with
 | nil =>
  intro row K h
  refine ⟨row,?_,fun a B cs _ he=>⟨cs,rfl,he⟩⟩
  cases row <;> exact h
 | cons p ps ih =>
  intro row K h
  obtain ⟨i,x⟩:=p
  have h:evK T x fun v=>ob (place i) fun p=>br (v.flat&&Nat.beq v.cells.length p.2&&Nat.ble (p.1+v.cells.length) row.length) (setsK row p.1 v.cells fun row'=>fillK place T row' ps K) False:=by
   cases row <;> exact h
  rw [evK_eq] at h
  obtain ⟨⟨off,size⟩,hp,h⟩:=ob_inv h
  rcases br_inv h with ⟨hc,h⟩ | ⟨_,h⟩
  ·simp only [Bool.and_eq_true] at hc
   obtain ⟨⟨hfl,hsz⟩,hle⟩:=hc
   have hsz:(ev T x).cells.length=size:=Nat.eq_of_beq_eq_true hsz
   have hle:off+(ev T x).cells.length≤row.length:=Nat.le_of_ble_eq_true hle
   rw [setsK_eq] at h
   obtain ⟨row',hK,hr⟩:=ih _ K h
   refine ⟨row',hK,fun a B cs hxs he => ?_⟩
   have hx:=(hxs (i,x) (by simp)).cells hfl
   have hs1:(a.eval x).cells.size=size:=by rw [← hx.1]; exact hsz
   have hs2:¬ off+(a.eval x).cells.size>cs.size:=by have:=he.1; have:=hx.1; omega
   have hset:=ERs.sets (B:=B) (row:=row) (cs:=cs.toList) (vs:=(ev T x).cells) (us:=(a.eval x).cells.toList) (off:=off) ⟨by simpa using he.1.symm,fun i y u h1 h2=>he.2 i y u h1 (by simpa using h2)⟩ (by simpa using hx.1) (fun i y u h1 h2=>hx.2 i y u h1 (by simpa using h2)) hle
   have hfold:=foldl_sets off (a.eval x).cells.toList 0 cs
   obtain ⟨cs',h1,h2⟩:=hr a B (setsL cs.toList off (a.eval x).cells.toList).toArray (fun p hp=>hxs p (List.mem_cons_of_mem _ hp)) ⟨by simpa using hset.1.symm,fun i y u h1 h2=>hset.2 i y u h1 (by simpa using h2)⟩
   refine ⟨cs',?_,h2⟩
   show Instr.fill place cs ((i,a.eval x)::ps.map fun p=>(p.1,a.eval p.2))=some cs'
   unfold Instr.fill
   simp only [hp,hs1,ne_eq,not_true_eq_false]
   rw [if_neg (by rw [hs1] at hs2; simpa using hs2)]
   have he2:Array.foldl (fun cs (x:Value×Nat)=>cs.setIfInBounds (off+x.2) x.1) cs (a.eval x).cells.zipIdx=(setsL cs.toList off (a.eval x).cells.toList).toArray:=by
    rw [← Array.foldl_toList,Array.toList_zipIdx]
    refine Array.toList_inj.1 ?_
    simpa using hfold
   rw [← h1,← he2]
  ·exact h.elim
def placesE (P:Program) (t:TypeId):Option (Nat→Option (Nat×Nat)) :=
 match P.underlying t with
 | some (.struct fs)=>(fs.toList.mapM fun f=>(P.info? f.type).map fun i=>(f.offset,i.size)).map fun l i=>l[i]?
 | some (.array _ e)=>(P.info? e).map fun ie i=>some (i*ie.size,ie.size)
 | _=>none
theorem Out.build {t:TypeId} {ps:Array (Nat×Operand)} (ho:o.op = .build t ps) (h:zeroK P t fun row=>ob (placesE P t) fun pl=>fillK pl T row ps.toList fun cs=>K (.a cs) H [] []):Out P G ops o T H K:=by
 obtain ⟨i,hi,h⟩:=ob_inv h
 obtain ⟨z,hz,h⟩:=ob_inv h
 rw [vsK_eq] at h
 rcases br_inv h with ⟨hl,h⟩ | ⟨_,h⟩
 ·obtain ⟨pl,hpl,h⟩:=ob_inv h
  obtain ⟨row',hK,hr⟩:=fillK_ok _ _ _ h
  refine Out.val hK fun B a w hxs => ?_
  obtain ⟨cs',h1,h2⟩:=hr a B z.cells (fun p hp=>hxs p.2 (by
   rw [ho]
   show p.2∈(ps.toList.map (·.2)).toArray
   simpa using ⟨p.1,by simpa using hp⟩)) (ERs.map_v B z.cells)
  refine ⟨.agg cs',?_,.a h2.1 h2.2⟩
  have hb:P.built t (ps.map fun p=>(p.1,a.eval p.2)).toList=some cs':=by
   unfold Program.built
   unfold placesE at hpl
   split at hpl
   ·rename_i fs hu
    obtain ⟨l,hl',rfl⟩:=Option.map_eq_some_iff.1 hpl
    simp only [hi,hu,hz,hl']
    simpa using h1
   ·rename_i n e hu
    obtain ⟨ie,hie,rfl⟩:=Option.map_eq_some_iff.1 hpl
    simp only [hi,hu,hz,hie]
    simpa using h1
   ·cases hpl
  unfold execOp
  simp only [ho,Sem.run_bind,run_build w t _ cs' hb,Result.andThen_ok,Sem.run_pure]
 ·exact h.elim
end
end Go.Proofs.YtdhgpocbcccieaaGreatDoor.E
