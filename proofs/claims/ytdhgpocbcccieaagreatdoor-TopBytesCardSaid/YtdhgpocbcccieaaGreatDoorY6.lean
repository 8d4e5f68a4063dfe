/- Part 6 of the proof: Pm Hd He Tr Sl En Pr Pq So If Ig Ih Im Vi Vj Vk Ik. -/
import Derived.RangeFuncBound
import Derived.Test.YtdhgpocbcccieaaGreatDoorY1
import Derived.Test.YtdhgpocbcccieaaGreatDoorY3
import Derived.Test.YtdhgpocbcccieaaGreatDoorY4
import Derived.Test.YtdhgpocbcccieaaGreatDoorY5
set_option maxRecDepth 1000000
set_option maxHeartbeats 20000000
set_option linter.unusedVariables false
set_option linter.unusedSimpArgs false
namespace Go.Proofs.YtdhgpocbcccieaaGreatDoor.M
open Go Go.RowKit
structure Hd where
 size:Nat
 time:Nat
 root:Bs
 sig:Bs
 deriving DecidableEq,Inhabited
def Hd.nil:Hd:=⟨0,0,[],[]⟩
def Hd.right (h:Hd):Bool:=decide (h.size≥1)&&decide (h.size≤1099511627776)&&decide (h.time≤1099511627776)&&h.root.length==32&&h.sig.length==64
def Hd.text (h:Hd):Bs:=[83,84,72]++putL h.size++putL h.time++h.root
def Hd.check (pub:Bs) (h:Hd):Bool:=h.right&&verL pub h.text h.sig
def Hd.make (k:Ky) (size time:Nat) (root:Bs):Hd×Int :=
 let h:Hd:=⟨size,time,root,signL k (Hd.text ⟨size,time,root,[]⟩)⟩
 if h.right then (h,0) else (.nil,1)
def Hd.ahead (a b:Hd):Int:=if a=b then 0 else orI (cmpN a.size b.size) (orI (cmpN a.time b.time) (orI (cmpB a.root b.root) (cmpB a.sig b.sig)))
def Hd.put (w:Ww) (h:Hd):Ww:=wRaw (wRaw (wNum (wNum w h.size) h.time) h.root 32) h.sig 64
def Hd.get (r:Rr):Hd×Rr :=
 let a:=rNm r
 let b:=rNm a.2
 let c:=rTk 32 b.2
 let d:=rTk 64 c.2
 (⟨a.1,b.1,c.1,d.1⟩,d.2)
def splitL (n:Nat):Nat:=if n≤1 then 0 else 2 ^ (n-1).log2
def rootF:Nat→List Bs→Bs
 | 0,_=>[]
 | k+1,l=>if l.length=1 then leafL (l.headD []) else nodeL (rootF k (l.take (splitL l.length))) (rootF k (l.drop (splitL l.length)))
def rootL (l:List Bs):Bs:=if l.length=0 then shaL [] else rootF 64 l
def stepsF:Nat→Nat→Nat→List (Bool×Nat)
 | 0,_,_=>[]
 | f+1,m,n=>if m<n then (let k:=splitL n; if m≤k then (true,k)::stepsF f m k else (false,k)::stepsF f (m-k) (n-k)) else []
def stepsL (m n:Nat):List (Bool×Nat):=stepsF 64 m n
def mayL (m n:Nat):Bool:=decide (m≥1)&&decide (m≤n)&&decide (n≤1099511627776)
def wholeL (path:List Bs) (n:Nat):Bool:=path.length==n&&path.all fun h=>h.length==32
def nSteps (m n:Nat):Nat:=if mayL m n then (stepsL m n).length+1 else 0
def bridgeF:List (Bool×Nat)→List Bs→List Bs→List Bs
 | [],l,out=>out++[rootL l]
 | (true,k)::r,l,out=>bridgeF r (l.take k) (out++[rootL (l.drop k)])
 | (false,k)::r,l,out=>bridgeF r (l.drop k) (out++[rootL (l.take k)])
def bridgeL (m:Nat) (l:List Bs):List Bs×Int:=if m<1∨l.length<m then ([],1) else ((bridgeF (stepsL m l.length) l []).reverse,0)
def foldP:List (Bool×Nat)→List Bs→Bs×Bs→Bs×Bs
 | (true,_)::r,h::p,(a,s)=>foldP r p (a,nodeL s h)
 | (false,_)::r,h::p,(a,s)=>foldP r p (nodeL h a,nodeL h s)
 | _,_,x=>x
def impliedL (m n:Nat) (path:List Bs):Bs×Bs×Int :=
 if !mayL m n then ([],[],1) else if !wholeL path (nSteps m n) then ([],[],11) else
 match path with
 | []=>([],[],0)
 | h::p=>let x:=foldP (stepsL m n).reverse p (h,h); (x.1,x.2,0)
structure Bd where
 a:Hd
 b:Hd
 path:List Bs
 deriving DecidableEq,Inhabited
def Bd.nil:Bd:=⟨.nil,.nil,[]⟩
def Bd.right (b:Bd):Bool:=b.a.right&&b.b.right&&decide (b.path.length≤48)&&b.path.all fun h=>h.length==32
def Bd.odd (b:Bd):Bool :=
 if !b.right then false else if b.a.size=b.b.size then b.a.root != b.b.root&&b.path.length==0&&decide (Hd.ahead b.a b.b<0)
 else (impliedL b.a.size b.b.size b.path).2.2==0&&(impliedL b.a.size b.b.size b.path).2.1==b.b.root&&(impliedL b.a.size b.b.size b.path).1 != b.a.root
def Bd.build (a b:Hd) (path:List Bs):Bd×Int :=
 if Bd.odd ⟨a,b,[]⟩ then (⟨a,b,[]⟩,0) else if Bd.odd ⟨b,a,[]⟩ then (⟨b,a,[]⟩,0)
 else if Bd.odd ⟨a,b,path⟩ then (⟨a,b,path⟩,0) else if Bd.odd ⟨b,a,path⟩ then (⟨b,a,path⟩,0) else (.nil,13)
def Bd.put (w:Ww) (b:Bd):Ww:=wRaws (wNum (Hd.put (Hd.put w b.a) b.b) b.path.length) b.path
def rRaws:Nat→Rr→List Bs×Rr
 | 0,r=>([],r)
 | n+1,r=>let x:=rTk 32 r; let y:=rRaws n x.2; (x.1::y.1,y.2)
def Bd.get (r:Rr):Bd×Rr :=
 let a:=Hd.get r
 let b:=Hd.get a.2
 let n:=rNm b.2
 let r:=if n.1>48 then rFl 4 n.2 else n.2
 let p:=rRaws (min n.1 48) r
 (⟨a.1,b.1,p.1⟩,p.2)
def Bd.enc (b:Bd):Bs:=if !b.right then [] else wText (Bd.put ([],0) b)
def Bd.dec (s:Bs):Bd×Int :=
 let x:=Bd.get (s,0)
 let e:=rEn x.2
 let e:=if e=0 ∧ !x.1.right then 3 else e
 if e≠0 then (.nil,e) else (x.1,0)
def Bd.check (pub s:Bs):Bool:=let x:=Bd.dec s; x.2==0&&x.1.odd&&x.1.a.check pub&&x.1.b.check pub
structure Mk where
 log:Int
 size:Nat
 root:Bs
 bad:Bool
 deriving DecidableEq,Inhabited
structure Mg where
 kind:Int
 log:Int:=0
 id:Nat:=0
 m:Nat:=0
 n:Nat:=0
 h:Hd := .nil
 b:Bd := .nil
 path:List Bs:=[]
 marks:List Mk:=[]
 deriving DecidableEq,Inhabited
def Mg.nil:Mg:={ kind:=0 }
def ofL (k:Int):Bool:=decide (k≥1)&&decide (k<11)
def hasL:Nat→List Nat
 | 1=>[7] | 2=>[7] | 3=>[0,4] | 4=>[0,5] | 5=>[0,1] | 6=>[0,1,2,3] | 7=>[0,1,4] | 8=>[0,1,2,3,6] | 9=>[0] | 10=>[0,3] | _=>[]
def Mg.set1 (m b:Mg):Nat→Mg
 | 0=>{ b with log:=m.log } | 1=>{ b with id:=m.id } | 2=>{ b with m:=m.m } | 3=>{ b with n:=m.n } | 4=>{ b with h:=m.h } | 5=>{ b with b:=m.b } | 6=>{ b with path:=m.path } | _=>{ b with marks:=m.marks }
def Mg.bare (m:Mg):Mg:=(hasL m.kind.toNat).foldl (Mg.set1 m) { kind:=m.kind }
def marksF:Int→List Mk→Bool
 | _,[]=>true
 | last,k::l=>if decide (k.log≤last)||decide (k.log≥8)||decide (k.size>1099511627776) || !(k.root.length==32||(k.size==0&&k.root==[]))||(k.size==0&&k.root != []) then false else marksF k.log l
def marksL (l:List Mk):Bool:=marksF (-1) l&&decide (l.length≤8)
def Mg.part (m:Mg):Nat→Bool
 | 0=>decide (m.log≥0)&&decide (m.log<8)
 | 2=>decide (m.m≥1)&&decide (m.m≤m.n)&&decide (m.n≤1099511627776)
 | 4=>m.h.right
 | 5=>m.b.odd
 | 6=>decide (m.path.length≤48)&&m.path.all fun h=>h.length==32
 | 7=>marksL m.marks
 | _=>true
def Mg.right (m:Mg):Bool:=if !ofL m.kind || !decide (m=m.bare) then false else (hasL m.kind.toNat).all m.part
def wList (w:Ww) (l:List Bs):Ww:=wRaws (wNum w l.length) l
def wMark (w:Ww) (k:Mk):Ww :=
 let w:=wNum (wByte (wByte w k.log) (if k.bad then 1 else 0)) k.size
 if k.size>0 then wRaw w k.root 32 else w
def wMarks (w:Ww) (l:List Mk):Ww:=l.foldl wMark (wByte w l.length)
def Mg.put1 (m:Mg) (w:Ww):Nat→Ww
 | 0=>wByte w m.log | 1=>wNum w m.id | 2=>wNum w m.m | 3=>wNum w m.n | 4=>Hd.put w m.h | 5=>Bd.put w m.b | 6=>wList w m.path | _=>wMarks w m.marks
def Mg.enc (m:Mg):Bs:=if !m.right then [] else wText ((hasL m.kind.toNat).foldl m.put1 (wByte ([],0) m.kind))
def rList (r:Rr):List Bs×Rr:=let n:=rNm r; if n.1>48 then ([],rFl 4 n.2) else rRaws n.1 n.2
def rMark (r:Rr):Mk×Rr :=
 let a:=rBy r
 let b:=rBy a.2
 let r:=if b.1>1 then rFl 3 b.2 else b.2
 let c:=rNm r
 let d:=if c.1>0 then rTk 32 c.2 else ([],c.2)
 (⟨a.1,c.1,d.1,b.1==1⟩,d.2)
def rMarksF:Nat→Rr→List Mk×Rr
 | 0,r=>([],r)
 | n+1,r=>let x:=rMark r; let y:=rMarksF n x.2; (x.1::y.1,y.2)
def rMarks (r:Rr):List Mk×Rr:=let n:=rBy r; if n.1>8 then ([],rFl 4 n.2) else rMarksF n.1.toNat n.2
def Mg.get1 (x:Mg×Rr):Nat→Mg×Rr
 | 0=>let y:=rBy x.2; ({ x.1 with log:=y.1 },y.2)
 | 1=>let y:=rNm x.2; ({ x.1 with id:=y.1 },y.2)
 | 2=>let y:=rNm x.2; ({ x.1 with m:=y.1 },y.2)
 | 3=>let y:=rNm x.2; ({ x.1 with n:=y.1 },y.2)
 | 4=>let y:=Hd.get x.2; ({ x.1 with h:=y.1 },y.2)
 | 5=>let y:=Bd.get x.2; ({ x.1 with b:=y.1 },y.2)
 | 6=>let y:=rList x.2; ({ x.1 with path:=y.1 },y.2)
 | _=>let y:=rMarks x.2; ({ x.1 with marks:=y.1 },y.2)
def Mg.dec (s:Bs):Mg×Int :=
 let k:=rBy (s,0)
 if s=[] then (.nil,2) else if !ofL k.1 then (.nil,3) else
 let x:=(hasL k.1.toNat).foldl Mg.get1 ({ kind:=k.1 },k.2)
 let e:=rEn x.2
 let e:=if e=0 ∧ !x.1.right then 3 else e
 if e≠0 then (.nil,e) else (x.1,0)
structure Fs where
 has:Bool:=false
 fr:Hd := .nil
 pend:List Hd:=[]
 bad:Bs:=[]
 deriving DecidableEq,Inhabited
def Fs.takeF (s:Fs) (h:Hd) (room:Nat):List Hd→Fs×Int
 | []=>if room≤s.pend.length then (s,6) else
  let at_:=s.pend.findIdx fun x=>decide (Hd.ahead x h>0)
  ({ s with pend:=s.pend.take at_++h::s.pend.drop at_ },3)
 | x::l=>if x.size≠h.size then s.takeF h room l else if x.root=h.root then (s,2) else
  let b:=Bd.build x h []
  if b.2=0 then ({ s with bad:=b.1.enc },5) else s.takeF h room l
def Fs.take (s:Fs) (pub:Bs) (h:Hd) (room:Nat):Fs×Int :=
 if s.bad≠[] then (s,9) else if !h.check pub then (s,7) else if !s.has then ({ s with has:=true,fr:=h },1)
 else s.takeF h room (s.fr::s.pend)
def Fs.need (s:Fs):Nat×Nat×Bool :=
 if s.bad≠[] ∨ !s.has then (0,0,false) else match s.pend with
 | []=>(0,0,false)
 | x::_=>(min x.size s.fr.size,max x.size s.fr.size,true)
def Fs.link (s:Fs) (m n:Nat) (path:List Bs):Fs×Int :=
 if s.bad≠[] then (s,9) else
 let at_:=s.pend.findIdx fun x=>min x.size s.fr.size==m&&max x.size s.fr.size==n
 if !s.has || !decide (at_<s.pend.length) then (s,8) else
 let x:=s.pend.getD at_ .nil
 let sw:=decide (x.size<s.fr.size)
 let low:=if sw then x else s.fr
 let high:=if sw then s.fr else x
 let i:=impliedL m n path
 if i.2.2≠0∨i.2.1≠high.root then (s,7) else
 if i.1=low.root then ({ s with fr:=high,pend:=s.pend.eraseIdx at_ },4) else
 let b:=Bd.build low high path
 if b.2≠0 then (s,7) else ({ s with bad:=b.1.enc },5)
def Fs.lay (s:Fs) (pub bad:Bs):Fs×Int :=
 if s.bad≠[] then (s,9) else if !Bd.check pub bad then (s,7) else ({ s with bad:=bad },5)
def crcH' (n:Nat):Nat:=(n/16)^^^(E.crcT.getD (n%16) 0)
def crcS (n:Nat) (c:UInt8):Nat:=crcH' (crcH' (n^^^c.toNat))
def crcL (s:Bs):Bs:=let n:=4294967295^^^s.foldl crcS 4294967295; [(n/2 ^ 24).toUInt8,(n/2 ^ 16).toUInt8,(n/2 ^ 8).toUInt8,n.toUInt8]
structure Dk where
 f0:Bs:=[]
 f1:Bs:=[]
 loose:List (Bool×Nat):=[]
 room:Nat
 deriving DecidableEq,Inhabited
def Dk.read (d:Dk) (f:Bool):Bs:=if f then d.f1 else d.f0
def Dk.set (d:Dk) (f:Bool) (s:Bs):Dk:=if f then { d with f1:=s } else { d with f0:=s }
def Dk.free (d:Dk):Int:=d.room-d.f0.length-d.f1.length
def Dk.put (d:Dk) (f:Bool) (s:Bs):Dk×Int :=
 if (s.length:Int)>d.free then (d,8) else ({ d.set f (d.read f++s) with loose:=d.loose++[(f,s.length)] },0)
def Dk.sync (d:Dk):Dk:={ d with loose:=[] }
def Dk.lost (d:Dk):Nat:=(d.loose.map (·.2)).sum
def Dk.trim (d:Dk) (f:Bool) (n:Nat):Dk×Int :=
 if (d.read f).length<n then (d,1) else if d.lost>0 then (d,7) else (d.set f ((d.read f).take n),0)
def Dk.turn (d:Dk):Dk×Int:=if d.lost>0 then (d,7) else ({ d with f0:=d.f1,f1:=d.f0 },0)
def undoF:Nat→List (Bool×Nat)→List (Bool×Nat×Nat)
 | _,[]=>[]
 | keep,(f,n)::l=>(f,n,min keep n)::undoF (keep-min keep n) l
def Dk.undo1 (d:Dk) (u:Bool×Nat×Nat):Dk:=d.set u.1 ((d.read u.1).take ((d.read u.1).length-u.2.1+u.2.2))
def Dk.crash (d:Dk) (keep:Nat):Dk:=((undoF keep d.loose).reverse.foldl Dk.undo1 d).sync
def frame (s:Bs):Bs:=if s=[]∨4096<s.length then [] else numL s.length++s++crcL s
def frames:List Bs→Bs→Bs×Bool
 | [],all=>(all,true)
 | s::l,all=>if frame s=[] then ([],false) else frames l (all++frame s)
structure Jn where
 d:Dk
 l:List Bs:=[]
 sure:Nat:=0
 cut:Bool:=false
 deriving DecidableEq,Inhabited
def openF:Nat→Bs→List Bs×Nat
 | 0,_=>([],0)
 | k+1,s =>
  let x:=(rBl 4096 (s,0)).1
  let f:=frame x
  if f=[]∨s.length<f.length∨s.take f.length≠f then ([],0) else
  let r:=openF k (s.drop f.length)
  (x::r.1,f.length+r.2)
def Jn.open (d:Dk):Jn :=
 let d:=d.sync
 let r:=openF (d.f0.length+1) d.f0
 let d:=(d.trim false r.2).1
 let d:=(d.trim true 0).1
 { d:=d,l:=r.1,sure:=r.1.length }
def Jn.loose (j:Jn) (s:Bs):Jn×Int :=
 let f:=frame s
 if j.cut then (j,7) else if f=[] then (j,1) else
 let x:=j.d.put false f
 ({ j with d:=x.1,l:=if x.2=0 then j.l++[s] else j.l },x.2)
def Jn.add (j:Jn) (s:Bs):Jn×Int :=
 let x:=j.loose s
 if x.2≠0 then x else ({ x.1 with d:=x.1.d.sync,sure:=x.1.l.length },0)
def Jn.step (j:Jn) (i:Nat) (all:Bs):Jn×Int :=
 match i with
 | 0=>let x:=j.d.put true all; ({ j with d:=x.1 },x.2)
 | 1=>({ j with d:=j.d.sync },0)
 | 2=>let x:=j.d.turn; ({ j with d:=x.1 },x.2)
 | _=>let x:=j.d.trim true 0; ({ j with d:=x.1 },x.2)
def Jn.stepsF (j:Jn) (all:Bs):Nat→Nat→Jn×Int
 | 0,_=>(j,0)
 | k+1,i=>let x:=j.step i all; if x.2≠0 then x else x.1.stepsF all k (i+1)
def Jn.renew (j:Jn) (recs:List Bs) (n:Nat):Jn×Int :=
 let f:=frames recs []
 if j.cut∨j.sure<j.l.length then (j,7) else if !f.2 then (j,1) else
 let x:=j.stepsF f.1 (min n 4) 0
 if x.2≠0 then x else if n<4 then ({ x.1 with cut:=true },7) else ({ x.1 with l:=recs,sure:=recs.length },0)
abbrev Mp (α:Type):=Nat×List (Int×Nat×α)
def mpGet {α:Type} (k:Int):List (Int×Nat×α)→Option α
 | []=>none
 | (i,_,x)::l=>if k=i then some x else mpGet k l
def mpSet {α:Type} (k:Int) (y:α):List (Int×Nat×α)→List (Int×Nat×α)
 | []=>[]
 | (i,b,x)::l=>if k=i then (i,b,y)::l else (i,b,x)::mpSet k y l
def mpDel {α:Type} (k:Int):List (Int×Nat×α)→List (Int×Nat×α)
 | []=>[]
 | (i,b,x)::l=>if k=i then l else (i,b,x)::mpDel k l
def Mp.set {α:Type} (m:Mp α) (k:Int) (y:α):Mp α:=if (mpGet k m.2).isSome then (m.1,mpSet k y m.2) else (m.1+1,m.2++[(k,m.1,y)])
def Mp.del {α:Type} (m:Mp α) (k:Int):Mp α:=(m.1,mpDel k m.2)
abbrev Al:=Nat×Int
def lessA (l:List Al) (i k:Nat):Bool :=
 let a:=l.getD i (0,0)
 let b:=l.getD k (0,0)
 decide (a.1<b.1)||(a.1==b.1&&decide (a.2<b.2))
def swapA (l:List Al) (i k:Nat):List Al:=(l.set i (l.getD k (0,0))).set k (l.getD i (0,0))
def upA:Nat→List Al→Nat→List Al
 | 0,l,_=>l
 | f+1,l,i=>if decide (0<i)&&lessA l i ((i-1)/2) then upA f (swapA l i ((i-1)/2)) ((i-1)/2) else l
def downA:Nat→List Al→Nat→List Al
 | 0,l,_=>l
 | f+1,l,i =>
  let k:=if decide (2*i+2<l.length)&&lessA l (2*i+2) (2*i+1) then 2*i+2 else 2*i+1
  if decide (l.length≤k) || !lessA l k i then l else downA f (swapA l k i) k
def findA (l:List Al) (id:Int):Nat:=l.findIdx fun a=>a.2==id
def removeA (l:List Al) (i:Nat):List Al :=
 let m:=(swapA l i (l.length-1)).take (l.length-1)
 if i<l.length-1 then upA (i+1) (downA l.length m i) i else m
structure Rc where
 base:Nat
 most:Nat
 span:Nat
 tries:Int
 room:Int
 deriving DecidableEq,Inhabited
structure Tb where
 c:Rc
 tried:Mp Int:=(0,[])
 due:List Al:=[]
 deriving DecidableEq,Inhabited
def setA (l:List Al) (most:Int) (id:Int) (at_:Nat):List Al×Int :=
 if findA l id<l.length then (l,6) else if most≤l.length then (l,8) else (upA (l.length+1) (l++[(at_,id)]) l.length,0)
def dropA (l:List Al) (id:Int):List Al×Int:=if findA l id<l.length then (removeA l (findA l id),0) else (l,5)
def popA:Nat→List Al→Nat→List Int×List Al
 | 0,l,_=>([],l)
 | f+1,l,now=>match l with
  | []=>([],l)
  | a::_=>if a.1≤now then (let r:=popA f (removeA l 0) now; (a.2::r.1,r.2)) else ([],l)
def backF:Nat→Nat→Nat→Nat
 | 0,n,_=>n
 | k+1,n,most=>if most≤n∨n=0 then n else backF k (addL n n) most
def backL (base:Nat) (k:Int) (most:Nat):Nat:=min (backF k.toNat base most) most
def spreadL (span draw:Nat):Nat:=if span=18446744073709551615 then draw else draw%(span+1)
def Rc.wait (c:Rc) (k:Int) (draw:Nat):Nat:=addL (backL c.base k c.most) (spreadL c.span draw)
def Rc.right (c:Rc):Bool:=decide (c.base≥1)&&decide (c.base≤c.most)&&decide (c.most≤1099511627776)&&decide (c.span≤1099511627776)&&decide (c.tries≥1)&&decide (c.tries≤1000)&&decide (c.room≥1)&&decide (c.room≤10000)
def Tb.ask (t:Tb) (id:Int) (now draw:Nat):Tb×Int :=
 let x:=setA t.due t.c.room id (addL now (t.c.wait 0 draw))
 ({ t with due:=x.1,tried:=if x.2=0 then t.tried.set id 1 else t.tried },x.2)
def Tb.done (t:Tb) (id:Int):Tb:={ t with due:=(dropA t.due id).1,tried:=t.tried.del id }
def Tb.dueF (now draw:Nat):List Int→Tb→List Int→List Int→Tb×List Int×List Int
 | [],t,again,lost=>(t,again,lost)
 | id::l,t,again,lost =>
  let k:=(mpGet id t.tried.2).getD 0
  if t.c.tries≤k then Tb.dueF now draw l { t with tried:=t.tried.del id } again (lost++[id]) else
  Tb.dueF now draw l { t with tried:=t.tried.set id (k+1),due:=(setA t.due t.c.room id (addL now (t.c.wait k draw))).1 } (again++[id]) lost
def Tb.dueL (t:Tb) (now draw:Nat):Tb×List Int×List Int :=
 let x:=popA t.due.length t.due now
 Tb.dueF now draw x.1 { t with due:=x.2 } [] []
def ansL (k:Ky) (view:List Bs) (time:Nat) (s:Bs):Bs :=
 let x:=Mg.dec s
 if x.2≠0 then [] else
 if x.1.kind=5 then Mg.enc { kind:=7,log:=x.1.log,id:=x.1.id,h:=if view.length=0 then .nil else (Hd.make k view.length time (rootL view)).1 } else
 if x.1.kind=6 then (if view.length<x.1.n then [] else Mg.enc { x.1 with kind:=8,path:=(bridgeL x.1.m (view.take x.1.n)).1 }) else []
structure Nc where
 peers:Nat
 room:Nat
 every:Nat
 gossip:Nat
 retry:Rc
 deriving DecidableEq,Inhabited
structure Nd where
 c:Nc
 key:Bs
 s:Fs:={}
 stalls:Nat:=0
 next:Nat:=0
 opn:Int:=0
 j:Jn
 t:Tb
 reqs:Mp Mg:=(0,[])
 id:Int:=1
 odd:Nat:=0
 tell:Nat:=0
 turn:Nat:=0
 deriving DecidableEq,Inhabited
abbrev Sd:=Int×Bs
abbrev i64w (x:Int):Int:=IntKind.i64.wrap x
def cntB (x:Int):Bool:=x==1||x==3||x==4||x==5
def Nd.done (n:Nd) (m:Mg):Fs×Int :=
 if m.kind=3 then n.s.take n.key m.h n.c.room else if m.kind=8 then n.s.link m.m m.n m.path else if m.kind=4 then n.s.lay n.key m.b.enc else (n.s,0)
def Nd.bootF:List Bs→Nd→Option Nd
 | [],n=>some n
 | r::l,n =>
  let m:=Mg.dec r
  if m.2≠0∨m.1.log≥1 then none else
  let x:=n.done m.1
  if !cntB x.2 then none else Nd.bootF l { n with s:=x.1 }
def Nd.boot (c:Nc) (key:Bs) (d:Dk):Option Nd:=let j:=Jn.open d; Nd.bootF j.l { c:=c,key:=key,j:=j,t:={ c:=c.retry } }
def Nd.keep (n:Nd) (m:Mg):Nd×Int :=
 let x:=n.done m
 if !cntB x.2 then (n,x.2) else
 let y:=n.j.add m.enc
 if y.2≠0 then ({ n with j:=y.1 },6) else ({ n with j:=y.1,s:=x.1 },x.2)
def Nd.strange (n:Nd):Nd:={ n with odd:=addL n.odd 1 }
def Nd.marks (n:Nd):List Mk:=if n.s.has∨n.s.bad≠[] then [⟨0,n.s.fr.size,n.s.fr.root,n.s.bad != []⟩] else []
def Nd.proof (n:Nd):Mg:={ kind:=4,log:=0,b:=(Bd.dec n.s.bad).1 }
def sendL (d:Int) (m:Mg):Sd:=(d,m.enc)
def Nd.req (n:Nd) (id:Int):Mg:=(mpGet id n.reqs.2).getD .nil
def Nd.lostF:List Int→Nd→List Sd→Nd×List Sd
 | [],n,out=>(n,out)
 | id::l,n,out =>
  let st:=addL n.stalls 1
  Nd.lostF l { n with stalls:=st,opn:=0,reqs:=n.reqs.del id } (out++[sendL (-2) { kind:=10,log:=(n.req id).log,n:=st }])
def Nd.due (n:Nd) (now draw:Nat):Nd×List Sd :=
 let x:=n.t.dueL now draw
 let n:={ n with t:=x.1 }
 Nd.lostF x.2.2 n (x.2.1.map fun id=>sendL (-1-(n.req id).log) (n.req id))
def Nd.ask (n:Nd) (now draw:Nat):Nd×List Sd :=
 let x:=n.s.need
 let m:Mg:={ kind:=5,id:=(n.id%18446744073709551616).toNat }
 if n.opn>0∨n.s.bad≠[] then (n,[]) else
 let go:=fun (n:Nd) (m:Mg) =>
  let y:=n.t.ask n.id now draw
  if y.2≠0 then ({ n with t:=y.1 },[]) else
  ({ n with t:=y.1,reqs:=n.reqs.set n.id m,opn:=n.id,id:=i64w (n.id+1) },[sendL (-1) m])
 if x.2.2 then go n { m with kind:=6,m:=x.1,n:=x.2.1 } else
 if n.next≤now then go { n with next:=addL now n.c.every } m else (n,[])
def Nd.tick (n:Nd) (now draw:Nat):Nd×List Sd :=
 let x:=n.due now draw
 let y:=x.1.ask now draw
 let n:=y.1
 let out:=x.2++y.2
 if n.c.peers=0∨now<n.tell then (n,out) else
 ({ n with turn:=(n.turn+1)%n.c.peers,tell:=addL now n.c.gossip },out++[sendL n.turn { kind:=1,marks:=n.marks }])
def marked (l:List Mk):Mk:=(l.find? fun k=>k.log==0).getD ⟨0,0,[],false⟩
def behind (s:Fs) (k:Mk):Bool:=if s.bad≠[] then false else k.bad||decide (k.size>s.fr.size)||(decide (k.size>0)&&k.size==s.fr.size&&k.root != s.fr.root)
def ahead (s:Fs) (k:Mk):Bool:=decide (s.fr.size>k.size)||(s.fr.size==k.size&&s.fr.root != k.root)||s.pend.any fun h=>h.size==k.size&&h.root==k.root
def Nd.digest (n:Nd) (frm:Int) (m:Mg):Nd×List Sd :=
 let k:=marked m.marks
 let less:=behind n.s k
 let out:=if n.s.bad≠[] then (if !k.bad then [sendL frm n.proof] else []) else if !k.bad&&n.s.has&&ahead n.s k then [sendL frm { kind:=3,h:=n.s.fr }] else []
 (n,if m.kind=1∧less then out++[sendL frm { kind:=2,marks:=n.marks }] else out)
def Nd.heads (n:Nd) (frm:Int) (m:Mg):Nd×List Sd :=
 let x:=n.keep m
 if x.2=6 then (x.1,[sendL frm { kind:=9,log:=m.log }]) else if x.2=5∨x.2=9 then (x.1,[sendL frm x.1.proof]) else if x.2=7 then (x.1.strange,[]) else (x.1,[])
def Nd.proven (n:Nd) (m:Mg):Nd:=let x:=n.keep m; if x.2=7 then x.1.strange else x.1
def Nd.peer (n:Nd) (frm:Int) (s:Bs):Nd×List Sd :=
 let x:=Mg.dec s
 let m:=x.1
 if frm<0∨frm≥n.c.peers∨x.2≠0 ∨ !(m.kind==1||m.kind==2||m.kind==3||m.kind==4||m.kind==9)∨m.log≥1 then (n.strange,[]) else
 if m.kind=3 then n.heads frm m else if m.kind=4 then (n.proven m,[]) else if m.kind=9 then (n,[]) else n.digest frm m
def Nd.answers (n:Nd) (m:Mg):Bool :=
 if m.log≠0∨n.opn=0 then false else
 let q:=n.req n.opn
 m.id==q.id&&((q.kind==5&&m.kind==7)||(q.kind==6&&m.kind==8&&q.m==m.m&&q.n==m.n))
def Nd.log (n:Nd) (s:Bs):Nd :=
 let x:=Mg.dec s
 let m:=x.1
 if x.2≠0 ∨ !n.answers m then n.strange else
 let n:={ n with t:=n.t.done n.opn,reqs:=n.reqs.del n.opn,opn:=0 }
 let m:={ m with kind:=if m.kind=7 then 3 else m.kind,id:=0 }
 let y:=n.keep m
 if y.2=7 then y.1.strange else y.1
def Nd.renew (n:Nd) (steps:Nat):Nd×Int :=
 let recs:=(if n.s.has then [Mg.enc { kind:=3,h:=n.s.fr }] else [])++(n.s.pend.map fun h=>Mg.enc { kind:=3,h:=h })++(if n.s.bad≠[] then [n.proof.enc] else [])
 let x:=n.j.renew recs steps
 ({ n with j:=x.1 },x.2)
structure Ac where
 kind:Int
 a:Int
 b:Int
 n:Nat
 s:Bs
 deriving DecidableEq,Inhabited
structure Pk where
 frm:Int
 dst:Int
 s:Bs
 deriving DecidableEq,Inhabited
structure Pl where
 n:Nd
 view:List Bs:=[]
 deriving DecidableEq,Inhabited
structure Mc where
 secret:Bs
 nodes:Nat
 room:Nat
 every:Nat
 gossip:Nat
 retry:Rc
 deriving DecidableEq,Inhabited
structure Ms where
 c:Mc
 k:Ky
 l:List Pl:=[]
 net:List Pk:=[]
 now:Nat:=0
 deriving DecidableEq,Inhabited
def Ms.conf (m:Ms):Nc:=⟨m.c.nodes-1,m.c.room,m.c.every,m.c.gossip,m.c.retry⟩
def Ms.put (m:Ms) (p:Pk):Ms×Int:=if 64≤m.net.length then (m,8) else ({ m with net:=m.net++[p] },0)
def Ms.send (m:Ms) (i:Nat) (l:List Sd):Ms :=
 l.foldl (fun m x=>if x.1≥(i:Int) then (m.put ⟨i,i64w (x.1+1),x.2⟩).1 else if x.1 < -1 then m else (m.put ⟨i,x.1,x.2⟩).1) m
def Ac.right (a:Ac):Bool:=decide (a.kind≥0)&&decide (a.kind<9)&&(decide (a.a≥0)&&decide (a.a≤255))&&(decide (a.b≥0)&&decide (a.b≤255))&&decide (a.n≤4294967296)&&decide (a.s.length≤4096)
def Ms.has (m:Ms) (i:Int):Bool:=decide (i≥0)&&decide (i<m.l.length)
def Ms.at_ (m:Ms) (i:Nat):Pl:=m.l.getD i default
def Ms.setN (m:Ms) (i:Nat) (n:Nd):Ms:={ m with l:=m.l.set i { m.at_ i with n:=n } }
def Ms.tick (m:Ms) (a:Ac):Ms×Int :=
 if !m.has a.a then (m,1) else
 let m:={ m with now:=(m.now+(1+a.n%8))%18446744073709551616 }
 let i:=a.a.toNat
 let x:=(m.at_ i).n.tick m.now a.n
 ((m.setN i x.1).send i x.2,0)
def Ms.arrive (m:Ms) (p:Pk):Ms :=
 if p.dst = -1 then
  let s:=ansL m.k (m.at_ p.frm.toNat).view m.now p.s
  if s≠[] then (m.put ⟨-1,p.frm,s⟩).1 else m
 else
 let i:=p.dst.toNat
 if p.frm = -1 then m.setN i ((m.at_ i).n.log p.s) else
 let x:=(m.at_ i).n.peer (if p.frm>p.dst then p.frm-1 else p.frm) p.s
 (m.setN i x.1).send i x.2
def Ms.moved (m:Ms) (a:Ac):Ms×Int :=
 if m.net.length=0 then (m,5) else
 let i:=(a.a%m.net.length).toNat
 let p:=m.net.getD i default
 if a.kind=3 then m.put p else
 let m:={ m with net:=m.net.eraseIdx i }
 if a.kind=4 then ((m.put p).1,0) else if a.kind=1 then (m.arrive p,0) else (m,0)
def Ms.leaf (m:Ms) (a:Ac):Ms×Int :=
 let lo:=if m.has a.a then a.a.toNat else 0
 let hi:=if m.has a.a then a.a.toNat+1 else m.l.length
 if ((m.l.take hi).drop lo).any fun x=>decide (12≤x.view.length) then (m,8) else
 ({ m with l:=m.l.take lo++(((m.l.take hi).drop lo).map fun x=>{ x with view:=x.view++[a.s.take 40] })++m.l.drop hi },0)
def Ms.crash (m:Ms) (a:Ac):Ms×Int :=
 if !m.has a.a then (m,1) else
 let i:=a.a.toNat
 let n:=(m.at_ i).n
 let d:=n.j.d.crash a.n
 match Nd.boot m.conf m.k.pub d with
 | some n=>(m.setN i n,0)
 | none=>(m.setN i { n with j:={ n.j with d:=(Jn.open d).d } },3)
def Ms.renew (m:Ms) (a:Ac):Ms×Int :=
 if !m.has a.a then (m,1) else
 let i:=a.a.toNat
 let x:=(m.at_ i).n.renew (a.n%6)
 (m.setN i x.1,x.2)
def Ms.feed (m:Ms) (a:Ac):Ms×Int :=
 if !m.has a.a then (m,1) else
 let i:=a.a.toNat
 if a.b<m.l.length-1 then (let x:=(m.at_ i).n.peer a.b a.s; ((m.setN i x.1).send i x.2,0)) else (m.setN i ((m.at_ i).n.log a.s),0)
def Ms.act (m:Ms) (a:Ac):Ms×Int :=
 if !a.right then (m,1) else
 if a.kind=0 then m.tick a else if a.kind≤4 then m.moved a else if a.kind=5 then m.leaf a else if a.kind=6 then m.crash a else if a.kind=7 then m.renew a else m.feed a
def Ms.ticksF:List Nat→Ms→Ms
 | [],m=>m
 | i::l,m =>
  let m:={ m with now:=addL m.now m.c.gossip }
  let x:=(m.at_ i).n.tick m.now 0
  Ms.ticksF l ((m.setN i x.1).send i x.2)
def Ms.movesF:Nat→Ms→Ms
 | 0,m=>m
 | k+1,m=>let x:=m.moved ⟨1,0,0,0,[]⟩; if x.2≠0 then x.1 else Ms.movesF k x.1
def Ms.round (m:Ms):Ms:=Ms.movesF 200 (Ms.ticksF (List.range m.l.length) m)
def Ms.new (c:Mc):Ms :=
 let k:=keyL c.secret
 let m:Ms:={ c:=c,k:=k }
 { m with l:=List.replicate c.nodes { n:={ c:=m.conf,key:=k.pub,j:={ d:={ room:=100000 } },t:={ c:=c.retry } } } }
def plain (sec:Bs) (nodes:Nat):Mc:=⟨sec,nodes,4,1,3,⟨2,8,0,3,2⟩⟩
def fixedL:Bool :=
 let m:=Ms.new (plain (shaL [116,111,112]) 2)
 let m:=(m.act ⟨5,0,0,0,[97]⟩).1
 let m:=(m.act ⟨5,1,0,0,[98]⟩).1
 let m:=m.round.round.round.round
 Bd.check m.k.pub (m.at_ 0).n.s.bad&&Bd.check m.k.pub (m.at_ 1).n.s.bad&&m.net.length==0
end Go.Proofs.YtdhgpocbcccieaaGreatDoor.M
namespace Go.Proofs.YtdhgpocbcccieaaGreatDoor.M
open Go Go.RowKit Go.Proofs.YtdhgpocbcccieaaGreatDoor.E
variable {G:Gl}
abbrev hdE (h:Hd):List EV:=[.v (.int .u64 (h.size:Nat)),.v (.int .u64 (h.time:Nat)),sv h.root,sv h.sig]
abbrev u64 (n:Nat):EV := .v (.int .u64 (n:Nat))
abbrev i64 (n:Int):EV := .v (.int .i64 n)
abbrev bv (b:Bool):EV := .v (.bool b)
theorem hget_ok (r:Rr):Tri Tryz.prog G 85 [.p 0 0 0] [rdE r] (.a (hdE (Hd.get r).1)) [rdE (Hd.get r).2]:=by
 refine fn Tryz.func85 ?_
 conv=>whnf
 refine cl (lnum_ok r) [0] ?_
 conv=>whnf
 refine cl (lnum_ok (rNm r).2) [0] ?_
 conv=>whnf
 refine cl (ltake_ok 32 _) [0] ?_
 conv=>whnf
 refine cl (ltake_ok 64 _) [0] ?_
 conv=>whnf
 exact cv [0]
theorem hput_ok (h:Hd) (w:Ww) (h1:h.size<18446744073709551616) (h2:h.time<18446744073709551616) (h3:h.root.length≤10000) (h4:h.sig.length≤10000) (hb:w.1.length≤800000):Tri Tryz.prog G 192 [.p 0 0 0,.a (hdE h)] (ws w) (.t []) (ws' (Hd.put w h)):=by
 have l1:=wNum_len w h.size
 have l2:=wNum_len (wNum w h.size) h.time
 have l3:=wRaw_len (wNum (wNum w h.size) h.time) h.root 32
 refine fn Tryz.func192 ?_
 conv=>whnf
 refine cl (lwnum_ok w h.size h1 (by omega)) [0,1] ?_
 conv=>whnf
 refine cl (lwnum_ok (wNum w h.size) h.time h2 (by omega)) [0,3] ?_
 conv=>whnf
 refine cl (lwraw_ok (wNum (wNum w h.size) h.time) h.root 32 (by omega)) [0,4] ?_
 conv=>whnf
 refine cl (lwraw_ok (wRaw (wNum (wNum w h.size) h.time) h.root 32) h.sig 64 (by omega)) [0,5] ?_
 conv=>whnf
 exact cv [0,1,6]
theorem Hd.put_len (h:Hd) (w:Ww):(Hd.put w h).1.length≤w.1.length+20+h.root.length+h.sig.length:=by
 have l1:=wNum_len w h.size
 have l2:=wNum_len (wNum w h.size) h.time
 have l3:=wRaw_len (wNum (wNum w h.size) h.time) h.root 32
 have l4:=wRaw_len (wRaw (wNum (wNum w h.size) h.time) h.root 32) h.sig 64
 unfold Hd.put
 omega
theorem hright_ok (h:Hd):Tri Tryz.prog G 95 [.a (hdE h)] [] (bv h.right) []:=by
 have e:h.right=(decide ((h.size:Int)≥1)&&decide ((h.size:Int)≤1099511627776)&&decide ((h.time:Int)≤1099511627776)&&((sB h.root).size:Int)==32&&((sB h.sig).size:Int)==64):=by
  rw [sB_size,sB_size]
  unfold Hd.right
  rw [Bool.eq_iff_iff]
  simp only [Bool.and_eq_true,decide_eq_true_eq,beq_iff_eq]
  omega
 rw [e]
 refine fn Tryz.func95 ?_
 conv=>whnf
 iterate 8 (all_goals (try (refine br_of (fun h => ?_) (fun h => ?_) <;> rw [h])); all_goals (try conv=>whnf))
 all_goals exact cv []
theorem cmp_lib (a b:Bs):Lib.compareBytes a b=cmpB a b:=by
 induction a generalizing b with
 | nil=>cases b <;> rfl
 | cons x a ih =>
  cases b with
  | nil=>rfl
  | cons y b =>
   unfold Lib.compareBytes cmpB
   rw [ih]
   rfl
theorem scmp_ok (a b:Bs):Tri Tryz.prog G 145 [sv a,sv b] [] (i64 (cmpB a b)) [] :=
 Tri.lift (us:=[.string (sB a),.string (sB b)]) ⟨_,Tryz.func145,by kernel_rfl,rfl⟩ fun w=>(Tryz.strings_Compare (sB a) (sB b) w).mono fun e w' ⟨h1,h2⟩=>⟨_,h1,fun B=>by rw [← cmp_lib]; exact .v _,h2 ▸ Touch.refl _ _⟩
theorem isnan_ok (a:Nat):Tri Tryz.prog G 204 [u64 a] [] (bv false) []:=by
 refine fn Tryz.func204 ?_
 conv=>whnf
 exact cv [] (h4:=⟨.inl (by simp [lk,ren]),trivial⟩)
theorem ncmp_ok (a b:Nat):Tri Tryz.prog G 146 [u64 a,u64 b] [] (i64 (cmpN a b)) []:=by
 refine fn Tryz.func146 ?_
 conv=>whnf
 refine cl (isnan_ok a) [] ?_
 conv=>whnf
 refine cl (isnan_ok b) [] ?_
 conv=>whnf
 unfold cmpN
 refine br_of (fun h => ?_) (fun h => ?_) <;> conv=>whnf
 ·rw [if_pos (by have:=of_decide_eq_true h; omega)]
  exact cv []
 rw [if_neg (by have:=of_decide_eq_false h; omega)]
 refine br_of (fun h => ?_) (fun h => ?_) <;> conv=>whnf
 ·rw [if_pos (by have:=of_decide_eq_true h; omega)]
  exact cv []
 ·rw [if_neg (by have:=of_decide_eq_false h; omega)]
  exact cv []
def orL:List Int→Int
 | []=>0
 | a::l=>if a≠0 then a else orL l
theorem or_ok (l:List Int) (hl:l.length≤1000):Tri Tryz.prog G 144 [.s 0 0 l.length false] [.rs 3 (l.map fun x=>[i64 x])] (i64 (orL l)) [.rs 3 (l.map fun x=>[i64 x])]:=by
 refine fn Tryz.func144 ?_
 conv=>whnf
 refine lp1 (fun (i:Nat)=>([(3,i64 0),(6,.s 0 0 l.length false),(7,i64 (l.length:Nat)),(8,i64 (i:Nat))],[.rs 3 (l.map fun x=>[i64 x])])) (fun i=>i≤l.length∧orL (l.drop i)=orL l) (fun i=>l.length-i) 0 ⟨by omega,rfl⟩ (cv [0]) fun i ⟨hi,hx⟩ => ?_
 conv=>whnf
 refine br_of (fun h1 => ?_) (fun h1 => ?_)
 ·have h1:i<l.length:=by have:=of_decide_eq_true h1; omega
  rw [List.drop_eq_getElem_cons h1] at hx
  conv=>whnf
  refine ⟨by omega,?_⟩
  conv=>whnf
  refine ob_of [i64 l[i]] (by simp [h1]) ?_
  conv=>whnf
  have hx:(if l[i]≠0 then l[i] else orL (l.drop (i+1)))=orL l:=hx
  refine br_of (fun h2 => ?_) (fun h2 => ?_)
  ·rw [if_pos (by simpa using h2)] at hx
   conv=>whnf
   rw [← hx]
   exact cv [0]
  ·rw [if_neg (by simpa using h2)] at hx
   conv=>whnf
   rw [wI64 (n:=(i:Int)+1) (by omega) (by omega)]
   exact ⟨i+1,⟨⟨by omega,hx⟩,by omega⟩,cv [0]⟩
 ·have h1:i=l.length:=by have:=of_decide_eq_false h1; omega
  subst h1
  rw [List.drop_length] at hx
  conv=>whnf
  rw [← hx]
  exact cv [0]
theorem ah1_ok (a b:Hd):Tri Tryz.prog G 143 [.p 0 0 0,.p 1 0 0] [.r 46 (hdE a),.r 46 (hdE b)] (i64 (orI (cmpB a.root b.root) (cmpB a.sig b.sig))) [.r 46 (hdE a),.r 46 (hdE b)]:=by
 refine fn Tryz.func143 ?_
 conv=>whnf
 refine cl (scmp_ok a.root b.root) [] ?_
 conv=>whnf
 refine cl (scmp_ok a.sig b.sig) [] ?_
 conv=>whnf
 refine cl (or_ok [cmpB a.root b.root,cmpB a.sig b.sig] (by simp)) [2] ?_
 conv=>whnf
 refine ⟨rfl,?_⟩
 conv=>whnf
 have e:orL [cmpB a.root b.root,cmpB a.sig b.sig]=orI (cmpB a.root b.root) (cmpB a.sig b.sig):=by
  simp only [orL,orI]
  split <;> (try split) <;> simp_all
 rw [e]
 exact cv [0,1]
theorem hd_eq (a b:Hd):(((a.size:Int)==(b.size:Int))&&(((a.time:Int)==(b.time:Int))&&(((sB a.root).toList==(sB b.root).toList)&&(((sB a.sig).toList==(sB b.sig).toList)&&true))))=decide (a=b):=by
 rw [eqL,eqL,Bool.eq_iff_iff]
 obtain ⟨a1,a2,a3,a4⟩:=a
 obtain ⟨b1,b2,b3,b4⟩:=b
 simp [Int.ofNat_inj]
theorem hd_eqE (a b:Hd):eqI Tryz.prog .eql 46 (.a (hdE a)) (.a (hdE b))=some (bv (decide (a=b))):=by
 rw [eqI_eq,← hd_eq]
 kernel_rfl
theorem ahead_ok (a b:Hd):Tri Tryz.prog G 93 [.a (hdE a),.a (hdE b)] [] (i64 (Hd.ahead a b)) []:=by
 refine fn Tryz.func93 ?_
 conv=>whnf
 refine ob_of _ (hd_eqE a b) ?_
 conv=>whnf
 unfold Hd.ahead
 refine br_of (fun h => ?_) (fun h => ?_) <;> conv=>whnf
 ·rw [if_pos (of_decide_eq_true h)]
  exact cv []
 rw [if_neg (of_decide_eq_false h)]
 refine cl (ncmp_ok a.size b.size) [] ?_
 conv=>whnf
 refine cl (ncmp_ok a.time b.time) [] ?_
 conv=>whnf
 refine cl (ah1_ok a b) [0,1] ?_
 conv=>whnf
 refine cl (or_ok [cmpN a.size b.size,cmpN a.time b.time,orI (cmpB a.root b.root) (cmpB a.sig b.sig)] (by simp)) [2] ?_
 conv=>whnf
 refine ⟨rfl,?_⟩
 conv=>whnf
 have e:orL [cmpN a.size b.size,cmpN a.time b.time,orI (cmpB a.root b.root) (cmpB a.sig b.sig)]=orI (cmpN a.size b.size) (orI (cmpN a.time b.time) (orI (cmpB a.root b.root) (cmpB a.sig b.sig))):=by
  generalize orI (cmpB a.root b.root) (cmpB a.sig b.sig)=x
  generalize cmpN a.size b.size=y
  generalize cmpN a.time b.time=z
  simp only [orL,orI]
  split <;> (try split) <;> (try split) <;> simp_all
 rw [e]
 exact cv []
theorem shaS_L (s:Bs):shaS (sB s)=sB (shaL s):=by kernel_rfl
theorem leafS_L (s:Bs):leafS (sB s)=sB (leafL s):=by kernel_rfl
theorem nodeS_L (l r:Bs):nodeS (sB l) (sB r)=sB (nodeL l r):=by kernel_rfl
theorem lsha_ok (hG:GSha G) (s:Bs) (hs:s.length≤1000000):Tri Tryz.prog G 274 [sv s] [] (sv (shaL s)) []:=by have:=shaS_ok hG (sB s) (by rw [sB_size]; exact hs); rwa [shaS_L] at this
theorem lleaf_ok (hG:GSha G) (s:Bs) (hs:s.length≤1000000):Tri Tryz.prog G 273 [sv s] [] (sv (leafL s)) []:=by have:=leafS_ok hG (sB s) (by rw [sB_size]; exact hs); rwa [leafS_L] at this
theorem lnode_ok (hG:GSha G) (l r:Bs) (hl:l.length≤1000000) (hr:r.length≤1000000):Tri Tryz.prog G 152 [sv l,sv r] [] (sv (nodeL l r)) []:=by have:=nodeS_ok hG (sB l) (sB r) (by rw [sB_size]; exact hl) (by rw [sB_size]; exact hr); rwa [nodeS_L] at this
theorem shaL_len (s:Bs):(shaL s).length=32:=by have:=shaS_size (sB s); rwa [shaS_L,sB_size] at this
theorem leafL_len (s:Bs):(leafL s).length=32:=by have:=leafS_size (sB s); rwa [leafS_L,sB_size] at this
theorem nodeL_len (l r:Bs):(nodeL l r).length=32:=by have:=nodeS_size (sB l) (sB r); rwa [nodeS_L,sB_size] at this
theorem bitLen_log (x:Nat) (h0:0<x) (h:x<18446744073709551616):Lib.bitLen x=x.log2+1:=by
 have key:∀ f x,0<x→x<2 ^ f→Lib.bitLenAux f x=x.log2+1:=by
  intro f
  induction f with
  | zero=>intro x h0 h; simp at h; omega
  | succ f ih =>
   intro x h0 h
   unfold Lib.bitLenAux
   rw [if_neg (by omega)]
   by_cases h1:x<2
   ·have:x=1:=by omega
    subst this
    cases f <;> rfl
   ·rw [ih (x/2) (by omega) (by rw [Nat.pow_succ] at h; omega),Nat.log2_def x,if_pos (by omega)]
    omega
 exact key 64 x h0 h
theorem splitL_lt {n:Nat} (h:1<n):splitL n<n∧0<splitL n∧n-splitL n≤splitL n:=by
 unfold splitL
 rw [if_neg (by omega)]
 have h1:=Nat.log2_self_le (n:=n-1) (by omega)
 have h2:=Nat.lt_log2_self (n:=n-1)
 rw [Nat.pow_succ] at h2
 have h3:0<2 ^ (n-1).log2:=Nat.two_pow_pos _
 omega
theorem splitL_pow {n k:Nat} (h:n≤2 ^ (k+1)):splitL n≤2 ^ k:=by
 unfold splitL
 split
 ·exact Nat.zero_le _
 ·refine Nat.pow_le_pow_right (by decide) ?_
  have:(n-1).log2<k+1:=(Nat.log2_lt (by omega)).2 (by omega)
  omega
theorem split_ok (n:Nat) (hn:n<18446744073709551616):Tri Tryz.prog G 207 [u64 n] [] (u64 (splitL n)) []:=by
 refine fn Tryz.func207 ?_
 conv=>whnf
 unfold splitL
 refine br_of (fun h => ?_) (fun h => ?_) <;> conv=>whnf
 ·rw [if_pos (by have:=of_decide_eq_true h; omega)]
  exact cv []
 have h:=of_decide_eq_false h
 rw [if_neg (by omega),wU64 (n:=(n:Int)-1) (by omega) (by omega)]
 have hl:Tri Tryz.prog G 254 [.v (.int .u64 ((n:Int)-1))] [] (i64 ((n-1).log2+1:Nat)) [] :=
  Tri.lift (us:=[.int .u64 ((n:Int)-1)]) ⟨_,Tryz.func254,by kernel_rfl,rfl⟩ fun w=>(Tryz.bits_Len64 ((n:Int)-1) w (by omega) (by omega)).mono fun e w' ⟨h1,h2⟩=>⟨_,h1,fun B=>by rw [show ((n:Int)-1).toNat=n-1 by omega,bitLen_log (n-1) (by omega) (by omega)]; exact .v _,h2 ▸ Touch.refl _ _⟩
 refine cl hl [] ?_
 conv=>whnf
 have hk:(n-1).log2<64:=(Nat.log2_lt (by omega)).2 (by omega)
 rw [wI64 (n:=(((n-1).log2+1:Nat):Int)-1) (by omega) (by omega),show (((n-1).log2+1:Nat):Int)-1=((n-1).log2:Nat) by omega]
 conv=>whnf
 have h2:(2:Nat) ^ (n-1).log2<2 ^ 64:=Nat.pow_lt_pow_right (by decide) hk
 refine cv [] (h4:=⟨.inl ?_,trivial⟩)
 show EV.v _=EV.v _
 rw [show min ((((n-1).log2:Nat):Int).toNat) IntKind.u64.bits=(n-1).log2 from Nat.min_eq_left (by simp [IntKind.bits]; omega),Int.one_mul,show ((2:Int) ^ (n-1).log2)=((2 ^ (n-1).log2:Nat):Int) from by simp,wU64 (by exact Int.natCast_nonneg _) (by omega)]
abbrev sR (l:List Bs):List (List EV):=l.map fun s=>[sv s]
abbrev sRs (l:List Bs):EB := .rs 9 (sR l)
theorem sR_at {l:List Bs} {i:Nat} (h:i<l.length):(sR l)[i]? = some [sv l[i]]:=by simp [h]
theorem rootF_one (k:Nat) (x:Bs):rootF (k+1) [x]=leafL x:=by unfold rootF; exact if_pos rfl
theorem rootF_cut (k:Nat) (L:List Bs) (h:L.length≠1):rootF (k+1) L=nodeL (rootF k (L.take (splitL L.length))) (rootF k (L.drop (splitL L.length))):=by rw [rootF,if_neg h]
theorem rootF_len (k:Nat) (l:List Bs):(rootF (k+1) l).length=32:=by
 unfold rootF
 split
 ·exact leafL_len _
 ·exact nodeL_len _ _
abbrev rootH (xs:List Bs) (i n:Nat):List EB:=[.r 52 [.s 2 i n false],.r 346 [.f 272 [] [.p 0 0 0,.p 1 0 0]],sRs xs]
theorem root1_ok (hG:GSha G) (xs:List Bs) (i n:Nat) (hx:∀ x∈xs,x.length≤100000) (hn:i+n≤xs.length) (hs:n≤1000000000):∀ (k a b:Nat),a<b→b≤n→b-a≤2 ^ k →
  Tri Tryz.prog G 272 [i64 a,i64 b,.p 0 0 0,.p 1 0 0] (rootH xs i n) (sv (rootF (k+1) ((xs.drop (i+a)).take (b-a)))) (rootH xs i n):=by
 intro k
 induction k with
 | zero =>
  intro a b h1 h2 h3
  have hb:b=a+1:=by omega
  subst hb
  refine fn Tryz.func272 ?_
  conv=>whnf
  refine br_t (by rw [wI64 (by omega) (by omega)]; simp; omega) ?_
  conv=>whnf
  refine ⟨by omega,?_⟩
  conv=>whnf
  refine ob_of _ (sR_at (l:=xs) (i:=i+a) (by omega)) ?_
  conv=>whnf
  refine cl (lleaf_ok hG xs[i+a] (by have:=hx _ (List.getElem_mem (l:=xs) (n:=i+a) (by omega)); omega)) [] ?_
  conv=>whnf
  rw [show ((xs.drop (i+a)).take (a+1-a))=[xs[i+a]] from by rw [List.drop_eq_getElem_cons (by omega),show a+1-a=1 by omega]; rfl,rootF_one]
  exact cv [0,1,2]
 | succ k ih =>
  intro a b h1 h2 h3
  refine fn Tryz.func272 ?_
  conv=>whnf
  rw [wI64 (n:=(b:Int)-a) (by omega) (by omega)]
  refine br_of (fun h => ?_) (fun h => ?_)
  ·have h:b=a+1:=by have:=eq_of_beq h; omega
   subst h
   conv=>whnf
   refine ⟨by omega,?_⟩
   conv=>whnf
   refine ob_of _ (sR_at (l:=xs) (i:=i+a) (by omega)) ?_
   conv=>whnf
   refine cl (lleaf_ok hG xs[i+a] (by have:=hx _ (List.getElem_mem (l:=xs) (n:=i+a) (by omega)); omega)) [] ?_
   conv=>whnf
   rw [show ((xs.drop (i+a)).take (a+1-a))=[xs[i+a]] from by rw [List.drop_eq_getElem_cons (by omega),show a+1-a=1 by omega]; rfl,rootF_one]
   exact cv [0,1,2]
  have h:¬ b=a+1:=fun e=>by subst e; simp at h; omega
  conv=>whnf
  rw [wI64 (n:=(b:Int)-a) (by omega) (by omega),wU64 (n:=(b:Int)-a) (by omega) (by omega),show (b:Int)-a=((b-a:Nat):Int) by omega]
  refine cl (split_ok (b-a) (by omega)) [] ?_
  have hsp:=splitL_lt (n:=b-a) (by omega)
  have hsk:=splitL_pow h3
  conv=>whnf
  rw [wI64 (n:=((splitL (b-a):Nat):Int)) (by omega) (by omega),wI64 (n:=(a:Int)+(splitL (b-a):Nat)) (by omega) (by omega),show (a:Int)+(splitL (b-a):Nat)=((a+splitL (b-a):Nat):Int) by omega]
  conv=>whnf
  refine clQ (ih a (a+splitL (b-a)) (by omega) (by omega) (by omega)) [0,1,2] ?_
  conv=>whnf
  refine clQ (ih (a+splitL (b-a)) b (by omega) (by omega) (by omega)) [0,1,2] ?_
  conv=>whnf
  have g1:=rootF_len k ((xs.drop (i+a)).take (a+splitL (b-a)-a))
  have g2:=rootF_len k ((xs.drop (i+(a+splitL (b-a)))).take (b-(a+splitL (b-a))))
  refine cl (lnode_ok hG (rootF (k+1) ((xs.drop (i+a)).take (a+splitL (b-a)-a))) (rootF (k+1) ((xs.drop (i+(a+splitL (b-a)))).take (b-(a+splitL (b-a))))) (by omega) (by omega)) [] ?_
  conv=>whnf
  refine ⟨rfl,?_⟩
  conv=>whnf
  have hl:((xs.drop (i+a)).take (b-a)).length=b-a:=by simp; omega
  have e:rootF (k+1+1) ((xs.drop (i+a)).take (b-a))=nodeL (rootF (k+1) ((xs.drop (i+a)).take (a+splitL (b-a)-a))) (rootF (k+1) ((xs.drop (i+(a+splitL (b-a)))).take (b-(a+splitL (b-a))))):=by
   rw [rootF_cut _ _ (by omega),hl,List.take_take,List.drop_take,List.drop_drop,Nat.min_eq_left (by omega),show a+splitL (b-a)-a=splitL (b-a) by omega,show i+(a+splitL (b-a))=i+a+splitL (b-a) by omega,show b-(a+splitL (b-a))=b-a-splitL (b-a) by omega]
  rw [e]
  exact cv [0,1,2]
theorem root_ok (hG:GSha G) (xs:List Bs) (i n:Nat) (hx:∀ x∈xs,x.length≤100000) (hn:i+n≤xs.length) (hs:n≤1000000000):Tri Tryz.prog G 243 [.s 0 i n false] [sRs xs] (sv (rootL ((xs.drop i).take n))) [sRs xs]:=by
 have hl:((xs.drop i).take n).length=n:=by simp; omega
 refine fn Tryz.func243 ?_
 conv=>whnf
 unfold rootL
 rw [hl]
 refine br_of (fun h => ?_) (fun h => ?_) <;> conv=>whnf
 ·have h:n=0:=by have:=eq_of_beq h; omega
  subst h
  refine cl (lsha_ok hG [] (by decide)) [] ?_
  conv=>whnf
  exact cv [0]
 have h:n≠0:=fun e=>by subst e; simp at h
 rw [if_neg h]
 refine clQ (root1_ok hG xs i n hx hn hs 63 0 n (by omega) (by omega) (by omega)) [1,2,0] ?_
 conv=>whnf
 exact cv [0]
theorem nilQ_b {ne:Bool} {n:Nat} (u:Value) (h:nilQ ne n u):∃ b,u = .bool b:=by rcases h with h | h; exact ⟨_,h⟩; exact ⟨_,h.1⟩
theorem nilQ_t {n:Nat} (h:nilQ false n (.bool true)):n=0:=by rcases h with h | h; cases h; exact h.2
abbrev hdR (l:List Hd):List (List EV):=l.map hdE
abbrev hdRs (l:List Hd):EB := .rs 46 (hdR l)
abbrev pkE (p:Pk):List EV:=[i64 p.frm,i64 p.dst,sv p.s]
abbrev pkR (l:List Pk):List (List EV):=l.map pkE
abbrev pkRs (l:List Pk):EB := .rs 41 (pkR l)
abbrev mkE (k:Mk):List EV:=[i64 k.log,u64 k.size,sv k.root,bv k.bad]
abbrev mkR (l:List Mk):List (List EV):=l.map mkE
abbrev mkRs (l:List Mk):EB := .rs 219 (mkR l)
theorem cloneS_ok (l:List Bs) (hl:l.length≤1000000):Tri Tryz.prog G 39 [.s 0 0 l.length false] [sRs l] (.s 1 0 l.length false) [sRs l,sRs l]:=by
 refine fn Tryz.func39 ?_
 conv=>whnf
 refine ⟨nilQ_b,fun h => ?_,fun _ => ?_⟩ <;> conv=>whnf
 ·have h:=List.eq_nil_of_length_eq_zero (nilQ_t h)
  subst h
  exact cv [0,9]
 ·refine ⟨⟨rfl,by simp⟩,?_⟩
  conv=>whnf
  refine ⟨rfl,?_⟩
  conv=>whnf
  refine ⟨⟨by omega,by simp⟩,?_⟩
  conv=>whnf
  exact cv [0,2] (h4:=⟨.inl (by simp [lk,ren]),trivial⟩) (h5:=⟨.inl rfl,.inl (by simp),trivial⟩)
theorem cloneH_ok (l:List Hd) (hl:l.length≤1000000):Tri Tryz.prog G 38 [.s 0 0 l.length false] [hdRs l] (.s 1 0 l.length false) [hdRs l,hdRs l]:=by
 refine fn Tryz.func38 ?_
 conv=>whnf
 refine ⟨nilQ_b,fun h => ?_,fun _ => ?_⟩ <;> conv=>whnf
 ·have h:=List.eq_nil_of_length_eq_zero (nilQ_t h)
  subst h
  exact cv [0,9]
 ·refine ⟨⟨rfl,by simp⟩,?_⟩
  conv=>whnf
  refine ⟨rfl,?_⟩
  conv=>whnf
  refine ⟨⟨by omega,by simp⟩,?_⟩
  conv=>whnf
  exact cv [0,2] (h4:=⟨.inl (by simp [lk,ren]),trivial⟩) (h5:=⟨.inl rfl,.inl (by simp),trivial⟩)
theorem cloneP_ok (l:List Pk) (hl:l.length≤1000000):Tri Tryz.prog G 34 [.s 0 0 l.length false] [pkRs l] (.s 1 0 l.length false) [pkRs l,pkRs l]:=by
 refine fn Tryz.func34 ?_
 conv=>whnf
 refine ⟨nilQ_b,fun h => ?_,fun _ => ?_⟩ <;> conv=>whnf
 ·have h:=List.eq_nil_of_length_eq_zero (nilQ_t h)
  subst h
  exact cv [0,9]
 ·refine ⟨⟨rfl,by simp⟩,?_⟩
  conv=>whnf
  refine ⟨rfl,?_⟩
  conv=>whnf
  refine ⟨⟨by omega,by simp⟩,?_⟩
  conv=>whnf
  exact cv [0,2] (h4:=⟨.inl (by simp [lk,ren]),trivial⟩) (h5:=⟨.inl rfl,.inl (by simp),trivial⟩)
def idxA {α:Type} (p:α→Bool):Nat→List α→Int
 | _,[] => -1
 | i,x::l=>if p x then (i:Int) else idxA p (i+1) l
theorem idxA_eq {α:Type} (p:α→Bool) (l:List α):∀ i,idxA p i l=if l.findIdx p<l.length then ((i+l.findIdx p:Nat):Int) else -1:=by
 induction l with
 | nil=>intro i; rfl
 | cons x l ih =>
  intro i
  unfold idxA
  rw [ih,List.findIdx_cons]
  cases h:p x with
  | true=>simp
  | false =>
   simp only [Bool.false_eq_true,if_false,cond_false,List.length_cons]
   by_cases h2:l.findIdx p<l.length
   ·rw [if_pos h2,if_pos (by omega)]; omega
   ·rw [if_neg h2,if_neg (by omega)]
theorem idxA_nn {α:Type} (p:α→Bool) (l:List α) (i:Nat):decide (idxA p i l≥0)=l.any p:=by
 induction l generalizing i with
 | nil=>rfl
 | cons x l ih =>
  unfold idxA
  rw [List.any_cons]
  cases p x with
  | true=>simp
  | false=>simp [ih]
theorem idxS_ok (l:List Bs) (hl:l.length≤1000000) (g:Nat) (p:Bs→Bool) (hp:∀ s,Tri Tryz.prog G g [sv s] [] (bv (p s)) []):Tri Tryz.prog G 170 [.s 0 0 l.length false,.f g [] []] [sRs l] (i64 (idxA p 0 l)) [sRs l]:=by
 refine fn Tryz.func170 ?_
 conv=>whnf
 refine lp1 (fun (i:Nat)=>([(0,.s 0 0 l.length false),(1,.f g [] []),(6,.s 0 0 l.length false),(7,i64 (l.length:Nat)),(8,i64 (i:Nat))],[sRs l])) (fun i=>i≤l.length∧idxA p i (l.drop i)=idxA p 0 l) (fun i=>l.length-i) 0 ⟨by omega,rfl⟩ (cv [0]) fun i ⟨hi,hx⟩ => ?_
 conv=>whnf
 refine br_of (fun h1 => ?_) (fun h1 => ?_) <;> conv=>whnf
 ·have h1:i<l.length:=by have:=of_decide_eq_true h1; omega
  rw [List.drop_eq_getElem_cons h1] at hx
  refine ⟨by omega,?_⟩
  conv=>whnf
  refine ob_of ((fun s=>[sv s]) l[i]) (by simp [h1]) ?_
  conv=>whnf
  refine clQ (hp l[i]) [] ?_
  conv=>whnf
  have hx:(if p l[i] then (i:Int) else idxA p (i+1) (l.drop (i+1)))=idxA p 0 l:=hx
  refine br_of (fun h2 => ?_) (fun h2 => ?_) <;> conv=>whnf
  ·rw [if_pos h2] at hx
   rw [← hx]
   exact cv [0]
  ·rw [if_neg (fun e=>Bool.noConfusion (e.symm.trans h2))] at hx
   rw [wI64 (n:=(i:Int)+1) (by omega) (by omega)]
   exact ⟨i+1,⟨⟨by omega,hx⟩,by omega⟩,cv [0]⟩
 ·have h1:i=l.length:=by have:=of_decide_eq_false h1; omega
  subst h1
  rw [List.drop_length] at hx
  rw [← hx]
  exact cv [0]
theorem has_ok (l:List Bs) (hl:l.length≤1000000) (g:Nat) (p:Bs→Bool) (hp:∀ s,Tri Tryz.prog G g [sv s] [] (bv (p s)) []):Tri Tryz.prog G 107 [.s 0 0 l.length false,.f g [] []] [sRs l] (bv (l.any p)) [sRs l]:=by
 refine fn Tryz.func107 ?_
 conv=>whnf
 refine clQ (idxS_ok l hl g p hp) [0] ?_
 conv=>whnf
 rw [idxA_nn]
 exact cv [0]
theorem eqSs_ok (l:List Bs) (hl:l.length≤1000000):Tri Tryz.prog G 138 [.s 0 0 l.length false,.s 0 0 l.length false] [sRs l] (bv true) [sRs l]:=by
 refine fn Tryz.func138 ?_
 conv=>whnf
 refine br_of (fun h => ?_) (fun h => ?_) <;> conv=>whnf
 ·simp at h
 refine lp1 (fun (i:Nat)=>([(0,.s 0 0 l.length false),(1,.s 0 0 l.length false),(12,i64 (l.length:Nat)),(13,i64 (i:Nat))],[sRs l])) (fun i=>i≤l.length) (fun i=>l.length-i) 0 (Nat.zero_le _) (cv [0]) fun i hi => ?_
 conv=>whnf
 refine br_of (fun h1 => ?_) (fun h1 => ?_) <;> conv=>whnf
 ·have h1:i<l.length:=by have:=of_decide_eq_true h1; omega
  have h2:i<l.length:=by omega
  refine ⟨by omega,?_⟩
  conv=>whnf
  refine ob_of ((fun s=>[sv s]) l[i]) (by simp [h1]) ?_
  conv=>whnf
  refine ⟨by omega,?_⟩
  conv=>whnf
  refine ob_of ((fun s=>[sv s]) l[i]) (by simp [h2]) ?_
  conv=>whnf
  rw [eqL]
  conv=>whnf
  refine ⟨rfl,?_⟩
  conv=>whnf
  refine br_of (fun h3 => ?_) (fun h3 => ?_) <;> conv=>whnf
  ·simp at h3
  ·rw [wI64 (n:=(i:Int)+1) (by omega) (by omega)]
   exact ⟨i+1,⟨h1,by omega⟩,cv [0]⟩
 ·exact cv [0]
theorem mk_eq (a b:Mk):((a.log==b.log)&&(((a.size:Int)==(b.size:Int))&&(((sB a.root).toList==(sB b.root).toList)&&((a.bad==b.bad)&&true))))=decide (a=b):=by
 rw [eqL,Bool.eq_iff_iff]
 obtain ⟨a1,a2,a3,a4⟩:=a
 obtain ⟨b1,b2,b3,b4⟩:=b
 simp [Int.ofNat_inj]
theorem mk_neE (a b:Mk):eqI Tryz.prog .neq 219 (.a (mkE a)) (.a (mkE b))=some (bv (!decide (a=b))):=by
 rw [eqI_eq,← mk_eq]
 kernel_rfl
theorem eqMs_ok (l:List Mk) (hl:l.length≤1000000):Tri Tryz.prog G 139 [.s 0 0 l.length false,.s 0 0 l.length false] [mkRs l] (bv true) [mkRs l]:=by
 refine fn Tryz.func139 ?_
 conv=>whnf
 refine br_of (fun h => ?_) (fun h => ?_) <;> conv=>whnf
 ·simp at h
 refine lp1 (fun (i:Nat)=>([(0,.s 0 0 l.length false),(1,.s 0 0 l.length false),(12,i64 (l.length:Nat)),(13,i64 (i:Nat))],[mkRs l])) (fun i=>i≤l.length) (fun i=>l.length-i) 0 (Nat.zero_le _) (cv [0]) fun i hi => ?_
 conv=>whnf
 refine br_of (fun h1 => ?_) (fun h1 => ?_) <;> conv=>whnf
 ·have h1:i<l.length:=by have:=of_decide_eq_true h1; omega
  have h2:i<l.length:=by omega
  refine ⟨by omega,?_⟩
  conv=>whnf
  refine ob_of (mkE l[i]) (by simp [h1]) ?_
  conv=>whnf
  refine ⟨by omega,?_⟩
  conv=>whnf
  refine ob_of (mkE l[i]) (by simp [h2]) ?_
  conv=>whnf
  refine ob_of _ (mk_neE l[i] l[i]) ?_
  conv=>whnf
  refine ⟨rfl,?_⟩
  conv=>whnf
  refine br_of (fun h3 => ?_) (fun h3 => ?_) <;> conv=>whnf
  ·simp at h3
  ·rw [wI64 (n:=(i:Int)+1) (by omega) (by omega)]
   exact ⟨i+1,⟨h1,by omega⟩,cv [0]⟩
 ·exact cv [0]
end Go.Proofs.YtdhgpocbcccieaaGreatDoor.M
namespace Go.Proofs.YtdhgpocbcccieaaGreatDoor.E
open Go Go.RowKit
section
variable {P:Program} {G:Gl}
def gtQ (l:Nat) (N:Act→World→Prop) (Q:Exit→Act→World→Prop):Exit→Act→World→Prop
 | .goto l',a,w=>l'=l∧N a w
 | e,a,w=>Q e a w
theorem wp_scope_goto {c1 c2:Code} {l:Nat} {Q:Exit→Act→World→Prop} {a:Act} {w:World} (hl:findLabel (c1.seq ((Code.label l).seq c2)) l=some (Code.skip.seq c2)) (I:Nat→Act→World→Prop)
  (h1:c1.wp P (fun e a w=>e = .normal∧∃ n,I n a w) a w) (h2:∀ n a w,I n a w→c2.wp P (gtQ l (fun a' w'=>∃ m,m<n∧I m a' w') Q) a w):(Code.scope (c1.seq ((Code.label l).seq c2))).wp P Q a w:=by
 intro b k cs
 obtain ⟨c,hc⟩:∃ c,c=c1.seq ((Code.label l).seq c2):=⟨_,rfl⟩
 have key:∀ n a w,I n a w→∃ e a' w',Q e a' w'∧Arrives P (lone (b.at a (.code c2 :: .inScope c::k)) cs w) b k cs e a' w':=by
  intro n
  induction n using Nat.strongRecOn with
  | _ n ih =>
   intro a w hI
   obtain ⟨e,a₁,w₁,hq,harr⟩:=h2 n a w hI b (.inScope c::k) cs
   cases e with
   | normal=>exact ⟨.normal,a₁,w₁,hq,Steps.trans harr (.one step_inScope)⟩
   | exit id=>exact ⟨.exit id,a₁,w₁,hq,fun k' hk=>harr k' (by simp [exitTo,hk])⟩
   | goto l' =>
    obtain ⟨rfl,m,hlt,hI₁⟩:=hq
    obtain ⟨e₂,a₂,w₂,hq₂,harr₂⟩:=ih m hlt a₁ w₁ hI₁
    exact ⟨e₂,a₂,w₂,hq₂,.of_steps (harr (.code (Code.skip.seq c2) :: .inScope c::k) (by rw [← hc] at hl; simp only [gotoIn,hl])) (.of_steps (.one step_seq) (.of_steps (.one step_skip) harr₂))⟩
   | ret=>exact ⟨_,a₁,w₁,hq,harr⟩
   | panic ch=>exact ⟨_,a₁,w₁,hq,harr⟩
   | outgrown=>exact ⟨_,a₁,w₁,hq,harr⟩
 obtain ⟨e,a₁,w₁,⟨rfl,n,hI⟩,harr⟩:=h1 b (.code ((Code.label l).seq c2) :: .inScope c::k) cs
 obtain ⟨e₂,a₂,w₂,hq₂,harr₂⟩:=key n a₁ w₁ hI
 refine ⟨e₂,a₂,w₂,hq₂,.of_steps (.one step_scope) (.of_steps (.one ?_) (.of_steps harr (.of_steps (.one step_seq) (.of_steps (.one step_label) harr₂))))⟩
 rw [hc]
 exact step_seq
theorem Tri.ofG {f:FuncId} {fn:Func} {c0 c1 c2:Code} {l:Nat} {args:List EV} {H H':List EB} {r:EV} (hm:P.follows .mixedOrders=true) (hfn:P.funcs[f]? = some fn) (hname:(fn.name == "runtime.NumGoroutine")=false)
  (hb:fn.body=some (c0.seq (.scope (c1.seq ((Code.label l).seq c2))))) (hN:(codeOk fn.ntmps c0&&codeOk fn.ntmps c1&&codeOk fn.ntmps c2&&Nat.ble args.length fn.ntmps)=true) (hl:findLabel (c1.seq ((Code.label l).seq c2)) l=some (Code.skip.seq c2))
  {X:Type} (I:X→TL×List EB) (p:X→Prop) (m:X→Nat)
  (h:goC P G H.length c0 (argT 0 args) H (fun T1 H1=>goC P G H.length c1 T1 H1 (fun T2 H2=>∃ x0,p x0∧Cov H.length T2 H2 (I x0)) (fun _ _ _=>False) (fun _ _=>False)) (fun _ _ _=>False) (fun _ _=>False))
  (h2:∀ x,p x→goC P G H.length c2 (I x).1 (I x).2 (fun T H1=>retK P T H1 fn.results.toList fun x=>Cov H.length [(0,x)] H1 ([(0,r)],H')) (fun i T' H1=>br (Nat.beq i (1000000+l)) (∃ x',(p x'∧m x'<m x)∧Cov H.length T' H1 (I x')) False) (fun T H1=>retK P T H1 fn.results.toList fun x=>Cov H.length [(0,x)] H1 ([(0,r)],H'))):Tri P G f args H r H':=by
 simp only [Bool.and_eq_true] at hN
 obtain ⟨⟨⟨hN0,hN1⟩,hN2⟩,hNa⟩:=hN
 have hNa:args.length≤fn.ntmps:=Nat.le_of_ble_eq_true hNa
 refine ⟨⟨fn,hfn,hname,by rw [hb]; rfl⟩,fun S0 w0 B w as_ has hw => ?_⟩
 have hsz:as_.size=args.length:=has.1.symm
 have h0:∀ L q,B L=some q→L<H.length:=fun L q hq=>by
  apply Classical.byContradiction
  intro hn
  have:hf H L = .n:=by simp [hf,List.getD_eq_getElem?_getD,List.getElem?_eq_none (show H.length≤L by omega)]
  rw [hw.n L this] at hq
  cases hq
 refine calls_of_wp hfn hb ?_
 have fin:∀ T' H1 a' w',retK P T' H1 fn.results.toList (fun x=>Cov H.length [(0,x)] H1 ([(0,r)],H'))→FitE P G S0 w0 fn.ntmps [] B T' H1 a' w'→a'.defers=[]∧∃ v,(results fn a'.tmps).run P w' = .ok v w'∧∃ B' v',Ending.returned v = .returned v'∧B.le B'∧ER B' r v'∧Wd P G S0 w0 B' (hf H') w':=fun T' H1 a' w' hk hfit=>by
  obtain ⟨B1,hle,hwd,htm,_,hdf⟩:=hfit
  obtain ⟨x,hcov,hr⟩:=retK_ok (G:=G) hk
  obtain ⟨u,h1,h2⟩:=hr S0 w0 B1 a'.tmps w' hwd htm
  have hfit2:FitE P G S0 w0 1 [] B [(0,x)] H1 { tmps := #[u],defers:=[] } w':=⟨B1,hle,hwd,fun t=>by
   show ER B1 (if 0=t then x else .j) _
   by_cases e:0=t
   ·subst e; simpa using h2
   ·rw [if_neg e]; exact .j _,rfl,rfl⟩
  obtain ⟨B2,hle2,hwd2,htm2,_,_⟩:=hcov.fit h0 hfit2
  exact ⟨hdf,u,h1,B2,u,rfl,hle2,by simpa [lk] using htm2 0,hwd2⟩
 refine wp_seq (goC_sound (N:=fn.ntmps) (df:=[]) hm h0 c0 _ _ _ _ _ _ _ _ hN0 h ⟨B,Bm.le.refl _,hw,fun t => ?_,by simp; omega,rfl⟩ (fun T1 H1 a1 w1 k1 f1 => ?_) (fun _ _ _ _ _ h=>h.elim) (fun _ _ _ _ h=>h.elim))
 ·rw [lk_argT,if_pos (Nat.zero_le _),Nat.sub_zero]
  by_cases ht:t<args.length
  ·rw [List.getD_eq_getElem?_getD,List.getElem?_eq_getElem ht,Option.getD_some]
   refine has.2 t _ _ (List.getElem?_eq_getElem ht) ?_
   have h1:(as_++Array.replicate (fn.ntmps-as_.size) undef)[t]? = as_[t]? := Array.getElem?_append_left (by omega)
   show as_[t]? = some ((as_++Array.replicate (fn.ntmps-as_.size) undef).getD t undef)
   rw [Array.getD_eq_getD_getElem?,h1,Array.getElem?_eq_getElem (by omega)]
   rfl
  ·rw [List.getD_eq_getElem?_getD,List.getElem?_eq_none (by omega)]
   exact .j _
 refine wp_scope_goto hl (fun n a w=>∃ x,m x=n∧p x∧FitE P G S0 w0 fn.ntmps [] B (I x).1 (I x).2 a w) (goC_sound (N:=fn.ntmps) (df:=[]) hm h0 c1 _ _ _ _ _ _ _ _ hN1 k1 f1 (fun T2 H2 a2 w2 k2 f2 => ?_) (fun _ _ _ _ _ h=>h.elim) (fun _ _ _ _ h=>h.elim)) fun n a w ⟨x,hxn,hpx,hfx⟩ => ?_
 ·obtain ⟨x0,hp,hc⟩:=k2
  exact ⟨rfl,m x0,x0,rfl,hp,hc.fit h0 f2⟩
 ·refine goC_sound (N:=fn.ntmps) (df:=[]) hm h0 c2 _ _ _ _ _ _ _ _ hN2 (h2 x hpx) hfx fin (fun i T' H1 a' w' hk hf' => ?_) fin
  rcases br_inv hk with ⟨he,x',⟨hp',hlt⟩,hc'⟩ | ⟨_,hk⟩
  ·have he:i=1000000+l:=Nat.eq_of_beq_eq_true he
   subst he
   rw [exO,if_neg (by omega),show 1000000+l-1000000=l by omega]
   exact ⟨rfl,m x',hxn ▸ hlt,x',rfl,hp',hc'.fit h0 hf'⟩
  ·exact hk.elim
end
end Go.Proofs.YtdhgpocbcccieaaGreatDoor.E
namespace Go.Proofs.YtdhgpocbcccieaaGreatDoor.M
open Go Go.RowKit Go.Proofs.YtdhgpocbcccieaaGreatDoor.E
variable {G:Gl}
abbrev stR (l:List (Bool×Nat)):List (List EV):=l.map fun s=>[bv s.1,u64 s.2]
abbrev stRs (l:List (Bool×Nat)):EB := .rs 233 (stR l)
theorem steps_len:∀ (f m n:Nat),(stepsF f m n).length≤f:=by
 intro f
 induction f with
 | zero=>intro m n; simp [stepsF]
 | succ f ih=>intro m n; unfold stepsF; split <;> (try (dsimp only; split)) <;> simp <;> exact ih _ _
theorem steps_ok (m n:Nat) (hm:1≤m) (hm2:m<18446744073709551616) (hn:n<18446744073709551616):Tri Tryz.prog G 151 [u64 m,u64 n] [] (.s 0 0 (stepsL m n).length false) [stRs (stepsL m n)]:=by
 refine Tri.ofG (by kernel_rfl) Tryz.func151 (by kernel_rfl) rfl (by kernel_rfl) rfl (X:=List (Bool×Nat)×Nat×Nat×Nat)
  (fun (acc,a,b,_)=>([(0,u64 a),(1,u64 b),(5,.s 0 0 acc.length false)],[stRs acc])) (fun (acc,a,b,f)=>(1≤a∧a<18446744073709551616)∧(b≤2 ^ f∧b<18446744073709551616)∧(acc.length+f=64)∧acc++stepsF f a b=stepsL m n) (fun (_,_,_,f)=>f) ?_ ?_
 ·conv=>whnf
  exact ⟨([],m,n,64),⟨⟨hm,hm2⟩,⟨by omega,hn⟩,rfl,rfl⟩,cv [0]⟩
 ·rintro ⟨acc,a,b,f⟩ ⟨⟨ha,ha2⟩,⟨hb,hb2⟩,hl,hx⟩
  conv=>whnf
  refine br_of (fun h => ?_) (fun h => ?_) <;> conv=>whnf
  ·have h:a<b:=by have:=of_decide_eq_true h; omega
   obtain ⟨g,rfl⟩:∃ g,f=g+1:=⟨f-1,by have:f≠0:=fun e=>by subst e; simp at hb; omega
                                     omega⟩
   have hsp:=splitL_lt (n:=b) (by omega)
   have hsk:=splitL_pow hb
   refine cl (split_ok b hb2) [] ?_
   conv=>whnf
   refine ⟨⟨rfl,rfl⟩,?_⟩
   conv=>whnf
   refine ⟨by simp,?_⟩
   conv=>whnf
   refine ⟨⟨by omega,by simp⟩,?_⟩
   conv=>whnf
   unfold stepsF at hx
   rw [if_pos h] at hx
   dsimp only at hx
   have e1:decide ((a:Int)≤(splitL b:Nat))=decide (a≤splitL b):=by simp [Int.ofNat_le]
   rw [e1]
   refine br_of (fun h2 => ?_) (fun h2 => ?_) <;> conv=>whnf
   ·have h3:=of_decide_eq_true h2
    rw [if_pos h3] at hx
    refine ⟨(acc++[(true,splitL b)],a,splitL b,g),⟨⟨⟨ha,ha2⟩,⟨hsk,by omega⟩,by simp; omega,by simpa using hx⟩,Nat.lt_succ_self g⟩,?_⟩
    rw [h2]
    exact cv [2] (h4:=⟨.inl rfl,.inl rfl,.inl (by simp [lk,ren]),trivial⟩) (h5:=⟨.inl (by simp),trivial⟩)
   ·have h3:=of_decide_eq_false h2
    rw [if_neg h3] at hx
    rw [wU64 (n:=(a:Int)-(splitL b:Nat)) (by omega) (by omega),wU64 (n:=(b:Int)-(splitL b:Nat)) (by omega) (by omega),show (a:Int)-(splitL b:Nat)=((a-splitL b:Nat):Int) by omega,show (b:Int)-(splitL b:Nat)=((b-splitL b:Nat):Int) by omega]
    refine ⟨(acc++[(false,splitL b)],a-splitL b,b-splitL b,g),⟨⟨⟨by omega,by omega⟩,⟨by omega,by omega⟩,by simp; omega,by simpa using hx⟩,Nat.lt_succ_self g⟩,?_⟩
    rw [h2]
    exact cv [2] (h4:=⟨.inl rfl,.inl rfl,.inl (by simp [lk,ren]),trivial⟩) (h5:=⟨.inl (by simp),trivial⟩)
  ·have h:¬ a<b:=by have:=of_decide_eq_false h; omega
   have e:stepsF f a b=[]:=by cases f with | zero=>rfl | succ f=>exact if_neg h
   rw [e,List.append_nil] at hx
   rw [← hx]
   exact cv [0]
theorem may_ok (m n:Nat):Tri Tryz.prog G 147 [u64 m,u64 n] [] (bv (mayL m n)) []:=by
 have e:mayL m n=(decide ((m:Int)≥1)&&decide ((m:Int)≤n)&&decide ((n:Int)≤1099511627776)):=by
  unfold mayL
  rw [Bool.eq_iff_iff]
  simp only [Bool.and_eq_true,decide_eq_true_eq]
  omega
 rw [e]
 refine fn Tryz.func147 ?_
 conv=>whnf
 iterate 4 (all_goals (try (refine br_of (fun h => ?_) (fun h => ?_) <;> rw [h])); all_goals (try conv=>whnf))
 all_goals exact cv []
theorem nsteps_ok (m n:Nat):Tri Tryz.prog G 149 [u64 m,u64 n] [] (i64 (nSteps m n:Nat)) []:=by
 refine fn Tryz.func149 ?_
 conv=>whnf
 refine cl (may_ok m n) [] ?_
 conv=>whnf
 unfold nSteps
 refine br_of (fun h => ?_) (fun h => ?_) <;> conv=>whnf
 ·have h:mayL m n=false:=by simpa using h
  rw [h]
  exact cv []
 ·have h:mayL m n=true:=by simpa using h
  rw [if_pos h]
  simp only [mayL,Bool.and_eq_true,decide_eq_true_eq] at h
  have hl:=steps_len 64 m n
  refine cl (steps_ok m n (by omega) (by omega) (by omega)) [] ?_
  conv=>whnf
  rw [wI64 (n:=((stepsL m n).length:Int)+1) (by omega) (by unfold stepsL; omega)]
  exact cv []
def revI (l:List Bs) (i:Nat):List Bs:=(List.range l.length).map fun k=>if k<i∨l.length-1-i<k then l.getD (l.length-1-k) [] else l.getD k []
theorem revI_len (l:List Bs) (i:Nat):(revI l i).length=l.length:=by simp [revI]
theorem revI_at {l:List Bs} {i k:Nat} (h:k<l.length):(revI l i)[k]? = some (if k<i∨l.length-1-i<k then l.getD (l.length-1-k) [] else l.getD k []):=by simp [revI,h]
theorem revI_0 (l:List Bs):revI l 0=l:=by
 refine List.ext_getElem? fun k => ?_
 by_cases h:k<l.length
 ·rw [revI_at h,if_neg (by omega),List.getElem?_eq_getElem h,List.getD_eq_getElem?_getD,List.getElem?_eq_getElem h]; rfl
 ·rw [List.getElem?_eq_none (by rw [revI_len]; omega),List.getElem?_eq_none (by omega)]
theorem revI_end {l:List Bs} {i:Nat} (h:l.length≤2*i+1) (h2:2*i≤l.length+1):revI l i=l.reverse:=by
 refine List.ext_getElem? fun k => ?_
 by_cases hk:k<l.length
 ·rw [revI_at hk,List.getElem?_reverse hk,List.getElem?_eq_getElem (by omega)]
  split
  ·rw [List.getD_eq_getElem?_getD,List.getElem?_eq_getElem (by omega)]; rfl
  ·have:k=l.length-1-k:=by omega
   rw [List.getD_eq_getElem?_getD,List.getElem?_eq_getElem hk]
   simp only [Option.getD_some,Option.some.injEq]
   congr 1
 ·rw [List.getElem?_eq_none (by rw [revI_len]; omega),List.getElem?_eq_none (by simp; omega)]
theorem revI_step {l:List Bs} {i:Nat} (h:2*i+1<l.length):((revI l i).set i (l.getD (l.length-1-i) [])).set (l.length-1-i) (l.getD i [])=revI l (i+1):=by
 refine List.ext_getElem? fun k => ?_
 by_cases hk:k<l.length
 ·rw [List.getElem?_set,List.getElem?_set,revI_at hk,revI_at hk,List.length_set,revI_len]
  by_cases h1:l.length-1-i=k
  ·rw [if_pos h1,if_pos (show l.length-1-i<l.length by omega),if_pos (by omega),← h1,show l.length-1-(l.length-1-i)=i by omega]
  ·rw [if_neg h1]
   by_cases h2:i=k
   ·rw [if_pos h2,if_pos (show i<l.length by omega),if_pos (by omega),h2]
   ·rw [if_neg h2]
    by_cases h3:k<i∨l.length-1-i<k
    ·rw [if_pos h3,if_pos (by omega)]
    ·rw [if_neg h3,if_neg (by omega)]
 ·rw [List.getElem?_eq_none (by simp [revI_len]; omega),List.getElem?_eq_none (by rw [revI_len]; omega)]
theorem sR_set (l:List Bs) (i:Nat) (s:Bs):(sR l).set i [sv s]=sR (l.set i s):=by simp [List.map_set]
theorem rev_ok (l:List Bs) (hl:l.length≤1000000):Tri Tryz.prog G 244 [.s 0 0 l.length false] [sRs l] (.t []) [sRs l.reverse]:=by
 refine fn Tryz.func244 ?_
 conv=>whnf
 rw [wI64 (n:=(l.length:Int)-1) (by omega) (by omega)]
 refine lp1 (fun (i:Nat)=>([(0,.s 0 0 l.length false),(2,i64 (i:Nat)),(3,i64 ((l.length:Int)-1-i))],[sRs (revI l i)])) (fun i=>2*i≤l.length+1) (fun i=>l.length+1-i) 0 (by omega) (cv [0] (h4:=⟨.inl rfl,.inl rfl,.inl (by simp [lk,ren]),trivial⟩) (h5:=⟨.inl (by rw [revI_0]; rfl),trivial⟩)) fun i hi => ?_
 conv=>whnf
 refine br_of (fun h1 => ?_) (fun h1 => ?_) <;> conv=>whnf
 ·have h1:2*i+1<l.length:=by have:=of_decide_eq_true h1; omega
  have e1:(l.length:Int)-1-i=((l.length-1-i:Nat):Int):=by omega
  rw [e1]
  refine ⟨by omega,?_⟩
  conv=>whnf
  refine ob_of [sv (l.getD (l.length-1-i) [])] (by rw [show (0+((l.length-1-i:Nat):Int).toNat)=l.length-1-i by omega,List.getElem?_map,revI_at (by omega),if_neg (by omega)]; rfl) ?_
  conv=>whnf
  refine ⟨by omega,?_⟩
  conv=>whnf
  refine ob_of [sv (l.getD i [])] (by rw [show (0+((i:Nat):Int).toNat)=i by omega,List.getElem?_map,revI_at (by omega),if_neg (by omega)]; rfl) ?_
  conv=>whnf
  refine ⟨by omega,?_⟩
  conv=>whnf
  refine ob_of [sv (l.getD i [])] (by rw [show (0+((i:Nat):Int).toNat)=i by omega,List.getElem?_map,revI_at (by omega),if_neg (by omega)]; rfl) ?_
  conv=>whnf
  refine ⟨by omega,?_⟩
  conv=>whnf
  refine ob_of [sv (l.getD (l.length-1-i) [])] (by rw [show (0+((l.length-1-i:Nat):Int).toNat)=l.length-1-i by omega,show (0+((i:Nat):Int).toNat)=i by omega,List.getElem?_set_ne (by omega),List.getElem?_map,revI_at (by omega),if_neg (by omega)]; rfl) ?_
  conv=>whnf
  refine ⟨rfl,?_⟩
  conv=>whnf
  rw [wI64 (n:=(i:Int)+1) (by omega) (by omega),wI64 (n:=((l.length-1-i:Nat):Int)-1) (by omega) (by omega)]
  refine ⟨i+1,⟨by omega,by omega⟩,cv [0] (h4:=⟨.inl rfl,.inl rfl,.inl (by simp [lk,ren]; omega),trivial⟩) (h5:=⟨.inl ?_,trivial⟩)⟩
  show some (EB.rs _ (((sR (revI l i)).set (0+((i:Nat):Int).toNat) [sv _]).set (0+(((l.length-1-i:Nat):Int)).toNat) [sv _]))=some _
  rw [show (0+((l.length-1-i:Nat):Int).toNat)=l.length-1-i by omega,show (0+((i:Nat):Int).toNat)=i by omega,sR_set,sR_set,revI_step h1]
 ·have h1:l.length≤2*i+1:=by have:=of_decide_eq_false h1; omega
  rw [revI_end h1 hi]
  exact cv [0]
theorem whole1_ok (s:Bs):Tri Tryz.prog G 205 [sv s] [] (bv (s.length != 32)) []:=by
 refine fn Tryz.func205 ?_
 conv=>whnf
 rw [show (s.length != 32)=(((sB s).size:Int) != 32) from by rw [sB_size,Bool.eq_iff_iff]; simp; omega]
 exact cv []
theorem any_all (l:List Bs):(!l.any fun s=>s.length != 32)=l.all fun h=>h.length==32:=by
 rw [List.not_any_eq_all_not]
 congr 1
 funext s
 cases h:s.length==32 <;> simp_all [bne]
theorem whole_ok (l:List Bs) (n:Nat) (hl:l.length≤1000000):Tri Tryz.prog G 148 [.s 0 0 l.length false,i64 (n:Nat)] [sRs l] (bv (wholeL l n)) [sRs l]:=by
 refine fn Tryz.func148 ?_
 conv=>whnf
 unfold wholeL
 rw [show ((l.length:Int)==(n:Int))=(l.length==n) from by rw [Bool.eq_iff_iff]; simp [Int.ofNat_inj]]
 refine br_of (fun h => ?_) (fun h => ?_) <;> rw [h] <;> conv=>whnf
 ·refine clQ (has_ok l hl _ _ whole1_ok) [0] ?_
  conv=>whnf
  rw [any_all]
  exact cv [0]
 ·exact cv [0]
theorem bridgeF_len (L:List (Bool×Nat)):∀ (l out:List Bs),(bridgeF L l out).length=out.length+L.length+1:=by
 induction L with
 | nil=>intro l out; simp [bridgeF]
 | cons x L ih =>
  intro l out
  obtain ⟨b,k⟩:=x
  cases b <;> (unfold bridgeF; rw [ih]; simp; omega)
theorem bridge_ok (hG:GSha G) (m:Nat) (xs:List Bs) (n:Nat) (hx:∀ x∈xs,x.length≤100000) (hn:n≤xs.length) (hs:n≤1000000) (hm:m<1000000000):Tri Tryz.prog G 191 [i64 (m:Nat),.s 0 0 n false] [sRs xs] (.t [.s 1 0 (bridgeL m (xs.take n)).1.length false,i64 (bridgeL m (xs.take n)).2]) [sRs xs,sRs (bridgeL m (xs.take n)).1]:=by
 have hlen:(xs.take n).length=n:=by simp; omega
 have bad:(m<1∨n<m)→bridgeL m (xs.take n)=([],1):=fun h=>by unfold bridgeL; rw [hlen,if_pos h]
 refine fn Tryz.func191 ?_
 conv=>whnf
 refine br_of (fun h => ?_) (fun h => ?_) <;> rw [h] <;> conv=>whnf
 ·rw [bad (.inl (by have:=of_decide_eq_true h; omega))]
  exact cv [0,9]
 have h:=of_decide_eq_false h
 refine br_of (fun h2 => ?_) (fun h2 => ?_) <;> conv=>whnf
 ·rw [bad (.inr (by have:=of_decide_eq_true h2; omega))]
  exact cv [0,9]
 have h2:=of_decide_eq_false h2
 rw [wU64 (n:=(m:Int)) (by omega) (by omega),wU64 (n:=(n:Int)) (by omega) (by omega)]
 refine cl (steps_ok m n (by omega) (by omega) (by omega)) [] ?_
 conv=>whnf
 have good:bridgeL m (xs.take n)=((bridgeF (stepsL m n) (xs.take n) []).reverse,0):=by unfold bridgeL; rw [hlen,if_neg (by omega)]
 obtain ⟨R,hR⟩:∃ R,bridgeF (stepsL m n) (xs.take n) []=R:=⟨_,rfl⟩
 have hSl:(stepsL m n).length≤64:=steps_len 64 m n
 have hRl:R.length≤100:=by rw [← hR,bridgeF_len]; simp; omega
 rw [good,hR]
 clear good bad
 refine lp1 (X:=Nat×Nat×Nat×Nat×Nat×List Bs) (fun (j,a,c,_,_,out)=>([(1,.s 0 a c false),(6,.s 2 0 out.length false),(22,.s 1 0 (stepsL m n).length false),(23,i64 ((stepsL m n).length:Nat)),(24,i64 (j:Nat))],[sRs xs,stRs (stepsL m n),sRs out]))
  (fun (j,a,c,m',f,out)=>(j≤(stepsL m n).length∧a+c≤xs.length)∧((stepsL m n).drop j=stepsF f m' c∧c≤2 ^ f)∧(1≤m'∧m'≤c∧c≤n)∧out.length≤j∧bridgeF ((stepsL m n).drop j) ((xs.drop a).take c) out=R) (fun (j,_,_,_,_,_)=>(stepsL m n).length-j)
  (0,0,n,m,64,[]) ⟨⟨by omega,by omega⟩,⟨rfl,by omega⟩,⟨by omega,by omega,by omega⟩,by simp,by simpa using hR⟩ (cv [0,1,9]) ?_
 rintro ⟨j,a,c,m',f,out⟩ ⟨⟨hj,hac⟩,⟨hst,hf⟩,⟨hm1,hm2,hm3⟩,hol,hx2⟩
 conv=>whnf
 refine br_of (fun h1 => ?_) (fun h1 => ?_) <;> conv=>whnf
 rotate_left
 ·have h1:j=(stepsL m n).length:=by have:=of_decide_eq_false h1; omega
  subst h1
  rw [List.drop_length] at hx2 hst
  have hx2:out++[rootL ((xs.drop a).take c)]=R:=hx2
  refine clQ (root_ok hG xs a c hx hac (by omega)) [0] ?_
  conv=>whnf
  refine ⟨⟨rfl,rfl⟩,?_⟩
  conv=>whnf
  refine ⟨by simp,?_⟩
  conv=>whnf
  refine ⟨⟨by omega,by simp⟩,?_⟩
  conv=>whnf
  rw [show sR out++[[sv (rootL ((xs.drop a).take c))]]=sR R from by rw [← hx2]; simp,show out.length+1=R.length from by rw [← hx2]; simp]
  refine cl (rev_ok R (by omega)) [4] ?_
  conv=>whnf
  exact cv [0,4] (h4:=⟨.inl (by simp [lk,ren,rens]),trivial⟩)
 have h1:j<(stepsL m n).length:=by have:=of_decide_eq_true h1; omega
 have hcut:=List.drop_eq_getElem_cons h1
 refine ⟨by omega,?_⟩
 conv=>whnf
 refine ob_of [bv (stepsL m n)[j].1,u64 (stepsL m n)[j].2] (by simp [h1]) ?_
 conv=>whnf
 generalize hs2:(stepsL m n)[j]=s at hcut
 obtain ⟨b,k⟩:=s
 rw [hcut] at hst hx2
 obtain ⟨g,rfl⟩:∃ g,f=g+1:=by cases f with | zero=>cases hst | succ g=>exact ⟨g,rfl⟩
 have hsk:=splitL_pow hf
 unfold stepsF at hst
 by_cases hmc:m'<c
 rotate_left
 ·rw [if_neg hmc] at hst; cases hst
 rw [if_pos hmc] at hst
 have hsp:=splitL_lt (n:=c) (by omega)
 dsimp only at hst
 have hk:k=splitL c∧k<c:=by
  split at hst <;> (injection hst with e1 e2; injection e1 with e3 e4; subst e4; exact ⟨rfl,hsp.1⟩)
 obtain ⟨hk1,hk2⟩:=hk
 cases b with
 | true =>
  have hx2:bridgeF ((stepsL m n).drop (j+1)) (((xs.drop a).take c).take k) (out++[rootL (((xs.drop a).take c).drop k)])=R:=hx2
  rw [List.take_take,Nat.min_eq_left (by omega),List.drop_take,List.drop_drop] at hx2
  conv=>whnf
  refine ⟨⟨by omega,by omega,by omega⟩,?_⟩
  conv=>whnf
  rw [show a+(k:Int).toNat=a+k by omega,show ((c:Int)-(k:Int)).toNat=c-k by omega]
  refine clQ (root_ok hG xs (a+k) (c-k) hx (by omega) (by omega)) [0] ?_
  conv=>whnf
  refine ⟨⟨rfl,rfl⟩,?_⟩
  conv=>whnf
  refine ⟨by simp,?_⟩
  conv=>whnf
  refine ⟨⟨by omega,by simp⟩,?_⟩
  conv=>whnf
  refine ⟨⟨by omega,by omega,by omega⟩,?_⟩
  conv=>whnf
  rw [wI64 (n:=(j:Int)+1) (by omega) (by omega)]
  split at hst
  ·rename_i hle
   injection hst with e1 e2
   refine ⟨(j+1,a,k,m',g,out++[rootL ((xs.drop (a+k)).take (c-k))]),⟨⟨⟨by omega,by omega⟩,⟨by rw [hk1]; exact e2,by omega⟩,⟨hm1,by omega,by omega⟩,by simp; omega,hx2⟩,Nat.sub_lt_sub_left h1 (Nat.lt_succ_self j)⟩,cv [0,1,5] (h4:=⟨.inl (by simp [lk,ren]),.inl (by simp [lk,ren]),.inl rfl,.inl rfl,.inl rfl,trivial⟩) (h5:=⟨.inl rfl,.inl rfl,.inl (by simp),trivial⟩)⟩
  ·injection hst with e1 e2; cases e1
 | false =>
  have hx2:bridgeF ((stepsL m n).drop (j+1)) (((xs.drop a).take c).drop k) (out++[rootL (((xs.drop a).take c).take k)])=R:=hx2
  rw [List.take_take,Nat.min_eq_left (by omega),List.drop_take,List.drop_drop] at hx2
  conv=>whnf
  refine ⟨⟨by omega,by omega,by omega⟩,?_⟩
  conv=>whnf
  rw [show a+(0:Int).toNat=a by omega,show ((k:Int)-0).toNat=k by omega]
  refine clQ (root_ok hG xs a k hx (by omega) (by omega)) [0] ?_
  conv=>whnf
  refine ⟨⟨rfl,rfl⟩,?_⟩
  conv=>whnf
  refine ⟨by simp,?_⟩
  conv=>whnf
  refine ⟨⟨by omega,by simp⟩,?_⟩
  conv=>whnf
  refine ⟨⟨by omega,by omega,by omega⟩,?_⟩
  conv=>whnf
  rw [wI64 (n:=(j:Int)+1) (by omega) (by omega)]
  split at hst
  ·injection hst with e1 e2; cases e1
  ·rename_i hle
   injection hst with e1 e2
   refine ⟨(j+1,a+k,c-k,m'-k,g,out++[rootL ((xs.drop a).take k)]),⟨⟨⟨by omega,by omega⟩,⟨by rw [hk1]; exact e2,by omega⟩,⟨by omega,by omega,by omega⟩,by simp; omega,hx2⟩,Nat.sub_lt_sub_left h1 (Nat.lt_succ_self j)⟩,cv [0,1,5] (h4:=⟨.inl (by simp [lk,ren]),.inl (by simp [lk,ren]),.inl rfl,.inl rfl,.inl rfl,trivial⟩) (h5:=⟨.inl rfl,.inl rfl,.inl (by simp),trivial⟩)⟩
structure GSig (G:Gl):Prop where
 n:GNum G
 w:GWid G
theorem sumL_len (xs:List Bs):(sumL xs).length=64:=by
 unfold sumL sumB
 have h:=blkS_len (natB (padB xs.flatten)) ((padB xs.flatten).length/128)
 generalize blkS (natB (padB xs.flatten)) ((padB xs.flatten).length/128)=l at h
 have:∀ l:List Nat,(l.flatMap smB).length=8*l.length:=fun l=>by
  induction l with
  | nil=>rfl
  | cons x l ih=>rw [List.flatMap_cons,List.length_append,ih,smB_len,List.length_cons]; omega
 rw [this,h]
theorem cutL_len (s:Bs):(cutL s).length=32:=toL_len _ _
abbrev kyE (k:Ky):List E.EV:=[sv k.a,sv k.pre,sv k.pub]
theorem lcut_ok (hG:GSig G) (s:Bs) (hs:s.length≤1000000):Tri Tryz.prog G 256 [sv s] [] (sv (cutL s)) []:=sccut_ok hG.n s (by omega)
theorem mixed_ok (hG:GSig G) (a b c:Bs) (hl:a.length+b.length+c.length≤1000000):Tri Tryz.prog G 213 [sv a,sv b,sv c] [] (sv (cutL (sumL [a,b,c]))) []:=by
 refine fn Tryz.func213 ?_
 conv=>whnf
 refine clQ (lwsum_ok hG.w [a,b,c] (by simp) (by simp) (by simp; omega)) [0] ?_
 conv=>whnf
 refine cl (lcut_ok hG (sumL [a,b,c]) (by rw [sumL_len]; decide)) [] ?_
 conv=>whnf
 exact cv []
theorem pbase_R:∃ p,PR p bsQ∧Tri Tryz.prog G 101 [] [] (.a (pl p)) []:=⟨_,by have:=(PR.dec baseB).1; rwa [bsQ_eq] at this,pbase_ok⟩
theorem pmul_R {p:PD} {q:Qd} (h:PR p q) (s:Bs):∃ p',PR p' (mulQ q s)∧Tri Tryz.prog G 102 [.a (pl p),sv s] [] (.a (pl p')) []:=⟨_,h.mul s,pmul_ok p s⟩
theorem padd_R {p p':PD} {q q':Qd} (h:PR p q) (h':PR p' q'):∃ p2,PR p2 (addQ q q')∧Tri Tryz.prog G 163 [.a (pl p),.a (pl p')] [] (.a (pl p2)) []:=⟨_,h.add h',padd_ok p p'⟩
theorem pneg_R {p:PD} {q:Qd} (h:PR p q):∃ p2,PR p2 (negQ q)∧Tri Tryz.prog G 212 [.a (pl p)] [] (.a (pl p2)) []:=⟨_,h.neg,pneg_ok p⟩
theorem penc_R {p:PD} {q:Qd} (h:PR p q):Tri Tryz.prog G 103 [.a (pl p)] [] (sv (encQ q)) []:=by have:=penc_ok (G:=G) p; rwa [h.enc] at this
theorem pdec_R (s:Bs):∃ p,PR p (deQ s).1∧Tri Tryz.prog G 161 [sv s] [] (.t [.a (pl p),zi (deQ s).2]) []:=⟨_,(PR.dec s).1,by have:=pdec_ok (G:=G) s; rwa [(PR.dec s).2] at this⟩
theorem snew_ok (hG:GSig G) (s:Bs) (hs:s.length=32):Tri Tryz.prog G 60 [sv s] [] (.t [.a (kyE (keyL s)),i64 0]) []:=by
 have hl:=sumL_len [s]
 obtain ⟨b,rb,hb⟩:=pbase_R (G:=G)
 obtain ⟨p,rp,hp⟩:=pmul_R (G:=G) rb (clL ((sumL [s]).take 32))
 refine fn Tryz.func60 ?_
 conv=>whnf
 refine br_f (by rw [sB_size,hs]; rfl) ?_
 conv=>whnf
 refine clQ (lwsum_ok hG.w [s] (by simp) (by simp) (by simp; omega)) [1] ?_
 conv=>whnf
 refine ⟨⟨by omega,by omega,by rw [sB_size]; omega⟩,?_⟩
 conv=>whnf
 rw [sB_ext]
 refine cl (scclamp_ok ((sumL [s]).take 32) (by rw [List.length_take]; omega)) [] ?_
 conv=>whnf
 refine ⟨⟨by omega,by rw [sB_size]; omega,by omega⟩,?_⟩
 conv=>whnf
 rw [sB_ext]
 refine cl hb [] ?_
 conv=>whnf
 refine cl hp [] ?_
 conv=>whnf
 refine cl (penc_R rp) [] ?_
 conv=>whnf
 refine ⟨rfl,?_⟩
 conv=>whnf
 have e:((sumL [s]).drop ((32:Int)).toNat).take ((((sB (sumL [s])).size:Int)).toNat-(32:Int).toNat)=(sumL [s]).drop 32:=by
  rw [show ((32:Int)).toNat=32 from rfl,sB_size]
  exact List.take_of_length_le (by simp)
 rw [e]
 exact cv []
theorem spub_ok (k:Ky):Tri Tryz.prog G 98 [.a (kyE k)] [] (sv k.pub) []:=by
 refine fn Tryz.func98 ?_
 conv=>whnf
 exact cv []
theorem encQ_len (q:Qd):(encQ q).length=32:=by unfold encQ; simp only; split <;> simp [toL_len]
theorem baseL_len (s:Bs):(baseL s).length=32:=encQ_len _
theorem ssign_ok (hG:GSig G) (k:Ky) (m:Bs) (hk:k.a.length+k.pre.length+k.pub.length≤100000) (hm:m.length≤100000):Tri Tryz.prog G 271 [.a (kyE k),sv m] [] (sv (signL k m)) []:=by
 obtain ⟨b,rb,hb⟩:=pbase_R (G:=G)
 obtain ⟨p,rp,hp⟩:=pmul_R (G:=G) rb (cutL (sumL [k.pre,m]))
 refine fn Tryz.func271 ?_
 conv=>whnf
 unfold signL
 rw [eqL k.pub []]
 refine br_of (fun h => ?_) (fun h => ?_) <;> conv=>whnf
 ·rw [if_pos (by simpa using h)]
  exact cv []
 rw [if_neg (by simpa using h)]
 refine clQ (lwsum_ok hG.w [k.pre,m] (by simp) (by simp) (by simp; omega)) [1] ?_
 conv=>whnf
 refine cl (lcut_ok hG (sumL [k.pre,m]) (by rw [sumL_len]; decide)) [] ?_
 conv=>whnf
 refine cl hb [] ?_
 conv=>whnf
 refine cl hp [] ?_
 conv=>whnf
 have he:=penc_R (G:=G) rp
 rw [show encQ (mulQ bsQ (cutL (sumL [k.pre,m])))=baseL (cutL (sumL [k.pre,m])) from rfl] at he
 refine cl he [] ?_
 conv=>whnf
 refine cl (mixed_ok hG (baseL (cutL (sumL [k.pre,m]))) k.pub m (by rw [baseL_len]; omega)) [] ?_
 conv=>whnf
 have hma:=scma_ok hG.n (cutL (sumL [baseL (cutL (sumL [k.pre,m])),k.pub,m])) k.a (cutL (sumL [k.pre,m])) (by rw [cutL_len]; decide) (by omega) (by rw [cutL_len]; decide)
 refine cl hma [] ?_
 conv=>whnf
 have l1:(maL (cutL (sumL [baseL (cutL (sumL [k.pre,m])),k.pub,m])) k.a (cutL (sumL [k.pre,m]))).length=32:=toL_len _ _
 refine ⟨by rw [sB_size,sB_size,baseL_len,l1]; decide,?_⟩
 conv=>whnf
 refine ⟨rfl,?_⟩
 conv=>whnf
 rw [sB_app]
 exact cv []
theorem fits_ok (hG:GSig G) (pub m sig:Bs) (hs:sig.length=64) (hl:pub.length+m.length≤100000):Tri Tryz.prog G 155 [.a [sv pub,sv m,sv sig]] [] (bv (fitsL pub m sig)) []:=by
 obtain ⟨b,rb,hb⟩:=pbase_R (G:=G)
 obtain ⟨a,ra,ha⟩:=pdec_R (G:=G) pub
 obtain ⟨p1,r1,h1⟩:=pmul_R (G:=G) rb (sig.drop 32)
 obtain ⟨p2,r2,h2⟩:=pneg_R (G:=G) ra
 obtain ⟨p3,r3,h3⟩:=pmul_R (G:=G) r2 (cutL (sumL [sig.take 32,pub,m]))
 obtain ⟨p4,r4,h4⟩:=padd_R (G:=G) r1 r3
 refine fn Tryz.func155 ?_
 conv=>whnf
 refine cl ha [] ?_
 unfold fitsL
 generalize deQ pub=D at *
 obtain ⟨d,e⟩:=D
 simp only at ra r2 r3 r4 ⊢
 conv=>whnf
 refine br_of (fun h => ?_) (fun h => ?_) <;> conv=>whnf
 ·rw [if_pos (by simpa using h)]
  exact cv []
 rw [if_neg (by simpa using h)]
 refine ⟨⟨by omega,by omega,by rw [sB_size]; omega⟩,?_⟩
 conv=>whnf
 refine ⟨⟨by omega,by rw [sB_size]; omega,by omega⟩,?_⟩
 conv=>whnf
 refine ⟨rfl,?_⟩
 conv=>whnf
 rw [sB_ext,sB_ext,sB_size,hs]
 have e1:(sig.drop (32:Int).toNat).take (((64:Nat):Int).toNat-(32:Int).toNat)=sig.drop 32:=List.take_of_length_le (by simp; omega)
 have e2:(sig.drop (0:Int).toNat).take ((32:Int).toNat-(0:Int).toNat)=sig.take 32:=by simp
 rw [e1,e2]
 refine cl hb [] ?_
 conv=>whnf
 refine cl h1 [] ?_
 conv=>whnf
 refine cl h2 [] ?_
 conv=>whnf
 refine cl (mixed_ok hG (sig.take 32) pub m (by simp; omega)) [] ?_
 conv=>whnf
 refine cl h3 [] ?_
 conv=>whnf
 refine cl h4 [] ?_
 conv=>whnf
 refine ⟨rfl,?_⟩
 conv=>whnf
 refine cl (penc_R r4) [] ?_
 conv=>whnf
 rw [eqL]
 exact cv []
abbrev clE (pub m sig:Bs):E.EV := .a [sv pub,sv m,sv sig]
theorem long_ok (pub m sig:Bs):Tri Tryz.prog G 153 [clE pub m sig] [] (bv (sig.length==64)) []:=by
 refine fn Tryz.func153 ?_
 conv=>whnf
 rw [show (sig.length==64)=(((sB sig).size:Int)==64) from by rw [sB_size,Bool.eq_iff_iff]; simp; omega]
 exact cv []
theorem lright_ok (hG:GSig G) (s:Bs) (hs:s.length≤1000000):Tri Tryz.prog G 211 [sv s] [] (bv (rightL s)) []:=scright_ok hG.n s (by omega)
theorem small_ok (hG:GSig G) (pub m sig:Bs) (hs:sig.length=64):Tri Tryz.prog G 154 [clE pub m sig] [] (bv (rightL (sig.drop 32))) []:=by
 refine fn Tryz.func154 ?_
 conv=>whnf
 refine ⟨⟨by omega,by rw [sB_size]; omega,by omega⟩,?_⟩
 conv=>whnf
 rw [sB_ext,show (sig.drop (32:Int).toNat).take ((((sB sig).size:Int)).toNat-(32:Int).toNat)=sig.drop 32 from List.take_of_length_le (by rw [sB_size]; simp)]
 refine cl (lright_ok hG (sig.drop 32) (by rw [List.length_drop]; omega)) [] ?_
 conv=>whnf
 exact cv []
theorem verify_ok (hG:GSig G) (pub m sig:Bs) (hl:pub.length+m.length≤100000):Tri Tryz.prog G 96 [sv pub,sv m,sv sig] [] (bv (verL pub m sig)) []:=by
 refine fn Tryz.func96 ?_
 conv=>whnf
 unfold verL
 refine lu 4 ?_
 conv=>whnf
 refine ⟨by decide,?_⟩
 conv=>whnf
 refine cl (long_ok pub m sig) [] ?_
 conv=>whnf
 by_cases h1:sig.length=64
 rotate_left
 ·rw [if_pos h1]
  refine br_t (by simpa using h1) ?_
  conv=>whnf
  exact cv []
 rw [if_neg (by simpa using h1)]
 refine br_f (by simpa using h1) ?_
 conv=>whnf
 refine ⟨by decide,?_⟩
 conv=>whnf
 refine cl (small_ok hG pub m sig h1) [] ?_
 conv=>whnf
 cases h2:rightL (sig.drop 32) with
 | false =>
  conv=>whnf
  exact cv []
 | true =>
  conv=>whnf
  refine ⟨by decide,?_⟩
  conv=>whnf
  refine cl (fits_ok hG pub m sig h1 hl) [] ?_
  conv=>whnf
  cases h3:fitsL pub m sig with
  | false =>
   conv=>whnf
   exact cv []
  | true =>
   conv=>whnf
   exact cv []
theorem putL_len (n:Nat):(putL n).length=8:=rfl
theorem put_L (n:Nat) (hn:n<18446744073709551616):putS (n:Int)=sB (putL n):=by
 unfold putS strOfNums numsS byteS putL sB
 congr 2
 simp only [List.map_cons,List.map_nil]
 have key:∀ k:Nat,UInt8.ofNat ((n:Int)/2 ^ (8*k)%256).toNat=(n/2 ^ (8*k)).toUInt8:=fun k=>by
  apply UInt8.toNat_inj.1
  rw [show ((n:Int)/2 ^ (8*k)%256)=((n/2 ^ (8*k)%256:Nat):Int) from by simp,Int.toNat_natCast]
  simp
 rw [key 7,key 6,key 5,key 4,key 3,key 2,key 1,key 0]
 simp
theorem lput_ok (n:Nat) (hn:n<18446744073709551616):Tri Tryz.prog G 156 [u64 n] [] (sv (putL n)) []:=by have:=sput_ok (G:=G) (n:Int); rwa [put_L n hn] at this
theorem htext_ok (h:Hd) (h1:h.size<18446744073709551616) (h2:h.time<18446744073709551616) (h3:h.root.length≤100000):Tri Tryz.prog G 97 [.a (hdE h)] [] (sv h.text) []:=by
 refine fn Tryz.func97 ?_
 conv=>whnf
 refine cl (lput_ok h.size h1) [] ?_
 conv=>whnf
 refine ⟨by rw [show (⟨#[83,84,72]⟩:ByteArray)=sB [83,84,72] from rfl,sB_size,sB_size,putL_len]; decide,?_⟩
 conv=>whnf
 refine cl (lput_ok h.time h2) [] ?_
 conv=>whnf
 refine ⟨by simp only [ByteArray.size_append,show (⟨#[83,84,72]⟩:ByteArray)=sB [83,84,72] from rfl,sB_size,putL_len,List.length_cons,List.length_nil]; decide,?_⟩
 conv=>whnf
 refine ⟨by simp only [ByteArray.size_append,show (⟨#[83,84,72]⟩:ByteArray)=sB [83,84,72] from rfl,sB_size,putL_len,List.length_cons,List.length_nil]; omega,?_⟩
 conv=>whnf
 refine ⟨rfl,?_⟩
 conv=>whnf
 rw [show (⟨#[83,84,72]⟩:ByteArray)=sB [83,84,72] from rfl,sB_app,sB_app,sB_app]
 exact cv []
theorem hcheck_ok (hG:GSig G) (pub:Bs) (h:Hd) (hp:pub.length≤10000):Tri Tryz.prog G 58 [sv pub,.a (hdE h)] [] (bv (h.check pub)) []:=by
 refine fn Tryz.func58 ?_
 conv=>whnf
 refine cl (hright_ok h) [] ?_
 conv=>whnf
 unfold Hd.check
 cases hr:h.right with
 | false =>
  conv=>whnf
  refine ⟨rfl,?_⟩
  conv=>whnf
  exact cv []
 | true =>
  have hr2:=hr
  simp only [Hd.right,Bool.and_eq_true,decide_eq_true_eq,beq_iff_eq] at hr2
  conv=>whnf
  refine cl (htext_ok h (by omega) (by omega) (by omega)) [] ?_
  conv=>whnf
  refine cl (verify_ok hG pub h.text h.sig (by simp [Hd.text,putL]; omega)) [] ?_
  conv=>whnf
  refine ⟨rfl,?_⟩
  conv=>whnf
  exact cv []
theorem hmake_ok (hG:GSig G) (k:Ky) (size time:Nat) (root:Bs) (h1:size<18446744073709551616) (h2:time<18446744073709551616) (h3:root.length≤10000) (hk:k.a.length+k.pre.length+k.pub.length≤100000):Tri Tryz.prog G 242 [.a (kyE k),u64 size,u64 time,sv root] [] (.t [.a (hdE (Hd.make k size time root).1),i64 (Hd.make k size time root).2]) []:=by
 refine fn Tryz.func242 ?_
 conv=>whnf
 refine cl (htext_ok ⟨size,time,root,[]⟩ h1 h2 (by simp only; omega)) [] ?_
 conv=>whnf
 refine cl (ssign_ok hG k (Hd.text ⟨size,time,root,[]⟩) hk (by simp [Hd.text,putL]; omega)) [] ?_
 conv=>whnf
 refine ⟨rfl,?_⟩
 conv=>whnf
 refine cl (hright_ok ⟨size,time,root,signL k (Hd.text ⟨size,time,root,[]⟩)⟩) [] ?_
 conv=>whnf
 cases hr:Hd.right ⟨size,time,root,signL k (Hd.text ⟨size,time,root,[]⟩)⟩ with
 | false =>
  rw [show Hd.make k size time root=(.nil,1) from by unfold Hd.make; simp only [hr]; rfl]
  conv=>whnf
  exact cv []
 | true =>
  rw [show Hd.make k size time root=(⟨size,time,root,signL k (Hd.text ⟨size,time,root,[]⟩)⟩,0) from by unfold Hd.make; simp only [hr]; rfl]
  conv=>whnf
  exact cv []
theorem backward_ok (l:List (Bool×Nat)):Tri Tryz.prog G 150 [.s 0 0 l.length false] [stRs l] (.f 206 [] [.p 1 0 0]) [stRs l,.r 231 [.s 0 0 l.length false]]:=by
 refine fn Tryz.func150 ?_
 conv=>whnf
 exact cv [0,1]
def stF (path:List Bs) (a:Bs×Bs) (x:Nat×Bool×Nat):Bs×Bs :=
 let p:=path.getD (path.length-1-x.1) []
 if x.2.1 then (a.1,nodeL a.2 p) else (nodeL p a.1,nodeL p a.2)
def stG {n:Nat} (path:List Bs) (h:Bs) (pre:List (SIt n)):Bs×Bs:=pre.foldl (fun a x=>stF path a x.1) (h,h)
theorem stG_snoc {n:Nat} (path:List Bs) (h:Bs) (pre:List (SIt n)) (x:SIt n):stG path h (pre++[x])=stF path (stG path h pre) x.1:=by simp [stG,List.foldl_append]
theorem foldP_snoc:∀ (L:List (Bool×Nat)) (P:List Bs) (a:Bs×Bs) (s:Bool×Nat) (p:Bs),L.length=P.length→foldP (L++[s]) (P++[p]) a=if s.1 then ((foldP L P a).1,nodeL (foldP L P a).2 p) else (nodeL p (foldP L P a).1,nodeL p (foldP L P a).2)
 | [],[],(a,b),(true,_),p,_=>rfl
 | [],[],(a,b),(false,_),p,_=>rfl
 | (true,k)::L,q::P,(a,b),s,p,h=>by
  show foldP (L++[s]) (P++[p]) (a,nodeL b q)=_
  exact foldP_snoc L P _ s p (by simpa using h)
 | (false,k)::L,q::P,(a,b),s,p,h=>by
  show foldP (L++[s]) (P++[p]) (nodeL q a,nodeL q b)=_
  exact foldP_snoc L P _ s p (by simpa using h)
theorem stG_up (h:Bs) (tl:List Bs) (zs:List (Bool×Nat)) (hz:0<zs.length) (hl:tl.length=zs.length):∀ k,k≤zs.length→stG (h::tl) h (sUp zs hz k)=foldP (zs.reverse.take k) (tl.take k) (h,h):=by
 intro k
 induction k with
 | zero=>intro _; rfl
 | succ k ih =>
  intro hk
  rw [sUp_succ,stG_snoc,ih (by omega)]
  have e1:zs.reverse.take (k+1)=zs.reverse.take k++[zs.getD (zs.length-1-k) (false,0)]:=by
   rw [List.take_succ_eq_append_getElem (by rw [List.length_reverse]; omega),List.getElem_reverse,List.getD_eq_getElem?_getD,List.getElem?_eq_getElem (by omega)]
   rfl
  have e2:tl.take (k+1)=tl.take k++[tl.getD k []]:=by
   rw [List.take_succ_eq_append_getElem (by omega),List.getD_eq_getElem?_getD,List.getElem?_eq_getElem (by omega)]
   rfl
  rw [e1,e2,foldP_snoc _ _ _ _ _ (by simp; omega)]
  have e3:(h::tl).getD ((h::tl).length-1-(zs.length-1-k)) []=tl.getD k []:=by
   rw [show (h::tl).length-1-(zs.length-1-k)=k+1 by simp; omega]
   rfl
  unfold stF sIt
  simp only
  rw [e3]
theorem stG_all (h:Bs) (tl:List Bs) (zs:List (Bool×Nat)) (hl:tl.length=zs.length):stG (h::tl) h (sAll zs)=foldP zs.reverse tl (h,h):=by
 unfold sAll
 split
 ·rename_i hz
  rw [stG_up h tl zs hz hl _ (Nat.le_refl _),List.take_of_length_le (by simp),List.take_of_length_le (by omega)]
 ·obtain rfl:zs=[]:=List.eq_nil_of_length_eq_zero (by omega)
  obtain rfl:tl=[]:=List.eq_nil_of_length_eq_zero hl
  rfl
def cA:Code→Code | .seq a _=>a | c=>c
def cB:Code→Code | .seq _ b=>b | c=>c
def rfA:Code→Code | .rangeFunc _ _ a _=>a | c=>c
def rfB:Code→Code | .rangeFunc _ _ _ b=>b | c=>c
def blkC:Code→Code | .block _ c=>c | c=>c
noncomputable def impC:Code:=(Tryz.f94.body).getD .skip
noncomputable def impL:Code:=blkC (cB (cA (cB (cB (cB impC)))))
theorem imp_cut:impC = .seq (cA impC) (.seq (cA (cB impC)) (.seq (cA (cB (cB impC))) (.seq (.seq (cA (cA (cB (cB (cB impC))))) (.block 1 (.rangeFunc (.tmp 35) #[36,37] (rfA impL) (rfB impL)))) (cB (cB (cB (cB impC))))))):=by kernel_rfl
abbrev impH (path:List Bs) (r s:Bs):List EB:=[sRs path,.r 52 [.s 0 0 path.length false],.r 9 [sv r],.r 9 [sv s]]
abbrev impT:TL:=[(5,.p 1 0 0),(9,.p 2 0 0),(10,.p 3 0 0)]
abbrev stX (x:Nat×Bool×Nat):EB := .r 233 [bv x.2.1,u64 x.2.2]
theorem imp_pre (hG:GSha G) (m n:Nat) (path:List Bs) (hl:path.length≤1000000) (r:E.EV) (hr:(mayL m n=false→r = .t [sv [],sv [],i64 1])∧(mayL m n=true→wholeL path (nSteps m n)=false→r = .t [sv [],sv [],i64 11])) :
  goC Tryz.prog G 1 (.seq (cA impC) (.seq (cA (cB impC)) (.seq (cA (cB (cB impC))) (cA (cA (cB (cB (cB impC)))))))) (argT 0 [u64 m,u64 n,.s 0 0 path.length false]) [sRs path]
   (fun T H=>∃ h tl,path=h::tl∧mayL m n=true∧wholeL path (nSteps m n)=true∧Cov 1 T H (impT++[(35,.f 206 [] [.p 5 0 0])],impH path h h++[stRs (stepsL m n),.r 231 [.s 4 0 (stepsL m n).length false]]))
   (fun _ _ _=>False) (fun T H1=>retK Tryz.prog T H1 Tryz.f94.results.toList fun x=>Cov 1 [(0,x)] H1 ([(0,r)],[sRs path])):=by
 obtain ⟨hr1,hr2⟩:=hr
 conv=>whnf
 refine cl (may_ok m n) [] ?_
 conv=>whnf
 cases h1:mayL m n with
 | false =>
  conv=>whnf
  rw [hr1 h1]
  exact cv [0]
 | true =>
  conv=>whnf
  refine cl (nsteps_ok m n) [] ?_
  conv=>whnf
  refine clQ (whole_ok path (nSteps m n) hl) [0] ?_
  conv=>whnf
  cases h2:wholeL path (nSteps m n) with
  | false =>
   conv=>whnf
   refine ⟨rfl,?_⟩
   conv=>whnf
   rw [hr2 h1 h2]
   exact cv [0]
  | true =>
   have hlen:path.length=(stepsL m n).length+1:=by
    have:=h2
    unfold wholeL nSteps at this
    rw [h1] at this
    simp only [Bool.and_eq_true,beq_iff_eq,if_true] at this
    exact this.1
   obtain ⟨h,tl,rfl⟩:∃ h tl,path=h::tl:=by cases path with | nil=>simp at hlen | cons h tl=>exact ⟨h,tl,rfl⟩
   have hm1:1≤m∧m<18446744073709551616∧n<18446744073709551616:=by unfold mayL at h1; simp at h1; omega
   conv=>whnf
   refine ⟨rfl,?_⟩
   conv=>whnf
   refine ⟨⟨by omega,by simp⟩,?_⟩
   conv=>whnf
   refine ⟨⟨by omega,by simp⟩,?_⟩
   conv=>whnf
   refine ⟨rfl,?_⟩
   conv=>whnf
   refine cl (steps_ok m n hm1.1 hm1.2.1 hm1.2.2) [] ?_
   conv=>whnf
   refine cl (backward_ok (stepsL m n)) [4] ?_
   conv=>whnf
   exact ⟨h,tl,rfl,rfl,rfl,cv [0,1,2,3,4,5]⟩
theorem imp_as (x:Nat×Bool×Nat) (path:List Bs) (r s:Bs):goC Tryz.prog G 4 (rfA impL) (impT++[(36,.v (.int .i64 (x.1:Nat))),(37,.a [bv x.2.1,u64 x.2.2])]) (impH path r s) (fun T H=>Cov 4 T H (impT++[(11,.v (.int .i64 (x.1:Nat))),(12,.p 4 0 0)],impH path r s++[stX x])) (fun _ _ _=>False) (fun _ _=>False):=by
 conv=>whnf
 exact cv [0,1,2,3,4]
theorem imp_bd (hG:GSha G) (x:Nat×Bool×Nat) (path:List Bs) (hl:path.length≤1000000) (hx:x.1<path.length) (hp:∀ p∈path,p.length≤1000000) (r s:Bs) (hr:r.length≤1000000) (hs:s.length≤1000000):goC Tryz.prog G 4 (rfB impL) (impT++[(11,.v (.int .i64 (x.1:Nat))),(12,.p 4 0 0)]) (impH path r s++[stX x]) (fun T H=>Cov 4 T H ([],impH path (stF path (r,s) x).1 (stF path (r,s) x).2)) (fun _ _ _=>False) (fun _ _=>False):=by
 conv=>whnf
 have hb:path.length-1-x.1<path.length:=by omega
 have hpl:(path.getD (path.length-1-x.1) []).length≤1000000:=by rw [List.getD_eq_getElem?_getD,List.getElem?_eq_getElem hb]; exact hp _ (List.getElem_mem hb)
 rw [wI64 (n:=(path.length:Int)-1) (by omega) (by omega),wI64 (n:=(path.length:Int)-1-(x.1:Int)) (by omega) (by omega),show (path.length:Int)-1-(x.1:Int)=((path.length-1-x.1:Nat):Int) by omega]
 refine ⟨⟨by omega,by omega⟩,?_⟩
 conv=>whnf
 refine ob_of [sv (path.getD (path.length-1-x.1) [])] (by rw [Nat.zero_add,Int.toNat_natCast,List.getElem?_map,List.getD_eq_getElem?_getD,List.getElem?_eq_getElem hb]; rfl) ?_
 obtain ⟨⟨R1,R2⟩,hR⟩:∃ R,stF path (r,s) x=R:=⟨_,rfl⟩
 rw [hR]
 unfold stF at hR
 simp only at hR
 generalize path.getD (path.length-1-x.1) []=p at *
 obtain ⟨i,b,k⟩:=x
 conv=>whnf
 cases b with
 | true =>
  simp only [if_true] at hR
  obtain ⟨h1,h2⟩:=Prod.mk.inj hR
  have n2:=lnode_ok hG s p hs hpl
  rw [h2] at n2
  subst h1
  clear hR h2
  conv=>whnf
  refine cl n2 [] ?_
  conv=>whnf
  exact cv [0,1,2,3]
 | false =>
  simp only [Bool.false_eq_true,if_false] at hR
  obtain ⟨h1,h2⟩:=Prod.mk.inj hR
  have n1:=lnode_ok hG p r hpl hr
  have n2:=lnode_ok hG p s hpl hs
  rw [h1] at n1
  rw [h2] at n2
  clear hR h1 h2
  conv=>whnf
  refine cl n1 [] ?_
  conv=>whnf
  refine cl n2 [] ?_
  conv=>whnf
  refine ⟨rfl,?_⟩
  conv=>whnf
  exact cv [0,1,2,3]
theorem imp_end (path:List Bs) (r s:Bs):goC Tryz.prog G 4 (cB (cB (cB (cB impC)))) impT (impH path r s) (fun _ _=>False) (fun _ _ _=>False) (fun T H1=>retK Tryz.prog T H1 Tryz.f94.results.toList fun x=>Cov 1 [(0,x)] H1 ([(0,.t [sv r,sv s,i64 0])],[sRs path])):=by
 conv=>whnf
 refine ⟨rfl,?_⟩
 conv=>whnf
 exact cv [0]
end Go.Proofs.YtdhgpocbcccieaaGreatDoor.M
namespace Go.Proofs.YtdhgpocbcccieaaGreatDoor.E
open Go Go.RowKit
section
variable {P:Program} {G:Gl} {S0:List Nat} {w0:World} {N n0 n:Nat} {df:List Deferred} {B0:Bm}
theorem seqIn (hm:P.follows .mixedOrders=true) (h0:∀ L q,B0 L=some q→L<n0) {c d:Code} {T:TL} {H:List EB} {kn kr:KC} {Q:Exit→Act→World→Prop} {a:Act} {w:World} (hN:codeOk N c=true) (h:goC P G n0 c T H kn (fun _ _ _=>False) kr) (hf:FitE P G S0 w0 N df B0 T H a w)
  (hn:∀ T' H' a' w',kn T' H'→FitE P G S0 w0 N df B0 T' H' a' w'→d.wpIn Fence.wide n P Q a' w') (hr:∀ T' H' a' w',kr T' H'→FitE P G S0 w0 N df B0 T' H' a' w'→Q .ret a' w'):(Code.seq c d).wpIn Fence.wide n P Q a w :=
 wpIn_seq (wpIn_wide.2 (goC_sound hm h0 c T H kn _ kr _ a w hN h hf (fun T' H' a' w' hk hf'=>hn T' H' a' w' hk hf') (fun _ _ _ _ _ hk=>hk.elim) (fun T' H' a' w' hk hf'=>hr T' H' a' w' hk hf')))
theorem fit_args {args:List EV} {H:List EB} {vs:Array Value} {B:Bm} {w:World} (has:ERs B args vs) (hw:Wd P G S0 w0 B (hf H) w) (hN:args.length≤N):FitE P G S0 w0 N [] B (argT 0 args) H { tmps:=vs++Array.replicate (N-vs.size) undef,defers:=[] } w:=by
 have hsz:vs.size=args.length:=has.1.symm
 refine ⟨B,Bm.le.refl _,hw,fun t => ?_,by simp; omega,rfl⟩
 rw [lk_argT,if_pos (Nat.zero_le _),Nat.sub_zero]
 by_cases ht:t<args.length
 ·rw [List.getD_eq_getElem?_getD,List.getElem?_eq_getElem ht,Option.getD_some]
  refine has.2 t _ _ (List.getElem?_eq_getElem ht) ?_
  have h1:(vs++Array.replicate (N-vs.size) undef)[t]? = vs[t]? := Array.getElem?_append_left (by omega)
  show vs[t]? = some ((vs++Array.replicate (N-vs.size) undef).getD t undef)
  rw [Array.getD_eq_getD_getElem?,h1,Array.getElem?_eq_getElem (by omega)]
  rfl
 ·rw [List.getD_eq_getElem?_getD,List.getElem?_eq_none (by omega)]
  exact .j _
theorem Wd.lt1 {B:Bm} {H:List EB} {w:World} (hw:Wd P G S0 w0 B (hf H) w):∀ L q,B L=some q→L<H.length:=fun L q hq=>by
 apply Classical.byContradiction
 intro hn
 rw [hw.n L (hf_big (by omega))] at hq
 cases hq
theorem ret_fin {fn:Func} {r:EV} {H':List EB} {T:TL} {H1:List EB} {a:Act} {w:World} (h0:∀ L q,B0 L=some q→L<n0) (hk:retK P T H1 fn.results.toList fun x=>Cov n0 [(0,x)] H1 ([(0,r)],H')) (hfit:FitE P G S0 w0 N df B0 T H1 a w):∃ u,(results fn a.tmps).run P w = .ok u w∧∃ B',B0.le B'∧ER B' r u∧Wd P G S0 w0 B' (hf H') w:=by
 obtain ⟨B1,hle,hwd,htm,_,_⟩:=hfit
 obtain ⟨x,hcov,hr⟩:=retK_ok (G:=G) hk
 obtain ⟨u,h1,h2⟩:=hr S0 w0 B1 a.tmps w hwd htm
 have hfit2:FitE P G S0 w0 1 [] B0 [(0,x)] H1 { tmps := #[u],defers:=[] } w:=⟨B1,hle,hwd,fun t=>by
  show ER B1 (if 0=t then x else .j) _
  by_cases e:0=t
  ·subst e; simpa using h2
  ·rw [if_neg e]; exact .j _,rfl,rfl⟩
 obtain ⟨B2,hle2,hwd2,htm2,_,_⟩:=hcov.fit h0 hfit2
 exact ⟨u,h1,B2,hle2,by simpa [lk] using htm2 0,hwd2⟩
end
end Go.Proofs.YtdhgpocbcccieaaGreatDoor.E
namespace Go.Proofs.YtdhgpocbcccieaaGreatDoor.M
open Go Go.RowKit Go.Proofs.YtdhgpocbcccieaaGreatDoor.E
variable {G:Gl}
theorem stF_len (path:List Bs) (a b:Bs) (i k:Nat) (c:Bool) (ha:a.length=32) (hb:b.length=32):(stF path (a,b) (i,c,k)).1.length=32∧(stF path (a,b) (i,c,k)).2.length=32:=by
 unfold stF
 simp only
 generalize path.getD (path.length-1-i) []=p
 have n1:=nodeL_len b p
 have n2:=nodeL_len p a
 have n3:=nodeL_len p b
 cases c with
 | true=>simp only [if_true]; exact ⟨ha,n1⟩
 | false=>simp only [Bool.false_eq_true,if_false]; exact ⟨n2,n3⟩
theorem stG_len {n:Nat} (path:List Bs) (h:Bs) (hh:h.length=32) (pre:List (SIt n)):(stG path h pre).1.length=32∧(stG path h pre).2.length=32:=by
 have key:∀ (pre:List (SIt n)) (a:Bs×Bs),a.1.length=32∧a.2.length=32→(pre.foldl (fun a x=>stF path a x.1) a).1.length=32∧(pre.foldl (fun a x=>stF path a x.1) a).2.length=32:=by
  intro pre
  induction pre with
  | nil=>exact fun a h=>h
  | cons x pre ih =>
   rintro ⟨a,b⟩ ⟨ha,hb⟩
   obtain ⟨⟨i,c,k⟩,hx⟩:=x
   exact ih _ (stF_len path a b i k c ha hb)
 exact key pre (h,h) ⟨hh,hh⟩
theorem impRes (tm:Array Value) (w w':World) (u:Value) (h:(results Tryz.f94 tm).run Tryz.prog w = .ok u w):(results Tryz.f94 tm).run Tryz.prog w' = .ok u w':=by
 have key:∀ w,(results Tryz.f94 tm).run Tryz.prog w = .ok (.tuple #[tm.getD 6 undef,tm.getD 7 undef,tm.getD 8 undef]) w:=fun w=>by
  rw [results_rv,Array.mapM_eq_mapM_toList]
  rfl
 rw [key] at h
 cases h
 exact key w'
theorem set2_getD (tm:Array Value) (v1 v2:Value) (hs:tm.size=59) (t:Nat):((tm.setIfInBounds 36 v1).setIfInBounds 37 v2).getD t undef=if t=36 then v1 else if t=37 then v2 else tm.getD t undef:=by
 simp only [Array.getD_eq_getD_getElem?,Array.getElem?_setIfInBounds,Array.size_setIfInBounds,hs]
 by_cases e:t=37
 ·subst e; simp
 ·by_cases e2:t=36
  ·subst e2; simp
  ·simp [e,e2,Ne.symm e,Ne.symm e2]
theorem setP (tm:Array Value) {n:Nat} (x:SIt n):((#[36,37]:Array Tmp).zip (sEnc x)).foldl (fun t (p,v)=>t.setIfInBounds p v) tm=(tm.setIfInBounds 36 (.int .i64 (x.1.1:Nat))).setIfInBounds 37 (.agg #[.bool x.1.2.1,.int .u64 (x.1.2.2:Nat)]):=by
 simp [sEnc]
theorem sw_lk {T:TL} (h:(T.all fun p=>swE 5 p.2)=true) (t:Nat):swE 5 (lk T t)=true:=by
 rcases lk_mem T t with e | e
 ·rw [e]; rfl
 ·exact List.all_eq_true.1 h _ e
theorem impF {B:Bm} {u:Value} {g:FuncId} {L:Nat} (h:ER B (.f g [] [.p L 0 0]) u):∃ q,B L=some q∧u = .func (.func g) #[] #[.pointer (some ⟨q.b,0,none⟩)]:=by
 cases h with
 | @f _ _ _ es ds h1 _ h2 h3 =>
  match es,ds,h1,h2,h3 with
  | ⟨[]⟩,⟨[d]⟩,_,_,h3 =>
   obtain ⟨q,hq,hd⟩:=(h3 0 _ d rfl rfl).p_inv
   exact ⟨q,hq,by rw [hd,Nat.zero_mul]⟩
theorem implied_ok (hG:GSha G) (m n:Nat) (path:List Bs) (hl:path.length≤1000000):Tri Tryz.prog G 94 [u64 m,u64 n,.s 0 0 path.length false] [sRs path] (.t [sv (impliedL m n path).1,sv (impliedL m n path).2.1,i64 (impliedL m n path).2.2]) [sRs path]:=by
 have hm:Tryz.prog.follows .mixedOrders=true:=by kernel_rfl
 obtain ⟨r,hr⟩:∃ r:E.EV,r = .t [sv (impliedL m n path).1,sv (impliedL m n path).2.1,i64 (impliedL m n path).2.2]:=⟨_,rfl⟩
 rw [← hr]
 refine ⟨⟨_,Tryz.func94,by kernel_rfl,rfl⟩,fun S0 w0 B w vs has hw => ?_⟩
 refine (callsIn_wide (n:=3)).1 (callsIn_of_wp_marks Tryz.func94 (c:=impC) rfl trivial ?_ rfl)
 have hfit:=fit_args (N:=59) has hw (by show 3≤59; decide)
 have h0:=hw.lt1
 have fin0:∀ T' H1 a' w',retK Tryz.prog T' H1 Tryz.f94.results.toList (fun x=>Cov 1 [(0,x)] H1 ([(0,r)],[sRs path]))→FitE Tryz.prog G S0 w0 59 [] B T' H1 a' w'→bodyPostM Fence.wide 3 Tryz.prog Tryz.f94 (fun e w'=>∃ B' v,e = .returned v∧B.le B'∧ER B' r v∧Wd Tryz.prog G S0 w0 B' (hf [sRs path]) w') .ret a' w':=fun T' H1 a' w' hk hf'=>by
  obtain ⟨u,h1,B',h2,h3,h4⟩:=ret_fin h0 hk hf'
  obtain ⟨_,_,_,_,_,hd⟩:=hf'
  show LeavesInM _ _ _ _ _ _ a'.defers _ _
  rw [hd]
  exact ⟨u,h1,B',u,rfl,h2,h3,h4⟩
 rw [imp_cut]
 have hpre:=imp_pre hG m n path hl r ⟨fun h=>by rw [hr]; unfold impliedL; rw [h]; rfl,fun h1 h2=>by rw [hr]; unfold impliedL; rw [h1,h2]; rfl⟩
 refine seqIn (n0:=1) hm h0 (by kernel_rfl) hpre hfit (fun T1 H1 a1 w1 hk1 hf1 => ?_) fin0
 refine seqIn (n0:=1) hm h0 (by kernel_rfl) hk1 hf1 (fun T2 H2 a2 w2 hk2 hf2 => ?_) fin0
 refine seqIn (n0:=1) hm h0 (by kernel_rfl) hk2 hf2 (fun T3 H3 a3 w3 hk3 hf3 => ?_) fin0
 refine wpIn_seq (seqIn (n0:=1) hm h0 (by kernel_rfl) hk3 hf3 (fun T4 H4 a4 w4 hk4 hf4 => ?_) fin0)
 clear hk3 hf3 hk2 hf2 hk1 hf1 hpre
 obtain ⟨h,tl,rfl,hmay,hwh,hcov⟩:=hk4
 obtain ⟨B1,hle1,hw1,htm,hsz,hdf⟩:=hcov.fit h0 hf4
 clear hf4 hcov
 obtain ⟨q0,hq0,hr0⟩:=(hw1.row 0 9 (sR (h::tl)) rfl).here (i:=0) (row:=[sv h]) rfl
 obtain ⟨q1,hq1,hr1⟩:=(hw1.row 1 52 [[.s 0 0 (h::tl).length false]] rfl).here (i:=0) rfl
 obtain ⟨q2,hq2,hr2⟩:=(hw1.row 2 9 [[sv h]] rfl).here (i:=0) rfl
 obtain ⟨q3,hq3,hr3⟩:=(hw1.row 3 9 [[sv h]] rfl).here (i:=0) rfl
 obtain ⟨q5,hq5,hr5⟩:=(hw1.row 5 231 [[.s 4 0 (stepsL m n).length false]] rfl).here (i:=0) rfl
 have inj:∀ i j qi qj,i≠j→i<6→j<6→B1 i=some qi→B1 j=some qj→qi.b≠qj.b:=fun i j qi qj hij hi hj e1 e2 e=>by
  refine hij (hw1.inj i j qi qj ?_ ?_ e1 e2 e)
  ·match i,hi with | 0,_=>rfl | 1,_=>rfl | 2,_=>rfl | 3,_=>rfl | 4,_=>rfl | 5,_=>rfl
  ·match j,hj with | 0,_=>rfl | 1,_=>rfl | 2,_=>rfl | 3,_=>rfl | 4,_=>rfl | 5,_=>rfl
 obtain ⟨hk5,c5,hb5,hc5,hl5,hrow5⟩:=id hr5
 obtain ⟨u5,hu5,he5, -⟩:=(hrow5 0 _ rfl).2 0 _ rfl
 have hcell5:w4.cell? ⟨q5.b,0,none⟩=some u5:=by rw [hb5.cell]; simpa using hu5
 obtain ⟨S4,hS4⟩:∃ S4,[q0.b,q1.b,q2.b,q3.b]=S4:=⟨_,rfl⟩
 have hS5:q5.b ∉ S4:=by
  rw [← hS4]
  simp only [List.mem_cons,List.not_mem_nil,or_false,not_or]
  exact ⟨inj 5 0 _ _ (by decide) (by decide) (by decide) hq5 hq0,inj 5 1 _ _ (by decide) (by decide) (by decide) hq5 hq1,inj 5 2 _ _ (by decide) (by decide) (by decide) hq5 hq2,inj 5 3 _ _ (by decide) (by decide) (by decide) hq5 hq3⟩
 obtain ⟨st,hst⟩:∃ st,stepsL m n=st:=⟨_,rfl⟩
 rw [hst] at hw1 htm he5 hr5
 have hstl:st.length≤64:=by rw [← hst]; exact steps_len _ _ _
 obtain ⟨ad,cp,b4,hu,hL,hb4,hb4n⟩:∃ ad cp b4,u5 = .slice ad st.length cp∧SLies w4 st ad b4∧b4<w4.heap.size∧b4 ∉ S4:=by
  rcases he5.s_inv with ⟨q4,c,hq4,hn,hc0,hcm,hcq, -,rfl⟩ | ⟨hn,A,rfl⟩
  ·have hlive:q4.b<w4.heap.size:=hw1.live (L:=4) rfl hq4
   refine ⟨_,c,q4.b,rfl,fun hpos=>⟨_,rfl,hlive,fun j hj => ?_⟩,hlive,?_⟩
   ·obtain ⟨q4',hq4',hk4,c4,hb4,hc4,hl4,hrow4⟩:=(hw1.row 4 233 (stR st) rfl).here (i:=j) (row:=[bv st[j].1,u64 st[j].2]) (by simp [hj])
    rw [hq4] at hq4'; cases hq4'
    have hk2:q4.k=2:=hk4.trans rfl
    obtain ⟨-,hcell⟩:=hrow4 j [bv st[j].1,u64 st[j].2] (by simp [hj])
    have hd:st.getD j (false,0)=st[j]:=by rw [List.getD_eq_getElem?_getD,List.getElem?_eq_getElem hj]; rfl
    rw [hd]
    intro i v hv
    match i,hv with
    | 0,hv =>
     cases hv
     obtain ⟨u,a,b, -⟩:=hcell 0 _ rfl
     rw [hb4.cell,Nat.zero_mul,Nat.zero_add]
     rw [hk2] at a
     rw [a,b.v_inv]
    | 1,hv =>
     cases hv
     obtain ⟨u,a,b, -⟩:=hcell 1 _ rfl
     rw [hb4.cell,Nat.zero_mul,Nat.zero_add]
     rw [hk2] at a
     rw [a,b.v_inv]
   ·rw [← hS4]
    simp only [List.mem_cons,List.not_mem_nil,or_false,not_or]
    exact ⟨inj 4 0 _ _ (by decide) (by decide) (by decide) hq4 hq0,inj 4 1 _ _ (by decide) (by decide) (by decide) hq4 hq1,inj 4 2 _ _ (by decide) (by decide) (by decide) hq4 hq2,inj 4 3 _ _ (by decide) (by decide) (by decide) hq4 hq3⟩
  ·exact ⟨A,0,q5.b,by rw [hn],fun hpos=>by omega,hr5.lt,hS5⟩
 subst hu
 obtain ⟨q5',hq5',hfv⟩:=impF (htm 35)
 rw [hq5] at hq5'; cases hq5'
 obtain ⟨W0,hW0⟩:∃ W0,w4=W0:=⟨_,rfl⟩
 rw [hW0] at hw1 hcell5 hL hb4 hr0 hr1 hr2 hr3 hr5 ⊢
 clear hW0
 obtain ⟨B4,hB4⟩:∃ B4:Bm,B4=fun L=>if L<4 then B1 L else none:=⟨_,rfl⟩
 have b4lt:∀ L q,B4 L=some q→L<4:=fun L q hq=>by
  rw [hB4] at hq
  by_cases e:L<4
  ·exact e
  ·simp [e] at hq
 have b4at:∀ L,L<4→B4 L=B1 L:=fun L hlt=>by rw [hB4]; simp [hlt]
 have b4S:∀ L q,B4 L=some q→q.b∈S4:=fun L q hq=>by
  have hlt:=b4lt L q hq
  rw [b4at L hlt] at hq
  rw [← hS4]
  match L,hlt with
  | 0,_=>rw [hq0] at hq; cases hq; simp
  | 1,_=>rw [hq1] at hq; cases hq; simp
  | 2,_=>rw [hq2] at hq; cases hq; simp
  | 3,_=>rw [hq3] at hq; cases hq; simp
 have S4b:∀ b∈S4,∃ L q,L<4∧B4 L=some q∧q.b=b:=fun b hb=>by
  rw [← hS4] at hb
  simp only [List.mem_cons,List.not_mem_nil,or_false] at hb
  rcases hb with rfl | rfl | rfl | rfl
  ·exact ⟨0,q0,by decide,by rw [b4at 0 (by decide)]; exact hq0,rfl⟩
  ·exact ⟨1,q1,by decide,by rw [b4at 1 (by decide)]; exact hq1,rfl⟩
  ·exact ⟨2,q2,by decide,by rw [b4at 2 (by decide)]; exact hq2,rfl⟩
  ·exact ⟨3,q3,by decide,by rw [b4at 3 (by decide)]; exact hq3,rfl⟩
 have S4lt:∀ b∈S4,b<W0.heap.size:=fun b hb=>by
  rw [← hS4] at hb
  simp only [List.mem_cons,List.not_mem_nil,or_false] at hb
  rcases hb with rfl | rfl | rfl | rfl
  ·exact hr0.lt
  ·exact hr1.lt
  ·exact hr2.lt
  ·exact hr3.lt
 have live4:∀ (r s:Bs) L,(hf (impH (h::tl) r s) L).live=true→L<4:=fun r s L hv=>by
  apply Classical.byContradiction
  intro hn
  rw [hf_big (by show 4≤L; omega)] at hv
  cases hv
 have alive4:∀ (r s:Bs) L,L<4→(hf (impH (h::tl) r s) L).live=true:=fun r s L hv=>by
  match L,hv with
  | 0,_=>rfl
  | 1,_=>rfl
  | 2,_=>rfl
  | 3,_=>rfl
 have leat:∀ {B':Bm},B4.le B'→∀ L,L<4→B' L=B4 L:=fun {B'} hle L hlt=>by
  have:∃ q,B4 L=some q:=by
   rw [b4at L hlt]
   match L,hlt with
   | 0,_=>exact ⟨_,hq0⟩
   | 1,_=>exact ⟨_,hq1⟩
   | 2,_=>exact ⟨_,hq2⟩
   | 3,_=>exact ⟨_,hq3⟩
  obtain ⟨q,hq⟩:=this
  rw [hq,hle L q hq]
 have hI0:∃ B',B4.le B'∧Wd Tryz.prog G S4 W0 B' (hf (impH (h::tl) h h)) W0:=by
  obtain ⟨B',hle,hw'⟩:=hw1.cov (n0:=4) b4lt (H':=impH (h::tl) h h) (B0:=B4) (fun L q hq=>by rw [b4at L (b4lt L q hq)] at hq; exact hq) (cv [0,1,2,3])
  refine ⟨B',hle,hw'.rebase (fun L q hv hq => ?_) fun b hb => ?_⟩
  ·rw [leat hle L (live4 h h L hv)] at hq
   exact b4S L q hq
  ·obtain ⟨L,q,hlt,hq,e⟩:=S4b b hb
   exact ⟨L,q,alive4 h h L hlt,hle L q hq,e⟩
 have hpl:(h::tl).length=st.length+1:=by
  have:=hwh
  unfold wholeL nSteps at this
  rw [hmay,hst] at this
  simp only [Bool.and_eq_true,beq_iff_eq,if_true] at this
  exact this.1
 have h32:∀ p∈h::tl,p.length=32:=fun p hp=>by
  have:=hwh
  unfold wholeL at this
  exact beq_iff_eq.1 (List.all_eq_true.1 (Bool.and_eq_true_iff.1 this).2 p hp)
 have hout:r = .t [sv (stG (h::tl) h (sAll st)).1,sv (stG (h::tl) h (sAll st)).2,i64 0]:=by
  rw [hr,stG_all h tl st (by simpa using hpl)]
  unfold impliedL
  rw [hmay,hwh,hst]
  rfl
 have hx4:∀ (x:SIt st.length),x.1.1<(h::tl).length:=fun x=>by have:=x.2; omega
 have reb:∀ {B':Bm} {r s:Bs} {W:World},B4.le B'→Wd Tryz.prog G S4 W0 B' (hf (impH (h::tl) r s)) W→Wd Tryz.prog G S4 W B' (hf (impH (h::tl) r s)) W:=fun {B' r s W} hle hw'=>hw'.rebase (fun L q hv hq=>by
   rw [leat hle L (live4 r s L hv)] at hq
   exact b4S L q hq) fun b hb=>by
   obtain ⟨L,q,hlt,hq,e⟩:=S4b b hb
   exact ⟨L,q,alive4 r s L hlt,hle L q hq,e⟩
 have htm':∀ {B':Bm},B4.le B'→∀ t x,(t,x)∈impT→ER B' x (a4.tmps.getD t undef):=fun {B'} hle t x hx=>by
  have h1:=htm t
  have h2:lk (impT++[(35,.f 206 [] [.p 5 0 0])]) t=x∧swE 4 x=true:=by
   simp only [List.mem_cons,List.not_mem_nil,or_false,Prod.mk.injEq] at hx
   rcases hx with ⟨rfl,rfl⟩ | ⟨rfl,rfl⟩ | ⟨rfl,rfl⟩ <;> exact ⟨rfl,rfl⟩
  rw [h2.1] at h1
  exact h1.sw h2.2 fun L q hlt hq=>by rw [leat hle L hlt,b4at L hlt]; exact hq
 refine wpIn_block ?_
 refine wpIn_rangeFunc_ownH rfl (by decide) hfv trivial (enters_of Tryz.func206 (by kernel_rfl) rfl) (back_stops 2 q5.b b4 cp ad st (by omega) W0 hr5.lt hcell5 hL) (fun h k=>h.trans k)
  (fun W l o o' hlt hl ho hwk=>⟨World.putObj_heap_other (by omega),World.putObj_heap_other (by have:=hr5.lt; omega)⟩) (Below.refl _ _) (fun _=>rfl)
  (fun (pre:List (SIt st.length)) W=>∃ B',B4.le B'∧Wd Tryz.prog G S4 W0 B' (hf (impH (h::tl) (stG (h::tl) h pre).1 (stG (h::tl) h pre).2)) W) (fun _ _ _=>False)
  (fun pre A A' row hI hg hrow=>by
   obtain ⟨B',hle,hw'⟩:=hI
   exact ⟨B',hle,hw'.grownBy (fun L x hx=>by
    by_cases e:L<4
    ·match L,e with
     | 0,_=>cases hx
     | 1,_=>cases hx
     | 2,_=>cases hx
     | 3,_=>cases hx
    ·rw [hf_big (by show 4≤L; omega)] at hx; cases hx) hg hrow⟩)
  (fun _ _ _ _ _ hI _ _=>hI) hI0
  (fun (x:SIt st.length) a' W=>∃ (q4:BI) (B5:Bm),W0.heap.size≤q4.b∧B4.le B5∧B5 4=some q4∧RowsAt Tryz.prog B5 W q4 233 [[bv x.1.2.1,u64 x.1.2.2]]∧(∀ t,ER B5 (lk (impT++[(11,.v (.int .i64 (x.1.1:Nat))),(12,.p 4 0 0)]) t) (a'.tmps.getD t undef))∧a'.tmps.size=59∧a'.defers=[])
  (fun x a' s A A' row hA hg hrow=>by
   obtain ⟨q4,B5,g1,g2,g3,g4,g5⟩:=hA
   exact ⟨q4,B5,g1,g2,g3,g4.grownBy hg fun r e=>(hrow r e).2,g5⟩)
  ?assign ?body ?done (fun _ _ _ _ _ _ hx _=>hx.elim)
 case assign =>
  rintro l pre x W K ⟨B',hle,hw'⟩ hK
  generalize (stG (h::tl) h pre).1=r0 at *
  generalize (stG (h::tl) h pre).2=s0 at *
  have hwr:=reb hle hw'
  refine goC_soundIn (S0:=S4) (w0:=W) (N:=59) (n0:=4) (df:=[]) (B0:=B4) hm (rfA impL) _ _ _ _ _ _ _ _ (by kernel_rfl) (imp_as (G:=G) x.1 (h::tl) r0 s0) ⟨B',hle,hwr,fun t => ?_,?_,rfl⟩ (fun T' H' a' w' hk hf' => ?_) (fun _ _ _ _ _ hk=>hk.elim)
  ·show ER B' _ ((((#[36,37]:Array Tmp).zip (sEnc x)).foldl (fun t (p,v)=>t.setIfInBounds p v) a4.tmps).getD t undef)
   rw [setP,set2_getD _ _ _ hsz]
   rcases lk_mem (impT++[(36,.v (.int .i64 (x.1.1:Nat))),(37,.a [bv x.1.2.1,u64 x.1.2.2])]) t with e | e
   ·rw [e]; exact .j _
   ·rcases List.mem_append.1 e with e | e
    ·have h1:=htm' hle t _ e
     have h2:t≠36∧t≠37:=by
      simp only [List.mem_cons,List.not_mem_nil,or_false,Prod.mk.injEq] at e
      omega
     rw [if_neg h2.1,if_neg h2.2]
     exact h1
    ·simp only [List.mem_cons,List.not_mem_nil,or_false,Prod.mk.injEq] at e
     rcases e with ⟨rfl,e⟩ | ⟨rfl,e⟩
     ·rw [e,if_pos rfl]; exact .v _
     ·rw [e,if_neg (by decide),if_pos rfl]
      exact .a rfl fun i y u hy hu=>by
       match i,hy,hu with
       | 0,hy,hu=>cases hy; cases hu; exact .v _
       | 1,hy,hu=>cases hy; cases hu; exact .v _
  ·show (((#[36,37]:Array Tmp).zip (sEnc x)).foldl (fun t (p,v)=>t.setIfInBounds p v) a4.tmps).size=59
   rw [setP]
   simpa using hsz
  ·obtain ⟨B'',hle'',hw'',htm'',hsz'',hdf''⟩:=hk.fit b4lt hf'
   obtain ⟨q4,hq4,hr4⟩:=(hw''.row 4 233 [[bv x.1.2.1,u64 x.1.2.2]] rfl).here (i:=0) rfl
   have hq4n:q4.b ∉ S4:=fun hm4=>by
    obtain ⟨L,q,hlt,hq,e⟩:=S4b _ hm4
    have:=hw''.inj 4 L q4 q rfl (by match L,hlt with | 0,_=>rfl | 1,_=>rfl | 2,_=>rfl | 3,_=>rfl) hq4 (hle'' L q hq) e.symm
    omega
   have hq4o:W0.heap.size≤q4.b:=by
    rcases hw''.own 4 q4 rfl hq4 with h1 | h1
    ·exact absurd h1 hq4n
    ·exact Nat.le_trans hw'.t.size h1
   have hbk:=hw'.back hw'' fun b hb => .inl hb
   refine hK a' w' ⟨hw''.t.size,fun k o hk1 hk2 hk3=>(hw''.t.block k (Array.getElem?_eq_some_iff.1 hk2).1 fun hin=>by have:=S4lt k hin; omega).trans hk2⟩ ⟨hw''.t.block b4 (Nat.lt_of_lt_of_le hb4 hw'.t.size) hb4n,hw''.t.block q5.b (Nat.lt_of_lt_of_le hr5.lt hw'.t.size) hS5⟩ (hbk.cov (n0:=4) b4lt hle'' (cv [0,1,2,3])) ⟨q4,B'',hq4o,hle'',hq4,hr4,htm'',hsz'',hdf''⟩
 case body =>
  rintro l pre x a' W hl0 hrec ⟨B',hle,hw'⟩ ⟨q4,B5,g1,g2,g3,g4,g5,g6,g7⟩ hlen
  obtain ⟨l1,l2⟩:=stG_len (h::tl) h (h32 h List.mem_cons_self) pre
  have hsn:=stG_snoc (h::tl) h pre x
  obtain ⟨⟨r0,s0⟩,hrs⟩:∃ R,stG (h::tl) h pre=R:=⟨_,rfl⟩
  rw [hrs] at l1 l2 hw' hsn
  simp only at l1 l2 hw'
  have hB6:∀ L q,L<5→B5 L=some q→(B'.set 4 q4) L=some q:=fun L q hlt hq=>by
   by_cases e:L=4
   ·subst e
    rw [g3] at hq; cases hq
    exact Bm.set_self _ _ _
   ·rw [leat g2 L (by omega)] at hq
    show (if L=4 then some q4 else B' L)=some q
    rw [if_neg e]
    exact hle L q hq
  have hle6:B4.le (B'.set 4 q4):=fun L q hq=>hB6 L q (by have:=b4lt L q hq; omega) (g2 L q hq)
  have hw5:=hw'.add (L:=4) (q:=q4) (hf_big (Nat.le_refl 4)) (fun L' q' hv hq=>by
   rw [leat hle L' (live4 _ _ L' hv)] at hq
   have:=S4lt _ (b4S L' q' hq)
   omega) (.inr g1) (g4.sw (n:=5) rfl hB6)
  have hw6:Wd Tryz.prog G S4 W0 (B'.set 4 q4) (hf (impH (h::tl) r0 s0++[stX x.1])) W:=by rw [hf_app]; exact hw5
  have hwr:Wd Tryz.prog G (q4.b::S4) W (B'.set 4 q4) (hf (impH (h::tl) r0 s0++[stX x.1])) W:=hw6.rebase (fun L q hv hq=>by
    by_cases e:L=4
    ·subst e
     rw [Bm.set_self] at hq; cases hq
     exact List.mem_cons_self
    ·have hlt:L<4:=by
      apply Classical.byContradiction
      intro hn
      rw [hf_big (by show 5≤L; omega)] at hv
      cases hv
     have hq':B' L=some q:=by
      have:(if L=4 then some q4 else B' L)=some q:=hq
      rwa [if_neg e] at this
     rw [leat hle L hlt] at hq'
     exact List.mem_cons_of_mem _ (b4S L q hq')) fun b hb=>by
    rcases List.mem_cons.1 hb with rfl | hb
    ·exact ⟨4,q4,rfl,Bm.set_self _ _ _,rfl⟩
    ·obtain ⟨L,q,hlt,hq,e⟩:=S4b b hb
     exact ⟨L,q,by match L,hlt with | 0,_=>rfl | 1,_=>rfl | 2,_=>rfl | 3,_=>rfl,hle6 L q hq,e⟩
  refine goC_soundIn (S0:=q4.b::S4) (w0:=W) (N:=59) (n0:=4) (df:=[]) (B0:=B4) hm (rfB impL) _ _ _ _ _ _ _ _ (by kernel_rfl) (imp_bd hG x.1 (h::tl) hl (hx4 x) (fun p hp=>by rw [h32 p hp]; decide) r0 s0 (by omega) (by omega)) ⟨B'.set 4 q4,hle6,hwr,fun t=>(g5 t).sw (n:=5) (sw_lk rfl t) hB6,g6,g7⟩ (fun T' H' a'' w' hk hf' => ?_) (fun _ _ _ _ _ hk=>hk.elim)
  obtain ⟨B'',hle'',hw'', -⟩:=hk.fit b4lt hf'
  have hbk:=hw'.back hw'' fun b hb=>by
   rcases List.mem_cons.1 hb with rfl | hb
   ·exact .inr g1
   ·exact .inl hb
  rw [← hsn] at hbk
  have hnot:∀ k,k<W0.heap.size→k ∉ S4→k ∉ q4.b::S4:=fun k hk hn hin=>by
   rcases List.mem_cons.1 hin with rfl | hin
   ·omega
   ·exact hn hin
  refine ⟨⟨hw''.t.size,fun k o hk1 hk2 hk3=>(hw''.t.block k (Array.getElem?_eq_some_iff.1 hk2).1 fun hin => ?_).trans hk2⟩,⟨hw''.t.block b4 (Nat.lt_of_lt_of_le hb4 hw'.t.size) (hnot b4 hb4 hb4n),hw''.t.block q5.b (Nat.lt_of_lt_of_le hr5.lt hw'.t.size) (hnot q5.b hr5.lt hS5)⟩,⟨B'',hle'',hbk⟩⟩
  rcases List.mem_cons.1 hin with rfl | hin
  ·obtain ⟨_,c,⟨lo,hi,hb1,_⟩,_⟩:=g4
   rw [hb1] at hk2
   cases hk2
   cases hk3
  ·have:=S4lt k hin; omega
 case done =>
  rintro D xs W hD rfl ⟨B',hle,hw'⟩ hKD
  have hwr:=reb hle hw'
  have hB04:B.le B4:=fun L q hq=>by
   have hlt:L<1:=h0 L q hq
   rw [b4at L (by omega)]
   exact hle1 L q hq
  refine wpIn_wide.2 (goC_sound (S0:=S4) (w0:=W) (N:=59) (n0:=4) (df:=[{ target := .collected D,args := #[] }]) (B0:=B4) hm b4lt _ _ _ _ _ _ _ _ _ (by kernel_rfl) (imp_end (G:=G) (h::tl) _ _) ⟨B',hle,hwr,fun t => ?_,hsz,by rw [hdf]⟩ (fun _ _ _ _ hk=>hk.elim) (fun _ _ _ _ _ hk=>hk.elim) (fun T' H' a' w' hk hf' => ?_))
  ·rcases lk_mem impT t with e | e
   ·rw [e]; exact .j _
   ·exact htm' hle t _ e
  ·obtain ⟨Bx,hlex,hwx,htx,hszx,hdx⟩:=hf'
   rw [← hout] at hk
   obtain ⟨u,e1,B2,e2,e3,e4⟩:=ret_fin (n0:=1) h0 hk ⟨Bx,hB04.trans hlex,hwx,htx,hszx,hdx⟩
   have hDW:D<W.heap.size:=(Array.getElem?_eq_some_iff.1 hKD).1
   have hKD':w'.heap[D]? = some (.deferred (some [])):=(e4.t.block D hDW fun hin=>by have:=S4lt D hin; omega).trans hKD
   have hb1:=hw'.back e4 fun b hb => .inl hb
   have hb2:=hw1.back hb1 fun b hb=>by
    obtain ⟨L,q,hlt,hq,rfl⟩:=S4b b hb
    rw [b4at L hlt] at hq
    exact hw1.own L q (by match L,hlt with | 0,_=>rfl | 1,_=>rfl | 2,_=>rfl | 3,_=>rfl) hq
   have hb3:=hb2.grownBy (fun L x hx=>by
    by_cases e:L<1
    ·match L,e with
     | 0,_=>cases hx
    ·rw [hf_big (by show 1≤L; omega)] at hx; cases hx) (grownBy_putObj' w' D (.deferred none)) fun r er=>by
     cases er
     exact ⟨Nat.le_trans hw1.t.size hD,_,hKD',rfl⟩
   show LeavesInM _ _ _ _ _ _ a'.defers _ _
   rw [hdx]
   exact ⟨by simp,.inl ⟨D,_,rfl,run_takeDeferred hKD',u,impRes _ _ _ _ e1,B2,u,rfl,e2,e3,hb3⟩⟩
end Go.Proofs.YtdhgpocbcccieaaGreatDoor.M
namespace Go.Proofs.YtdhgpocbcccieaaGreatDoor.M
open Go Go.RowKit Go.Proofs.YtdhgpocbcccieaaGreatDoor.E
variable {G:Gl}
abbrev bdE (L:Nat) (b:Bd):List E.EV:=[u64 b.a.size,u64 b.a.time,sv b.a.root,sv b.a.sig,u64 b.b.size,u64 b.b.time,sv b.b.root,sv b.b.sig,.s L 0 b.path.length false]
theorem right1_ok (s:Bs):Tri Tryz.prog G 142 [sv s] [] (bv (s.length != 32)) []:=by
 refine fn Tryz.func142 ?_
 conv=>whnf
 rw [show (s.length != 32)=(((sB s).size:Int) != 32) from by rw [sB_size,Bool.eq_iff_iff]; simp; omega]
 exact cv []
theorem bright_ok (b:Bd) (hl:b.path.length≤1000000):Tri Tryz.prog G 92 [.a (bdE 0 b)] [sRs b.path] (bv b.right) [sRs b.path]:=by
 refine fn Tryz.func92 ?_
 conv=>whnf
 refine cl (hright_ok b.a) [] ?_
 conv=>whnf
 unfold Bd.right
 refine br_of (fun h => ?_) (fun h => ?_) <;> rw [h] <;> conv=>whnf
 rotate_left
 ·exact cv [0]
 refine cl (hright_ok b.b) [] ?_
 conv=>whnf
 refine br_of (fun h => ?_) (fun h => ?_) <;> rw [h] <;> conv=>whnf
 rotate_left
 ·exact cv [0]
 rw [show decide ((b.path.length:Int)≤48)=decide (b.path.length≤48) from by rw [Bool.eq_iff_iff]; simp; omega]
 refine br_of (fun h => ?_) (fun h => ?_) <;> rw [h] <;> conv=>whnf
 rotate_left
 ·exact cv [0]
 refine clQ (has_ok b.path hl _ _ right1_ok) [0] ?_
 conv=>whnf
 rw [any_all]
 exact cv [0]
theorem bodd_ok (hS:GSha G) (b:Bd) (hl:b.path.length≤1000000):Tri Tryz.prog G 57 [.a (bdE 0 b)] [sRs b.path] (bv b.odd) [sRs b.path]:=by
 refine fn Tryz.func57 ?_
 conv=>whnf
 refine clQ (bright_ok b hl) [0] ?_
 conv=>whnf
 unfold Bd.odd
 cases h0:b.right with
 | false =>
  conv=>whnf
  exact cv [0]
 | true =>
  conv=>whnf
  refine br_of (fun h => ?_) (fun h => ?_) <;> conv=>whnf
  ·rw [if_neg (by decide),if_pos (by simpa [Int.ofNat_inj] using h),eqL]
   rw [show (b.a.root != b.b.root) = !(b.a.root==b.b.root) from rfl]
   refine br_of (fun h1 => ?_) (fun h1 => ?_) <;> rw [h1] <;> conv=>whnf
   rotate_left
   ·exact cv [0]
   rw [show ((b.path.length:Int)==0)=(b.path.length==0) from by rw [Bool.eq_iff_iff]; simp]
   refine br_of (fun h2 => ?_) (fun h2 => ?_) <;> rw [h2] <;> conv=>whnf
   rotate_left
   ·exact cv [0]
   refine cl (ahead_ok b.a b.b) [] ?_
   conv=>whnf
   exact cv [0]
  ·rw [if_neg (by decide),if_neg (by simpa [Int.ofNat_inj] using h)]
   refine clQ (implied_ok hS b.a.size b.b.size b.path hl) [0] ?_
   conv=>whnf
   refine br_of (fun h1 => ?_) (fun h1 => ?_) <;> rw [h1] <;> conv=>whnf
   rotate_left
   ·exact cv [0]
   rw [eqL]
   refine br_of (fun h2 => ?_) (fun h2 => ?_) <;> rw [h2] <;> conv=>whnf
   rotate_left
   ·exact cv [0]
   rw [eqL]
   exact cv [0]
theorem wRaws_len (l:List Bs):∀ (w:Ww),(∀ x∈l,x.length=32)→(wRaws w l).1.length≤w.1.length+32*l.length:=by
 induction l with
 | nil=>intro w _; simp [wRaws]
 | cons x l ih =>
  intro w h
  have h1:=ih (wRaw w x 32) (fun y hy=>h y (List.mem_cons_of_mem _ hy))
  have h2:=wRaw_len w x 32
  have h3:=h x (by simp)
  show (wRaws (wRaw w x 32) l).1.length≤_
  rw [List.length_cons]
  omega
theorem Hd.right_inv {h:Hd} (hr:h.right=true):h.size≤1099511627776∧h.time≤1099511627776∧h.root.length=32∧h.sig.length=64∧1≤h.size:=by
 simp only [Hd.right,Bool.and_eq_true,decide_eq_true_eq,beq_iff_eq] at hr
 omega
theorem Bd.right_inv {b:Bd} (hr:b.right=true):b.a.right=true∧b.b.right=true∧b.path.length≤48∧∀ x∈b.path,x.length=32:=by
 simp only [Bd.right,Bool.and_eq_true,decide_eq_true_eq,List.all_eq_true,beq_iff_eq] at hr
 exact ⟨hr.1.1.1,hr.1.1.2,hr.1.2,hr.2⟩
theorem bput_ok (b:Bd) (w:Ww) (hr:b.right=true) (hb:w.1.length≤100000):Tri Tryz.prog G 184 [.p 0 0 0,.a (bdE 2 b)] [wr 1 w.1.length w.2,by_ w.1,sRs b.path] (.t []) [wr 3 (Bd.put w b).1.length (Bd.put w b).2,.g,sRs b.path,by_ (Bd.put w b).1]:=by
 obtain ⟨ha,hbb,hp,hp2⟩:=Bd.right_inv hr
 obtain ⟨a1,a2,a3,a4,_⟩:=Hd.right_inv ha
 obtain ⟨b1,b2,b3,b4,_⟩:=Hd.right_inv hbb
 have l1:=Hd.put_len b.a w
 have l2:=Hd.put_len b.b (Hd.put w b.a)
 have l3:=wNum_len (Hd.put (Hd.put w b.a) b.b) b.path.length
 refine fn Tryz.func184 ?_
 conv=>whnf
 refine cl (hput_ok b.a w (by omega) (by omega) (by omega) (by omega) (by omega)) [0,1] ?_
 conv=>whnf
 refine cl (hput_ok b.b (Hd.put w b.a) (by omega) (by omega) (by omega) (by omega) (by omega)) [0,4] ?_
 conv=>whnf
 rw [wU64 (n:=(b.path.length:Int)) (by omega) (by omega)]
 refine cl (lwnum_ok (Hd.put (Hd.put w b.a) b.b) b.path.length (by omega) (by omega)) [0,5] ?_
 conv=>whnf
 obtain ⟨W,hW⟩:∃ W,wRaws (wNum (Hd.put (Hd.put w b.a) b.b) b.path.length) b.path=W:=⟨_,rfl⟩
 rw [show Bd.put w b=W from hW]
 refine lp2 (fun (i:Nat) (v:Ww)=>([(0,.p 0 0 0),(21,.s 2 0 b.path.length false),(22,i64 (b.path.length:Nat)),(23,i64 (i:Nat))],[wr 3 v.1.length v.2,.g,sRs b.path,by_ v.1])) (fun i v=>(i≤b.path.length∧v.1.length+32*(b.path.length-i)≤200000)∧wRaws v (b.path.drop i)=W) (fun i _=>b.path.length-i) 0 (wNum (Hd.put (Hd.put w b.a) b.b) b.path.length) ⟨⟨by omega,by omega⟩,hW⟩ (cv [0,1,2,6]) fun i v ⟨⟨hi,hv⟩,hx⟩ => ?_
 conv=>whnf
 refine br_of (fun h1 => ?_) (fun h1 => ?_) <;> conv=>whnf
 ·have h1:i<b.path.length:=by have:=of_decide_eq_true h1; omega
  rw [List.drop_eq_getElem_cons h1] at hx
  have hx:wRaws (wRaw v b.path[i] 32) (b.path.drop (i+1))=W:=hx
  have h3:=hp2 b.path[i] (List.getElem_mem h1)
  have l4:=wRaw_len v b.path[i] 32
  refine ⟨by omega,?_⟩
  conv=>whnf
  refine ob_of [sv b.path[i]] (by simp [h1]) ?_
  conv=>whnf
  refine cl (lwraw_ok v b.path[i] 32 (by omega)) [0,3] ?_
  conv=>whnf
  rw [wI64 (n:=(i:Int)+1) (by omega) (by omega)]
  exact ⟨(i+1,wRaw v b.path[i] 32),⟨⟨⟨by simp only; omega,by simp only; omega⟩,hx⟩,by simp only; omega⟩,cv [0,1,2,4]⟩
 ·have h1:i=b.path.length:=by have:=of_decide_eq_false h1; omega
  subst h1
  rw [List.drop_length] at hx
  have hx:v=W:=hx
  rw [hx]
  exact cv [0,1,2,3]
theorem Bd.put_len {b:Bd} (hr:b.right=true) (w:Ww):(Bd.put w b).1.length≤w.1.length+2000:=by
 obtain ⟨ha,hbb,hp,hp2⟩:=Bd.right_inv hr
 obtain ⟨a1,a2,a3,a4,_⟩:=Hd.right_inv ha
 obtain ⟨b1,b2,b3,b4,_⟩:=Hd.right_inv hbb
 have l1:=Hd.put_len b.a w
 have l2:=Hd.put_len b.b (Hd.put w b.a)
 have l3:=wNum_len (Hd.put (Hd.put w b.a) b.b) b.path.length
 have l4:=wRaws_len b.path (wNum (Hd.put (Hd.put w b.a) b.b) b.path.length) hp2
 unfold Bd.put
 omega
theorem benc_ok (b:Bd) (hl:b.path.length≤1000000):Tri Tryz.prog G 116 [.a (bdE 0 b)] [sRs b.path] (sv b.enc) [sRs b.path]:=by
 refine fn Tryz.func116 ?_
 conv=>whnf
 refine clQ (bright_ok b hl) [0] ?_
 conv=>whnf
 unfold Bd.enc
 cases hr:b.right with
 | false =>
  conv=>whnf
  exact cv [0]
 | true =>
  conv=>whnf
  refine CallE.ph 5 ?_
  refine cl (bput_ok b ([],0) hr (by simp)) [2,3,0] ?_
  conv=>whnf
  refine clQ (lwtext_ok (Bd.put ([],0) b)) [2,4] ?_
  conv=>whnf
  exact cv [0]
theorem rRaws_len:∀ (n:Nat) (r:Rr),(rRaws n r).1.length=n:=by
 intro n
 induction n with
 | zero=>intro r; rfl
 | succ n ih=>intro r; simp [rRaws,ih]
abbrev bd0:List E.EV:=[u64 0,u64 0,sv [],sv [],u64 0,u64 0,sv [],sv [],.v (.slice none 0 0)]
theorem bget_ok (r:Rr):Tri Tryz.prog G 86 [.p 0 0 0] [rdE r] (.a (bdE 1 (Bd.get r).1)) [rdE (Bd.get r).2,sRs (Bd.get r).1.path]:=by
 refine fn Tryz.func86 ?_
 conv=>whnf
 refine cl (hget_ok r) [0] ?_
 conv=>whnf
 refine cl (hget_ok (Hd.get r).2) [0] ?_
 conv=>whnf
 refine cl (lnum_ok (Hd.get (Hd.get r).2).2) [0] ?_
 conv=>whnf
 have hlt:=rNm_lt (Hd.get (Hd.get r).2).2
 obtain ⟨A,hA⟩:∃ A,(Hd.get r).1=A:=⟨_,rfl⟩
 obtain ⟨B,hB⟩:∃ B,(Hd.get (Hd.get r).2).1=B:=⟨_,rfl⟩
 obtain ⟨N,hN⟩:∃ N,rNm (Hd.get (Hd.get r).2).2=N:=⟨_,rfl⟩
 obtain ⟨nn,r1⟩:=N
 rw [hN] at hlt
 have hget:Bd.get r=(⟨A,B,(rRaws (min nn 48) (if nn>48 then rFl 4 r1 else r1)).1⟩,(rRaws (min nn 48) (if nn>48 then rFl 4 r1 else r1)).2):=by
  unfold Bd.get
  simp only [hA,hB,hN]
 rw [hget]
 clear hget
 rw [hA,hB,hN]
 clear hA hB hN
 refine br_of (fun h => ?_) (fun h => ?_) <;> conv=>whnf
 ·rw [if_pos (by have:=of_decide_eq_true h; omega)]
  refine cl (lfail_ok 4 r1) [0] ?_
  conv=>whnf
  generalize rFl 4 r1=r2
  rw [show (if (48:Int)<((nn:Nat):Int) then (48:Int) else (nn:Int))=((min nn 48:Nat):Int) from by split <;> omega]
  obtain ⟨K,hK⟩:∃ K,min nn 48=K:=⟨_,rfl⟩
  rw [hK]
  have hK2:K≤48:=by omega
  obtain ⟨Q,hQ⟩:∃ Q,rRaws K r2=Q:=⟨_,rfl⟩
  rw [hQ]
  have hQl:Q.1.length=K:=by rw [← hQ,rRaws_len]
  refine lp1 (X:=Nat×Rr×List Bs) (fun (i,rd,acc)=>([(0,.p 0 0 0),(2,.p 1 0 0),(3,.p 2 0 0),(18,u64 K),(19,u64 i)],[rdE rd,.r 60 bd0,.r 60 (hdE A++hdE B++[.s 3 0 acc.length false]),sRs acc])) (fun (i,rd,acc)=>(i≤K∧acc.length=i)∧acc++(rRaws (K-i) rd).1=Q.1∧(rRaws (K-i) rd).2=Q.2) (fun (i,_,_)=>K-i) (0,r2,[]) ⟨⟨by omega,rfl⟩,by rw [← hQ]; rfl,by rw [← hQ]; rfl⟩ (cv [0,1,2,9]) ?_
  rintro ⟨i,rd,acc⟩ ⟨⟨hi,hal⟩,hx1,hx2⟩
  conv=>whnf
  refine br_of (fun h1 => ?_) (fun h1 => ?_) <;> conv=>whnf
  ·have h1:i<K:=by have:=of_decide_eq_true h1; omega
   rw [show K-i=(K-(i+1))+1 by omega] at hx1 hx2
   have hx1:acc++((rTk 32 rd).1::(rRaws (K-(i+1)) (rTk 32 rd).2).1)=Q.1:=hx1
   have hx2:(rRaws (K-(i+1)) (rTk 32 rd).2).2=Q.2:=hx2
   refine cl (ltake_ok 32 rd) [0] ?_
   conv=>whnf
   refine ⟨⟨rfl,rfl⟩,?_⟩
   conv=>whnf
   refine ⟨by simp,?_⟩
   conv=>whnf
   refine ⟨⟨by omega,by simp⟩,?_⟩
   conv=>whnf
   refine ⟨rfl,?_⟩
   conv=>whnf
   rw [wU64 (n:=(i:Int)+1) (by omega) (by omega)]
   exact ⟨(i+1,(rTk 32 rd).2,acc++[(rTk 32 rd).1]),⟨⟨⟨by omega,by simp; omega⟩,by simpa using hx1,hx2⟩,Nat.sub_lt_sub_left h1 (Nat.lt_succ_self i)⟩,cv [0,1,2,5] (h5:=⟨⟨_,rfl,⟨.inl rfl,.inl rfl,trivial⟩⟩,⟨_,rfl,⟨.inl rfl,.inl rfl,.inl rfl,.inl rfl,.inl rfl,.inl rfl,.inl rfl,.inl rfl,.inl rfl,trivial⟩⟩,⟨_,rfl,⟨.inl rfl,.inl rfl,.inl rfl,.inl rfl,.inl rfl,.inl rfl,.inl rfl,.inl rfl,.inl (by simp [ren]),trivial⟩⟩,.inl (by simp),trivial⟩)⟩
  ·have h1:i=K:=by have:=of_decide_eq_false h1; omega
   subst h1
   rw [Nat.sub_self] at hx1 hx2
   have hx1:acc++[]=Q.1:=hx1
   have hx2:rd=Q.2:=hx2
   rw [List.append_nil] at hx1
   rw [← hx1,← hx2]
   exact cv [0,3]
 ·rw [if_neg (by have:=of_decide_eq_false h; omega)]
  generalize r1=r2
  rw [show (if (48:Int)<((nn:Nat):Int) then (48:Int) else (nn:Int))=((min nn 48:Nat):Int) from by split <;> omega]
  obtain ⟨K,hK⟩:∃ K,min nn 48=K:=⟨_,rfl⟩
  rw [hK]
  have hK2:K≤48:=by omega
  obtain ⟨Q,hQ⟩:∃ Q,rRaws K r2=Q:=⟨_,rfl⟩
  rw [hQ]
  have hQl:Q.1.length=K:=by rw [← hQ,rRaws_len]
  refine lp1 (X:=Nat×Rr×List Bs) (fun (i,rd,acc)=>([(0,.p 0 0 0),(2,.p 1 0 0),(3,.p 2 0 0),(18,u64 K),(19,u64 i)],[rdE rd,.r 60 bd0,.r 60 (hdE A++hdE B++[.s 3 0 acc.length false]),sRs acc])) (fun (i,rd,acc)=>(i≤K∧acc.length=i)∧acc++(rRaws (K-i) rd).1=Q.1∧(rRaws (K-i) rd).2=Q.2) (fun (i,_,_)=>K-i) (0,r2,[]) ⟨⟨by omega,rfl⟩,by rw [← hQ]; rfl,by rw [← hQ]; rfl⟩ (cv [0,1,2,9]) ?_
  rintro ⟨i,rd,acc⟩ ⟨⟨hi,hal⟩,hx1,hx2⟩
  conv=>whnf
  refine br_of (fun h1 => ?_) (fun h1 => ?_) <;> conv=>whnf
  ·have h1:i<K:=by have:=of_decide_eq_true h1; omega
   rw [show K-i=(K-(i+1))+1 by omega] at hx1 hx2
   have hx1:acc++((rTk 32 rd).1::(rRaws (K-(i+1)) (rTk 32 rd).2).1)=Q.1:=hx1
   have hx2:(rRaws (K-(i+1)) (rTk 32 rd).2).2=Q.2:=hx2
   refine cl (ltake_ok 32 rd) [0] ?_
   conv=>whnf
   refine ⟨⟨rfl,rfl⟩,?_⟩
   conv=>whnf
   refine ⟨by simp,?_⟩
   conv=>whnf
   refine ⟨⟨by omega,by simp⟩,?_⟩
   conv=>whnf
   refine ⟨rfl,?_⟩
   conv=>whnf
   rw [wU64 (n:=(i:Int)+1) (by omega) (by omega)]
   exact ⟨(i+1,(rTk 32 rd).2,acc++[(rTk 32 rd).1]),⟨⟨⟨by omega,by simp; omega⟩,by simpa using hx1,hx2⟩,Nat.sub_lt_sub_left h1 (Nat.lt_succ_self i)⟩,cv [0,1,2,5] (h5:=⟨⟨_,rfl,⟨.inl rfl,.inl rfl,trivial⟩⟩,⟨_,rfl,⟨.inl rfl,.inl rfl,.inl rfl,.inl rfl,.inl rfl,.inl rfl,.inl rfl,.inl rfl,.inl rfl,trivial⟩⟩,⟨_,rfl,⟨.inl rfl,.inl rfl,.inl rfl,.inl rfl,.inl rfl,.inl rfl,.inl rfl,.inl rfl,.inl (by simp [ren]),trivial⟩⟩,.inl (by simp),trivial⟩)⟩
  ·have h1:i=K:=by have:=of_decide_eq_false h1; omega
   subst h1
   rw [Nat.sub_self] at hx1 hx2
   have hx1:acc++[]=Q.1:=hx1
   have hx2:rd=Q.2:=hx2
   rw [List.append_nil] at hx1
   rw [← hx1,← hx2]
   exact cv [0,3]
theorem bget_len (r:Rr):(Bd.get r).1.path.length≤48:=by
 unfold Bd.get
 simp only [rRaws_len]
 omega
theorem bdec_a {s:Bs} (h:rEn (Bd.get (s,0)).2≠0):Bd.dec s=(.nil,rEn (Bd.get (s,0)).2):=by
 unfold Bd.dec
 simp only [h,false_and,if_false,ne_eq,not_false_eq_true,if_true]
theorem bdec_b {s:Bs} (h:rEn (Bd.get (s,0)).2=0) (h2:(Bd.get (s,0)).1.right=false):Bd.dec s=(.nil,3):=by
 unfold Bd.dec
 simp only [h,h2]
 rfl
theorem bdec_c {s:Bs} (h:rEn (Bd.get (s,0)).2=0) (h2:(Bd.get (s,0)).1.right=true):Bd.dec s=((Bd.get (s,0)).1,0):=by
 unfold Bd.dec
 simp only [h,h2]
 rfl
theorem bdec_ok (s:Bs):Tri Tryz.prog G 56 [sv s] [] (.t [.a (bdE 0 (Bd.dec s).1),i64 (Bd.dec s).2]) [sRs (Bd.dec s).1.path]:=by
 have hl:=bget_len (s,0)
 refine fn Tryz.func56 ?_
 conv=>whnf
 refine cl (lread_ok s) [] ?_
 conv=>whnf
 refine cl (bget_ok (s,0)) [1] ?_
 conv=>whnf
 refine cl (lend_ok (Bd.get (s,0)).2) [1] ?_
 conv=>whnf
 refine br_of (fun h => ?_) (fun h => ?_) <;> rw [h] <;> conv=>whnf
 ·have h:=eq_of_beq h
  refine clQ (bright_ok (Bd.get (s,0)).1 (by omega)) [2] ?_
  conv=>whnf
  cases hr:(Bd.get (s,0)).1.right with
  | false =>
   rw [bdec_b h hr]
   conv=>whnf
   exact cv [9]
  | true =>
   rw [bdec_c h hr]
   conv=>whnf
   refine br_f (by rw [h]; rfl) ?_
   conv=>whnf
   exact cv [2]
 ·have h:rEn (Bd.get (s,0)).2≠0:=by simpa using h
  rw [bdec_a h]
  refine br_t (by simpa using h) ?_
  conv=>whnf
  exact cv [9]
theorem bdec_len (s:Bs):(Bd.dec s).1.path.length≤48:=by
 by_cases h:rEn (Bd.get (s,0)).2=0
 ·cases h2:(Bd.get (s,0)).1.right with
  | false=>rw [bdec_b h h2]; exact Nat.zero_le _
  | true=>rw [bdec_c h h2]; exact bget_len _
 ·rw [bdec_a h]; exact Nat.zero_le _
theorem bcheck_ok (hG:GSig G) (hS:GSha G) (pub s:Bs) (hp:pub.length≤10000):Tri Tryz.prog G 20 [sv pub,sv s] [] (bv (Bd.check pub s)) []:=by
 have hl:=bdec_len s
 refine fn Tryz.func20 ?_
 conv=>whnf
 refine cl (bdec_ok s) [] ?_
 conv=>whnf
 have e:Bd.check pub s=((Bd.dec s).2==0&&(Bd.dec s).1.odd&&(Bd.dec s).1.a.check pub&&(Bd.dec s).1.b.check pub):=rfl
 rw [e]
 clear e
 generalize Bd.dec s=x at *
 refine br_of (fun h => ?_) (fun h => ?_) <;> rw [h] <;> conv=>whnf
 rotate_left
 ·exact cv []
 refine clQ (bodd_ok hS x.1 (by omega)) [0] ?_
 conv=>whnf
 refine br_of (fun h => ?_) (fun h => ?_) <;> rw [h] <;> conv=>whnf
 rotate_left
 ·exact cv []
 refine cl (hcheck_ok hG pub x.1.a hp) [] ?_
 conv=>whnf
 refine br_of (fun h => ?_) (fun h => ?_) <;> rw [h] <;> conv=>whnf
 rotate_left
 ·exact cv []
 refine cl (hcheck_ok hG pub x.1.b hp) [] ?_
 conv=>whnf
 exact cv []
theorem bbuild_ok (hS:GSha G) (a b:Hd) (path:List Bs) (hl:path.length≤1000000):Tri Tryz.prog G 177 [.a (hdE a),.a (hdE b),.s 0 0 path.length false] [sRs path] (.t [.a (bdE 1 (Bd.build a b path).1),i64 (Bd.build a b path).2]) [sRs path,sRs (Bd.build a b path).1.path]:=by
 refine fn Tryz.func177 ?_
 conv=>whnf
 refine clN (cloneS_ok path hl) [0] [sRs path] ?_
 conv=>whnf
 refine clN (cloneS_ok path hl) [0] [sRs path] ?_
 conv=>whnf
 refine ⟨rfl,?_⟩
 conv=>whnf
 unfold Bd.build
 refine lu 5 ?_
 conv=>whnf
 refine ⟨by decide,?_⟩
 conv=>whnf
 refine CallE.ph 9 ?_
 refine clQ (bodd_ok hS ⟨a,b,[]⟩ (by simp)) [8] ?_
 conv=>whnf
 cases h1:Bd.odd ⟨a,b,[]⟩ with
 | true =>
  conv=>whnf
  exact cv [0,99]
 | false =>
 conv=>whnf
 refine ⟨by decide,?_⟩
 conv=>whnf
 refine CallE.ph 9 ?_
 refine clQ (bodd_ok hS ⟨b,a,[]⟩ (by simp)) [10] ?_
 conv=>whnf
 cases h2:Bd.odd ⟨b,a,[]⟩ with
 | true =>
  conv=>whnf
  exact cv [0,99]
 | false =>
 conv=>whnf
 refine ⟨by decide,?_⟩
 conv=>whnf
 refine clQ (bodd_ok hS ⟨a,b,path⟩ hl) [5] ?_
 conv=>whnf
 cases h3:Bd.odd ⟨a,b,path⟩ with
 | true =>
  conv=>whnf
  exact cv [0,5]
 | false =>
 conv=>whnf
 refine ⟨by decide,?_⟩
 conv=>whnf
 refine clQ (bodd_ok hS ⟨b,a,path⟩ hl) [6] ?_
 conv=>whnf
 cases h4:Bd.odd ⟨b,a,path⟩ with
 | true =>
  conv=>whnf
  exact cv [0,6]
 | false =>
 conv=>whnf
 exact cv [0,99]
def hdV (h:Hd):List Value:=[.int .u64 (h.size:Nat),.int .u64 (h.time:Nat),.string (sB h.root),.string (sB h.sig)]
def hdC (l:List Hd):List Value:=l.flatMap hdV
theorem hdC_len:∀ l:List Hd,(hdC l).length=4*l.length
 | []=>rfl
 | h::l=>by rw [hdC,List.flatMap_cons,List.length_append,List.length_cons,← hdC,hdC_len l]; show 4+_=_; omega
theorem hdC_app (l m:List Hd):hdC (l++m)=hdC l++hdC m:=by simp [hdC]
theorem hdC_take:∀ (l:List Hd) (i:Nat),hdC (l.take i)=(hdC l).take (4*i)
 | _,0=>by simp [hdC]
 | [],i+1=>by simp [hdC]
 | h::l,i+1=>by
  rw [List.take_succ_cons,hdC,hdC,List.flatMap_cons,List.flatMap_cons,← hdC,← hdC,hdC_take l i,show 4*(i+1)=(hdV h).length+4*i by show _=4+_; omega,List.take_length_add_append]
theorem hdC_drop:∀ (l:List Hd) (i:Nat),hdC (l.drop i)=(hdC l).drop (4*i)
 | _,0=>by simp
 | [],i+1=>by simp [hdC]
 | h::l,i+1=>by
  rw [List.drop_succ_cons,hdC_drop l i]
  show _=(hdV h++hdC l).drop _
  rw [show 4*(i+1)=(hdV h).length+4*i by show _=4+_; omega,List.drop_length_add_append]
theorem hdC_one (l:List Hd):∀ v∈hdC l,v.oneCell'=true:=fun v hv=>by
 obtain ⟨h,_,hv⟩:=List.mem_flatMap.1 hv
 simp only [hdV,List.mem_cons,List.not_mem_nil,or_false] at hv
 rcases hv with rfl | rfl | rfl | rfl <;> rfl
theorem hdC_at {l:List Hd} {i f:Nat} (hi:i<l.length) (hf:f<4):(hdC l)[i*4+f]? = (hdV l[i])[f]? := by
 have e:l=l.take i++l[i]::l.drop (i+1):=by rw [← List.drop_eq_getElem_cons hi,List.take_append_drop]
 have h1:(hdC (l.take i)).length=i*4:=by rw [hdC_len,List.length_take]; omega
 have h2:hdC l=hdC (l.take i)++(hdV l[i]++hdC (l.drop (i+1))):=by
  conv=>lhs; rw [e]
  rw [hdC_app]
  rfl
 rw [h2,List.getElem?_append_right (by omega),h1,show i*4+f-i*4=f by omega,List.getElem?_append_left (by exact hf)]
theorem hd_cells {B:Bm} {w:World} {q:BI} {l:List Hd} (h:RowsAt Tryz.prog B w q 46 (l.map hdE)):q.k=4∧∃ c,Bf w q.b 46 c∧c.size=q.sz∧l.length*4≤q.sz∧∀ (j:Nat) (v:Value),(hdC l)[j]? = some v→c[j]? = some v:=by
 obtain ⟨hk,c,hb,hs,hl,hr⟩:=h
 have hk4:q.k=4:=hk.trans rfl
 refine ⟨hk4,c,hb,hs,by rw [hk4] at hl; simpa using hl,fun j v hv => ?_⟩
 have hj:j<4*l.length:=by rw [← hdC_len]; exact (List.getElem?_eq_some_iff.1 hv).1
 have hi:j/4<l.length:=by omega
 obtain ⟨-,hcell⟩:=hr (j/4) (hdE l[j/4]) (by simp [hi])
 rw [show j=j/4*4+j%4 by omega,hdC_at hi (by omega)] at hv
 rw [hk4] at hcell
 have key:∀ f v,f<4→(hdV l[j/4])[f]? = some v→c[j/4*4+f]? = some v:=fun f v hf hv=>by
  match f,hf,hv with
  | 0,_,hv=>cases hv; obtain ⟨u,a,b, -⟩:=hcell 0 _ rfl; rw [a,b.v_inv]
  | 1,_,hv=>cases hv; obtain ⟨u,a,b, -⟩:=hcell 1 _ rfl; rw [a,b.v_inv]
  | 2,_,hv=>cases hv; obtain ⟨u,a,b, -⟩:=hcell 2 _ rfl; rw [a,b.v_inv]
  | 3,_,hv=>cases hv; obtain ⟨u,a,b, -⟩:=hcell 3 _ rfl; rw [a,b.v_inv]
 have:=key (j%4) v (by omega) hv
 rwa [show j/4*4+j%4=j by omega] at this
theorem cells_hd {B:Bm} {w:World} {q:BI} {l:List Hd} {c:Array Value} (hk:q.k=4) (hb:Bf w q.b 46 c) (hs:c.size=q.sz) (hl:l.length*4≤q.sz) (hc:∀ (j:Nat) (v:Value),(hdC l)[j]? = some v→c[j]? = some v):RowsAt Tryz.prog B w q 46 (l.map hdE):=by
 refine ⟨hk.trans rfl,c,hb,hs,by rw [hk]; simpa using hl,fun i row hi => ?_⟩
 rw [List.getElem?_map] at hi
 obtain ⟨h,hh,rfl⟩:=Option.map_eq_some_iff.1 hi
 obtain ⟨hil,rfl⟩:=List.getElem?_eq_some_iff.1 hh
 refine ⟨by rw [hk]; rfl,fun f x hx => ?_⟩
 rw [hk]
 match f,hx with
 | 0,hx=>cases hx; exact ⟨_,hc _ _ (hdC_at hil (by decide)),.v _,rfl⟩
 | 1,hx=>cases hx; exact ⟨_,hc _ _ (hdC_at hil (by decide)),.v _,rfl⟩
 | 2,hx=>cases hx; exact ⟨_,hc _ _ (hdC_at hil (by decide)),.v _,rfl⟩
 | 3,hx=>cases hx; exact ⟨_,hc _ _ (hdC_at hil (by decide)),.v _,rfl⟩
theorem hd_pl (l:List Hd):plainR (l.map hdE):=fun row hr x hx=>by
 obtain ⟨h,_,rfl⟩:=List.mem_map.1 hr
 simp only [List.mem_cons,List.not_mem_nil,or_false] at hx
 rcases hx with rfl | rfl | rfl | rfl <;> exact ⟨_,rfl⟩
theorem ERs.three {B:Bm} {x y z:E.EV} {us:Array Value} (h:ERs B [x,y,z] us):∃ u v t,us = #[u,v,t]∧ER B x u∧ER B y v∧ER B z t:=by
 obtain ⟨h1,h2⟩:=h
 match us,h1 with
 | ⟨[u,v,t]⟩,_=>exact ⟨u,v,t,rfl,h2 0 x u rfl rfl,h2 1 y v rfl rfl,h2 2 z t rfl rfl⟩
theorem delete_ok {G:Gl} (l:List Hd) (i:Nat) (hi:i<l.length) (hl:l.length≤100000):Tri Tryz.prog G 183 [.s 0 0 l.length false,i64 (i:Nat),i64 ((i:Int)+1)] [hdRs l] (.s 0 0 (l.length-1) false) [hdRs (l.eraseIdx i)]:=by
 refine ⟨⟨_,Tryz.func183,by kernel_rfl,rfl⟩,fun S0 w0 B w vs has hw => ?_⟩
 obtain ⟨u,v1,v2,rfl,hu,hv1,hv2⟩:=ERs.three has
 rw [hv1.v_inv,hv2.v_inv]
 rcases hu.s_inv with ⟨q,c,hq,hn,hc0,hcm,hcq, -,rfl⟩ | ⟨h, -⟩
 rotate_left
 ·omega
 obtain ⟨q',hq',hr⟩:=(hw.row 0 46 (l.map hdE) rfl).here (i:=0) (row:=hdE (l[0]'(by omega))) (by rw [List.getElem?_map,List.getElem?_eq_getElem (by omega)]; rfl)
 rw [hq] at hq'; cases hq'
 obtain ⟨hk,arr,hb,hs,hle,hcell⟩:=hd_cells hr
 rw [Nat.zero_mul]
 refine (del_any q.b l.length c i (hdC l) w hi hn (Nat.le_trans hcm (by decide)) (hdC_len l) (fun j v hv=>by rw [hb.cell]; exact hcell j v hv) (fun j hj=>hb.frozen j (by omega)) (hdC_one l)).mono fun e w' ⟨he,hw'⟩ => ?_
 obtain ⟨a1,hb1,hs1,ho1,hi1⟩:=Bf.setCells (g:=q.b) ((hdC l).drop (4*(i+1))) (4*i) _ _ hb.drew
 obtain ⟨a2,hb2,hs2,ho2,hi2⟩:=Bf.setCells (g:=q.b) zrH (4*(l.length-1)) _ _ hb1
 rw [← hw'] at hb2
 have ht:Touch [q.b] w w':=by
  rw [hw']
  exact Touch.setCells (.inl (by simp)) _ _ _ (Touch.setCells (.inl (by simp)) _ _ _ (Touch.refl [q.b] w).drew)
 have hel:(l.eraseIdx i).length=l.length-1:=by rw [List.length_eraseIdx,if_pos hi]
 have hrow:RowsAt Tryz.prog B w' q 46 ((l.eraseIdx i).map hdE):=cells_hd hk hb2 (by omega) (by omega) fun j v hv=>by
  have hj:j<4*(l.length-1):=by rw [← hel,← hdC_len]; exact (List.getElem?_eq_some_iff.1 hv).1
  rw [ho2 j (.inl hj)]
  rw [List.eraseIdx_eq_take_drop_succ,hdC_app,hdC_take,hdC_drop] at hv
  have htl:((hdC l).take (4*i)).length=4*i:=by rw [List.length_take,hdC_len]; omega
  by_cases hji:j<4*i
  ·rw [ho1 j (.inl hji)]
   rw [List.getElem?_append_left (by omega),List.getElem?_take,if_pos hji] at hv
   exact hcell j v hv
  ·rw [List.getElem?_append_right (by omega),htl] at hv
   have:=hi1 (j-4*i) v hv (by rw [show 4*i+(j-4*i)=j by omega,hs]; omega)
   rwa [show 4*i+(j-4*i)=j by omega] at this
 have hfin:=hw.upd (L:=0) rfl hq ht (hdRs (l.eraseIdx i)) (fun h=>by cases h) (fun t rows hv=>by cases hv; exact hrow) (fun xo h=>by cases h) (fun t rows h=>by cases h; exact hd_pl _)
 have hB:hf [hdRs (l.eraseIdx i)]=updH (hf [hdRs l]) 0 (hdRs (l.eraseIdx i)):=by
  funext L
  unfold updH
  by_cases e:L=0
  ·subst e; rfl
  ·rw [if_neg e,hf_big (by show 1≤L; omega),hf_big (by show 1≤L; omega)]
 refine ⟨B,_,he,Bm.le.refl _,?_,by rw [hB]; exact hfin⟩
 have:=ER.s (B:=B) (L:=0) (i:=0) (n:=l.length-1) (c:=c) hq (by omega) hc0 hcm hcq
 rwa [Nat.zero_mul] at this
end Go.Proofs.YtdhgpocbcccieaaGreatDoor.M
