/- Part 7 of the proof: Il In Fr Fs Ma Mb Mc Md Me Mf Mh Da. -/
import Derived.Lib.Overlaps
import Derived.Lib.AppendZeros
import Derived.Laws.Externs
import Derived.Test.YtdhgpocbcccieaaGreatDoorY1
import Derived.Test.YtdhgpocbcccieaaGreatDoorY6
set_option maxRecDepth 1000000
set_option maxHeartbeats 20000000
set_option linter.unusedVariables false
set_option linter.unusedSimpArgs false
namespace Go.Proofs.YtdhgpocbcccieaaGreatDoor
open Go Go.RowKit Go.Lib
theorem wp_copy_runJ {P:Program} (w:World) {o:Oper} {a:Act} {K:Act→World→Prop} {Q:Exit→Act→World→Prop} (d s:Operand) (t t':TypeId)
  (ho:o.op = .call { callee := .builtin .copy,args := #[d,s],argTypes := #[t,t'] }) (v u:Value) (hd:a.eval d=v) (hs:a.eval s=u) {v':Value} {w':World}
  (hr:(Builtin.copy_ #[t,t'] o.type #[v,u]).run P w = .ok v' w') (h:K (a.put o.dst v') w'):o.wp P a w K Q:=by
 unfold Oper.wp execOp
 simp only [ho,resolve,invoke,builtin,Sem.run_bind,Sem.run_pure,Result.andThen_ok,List.map_toArray,List.map_cons,List.map_nil,hd,hs,hr]
 exact h
theorem wpList_copy_runJ {P:Program} (w:World) {ops:Array Oper} {rest:List Oper} {o:Oper} {a:Act} {Q:Exit→Act→World→Prop} (hgd:o.guard=none) (d s:Operand) (t t':TypeId)
  (ho:o.op = .call { callee := .builtin .copy,args := #[d,s],argTypes := #[t,t'] }) (v u:Value) (hd:a.eval d=v) (hs:a.eval s=u) {v':Value} {w':World}
  (hr:(Builtin.copy_ #[t,t'] o.type #[v,u]).run P w = .ok v' w') (h:wpList P ops Q rest (a.put o.dst v') w'):wpList P ops Q (o::rest) a w :=
 wpList_plain hgd fun _ hK=>wp_copy_runJ w d s t t' ho v u hd hs hr (hK _ _ h)
theorem step_copy_runJ {P:Program} {ops:Array Oper} {o:Oper} {a:Act} {w:World} {K:Act→World→Prop} {Q:Exit→Act→World→Prop} {E:Prop}
  (hg:o.guard=none) (d x:Operand) (dT sT:TypeId) (hop:o.op=Op.call { callee:=Callee.builtin Builtin.copy,args := #[d,x],argTypes := #[dT,sT] })
  (v u:Value) (hd:a.eval d=v) (hx:a.eval x=u) {v':Value} {w':World} (hr:(Builtin.copy_ #[dT,sT] o.type #[v,u]).run P w = .ok v' w') (hK:K (a.put o.dst v') w') :
  if Region.wanted o (yielded ops a.tmps)=true then Oper.wp P o a w K Q else E:=by
 have hw:Region.wanted o (yielded ops a.tmps)=true:=by simp [Region.wanted,hg]
 rw [if_pos hw]
 unfold Oper.wp
 simp [execOp,hop,resolve,invoke,builtin,hd,hx,hr,Result.andThen]
 exact hK
theorem copy4 (w:World) (ty:TypeId) (b o dLen dCap:Nat) (a:Addr) (sLen sCap k:Nat) (cs:List Value) (hk:k=Nat.min sLen dLen) (hn:cs.length=k*4)
  (hsrc:∀ (j:Nat) (v:Value),cs[j]? = some v→w.cell? (a.add j)=some v) (hc:∀ j,j<cs.length→(w.cell? ⟨b,o+j,none⟩).isSome=true) (hf:∀ j,j<cs.length→w.frozen? ⟨b,o+j,none⟩=false) (h1:∀ v∈cs,v.oneCell'=true) :
  (Builtin.copy_ #[47,47] ty #[.slice (some ⟨b,o,none⟩) dLen dCap,.slice (some a) sLen sCap]).run Tryz.prog w = .ok (goInt k) (w.setCells b o cs):=by
 have hl:=run_loadCells_list (P:=Tryz.prog) w a cs hsrc
 have hst:=run_storeCells_cells (P:=Tryz.prog) b o cs 0 w (by simpa using hc) (by simpa using hf) h1
 obtain ⟨i,hq,hz0,hzs,hzb⟩:=info_parts infoH
 rw [hn] at hl
 simp [Builtin.copy_,run_underlying Tryz.underlying47,Builtin.lenOf,Builtin.firstCells,sizeOf,typeInfo,hq,hzs,← hk,hl,hst]
theorem overH (w:World) (vb b off lb cb vc:Nat) (hne:vb≠b) (kA kB:Nat) (hsa:w.shape? vb=some (46,kA)) (hsb:w.shape? b=some (46,kB)) (hkB:kB≠0) (hfa:w.frozen? ⟨vb,0,none⟩=false) (hfe:w.frozen? ⟨vb,kA,none⟩=false) :
  (callFunc 236 #[.slice (some ⟨vb,0,none⟩) 1 vc,.slice (some ⟨b,off,none⟩) lb cb]).run Tryz.prog w = .ok (.value (.bool false)) w:=by
 have z46:∀ w,(Go.sizeOf 46).run Tryz.prog w = .ok 4 w:=fun w=>by kernel_rfl
 rw [run_callFunc_extern Tryz.func236 (by kernel_rfl) (by kernel_rfl) (by kernel_rfl) (e:=Extern.SlicesOverlaps.overlaps #[47,47] #[4]) (by kernel_rfl),
  Lib.run_overlaps_apart w 47 4 46 Tryz.underlying47 4 z46 ⟨vb,0,none⟩ ⟨b,off,none⟩ 1 vc lb cb hne _ _ kA kB hsa hsb hkB hfa hfe]
 rfl
theorem ins_room (b n c i vb vc kA kB:Nat) (cs vs:List Value) (w:World) (hi:i<n) (hroom:n+1≤c) (hc63:c≤9223372036854775807) (hne:vb≠b) (hcl:cs.length=4*n) (hvl:vs.length=4)
  (hcs:∀ (j:Nat) (v:Value),cs[j]? = some v→w.cell? ⟨b,j,none⟩=some v) (hsp:∀ j,j<4*(n+1)→(w.cell? ⟨b,j,none⟩).isSome=true) (hfz:∀ j,j<4*(n+1)→w.frozen? ⟨b,j,none⟩=false)
  (hvs:∀ (j:Nat) (v:Value),vs[j]? = some v→w.cell? ⟨vb,j,none⟩=some v) (h1c:∀ v∈cs,v.oneCell'=true) (h1v:∀ v∈vs,v.oneCell'=true)
  (hsa:w.shape? vb=some (46,kA)) (hsb:w.shape? b=some (46,kB)) (hkB:kB≠0) (hfa:w.frozen? ⟨vb,0,none⟩=false) (hfe:w.frozen? ⟨vb,kA,none⟩=false) :
  Calls Tryz.prog 181 #[.slice (some ⟨b,0,none⟩) n c,.int .i64 i,.slice (some ⟨vb,0,none⟩) 1 vc] w fun e w' =>
   e = .returned (.slice (some ⟨b,0,none⟩) (n+1) c)∧w'=(w.drew.setCells b ((i+1)*4) (cs.drop (4*i))).setCells b (i*4) vs:=by
 have hov:∀ off lb cb,(callFunc 236 #[.slice (some ⟨vb,0,none⟩) 1 vc,.slice (some ⟨b,off,none⟩) lb cb]).run Tryz.prog w = .ok (.value (.bool false)) w:=fun off lb cb=>overH w vb b off lb cb vc hne kA kB hsa hsb hkB hfa hfe
 clear hsa hsb hkB hfa hfe
 have hz2:¬ ((i:Int)=(n:Int)):=by omega
 have hw1:IntKind.i64.wrap ((i:Int)+1)=(i:Int)+1:=by rw [IntKind.wrap_i64]; omega
 have hw2:IntKind.i64.wrap ((n:Int)+1)=(n:Int)+1:=by rw [IntKind.wrap_i64]; omega
 have hb0:¬ ((c:Int)<(n:Int)+1):=by omega
 have hb1:(0:Int)≤(i:Int)+1:=by omega
 have hin:i≤n:=by omega
 have hb2:¬ (c=i+1):=by omega
 have hb3:(i:Int)≤(n:Int)+1:=by omega
 have hb4:¬ (c=i):=by omega
 have hdl:(cs.drop (4*i)).length=(n-i)*4:=by rw [List.length_drop,hcl]; omega
 have hcp1:∀ ty dc sc,(Builtin.copy_ #[47,47] ty #[.slice (some ⟨b,(i+1)*4,none⟩) (n-i) dc,.slice (some ⟨b,i*4,none⟩) (n+1-i) sc]).run Tryz.prog w.drew = .ok (goInt ((n-i:Nat):Int)) (w.drew.setCells b ((i+1)*4) (cs.drop (4*i))):=fun ty dc sc =>
  copy4 w.drew ty b ((i+1)*4) (n-i) dc ⟨b,i*4,none⟩ (n+1-i) sc (n-i) (cs.drop (4*i)) (by simp only [Nat.min_def]; split <;> omega) hdl
   (fun j v hj=>by rw [Addr.add_lit]; rw [List.getElem?_drop] at hj; have:=hcs _ v hj; rw [show i*4+j=4*i+j by omega]; exact this)
   (fun j hj=>hsp _ (by omega)) (fun j hj=>hfz _ (by omega)) (fun v hv=>h1c v (List.mem_of_mem_drop hv))
 obtain ⟨W1,hW1⟩:∃ W1,W1=w.drew.setCells b ((i+1)*4) (cs.drop (4*i)):=⟨_,rfl⟩
 have hsp1:∀ k,k<4*(n+1)→(W1.cell? ⟨b,k,none⟩).isSome=true:=fun k hk=>by
  rw [hW1]
  exact isSome_setCells' b (cs.drop (4*i)) ((i+1)*4) w.drew (fun j hj=>hsp _ (by omega)) _ (hsp k hk)
 have hcp2:∀ ty dc,(Builtin.copy_ #[47,47] ty #[.slice (some ⟨b,i*4,none⟩) (n+1-i) dc,.slice (some ⟨vb,0,none⟩) 1 vc]).run Tryz.prog W1 = .ok (goInt 1) (W1.setCells b (i*4) vs):=fun ty dc =>
  copy4 W1 ty b (i*4) (n+1-i) dc ⟨vb,0,none⟩ 1 vc 1 vs (by simp only [Nat.min_def]; split <;> omega) (by omega)
   (fun j v hj=>by
    rw [Addr.add_lit,hW1,World.cell?_setCells_out b _ _ _ _ (fun h _=>absurd h hne),Nat.zero_add]
    exact hvs j v hj)
   (fun j hj=>hsp1 _ (by omega)) (fun j hj=>by rw [hW1,World.frozen?_setCells]; exact hfz _ (by omega)) h1v
 rw [← hW1] at hcp1
 have HW:=Lib.hid hW1
 clear hW1 hsp1
 have mixed:Tryz.prog.follows .mixedOrders=true:=by kernel_rfl
 have t47:=Tryz.underlying47
 have u47:=run_underlying Tryz.underlying47
 have z46:∀ w,(Go.sizeOf 46).run Tryz.prog w = .ok 4 w:=fun w=>by kernel_rfl
 go_enter Tryz.func181,Tryz.ntmps181
 go_wp2_with (simp only [hov])
 go_region_law_o (refine step_copy_runJ rfl _ _ 47 47 rfl _ _ (by simp [Act.eval,Act.put]) (by simp [Act.eval,Act.put]) (hcp1 _ _ _) ?_)
 go_wp2_with (at_builtin; refine wpList_copy_runJ _ rfl _ _ 47 47 rfl _ _ rfl rfl (hcp2 _ _) ?_)
 go_ret
 exact ⟨rfl,by rw [HW.out]⟩
theorem app_zerosH (w:World) (ty:TypeId) (b i c m:Nat) (cs:List Value) (hm:0<m) (hcap:c<i+m) (hbig:i+m≤1000000) (hcl:cs.length=i*4) (hcs:∀ (j:Nat) (v:Value),cs[j]? = some v→w.cell? ⟨b,j,none⟩=some v) :
  (Builtin.append_ #[47,3] ty #[.slice (some ⟨b,0,none⟩) i c,.int .i64 m]).run Tryz.prog w =
   .ok (.slice (some ⟨w.heap.size,0,none⟩) (i+m) (grownCap w (i+m) c 46)) (w.drew.alloc (.cells (cs.toArray++Builtin.zeroCells (Value.agg zrH.toArray).cells m++Builtin.zeroCells (Value.agg zrH.toArray).cells (grownCap w (i+m) c 46-(i+m))) 46)):=by
 obtain ⟨i0,hi0,hz0,hzs,hzb⟩:=info_parts infoH
 have hl:=run_loadCells_list (P:=Tryz.prog) w.drew ⟨b,0,none⟩ cs (fun j v hj=>by rw [Addr.add_lit,Nat.zero_add]; exact hcs j v hj)
 rw [hcl] at hl
 have hn:¬ (i+m≤c):=by omega
 have hw:IntKind.i64.wrap (m:Int)=m:=by rw [IntKind.wrap_i64]; omega
 have h63':¬ (9223372036854775807<((i:Int)+(m:Int))):=by omega
 have hfit:=growslice_fits (bytes:=48) hcap (by omega)
 have h48':¬ (281474976710656<Builtin.nextslicecap (i+m) c*48):=by omega
 have h48i:¬ (281474976710656<(m:Int)*48):=by omega
 have hneg:¬ ((m:Int)<0):=by omega
 have hm0:m≠0:=by omega
 simp [Builtin.append_,run_underlying Tryz.underlying47,run_underlying Tryz.underlying3,sizeOf,typeInfo,zeroValue,hi0,hz0,hzs,hzb,asInt,asIntOf,hw,hn,hneg,hm0,h63',h48',h48i,Question.forced,Builtin.firstCells,hl,newRow,grownCap]
 intro h
 omega
theorem cell_new {w:World} {o:Obj} {b j:Nat} {v:Value} (hb:b<w.heap.size) (h:w.cell? ⟨b,j,none⟩=some v):(w.drew.alloc o).cell? ⟨b,j,none⟩=some v:=by
 have:=Below.heap_alloc w.drew o b hb
 unfold World.cell? at h ⊢
 simp only at h ⊢
 rw [this]
 exact h
theorem ins_grow (b n i vb vc:Nat) (cs vs:List Value) (w:World) (hi:i<n) (hnb:n≤900000) (hb:b<w.heap.size) (hvb:vb<w.heap.size) (hcl:cs.length=4*n) (hvl:vs.length=4)
  (hcs:∀ (j:Nat) (v:Value),cs[j]? = some v→w.cell? ⟨b,j,none⟩=some v) (hvs:∀ (j:Nat) (v:Value),vs[j]? = some v→w.cell? ⟨vb,j,none⟩=some v) (h1c:∀ v∈cs,v.oneCell'=true) (h1v:∀ v∈vs,v.oneCell'=true) :
  Calls Tryz.prog 181 #[.slice (some ⟨b,0,none⟩) n n,.int .i64 i,.slice (some ⟨vb,0,none⟩) 1 vc] w fun e w' =>
   ∃ (C:Nat) (arr:Array Value),n+1≤C∧C≤maxLen∧arr.size=4*C∧(∀ j,j<4*i→arr[j]? = cs[j]?)∧e = .returned (.slice (some ⟨w.heap.size,0,none⟩) (n+1) C)∧w'=((w.drew.alloc (.cells arr 46)).setCells w.heap.size (i*4) vs).drew.setCells w.heap.size ((i+1)*4) (cs.drop (4*i)):=by
 have hap:=app_zerosH w 47 b i n (n+1-i) (cs.take (4*i)) (by omega) (by omega) (by omega) (by rw [List.length_take,hcl]; omega) (fun j v hj=>by
  rw [List.getElem?_take] at hj
  split at hj
  ·exact hcs j v hj
  ·cases hj)
 rw [show i+(n+1-i)=n+1 by omega] at hap
 have hC:=grownCap_ge w (n+1) n 46
 have hC2:=grownCap_le_maxLen w (n+1) n 46 (by simp only [maxLen]; omega)
 generalize grownCap w (n+1) n 46=C at *
 obtain ⟨arr,harr⟩:∃ arr,arr=(cs.take (4*i)).toArray++Builtin.zeroCells (Value.agg zrH.toArray).cells (n+1-i)++Builtin.zeroCells (Value.agg zrH.toArray).cells (C-(n+1)):=⟨_,rfl⟩
 rw [← harr] at hap
 have htl:(cs.take (4*i)).length=4*i:=by rw [List.length_take,hcl]; omega
 have hz4:(Value.agg zrH.toArray).cells.size=4:=by kernel_rfl
 have hsz:arr.size=4*C:=by
  rw [harr]
  simp only [Array.size_append,List.size_toArray,htl,size_zeroCells,hz4]
  omega
 have hat:∀ j,j<4*i→arr[j]? = cs[j]? := fun j hj=>by
  rw [harr,Array.append_assoc,Array.getElem?_append_left (by rw [List.size_toArray,htl]; exact hj),List.getElem?_toArray,List.getElem?_take,if_pos hj]
 clear harr
 obtain ⟨W1,hW1⟩:∃ W1,W1=w.drew.alloc (.cells arr 46):=⟨_,rfl⟩
 have hB1:Blk W1 w.heap.size 46 arr:=by rw [hW1]; exact Blk.new w.drew 46 arr
 have hdl:(cs.drop (4*i)).length=(n-i)*4:=by rw [List.length_drop,hcl]; omega
 have hnc1:∀ j,j<4*C→(W1.cell? ⟨w.heap.size,j,none⟩).isSome=true:=fun j hj=>by
  rw [hB1.cell,Array.getElem?_eq_getElem (by omega)]; rfl
 have hcp1:∀ ty dc,(Builtin.copy_ #[47,47] ty #[.slice (some ⟨w.heap.size,i*4,none⟩) (n+1-i) dc,.slice (some ⟨vb,0,none⟩) 1 vc]).run Tryz.prog W1 = .ok (goInt ((1:Nat):Int)) (W1.setCells w.heap.size (i*4) vs):=fun ty dc =>
  copy4 W1 ty w.heap.size (i*4) (n+1-i) dc ⟨vb,0,none⟩ 1 vc 1 vs (by simp only [Nat.min_def]; split <;> omega) (by omega)
   (fun j v hj=>by rw [Addr.add_lit,Nat.zero_add,hW1]; exact cell_new hvb (hvs j v hj))
   (fun j hj=>hnc1 _ (by omega)) (fun j hj=>hB1.frozen _) h1v
 obtain ⟨W2,hW2⟩:∃ W2,W2=W1.setCells w.heap.size (i*4) vs:=⟨_,rfl⟩
 have hcp2:∀ ty dc sc,(Builtin.copy_ #[47,47] ty #[.slice (some ⟨w.heap.size,(i+1)*4,none⟩) (n-i) dc,.slice (some ⟨b,i*4,none⟩) (n-i) sc]).run Tryz.prog W2.drew = .ok (goInt ((n-i:Nat):Int)) (W2.drew.setCells w.heap.size ((i+1)*4) (cs.drop (4*i))):=fun ty dc sc =>
  copy4 W2.drew ty w.heap.size ((i+1)*4) (n-i) dc ⟨b,i*4,none⟩ (n-i) sc (n-i) (cs.drop (4*i)) (by simp only [Nat.min_def]; split <;> omega) hdl
   (fun j v hj=>by
    rw [Addr.add_lit]
    rw [List.getElem?_drop] at hj
    have h1:=hcs _ v hj
    rw [show i*4+j=4*i+j by omega]
    show W2.cell? _=_
    rw [hW2,World.cell?_setCells_out _ _ _ _ _ (fun h _=>absurd h (by show b≠_; omega)),hW1]
    exact cell_new hb h1)
   (fun j hj=>by
    show (W2.cell? _).isSome=true
    rw [hW2]
    exact isSome_setCells' _ vs (i*4) W1 (fun t ht=>hnc1 _ (by omega)) _ (hnc1 _ (by omega)))
   (fun j hj=>by
    show W2.frozen? _=false
    rw [hW2,World.frozen?_setCells]
    exact hB1.frozen _) (fun v hv=>h1c v (List.mem_of_mem_drop hv))
 rw [← hW2] at hcp1
 rw [← hW1] at hap
 have HW1:=Lib.hid hW1
 have HW2:=Lib.hid hW2
 have Hsz:=Lib.hid hsz
 have Hat:=Lib.hid hat
 have hC3:¬ (C=i):=by omega
 have hC4:¬ (C=i+1):=by omega
 clear hW1 hW2 hB1 hnc1 hsz hat
 have hz2:¬ ((i:Int)=(n:Int)):=by omega
 have hw1:IntKind.i64.wrap ((i:Int)+1)=(i:Int)+1:=by rw [IntKind.wrap_i64]; omega
 have hw2:IntKind.i64.wrap ((n:Int)+1)=(n:Int)+1:=by rw [IntKind.wrap_i64]; omega
 have hw3:IntKind.i64.wrap ((n:Int)+1-(i:Int))=((n+1-i:Nat):Int):=by rw [IntKind.wrap_i64]; omega
 have hb0:(n:Int)<(n:Int)+1:=by omega
 have hb1:(0:Int)≤(i:Int)+1:=by omega
 have hin:i≤n:=by omega
 have hb3:(i:Int)≤(n:Int)+1:=by omega
 have hb4:¬ (n=i):=by omega
 have mixed:Tryz.prog.follows .mixedOrders=true:=by kernel_rfl
 have t47:=Tryz.underlying47
 have u47:=run_underlying Tryz.underlying47
 have z46:∀ w,(Go.sizeOf 46).run Tryz.prog w = .ok 4 w:=fun w=>by kernel_rfl
 go_enter Tryz.func181,Tryz.ntmps181
 go_wp2_with (first | (at_builtin; refine Lib.wpList_append_run _ rfl _ _ _ _ rfl _ _ rfl rfl _ _ hap ?_) | (at_builtin; refine wpList_copy_runJ _ rfl _ _ 47 47 rfl _ _ rfl rfl (hcp1 _ _) ?_))
 go_region_law_o (refine step_copy_runJ rfl _ _ 47 47 rfl _ _ (by simp [Act.eval,Act.put]) (by simp [Act.eval,Act.put]) (hcp2 _ _ _) ?_)
 go_wp2
 go_ret
 exact ⟨C,arr,hC,hC2,Hsz.out,Hat.out,rfl,by rw [HW2.out,HW1.out]⟩
end Go.Proofs.YtdhgpocbcccieaaGreatDoor
namespace Go.Proofs.YtdhgpocbcccieaaGreatDoor.M
open Go Go.RowKit Go.Proofs.YtdhgpocbcccieaaGreatDoor.E
variable {G:Gl}
theorem fin_of {P:Program} {S0:List Nat} {w0 w:World} {n0:Nat} {B0 B1:Bm} (h0:∀ L q,B0 L=some q→L<n0) {H1 H':List EB} (hw:Wd P G S0 w0 B1 (hf H1) w) (hle:B0.le B1) {x r:E.EV} {u:Value} (hx:ER B1 x u) (hc:Cov n0 [(0,x)] H1 ([(0,r)],H')):∃ B',B0.le B'∧ER B' r u∧Wd P G S0 w0 B' (hf H') w:=by
 have hfit:FitE P G S0 w0 1 [] B0 [(0,x)] H1 { tmps := #[u],defers:=[] } w:=⟨B1,hle,hw,fun t=>by
  show ER B1 (if 0=t then x else .j) _
  by_cases e:0=t
  ·subst e; simpa using hx
  ·rw [if_neg e]; exact .j _,rfl,rfl⟩
 obtain ⟨B2,hle2,hwd2,htm2,_,_⟩:=hc.fit h0 hfit
 exact ⟨B2,hle2,by simpa [lk] using htm2 0,hwd2⟩
theorem hdC_ins (l:List Hd) (i:Nat) (h:Hd):hdC (l.take i++h::l.drop i)=(hdC l).take (4*i)++(hdV h++(hdC l).drop (4*i)):=by
 rw [hdC_app,hdC_take,show hdC (h::l.drop i)=hdV h++hdC (l.drop i) from rfl,hdC_drop]
theorem insert_ok {G:Gl} (l:List Hd) (i:Nat) (h:Hd) (hi:i≤l.length) (hl:l.length≤100000):Tri Tryz.prog G 181 [.s 0 0 l.length false,i64 (i:Nat),.s 1 0 1 false] [hdRs l,hdRs [h]] (.s 2 0 (l.length+1) false) [.g,hdRs [h],hdRs (l.take i++h::l.drop i)]:=by
 by_cases hin:i=l.length
 ·subst hin
  rw [List.take_length,List.drop_length]
  refine fn Tryz.func181 ?_
  conv=>whnf
  refine ⟨by omega,?_⟩
  conv=>whnf
  refine br_of (fun h1 => ?_) (fun h1 => ?_)
  rotate_left
  ·simp at h1
  conv=>whnf
  refine ⟨⟨rfl,rfl⟩,?_⟩
  conv=>whnf
  refine ⟨by rw [hdR,List.length_map],?_⟩
  conv=>whnf
  refine ⟨⟨by omega,by simp⟩,?_⟩
  conv=>whnf
  rw [show hdR l++hdR [h]=hdR (l++[h]) from (List.map_append (f:=hdE)).symm]
  exact cv [0,1,2]
 have hlt:i<l.length:=by omega
 refine ⟨⟨_,Tryz.func181,by kernel_rfl,rfl⟩,fun S0 w0 B w vs has hw => ?_⟩
 obtain ⟨u,v1,v2,rfl,hu,hv1,hv2⟩:=ERs.three has
 rw [hv1.v_inv]
 have h0:∀ L q,B L=some q→L<2:=hw.lt1
 obtain ⟨q1,vc,hq1,_,_,_,_, -,rfl⟩:∃ q c,B 1=some q∧1≤c∧0<c∧c≤maxLen∧(0+c)*q.k≤q.sz∧false=false∧v2 = .slice (some ⟨q.b,0*q.k,none⟩) 1 c:=by
  rcases hv2.s_inv with h | ⟨h, -⟩
  ·exact h
  ·cases h
 rcases hu.s_inv with ⟨q,c,hq,hn,hc0,hcm,hcq, -,rfl⟩ | ⟨h, -⟩
 rotate_left
 ·omega
 obtain ⟨q',hq',hr⟩:=(hw.row 0 46 (l.map hdE) rfl).here (i:=0) (row:=hdE (l[0]'(by omega))) (by rw [List.getElem?_map,List.getElem?_eq_getElem (by omega)]; rfl)
 rw [hq] at hq'; cases hq'
 obtain ⟨q1',hq1',hr1⟩:=(hw.row 1 46 ([h].map hdE) rfl).here (i:=0) (row:=hdE h) rfl
 rw [hq1] at hq1'; cases hq1'
 obtain ⟨hk,arr,hb,hs,hle,hcell⟩:=hd_cells hr
 obtain ⟨hk1,arr1,hb1,hs1,hle1,hcell1⟩:=hd_cells hr1
 have hne:q1.b≠q.b:=fun e=>by have:=hw.inj 1 0 q1 q rfl rfl hq1 hq e; omega
 have hcs:∀ (j:Nat) (v:Value),(hdC l)[j]? = some v→w.cell? ⟨q.b,j,none⟩=some v:=fun j v hv=>by rw [hb.cell]; exact hcell j v hv
 have hvs:∀ (j:Nat) (v:Value),(hdC [h])[j]? = some v→w.cell? ⟨q1.b,j,none⟩=some v:=fun j v hv=>by rw [hb1.cell]; exact hcell1 j v hv
 have hnewl:(l.take i++h::l.drop i).length=l.length+1:=by simp; omega
 have htl:((hdC l).take (4*i)).length=4*i:=by rw [List.length_take,hdC_len]; omega
 have hnt:46≠5:=by decide
 have split3:∀ (j:Nat) (v:Value),(hdC (l.take i++h::l.drop i))[j]? = some v→(j<4*i∧(hdC l)[j]? = some v)∨(4*i≤j∧j<4*i+4∧(hdC [h])[j-4*i]? = some v)∨(4*(i+1)≤j∧((hdC l).drop (4*i))[j-4*(i+1)]? = some v):=fun j v hv=>by
  rw [hdC_ins] at hv
  by_cases h1:j<4*i
  ·rw [List.getElem?_append_left (by omega),List.getElem?_take,if_pos h1] at hv
   exact .inl ⟨h1,hv⟩
  ·rw [List.getElem?_append_right (by omega),htl] at hv
   by_cases h2:j<4*i+4
   ·rw [List.getElem?_append_left (by show j-4*i<4; omega)] at hv
    exact .inr (.inl ⟨by omega,h2,by rw [show hdC [h]=hdV h from List.append_nil _]; exact hv⟩)
   ·rw [List.getElem?_append_right (by show 4≤j-4*i; omega),show (hdV h).length=4 from rfl,show j-4*i-4=j-4*(i+1) by omega] at hv
    exact .inr (.inr ⟨by omega,hv⟩)
 have hdl:((hdC l).drop (4*i)).length=4*l.length-4*i:=by rw [List.length_drop,hdC_len]
 rw [Nat.zero_mul,Nat.zero_mul]
 by_cases hroom:l.length+1≤c
 ·have hcq2:4*(l.length+1)≤arr.size:=by
   rw [hs]
   refine Nat.le_trans ?_ hcq
   rw [hk]
   omega
  refine (ins_room q.b l.length c i q1.b vc arr1.size arr.size (hdC l) (hdC [h]) w hlt hroom (Nat.le_trans hcm (by decide)) hne (hdC_len l) (hdC_len [h]) hcs (fun j hj=>by rw [hb.cell,Array.getElem?_eq_getElem (by omega)]; rfl) (fun j hj=>hb.frozen j (by omega)) hvs (hdC_one l) (hdC_one [h]) hb1.shape hb.shape (by omega) (hb1.nofroz hnt 0) (hb1.nofroz hnt _)).mono fun e w' ⟨he,hw'⟩ => ?_
  obtain ⟨a1,hb1',hs1',ho1,hi1⟩:=Bf.setCells (g:=q.b) ((hdC l).drop (4*i)) ((i+1)*4) _ _ hb.drew
  obtain ⟨a2,hb2,hs2,ho2,hi2⟩:=Bf.setCells (g:=q.b) (hdC [h]) (i*4) _ _ hb1'
  rw [← hw'] at hb2
  have h4:(hdC [h]).length=4:=hdC_len [h]
  have ht:Touch [q.b] w w':=by
   rw [hw']
   exact Touch.setCells (.inl (by simp)) _ _ _ (Touch.setCells (.inl (by simp)) _ _ _ (Touch.refl [q.b] w).drew)
  have hrow:RowsAt Tryz.prog B w' q 46 ((l.take i++h::l.drop i).map hdE):=cells_hd hk hb2 (by omega) (by omega) fun j v hv=>by
   rcases split3 j v hv with ⟨e1,e2⟩ | ⟨e1,e2,e3⟩ | ⟨e1,e2⟩
   ·rw [ho2 j (.inl (by omega)),ho1 j (.inl (by omega))]
    exact hcell j v e2
   ·have:=hi2 (j-4*i) v e3 (by omega)
    rwa [show i*4+(j-4*i)=j by omega] at this
   ·rw [ho2 j (.inr (by omega))]
    have hj:j-4*(i+1)<4*l.length-4*i:=by rw [← hdl]; exact (List.getElem?_eq_some_iff.1 e2).1
    have:=hi1 (j-4*(i+1)) v e2 (by omega)
    rwa [show (i+1)*4+(j-4*(i+1))=j by omega] at this
  have hfin:=hw.upd (L:=0) rfl hq ht (hdRs (l.take i++h::l.drop i)) (fun h=>by cases h) (fun t rows hv=>by cases hv; exact hrow) (fun xo h=>by cases h) (fun t rows h=>by cases h; exact hd_pl _)
  have hB:hf [hdRs (l.take i++h::l.drop i),hdRs [h]]=updH (hf [hdRs l,hdRs [h]]) 0 (hdRs (l.take i++h::l.drop i)):=by
   funext L
   unfold updH
   by_cases e:L=0
   ·subst e; rfl
   ·rw [if_neg e]
    match L,e with
    | 1,_=>rfl
    | L+2,_=>rw [hf_big (by show 2≤L+2; omega),hf_big (by show 2≤L+2; omega)]
  rw [← hB] at hfin
  have hx:ER B (.s 0 0 (l.length+1) false) (.slice (some ⟨q.b,0,none⟩) (l.length+1) c):=by
   have:=ER.s (B:=B) (L:=0) (i:=0) (n:=l.length+1) (c:=c) hq hroom hc0 hcm hcq
   rwa [Nat.zero_mul] at this
  obtain ⟨B',g1,g2,g3⟩:=fin_of (n0:=2) h0 hfin (Bm.le.refl _) hx (cv (I:=([(0,.s 2 0 (l.length+1) false)],[.g,hdRs [h],hdRs (l.take i++h::l.drop i)])) [0,1,0])
  exact ⟨B',_,he,g1,g2,g3⟩
 ·have hcn:c=l.length:=by omega
  subst hcn
  refine (ins_grow q.b l.length i q1.b vc (hdC l) (hdC [h]) w hlt (by omega) hb.lt hb1.lt (hdC_len l) (hdC_len [h]) hcs hvs (hdC_one l) (hdC_one [h])).mono fun e w' ⟨C,ar,hC1,hC2,hsz,hat,he,hw'⟩ => ?_
  have hbn:=(Blk.new w.drew 46 ar).bf
  obtain ⟨a1,hb1',hs1',ho1,hi1⟩:=Bf.setCells (g:=w.heap.size) (hdC [h]) (i*4) _ _ hbn
  obtain ⟨a2,hb2,hs2,ho2,hi2⟩:=Bf.setCells (g:=w.heap.size) ((hdC l).drop (4*i)) ((i+1)*4) _ _ hb1'.drew
  have hb2:Bf w' w.heap.size 46 a2:=by rw [hw']; exact hb2
  have h4:(hdC [h]).length=4:=hdC_len [h]
  have ht:Touch [] w w':=by
   rw [hw']
   exact Touch.setCells (.inr (Nat.le_refl _)) _ _ _ (Touch.setCells (.inr (Nat.le_refl _)) _ _ _ ((Touch.refl [] w).drew.alloc _)).drew
  have hrow:∀ B',RowsAt Tryz.prog B' w' ⟨w.heap.size,4,a2.size⟩ 46 ((l.take i++h::l.drop i).map hdE):=fun B'=>cells_hd rfl hb2 rfl (by show _≤a2.size; omega) fun j v hv=>by
   rcases split3 j v hv with ⟨e1,e2⟩ | ⟨e1,e2,e3⟩ | ⟨e1,e2⟩
   ·rw [ho2 j (.inl (by omega)),ho1 j (.inl (by omega)),hat j e1]
    exact e2
   ·rw [ho2 j (.inl (by omega))]
    have:=hi1 (j-4*i) v e3 (by omega)
    rwa [show i*4+(j-4*i)=j by omega] at this
   ·have hj:j-4*(i+1)<4*l.length-4*i:=by rw [← hdl]; exact (List.getElem?_eq_some_iff.1 e2).1
    have:=hi2 (j-4*(i+1)) v e2 (by omega)
    rwa [show (i+1)*4+(j-4*(i+1))=j by omega] at this
  have hfin:=hw.new (L:=2) (q:=⟨w.heap.size,4,a2.size⟩) rfl ht (Nat.le_refl _) (hdRs (l.take i++h::l.drop i)) (fun h=>by cases h) (fun t rows hv=>by cases hv; exact hrow _) (fun xo h=>by cases h) (fun t rows h=>by cases h; exact hd_pl _)
  have hB:hf [hdRs l,hdRs [h],hdRs (l.take i++h::l.drop i)]=updH (hf [hdRs l,hdRs [h]]) 2 (hdRs (l.take i++h::l.drop i)):=hf_app [hdRs l,hdRs [h]] _
  rw [← hB] at hfin
  have hx:ER (B.set 2 ⟨w.heap.size,4,a2.size⟩) (.s 2 0 (l.length+1) false) (.slice (some ⟨w.heap.size,0,none⟩) (l.length+1) C):=by
   have:=ER.s (B:=B.set 2 ⟨w.heap.size,4,a2.size⟩) (L:=2) (i:=0) (n:=l.length+1) (c:=C) (Bm.set_self _ _ _) hC1 (by omega) hC2 (by show (0+C)*4≤a2.size; omega)
   rwa [Nat.zero_mul] at this
  obtain ⟨B',g1,g2,g3⟩:=fin_of (n0:=2) h0 hfin (Bm.le_set (hw.n 2 rfl)) hx (cv (I:=([(0,.s 2 0 (l.length+1) false)],[.g,hdRs [h],hdRs (l.take i++h::l.drop i)])) [0,1,2])
  exact ⟨B',_,he,g1,g2,g3⟩
abbrev fsE (L:Nat) (s:Fs):List E.EV:=[bv s.has,u64 s.fr.size,u64 s.fr.time,sv s.fr.root,sv s.fr.sig,.s L 0 s.pend.length false,sv s.bad]
theorem take1_ok (x h:Hd):Tri Tryz.prog G 180 [.a (hdE x),.p 0 0 0] [.r 46 (hdE h)] (bv (decide (Hd.ahead x h>0))) [.r 46 (hdE h)]:=by
 refine fn Tryz.func180 ?_
 conv=>whnf
 refine cl (ahead_ok x h) [] ?_
 conv=>whnf
 exact cv [0]
theorem ah1n_ok (x:Hd) (k:Mk):Tri Tryz.prog G 278 [.a (hdE x),.p 0 0 0] [.r 219 (mkE k)] (bv (x.size==k.size&&x.root==k.root)) [.r 219 (mkE k)]:=by
 refine fn Tryz.func278 ?_
 conv=>whnf
 rw [show ((x.size:Int)==(k.size:Int))=(x.size==k.size) from by rw [Bool.eq_iff_iff]; simp [Int.ofNat_inj]]
 refine br_of (fun h => ?_) (fun h => ?_) <;> rw [h] <;> conv=>whnf
 ·rw [eqL]
  exact cv [0]
 ·exact cv [0]
abbrev linkP (s:Fs) (m n:Nat) (x:Hd):Bool:=min x.size s.fr.size==m&&max x.size s.fr.size==n
theorem mn_eq (a b:Nat):(if ((b:Nat):Int)<(a:Int) then (b:Int) else (a:Int))=((min a b:Nat):Int):=by split <;> omega
theorem mx_eq (a b:Nat):(if ((b:Nat):Int)>(a:Int) then (b:Int) else (a:Int))=((max a b:Nat):Int):=by split <;> omega
theorem link1_ok (s:Fs) (m n:Nat) (x:Hd):Tri Tryz.prog G 182 [.a (hdE x),.p 0 0 0,.p 1 0 0,.p 2 0 0] [.r 49 (fsE 3 s),.r 27 [u64 m],.r 27 [u64 n],hdRs s.pend] (bv (linkP s m n x)) [.r 49 (fsE 3 s),.r 27 [u64 m],.r 27 [u64 n],hdRs s.pend]:=by
 refine fn Tryz.func182 ?_
 conv=>whnf
 rw [mn_eq,show (((min x.size s.fr.size:Nat):Int)==(m:Int))=(min x.size s.fr.size==m) from by rw [Bool.eq_iff_iff]; simp [Int.ofNat_inj]]
 unfold linkP
 refine br_of (fun h => ?_) (fun h => ?_) <;> rw [h] <;> conv=>whnf
 ·rw [mx_eq,show (((max x.size s.fr.size:Nat):Int)==(n:Int))=(max x.size s.fr.size==n) from by rw [Bool.eq_iff_iff]; simp [Int.ofNat_inj]]
  exact cv [0,1,2,3]
 ·exact cv [0,1,2,3]
theorem idxT_ok (l:List Hd) (hl:l.length≤1000000) (h:Hd):Tri Tryz.prog G 179 [.s 0 0 l.length false,.f 180 [] [.p 1 0 0]] [hdRs l,.r 46 (hdE h)] (i64 (idxA (fun x=>decide (Hd.ahead x h>0)) 0 l)) [hdRs l,.r 46 (hdE h)]:=by
 refine fn Tryz.func179 ?_
 conv=>whnf
 refine lp1 (fun (i:Nat)=>([(0,.s 0 0 l.length false),(1,.f 180 [] [.p 1 0 0]),(6,.s 0 0 l.length false),(7,i64 (l.length:Nat)),(8,i64 (i:Nat))],[hdRs l,.r 46 (hdE h)])) (fun i=>i≤l.length∧idxA (fun x=>decide (Hd.ahead x h>0)) i (l.drop i)=idxA (fun x=>decide (Hd.ahead x h>0)) 0 l) (fun i=>l.length-i) 0 ⟨by omega,rfl⟩ (cv [0,1]) fun i ⟨hi,hx⟩ => ?_
 conv=>whnf
 refine br_of (fun h1 => ?_) (fun h1 => ?_) <;> conv=>whnf
 ·have h1:i<l.length:=by have:=of_decide_eq_true h1; omega
  rw [List.drop_eq_getElem_cons h1] at hx
  refine ⟨by omega,?_⟩
  conv=>whnf
  refine ob_of (hdE l[i]) (by simp [h1]) ?_
  conv=>whnf
  refine clQ (take1_ok l[i] h) [1] ?_
  conv=>whnf
  have hx:(if (fun x=>decide (Hd.ahead x h>0)) l[i] then (i:Int) else idxA (fun x=>decide (Hd.ahead x h>0)) (i+1) (l.drop (i+1)))=idxA (fun x=>decide (Hd.ahead x h>0)) 0 l:=hx
  refine br_of (fun h2 => ?_) (fun h2 => ?_) <;> conv=>whnf
  ·rw [if_pos h2] at hx
   rw [← hx]
   exact cv [0,1]
  ·rw [if_neg (fun e=>Bool.noConfusion (e.symm.trans h2))] at hx
   rw [wI64 (n:=(i:Int)+1) (by omega) (by omega)]
   exact ⟨i+1,⟨⟨by omega,hx⟩,by omega⟩,cv [0,1]⟩
 ·have h1:i=l.length:=by have:=of_decide_eq_false h1; omega
  subst h1
  rw [List.drop_length] at hx
  rw [← hx]
  exact cv [0,1]
theorem idxA_ok (l:List Hd) (hl:l.length≤1000000) (k:Mk):Tri Tryz.prog G 179 [.s 0 0 l.length false,.f 278 [] [.p 1 0 0]] [hdRs l,.r 219 (mkE k)] (i64 (idxA (fun x=>x.size==k.size&&x.root==k.root) 0 l)) [hdRs l,.r 219 (mkE k)]:=by
 refine fn Tryz.func179 ?_
 conv=>whnf
 refine lp1 (fun (i:Nat)=>([(0,.s 0 0 l.length false),(1,.f 278 [] [.p 1 0 0]),(6,.s 0 0 l.length false),(7,i64 (l.length:Nat)),(8,i64 (i:Nat))],[hdRs l,.r 219 (mkE k)])) (fun i=>i≤l.length∧idxA (fun x=>x.size==k.size&&x.root==k.root) i (l.drop i)=idxA (fun x=>x.size==k.size&&x.root==k.root) 0 l) (fun i=>l.length-i) 0 ⟨by omega,rfl⟩ (cv [0,1]) fun i ⟨hi,hx⟩ => ?_
 conv=>whnf
 refine br_of (fun h1 => ?_) (fun h1 => ?_) <;> conv=>whnf
 ·have h1:i<l.length:=by have:=of_decide_eq_true h1; omega
  rw [List.drop_eq_getElem_cons h1] at hx
  refine ⟨by omega,?_⟩
  conv=>whnf
  refine ob_of (hdE l[i]) (by simp [h1]) ?_
  conv=>whnf
  refine clQ (ah1n_ok l[i] k) [1] ?_
  conv=>whnf
  have hx:(if (fun x=>x.size==k.size&&x.root==k.root) l[i] then (i:Int) else idxA (fun x=>x.size==k.size&&x.root==k.root) (i+1) (l.drop (i+1)))=idxA (fun x=>x.size==k.size&&x.root==k.root) 0 l:=hx
  refine br_of (fun h2 => ?_) (fun h2 => ?_) <;> conv=>whnf
  ·rw [if_pos h2] at hx
   rw [← hx]
   exact cv [0,1]
  ·rw [if_neg (fun e=>Bool.noConfusion (e.symm.trans h2))] at hx
   rw [wI64 (n:=(i:Int)+1) (by omega) (by omega)]
   exact ⟨i+1,⟨⟨by omega,hx⟩,by omega⟩,cv [0,1]⟩
 ·have h1:i=l.length:=by have:=of_decide_eq_false h1; omega
  subst h1
  rw [List.drop_length] at hx
  rw [← hx]
  exact cv [0,1]
theorem idxL_ok (s:Fs) (hl:s.pend.length≤1000000) (m n:Nat):Tri Tryz.prog G 179 [.s 0 0 s.pend.length false,.f 182 [] [.p 1 0 0,.p 2 0 0,.p 3 0 0]] [hdRs s.pend,.r 49 (fsE 0 s),.r 27 [u64 m],.r 27 [u64 n]] (i64 (idxA (linkP s m n) 0 s.pend)) [hdRs s.pend,.r 49 (fsE 0 s),.r 27 [u64 m],.r 27 [u64 n]]:=by
 refine fn Tryz.func179 ?_
 conv=>whnf
 refine lp1 (fun (i:Nat)=>([(0,.s 0 0 s.pend.length false),(1,.f 182 [] [.p 1 0 0,.p 2 0 0,.p 3 0 0]),(6,.s 0 0 s.pend.length false),(7,i64 (s.pend.length:Nat)),(8,i64 (i:Nat))],[hdRs s.pend,.r 49 (fsE 0 s),.r 27 [u64 m],.r 27 [u64 n]])) (fun i=>i≤s.pend.length∧idxA (linkP s m n) i (s.pend.drop i)=idxA (linkP s m n) 0 s.pend) (fun i=>s.pend.length-i) 0 ⟨by omega,rfl⟩ (cv [0,1,2,3]) fun i ⟨hi,hx⟩ => ?_
 conv=>whnf
 refine br_of (fun h1 => ?_) (fun h1 => ?_) <;> conv=>whnf
 ·have h1:i<s.pend.length:=by have:=of_decide_eq_true h1; omega
  rw [List.drop_eq_getElem_cons h1] at hx
  refine ⟨by omega,?_⟩
  conv=>whnf
  refine ob_of (hdE s.pend[i]) (by simp [h1]) ?_
  conv=>whnf
  refine clQ (link1_ok s m n s.pend[i]) [1,2,3,0] ?_
  conv=>whnf
  have hx:(if (linkP s m n) s.pend[i] then (i:Int) else idxA (linkP s m n) (i+1) (s.pend.drop (i+1)))=idxA (linkP s m n) 0 s.pend:=hx
  refine br_of (fun h2 => ?_) (fun h2 => ?_) <;> conv=>whnf
  ·rw [if_pos h2] at hx
   rw [← hx]
   exact cv [0,1,2,3]
  ·rw [if_neg (fun e=>Bool.noConfusion (e.symm.trans h2))] at hx
   rw [wI64 (n:=(i:Int)+1) (by omega) (by omega)]
   exact ⟨i+1,⟨⟨by omega,hx⟩,by omega⟩,cv [0,1,2,3]⟩
 ·have h1:i=s.pend.length:=by have:=of_decide_eq_false h1; omega
  subst h1
  rw [List.drop_length] at hx
  rw [← hx]
  exact cv [0,1,2,3]
theorem own_ok (s:Fs) (hl:s.pend.length≤100000):Tri Tryz.prog G 176 [.a (fsE 0 s)] [hdRs s.pend] (.a (fsE 1 s)) [hdRs s.pend,hdRs s.pend]:=by
 refine fn Tryz.func176 ?_
 conv=>whnf
 refine clN (cloneH_ok s.pend (by omega)) [0] [hdRs s.pend] ?_
 conv=>whnf
 exact cv [0,3]
theorem forked_ok (s:Fs) (bad:Bs) (hl:s.pend.length≤100000):Tri Tryz.prog G 178 [.a (fsE 0 s),sv bad] [hdRs s.pend] (.t [.a (fsE 1 { s with bad:=bad }),i64 5]) [hdRs s.pend,hdRs s.pend]:=by
 refine fn Tryz.func178 ?_
 conv=>whnf
 refine clN (own_ok s hl) [0] [hdRs s.pend] ?_
 conv=>whnf
 exact cv [0,3]
theorem neL (a b:Bs):(!((sB a).toList==(sB b).toList))=decide (a≠b):=by rw [eqL,Bool.eq_iff_iff]; simp
theorem lay_ok (hG:GSig G) (hS:GSha G) (s:Fs) (pub bad:Bs) (hl:s.pend.length≤100000) (hp:pub.length≤10000):Tri Tryz.prog G 115 [.a (fsE 0 s),sv pub,sv bad] [hdRs s.pend] (.t [.a (fsE 1 (s.lay pub bad).1),i64 (s.lay pub bad).2]) [hdRs s.pend,hdRs (s.lay pub bad).1.pend]:=by
 refine fn Tryz.func115 ?_
 conv=>whnf
 rw [neL s.bad []]
 unfold Fs.lay
 refine br_of (fun h => ?_) (fun h => ?_) <;> conv=>whnf
 ·rw [if_pos (of_decide_eq_true h)]
  refine clN (own_ok s hl) [0] [hdRs s.pend] ?_
  conv=>whnf
  exact cv [0,3]
 rw [if_neg (of_decide_eq_false h)]
 refine cl (bcheck_ok hG hS pub bad hp) [] ?_
 conv=>whnf
 cases h2:Bd.check pub bad with
 | false =>
  conv=>whnf
  refine clN (own_ok s hl) [0] [hdRs s.pend] ?_
  conv=>whnf
  exact cv [0,3]
 | true =>
  conv=>whnf
  refine clN (forked_ok s bad hl) [0] [hdRs s.pend] ?_
  conv=>whnf
  exact cv [0,3]
theorem need_ok (s:Fs) (hl:s.pend.length≤100000):Tri Tryz.prog G 186 [.a (fsE 0 s)] [hdRs s.pend] (.t [u64 s.need.1,u64 s.need.2.1,bv s.need.2.2]) [hdRs s.pend]:=by
 refine fn Tryz.func186 ?_
 conv=>whnf
 rw [neL s.bad []]
 unfold Fs.need
 refine br_of (fun h => ?_) (fun h => ?_) <;> rw [h] <;> conv=>whnf
 ·rw [if_pos (.inl (of_decide_eq_true h))]
  exact cv [0]
 have h:=of_decide_eq_false h
 cases h2:s.has with
 | false =>
  conv=>whnf
  rw [if_pos (.inr rfl)]
  exact cv [0]
 | true =>
  rw [if_neg (by simpa using h)]
  conv=>whnf
  cases h3:s.pend with
  | nil =>
   conv=>whnf
   exact cv [0]
  | cons x l =>
   conv=>whnf
   refine ⟨⟨by decide,by rw [h3,List.length_cons]; omega⟩,?_⟩
   conv=>whnf
   rw [mn_eq,mx_eq]
   refine ⟨rfl,?_⟩
   conv=>whnf
   exact cv [0]
theorem idx_nat {α:Type} (p:α→Bool) (l:List α):(if idxA p 0 l<0 then (l.length:Int) else idxA p 0 l)=((l.findIdx p:Nat):Int):=by
 rw [idxA_eq]
 have:=List.findIdx_le_length (p:=p) (xs:=l)
 split <;> rename_i h <;> (try rw [if_pos h] at *) <;> (try rw [if_neg h] at *) <;> split <;> omega
abbrev fs0:List E.EV:=[bv false,u64 0,u64 0,sv [],sv [],.v (.slice none 0 0),sv []]
theorem bbuild_len (a b:Hd) (path:List Bs):(Bd.build a b path).1.path.length≤path.length:=by
 unfold Bd.build
 split <;> (try split) <;> (try split) <;> (try split) <;> simp [Bd.nil]
theorem take_ok' (hG:GSig G) (hS:GSha G) (s:Fs) (pub:Bs) (h:Hd) (room:Nat) (hl:s.pend.length≤10000) (hp:pub.length≤10000) (hrm:room≤10000):Tri Tryz.prog G 113 [.a (fsE 0 s),sv pub,.a (hdE h),i64 (room:Nat)] [hdRs s.pend] (.t [.a (fsE 1 (s.take pub h room).1),i64 (s.take pub h room).2]) [hdRs s.pend,hdRs (s.take pub h room).1.pend]:=by
 refine fn Tryz.func113 ?_
 conv=>whnf
 rw [neL s.bad []]
 have tk:s.take pub h room=if s.bad≠[] then (s,9) else if !h.check pub then (s,7) else if !s.has then ({ s with has:=true,fr:=h },1) else s.takeF h room (s.fr::s.pend):=rfl
 refine br_of (fun h0 => ?_) (fun h0 => ?_) <;> conv=>whnf
 ·rw [tk,if_pos (of_decide_eq_true h0)]
  refine clN (own_ok s (by omega)) [0] [hdRs s.pend] ?_
  conv=>whnf
  exact cv [0,4]
 rw [if_neg (of_decide_eq_false h0)] at tk
 refine cl (hcheck_ok hG pub h hp) [] ?_
 conv=>whnf
 cases hc:h.check pub with
 | false =>
  rw [show s.take pub h room=(s,7) from by rw [tk,hc]; rfl]
  conv=>whnf
  refine clN (own_ok s (by omega)) [0] [hdRs s.pend] ?_
  conv=>whnf
  exact cv [0,4]
 | true =>
 conv=>whnf
 cases hh:s.has with
 | false =>
  rw [show s.take pub h room=({ s with has:=true,fr:=h },1) from by rw [tk,hc,hh]; rfl]
  conv=>whnf
  have ho:=own_ok (G:=G) s (by omega)
  refine clN ho [0] [hdRs s.pend] (hargs:=⟨.inl (by simp [ren,rens,hh]),trivial⟩) ?_
  conv=>whnf
  refine ⟨rfl,?_⟩
  conv=>whnf
  exact cv [0,4]
 | true =>
 conv=>whnf
 refine ⟨⟨rfl,by simp⟩,?_⟩
 conv=>whnf
 refine ⟨rfl,?_⟩
 conv=>whnf
 refine ⟨⟨by omega,by simp⟩,?_⟩
 conv=>whnf
 obtain ⟨L,hL⟩:∃ L,s.fr::s.pend=L:=⟨_,rfl⟩
 have hLl:L.length=s.pend.length+1:=by rw [← hL,List.length_cons]
 obtain ⟨R,hR⟩:∃ R,s.takeF h room L=R:=⟨_,rfl⟩
 rw [show s.take pub h room=R from by rw [tk,hc,hh,hL]; exact hR]
 have own:∀ {Hc:List EB} {K:KE},True→True:=fun h=>h
 clear own
 refine lp1 (fun (i:Nat)=>([(1,sv pub),(3,i64 (room:Nat)),(4,.p 1 0 0),(6,.p 2 0 0),(8,.p 3 0 0),(43,.s 4 0 L.length false),(44,i64 (L.length:Nat)),(45,i64 (i:Nat))],[hdRs s.pend,.r 49 (fsE 0 s),.r 46 (hdE h),.r 49 fs0,hdRs L])) (fun i=>i≤L.length∧s.takeF h room (L.drop i)=R) (fun i=>L.length-i) 0 ⟨by omega,by simpa using hR⟩
  (cv [0,1,2,3,5] (h4:=⟨.inl rfl,.inl rfl,.inl rfl,.inl rfl,.inl rfl,.inl (by simp [lk,ren,hLl]; omega),.inl (by simp [lk,ren,hLl]; omega),.inl rfl,trivial⟩) (h5:=⟨.inl rfl,⟨_,rfl,⟨.inl (by simp [ren,hh]),.inl rfl,.inl rfl,.inl rfl,.inl rfl,.inl rfl,.inl rfl,trivial⟩⟩,⟨_,rfl,⟨.inl rfl,.inl rfl,.inl rfl,.inl rfl,trivial⟩⟩,⟨_,rfl,⟨.inl rfl,.inl rfl,.inl rfl,.inl rfl,.inl rfl,.inl rfl,.inl rfl,trivial⟩⟩,.inl (by simp [← hL]),trivial⟩)) fun i ⟨hi,hx⟩ => ?_
 conv=>whnf
 refine br_of (fun h1 => ?_) (fun h1 => ?_) <;> conv=>whnf
 rotate_left
 ·have h1:i=L.length:=by have:=of_decide_eq_false h1; omega
  subst h1
  rw [List.drop_length] at hx
  unfold Fs.takeF at hx
  refine br_of (fun h2 => ?_) (fun h2 => ?_) <;> conv=>whnf
  ·rw [if_pos (by have:=of_decide_eq_true h2; omega)] at hx
   rw [← hx]
   refine clN (own_ok s (by omega)) [0] [hdRs s.pend] ?_
   conv=>whnf
   exact cv [0,5]
  rw [if_neg (by have:=of_decide_eq_false h2; omega)] at hx
  refine clQ (idxT_ok s.pend (by omega) h) [0,2] ?_
  conv=>whnf
  have hat:=idx_nat (fun x=>decide (Hd.ahead x h>0)) s.pend
  have hle:=List.findIdx_le_length (p:=fun x=>decide (Hd.ahead x h>0)) (xs:=s.pend)
  obtain ⟨k,hk⟩:∃ k,s.pend.findIdx (fun x=>decide (Hd.ahead x h>0))=k:=⟨_,rfl⟩
  rw [hk] at hat hx hle
  dsimp only at hx
  have tail:∀ {T:TL},True:=trivial
  refine br_of (fun h3 => ?_) (fun h3 => ?_) <;> conv=>whnf
  ·rw [if_pos (of_decide_eq_true h3)] at hat
   refine clN (own_ok s (by omega)) [0] [hdRs s.pend] ?_
   conv=>whnf
   rw [hat]
   refine cl (insert_ok s.pend k h hle (by omega)) [5,6] ?_
   conv=>whnf
   rw [← hx]
   exact cv [0,7] (h4:=⟨dCt (dC (dA (dC (dE rfl) (dC (dE rfl) (dC (dE rfl) (dC (dE rfl) (dC (dE rfl) (dC (dE (by simp [ren]; omega)) (dC (dE rfl) dN)))))))) (dC (dE rfl) dN)),trivial⟩)
  ·rw [if_neg (of_decide_eq_false h3)] at hat
   rw [hat]
   refine clN (own_ok s (by omega)) [0] [hdRs s.pend] ?_
   conv=>whnf
   refine cl (insert_ok s.pend k h hle (by omega)) [5,6] ?_
   conv=>whnf
   rw [← hx]
   exact cv [0,7] (h4:=⟨dCt (dC (dA (dC (dE rfl) (dC (dE rfl) (dC (dE rfl) (dC (dE rfl) (dC (dE rfl) (dC (dE (by simp [ren]; omega)) (dC (dE rfl) dN)))))))) (dC (dE rfl) dN)),trivial⟩)
 have h1:i<L.length:=by have:=of_decide_eq_true h1; omega
 rw [List.drop_eq_getElem_cons h1] at hx
 unfold Fs.takeF at hx
 refine ⟨by omega,?_⟩
 conv=>whnf
 refine ob_of (hdE L[i]) (by simp [h1]) ?_
 conv=>whnf
 generalize L[i]=x at hx
 refine br_of (fun h2 => ?_) (fun h2 => ?_) <;> conv=>whnf
 ·rw [if_pos (by intro e; rw [e] at h2; simp at h2)] at hx
  rw [wI64 (n:=(i:Int)+1) (by omega) (by omega)]
  exact ⟨i+1,⟨⟨by omega,hx⟩,by omega⟩,cv [0,1,2,3,4]⟩
 rw [if_neg (by simpa [Int.ofNat_inj] using h2)] at hx
 rw [eqL]
 refine br_of (fun h3 => ?_) (fun h3 => ?_) <;> conv=>whnf
 ·rw [if_pos (eq_of_beq h3)] at hx
  rw [← hx]
  refine clN (own_ok s (by omega)) [0] [hdRs s.pend] ?_
  conv=>whnf
  exact cv [0,6]
 rw [if_neg (by simpa using h3)] at hx
 refine CallE.ph 9 ?_
 refine clN (bbuild_ok hS x h [] (by simp)) [6] [sRs (Bd.build x h []).1.path] ?_
 have hbl:=bbuild_len x h []
 conv=>whnf
 generalize Bd.build x h []=b at hx hbl
 dsimp only at hx
 refine br_of (fun h4 => ?_) (fun h4 => ?_) <;> conv=>whnf
 ·rw [if_pos (eq_of_beq h4)] at hx
  refine clQ (benc_ok b.1 (by simp at hbl; rw [hbl]; decide)) [7] ?_
  conv=>whnf
  refine clN (forked_ok s b.1.enc (by omega)) [0] [hdRs s.pend] ?_
  conv=>whnf
  refine ⟨rfl,?_⟩
  conv=>whnf
  rw [← hx]
  exact cv [0,9]
 ·rw [if_neg (by simpa using h4)] at hx
  rw [wI64 (n:=(i:Int)+1) (by omega) (by omega)]
  exact ⟨i+1,⟨⟨by omega,hx⟩,by omega⟩,cv [0,1,2,3,4]⟩
def GHas (G:Gl):Prop:=∃ t,G.at_ 0=some (t,#[.string ⟨#[]⟩,.string ⟨#[107]⟩,.string ⟨#[107]⟩,.string ⟨#[108,104]⟩,.string ⟨#[108,98]⟩,.string ⟨#[108,105]⟩,.string ⟨#[108,105,109,110]⟩,.string ⟨#[108,105,104]⟩,.string ⟨#[108,105,109,110,112]⟩,.string ⟨#[108]⟩,.string ⟨#[108,110]⟩])
abbrev mgE (L0 L1 L2:Nat) (m:Mg):List E.EV:=[i64 m.kind,i64 m.log,u64 m.id,u64 m.m,u64 m.n,u64 m.h.size,u64 m.h.time,sv m.h.root,sv m.h.sig,u64 m.b.a.size,u64 m.b.a.time,sv m.b.a.root,sv m.b.a.sig,u64 m.b.b.size,u64 m.b.b.time,sv m.b.b.root,sv m.b.b.sig,.s L0 0 m.b.path.length false,.s L1 0 m.path.length false,.s L2 0 m.marks.length false]
abbrev mgH (m:Mg):List EB:=[sRs m.b.path,sRs m.path,mkRs m.marks]
theorem kinds {k:Int} (h:ofL k=true):k=1∨k=2∨k=3∨k=4∨k=5∨k=6∨k=7∨k=8∨k=9∨k=10:=by
 simp only [ofL,Bool.and_eq_true,decide_eq_true_eq] at h
 omega
theorem of_ok' (k:Int):Tri Tryz.prog G 53 [i64 k] [] (bv (ofL k)) []:=by
 refine fn Tryz.func53 ?_
 conv=>whnf
 unfold ofL
 refine br_of (fun h => ?_) (fun h => ?_) <;> rw [h] <;> conv=>whnf
 ·exact cv []
 ·exact cv []
theorem bare_ok (hH:GHas G) (m:Mg) (hk:ofL m.kind=true):Tri Tryz.prog G 90 [.a (mgE 0 1 2 m)] (mgH m) (.a (mgE 0 1 2 m.bare)) (mgH m):=by
 obtain ⟨t,hH⟩:=hH
 obtain ⟨kind,log,id,mm,n,h,b,path,marks⟩:=m
 simp only at hk
 rcases kinds hk with rfl | rfl | rfl | rfl | rfl | rfl | rfl | rfl | rfl | rfl
 ·rw [show Mg.bare ⟨1,log,id,mm,n,h,b,path,marks⟩=⟨1,0,0,0,0,.nil,.nil,[],marks⟩ from rfl]
  refine fn Tryz.func90 ?_
  conv=>whnf
  refine ⟨⟨by simp only; decide,by simp only; decide⟩,?_⟩
  conv=>whnf
  refine ob_of _ hH ?_
  conv=>whnf
  refine lu 6 ?_
  conv=>whnf
  exact cv [0,1,2] (h4:=⟨dCa (by repeat' (first | exact dN | refine dC (dE rfl) ?_ | refine dC dS ?_)),trivial⟩)
 ·rw [show Mg.bare ⟨2,log,id,mm,n,h,b,path,marks⟩=⟨2,0,0,0,0,.nil,.nil,[],marks⟩ from rfl]
  refine fn Tryz.func90 ?_
  conv=>whnf
  refine ⟨⟨by simp only; decide,by simp only; decide⟩,?_⟩
  conv=>whnf
  refine ob_of _ hH ?_
  conv=>whnf
  refine lu 6 ?_
  conv=>whnf
  exact cv [0,1,2] (h4:=⟨dCa (by repeat' (first | exact dN | refine dC (dE rfl) ?_ | refine dC dS ?_)),trivial⟩)
 ·rw [show Mg.bare ⟨3,log,id,mm,n,h,b,path,marks⟩=⟨3,log,0,0,0,h,.nil,[],[]⟩ from rfl]
  refine fn Tryz.func90 ?_
  conv=>whnf
  refine ⟨⟨by simp only; decide,by simp only; decide⟩,?_⟩
  conv=>whnf
  refine ob_of _ hH ?_
  conv=>whnf
  refine lu 6 ?_
  conv=>whnf
  exact cv [0,1,2] (h4:=⟨dCa (by repeat' (first | exact dN | refine dC (dE rfl) ?_ | refine dC dS ?_)),trivial⟩)
 ·rw [show Mg.bare ⟨4,log,id,mm,n,h,b,path,marks⟩=⟨4,log,0,0,0,.nil,b,[],[]⟩ from rfl]
  refine fn Tryz.func90 ?_
  conv=>whnf
  refine ⟨⟨by simp only; decide,by simp only; decide⟩,?_⟩
  conv=>whnf
  refine ob_of _ hH ?_
  conv=>whnf
  refine lu 6 ?_
  conv=>whnf
  exact cv [0,1,2] (h4:=⟨dCa (by repeat' (first | exact dN | refine dC (dE rfl) ?_ | refine dC dS ?_)),trivial⟩)
 ·rw [show Mg.bare ⟨5,log,id,mm,n,h,b,path,marks⟩=⟨5,log,id,0,0,.nil,.nil,[],[]⟩ from rfl]
  refine fn Tryz.func90 ?_
  conv=>whnf
  refine ⟨⟨by simp only; decide,by simp only; decide⟩,?_⟩
  conv=>whnf
  refine ob_of _ hH ?_
  conv=>whnf
  refine lu 6 ?_
  conv=>whnf
  exact cv [0,1,2] (h4:=⟨dCa (by repeat' (first | exact dN | refine dC (dE rfl) ?_ | refine dC dS ?_)),trivial⟩)
 ·rw [show Mg.bare ⟨6,log,id,mm,n,h,b,path,marks⟩=⟨6,log,id,mm,n,.nil,.nil,[],[]⟩ from rfl]
  refine fn Tryz.func90 ?_
  conv=>whnf
  refine ⟨⟨by simp only; decide,by simp only; decide⟩,?_⟩
  conv=>whnf
  refine ob_of _ hH ?_
  conv=>whnf
  refine lu 6 ?_
  conv=>whnf
  exact cv [0,1,2] (h4:=⟨dCa (by repeat' (first | exact dN | refine dC (dE rfl) ?_ | refine dC dS ?_)),trivial⟩)
 ·rw [show Mg.bare ⟨7,log,id,mm,n,h,b,path,marks⟩=⟨7,log,id,0,0,h,.nil,[],[]⟩ from rfl]
  refine fn Tryz.func90 ?_
  conv=>whnf
  refine ⟨⟨by simp only; decide,by simp only; decide⟩,?_⟩
  conv=>whnf
  refine ob_of _ hH ?_
  conv=>whnf
  refine lu 6 ?_
  conv=>whnf
  exact cv [0,1,2] (h4:=⟨dCa (by repeat' (first | exact dN | refine dC (dE rfl) ?_ | refine dC dS ?_)),trivial⟩)
 ·rw [show Mg.bare ⟨8,log,id,mm,n,h,b,path,marks⟩=⟨8,log,id,mm,n,.nil,.nil,path,[]⟩ from rfl]
  refine fn Tryz.func90 ?_
  conv=>whnf
  refine ⟨⟨by simp only; decide,by simp only; decide⟩,?_⟩
  conv=>whnf
  refine ob_of _ hH ?_
  conv=>whnf
  refine lu 6 ?_
  conv=>whnf
  exact cv [0,1,2] (h4:=⟨dCa (by repeat' (first | exact dN | refine dC (dE rfl) ?_ | refine dC dS ?_)),trivial⟩)
 ·rw [show Mg.bare ⟨9,log,id,mm,n,h,b,path,marks⟩=⟨9,log,0,0,0,.nil,.nil,[],[]⟩ from rfl]
  refine fn Tryz.func90 ?_
  conv=>whnf
  refine ⟨⟨by simp only; decide,by simp only; decide⟩,?_⟩
  conv=>whnf
  refine ob_of _ hH ?_
  conv=>whnf
  refine lu 6 ?_
  conv=>whnf
  exact cv [0,1,2] (h4:=⟨dCa (by repeat' (first | exact dN | refine dC (dE rfl) ?_ | refine dC dS ?_)),trivial⟩)
 ·rw [show Mg.bare ⟨10,log,id,mm,n,h,b,path,marks⟩=⟨10,log,0,0,n,.nil,.nil,[],[]⟩ from rfl]
  refine fn Tryz.func90 ?_
  conv=>whnf
  refine ⟨⟨by simp only; decide,by simp only; decide⟩,?_⟩
  conv=>whnf
  refine ob_of _ hH ?_
  conv=>whnf
  refine lu 6 ?_
  conv=>whnf
  exact cv [0,1,2] (h4:=⟨dCa (by repeat' (first | exact dN | refine dC (dE rfl) ?_ | refine dC dS ?_)),trivial⟩)
theorem eqS0_ok (l:List Bs):Tri Tryz.prog G 138 [.s 0 0 l.length false,.s 0 0 0 false] [sRs l] (bv (decide (l=[]))) [sRs l]:=by
 refine fn Tryz.func138 ?_
 conv=>whnf
 refine br_of (fun h => ?_) (fun h => ?_) <;> conv=>whnf
 ·rw [decide_eq_false (fun e=>by subst e; simp at h)]
  exact cv [0]
 ·have h:l=[]:=List.eq_nil_of_length_eq_zero (by simpa using h)
  subst h
  refine lu 1 ?_
  conv=>whnf
  exact cv [0]
theorem eqM0_ok (l:List Mk):Tri Tryz.prog G 139 [.s 0 0 l.length false,.s 0 0 0 false] [mkRs l] (bv (decide (l=[]))) [mkRs l]:=by
 refine fn Tryz.func139 ?_
 conv=>whnf
 refine br_of (fun h => ?_) (fun h => ?_) <;> conv=>whnf
 ·rw [decide_eq_false (fun e=>by subst e; simp at h)]
  exact cv [0]
 ·have h:l=[]:=List.eq_nil_of_length_eq_zero (by simpa using h)
  subst h
  refine lu 1 ?_
  conv=>whnf
  exact cv [0]
theorem eqSx_ok (l b:List Bs) (hb:b=l∨b=[]) (hl:l.length≤1000000):Tri Tryz.prog G 138 [.s 0 0 l.length false,.s 0 0 b.length false] [sRs l] (bv (decide (l=b))) [sRs l]:=by
 rcases hb with rfl | rfl
 ·rw [decide_eq_true rfl]; exact eqSs_ok b hl
 ·exact eqS0_ok l
theorem eqMx_ok (l b:List Mk) (hb:b=l∨b=[]) (hl:l.length≤1000000):Tri Tryz.prog G 139 [.s 0 0 l.length false,.s 0 0 b.length false] [mkRs l] (bv (decide (l=b))) [mkRs l]:=by
 rcases hb with rfl | rfl
 ·rw [decide_eq_true rfl]; exact eqMs_ok b hl
 ·exact eqM0_ok l
theorem bsame_ok (x y:Bd) (hb:y.path=x.path∨y.path=[]) (hl:x.path.length≤1000000):Tri Tryz.prog G 137 [.a (bdE 0 x),.a (bdE 0 y)] [sRs x.path] (bv (decide (x=y))) [sRs x.path]:=by
 have e:decide (x=y)=(decide (x.a=y.a)&&decide (x.b=y.b)&&decide (x.path=y.path)):=by
  obtain ⟨a1,a2,a3⟩:=x
  obtain ⟨b1,b2,b3⟩:=y
  rw [Bool.eq_iff_iff]
  simp [and_assoc]
 rw [e]
 refine fn Tryz.func137 ?_
 conv=>whnf
 refine ob_of _ (hd_eqE x.a y.a) ?_
 conv=>whnf
 refine br_of (fun h => ?_) (fun h => ?_) <;> rw [h] <;> conv=>whnf
 rotate_left
 ·exact cv [0]
 refine ob_of _ (hd_eqE x.b y.b) ?_
 conv=>whnf
 refine br_of (fun h => ?_) (fun h => ?_) <;> rw [h] <;> conv=>whnf
 rotate_left
 ·exact cv [0]
 refine clQ (eqSx_ok x.path y.path hb hl) [0] ?_
 conv=>whnf
 exact cv [0]
theorem msame_ok (x y:Mg) (h1:y.b.path=x.b.path∨y.b.path=[]) (h2:y.path=x.path∨y.path=[]) (h3:y.marks=x.marks∨y.marks=[]) (l1:x.b.path.length≤1000000) (l2:x.path.length≤1000000) (l3:x.marks.length≤1000000):Tri Tryz.prog G 89 [.a (mgE 0 1 2 x),.a (mgE 0 1 2 y)] (mgH x) (bv (decide (x=y))) (mgH x):=by
 have e:decide (x=y)=(((x.kind==y.kind)&&(x.log==y.log)&&((x.id:Int)==y.id)&&((x.m:Int)==y.m)&&((x.n:Int)==y.n))&&decide (x.h=y.h)&&decide (x.b=y.b)&&decide (x.path=y.path)&&decide (x.marks=y.marks)):=by
  obtain ⟨a1,a2,a3,a4,a5,a6,a7,a8,a9⟩:=x
  obtain ⟨b1,b2,b3,b4,b5,b6,b7,b8,b9⟩:=y
  rw [Bool.eq_iff_iff]
  simp [and_assoc,Int.ofNat_inj]
 rw [e]
 refine fn Tryz.func89 ?_
 conv=>whnf
 iterate 4
  refine br_of (fun h => ?_) (fun h => ?_) <;> rw [h] <;> conv=>whnf
  rotate_left
  ·exact cv [0,1,2]
 refine br_of (fun h => ?_) (fun h => ?_) <;> rw [h] <;> conv=>whnf
 rotate_left
 ·exact cv [0,1,2]
 refine ob_of _ (hd_eqE x.h y.h) ?_
 conv=>whnf
 refine br_of (fun h => ?_) (fun h => ?_) <;> rw [h] <;> conv=>whnf
 rotate_left
 ·exact cv [0,1,2]
 refine clQ (bsame_ok x.b y.b h1 l1) [0] ?_
 conv=>whnf
 refine br_of (fun h => ?_) (fun h => ?_) <;> rw [h] <;> conv=>whnf
 rotate_left
 ·exact cv [0,1,2]
 refine clQ (eqSx_ok x.path y.path h2 l2) [1] ?_
 conv=>whnf
 refine br_of (fun h => ?_) (fun h => ?_) <;> rw [h] <;> conv=>whnf
 rotate_left
 ·exact cv [0,1,2]
 refine clQ (eqMx_ok x.marks y.marks h3 l3) [2] ?_
 conv=>whnf
 exact cv [0,1,2]
theorem marks_ok (l:List Mk) (hl:l.length≤1000000):Tri Tryz.prog G 141 [.s 0 0 l.length false] [mkRs l] (bv (marksL l)) [mkRs l]:=by
 unfold marksL
 refine fn Tryz.func141 ?_
 conv=>whnf
 obtain ⟨R,hR⟩:∃ R,marksF (-1) l=R:=⟨_,rfl⟩
 rw [hR]
 refine lp2 (fun (i:Nat) (last:Int)=>([(0,.s 0 0 l.length false),(3,i64 last),(7,.s 0 0 l.length false),(8,i64 (l.length:Nat)),(9,i64 (i:Nat))],[mkRs l])) (fun i last=>i≤l.length∧marksF last (l.drop i)=R) (fun i _=>l.length-i) 0 (-1) ⟨by omega,hR⟩ (cv [0]) fun i last ⟨hi,hx⟩ => ?_
 conv=>whnf
 refine br_of (fun h1 => ?_) (fun h1 => ?_) <;> conv=>whnf
 rotate_left
 ·have h1:i=l.length:=by have:=of_decide_eq_false h1; omega
  subst h1
  rw [List.drop_length] at hx
  have hx:true=R:=hx
  rw [← hx,show decide ((l.length:Int)≤8)=decide (l.length≤8) from by rw [Bool.eq_iff_iff]; simp; omega]
  exact cv [0]
 have h1:i<l.length:=by have:=of_decide_eq_true h1; omega
 rw [List.drop_eq_getElem_cons h1] at hx
 refine ⟨by omega,?_⟩
 conv=>whnf
 refine ob_of (mkE l[i]) (by simp [h1]) ?_
 conv=>whnf
 generalize l[i]=k at hx
 have hx:(if decide (k.log≤last)||decide (k.log≥8)||decide ((k.size:Int)>1099511627776) || !(((sB k.root).size:Int)==32||(((k.size:Int)==0)&&((sB k.root).toList==(⟨#[]⟩:ByteArray).toList)))||(((k.size:Int)==0) && !((sB k.root).toList==(⟨#[]⟩:ByteArray).toList)) then false else marksF k.log (l.drop (i+1)))=R:=by
  rw [show (⟨#[]⟩:ByteArray)=sB [] from rfl,← hx,eqL,sB_size]
  rw [show decide ((k.size:Int)>1099511627776)=decide (k.size>1099511627776) from by rw [Bool.eq_iff_iff]; simp; omega,show ((k.root.length:Int)==32)=(k.root.length==32) from by rw [Bool.eq_iff_iff]; simp; omega,show ((k.size:Int)==0)=(k.size==0) from by rw [Bool.eq_iff_iff]; simp]
  rfl
 iterate 11 (all_goals (try (refine br_of (fun h => ?_) (fun h => ?_) <;> (try rw [h]) <;> (try rw [h] at hx) <;> conv=>whnf)))
 all_goals simp only [Bool.true_or,Bool.or_true,Bool.false_or,Bool.or_false,Bool.not_true,Bool.not_false,Bool.true_and,Bool.false_and,Bool.and_true,Bool.and_false,if_true,if_false,Bool.false_eq_true] at hx
 all_goals try (rename_i h8 _ _ _ _; exact absurd (h8.symm.trans h) (by decide))
 all_goals try (rename_i h9 _; exact absurd (h9.symm.trans h) (by decide))
 all_goals try simp only [show (!((sB k.root).toList==(⟨#[]⟩:ByteArray).toList))=false from h,Bool.false_eq_true,if_false] at hx
 all_goals first
  | (rw [← hx]; exact cv [0])
  | (rw [wI64 (n:=(i:Int)+1) (by omega) (by omega)]
     exact ⟨(i+1,k.log),⟨⟨by omega,hx⟩,Nat.sub_lt_sub_left h1 (Nat.lt_succ_self i)⟩,cv [0]⟩)
def partC:Nat→Int
 | 0=>108 | 1=>105 | 2=>109 | 3=>110 | 4=>104 | 5=>98 | 6=>112 | _=>107
theorem part1_ok (s:Bs):Tri Tryz.prog G 140 [sv s] [] (bv (s.length != 32)) []:=by
 refine fn Tryz.func140 ?_
 conv=>whnf
 rw [show (s.length != 32)=(((sB s).size:Int) != 32) from by rw [sB_size,Bool.eq_iff_iff]; simp; omega]
 exact cv []
theorem part_ok (hS:GSha G) (m:Mg) (c:Nat) (hc:c<8) (l1:m.b.path.length≤1000000) (l2:m.path.length≤1000000) (l3:m.marks.length≤1000000):Tri Tryz.prog G 91 [.a (mgE 0 1 2 m),.v (.int .i32 (partC c))] (mgH m) (bv (m.part c)) (mgH m):=by
 have hcc:c=0∨c=1∨c=2∨c=3∨c=4∨c=5∨c=6∨c=7:=by omega
 rcases hcc with rfl | rfl | rfl | rfl | rfl | rfl | rfl | rfl
 all_goals
  refine fn Tryz.func91 ?_
  conv=>whnf
 ·rw [show m.part 0=(decide (m.log≥0)&&decide (m.log<8)) from rfl]
  refine br_of (fun h => ?_) (fun h => ?_) <;> rw [h] <;> conv=>whnf
  ·exact cv [0,1,2]
  ·exact cv [0,1,2]
 ·exact cv [0,1,2]
 ·rw [show m.part 2=(decide ((m.m:Int)≥1)&&decide ((m.m:Int)≤m.n)&&decide ((m.n:Int)≤1099511627776)) from by
   show (decide (m.m≥1)&&decide (m.m≤m.n)&&decide (m.n≤1099511627776))=_
   rw [Bool.eq_iff_iff]; simp only [Bool.and_eq_true,decide_eq_true_eq]; omega]
  refine br_of (fun h => ?_) (fun h => ?_) <;> rw [h] <;> conv=>whnf
  ·refine br_of (fun h => ?_) (fun h => ?_) <;> rw [h] <;> conv=>whnf
   ·exact cv [0,1,2]
   ·exact cv [0,1,2]
  ·exact cv [0,1,2]
 ·exact cv [0,1,2]
 ·refine cl (hright_ok m.h) [] ?_
  conv=>whnf
  exact cv [0,1,2]
 ·refine clQ (bodd_ok hS m.b l1) [0] ?_
  conv=>whnf
  exact cv [0,1,2]
 ·rw [show m.part 6=(decide ((m.path.length:Int)≤48)&&m.path.all fun h=>h.length==32) from by
   show (decide (m.path.length≤48)&&_)=_
   rw [show decide ((m.path.length:Int)≤48)=decide (m.path.length≤48) from by rw [Bool.eq_iff_iff]; simp; omega]]
  refine br_of (fun h => ?_) (fun h => ?_) <;> rw [h] <;> conv=>whnf
  ·refine clQ (has_ok m.path l2 _ _ part1_ok) [1] ?_
   conv=>whnf
   rw [any_all]
   exact cv [0,1,2]
  ·exact cv [0,1,2]
 ·refine clQ (marks_ok m.marks l3) [2] ?_
  conv=>whnf
  exact cv [0,1,2]
theorem bare_p (m:Mg) (hk:ofL m.kind=true):(m.bare.b.path=m.b.path∨m.bare.b.path=[])∧(m.bare.path=m.path∨m.bare.path=[])∧(m.bare.marks=m.marks∨m.bare.marks=[]):=by
 obtain ⟨kind,log,id,mm,n,h,b,path,marks⟩:=m
 simp only at hk
 rcases kinds hk with rfl | rfl | rfl | rfl | rfl | rfl | rfl | rfl | rfl | rfl
 all_goals exact ⟨by first | exact .inl rfl | exact .inr rfl,by first | exact .inl rfl | exact .inr rfl,by first | exact .inl rfl | exact .inr rfl⟩
theorem right_ok (hH:GHas G) (hS:GSha G) (m:Mg) (l1:m.b.path.length≤1000000) (l2:m.path.length≤1000000) (l3:m.marks.length≤1000000):Tri Tryz.prog G 55 [.a (mgE 0 1 2 m)] (mgH m) (bv m.right) (mgH m):=by
 cases hk:ofL m.kind with
 | false =>
  rw [show m.right=false from by simp [Mg.right,hk]]
  refine fn Tryz.func55 ?_
  conv=>whnf
  refine clQ (of_ok' m.kind) [] ?_
  rw [hk]
  conv=>whnf
  refine ⟨rfl,?_⟩
  conv=>whnf
  exact cv [0,1,2]
 | true =>
  have hp:=bare_p m hk
  cases hb:decide (m=m.bare) with
  | false =>
   rw [show m.right=false from by simp [Mg.right,hk,hb]]
   refine fn Tryz.func55 ?_
   conv=>whnf
   refine clQ (of_ok' m.kind) [] ?_
   rw [hk]
   conv=>whnf
   refine clQ (bare_ok hH m hk) [0,1,2] ?_
   conv=>whnf
   refine clQ (msame_ok m m.bare hp.1 hp.2.1 hp.2.2 l1 l2 l3) [0,1,2] ?_
   rw [hb]
   conv=>whnf
   refine ⟨rfl,?_⟩
   conv=>whnf
   exact cv [0,1,2]
  | true =>
   rw [show m.right=(hasL m.kind.toNat).all m.part from by simp [Mg.right,hk,hb]]
   obtain ⟨t,hH'⟩:=hH
   have hH:GHas G:=⟨t,hH'⟩
   obtain ⟨kind,log,id,mm,n,h,b,path,marks⟩:=m
   simp only at hk
   rcases kinds hk with rfl | rfl | rfl | rfl | rfl | rfl | rfl | rfl | rfl | rfl
   ·refine fn Tryz.func55 ?_
    conv=>whnf
    refine clQ (of_ok' 1) [] ?_
    conv=>whnf
    refine clQ (bare_ok hH ⟨1,log,id,mm,n,h,b,path,marks⟩ hk) [0,1,2] ?_
    conv=>whnf
    refine clQ (msame_ok ⟨1,log,id,mm,n,h,b,path,marks⟩ (Mg.bare ⟨1,log,id,mm,n,h,b,path,marks⟩) hp.1 hp.2.1 hp.2.2 l1 l2 l3) [0,1,2] ?_
    rw [hb]
    conv=>whnf
    refine ⟨rfl,?_⟩
    conv=>whnf
    refine ⟨⟨by simp only; decide,by simp only; decide⟩,?_⟩
    conv=>whnf
    refine ob_of _ hH' ?_
    conv=>whnf
    refine lu 6 ?_
    conv=>whnf
    rw [show (hasL (1:Int).toNat).all (Mg.part ⟨1,log,id,mm,n,h,b,path,marks⟩)=((Mg.part ⟨1,log,id,mm,n,h,b,path,marks⟩ 7)&&true) from rfl]
    refine clQ (part_ok hS ⟨1,log,id,mm,n,h,b,path,marks⟩ 7 (by decide) l1 l2 l3) [0,1,2] ?_
    cases hc7:Mg.part ⟨1,log,id,mm,n,h,b,path,marks⟩ 7 with
    | false =>
     conv=>whnf
     exact cv [0,1,2]
    | true =>
    conv=>whnf
    exact cv [0,1,2]
   ·refine fn Tryz.func55 ?_
    conv=>whnf
    refine clQ (of_ok' 2) [] ?_
    conv=>whnf
    refine clQ (bare_ok hH ⟨2,log,id,mm,n,h,b,path,marks⟩ hk) [0,1,2] ?_
    conv=>whnf
    refine clQ (msame_ok ⟨2,log,id,mm,n,h,b,path,marks⟩ (Mg.bare ⟨2,log,id,mm,n,h,b,path,marks⟩) hp.1 hp.2.1 hp.2.2 l1 l2 l3) [0,1,2] ?_
    rw [hb]
    conv=>whnf
    refine ⟨rfl,?_⟩
    conv=>whnf
    refine ⟨⟨by simp only; decide,by simp only; decide⟩,?_⟩
    conv=>whnf
    refine ob_of _ hH' ?_
    conv=>whnf
    refine lu 6 ?_
    conv=>whnf
    rw [show (hasL (2:Int).toNat).all (Mg.part ⟨2,log,id,mm,n,h,b,path,marks⟩)=((Mg.part ⟨2,log,id,mm,n,h,b,path,marks⟩ 7)&&true) from rfl]
    refine clQ (part_ok hS ⟨2,log,id,mm,n,h,b,path,marks⟩ 7 (by decide) l1 l2 l3) [0,1,2] ?_
    cases hc7:Mg.part ⟨2,log,id,mm,n,h,b,path,marks⟩ 7 with
    | false =>
     conv=>whnf
     exact cv [0,1,2]
    | true =>
    conv=>whnf
    exact cv [0,1,2]
   ·refine fn Tryz.func55 ?_
    conv=>whnf
    refine clQ (of_ok' 3) [] ?_
    conv=>whnf
    refine clQ (bare_ok hH ⟨3,log,id,mm,n,h,b,path,marks⟩ hk) [0,1,2] ?_
    conv=>whnf
    refine clQ (msame_ok ⟨3,log,id,mm,n,h,b,path,marks⟩ (Mg.bare ⟨3,log,id,mm,n,h,b,path,marks⟩) hp.1 hp.2.1 hp.2.2 l1 l2 l3) [0,1,2] ?_
    rw [hb]
    conv=>whnf
    refine ⟨rfl,?_⟩
    conv=>whnf
    refine ⟨⟨by simp only; decide,by simp only; decide⟩,?_⟩
    conv=>whnf
    refine ob_of _ hH' ?_
    conv=>whnf
    refine lu 6 ?_
    conv=>whnf
    rw [show (hasL (3:Int).toNat).all (Mg.part ⟨3,log,id,mm,n,h,b,path,marks⟩)=((Mg.part ⟨3,log,id,mm,n,h,b,path,marks⟩ 0)&&((Mg.part ⟨3,log,id,mm,n,h,b,path,marks⟩ 4)&&true)) from rfl]
    refine clQ (part_ok hS ⟨3,log,id,mm,n,h,b,path,marks⟩ 0 (by decide) l1 l2 l3) [0,1,2] ?_
    cases hc0:Mg.part ⟨3,log,id,mm,n,h,b,path,marks⟩ 0 with
    | false =>
     conv=>whnf
     exact cv [0,1,2]
    | true =>
    conv=>whnf
    refine clQ (part_ok hS ⟨3,log,id,mm,n,h,b,path,marks⟩ 4 (by decide) l1 l2 l3) [0,1,2] ?_
    cases hc4:Mg.part ⟨3,log,id,mm,n,h,b,path,marks⟩ 4 with
    | false =>
     conv=>whnf
     exact cv [0,1,2]
    | true =>
    conv=>whnf
    exact cv [0,1,2]
   ·refine fn Tryz.func55 ?_
    conv=>whnf
    refine clQ (of_ok' 4) [] ?_
    conv=>whnf
    refine clQ (bare_ok hH ⟨4,log,id,mm,n,h,b,path,marks⟩ hk) [0,1,2] ?_
    conv=>whnf
    refine clQ (msame_ok ⟨4,log,id,mm,n,h,b,path,marks⟩ (Mg.bare ⟨4,log,id,mm,n,h,b,path,marks⟩) hp.1 hp.2.1 hp.2.2 l1 l2 l3) [0,1,2] ?_
    rw [hb]
    conv=>whnf
    refine ⟨rfl,?_⟩
    conv=>whnf
    refine ⟨⟨by simp only; decide,by simp only; decide⟩,?_⟩
    conv=>whnf
    refine ob_of _ hH' ?_
    conv=>whnf
    refine lu 6 ?_
    conv=>whnf
    rw [show (hasL (4:Int).toNat).all (Mg.part ⟨4,log,id,mm,n,h,b,path,marks⟩)=((Mg.part ⟨4,log,id,mm,n,h,b,path,marks⟩ 0)&&((Mg.part ⟨4,log,id,mm,n,h,b,path,marks⟩ 5)&&true)) from rfl]
    refine clQ (part_ok hS ⟨4,log,id,mm,n,h,b,path,marks⟩ 0 (by decide) l1 l2 l3) [0,1,2] ?_
    cases hc0:Mg.part ⟨4,log,id,mm,n,h,b,path,marks⟩ 0 with
    | false =>
     conv=>whnf
     exact cv [0,1,2]
    | true =>
    conv=>whnf
    refine clQ (part_ok hS ⟨4,log,id,mm,n,h,b,path,marks⟩ 5 (by decide) l1 l2 l3) [0,1,2] ?_
    cases hc5:Mg.part ⟨4,log,id,mm,n,h,b,path,marks⟩ 5 with
    | false =>
     conv=>whnf
     exact cv [0,1,2]
    | true =>
    conv=>whnf
    exact cv [0,1,2]
   ·refine fn Tryz.func55 ?_
    conv=>whnf
    refine clQ (of_ok' 5) [] ?_
    conv=>whnf
    refine clQ (bare_ok hH ⟨5,log,id,mm,n,h,b,path,marks⟩ hk) [0,1,2] ?_
    conv=>whnf
    refine clQ (msame_ok ⟨5,log,id,mm,n,h,b,path,marks⟩ (Mg.bare ⟨5,log,id,mm,n,h,b,path,marks⟩) hp.1 hp.2.1 hp.2.2 l1 l2 l3) [0,1,2] ?_
    rw [hb]
    conv=>whnf
    refine ⟨rfl,?_⟩
    conv=>whnf
    refine ⟨⟨by simp only; decide,by simp only; decide⟩,?_⟩
    conv=>whnf
    refine ob_of _ hH' ?_
    conv=>whnf
    refine lu 6 ?_
    conv=>whnf
    rw [show (hasL (5:Int).toNat).all (Mg.part ⟨5,log,id,mm,n,h,b,path,marks⟩)=((Mg.part ⟨5,log,id,mm,n,h,b,path,marks⟩ 0)&&((Mg.part ⟨5,log,id,mm,n,h,b,path,marks⟩ 1)&&true)) from rfl]
    refine clQ (part_ok hS ⟨5,log,id,mm,n,h,b,path,marks⟩ 0 (by decide) l1 l2 l3) [0,1,2] ?_
    cases hc0:Mg.part ⟨5,log,id,mm,n,h,b,path,marks⟩ 0 with
    | false =>
     conv=>whnf
     exact cv [0,1,2]
    | true =>
    conv=>whnf
    refine clQ (part_ok hS ⟨5,log,id,mm,n,h,b,path,marks⟩ 1 (by decide) l1 l2 l3) [0,1,2] ?_
    cases hc1:Mg.part ⟨5,log,id,mm,n,h,b,path,marks⟩ 1 with
    | false =>
     conv=>whnf
     exact cv [0,1,2]
    | true =>
    conv=>whnf
    exact cv [0,1,2]
   ·refine fn Tryz.func55 ?_
    conv=>whnf
    refine clQ (of_ok' 6) [] ?_
    conv=>whnf
    refine clQ (bare_ok hH ⟨6,log,id,mm,n,h,b,path,marks⟩ hk) [0,1,2] ?_
    conv=>whnf
    refine clQ (msame_ok ⟨6,log,id,mm,n,h,b,path,marks⟩ (Mg.bare ⟨6,log,id,mm,n,h,b,path,marks⟩) hp.1 hp.2.1 hp.2.2 l1 l2 l3) [0,1,2] ?_
    rw [hb]
    conv=>whnf
    refine ⟨rfl,?_⟩
    conv=>whnf
    refine ⟨⟨by simp only; decide,by simp only; decide⟩,?_⟩
    conv=>whnf
    refine ob_of _ hH' ?_
    conv=>whnf
    refine lu 6 ?_
    conv=>whnf
    rw [show (hasL (6:Int).toNat).all (Mg.part ⟨6,log,id,mm,n,h,b,path,marks⟩)=((Mg.part ⟨6,log,id,mm,n,h,b,path,marks⟩ 0)&&((Mg.part ⟨6,log,id,mm,n,h,b,path,marks⟩ 1)&&((Mg.part ⟨6,log,id,mm,n,h,b,path,marks⟩ 2)&&((Mg.part ⟨6,log,id,mm,n,h,b,path,marks⟩ 3)&&true)))) from rfl]
    refine clQ (part_ok hS ⟨6,log,id,mm,n,h,b,path,marks⟩ 0 (by decide) l1 l2 l3) [0,1,2] ?_
    cases hc0:Mg.part ⟨6,log,id,mm,n,h,b,path,marks⟩ 0 with
    | false =>
     conv=>whnf
     exact cv [0,1,2]
    | true =>
    conv=>whnf
    refine clQ (part_ok hS ⟨6,log,id,mm,n,h,b,path,marks⟩ 1 (by decide) l1 l2 l3) [0,1,2] ?_
    cases hc1:Mg.part ⟨6,log,id,mm,n,h,b,path,marks⟩ 1 with
    | false =>
     conv=>whnf
     exact cv [0,1,2]
    | true =>
    conv=>whnf
    refine clQ (part_ok hS ⟨6,log,id,mm,n,h,b,path,marks⟩ 2 (by decide) l1 l2 l3) [0,1,2] ?_
    cases hc2:Mg.part ⟨6,log,id,mm,n,h,b,path,marks⟩ 2 with
    | false =>
     conv=>whnf
     exact cv [0,1,2]
    | true =>
    conv=>whnf
    refine clQ (part_ok hS ⟨6,log,id,mm,n,h,b,path,marks⟩ 3 (by decide) l1 l2 l3) [0,1,2] ?_
    cases hc3:Mg.part ⟨6,log,id,mm,n,h,b,path,marks⟩ 3 with
    | false =>
     conv=>whnf
     exact cv [0,1,2]
    | true =>
    conv=>whnf
    exact cv [0,1,2]
   ·refine fn Tryz.func55 ?_
    conv=>whnf
    refine clQ (of_ok' 7) [] ?_
    conv=>whnf
    refine clQ (bare_ok hH ⟨7,log,id,mm,n,h,b,path,marks⟩ hk) [0,1,2] ?_
    conv=>whnf
    refine clQ (msame_ok ⟨7,log,id,mm,n,h,b,path,marks⟩ (Mg.bare ⟨7,log,id,mm,n,h,b,path,marks⟩) hp.1 hp.2.1 hp.2.2 l1 l2 l3) [0,1,2] ?_
    rw [hb]
    conv=>whnf
    refine ⟨rfl,?_⟩
    conv=>whnf
    refine ⟨⟨by simp only; decide,by simp only; decide⟩,?_⟩
    conv=>whnf
    refine ob_of _ hH' ?_
    conv=>whnf
    refine lu 6 ?_
    conv=>whnf
    rw [show (hasL (7:Int).toNat).all (Mg.part ⟨7,log,id,mm,n,h,b,path,marks⟩)=((Mg.part ⟨7,log,id,mm,n,h,b,path,marks⟩ 0)&&((Mg.part ⟨7,log,id,mm,n,h,b,path,marks⟩ 1)&&((Mg.part ⟨7,log,id,mm,n,h,b,path,marks⟩ 4)&&true))) from rfl]
    refine clQ (part_ok hS ⟨7,log,id,mm,n,h,b,path,marks⟩ 0 (by decide) l1 l2 l3) [0,1,2] ?_
    cases hc0:Mg.part ⟨7,log,id,mm,n,h,b,path,marks⟩ 0 with
    | false =>
     conv=>whnf
     exact cv [0,1,2]
    | true =>
    conv=>whnf
    refine clQ (part_ok hS ⟨7,log,id,mm,n,h,b,path,marks⟩ 1 (by decide) l1 l2 l3) [0,1,2] ?_
    cases hc1:Mg.part ⟨7,log,id,mm,n,h,b,path,marks⟩ 1 with
    | false =>
     conv=>whnf
     exact cv [0,1,2]
    | true =>
    conv=>whnf
    refine clQ (part_ok hS ⟨7,log,id,mm,n,h,b,path,marks⟩ 4 (by decide) l1 l2 l3) [0,1,2] ?_
    cases hc4:Mg.part ⟨7,log,id,mm,n,h,b,path,marks⟩ 4 with
    | false =>
     conv=>whnf
     exact cv [0,1,2]
    | true =>
    conv=>whnf
    exact cv [0,1,2]
   ·refine fn Tryz.func55 ?_
    conv=>whnf
    refine clQ (of_ok' 8) [] ?_
    conv=>whnf
    refine clQ (bare_ok hH ⟨8,log,id,mm,n,h,b,path,marks⟩ hk) [0,1,2] ?_
    conv=>whnf
    refine clQ (msame_ok ⟨8,log,id,mm,n,h,b,path,marks⟩ (Mg.bare ⟨8,log,id,mm,n,h,b,path,marks⟩) hp.1 hp.2.1 hp.2.2 l1 l2 l3) [0,1,2] ?_
    rw [hb]
    conv=>whnf
    refine ⟨rfl,?_⟩
    conv=>whnf
    refine ⟨⟨by simp only; decide,by simp only; decide⟩,?_⟩
    conv=>whnf
    refine ob_of _ hH' ?_
    conv=>whnf
    refine lu 6 ?_
    conv=>whnf
    rw [show (hasL (8:Int).toNat).all (Mg.part ⟨8,log,id,mm,n,h,b,path,marks⟩)=((Mg.part ⟨8,log,id,mm,n,h,b,path,marks⟩ 0)&&((Mg.part ⟨8,log,id,mm,n,h,b,path,marks⟩ 1)&&((Mg.part ⟨8,log,id,mm,n,h,b,path,marks⟩ 2)&&((Mg.part ⟨8,log,id,mm,n,h,b,path,marks⟩ 3)&&((Mg.part ⟨8,log,id,mm,n,h,b,path,marks⟩ 6)&&true))))) from rfl]
    refine clQ (part_ok hS ⟨8,log,id,mm,n,h,b,path,marks⟩ 0 (by decide) l1 l2 l3) [0,1,2] ?_
    cases hc0:Mg.part ⟨8,log,id,mm,n,h,b,path,marks⟩ 0 with
    | false =>
     conv=>whnf
     exact cv [0,1,2]
    | true =>
    conv=>whnf
    refine clQ (part_ok hS ⟨8,log,id,mm,n,h,b,path,marks⟩ 1 (by decide) l1 l2 l3) [0,1,2] ?_
    cases hc1:Mg.part ⟨8,log,id,mm,n,h,b,path,marks⟩ 1 with
    | false =>
     conv=>whnf
     exact cv [0,1,2]
    | true =>
    conv=>whnf
    refine clQ (part_ok hS ⟨8,log,id,mm,n,h,b,path,marks⟩ 2 (by decide) l1 l2 l3) [0,1,2] ?_
    cases hc2:Mg.part ⟨8,log,id,mm,n,h,b,path,marks⟩ 2 with
    | false =>
     conv=>whnf
     exact cv [0,1,2]
    | true =>
    conv=>whnf
    refine clQ (part_ok hS ⟨8,log,id,mm,n,h,b,path,marks⟩ 3 (by decide) l1 l2 l3) [0,1,2] ?_
    cases hc3:Mg.part ⟨8,log,id,mm,n,h,b,path,marks⟩ 3 with
    | false =>
     conv=>whnf
     exact cv [0,1,2]
    | true =>
    conv=>whnf
    refine clQ (part_ok hS ⟨8,log,id,mm,n,h,b,path,marks⟩ 6 (by decide) l1 l2 l3) [0,1,2] ?_
    cases hc6:Mg.part ⟨8,log,id,mm,n,h,b,path,marks⟩ 6 with
    | false =>
     conv=>whnf
     exact cv [0,1,2]
    | true =>
    conv=>whnf
    exact cv [0,1,2]
   ·refine fn Tryz.func55 ?_
    conv=>whnf
    refine clQ (of_ok' 9) [] ?_
    conv=>whnf
    refine clQ (bare_ok hH ⟨9,log,id,mm,n,h,b,path,marks⟩ hk) [0,1,2] ?_
    conv=>whnf
    refine clQ (msame_ok ⟨9,log,id,mm,n,h,b,path,marks⟩ (Mg.bare ⟨9,log,id,mm,n,h,b,path,marks⟩) hp.1 hp.2.1 hp.2.2 l1 l2 l3) [0,1,2] ?_
    rw [hb]
    conv=>whnf
    refine ⟨rfl,?_⟩
    conv=>whnf
    refine ⟨⟨by simp only; decide,by simp only; decide⟩,?_⟩
    conv=>whnf
    refine ob_of _ hH' ?_
    conv=>whnf
    refine lu 6 ?_
    conv=>whnf
    rw [show (hasL (9:Int).toNat).all (Mg.part ⟨9,log,id,mm,n,h,b,path,marks⟩)=((Mg.part ⟨9,log,id,mm,n,h,b,path,marks⟩ 0)&&true) from rfl]
    refine clQ (part_ok hS ⟨9,log,id,mm,n,h,b,path,marks⟩ 0 (by decide) l1 l2 l3) [0,1,2] ?_
    cases hc0:Mg.part ⟨9,log,id,mm,n,h,b,path,marks⟩ 0 with
    | false =>
     conv=>whnf
     exact cv [0,1,2]
    | true =>
    conv=>whnf
    exact cv [0,1,2]
   ·refine fn Tryz.func55 ?_
    conv=>whnf
    refine clQ (of_ok' 10) [] ?_
    conv=>whnf
    refine clQ (bare_ok hH ⟨10,log,id,mm,n,h,b,path,marks⟩ hk) [0,1,2] ?_
    conv=>whnf
    refine clQ (msame_ok ⟨10,log,id,mm,n,h,b,path,marks⟩ (Mg.bare ⟨10,log,id,mm,n,h,b,path,marks⟩) hp.1 hp.2.1 hp.2.2 l1 l2 l3) [0,1,2] ?_
    rw [hb]
    conv=>whnf
    refine ⟨rfl,?_⟩
    conv=>whnf
    refine ⟨⟨by simp only; decide,by simp only; decide⟩,?_⟩
    conv=>whnf
    refine ob_of _ hH' ?_
    conv=>whnf
    refine lu 6 ?_
    conv=>whnf
    rw [show (hasL (10:Int).toNat).all (Mg.part ⟨10,log,id,mm,n,h,b,path,marks⟩)=((Mg.part ⟨10,log,id,mm,n,h,b,path,marks⟩ 0)&&((Mg.part ⟨10,log,id,mm,n,h,b,path,marks⟩ 3)&&true)) from rfl]
    refine clQ (part_ok hS ⟨10,log,id,mm,n,h,b,path,marks⟩ 0 (by decide) l1 l2 l3) [0,1,2] ?_
    cases hc0:Mg.part ⟨10,log,id,mm,n,h,b,path,marks⟩ 0 with
    | false =>
     conv=>whnf
     exact cv [0,1,2]
    | true =>
    conv=>whnf
    refine clQ (part_ok hS ⟨10,log,id,mm,n,h,b,path,marks⟩ 3 (by decide) l1 l2 l3) [0,1,2] ?_
    cases hc3:Mg.part ⟨10,log,id,mm,n,h,b,path,marks⟩ 3 with
    | false =>
     conv=>whnf
     exact cv [0,1,2]
    | true =>
    conv=>whnf
    exact cv [0,1,2]
theorem list_ok (l:List Bs) (w:Ww) (hl:l.length≤48) (hp:∀ x∈l,x.length=32) (hb:w.1.length≤100000):Tri Tryz.prog G 193 [.p 0 0 0,.s 2 0 l.length false] [wr 1 w.1.length w.2,by_ w.1,sRs l] (.t []) [wr 3 (wList w l).1.length (wList w l).2,.g,sRs l,by_ (wList w l).1]:=by
 have l3:=wNum_len w l.length
 refine fn Tryz.func193 ?_
 conv=>whnf
 rw [wU64 (n:=(l.length:Int)) (by omega) (by omega)]
 refine cl (lwnum_ok w l.length (by omega) (by omega)) [0,1] ?_
 conv=>whnf
 obtain ⟨W,hW⟩:∃ W,wRaws (wNum w l.length) l=W:=⟨_,rfl⟩
 rw [show wList w l=W from hW]
 refine lp2 (fun (i:Nat) (v:Ww)=>([(0,.p 0 0 0),(11,.s 2 0 l.length false),(12,i64 (l.length:Nat)),(13,i64 (i:Nat))],[wr 3 v.1.length v.2,.g,sRs l,by_ v.1])) (fun i v=>(i≤l.length∧v.1.length+32*(l.length-i)≤200000)∧wRaws v (l.drop i)=W) (fun i _=>l.length-i) 0 (wNum w l.length) ⟨⟨by omega,by omega⟩,hW⟩ (cv [0,1,2,3]) fun i v ⟨⟨hi,hv⟩,hx⟩ => ?_
 conv=>whnf
 refine br_of (fun h1 => ?_) (fun h1 => ?_) <;> conv=>whnf
 ·have h1:i<l.length:=by have:=of_decide_eq_true h1; omega
  rw [List.drop_eq_getElem_cons h1] at hx
  have hx:wRaws (wRaw v l[i] 32) (l.drop (i+1))=W:=hx
  have h3:=hp l[i] (List.getElem_mem h1)
  have l4:=wRaw_len v l[i] 32
  refine ⟨by omega,?_⟩
  conv=>whnf
  refine ob_of [sv l[i]] (by simp [h1]) ?_
  conv=>whnf
  refine cl (lwraw_ok v l[i] 32 (by omega)) [0,3] ?_
  conv=>whnf
  rw [wI64 (n:=(i:Int)+1) (by omega) (by omega)]
  exact ⟨(i+1,wRaw v l[i] 32),⟨⟨⟨by simp only; omega,by simp only; omega⟩,hx⟩,by simp only; omega⟩,cv [0,1,2,4]⟩
 ·have h1:i=l.length:=by have:=of_decide_eq_false h1; omega
  subst h1
  rw [List.drop_length] at hx
  have hx:v=W:=hx
  rw [hx]
  exact cv [0,1,2,3]
theorem wMark_len (w:Ww) (k:Mk) (h:k.root.length≤32):(wMark w k).1.length≤w.1.length+44:=by
 have l1:=wByte_len w k.log
 have l2:=wByte_len (wByte w k.log) (if k.bad then 1 else 0)
 have l3:=wNum_len (wByte (wByte w k.log) (if k.bad then 1 else 0)) k.size
 have l4:=wRaw_len (wNum (wByte (wByte w k.log) (if k.bad then 1 else 0)) k.size) k.root 32
 unfold wMark
 simp only
 split <;> omega
theorem marksF_inv:∀ (l:List Mk) (last:Int),marksF last l=true→∀ k∈l,k.size≤1099511627776∧k.root.length≤32:=by
 intro l
 induction l with
 | nil=>intro last h k hk; cases hk
 | cons x l ih =>
  intro last h k hk
  unfold marksF at h
  split at h
  ·cases h
  ·rename_i hn
   rcases List.mem_cons.1 hk with rfl | hk
   ·simp only [Bool.or_eq_true,decide_eq_true_eq,Bool.not_eq_true',Bool.and_eq_true,beq_iff_eq,bne_iff_ne,Bool.or_eq_false_iff,beq_eq_false_iff_ne,Bool.and_eq_false_imp,not_or,not_and,ne_eq,Classical.not_not] at hn
    refine ⟨by omega,?_⟩
    by_cases h32:k.root.length=32
    ·omega
    ·by_cases h0:k.root=[]
     ·simp [h0]
     ·exfalso
      have:=hn.1.2
      simp [h32,h0] at this
   ·exact ih x.log h k hk
theorem marksL_inv {l:List Mk} (h:marksL l=true):l.length≤8∧∀ k∈l,k.size≤1099511627776∧k.root.length≤32:=by
 simp only [marksL,Bool.and_eq_true,decide_eq_true_eq] at h
 exact ⟨h.2,marksF_inv l (-1) h.1⟩
theorem pmarks_ok (l:List Mk) (w:Ww) (hr:marksL l=true) (hb:w.1.length≤100000):Tri Tryz.prog G 194 [.p 0 0 0,.s 2 0 l.length false] [wr 1 w.1.length w.2,by_ w.1,mkRs l] (.t []) [wr 3 (wMarks w l).1.length (wMarks w l).2,.g,mkRs l,by_ (wMarks w l).1]:=by
 obtain ⟨hl,hp⟩:=marksL_inv hr
 have l3:=wByte_len w l.length
 refine fn Tryz.func194 ?_
 conv=>whnf
 refine cl (lwbyte_ok w l.length (by omega)) [0,1] ?_
 conv=>whnf
 obtain ⟨W,hW⟩:∃ W,l.foldl wMark (wByte w l.length)=W:=⟨_,rfl⟩
 rw [show wMarks w l=W from hW]
 refine lp2 (fun (i:Nat) (v:Ww)=>([(0,.p 0 0 0),(11,.s 2 0 l.length false),(12,i64 (l.length:Nat)),(13,i64 (i:Nat))],[wr 3 v.1.length v.2,.g,mkRs l,by_ v.1])) (fun i v=>(i≤l.length∧v.1.length+44*(l.length-i)≤200000)∧(l.drop i).foldl wMark v=W) (fun i _=>l.length-i) 0 (wByte w l.length) ⟨⟨by omega,by omega⟩,hW⟩ (cv [0,1,2,3]) fun i v ⟨⟨hi,hv⟩,hx⟩ => ?_
 conv=>whnf
 refine br_of (fun h1 => ?_) (fun h1 => ?_) <;> conv=>whnf
 ·have h1:i<l.length:=by have:=of_decide_eq_true h1; omega
  rw [List.drop_eq_getElem_cons h1] at hx
  have hx:(l.drop (i+1)).foldl wMark (wMark v l[i])=W:=hx
  have h3:=hp l[i] (List.getElem_mem h1)
  have l4:=wMark_len v l[i] h3.2
  refine ⟨by omega,?_⟩
  conv=>whnf
  refine ob_of (mkE l[i]) (by simp [h1]) ?_
  conv=>whnf
  generalize l[i]=k at hx h3 l4
  obtain ⟨h3,h32⟩:=h3
  have b1:=wByte_len v k.log
  cases hbad:k.bad with
  | true =>
   have b2:=wByte_len (wByte v k.log) 1
   have b3:=wNum_len (wByte (wByte v k.log) 1) k.size
   conv=>whnf
   refine cl (lwbyte_ok v k.log (by omega)) [0,3] ?_
   conv=>whnf
   refine cl (lwbyte_ok (wByte v k.log) 1 (by omega)) [0,5] ?_
   conv=>whnf
   refine cl (lwnum_ok (wByte (wByte v k.log) 1) k.size (by omega) (by omega)) [0,6] ?_
   conv=>whnf
   refine br_of (fun hz => ?_) (fun hz => ?_) <;> conv=>whnf
   ·have e:wMark v k=wRaw (wNum (wByte (wByte v k.log) 1) k.size) k.root 32:=by
     unfold wMark; simp only [hbad,if_true]; rw [if_pos (by have:=of_decide_eq_true hz; omega)]
    rw [e] at hx l4
    refine cl (lwraw_ok (wNum (wByte (wByte v k.log) 1) k.size) k.root 32 (by omega)) [0,7] ?_
    conv=>whnf
    rw [wI64 (n:=(i:Int)+1) (by omega) (by omega)]
    exact ⟨(i+1,wRaw (wNum (wByte (wByte v k.log) 1) k.size) k.root 32),⟨⟨⟨by simp only; omega,by simp only; omega⟩,hx⟩,by simp only; omega⟩,cv [0,1,2,8]⟩
   ·have e:wMark v k=wNum (wByte (wByte v k.log) 1) k.size:=by
     unfold wMark; simp only [hbad,if_true]; rw [if_neg (by have:=of_decide_eq_false hz; omega)]
    rw [e] at hx l4
    rw [wI64 (n:=(i:Int)+1) (by omega) (by omega)]
    exact ⟨(i+1,wNum (wByte (wByte v k.log) 1) k.size),⟨⟨⟨by simp only; omega,by simp only; omega⟩,hx⟩,by simp only; omega⟩,cv [0,1,2,7]⟩
  | false =>
   have b2:=wByte_len (wByte v k.log) 0
   have b3:=wNum_len (wByte (wByte v k.log) 0) k.size
   conv=>whnf
   refine cl (lwbyte_ok v k.log (by omega)) [0,3] ?_
   conv=>whnf
   refine cl (lwbyte_ok (wByte v k.log) 0 (by omega)) [0,5] ?_
   conv=>whnf
   refine cl (lwnum_ok (wByte (wByte v k.log) 0) k.size (by omega) (by omega)) [0,6] ?_
   conv=>whnf
   refine br_of (fun hz => ?_) (fun hz => ?_) <;> conv=>whnf
   ·have e:wMark v k=wRaw (wNum (wByte (wByte v k.log) 0) k.size) k.root 32:=by
     unfold wMark; simp only [hbad]; rw [if_pos (by have:=of_decide_eq_true hz; omega)]; rfl
    rw [e] at hx l4
    refine cl (lwraw_ok (wNum (wByte (wByte v k.log) 0) k.size) k.root 32 (by omega)) [0,7] ?_
    conv=>whnf
    rw [wI64 (n:=(i:Int)+1) (by omega) (by omega)]
    exact ⟨(i+1,wRaw (wNum (wByte (wByte v k.log) 0) k.size) k.root 32),⟨⟨⟨by simp only; omega,by simp only; omega⟩,hx⟩,by simp only; omega⟩,cv [0,1,2,8]⟩
   ·have e:wMark v k=wNum (wByte (wByte v k.log) 0) k.size:=by
     unfold wMark; simp only [hbad]; rw [if_neg (by have:=of_decide_eq_false hz; omega)]; rfl
    rw [e] at hx l4
    rw [wI64 (n:=(i:Int)+1) (by omega) (by omega)]
    exact ⟨(i+1,wNum (wByte (wByte v k.log) 0) k.size),⟨⟨⟨by simp only; omega,by simp only; omega⟩,hx⟩,by simp only; omega⟩,cv [0,1,2,7]⟩
 ·have h1:i=l.length:=by have:=of_decide_eq_false h1; omega
  subst h1
  rw [List.drop_length] at hx
  have hx:v=W:=hx
  rw [hx]
  exact cv [0,1,2,3]
theorem Bd.odd_inv {b:Bd} (h:b.odd=true):b.right=true:=by
 unfold Bd.odd at h
 cases hr:b.right with
 | true=>rfl
 | false=>simp [hr] at h
theorem part6 {m:Mg} (h:m.part 6=true):m.path.length≤48∧∀ x∈m.path,x.length=32:=by
 have h:(decide (m.path.length≤48)&&m.path.all fun h=>h.length==32)=true:=h
 simp only [Bool.and_eq_true,decide_eq_true_eq,List.all_eq_true,beq_iff_eq] at h
 exact h
theorem wList_len (l:List Bs) (w:Ww) (hp:∀ x∈l,x.length=32):(wList w l).1.length≤w.1.length+10+32*l.length:=by
 have l1:=wNum_len w l.length
 have l2:=wRaws_len l (wNum w l.length) hp
 unfold wList
 omega
theorem wMarks_len':∀ (l:List Mk) (w:Ww),(∀ k∈l,k.root.length≤32)→(l.foldl wMark w).1.length≤w.1.length+44*l.length:=by
 intro l
 induction l with
 | nil=>intro w _; simp
 | cons k l ih =>
  intro w h
  have h1:=ih (wMark w k) (fun y hy=>h y (List.mem_cons_of_mem _ hy))
  have h2:=wMark_len w k (h k (by simp))
  rw [List.foldl_cons,List.length_cons]
  omega
theorem put1_len (m:Mg) (w:Ww) (c:Nat) (hc:c<8) (h:m.part c=true):(m.put1 w c).1.length≤w.1.length+2000:=by
 have hcc:c=0∨c=1∨c=2∨c=3∨c=4∨c=5∨c=6∨c=7:=by omega
 rcases hcc with rfl | rfl | rfl | rfl | rfl | rfl | rfl | rfl
 ·have:=wByte_len w m.log; exact Nat.le_trans this (by omega)
 ·have:=wNum_len w m.id; exact Nat.le_trans this (by omega)
 ·have:=wNum_len w m.m; exact Nat.le_trans this (by omega)
 ·have:=wNum_len w m.n; exact Nat.le_trans this (by omega)
 ·have h:m.h.right=true:=h
  have h1:=Hd.right_inv h
  have:=Hd.put_len m.h w
  exact Nat.le_trans this (by omega)
 ·exact Bd.put_len (Bd.odd_inv h) w
 ·obtain ⟨h1,h2⟩:=part6 h
  have:=wList_len m.path w h2
  exact Nat.le_trans this (by omega)
 ·obtain ⟨h1,h2⟩:=marksL_inv h
  have l1:=wByte_len w m.marks.length
  have l2:=wMarks_len' m.marks (wByte w m.marks.length) (fun k hk=>(h2 k hk).2)
  exact Nat.le_trans l2 (by omega)
theorem Mg.right_inv {m:Mg} (h:m.right=true):ofL m.kind=true∧m=m.bare∧(hasL m.kind.toNat).all m.part=true:=by
 unfold Mg.right at h
 split at h
 ·cases h
 ·rename_i hn
  simp at hn
  exact ⟨hn.1,hn.2,h⟩
def Mg.fit (m:Mg):Prop:=m.id<18446744073709551616∧m.m<18446744073709551616∧m.n<18446744073709551616∧m.b.path.length≤1000000∧m.path.length≤1000000∧m.marks.length≤1000000
theorem menc_ok (hH:GHas G) (hS:GSha G) (m:Mg) (hf:m.fit):Tri Tryz.prog G 125 [.a (mgE 0 1 2 m)] (mgH m) (sv m.enc) (mgH m):=by
 obtain ⟨f1,f2,f3,q1,q2,q3⟩:=hf
 cases hr:m.right with
 | false =>
  rw [show m.enc=[] from by simp [Mg.enc,hr]]
  refine fn Tryz.func125 ?_
  conv=>whnf
  refine clQ (right_ok hH hS m q1 q2 q3) [0,1,2] ?_
  rw [hr]
  conv=>whnf
  exact cv [0,1,2]
 | true =>
  obtain ⟨hk, -,hr'⟩:=Mg.right_inv hr
  obtain ⟨t,hH'⟩:=hH
  have hH:GHas G:=⟨t,hH'⟩
  obtain ⟨kind,log,id,mm,n,h,b,path,marks⟩:=m
  simp only at hk f1 f2 f3 q1 q2 q3
  rcases kinds hk with rfl | rfl | rfl | rfl | rfl | rfl | rfl | rfl | rfl | rfl
  ·have hp:∀ c∈hasL (1:Int).toNat,Mg.part (⟨1,log,id,mm,n,h,b,path,marks⟩:Mg) c=true:=List.all_eq_true.1 hr'
   rw [show Mg.enc (⟨1,log,id,mm,n,h,b,path,marks⟩:Mg)=wText (wMarks (wByte ([],0) 1) marks) from by unfold Mg.enc; rw [hr]; rfl]
   have z:=wByte_len ([],0) 1
   simp only [List.length_nil] at z
   refine fn Tryz.func125 ?_
   conv=>whnf
   refine clQ (right_ok hH hS (⟨1,log,id,mm,n,h,b,path,marks⟩:Mg) q1 q2 q3) [0,1,2] ?_
   rw [hr]
   conv=>whnf
   refine CallE.ph 5 ?_
   refine cl (lwbyte_ok ([],0) 1 (by simp)) [4,5] ?_
   conv=>whnf
   refine ⟨⟨by simp only; decide,by simp only; decide⟩,?_⟩
   conv=>whnf
   refine ob_of _ hH' ?_
   conv=>whnf
   refine lu 6 ?_
   conv=>whnf
   have p7:=hp 7 (by decide)
   have z7:(wMarks (wByte ([],0) 1) marks).1.length≤(wByte ([],0) 1).1.length+2000:=put1_len (⟨1,log,id,mm,n,h,b,path,marks⟩:Mg) (wByte ([],0) 1) 7 (by decide) p7
   refine cl (pmarks_ok marks (wByte ([],0) 1) p7 (by omega)) [4,6,2] ?_
   conv=>whnf
   refine clQ (lwtext_ok (wMarks (wByte ([],0) 1) marks)) [4,8] ?_
   conv=>whnf
   exact cv [0,1,2]
  ·have hp:∀ c∈hasL (2:Int).toNat,Mg.part (⟨2,log,id,mm,n,h,b,path,marks⟩:Mg) c=true:=List.all_eq_true.1 hr'
   rw [show Mg.enc (⟨2,log,id,mm,n,h,b,path,marks⟩:Mg)=wText (wMarks (wByte ([],0) 2) marks) from by unfold Mg.enc; rw [hr]; rfl]
   have z:=wByte_len ([],0) 2
   simp only [List.length_nil] at z
   refine fn Tryz.func125 ?_
   conv=>whnf
   refine clQ (right_ok hH hS (⟨2,log,id,mm,n,h,b,path,marks⟩:Mg) q1 q2 q3) [0,1,2] ?_
   rw [hr]
   conv=>whnf
   refine CallE.ph 5 ?_
   refine cl (lwbyte_ok ([],0) 2 (by simp)) [4,5] ?_
   conv=>whnf
   refine ⟨⟨by simp only; decide,by simp only; decide⟩,?_⟩
   conv=>whnf
   refine ob_of _ hH' ?_
   conv=>whnf
   refine lu 6 ?_
   conv=>whnf
   have p7:=hp 7 (by decide)
   have z7:(wMarks (wByte ([],0) 2) marks).1.length≤(wByte ([],0) 2).1.length+2000:=put1_len (⟨2,log,id,mm,n,h,b,path,marks⟩:Mg) (wByte ([],0) 2) 7 (by decide) p7
   refine cl (pmarks_ok marks (wByte ([],0) 2) p7 (by omega)) [4,6,2] ?_
   conv=>whnf
   refine clQ (lwtext_ok (wMarks (wByte ([],0) 2) marks)) [4,8] ?_
   conv=>whnf
   exact cv [0,1,2]
  ·have hp:∀ c∈hasL (3:Int).toNat,Mg.part (⟨3,log,id,mm,n,h,b,path,marks⟩:Mg) c=true:=List.all_eq_true.1 hr'
   rw [show Mg.enc (⟨3,log,id,mm,n,h,b,path,marks⟩:Mg)=wText (Hd.put (wByte (wByte ([],0) 3) log) h) from by unfold Mg.enc; rw [hr]; rfl]
   have z:=wByte_len ([],0) 3
   simp only [List.length_nil] at z
   refine fn Tryz.func125 ?_
   conv=>whnf
   refine clQ (right_ok hH hS (⟨3,log,id,mm,n,h,b,path,marks⟩:Mg) q1 q2 q3) [0,1,2] ?_
   rw [hr]
   conv=>whnf
   refine CallE.ph 5 ?_
   refine cl (lwbyte_ok ([],0) 3 (by simp)) [4,5] ?_
   conv=>whnf
   refine ⟨⟨by simp only; decide,by simp only; decide⟩,?_⟩
   conv=>whnf
   refine ob_of _ hH' ?_
   conv=>whnf
   refine lu 6 ?_
   conv=>whnf
   have p0:=hp 0 (by decide)
   have z0:(wByte (wByte ([],0) 3) log).1.length≤(wByte ([],0) 3).1.length+2000:=put1_len (⟨3,log,id,mm,n,h,b,path,marks⟩:Mg) (wByte ([],0) 3) 0 (by decide) p0
   refine cl (lwbyte_ok (wByte ([],0) 3) log (by omega)) [4,6] ?_
   conv=>whnf
   have p4:=hp 4 (by decide)
   have z4:(Hd.put (wByte (wByte ([],0) 3) log) h).1.length≤(wByte (wByte ([],0) 3) log).1.length+2000:=put1_len (⟨3,log,id,mm,n,h,b,path,marks⟩:Mg) (wByte (wByte ([],0) 3) log) 4 (by decide) p4
   have i4:=Hd.right_inv (h:=h) p4
   refine cl (hput_ok h (wByte (wByte ([],0) 3) log) (by omega) (by omega) (by omega) (by omega) (by omega)) [4,8] ?_
   conv=>whnf
   refine clQ (lwtext_ok (Hd.put (wByte (wByte ([],0) 3) log) h)) [4,9] ?_
   conv=>whnf
   exact cv [0,1,2]
  ·have hp:∀ c∈hasL (4:Int).toNat,Mg.part (⟨4,log,id,mm,n,h,b,path,marks⟩:Mg) c=true:=List.all_eq_true.1 hr'
   rw [show Mg.enc (⟨4,log,id,mm,n,h,b,path,marks⟩:Mg)=wText (Bd.put (wByte (wByte ([],0) 4) log) b) from by unfold Mg.enc; rw [hr]; rfl]
   have z:=wByte_len ([],0) 4
   simp only [List.length_nil] at z
   refine fn Tryz.func125 ?_
   conv=>whnf
   refine clQ (right_ok hH hS (⟨4,log,id,mm,n,h,b,path,marks⟩:Mg) q1 q2 q3) [0,1,2] ?_
   rw [hr]
   conv=>whnf
   refine CallE.ph 5 ?_
   refine cl (lwbyte_ok ([],0) 4 (by simp)) [4,5] ?_
   conv=>whnf
   refine ⟨⟨by simp only; decide,by simp only; decide⟩,?_⟩
   conv=>whnf
   refine ob_of _ hH' ?_
   conv=>whnf
   refine lu 6 ?_
   conv=>whnf
   have p0:=hp 0 (by decide)
   have z0:(wByte (wByte ([],0) 4) log).1.length≤(wByte ([],0) 4).1.length+2000:=put1_len (⟨4,log,id,mm,n,h,b,path,marks⟩:Mg) (wByte ([],0) 4) 0 (by decide) p0
   refine cl (lwbyte_ok (wByte ([],0) 4) log (by omega)) [4,6] ?_
   conv=>whnf
   have p5:=hp 5 (by decide)
   have z5:(Bd.put (wByte (wByte ([],0) 4) log) b).1.length≤(wByte (wByte ([],0) 4) log).1.length+2000:=put1_len (⟨4,log,id,mm,n,h,b,path,marks⟩:Mg) (wByte (wByte ([],0) 4) log) 5 (by decide) p5
   have i5:=Bd.odd_inv (b:=b) p5
   refine cl (bput_ok b (wByte (wByte ([],0) 4) log) i5 (by omega)) [4,8,0] ?_
   conv=>whnf
   refine clQ (lwtext_ok (Bd.put (wByte (wByte ([],0) 4) log) b)) [4,9] ?_
   conv=>whnf
   exact cv [0,1,2]
  ·have hp:∀ c∈hasL (5:Int).toNat,Mg.part (⟨5,log,id,mm,n,h,b,path,marks⟩:Mg) c=true:=List.all_eq_true.1 hr'
   rw [show Mg.enc (⟨5,log,id,mm,n,h,b,path,marks⟩:Mg)=wText (wNum (wByte (wByte ([],0) 5) log) id) from by unfold Mg.enc; rw [hr]; rfl]
   have z:=wByte_len ([],0) 5
   simp only [List.length_nil] at z
   refine fn Tryz.func125 ?_
   conv=>whnf
   refine clQ (right_ok hH hS (⟨5,log,id,mm,n,h,b,path,marks⟩:Mg) q1 q2 q3) [0,1,2] ?_
   rw [hr]
   conv=>whnf
   refine CallE.ph 5 ?_
   refine cl (lwbyte_ok ([],0) 5 (by simp)) [4,5] ?_
   conv=>whnf
   refine ⟨⟨by simp only; decide,by simp only; decide⟩,?_⟩
   conv=>whnf
   refine ob_of _ hH' ?_
   conv=>whnf
   refine lu 6 ?_
   conv=>whnf
   have p0:=hp 0 (by decide)
   have z0:(wByte (wByte ([],0) 5) log).1.length≤(wByte ([],0) 5).1.length+2000:=put1_len (⟨5,log,id,mm,n,h,b,path,marks⟩:Mg) (wByte ([],0) 5) 0 (by decide) p0
   refine cl (lwbyte_ok (wByte ([],0) 5) log (by omega)) [4,6] ?_
   conv=>whnf
   have p1:=hp 1 (by decide)
   have z1:(wNum (wByte (wByte ([],0) 5) log) id).1.length≤(wByte (wByte ([],0) 5) log).1.length+2000:=put1_len (⟨5,log,id,mm,n,h,b,path,marks⟩:Mg) (wByte (wByte ([],0) 5) log) 1 (by decide) p1
   refine cl (lwnum_ok (wByte (wByte ([],0) 5) log) id f1 (by omega)) [4,8] ?_
   conv=>whnf
   refine clQ (lwtext_ok (wNum (wByte (wByte ([],0) 5) log) id)) [4,9] ?_
   conv=>whnf
   exact cv [0,1,2]
  ·have hp:∀ c∈hasL (6:Int).toNat,Mg.part (⟨6,log,id,mm,n,h,b,path,marks⟩:Mg) c=true:=List.all_eq_true.1 hr'
   rw [show Mg.enc (⟨6,log,id,mm,n,h,b,path,marks⟩:Mg)=wText (wNum (wNum (wNum (wByte (wByte ([],0) 6) log) id) mm) n) from by unfold Mg.enc; rw [hr]; rfl]
   have z:=wByte_len ([],0) 6
   simp only [List.length_nil] at z
   refine fn Tryz.func125 ?_
   conv=>whnf
   refine clQ (right_ok hH hS (⟨6,log,id,mm,n,h,b,path,marks⟩:Mg) q1 q2 q3) [0,1,2] ?_
   rw [hr]
   conv=>whnf
   refine CallE.ph 5 ?_
   refine cl (lwbyte_ok ([],0) 6 (by simp)) [4,5] ?_
   conv=>whnf
   refine ⟨⟨by simp only; decide,by simp only; decide⟩,?_⟩
   conv=>whnf
   refine ob_of _ hH' ?_
   conv=>whnf
   refine lu 6 ?_
   conv=>whnf
   have p0:=hp 0 (by decide)
   have z0:(wByte (wByte ([],0) 6) log).1.length≤(wByte ([],0) 6).1.length+2000:=put1_len (⟨6,log,id,mm,n,h,b,path,marks⟩:Mg) (wByte ([],0) 6) 0 (by decide) p0
   refine cl (lwbyte_ok (wByte ([],0) 6) log (by omega)) [4,6] ?_
   conv=>whnf
   have p1:=hp 1 (by decide)
   have z1:(wNum (wByte (wByte ([],0) 6) log) id).1.length≤(wByte (wByte ([],0) 6) log).1.length+2000:=put1_len (⟨6,log,id,mm,n,h,b,path,marks⟩:Mg) (wByte (wByte ([],0) 6) log) 1 (by decide) p1
   refine cl (lwnum_ok (wByte (wByte ([],0) 6) log) id f1 (by omega)) [4,8] ?_
   conv=>whnf
   have p2:=hp 2 (by decide)
   have z2:(wNum (wNum (wByte (wByte ([],0) 6) log) id) mm).1.length≤(wNum (wByte (wByte ([],0) 6) log) id).1.length+2000:=put1_len (⟨6,log,id,mm,n,h,b,path,marks⟩:Mg) (wNum (wByte (wByte ([],0) 6) log) id) 2 (by decide) p2
   refine cl (lwnum_ok (wNum (wByte (wByte ([],0) 6) log) id) mm f2 (by omega)) [4,9] ?_
   conv=>whnf
   have p3:=hp 3 (by decide)
   have z3:(wNum (wNum (wNum (wByte (wByte ([],0) 6) log) id) mm) n).1.length≤(wNum (wNum (wByte (wByte ([],0) 6) log) id) mm).1.length+2000:=put1_len (⟨6,log,id,mm,n,h,b,path,marks⟩:Mg) (wNum (wNum (wByte (wByte ([],0) 6) log) id) mm) 3 (by decide) p3
   refine cl (lwnum_ok (wNum (wNum (wByte (wByte ([],0) 6) log) id) mm) n f3 (by omega)) [4,10] ?_
   conv=>whnf
   refine clQ (lwtext_ok (wNum (wNum (wNum (wByte (wByte ([],0) 6) log) id) mm) n)) [4,11] ?_
   conv=>whnf
   exact cv [0,1,2]
  ·have hp:∀ c∈hasL (7:Int).toNat,Mg.part (⟨7,log,id,mm,n,h,b,path,marks⟩:Mg) c=true:=List.all_eq_true.1 hr'
   rw [show Mg.enc (⟨7,log,id,mm,n,h,b,path,marks⟩:Mg)=wText (Hd.put (wNum (wByte (wByte ([],0) 7) log) id) h) from by unfold Mg.enc; rw [hr]; rfl]
   have z:=wByte_len ([],0) 7
   simp only [List.length_nil] at z
   refine fn Tryz.func125 ?_
   conv=>whnf
   refine clQ (right_ok hH hS (⟨7,log,id,mm,n,h,b,path,marks⟩:Mg) q1 q2 q3) [0,1,2] ?_
   rw [hr]
   conv=>whnf
   refine CallE.ph 5 ?_
   refine cl (lwbyte_ok ([],0) 7 (by simp)) [4,5] ?_
   conv=>whnf
   refine ⟨⟨by simp only; decide,by simp only; decide⟩,?_⟩
   conv=>whnf
   refine ob_of _ hH' ?_
   conv=>whnf
   refine lu 6 ?_
   conv=>whnf
   have p0:=hp 0 (by decide)
   have z0:(wByte (wByte ([],0) 7) log).1.length≤(wByte ([],0) 7).1.length+2000:=put1_len (⟨7,log,id,mm,n,h,b,path,marks⟩:Mg) (wByte ([],0) 7) 0 (by decide) p0
   refine cl (lwbyte_ok (wByte ([],0) 7) log (by omega)) [4,6] ?_
   conv=>whnf
   have p1:=hp 1 (by decide)
   have z1:(wNum (wByte (wByte ([],0) 7) log) id).1.length≤(wByte (wByte ([],0) 7) log).1.length+2000:=put1_len (⟨7,log,id,mm,n,h,b,path,marks⟩:Mg) (wByte (wByte ([],0) 7) log) 1 (by decide) p1
   refine cl (lwnum_ok (wByte (wByte ([],0) 7) log) id f1 (by omega)) [4,8] ?_
   conv=>whnf
   have p4:=hp 4 (by decide)
   have z4:(Hd.put (wNum (wByte (wByte ([],0) 7) log) id) h).1.length≤(wNum (wByte (wByte ([],0) 7) log) id).1.length+2000:=put1_len (⟨7,log,id,mm,n,h,b,path,marks⟩:Mg) (wNum (wByte (wByte ([],0) 7) log) id) 4 (by decide) p4
   have i4:=Hd.right_inv (h:=h) p4
   refine cl (hput_ok h (wNum (wByte (wByte ([],0) 7) log) id) (by omega) (by omega) (by omega) (by omega) (by omega)) [4,9] ?_
   conv=>whnf
   refine clQ (lwtext_ok (Hd.put (wNum (wByte (wByte ([],0) 7) log) id) h)) [4,10] ?_
   conv=>whnf
   exact cv [0,1,2]
  ·have hp:∀ c∈hasL (8:Int).toNat,Mg.part (⟨8,log,id,mm,n,h,b,path,marks⟩:Mg) c=true:=List.all_eq_true.1 hr'
   rw [show Mg.enc (⟨8,log,id,mm,n,h,b,path,marks⟩:Mg)=wText (wList (wNum (wNum (wNum (wByte (wByte ([],0) 8) log) id) mm) n) path) from by unfold Mg.enc; rw [hr]; rfl]
   have z:=wByte_len ([],0) 8
   simp only [List.length_nil] at z
   refine fn Tryz.func125 ?_
   conv=>whnf
   refine clQ (right_ok hH hS (⟨8,log,id,mm,n,h,b,path,marks⟩:Mg) q1 q2 q3) [0,1,2] ?_
   rw [hr]
   conv=>whnf
   refine CallE.ph 5 ?_
   refine cl (lwbyte_ok ([],0) 8 (by simp)) [4,5] ?_
   conv=>whnf
   refine ⟨⟨by simp only; decide,by simp only; decide⟩,?_⟩
   conv=>whnf
   refine ob_of _ hH' ?_
   conv=>whnf
   refine lu 6 ?_
   conv=>whnf
   have p0:=hp 0 (by decide)
   have z0:(wByte (wByte ([],0) 8) log).1.length≤(wByte ([],0) 8).1.length+2000:=put1_len (⟨8,log,id,mm,n,h,b,path,marks⟩:Mg) (wByte ([],0) 8) 0 (by decide) p0
   refine cl (lwbyte_ok (wByte ([],0) 8) log (by omega)) [4,6] ?_
   conv=>whnf
   have p1:=hp 1 (by decide)
   have z1:(wNum (wByte (wByte ([],0) 8) log) id).1.length≤(wByte (wByte ([],0) 8) log).1.length+2000:=put1_len (⟨8,log,id,mm,n,h,b,path,marks⟩:Mg) (wByte (wByte ([],0) 8) log) 1 (by decide) p1
   refine cl (lwnum_ok (wByte (wByte ([],0) 8) log) id f1 (by omega)) [4,8] ?_
   conv=>whnf
   have p2:=hp 2 (by decide)
   have z2:(wNum (wNum (wByte (wByte ([],0) 8) log) id) mm).1.length≤(wNum (wByte (wByte ([],0) 8) log) id).1.length+2000:=put1_len (⟨8,log,id,mm,n,h,b,path,marks⟩:Mg) (wNum (wByte (wByte ([],0) 8) log) id) 2 (by decide) p2
   refine cl (lwnum_ok (wNum (wByte (wByte ([],0) 8) log) id) mm f2 (by omega)) [4,9] ?_
   conv=>whnf
   have p3:=hp 3 (by decide)
   have z3:(wNum (wNum (wNum (wByte (wByte ([],0) 8) log) id) mm) n).1.length≤(wNum (wNum (wByte (wByte ([],0) 8) log) id) mm).1.length+2000:=put1_len (⟨8,log,id,mm,n,h,b,path,marks⟩:Mg) (wNum (wNum (wByte (wByte ([],0) 8) log) id) mm) 3 (by decide) p3
   refine cl (lwnum_ok (wNum (wNum (wByte (wByte ([],0) 8) log) id) mm) n f3 (by omega)) [4,10] ?_
   conv=>whnf
   have p6:=hp 6 (by decide)
   have z6:(wList (wNum (wNum (wNum (wByte (wByte ([],0) 8) log) id) mm) n) path).1.length≤(wNum (wNum (wNum (wByte (wByte ([],0) 8) log) id) mm) n).1.length+2000:=put1_len (⟨8,log,id,mm,n,h,b,path,marks⟩:Mg) (wNum (wNum (wNum (wByte (wByte ([],0) 8) log) id) mm) n) 6 (by decide) p6
   have i6:=part6 p6
   refine cl (list_ok path (wNum (wNum (wNum (wByte (wByte ([],0) 8) log) id) mm) n) i6.1 i6.2 (by omega)) [4,11,1] ?_
   conv=>whnf
   refine clQ (lwtext_ok (wList (wNum (wNum (wNum (wByte (wByte ([],0) 8) log) id) mm) n) path)) [4,12] ?_
   conv=>whnf
   exact cv [0,1,2]
  ·have hp:∀ c∈hasL (9:Int).toNat,Mg.part (⟨9,log,id,mm,n,h,b,path,marks⟩:Mg) c=true:=List.all_eq_true.1 hr'
   rw [show Mg.enc (⟨9,log,id,mm,n,h,b,path,marks⟩:Mg)=wText (wByte (wByte ([],0) 9) log) from by unfold Mg.enc; rw [hr]; rfl]
   have z:=wByte_len ([],0) 9
   simp only [List.length_nil] at z
   refine fn Tryz.func125 ?_
   conv=>whnf
   refine clQ (right_ok hH hS (⟨9,log,id,mm,n,h,b,path,marks⟩:Mg) q1 q2 q3) [0,1,2] ?_
   rw [hr]
   conv=>whnf
   refine CallE.ph 5 ?_
   refine cl (lwbyte_ok ([],0) 9 (by simp)) [4,5] ?_
   conv=>whnf
   refine ⟨⟨by simp only; decide,by simp only; decide⟩,?_⟩
   conv=>whnf
   refine ob_of _ hH' ?_
   conv=>whnf
   refine lu 6 ?_
   conv=>whnf
   have p0:=hp 0 (by decide)
   have z0:(wByte (wByte ([],0) 9) log).1.length≤(wByte ([],0) 9).1.length+2000:=put1_len (⟨9,log,id,mm,n,h,b,path,marks⟩:Mg) (wByte ([],0) 9) 0 (by decide) p0
   refine cl (lwbyte_ok (wByte ([],0) 9) log (by omega)) [4,6] ?_
   conv=>whnf
   refine clQ (lwtext_ok (wByte (wByte ([],0) 9) log)) [4,8] ?_
   conv=>whnf
   exact cv [0,1,2]
  ·have hp:∀ c∈hasL (10:Int).toNat,Mg.part (⟨10,log,id,mm,n,h,b,path,marks⟩:Mg) c=true:=List.all_eq_true.1 hr'
   rw [show Mg.enc (⟨10,log,id,mm,n,h,b,path,marks⟩:Mg)=wText (wNum (wByte (wByte ([],0) 10) log) n) from by unfold Mg.enc; rw [hr]; rfl]
   have z:=wByte_len ([],0) 10
   simp only [List.length_nil] at z
   refine fn Tryz.func125 ?_
   conv=>whnf
   refine clQ (right_ok hH hS (⟨10,log,id,mm,n,h,b,path,marks⟩:Mg) q1 q2 q3) [0,1,2] ?_
   rw [hr]
   conv=>whnf
   refine CallE.ph 5 ?_
   refine cl (lwbyte_ok ([],0) 10 (by simp)) [4,5] ?_
   conv=>whnf
   refine ⟨⟨by simp only; decide,by simp only; decide⟩,?_⟩
   conv=>whnf
   refine ob_of _ hH' ?_
   conv=>whnf
   refine lu 6 ?_
   conv=>whnf
   have p0:=hp 0 (by decide)
   have z0:(wByte (wByte ([],0) 10) log).1.length≤(wByte ([],0) 10).1.length+2000:=put1_len (⟨10,log,id,mm,n,h,b,path,marks⟩:Mg) (wByte ([],0) 10) 0 (by decide) p0
   refine cl (lwbyte_ok (wByte ([],0) 10) log (by omega)) [4,6] ?_
   conv=>whnf
   have p3:=hp 3 (by decide)
   have z3:(wNum (wByte (wByte ([],0) 10) log) n).1.length≤(wByte (wByte ([],0) 10) log).1.length+2000:=put1_len (⟨10,log,id,mm,n,h,b,path,marks⟩:Mg) (wByte (wByte ([],0) 10) log) 3 (by decide) p3
   refine cl (lwnum_ok (wByte (wByte ([],0) 10) log) n f3 (by omega)) [4,8] ?_
   conv=>whnf
   refine clQ (lwtext_ok (wNum (wByte (wByte ([],0) 10) log) n)) [4,9] ?_
   conv=>whnf
   exact cv [0,1,2]
theorem glist_ok (r:Rr):Tri Tryz.prog G 87 [.p 0 0 0] [rdE r] (.s 1 0 (rList r).1.length false) [rdE (rList r).2,sRs (rList r).1]:=by
 refine fn Tryz.func87 ?_
 conv=>whnf
 refine cl (lnum_ok r) [0] ?_
 conv=>whnf
 have hlt:=rNm_lt r
 obtain ⟨N,hN⟩:∃ N,rNm r=N:=⟨_,rfl⟩
 obtain ⟨K,r2⟩:=N
 rw [hN] at hlt
 have hget:rList r=if K>48 then ([],rFl 4 r2) else rRaws K r2:=by
  unfold rList
  simp only [hN]
 rw [hget]
 clear hget
 rw [hN]
 clear hN
 refine br_of (fun h => ?_) (fun h => ?_) <;> conv=>whnf
 ·rw [if_pos (by have:=of_decide_eq_true h; omega)]
  refine cl (lfail_ok 4 r2) [0] ?_
  conv=>whnf
  exact cv [0,9]
 ·have h48:K≤48:=by have:=of_decide_eq_false h; omega
  rw [if_neg (by omega)]
  obtain ⟨Q,hQ⟩:∃ Q,rRaws K r2=Q:=⟨_,rfl⟩
  rw [hQ]
  have hQl:Q.1.length=K:=by rw [← hQ,rRaws_len]
  refine lp1 (X:=Nat×Rr×List Bs) (fun (i,rd,acc)=>([(0,.p 0 0 0),(4,.s 1 0 acc.length false),(11,u64 K),(12,u64 i)],[rdE rd,sRs acc])) (fun (i,rd,acc)=>(i≤K∧acc.length=i)∧acc++(rRaws (K-i) rd).1=Q.1∧(rRaws (K-i) rd).2=Q.2) (fun (i,_,_)=>K-i) (0,r2,[]) ⟨⟨by omega,rfl⟩,by rw [← hQ]; rfl,by rw [← hQ]; rfl⟩ (cv [0,9]) ?_
  rintro ⟨i,rd,acc⟩ ⟨⟨hi,hal⟩,hx1,hx2⟩
  conv=>whnf
  refine br_of (fun h1 => ?_) (fun h1 => ?_) <;> conv=>whnf
  ·have h1:i<K:=by have:=of_decide_eq_true h1; omega
   rw [show K-i=(K-(i+1))+1 by omega] at hx1 hx2
   have hx1:acc++((rTk 32 rd).1::(rRaws (K-(i+1)) (rTk 32 rd).2).1)=Q.1:=hx1
   have hx2:(rRaws (K-(i+1)) (rTk 32 rd).2).2=Q.2:=hx2
   refine cl (ltake_ok 32 rd) [0] ?_
   conv=>whnf
   refine ⟨⟨rfl,rfl⟩,?_⟩
   conv=>whnf
   refine ⟨by simp,?_⟩
   conv=>whnf
   refine ⟨⟨by omega,by simp⟩,?_⟩
   conv=>whnf
   rw [wU64 (n:=(i:Int)+1) (by omega) (by omega)]
   exact ⟨(i+1,(rTk 32 rd).2,acc++[(rTk 32 rd).1]),⟨⟨⟨by omega,by simp; omega⟩,by simpa using hx1,hx2⟩,Nat.sub_lt_sub_left h1 (Nat.lt_succ_self i)⟩,cv [0,3] (h4:=⟨.inl rfl,.inl (by simp [lk,ren]),.inl rfl,.inl rfl,trivial⟩) (h5:=⟨⟨_,rfl,⟨.inl rfl,.inl rfl,trivial⟩⟩,.inl (by simp),trivial⟩)⟩
  ·have h1:i=K:=by have:=of_decide_eq_false h1; omega
   subst h1
   rw [Nat.sub_self] at hx1 hx2
   have hx1:acc++[]=Q.1:=hx1
   have hx2:rd=Q.2:=hx2
   rw [List.append_nil] at hx1
   rw [← hx1,← hx2]
   exact cv [0,1]
theorem rBy_rng (r:Rr):0≤(rBy r).1∧(rBy r).1<256:=by
 unfold rBy
 split
 ·simp
 ·rename_i c _ _ _
  have:=c.toNat_lt
  simp only
  omega
theorem rMarksF_len:∀ (n:Nat) (r:Rr),(rMarksF n r).1.length=n:=by
 intro n
 induction n with
 | zero=>intro r; rfl
 | succ n ih=>intro r; simp [rMarksF,ih]
theorem rMark_eq (rd:Rr):rMark rd=(⟨(rBy rd).1,(rNm (if (rBy (rBy rd).2).1>1 then rFl 3 (rBy (rBy rd).2).2 else (rBy (rBy rd).2).2)).1,if (rNm (if (rBy (rBy rd).2).1>1 then rFl 3 (rBy (rBy rd).2).2 else (rBy (rBy rd).2).2)).1>0 then (rTk 32 (rNm (if (rBy (rBy rd).2).1>1 then rFl 3 (rBy (rBy rd).2).2 else (rBy (rBy rd).2).2)).2).1 else [],(rBy (rBy rd).2).1==1⟩,if (rNm (if (rBy (rBy rd).2).1>1 then rFl 3 (rBy (rBy rd).2).2 else (rBy (rBy rd).2).2)).1>0 then (rTk 32 (rNm (if (rBy (rBy rd).2).1>1 then rFl 3 (rBy (rBy rd).2).2 else (rBy (rBy rd).2).2)).2).2 else (rNm (if (rBy (rBy rd).2).1>1 then rFl 3 (rBy (rBy rd).2).2 else (rBy (rBy rd).2).2)).2):=by
 unfold rMark
 simp only
 split <;> split <;> rfl
theorem gmarks_ok (r:Rr):Tri Tryz.prog G 88 [.p 0 0 0] [rdE r] (.s 1 0 (rMarks r).1.length false) [rdE (rMarks r).2,mkRs (rMarks r).1]:=by
 refine fn Tryz.func88 ?_
 conv=>whnf
 refine cl (lbyte_ok r) [0] ?_
 conv=>whnf
 have hlt:=rBy_rng r
 obtain ⟨N,hN⟩:∃ N,rBy r=N:=⟨_,rfl⟩
 obtain ⟨k0,r2⟩:=N
 rw [hN] at hlt
 have hget:rMarks r=if k0>8 then ([],rFl 4 r2) else rMarksF k0.toNat r2:=by
  unfold rMarks
  simp only [hN]
 rw [hget]
 clear hget
 rw [hN]
 clear hN
 obtain ⟨K,rfl⟩:∃ K:Nat,k0=(K:Int):=⟨k0.toNat,by simp only at hlt; omega⟩
 refine br_of (fun h => ?_) (fun h => ?_) <;> conv=>whnf
 ·rw [if_pos (by have:=of_decide_eq_true h; omega)]
  refine cl (lfail_ok 4 r2) [0] ?_
  conv=>whnf
  exact cv [0,9]
 ·have h48:K≤8:=by have:=of_decide_eq_false h; omega
  rw [if_neg (by omega),Int.toNat_natCast]
  obtain ⟨Q,hQ⟩:∃ Q,rMarksF K r2=Q:=⟨_,rfl⟩
  rw [hQ]
  have hQl:Q.1.length=K:=by rw [← hQ,rMarksF_len]
  refine lp1 (X:=Nat×Rr×List Mk) (fun (i,rd,acc)=>([(0,.p 0 0 0),(4,.s 1 0 acc.length false),(13,i64 K),(14,i64 (i:Nat))],[rdE rd,mkRs acc])) (fun (i,rd,acc)=>(i≤K∧acc.length=i)∧acc++(rMarksF (K-i) rd).1=Q.1∧(rMarksF (K-i) rd).2=Q.2) (fun (i,_,_)=>K-i) (0,r2,[]) ⟨⟨by omega,rfl⟩,by rw [← hQ]; rfl,by rw [← hQ]; rfl⟩ (cv [0,9]) ?_
  rintro ⟨i,rd,acc⟩ ⟨⟨hi,hal⟩,hx1,hx2⟩
  conv=>whnf
  refine br_of (fun h1 => ?_) (fun h1 => ?_) <;> conv=>whnf
  ·have h1:i<K:=by have:=of_decide_eq_true h1; omega
   rw [show K-i=(K-(i+1))+1 by omega] at hx1 hx2
   have hx1:acc++((rMark rd).1::(rMarksF (K-(i+1)) (rMark rd).2).1)=Q.1:=hx1
   have hx2:(rMarksF (K-(i+1)) (rMark rd).2).2=Q.2:=hx2
   rw [rMark_eq] at hx1 hx2
   refine cl (lbyte_ok rd) [0] ?_
   conv=>whnf
   refine cl (lbyte_ok (rBy rd).2) [0] ?_
   conv=>whnf
   generalize rBy (rBy rd).2=B at hx1 hx2
   obtain ⟨bb,rb⟩:=B
   generalize (rBy rd).1=lg at hx1 hx2
   simp only at hx1 hx2
   refine br_of (fun h2 => ?_) (fun h2 => ?_) <;> conv=>whnf
   ·rw [if_pos (show bb>1 from of_decide_eq_true h2)] at hx1 hx2
    refine cl (lfail_ok 3 rb) [0] ?_
    conv=>whnf
    refine cl (lnum_ok (rFl 3 rb)) [0] ?_
    conv=>whnf
    generalize rNm (rFl 3 rb)=N at hx1 hx2
    obtain ⟨sz,rn⟩:=N
    simp only at hx1 hx2
    refine br_of (fun h3 => ?_) (fun h3 => ?_) <;> conv=>whnf
    ·simp only [if_pos (show sz>0 from by have:=of_decide_eq_true h3; omega)] at hx1 hx2
     refine cl (ltake_ok 32 rn) [0] ?_
     conv=>whnf
     refine ⟨⟨rfl,rfl⟩,?_⟩
     conv=>whnf
     refine ⟨by simp,?_⟩
     conv=>whnf
     refine ⟨⟨by omega,by simp⟩,?_⟩
     conv=>whnf
     rw [wI64 (n:=(i:Int)+1) (by omega) (by omega)]
     exact ⟨(i+1,(rTk 32 rn).2,acc++[⟨lg,sz,(rTk 32 rn).1,bb==1⟩]),⟨⟨⟨by omega,by simp; omega⟩,by simpa using hx1,hx2⟩,Nat.sub_lt_sub_left h1 (Nat.lt_succ_self i)⟩,cv [0,4] (h4:=⟨.inl rfl,.inl (by simp [lk,ren]),.inl rfl,.inl rfl,trivial⟩) (h5:=⟨⟨_,rfl,⟨.inl rfl,.inl rfl,trivial⟩⟩,.inl (by simp),trivial⟩)⟩
    ·simp only [if_neg (show ¬ sz>0 from by have:=of_decide_eq_false h3; omega)] at hx1 hx2
     refine ⟨⟨rfl,rfl⟩,?_⟩
     conv=>whnf
     refine ⟨by simp,?_⟩
     conv=>whnf
     refine ⟨⟨by omega,by simp⟩,?_⟩
     conv=>whnf
     rw [wI64 (n:=(i:Int)+1) (by omega) (by omega)]
     exact ⟨(i+1,rn,acc++[⟨lg,sz,[],bb==1⟩]),⟨⟨⟨by omega,by simp; omega⟩,by simpa using hx1,hx2⟩,Nat.sub_lt_sub_left h1 (Nat.lt_succ_self i)⟩,cv [0,4] (h4:=⟨.inl rfl,.inl (by simp [lk,ren]),.inl rfl,.inl rfl,trivial⟩) (h5:=⟨⟨_,rfl,⟨.inl rfl,.inl rfl,trivial⟩⟩,.inl (by simp),trivial⟩)⟩
   ·rw [if_neg (show ¬ bb>1 from of_decide_eq_false h2)] at hx1 hx2
    refine cl (lnum_ok rb) [0] ?_
    conv=>whnf
    generalize rNm rb=N at hx1 hx2
    obtain ⟨sz,rn⟩:=N
    simp only at hx1 hx2
    refine br_of (fun h3 => ?_) (fun h3 => ?_) <;> conv=>whnf
    ·simp only [if_pos (show sz>0 from by have:=of_decide_eq_true h3; omega)] at hx1 hx2
     refine cl (ltake_ok 32 rn) [0] ?_
     conv=>whnf
     refine ⟨⟨rfl,rfl⟩,?_⟩
     conv=>whnf
     refine ⟨by simp,?_⟩
     conv=>whnf
     refine ⟨⟨by omega,by simp⟩,?_⟩
     conv=>whnf
     rw [wI64 (n:=(i:Int)+1) (by omega) (by omega)]
     exact ⟨(i+1,(rTk 32 rn).2,acc++[⟨lg,sz,(rTk 32 rn).1,bb==1⟩]),⟨⟨⟨by omega,by simp; omega⟩,by simpa using hx1,hx2⟩,Nat.sub_lt_sub_left h1 (Nat.lt_succ_self i)⟩,cv [0,4] (h4:=⟨.inl rfl,.inl (by simp [lk,ren]),.inl rfl,.inl rfl,trivial⟩) (h5:=⟨⟨_,rfl,⟨.inl rfl,.inl rfl,trivial⟩⟩,.inl (by simp),trivial⟩)⟩
    ·simp only [if_neg (show ¬ sz>0 from by have:=of_decide_eq_false h3; omega)] at hx1 hx2
     refine ⟨⟨rfl,rfl⟩,?_⟩
     conv=>whnf
     refine ⟨by simp,?_⟩
     conv=>whnf
     refine ⟨⟨by omega,by simp⟩,?_⟩
     conv=>whnf
     rw [wI64 (n:=(i:Int)+1) (by omega) (by omega)]
     exact ⟨(i+1,rn,acc++[⟨lg,sz,[],bb==1⟩]),⟨⟨⟨by omega,by simp; omega⟩,by simpa using hx1,hx2⟩,Nat.sub_lt_sub_left h1 (Nat.lt_succ_self i)⟩,cv [0,4] (h4:=⟨.inl rfl,.inl (by simp [lk,ren]),.inl rfl,.inl rfl,trivial⟩) (h5:=⟨⟨_,rfl,⟨.inl rfl,.inl rfl,trivial⟩⟩,.inl (by simp),trivial⟩)⟩
  ·have h1:i=K:=by have:=of_decide_eq_false h1; omega
   subst h1
   rw [Nat.sub_self] at hx1 hx2
   have hx1:acc++[]=Q.1:=hx1
   have hx2:rd=Q.2:=hx2
   rw [List.append_nil] at hx1
   rw [← hx1,← hx2]
   exact cv [0,1]
abbrev nl:E.EV := .v (.slice none 0 0)
abbrev mgN (m:Mg) (s0 s1 s2:E.EV):List E.EV:=[i64 m.kind,i64 m.log,u64 m.id,u64 m.m,u64 m.n,u64 m.h.size,u64 m.h.time,sv m.h.root,sv m.h.sig,u64 m.b.a.size,u64 m.b.a.time,sv m.b.a.root,sv m.b.a.sig,u64 m.b.b.size,u64 m.b.b.time,sv m.b.b.root,sv m.b.b.sig,s0,s1,s2]
theorem rList_len (r:Rr):(rList r).1.length≤48:=by
 unfold rList
 simp only
 split
 ·simp
 ·rw [rRaws_len]; omega
theorem rMarks_len (r:Rr):(rMarks r).1.length≤8:=by
 unfold rMarks
 simp only
 split
 ·simp
 ·rw [rMarksF_len]; omega
def Mg.fin (x:Mg×Rr):Mg×Int:=if (if rEn x.2=0 ∧ !x.1.right then 3 else rEn x.2)≠0 then (.nil,if rEn x.2=0 ∧ !x.1.right then 3 else rEn x.2) else (x.1,0)
theorem fin_a {m:Mg} {r:Rr} (h:rEn r≠0):Mg.fin (m,r)=(.nil,rEn r):=by
 unfold Mg.fin
 simp only [h,false_and,if_false,ne_eq,not_false_eq_true,if_true]
theorem fin_b {m:Mg} {r:Rr} (h:rEn r=0) (h2:m.right=false):Mg.fin (m,r)=(.nil,3):=by
 unfold Mg.fin
 simp only [h,h2]
 rfl
theorem fin_c {m:Mg} {r:Rr} (h:rEn r=0) (h2:m.right=true):Mg.fin (m,r)=(m,0):=by
 unfold Mg.fin
 simp only [h,h2]
 rfl
theorem dec_eq (s:Bs):Mg.dec s=if s=[] then (.nil,2) else if !ofL (rBy (s,0)).1 then (.nil,3) else Mg.fin ((hasL (rBy (s,0)).1.toNat).foldl Mg.get1 ({ kind:=(rBy (s,0)).1 },(rBy (s,0)).2)):=rfl
theorem get0 (m:Mg) (r:Rr):Tri Tryz.prog G 54 [.p 0 0 0,.p 1 0 0,.v (.int .i32 108)] [.r 63 (mgN m nl nl nl),rdE r] (.t []) [.r 63 (mgN { m with log:=(rBy r).1 } nl nl nl),rdE (rBy r).2]:=by
 refine fn Tryz.func54 ?_
 conv=>whnf
 refine cl (lbyte_ok r) [1] ?_
 conv=>whnf
 exact cv [0,1]
theorem get1 (m:Mg) (r:Rr):Tri Tryz.prog G 54 [.p 0 0 0,.p 1 0 0,.v (.int .i32 105)] [.r 63 (mgN m nl nl nl),rdE r] (.t []) [.r 63 (mgN { m with id:=(rNm r).1 } nl nl nl),rdE (rNm r).2]:=by
 refine fn Tryz.func54 ?_
 conv=>whnf
 refine cl (lnum_ok r) [1] ?_
 conv=>whnf
 exact cv [0,1]
theorem get2 (m:Mg) (r:Rr):Tri Tryz.prog G 54 [.p 0 0 0,.p 1 0 0,.v (.int .i32 109)] [.r 63 (mgN m nl nl nl),rdE r] (.t []) [.r 63 (mgN { m with m:=(rNm r).1 } nl nl nl),rdE (rNm r).2]:=by
 refine fn Tryz.func54 ?_
 conv=>whnf
 refine cl (lnum_ok r) [1] ?_
 conv=>whnf
 exact cv [0,1]
theorem get3 (m:Mg) (r:Rr):Tri Tryz.prog G 54 [.p 0 0 0,.p 1 0 0,.v (.int .i32 110)] [.r 63 (mgN m nl nl nl),rdE r] (.t []) [.r 63 (mgN { m with n:=(rNm r).1 } nl nl nl),rdE (rNm r).2]:=by
 refine fn Tryz.func54 ?_
 conv=>whnf
 refine cl (lnum_ok r) [1] ?_
 conv=>whnf
 exact cv [0,1]
theorem get4 (m:Mg) (r:Rr):Tri Tryz.prog G 54 [.p 0 0 0,.p 1 0 0,.v (.int .i32 104)] [.r 63 (mgN m nl nl nl),rdE r] (.t []) [.r 63 (mgN { m with h:=(Hd.get r).1 } nl nl nl),rdE (Hd.get r).2]:=by
 refine fn Tryz.func54 ?_
 conv=>whnf
 refine cl (hget_ok r) [1] ?_
 conv=>whnf
 exact cv [0,1]
theorem get5 (m:Mg) (r:Rr):Tri Tryz.prog G 54 [.p 0 0 0,.p 1 0 0,.v (.int .i32 98)] [.r 63 (mgN m nl nl nl),rdE r] (.t []) [.r 63 (mgN { m with b:=(Bd.get r).1 } (.s 2 0 (Bd.get r).1.path.length false) nl nl),rdE (Bd.get r).2,sRs (Bd.get r).1.path]:=by
 refine fn Tryz.func54 ?_
 conv=>whnf
 refine cl (bget_ok r) [1] ?_
 conv=>whnf
 exact cv [0,1,2]
theorem get6 (m:Mg) (r:Rr):Tri Tryz.prog G 54 [.p 0 0 0,.p 1 0 0,.v (.int .i32 112)] [.r 63 (mgN m nl nl nl),rdE r] (.t []) [.r 63 (mgN { m with path:=(rList r).1 } nl (.s 2 0 (rList r).1.length false) nl),rdE (rList r).2,sRs (rList r).1]:=by
 refine fn Tryz.func54 ?_
 conv=>whnf
 refine cl (glist_ok r) [1] ?_
 conv=>whnf
 exact cv [0,1,2]
theorem get7 (m:Mg) (r:Rr):Tri Tryz.prog G 54 [.p 0 0 0,.p 1 0 0,.v (.int .i32 107)] [.r 63 (mgN m nl nl nl),rdE r] (.t []) [.r 63 (mgN { m with marks:=(rMarks r).1 } nl nl (.s 2 0 (rMarks r).1.length false)),rdE (rMarks r).2,mkRs (rMarks r).1]:=by
 refine fn Tryz.func54 ?_
 conv=>whnf
 refine cl (gmarks_ok r) [1] ?_
 conv=>whnf
 exact cv [0,1,2]
theorem mdec1 (hH:GHas G) (hS:GSha G) (s:Bs) (hs:s≠[]) (hb:(rBy (s,0)).1=1):Tri Tryz.prog G 19 [sv s] [] (.t [.a (mgE 0 1 2 (Mg.dec s).1),i64 (Mg.dec s).2]) (mgH (Mg.dec s).1):=by
  rw [dec_eq,if_neg hs,hb,if_neg (by decide)]
  refine fn Tryz.func19 ?_
  conv=>whnf
  refine cl (lread_ok s) [] ?_
  conv=>whnf
  refine cl (lbyte_ok (s,0)) [1] ?_
  conv=>whnf
  obtain ⟨t,hH'⟩:=hH
  have hH:GHas G:=⟨t,hH'⟩
  rw [hb]
  generalize (rBy (s,0)).2=r0
  refine br_f (by have e:=beq_eq_false_iff_ne.2 hs; rw [← eqL] at e; exact e) ?_
  conv=>whnf
  refine clQ (of_ok' 1) [] ?_
  conv=>whnf
  rw [show (hasL (1:Int).toNat).foldl Mg.get1 ({ kind:=1 },r0)=(({ kind:=1,marks:=(rMarks r0).1 }:Mg),(rMarks r0).2) from rfl]
  refine ⟨⟨by decide,by decide⟩,?_⟩
  conv=>whnf
  refine ob_of _ hH' ?_
  conv=>whnf
  refine lu 6 ?_
  conv=>whnf
  refine cl (get7 ({ kind:=1 }:Mg) r0) [2,1] ?_
  conv=>whnf
  refine cl (lend_ok (rMarks r0).2) [1] ?_
  conv=>whnf
  refine br_of (fun h => ?_) (fun h => ?_) <;> rw [h] <;> conv=>whnf
  ·have h:=eq_of_beq h
   refine CallE.ph 9 ?_
   refine CallE.ph 9 ?_
   refine clQ (right_ok hH hS ({ kind:=1,marks:=(rMarks r0).1 }:Mg) (by first | exact Nat.zero_le _ | exact Nat.le_trans (bget_len _) (by decide)) (by first | exact Nat.zero_le _ | exact Nat.le_trans (rList_len _) (by decide)) (by first | exact Nat.zero_le _ | exact Nat.le_trans (rMarks_len _) (by decide))) [5,6,4] (hargs:=⟨dCa (by repeat' (first | exact dN | refine dC (dE rfl) ?_ | refine dC dS ?_)),trivial⟩) ?_
   conv=>whnf
   cases hr:Mg.right ({ kind:=1,marks:=(rMarks r0).1 }:Mg) with
   | false =>
    rw [fin_b h hr]
    conv=>whnf
    exact cv [9,19,29] (h4:=⟨dCt (dC (dA (by repeat' (first | exact dN | refine dC (dE rfl) ?_ | refine dC dS ?_))) (dC (dE rfl) dN)),trivial⟩)
   | true =>
    rw [fin_c h hr]
    conv=>whnf
    refine br_f (by rw [h]; rfl) ?_
    conv=>whnf
    exact cv [9,19,4] (h4:=⟨dCt (dC (dA (by repeat' (first | exact dN | refine dC (dE rfl) ?_ | refine dC dS ?_))) (dC (dE rfl) dN)),trivial⟩)
  ·have h:rEn (rMarks r0).2≠0:=by simpa using h
   rw [fin_a h]
   refine br_t (by simpa using h) ?_
   conv=>whnf
   exact cv [9,19,29] (h4:=⟨dCt (dC (dA (by repeat' (first | exact dN | refine dC (dE rfl) ?_ | refine dC dS ?_))) (dC (dE rfl) dN)),trivial⟩)
theorem mdec2 (hH:GHas G) (hS:GSha G) (s:Bs) (hs:s≠[]) (hb:(rBy (s,0)).1=2):Tri Tryz.prog G 19 [sv s] [] (.t [.a (mgE 0 1 2 (Mg.dec s).1),i64 (Mg.dec s).2]) (mgH (Mg.dec s).1):=by
  rw [dec_eq,if_neg hs,hb,if_neg (by decide)]
  refine fn Tryz.func19 ?_
  conv=>whnf
  refine cl (lread_ok s) [] ?_
  conv=>whnf
  refine cl (lbyte_ok (s,0)) [1] ?_
  conv=>whnf
  obtain ⟨t,hH'⟩:=hH
  have hH:GHas G:=⟨t,hH'⟩
  rw [hb]
  generalize (rBy (s,0)).2=r0
  refine br_f (by have e:=beq_eq_false_iff_ne.2 hs; rw [← eqL] at e; exact e) ?_
  conv=>whnf
  refine clQ (of_ok' 2) [] ?_
  conv=>whnf
  rw [show (hasL (2:Int).toNat).foldl Mg.get1 ({ kind:=2 },r0)=(({ kind:=2,marks:=(rMarks r0).1 }:Mg),(rMarks r0).2) from rfl]
  refine ⟨⟨by decide,by decide⟩,?_⟩
  conv=>whnf
  refine ob_of _ hH' ?_
  conv=>whnf
  refine lu 6 ?_
  conv=>whnf
  refine cl (get7 ({ kind:=2 }:Mg) r0) [2,1] ?_
  conv=>whnf
  refine cl (lend_ok (rMarks r0).2) [1] ?_
  conv=>whnf
  refine br_of (fun h => ?_) (fun h => ?_) <;> rw [h] <;> conv=>whnf
  ·have h:=eq_of_beq h
   refine CallE.ph 9 ?_
   refine CallE.ph 9 ?_
   refine clQ (right_ok hH hS ({ kind:=2,marks:=(rMarks r0).1 }:Mg) (by first | exact Nat.zero_le _ | exact Nat.le_trans (bget_len _) (by decide)) (by first | exact Nat.zero_le _ | exact Nat.le_trans (rList_len _) (by decide)) (by first | exact Nat.zero_le _ | exact Nat.le_trans (rMarks_len _) (by decide))) [5,6,4] (hargs:=⟨dCa (by repeat' (first | exact dN | refine dC (dE rfl) ?_ | refine dC dS ?_)),trivial⟩) ?_
   conv=>whnf
   cases hr:Mg.right ({ kind:=2,marks:=(rMarks r0).1 }:Mg) with
   | false =>
    rw [fin_b h hr]
    conv=>whnf
    exact cv [9,19,29] (h4:=⟨dCt (dC (dA (by repeat' (first | exact dN | refine dC (dE rfl) ?_ | refine dC dS ?_))) (dC (dE rfl) dN)),trivial⟩)
   | true =>
    rw [fin_c h hr]
    conv=>whnf
    refine br_f (by rw [h]; rfl) ?_
    conv=>whnf
    exact cv [9,19,4] (h4:=⟨dCt (dC (dA (by repeat' (first | exact dN | refine dC (dE rfl) ?_ | refine dC dS ?_))) (dC (dE rfl) dN)),trivial⟩)
  ·have h:rEn (rMarks r0).2≠0:=by simpa using h
   rw [fin_a h]
   refine br_t (by simpa using h) ?_
   conv=>whnf
   exact cv [9,19,29] (h4:=⟨dCt (dC (dA (by repeat' (first | exact dN | refine dC (dE rfl) ?_ | refine dC dS ?_))) (dC (dE rfl) dN)),trivial⟩)
theorem mdec3 (hH:GHas G) (hS:GSha G) (s:Bs) (hs:s≠[]) (hb:(rBy (s,0)).1=3):Tri Tryz.prog G 19 [sv s] [] (.t [.a (mgE 0 1 2 (Mg.dec s).1),i64 (Mg.dec s).2]) (mgH (Mg.dec s).1):=by
  rw [dec_eq,if_neg hs,hb,if_neg (by decide)]
  refine fn Tryz.func19 ?_
  conv=>whnf
  refine cl (lread_ok s) [] ?_
  conv=>whnf
  refine cl (lbyte_ok (s,0)) [1] ?_
  conv=>whnf
  obtain ⟨t,hH'⟩:=hH
  have hH:GHas G:=⟨t,hH'⟩
  rw [hb]
  generalize (rBy (s,0)).2=r0
  refine br_f (by have e:=beq_eq_false_iff_ne.2 hs; rw [← eqL] at e; exact e) ?_
  conv=>whnf
  refine clQ (of_ok' 3) [] ?_
  conv=>whnf
  rw [show (hasL (3:Int).toNat).foldl Mg.get1 ({ kind:=3 },r0)=(({ kind:=3,log:=(rBy r0).1,h:=(Hd.get (rBy r0).2).1 }:Mg),(Hd.get (rBy r0).2).2) from rfl]
  refine ⟨⟨by decide,by decide⟩,?_⟩
  conv=>whnf
  refine ob_of _ hH' ?_
  conv=>whnf
  refine lu 6 ?_
  conv=>whnf
  refine cl (get0 ({ kind:=3 }:Mg) r0) [2,1] ?_
  conv=>whnf
  refine cl (get4 ({ kind:=3,log:=(rBy r0).1 }:Mg) (rBy r0).2) [2,1] ?_
  conv=>whnf
  refine cl (lend_ok (Hd.get (rBy r0).2).2) [1] ?_
  conv=>whnf
  refine br_of (fun h => ?_) (fun h => ?_) <;> rw [h] <;> conv=>whnf
  ·have h:=eq_of_beq h
   refine CallE.ph 9 ?_
   refine CallE.ph 9 ?_
   refine CallE.ph 219 ?_
   refine clQ (right_ok hH hS ({ kind:=3,log:=(rBy r0).1,h:=(Hd.get (rBy r0).2).1 }:Mg) (by first | exact Nat.zero_le _ | exact Nat.le_trans (bget_len _) (by decide)) (by first | exact Nat.zero_le _ | exact Nat.le_trans (rList_len _) (by decide)) (by first | exact Nat.zero_le _ | exact Nat.le_trans (rMarks_len _) (by decide))) [4,5,6] (hargs:=⟨dCa (by repeat' (first | exact dN | refine dC (dE rfl) ?_ | refine dC dS ?_)),trivial⟩) ?_
   conv=>whnf
   cases hr:Mg.right ({ kind:=3,log:=(rBy r0).1,h:=(Hd.get (rBy r0).2).1 }:Mg) with
   | false =>
    rw [fin_b h hr]
    conv=>whnf
    exact cv [9,19,29] (h4:=⟨dCt (dC (dA (by repeat' (first | exact dN | refine dC (dE rfl) ?_ | refine dC dS ?_))) (dC (dE rfl) dN)),trivial⟩)
   | true =>
    rw [fin_c h hr]
    conv=>whnf
    refine br_f (by rw [h]; rfl) ?_
    conv=>whnf
    exact cv [9,19,29] (h4:=⟨dCt (dC (dA (by repeat' (first | exact dN | refine dC (dE rfl) ?_ | refine dC dS ?_))) (dC (dE rfl) dN)),trivial⟩)
  ·have h:rEn (Hd.get (rBy r0).2).2≠0:=by simpa using h
   rw [fin_a h]
   refine br_t (by simpa using h) ?_
   conv=>whnf
   exact cv [9,19,29] (h4:=⟨dCt (dC (dA (by repeat' (first | exact dN | refine dC (dE rfl) ?_ | refine dC dS ?_))) (dC (dE rfl) dN)),trivial⟩)
theorem mdec4 (hH:GHas G) (hS:GSha G) (s:Bs) (hs:s≠[]) (hb:(rBy (s,0)).1=4):Tri Tryz.prog G 19 [sv s] [] (.t [.a (mgE 0 1 2 (Mg.dec s).1),i64 (Mg.dec s).2]) (mgH (Mg.dec s).1):=by
  rw [dec_eq,if_neg hs,hb,if_neg (by decide)]
  refine fn Tryz.func19 ?_
  conv=>whnf
  refine cl (lread_ok s) [] ?_
  conv=>whnf
  refine cl (lbyte_ok (s,0)) [1] ?_
  conv=>whnf
  obtain ⟨t,hH'⟩:=hH
  have hH:GHas G:=⟨t,hH'⟩
  rw [hb]
  generalize (rBy (s,0)).2=r0
  refine br_f (by have e:=beq_eq_false_iff_ne.2 hs; rw [← eqL] at e; exact e) ?_
  conv=>whnf
  refine clQ (of_ok' 4) [] ?_
  conv=>whnf
  rw [show (hasL (4:Int).toNat).foldl Mg.get1 ({ kind:=4 },r0)=(({ kind:=4,log:=(rBy r0).1,b:=(Bd.get (rBy r0).2).1 }:Mg),(Bd.get (rBy r0).2).2) from rfl]
  refine ⟨⟨by decide,by decide⟩,?_⟩
  conv=>whnf
  refine ob_of _ hH' ?_
  conv=>whnf
  refine lu 6 ?_
  conv=>whnf
  refine cl (get0 ({ kind:=4 }:Mg) r0) [2,1] ?_
  conv=>whnf
  refine cl (get5 ({ kind:=4,log:=(rBy r0).1 }:Mg) (rBy r0).2) [2,1] ?_
  conv=>whnf
  refine cl (lend_ok (Bd.get (rBy r0).2).2) [1] ?_
  conv=>whnf
  refine br_of (fun h => ?_) (fun h => ?_) <;> rw [h] <;> conv=>whnf
  ·have h:=eq_of_beq h
   refine CallE.ph 9 ?_
   refine CallE.ph 219 ?_
   refine clQ (right_ok hH hS ({ kind:=4,log:=(rBy r0).1,b:=(Bd.get (rBy r0).2).1 }:Mg) (by first | exact Nat.zero_le _ | exact Nat.le_trans (bget_len _) (by decide)) (by first | exact Nat.zero_le _ | exact Nat.le_trans (rList_len _) (by decide)) (by first | exact Nat.zero_le _ | exact Nat.le_trans (rMarks_len _) (by decide))) [4,5,6] (hargs:=⟨dCa (by repeat' (first | exact dN | refine dC (dE rfl) ?_ | refine dC dS ?_)),trivial⟩) ?_
   conv=>whnf
   cases hr:Mg.right ({ kind:=4,log:=(rBy r0).1,b:=(Bd.get (rBy r0).2).1 }:Mg) with
   | false =>
    rw [fin_b h hr]
    conv=>whnf
    exact cv [9,19,29] (h4:=⟨dCt (dC (dA (by repeat' (first | exact dN | refine dC (dE rfl) ?_ | refine dC dS ?_))) (dC (dE rfl) dN)),trivial⟩)
   | true =>
    rw [fin_c h hr]
    conv=>whnf
    refine br_f (by rw [h]; rfl) ?_
    conv=>whnf
    exact cv [4,19,29] (h4:=⟨dCt (dC (dA (by repeat' (first | exact dN | refine dC (dE rfl) ?_ | refine dC dS ?_))) (dC (dE rfl) dN)),trivial⟩)
  ·have h:rEn (Bd.get (rBy r0).2).2≠0:=by simpa using h
   rw [fin_a h]
   refine br_t (by simpa using h) ?_
   conv=>whnf
   exact cv [9,19,29] (h4:=⟨dCt (dC (dA (by repeat' (first | exact dN | refine dC (dE rfl) ?_ | refine dC dS ?_))) (dC (dE rfl) dN)),trivial⟩)
theorem mdec5 (hH:GHas G) (hS:GSha G) (s:Bs) (hs:s≠[]) (hb:(rBy (s,0)).1=5):Tri Tryz.prog G 19 [sv s] [] (.t [.a (mgE 0 1 2 (Mg.dec s).1),i64 (Mg.dec s).2]) (mgH (Mg.dec s).1):=by
  rw [dec_eq,if_neg hs,hb,if_neg (by decide)]
  refine fn Tryz.func19 ?_
  conv=>whnf
  refine cl (lread_ok s) [] ?_
  conv=>whnf
  refine cl (lbyte_ok (s,0)) [1] ?_
  conv=>whnf
  obtain ⟨t,hH'⟩:=hH
  have hH:GHas G:=⟨t,hH'⟩
  rw [hb]
  generalize (rBy (s,0)).2=r0
  refine br_f (by have e:=beq_eq_false_iff_ne.2 hs; rw [← eqL] at e; exact e) ?_
  conv=>whnf
  refine clQ (of_ok' 5) [] ?_
  conv=>whnf
  rw [show (hasL (5:Int).toNat).foldl Mg.get1 ({ kind:=5 },r0)=(({ kind:=5,log:=(rBy r0).1,id:=(rNm (rBy r0).2).1 }:Mg),(rNm (rBy r0).2).2) from rfl]
  refine ⟨⟨by decide,by decide⟩,?_⟩
  conv=>whnf
  refine ob_of _ hH' ?_
  conv=>whnf
  refine lu 6 ?_
  conv=>whnf
  refine cl (get0 ({ kind:=5 }:Mg) r0) [2,1] ?_
  conv=>whnf
  refine cl (get1 ({ kind:=5,log:=(rBy r0).1 }:Mg) (rBy r0).2) [2,1] ?_
  conv=>whnf
  refine cl (lend_ok (rNm (rBy r0).2).2) [1] ?_
  conv=>whnf
  refine br_of (fun h => ?_) (fun h => ?_) <;> rw [h] <;> conv=>whnf
  ·have h:=eq_of_beq h
   refine CallE.ph 9 ?_
   refine CallE.ph 9 ?_
   refine CallE.ph 219 ?_
   refine clQ (right_ok hH hS ({ kind:=5,log:=(rBy r0).1,id:=(rNm (rBy r0).2).1 }:Mg) (by first | exact Nat.zero_le _ | exact Nat.le_trans (bget_len _) (by decide)) (by first | exact Nat.zero_le _ | exact Nat.le_trans (rList_len _) (by decide)) (by first | exact Nat.zero_le _ | exact Nat.le_trans (rMarks_len _) (by decide))) [4,5,6] (hargs:=⟨dCa (by repeat' (first | exact dN | refine dC (dE rfl) ?_ | refine dC dS ?_)),trivial⟩) ?_
   conv=>whnf
   cases hr:Mg.right ({ kind:=5,log:=(rBy r0).1,id:=(rNm (rBy r0).2).1 }:Mg) with
   | false =>
    rw [fin_b h hr]
    conv=>whnf
    exact cv [9,19,29] (h4:=⟨dCt (dC (dA (by repeat' (first | exact dN | refine dC (dE rfl) ?_ | refine dC dS ?_))) (dC (dE rfl) dN)),trivial⟩)
   | true =>
    rw [fin_c h hr]
    conv=>whnf
    refine br_f (by rw [h]; rfl) ?_
    conv=>whnf
    exact cv [9,19,29] (h4:=⟨dCt (dC (dA (by repeat' (first | exact dN | refine dC (dE rfl) ?_ | refine dC dS ?_))) (dC (dE rfl) dN)),trivial⟩)
  ·have h:rEn (rNm (rBy r0).2).2≠0:=by simpa using h
   rw [fin_a h]
   refine br_t (by simpa using h) ?_
   conv=>whnf
   exact cv [9,19,29] (h4:=⟨dCt (dC (dA (by repeat' (first | exact dN | refine dC (dE rfl) ?_ | refine dC dS ?_))) (dC (dE rfl) dN)),trivial⟩)
theorem mdec6 (hH:GHas G) (hS:GSha G) (s:Bs) (hs:s≠[]) (hb:(rBy (s,0)).1=6):Tri Tryz.prog G 19 [sv s] [] (.t [.a (mgE 0 1 2 (Mg.dec s).1),i64 (Mg.dec s).2]) (mgH (Mg.dec s).1):=by
  rw [dec_eq,if_neg hs,hb,if_neg (by decide)]
  refine fn Tryz.func19 ?_
  conv=>whnf
  refine cl (lread_ok s) [] ?_
  conv=>whnf
  refine cl (lbyte_ok (s,0)) [1] ?_
  conv=>whnf
  obtain ⟨t,hH'⟩:=hH
  have hH:GHas G:=⟨t,hH'⟩
  rw [hb]
  generalize (rBy (s,0)).2=r0
  refine br_f (by have e:=beq_eq_false_iff_ne.2 hs; rw [← eqL] at e; exact e) ?_
  conv=>whnf
  refine clQ (of_ok' 6) [] ?_
  conv=>whnf
  rw [show (hasL (6:Int).toNat).foldl Mg.get1 ({ kind:=6 },r0)=(({ kind:=6,log:=(rBy r0).1,id:=(rNm (rBy r0).2).1,m:=(rNm (rNm (rBy r0).2).2).1,n:=(rNm (rNm (rNm (rBy r0).2).2).2).1 }:Mg),(rNm (rNm (rNm (rBy r0).2).2).2).2) from rfl]
  refine ⟨⟨by decide,by decide⟩,?_⟩
  conv=>whnf
  refine ob_of _ hH' ?_
  conv=>whnf
  refine lu 6 ?_
  conv=>whnf
  refine cl (get0 ({ kind:=6 }:Mg) r0) [2,1] ?_
  conv=>whnf
  refine cl (get1 ({ kind:=6,log:=(rBy r0).1 }:Mg) (rBy r0).2) [2,1] ?_
  conv=>whnf
  refine cl (get2 ({ kind:=6,log:=(rBy r0).1,id:=(rNm (rBy r0).2).1 }:Mg) (rNm (rBy r0).2).2) [2,1] ?_
  conv=>whnf
  refine cl (get3 ({ kind:=6,log:=(rBy r0).1,id:=(rNm (rBy r0).2).1,m:=(rNm (rNm (rBy r0).2).2).1 }:Mg) (rNm (rNm (rBy r0).2).2).2) [2,1] ?_
  conv=>whnf
  refine cl (lend_ok (rNm (rNm (rNm (rBy r0).2).2).2).2) [1] ?_
  conv=>whnf
  refine br_of (fun h => ?_) (fun h => ?_) <;> rw [h] <;> conv=>whnf
  ·have h:=eq_of_beq h
   refine CallE.ph 9 ?_
   refine CallE.ph 9 ?_
   refine CallE.ph 219 ?_
   refine clQ (right_ok hH hS ({ kind:=6,log:=(rBy r0).1,id:=(rNm (rBy r0).2).1,m:=(rNm (rNm (rBy r0).2).2).1,n:=(rNm (rNm (rNm (rBy r0).2).2).2).1 }:Mg) (by first | exact Nat.zero_le _ | exact Nat.le_trans (bget_len _) (by decide)) (by first | exact Nat.zero_le _ | exact Nat.le_trans (rList_len _) (by decide)) (by first | exact Nat.zero_le _ | exact Nat.le_trans (rMarks_len _) (by decide))) [4,5,6] (hargs:=⟨dCa (by repeat' (first | exact dN | refine dC (dE rfl) ?_ | refine dC dS ?_)),trivial⟩) ?_
   conv=>whnf
   cases hr:Mg.right ({ kind:=6,log:=(rBy r0).1,id:=(rNm (rBy r0).2).1,m:=(rNm (rNm (rBy r0).2).2).1,n:=(rNm (rNm (rNm (rBy r0).2).2).2).1 }:Mg) with
   | false =>
    rw [fin_b h hr]
    conv=>whnf
    exact cv [9,19,29] (h4:=⟨dCt (dC (dA (by repeat' (first | exact dN | refine dC (dE rfl) ?_ | refine dC dS ?_))) (dC (dE rfl) dN)),trivial⟩)
   | true =>
    rw [fin_c h hr]
    conv=>whnf
    refine br_f (by rw [h]; rfl) ?_
    conv=>whnf
    exact cv [9,19,29] (h4:=⟨dCt (dC (dA (by repeat' (first | exact dN | refine dC (dE rfl) ?_ | refine dC dS ?_))) (dC (dE rfl) dN)),trivial⟩)
  ·have h:rEn (rNm (rNm (rNm (rBy r0).2).2).2).2≠0:=by simpa using h
   rw [fin_a h]
   refine br_t (by simpa using h) ?_
   conv=>whnf
   exact cv [9,19,29] (h4:=⟨dCt (dC (dA (by repeat' (first | exact dN | refine dC (dE rfl) ?_ | refine dC dS ?_))) (dC (dE rfl) dN)),trivial⟩)
theorem mdec7 (hH:GHas G) (hS:GSha G) (s:Bs) (hs:s≠[]) (hb:(rBy (s,0)).1=7):Tri Tryz.prog G 19 [sv s] [] (.t [.a (mgE 0 1 2 (Mg.dec s).1),i64 (Mg.dec s).2]) (mgH (Mg.dec s).1):=by
  rw [dec_eq,if_neg hs,hb,if_neg (by decide)]
  refine fn Tryz.func19 ?_
  conv=>whnf
  refine cl (lread_ok s) [] ?_
  conv=>whnf
  refine cl (lbyte_ok (s,0)) [1] ?_
  conv=>whnf
  obtain ⟨t,hH'⟩:=hH
  have hH:GHas G:=⟨t,hH'⟩
  rw [hb]
  generalize (rBy (s,0)).2=r0
  refine br_f (by have e:=beq_eq_false_iff_ne.2 hs; rw [← eqL] at e; exact e) ?_
  conv=>whnf
  refine clQ (of_ok' 7) [] ?_
  conv=>whnf
  rw [show (hasL (7:Int).toNat).foldl Mg.get1 ({ kind:=7 },r0)=(({ kind:=7,log:=(rBy r0).1,id:=(rNm (rBy r0).2).1,h:=(Hd.get (rNm (rBy r0).2).2).1 }:Mg),(Hd.get (rNm (rBy r0).2).2).2) from rfl]
  refine ⟨⟨by decide,by decide⟩,?_⟩
  conv=>whnf
  refine ob_of _ hH' ?_
  conv=>whnf
  refine lu 6 ?_
  conv=>whnf
  refine cl (get0 ({ kind:=7 }:Mg) r0) [2,1] ?_
  conv=>whnf
  refine cl (get1 ({ kind:=7,log:=(rBy r0).1 }:Mg) (rBy r0).2) [2,1] ?_
  conv=>whnf
  refine cl (get4 ({ kind:=7,log:=(rBy r0).1,id:=(rNm (rBy r0).2).1 }:Mg) (rNm (rBy r0).2).2) [2,1] ?_
  conv=>whnf
  refine cl (lend_ok (Hd.get (rNm (rBy r0).2).2).2) [1] ?_
  conv=>whnf
  refine br_of (fun h => ?_) (fun h => ?_) <;> rw [h] <;> conv=>whnf
  ·have h:=eq_of_beq h
   refine CallE.ph 9 ?_
   refine CallE.ph 9 ?_
   refine CallE.ph 219 ?_
   refine clQ (right_ok hH hS ({ kind:=7,log:=(rBy r0).1,id:=(rNm (rBy r0).2).1,h:=(Hd.get (rNm (rBy r0).2).2).1 }:Mg) (by first | exact Nat.zero_le _ | exact Nat.le_trans (bget_len _) (by decide)) (by first | exact Nat.zero_le _ | exact Nat.le_trans (rList_len _) (by decide)) (by first | exact Nat.zero_le _ | exact Nat.le_trans (rMarks_len _) (by decide))) [4,5,6] (hargs:=⟨dCa (by repeat' (first | exact dN | refine dC (dE rfl) ?_ | refine dC dS ?_)),trivial⟩) ?_
   conv=>whnf
   cases hr:Mg.right ({ kind:=7,log:=(rBy r0).1,id:=(rNm (rBy r0).2).1,h:=(Hd.get (rNm (rBy r0).2).2).1 }:Mg) with
   | false =>
    rw [fin_b h hr]
    conv=>whnf
    exact cv [9,19,29] (h4:=⟨dCt (dC (dA (by repeat' (first | exact dN | refine dC (dE rfl) ?_ | refine dC dS ?_))) (dC (dE rfl) dN)),trivial⟩)
   | true =>
    rw [fin_c h hr]
    conv=>whnf
    refine br_f (by rw [h]; rfl) ?_
    conv=>whnf
    exact cv [9,19,29] (h4:=⟨dCt (dC (dA (by repeat' (first | exact dN | refine dC (dE rfl) ?_ | refine dC dS ?_))) (dC (dE rfl) dN)),trivial⟩)
  ·have h:rEn (Hd.get (rNm (rBy r0).2).2).2≠0:=by simpa using h
   rw [fin_a h]
   refine br_t (by simpa using h) ?_
   conv=>whnf
   exact cv [9,19,29] (h4:=⟨dCt (dC (dA (by repeat' (first | exact dN | refine dC (dE rfl) ?_ | refine dC dS ?_))) (dC (dE rfl) dN)),trivial⟩)
theorem mdec8 (hH:GHas G) (hS:GSha G) (s:Bs) (hs:s≠[]) (hb:(rBy (s,0)).1=8):Tri Tryz.prog G 19 [sv s] [] (.t [.a (mgE 0 1 2 (Mg.dec s).1),i64 (Mg.dec s).2]) (mgH (Mg.dec s).1):=by
  rw [dec_eq,if_neg hs,hb,if_neg (by decide)]
  refine fn Tryz.func19 ?_
  conv=>whnf
  refine cl (lread_ok s) [] ?_
  conv=>whnf
  refine cl (lbyte_ok (s,0)) [1] ?_
  conv=>whnf
  obtain ⟨t,hH'⟩:=hH
  have hH:GHas G:=⟨t,hH'⟩
  rw [hb]
  generalize (rBy (s,0)).2=r0
  refine br_f (by have e:=beq_eq_false_iff_ne.2 hs; rw [← eqL] at e; exact e) ?_
  conv=>whnf
  refine clQ (of_ok' 8) [] ?_
  conv=>whnf
  rw [show (hasL (8:Int).toNat).foldl Mg.get1 ({ kind:=8 },r0)=(({ kind:=8,log:=(rBy r0).1,id:=(rNm (rBy r0).2).1,m:=(rNm (rNm (rBy r0).2).2).1,n:=(rNm (rNm (rNm (rBy r0).2).2).2).1,path:=(rList (rNm (rNm (rNm (rBy r0).2).2).2).2).1 }:Mg),(rList (rNm (rNm (rNm (rBy r0).2).2).2).2).2) from rfl]
  refine ⟨⟨by decide,by decide⟩,?_⟩
  conv=>whnf
  refine ob_of _ hH' ?_
  conv=>whnf
  refine lu 6 ?_
  conv=>whnf
  refine cl (get0 ({ kind:=8 }:Mg) r0) [2,1] ?_
  conv=>whnf
  refine cl (get1 ({ kind:=8,log:=(rBy r0).1 }:Mg) (rBy r0).2) [2,1] ?_
  conv=>whnf
  refine cl (get2 ({ kind:=8,log:=(rBy r0).1,id:=(rNm (rBy r0).2).1 }:Mg) (rNm (rBy r0).2).2) [2,1] ?_
  conv=>whnf
  refine cl (get3 ({ kind:=8,log:=(rBy r0).1,id:=(rNm (rBy r0).2).1,m:=(rNm (rNm (rBy r0).2).2).1 }:Mg) (rNm (rNm (rBy r0).2).2).2) [2,1] ?_
  conv=>whnf
  refine cl (get6 ({ kind:=8,log:=(rBy r0).1,id:=(rNm (rBy r0).2).1,m:=(rNm (rNm (rBy r0).2).2).1,n:=(rNm (rNm (rNm (rBy r0).2).2).2).1 }:Mg) (rNm (rNm (rNm (rBy r0).2).2).2).2) [2,1] ?_
  conv=>whnf
  refine cl (lend_ok (rList (rNm (rNm (rNm (rBy r0).2).2).2).2).2) [1] ?_
  conv=>whnf
  refine br_of (fun h => ?_) (fun h => ?_) <;> rw [h] <;> conv=>whnf
  ·have h:=eq_of_beq h
   refine CallE.ph 9 ?_
   refine CallE.ph 219 ?_
   refine clQ (right_ok hH hS ({ kind:=8,log:=(rBy r0).1,id:=(rNm (rBy r0).2).1,m:=(rNm (rNm (rBy r0).2).2).1,n:=(rNm (rNm (rNm (rBy r0).2).2).2).1,path:=(rList (rNm (rNm (rNm (rBy r0).2).2).2).2).1 }:Mg) (by first | exact Nat.zero_le _ | exact Nat.le_trans (bget_len _) (by decide)) (by first | exact Nat.zero_le _ | exact Nat.le_trans (rList_len _) (by decide)) (by first | exact Nat.zero_le _ | exact Nat.le_trans (rMarks_len _) (by decide))) [5,4,6] (hargs:=⟨dCa (by repeat' (first | exact dN | refine dC (dE rfl) ?_ | refine dC dS ?_)),trivial⟩) ?_
   conv=>whnf
   cases hr:Mg.right ({ kind:=8,log:=(rBy r0).1,id:=(rNm (rBy r0).2).1,m:=(rNm (rNm (rBy r0).2).2).1,n:=(rNm (rNm (rNm (rBy r0).2).2).2).1,path:=(rList (rNm (rNm (rNm (rBy r0).2).2).2).2).1 }:Mg) with
   | false =>
    rw [fin_b h hr]
    conv=>whnf
    exact cv [9,19,29] (h4:=⟨dCt (dC (dA (by repeat' (first | exact dN | refine dC (dE rfl) ?_ | refine dC dS ?_))) (dC (dE rfl) dN)),trivial⟩)
   | true =>
    rw [fin_c h hr]
    conv=>whnf
    refine br_f (by rw [h]; rfl) ?_
    conv=>whnf
    exact cv [9,4,29] (h4:=⟨dCt (dC (dA (by repeat' (first | exact dN | refine dC (dE rfl) ?_ | refine dC dS ?_))) (dC (dE rfl) dN)),trivial⟩)
  ·have h:rEn (rList (rNm (rNm (rNm (rBy r0).2).2).2).2).2≠0:=by simpa using h
   rw [fin_a h]
   refine br_t (by simpa using h) ?_
   conv=>whnf
   exact cv [9,19,29] (h4:=⟨dCt (dC (dA (by repeat' (first | exact dN | refine dC (dE rfl) ?_ | refine dC dS ?_))) (dC (dE rfl) dN)),trivial⟩)
theorem mdec9 (hH:GHas G) (hS:GSha G) (s:Bs) (hs:s≠[]) (hb:(rBy (s,0)).1=9):Tri Tryz.prog G 19 [sv s] [] (.t [.a (mgE 0 1 2 (Mg.dec s).1),i64 (Mg.dec s).2]) (mgH (Mg.dec s).1):=by
  rw [dec_eq,if_neg hs,hb,if_neg (by decide)]
  refine fn Tryz.func19 ?_
  conv=>whnf
  refine cl (lread_ok s) [] ?_
  conv=>whnf
  refine cl (lbyte_ok (s,0)) [1] ?_
  conv=>whnf
  obtain ⟨t,hH'⟩:=hH
  have hH:GHas G:=⟨t,hH'⟩
  rw [hb]
  generalize (rBy (s,0)).2=r0
  refine br_f (by have e:=beq_eq_false_iff_ne.2 hs; rw [← eqL] at e; exact e) ?_
  conv=>whnf
  refine clQ (of_ok' 9) [] ?_
  conv=>whnf
  rw [show (hasL (9:Int).toNat).foldl Mg.get1 ({ kind:=9 },r0)=(({ kind:=9,log:=(rBy r0).1 }:Mg),(rBy r0).2) from rfl]
  refine ⟨⟨by decide,by decide⟩,?_⟩
  conv=>whnf
  refine ob_of _ hH' ?_
  conv=>whnf
  refine lu 6 ?_
  conv=>whnf
  refine cl (get0 ({ kind:=9 }:Mg) r0) [2,1] ?_
  conv=>whnf
  refine cl (lend_ok (rBy r0).2) [1] ?_
  conv=>whnf
  refine br_of (fun h => ?_) (fun h => ?_) <;> rw [h] <;> conv=>whnf
  ·have h:=eq_of_beq h
   refine CallE.ph 9 ?_
   refine CallE.ph 9 ?_
   refine CallE.ph 219 ?_
   refine clQ (right_ok hH hS ({ kind:=9,log:=(rBy r0).1 }:Mg) (by first | exact Nat.zero_le _ | exact Nat.le_trans (bget_len _) (by decide)) (by first | exact Nat.zero_le _ | exact Nat.le_trans (rList_len _) (by decide)) (by first | exact Nat.zero_le _ | exact Nat.le_trans (rMarks_len _) (by decide))) [4,5,6] (hargs:=⟨dCa (by repeat' (first | exact dN | refine dC (dE rfl) ?_ | refine dC dS ?_)),trivial⟩) ?_
   conv=>whnf
   cases hr:Mg.right ({ kind:=9,log:=(rBy r0).1 }:Mg) with
   | false =>
    rw [fin_b h hr]
    conv=>whnf
    exact cv [9,19,29] (h4:=⟨dCt (dC (dA (by repeat' (first | exact dN | refine dC (dE rfl) ?_ | refine dC dS ?_))) (dC (dE rfl) dN)),trivial⟩)
   | true =>
    rw [fin_c h hr]
    conv=>whnf
    refine br_f (by rw [h]; rfl) ?_
    conv=>whnf
    exact cv [9,19,29] (h4:=⟨dCt (dC (dA (by repeat' (first | exact dN | refine dC (dE rfl) ?_ | refine dC dS ?_))) (dC (dE rfl) dN)),trivial⟩)
  ·have h:rEn (rBy r0).2≠0:=by simpa using h
   rw [fin_a h]
   refine br_t (by simpa using h) ?_
   conv=>whnf
   exact cv [9,19,29] (h4:=⟨dCt (dC (dA (by repeat' (first | exact dN | refine dC (dE rfl) ?_ | refine dC dS ?_))) (dC (dE rfl) dN)),trivial⟩)
theorem mdec10 (hH:GHas G) (hS:GSha G) (s:Bs) (hs:s≠[]) (hb:(rBy (s,0)).1=10):Tri Tryz.prog G 19 [sv s] [] (.t [.a (mgE 0 1 2 (Mg.dec s).1),i64 (Mg.dec s).2]) (mgH (Mg.dec s).1):=by
  rw [dec_eq,if_neg hs,hb,if_neg (by decide)]
  refine fn Tryz.func19 ?_
  conv=>whnf
  refine cl (lread_ok s) [] ?_
  conv=>whnf
  refine cl (lbyte_ok (s,0)) [1] ?_
  conv=>whnf
  obtain ⟨t,hH'⟩:=hH
  have hH:GHas G:=⟨t,hH'⟩
  rw [hb]
  generalize (rBy (s,0)).2=r0
  refine br_f (by have e:=beq_eq_false_iff_ne.2 hs; rw [← eqL] at e; exact e) ?_
  conv=>whnf
  refine clQ (of_ok' 10) [] ?_
  conv=>whnf
  rw [show (hasL (10:Int).toNat).foldl Mg.get1 ({ kind:=10 },r0)=(({ kind:=10,log:=(rBy r0).1,n:=(rNm (rBy r0).2).1 }:Mg),(rNm (rBy r0).2).2) from rfl]
  refine ⟨⟨by decide,by decide⟩,?_⟩
  conv=>whnf
  refine ob_of _ hH' ?_
  conv=>whnf
  refine lu 6 ?_
  conv=>whnf
  refine cl (get0 ({ kind:=10 }:Mg) r0) [2,1] ?_
  conv=>whnf
  refine cl (get3 ({ kind:=10,log:=(rBy r0).1 }:Mg) (rBy r0).2) [2,1] ?_
  conv=>whnf
  refine cl (lend_ok (rNm (rBy r0).2).2) [1] ?_
  conv=>whnf
  refine br_of (fun h => ?_) (fun h => ?_) <;> rw [h] <;> conv=>whnf
  ·have h:=eq_of_beq h
   refine CallE.ph 9 ?_
   refine CallE.ph 9 ?_
   refine CallE.ph 219 ?_
   refine clQ (right_ok hH hS ({ kind:=10,log:=(rBy r0).1,n:=(rNm (rBy r0).2).1 }:Mg) (by first | exact Nat.zero_le _ | exact Nat.le_trans (bget_len _) (by decide)) (by first | exact Nat.zero_le _ | exact Nat.le_trans (rList_len _) (by decide)) (by first | exact Nat.zero_le _ | exact Nat.le_trans (rMarks_len _) (by decide))) [4,5,6] (hargs:=⟨dCa (by repeat' (first | exact dN | refine dC (dE rfl) ?_ | refine dC dS ?_)),trivial⟩) ?_
   conv=>whnf
   cases hr:Mg.right ({ kind:=10,log:=(rBy r0).1,n:=(rNm (rBy r0).2).1 }:Mg) with
   | false =>
    rw [fin_b h hr]
    conv=>whnf
    exact cv [9,19,29] (h4:=⟨dCt (dC (dA (by repeat' (first | exact dN | refine dC (dE rfl) ?_ | refine dC dS ?_))) (dC (dE rfl) dN)),trivial⟩)
   | true =>
    rw [fin_c h hr]
    conv=>whnf
    refine br_f (by rw [h]; rfl) ?_
    conv=>whnf
    exact cv [9,19,29] (h4:=⟨dCt (dC (dA (by repeat' (first | exact dN | refine dC (dE rfl) ?_ | refine dC dS ?_))) (dC (dE rfl) dN)),trivial⟩)
  ·have h:rEn (rNm (rBy r0).2).2≠0:=by simpa using h
   rw [fin_a h]
   refine br_t (by simpa using h) ?_
   conv=>whnf
   exact cv [9,19,29] (h4:=⟨dCt (dC (dA (by repeat' (first | exact dN | refine dC (dE rfl) ?_ | refine dC dS ?_))) (dC (dE rfl) dN)),trivial⟩)
theorem mdec_ok (hH:GHas G) (hS:GSha G) (s:Bs):Tri Tryz.prog G 19 [sv s] [] (.t [.a (mgE 0 1 2 (Mg.dec s).1),i64 (Mg.dec s).2]) (mgH (Mg.dec s).1):=by
 by_cases hs:s=[]
 ·rw [dec_eq,if_pos hs]
  refine fn Tryz.func19 ?_
  conv=>whnf
  refine cl (lread_ok s) [] ?_
  conv=>whnf
  refine cl (lbyte_ok (s,0)) [1] ?_
  conv=>whnf
  refine br_t (by rw [hs]; exact (eqL [] []).trans (by decide)) ?_
  conv=>whnf
  exact cv [9,19,29] (h4:=⟨dCt (dC (dA (by repeat' (first | exact dN | refine dC (dE rfl) ?_ | refine dC dS ?_))) (dC (dE rfl) dN)),trivial⟩)
 cases hk:ofL (rBy (s,0)).1 with
 | false =>
  rw [dec_eq,if_neg hs,hk,if_pos (by decide)]
  refine fn Tryz.func19 ?_
  conv=>whnf
  refine cl (lread_ok s) [] ?_
  conv=>whnf
  refine cl (lbyte_ok (s,0)) [1] ?_
  conv=>whnf
  refine br_f (by have e:=beq_eq_false_iff_ne.2 hs; rw [← eqL] at e; exact e) ?_
  conv=>whnf
  refine clQ (of_ok' (rBy (s,0)).1) [] ?_
  rw [hk]
  conv=>whnf
  exact cv [9,19,29] (h4:=⟨dCt (dC (dA (by repeat' (first | exact dN | refine dC (dE rfl) ?_ | refine dC dS ?_))) (dC (dE rfl) dN)),trivial⟩)
 | true =>
  rcases kinds hk with h | h | h | h | h | h | h | h | h | h
  ·exact mdec1 hH hS s hs h
  ·exact mdec2 hH hS s hs h
  ·exact mdec3 hH hS s hs h
  ·exact mdec4 hH hS s hs h
  ·exact mdec5 hH hS s hs h
  ·exact mdec6 hH hS s hs h
  ·exact mdec7 hH hS s hs h
  ·exact mdec8 hH hS s hs h
  ·exact mdec9 hH hS s hs h
  ·exact mdec10 hH hS s hs h
theorem xor32 {a b:Nat} (ha:a<4294967296) (hb:b<4294967296):xorB .u32 (a:Int) (b:Int)=((a^^^b:Nat):Int)∧a^^^b<4294967296:=by
 have hb':∀ a:Nat,a<4294967296→(BitVec.ofInt IntKind.u32.bits (a:Int)).toNat=a:=fun a ha=>by
  show (BitVec.ofInt 32 (a:Int)).toNat=a
  rw [BitVec.ofInt_natCast,BitVec.toNat_ofNat]
  exact Nat.mod_eq_of_lt ha
 have hx:a^^^b<4294967296:=Nat.xor_lt_two_pow (n:=32) ha hb
 refine ⟨?_,hx⟩
 unfold xorB
 rw [BitVec.toNat_xor,hb' a ha,hb' b hb]
 simp only [IntKind.wrap,IntKind.bits,IntKind.signed]
 simp
 omega
theorem not32 {a:Nat} (ha:a<4294967296):notB .u32 (a:Int)=((4294967295^^^a:Nat):Int):=by
 have h:=(xor32 (a:=4294967295) (by decide) ha).1
 unfold xorB at h
 unfold notB
 rw [show (if IntKind.u32.signed=true then (-1:Int) else IntKind.u32.max)=((4294967295:Nat):Int) from rfl]
 exact h
theorem crcT_lt (i:Nat):crcT.getD i 0<4294967296:=by
 rw [List.getD_eq_getElem?_getD]
 by_cases h:i<crcT.length
 ·rw [List.getElem?_eq_getElem h]
  have:∀ x∈crcT,x<4294967296:=by decide
  exact this _ (List.getElem_mem h)
 ·rw [List.getElem?_eq_none (by omega)]; decide
theorem crcH_nat {n:Nat} (h:n<4294967296):crcH (n:Int)=(crcH' n:Int)∧crcH' n<4294967296:=by
 have h1:(n:Int).fdiv (2 ^ min 4 32)=((n/16:Nat):Int):=by
  rw [show (2:Int) ^ min 4 32=((16:Nat):Int) from rfl,Int.fdiv_eq_ediv_of_nonneg _ (by omega)]
  rfl
 have h2:((n:Int).tmod 16).toNat=n%16:=by rw [Int.tmod_eq_emod_of_nonneg (by omega)]; omega
 unfold crcH crcH'
 rw [h1,h2]
 exact xor32 (by omega) (crcT_lt _)
theorem crcB_nat {n:Nat} (h:n<4294967296) (c:UInt8):crcB (n:Int) c=(crcS n c:Int)∧crcS n c<4294967296:=by
 have hc:=c.toNat_lt
 have h0:IntKind.u32.wrap (c.toNat:Int)=((c.toNat:Nat):Int):=by simp [IntKind.wrap,IntKind.bits,IntKind.signed]; omega
 obtain ⟨h1,h2⟩:=xor32 h (b:=c.toNat) (by omega)
 obtain ⟨h3,h4⟩:=crcH_nat h2
 obtain ⟨h5,h6⟩:=crcH_nat h4
 unfold crcB crcS
 rw [h0,h1,h3,h5]
 exact ⟨rfl,h6⟩
theorem crcF_nat (l:Bs):∀ {n:Nat},n<4294967296→l.foldl crcB (n:Int)=((l.foldl crcS n:Nat):Int)∧l.foldl crcS n<4294967296:=by
 induction l with
 | nil=>intro n h; exact ⟨rfl,h⟩
 | cons c l ih =>
  intro n h
  obtain ⟨h1,h2⟩:=crcB_nat h c
  rw [List.foldl_cons,List.foldl_cons,h1]
  exact ih h2
def crcN (l:Bs):Nat:=4294967295^^^l.foldl crcS 4294967295
theorem crcOn_nat (l:Bs):crcOn 0 (sB l)=(crcN l:Int):=by
 obtain ⟨h1,h2⟩:=crcF_nat l (n:=4294967295) (by decide)
 unfold crcOn crcN
 rw [show notB .u32 0=((4294967295:Nat):Int) from (not32 (a:=0) (by decide))]
 show notB .u32 (l.foldl crcB ((4294967295:Nat):Int))=_
 rw [h1,not32 h2]
theorem crcPut_nat (l:Bs):crcPut (crcN l:Int)=sB (crcL l):=by
 have f:∀ k:Nat,((crcN l:Nat):Int).fdiv ((2 ^ k:Nat):Int)=((crcN l/2 ^ k:Nat):Int):=fun k=>by
  rw [Int.fdiv_eq_ediv_of_nonneg _ (Int.natCast_nonneg _)]
  rfl
 have w:∀ n:Nat,(IntKind.u8.wrap (n:Int)).toNat.toUInt8=n.toUInt8:=fun n=>by
  have:IntKind.u8.wrap (n:Int)=((n%256:Nat):Int):=by simp [IntKind.wrap,IntKind.bits,IntKind.signed]
  rw [this,Int.toNat_natCast]
  apply UInt8.toNat_inj.1
  simp [Nat.toUInt8]
 unfold crcPut
 rw [show ((2:Int) ^ min 24 32)=((2 ^ 24:Nat):Int) from rfl,show ((2:Int) ^ min 16 32)=((2 ^ 16:Nat):Int) from rfl,show ((2:Int) ^ min 8 32)=((2 ^ 8:Nat):Int) from rfl,f,f,f,w,w,w,w]
 rfl
theorem crc_of (l:Bs) (hl:l.length≤1000000):Tri Tryz.prog G 174 [sv l] [] (.v (.int .u32 (crcN l))) []:=by
 have:=E.of_ok (G:=G) (sB l) (by rw [sB_size]; exact hl)
 rw [crcOn_nat] at this
 exact this
theorem crc_put (l:Bs):Tri Tryz.prog G 173 [.v (.int .u32 (crcN l))] [] (sv (crcL l)) []:=by
 have:=cput_ok (G:=G) (crcN l:Int)
 rw [crcPut_nat] at this
 exact this
theorem wBlob_ok' {s:Bs} (h:s.length≤4096):wBlob ([],0) s=(numL s.length++s,0):=by
 unfold wBlob wPut
 simp [h]
theorem wBlob_no {s:Bs} (h:¬ s.length≤4096):wBlob ([],0) s=([],4):=by
 unfold wBlob wPut
 simp [h]
theorem frame_ok (s:Bs) (hs:s.length≤100000):Tri Tryz.prog G 111 [sv s] [] (sv (frame s)) []:=by
 refine fn Tryz.func111 ?_
 conv=>whnf
 refine CallE.ph 5 ?_
 refine cl (lwblob_ok ([],0) s hs (by simp)) [0,1] ?_
 conv=>whnf
 unfold frame
 refine br_of (fun h => ?_) (fun h => ?_) <;> rw [h] <;> conv=>whnf
 ·rw [if_pos (.inl (show s=[] from eq_of_beq ((eqL s []).symm.trans h)))]
  exact cv []
 ·have h0:s≠[]:=by have e:=(eqL s []).symm.trans h; simpa using e
  by_cases h4:s.length≤4096
  ·rw [if_neg (by simp [h0]; omega),wBlob_ok' h4]
   refine clQ (werr_ok (numL s.length++s) 0) [0,2] ?_
   conv=>whnf
   refine clQ (lwtext_ok (numL s.length++s,0)) [0,2] ?_
   conv=>whnf
   refine clQ (crc_of s (by omega)) [] ?_
   conv=>whnf
   refine clQ (crc_put s) [] ?_
   conv=>whnf
   have l1:=numL_len s.length
   refine ⟨by rw [sB_size,sB_size,show (crcL s).length=4 from rfl,show wText (numL s.length++s,0)=numL s.length++s from rfl,List.length_append]; omega,?_⟩
   conv=>whnf
   rw [sB_app]
   exact cv []
  ·rw [if_pos (.inr (by omega)),wBlob_no h4]
   refine clQ (werr_ok [] 4) [0,2] ?_
   conv=>whnf
   exact cv []
end Go.Proofs.YtdhgpocbcccieaaGreatDoor.M
