/- 'syngraphtop.TopBytes' returns true for every input, and leaves its argument as it was; no condition beyond the given statement's own. Part 14 of the proof: TopBytesProof. -/
import Derived.Test.YtdhgpocbcccieaaGreatDoorCards
import Derived.Test.YtdhgpocbcccieaaGreatDoorTie
import Derived.SevenTiedAt
import Derived.Test.YtdhgpocbcccieaaGreatDoorY9
import Derived.Test.YtdhgpocbcccieaaGreatDoorY12
import Derived.Test.YtdhgpocbcccieaaGreatDoorY13
set_option maxRecDepth 1000000
set_option maxHeartbeats 20000000
set_option linter.unusedVariables false
set_option linter.unusedSimpArgs false
namespace Go.Proofs.YtdhgpocbcccieaaGreatDoor.topBytes
open Go.ChangeShapes Go.WideShapes Go.ChangeAt Go.RowKit Go.Proofs.YtdhgpocbcccieaaGreatDoor.E Go.Proofs.YtdhgpocbcccieaaGreatDoor.M
theorem own:ownKnob Tryz.prog.godebug=none:=by kernel_rfl
theorem readable:∀ t,t∈Tryz.f4.params.toList→Tryz.prog.readableRec t=true∧t<Tryz.prog.types.size:=by
 intro t ht
 rw [Tryz.params4] at ht
 simp only [List.mem_cons,List.not_mem_nil,or_false] at ht
 subst ht
 exact ⟨by kernel_rfl,of_decide_eq_true (by kernel_rfl)⟩
theorem walk (s:ByteArray) (hs:s.size≤maxLen) (W:World) (hL:laidMetH Tryz.prog laidTop W):Calls Tryz.prog 4 #[.string s] W fun e W'=>e = .returned (.bool true)∧Touch [] W W':=by
 have e:sB s.data.toList=s:=by simp [sB]
 have h:=M2.bytes_ok (laid_sig hL) (laid_sha hL) (laid_has hL) fixedL_ok s.data.toList (by show s.data.toList.length≤_; rw [Array.length_toList]; exact hs)
 rw [sv,e] at h
 refine run_tri ⟨rfl,fun i x u hx hu => ?_⟩ (by simp) h
 match i,hx,hu with
 | 0,hx,hu=>cases hx; cases hu; exact .v _
 | i+1,hx,_=>simp at hx
theorem lifted (os:Os) (started:os.Started) (H:Type) (enc:TypeId×Value→H) :
  ReturnsInHanded {} Tryz.checked os 4 .any (fun w args=>(Rows.topBytesSpec.pre enc Tryz.prog Tryz.f4 [] false w args∧laidMetH Tryz.prog laidTop w)∧sizedMet enc Tryz.prog Tryz.f4 (OpenSpec.ofChange Rows.topBytesSpec) false w args) (Rows.topBytesSpec.post enc Tryz.prog Tryz.f4 false true false false):=by
 refine law_returns_laid (tb:=4) own started (by kernel_rfl) Tryz.func4
  (ChangeSpec.witness_shaped (enc:=enc) (C:=Tryz.checked) (os:=os) (X:=fun w _=>laidMetH Tryz.prog laidTop w) false (World.doorLaid Tryz.prog 39 os) #[.string ⟨#[]⟩] 8 rfl (World.shaped_of_RefB (by kernel_rfl) (by kernel_rfl)) (by kernel_rfl) (by kernel_rfl) (by kernel_rfl) (door_met os _))
  (by kernel_rfl) readable Tryz.underlying4 rfl rfl (fun ds h => ?_) ?_
 ·match ds,h with
  | [d0],_=>rfl
 ·intro W base args ds ps hL hval0 hA0 hlt
  have hval:∀ (j:Nat) t v,Tryz.f4.params[j]? = some t→args[j]? = some v→Value.okWide Tryz.prog W .any base t v:=hval0
  have hA:DataW.TrodAll enc Tryz.prog W 0 (fun _=>true) true Tryz.f4.params.toList args.toList ds ps:=hA0
  rw [Tryz.params4] at hA hval
  obtain ⟨v0,vs0,d0,ds0,p0,q0,hargs,rfl,rfl,h0,r0⟩:=trodAll_cons hA
  obtain ⟨rfl,rfl,rfl⟩:=trodAll_nil r0
  obtain rfl:args = #[v0]:=by cases args; simp_all
  obtain ⟨s0,rfl,rfl,rfl,hs0⟩:=Go.ChangeMaps.open_string Tryz.underlying9 (hval 0 9 v0 rfl rfl) h0
  exact walk s0 hs0 W hL
theorem over:Rows.topBytesRow.holds Tryz.pinned (OpenSpec.ofChange Rows.topBytesSpec) :=
 OpenClaim.holds_of_wide 4 Tryz.f4 rfl rfl rfl rfl rfl rfl rfl ⟨rfl,rfl,rfl,rfl,rfl⟩ rfl rfl rfl rfl rfl (by kernel_rfl) Tryz.func4 (by kernel_rfl)
  (of_decide_eq_true (by kernel_rfl)) (by unfold Func.isWrapper; first | (rw [if_pos (by decide +kernel)]; kernel_rfl) | (rw [if_neg (by decide +kernel)]; exact ⟨rfl,rfl⟩))
  (fun os started H enc _=>lifted os started H enc)
theorem proved:Rows.TopBytesCardSaid :=
 Claim7.holds_tied_plain_at .later [] [.wider,.data,.data,.data,.data,.data] true (true,"00833276c9235315f6f44fc627e21462b675ba6f600b5ef0a2397afb3490cfcd") false
  over (fun _ h=>by cases h) (by kernel_rfl) (fun _ h=>by cases h) topBytes_row_tie rfl ⟨rfl,rfl⟩ (by kernel_rfl) rfl
  (fun f fn hf hfn=>by
   obtain rfl:f=4:=Option.some.inj ((show Tryz.prog.funcNamed "syngraph/syngraphtop.TopBytes" = some 4 by kernel_rfl).symm.trans hf) |>.symm
   obtain rfl:fn=Tryz.f4:=(Option.some.inj (Tryz.func4.symm.trans hfn)).symm
   exact ⟨by kernel_rfl,fun j t ht=>by
    rw [Tryz.params4] at ht
    have hm:t∈[9]:=by simpa using Array.mem_of_getElem? ht
    have hall:([9].all fun u => !Tryz.prog.wantsStandIn u)=true:=by kernel_rfl
    exact (show Tryz.prog.wantsStandIn t=false by simpa using List.all_eq_true.1 hall t hm)⟩)
  (by kernel_rfl)
#print axioms proved
end Go.Proofs.YtdhgpocbcccieaaGreatDoor.topBytes
