import Derived.Test.YtankkcbofgighaaGreatDoorK24
set_option linter.unusedVariables false
set_option linter.unusedSimpArgs false
set_option maxRecDepth 100000
set_option maxHeartbeats 40000000
namespace Go.Proofs.YtankkcbofgighaaGreatDoor
section
open Go.ChangeShapes Go.WideShapes Go.ChangeAt Go.RowKit Go.Deep
theorem zgp(os:Os)(started:os.Started)(H:Type)(enc:TypeId×Value->H) :
  ReturnsInHanded {} Tryz.checked os 9 .any (fun w args=>(Rows.floorNoneSpec.pre enc Tryz.prog Tryz.f9 [] false w args/\laidMetH Tryz.prog zdJ w)/\sizedMet enc Tryz.prog Tryz.f9 (OpenSpec.ofChange Rows.floorNoneSpec) false w args)
   (Rows.floorNoneSpec.post enc Tryz.prog Tryz.f9 false true false false):=by
 refine zhv (C:=Tryz.checked) (X:=fun w _=>laidMetH Tryz.prog zdJ w) (fun _ _ _ hh h=>h.of_heap hh) own started (by kernel_rfl) Tryz.func9
  (ChangeSpec.witness_shaped (enc:=enc) (C:=Tryz.checked) (os:=os) (X:=fun w _=>laidMetH Tryz.prog zdJ w) false (zpq os) #[.string ByteArray.empty] 8 rfl (World.shaped_of_RefB (by kernel_rfl) (by kernel_rfl)) (by kernel_rfl) (by kernel_rfl) (by kernel_rfl) (zoP os _)) ?_
 intro W base args ds gs before aa hW hL hS
 have ab:∀(j:Nat) t v,Tryz.f9.params[j]?=some t->args[j]?=some v->Value.okWide Tryz.prog W .any base t v:=aa
 have ac:=hW
 obtain⟨p,q,ae,hV,rfl,ah,ai⟩:=hW
 have hA:DataW.TrodAll enc Tryz.prog W 0 (fun _=>true) true Tryz.f9.params.toList args.toList ds p:=ae
 have ag:=hA
 rw[Tryz.params9] at hA ab
 obtain⟨v0,d0,rfl,rfl,h0⟩:=trodAll_one hA
 obtain⟨rfl,rfl⟩:=trodVars_none hV
 obtain⟨t0,rfl,af⟩:=zmq (ab 0 9 v0 rfl rfl) h0
 clear ae aa
 rw[List.append_nil] at ac
 refine(zhW t0 W (zkz hL hS) af).mono fun e W' ⟨he,hb⟩=>?_
 subst he
 exact⟨_,rfl,zoi rfl rfl ⟨rfl,rfl⟩ rfl (by kernel_rfl) ac ag hb⟩
end
end Go.Proofs.YtankkcbofgighaaGreatDoor
