import Derived.Test.YtankkcbofgighaaGreatDoorL24
set_option linter.all false
set_option maxRecDepth 100000
set_option maxHeartbeats 40000000
namespace Go.Proofs.YtankkcbofgighaaGreatDoor
section
open Go.ChangeShapes Go.WideShapes Go.ChangeAt Go.RowKit Go.Deep
section
variable {H:Type} {enc:TypeId×Value->H} {w:World}
theorem zsD{P:Program}{base:Nat}{spare:Nat->Bool}{aa:Bool}{t0 t1 t2 t3 t4:TypeId}{args:Array Value}{ds:List (DataW H)}{ps:List MemPlace}(h:DataW.TrodAll enc P w base spare aa [t0,t1,t2,t3,t4] args.toList ds ps) :
  ∃ v0 v1 v2 v3 v4 d0 d1 d2 d3 d4 p0 p1 p2 p3 p4,args=#[v0,v1,v2,v3,v4]/\ds=[d0,d1,d2,d3,d4]/\ps=p0++p1++p2++p3++p4/\DataW.Trod enc P w base spare aa t0 v0 d0 p0/\DataW.Trod enc P w base spare aa t1 v1 d1 p1/\DataW.Trod enc P w base spare aa t2 v2 d2 p2/\DataW.Trod enc P w base spare aa t3 v3 d3 p3/\DataW.Trod enc P w base spare aa t4 v4 d4 p4:=by
 obtain⟨v0,w0,d0,e0,p0,q0,ah,rfl,rfl,ab,h0⟩:=trodAll_cons h
 obtain⟨v1,w1,d1,e1,p1,q1,rfl,rfl,rfl,ac,h1⟩:=trodAll_cons h0
 obtain⟨v2,w2,d2,e2,p2,q2,rfl,rfl,rfl,ae,h2⟩:=trodAll_cons h1
 obtain⟨v3,w3,d3,e3,p3,q3,rfl,rfl,rfl,af,h3⟩:=trodAll_cons h2
 obtain⟨v4,w4,d4,e4,p4,q4,rfl,rfl,rfl,ag,h4⟩:=trodAll_cons h3
 obtain⟨rfl,rfl,rfl⟩:=trodAll_nil h4
 exact⟨v0,v1,v2,v3,v4,d0,d1,d2,d3,d4,p0,p1,p2,p3,p4,by cases args;simp_all,rfl,by simp,ab,ac,ae,af,ag⟩
end
theorem zrU(os:Os)(started:os.Started)(H:Type)(enc:TypeId×Value->H) :
  ReturnsInHanded {} Tryz.checked os 10 .any (fun w args=>(Rows.floorAgainSpec.pre enc Tryz.prog Tryz.f10 [] false w args/\laidMetH Tryz.prog zdJ w)/\sizedMet enc Tryz.prog Tryz.f10 (OpenSpec.ofChange Rows.floorAgainSpec) false w args)
   (Rows.floorAgainSpec.post enc Tryz.prog Tryz.f10 false true false false):=by
 refine zhv (C:=Tryz.checked) (X:=fun w _=>laidMetH Tryz.prog zdJ w) (fun _ _ _ hh h=>h.of_heap hh) own started (by kernel_rfl) Tryz.func10
  (ChangeSpec.witness_shaped (enc:=enc) (C:=Tryz.checked) (os:=os) (X:=fun w _=>laidMetH Tryz.prog zdJ w) false (zpq os) #[.agg #[.slice none 0 0,.int .i64 0,.int .i64 0,.int .i64 0],.int .i64 0,.int .i64 0,.slice none 0 0,.int .u8 0] 8 rfl (World.shaped_of_RefB (by kernel_rfl) (by kernel_rfl)) (by kernel_rfl) (by kernel_rfl) (by kernel_rfl) (zoP os _)) ?_
 intro W base args ds gs before ab hW hL hS
 have aa:∀(j:Nat) t v,Tryz.f10.params[j]?=some t->args[j]?=some v->Value.okWide Tryz.prog W .any base t v:=ab
 have ac:=hW
 obtain⟨p,q,ae,hV,rfl,am,an⟩:=hW
 have hA:DataW.TrodAll enc Tryz.prog W 0 (fun _=>true) true Tryz.f10.params.toList args.toList ds p:=ae
 have aj:=hA
 rw[Tryz.params10] at hA aa
 obtain⟨v0,v1,v2,v3,v4,d0,d1,d2,d3,d4,p0,p1,p2,p3,p4,rfl,rfl,rfl,h0,h1,h2,h3,h4⟩:=zsD hA
 obtain⟨rfl,rfl⟩:=trodVars_none hV
 obtain⟨m0,rfl,ak⟩:=zto (aa 0 24 v0 rfl rfl) h0
 obtain⟨x1,rfl,rfl,rfl,wf1⟩:=open_int uInt (aa 1 3 v1 rfl rfl) h1
 obtain⟨x2,rfl,rfl,rfl,wf2⟩:=open_int uInt (aa 2 3 v2 rfl rfl) h2
 obtain⟨A3,c3,l3,rfl,af,ag,ah,ai⟩:=ztg (aa 3 30 v3 rfl rfl) h3
 obtain⟨x4,rfl,rfl,rfl,wf4⟩:=open_int uU8 (aa 4 5 v4 rfl rfl) h4
 clear ae ab
 rw[List.append_nil] at ac
 refine(zr3 m0 x1 x2 A3 c3 l3 x4 W (zkz hL hS) ak wf1 wf2 af ag ah ai wf4).mono fun e W' ⟨he,hb⟩=>?_
 subst he
 exact⟨_,rfl,zoi rfl rfl ⟨rfl,rfl⟩ rfl (by kernel_rfl) ac aj hb⟩
end
end Go.Proofs.YtankkcbofgighaaGreatDoor
