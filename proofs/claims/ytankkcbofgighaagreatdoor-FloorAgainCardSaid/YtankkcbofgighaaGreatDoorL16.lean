import Derived.Test.YtankkcbofgighaaGreatDoorL6
import Derived.Test.YtankkcbofgighaaGreatDoorL15
import Derived.Deep.DeepCutAuto
import Derived.Laws.EntriesVeiled
import Derived.Shelf.Abstract
import Derived.Sort.CutIn
set_option linter.all false
set_option maxRecDepth 100000
set_option maxHeartbeats 40000000
namespace Go.Proofs.YtankkcbofgighaaGreatDoor
namespace Ru
open Go.RowKit
theorem zqd(args:Array Value)(W:World):(callFunc 148 args).run Tryz.prog W=.ok (.enter 148 args) W:=by kernel_rfl
theorem zqe(args:Array Value)(W:World):(callFunc 149 args).run Tryz.prog W=.ok (.enter 149 args) W:=by kernel_rfl
theorem zm3(a b:Int)(w:World):Calls Tryz.prog 148 #[.agg #[.int .i64 a,.int .i64 b]] w (Ret (.int .i64 a) w):=by
 go_enter Tryz.func148,Tryz.ntmps148
 go_wp2
 go_ret
 exact⟨rfl,nxA _ _⟩
theorem zm4(a b:Int)(w:World):Calls Tryz.prog 149 #[.agg #[.int .i64 a,.int .i64 b]] w (Ret (.int .i64 b) w):=by
 go_enter Tryz.func149,Tryz.ntmps149
 go_wp2
 go_ret
 exact⟨rfl,nxA _ _⟩
theorem zgS{w:World}{b:Nat}{a0:Value}(h:Bx w b [a0]):(loadVar 165 ⟨b,0,none⟩).run Tryz.prog w=.ok (.agg #[a0]) w:=by
 have c0:=h.c 0 _ rfl
 clear h
 go_simp
theorem zoI(w:World):Calls Tryz.prog 82 #[] w (Ret (.tuple #[.agg #[.func (.func 148) #[] #[]],.agg #[.func (.func 149) #[] #[]]]) w):=by
 have aa:=(nxA w (.cells #[.nilFunc] 165)).trans ((nxA (w.alloc (.cells #[.nilFunc] 165)) (.cells #[.nilFunc] 165)).mono (by simp))
 have X0:=qG ((Bx.new w #[.nilFunc] 165).next (nxA _ (.cells #[.nilFunc] 165)))
 have Y0:=qG (show Bx ((w.alloc (.cells #[.nilFunc] 165)).alloc (.cells #[.nilFunc] 165)) (w.heap.size+1) [.nilFunc] from by
  have:=Bx.new (w.alloc (.cells #[.nilFunc] 165)) #[.nilFunc] 165
  rw[World.size_alloc] at this
  exact this)
 have B0:=qG aa
 clear aa
 go_enter Tryz.func82,Tryz.ntmps82
 go_upto_region 1 with fail
 generalize((w.alloc (.cells #[.nilFunc] 165)).alloc (.cells #[.nilFunc] 165))=V at *
 have c0:=X0.o.c 0 _ rfl
 have d0:=Y0.o.c 0 _ rfl
 have f0:=X0.o.fr 0
 have g0:=Y0.o.fr 0
 have ab:w.heap.size+1≠w.heap.size:=by omega
 go_wp2
 have X1:=(X0.o.setAll [.func (.func 148) #[] #[]] rfl).setOther (g:=w.heap.size+1) (by omega) [.func (.func 149) #[] #[]] 0
 have Y1:=(Y0.o.setOther (g:=w.heap.size) (by omega) [.func (.func 148) #[] #[]] 0).setAll [.func (.func 149) #[] #[]] rfl
 refine bodyPost_ret (zbB rfl rfl rfl (zgS X1) (zgS Y1)) rfl ?_
 exact⟨rfl,zac (b:=w.heap.size+1) (by omega) [.func (.func 149) #[] #[]] 0 (zac (b:=w.heap.size) (qQ _) [.func (.func 148) #[] #[]] 0 B0.o)⟩
structure EndF(F:Nat)(sel:Int->Int->Int):Prop where
 e:∀ args W,(callFunc F args).run Tryz.prog W=.ok (.enter F args) W
 f:∀(a b:Int) (W:World),Calls Tryz.prog F #[.agg #[.int .i64 a,.int .i64 b]] W (Ret (.int .i64 (sel a b)) W)
def zfm(a _:Int):Int:=a
def zfn(_ b:Int):Int:=b
theorem zri:EndF 148 zfm:=⟨zqd,zm3⟩
theorem zrj:EndF 149 zfn:=⟨zqe,zm4⟩
theorem zfr(F:Nat)(sel:Int->Int->Int)(hF:EndF F sel)(b:Blade)(x:Int)(w:World)(h1:0<=sel b.fl b.fh/\sel b.fl b.fh<=10000)(h2:0<=sel b.wl b.wh*x/\sel b.wl b.wh*x<=70000000) :
  Calls Tryz.prog 83 #[.agg #[.func (.func F) #[] #[]],.agg #[.int .i64 b.fl,.int .i64 b.fh,.int .i64 b.wl,.int .i64 b.wh],.int .i64 x] w (Ret (.int .i64 (sel b.fl b.fh+sel b.wl b.wh*x)) w):=by
 have hE:=hF.e
 have ab:=(nxA w (.cells #[.func (.func F) #[] #[]] 165)).trans ((nxA (w.alloc (.cells #[.func (.func F) #[] #[]] 165)) (.cells #[.int .i64 b.fl,.int .i64 b.fh,.int .i64 b.wl,.int .i64 b.wh] 114)).mono (by simp))
 have B0:=qG ab
 have X0:=qG ((Bx.new w #[.func (.func F) #[] #[]] 165).next (nxA _ (.cells #[.int .i64 b.fl,.int .i64 b.fh,.int .i64 b.wl,.int .i64 b.wh] 114)))
 have Y0:=qG (show Bx ((w.alloc (.cells #[.func (.func F) #[] #[]] 165)).alloc (.cells #[.int .i64 b.fl,.int .i64 b.fh,.int .i64 b.wl,.int .i64 b.wh] 114)) (w.heap.size+1) b.cells from by
  have:=Bx.new (w.alloc (.cells #[.func (.func F) #[] #[]] 165)) #[.int .i64 b.fl,.int .i64 b.fh,.int .i64 b.wl,.int .i64 b.wh] 114
  rw[World.size_alloc] at this
  exact this)
 have af:=qG (fun W=>hF.f b.fl b.fh W)
 have ag:=qG (fun W=>hF.f b.wl b.wh W)
 clear ab hF
 generalize sel b.fl b.fh=p at *
 generalize sel b.wl b.wh=q at *
 have w1:IntKind.i64.wrap (q*x)=q*x:=qF _ (by omega)
 have w2:IntKind.i64.wrap (p+q*x)=p+q*x:=qF _ (by omega)
 go_enter Tryz.func83,Tryz.ntmps83
 go_wp2_with fail
 generalize((w.alloc (.cells #[.func (.func F) #[] #[]] 165)).alloc (.cells #[.int .i64 b.fl,.int .i64 b.fh,.int .i64 b.wl,.int .i64 b.wh] 114))=V at *
 have HS:=qG (show ∀ W:World,Below V.heap.size V W->(W.cell? ⟨w.heap.size,0,none⟩=some (.func (.func F) #[] #[])/\W.cell? ⟨w.heap.size+1,0,none⟩=some (.int .i64 b.fl)/\W.cell? ⟨w.heap.size+1,1,none⟩=some (.int .i64 b.fh)/\W.cell? ⟨w.heap.size+1,2,none⟩=some (.int .i64 b.wl)/\W.cell? ⟨w.heap.size+1,3,none⟩=some (.int .i64 b.wh)) from fun W h=>
  ⟨(X0.o.next h).c 0 _ rfl,(Y0.o.next h).c 0 _ rfl,(Y0.o.next h).c 1 _ rfl,(Y0.o.next h).c 2 _ rfl,(Y0.o.next h).c 3 _ rfl⟩)
 have hc:Below V.heap.size V V.drew:=(Below.refl _ _).drew
 refine wp_region_noPanic ?_
 refine wp_region_held_drew (S:=(fun W=>W.cell? ⟨w.heap.size,0,none⟩=some (.func (.func F) #[] #[])/\W.cell? ⟨w.heap.size+1,0,none⟩=some (.int .i64 b.fl)/\W.cell? ⟨w.heap.size+1,1,none⟩=some (.int .i64 b.fh)/\W.cell? ⟨w.heap.size+1,2,none⟩=some (.int .i64 b.wl)/\W.cell? ⟨w.heap.size+1,3,none⟩=some (.int .i64 b.wh))) (by kernel_rfl) ?_ (fun aa=>?_)
 ·(try dsimp only);exact HS.o _ hc
 refine ht 0 (h:=?_)
 refine ht 1 (h:=?_)
 refine ht 2 (h:=?_)
 refine ht 3 (h:=?_)
 refine ht 5 (h:=?_)
 refine ht 6 (h:=?_)
 refine ht 7 (h:=?_)
 refine ht 8 (h:=?_)
 refine ht 10 (h:=?_)
 refine r1 (i:=4) (by kernel_rfl) rfl fun K hK=>?_
 go_simp
 (with_reducible refine(af.o _).mono ?_);rintro e w3 ⟨rfl,ac⟩;replace hc:=hc.trans (ac.mono hc.size);clear ac
 refine hK.out _ _ ?_ (fun aa=>?_)
 ·(try dsimp only);exact HS.o _ hc
 clear hK K
 try simp only[qW]
 refine r1 (i:=9) (by kernel_rfl) rfl fun K hK=>?_
 go_simp
 (with_reducible refine(ag.o _).mono ?_);rintro e w4 ⟨rfl,ae⟩;replace hc:=hc.trans (ae.mono hc.size);clear ae
 refine hK.out _ _ ?_ (fun aa=>?_)
 ·(try dsimp only);exact HS.o _ hc
 clear hK K
 try simp only[qW]
 refine ht 11 (h:=?_)
 refine ht 12 (h:=?_)
 refine ht 13 (h:=?_)
 refine wpAnyH_done (by kernel_rfl) ?_ _
 refine NoPanic.normal ?_
 iterate 15 (try clear aa)
 all_goals
  go_wp2
  go_ret
  exact⟨rfl,B0.o.trans (hc.mono B0.o.size)⟩
theorem zfG(d:Die)(k x:Int)(w:World)(hd:DieAt w w.heap.size d):Calls Tryz.prog 26 #[.agg #[.slice d.A d.blades.length d.c,.int .i64 d.bound,.int .i64 d.stop,.int .i64 d.bend],.int .i64 k,.int .i64 x] w (Ret (zdZ (offS d k x)) w):=by
 have HO:=qG (show offS d k x=if dieS d=false then((0,0),1) else if inS k 0 (d.blades.length-1)=false\/inS x 0 7000=false then((0,0),2) else((offLo (bladeAt d k.toNat) x,worstS (bladeAt d k.toNat) x),0) from rfl)
 have ae:=(nxA w (.cells #[.slice d.A d.blades.length d.c,.int .i64 d.bound,.int .i64 d.stop,.int .i64 d.bend] 24)).trans ((nxA (w.alloc (.cells #[.slice d.A d.blades.length d.c,.int .i64 d.bound,.int .i64 d.stop,.int .i64 d.bend] 24)) (.cells #[.int .i64 0,.int .i64 0] 61)).mono (by simp))
 have B0:=qG ae
 have HD:=qG (hd.next ae)
 have X0:=qG ((Bx.new w #[.slice d.A d.blades.length d.c,.int .i64 d.bound,.int .i64 d.stop,.int .i64 d.bend] 24).next (nxA _ (.cells #[.int .i64 0,.int .i64 0] 61)))
 have Z0:=qG (show Bx ((w.alloc (.cells #[.slice d.A d.blades.length d.c,.int .i64 d.bound,.int .i64 d.stop,.int .i64 d.bend] 24)).alloc (.cells #[.int .i64 0,.int .i64 0] 61)) (w.heap.size+1) zec from by
  have:=Bx.new (w.alloc (.cells #[.slice d.A d.blades.length d.c,.int .i64 d.bound,.int .i64 d.stop,.int .i64 d.bend] 24)) #[.int .i64 0,.int .i64 0] 61
  rw[World.size_alloc] at this
  exact this)
 have l1:=hd.l1
 have ao:=hd
 clear hd ae
 go_enter Tryz.func26,Tryz.ntmps26
 go_wp2_with fail
 generalize((w.alloc (.cells #[.slice d.A d.blades.length d.c,.int .i64 d.bound,.int .i64 d.stop,.int .i64 d.bend] 24)).alloc (.cells #[.int .i64 0,.int .i64 0] 61))=V at *
 refine(zic d _ HD.o).mono ?_
 rintro e V1 ⟨rfl,hb⟩
 have B1:=qG (B0.o.trans (hb.mono B0.o.size))
 have D1:=qG (HD.o.next hb)
 have X1:=qG (X0.o.next hb)
 have Z1:=qG (Z0.o.next hb)
 clear hb B0 X0 Z0 HD
 have c0:=X1.o.c 0 _ rfl
 have c1:=X1.o.c 1 _ rfl
 have c2:=X1.o.c 2 _ rfl
 have c3:=X1.o.c 3 _ rfl
 have z0:=Z1.o.c 0 _ rfl
 have z1:=Z1.o.c 1 _ rfl
 have f0:=Z1.o.fr 0
 have f1:=Z1.o.fr 1
 cases hds:dieS d
 .have E1:=qG (show offS d k x=((0,0),1) by rw[HO.o,hds];rfl)
  go_wp2
  refine bodyPost_ret (zah rfl rfl (zep (Z1.o.setAll zec rfl))) rfl ?_
  refine⟨?_,zac (b:=w.heap.size+1) (by omega) zec 0 B1.o⟩
  rw[E1.o];rfl
 .have ok:=(zhA d).1 hds
  rcases zng (inS k 0 (d.blades.length-1)) (inS x 0 7000) with a1|⟨a1,a2⟩|⟨a1,a2⟩
  .have E1:=qG (show offS d k x=((0,0),2) by rw[HO.o,hds,a1];rfl)
   go_wp2_with (go_at_call 81;(with_reducible refine(zam _ _ _ _).mono ?_);rintro e w' ⟨rfl,rfl⟩)
   refine bodyPost_ret (zah rfl rfl (zep (Z1.o.setAll zec rfl))) rfl ?_
   refine⟨?_,zac (b:=w.heap.size+1) (by omega) zec 0 B1.o⟩
   rw[E1.o];rfl
  .have E1:=qG (show offS d k x=((0,0),2) by rw[HO.o,hds,a2];simp)
   go_wp2_with (go_at_call 81;(with_reducible refine(zam _ _ _ _).mono ?_);rintro e w' ⟨rfl,rfl⟩)
   refine bodyPost_ret (zah rfl rfl (zep (Z1.o.setAll zec rfl))) rfl ?_
   refine⟨?_,zac (b:=w.heap.size+1) (by omega) zec 0 B1.o⟩
   rw[E1.o];rfl
  .have hk:0<=k/\k<d.blades.length:=by simp[inS] at a1;omega
   have hx:0<=x/\x<=7000:=by simpa [inS] using a2
   obtain⟨n,rfl⟩:∃ n:Nat,k=(n:Int):=⟨k.toNat,by omega⟩
   have hn:n<d.blades.length:=by omega
   have E1:=qG (show offS d n x=((offLo (bladeAt d n) x,worstS (bladeAt d n) x),0) by rw[HO.o,hds,a1,a2];simp)
   obtain⟨b,off,e,aw,-⟩:=ao.at hn
   rw[e] at c0
   have He:=qG e
   go_wp2_with (first|(go_at_call 81;(with_reducible refine(zam _ _ _ _).mono ?_);rintro e w' ⟨rfl,rfl⟩)|fail)
   refine(zoI V1).mono ?_
   rintro e V2 ⟨rfl,hb⟩
   have af:=nxA V2 (.cells #[.func (.func 148) #[] #[]] 165)
   have hA:=af.trans ((nxA (V2.alloc (.cells #[.func (.func 148) #[] #[]] 165)) (.cells #[.func (.func 149) #[] #[]] 165)).mono af.size)
   have ab:=hb.trans (hA.mono hb.size)
   have B3:=qG (B1.o.trans (ab.mono B1.o.size))
   have D3:=qG (D1.o.next ab)
   have X3:=qG (X1.o.next ab)
   have Z3:=qG (Z1.o.next ab)
   have L3:=qG ((Bx.new V2 #[.func (.func 148) #[] #[]] 165).next (nxA _ (.cells #[.func (.func 149) #[] #[]] 165)))
   have U3:=qG (show Bx ((V2.alloc (.cells #[.func (.func 148) #[] #[]] 165)).alloc (.cells #[.func (.func 149) #[] #[]] 165)) (V2.heap.size+1) [.func (.func 149) #[] #[]] from by
    have:=Bx.new (V2.alloc (.cells #[.func (.func 148) #[] #[]] 165)) #[.func (.func 149) #[] #[]] 165
    rw[World.size_alloc] at this
    exact this)
   have hz:=Z1.o.lt
   have ax:=hb.size
   have okb:=ok.at hn
   have b1:=okb.off_bd hx.1 hx.2
   have b2:=okb.f
   have b3:=okb.w
   have ag:=qG (fun W=>zfr 148 zfm zri (bladeAt d n) x W (by unfold zfm;omega) (by unfold zfm;omega))
   have ah:=qG (fun W=>zfr 149 zfn zrj (bladeAt d n) x W (by unfold zfn;omega) (by unfold zfn;omega))
   have ai:=qG (show zfm (bladeAt d n).fl (bladeAt d n).fh+zfm (bladeAt d n).wl (bladeAt d n).wh*x=offLo (bladeAt d n) x from rfl)
   have aj:=qG (show zfn (bladeAt d n).fl (bladeAt d n).fh+zfn (bladeAt d n).wl (bladeAt d n).wh*x=worstS (bladeAt d n) x from rfl)
   rw[ai.o] at ag
   rw[aj.o] at ah
   clear af hA ab hb B1 D1 X1 Z1 c0 c1 c2 c3 z0 z1 f0 f1 okb b1 b2 b3 ai aj
   go_wp2_with fail
   generalize(V2.alloc (.cells #[.func (.func 148) #[] #[]] 165)).alloc (.cells #[.func (.func 149) #[] #[]] 165)=V3 at *
   generalize offLo (bladeAt d n) x=lo at *
   generalize worstS (bladeAt d n) x=hi at *
   obtain⟨b',off',e',ac,h0,h1,h2,h3⟩:=D3.o.at hn
   rw[He.o] at e'
   injection e' with e'
   injection e' with e1 e2
   subst e1 e2
   have c0:=X3.o.c 0 _ rfl
   rw[He.o] at c0
   have aq:=L3.o.lt
   have ar:=U3.o.lt
   have au:=X3.o.lt
   generalize bladeAt d n=s at *
   have H:=qG (show ∀ W':World,(∀ b o,b<V3.heap.size->b≠w.heap.size+1->W'.cell? ⟨b,o,none⟩=V3.cell? ⟨b,o,none⟩)->(W'.cell? ⟨V2.heap.size,0,none⟩=some (.func (.func 148) #[] #[])/\W'.cell? ⟨V2.heap.size+1,0,none⟩=some (.func (.func 149) #[] #[])/\W'.cell? ⟨w.heap.size,0,none⟩=some (.slice (some ⟨b,off,none⟩) d.blades.length d.c)/\W'.cell? ⟨b,off+n*4,none⟩=some (.int .i64 s.fl)/\W'.cell? ⟨b,off+n*4+1,none⟩=some (.int .i64 s.fh)/\W'.cell? ⟨b,off+n*4+2,none⟩=some (.int .i64 s.wl)/\W'.cell? ⟨b,off+n*4+3,none⟩=some (.int .i64 s.wh)) from fun W' h=>
    ⟨(h _ _ aq (by omega)).trans (L3.o.c 0 _ rfl),(h _ _ ar (by omega)).trans (U3.o.c 0 _ rfl),(h _ _ au (by omega)).trans c0,(h _ _ ac (by omega)).trans h0,(h _ _ ac (by omega)).trans h1,(h _ _ ac (by omega)).trans h2,(h _ _ ac (by omega)).trans h3⟩)
   have hc:Below V3.heap.size V3 V3.drew:=(Below.refl _ _).drew
   clear c0 h0 h1 h2 h3
   refine wp_region_noPanic ?_
   refine wp_region_held_drew (S:=(fun W'=>W'.cell? ⟨V2.heap.size,0,none⟩=some (.func (.func 148) #[] #[])/\W'.cell? ⟨V2.heap.size+1,0,none⟩=some (.func (.func 149) #[] #[])/\W'.cell? ⟨w.heap.size,0,none⟩=some (.slice (some ⟨b,off,none⟩) d.blades.length d.c)/\W'.cell? ⟨b,off+n*4,none⟩=some (.int .i64 s.fl)/\W'.cell? ⟨b,off+n*4+1,none⟩=some (.int .i64 s.fh)/\W'.cell? ⟨b,off+n*4+2,none⟩=some (.int .i64 s.wl)/\W'.cell? ⟨b,off+n*4+3,none⟩=some (.int .i64 s.wh))) (by kernel_rfl) ?_ (fun aa=>?_)
   ·(try dsimp only);exact H.o _ (fun b o h _=>(zhi hc).1 _ _ h)
   refine ht 0 (h:=?_)
   refine ht 1 (h:=?_)
   refine ht 2 (h:=?_)
   refine ht 3 (h:=?_)
   refine ht 4 (h:=?_)
   refine ht 5 (h:=?_)
   refine ht 6 (h:=?_)
   refine ht 8 (h:=?_)
   refine ht 9 (h:=?_)
   refine ht 10 (h:=?_)
   refine ht 11 (h:=?_)
   refine ht 12 (h:=?_)
   refine ht 13 (h:=?_)
   refine ht 14 (h:=?_)
   refine r1 (i:=7) (by kernel_rfl) rfl fun K hK=>?_
   go_simp
   (with_reducible refine(ag.o _).mono ?_);rintro e w4 ⟨rfl,ak⟩;replace hc:=hc.trans (ak.mono hc.size);clear ak;have z0:=(Z3.o.next hc).c 0 _ rfl;have z1:=(Z3.o.next hc).c 1 _ rfl;have f0:=(Z3.o.next hc).fr 0;have f1:=(Z3.o.next hc).fr 1
   refine hK.out _ _ ?_ (fun aa=>?_)
   ·(try dsimp only);exact H.o _ (fun b o h _=>(zhi hc).1 _ _ h)
   clear hK K
   try simp only[qW]
   refine r1 (i:=15) (by kernel_rfl) rfl fun K hK=>?_
   go_simp
   (with_reducible refine(ah.o _).mono ?_);rintro e w5 ⟨rfl,am⟩;replace hc:=hc.trans (am.mono hc.size);clear am;have z0:=(Z3.o.next hc).c 0 _ rfl;have z1:=(Z3.o.next hc).c 1 _ rfl;have f0:=(Z3.o.next hc).fr 0;have f1:=(Z3.o.next hc).fr 1
   refine hK.out _ _ ?_ (fun aa=>?_)
   ·(try dsimp only);exact H.o _ (fun b o h _=>(zhi hc).1 _ _ h)
   clear hK K
   try simp only[qW]
   refine ht 16 (h:=?_)
   refine r1 (i:=17) (by kernel_rfl) rfl fun K hK=>?_
   go_simp
   skip
   refine hK.out _ _ ?_ (fun aa=>?_)
   ·(try dsimp only);exact H.o _ (fun b o h an=>(qA _ _ _ _ (by intro e;injection e with e;exact an e.symm)).trans ((qA _ _ _ _ (by intro e;injection e with e;exact an e.symm)).trans ((zhi hc).1 _ _ h)))
   clear hK K
   try simp only[qW]
   refine ht 18 (h:=?_)
   refine wpAnyH_done (by kernel_rfl) ?_ _
   refine NoPanic.normal ?_
   iterate 20 (try clear aa)
   all_goals
    go_wp2
    refine bodyPost_ret (zah rfl rfl (zep ((Z3.o.next hc).setAll [.int .i64 lo,.int .i64 hi] rfl))) rfl ?_
    refine⟨?_,zac (b:=w.heap.size+1) (by omega) [.int .i64 lo,.int .i64 hi] 0 (B3.o.trans (hc.mono B3.o.size))⟩
    rw[E1.o];rfl
end Ru
namespace Le
open Go.RowKit
attribute [local go_sem] Oper.semAt_some
theorem Bx.nc{W W':World}{row:Option Nat}{b:Nat}{vs:List Value}(h:Bx W b vs)(hn:0<vs.length)(hg:W.grownBy W' row)(hr:∀ r,row=some r->∃ o:Obj,W.heap[r]?=some o/\o.isCells=false):Bx W' b vs:=by
 obtain⟨o,ho,hc⟩:=cells_of_cell (h.c 0 _ (qN hn))
 have hk:=grownBy_keeps_cells hg hr ho hc
 exact⟨qM h.lt hg.size,fun j u hu=>(World.cell?_of_block (a:=⟨b,j,none⟩) hk).trans (h.c j u hu),fun j=>(World.frozen?_of_block (a:=⟨b,j,none⟩) hk).trans (h.fr j)⟩
theorem zes{B:Nat}{W W':World}(h:Below W.heap.size W W'):KeepsFrom B W W':=(KeepsOthers.of_grownBy (zbj h none) (fun _ _ e=>by cases e)).from B
theorem zqY{n0:Nat}{w:World}(hn:n0<=w.heap.size)(W:World)(l:Nat)(o o':Obj)(hl:w.heap.size<=l)(h:W.heap[l]?=some o)(h1:o.isCells=false)(h2:o.isWalk=false):Below n0 W (W.putObj l o'):=belowK_b hn W l o o' hl h h1 h2
section
variable {F:Fence} {n:Nat} {P:Program} {ops:Array Oper} {Q:Exit->Act->World->Prop} {a:Act} {w:World} {rest:List Oper} {op:Oper}
theorem zfH(aa:op.guard=none)(ty:TypeId)(x:Operand)(ho:op.op=.load ty x)
  (b o:Nat) (hx:a.eval x=.pointer (some ⟨b,o,none⟩)) (cs:List Value) (d:TypeDesc) (hc:w.rangeAt b o cs)
  (hu:P.underlying ty=some d) (hd:d.isRow=true) (hi:(P.info? ty).map (·.size)=some cs.length)
  (h:wpListIn F n P ops Q rest (a.put op.dst (.agg cs.toArray)) w):wpListIn F n P ops Q (op :: rest) a w:=by
 refine wpListIn_plain aa fun K' ab=>?_
 unfold Oper.wpIn
 refine⟨?_,?_⟩
 .simp[Oper.about,ho]
 .rw[Oper.semAt_plain F _ _ (by rw[ho];intro c ac;cases ac)]
  unfold execOp
  simp only[ho,hx,Instr.loadAt,Instr.sureAddr,Sem.run_bind,Sem.run_pure,Result.andThen_ok,run_loadVar_mid w b o ty cs d hc hu hd hi]
  exact ab _ _ h
theorem zeH(aa:op.guard=none)(ty:TypeId)(x y:Operand)(ho:op.op=.store ty x y)
  (b o:Nat) (cells:Array Value) (hx:a.eval x=.pointer (some ⟨b,o,none⟩)) (hy:a.eval y=.agg cells)
  (ht:w.there b o cells.size) (hi:(P.info? ty).map (·.size)=some cells.size) (h1:cells.all (·.oneCell')=true)
  (h:wpListIn F n P ops Q rest (a.put op.dst undef) (w.setCells b o cells.toList)):wpListIn F n P ops Q (op :: rest) a w:=by
 refine wpListIn_plain aa fun K' ab=>?_
 unfold Oper.wpIn
 refine⟨?_,?_⟩
 .simp[Oper.about,ho]
 .rw[Oper.semAt_plain F _ _ (by rw[ho];intro c ac;cases ac)]
  unfold execOp
  simp only[ho,hx,hy,Instr.storeAt,Instr.sureAddr,Sem.run_bind,Sem.run_pure,Result.andThen_ok,run_storeVar_mid w b o ty cells ht hi h1]
  exact ab _ _ h
end
def orW(q:Nat->Bool):List Nat->Nat
|[]=>0
|p :: l=>orW q l ||| if q p then 2 ^ p else 0
theorem zd1(q:Nat->Bool)(p:Nat):∀ l:List Nat,(orW q l).testBit p=(decide (p∈l)&&q p)
|[]=>by simp[orW]
|x :: l=>by
  have ih:=zd1 q p l
  show(orW q l ||| if q x then 2 ^ x else 0).testBit p=_
  rw[Nat.testBit_or,ih]
  by_cases e:p=x
  .subst e
   cases q p <;> simp
  .have:(if q x then 2 ^ x else 0).testBit p=false:=by
    split
    .rw[Nat.testBit_two_pow];simp;omega
    .rw[Nat.zero_testBit]
   rw[this];simp[e]
theorem zqU{q:Nat->Bool}{l:List Nat}(h:∀ p∈l,p<8):orW q l<256:=by
 refine Nat.lt_pow_two_of_testBit (n:=8) _ fun i hi=>?_
 rw[zd1]
 cases e:decide (i∈l)
 .rfl
 .have:=h i (of_decide_eq_true e);omega
theorem zpY{q:Nat->Bool}{s:Nat}(hs:s<256)(h:∀ p,q p=true->has s p=true):orW q (zbH s)=setB q 8:=by
 refine Nat.eq_of_testBit_eq fun p=>?_
 rw[zd1,zi3]
 cases hq:q p with
|false=>simp
|true=>
  have hp:=h p hq
  have h1:=zn1 (by omega) hp
  have h2:p<8:=Nat.lt_of_not_le fun hn=>by
   have:has s p=false:=Nat.testBit_lt_two_pow (qM hs (Nat.pow_le_pow_right (by omega) hn:2 ^ 8<=2 ^ p))
   rw[this] at hp;cases hp
  rw[decide_eq_true h1,decide_eq_true h2]
theorem zpX(q:Nat->Bool)(l:List Nat)(x:Nat):orW q (l++[x])=orW q l ||| if q x then 2 ^ x else 0:=by
 refine Nat.eq_of_testBit_eq fun p=>?_
 rw[Nat.testBit_or,zd1,zd1]
 by_cases e:p=x
 .subst e
  cases q p <;> simp
 .have:(if q x then 2 ^ x else 0).testBit p=false:=by
   split
   .rw[Nat.testBit_two_pow];simp;omega
   .rw[Nat.zero_testBit]
  rw[this];simp[e]
def gvB(t:Tl)(k p:Nat):Bool:=!decide (t.admits.getD p (-1)=0)&&canB (fun i=>zbY t (zaD k i)) (t.n.toNat-1) (decL t.admits p)
theorem zk6{t:Tl}(ok:OkT t){k p:Nat}(hk:k<t.n.toNat):gvB t k p=true↔t.admits.getD p (-1)≠0/\Fit (t.n.toNat-1) (fun i q=>has (opG t t.n.toNat (zaD k i)) q) (admA (decL t.admits p)):=by
 unfold gvB
 rw[Bool.and_eq_true,Bool.not_eq_true',decide_eq_false_iff_not,zdB fun i q h=>zfX ok.lent (fun x hx=>(ok.look x hx).1) _ _ h]
 refine and_congr_right fun _=>Fit.congr fun i hi=>?_
 funext q
 unfold zbY opG
 rw[if_pos (by unfold zaD;split <;> omega)]
theorem znz{t:Tl}(ok:OkT t){k p:Nat}(hk:k<t.n.toNat)(h:whoB t k p=true):zbY t k p=true:=by
 obtain⟨f,hf,rfl⟩:=(ziT ok.lent (fun x hx=>(ok.look x hx).1) hk).1 h
 exact hf.can k hk
theorem zqz{t:Tl}(ok:OkT t){k p:Nat}(hk:k<t.n.toNat)(hs:zbY t k p=true):whoB t k p=gvB t k p:=by
 rw[Bool.eq_iff_iff,ziT ok.lent (fun x hx=>(ok.look x hx).1) hk,zk6 ok hk]
 obtain⟨n,hn⟩:∃ n,t.n.toNat=n+1:=⟨t.n.toNat-1,by omega⟩
 rw[hn] at hk ⊢
 rw[<- ze6 (n:=n) (S:=zbY t) (a:=admA t.admits) (k:=k) (p:=p) (by omega) hs,Nat.add_sub_cancel]
 have h0:admA t.admits p≠some 0↔t.admits.getD p (-1)≠0:=not_congr zfi
 rw[h0]
 refine and_congr_right fun h1=>?_
 rw[zfj h1]
 refine Fit.congr fun i hi=>?_
 funext q
 unfold zbY opG
 rw[if_pos (by unfold zaD;split <;> omega)]
theorem zh7{q q':Nat->Bool}:∀{l:List Nat},(∀ p∈l,q p=q' p)->orW q l=orW q' l
|[],_=>rfl
|x :: l,h=>by
  show orW q l ||| (if q x then 2 ^ x else 0)=orW q' l ||| if q' x then 2 ^ x else 0
  rw[zh7 fun p hp=>h p (List.mem_cons_of_mem _ hp),h x qE]
theorem zow(m:Mt)(g:Nat->Nat)(k p:Nat)(w:World)(hr:TaleAt w w.heap.size m)(ok:OkBk m g)(h1:1<=m.t.admits.length)(hk:k<m.t.n.toNat):Calls Tryz.prog 99 #[.agg (bkA m g),.int .i64 k,.int .i64 p] w (zps m g k p w):=zm1 m g k p w hr ok h1 hk
structure WhI(m:Mt)(k b6:Nat)(q:Nat->Bool)(w:World)(pre:List (Fin 8))(W:World):Prop where
 x3:Bx W (w.heap.size+1) [.int .i64 k]
 x4:Bx W (w.heap.size+1+1) [.int .i64 ((orW q (pre.map Fin.val):Nat):Int)]
 x6:Bx W b6 (bkA m (opG m.t m.t.n.toNat)).toList
 b:Below w.heap.size w W
theorem WhI.own(m:Mt)(k b6:Nat)(q:Nat->Bool)(w:World){B:Nat}(hB:w.heap.size<=B):OwnFrom B (WhI m k b6 q w):=by
 rintro pre W W' row ⟨h1,h2,h3,h4⟩ hg hr
 have aa:∀ r,row=some r->∃ o:Obj,W.heap[r]?=some o/\o.isCells=false:=fun r e=>(hr r e).2
 exact⟨h1.nc (by simp) hg aa,h2.nc (by simp) hg aa,h3.nc (by simp[bkA]) hg aa,h4.grown hg h4.size (fun k e=>Nat.le_trans hB (hr k e).1)⟩
theorem zb5{W:World}{b q:Nat}(h:b≠q)(o:Nat)(v:Value):(W.setCell ⟨b,o,none⟩ v).heap[q]?=W.heap[q]?:=by
 unfold World.setCell;rw[Array.getElem?_modify,if_neg (by show ¬ b=q;exact h)]
theorem zpo{w:World}{b:Nat}{x:Value}(h:Bx w b [x]):(loadVar 3 ⟨b,0,none⟩).run Tryz.prog w=.ok x w:=by
 have c0:=h.c 0 _ rfl
 clear h
 go_simp
def znw(x:Nat×Int):Value:=.tuple #[.int .i64 x.1,.int .i64 x.2]
theorem zkJ(t:Tl)(p:Int):whoS t p=if ckE t (inS p 0 (t.n-1))=0 then(setB (whoB t p.toNat) 8,0) else(0,ckE t (inS p 0 (t.n-1))):=by
 unfold whoS ckE
 cases zaN t <;> cases inS p 0 (t.n-1) <;> cases fitB t <;> simp
theorem zlk{t:Tl}{v:Bool}(h:ckE t v=0):zaN t=true/\v=true/\fitB t=true:=by
 unfold ckE at h
 revert h
 cases zaN t <;> cases v <;> cases fitB t <;> simp
theorem zqt(m:Mt)(p:Int)(w:World)(hr:TaleAt w w.heap.size m)(he:Env w):Calls Tryz.prog 35 #[.agg #[.int .i64 m.t.n,.slice m.A1 m.t.loans.length m.c1,.slice m.A2 m.t.looks.length m.c2,.slice m.A3 m.t.admits.length m.c3],.int .i64 p] w (Ret (znw (whoS m.t p)) w):=by
 have aS:∀(fn:Fn) (first cap:Array Value) (w:World),(Instr.makeFunc fn first cap).run Tryz.prog w=.ok (.func fn first cap) w:=fun _ _ _ _=>rfl
 have n1:=nxA w (.cells #[.int .i64 m.t.n,.slice m.A1 m.t.loans.length m.c1,.slice m.A2 m.t.looks.length m.c2,.slice m.A3 m.t.admits.length m.c3] 40)
 have y1:=Bx.new w #[.int .i64 m.t.n,.slice m.A1 m.t.loans.length m.c1,.slice m.A2 m.t.looks.length m.c2,.slice m.A3 m.t.admits.length m.c3] 40
 have s1:(w.alloc (.cells #[.int .i64 m.t.n,.slice m.A1 m.t.loans.length m.c1,.slice m.A2 m.t.looks.length m.c2,.slice m.A3 m.t.admits.length m.c3] 40)).heap.size=w.heap.size+1:=by simp
 have HR:=qG hr
 have HE:=qG he
 clear hr he
 refine(callsIn_wide (n:=6)).1 ?_
 refine callsIn_of_wp_marks Tryz.func35 rfl trivial ?_ rfl
 simp only[Tryz.ntmps35,List.size_toArray,List.length_cons,List.length_nil,Nat.reduceAdd,Nat.reduceSub,Array.replicate_succ,Array.replicate_zero,List.push_toArray,List.append_toArray,List.nil_append,List.cons_append]
 gi_wp2_with fail
 generalize w.alloc (.cells #[.int .i64 m.t.n,.slice m.A1 m.t.loans.length m.c1,.slice m.A2 m.t.looks.length m.c2,.slice m.A3 m.t.admits.length m.c3] 40)=V1 at *
 have n2:=nxA V1 (.cells #[.int .i64 p] 3)
 have y2:=Bx.new V1 #[.int .i64 p] 3
 have s2:(V1.alloc (.cells #[.int .i64 p] 3)).heap.size=w.heap.size+1+1:=by simp[s1]
 generalize V1.alloc (.cells #[.int .i64 p] 3)=V2 at *
 have n3:=nxA V2 (.cells #[.int .i64 0] 3)
 have y3:=Bx.new V2 #[.int .i64 0] 3
 generalize V2.alloc (.cells #[.int .i64 0] 3)=V at *
 rw[s1] at y2
 rw[s2] at y3
 have HB:=qG (n1.trans ((n2.trans (n3.mono n2.size)).mono n1.size))
 have aT:=qG ((y1.next n2).next n3)
 have ak:=qG (y2.next n3)
 have am:=qG y3
 have aU:=qG (HR.o.next HB.o)
 clear n1 n2 n3 y1 y2 y3 s1 s2 aS
 obtain⟨v,hv⟩:∃ v,v=inS p 0 (m.t.n-1):=⟨_,rfl⟩
 have HV:=qG hv
 have HW:=qG (show whoS m.t p=if ckE m.t v=0 then(setB (whoB m.t p.toNat) 8,0) else(0,ckE m.t v) from by rw[hv];exact zkJ _ _)
 refine⟨trivial,(callsIn_wide.2 (zlW m v (w.heap.size+1) w.heap.size V aU.o (fun ok W hb=>by rw[hv];exact znB m p _ _ W (ak.o.next hb) (aT.o.next hb) ⟨ok.n1,ok.n2⟩))).mono ?_⟩
 rintro e W1 ⟨an,m',g',rfl,aE⟩
 have au:=qG (HB.o.trans (an.mono HB.o.size))
 have X3:=qG (ak.o.next an)
 have X4:=qG (am.o.next an)
 have aF:=qG aE
 have n6:=nxA W1 (.cells #[.int .i64 0,.slice none 0 0,.slice none 0 0,.slice none 0 0,.int .i64 0,.int .i64 0,.int .i64 0,.int .i64 0,.int .i64 0,.int .i64 0,.int .i64 0,.int .i64 0,.int .i64 0,.int .i64 0,.int .i64 0,.int .i64 0,.int .i64 0,.int .i64 0,.int .i64 0,.int .i64 0] 176)
 have y6:=Bx.new W1 #[.int .i64 0,.slice none 0 0,.slice none 0 0,.slice none 0 0,.int .i64 0,.int .i64 0,.int .i64 0,.int .i64 0,.int .i64 0,.int .i64 0,.int .i64 0,.int .i64 0,.int .i64 0,.int .i64 0,.int .i64 0,.int .i64 0,.int .i64 0,.int .i64 0,.int .i64 0,.int .i64 0] 176
 obtain⟨L,hL⟩:∃ L,L=(bkA m' g').toList:=⟨_,rfl⟩
 have HL:=qG hL
 have ae:=qG (show L.length=20 from by rw[hL];rfl)
 have aV:=qG (show L.toArray.all (·.oneCell')=true from by rw[hL];exact zct _ _)
 have aG:=qG (show bkA m' g'=L.toArray from by rw[hL,Array.toArray_toList])
 have aW:=qG (show(Tryz.prog.info? 176).map (·.size)=some L.toArray.size from by rw[show L.toArray.size=20 from by simpa using ae.o];exact zaR)
 have aX:=qG (show(W1.alloc (.cells #[.int .i64 0,.slice none 0 0,.slice none 0 0,.slice none 0 0,.int .i64 0,.int .i64 0,.int .i64 0,.int .i64 0,.int .i64 0,.int .i64 0,.int .i64 0,.int .i64 0,.int .i64 0,.int .i64 0,.int .i64 0,.int .i64 0,.int .i64 0,.int .i64 0,.int .i64 0,.int .i64 0] 176)).there W1.heap.size 0 L.toArray.size from by rw[show L.toArray.size=20 from by simpa using ae.o];exact zbG y6 rfl)
 have Z6:=qG (y6.setAll L (by rw[ae.o];rfl))
 have ao:=qG (show w.heap.size+1+1<W1.heap.size from X4.o.lt)
 have ah:=qG (zac (b:=W1.heap.size) (by have:=au.o.size;omega) L 0 (au.o.trans (n6.mono au.o.size)))
 have Z3:=qG ((X3.o.next n6).setOther (g:=W1.heap.size) (by have:=ao.o;omega) L 0)
 have Z4:=qG ((X4.o.next n6).setOther (g:=W1.heap.size) (by have:=ao.o;omega) L 0)
 rw[<- zaQ] at Z6 ah Z3 Z4
 rw[aG.o]
 clear hL an aE hv n6 y6
 gi_upto_region 2 with (refine zeH rfl 176 (.tmp 6) (.tmp 12) rfl W1.heap.size 0 L.toArray rfl rfl aX.o aW.o aV.o ?_)
 generalize(W1.alloc (.cells #[.int .i64 0,.slice none 0 0,.slice none 0 0,.slice none 0 0,.int .i64 0,.int .i64 0,.int .i64 0,.int .i64 0,.int .i64 0,.int .i64 0,.int .i64 0,.int .i64 0,.int .i64 0,.int .i64 0,.int .i64 0,.int .i64 0,.int .i64 0,.int .i64 0,.int .i64 0,.int .i64 0] 176)).setCells W1.heap.size 0 L=W6 at *
 obtain⟨b6,aH⟩:∃ b6,b6=W1.heap.size:=⟨_,rfl⟩
 rw[<- aH] at Z6 ao ⊢
 clear aH
 by_cases h0:ckE m.t v=0
 .rw[h0]
  rw[h0] at HW
  rw[if_pos rfl] at HW
  obtain⟨em,hg⟩:=aF.o h0
  obtain rfl:m=m':=em.symm
  have HG:=qG hg
  have aI:=qG (zlk h0)
  have OK:=qG (zcL aI.o.1)
  have aY:=zb6.1 (HV.o.symm.trans aI.o.2.1)
  obtain⟨k,hk⟩:∃ k:Nat,p=k:=⟨p.toNat,by omega⟩
  subst hk
  have aZ:=OK.o.n2
  have a7:=OK.o.n1
  have ai:k<m.t.n.toNat:=by omega
  have aP:k<16:=by omega
  rw[show((k:Int)).toNat=k from by omega] at HW
  clear h0 aF hg aY em a7 aZ
  have c3:=Z3.o.c 0 _ rfl
  have aw:=zd9 m g' aP
  rw[<- HL.o] at aw
  have c6:=Z6.o.c _ _ aw
  have l6:=Z6.o.lt
  have l3:=Z3.o.lt
  have aJ:=qG (show g' k=susp m.t.loans m.t.looks k from by rw[HG.o];unfold opG;rw[if_pos ai])
  rw[aJ.o] at c6
  obtain⟨set,af⟩:∃ set,set=susp m.t.loans m.t.looks k:=⟨_,rfl⟩
  rw[<- af] at c6 aJ
  have ax:=qG af
  have aq:=qG (show set<256 by rw[af];exact zkM OK.o k)
  clear af aw
  gi_wp2_with fail
  refine⟨trivial,(callsIn_wide.2 (zku set _)).mono ?_⟩
  rintro e W7 ⟨rfl,rfl⟩
  gi_wp2_with fail
  have n8:=nxA W6 (.cells #[.int .i64 set] 3)
  have a8:(W6.alloc (.cells #[.int .i64 set] 3)).heap.size=W6.heap.size+1:=by simp
  have aK:(W6.alloc (.cells #[.int .i64 set] 3)).cell? ⟨W6.heap.size,0,none⟩=some (.int .i64 set):=(Bx.new W6 #[.int .i64 set] 3).c 0 _ rfl
  have ab:=ah.o.trans (n8.mono ah.o.size)
  have h0:WhI m k b6 (gvB m.t k) w [] (W6.alloc (.cells #[.int .i64 set] 3)):=⟨Z3.o.next n8,Z4.o.next n8,by have:=Z6.o.next n8;rw[HL.o,HG.o] at this;exact this,ab⟩
  have a9:=ah.o.size
  generalize W6.alloc (.cells #[.int .i64 set] 3)=V8 at *
  have aj:=zhC 5 (by omega) set w.heap.size W6.heap.size V8 aq.o (by omega) aK ⟨ab.size,HE.o.lt,HE.o.next ab⟩
  have bA:=qG (HE.o.next ab)
  have bB:=qG h0
  clear n8 aK
  refine wpIn_rangeFunc_ownH rfl (by omega) (gf:=163) (lb:=#[.pointer (some ⟨W6.heap.size,0,none⟩)]) rfl trivial (enters_of Tryz.func163 (by kernel_rfl) rfl)
   aj (fun h k=>Below.trans h k) (zqY (by omega)) (Below.refl _ _) (fun _=>rfl)
   (WhI m k b6 (gvB m.t k) w) (fun _ _ _=>False) (WhI.own m k b6 (gvB m.t k) w (by have:=ab.size;omega)) (fun _ _ _ _ _ h _ _=>h) h0
   (fun x a' _=>a'={ tmps:=#[.agg #[.int .i64 m.t.n,.slice m.A1 m.t.loans.length m.c1,.slice m.A2 m.t.looks.length m.c2,.slice m.A3 m.t.admits.length m.c3],.int .i64 k,.pointer (some ⟨w.heap.size,0,none⟩),.pointer (some ⟨w.heap.size+1,0,none⟩),.pointer (some ⟨w.heap.size+1+1,0,none⟩),.int .i64 0,.pointer (some ⟨b6,0,none⟩),.int .i64 (x.val:Nat),.tuple #[.agg L.toArray,.int .i64 0],.agg #[.int .i64 m.t.n,.slice m.A1 m.t.loans.length m.c1,.slice m.A2 m.t.looks.length m.c2,.slice m.A3 m.t.admits.length m.c3],.func (.func 96) #[] #[.pointer (some ⟨w.heap.size+1,0,none⟩),.pointer (some ⟨w.heap.size,0,none⟩)],.tuple #[.agg L.toArray,.int .i64 0],.agg L.toArray,.int .i64 0,.int .i64 0,.bool false,undef,.int .i64 k,.pointer (some ⟨b6,4,none⟩),.pointer (some ⟨b6,4+k,none⟩),.int .i64 set,.func (.func 163) #[] #[.pointer (some ⟨W6.heap.size,0,none⟩)],.int .i64 (x.val:Nat),undef,undef,undef,undef,undef,undef,undef,undef,undef],defers:=[] })
   (fun _ _ _ _ _ _ h _ _=>h)
   ?assign ?body ?done ?stop
  case assign=>
   rintro l' pre x W K hi hK
   dsimp only[encB]
   gi_wp2
   exact hK _ _ (zes (Below.refl _ _)) (Below.refl _ _) hi rfl
  case body=>
   rintro l' pre x a' W hl bu hi rfl bz
   obtain⟨p,hp⟩:∃ p:Nat,x.val=p:=⟨_,rfl⟩
   have bC:p<8:=by rw[<- hp];exact x.isLt
   have HI:=qG hi
   have aL:Bx W b6 L:=by have:=hi.x6;rw[<- HG.o,<- HL.o] at this;exact this
   have aQ:=qG aL.range
   have ba:=qG (show(Tryz.prog.info? 176).map (·.size)=some L.length from by rw[ae.o];exact zaR)
   have c3:=hi.x3.c 0 _ rfl
   have bf:=qG ((HR.o.below hi.b).more hi.b.size)
   have ay:=qG (zpX (gvB m.t k) (pre.map Fin.val) p)
   have az:=qG (show(pre++[x]).map Fin.val=pre.map Fin.val++[p] by simp[hp])
   have bv:orW (gvB m.t k) (pre.map Fin.val)<256:=zqU fun q hq=>by
    obtain⟨j,-,rfl⟩:=List.mem_map.1 hq
    exact j.isLt
   have c4:=hi.x4.c 0 _ rfl
   have f4:=hi.x4.fr 0
   have l4:=hi.x4.lt
   rw[hp]
   clear hi aL aj h0 hp a9 a8 c6 l6 l3
   gi_wp2_with (refine zfH rfl 176 (.tmp 6) rfl b6 0 rfl L _ aQ.o zaC rfl ba.o ?_)
   rw[<- aG.o,HG.o]
   refine⟨trivial,CallsIn.inRound l' (callsIn_wide.2 ((zow m (opG m.t m.t.n.toNat) k p W bf.o (zgN OK.o) OK.o.a1 ai).mono ?_))⟩
   rintro e W9 ⟨gb,rfl,ac,aM⟩
   have aN:=qG (show gb=gvB m.t k p from Bool.eq_iff_iff.2 (aM.trans (zk6 OK.o ai).symm))
   have ar:=qG ac
   have Y3:=qG (HI.o.x3.next ac)
   have Y4:=qG (HI.o.x4.next ac)
   have Y6:=qG (HI.o.x6.next ac)
   have YB:=qG (HI.o.b.trans (ac.mono HI.o.b.size))
   have bh:=HI.o.b.size
   have aO:=qG bh
   have c4:=Y4.o.c 0 _ rfl
   have f4:=Y4.o.fr 0
   have l4:=Y4.o.lt
   generalize orW (gvB m.t k) (pre.map Fin.val)=S at *
   clear ac aM HI
   cases gb
   .have aA:=qG (show orW (gvB m.t k) ((pre++[x]).map Fin.val)=S from by rw[az.o,ay.o,<- aN.o];exact Nat.or_zero _)
    gi_wp2_with fail
    dsimp only[Exit.inBlock,Exit.then,ownPostG]
    exact⟨zes ar.o,ar.o.mono aO.o,Y3.o,by rw[aA.o];exact Y4.o,Y6.o,YB.o⟩
   .have aA:=qG (show orW (gvB m.t k) ((pre++[x]).map Fin.val)=S ||| 2 ^ p from by rw[az.o,ay.o,<- aN.o];rfl)
    have bi:=qG (show bits BinOp.or IntKind.i64 (S:Int) (IntKind.i64.wrap (2 ^ p))=((S ||| 2 ^ p:Nat):Int) from by
     obtain⟨T,hT⟩:∃ T:Nat,T=2 ^ p:=⟨_,rfl⟩
     have bw:T<=128:=by rw[hT];exact Nat.pow_le_pow_right (by decide) (show p<=7 by omega)
     rw[show((2:Int) ^ p)=(T:Int) by rw[hT];push_cast;rfl,<- hT,qF _ (by omega)]
     exact zcm _ _ (by omega) (by omega))
    gi_upto_region 7 with fail
    refine zcD (S:=(fun W'=>True)) (by kernel_rfl) (by kernel_rfl) ?_ (fun ag=>?_)
    ·(try dsimp only);try trivial
    refine ht 1 (h:=?_)
    refine ht 2 (h:=?_)
    refine r1 (i:=0) (by kernel_rfl) rfl fun K hK=>?_
    go_simp
    skip
    refine hK.out _ _ ?_ (fun ag=>?_)
    ·(try dsimp only);try trivial
    clear hK K
    try simp only[qW]
    refine ht 3 (h:=?_)
    refine r1 (i:=4) (by kernel_rfl) rfl fun K hK=>?_
    go_simp
    skip
    refine hK.out _ _ ?_ (fun ag=>?_)
    ·(try dsimp only);try trivial
    clear hK K
    try simp only[qW]
    refine wpAnyH_done (by kernel_rfl) ?_ _
    dsimp only[Only]
    iterate 6 (try clear ag)
    rw[bi.o]
    have am:=qG ((Y4.o.set (k:=0) (by simp) (.int .i64 ((S ||| 2 ^ p:Nat):Int))).drew)
    have ak:=qG ((Y3.o.other (g:=w.heap.size+1+1) (by omega) 0 (.int .i64 ((S ||| 2 ^ p:Nat):Int))).drew)
    have bj:=qG ((Y6.o.other (g:=w.heap.size+1+1) (by have:=ao.o;omega) 0 (.int .i64 ((S ||| 2 ^ p:Nat):Int))).drew)
    have bk:=qG ((YB.o.setCell (p:=⟨w.heap.size+1+1,0,none⟩) (by show w.heap.size<=w.heap.size+1+1;omega) (.int .i64 ((S ||| 2 ^ p:Nat):Int))).drew)
    have HK:=qG (show KeepsFrom V8.heap.size W ((W9.setCell ⟨w.heap.size+1+1,0,none⟩ (.int .i64 ((S ||| 2 ^ p:Nat):Int))).drew) from(zes ar.o).trans (((KeepsOthers.setCell _ _ _).from _).trans (zes ((Below.refl _ _).drew))))
    have bp:=qG (show Below w.heap.size W ((W9.setCell ⟨w.heap.size+1+1,0,none⟩ (.int .i64 ((S ||| 2 ^ p:Nat):Int))).drew) from((ar.o.mono aO.o).setCell (p:=⟨w.heap.size+1+1,0,none⟩) (by show w.heap.size<=w.heap.size+1+1;omega) _).drew)
    clear c4 f4 l4
    generalize(W9.setCell ⟨w.heap.size+1+1,0,none⟩ (.int .i64 ((S ||| 2 ^ p:Nat):Int))).drew=W10 at *
    gi_wp2_with fail
    dsimp only[Exit.inBlock,Exit.then,ownPostG]
    exact⟨HK.o,bp.o,ak.o,by rw[aA.o];exact am.o,bj.o,bk.o⟩
  case done=>
   rintro D xs W hD hS hi hK
   have aR:=qG (show orW (gvB m.t k) (xs.map Fin.val)=setB (whoB m.t k) 8 from by
    rw[hS,<- zpY aq.o (fun p hp=>by have:=znz OK.o ai hp;rw[ax.o];exact this)]
    exact zh7 fun p hp=>(zqz OK.o ai (by have:=zoY hp;rw[ax.o] at this;exact this)).symm)
   have aa:=hi.x4
   rw[aR.o] at aa
   have am:=qG aa
   have bD:=qG hi.b
   have c4:=aa.c 0 _ rfl
   have f4:=aa.fr 0
   have l4:=aa.lt
   have bq:w.heap.size+1+1≠D:=fun e=>by
    obtain⟨o,ho,hc⟩:=cells_of_cell c4
    rw[e] at ho
    have ho:W.heap[D]?=some o:=ho
    rw[hK] at ho
    injection ho with ho
    rw[<- ho] at hc
    cases hc
   have HK:=qG hK
   generalize setB (whoB m.t k) 8=R at *
   have aB:=qG (aa.set (k:=0) (by simp) (.int .i64 (R:Int)))
   have aC:=qG (show(W.setCell ⟨w.heap.size+1+1,0,none⟩ (.int .i64 (R:Int))).heap[D]?=_ from(zb5 bq 0 (.int .i64 (R:Int))).trans hK)
   have aD:=qG (hi.b.setCell (p:=⟨w.heap.size+1+1,0,none⟩) (by show w.heap.size<=w.heap.size+1+1;omega) (.int .i64 (R:Int)))
   clear aa hi hK aj h0 hS
   gi_wp2_with fail
   refine⟨by simp,.inl ⟨_,_,rfl,run_takeDeferred aC.o,?_⟩⟩
   refine⟨_,zah rfl rfl (zpo (aB.o.nc (by simp) (grownBy_putObj' _ D _) (fun r e=>by cases e;exact⟨_,aC.o,rfl⟩))),?_,aD.o.trans (belowK_b (w:=w) (qQ _) _ D _ _ (by have:=ab.size;omega) aC.o rfl rfl)⟩
   rw[HW.o]
   rfl
  case stop=>
   rintro D c pre W _ _ h _
   exact h.elim
 .rw[if_neg h0] at HW
  generalize ckE m.t v=x at *
  have hx:(x==0)=false:=by simpa using h0
  have bE:(x !=0)=true:=by simpa using h0
  have c4:=Z4.o.c 0 _ rfl
  have f4:=Z4.o.fr 0
  have l4:=Z4.o.lt
  have aB:=qG (Z4.o.set (k:=0) (by simp) (.int .i64 0))
  have aD:=qG (ah.o.setCell (p:=⟨w.heap.size+1+1,0,none⟩) (by show w.heap.size<=w.heap.size+1+1;omega) (.int .i64 0))
  clear h0
  gi_wp2_with fail
  exact⟨_,zah rfl rfl (zpo aB.o),by rw[HW.o];rfl,aD.o⟩
end Le
namespace Le
open Go.RowKit
def zhw(x:(Int×Int)×Int):Value:=.tuple #[.agg #[.int .i64 x.1.1,.int .i64 x.1.2],.int .i64 x.2]
theorem zjw(t:Tl)(p:Int):zaX t p=if ckE t (inS p 0 ((t.admits.length:Int)-1))=0 then(if t.admits.getD p.toNat 0≠-1 then((t.admits.getD p.toNat 0,t.admits.getD p.toNat 0),0) else
 (((zax t p.toNat (t.n.toNat+1)).1,(zax t p.toNat (t.n.toNat+1)).2.1),0)) else((0,0),ckE t (inS p 0 ((t.admits.length:Int)-1))):=by
 unfold zaX ckE
 cases zaN t <;> cases inS p 0 ((t.admits.length:Int)-1) <;> cases fitB t <;> simp
theorem zpR{t:Tl}(ok:OkT t){p:Nat}{v:Int}(hv:0<=v/\v<=16):OkT (zbL t p v):=by
 refine⟨ok.n1,ok.n2,?_,?_,ok.lo,ok.lk,ok.lent,fun x hx=>?_,ok.look,fun m hm=>?_⟩
 .show 1<=(t.admits.set p v).length;rw[List.length_set];exact ok.a1
 .show(t.admits.set p v).length<=6;rw[List.length_set];exact ok.a2
 .show x.p<((t.admits.set p v).length:Int);rw[List.length_set];exact ok.per x hx
 .rcases List.mem_or_eq_of_mem_set hm with h|h
  .exact ok.adm m h
  .omega
def spanL(x:Int×Int×Bool):Int×Int:=if x.2.2 then(x.1,x.2.1) else(-1,0)
theorem zlt(t:Tl)(p n:Nat):spanL (zax t p (n+1))=if fitB (zbL t p n) then(if(spanL (zax t p n)).1<0 then(n:Int) else(spanL (zax t p n)).1,(n:Int)) else spanL (zax t p n):=by
 have aa:∀ m,(zax t p m).2.2=true->0<=(zax t p m).1:=fun m=>by
  induction m with
 |zero=>intro h;cases h
 |succ m ih=>
   show(if fitB (zbL t p m) then(if(zax t p m).2.2 then(zax t p m).1 else(m:Int),(m:Int),true) else zax t p m).2.2=true->0<=(if fitB (zbL t p m) then(if(zax t p m).2.2 then(zax t p m).1 else(m:Int),(m:Int),true) else zax t p m).1
   split
   .intro _
    show 0<=if(zax t p m).2.2 then(zax t p m).1 else(m:Int)
    split
    .rename_i h;exact ih h
    .omega
   .exact ih
 have h1:=aa n
 show spanL (if fitB (zbL t p n) then(if(zax t p n).2.2 then(zax t p n).1 else(n:Int),(n:Int),true) else zax t p n)=_
 cases fitB (zbL t p n)
 .rfl
 .rw[if_pos rfl,if_pos rfl]
  unfold spanL
  cases h:(zax t p n).2.2
  .simp
  .have:=h1 h
   simp
   omega
theorem zlE{t:Tl}(ok:OkT t){p:Nat}(hp:p<t.admits.length)(hs:t.admits.getD p 0=-1)(hf:fitB t=true):(zax t p (t.n.toNat+1)).2.2=true:=by
 have ha:admA t.admits p=none:=(zcX (fun x hx=>(ok.adm x hx).1)).2 (.inr hs)
 obtain⟨m,hm,aa⟩:=(Fit.some p ha).1 ((zcA ok.lent (fun x hx=>(ok.look x hx).1)).1 hf)
 have ab:=ok.n2
 have h2:fitB (zbL t p m)=true:=by
  rw[zcA (t:=zbL t p m) ok.lent (fun x hx=>(ok.look x hx).1)]
  have e:admA (zbL t p m).admits=setA (admA t.admits) p m:=by
   funext x
   show admA (t.admits.set p (m:Int)) x=_
   unfold setA
   by_cases e:x=p
   .subst e
    rw[if_pos rfl]
    unfold admA
    rw[List.getElem?_set_self hp]
    show(if 0<=(m:Int) then some (m:Int).toNat else none)=some m
    rw[if_pos (by omega),Int.toNat_natCast]
   .rw[if_neg e]
    unfold admA
    rw[List.getElem?_set_ne (fun e2=>e e2.symm)]
  rw[e];exact aa
 have h3:∀ n,m<n->(zax t p n).2.2=true:=fun n=>by
  induction n with
 |zero=>intro h;omega
 |succ n ih=>
   intro h
   show(if fitB (zbL t p n) then(if(zax t p n).2.2 then(zax t p n).1 else(n:Int),(n:Int),true) else zax t p n).2.2=true
   by_cases e:m=n
   .subst e;rw[h2];rfl
   .split
    .rfl
    .exact ih (by omega)
 exact h3 _ (by omega)
structure LoI(m:Mt)(p ga b6 b9:Nat)(g:Nat->Nat)(ca:Nat)(w:World)(k:Nat)(W:World):Prop where
 x3:Bx W (w.heap.size+1) [.int .i64 p]
 x4:Bx W (w.heap.size+1+1) [.int .i64 0,.int .i64 0]
 x6:Bx W b6 (bkA { m with A3:=some ⟨ga,0,none⟩,c3:=ca } g).toList
 x9:Bx W b9 [.int .i64 (spanL (zax m.t p k)).1,.int .i64 (spanL (zax m.t p k)).2]
 va:∃ adm:List Int,adm.length=m.t.admits.length/\(∀ v,adm.set p v=m.t.admits.set p v)/\VBlk W ga m.t.admits.length (fun j=>.int .i64 (adm.getD j 0))
 b:Below w.heap.size w W
theorem zkp(m:Mt)(p:Int)(w:World)(hr:TaleAt w w.heap.size m):Calls Tryz.prog 37 #[.agg #[.int .i64 m.t.n,.slice m.A1 m.t.loans.length m.c1,.slice m.A2 m.t.looks.length m.c2,.slice m.A3 m.t.admits.length m.c3],.int .i64 p] w (Ret (zhw (zaX m.t p)) w):=by
 have aZ:∀(fn:Fn) (first cap:Array Value) (w:World),(Instr.makeFunc fn first cap).run Tryz.prog w=.ok (.func fn first cap) w:=fun _ _ _ _=>rfl
 have n1:=nxA w (.cells #[.int .i64 m.t.n,.slice m.A1 m.t.loans.length m.c1,.slice m.A2 m.t.looks.length m.c2,.slice m.A3 m.t.admits.length m.c3] 40)
 have y1:=Bx.new w #[.int .i64 m.t.n,.slice m.A1 m.t.loans.length m.c1,.slice m.A2 m.t.looks.length m.c2,.slice m.A3 m.t.admits.length m.c3] 40
 have s1:(w.alloc (.cells #[.int .i64 m.t.n,.slice m.A1 m.t.loans.length m.c1,.slice m.A2 m.t.looks.length m.c2,.slice m.A3 m.t.admits.length m.c3] 40)).heap.size=w.heap.size+1:=by simp
 have HR:=qG hr
 clear hr
 go_enter Tryz.func37,Tryz.ntmps37
 go_upto_region 1 with fail
 generalize w.alloc (.cells #[.int .i64 m.t.n,.slice m.A1 m.t.loans.length m.c1,.slice m.A2 m.t.looks.length m.c2,.slice m.A3 m.t.admits.length m.c3] 40)=V1 at *
 have n2:=nxA V1 (.cells #[.int .i64 p] 3)
 have y2:=Bx.new V1 #[.int .i64 p] 3
 have s2:(V1.alloc (.cells #[.int .i64 p] 3)).heap.size=w.heap.size+1+1:=by simp[s1]
 generalize V1.alloc (.cells #[.int .i64 p] 3)=V2 at *
 have n3:=nxA V2 (.cells #[.int .i64 0,.int .i64 0] 61)
 have y3:=Bx.new V2 #[.int .i64 0,.int .i64 0] 61
 generalize V2.alloc (.cells #[.int .i64 0,.int .i64 0] 61)=V at *
 rw[s1] at y2
 rw[s2] at y3
 have HB:=qG (n1.trans ((n2.trans (n3.mono n2.size)).mono n1.size))
 have af:=qG ((y1.next n2).next n3)
 have aL:=qG (y2.next n3)
 have a7:=qG y3
 have a8:=qG (HR.o.next HB.o)
 clear n1 n2 n3 y1 y2 y3 s1 s2
 obtain⟨v,hv⟩:∃ v,v=inS p 0 ((m.t.admits.length:Int)-1):=⟨_,rfl⟩
 have HV:=qG hv
 have HW:=qG (show zaX m.t p=_ from zjw m.t p)
 rw[<- hv] at HW
 have c0:=af.o.c 0 _ rfl
 have c1:=af.o.c 1 _ rfl
 have c2:=af.o.c 2 _ rfl
 have c3:=af.o.c 3 _ rfl
 have l2:=af.o.lt
 have aA:=qG (zlX m v (w.heap.size+1) w.heap.size V a8.o (fun ok W hb=>by rw[hv];exact zmI m p _ _ W (aL.o.next hb) (af.o.next hb) HR.o.l3))
 clear hv
 go_wp2_with fail
 refine aA.o.mono ?_
 rintro e W1 ⟨au,m',g',rfl,aM⟩
 have aD:=qG (HB.o.trans (au.mono HB.o.size))
 have X2:=qG (af.o.next au)
 have X3:=qG (aL.o.next au)
 have X4:=qG (a7.o.next au)
 have aN:=qG aM
 have n6:=nxA W1 (.cells #[.int .i64 0,.slice none 0 0,.slice none 0 0,.slice none 0 0,.int .i64 0,.int .i64 0,.int .i64 0,.int .i64 0,.int .i64 0,.int .i64 0,.int .i64 0,.int .i64 0,.int .i64 0,.int .i64 0,.int .i64 0,.int .i64 0,.int .i64 0,.int .i64 0,.int .i64 0,.int .i64 0] 176)
 have y6:=Bx.new W1 #[.int .i64 0,.slice none 0 0,.slice none 0 0,.slice none 0 0,.int .i64 0,.int .i64 0,.int .i64 0,.int .i64 0,.int .i64 0,.int .i64 0,.int .i64 0,.int .i64 0,.int .i64 0,.int .i64 0,.int .i64 0,.int .i64 0,.int .i64 0,.int .i64 0,.int .i64 0,.int .i64 0] 176
 obtain⟨L,hL⟩:∃ L,L=(bkA m' g').toList:=⟨_,rfl⟩
 have HL:=qG hL
 have ar:=qG (show L.length=20 from by rw[hL];rfl)
 have a9:=qG (show L.toArray.all (·.oneCell')=true from by rw[hL];exact zct _ _)
 have ba:=qG (show bkA m' g'=L.toArray from by rw[hL,Array.toArray_toList])
 have bf:=qG (show(Tryz.prog.info? 176).map (·.size)=some L.toArray.size from by rw[show L.toArray.size=20 from by simpa using ar.o];exact zaR)
 have bh:=qG (show(W1.alloc (.cells #[.int .i64 0,.slice none 0 0,.slice none 0 0,.slice none 0 0,.int .i64 0,.int .i64 0,.int .i64 0,.int .i64 0,.int .i64 0,.int .i64 0,.int .i64 0,.int .i64 0,.int .i64 0,.int .i64 0,.int .i64 0,.int .i64 0,.int .i64 0,.int .i64 0,.int .i64 0,.int .i64 0] 176)).there W1.heap.size 0 L.toArray.size from by rw[show L.toArray.size=20 from by simpa using ar.o];exact zbG y6 rfl)
 have Z6:=qG (y6.setAll L (by rw[ar.o];rfl))
 have ae:=qG (show w.heap.size+1+1<W1.heap.size from X4.o.lt)
 have ag:=qG (zac (b:=W1.heap.size) (by have:=aD.o.size;omega) L 0 (aD.o.trans (n6.mono aD.o.size)))
 have Z2:=qG ((X2.o.next n6).setOther (g:=W1.heap.size) (by have:=ae.o;omega) L 0)
 have Z3:=qG ((X3.o.next n6).setOther (g:=W1.heap.size) (by have:=ae.o;omega) L 0)
 have Z4:=qG ((X4.o.next n6).setOther (g:=W1.heap.size) (by have:=ae.o;omega) L 0)
 rw[<- zaQ] at Z6 ag Z2 Z3 Z4
 rw[ba.o]
 clear hL au aM n6 y6 c0 c1 c2 c3 l2 aZ aA
 go_upto_region 2 with (refine wpList_store_mid rfl 176 (.tmp 6) (.tmp 15) rfl W1.heap.size 0 L.toArray rfl rfl bh.o bf.o a9.o ?_)
 generalize(W1.alloc (.cells #[.int .i64 0,.slice none 0 0,.slice none 0 0,.slice none 0 0,.int .i64 0,.int .i64 0,.int .i64 0,.int .i64 0,.int .i64 0,.int .i64 0,.int .i64 0,.int .i64 0,.int .i64 0,.int .i64 0,.int .i64 0,.int .i64 0,.int .i64 0,.int .i64 0,.int .i64 0,.int .i64 0] 176)).setCells W1.heap.size 0 L=W6 at *
 obtain⟨b6,aO⟩:∃ b6,b6=W1.heap.size:=⟨_,rfl⟩
 rw[<- aO] at Z6 ae ⊢
 clear aO
 have c0:=Z2.o.c 0 _ rfl
 have c3:=Z2.o.c 3 _ rfl
 have p0:=Z3.o.c 0 _ rfl
 have s0:=Z4.o.c 0 _ rfl
 have s1:=Z4.o.c 1 _ rfl
 have f0:=Z4.o.fr 0
 have f1:=Z4.o.fr 1
 have l4:=Z4.o.lt
 have l2:=Z2.o.lt
 by_cases h0:ckE m.t v=0
 .rw[h0]
  rw[if_pos h0] at HW
  obtain⟨em,hg⟩:=aN.o h0
  obtain rfl:m=m':=em.symm
  have HG:=qG hg
  have aE:=qG (zlk h0)
  have OK:=qG (zcL aE.o.1)
  have bi:=zb6.1 (HV.o.symm.trans aE.o.2.1)
  obtain⟨q,hq⟩:∃ q:Nat,p=q:=⟨p.toNat,by omega⟩
  subst hq
  rw[show((q:Int)).toNat=q from by omega] at HW
  have am:q<m.t.admits.length:=by omega
  have aP:=qG ((HR.o.below ag.o).more ag.o.size)
  obtain⟨b,off,eA,hb,aB⟩:=zb4 aP.o.ad am
  have bj:=OK.o.adm (m.t.admits.getD q 0) (zdv am)
  obtain⟨x,hx⟩:∃ x,x=m.t.admits.getD q 0:=⟨_,rfl⟩
  have HX:=qG hx
  rw[<- hx] at aB bj
  rw[<- hx] at HW
  rw[eA] at c3
  have EA:=qG eA
  clear h0 aN hg bi em hx eA
  by_cases h1:x=-1
  .have bk:(x !=-1)=false:=by rw[h1];rfl
   have bF:=qG h1
   rw[if_neg (by rw[h1];simp)] at HW
   have ay:=aP.o.ad
   rw[EA.o] at ay
   have h6:=OK.o.a2
   have bp:=OK.o.n2
   have bq:=OK.o.n1
   obtain⟨n,hn⟩:∃ n:Nat,m.t.n=n:=⟨m.t.n.toNat,by omega⟩
   have HN:=qG hn
   have aQ:=qG (show m.t.n.toNat=n by omega)
   rw[aQ.o] at HW
   have aR:=qG (zlE OK.o am (HX.o.symm.trans h1) aE.o.2.2)
   rw[aQ.o] at aR
   have bE:n<=16:=by omega
   rw[hn] at c0
   have aS:=qG (zdL b off m.c3 m.t.admits W6 OK.o.a1 (by omega) ay)
   clear h1 hn bp bq s0 s1 f0 f1 ay
   go_wp2_with fail
   refine aS.o.mono ?_
   rintro e W7 ⟨ga,ca,rfl,bu,bG,ah,an⟩
   clear c0 c3 p0 aB aS
   have X6:=qG (Z6.o.next an)
   have bv:=Z6.o.lt
   have aF:b6≠ga:=by omega
   have bw:=qG aF
   have aG:=qG (show w.heap.size+1+1<ga from by omega)
   have bz:=qG bu
   have bA:=HL.o
   have l63:L[3]?=some (.slice m.A3 m.t.admits.length m.c3):=by rw[HL.o];rfl
   have d3:=X6.o.c 3 _ l63
   have e3:=X6.o.fr 3
   have l6:=X6.o.lt
   have Y2:=qG ((Z2.o.next an).other (g:=b6) (by have:=ae.o;omega) 3 (.slice (some ⟨ga,0,none⟩) m.t.admits.length ca))
   have Y3:=qG ((Z3.o.next an).other (g:=b6) (by have:=ae.o;omega) 3 (.slice (some ⟨ga,0,none⟩) m.t.admits.length ca))
   have Y4:=qG ((Z4.o.next an).other (g:=b6) (by have:=ae.o;omega) 3 (.slice (some ⟨ga,0,none⟩) m.t.admits.length ca))
   have YV:=qG (ah.other aF 3 (.slice (some ⟨ga,0,none⟩) m.t.admits.length ca))
   have Y6:=qG (show Bx (W7.setCell ⟨b6,3,none⟩ (.slice (some ⟨ga,0,none⟩) m.t.admits.length ca)) b6 (bkA { m with A3:=some ⟨ga,0,none⟩,c3:=ca } g').toList from by
    have h:=X6.o.set (k:=3) (by rw[ar.o];decide) (.slice (some ⟨ga,0,none⟩) m.t.admits.length ca)
    rw[HL.o] at h
    exact h)
   have YB:=qG ((ag.o.trans (an.mono ag.o.size)).setCell (p:=⟨b6,3,none⟩) (by show w.heap.size<=b6;have:=ae.o;omega) (.slice (some ⟨ga,0,none⟩) m.t.admits.length ca))
   clear an ah bA l63 bv aF
   go_upto_region 8 with fail
   clear d3 e3 l6
   generalize W7.setCell ⟨b6,3,none⟩ (.slice (some ⟨ga,0,none⟩) m.t.admits.length ca)=W8 at *
   have n9:=nxA W8 (.cells #[.int .i64 (-1),.int .i64 0] 61)
   have y9:=Bx.new W8 #[.int .i64 (-1),.int .i64 0] 61
   have H0:=qG (show LoI m q ga b6 W8.heap.size g' ca w 0 (W8.alloc (.cells #[.int .i64 (-1),.int .i64 0] 61)) from⟨Y3.o.next n9,Y4.o.next n9,Y6.o.next n9,y9,⟨m.t.admits,rfl,fun _=>rfl,YV.o.next n9⟩,YB.o.trans (n9.mono YB.o.size)⟩)
   have Y2n:=qG (Y2.o.next n9)
   have aa:=qG (show b6<W8.heap.size/\ga<W8.heap.size/\w.heap.size+1+1<W8.heap.size from⟨Y6.o.lt,YV.o.lt,Y4.o.lt⟩)
   clear n9 y9
   go_upto_region 9 with fail
   generalize W8.alloc (.cells #[.int .i64 (-1),.int .i64 0] 61)=W9 at *
   obtain⟨b9,aT⟩:∃ b9,b9=W8.heap.size:=⟨_,rfl⟩
   rw[<- aT] at H0 aa ⊢
   clear aT
   have c0:=Y2n.o.c 0 (.int .i64 n) (by rw[<- HN.o];rfl)
   have aU:IntKind.i64.wrap ((n:Int)+1)=((n+1:Nat):Int):=by rw[IntKind.wrap_i64];omega
   go_wp2_with fail
   try rw[aU]
   clear c0 aU
   go_loopw [40] (fun iv wr=>∃ k:Nat,iv=.int .i64 k/\k<=n+1/\LoI m q ga b6 b9 g' ca w k wr) (fun iv _=>n+1-(intOf iv).toNat)
   case atStart=>exact⟨0,rfl,by omega,H0.o⟩
   case round=>
    obtain⟨k,rfl,hk,hi⟩:=hrel
    have HI:=qG hi
    clear hi
    by_cases hlt:k<n+1
    .obtain⟨adm,bB,has,ah⟩:=HI.o.va
     have c3:=HI.o.x6.c 3 (.slice (some ⟨ga,0,none⟩) m.t.admits.length ca) rfl
     have p0:=HI.o.x3.c 0 _ rfl
     have a0:=ah.cell q am
     have fa:=ah.free q
     have l6:=HI.o.x6.lt
     have l9:=HI.o.x9.lt
     obtain⟨m2,ao⟩:∃ m2:Mt,m2=⟨zbL m.t q k,m.A1,m.c1,m.A2,m.c2,some ⟨ga,0,none⟩,ca⟩:=⟨_,rfl⟩
     have VN:=qG (show VBlk (wr.setCell ⟨ga,q,none⟩ (.int .i64 k)) ga m.t.admits.length (fun j=>.int .i64 ((m.t.admits.set q (k:Int)).getD j 0)) from ah.set_ am (by rw[qP,List.getElem?_set_self am];rfl) (fun i bC=>by
      rw[<- has,qP,List.getElem?_set_ne (Ne.symm bC),qP]))
     have X6:=qG (show Bx (wr.setCell ⟨ga,q,none⟩ (.int .i64 k)) b6 (bkA m2 g').toList from by
      have h:=HI.o.x6.other (g:=ga) bw.o q (.int .i64 k)
      have e:(bkA m2 g').toList=(bkA { m with A3:=some ⟨ga,0,none⟩,c3:=ca } g').toList:=by
       rw[ao];unfold bkA zbL
       dsimp only
       rw[List.length_set]
      rw[e];exact h)
     have X3:=qG (HI.o.x3.other (g:=ga) (by have:=aG.o;omega) q (.int .i64 k))
     have X4:=qG (HI.o.x4.other (g:=ga) (by have:=aG.o;omega) q (.int .i64 k))
     have X9:=qG (HI.o.x9.other (g:=ga) (by have:=aa.o;omega) q (.int .i64 k))
     have XB:=qG (HI.o.b.setCell (p:=⟨ga,q,none⟩) (by show w.heap.size<=ga;have:=aG.o;omega) (.int .i64 k))
     clear bB has ah HI
     go_upto_region 13 with fail
     clear c3 p0 a0 fa l6 l9
     generalize wr.setCell ⟨ga,q,none⟩ (.int .i64 k)=W10 at *
     have aH:=qG X6.o.range
     have aV:=qG (show(Tryz.prog.info? 176).map (·.size)=some (bkA m2 g').toList.length from zaR)
     have HT:=qG (show TaleAt W10 W10.heap.size m2 from by
      have hT:=(HR.o.below XB.o).more XB.o.size
      rw[ao]
      exact⟨hT.lo,hT.lk,At.vblk (l:=m.t.admits.set q (k:Int)) (by rw[List.length_set];exact VN.o),hT.l1,hT.l2,by show(m.t.admits.set q (k:Int)).length<=_;rw[List.length_set];exact hT.l3,hT.k1,hT.k2,by show(m.t.admits.set q (k:Int)).length<=ca;rw[List.length_set];exact bz.o⟩)
     have OKS:=qG (zpR (p:=q) (v:=(k:Int)) OK.o (by omega))
     have aW:=qG (show OkBk m2 g' from by rw[HG.o,ao];exact zgN (m:=⟨zbL m.t q k,m.A1,m.c1,m.A2,m.c2,some ⟨ga,0,none⟩,ca⟩) OKS.o)
     have aX:=qG (show Fit m2.t.n.toNat (fun k p=>has (g' k) p) (admA m2.t.admits)↔fitB (zbL m.t q k)=true from by rw[HG.o,ao];exact zg4 OKS.o)
     have aI:=qG (zlt m.t q k)
     have bD:=qG ao
     clear ao
     go_wp2_with (refine wpList_load_mid rfl 176 (.tmp 6) rfl b6 0 rfl (bkA m2 g').toList _ aH.o zaC rfl aV.o ?_)
     refine(zfx m2 g' W10 HT.o aW.o).mono ?_
     rintro e W11 ⟨rb,rfl,ab,aJ⟩
     have HF:=qG (show rb=fitB (zbL m.t q k) from Bool.eq_iff_iff.2 (aJ.trans aX.o))
     have e6:(bkA m2 g').toList=(bkA { m with A3:=some ⟨ga,0,none⟩,c3:=ca } g').toList:=by
      rw[bD.o];unfold bkA zbL
      dsimp only
      rw[List.length_set]
     have Q3:=qG (X3.o.next ab)
     have Q4:=qG (X4.o.next ab)
     have Q6:=qG (show Bx W11 b6 (bkA { m with A3:=some ⟨ga,0,none⟩,c3:=ca } g').toList from by rw[<- e6];exact X6.o.next ab)
     have Q9:=qG (X9.o.next ab)
     have QV:=qG (VN.o.next ab)
     have QB:=qG (XB.o.trans (ab.mono XB.o.size))
     have ac:=qG (show(m.t.admits.set q (k:Int)).length=m.t.admits.length/\∀ v,(m.t.admits.set q (k:Int)).set q v=m.t.admits.set q v from⟨List.length_set,fun v=>List.set_set ..⟩)
     rw[<- HF.o] at aI
     clear ab aJ e6 X6 X3 X4 X9 XB VN aH aV HT aW aX
     have z0:=Q9.o.c 0 _ rfl
     have z1:=Q9.o.c 1 _ rfl
     have y0:=Q9.o.fr 0
     have y1:=Q9.o.fr 1
     have l9:=Q9.o.lt
     cases rb
     .have ai:=qG (aI.o.trans (if_neg (by decide)))
      have aj:=qG (show LoI m q ga b6 b9 g' ca w (k+1) W11 from⟨Q3.o,Q4.o,Q6.o,by rw[ai.o];exact Q9.o,⟨_,ac.o.1,ac.o.2,QV.o⟩,QB.o⟩)
      clear z0 z1 y0 y1 l9
      go_wp2_with fail
      exact⟨⟨k+1,by go_num,by omega,aj.o⟩,by simp[intOf];omega⟩
     .have ai:=qG (aI.o.trans (if_pos rfl))
      have aK:w.heap.size<=b9:=by have:=aa.o;omega
      generalize spanL (zax m.t q k)=S at *
      obtain⟨lo,hi⟩:=S
      dsimp only at z0 z1 ai
      by_cases aq:lo<0
      .have d1:decide (lo<0)=true:=decide_eq_true aq
       have az:=qG (show spanL (zax m.t q (k+1))=((k:Int),(k:Int)) from by rw[ai.o,if_pos aq])
       have ak:LoI m q ga b6 b9 g' ca w (k+1) ((W11.setCell ⟨b9,0,none⟩ (.int .i64 k)).setCell ⟨b9,1,none⟩ (.int .i64 k)):=by
        refine⟨(Q3.o.other (by have:=aa.o;omega) _ _).other (by have:=aa.o;omega) _ _,(Q4.o.other (by have:=aa.o;omega) _ _).other (by have:=aa.o;omega) _ _,(Q6.o.other (by have:=aa.o;omega) _ _).other (by have:=aa.o;omega) _ _,?_,⟨_,ac.o.1,ac.o.2,(QV.o.other (by have:=aa.o;omega) _ _).other (by have:=aa.o;omega) _ _⟩,(QB.o.setCell (p:=⟨b9,0,none⟩) aK _).setCell (p:=⟨b9,1,none⟩) aK _⟩
        rw[az.o]
        exact(Q9.o.set (k:=0) (by simp) (.int .i64 k)).set (k:=1) (by simp) (.int .i64 k)
       have aj:=qG ak
       clear ak aq
       go_wp2_with fail
       exact⟨⟨k+1,by go_num,by omega,aj.o⟩,by simp[intOf];omega⟩
      .have d1:decide (lo<0)=false:=decide_eq_false aq
       have az:=qG (show spanL (zax m.t q (k+1))=(lo,(k:Int)) from by rw[ai.o,if_neg aq])
       have ak:LoI m q ga b6 b9 g' ca w (k+1) (W11.setCell ⟨b9,1,none⟩ (.int .i64 k)):=by
        refine⟨Q3.o.other (by have:=aa.o;omega) _ _,Q4.o.other (by have:=aa.o;omega) _ _,Q6.o.other (by have:=aa.o;omega) _ _,?_,⟨_,ac.o.1,ac.o.2,QV.o.other (by have:=aa.o;omega) _ _⟩,QB.o.setCell (p:=⟨b9,1,none⟩) aK _⟩
        rw[az.o]
        exact Q9.o.set (k:=1) (by simp) (.int .i64 k)
       have aj:=qG ak
       clear ak aq
       go_wp2_with fail
       exact⟨⟨k+1,by go_num,by omega,aj.o⟩,by simp[intOf];omega⟩
    .obtain rfl:k=n+1:=by omega
     have aY:=qG (show spanL (zax m.t q (n+1))=((zax m.t q (n+1)).1,(zax m.t q (n+1)).2.1) from by unfold spanL;rw[if_pos aR.o])
     have aC:=HI.o.x9
     rw[aY.o] at aC
     have z0:=aC.c 0 _ rfl
     have z1:=aC.c 1 _ rfl
     have s0:=HI.o.x4.c 0 _ rfl
     have s1:=HI.o.x4.c 1 _ rfl
     have f0:=HI.o.x4.fr 0
     have f1:=HI.o.x4.fr 1
     have l4:=HI.o.x4.lt
     have l9:=HI.o.x9.lt
     dsimp only at z0 z1 HW
     generalize(zax m.t q (n+1)).1=lo at *
     generalize(zax m.t q (n+1)).2.1=hi at *
     have aw:=qG (HI.o.x4.setAll [.int .i64 lo,.int .i64 hi] rfl)
     have ax:=qG (zac (b:=w.heap.size+1+1) (by omega) [.int .i64 lo,.int .i64 hi] 0 HI.o.b)
     clear aC aY
     go_wp2_with fail
     (try simp only[Exit.inBlock,Exit.then])
     refine bodyPost_ret (zah rfl rfl (zjB aw.o)) rfl ?_
     exact⟨by rw[HW.o];rfl,ax.o⟩
  .rw[if_pos h1] at HW
   have bk:(x !=-1)=true:=by simpa using h1
   have aw:=qG (Z4.o.setAll [.int .i64 x,.int .i64 x] rfl)
   have ax:=qG (zac (b:=w.heap.size+1+1) (by omega) [.int .i64 x,.int .i64 x] 0 ag.o)
   clear h1
   go_wp2_with fail
   (try simp only[Exit.inBlock,Exit.then])
   refine bodyPost_ret (zah rfl rfl (zjB aw.o)) rfl ?_
   exact⟨by rw[HW.o];rfl,ax.o⟩
 .rw[if_neg h0] at HW
  generalize ckE m.t v=x at *
  have hx:(x==0)=false:=by simpa using h0
  have bH:(x !=0)=true:=by simpa using h0
  have aw:=qG (Z4.o.setAll [.int .i64 0,.int .i64 0] rfl)
  have ax:=qG (zac (b:=w.heap.size+1+1) (by omega) [.int .i64 0,.int .i64 0] 0 ag.o)
  clear h0
  go_wp2_with fail
  (try simp only[Exit.inBlock,Exit.then])
  refine bodyPost_ret (zah rfl rfl (zjB aw.o)) rfl ?_
  exact⟨by rw[HW.o];rfl,ax.o⟩
theorem zdV(t:Tl)(i:Nat):zaW t (i+1)=match zaW t i with
 |some j=>some j
 |none=>if(List.range t.n.toNat).any (fun k=>decide (goneS (t.looks.take (i+1)) k<=seenS (t.looks.take (i+1)) k)) then some i else none:=rfl
theorem zhe{t:Tl}{i:Nat}(h:zaW t i=none){k:Nat}(hk:k<t.n.toNat)(he:goneS (t.looks.take (i+1)) k<=seenS (t.looks.take (i+1)) k):zaW t (i+1)=some i:=by
 rw[zdV,h]
 show(if _ then some i else none)=some i
 rw[if_pos]
 rw[List.any_eq_true]
 exact⟨k,List.mem_range.2 hk,decide_eq_true he⟩
theorem zlT{t:Tl}{i:Nat}(h:zaW t i=none)(he:∀ k,k<t.n.toNat->¬ goneS (t.looks.take (i+1)) k<=seenS (t.looks.take (i+1)) k):zaW t (i+1)=none:=by
 rw[zdV,h]
 show(if _ then some i else none)=none
 rw[if_neg]
 rw[List.any_eq_true]
 rintro⟨k,hk,h2⟩
 exact he k (List.mem_range.1 hk) (of_decide_eq_true h2)
theorem zde{t:Tl}{i j:Nat}(h:zaW t i=some j):∀ d:Nat,zaW t (i+d)=some j
|0=>h
|d+1=>by
  show zaW t ((i+d)+1)=some j
  rw[zdV,zde h d]
theorem zne{t:Tl}{n:Nat}(h:zaW t n=none){i k:Nat}(hi:i<n)(hk:k<t.n.toNat):¬ goneS (t.looks.take (i+1)) k<=seenS (t.looks.take (i+1)) k:=fun he=>by
 have h1:zaW t i=none:=by
  cases h2:zaW t i with
 |none=>rfl
 |some j=>
   have:=zde h2 (n-i)
   rw[show i+(n-i)=n by omega,h] at this;cases this
 have:=zde (zhe h1 hk he) (n-(i+1))
 rw[show i+1+(n-(i+1))=n by omega,h] at this;cases this
theorem zlS{t:Tl}(h:zaW t t.looks.length=none){k:Nat}(hk:k<t.n.toNat):¬ zcs t k:=by
 unfold zcs
 cases hl:t.looks.length with
|zero=>
  have e:t.looks=[]:=List.eq_nil_of_length_eq_zero hl
  rw[e]
  show ¬((mxH+1:Int)<=0)
  decide
|succ n=>
  have:=zne h (i:=n) (by omega) hk
  rw[<- hl,List.take_length] at this
  exact this
def zpk(x:Int×Int):Value:=.tuple #[.int .i64 x.1,.int .i64 x.2]
def ClO(m:Mt)(w:World)(b4 i:Nat)(W:World):Prop:=Below w.heap.size w W/\Bx W w.heap.size m.cells/\zaW m.t i=none/\∃ vs:List Value,vs.length=32/\Bx W b4 vs
def ClI(m:Mt)(w:World)(b4 i k:Nat)(W:World):Prop:=ClO m w b4 i W/\∀ q,q<k->¬ goneS (m.t.looks.take (i+1)) q<=seenS (m.t.looks.take (i+1)) q
theorem zny(m:Mt)(w:World)(hr:TaleAt w w.heap.size m):Calls Tryz.prog 27 #[.agg #[.int .i64 m.t.n,.slice m.A1 m.t.loans.length m.c1,.slice m.A2 m.t.looks.length m.c2,.slice m.A3 m.t.admits.length m.c3]] w (Ret (zpk (zby m.t)) w):=by
 have n1:=nxA w (.cells #[.int .i64 m.t.n,.slice m.A1 m.t.loans.length m.c1,.slice m.A2 m.t.looks.length m.c2,.slice m.A3 m.t.admits.length m.c3] 40)
 have y1:=Bx.new w #[.int .i64 m.t.n,.slice m.A1 m.t.loans.length m.c1,.slice m.A2 m.t.looks.length m.c2,.slice m.A3 m.t.admits.length m.c3] 40
 have HR:=qG hr
 have HB:=qG n1
 have HX:=qG y1
 have aA:=qG (hr.next n1)
 clear hr n1 y1
 have HD:=qG (show zby m.t=if zaN m.t=false then((0:Int),(1:Int)) else match zaW m.t m.t.looks.length with
 |some i=>((i:Int),0)
 |none=>if fitB m.t=false then((m.t.looks.length:Int),0) else(0,4) from rfl)
 go_enter Tryz.func27,Tryz.ntmps27
 go_upto_region 1 with fail
 generalize w.alloc (.cells #[.int .i64 m.t.n,.slice m.A1 m.t.loans.length m.c1,.slice m.A2 m.t.looks.length m.c2,.slice m.A3 m.t.admits.length m.c3] 40)=V at *
 have c0:=HX.o.c 0 _ rfl
 have c1:=HX.o.c 1 _ rfl
 have c2:=HX.o.c 2 _ rfl
 have c3:=HX.o.c 3 _ rfl
 have hl:=HX.o.lt
 go_wp2_with fail
 refine(zet m _ aA.o).mono ?_
 rintro e W1 ⟨rfl,aj⟩
 have ao:=qG (HB.o.trans (aj.mono HB.o.size))
 have X1:=qG (HX.o.next aj)
 have R1:=qG (aA.o.next aj)
 clear aj c0 c1 c2 c3 hl
 cases ht:zaN m.t
 .rw[ht] at HD
  clear ht
  go_wp2_with fail
  (try simp only[Exit.inBlock,Exit.then])
  refine bodyPost_ret (results_tmp2 rfl _ _ _) rfl ?_
  exact⟨by rw[HD.o];rfl,ao.o⟩
 .rw[ht] at HD
  have OK:=qG (zcL ht)
  clear ht
  have aa:=qG (HD.o.trans (if_neg (by decide)))
  clear HD
  go_upto_region 4 with fail
  have n4:=nxA W1 (.cells #[.int .i64 0,.int .i64 0,.int .i64 0,.int .i64 0,.int .i64 0,.int .i64 0,.int .i64 0,.int .i64 0,.int .i64 0,.int .i64 0,.int .i64 0,.int .i64 0,.int .i64 0,.int .i64 0,.int .i64 0,.int .i64 0,.int .i64 0,.int .i64 0,.int .i64 0,.int .i64 0,.int .i64 0,.int .i64 0,.int .i64 0,.int .i64 0,.int .i64 0,.int .i64 0,.int .i64 0,.int .i64 0,.int .i64 0,.int .i64 0,.int .i64 0,.int .i64 0] 172)
  have y4:=Bx.new W1 #[.int .i64 0,.int .i64 0,.int .i64 0,.int .i64 0,.int .i64 0,.int .i64 0,.int .i64 0,.int .i64 0,.int .i64 0,.int .i64 0,.int .i64 0,.int .i64 0,.int .i64 0,.int .i64 0,.int .i64 0,.int .i64 0,.int .i64 0,.int .i64 0,.int .i64 0,.int .i64 0,.int .i64 0,.int .i64 0,.int .i64 0,.int .i64 0,.int .i64 0,.int .i64 0,.int .i64 0,.int .i64 0,.int .i64 0,.int .i64 0,.int .i64 0,.int .i64 0] 172
  have aP:=qG (ao.o.trans (n4.mono ao.o.size))
  have X4:=qG (X1.o.next n4)
  have Y4:=qG y4
  clear n4 y4
  generalize W1.alloc (.cells #[.int .i64 0,.int .i64 0,.int .i64 0,.int .i64 0,.int .i64 0,.int .i64 0,.int .i64 0,.int .i64 0,.int .i64 0,.int .i64 0,.int .i64 0,.int .i64 0,.int .i64 0,.int .i64 0,.int .i64 0,.int .i64 0,.int .i64 0,.int .i64 0,.int .i64 0,.int .i64 0,.int .i64 0,.int .i64 0,.int .i64 0,.int .i64 0,.int .i64 0,.int .i64 0,.int .i64 0,.int .i64 0,.int .i64 0,.int .i64 0,.int .i64 0,.int .i64 0] 172)=W4 at *
  obtain⟨b4,aq⟩:∃ b4,b4=W1.heap.size:=⟨_,rfl⟩
  rw[<- aq] at Y4 ⊢
  have aL:w.heap.size<b4:=by rw[aq];exact X1.o.lt
  have a9:=qG aL
  clear aq
  obtain⟨n,hn⟩:∃ n:Nat,m.t.n=n:=⟨m.t.n.toNat,by have:=OK.o.n1;omega⟩
  have HN:=qG (show m.t.n.toNat=n by omega)
  have aM:n<=16:=by have:=OK.o.n2;omega
  have aQ:=qG (show ∀ W,Bx W w.heap.size m.cells->W.cell? ⟨w.heap.size,0,none⟩=some (.int .i64 n) from fun W h=>by have:=h.c 0 _ rfl;rw[hn] at this;exact this)
  have ba:=OK.o.lk
  clear hn
  have c2:=X4.o.c 2 _ rfl
  have ac:=qG (fun i W=>show ClO m w b4 i W↔Below w.heap.size w W/\Bx W w.heap.size m.cells/\zaW m.t i=none/\∃ vs:List Value,vs.length=32/\Bx W b4 vs from Iff.rfl)
  go_wp2_with fail
  clear c2
  go_loopw [15] (fun iv wr=>∃ i:Nat,iv=.int .i64 i/\i<=m.t.looks.length/\ClO m w b4 i wr) (fun iv _=>m.t.looks.length-(intOf iv).toNat)
  case atStart=>exact⟨0,rfl,by omega,(ac.o _ _).2 ⟨aP.o,X4.o,rfl,_,rfl,Y4.o⟩⟩
  case round=>
   obtain⟨i,rfl,hi,ho⟩:=hrel
   have HO:=qG ho
   by_cases hlt:i<m.t.looks.length
   .have c0:=aQ.o _ ((ac.o _ _).1 ho).2.1
    have ar:=qG ((ac.o _ _).1 ho).2.2.1
    clear ho
    go_wp2_with fail
    clear c0
    go_loopw [20] (fun kv wi=>∃ k:Nat,kv=.int .i64 k/\k<=n/\ClI m w b4 i k wi) (fun kv _=>n-(intOf kv).toNat)
    case atStart=>exact⟨0,rfl,by omega,HO.o,fun q hq=>by omega⟩
    case round=>
     obtain⟨k,rfl,hk,aB,aC⟩:=hrel
     have aD:=qG aC
     obtain⟨hb,hx,ak,vs,am,hv⟩:=(ac.o _ _).1 aB
     clear aB aC
     by_cases aR:k<n
     .have HX:=qG hx
      have HV:=qG hv
      have af:=qG hb
      have ag:=qG ((HR.o.below hb).more hb.size)
      obtain⟨b,off,eA,bf,-⟩:=zkX ag.o.lk hlt
      have c2:=hx.c 2 _ rfl
      rw[eA] at c2
      have aE:At wr wr.heap.size 3 Look.cells (some ⟨b,off,none⟩) (m.t.looks.take (i+1)):=by
       have:=ag.o.lk
       rw[eA] at this
       exact this.pre' (List.take_append_drop (i+1) m.t.looks).symm
      have bh:=ag.o.k2
      have bi:i+1<=m.c2:=by omega
      have aF:=hx.lt
      have bj:=hv.lt
      have au:=zeI (some ⟨b,off,none⟩) m.c2 (m.t.looks.take (i+1)) m.t.n.toNat k wr aE (by rw[List.length_take];omega) (fun x hx=>by have:=OK.o.look x (List.mem_of_mem_take hx);exact⟨this.2.1,this.2.2.1⟩) (by rw[HN.o];exact aM) (by omega)
      rw[List.length_take,Nat.min_eq_left (by omega)] at au
      have aS:=qG au
      have aT:IntKind.i64.wrap ((i:Int)+1)=((i+1:Nat):Int):=by rw[IntKind.wrap_i64];omega
      have aU:0<=(i:Int)+1:=by omega
      have aV:(i:Int)+1<=(m.c2:Int):=by omega
      clear hb hx hv eA aE au
      go_wp2_with fail
      refine aS.o.mono ?_
      rintro e W5 ⟨rfl,an⟩
      have Q1:=qG (HX.o.next an)
      have Q4:=qG (HV.o.next an)
      have QB:=qG (af.o.trans (an.mono af.o.size))
      have aG:vs[k*2]?=some (vs[k*2]'(by omega)):=qN _
      have aH:vs[k*2+1]?=some (vs[k*2+1]'(by omega)):=qN _
      have a0:=Q4.o.c _ _ aG
      have a1:=Q4.o.c _ _ aH
      have f0:=Q4.o.fr (k*2)
      have f1:=Q4.o.fr (k*2+1)
      have l4:=Q4.o.lt
      generalize vs[k*2]'(by omega)=u0 at *
      generalize vs[k*2+1]'(by omega)=u1 at *
      have HE:=qG (show ¬ goneS (m.t.looks.take (i+1)) k<=seenS (m.t.looks.take (i+1)) k->∀ q,q<k+1->¬ goneS (m.t.looks.take (i+1)) q<=seenS (m.t.looks.take (i+1)) q from fun h q hq=>by
       by_cases e:q=k
       .subst e;exact h
       .have:=aD.o q (by omega);omega)
      have HS:=qG (fun h=>zhe ar.o (k:=k) (by rw[HN.o];exact aR) h)
      generalize seenS (m.t.looks.take (i+1)) k=sv at *
      generalize goneS (m.t.looks.take (i+1)) k=gv at *
      clear c2 aT aU aV an aG aH
      go_upto_region 11 with fail
      have N4:=qG (((Q4.o.set (k:=k*2) (by omega) (.int .i64 sv)).set (k:=k*2+1) (by rw[List.length_set];omega) (.int .i64 gv)))
      have N1:=qG ((Q1.o.other (g:=b4) (by omega) (k*2) (.int .i64 sv)).other (g:=b4) (by omega) (k*2+1) (.int .i64 gv))
      have NB:=qG ((QB.o.setCell (p:=⟨b4,k*2,none⟩) (by show w.heap.size<=b4;omega) (.int .i64 sv)).setCell (p:=⟨b4,k*2+1,none⟩) (by show w.heap.size<=b4;omega) (.int .i64 gv))
      have NL:=qG (show((vs.set (k*2) (.int .i64 sv)).set (k*2+1) (.int .i64 gv)).length=32 from by rw[List.length_set,List.length_set];exact am)
      clear a0 a1 f0 f1 l4
      generalize(W5.setCell ⟨b4,k*2,none⟩ (.int .i64 sv)).setCell ⟨b4,k*2+1,none⟩ (.int .i64 gv)=W6 at *
      have a0:=N4.o.c (k*2) (.int .i64 sv) (by rw[List.getElem?_set_ne (by omega),List.getElem?_set_self (by omega)])
      have a1:=N4.o.c (k*2+1) (.int .i64 gv) (by rw[List.getElem?_set_self (by rw[List.length_set];omega)])
      have l4:=N4.o.lt
      generalize(vs.set (k*2) (.int .i64 sv)).set (k*2+1) (.int .i64 gv)=vs' at *
      go_wp2_with fail
      refine(zfQ sv gv W6).mono ?_
      rintro e W7 ⟨rfl,ab⟩
      have M4:=qG (N4.o.next ab)
      have M1:=qG (N1.o.next ab)
      have MB:=qG (NB.o.trans (ab.mono NB.o.size))
      clear a0 a1 l4 ab
      by_cases he:gv<=sv
      .have d1:decide (gv<=sv)=true:=decide_eq_true he
       have HC:=qG (HS.o he)
       have aW:=qG (show zaW m.t m.t.looks.length=some i from by
        have:=zde HC.o (m.t.looks.length-(i+1))
        rw[show i+1+(m.t.looks.length-(i+1))=m.t.looks.length by omega] at this
        exact this)
       rw[d1]
       clear he d1
       go_wp2_with fail
       (try simp only[Exit.inBlock,Exit.then])
       refine bodyPost_ret (results_tmp2 rfl _ _ _) rfl ?_
       refine⟨?_,MB.o⟩
       rw[aa.o,aW.o];rfl
      .have d1:decide (gv<=sv)=false:=decide_eq_false he
       have HF:=qG (show ClI m w b4 i (k+1) W7 from⟨(ac.o _ _).2 ⟨MB.o,M1.o,ar.o,vs',NL.o,M4.o⟩,fun q hq=>Int.not_le.2 (HE.o (by omega) q hq)⟩)
       rw[d1]
       clear he d1
       go_wp2_with fail
       exact⟨⟨k+1,by go_num,by omega,HF.o⟩,by simp[intOf];omega⟩
     .obtain rfl:k=n:=by omega
      have HF:=qG (show ClO m w b4 (i+1) wr from(ac.o _ _).2 ⟨hb,hx,zlT ar.o (fun q hq=>by have:=aD.o q (by rw[HN.o] at hq;exact hq);omega),vs,am,hv⟩)
      clear hb hx ak hv
      go_wp2_with fail
      exact⟨⟨i+1,by go_num,by omega,HF.o⟩,by simp[intOf];omega⟩
   .obtain rfl:i=m.t.looks.length:=by omega
    obtain⟨hb,hx,ak,vs,am,hv⟩:=(ac.o _ _).1 ho
    have af:=qG hb
    have HX:=qG hx
    have aI:=qG ak
    have ag:=qG ((HR.o.below hb).more hb.size)
    rw[aI.o] at aa
    dsimp only at aa
    have c0:=hx.c 0 _ rfl
    have c1:=hx.c 1 _ rfl
    have c2:=hx.c 2 _ rfl
    have c3:=hx.c 3 _ rfl
    have aF:=hx.lt
    clear hb hx ak hv ho HO am
    go_wp2_with fail
    refine(zcU m wr ag.o OK.o).mono ?_
    rintro e W7 ⟨ab,aJ⟩
    have aN:e=.returned (.tuple #[.agg (bkA m (opG m.t m.t.n.toNat)).toList.toArray,.bool true]):=by
     rcases aJ with ⟨-,rfl⟩|⟨⟨k,hk,h1⟩,-⟩
     .rw[Array.toArray_toList]
     .exact absurd h1 (zlS aI.o hk)
    subst aN
    have aw:=qG (af.o.trans (ab.mono af.o.size))
    have X7:=qG (HX.o.next ab)
    have n9:=nxA W7 (.cells #[.int .i64 0,.slice none 0 0,.slice none 0 0,.slice none 0 0,.int .i64 0,.int .i64 0,.int .i64 0,.int .i64 0,.int .i64 0,.int .i64 0,.int .i64 0,.int .i64 0,.int .i64 0,.int .i64 0,.int .i64 0,.int .i64 0,.int .i64 0,.int .i64 0,.int .i64 0,.int .i64 0] 176)
    have y9:=Bx.new W7 #[.int .i64 0,.slice none 0 0,.slice none 0 0,.slice none 0 0,.int .i64 0,.int .i64 0,.int .i64 0,.int .i64 0,.int .i64 0,.int .i64 0,.int .i64 0,.int .i64 0,.int .i64 0,.int .i64 0,.int .i64 0,.int .i64 0,.int .i64 0,.int .i64 0,.int .i64 0,.int .i64 0] 176
    obtain⟨L,hL⟩:∃ L,L=(bkA m (opG m.t m.t.n.toNat)).toList:=⟨_,rfl⟩
    have HL:=qG hL
    have ae:=qG (show L.length=20 from by rw[hL];rfl)
    have aX:=qG (show L.toArray.all (·.oneCell')=true from by rw[hL];exact zct _ _)
    have aK:=qG (show L.toArray=bkA m (opG m.t m.t.n.toNat) from by rw[hL,Array.toArray_toList])
    have aY:=qG (show(Tryz.prog.info? 176).map (·.size)=some L.toArray.size from by rw[show L.toArray.size=20 from by simpa using ae.o];exact zaR)
    have aZ:=qG (show(Tryz.prog.info? 176).map (·.size)=some L.length from by rw[ae.o];exact zaR)
    have a7:=qG (show(W7.alloc (.cells #[.int .i64 0,.slice none 0 0,.slice none 0 0,.slice none 0 0,.int .i64 0,.int .i64 0,.int .i64 0,.int .i64 0,.int .i64 0,.int .i64 0,.int .i64 0,.int .i64 0,.int .i64 0,.int .i64 0,.int .i64 0,.int .i64 0,.int .i64 0,.int .i64 0,.int .i64 0,.int .i64 0] 176)).there W7.heap.size 0 L.toArray.size from by rw[show L.toArray.size=20 from by simpa using ae.o];exact zbG y9 rfl)
    have Z9:=qG (y9.setAll L (by rw[ae.o];rfl))
    have Z1:=qG ((X7.o.next n9).setOther (g:=W7.heap.size) (by have:=X7.o.lt;omega) L 0)
    have ah:=qG (zac (b:=W7.heap.size) (by have:=aw.o.size;omega) L 0 (aw.o.trans (n9.mono aw.o.size)))
    rw[<- zaQ] at Z9 ah Z1
    rw[<- hL]
    clear hL ab aJ n9 y9 c0 c1 c2 c3 aF
    go_upto_region 16 with (refine wpList_store_mid rfl 176 (.tmp 7) (.tmp 42) rfl W7.heap.size 0 L.toArray rfl rfl a7.o aY.o aX.o ?_)
    generalize(W7.alloc (.cells #[.int .i64 0,.slice none 0 0,.slice none 0 0,.slice none 0 0,.int .i64 0,.int .i64 0,.int .i64 0,.int .i64 0,.int .i64 0,.int .i64 0,.int .i64 0,.int .i64 0,.int .i64 0,.int .i64 0,.int .i64 0,.int .i64 0,.int .i64 0,.int .i64 0,.int .i64 0,.int .i64 0] 176)).setCells W7.heap.size 0 L=W9 at *
    generalize W7.heap.size=b9 at *
    have aO:=qG Z9.o.range
    have a8:=qG (zg4 OK.o)
    go_wp2_with (refine wpList_load_mid rfl 176 (.tmp 7) rfl b9 0 rfl L _ aO.o zaC rfl aZ.o ?_)
    rw[aK.o]
    refine(zfx m _ W9 ((HR.o.below ah.o).more ah.o.size) (zgN OK.o)).mono ?_
    rintro e W10 ⟨rb,rfl,ai,ax⟩
    have HF:=qG (show rb=fitB m.t from Bool.eq_iff_iff.2 (ax.trans a8.o))
    have Z1n:=qG (Z1.o.next ai)
    have ay:=qG (ah.o.trans (ai.mono ah.o.size))
    rw[<- aK.o]
    rw[<- HF.o] at aa
    have c2:=Z1n.o.c 2 _ rfl
    have l1:=Z1n.o.lt
    clear ai ax
    cases rb
    .have az:=qG (aa.o.trans (if_pos rfl))
     clear aa HF
     go_wp2_with fail
     (try simp only[Exit.inBlock,Exit.then])
     refine bodyPost_ret (results_tmp2 rfl _ _ _) rfl ?_
     exact⟨by rw[az.o];rfl,ay.o⟩
    .have az:=qG (aa.o.trans (if_neg (by decide)))
     clear aa HF
     go_wp2_with fail
     (try simp only[Exit.inBlock,Exit.then])
     refine bodyPost_ret (results_tmp2 rfl _ _ _) rfl ?_
     exact⟨by rw[az.o];rfl,ay.o⟩
end Le
end Go.Proofs.YtankkcbofgighaaGreatDoor
