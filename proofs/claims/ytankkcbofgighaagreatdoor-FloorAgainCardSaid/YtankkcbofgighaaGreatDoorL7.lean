import Derived.Test.YtankkcbofgighaaGreatDoorL6
import Derived.Shelf.Abstract
import Derived.Deep.DeepCutAuto
import Derived.Deep.MidRow
import Derived.Scope
import Derived.Deep.AppendLies
import Derived.Maps.AppendAt
set_option linter.all false
set_option maxRecDepth 100000
set_option maxHeartbeats 40000000
namespace Go.Proofs.YtankkcbofgighaaGreatDoor
namespace Cu
open Go.RowKit
attribute [local go_sem] Oper.semAt_some
def rchF(R:Pt->Bool)(p:Pt):Option Bool:=if R p=true then some true else none
def onV(b4 b1 b5:Nat):Value:=.func (.func 142) #[] #[.pointer (some ⟨b4,0,none⟩),.pointer (some ⟨b1,0,none⟩),.pointer (some ⟨b5,0,none⟩)]
structure OnW(c:Cut)(bm br b4 b1 b5:Nat)(R:Pt->Bool)(W:World):Prop where
 pic:PicAt c bm W
 rch:MapIs Tryz.prog 261 kv2 vvB br (rchF R) W
 x1:Bx W b1 (picL c bm)
 x4:Bx W b4 [.map (some br)]
 x5:Bx W b5 [onV b4 b1 b5]
 ne:bm≠br
theorem OnW.up{c:Cut}{bm br b4 b1 b5 B:Nat}{R:Pt->Bool}{W W':World}{row:Option Nat}(h:OnW c bm br b4 b1 b5 R W)(hB:bm<B/\br<B/\b4<B/\b1<B/\b5<B)(hg:W.grownBy W' row)(hr:∀ r,row=some r->B<=r):OnW c bm br b4 b1 b5 R W':=by
 obtain⟨h1,h2,h3,h4,h5⟩:=hB
 have ne:∀ b,b<B->some b≠row:=fun b hb e=>by have:=hr b e.symm;omega
 have ne':∀ b,b<B->∀ r,row=some r->b≠r:=fun b hb r e e'=>by have:=hr r e;omega
 exact⟨h.pic.grown hg (ne _ h1),h.rch.grown hg (ne _ h2),h.x1.gk hg (ne' _ h4),h.x4.gk hg (ne' _ h3),h.x5.gk hg (ne' _ h5),h.ne⟩
theorem OnW.lts{c:Cut}{bm br b4 b1 b5:Nat}{R:Pt->Bool}{W:World}(h:OnW c bm br b4 b1 b5 R W):bm<W.heap.size/\br<W.heap.size/\b4<W.heap.size/\b1<W.heap.size/\b5<W.heap.size:=⟨h.pic.lt,h.rch.lt,h.x4.lt,h.x1.lt,h.x5.lt⟩
theorem zcG{W:World}{b m:Nat}{v:Value}{vs:List Value}{α β:Type}{P:Program}{k:TypeId}{kv:α->Value}{vv:β->Value}{f:α->Option β}(h:Bx W b (v :: vs))(hm:MapIs P k kv vv m f W):b≠m:=fun e=>by
 obtain⟨es,clock,h1,-⟩:=hm
 have h2:=h.c 0 v rfl
 unfold World.cell? at h2
 rw[e,h1] at h2
 simp at h2
theorem OnW.mark{c:Cut}{bm br b4 b1 b5:Nat}{R:Pt->Bool}{W:World}(h:OnW c bm br b4 b1 b5 R W)(p:Pt)(hp:Near p) :
  ∃ W',(Instr.mapUpdate 262 (.map (some br)) (.agg #[.int .i64 p.1,.int .i64 p.2]) (.bool true)).run Tryz.prog W=.ok () W'/\OnW c bm br b4 b1 b5 (fun q=>R q||decide (q=p)) W'/\W.grownBy W' (some br)/\W'.heap.size=W.heap.size:=by
 obtain⟨l,hl⟩:=zdA p.1 p.2 ⟨by have:=hp.1;omega,by have:=hp.2.1;omega⟩ ⟨by have:=hp.2.2.1;omega,by have:=hp.2.2.2;omega⟩
 obtain⟨W',h1,h2,h3,h4⟩:=h.rch.upd zcQ zbK zge (p:=p) hl true
 refine⟨W',h1,⟨h.pic.grown h3 (fun e=>h.ne (by injection e)),h2.eq (fun q=>?_),h.x1.gk h3 (fun r e e'=>zcG h.x1 h.rch (e'.trans (Option.some.inj e).symm)),h.x4.gk h3 (fun r e e'=>zcG h.x4 h.rch (e'.trans (Option.some.inj e).symm)),h.x5.gk h3 (fun r e e'=>zcG h.x5 h.rch (e'.trans (Option.some.inj e).symm)),h.ne⟩,h3,h4⟩
 unfold setO rchF
 by_cases e:q=p <;> simp[e]
def freeN(c:Cut)(R:Pt->Bool):Nat:=zda (fun j=>!R (za2 c j)) c.piece.length
theorem zgf{f g:Nat->Bool}{i:Nat}(hf:f i=false)(hg:g i=true):∀{n:Nat},i<n->(∀ k,k<n->f k=true->g k=true)->zda f n<zda g n
|n+1,hi,h=>by
  rw[zcM,zcM]
  by_cases e:i=n
  .subst e
   have:=zgP (n:=i) (f:=f) (g:=g) fun k hk=>h k (by omega)
   rw[hf,hg];simp;omega
  .have:=zgf hf hg (n:=n) (by omega) fun k hk=>h k (by omega)
   have h2:=h n (by omega)
   split
   .rename_i h3
    rw[if_pos (h2 h3)];omega
   .omega
theorem zk7{c:Cut}(ok:OkC c){R R':Pt->Bool}{p:Pt}(hp:inG c p)(h0:R p=false)(h1:R' p=true)(h:∀ q,R q=true->R' q=true):freeN c R'<freeN c R:=by
 obtain⟨j,hj,e,-⟩:=zd7 ok hp
 refine zgf (i:=j) (by rw[<- e,h1];rfl) (by rw[<- e,h0];rfl) hj fun k _ hk=>?_
 cases hr:R (za2 c k) with
|false=>rfl
|true=>rw[h _ hr] at hk;cases hk
theorem Bx.nc{W W':World}{row:Option Nat}{b:Nat}{vs:List Value}(h:Bx W b vs)(hn:0<vs.length)(hg:W.grownBy W' row)(hr:∀ r,row=some r->∃ o:Obj,W.heap[r]?=some o/\o.isCells=false):Bx W' b vs:=by
 obtain⟨o,ho,hc⟩:=cells_of_cell (h.c 0 _ (qN hn))
 have hk:=grownBy_keeps_cells hg hr ho hc
 exact⟨qM h.lt hg.size,fun j u hu=>(World.cell?_of_block (a:=⟨b,j,none⟩) hk).trans (h.c j u hu),fun j=>(World.frozen?_of_block (a:=⟨b,j,none⟩) hk).trans (h.fr j)⟩
theorem zgo(p:Pt):four.map (nb p)=za0 p.1 p.2:=by
 unfold four za0
 simp only[List.map_cons,List.map_nil,nb,List.cons.injEq,Prod.mk.injEq,and_true,true_and]
 omega
theorem zmA(p:Pt)(k:Fin 4):nb p k∈za0 p.1 p.2:=by
 rw[<- zgo]
 exact List.mem_map_of_mem (by unfold four;revert k;decide)
theorem zkV{p:Pt}(h:-900<=p.1/\p.1<=900/\-900<=p.2/\p.2<=900)(k:Fin 4):Near (nb p k):=by
 have:=zmA p k
 generalize nb p k=q at *
 unfold za0 at this
 simp only[List.mem_cons,List.not_mem_nil,or_false] at this
 unfold Near
 rcases this with rfl|rfl|rfl|rfl <;> (simp only;omega)
def OnI(c:Cut)(bm br b4 b1 b5:Nat)(p:Pt)(R:Pt->Bool)(w:World)(z:Nat)(pre:List (Fin 4))(W:World):Prop:=
 ∃ R':Pt->Bool,DfsIn c p (fun q=>R q=true) (fun q=>R' q=true) (pre.map (nb p))/\OnW c bm br b4 b1 b5 R' W/\Bx W w.heap.size [.int .i64 p.1,.int .i64 p.2]/\w.grownBy W (some br)/\z<=W.heap.size
theorem OnI.own{c:Cut}{bm br b4 b1 b5:Nat}{p:Pt}{R:Pt->Bool}{w:World}{z:Nat}(hB:bm<w.heap.size/\br<w.heap.size/\b4<w.heap.size/\b1<w.heap.size/\b5<w.heap.size)(hz:w.heap.size<z):OwnFrom z (OnI c bm br b4 b1 b5 p R w z):=by
 rintro pre A B row ⟨R',h1,h2,h3,h4,h5⟩ hg hr
 exact⟨R',h1,h2.up (B:=z) ⟨by omega,by omega,by omega,by omega,by omega⟩ hg (fun r e=>(hr r e).1),h3.gk hg (fun r e e'=>by have:=(hr r e).1;omega),h4.andThen hg (fun j e=>.inl (by have:=(hr j e).1;omega)),Nat.le_trans h5 hg.size⟩
def zro(c:Cut)(bm br b4 b1 b5:Nat)(p:Pt)(R:Pt->Bool)(w:World)(e:Ending)(w':World):Prop:=
 (∃ v,e=.returned v)/\∃ R',Dfs c p (fun q=>R q=true) (fun q=>R' q=true)/\OnW c bm br b4 b1 b5 R' w'/\w.grownBy w' (some br)
theorem zqV(c:Cut)(ok:OkC c)(bm br b4 b1 b5:Nat)(m:Nat):∀(p:Pt) (R:Pt->Bool) (w:World),freeN c R<=m->inG c p->R p=false->OnW c bm br b4 b1 b5 R w->
  Calls Tryz.prog 142 #[.agg #[.int .i64 p.1,.int .i64 p.2],.pointer (some ⟨b4,0,none⟩),.pointer (some ⟨b1,0,none⟩),.pointer (some ⟨b5,0,none⟩)] w (zro c bm br b4 b1 b5 p R w):=by
 induction m with
|zero=>
  intro p R w hm hp h0 _
  obtain⟨j,hj,e,-⟩:=zd7 ok hp
  have:=zgf (f:=fun _=>false) (g:=fun j=>!R (za2 c j)) (i:=j) rfl (by rw[<- e,h0];rfl) hj (fun k _ h=>by cases h)
  unfold freeN at hm
  omega
|succ m ih=>
  intro p R w hm hp h0 hO
  have IH:=qG ih
  have ac:Near p:=by
   unfold inG isIn inS at hp
   simp only[Bool.and_eq_true,qC] at hp
   have:=ok.w
   have:=ok.h
   unfold Near
   omega
  have aw:=qG (hO.up hO.lts (World.grownBy_alloc w (.cells #[.int .i64 p.1,.int .i64 p.2] 261) none) (fun r e=>by cases e))
  obtain⟨W2,aJ,ae,aa,aK⟩:=aw.o.mark p ac
  have c4:=aw.o.x4.c 0 _ rfl
  have hX:=(Bx.new w #[.int .i64 p.1,.int .i64 p.2] 261)
  have c0:=hX.c 0 _ rfl
  have c1:=hX.c 1 _ rfl
  have aT:w.heap.size≠br:=by have:=hO.lts;omega
  have ah:=hX.gk aa (fun r e=>by injection e with e;omega)
  have d0:=ah.c 0 _ rfl
  have d1:=ah.c 1 _ rfl
  have ax:=(World.grownBy_alloc w (.cells #[.int .i64 p.1,.int .i64 p.2] 261) (some br)).trans aa
  have aL:=qG hO
  clear ih hO hX
  refine(callsIn_wide (n:=6)).1 ?_
  refine callsIn_of_wp_marks Tryz.func142 rfl trivial ?_ rfl
  simp only[Tryz.ntmps142,List.size_toArray,List.length_cons,List.length_nil,Nat.reduceAdd,Nat.reduceSub,Array.replicate_succ,Array.replicate_zero,List.push_toArray,List.append_toArray,List.nil_append,List.cons_append]
  gi_wp2_with fail
  refine⟨trivial,(callsIn_wide.2 (zhj _ _ _)).mono ?_⟩
  rintro e w' ⟨rfl,rfl⟩
  gi_wp2_with fail
  have am:=Bx.new W2 #[.int .i64 p.1,.int .i64 p.2] 261
  have ai:W2.grownBy (W2.alloc (.cells #[.int .i64 p.1,.int .i64 p.2] 261)) none:=World.grownBy_alloc _ _ _
  have ay:=ae.up ae.lts ai (fun r e=>by cases e)
  have az:=ah.gk ai (fun r e=>by cases e)
  have an:=ax.trans (ai.but (some br))
  have ag:=aL.o.lts
  have aM:(W2.alloc (.cells #[.int .i64 p.1,.int .i64 p.2] 261)).heap.size=W2.heap.size+1:=by simp
  have aN:W2.heap.size=w.heap.size+1:=by rw[aK];simp
  rw[aN] at am aM
  have aI:-900<=p.1/\p.1<=900/\-900<=p.2/\p.2<=900:=by
   unfold inG isIn inS at hp
   simp only[Bool.and_eq_true,qC] at hp
   have:=ok.w
   have:=ok.h
   omega
  clear c4 c0 c1 d0 d1 aJ ae ah ax ai
  generalize W2.alloc (.cells #[.int .i64 p.1,.int .i64 p.2] 261)=W3 at *
  have ao:=zeG 5 (by omega) p (w.heap.size+1) W3 ac am
  refine wpIn_rangeFunc_ownH rfl (by omega) (gf:=210) (lb:=#[.pointer (some ⟨w.heap.size+1,0,none⟩)]) rfl trivial (enters_of Tryz.func210 (by kernel_rfl) rfl)
   ao (fun h k=>KpC.trans h k) (zk1 (by omega)) (Below.refl _ _) (fun _=>rfl)
   (OnI c bm br b4 b1 b5 p R w W3.heap.size) (fun _ _ _=>False) (OnI.own ag (by omega)) (fun _ _ _ _ _ h _ _=>h)
   ⟨fun q=>R q||decide (q=p),?start,ay,az,an,qQ _⟩
   (fun k a' W=>∃ bx,W3.heap.size<=bx/\Bx W bx [.int .i64 (nb p k).1,.int .i64 (nb p k).2]/\a'={ tmps:=#[.agg #[.int .i64 p.1,.int .i64 p.2],.pointer (some ⟨b4,0,none⟩),.pointer (some ⟨b1,0,none⟩),.pointer (some ⟨b5,0,none⟩),.pointer (some ⟨w.heap.size,0,none⟩),.pointer (some ⟨bx,0,none⟩),.map (some br),.agg #[.int .i64 p.1,.int .i64 p.2],.agg #[.int .i64 p.1,.int .i64 p.2],.func (.func 210) #[] #[.pointer (some ⟨w.heap.size+1,0,none⟩)],.agg #[.int .i64 (nb p k).1,.int .i64 (nb p k).2],undef,undef,undef,undef,undef,undef,undef,undef,undef,undef,undef,undef,undef,undef,undef,undef,undef],defers:=[] })
   (fun k a' _ A B row h hg hr=>by obtain⟨bx,h1,h2,h3⟩:=h;exact⟨bx,h1,h2.nc (by simp) hg (fun r e=>(hr r e).2),h3⟩)
   ?assign ?body ?done ?stop
  case start=>
   have:=DfsIn.start (c:=c) (p:=p) (R:=fun q=>R q=true)
   refine cast (congrArg (fun f=>DfsIn c p (fun q=>R q=true) f []) ?_) this
   funext q
   simp
  case assign=>
   rintro l pre k W K ⟨R',h1,h2,h3,h4,h5⟩ hK
   dsimp only[encA]
   gi_wp2
   have aj:=World.grownBy_alloc W (.cells #[.int .i64 (nb p k).1,.int .i64 (nb p k).2] 261) none
   refine hK _ _ ((KeepsOthers.alloc _ _).from _) ⟨by simp,aj.block _ (by omega) (by simp)⟩ ?_ ⟨W.heap.size,h5,Bx.new _ _ _,rfl⟩
   exact⟨R',h1,h2.up h2.lts aj (fun r e=>by cases e),h3.gk aj (fun r e=>by cases e),h4.trans (aj.but _),by simp;omega⟩
  case body=>
   rintro l pre k a' W hl ⟨r,hr⟩ ⟨R',h1,h2,h3,h4,h5⟩ ⟨bx,aU,ak,rfl⟩ aS
   have ab:=zkV aI k
   have aO:=zmA p k
   generalize hq:nb p k=q at *
   have aP:=qG (show(picF c p).getD 0=at2 c p.1 p.2 from by unfold picF;rw[if_pos (show isIn c p.1 p.2=true from hp)];rfl)
   have H3:=qG (show ∀ W':World,Below W.heap.size W W'->Below W.heap.size W W'/\W'.cell? ⟨b4,0,none⟩=some (.map (some br))/\W'.cell? ⟨bx,0,none⟩=some (.int .i64 q.1)/\W'.cell? ⟨bx,1,none⟩=some (.int .i64 q.2)/\W'.cell? ⟨b1,0,none⟩=some (.int .i64 c.wide)/\W'.cell? ⟨b1,1,none⟩=some (.int .i64 c.high)/\W'.cell? ⟨b1,2,none⟩=some (.slice c.A c.piece.length c.c)/\W'.cell? ⟨b1,3,none⟩=some (.map (some bm))/\W'.cell? ⟨w.heap.size,0,none⟩=some (.int .i64 p.1)/\W'.cell? ⟨w.heap.size,1,none⟩=some (.int .i64 p.2)/\(Instr.lookup 262 (.map (some br)) (.agg #[.int .i64 q.1,.int .i64 q.2]) false).run Tryz.prog W'=.ok (.bool (R' q)) W'/\(Instr.lookup 154 (.map (some bm)) (.agg #[.int .i64 p.1,.int .i64 p.2]) false).run Tryz.prog W'=.ok (.int .i64 (at2 c p.1 p.2)) W' from fun W' h=>by
    obtain⟨l2,aQ⟩:=zdA q.1 q.2 ⟨by have:=ab.1;omega,by have:=ab.2.1;omega⟩ ⟨by have:=ab.2.2.1;omega,by have:=ab.2.2.2;omega⟩
    have aA:=(MapIs.look (p:=q) (h2.rch.next h) zcQ zbK zge zhX aQ).1
    rw[show((rchF R' q).elim (vvB false) vvB)=.bool (R' q) by unfold rchF;cases R' q <;> rfl] at aA
    have aB:=(PicAt.look (MapIs.next h2.pic h) p.1 p.2 ⟨by have:=ac.1;omega,by have:=ac.2.1;omega⟩ ⟨by have:=ac.2.2.1;omega,by have:=ac.2.2.2;omega⟩).1
    rw[aP.o] at aB
    exact⟨h,(h2.x4.next h).c 0 _ rfl,(ak.next h).c 0 _ rfl,(ak.next h).c 1 _ rfl,(h2.x1.next h).c 0 _ rfl,(h2.x1.next h).c 1 _ rfl,(h2.x1.next h).c 2 _ rfl,(h2.x1.next h).c 3 _ rfl,(h3.next h).c 0 _ rfl,(h3.next h).c 1 _ rfl,aA,aB⟩)
   have HC:=qG (show ∀ W':World,Below W.heap.size W W'->Calls Tryz.prog 144 #[.agg #[.int .i64 c.wide,.int .i64 c.high,.slice c.A c.piece.length c.c,.map (some (bm))],.agg #[.int .i64 q.1,.int .i64 q.2]] W' (Ret (.int .i64 (at2 c q.1 q.2)) W') from fun W' h=>zeV c bm q.1 q.2 W' (MapIs.next h2.pic h) ⟨by have:=ab.1;omega,by have:=ab.2.1;omega⟩ ⟨by have:=ab.2.2.1;omega,by have:=ab.2.2.2;omega⟩)
   have HO:=qG h2
   have HD:=qG h1
   have aR:=qG h3
   have HG:=qG h4
   have HZ:=qG h5
   have HL:=qG ag
   have aC:=qG ak
   have aq:(pre++[k]).map (nb p)=pre.map (nb p)++[q]:=by rw[List.map_append,<- hq];rfl
   have aV:=qG aq
   have ar:=qG (fun(R2:Pt->Bool) (W5:World) (d:DfsIn c p (fun q=>R q=true) (fun q=>R2 q=true) (pre.map (nb p)++[q])) (o:OnW c bm br b4 b1 b5 R2 W5) (x:Bx W5 w.heap.size [.int .i64 p.1,.int .i64 p.2]) (g:w.grownBy W5 (some br)) (z:W3.heap.size<=W5.heap.size)=>(show OnI c bm br b4 b1 b5 p R w W3.heap.size (pre++[k]) W5 from⟨R2,by rw[aq];exact d,o,x,g,z⟩))
   have aD:=qG (show w.heap.size+1<W3.heap.size/\br<w.heap.size from⟨by omega,ag.2.1⟩)
   clear h1 h2 h3 h4 h5 ak aq ag ao ay am az an
   have af:=qG (show ∀ W':World,Below W.heap.size W W'->(KeepsFrom W3.heap.size W W'/\KpC (w.heap.size+1) W W'/\OnW c bm br b4 b1 b5 R' W'/\Bx W' w.heap.size [.int .i64 p.1,.int .i64 p.2]/\w.grownBy W' (some br)/\W3.heap.size<=W'.heap.size) from fun W' h=>⟨KeepsFrom.of_grownBy (zbj h none) (fun j e=>by cases e),⟨h.size,h.block _ (by have:=HZ.o;have:=aD.o;omega)⟩,HO.o.up HO.o.lts (zbj h none) (fun r e=>by cases e),aR.o.next h,HG.o.trans (zbj h (some br)),Nat.le_trans HZ.o h.size⟩)
   cases hR:R' q
   .rw[hR] at H3
    have HR:=qG hR
    by_cases hA:at2 c q.1 q.2=at2 c p.1 p.2
    .have eA:(at2 c q.1 q.2==at2 c p.1 p.2)=true:=by simp[hA]
     have HA:=qG hA
     clear hR hA
     gi_wp2_with fail
     refine zcD (S:=fun _=>True) (by kernel_rfl) (by kernel_rfl) trivial (fun _=>?_)
     refine GG.sound (S0:=(fun W'=>Below W.heap.size W W'/\W'.cell? ⟨b4,0,none⟩=some (.map (some br))/\W'.cell? ⟨bx,0,none⟩=some (.int .i64 q.1)/\W'.cell? ⟨bx,1,none⟩=some (.int .i64 q.2)/\W'.cell? ⟨b1,0,none⟩=some (.int .i64 c.wide)/\W'.cell? ⟨b1,1,none⟩=some (.int .i64 c.high)/\W'.cell? ⟨b1,2,none⟩=some (.slice c.A c.piece.length c.c)/\W'.cell? ⟨b1,3,none⟩=some (.map (some bm))/\W'.cell? ⟨w.heap.size,0,none⟩=some (.int .i64 p.1)/\W'.cell? ⟨w.heap.size,1,none⟩=some (.int .i64 p.2)/\(Instr.lookup 262 (.map (some br)) (.agg #[.int .i64 q.1,.int .i64 q.2]) false).run Tryz.prog W'=.ok (.bool false) W'/\(Instr.lookup 154 (.map (some bm)) (.agg #[.int .i64 p.1,.int .i64 p.2]) false).run Tryz.prog W'=.ok (.int .i64 (at2 c p.1 p.2)) W')) _ (fun W'=>Below W.heap.size W W') _ _ (fun W W' h hb=>h.trans (hb.mono h.size)) (fun W' h=>H3.o W' h) ?_ _ ((Below.refl _ _).drew)
     refine gt 0 (h:=?_)
     refine gt 1 (h:=?_)
     refine gt 2 (h:=?_)
     refine gt 3 (h:=?_)
     refine gt 4 (h:=?_)
     refine gt 5 (h:=?_)
     refine gt 6 (h:=?_)
     refine zaj (i:=7) (v:=.int .i64 (at2 c q.1 q.2)) rfl (by kernel_rfl) (by kernel_rfl) (by kernel_rfl) (Or.inl ⟨by rfl,fun W hW=>?_⟩) ?_
     .go_simp;exact HC.o W hW.1
     try simp only[qW]
     refine gt 8 (h:=?_)
     refine gt 9 (h:=?_)
     refine gt 10 (h:=?_)
     refine gt 11 (h:=?_)
     refine gt 12 (h:=?_)
     refine gt 13 (h:=?_)
     refine ziQ (by kernel_rfl) (fun w' hT=>?_)
     dsimp only[Only]
     dsimp only[Exit.inBlock,Exit.then]
     obtain⟨u1,u2,u3,u4,u5,u6⟩:=af.o _ hT
     have c5:=u3.x5.c 0 _ rfl
     have cb0:=(aC.o.next hT).c 0 _ rfl
     have cb1:=(aC.o.next hT).c 1 _ rfl
     have U1:=qG u1
     have U2:=qG u2
     have U3:=qG u3
     have U4:=qG u4
     have U5:=qG u5
     have U6:=qG u6
     unfold onV at c5
     clear u1 u2 u3 u4 u5 u6 af H3 HC hT
     gi_wp2_with fail
     refine⟨trivial,CallsIn.inRound l (callsIn_wide.2 ((IH.o q R' w' ?_ ?_ HR.o U3.o).mono ?_))⟩
     .have:=zk7 ok hp h0 (R':=R') HD.o.own (fun q hq=>HD.o.old q hq)
      omega
     .have h8:=(zfw ok p).1 hp
      rw[zfw ok]
      unfold pcOf at *
      rw[HA.o];exact h8
     rintro e W5 ⟨⟨v,rfl⟩,R2,aE,ae,aa⟩
     have hlt:=aD.o
     have aW:br<W3.heap.size:=by omega
     have aF:KeepsFrom W3.heap.size w' W5:=KeepsFrom.of_grownBy aa (fun j e=>by injection e with e;omega)
     have aG:KpC (w.heap.size+1) w' W5:=⟨aa.size,aa.block _ (by have:=U6.o;omega) (fun e=>by injection e with e;omega)⟩
     have aH:Bx W5 w.heap.size [.int .i64 p.1,.int .i64 p.2]:=U4.o.gk aa (fun r e=>by injection e with e;omega)
     have au:=ar.o R2 W5 (HD.o.go aO HA.o aE) ae aH (U5.o.trans aa) (Nat.le_trans U6.o aa.size)
     have HF:=qG (show KeepsFrom W3.heap.size W W5/\KpC (w.heap.size+1) W W5/\OnI c bm br b4 b1 b5 p R w W3.heap.size (pre++[k]) W5 from⟨U1.o.trans aF,U2.o.trans aG,au⟩)
     clear aE ae aa aF aG aH au
     gi_wp2_with fail
     exact HF.o
    .have eA:(at2 c q.1 q.2==at2 c p.1 p.2)=false:=by simp[hA]
     have HA:=qG hA
     clear hR hA
     gi_wp2_with fail
     refine zcD (S:=fun _=>True) (by kernel_rfl) (by kernel_rfl) trivial (fun _=>?_)
     refine GG.sound (S0:=(fun W'=>Below W.heap.size W W'/\W'.cell? ⟨b4,0,none⟩=some (.map (some br))/\W'.cell? ⟨bx,0,none⟩=some (.int .i64 q.1)/\W'.cell? ⟨bx,1,none⟩=some (.int .i64 q.2)/\W'.cell? ⟨b1,0,none⟩=some (.int .i64 c.wide)/\W'.cell? ⟨b1,1,none⟩=some (.int .i64 c.high)/\W'.cell? ⟨b1,2,none⟩=some (.slice c.A c.piece.length c.c)/\W'.cell? ⟨b1,3,none⟩=some (.map (some bm))/\W'.cell? ⟨w.heap.size,0,none⟩=some (.int .i64 p.1)/\W'.cell? ⟨w.heap.size,1,none⟩=some (.int .i64 p.2)/\(Instr.lookup 262 (.map (some br)) (.agg #[.int .i64 q.1,.int .i64 q.2]) false).run Tryz.prog W'=.ok (.bool false) W'/\(Instr.lookup 154 (.map (some bm)) (.agg #[.int .i64 p.1,.int .i64 p.2]) false).run Tryz.prog W'=.ok (.int .i64 (at2 c p.1 p.2)) W')) _ (fun W'=>Below W.heap.size W W') _ _ (fun W W' h hb=>h.trans (hb.mono h.size)) (fun W' h=>H3.o W' h) ?_ _ ((Below.refl _ _).drew)
     refine gt 0 (h:=?_)
     refine gt 1 (h:=?_)
     refine gt 2 (h:=?_)
     refine gt 3 (h:=?_)
     refine gt 4 (h:=?_)
     refine gt 5 (h:=?_)
     refine gt 6 (h:=?_)
     refine zaj (i:=7) (v:=.int .i64 (at2 c q.1 q.2)) rfl (by kernel_rfl) (by kernel_rfl) (by kernel_rfl) (Or.inl ⟨by rfl,fun W hW=>?_⟩) ?_
     .go_simp;exact HC.o W hW.1
     try simp only[qW]
     refine gt 8 (h:=?_)
     refine gt 9 (h:=?_)
     refine gt 10 (h:=?_)
     refine gt 11 (h:=?_)
     refine gt 12 (h:=?_)
     refine gt 13 (h:=?_)
     refine ziQ (by kernel_rfl) (fun w' hT=>?_)
     dsimp only[Only]
     dsimp only[Exit.inBlock,Exit.then]
     obtain⟨u1,u2,u3,u4,u5,u6⟩:=af.o _ hT
     have HF:=qG (show KeepsFrom W3.heap.size W w'/\KpC (w.heap.size+1) W w'/\OnI c bm br b4 b1 b5 p R w W3.heap.size (pre++[k]) w' from⟨u1,u2,ar.o R' w' (HD.o.skip (.inr HA.o)) u3 u4 u5 u6⟩)
     clear u1 u2 u3 u4 u5 u6 af H3 HC hT
     gi_wp2_with fail
     exact HF.o
   .rw[hR] at H3
    have HR:=qG hR
    clear hR
    gi_wp2_with fail
    refine zcD (S:=fun _=>True) (by kernel_rfl) (by kernel_rfl) trivial (fun _=>?_)
    refine GG.sound (S0:=(fun W'=>Below W.heap.size W W'/\W'.cell? ⟨b4,0,none⟩=some (.map (some br))/\W'.cell? ⟨bx,0,none⟩=some (.int .i64 q.1)/\W'.cell? ⟨bx,1,none⟩=some (.int .i64 q.2)/\W'.cell? ⟨b1,0,none⟩=some (.int .i64 c.wide)/\W'.cell? ⟨b1,1,none⟩=some (.int .i64 c.high)/\W'.cell? ⟨b1,2,none⟩=some (.slice c.A c.piece.length c.c)/\W'.cell? ⟨b1,3,none⟩=some (.map (some bm))/\W'.cell? ⟨w.heap.size,0,none⟩=some (.int .i64 p.1)/\W'.cell? ⟨w.heap.size,1,none⟩=some (.int .i64 p.2)/\(Instr.lookup 262 (.map (some br)) (.agg #[.int .i64 q.1,.int .i64 q.2]) false).run Tryz.prog W'=.ok (.bool true) W'/\(Instr.lookup 154 (.map (some bm)) (.agg #[.int .i64 p.1,.int .i64 p.2]) false).run Tryz.prog W'=.ok (.int .i64 (at2 c p.1 p.2)) W')) _ (fun W'=>Below W.heap.size W W') _ _ (fun W W' h hb=>h.trans (hb.mono h.size)) (fun W' h=>H3.o W' h) ?_ _ ((Below.refl _ _).drew)
    refine gt 0 (h:=?_)
    refine gt 1 (h:=?_)
    refine gt 2 (h:=?_)
    refine gt 3 (h:=?_)
    refine gt 4 (h:=?_)
    refine zaj (i:=5) (v:=undef) rfl (by kernel_rfl) (by kernel_rfl) (by kernel_rfl) (Or.inr ⟨by rfl,rfl⟩) ?_
    try simp only[qW]
    refine zaj (i:=6) (v:=undef) rfl (by kernel_rfl) (by kernel_rfl) (by kernel_rfl) (Or.inr ⟨by rfl,rfl⟩) ?_
    try simp only[qW]
    refine zaj (i:=7) (v:=undef) rfl (by kernel_rfl) (by kernel_rfl) (by kernel_rfl) (Or.inr ⟨by rfl,rfl⟩) ?_
    try simp only[qW]
    refine zaj (i:=8) (v:=undef) rfl (by kernel_rfl) (by kernel_rfl) (by kernel_rfl) (Or.inr ⟨by rfl,rfl⟩) ?_
    try simp only[qW]
    refine zaj (i:=9) (v:=undef) rfl (by kernel_rfl) (by kernel_rfl) (by kernel_rfl) (Or.inr ⟨by rfl,rfl⟩) ?_
    try simp only[qW]
    refine zaj (i:=10) (v:=undef) rfl (by kernel_rfl) (by kernel_rfl) (by kernel_rfl) (Or.inr ⟨by rfl,rfl⟩) ?_
    try simp only[qW]
    refine zaj (i:=11) (v:=undef) rfl (by kernel_rfl) (by kernel_rfl) (by kernel_rfl) (Or.inr ⟨by rfl,rfl⟩) ?_
    try simp only[qW]
    refine zaj (i:=12) (v:=undef) rfl (by kernel_rfl) (by kernel_rfl) (by kernel_rfl) (Or.inr ⟨by rfl,rfl⟩) ?_
    try simp only[qW]
    refine gt 13 (h:=?_)
    refine ziQ (by kernel_rfl) (fun w' hT=>?_)
    dsimp only[Only]
    dsimp only[Exit.inBlock,Exit.then]
    obtain⟨u1,u2,u3,u4,u5,u6⟩:=af.o _ hT
    have HF:=qG (show KeepsFrom W3.heap.size W w'/\KpC (w.heap.size+1) W w'/\OnI c bm br b4 b1 b5 p R w W3.heap.size (pre++[k]) w' from⟨u1,u2,ar.o R' w' (HD.o.skip (.inl HR.o)) u3 u4 u5 u6⟩)
    clear u1 u2 u3 u4 u5 u6 af H3 HC hT
    gi_wp2_with fail
    exact HF.o
  case done=>
   rintro D xs W hD hS ⟨R',h1,h2,h3,h4,h5⟩ hK
   gi_wp2_with fail
   refine⟨by simp,.inl ⟨_,_,rfl,run_takeDeferred hK,?_⟩⟩
   refine⟨_,results_none rfl _ _ _,⟨_,rfl⟩,R',?_,h2.up (B:=W3.heap.size) ⟨by omega,by omega,by omega,by omega,by omega⟩ (grownBy_putObj' W D (.deferred none)) (fun r e=>by injection e with e;omega),h4.andThen (grownBy_putObj' W D (.deferred none)) (fun j e=>.inl (by injection e with e;omega))⟩
   rw[hS,zgo] at h1
   exact h1.finish
  case stop=>
   rintro D cc pre W _ _ h _
   exact h.elim
end Cu
namespace Cu
open Go.RowKit
def zbq(n:Nat)(f:Nat->Int):List Value:=(List.range n).map fun k=>Value.int .i64 (f k)
theorem IBlk.range{w:World}{g n:Nat}{f:Nat->Int}(h:IBlk w g n f):w.rangeAt g 0 (zbq n f):=fun j v hv=>by
 unfold zbq at hv
 rw[List.getElem?_map] at hv
 by_cases hj:j<n
 .rw[List.getElem?_range hj] at hv
  injection hv with hv
  rw[<- hv,Nat.zero_add]
  exact h.cell j hj
 .rw[List.getElem?_eq_none (by simp;omega)] at hv
  cases hv
theorem IBlk.there{w:World}{g n:Nat}{f:Nat->Int}(h:IBlk w g n f):w.there g 0 n:=fun j hj=>by
 rw[Nat.zero_add]
 exact⟨by rw[h.cell j hj];rfl,h.free j⟩
theorem IBlk.gk{W W':World}{row:Option Nat}{g n:Nat}{f:Nat->Int}(h:IBlk W g n f)(hg:W.grownBy W' row)(hr:∀ r,row=some r->g≠r):IBlk W' g n f:=by
 have hk:=hg.block g h.lt (fun e=>hr g e.symm rfl)
 exact⟨qM h.lt hg.size,fun j hj=>(World.cell?_of_block (a:=⟨g,j,none⟩) hk).trans (h.cell j hj),fun j=>(World.frozen?_of_block (a:=⟨g,j,none⟩) hk).trans (h.free j)⟩
theorem zo3:(Tryz.prog.info? 153).map (fun i=>i.size)=some 40:=by kernel_rfl
theorem zlm:Tryz.prog.underlying 153=some (.array 40 3):=by kernel_rfl
structure PartsW(c:Cut)(bm:Nat)(w V:World):Prop where
 x0:Bx V w.heap.size (picL c bm)
 i1:IBlk V (w.heap.size+1) 40 (fun _=>0)
 i2:IBlk V (w.heap.size+1+1) 40 (fun _=>0)
 mp:MapIs Tryz.prog 261 kv2 vvB (w.heap.size+1+1+1) (fun _=>none) V
 x4:Bx V (w.heap.size+1+1+1+1) [.map (some (w.heap.size+1+1+1))]
 x5:Bx V (w.heap.size+1+1+1+1+1) [.nilFunc]
 b:Below w.heap.size w V
 z:V.heap.size=w.heap.size+1+1+1+1+1+1
abbrev Z40:Array Value:=(Value.int .i64 0 :: Value.int .i64 0 :: Value.int .i64 0 :: Value.int .i64 0 :: Value.int .i64 0 :: Value.int .i64 0 :: Value.int .i64 0 :: Value.int .i64 0 :: Value.int .i64 0 :: Value.int .i64 0 :: Value.int .i64 0 :: Value.int .i64 0 :: Value.int .i64 0 :: Value.int .i64 0 :: Value.int .i64 0 :: Value.int .i64 0 :: Value.int .i64 0 :: Value.int .i64 0 :: Value.int .i64 0 :: Value.int .i64 0 :: Value.int .i64 0 :: Value.int .i64 0 :: Value.int .i64 0 :: Value.int .i64 0 :: Value.int .i64 0 :: Value.int .i64 0 :: Value.int .i64 0 :: Value.int .i64 0 :: Value.int .i64 0 :: Value.int .i64 0 :: Value.int .i64 0 :: Value.int .i64 0 :: Value.int .i64 0 :: Value.int .i64 0 :: Value.int .i64 0 :: Value.int .i64 0 :: Value.int .i64 0 :: Value.int .i64 0 :: Value.int .i64 0 :: Value.int .i64 0 :: []).toArray
theorem zfk(W:World)(t:TypeId):IBlk (W.alloc (Obj.cells Z40 t)) W.heap.size 40 (fun _=>0):=by
 have e:zeros 40=Z40:=by kernel_rfl
 rw[<- e]
 exact IBlk.zeros W 40 t
theorem PartsW.made(c:Cut)(bm:Nat)(w:World):PartsW c bm w ((((((w.alloc (Obj.cells #[.int .i64 c.wide,.int .i64 c.high,.slice c.A c.piece.length c.c,.map (some (bm))] 156)).alloc (Obj.cells Z40 153)).alloc (Obj.cells Z40 153)).alloc (Obj.map #[] 0)).alloc (Obj.cells #[.map (some (w.heap.size+1+1+1))] 262)).alloc (Obj.cells #[Value.nilFunc] 263)):=by
 have n0:=nxA w (Obj.cells #[.int .i64 c.wide,.int .i64 c.high,.slice c.A c.piece.length c.c,.map (some (bm))] 156)
 have y0:=Bx.new w #[.int .i64 c.wide,.int .i64 c.high,.slice c.A c.piece.length c.c,.map (some (bm))] 156
 have s0:(w.alloc (Obj.cells #[.int .i64 c.wide,.int .i64 c.high,.slice c.A c.piece.length c.c,.map (some (bm))] 156)).heap.size=w.heap.size+1:=by simp
 generalize(w.alloc (Obj.cells #[.int .i64 c.wide,.int .i64 c.high,.slice c.A c.piece.length c.c,.map (some (bm))] 156))=W0 at *
 have n1:=nxA W0 (Obj.cells Z40 153)
 have y1:=zfk W0 153
 have s1:(W0.alloc (Obj.cells Z40 153)).heap.size=w.heap.size+1+1:=by simp[s0]
 generalize W0.alloc (Obj.cells Z40 153)=W1 at *
 have n2:=nxA W1 (Obj.cells Z40 153)
 have y2:=zfk W1 153
 have s2:(W1.alloc (Obj.cells Z40 153)).heap.size=w.heap.size+1+1+1:=by simp[s1]
 generalize W1.alloc (Obj.cells Z40 153)=W2 at *
 have n3:=nxA W2 (Obj.map #[] 0)
 have y3:=MapIs.made Tryz.prog 261 kv2 vvB W2
 have s3:(W2.alloc (Obj.map #[] 0)).heap.size=w.heap.size+1+1+1+1:=by simp[s2]
 generalize W2.alloc (Obj.map #[] 0)=W3 at *
 have n4:=nxA W3 (Obj.cells #[.map (some (w.heap.size+1+1+1))] 262)
 have y4:=Bx.new W3 #[.map (some (w.heap.size+1+1+1))] 262
 have s4:(W3.alloc (Obj.cells #[.map (some (w.heap.size+1+1+1))] 262)).heap.size=w.heap.size+1+1+1+1+1:=by simp[s3]
 generalize W3.alloc (Obj.cells #[.map (some (w.heap.size+1+1+1))] 262)=W4 at *
 have n5:=nxA W4 (Obj.cells #[Value.nilFunc] 263)
 have y5:=Bx.new W4 #[Value.nilFunc] 263
 have s5:(W4.alloc (Obj.cells #[Value.nilFunc] 263)).heap.size=w.heap.size+1+1+1+1+1+1:=by simp[s4]
 generalize W4.alloc (Obj.cells #[Value.nilFunc] 263)=W5 at *
 rw[s0] at y1
 rw[s1] at y2
 rw[s2] at y3
 rw[s3] at y4
 rw[s4] at y5
 exact⟨((((y0.next n1).next n2).next n3).next n4).next n5,(((y1.next n2).next n3).next n4).next n5,((y2.next n3).next n4).next n5,(y3.next n4).next n5,y4.next n5,y5,n0.trans ((n1.trans ((n2.trans ((n3.trans ((n4.trans (n5.mono n4.size)).mono n3.size)).mono n2.size)).mono n1.size)).mono n0.size),s5⟩
theorem IBlk.of{W W':World}{g n:Nat}{f:Nat->Int}(h:IBlk W g n f)(hs:W.heap.size<=W'.heap.size)(hk:W'.heap[g]?=W.heap[g]?):IBlk W' g n f:=
 ⟨qM h.lt hs,fun j hj=>(World.cell?_of_block (a:=⟨g,j,none⟩) hk).trans (h.cell j hj),fun j=>(World.frozen?_of_block (a:=⟨g,j,none⟩) hk).trans (h.free j)⟩
structure PartsV(c:Cut)(bm:Nat)(w V:World):Prop where
 on:OnW c bm (w.heap.size+1+1+1) (w.heap.size+1+1+1+1) w.heap.size (w.heap.size+1+1+1+1+1) (fun _=>false) V
 i1:IBlk V (w.heap.size+1) 40 (fun _=>0)
 i2:IBlk V (w.heap.size+1+1) 40 (fun _=>0)
 b:Below w.heap.size w V
 z:V.heap.size=w.heap.size+1+1+1+1+1+1
theorem PartsV.of{c:Cut}{bm:Nat}{w V:World}(h:PartsW c bm w V)(hp:PicAt c bm w):PartsV c bm w (V.setCell ⟨w.heap.size+1+1+1+1+1,0,none⟩ (onV (w.heap.size+1+1+1+1) w.heap.size (w.heap.size+1+1+1+1+1))):=by
 have hlt:=hp.lt
 have hk:∀ q,q≠w.heap.size+1+1+1+1+1->(V.setCell ⟨w.heap.size+1+1+1+1+1,0,none⟩ (onV (w.heap.size+1+1+1+1) w.heap.size (w.heap.size+1+1+1+1+1))).heap[q]?=V.heap[q]?:=fun q hq=>zb5 (Ne.symm hq) _ _
 have hs:V.heap.size<=(V.setCell ⟨w.heap.size+1+1+1+1+1,0,none⟩ (onV (w.heap.size+1+1+1+1) w.heap.size (w.heap.size+1+1+1+1+1))).heap.size:=by rw[World.size_setCell];exact qQ _
 refine⟨⟨(MapIs.next hp h.b).of (hk _ (by omega)),(h.mp.of (hk _ (by omega))).eq (fun p=>by unfold rchF;rfl),h.x0.of hs (hk _ (by omega)),h.x4.of hs (hk _ (by omega)),?_,by omega⟩,h.i1.of hs (hk _ (by omega)),h.i2.of hs (hk _ (by omega)),h.b.setCell (p:=⟨w.heap.size+1+1+1+1+1,0,none⟩) (by show w.heap.size<=w.heap.size+1+1+1+1+1;omega) _,by rw[World.size_setCell];exact h.z⟩
 exact h.x5.set (k:=0) (by simp) (onV (w.heap.size+1+1+1+1) w.heap.size (w.heap.size+1+1+1+1+1))
def zdI(b r:Nat)(W:World):Nat:=match W.heap[b]?,W.heap[r]? with
|some (.map es _),some (.mapIter _ _ seen _)=>(leftOf es seen).size
|_,_=>0
theorem RangeIs.left{α β:Type}[DecidableEq α]{P:Program}{k:TypeId}{kv:α->Value}{vv:β->Value}{b r cnt:Nat}{f:α->Option β}{done:α->Bool}{W:World}(h:RangeIs P k kv vv b r f done cnt W):zdI b r W=cnt:=by
 obtain⟨es,clock,since,seen,c0,h1,h2,h3,h4,h5,h6,h7,-⟩:=h
 unfold zdI
 rw[h1,h3]
 exact h7
structure RP(c:Cut)(bm r:Nat)(w W:World)(R:Pt->Bool)(ls:List Pt)(done:Pt->Bool)(cnt:Nat):Prop where
 rg:RangeIs Tryz.prog 261 kv2 vvI bm r (picF c) done cnt W
 st:Starts c (fun p=>R p=true) ls
 dn:∀ p,done p=true->R p=true
 i1:IBlk W (w.heap.size+1) 40 (fun _=>0)
 i2:IBlk W (w.heap.size+1+1) 40 (fun j=>partsOf c ls (j:Int))
 on:OnW c bm (w.heap.size+1+1+1) (w.heap.size+1+1+1+1) w.heap.size (w.heap.size+1+1+1+1+1) R W
 b:Below w.heap.size w W
 bd:ls.length+freeN c R<=c.piece.length
theorem zaQ(b:Nat):∀(l:List Value) (o:Nat) (w:World),w.setCells b o l=setCells w b o l
|[],_,_=>rfl
|_ :: l,o,_=>zaQ b l (o+1) _
theorem zeW(c:Cut)(p:Pt)(ls:List Pt)(k:Int):partsOf c (p :: ls) k=partsOf c ls k+(if pcOf c p=k then 1 else 0):=by
 unfold partsOf
 rw[List.countP_cons]
 by_cases e:pcOf c p=k
 .simp[e]
 .simp[e]
theorem zly(c:Cut)(ls:List Pt)(k:Int):0<=partsOf c ls k/\partsOf c ls k<=ls.length:=by
 unfold partsOf
 have:=List.countP_le_length (p:=fun s=>pcOf c s==k) (l:=ls)
 omega
theorem OnW.far{c:Cut}{bm br b4 b1 b5 g:Nat}{R:Pt->Bool}{W:World}(h:OnW c bm br b4 b1 b5 R W)(hg:g≠bm/\g≠br/\g≠b4/\g≠b1/\g≠b5)(o:Nat)(v:Value):OnW c bm br b4 b1 b5 R (W.setCell ⟨g,o,none⟩ v):=
 ⟨h.pic.of (zb5 hg.1 _ _),h.rch.of (zb5 hg.2.1 _ _),h.x1.other (Ne.symm hg.2.2.2.1) _ _,h.x4.other (Ne.symm hg.2.2.1) _ _,h.x5.other (Ne.symm hg.2.2.2.2) _ _,h.ne⟩
def zo4(c:Cut)(w:World)(e:Ending)(w':World):Prop:=∃ f,zhV c f/\e=.returned (.agg (zbq 40 (fun j=>f (j:Int))).toArray)/\Below w.heap.size w w'
theorem zmt(c:Cut)(bm:Nat)(w:World)(ok:OkC c)(hp:PicAt c bm w):Calls Tryz.prog 75 #[.agg #[.int .i64 c.wide,.int .i64 c.high,.slice c.A c.piece.length c.c,.map (some (bm))]] w (zo4 c w):=by
 have bq:=@run_makeMap Tryz.prog
 have hlt:=hp.lt
 have HW:=qG (PartsW.made c bm w)
 have HP:=qG hp
 have OK:=qG ok
 clear hp ok
 go_enter Tryz.func75,Tryz.ntmps75
 go_upto_region 4 with fail
 generalize((((((w.alloc (Obj.cells #[.int .i64 c.wide,.int .i64 c.high,.slice c.A c.piece.length c.c,.map (some (bm))] 156)).alloc (Obj.cells Z40 153)).alloc (Obj.cells Z40 153)).alloc (Obj.map #[] 0)).alloc (Obj.cells #[.map (some (w.heap.size+1+1+1))] 262)).alloc (Obj.cells #[Value.nilFunc] 263))=V at *
 clear bq
 have c5:=HW.o.x5.c 0 _ rfl
 have f5:=HW.o.x5.fr 0
 have hst:(store ⟨w.heap.size+1+1+1+1+1,0,none⟩ (onV (w.heap.size+1+1+1+1) w.heap.size (w.heap.size+1+1+1+1+1))).run Tryz.prog V=.ok () (V.setCell ⟨w.heap.size+1+1+1+1+1,0,none⟩ (onV (w.heap.size+1+1+1+1) w.heap.size (w.heap.size+1+1+1+1+1))):=by
  rw[run_store Tryz.prog V _ _ _ (by rfl)]
  simp[c5,f5]
 have HV:=qG (PartsV.of HW.o HP.o)
 unfold onV at hst HV
 clear c5 f5
 go_upto_region 5 with fail
 generalize V.setCell ⟨w.heap.size+1+1+1+1+1,0,none⟩ (.func (.func 142) #[] #[.pointer (some ⟨w.heap.size+1+1+1+1,0,none⟩),.pointer (some ⟨w.heap.size,0,none⟩),.pointer (some ⟨w.heap.size+1+1+1+1+1,0,none⟩)])=V1 at *
 clear hst
 obtain⟨W0,cnt0,ar,au,aN,bu⟩:=HV.o.on.pic.range zeo
 obtain⟨rr,aw⟩:∃ rr,rr=V1.heap.size:=⟨_,rfl⟩
 rw[<- aw] at ar au
 have HZ:=qG (aw.trans HV.o.z)
 clear aw bu
 have c1:=HV.o.on.x1.c 3 _ rfl
 go_wp2_with fail
 clear c1 ar
 have aj:=qG aN
 have bv:=qG au
 clear aN au
 go_loopw [] (fun wr=>∃ R ls done cnt,RP c bm rr w wr R ls done cnt) (fun wr=>zdI bm rr wr)
 case atStart=>
  refine⟨fun _=>false,[],fun _=>false,cnt0,⟨bv.o,?_,fun p h=>(by cases h),HV.o.i1.next aj.o,(HV.o.i2.next aj.o).congr (fun k=>rfl),HV.o.on.up (HV.o.on.lts) (zbj aj.o none) (fun r e=>by cases e),zdg aj.o HV.o.b (qQ _),(by rw[List.length_nil,Nat.zero_add];exact zju _ _)⟩⟩
  refine cast (congrArg (fun f=>Starts c f []) ?_) (Starts.nil (c:=c))
  funext p;exact propext ⟨fun h=>h.elim,fun h=>by cases h⟩
 case round=>
  obtain⟨R,ls,done,cnt,hr⟩:=hrel
  have HR:=qG hr
  have HL:=qG hr.rg.left
  rcases hr.rg.step zbK 0 with ⟨h0,ax,ay⟩|⟨p,v,W2,cnt2,hf,aO,-,ay,aP,az,aQ,aR,hent⟩
  .have bh:=qG ax
   have ab:(zbq 40 (fun j=>partsOf c ls (j:Int))).length=40:=by unfold zbq;simp
   have aA:=hr.i2.range
   have ak:wr.there (w.heap.size+1) 0 (zbq 40 (fun j=>partsOf c ls (j:Int))).length:=by rw[ab];exact hr.i1.there
   have ai:(zbq 40 (fun j=>partsOf c ls (j:Int))).toArray.all (·.oneCell')=true:=all_oneCell_toArray (fun v hv=>by
    unfold zbq at hv
    obtain⟨k,-,rfl⟩:=List.mem_map.1 hv
    rfl)
   have aa:(Tryz.prog.info? 153).map (·.size)=some (zbq 40 (fun j=>partsOf c ls (j:Int))).length:=by rw[ab];exact zo3
   obtain⟨L,hL⟩:∃ L,L=zbq 40 (fun j=>partsOf c ls (j:Int)):=⟨_,rfl⟩
   rw[<- hL] at ab aA ak ai aa
   have bw:=qG hL
   clear hL
   have aB:wr.there (w.heap.size+1) 0 L.toArray.size:=by simpa using ak
   have am:(Tryz.prog.info? 153).map (·.size)=some L.toArray.size:=by simpa using aa
   have aC:=run_loadVar_mid (P:=Tryz.prog) (wr.setCells (w.heap.size+1) 0 L.toArray.toList) (w.heap.size+1) 0 153 L _ (by simpa using World.rangeAt_setCells_same wr (w.heap.size+1) 0 L ak) zlm rfl aa
   have bi:=qG aC
   have G1:=qG aA
   have G2:=qG aB
   have G3:=qG aa
   have G4:=qG am
   have G5:=qG ai
   clear hr ax ab aA ak ai aa aC aB am
   go_upto_region 11 with fail
   go_wp2_with (first|(refine wpList_load_mid rfl 153 (.tmp 3) rfl (w.heap.size+1+1) 0 rfl L _ G1.o zlm rfl G3.o ?_)|(refine wpList_store_mid rfl 153 (.tmp 2) (.tmp 30) rfl (w.heap.size+1) 0 L.toArray rfl rfl G2.o G4.o G5.o ?_))
   ((try simp only[Exit.inBlock,Exit.then]);refine bodyPost_ret (zaH rfl rfl bi.o) rfl ?_)
   refine⟨partsOf c ls,znT HR.o.st (fun p hp=>HR.o.dn p ?_),by rw[bw.o],?_⟩
   .rw[bh.o p,zcE];exact hp
   .rw[zaQ]
    exact zac (b:=w.heap.size+1) (by omega) _ 0 HR.o.b
  .unfold kv2 vvI at ay hent
   have hp:inG c p:=by
    have:=zcE (c:=c) p
    rw[hf] at this
    exact this.symm
   have hv:v=at2 c p.1 p.2:=by
    have:=zga (c:=c) p
    rw[hf] at this
    exact this
   have aS:=(zfw OK.o p).1 hp
   obtain⟨k,hk⟩:∃ k:Nat,at2 c p.1 p.2=(k:Int):=⟨(at2 c p.1 p.2).toNat,by unfold pcOf at aS;omega⟩
   have bI:(k:Int)<40:=by have:=(OK.o.at_bd p.1 p.2).2.1;omega
   rw[hv,hk] at ay hent
   have HK:=qG hk
   have an:=qG hp
   have aT:=qG aP
   have aD:=qG az
   have bz:=qG aQ
   have bJ:=qG aR
   have bK:=qG aO
   clear hr hf aO aP az aQ aR hv hp aS hk
   go_upto_region 8 with fail
   have aE:=World.grownBy_alloc W2 (.cells #[.int .i64 p.1,.int .i64 p.2] 261) none
   have ac:=Bx.new W2 #[.int .i64 p.1,.int .i64 p.2] 261
   have ae:=bz.o.trans (aE.but (some rr))
   have bA:=HZ.o
   have aF:rr<W2.heap.size:=aT.o.rlt
   have ao:=HR.o.on.up (B:=rr) ⟨by omega,by omega,by omega,by omega,by omega⟩ ae (fun r e=>by injection e with e;omega)
   have aU:=HR.o.i1.gk ae (fun r e=>by injection e with e;omega)
   have aV:=HR.o.i2.gk ae (fun r e=>by injection e with e;omega)
   have aW:=HR.o.b.grown ae HR.o.b.size (fun r e=>by injection e with e;omega)
   have aG:=aT.o.grown aE (by simp) (by simp)
   have bj:=qG (show w.heap.size<W2.heap.size/\bm<W2.heap.size/\rr<W2.heap.size/\rr<(W2.alloc (.cells #[.int .i64 p.1,.int .i64 p.2] 261)).heap.size from⟨by omega,by omega,aF,aG.rlt⟩)
   obtain⟨bx,aH⟩:∃ bx,bx=W2.heap.size:=⟨_,rfl⟩
   rw[<- aH] at ac
   generalize W2.alloc (.cells #[.int .i64 p.1,.int .i64 p.2] 261)=W3 at *
   have af:Near p:=by
    have hp:=an.o
    unfold inG isIn inS at hp
    simp only[Bool.and_eq_true,qC] at hp
    have:=OK.o.w
    have:=OK.o.h
    unfold Near
    omega
   obtain⟨l,hl⟩:=zdA p.1 p.2 ⟨by have:=af.1;omega,by have:=af.2.1;omega⟩ ⟨by have:=af.2.2.1;omega,by have:=af.2.2.2;omega⟩
   have ag:=(MapIs.look (p:=p) ao.rch zcQ zbK zge zhX hl).1
   rw[show((rchF R p).elim (vvB false) vvB)=.bool (R p) by unfold rchF;cases R p <;> rfl] at ag
   unfold kv2 at ag
   have c4:=ao.x4.c 0 _ rfl
   have b0:=ac.c 0 _ rfl
   have b1:=ac.c 1 _ rfl
   have aX:=qG ao
   have aY:=qG aU
   have aq:=qG aV
   have aZ:=qG aW
   have aI:=qG aG
   have bB:=qG ac
   have a7:=qG aH
   clear aE ac ae bA aF ao aU aV aW aG aH af hl
   rw[show W2.heap.size=bx from a7.o.symm]
   cases hR:R p
   .rw[hR] at ag
    have aJ:=qG hR
    clear hR
    go_upto_region 9 with fail
    have aK:k<40:=by omega
    have c9:=aq.o.cell k aK
    have f9:=aq.o.free k
    have bC:=zly c ls (k:Int)
    have bD:=HR.o.bd
    have aM:(c.piece.length:Int)<=144:=by
     have:=OK.o.w
     have:=OK.o.h
     have:=Int.mul_le_mul OK.o.w.2 OK.o.h.2 (show(0:Int)<=c.high by omega) (show(0:Int)<=12 by omega)
     have:=OK.o.len
     omega
    have bE:IntKind.i64.wrap (partsOf c ls k+1)=partsOf c ls k+1:=qF _ (by omega)
    have a8:=aq.o.set_ (f':=fun j=>partsOf c (p :: ls) (j:Int)) (x:=partsOf c ls k+1) aK (by rw[zeW,if_pos (show pcOf c p=(k:Int) from HK.o)]) (fun i hi=>by
     rw[zeW,if_neg (fun e=>hi (by have:=HK.o;unfold pcOf at e;omega))];omega)
    have bF:=qG a8
    have bk:=aD.o
    have hz:=HZ.o
    have a9:=qG (aX.o.far (g:=w.heap.size+1+1) ⟨by omega,by omega,by omega,by omega,by omega⟩ k (.int .i64 (partsOf c ls k+1)))
    have bp:=qG (aY.o.of (W':=W3.setCell ⟨w.heap.size+1+1,k,none⟩ (.int .i64 (partsOf c ls k+1))) (by rw[World.size_setCell];exact qQ _) (zb5 (by omega) _ _))
    have bG:=qG (aI.o.of (W':=W3.setCell ⟨w.heap.size+1+1,k,none⟩ (.int .i64 (partsOf c ls k+1))) (zb5 (by omega) _ _) (zb5 (by omega) _ _))
    have ba:=qG (aZ.o.setCell (p:=⟨w.heap.size+1+1,k,none⟩) (by show w.heap.size<=w.heap.size+1+1;omega) (.int .i64 (partsOf c ls k+1)))
    have aL:=qG (bB.o.far (g:=w.heap.size+1+1) (k:=k) (by have:=bj.o;have:=a7.o;omega) (.int .i64 (partsOf c ls k+1)))
    clear bC bD aM a8 bk hz c4 b0 b1 ag
    generalize partsOf c ls k=pz at *
    go_upto_region 10 with fail
    clear c9 f9 bE
    generalize W3.setCell ⟨w.heap.size+1+1,k,none⟩ (.int .i64 (pz+1))=W4 at *
    have c5:=a9.o.x5.c 0 _ rfl
    have b0:=aL.o.c 0 _ rfl
    have b1:=aL.o.c 1 _ rfl
    unfold onV at c5
    go_wp2_with fail
    refine(zqV c OK.o bm (w.heap.size+1+1+1) (w.heap.size+1+1+1+1) (w.heap.size) (w.heap.size+1+1+1+1+1) (freeN c R) p R W4 (qQ _) an.o aJ.o a9.o).mono ?_
    rintro e W5 ⟨⟨v',rfl⟩,R',hd,bf,ah⟩
    have hz:=HZ.o
    have HE:=qG (show RP c bm rr w W5 R' (p :: ls) (fun q=>done q||decide (q=p)) cnt2 from⟨bG.o.grown ah (fun e=>by injection e with e;omega) (fun e=>by injection e with e;omega),
     HR.o.st.next OK.o an.o (by rw[aJ.o];simp) hd,fun q hq=>by
      simp only[Bool.or_eq_true,qC] at hq
      rcases hq with hq|rfl
      .exact hd.old q (HR.o.dn q hq)
      .exact hd.own,
     bp.o.gk ah (fun r e=>by injection e with e;omega),bF.o.gk ah (fun r e=>by injection e with e;omega),bf,ba.o.grown ah ba.o.size (fun r e=>by injection e with e;omega),by
      have h1:=zk7 OK.o an.o aJ.o (R':=R') hd.own hd.old
      have h2:=HR.o.bd
      rw[List.length_cons];omega⟩)
    clear hd bf ah hz c5 b0 b1
    go_wp2_with fail
    go_roundw
    case rel=>exact⟨_,_,_,_,HE.o⟩
    case measure=>
     rw[HE.o.rg.left,HL.o]
     exact aD.o
   .rw[hR] at ag
    have bH:=qG hR
    clear hR
    go_wp2_with fail
    go_roundw
    case rel=>exact⟨R,ls,fun q=>done q||decide (q=p),cnt2,aI.o,HR.o.st,fun q hq=>by
     simp only[Bool.or_eq_true,qC] at hq
     rcases hq with hq|rfl
     .exact HR.o.dn q hq
     .exact bH.o,aY.o,aq.o,aX.o,aZ.o,HR.o.bd⟩
    case measure=>
     rw[aI.o.left,HL.o]
     exact aD.o
open Classical in
noncomputable def zb2(c:Cut)(k:Int):Bool:=decide (Whole c k)
open Classical in
theorem zcI(c:Cut)(k:Int):zb2 c k=true↔Whole c k:=by unfold zb2;exact decide_eq_true_iff
theorem zc1{p:Nat->Bool}:∀{n:Nat},(∀ t,t<n->p t=false)->(List.range n).find? p=none:=fun {n} h=>by
 rw[List.find?_eq_none]
 intro t ht
 rw[h t (List.mem_range.1 ht)];simp
theorem zgr{p:Nat->Bool}{j:Nat}(hj:p j=true)(h:∀ t,t<j->p t=false):∀{n:Nat},j<n->(List.range n).find? p=some j
|n+1,hn=>by
  rw[List.range_succ,List.find?_append]
  by_cases e:j=n
  .subst e
   rw[zc1 h]
   simp[hj]
  .rw[zgr hj h (by omega)];rfl
theorem zb0{c:Cut}(ok:OkC c):0<=zag c/\zag c<=39:=by
 unfold zag
 have:∀(l:List Int) (n:Int),(∀ x∈l,0<=x/\x<=39)->0<=n/\n<=39->0<=l.foldl max n/\l.foldl max n<=39:=by
  intro l
  induction l with
 |nil=>intro n _ h;exact h
 |cons x l ih=>
   intro n h hn
   have hx:=h x (qE ..)
   exact ih (max n x) (fun y hy=>h y (List.mem_cons_of_mem _ hy)) (by omega)
 exact this _ _ ok.pc (by omega)
open Classical in
theorem zrC{c:Cut}(h:cutS c=false):checkS c=(0,1):=by unfold checkS;rw[if_pos h]
open Classical in
theorem zkD{c:Cut}(h:cutS c=true){j:Nat}(hj:j<(zag c).toNat)(h0:zbh c j=0)(h1:∀ t,t<j->zbh c (t:Nat)≠0):checkS c=((j:Int),4):=by
 unfold checkS
 rw[if_neg (by rw[h];simp),zgr (p:=fun k:Nat=>zbh c (k:Int)==0) (by simp[h0]) (fun t ht=>by simp[h1 t ht]) hj]
open Classical in
theorem zkB{c:Cut}(h:cutS c=true)(h1:∀ t,t<(zag c).toNat->zbh c (t:Nat)≠0){j:Nat}(hj:j<(zag c).toNat+1)(h2:zb2 c j=false)(h3:∀ t,t<j->zb2 c (t:Nat)=true):checkS c=((j:Int),6):=by
 unfold checkS
 rw[if_neg (by rw[h];simp),zc1 (p:=fun k:Nat=>zbh c (k:Int)==0) (fun t ht=>by simp[h1 t ht])]
 dsimp only
 rw[zgr (j:=j) (by rw[decide_eq_true_iff,<- zcI,h2];simp) (fun t ht=>by rw[decide_eq_false_iff_not,<- zcI,h3 t ht];simp) hj]
open Classical in
theorem zhf{c:Cut}(h:cutS c=true)(h1:∀ t,t<(zag c).toNat->zbh c (t:Nat)≠0)(h3:∀ t,t<(zag c).toNat+1->zb2 c (t:Nat)=true):checkS c=(zag c+1,0):=by
 unfold checkS
 rw[if_neg (by rw[h];simp),zc1 (p:=fun k:Nat=>zbh c (k:Int)==0) (fun t ht=>by simp[h1 t ht])]
 dsimp only
 rw[zc1 (fun t ht=>by rw[decide_eq_false_iff_not,<- zcI,h3 t ht];simp)]
noncomputable def zfh(c:Cut):Value:=.tuple #[.int .i64 (checkS c).1,.int .i64 (checkS c).2]
theorem zcO(p:Int->Bool)(l:List Int):(∃ k,k<l.length/\firstI p l=(k:Int)/\p (l.getD k 0)=true/\∀ j,j<k->p (l.getD j 0)=false)\/(firstI p l=-1/\∀ j,j<l.length->p (l.getD j 0)=false):=by
 unfold firstI
 cases h:l.findIdx? p with
|none=>
  right
  rw[List.findIdx?_eq_none_iff] at h
  exact⟨rfl,fun j hj=>by rw[za4 hj];exact h _ (List.getElem_mem hj)⟩
|some k=>
  left
  obtain⟨hk,hp,hj⟩:=List.findIdx?_eq_some_iff_getElem.1 h
  exact⟨k,hk,rfl,by rw[za4 hk];exact hp,fun j aa=>by rw[za4 (show j<l.length by omega)];simpa using hj j aa⟩
def zbg(f:Int->Int)(n:Nat):List Int:=(List.range n).map fun k:Nat=>f (k:Int)
theorem zbN(f:Int->Int)(n:Nat):(zbg f n).length=n:=by unfold zbg;simp
theorem zce(f:Int->Int){n k:Nat}(h:k<n):(zbg f n).getD k 0=f (k:Int):=by
 unfold zbg
 rw[qP,List.getElem?_map,List.getElem?_range h];rfl
theorem zou{c:Cut}(ok:OkC c):zag c∈c.piece:=by
 unfold zag
 have hl:=ok.len
 have hw:=ok.w
 have hh:=ok.h
 have aa:0<c.piece.length:=by
  have:1*1<=c.wide*c.high:=Int.mul_le_mul hw.1 hh.1 (by omega) (by omega)
  omega
 have key:∀(l:List Int) (n:Int),l.foldl max n=n\/l.foldl max n∈l:=by
  intro l
  induction l with
 |nil=>intro n;exact .inl rfl
 |cons x l ih=>
   intro n
   rw[List.foldl_cons]
   rcases ih (max n x) with h|h
   .rw[h]
    by_cases h2:n<=x
    .right;rw[Int.max_eq_right h2];exact qE ..
    .left;omega
   .exact .inr (List.mem_cons_of_mem _ h)
 rcases key c.piece 0 with h|h
 .have hx:=List.getElem_mem aa
  have h0:=ok.pc _ hx
  have ab:∀(l:List Int) (n:Int),n<=l.foldl max n/\∀ x∈l,x<=l.foldl max n:=by
   intro l
   induction l with
  |nil=>intro n;exact⟨Int.le_refl _,fun x h=>by simp at h⟩
  |cons y l ih=>
    intro n
    rw[List.foldl_cons]
    have:=ih (max n y)
    refine⟨by omega,fun x hx=>?_⟩
    rcases List.mem_cons.1 hx with rfl|hx
    .have:=this.1;omega
    .exact this.2 x hx
  have h1:=(ab c.piece 0).2 _ hx
  rw[h] at h1 ⊢
  have:c.piece[0]=0:=by omega
  rw[<- this]
  exact hx
 .exact h
theorem zmZ{c:Cut}:∀ x∈c.piece,x<=zag c:=by
 unfold zag
 have aa:∀(l:List Int) (n:Int),n<=l.foldl max n/\∀ x∈l,x<=l.foldl max n:=by
  intro l
  induction l with
 |nil=>intro n;exact⟨Int.le_refl _,fun x h=>by simp at h⟩
 |cons y l ih=>
   intro n
   rw[List.foldl_cons]
   have:=ih (max n y)
   refine⟨by omega,fun x hx=>?_⟩
   rcases List.mem_cons.1 hx with rfl|hx
   .have:=this.1;omega
   .exact this.2 x hx
 exact(aa c.piece 0).2
theorem zlY{c:Cut}(ok:OkC c)(k:Int):zbh c k=0↔∀ p,inG c p->pcOf c p≠k:=by
 unfold zbh
 rw[List.countP_eq_zero]
 constructor
 .intro h p hp e
  obtain⟨j,hj,rfl,-⟩:=zd7 ok hp
  have h1:=(zhR ok hj).2
  have h2:=h (atI c j) (by unfold atI;rw[za4 hj];exact List.getElem_mem _)
  rw[<- h1,e] at h2
  simp at h2
 .intro h x hx e
  obtain⟨j,hj,rfl⟩:=List.getElem_of_mem hx
  have h1:=zhR ok hj
  refine h _ h1.1 ?_
  rw[h1.2]
  unfold atI
  rw[za4 hj]
  simpa using e
theorem zlV{c:Cut}(h:cutS c=true){f:Int->Int}(hf:zhV c f){n:Nat}(hn:(n:Int)=zag c+1) :
  (0<=firstI (eqPc 0) (zbg f n)->checkS c=(firstI (eqPc 0) (zbg f n),4))/\
  (firstI (eqPc 0) (zbg f n)<0->0<=firstI manyPc (zbg f n)->checkS c=(firstI manyPc (zbg f n),6))/\
  (firstI (eqPc 0) (zbg f n)<0->firstI manyPc (zbg f n)<0->checkS c=(zag c+1,0)):=by
 have ok:=(zck c).1 h
 have hb:=zb0 ok
 have gn:(zag c).toNat+1=n:=by omega
 have hz:∀ t:Nat,zbh c (t:Int)=0↔f (t:Int)=0:=fun t=>by
  rw[zlY ok,(hf (t:Int)).2.1]
 have ab:∀ t:Nat,zb2 c (t:Int)=true↔¬ 1<f (t:Int):=fun t=>by
  rw[zcI,(hf (t:Int)).2.2,Classical.not_not]
 have ae:zbh c (zag c)≠0:=fun e=>by
  have:=(List.countP_eq_zero.1 e) _ (zou ok)
  simp at this
 rcases zcO (eqPc 0) (zbg f n) with ⟨k,hk,e,hp,hj⟩|⟨e,hj⟩
 .rw[zbN] at hk
  rw[zce f hk] at hp
  unfold eqPc at hp
  rw[decide_eq_true_iff] at hp
  refine⟨fun _=>?_,fun h=>by omega,fun h=>by omega⟩
  rw[e]
  have af:k≠(zag c).toNat:=fun ek=>ae (by
   have:((zag c).toNat:Int)=zag c:=by omega
   rw[<- this,<- ek]
   exact(hz k).2 hp.symm)
  refine zkD h (by omega) ((hz k).2 hp.symm) fun t ht h0=>?_
  have h1:=hj t ht
  rw[zce f (show t<n by omega)] at h1
  unfold eqPc at h1
  rw[decide_eq_false_iff_not] at h1
  exact h1 ((hz t).1 h0).symm
 .rw[zbN] at hj
  have ac:∀ t,t<n->zbh c (t:Int)≠0:=fun t ht h0=>by
   have h1:=hj t ht
   rw[zce f ht] at h1
   unfold eqPc at h1
   rw[decide_eq_false_iff_not] at h1
   exact h1 ((hz t).1 h0).symm
  refine⟨fun h=>by omega,fun _ h2=>?_,fun _ h2=>?_⟩
  .rcases zcO manyPc (zbg f n) with ⟨k,hk,e2,hp,aa⟩|⟨e2,aa⟩
   .rw[zbN] at hk
    rw[zce f hk] at hp
    unfold manyPc at hp
    rw[decide_eq_true_iff] at hp
    rw[e2]
    refine zkB h (fun t ht=>ac t (by omega)) (by omega) ?_ fun t ht=>?_
    .cases hw:zb2 c (k:Int) with
    |false=>rfl
    |true=>exact absurd hp ((ab k).1 hw)
    .have h3:=aa t ht
     rw[zce f (show t<n by omega)] at h3
     unfold manyPc at h3
     rw[decide_eq_false_iff_not] at h3
     exact(ab t).2 h3
   .omega
  .rcases zcO manyPc (zbg f n) with ⟨k,hk,e2,hp,aa⟩|⟨e2,aa⟩
   .omega
   .rw[zbN] at aa
    refine zhf h (fun t ht=>ac t (by omega)) fun t ht=>?_
    have h3:=aa t (by omega)
    rw[zce f (show t<n by omega)] at h3
    unfold manyPc at h3
    rw[decide_eq_false_iff_not] at h3
    exact(ab t).2 h3
theorem IBlk.at_{w:World}{g n m:Nat}{f:Int->Int}(h:IBlk w g n (fun j=>f (j:Int)))(hm:m<=n):At w w.heap.size 1 zad (some ⟨g,0,none⟩) (zbg f m):=fun k x hx=>by
 have hk:k<m:=by have:=(qO.1 hx).1;rw[zbN] at this;exact this
 have hv:x=f (k:Int):=by
  have:=zce f hk
  rw[qP,hx] at this
  exact this
 refine⟨g,0,rfl,h.lt,fun j u hu=>?_⟩
 unfold zad at hu
 match j,hu with
|0,hu=>
  injection hu with hu
  rw[<- hu,hv,Nat.mul_one,Nat.zero_add]
  exact h.cell k (by omega)
theorem ze1(n:Nat)(f:Nat->Int):(zbq n f).length=n:=by unfold zbq;simp
theorem IBlk.of_set{w:World}{g n:Nat}{f f':Nat->Int}(h:IBlk w g n f):IBlk (w.setCells g 0 (zbq n f')) g n f':=by
 have hs:=World.rangeAt_setCells_same w g 0 (zbq n f') (by rw[ze1];exact h.there)
 refine⟨by rw[zaQ,zay];exact h.lt,fun j hj=>?_,fun j=>by rw[zaQ,zaE];exact h.free j⟩
 have:=hs j (.int .i64 (f' j)) (by unfold zbq;rw[List.getElem?_map,List.getElem?_range hj];rfl)
 rw[Nat.zero_add] at this
 exact this
theorem zfY(g n:Nat)(W:World){x:Int}(hx:(n:Int)=x)(hn:n<=40):(Instr.sliceAt 153 (.pointer (some ⟨g,0,none⟩)) none (some (.int .i64 x)) none).run Tryz.prog W=.ok (.slice (some ⟨g,0,none⟩) n 40) W:=by
 have ha:Tryz.prog.arrayLen 153=40:=by kernel_rfl
 have hu:Tryz.prog.underlying 153=some (.array (Tryz.prog.arrayLen 153) (Tryz.prog.elem 153)):=by kernel_rfl
 have hs:∀ W,(sizeOf (Tryz.prog.elem 153)).run Tryz.prog W=.ok 1 W:=fun W=>by kernel_rfl
 subst hx
 rw[run_sliceAt_array_h (P:=Tryz.prog) W 153 ⟨g,0,none⟩ hu .i64 n (by omega) (by omega),hs,Result.andThen_ok,ha]
 simp[slicedAt,Addr.add]
theorem zqF(V4:World)(f:Int->Int):(storeCells ⟨V4.heap.size,0,none⟩ (zbq 40 (fun j=>f (j:Int)))).run Tryz.prog (V4.alloc (Obj.cells Z40 153))=.ok () ((V4.alloc (Obj.cells Z40 153)).setCells V4.heap.size 0 (zbq 40 (fun j=>f (j:Int)))):=by
 have Z:=(zfk V4 153).there
 generalize V4.alloc (Obj.cells Z40 153)=V at *
 have:=run_storeCells_cells (P:=Tryz.prog) V4.heap.size 0 (zbq 40 (fun j=>f (j:Int))) 0 V (fun j hj=>by rw[ze1] at hj;simpa using (Z j hj).1) (fun j hj=>by rw[ze1] at hj;simpa using (Z j hj).2) (fun v hv=>by
  unfold zbq at hv
  obtain⟨k,-,rfl⟩:=List.mem_map.1 hv
  rfl)
 exact this
structure zqu(V4:World)(f:Int->Int)(V5:World):Prop where
 i:IBlk V5 V4.heap.size 40 (fun j=>f (j:Int))
 b:Below V4.heap.size V4 V5
theorem zpC(V4:World)(f:Int->Int):zqu V4 f ((V4.alloc (Obj.cells Z40 153)).setCells V4.heap.size 0 (zbq 40 (fun j=>f (j:Int)))):=by
 have Z:=zfk V4 153
 have N:=nxA V4 (Obj.cells Z40 153)
 generalize V4.alloc (Obj.cells Z40 153)=V at *
 exact⟨Z.of_set,by rw[zaQ];exact zac (qQ _) _ 0 N⟩
theorem zeD(c:Cut)(w:World)(hr:CutAt w w.heap.size c):Calls Tryz.prog 25 #[.agg #[.int .i64 c.wide,.int .i64 c.high,.slice c.A c.piece.length c.c]] w (Ret (zfh c) w):=by
 have HX:=qG (Bx.new w #[.int .i64 c.wide,.int .i64 c.high,.slice c.A c.piece.length c.c] 57)
 have HB:=qG (nxA w (.cells #[.int .i64 c.wide,.int .i64 c.high,.slice c.A c.piece.length c.c] 57))
 have HR:=qG (hr.next HB.o)
 have HV:=qG (show zfh c=.tuple #[.int .i64 (checkS c).1,.int .i64 (checkS c).2] from rfl)
 clear hr
 go_enter Tryz.func25,Tryz.ntmps25
 go_upto_region 1 with fail
 generalize(w.alloc (.cells #[.int .i64 c.wide,.int .i64 c.high,.slice c.A c.piece.length c.c] 57))=V at *
 have c0:=HX.o.c 0 _ rfl
 have c1:=HX.o.c 1 _ rfl
 have c2:=HX.o.c 2 _ rfl
 go_wp2_with fail
 refine(zmV c V HR.o).mono ?_
 rintro e V2 ⟨rfl,hb⟩
 clear c0 c1 c2
 have aa:=qG (HX.o.next hb)
 have af:=qG (HR.o.next hb)
 have ab:=qG (HB.o.trans (hb.mono HB.o.size))
 clear HX HR HB hb
 cases hc:cutS c
 .have HC:=qG (zrC hc)
  clear hc
  go_wp2_with fail
  go_ret2
  exact⟨by rw[HV.o,HC.o];rfl,ab.o⟩
 have ok:=(zck c).1 hc
 have hg:=zb0 ok
 have ay:0<c.piece.length:=by
  have:=Int.mul_le_mul ok.w.1 ok.h.1 (by omega) (by have:=ok.w;omega)
  have:=ok.len
  omega
 have OK:=qG ok
 have HC:=qG hc
 obtain⟨n,hn⟩:∃ n:Nat,(n:Int)=zag c+1:=⟨(zag c+1).toNat,by omega⟩
 have HN:=qG hn
 clear ok hc
 have c0:=aa.o.c 0 _ rfl
 have c1:=aa.o.c 1 _ rfl
 have c2:=aa.o.c 2 _ rfl
 go_wp2_with fail
 refine(zd2 c V2 OK.o af.o).mono ?_
 rintro e V3 ⟨bm,rfl,az,ag,ac⟩
 clear c0 c1 c2
 have aq:=qG (aa.o.next ac)
 have ar:=qG (af.o.next ac)
 have ah:=qG (ab.o.trans (ac.mono ab.o.size))
 have HP:=qG ag
 clear aa af ab ac ag
 go_wp2_with fail
 refine(zmt c bm V3 OK.o HP.o).mono ?_
 rintro e V4 ⟨f,hf,rfl,ae⟩
 have au:=qG (aq.o.next ae)
 have aw:=qG (ar.o.next ae)
 have ai:=qG (ah.o.trans (ae.mono ah.o.size))
 have HF:=qG hf
 clear aq ar ah HP ae hf
 have HS:=qG (zpC V4 f)
 go_wp2_with fail
 rw[zqF V4 f]
 generalize(V4.alloc (Obj.cells Z40 153)).setCells V4.heap.size 0 (zbq 40 (fun j=>f (j:Int)))=V5 at *
 have aj:=qG (au.o.next HS.o.b)
 have ax:=qG (aw.o.next HS.o.b)
 have ak:=qG (ai.o.trans (HS.o.b.mono ai.o.size))
 have HI:=qG HS.o.i
 have HM:=qG (zmG OK.o)
 generalize V4.heap.size=g at *
 clear au aw ai HS
 have c0:=aj.o.c 0 _ rfl
 have c1:=aj.o.c 1 _ rfl
 have c2:=aj.o.c 2 _ rfl
 go_wp2_with fail
 refine(zqx _ _ c.piece V5 ax.o.pa ax.o.l1 ay).mono ?_
 rintro e W ⟨rfl,rfl⟩
 rw[HM.o]
 have aA:IntKind.i64.wrap (zag c+1)=zag c+1:=qF _ (by omega)
 have aB:=fun W=>zfY g n W hn (by omega)
 go_wp2_with fail
 have H1:=zfR 0 (some ⟨g,0,none⟩) 40 (zbg f n) V5 (HI.o.at_ (by omega)) (by rw[zbN];omega)
 rw[zbN] at H1
 refine H1.mono ?_
 clear H1
 rintro e W ⟨rfl,rfl⟩
 obtain⟨q1,q2,q3⟩:=zlV HC.o HF.o hn
 by_cases h1:0<=firstI (eqPc 0) (zbg f n)
 .have HE:=qG (q1 h1)
  clear q1 q2 q3
  generalize firstI (eqPc 0) (zbg f n)=x at *
  go_wp2_with fail
  go_ret2
  exact⟨by rw[HV.o,HE.o];rfl,ak.o⟩
 replace q2:=q2 (by omega)
 replace q3:=q3 (by omega)
 clear q1
 have H2:=ziw (some ⟨g,0,none⟩) 40 (zbg f n) V5 (HI.o.at_ (by omega)) (by rw[zbN];omega)
 rw[zbN] at H2
 generalize firstI (eqPc 0) (zbg f n)=x at *
 have am:=qG q2
 have an:=qG q3
 have ao:=qG H2
 clear q2 q3 H2
 go_wp2_with fail
 refine ao.o.mono ?_
 rintro e W ⟨rfl,rfl⟩
 by_cases h2:0<=firstI manyPc (zbg f n)
 .have HE:=qG (am.o h2)
  clear am an ao
  generalize firstI manyPc (zbg f n)=y at *
  go_wp2_with fail
  go_ret2
  exact⟨by rw[HV.o,HE.o];rfl,ak.o⟩
 .have HE:=qG (an.o (by omega))
  clear am an ao
  generalize firstI manyPc (zbg f n)=y at *
  go_wp2_with fail
  go_ret2
  exact⟨by rw[HV.o,HE.o];rfl,ak.o⟩
open Classical in
theorem zeA{c:Cut}(h:(checkS c).2=0):cutS c=true/\checkS c=(zag c+1,0)/\(∀ t,t<(zag c).toNat->zbh c (t:Nat)≠0)/\(∀ t,t<(zag c).toNat+1->zb2 c (t:Nat)=true):=by
 cases hc:cutS c with
|false=>rw[zrC hc] at h;simp at h
|true=>
  refine⟨rfl,?_⟩
  by_cases h1:∀ t,t<(zag c).toNat->zbh c (t:Nat)≠0
  .by_cases h2:∀ t,t<(zag c).toNat+1->zb2 c (t:Nat)=true
   .exact⟨zhf hc h1 h2,h1,h2⟩
   .exfalso
    have aa:∃ j,j<(zag c).toNat+1/\zb2 c (j:Nat)=false:=by
     refine Classical.byContradiction fun hn=>h2 fun t ht=>?_
     cases hw:zb2 c (t:Nat) with
    |true=>rfl
    |false=>exact absurd ⟨t,ht,hw⟩ hn
    obtain⟨j,ab,ac⟩:=aa
    unfold checkS at h
    rw[if_neg (by rw[hc];simp),zc1 (p:=fun k:Nat=>zbh c (k:Int)==0) (fun t ht=>by simp[h1 t ht])] at h
    dsimp only at h
    cases hf:(List.range ((zag c).toNat+1)).find? (fun k:Nat=>decide (¬ Whole c (k:Int))) with
   |some k=>rw[hf] at h;simp at h
   |none=>
     rw[List.find?_eq_none] at hf
     have:=hf j (List.mem_range.2 ab)
     rw[decide_eq_true_iff,<- zcI,ac] at this
     exact this (by simp)
  .exfalso
   unfold checkS at h
   rw[if_neg (by rw[hc];simp)] at h
   cases hf:(List.range (zag c).toNat).find? (fun k:Nat=>zbh c (k:Int)==0) with
  |some k=>rw[hf] at h;simp at h
  |none=>
    rw[List.find?_eq_none] at hf
    exact h1 fun t ht h0=>hf t (List.mem_range.2 ht) (by simp[h0])
structure Good(c:Cut)(piece:Int):Prop where
 ok:OkC c
 ck:checkS c=(zag c+1,0)
 ce:∀ t,t<(zag c).toNat->zbh c (t:Nat)≠0
 wh:∀ t,t<(zag c).toNat+1->zb2 c (t:Nat)=true
 pc:0<=piece/\piece<=zag c
theorem zgL{c:Cut}{piece:Int}(h:openE c piece=0):Good c piece:=by
 unfold openE at h
 by_cases h1:(checkS c).2≠0
 .rw[if_pos h1] at h;exact absurd h h1
 .rw[if_neg h1] at h
  obtain⟨a,b,d,e⟩:=zeA (Classical.not_not.1 h1)
  refine⟨(zck c).1 a,b,d,e,?_⟩
  by_cases h2:inS piece 0 (zag c)=true
  .unfold inS at h2;simpa using h2
  .rw[if_neg h2] at h;simp at h
def zqv(c:Cut)(piece:Int)(w:World)(e:Ending)(w':World):Prop:=
 ((openE c piece≠0/\e=.returned (.tuple #[.agg #[.int .i64 0,.int .i64 0,.slice none 0 0,.map none],.int .i64 0,.int .i64 (openE c piece)]))\/
  (openE c piece=0/\∃ b,e=.returned (.tuple #[.agg #[.int .i64 c.wide,.int .i64 c.high,.slice c.A c.piece.length c.c,.map (some (b))],.int .i64 (zag c+1),.int .i64 0])/\w.heap.size<=b/\PicAt c b w'))/\Below w.heap.size w w'
theorem zcp{fn:Func}{p t u:Tmp}{ty:TypeId}(h:fn.results=#[.cell p ty,.tmp t,.tmp u]){tmps:Array Value}{P:Program}{w:World}{a:Addr}{v:Value}(hp:tmps.getD p undef=.pointer (some a))(hv:(loadVar ty a).run P w=.ok v w) :
  (results fn tmps).run P w=.ok (.tuple #[v,tmps.getD t undef,tmps.getD u undef]) w:=by
 have aa:tmps[p]?.getD undef=.pointer (some a):=by simpa using hp
 simp[results,h,aa,asAddr,hv,Result.andThen]
theorem zcU(c:Cut)(piece:Int)(w:World)(hr:CutAt w w.heap.size c):Calls Tryz.prog 274 #[.agg #[.int .i64 c.wide,.int .i64 c.high,.slice c.A c.piece.length c.c],.int .i64 piece] w (zqv c piece w):=by
 have ac:=qG ((Bx.new w #[.int .i64 c.wide,.int .i64 c.high,.slice c.A c.piece.length c.c] 57).next (nxA _ (.cells #[.int .i64 0,.int .i64 0,.slice none 0 0,.map none] 156)))
 have af:=qG (Bx.new (w.alloc (.cells #[.int .i64 c.wide,.int .i64 c.high,.slice c.A c.piece.length c.c] 57)) #[.int .i64 0,.int .i64 0,.slice none 0 0,.map none] 156)
 have ae:=qG ((nxA w (.cells #[.int .i64 c.wide,.int .i64 c.high,.slice c.A c.piece.length c.c] 57)).trans ((nxA (w.alloc (.cells #[.int .i64 c.wide,.int .i64 c.high,.slice c.A c.piece.length c.c] 57)) (.cells #[.int .i64 0,.int .i64 0,.slice none 0 0,.map none] 156)).mono (nxA w (.cells #[.int .i64 c.wide,.int .i64 c.high,.slice c.A c.piece.length c.c] 57)).size))
 have ag:=qG (hr.next ae.o)
 simp only[World.size_alloc] at af
 clear hr
 go_enter Tryz.func274,Tryz.ntmps274
 go_upto_region 1 with fail
 generalize(w.alloc (.cells #[.int .i64 c.wide,.int .i64 c.high,.slice c.A c.piece.length c.c] 57)).alloc (.cells #[.int .i64 0,.int .i64 0,.slice none 0 0,.map none] 156)=V at *
 have c0:=ac.o.c 0 _ rfl
 have c1:=ac.o.c 1 _ rfl
 have c2:=ac.o.c 2 _ rfl
 go_wp2_with fail
 refine(zeD c V ag.o).mono ?_
 rintro e W ⟨rfl,hb⟩
 clear c0 c1 c2
 have HX:=qG (ac.o.next hb)
 have HY:=qG (af.o.next hb)
 have HR:=qG (ag.o.next hb)
 have HB:=qG (ae.o.trans (hb.mono ae.o.size))
 clear ac af ag ae hb
 unfold zfh
 have d0:=HY.o.c 0 _ rfl
 have d1:=HY.o.c 1 _ rfl
 have d2:=HY.o.c 2 _ rfl
 have d3:=HY.o.c 3 _ rfl
 have f0:=HY.o.fr 0
 have f1:=HY.o.fr 1
 have f2:=HY.o.fr 2
 have f3:=HY.o.fr 3
 have ab:=zlF (HY.o.setAll [.int .i64 0,.int .i64 0,.slice none 0 0,.map none] rfl)
 have ah:=qG ab
 have am:=qG (zac (b:=w.heap.size+1) (B:=w.heap.size) (by omega) [.int .i64 0,.int .i64 0,.slice none 0 0,.map none] 0 HB.o)
 clear ab
 have HO:=qG (show openE c piece=if(checkS c).2≠0 then(checkS c).2 else if inS piece 0 (zag c)=true then 0 else 2 from rfl)
 by_cases h1:(checkS c).2=0
 .obtain⟨a1,a2,a3,a4⟩:=zeA h1
  rw[a2]
  have h2:=zb0 ((zck c).1 a1)
  have aw:IntKind.i64.wrap (zag c+1-1)=zag c:=by rw[Int.add_sub_cancel];exact qF _ (by omega)
  have ax:IntKind.i64.wrap (zag c)=zag c:=qF _ (by omega)
  have OK:=qG ((zck c).1 a1)
  have A2:=qG a2
  clear a1 a2 a3 a4 h1
  cases h3:inS piece 0 (zag c)
  .have HE:=qG (show openE c piece=2 from by rw[HO.o,A2.o,h3];rfl)
   go_wp2_with (go_at_call 140;(with_reducible refine(zam _ _ _ _).mono ?_);rintro e w' ⟨rfl,rfl⟩)
   ((try simp only[Exit.inBlock,Exit.then]);refine bodyPost_ret (zcp rfl rfl ah.o) rfl ?_)
   exact⟨.inl ⟨by rw[HE.o];decide,by rw[HE.o];rfl⟩,am.o⟩
  .have HE:=qG (show openE c piece=0 from by rw[HO.o,A2.o,h3];rfl)
   have c0:=HX.o.c 0 _ rfl
   have c1:=HX.o.c 1 _ rfl
   have c2:=HX.o.c 2 _ rfl
   clear d0 d1 d2 d3 f0 f1 f2 f3
   go_wp2_with (go_at_call 140;(with_reducible refine(zam _ _ _ _).mono ?_);rintro e w' ⟨rfl,rfl⟩)
   refine(zd2 c W OK.o HR.o).mono ?_
   rintro e W2 ⟨bm,rfl,an,ai,aj⟩
   clear c0 c1 c2
   have aa:=qG (HY.o.next aj)
   have f0:=aa.o.fr 0
   have f1:=aa.o.fr 1
   have f2:=aa.o.fr 2
   have f3:=aa.o.fr 3
   have d0:=aa.o.c 0 _ rfl
   have d1:=aa.o.c 1 _ rfl
   have d2:=aa.o.c 2 _ rfl
   have d3:=aa.o.c 3 _ rfl
   have HP:=qG ai
   have ao:=qG (HB.o.trans (aj.mono HB.o.size))
   have aq:=qG an
   have ar:=qG (show w.heap.size+1<W.heap.size from HY.o.lt)
   have ab:=zlF (aa.o.setAll [.int .i64 c.wide,.int .i64 c.high,.slice c.A c.piece.length c.c,.map (some bm)] rfl)
   have ak:=qG ab
   clear ab an ai aj
   go_wp2_with fail
   ((try simp only[Exit.inBlock,Exit.then]);refine bodyPost_ret (zcp rfl rfl ak.o) rfl ?_)
   have h5:=ar.o
   have h6:=aq.o
   refine⟨.inr ⟨HE.o,bm,rfl,by omega,?_⟩,zac (b:=w.heap.size+1) (B:=w.heap.size) (by omega) [.int .i64 c.wide,.int .i64 c.high,.slice c.A c.piece.length c.c,.map (some bm)] 0 ao.o⟩
   exact HP.o.of (zcc (w.heap.size+1) bm (by omega) [.int .i64 c.wide,.int .i64 c.high,.slice c.A c.piece.length c.c,.map (some bm)] 0 W2)
 .have HE:=qG (show openE c piece=(checkS c).2 from by rw[HO.o,if_pos h1])
  have au:=qG h1
  have e1:((checkS c).2==0)=false:=by simp[h1]
  clear h1
  generalize checkS c=x at *
  go_wp2_with fail
  ((try simp only[Exit.inBlock,Exit.then]);refine bodyPost_ret (zcp rfl rfl ah.o) rfl ?_)
  exact⟨.inl ⟨by rw[HE.o];exact au.o,by rw[HE.o];rfl⟩,am.o⟩
end Cu
namespace Cu
open Go.RowKit
open Go.Maps (Keyed)
def upK{α:Type}[DecidableEq α](f:α->Option Int)(p:α):α->Option Int:=setO f p ((f p).getD 0+1)
def zo6{α:Type}[DecidableEq α](k:TypeId)(kv:α->Value)(b:Nat)(f:α->Option Int)(p:α)(w:World)(e:Ending)(w':World):Prop:=(∃ v,e=.returned v)/\MapIs Tryz.prog k kv vvI b (upK f p) w'/\w.grownBy w' (some b)
theorem zhK(b:Nat)(f:Pt->Option Int)(p:Pt)(w:World)(hm:MapIs Tryz.prog 365 kv2 vvI b f w)(hp:I64 p.1/\I64 p.2)(hv:0<=(f p).getD 0/\(f p).getD 0<=1000000000):Calls Tryz.prog 287 #[.map (some b),.agg #[.int .i64 p.1,.int .i64 p.2]] w (zo6 365 kv2 b f p w):=by
 obtain⟨l,hl⟩:=zjk p.1 p.2 hp.1 hp.2
 have ab:=World.grownBy_alloc w (.cells #[.int .i64 p.1,.int .i64 p.2] 365) none
 have hX:=Bx.new w #[.int .i64 p.1,.int .i64 p.2] 365
 have hlt:=hm.lt
 have hM:=hm.grown ab (by simp)
 generalize hV:w.alloc (.cells #[.int .i64 p.1,.int .i64 p.2] 365)=V at *
 obtain⟨W1,x,st,W2,h1,h2,h3,h4,h5,h6,h7,h8⟩:=(hM.of (W':=V.drew) rfl).entry zc9 zbK zds 0 zdk (p:=p) hl ((f p).getD 0+1)
 have ac:=(MapIs.look (hM.of (W':=V.drew) rfl) zc9 zbK zds zdk (p:=p) hl).1
 have ae:=(MapIs.look h2 zc9 zbK zds zdk (p:=p) hl).1
 have e1:(f p).elim (vvI 0) vvI=.int .i64 ((f p).getD 0):=by cases f p <;> rfl
 have e2:(if p=p then some ((f p).getD 0) else f p).elim (vvI 0) vvI=.int .i64 ((f p).getD 0):=by rw[if_pos rfl];rfl
 rw[e1] at ac
 rw[e2] at ae
 have hb:w.heap.size≠b:=by omega
 have X1:=qG (hX.drew.gk h3 (fun r e=>by injection e with e;omega))
 have X2:=qG (X1.o.gk h7 (fun r e=>by injection e with e;omega))
 have X0:=qG hX
 have HM:=qG (show MapIs Tryz.prog 365 kv2 vvI b (upK f p) W2 from h6)
 have HG:=qG ((ab.but (some b)).trans (World.grownBy.trans (b:=V.drew) ⟨rfl,rfl,rfl,qQ _,fun _ _ _=>rfl⟩ (h3.trans h7)))
 have af:IntKind.i64.wrap ((f p).getD 0+1)=(f p).getD 0+1:=qF _ (by omega)
 have c0:=hX.c 0 _ rfl
 have c1:=hX.c 1 _ rfl
 unfold vvI at h5
 unfold kv2 at h1 ac ae
 clear hX h2 h3 h4 h6 h7 h8 hM e1 e2 hp hv hl
 generalize(f p).getD 0=n at *
 go_enter Tryz.func287,Tryz.ntmps287
 go_upto_region 1 with fail
 refine wp_region_noPanic ?_
 refine wp_region_held_drew (S:=(fun W=>W.cell? ⟨w.heap.size,0,none⟩=some (.int .i64 p.1)/\W.cell? ⟨w.heap.size,1,none⟩=some (.int .i64 p.2))) (by kernel_rfl) ?_ (fun aa=>?_)
 ·(try dsimp only);first|exact⟨X0.o.c 0 _ rfl,X0.o.c 1 _ rfl⟩|exact⟨X1.o.c 0 _ rfl,X1.o.c 1 _ rfl⟩|exact⟨X2.o.c 0 _ rfl,X2.o.c 1 _ rfl⟩
 refine ht 0 (h:=?_)
 refine ht 1 (h:=?_)
 refine wpAnyH_ready (rs:=[2,4]) (by kernel_rfl) (by simp) ?_
 refine zab rfl (fun K hK=>?_) (zab rfl (fun K hK=>?_) (AllReadyH.nil))
 go_simp
 refine hK.out _ _ ?_ (fun aa=>?_)
 ·(try dsimp only);first|exact⟨X0.o.c 0 _ rfl,X0.o.c 1 _ rfl⟩|exact⟨X1.o.c 0 _ rfl,X1.o.c 1 _ rfl⟩|exact⟨X2.o.c 0 _ rfl,X2.o.c 1 _ rfl⟩
 clear hK K
 try simp only[qW]
 refine ht 3 (h:=?_)
 refine r1 (i:=4) (by kernel_rfl) rfl fun K hK=>?_
 go_simp
 refine hK.out _ _ ?_ (fun aa=>?_)
 ·(try dsimp only);first|exact⟨X0.o.c 0 _ rfl,X0.o.c 1 _ rfl⟩|exact⟨X1.o.c 0 _ rfl,X1.o.c 1 _ rfl⟩|exact⟨X2.o.c 0 _ rfl,X2.o.c 1 _ rfl⟩
 clear hK K
 try simp only[qW]
 refine ht 5 (h:=?_)
 rotate_left
 go_simp
 refine hK.out _ _ ?_ (fun aa=>?_)
 ·(try dsimp only);first|exact⟨X0.o.c 0 _ rfl,X0.o.c 1 _ rfl⟩|exact⟨X1.o.c 0 _ rfl,X1.o.c 1 _ rfl⟩|exact⟨X2.o.c 0 _ rfl,X2.o.c 1 _ rfl⟩
 clear hK K
 try simp only[qW]
 refine ht 5 (h:=?_)
 refine r1 (i:=2) (by kernel_rfl) rfl fun K hK=>?_
 go_simp
 refine hK.out _ _ ?_ (fun aa=>?_)
 ·(try dsimp only);first|exact⟨X0.o.c 0 _ rfl,X0.o.c 1 _ rfl⟩|exact⟨X1.o.c 0 _ rfl,X1.o.c 1 _ rfl⟩|exact⟨X2.o.c 0 _ rfl,X2.o.c 1 _ rfl⟩
 clear hK K
 try simp only[qW]
 refine ht 3 (h:=?_)
 all_goals
  refine r1 (i:=6) (by kernel_rfl) rfl fun K hK=>?_
  go_simp
  refine hK.out _ _ ?_ (fun aa=>?_)
  ·(try dsimp only);first|exact⟨X0.o.c 0 _ rfl,X0.o.c 1 _ rfl⟩|exact⟨X1.o.c 0 _ rfl,X1.o.c 1 _ rfl⟩|exact⟨X2.o.c 0 _ rfl,X2.o.c 1 _ rfl⟩
  clear hK K
  try simp only[qW]
  refine wpAnyH_done (by kernel_rfl) ?_ _
  refine NoPanic.normal ?_
 iterate 8 (try clear aa)
 all_goals go_wp2_with fail
 all_goals refine bodyPost_ret (results_none rfl _ _ _) rfl ?_
 all_goals exact⟨⟨_,rfl⟩,HM.o,HG.o⟩
end Cu
namespace Cu
open Go.RowKit
def cntP(c:Cut)(p q:Pt)(l:List Pt):Int:=if pcOf c p=q.2/\q.1≠q.2 then(l.countP (fun n=>pcOf c n==q.1):Nat) else 0
def edgN(c:Cut)(D:Pt->Bool)(q:Pt):Int:=zai (fun i=>if D (za2 c i)=true then cntP c (za2 c i) q (za0 (za2 c i).1 (za2 c i).2) else 0) c.piece.length
def posO(x:Int):Option Int:=if 0<x then some x else none
theorem zf9{x:Int}(h:0<=x):(posO x).getD 0=x:=by
 unfold posO
 split
 .rfl
 .show(0:Int)=x;omega
def edgF(c:Cut)(D:Pt->Bool)(p:Pt)(l:List Pt)(q:Pt):Option Int:=posO (edgN c D q+cntP c p q l)
theorem zhN(c:Cut)(p q:Pt)(l:List Pt):0<=cntP c p q l/\cntP c p q l<=l.length:=by
 unfold cntP
 split
 .have:=List.countP_le_length (p:=fun n=>pcOf c n==q.1) (l:=l)
  omega
 .omega
theorem zlc(c:Cut)(D:Pt->Bool)(q:Pt):0<=edgN c D q/\edgN c D q<=4*c.piece.length:=by
 unfold edgN
 refine zaK (fun k=>?_) _
 split
 .exact zhN c _ q (za0 _ _)
 .omega
theorem zdy(c:Cut)(D:Pt->Bool)(p q:Pt):edgF c D p [] q=posO (edgN c D q):=by
 unfold edgF cntP
 simp
theorem zm7(c:Cut)(q:Pt):edgN c (fun _=>false) q=0:=by
 unfold edgN
 exact zcJ fun k _=>by simp
theorem zdE{f g:Nat->Int}{i:Nat}{d:Int}(hi:g i=f i+d):∀{n:Nat},i<n->(∀ k,k<n->k≠i->g k=f k)->zai g n=zai f n+d
|n+1,hn,h=>by
  unfold zai
  by_cases e:i=n
  .subst e
   rw[za8 (f:=g) (g:=f) fun k hk=>h k (by omega) (by omega),hi];omega
  .rw[zdE hi (n:=n) (by omega) fun k hk aa=>h k (by omega) aa,h n (by omega) (by omega)];omega
theorem zoM{c:Cut}(ok:OkC c){D:Pt->Bool}{p:Pt}(hp:inG c p)(h0:D p=false)(q:Pt):edgN c (fun r=>D r||decide (r=p)) q=edgN c D q+cntP c p q (za0 p.1 p.2):=by
 obtain⟨j,hj,rfl,-⟩:=zd7 ok hp
 unfold edgN
 refine zdE (i:=j) ?_ hj fun k hk aa=>?_
 .rw[h0];simp
 .have:za2 c k≠za2 c j:=fun e=>aa (zoT ok hk hj e)
  simp[this]
theorem zoN{c:Cut}(ok:OkC c){D:Pt->Bool}{p p':Pt}(hp:inG c p)(h0:D p=false)(q:Pt):edgF c (fun r=>D r||decide (r=p)) p' [] q=edgF c D p (za0 p.1 p.2) q:=by
 rw[zdy,zoM ok hp h0];rfl
theorem zm8{c:Cut}{D:Pt->Bool}{p n:Pt}{l:List Pt}(h:pcOf c n=pcOf c p)(q:Pt):edgF c D p (l++[n]) q=edgF c D p l q:=by
 unfold edgF cntP
 congr 2
 by_cases e:pcOf c p=q.2/\q.1≠q.2
 .rw[if_pos e,if_pos e,List.countP_append]
  have:(pcOf c n==q.1)=false:=by
   rw[h,e.1];simp;exact fun e'=>e.2 e'.symm
  simp[this]
 .rw[if_neg e,if_neg e]
theorem zqg{c:Cut}{D:Pt->Bool}{p n:Pt}{l:List Pt}(h:pcOf c n≠pcOf c p)(q:Pt):upK (edgF c D p l) (pcOf c n,pcOf c p) q=edgF c D p (l++[n]) q:=by
 unfold upK setO
 by_cases e:q=(pcOf c n,pcOf c p)
 .subst e
  rw[if_pos rfl]
  unfold edgF
  have h1:=zlc c D (pcOf c n,pcOf c p)
  have h2:=zhN c p (pcOf c n,pcOf c p) l
  rw[zf9 (by omega)]
  have h3:cntP c p (pcOf c n,pcOf c p) (l++[n])=cntP c p (pcOf c n,pcOf c p) l+1:=by
   unfold cntP
   rw[if_pos ⟨rfl,h⟩,if_pos ⟨rfl,h⟩,List.countP_append]
   simp
  rw[h3]
  unfold posO
  rw[if_pos (by omega),Int.add_assoc]
 .rw[if_neg e]
  unfold edgF cntP
  congr 2
  by_cases e1:pcOf c p=q.2/\q.1≠q.2
  .rw[if_pos e1,if_pos e1,List.countP_append]
   have:(pcOf c n==q.1)=false:=by
    simp
    intro e2
    exact e (by rw[e2,e1.1])
   simp[this]
  .rw[if_neg e1,if_neg e1]
theorem zj4{c:Cut}(ok:OkC c){D:Pt->Bool}{p:Pt}{l:List Pt}(hl:l.length<=4)(q:Pt):0<=(edgF c D p l q).getD 0/\(edgF c D p l q).getD 0<=1000000:=by
 unfold edgF
 have h1:=zlc c D q
 have h2:=zhN c p q l
 rw[zf9 (by omega)]
 have:=Int.mul_le_mul ok.w.2 (ok.h).2 (show(0:Int)<=c.high by have:=ok.h;omega) (show(0:Int)<=12 by omega)
 have:=ok.len
 omega
theorem zhY(f:Nat->Int)(a:Nat):∀ b,zai f (a+b)=zai f a+zai (fun j=>f (a+j)) b
|0=>by show zai f a=zai f a+0;omega
|b+1=>by
  show zai f (a+b)+f (a+b)=zai f a+(zai (fun j=>f (a+j)) b+f (a+b))
  rw[zhY f a b];omega
theorem ziX(g:Int->Int->Int){w:Nat}(hw:0<w):∀ h:Nat,zai (fun i=>g ((i:Int) % (w:Int)) ((i:Int) / (w:Int))) (h*w)=zai (fun y=>zai (fun x=>g (x:Int) (y:Int)) w) h
|0=>by rw[Nat.zero_mul];rfl
|h+1=>by
  rw[Nat.add_mul,Nat.one_mul,zhY,ziX g hw h]
  show _=zai (fun y=>zai (fun x=>g (x:Int) (y:Int)) w) h+zai (fun x=>g (x:Int) (h:Int)) w
  congr 1
  refine za8 fun j hj=>?_
  have e1:(((h*w+j:Nat)):Int)=(j:Int)+(h:Int)*(w:Int):=by push_cast;omega
  have e2:(((h*w+j:Nat)):Int) % (w:Int)=j:=by
   rw[e1,Int.add_mul_emod_self_right]
   exact Int.emod_eq_of_lt (by omega) (by omega)
  have e3:(((h*w+j:Nat)):Int) / (w:Int)=h:=by
   rw[e1,Int.add_mul_ediv_right _ _ (by omega),Int.ediv_eq_zero_of_lt (by omega) (by omega)];omega
  rw[e2,e3]
theorem zmf{c:Cut}(ok:OkC c)(g:Int->Int->Int):zai (fun i=>g (colI c i) (rowI c i)) c.piece.length=zai (fun y=>zai (fun x=>g (x:Int) (y:Int)) (W c)) (H c):=by
 have hw:=ok.w
 have hh:=ok.h
 have hW:((W c:Nat):Int)=c.wide:=by unfold W;omega
 have hH:((H c:Nat):Int)=c.high:=by unfold H;omega
 have hl:c.piece.length=H c*W c:=by
  have h1:=ok.len
  have h2:((H c*W c:Nat):Int)=c.wide*c.high:=by rw[Int.natCast_mul,hW,hH,Int.mul_comm]
  omega
 rw[hl,<- ziX g (w:=W c) (by omega)]
 refine za8 fun i _=>?_
 unfold colI rowI
 rw[hW]
theorem zoS(c:Cut)(x y:Int)(q:Pt)(h:q.1≠q.2):cntP c (x,y) q (za0 x y)=zb1 c x y q.2 q.1:=by
 unfold cntP zb1 za0 b2i
 show(if at2 c x y=q.2/\q.1≠q.2 then _ else _)=_
 by_cases e:at2 c x y=q.2
 .rw[if_pos ⟨e,h⟩,if_pos e]
  simp only[List.countP_cons,List.countP_nil,pcOf]
  split <;> split <;> split <;> split <;> rfl
 .rw[if_neg (fun h'=>e h'.1),if_neg e]
def edgO(c:Cut)(q:Pt):Option Int:=if q.1≠q.2 then posO (edgesR c q.2 q.1) else none
theorem zoL{c:Cut}(ok:OkC c){D:Pt->Bool}(hD:∀ p,D p=isIn c p.1 p.2)(p q:Pt):edgF c D p [] q=edgO c q:=by
 rw[zdy]
 unfold edgO edgN
 by_cases h:q.1≠q.2
 .rw[if_pos h]
  congr 1
  unfold edgesR
  rw[<- zmf ok (fun x y=>zb1 c x y q.2 q.1)]
  refine za8 fun i hi=>?_
  rw[hD,if_pos (show isIn c (za2 c i).1 (za2 c i).2=true from(zhR ok hi).1)]
  exact zoS c _ _ q h
 .rw[if_neg h,zcJ fun k _=>by unfold cntP;rw[if_neg (fun h':_/\_=>h h'.2)];simp]
  rfl
theorem ze9(c:Cut)(a b:Int):0<=edgesR c a b:=(zaK (B:=4*W c) (fun y=>zaK (fun x=>zcW c x y a b) (W c)) (H c)).1
theorem zoK(c:Cut)(q:Pt):(edgO c q).getD 0=if q.1≠q.2 then edgesR c q.2 q.1 else 0:=by
 unfold edgO
 split
 .exact zf9 (ze9 c _ _)
 .rfl
theorem zj3{c:Cut}(ok:OkC c)(a b:Int):edgesR c a b<=1000:=by
 unfold edgesR
 have hw:=ok.w
 have hh:=ok.h
 have h1:=(zaK (B:=4*W c) (fun y=>zaK (fun x=>zcW c x y a b) (W c)) (H c)).2
 have hW:((W c:Nat):Int)=c.wide:=by unfold W;omega
 have hH:((H c:Nat):Int)=c.high:=by unfold H;omega
 rw[hW,hH] at h1
 have h2:4*c.wide*c.high<=4*12*12:=Int.mul_le_mul (by omega) hh.2 (by omega) (by omega)
 omega
theorem zsE{α:Type}{l l':List α}{k:Nat}(h1:k<l.length)(h2:k<l'.length)(h:l.take k=l'.take k)(e:l[k]=l'[k]):l.take (k+1)=l'.take (k+1):=by
 rw[List.take_succ_eq_append_getElem h1,List.take_succ_eq_append_getElem h2,h,e]
def R18{α:Type}(l l':List α)(w0:World)(i:Value)(w:World):Prop:=∃ k:Nat,k<=l.length/\i=.int .i64 k/\l.take k=l'.take k/\∃ n,w=w0.drewN n
theorem zsM(l l':List Int)(A A':Option Addr)(c c':Nat)(w:World)(h:At w w.heap.size 1 zad A l)(h':At w w.heap.size 1 zad A' l')(hl:l.length<=1000)(aj:l'.length<=1000) :
  Calls Tryz.prog 70 #[.slice A l.length c,.slice A' l'.length c'] w (Ret (.bool (decide (l=l'))) w):=by
 by_cases aa:l.length=l'.length
 .have hn:((l.length:Int) !=(l'.length:Int))=false:=by rw[bne_eq_false_iff_eq];omega
  have Hl:=qG aa
  clear aa
  go_enter Tryz.func70,Tryz.ntmps70
  go_wp2
  clear hn
  go_loopw [5] (fun i wr=>R18 l l' w i wr) (fun i _=>l.length-(intOf i).toNat)
  case atStart=>exact⟨0,by omega,rfl,rfl,0,rfl⟩
  case round=>
   obtain⟨k,hk,rfl,ae,nd,rfl⟩:=hrel
   by_cases hlt:k<l.length
   .have af:k<l'.length:=by rw[<- Hl.o];exact hlt
    obtain⟨b,off,rfl,hb,hc⟩:=h k l[k] (qN hlt)
    obtain⟨b',off',rfl,ak,ag⟩:=h' k l'[k] (qN af)
    have Hs:=qG (zsE hlt af ae)
    have ah:=qG (show l[k]≠l'[k]->l≠l' from fun ai e=>ai (by subst e;rfl))
    generalize l[k]=x at *
    generalize l'[k]=y at *
    have z0:w.cell? ⟨b,off+k,none⟩=some (.int .i64 x):=by have:=hc 0 _ rfl;rw[Nat.mul_one] at this;exact this
    have u0:w.cell? ⟨b',off'+k,none⟩=some (.int .i64 y):=by have:=ag 0 _ rfl;rw[Nat.mul_one] at this;exact this
    clear h h' ae hc ag
    skip
    skip
    by_cases ab:x=y
    .have h1:(x !=y)=false:=by rw[bne_eq_false_iff_eq];exact ab
     have ac:=qG ab
     clear ab
     go_wp2_with (go_quiet (fail))
     all_goals (first|(refine⟨?_,?_⟩;(unfold R18;exact⟨k+1,by omega,by go_num,Hs.o ac.o,_,rfl⟩);(simp[intOf];omega))|(go_roundw;(case rel=>(unfold R18;exact⟨k+1,by omega,by go_num,Hs.o ac.o,_,rfl⟩));(case measure=>(simp[intOf];omega)))|(go_round;(case rel=>(unfold R18;exact⟨k+1,by omega,by go_num,Hs.o ac.o,_,rfl⟩));(case measure=>(simp[intOf];omega))))
    .have h1:(x !=y)=true:=by rw[bne_iff_ne];exact ab
     have ac:=qG ab
     go_wp2_with (go_quiet (fail))
     go_ret
     exact zaA (by simp[ah.o ac.o]) (zbz (zbz (Below.refl _ _) _) _)
   .have e:l=l':=by
     have h1:l.take k=l:=List.take_of_length_le (by omega)
     have h2:l'.take k=l':=List.take_of_length_le (by have:=Hl.o;omega)
     rw[<- h1,<- h2,ae]
    have He:=qG e
    clear e
    go_wp2
    go_ret
    exact zaA (by simp[He.o]) (zbz (Below.refl _ _) _)
 .have hn:((l.length:Int) !=(l'.length:Int))=true:=by rw[bne_iff_ne];omega
  have Hl:=qG aa
  clear aa
  go_enter Tryz.func70,Tryz.ntmps70
  go_wp2
  go_ret
  exact zaA (by rw[eq_comm,decide_eq_false_iff_not];intro e;exact Hl.o (by rw[e])) (Below.refl _ _)
section
variable {P:Program} {F:Fence} {n:Nat} {c:Code} {Q:Exit->Act->World->Prop} {mask:List (Option Nat)} {Rel:(Nat->Value)->List Deferred->World->Prop} {mu:(Nat->Value)->World->Nat} {l0:List Value} {df:List Deferred}
def InvD(mask:List (Option Nat))(Rel:(Nat->Value)->List Deferred->World->Prop)(l0:List Value)(a:Act)(w:World):Prop:=Rel (zar a) a.defers w/\a=⟨(mixF mask (zar a) l0).toArray,a.defers⟩
def EndD(mask:List (Option Nat))(Rel:(Nat->Value)->List Deferred->World->Prop)(mu:(Nat->Value)->World->Nat)(l0:List Value)(f:Nat->Value)(w:World)(a:Act)(w':World):Prop:=InvD mask Rel l0 a w'/\mu (zar a) w'<mu f w
theorem invD{l:List Value}{w:World}(hg:zcN 0 mask=true)(hl:mixL mask l0 l=l)(hR:Rel (zar ⟨l.toArray,df⟩) df w):InvD mask Rel l0 ⟨l.toArray,df⟩ w:=by
 refine⟨hR,?_⟩
 rw[zfs mask 0 (zar ⟨l.toArray,df⟩) l0 l hg hl (fun j x hj=>zae (by rw[Nat.zero_add];exact hj))]
theorem endD{l:List Value}{f:Nat->Value}{w w':World}(hg:zcN 0 mask=true)(hl:mixL mask l0 l=l)(hR:Rel (zar ⟨l.toArray,df⟩) df w')(hm:mu (zar ⟨l.toArray,df⟩) w'<mu f w):EndD mask Rel mu l0 f w ⟨l.toArray,df⟩ w':=
 ⟨invD hg hl hR,hm⟩
theorem zlq(mask:List (Option Nat))(Rel:(Nat->Value)->List Deferred->World->Prop)(mu:(Nat->Value)->World->Nat){w:World}(hg:zcN 0 mask=true)(h0:Rel (zar ⟨l0.toArray,df⟩) df w)
  (hs:∀(f:Nat->Value) (df':List Deferred) (w':World),Rel f df' w'->c.wpIn F n P (Exit.then (fun a' w''=>EndD mask Rel mu l0 f w' a' w'') Q) ⟨(mixF mask f l0).toArray,df'⟩ w'):(Code.loop c).wpIn F n P Q ⟨l0.toArray,df⟩ w:=by
 refine wpIn_loop (InvD mask Rel l0) (fun a w=>mu (zar a) w) (invD hg (zdG mask l0) h0) ?_
 rintro a w1 ⟨hR,ha⟩
 have:=hs (zar a) a.defers w1 hR
 rw[<- ha] at this
 exact this
end
def zpn(Ds:List Nat):List Deferred:=Ds.map fun D=>{ target:=.collected D,args:=#[] }
structure DefsOk(lo hi:Nat)(Ds:List Nat)(W:World):Prop where
 nd:Ds.Nodup
 lt:∀ D∈Ds,lo<=D/\D<hi
 at_:∀ D∈Ds,W.heap[D]?=some (.deferred (some []))
theorem DefsOk.nil(lo hi:Nat)(W:World):DefsOk lo hi [] W:=⟨.nil,fun D h=>by simp at h,fun D h=>by simp at h⟩
theorem DefsOk.of{lo hi:Nat}{Ds:List Nat}{W W':World}(h:DefsOk lo hi Ds W)(hk:∀ D∈Ds,W'.heap[D]?=W.heap[D]?):DefsOk lo hi Ds W':=⟨h.nd,h.lt,fun D hD=>(hk D hD).trans (h.at_ D hD)⟩
theorem DefsOk.grown{lo hi:Nat}{Ds:List Nat}{W W':World}{row:Option Nat}(h:DefsOk lo hi Ds W)(hg:W.grownBy W' row)(hr:∀ r,row=some r->¬(∃ o,W.heap[r]?=some (.deferred o))):DefsOk lo hi Ds W':=
 h.of fun D hD=>hg.block D (qB.1 (h.at_ D hD)).1 (fun e=>hr D e.symm ⟨_,h.at_ D hD⟩)
theorem DefsOk.more{lo hi aa:Nat}{Ds:List Nat}{W:World}(h:DefsOk lo hi Ds W)(hh:hi<=aa):DefsOk lo aa Ds W:=⟨h.nd,fun D hD=>⟨(h.lt D hD).1,qM (h.lt D hD).2 hh⟩,h.at_⟩
theorem DefsOk.cons{lo hi aa D:Nat}{Ds:List Nat}{W:World}(h:DefsOk lo hi Ds W)(ab:lo<=hi)(h1:hi<=D)(h2:D<aa)(hd:W.heap[D]?=some (.deferred (some []))):DefsOk lo aa (D :: Ds) W:=by
 refine⟨List.nodup_cons.2 ⟨fun hm=>by have:=(h.lt D hm).2;omega,h.nd⟩,fun x hx=>?_,fun x hx=>?_⟩
 .rcases List.mem_cons.1 hx with rfl|hx
  .omega
  .have:=h.lt x hx;omega
 .rcases List.mem_cons.1 hx with rfl|hx
  .exact hd
  .exact h.at_ x hx
theorem zeY{P:Program}{F:Fence}{n:Nat}{fn:Func}{tmps:Array Value}{R:Ending->World->Prop}{u:FrameMode}(hu:u≠.run)(Inv:World->Prop)(lo:Nat)(aa:∀(W:World) (D:Nat),lo<=D->W.heap[D]?=some (.deferred (some []))->Inv W->Inv (W.putObj D (.deferred none)))
  (ab:∀ W,Inv W->LeavesIn F n P fn tmps R [] u W):∀(Ds:List Nat) (hi:Nat) (W:World),DefsOk lo hi Ds W->Inv W->LeavesInM F n P fn tmps R (zpn Ds) u W
|[],_,W,_,h=>ab W h
|D :: Ds,hi,W,hd,h=>by
  refine⟨hu,.inl ⟨D,_,rfl,run_takeDeferred (hd.at_ D (qE ..)),?_⟩⟩
  have ac:=List.nodup_cons.1 hd.nd
  refine zeY hu Inv lo aa ab Ds hi _ ⟨ac.2,fun x hx=>hd.lt x (List.mem_cons_of_mem _ hx),fun x hx=>?_⟩ (aa W D (hd.lt D (qE ..)).1 (hd.at_ D (qE ..)) h)
  rw[World.putObj_heap_other (by intro e;subst e;exact ac.1 hx)]
  exact hd.at_ x (List.mem_cons_of_mem _ hx)
attribute [local go_sem] Oper.semAt_some
structure EdW(c:Cut)(bm bo b1 b3 r:Nat)(w:World)(done:Pt->Bool)(cnt:Nat)(f:Pt->Option Int)(W:World):Prop where
 rg:RangeIs Tryz.prog 261 kv2 vvI bm r (picF c) done cnt W
 out:MapIs Tryz.prog 365 kv2 vvI bo f W
 x1:Bx W b1 (picL c bm)
 x3:Bx W b3 [.map (some bo)]
 b:Below w.heap.size w W
theorem EdW.up{c:Cut}{bm bo b1 b3 r B cnt:Nat}{w:World}{done:Pt->Bool}{f:Pt->Option Int}{W W':World}{row:Option Nat}(h:EdW c bm bo b1 b3 r w done cnt f W)(hB:bm<B/\bo<B/\b1<B/\b3<B/\r<B/\w.heap.size<=B)(hg:W.grownBy W' row)(hr:∀ q,row=some q->B<=q):EdW c bm bo b1 b3 r w done cnt f W':=by
 obtain⟨h1,h2,h3,h4,h5,h6⟩:=hB
 have ne:∀ b,b<B->some b≠row:=fun b hb e=>by have:=hr b e.symm;omega
 have ne':∀ b,b<B->∀ r,row=some r->b≠r:=fun b hb r e e'=>by have:=hr r e;omega
 exact⟨h.rg.grown hg (ne _ h1) (ne _ h5),h.out.grown hg (ne _ h2),h.x1.gk hg (ne' _ h3),h.x3.gk hg (ne' _ h4),h.b.grown hg h.b.size (fun q e=>by have:=hr q e;omega)⟩
theorem EdW.add{c:Cut}{bm bo b1 b3 r cnt:Nat}{w:World}{done:Pt->Bool}{f f':Pt->Option Int}{W W':World}(h:EdW c bm bo b1 b3 r w done cnt f W)(h0:w.heap.size<=bo/\bm≠bo/\r≠bo)(hm:MapIs Tryz.prog 365 kv2 vvI bo f' W')(hg:W.grownBy W' (some bo)):EdW c bm bo b1 b3 r w done cnt f' W':=
 ⟨h.rg.grown hg (fun e=>h0.2.1 (by injection e)) (fun e=>h0.2.2 (by injection e)),hm,h.x1.gk hg (fun r e e'=>zcG h.x1 h.out (e'.trans (Option.some.inj e).symm)),h.x3.gk hg (fun r e e'=>zcG h.x3 h.out (e'.trans (Option.some.inj e).symm)),h.b.grown hg h.b.size (fun q e=>by injection e with e;omega)⟩
def zo5(c:Cut)(w:World)(e:Ending)(w':World):Prop:=∃ b,e=.returned (.map (some b))/\w.heap.size<=b/\MapIs Tryz.prog 365 kv2 vvI b (edgO c) w'/\Below w.heap.size w w'
structure EdR(c:Cut)(bm r:Nat)(w W:World)(done:Pt->Bool)(cnt:Nat)(Ds:List Nat):Prop where
 ed:EdW c bm (w.heap.size+1) (w.heap.size) (w.heap.size+1+1) r w done cnt (fun q=>posO (edgN c done q)) W
 df:DefsOk (w.heap.size) W.heap.size Ds W
structure EdI(c:Cut)(bm r:Nat)(w:World)(done done':Pt->Bool)(cnt:Nat)(Ds:List Nat)(p:Pt)(k:Int)(b4 b5 B:Nat)(pre:List (Fin 4))(W:World):Prop where
 ed:EdW c bm (w.heap.size+1) (w.heap.size) (w.heap.size+1+1) r w done' cnt (edgF c done p (pre.map (nb p))) W
 x4:Bx W b4 [.int .i64 p.1,.int .i64 p.2]
 x5:Bx W b5 [.int .i64 k]
 df:DefsOk (w.heap.size) B Ds W
 z:B<=W.heap.size
theorem EdI.up{c:Cut}{bm r:Nat}{w:World}{done done':Pt->Bool}{cnt:Nat}{Ds:List Nat}{p:Pt}{k:Int}{b4 b5 B:Nat}{pre:List (Fin 4)}{W W':World}{row:Option Nat}(h:EdI c bm r w done done' cnt Ds p k b4 b5 B pre W)(hB:bm<B/\w.heap.size+1+1<B/\r<B/\b4<B/\b5<B)(hg:W.grownBy W' row)(hr:∀ q,row=some q->B<=q):EdI c bm r w done done' cnt Ds p k b4 b5 B pre W':=by
 obtain⟨h1,h2,h3,h4,h5⟩:=hB
 have ne':∀ b,b<B->∀ r,row=some r->b≠r:=fun b hb r e e'=>by have:=hr r e;omega
 exact⟨h.ed.up ⟨h1,by omega,by omega,by omega,h3,by omega⟩ hg hr,h.x4.gk hg (ne' _ h4),h.x5.gk hg (ne' _ h5),h.df.of fun D hD=>hg.block D (by have:=(h.df.lt D hD).2;have:=h.z;omega) (fun e=>by have:=(h.df.lt D hD).2;have:=hr D e.symm;omega),Nat.le_trans h.z hg.size⟩
theorem EdI.own{c:Cut}{bm r:Nat}{w:World}{done done':Pt->Bool}{cnt:Nat}{Ds:List Nat}{p:Pt}{k:Int}{b4 b5 B:Nat}(hB:bm<B/\w.heap.size+1+1<B/\r<B/\b4<B/\b5<B):OwnFrom B (EdI c bm r w done done' cnt Ds p k b4 b5 B):=by
 rintro pre A A' row h hg hr
 exact h.up hB hg (fun r e=>(hr r e).1)
def zm9:List (Option Nat):=[none,none,none,none,some 4,some 5,some 6,some 7,none,none,none,none,some 12,some 13,some 14,some 15,some 16,some 17,some 18,none,some 20,some 21,some 22,some 23,some 24,some 25,some 26,some 27,some 28,some 29,some 30,none]
theorem zij(c:Cut)(bm:Nat)(w:World)(ok:OkC c)(hp:PicAt c bm w):Calls Tryz.prog 275 #[.agg #[.int .i64 c.wide,.int .i64 c.high,.slice c.A c.piece.length c.c,.map (some (bm))]] w (zo5 c w):=by
 have am:=@run_makeMap Tryz.prog
 have hlt:=hp.lt
 have OK:=qG ok
 have n0:=nxA w (.cells #[.int .i64 c.wide,.int .i64 c.high,.slice c.A c.piece.length c.c,.map (some (bm))] 156)
 have y0:=Bx.new w #[.int .i64 c.wide,.int .i64 c.high,.slice c.A c.piece.length c.c,.map (some (bm))] 156
 have s0:(w.alloc (Obj.cells #[.int .i64 c.wide,.int .i64 c.high,.slice c.A c.piece.length c.c,.map (some (bm))] 156)).heap.size=w.heap.size+1:=by simp
 have n1:=nxA (w.alloc (.cells #[.int .i64 c.wide,.int .i64 c.high,.slice c.A c.piece.length c.c,.map (some (bm))] 156)) (Obj.map #[] 0)
 have y1:=MapIs.made Tryz.prog 365 kv2 vvI (w.alloc (.cells #[.int .i64 c.wide,.int .i64 c.high,.slice c.A c.piece.length c.c,.map (some (bm))] 156))
 have n2:=nxA ((w.alloc (.cells #[.int .i64 c.wide,.int .i64 c.high,.slice c.A c.piece.length c.c,.map (some (bm))] 156)).alloc (Obj.map #[] 0)) (.cells #[.map (some (w.heap.size+1))] 362)
 have y2:=Bx.new ((w.alloc (.cells #[.int .i64 c.wide,.int .i64 c.high,.slice c.A c.piece.length c.c,.map (some (bm))] 156)).alloc (Obj.map #[] 0)) #[.map (some (w.heap.size+1))] 362
 simp only[World.size_alloc] at y1 y2
 have Y0:=qG ((y0.next n1).next n2)
 have Y1:=qG (y1.next n2)
 have Y2:=qG y2
 have HB:=qG (n0.trans ((n1.trans (n2.mono n1.size)).mono n0.size))
 have HP:=qG (MapIs.next hp HB.o)
 have HS:=qG (show(((w.alloc (.cells #[.int .i64 c.wide,.int .i64 c.high,.slice c.A c.piece.length c.c,.map (some (bm))] 156)).alloc (Obj.map #[] 0)).alloc (.cells #[.map (some (w.heap.size+1))] 362)).heap.size=w.heap.size+1+1+1 from by simp)
 clear ok hp n0 y0 s0 n1 y1 n2 y2
 refine(callsIn_wide (n:=6)).1 ?_
 refine callsIn_of_wp_marks Tryz.func275 rfl trivial ?_ rfl
 simp only[Tryz.ntmps275,List.size_toArray,List.length_cons,List.length_nil,Nat.reduceAdd,Nat.reduceSub,Array.replicate_succ,Array.replicate_zero,List.push_toArray,List.append_toArray,List.nil_append,List.cons_append]
 obtain⟨rr,ag⟩:∃ rr,rr=(((w.alloc (.cells #[.int .i64 c.wide,.int .i64 c.high,.slice c.A c.piece.length c.c,.map (some (bm))] 156)).alloc (Obj.map #[] 0)).alloc (.cells #[.map (some (w.heap.size+1))] 362)).heap.size:=⟨_,rfl⟩
 obtain⟨W0,cnt0,ar,au,ah,aF⟩:=HP.o.range zeo
 rw[<- ag] at ar au aF
 have aV:=qG (ag.trans HS.o)
 have ED0:=qG (show EdR c bm rr w W0 (fun _=>false) cnt0 [] from⟨⟨au,(Y1.o.next ah).eq (fun q=>by rw[zm7];rfl),Y0.o.next ah,Y2.o.next ah,zdg ah HB.o (by omega)⟩,DefsOk.nil _ _ _⟩)
 clear ag aF au ah
 gi_wp2_with fail
 clear am ar HP HS Y0 Y1 Y2 HB
 refine zlq zm9 (fun _ ds W=>∃ done cnt Ds,ds=zpn Ds/\EdR c bm rr w W done cnt Ds) (fun _ W=>zdI bm rr W) (by kernel_rfl) ⟨_,_,[],rfl,ED0.o⟩ ?_
 rintro f ds W ⟨done,cnt,Ds,rfl,hE⟩
 simp only[zm9,mixF]
 have HE:=qG hE
 have HL:=qG hE.ed.rg.left
 rcases hE.ed.rg.step zbK 0 with ⟨h0,aw,ax⟩|⟨p,v,W2,cnt2,hf,aG,-,ax,ay,az,ae,aW,hent⟩
 .have aU:=qG aw
  have c3:=hE.ed.x3.c 0 _ rfl
  clear hE aw
  gi_wp2_with fail
  unfold bodyPostM
  refine zeY (by simp) (fun W=>MapIs Tryz.prog 365 kv2 vvI (w.heap.size+1) (edgO c) W/\Below w.heap.size w W) w.heap.size ?_ ?_ Ds _ W HE.o.df ⟨HE.o.ed.out.eq (fun q=>?_),HE.o.ed.b⟩
  .rintro W' D hD hW ⟨h1,h2⟩
   have hg:=grownBy_putObj' W' D (.deferred none)
   refine⟨h1.grown hg (fun e=>?_),h2.grown hg h2.size (fun q e=>by injection e with e;omega)⟩
   injection e with e
   obtain⟨es,clock,h3,-⟩:=h1
   rw[e,hW] at h3
   injection h3 with h3
   cases h3
  .rintro W' ⟨h1,h2⟩
   exact⟨_,results_tmp rfl _ _ _,w.heap.size+1,rfl,by omega,h1,h2⟩
  .rw[<- zdy c done (0,0) q]
   exact zoL OK.o (fun p=>by rw[aU.o p,zcE]) (0,0) q
 .unfold kv2 vvI at ax hent
  have hp:inG c p:=by
   have:=zcE (c:=c) p
   rw[hf] at this
   exact this.symm
  have hv:v=at2 c p.1 p.2:=by
   have:=zga (c:=c) p
   rw[hf] at this
   exact this
  have aX:=OK.o.at_bd p.1 p.2
  subst hv
  obtain⟨k,hk⟩:∃ k,k=at2 c p.1 p.2:=⟨_,rfl⟩
  rw[<- hk] at ax hent aX
  have HK:=qG hk
  have aY:=qG hp
  have aZ:=qG az
  have a7:=qG aG
  have ag:=aV.o
  have aH:∀ o,W.heap[rr]?≠some (.deferred o):=fun o e=>by
   obtain⟨es,clock,since,seen,c0,-,-,h3,-⟩:=hE.ed.rg
   rw[h3] at e
   injection e with e
   cases e
  have aI:EdW c bm (w.heap.size+1) (w.heap.size) (w.heap.size+1+1) rr w (fun q=>done q||decide (q=p)) cnt2 (edgF c done p [] ) W2:=⟨ay,(hE.ed.out.grown ae (fun e=>by injection e with e;omega)).eq (fun q=>(zdy c done p q).symm),hE.ed.x1.gk ae (fun r e=>by injection e with e;omega),hE.ed.x3.gk ae (fun r e=>by injection e with e;omega),hE.ed.b.grown ae hE.ed.b.size (fun q e=>by injection e with e;omega)⟩
  have aA:=hE.df.grown ae (fun r e=>by injection e with e;subst e;exact fun⟨o,h⟩=>aH o h)
  have a4:=World.grownBy_alloc W2 (.cells #[.int .i64 p.1,.int .i64 p.2] 261) none
  have a5:=World.grownBy_alloc (W2.alloc (.cells #[.int .i64 p.1,.int .i64 p.2] 261)) (.cells #[.int .i64 k] 3) none
  have a6:=World.grownBy_alloc ((W2.alloc (.cells #[.int .i64 p.1,.int .i64 p.2] 261)).alloc (.cells #[.int .i64 k] 3)) (.cells #[.int .i64 p.1,.int .i64 p.2] 261) none
  have x4:=((Bx.new W2 #[.int .i64 p.1,.int .i64 p.2] 261).gk a5 (fun r e=>by cases e)).gk a6 (fun r e=>by cases e)
  have x5:=(Bx.new (W2.alloc (.cells #[.int .i64 p.1,.int .i64 p.2] 261)) #[.int .i64 k] 3).gk a6 (fun r e=>by cases e)
  have x6:=Bx.new ((W2.alloc (.cells #[.int .i64 p.1,.int .i64 p.2] 261)).alloc (.cells #[.int .i64 k] 3)) #[.int .i64 p.1,.int .i64 p.2] 261
  have aB:(((W2.alloc (.cells #[.int .i64 p.1,.int .i64 p.2] 261)).alloc (.cells #[.int .i64 k] 3)).alloc (.cells #[.int .i64 p.1,.int .i64 p.2] 261)).heap.size=W2.heap.size+1+1+1:=by simp
  simp only[World.size_alloc] at x5 x6
  have aC:=ay.rlt
  have aJ:=aI.up (B:=W2.heap.size) ⟨by omega,by omega,by omega,by omega,aC,by omega⟩ (a4.trans (a5.trans a6)) (fun q e=>by cases e)
  have aK:=aA.of (W':=((W2.alloc (.cells #[.int .i64 p.1,.int .i64 p.2] 261)).alloc (.cells #[.int .i64 k] 3)).alloc (.cells #[.int .i64 p.1,.int .i64 p.2] 261)) fun D hD=>(a4.trans (a5.trans a6)).block D (qB.1 (aA.at_ D hD)).1 (fun e=>by cases e)
  have aL:-900<=p.1/\p.1<=900/\-900<=p.2/\p.2<=900:=by
   unfold inG isIn inS at hp
   simp only[Bool.and_eq_true,qC] at hp
   have:=OK.o.w
   have:=OK.o.h
   omega
  have a8:=qG (show EdI c bm rr w done (fun q=>done q||decide (q=p)) cnt2 Ds p k W2.heap.size (W2.heap.size+1) (W2.heap.size+1+1+1) [] (((W2.alloc (.cells #[.int .i64 p.1,.int .i64 p.2] 261)).alloc (.cells #[.int .i64 k] 3)).alloc (.cells #[.int .i64 p.1,.int .i64 p.2] 261)) from⟨aJ,x4,x5,aK.more (by omega),by rw[aB];exact qQ _⟩)
  have X6:=qG x6
  have aM:=qG aB
  have HW:=qG (show bm<W2.heap.size/\w.heap.size+1+1<W2.heap.size/\rr<W2.heap.size/\w.heap.size+1≠rr/\w.heap.size<=W2.heap.size from⟨by omega,by omega,aC,by omega,by omega⟩)
  have aN:=qG aL
  clear hk hE hf aG hp az ag aH aI aA a4 a5 a6 x4 x5 x6 aB aC aJ aK aL aW ay ae
  gi_wp2_with fail
  refine⟨trivial,(callsIn_wide.2 (zhj _ _ _)).mono ?_⟩
  rintro e w' ⟨rfl,rfl⟩
  gi_wp2_with fail
  try simp only[World.size_alloc]
  generalize((W2.alloc (.cells #[.int .i64 p.1,.int .i64 p.2] 261)).alloc (.cells #[.int .i64 k] 3)).alloc (.cells #[.int .i64 p.1,.int .i64 p.2] 261)=W5 at *
  have ak:=zeG 5 (by omega) p (W2.heap.size+1+1) W5 (by have:=aN.o;unfold Near;omega) X6.o
  have ai:=qG (show bm<W5.heap.size/\w.heap.size+1+1<W5.heap.size/\rr<W5.heap.size/\W2.heap.size<W5.heap.size/\W2.heap.size+1<W5.heap.size from by have:=aM.o;have:=HW.o;omega)
  refine wpIn_rangeFunc_ownH rfl (by omega) (gf:=210) (lb:=#[.pointer (some ⟨W2.heap.size+1+1,0,none⟩)]) rfl trivial (enters_of Tryz.func210 (by kernel_rfl) rfl)
   ak (fun h k=>KpC.trans h k) (zk1 X6.o.lt) (Below.refl _ _) (fun _=>rfl)
   (EdI c bm rr w done (fun q=>done q||decide (q=p)) cnt2 Ds p k W2.heap.size (W2.heap.size+1) W5.heap.size) (fun _ _ _=>False) (EdI.own ai.o) (fun _ _ _ _ _ h _ _=>h)
   (by rw[aM.o];exact a8.o)
   (fun x a' W'=>∃ bx,W5.heap.size<=bx/\Bx W' bx [.int .i64 (nb p x).1,.int .i64 (nb p x).2]/\a'={ tmps:=#[.agg #[.int .i64 c.wide,.int .i64 c.high,.slice c.A c.piece.length c.c,.map (some (bm))],.pointer (some ⟨w.heap.size,0,none⟩),.map none,.pointer (some ⟨w.heap.size+1+1,0,none⟩),.pointer (some ⟨W2.heap.size,0,none⟩),.pointer (some ⟨W2.heap.size+1,0,none⟩),.pointer (some ⟨bx,0,none⟩),f 7,.map (some (w.heap.size+1)),.pointer (some ⟨w.heap.size,3,none⟩),.map (some bm),.pointer (some ⟨rr,0,none⟩),.tuple #[.bool true,.agg #[.int .i64 p.1,.int .i64 p.2],.int .i64 k],.bool true,.tuple #[.agg #[.int .i64 p.1,.int .i64 p.2],.int .i64 k],.agg #[.int .i64 p.1,.int .i64 p.2],.int .i64 k,.agg #[.int .i64 p.1,.int .i64 p.2],.func (.func 210) #[] #[.pointer (some ⟨W2.heap.size+1+1,0,none⟩)],.agg #[.int .i64 (nb p x).1,.int .i64 (nb p x).2],f 20,f 21,f 22,f 23,f 24,f 25,f 26,f 27,f 28,f 29,f 30,undef],defers:=[] })
   (fun k a' _ A B row h hg hr=>by obtain⟨bx,h1,h2,h3⟩:=h;exact⟨bx,h1,h2.nc (by simp) hg (fun r e=>(hr r e).2),h3⟩)
   ?assign ?body ?done ?stop
  case assign=>
   rintro l pre x W' K hI hK
   dsimp only[encA]
   gi_wp2
   have aO:=World.grownBy_alloc W' (.cells #[.int .i64 (nb p x).1,.int .i64 (nb p x).2] 261) none
   refine hK _ _ ((KeepsOthers.alloc _ _).from _) ⟨by simp,aO.block _ (by have:=hI.z;have:=X6.o.lt;omega) (by simp)⟩ ?_ ⟨W'.heap.size,hI.z,Bx.new _ _ _,rfl⟩
   exact hI.up ai.o aO (fun r e=>by cases e)
  case body=>
   rintro l pre x a' W' hl ⟨r,hr⟩ hI ⟨bx,bh,an,rfl⟩ bf
   have aj:=zkV aN.o x
   obtain⟨q,hq⟩:∃ q,q=nb p x:=⟨_,rfl⟩
   rw[<- hq] at aj an ⊢
   have HQ:=qG hq
   have HI:=qG hI
   have b0:=hI.ed.x1.c 0 _ rfl
   have b1:=hI.ed.x1.c 1 _ rfl
   have b2:=hI.ed.x1.c 2 _ rfl
   have b3:=hI.ed.x1.c 3 _ rfl
   have d0:=an.c 0 _ rfl
   have d1:=an.c 1 _ rfl
   clear hI an hq ak
   gi_wp2_with fail
   refine⟨trivial,CallsIn.inRound l (callsIn_wide.2 ((zeV c bm q.1 q.2 W' HI.o.ed.rg.map ⟨by have:=aj.1;omega,by have:=aj.2.1;omega⟩ ⟨by have:=aj.2.2.1;omega,by have:=aj.2.2.2;omega⟩).mono ?_))⟩
   rintro e W6 ⟨rfl,ao⟩
   have aD:=zbj ao none
   have aa:=qG (HI.o.up ai.o aD (fun r e=>by cases e))
   have aP:pcOf c q=at2 c q.1 q.2:=rfl
   have aq:=qG (show KeepsFrom W5.heap.size W' W6/\KpC (W2.heap.size+1+1) W' W6 from⟨KeepsFrom.of_grownBy aD (fun j e=>by cases e),⟨ao.size,ao.block _ (by have:=HI.o.z;have:=X6.o.lt;omega)⟩⟩)
   have aQ:=OK.o.at_bd q.1 q.2
   have am:(pre++[x]).map (nb p)=pre.map (nb p)++[q]:=by rw[List.map_append,HQ.o];rfl
   have aR:=qG am
   clear b0 b1 b2 b3 d0 d1 ao aD am
   have t0:=aa.o.x5.c 0 _ rfl
   have t1:=aa.o.ed.x3.c 0 _ rfl
   by_cases hA:at2 c q.1 q.2=k
   .have HF:=qG (show KeepsFrom W5.heap.size W' W6/\KpC (W2.heap.size+1+1) W' W6/\EdI c bm rr w done (fun q=>done q||decide (q=p)) cnt2 Ds p k W2.heap.size (W2.heap.size+1) W5.heap.size (pre++[x]) W6 from⟨aq.o.1,aq.o.2,⟨⟨aa.o.ed.rg,aa.o.ed.out.eq (fun r=>by
      rw[aR.o]
      exact(zm8 (show pcOf c q=pcOf c p from hA.trans HK.o) r).symm),aa.o.ed.x1,aa.o.ed.x3,aa.o.ed.b⟩,aa.o.x4,aa.o.x5,aa.o.df,aa.o.z⟩⟩)
    have eA:(at2 c q.1 q.2==k)=true:=by simp[hA]
    clear hA aP
    gi_wp2_with fail
    exact HF.o
   .have aS:pcOf c q≠pcOf c p:=fun e=>hA (e.trans HK.o.symm)
    have af:(pre.map (nb p)).length<=4:=by rw[List.length_map];omega
    have aE:=zhK (w.heap.size+1) (edgF c done p (pre.map (nb p))) (at2 c q.1 q.2,k) W6 aa.o.ed.out ⟨⟨by have:=aQ.1;show -9223372036854775808<=at2 c q.1 q.2;omega,by have:=aQ.2.1;show at2 c q.1 q.2<=9223372036854775807;omega⟩,⟨by show -9223372036854775808<=k;omega,by show k<=9223372036854775807;omega⟩⟩ ⟨(zj4 OK.o af _).1,by have:=(zj4 OK.o (D:=done) (p:=p) af (at2 c q.1 q.2,k)).2;omega⟩
    have HC:=qG aE
    have a9:=qG aS
    have eA:(at2 c q.1 q.2==k)=false:=by simp[hA]
    clear hA aS aP af aE
    gi_wp2_with fail
    refine⟨trivial,CallsIn.inRound l (callsIn_wide.2 (HC.o.mono ?_))⟩
    rintro e W7 ⟨⟨v,rfl⟩,aT,ab⟩
    have hW:=HW.o
    have HF:=qG (show KeepsFrom W5.heap.size W' W7/\KpC (W2.heap.size+1+1) W' W7/\EdI c bm rr w done (fun q=>done q||decide (q=p)) cnt2 Ds p k W2.heap.size (W2.heap.size+1) W5.heap.size (pre++[x]) W7 from⟨aq.o.1.trans (KeepsFrom.of_grownBy ab (fun j e=>by injection e with e;have:=ai.o;omega)),aq.o.2.trans ⟨ab.size,ab.block _ (by have:=aa.o.z;have:=X6.o.lt;omega) (fun e=>by injection e with e;omega)⟩,
     ⟨aa.o.ed.add ⟨by omega,by omega,by omega⟩ (aT.eq (fun r=>by
      rw[aR.o,<- zqg a9.o r]
      show upK _ (at2 c q.1 q.2,k) r=upK _ (pcOf c q,pcOf c p) r
      rw[HK.o];rfl)) ab,aa.o.x4.gk ab (fun r e=>by injection e with e;omega),aa.o.x5.gk ab (fun r e=>by injection e with e;omega),aa.o.df.grown ab (fun r e=>by
       injection e with e
       subst e
       rintro⟨o,h⟩
       obtain⟨es,clock,h3,-⟩:=aa.o.ed.out
       rw[h3] at h
       injection h with h
       cases h),Nat.le_trans aa.o.z ab.size⟩⟩)
    clear aT ab hW t0 t1
    gi_wp2_with fail
    exact HF.o
  case done=>
   rintro D xs W' hD hS hI hK
   have ac:=hI.ed
   rw[hS,zgo] at ac
   have HF:=qG (show EdR c bm rr w W' (fun q=>done q||decide (q=p)) cnt2 (D :: Ds) from⟨⟨ac.rg,ac.out.eq (fun q=>by
     rw[<- zdy c (fun q=>done q||decide (q=p)) p q]
     exact(zoN OK.o aY.o a7.o q).symm),ac.x1,ac.x3,ac.b⟩,hI.df.cons (by have:=ai.o;omega) hD (qB.1 hK).1 hK⟩)
   have ba:=qG (show zdI bm rr W'<zdI bm rr W from by rw[hI.ed.rg.left,HL.o];exact aZ.o)
   clear hI hK hS hD ak ac
   gi_wp2_with fail
   exact endD (by kernel_rfl) (by kernel_rfl) ⟨_,_,D :: Ds,rfl,HF.o⟩ ba.o
  case stop=>
   rintro D cc pre W' _ _ h _
   exact h.elim
end Cu
namespace Cu
section
open Go.RowKit
end
section
open Go.RowKit
theorem zh8(c:Cut):openE c 0=(checkS c).2:=by
 unfold openE
 by_cases h:(checkS c).2≠0
 .rw[if_pos h]
 .rw[if_neg h]
  have h0:=Classical.not_not.1 h
  have hg:=zb0 ((zck c).1 (zeA h0).1)
  rw[if_pos (by unfold inS;simp;omega),h0]
end
end Cu
namespace Cu
open Go.RowKit
theorem zeJ{f:Nat->Int}(h0:∀ k,0<=f k):∀{n:Nat},0<zai f n->∃ k,k<n/\0<f k
|n+1,h=>by
  show ∃ k,_
  have h1:=h0 n
  have h:0<zai f n+f n:=h
  by_cases e:0<f n
  .exact⟨n,by omega,e⟩
  .obtain⟨k,hk,h2⟩:=zeJ h0 (n:=n) (by omega)
   exact⟨k,by omega,h2⟩
theorem zm5{c:Cut}{a b:Int}(h:0<edgesR c a b):∃ x y:Int,(0<=x/\x<W c)/\(0<=y/\y<H c)/\at2 c x y=a/\(∃ p∈za0 x y,at2 c p.1 p.2=b):=by
 obtain⟨y,hy,h1⟩:=zeJ (fun y=>(zaK (fun x=>zcW c x y a b) (W c)).1) h
 obtain⟨x,hx,h2⟩:=zeJ (fun x=>(zcW c x y a b).1) h1
 refine⟨x,y,by omega,by omega,?_⟩
 unfold zb1 at h2
 by_cases e:at2 c x y=a
 .rw[if_pos e] at h2
  refine⟨e,?_⟩
  refine Classical.byContradiction fun hn=>?_
  have key:∀ p∈za0 (x:Int) (y:Int),b2i (at2 c p.1 p.2==b)=0:=fun p hp=>by
   have:¬ at2 c p.1 p.2=b:=fun e=>hn ⟨p,hp,e⟩
   simp[b2i,this]
  have k1:=key _ (qE ..)
  have k2:=key _ (List.mem_cons_of_mem _ (qE ..))
  have k3:=key _ (List.mem_cons_of_mem _ (List.mem_cons_of_mem _ (qE ..)))
  have k4:=key _ (List.mem_cons_of_mem _ (List.mem_cons_of_mem _ (List.mem_cons_of_mem _ (qE ..))))
  dsimp only at k1 k2 k3 k4
  omega
 .rw[if_neg e] at h2;omega
theorem zkk{c:Cut}(ok:OkC c)(x y:Int):at2 c x y<=zag c:=by
 have hg:=zb0 ok
 by_cases h:isIn c x y=true
 .obtain⟨j,hj,-,-⟩:=zd7 ok (p:=(x,y)) h
  have h0:=ok.idx h
  unfold at2
  rw[if_pos h]
  have hl:(y*c.wide+x).toNat<c.piece.length:=by omega
  rw[za4 hl]
  exact zmZ _ (List.getElem_mem hl)
 .unfold at2
  rw[if_neg h];omega
theorem zoJ{c:Cut}(ok:OkC c){a b:Int}(h:0<edgesR c a b):(0<=a/\a<=zag c)/\(-1<=b/\b<=zag c):=by
 have hw:=ok.w
 have hh:=ok.h
 obtain⟨x,y,hx,hy,ea,⟨p,-,eb⟩⟩:=zm5 h
 unfold W at hx
 unfold H at hy
 have h1:=zkk ok x y
 have h2:=zkk ok p.1 p.2
 have h3:=ok.at_bd x y
 have h4:=ok.at_bd p.1 p.2
 have h5:isIn c x y=true:=by unfold isIn inS;simp only[Bool.and_eq_true,qC];omega
 have h6:=h3.2.2 h5
 omega
def lenD(c:Cut)(D:Pt->Bool):Int:=zai (fun a=>zai (fun b=>if D ((b:Int),(a:Int))=true then edgesR c (a:Int) (b:Int) else 0) a) ((zag c).toNat+1)
theorem zmQ(c:Cut):lenD c (fun _=>false)=0:=zcJ fun _ _=>zcJ fun _ _=>by simp
theorem zog{c:Cut}{D:Pt->Bool}(hD:∀ p,D p=(edgO c p).isSome):lenD c D=lenS c:=by
 unfold lenD lenS
 refine za8 fun a _=>za8 fun b hb=>?_
 rw[hD]
 unfold edgO posO
 dsimp only
 rw[if_pos (show((b:Int))≠(a:Int) by omega)]
 have:=ze9 c (a:Int) (b:Int)
 by_cases h:0<edgesR c (a:Int) (b:Int)
 .rw[if_pos h];rfl
 .rw[if_neg h];simp;omega
theorem zmP{c:Cut}{D:Pt->Bool}{p:Pt}(h:¬(p.1≠-1/\p.1<p.2))(hp:0<=p.2):lenD c (fun q=>D q||decide (q=p))=lenD c D:=by
 unfold lenD
 refine za8 fun a _=>za8 fun b hb=>?_
 have:((b:Int),(a:Int))≠p:=fun e=>h (by subst e;exact⟨by dsimp only;omega,by dsimp only;omega⟩)
 simp[this]
theorem zoh{c:Cut}{D:Pt->Bool}{p:Pt}(h0:D p=false)(h:p.1≠-1/\p.1<p.2)(hp:-1<=p.1/\p.2<=zag c):lenD c (fun q=>D q||decide (q=p))=lenD c D+edgesR c p.2 p.1:=by
 obtain⟨b,hb⟩:∃ b:Nat,(b:Int)=p.1:=⟨p.1.toNat,by omega⟩
 obtain⟨a,ha⟩:∃ a:Nat,(a:Int)=p.2:=⟨p.2.toNat,by omega⟩
 have aa:p=((b:Int),(a:Int)):=by rw[hb,ha]
 unfold lenD
 refine zdE (i:=a) ?_ (by omega) fun k _ hk=>za8 fun j _=>?_
 .refine zdE (i:=b) ?_ (by omega) fun j _ hj=>?_
  .have e1:(D ((b:Int),(a:Int))||decide (((b:Int),(a:Int))=p))=true:=by rw[<- aa];simp
   have e2:D ((b:Int),(a:Int))=false:=by rw[<- aa];exact h0
   dsimp only
   rw[if_pos e1,if_neg (by rw[e2];simp),ha,hb];omega
  .have:((j:Int),(a:Int))≠p:=fun e=>hj (by rw[aa] at e;injection e with e1 e2;omega)
   simp[this]
 .have:((j:Int),(k:Int))≠p:=fun e=>hk (by rw[aa] at e;injection e with e1 e2;omega)
  simp[this]
theorem zp7{c:Cut}(ok:OkC c)(D:Pt->Bool):0<=lenD c D/\lenD c D<=10000000:=by
 have hg:=zb0 ok
 have h1:∀ a b:Nat,0<=(if D ((b:Int),(a:Int))=true then edgesR c (a:Int) (b:Int) else 0)/\(if D ((b:Int),(a:Int))=true then edgesR c (a:Int) (b:Int) else 0)<=1000:=fun a b=>by
  have h1:=ze9 c (a:Int) (b:Int)
  have h2:=zj3 ok (a:Int) (b:Int)
  split <;> omega
 have h3:∀ a:Nat,0<=zai (fun b:Nat=>if D ((b:Int),(a:Int))=true then edgesR c (a:Int) (b:Int) else 0) a/\(a<41->zai (fun b:Nat=>if D ((b:Int),(a:Int))=true then edgesR c (a:Int) (b:Int) else 0) a<=1000*41):=fun a=>by
  have:=zaK (h1 a) a
  exact⟨this.1,fun h=>by have:=this.2;omega⟩
 have h4:lenD c D=zai (fun a=>if a<41 then zai (fun b:Nat=>if D ((b:Int),(a:Int))=true then edgesR c (a:Int) (b:Int) else 0) a else 0) ((zag c).toNat+1):=by
  unfold lenD
  refine za8 fun a ha=>?_
  rw[if_pos (by omega)]
 rw[h4]
 have:=zaK (f:=fun a:Nat=>if a<41 then zai (fun b:Nat=>if D ((b:Int),(a:Int))=true then edgesR c (a:Int) (b:Int) else 0) a else 0) (B:=1000*41) (fun a=>by
  have:=h3 a
  split
  .rename_i h;exact⟨this.1,this.2 h⟩
  .omega) ((zag c).toNat+1)
 omega
noncomputable def zgT(c:Cut):Value:=.tuple #[.agg #[.int .i64 (zan c).1,.int .i64 (zan c).2.1,.int .i64 (zan c).2.2.1,.int .i64 (zan c).2.2.2],.int .i64 (cutE c)]
end Cu
end Go.Proofs.YtankkcbofgighaaGreatDoor
