import Derived.Test.YtankkcbofgighaaGreatDoorK1
import Derived.Test.YtankkcbofgighaaGreatDoorK2
import Derived.Test.YtankkcbofgighaaGreatDoorK7
set_option linter.unusedVariables false
set_option linter.unusedSimpArgs false
set_option maxRecDepth 100000
set_option maxHeartbeats 40000000
namespace Go.Proofs.YtankkcbofgighaaGreatDoor
namespace Cu
open Go.RowKit
theorem zeJ{f:Nat->Int}(h0:∀ k,0<=f k):∀{n:Nat},0<zai f n->∃ k,k<n/\0<f k
|n+1,h=>by
  show ∃ k,_
  have h1:=h0 n
  have h:0<zai f n+f n:=h
  by_cases e:0<f n
  .exact⟨n,by omega,e⟩
  .obtain⟨k,hk,h2⟩:=zeJ h0 (n:=n) (by omega)
   exact⟨k,by omega,h2⟩
theorem zm5{c:Cut}{a b:Int}(h:0<edgesR c a b):∃ x y:Int,(0<=x/\x<W c)/\(0<=y/\y<H c)/\at2 c x y=a/\(∃ p∈za0 x y,at2 c p.1 p.2=b):=by
 obtain⟨y,hy,h1⟩:=zeJ (fun y=>(zaK (fun x=>zcW c x y a b) (W c)).1) h
 obtain⟨x,hx,h2⟩:=zeJ (fun x=>(zcW c x y a b).1) h1
 refine⟨x,y,by omega,by omega,?_⟩
 unfold zb1 at h2
 by_cases e:at2 c x y=a
 .rw[if_pos e] at h2
  refine⟨e,?_⟩
  refine Classical.byContradiction fun hn=>?_
  have key:∀ p∈za0 (x:Int) (y:Int),b2i (at2 c p.1 p.2==b)=0:=fun p hp=>by
   have:¬ at2 c p.1 p.2=b:=fun e=>hn ⟨p,hp,e⟩
   simp[b2i,this]
  have k1:=key _ (qE ..)
  have k2:=key _ (List.mem_cons_of_mem _ (qE ..))
  have k3:=key _ (List.mem_cons_of_mem _ (List.mem_cons_of_mem _ (qE ..)))
  have k4:=key _ (List.mem_cons_of_mem _ (List.mem_cons_of_mem _ (List.mem_cons_of_mem _ (qE ..))))
  dsimp only at k1 k2 k3 k4
  omega
 .rw[if_neg e] at h2;omega
theorem zkk{c:Cut}(ok:OkC c)(x y:Int):at2 c x y<=zag c:=by
 have hg:=zb0 ok
 by_cases h:isIn c x y=true
 .obtain⟨j,hj,-,-⟩:=zd7 ok (p:=(x,y)) h
  have h0:=ok.idx h
  unfold at2
  rw[if_pos h]
  have hl:(y*c.wide+x).toNat<c.piece.length:=by omega
  rw[za4 hl]
  exact zmZ _ (List.getElem_mem hl)
 .unfold at2
  rw[if_neg h];omega
theorem zoJ{c:Cut}(ok:OkC c){a b:Int}(h:0<edgesR c a b):(0<=a/\a<=zag c)/\(-1<=b/\b<=zag c):=by
 have hw:=ok.w
 have hh:=ok.h
 obtain⟨x,y,hx,hy,ea,⟨p,-,eb⟩⟩:=zm5 h
 unfold W at hx
 unfold H at hy
 have h1:=zkk ok x y
 have h2:=zkk ok p.1 p.2
 have h3:=ok.at_bd x y
 have h4:=ok.at_bd p.1 p.2
 have h5:isIn c x y=true:=by unfold isIn inS;simp only[Bool.and_eq_true,qC];omega
 have h6:=h3.2.2 h5
 omega
def lenD(c:Cut)(D:Pt->Bool):Int:=zai (fun a=>zai (fun b=>if D ((b:Int),(a:Int))=true then edgesR c (a:Int) (b:Int) else 0) a) ((zag c).toNat+1)
theorem zmQ(c:Cut):lenD c (fun _=>false)=0:=zcJ fun _ _=>zcJ fun _ _=>by simp
theorem zog{c:Cut}{D:Pt->Bool}(hD:∀ p,D p=(edgO c p).isSome):lenD c D=lenS c:=by
 unfold lenD lenS
 refine za8 fun a _=>za8 fun b hb=>?_
 rw[hD]
 unfold edgO posO
 dsimp only
 rw[if_pos (show((b:Int))≠(a:Int) by omega)]
 have:=ze9 c (a:Int) (b:Int)
 by_cases h:0<edgesR c (a:Int) (b:Int)
 .rw[if_pos h];rfl
 .rw[if_neg h];simp;omega
theorem zmP{c:Cut}{D:Pt->Bool}{p:Pt}(h:¬(p.1≠-1/\p.1<p.2))(hp:0<=p.2):lenD c (fun q=>D q||decide (q=p))=lenD c D:=by
 unfold lenD
 refine za8 fun a _=>za8 fun b hb=>?_
 have:((b:Int),(a:Int))≠p:=fun e=>h (by subst e;exact⟨by dsimp only;omega,by dsimp only;omega⟩)
 simp[this]
theorem zoh{c:Cut}{D:Pt->Bool}{p:Pt}(h0:D p=false)(h:p.1≠-1/\p.1<p.2)(hp:-1<=p.1/\p.2<=zag c):lenD c (fun q=>D q||decide (q=p))=lenD c D+edgesR c p.2 p.1:=by
 obtain⟨b,hb⟩:∃ b:Nat,(b:Int)=p.1:=⟨p.1.toNat,by omega⟩
 obtain⟨a,ha⟩:∃ a:Nat,(a:Int)=p.2:=⟨p.2.toNat,by omega⟩
 have aa:p=((b:Int),(a:Int)):=by rw[hb,ha]
 unfold lenD
 refine zdE (i:=a) ?_ (by omega) fun k _ hk=>za8 fun j _=>?_
 .refine zdE (i:=b) ?_ (by omega) fun j _ hj=>?_
  .have e1:(D ((b:Int),(a:Int))||decide (((b:Int),(a:Int))=p))=true:=by rw[<- aa];simp
   have e2:D ((b:Int),(a:Int))=false:=by rw[<- aa];exact h0
   dsimp only
   rw[if_pos e1,if_neg (by rw[e2];simp),ha,hb];omega
  .have:((j:Int),(a:Int))≠p:=fun e=>hj (by rw[aa] at e;injection e with e1 e2;omega)
   simp[this]
 .have:((j:Int),(k:Int))≠p:=fun e=>hk (by rw[aa] at e;injection e with e1 e2;omega)
  simp[this]
theorem zp7{c:Cut}(ok:OkC c)(D:Pt->Bool):0<=lenD c D/\lenD c D<=10000000:=by
 have hg:=zb0 ok
 have h1:∀ a b:Nat,0<=(if D ((b:Int),(a:Int))=true then edgesR c (a:Int) (b:Int) else 0)/\(if D ((b:Int),(a:Int))=true then edgesR c (a:Int) (b:Int) else 0)<=1000:=fun a b=>by
  have h1:=ze9 c (a:Int) (b:Int)
  have h2:=zj3 ok (a:Int) (b:Int)
  split <;> omega
 have h3:∀ a:Nat,0<=zai (fun b:Nat=>if D ((b:Int),(a:Int))=true then edgesR c (a:Int) (b:Int) else 0) a/\(a<41->zai (fun b:Nat=>if D ((b:Int),(a:Int))=true then edgesR c (a:Int) (b:Int) else 0) a<=1000*41):=fun a=>by
  have:=zaK (h1 a) a
  exact⟨this.1,fun h=>by have:=this.2;omega⟩
 have h4:lenD c D=zai (fun a=>if a<41 then zai (fun b:Nat=>if D ((b:Int),(a:Int))=true then edgesR c (a:Int) (b:Int) else 0) a else 0) ((zag c).toNat+1):=by
  unfold lenD
  refine za8 fun a ha=>?_
  rw[if_pos (by omega)]
 rw[h4]
 have:=zaK (f:=fun a:Nat=>if a<41 then zai (fun b:Nat=>if D ((b:Int),(a:Int))=true then edgesR c (a:Int) (b:Int) else 0) a else 0) (B:=1000*41) (fun a=>by
  have:=h3 a
  split
  .rename_i h;exact⟨this.1,this.2 h⟩
  .omega) ((zag c).toNat+1)
 omega
noncomputable def zgT(c:Cut):Value:=.tuple #[.agg #[.int .i64 (zan c).1,.int .i64 (zan c).2.1,.int .i64 (zan c).2.2.1,.int .i64 (zan c).2.2.2],.int .i64 (cutE c)]
theorem zhM(v:Int)(A:Option Addr)(c:Nat)(l:List Int)(w:World)(h:At w w.heap.size 1 zad A l)(hl:l.length<=9223372036854775807) :
  Calls Tryz.prog 276 #[.slice A l.length c,.int .i64 v] w (RetQ (.bool (decide (0<=firstI (eqPc v) l))) w):=by
 have H1:=qG (zfR v A c l w h hl)
 clear h hl
 go_enter Tryz.func276,Tryz.ntmps276
 go_upto_region 1 with fail
 go_wp2_with (go_at_call 77;(with_reducible refine(H1.o).mono ?_);rintro e w' ⟨rfl,rfl⟩)
 go_ret
 exact⟨rfl,rfl⟩
theorem zlN(W:World)(b o:Nat)(u:Value):W.grownBy (W.setCell ⟨b,o,none⟩ u) (some b):=
 ⟨rfl,rfl,rfl,by rw[World.size_setCell];exact qQ _,fun i _ hi=>zb5 (fun e=>hi (by rw[e])) _ _⟩
structure LnP(c:Cut)(bm gp:Nat)(w W:World)(l b j s:Int):Prop where
 o:Bx W (w.heap.size+1) [.int .i64 l,.int .i64 b,.int .i64 j,.int .i64 s]
 x:Bx W w.heap.size (cutL c)
 p:Bx W gp (picL c bm)
 pic:PicAt c bm W
 b:Below w.heap.size w W
 g:w.heap.size+2<=gp
section
variable {c:Cut} {bm gp:Nat} {w W W':World} {l b j s:Int}
theorem LnP.next(h:LnP c bm gp w W l b j s)(hb:Below W.heap.size W W'):LnP c bm gp w W' l b j s:=
 ⟨h.o.next hb,h.x.next hb,h.p.next hb,MapIs.next h.pic hb,h.b.trans (hb.mono h.b.size),h.g⟩
theorem LnP.grow(h:LnP c bm gp w W l b j s){r:Nat}(hg:W.grownBy W' (some r))(hr:r≠w.heap.size+1/\r≠w.heap.size/\r≠gp/\r≠bm/\w.heap.size<=r):LnP c bm gp w W' l b j s:=
 ⟨h.o.gk hg (fun q e=>by injection e with e;omega),h.x.gk hg (fun q e=>by injection e with e;omega),h.p.gk hg (fun q e=>by injection e with e;omega),MapIs.grown h.pic hg (fun e=>by injection e with e;omega),h.b.grown hg h.b.size (fun q e=>by injection e with e;omega),h.g⟩
theorem LnP.set(h:LnP c bm gp w W l b j s){k:Nat}(v:Value){l' b' j' s':Int}(hk:k<4)(he:[.int .i64 l,.int .i64 b,.int .i64 j,.int .i64 s].set k v=[.int .i64 l',.int .i64 b',.int .i64 j',.int .i64 s']):LnP c bm gp w (W.setCell ⟨w.heap.size+1,k,none⟩ v) l' b' j' s':=by
 have hg:=h.g
 refine⟨?_,h.x.far (by omega) _,h.p.far (by omega) _,h.pic.of (zb5 (zcG h.o h.pic) _ _),h.b.setCell (p:=⟨w.heap.size+1,k,none⟩) (by show w.heap.size<=w.heap.size+1;omega) _,h.g⟩
 rw[<- he]
 exact h.o.set (by simpa using hk) v
theorem LnP.set0(h:LnP c bm gp w W l b j s)(l':Int):LnP c bm gp w (W.setCell ⟨w.heap.size+1,0,none⟩ (.int .i64 l')) l' b j s:=h.set _ (by omega) rfl
theorem LnP.set1(h:LnP c bm gp w W l b j s)(b':Int):LnP c bm gp w (W.setCell ⟨w.heap.size+1,1,none⟩ (.int .i64 b')) l b' j s:=h.set _ (by omega) rfl
theorem LnP.set2(h:LnP c bm gp w W l b j s)(j':Int):LnP c bm gp w (W.setCell ⟨w.heap.size+1,2,none⟩ (.int .i64 j')) l b j' s:=h.set _ (by omega) rfl
theorem LnP.set3(h:LnP c bm gp w W l b j s)(s':Int):LnP c bm gp w (W.setCell ⟨w.heap.size+1,3,none⟩ (.int .i64 s')) l b j s':=h.set _ (by omega) rfl
end
theorem zmK{w:World}{b:Nat}{a0 a1 a2 a3:Value}(h:Bx w b [a0,a1,a2,a3]):(loadVar 310 ⟨b,0,none⟩).run Tryz.prog w=.ok (.agg #[a0,a1,a2,a3]) w:=by
 have h0:=h.c 0 _ rfl
 have h1:=h.c 1 _ rfl
 have h2:=h.c 2 _ rfl
 have h3:=h.c 3 _ rfl
 go_simp
theorem zgI{c:Cut}{w w':World}{l b j s e:Int}(h1:zan c=(l,b,j,s))(h2:cutE c=e)(hb:Below w.heap.size w w'):Ret (zgT c) w (.returned (.tuple #[.agg #[.int .i64 l,.int .i64 b,.int .i64 j,.int .i64 s],.int .i64 e])) w':=by
 refine⟨?_,hb⟩
 unfold zgT
 rw[h1,h2]
def zlR(c:Cut)(x y:Int):List Int:=[zfC c x y,zfB c x y,zfz c x y,zfA c x y]
theorem znd(c:Cut)(x y:Int):decide (0<=firstI (eqPc (-1)) (zlR c x y))=edgeP c x y:=by
 unfold zlR edgeP
 rw[Bool.eq_iff_iff,decide_eq_true_iff,decide_eq_true_iff]
 rcases zcO (eqPc (-1)) [zfC c x y,zfB c x y,zfz c x y,zfA c x y] with ⟨k,hk,e,hp,-⟩|⟨e,hj⟩
 .rw[e]
  refine⟨fun _=>?_,fun _=>by omega⟩
  unfold eqPc at hp
  simp only[List.length_cons,List.length_nil] at hk
  have hk:k<4:=by omega
  match k,hk with
 |0,_=>simp at hp;omega
 |1,_=>simp at hp;omega
 |2,_=>simp at hp;omega
 |3,_=>simp at hp;omega
 .rw[e]
  refine⟨fun h=>by omega,fun h=>?_⟩
  have h0:=hj 0 (by simp)
  have h1:=hj 1 (by simp)
  have h2:=hj 2 (by simp)
  have h3:=hj 3 (by simp)
  unfold eqPc at h0 h1 h2 h3
  simp at h0 h1 h2 h3
  omega
theorem zn3(c:Cut)(x y:Int):0<=manyP c x y/\manyP c x y<=4:=by
 unfold manyP
 have h1:=za9 (upB c x y)
 have h2:=za9 (zeP c x y)
 have h3:=za9 (zex c x y)
 have h4:=za9 (zgU c x y)
 omega
theorem ziY(c:Cut)(x y:Int):(0<=zbR c x y/\zbR c x y<=4)/\(0<=zbS c x y/\zbS c x y<=4)/\(0<=zco c x y/\zco c x y<=4):=by
 have:=zn3 c x y
 refine⟨?_,?_,?_⟩
 .unfold zbR;split <;> omega
 .unfold zbS;split <;> (try split) <;> omega
 .unfold zco;split <;> (try split) <;> (try split) <;> omega
def rowP(c:Cut)(g:Int->Int->Int)(y:Nat):Int:=zai (fun x=>g (x:Int) (y:Int)) (W c+1)
theorem zhy{c:Cut}(ok:OkC c){g:Int->Int->Int}(h:∀ x y,0<=g x y/\g x y<=4){y x:Nat}(hy:y<=13)(hx:x<=13):0<=zai (rowP c g) y+zai (fun x:Nat=>g (x:Int) (y:Int)) x/\zai (rowP c g) y+zai (fun x:Nat=>g (x:Int) (y:Int)) x<=1000:=by
 have hw:=ok.w
 have h1:=zaK (f:=rowP c g) (B:=52) (fun y=>by
  have:=zaK (f:=fun x:Nat=>g (x:Int) (y:Int)) (B:=4) (fun x=>h _ _) (Go.Proofs.YtankkcbofgighaaGreatDoor.Cu.W c+1)
  have hW:((Go.Proofs.YtankkcbofgighaaGreatDoor.Cu.W c:Nat):Int)=c.wide:=by unfold Go.Proofs.YtankkcbofgighaaGreatDoor.Cu.W;omega
  unfold rowP
  omega) y
 have h2:=zaK (f:=fun x:Nat=>g (x:Int) (y:Int)) (B:=4) (fun x=>h _ _) x
 omega
structure RMp(c:Cut)(bm gp be rr:Nat)(w W:World)(done:Pt->Bool)(cnt:Nat):Prop where
 ln:LnP c bm gp w W (lenD c done) 0 0 0
 rg:RangeIs Tryz.prog 365 kv2 vvI be rr (edgO c) done cnt W
def RP3(c:Cut)(bm gp:Nat)(w:World)(l:Int)(yv:Value)(wr:World):Prop:=∃(y:Nat) (b j s:Int),y<=H c+1/\yv=.int .i64 (y:Int)/\b=zai (rowP c (zco c)) y/\j=zai (rowP c (zbS c)) y/\s=zai (rowP c (zbR c)) y/\LnP c bm gp w wr l b j s
def RP4(c:Cut)(bm gp:Nat)(w:World)(l:Int)(y:Nat)(xv:Value)(wr:World):Prop:=∃(x:Nat) (b j s:Int),x<=W c+1/\xv=.int .i64 (x:Int)/\b=zai (rowP c (zco c)) y+zai (fun x:Nat=>zco c (x:Int) (y:Int)) x/\j=zai (rowP c (zbS c)) y+zai (fun x:Nat=>zbS c (x:Int) (y:Int)) x/\s=zai (rowP c (zbR c)) y+zai (fun x:Nat=>zbR c (x:Int) (y:Int)) x/\LnP c bm gp w wr l b j s
def zfy(u r d l:Bool)(i:Nat):List Value:=[.bool (decide (1<=i)&&u),.bool (decide (2<=i)&&r),.bool (decide (3<=i)&&d),.bool (decide (4<=i)&&l)]
def zcv(u r d l:Bool)(i:Nat):Int:=b2i (decide (1<=i)&&u)+b2i (decide (2<=i)&&r)+b2i (decide (3<=i)&&d)+b2i (decide (4<=i)&&l)
structure RPi(c:Cut)(bm gp:Nat)(w:World)(l b j s:Int)(g14 g15:Nat)(pa pb pf pd:Int)(u r d le:Bool)(i:Nat)(mv:Value)(W:World):Prop where
 hi:i<=4
 m:mv=.int .i64 (zcv u r d le i)
 ln:LnP c bm gp w W l b j s
 x14:Bx W g14 [.int .i64 pa,.int .i64 pb,.int .i64 pf,.int .i64 pd]
 x15:Bx W g15 (zfy u r d le i)
 ne:g14≠g15/\w.heap.size+1≠g15/\w.heap.size+1≠g14/\w.heap.size<=g15/\gp≠g15/\w.heap.size≠g15/\bm≠g15
theorem RPi.no{c:Cut}{bm gp:Nat}{w:World}{l b j s:Int}{g14 g15:Nat}{pa pb pf pd:Int}{u r d le:Bool}{i:Nat}{mv:Value}{W:World}(h:RPi c bm gp w l b j s g14 g15 pa pb pf pd u r d le i mv W)(hi:i<4)(hq:[u,r,d,le].getD i false=false):RPi c bm gp w l b j s g14 g15 pa pb pf pd u r d le (i+1) mv W:=by
 have e:zcv u r d le (i+1)=zcv u r d le i/\zfy u r d le (i+1)=zfy u r d le i:=by
  rcases(by omega:i=0\/i=1\/i=2\/i=3) with rfl|rfl|rfl|rfl
  .obtain rfl:u=false:=hq
   exact⟨rfl,rfl⟩
  .obtain rfl:r=false:=hq
   exact⟨rfl,rfl⟩
  .obtain rfl:d=false:=hq
   exact⟨rfl,rfl⟩
  .obtain rfl:le=false:=hq
   exact⟨rfl,rfl⟩
 exact⟨by omega,by rw[e.1];exact h.m,h.ln,h.x14,by rw[e.2];exact h.x15,h.ne⟩
theorem RPi.yes{c:Cut}{bm gp:Nat}{w:World}{l b j s:Int}{g14 g15:Nat}{pa pb pf pd:Int}{u r d le:Bool}{i:Nat}{mv:Value}{W:World}(h:RPi c bm gp w l b j s g14 g15 pa pb pf pd u r d le i mv W)(hi:i<4)(hq:[u,r,d,le].getD i false=true):RPi c bm gp w l b j s g14 g15 pa pb pf pd u r d le (i+1) (.int .i64 (zcv u r d le i+1)) (W.setCell ⟨g15,i,none⟩ (.bool true)):=by
 have e:zcv u r d le (i+1)=zcv u r d le i+1/\zfy u r d le (i+1)=(zfy u r d le i).set i (.bool true):=by
  rcases(by omega:i=0\/i=1\/i=2\/i=3) with rfl|rfl|rfl|rfl
  .obtain rfl:u=true:=hq
   exact⟨by cases r <;> cases d <;> cases le <;> rfl,rfl⟩
  .obtain rfl:r=true:=hq
   exact⟨by cases u <;> cases d <;> cases le <;> rfl,rfl⟩
  .obtain rfl:d=true:=hq
   exact⟨by cases u <;> cases r <;> cases le <;> rfl,rfl⟩
  .obtain rfl:le=true:=hq
   exact⟨by cases u <;> cases r <;> cases d <;> rfl,rfl⟩
 have hn:=h.ne
 refine⟨by omega,by rw[e.1],?_,h.x14.far (by omega) _,by rw[e.2];exact h.x15.set (by simp[zfy];omega) _,h.ne⟩
 exact⟨h.ln.o.far (by omega) _,h.ln.x.far (by omega) _,h.ln.p.far (by omega) _,h.ln.pic.of (zb5 (by omega) _ _),h.ln.b.setCell (p:=⟨g15,i,none⟩) (by show w.heap.size<=g15;omega) _,h.ln.g⟩
theorem zn4(u r d le:Bool)(i:Nat):0<=zcv u r d le i/\zcv u r d le i<=4:=by
 unfold zcv
 have h1:=za9 (decide (1<=i)&&u)
 have h2:=za9 (decide (2<=i)&&r)
 have h3:=za9 (decide (3<=i)&&d)
 have h4:=za9 (decide (4<=i)&&le)
 omega
theorem zqr{W:World}{g:Nat}{pa pb pf pd:Int}(h:Bx W g [.int .i64 pa,.int .i64 pb,.int .i64 pf,.int .i64 pd]):At W W.heap.size 1 zad (some ⟨g,0,none⟩) [pa,pb,pf,pd]:=by
 intro k x hx
 refine⟨g,0,rfl,h.lt,fun j u hu=>?_⟩
 unfold zad at hu
 match j,hu with
|0,hu=>
  injection hu with hu
  subst hu
  rw[Nat.mul_one,Nat.zero_add,Nat.add_zero]
  refine h.c k _ ?_
  match k,hx with
 |0,hx=>injection hx with hx;subst hx;rfl
 |1,hx=>injection hx with hx;subst hx;rfl
 |2,hx=>injection hx with hx;subst hx;rfl
 |3,hx=>injection hx with hx;subst hx;rfl
def lnM2:List (Option Nat):=[none,none,none,none,none,none,none,none,some 8,some 9,some 10,some 11,some 12,some 13,some 14,some 15,some 16,some 17,some 18,some 19,none,none,none,none,none,none,none,none,none,none,none,none,none,none,none,none,none,none,none,none,none,none,none,none,none,none,none,none,none,none,none,none,none,some 53,some 54,some 55,some 56,some 57,some 58,some 59,some 60,some 61,some 62,some 63,some 64,some 65,some 66,some 67,some 68,some 69,some 70,some 71,some 72,some 73,some 74,some 75,some 76,some 77,some 78,some 79,some 80,some 81,some 82,some 83,some 84,some 85,some 86,some 87,some 88,some 89,some 90,some 91,some 92,some 93,some 94,some 95,some 96,some 97,some 98,some 99,some 100,some 101,some 102,some 103,some 104,some 105,some 106,some 107,some 108,some 109,some 110,some 111,some 112,some 113,some 114,some 115,some 116,some 117,some 118,some 119,some 120,some 121,some 122,some 123,some 124,some 125,some 126,some 127,some 128,some 129,some 130,some 131,some 132,some 133,some 134,some 135,some 136,some 137,some 138,some 139,some 140,some 141,some 142,some 143,some 144,some 145,some 146,some 147,some 148,none]
def lnM3:List (Option Nat):=[none,none,none,none,none,none,none,none,none,some 9,some 10,some 11,some 12,some 13,some 14,some 15,some 16,some 17,some 18,some 19,none,none,none,none,none,none,none,none,none,none,none,none,none,none,none,none,none,none,none,none,none,none,none,none,none,none,none,none,none,none,none,none,none,none,none,none,none,none,none,some 59,some 60,some 61,some 62,some 63,some 64,some 65,some 66,some 67,some 68,some 69,some 70,some 71,some 72,some 73,some 74,some 75,some 76,some 77,some 78,some 79,some 80,some 81,some 82,some 83,some 84,some 85,some 86,some 87,some 88,some 89,some 90,some 91,some 92,some 93,some 94,some 95,some 96,some 97,some 98,some 99,some 100,some 101,some 102,some 103,some 104,some 105,some 106,some 107,some 108,some 109,some 110,some 111,some 112,some 113,some 114,some 115,some 116,some 117,some 118,some 119,some 120,some 121,some 122,some 123,some 124,some 125,some 126,some 127,some 128,some 129,some 130,some 131,some 132,some 133,some 134,some 135,some 136,some 137,some 138,some 139,some 140,some 141,some 142,some 143,some 144,some 145,some 146,some 147,some 148,none]
def lnM4:List (Option Nat):=[none,none,none,none,none,none,none,none,none,none,none,none,none,none,none,none,some 16,some 17,some 18,some 19,none,none,none,none,none,none,none,none,none,none,none,none,none,none,none,none,none,none,none,none,none,none,none,none,none,none,none,none,none,none,none,none,none,none,none,none,none,none,none,none,none,none,none,none,none,none,none,none,none,none,none,none,none,none,none,none,none,none,none,none,none,none,none,none,none,none,none,none,none,none,none,none,none,none,none,some 95,some 96,some 97,some 98,some 99,some 100,some 101,some 102,some 103,some 104,some 105,some 106,some 107,some 108,some 109,some 110,some 111,some 112,some 113,some 114,some 115,some 116,some 117,some 118,some 119,none,none,none,none,none,none,none,none,none,none,none,none,none,none,none,none,none,none,none,none,none,none,none,none,none,none,none,none,none,none]
theorem zl4(c:Cut)(w:World)(hr:CutAt w w.heap.size c):Calls Tryz.prog 245 #[.agg #[.int .i64 c.wide,.int .i64 c.high,.slice c.A c.piece.length c.c]] w (Ret (zgT c) w):=by
 have n1:=nxA w (.cells #[.int .i64 c.wide,.int .i64 c.high,.slice c.A c.piece.length c.c] 57)
 have n2:=nxA (w.alloc (.cells #[.int .i64 c.wide,.int .i64 c.high,.slice c.A c.piece.length c.c] 57)) (.cells #[.int .i64 0,.int .i64 0,.int .i64 0,.int .i64 0] 310)
 have az:=qG ((Bx.new w #[.int .i64 c.wide,.int .i64 c.high,.slice c.A c.piece.length c.c] 57).next n2)
 have aR:=qG (Bx.new (w.alloc (.cells #[.int .i64 c.wide,.int .i64 c.high,.slice c.A c.piece.length c.c] 57)) #[.int .i64 0,.int .i64 0,.int .i64 0,.int .i64 0] 310)
 have aI:=qG (n1.trans (n2.mono n1.size))
 have bq:=qG (hr.next aI.o)
 simp only[World.size_alloc] at aR
 have aS:=qG (show zan c=if cutE c=0 then(lenS c,zcu c (zco c),zcu c (zbS c),zcu c (zbR c)) else(0,0,0,0) from rfl)
 clear hr n1 n2
 go_enter Tryz.func245,Tryz.ntmps245
 go_upto_region 1 with fail
 generalize(w.alloc (.cells #[.int .i64 c.wide,.int .i64 c.high,.slice c.A c.piece.length c.c] 57)).alloc (.cells #[.int .i64 0,.int .i64 0,.int .i64 0,.int .i64 0] 310)=V at *
 have c0:=az.o.c 0 _ rfl
 have c1:=az.o.c 1 _ rfl
 have c2:=az.o.c 2 _ rfl
 go_wp2_with fail
 refine(zcU c 0 V bq.o).mono ?_
 rintro e V0 ⟨ho,aJ⟩
 clear c0 c1 c2
 have aT:=qG (az.o.next aJ)
 have aA:=qG (aR.o.next aJ)
 have aw:=qG (aI.o.trans (aJ.mono aI.o.size))
 clear az aR bq aI aJ
 rcases ho with ho|ho
 .obtain⟨h0,rfl⟩:=ho
  have hn:=nxA V0 (.cells #[.int .i64 0,.int .i64 0,.slice none 0 0,.map none] 156)
  have HY:=qG (aA.o.next hn)
  have HB:=qG (aw.o.trans (hn.mono aw.o.size))
  have HE:=qG (show cutE c=openE c 0 from(zh8 c).symm)
  have HL:=qG (show zan c=(0,0,0,0) from by rw[aS.o,if_neg (by rw[HE.o];exact h0)])
  have e0:(openE c 0==0)=false:=by simp[h0]
  have f0:=HY.o.fr 0
  have f1:=HY.o.fr 1
  have f2:=HY.o.fr 2
  have f3:=HY.o.fr 3
  have g0:=HY.o.c 0 _ rfl
  have g1:=HY.o.c 1 _ rfl
  have g2:=HY.o.c 2 _ rfl
  have g3:=HY.o.c 3 _ rfl
  have aH:=qG (zmK (HY.o.setAll [.int .i64 0,.int .i64 0,.int .i64 0,.int .i64 0] rfl))
  have aU:=qG (zac (b:=w.heap.size+1) (B:=w.heap.size) (by omega) [.int .i64 0,.int .i64 0,.int .i64 0,.int .i64 0] 0 HB.o)
  clear h0 hn aT aA aw
  generalize openE c 0=x at *
  go_wp2_with fail
  ((try simp only[Exit.inBlock,Exit.then]);refine bodyPost_ret (zah rfl rfl aH.o) rfl ?_)
  exact zgI HL.o HE.o aU.o
 .obtain⟨h0,bm,rfl,aV,aW⟩:=ho
  have HG:=qG (zgL h0)
  have bu:=qG (show cutE c=0 from(zh8 c).symm.trans h0)
  have hn:=nxA V0 (.cells #[.int .i64 c.wide,.int .i64 c.high,.slice c.A c.piece.length c.c,.map (some (bm))] 156)
  obtain⟨gp,aB⟩:∃ g,g=V0.heap.size:=⟨_,rfl⟩
  have am:=qG (show LnP c bm gp w (V0.alloc (.cells #[.int .i64 c.wide,.int .i64 c.high,.slice c.A c.piece.length c.c,.map (some (bm))] 156)) 0 0 0 0 from⟨aA.o.next hn,aT.o.next hn,by rw[aB];exact Bx.new V0 #[.int .i64 c.wide,.int .i64 c.high,.slice c.A c.piece.length c.c,.map (some (bm))] 156,MapIs.next aW hn,aw.o.trans (hn.mono aw.o.size),by have:=aA.o.lt;omega⟩)
  have HW:=qG (show((W c:Nat):Int)=c.wide from by have:=HG.o.ok.w;unfold W;omega)
  have HH:=qG (show((H c:Nat):Int)=c.high from by have:=HG.o.ok.h;unfold H;omega)
  have cj:=HG.o.ok.w
  have cm:=HG.o.ok.h
  clear h0 aV aW hn aT aA aw
  go_upto_region 2 with fail
  rw[<- aB]
  clear aB
  generalize V0.alloc (.cells #[.int .i64 c.wide,.int .i64 c.high,.slice c.A c.piece.length c.c,.map (some (bm))] 156)=V1 at *
  have q0:=am.o.p.c 0 _ rfl
  have q1:=am.o.p.c 1 _ rfl
  have q2:=am.o.p.c 2 _ rfl
  have q3:=am.o.p.c 3 _ rfl
  go_wp2_with fail
  refine(zij c bm V1 HG.o.ok am.o.pic).mono ?_
  rintro e V2 ⟨be,rfl,bW,bv,aX⟩
  obtain⟨rr,aK⟩:∃ rr,rr=V2.heap.size:=⟨_,rfl⟩
  obtain⟨V3,cnt0,aY,aZ,bw,bz⟩:=bv.range zds
  rw[<- aK] at aY aZ bz
  have ae:=qG ((am.o.next aX).next bw)
  have aV:=am.o.pic.lt
  have aB:=am.o.g
  have bR:=am.o.p.lt
  have a7:=qG (show(rr≠w.heap.size+1/\rr≠w.heap.size/\rr≠gp/\rr≠bm/\w.heap.size<=rr)/\be≠w.heap.size+1 from by have:=aX.size;omega)
  have bX:=qG (show RMp c bm gp be rr w V3 (fun _=>false) cnt0 from⟨by rw[zmQ];exact ae.o,aZ⟩)
  clear bv bW aX aZ bw bz aV aB bR aK q0 q1 q2 q3
  go_wp2_with fail
  clear aY ae
  go_loopw [] (fun wr=>∃ done cnt,RMp c bm gp be rr w wr done cnt) (fun wr=>zdI be rr wr)
  case atStart=>exact⟨_,_,bX.o⟩
  case round=>
   obtain⟨done,cnt,hr⟩:=hrel
   have HM:=qG hr
   have ax:=qG hr.rg.left
   generalize wr=W1 at *
   rcases hr.rg.step zbK 0 with ⟨h0,a8,bA⟩|⟨p,v,W2,cnt2,hf,bB,-,bA,aq,a9,bC,bY,hent⟩
   .have aC:=qG (show LnP c bm gp w W1 (lenS c) 0 0 0 from by have:=hr.ln;rw[zog a8] at this;exact this)
    obtain⟨l,hl⟩:∃ l,l=lenS c:=⟨_,rfl⟩
    rw[<- hl] at aC aS
    clear hr a8 hl
    go_wp2_with fail
    refine zfV lnM2 (fun g W=>RP3 c bm gp w l (g 8) W) (fun g _=>H c+1-(intOf (g 8)).toNat) (by kernel_rfl) ⟨0,0,0,0,by omega,zae rfl,rfl,rfl,rfl,aC.o⟩ ?_
    .intro f8 wr hrel
     obtain⟨y,b,j,s,hy,e8,hb,hj,hs,aD⟩:=hrel
     simp only[lnM2,mixF,e8]
     have bZ:=qG e8
     clear e8
     generalize wr=W3 at *
     have ae:=qG aD
     have bD:=qG hb
     have bE:=qG hj
     have bF:=qG hs
     have aE:=HH.o
     have c1:=ae.o.x.c 1 _ rfl
     clear aD hb hj hs
     by_cases cn:y<H c+1
     .have bS:(y:Int)<=c.high:=by omega
      have b0:IntKind.i64.wrap ((y:Int)+1)=(y:Int)+1:=qF _ (by omega)
      have ba:IntKind.i64.wrap ((y:Int)-1)=(y:Int)-1:=qF _ (by omega)
      have bT:=qG (show H c+1-(y+1)<H c+1-y from by omega)
      clear aE
      go_wp2_with fail
      clear c1
      refine zfV lnM3 (fun g W'=>RP4 c bm gp w l y (g 9) W') (fun g _=>W c+1-(intOf (g 9)).toNat) (by kernel_rfl) ⟨0,b,j,s,by omega,zae rfl,by rw[bD.o];show _=_+0;omega,by rw[bE.o];show _=_+0;omega,by rw[bF.o];show _=_+0;omega,ae.o⟩ ?_
      .intro f9 wr hrel
       obtain⟨x,b2,j2,s2,hx,e9,hb,hj,hs,aD⟩:=hrel
       simp only[lnM3,mixF,e9]
       have ar:=qG e9
       clear e9
       generalize wr=W4 at *
       have af:=qG aD
       have bG:=qG hb
       have bH:=qG hj
       have bI:=qG hs
       have bJ:=HW.o
       have aE:=HH.o
       have cp:0<=b2/\b2<=1000:=by rw[hb];exact zhy HG.o.ok (fun x y=>(ziY c x y).2.2) (by omega) (by omega)
       have cq:0<=j2/\j2<=1000:=by rw[hj];exact zhy HG.o.ok (fun x y=>(ziY c x y).2.1) (by omega) (by omega)
       have cr:0<=s2/\s2<=1000:=by rw[hs];exact zhy HG.o.ok (fun x y=>(ziY c x y).1) (by omega) (by omega)
       have c0:=af.o.x.c 0 _ rfl
       clear aD hb hj hs
       by_cases cv:x<W c+1
       .have bU:(x:Int)<=c.wide:=by omega
        have cw:IntKind.i64.wrap ((x:Int)+1)=(x:Int)+1:=qF _ (by omega)
        have bV:IntKind.i64.wrap ((x:Int)-1)=(x:Int)-1:=qF _ (by omega)
        have cx:IntKind.i64.wrap (b2+1)=b2+1:=qF _ (by omega)
        have cy:IntKind.i64.wrap (j2+1)=j2+1:=qF _ (by omega)
        have ak:=qG (show W c+1-(x+1)<W c+1-x from by omega)
        have cz:(x:Int)<=12:=by omega
        have cA:(y:Int)<=12:=by omega
        have ah:=qG (fun(W':World) (bn jn sn:Int) (h1:bn=b2+zco c (x:Int) (y:Int)) (h2:jn=j2+zbS c (x:Int) (y:Int)) (h3:sn=s2+zbR c (x:Int) (y:Int)) (h:LnP c bm gp w W' l bn jn sn)=>(show RP4 c bm gp w l y (.int .i64 ((x:Int)+1)) W' from⟨x+1,bn,jn,sn,by omega,rfl,by rw[h1,bG.o];exact Int.add_assoc _ _ _,by rw[h2,bH.o];exact Int.add_assoc _ _ _,by rw[h3,bI.o];exact Int.add_assoc _ _ _,h⟩))
        have bf:=qG (znd c (x:Int) (y:Int))
        have ai:=qG (show zbR c (x:Int) (y:Int)=if edgeP c (x:Int) (y:Int)=true then manyP c (x:Int) (y:Int) else 0 from rfl)
        have aj:=qG (show zbS c (x:Int) (y:Int)=if edgeP c (x:Int) (y:Int)=true then 0 else if 2<manyP c (x:Int) (y:Int) then 1 else 0 from rfl)
        have ag:=qG (show zco c (x:Int) (y:Int)=if edgeP c (x:Int) (y:Int)=true then 0 else if 2<manyP c (x:Int) (y:Int) then 0 else if manyP c (x:Int) (y:Int)=2/\upB c (x:Int) (y:Int)≠zex c (x:Int) (y:Int) then 1 else 0 from rfl)
        have bK:=qG (show manyP c (x:Int) (y:Int)=b2i (upB c (x:Int) (y:Int))+b2i (zeP c (x:Int) (y:Int))+b2i (zex c (x:Int) (y:Int))+b2i (zgU c (x:Int) (y:Int)) from rfl)
        have aL:=qG (show upB c (x:Int) (y:Int)=cutB (at2 c (x:Int) ((y:Int)-1)) (at2 c ((x:Int)-1) ((y:Int)-1)) from rfl)
        have bh:=qG (show zeP c (x:Int) (y:Int)=cutB (at2 c (x:Int) (y:Int)) (at2 c (x:Int) ((y:Int)-1)) from rfl)
        have aM:=qG (show zex c (x:Int) (y:Int)=cutB (at2 c ((x:Int)-1) (y:Int)) (at2 c (x:Int) (y:Int)) from rfl)
        have bi:=qG (show zgU c (x:Int) (y:Int)=cutB (at2 c ((x:Int)-1) ((y:Int)-1)) (at2 c ((x:Int)-1) (y:Int)) from rfl)
        unfold zlR zfC zfB zfz zfA at bf
        clear bJ aE
        go_upto_region 15 with fail
        clear c0
        have HC:=qG (show ∀(x y:Int) (W:World),I64 x->I64 y->Below W4.heap.size W4 W->Calls Tryz.prog 144 #[.agg #[.int .i64 c.wide,.int .i64 c.high,.slice c.A c.piece.length c.c,.map (some (bm))],.agg #[.int .i64 x,.int .i64 y]] W (Ret (.int .i64 (at2 c x y)) W) from fun x y W hx hy h=>zeV c bm x y W (af.o.next h).pic hx hy)
        have H3:=qG (show ∀ W:World,Below W4.heap.size W4 W->(W.cell? ⟨gp,0,none⟩=some (.int .i64 c.wide)/\W.cell? ⟨gp,1,none⟩=some (.int .i64 c.high)/\W.cell? ⟨gp,2,none⟩=some (.slice c.A c.piece.length c.c)/\W.cell? ⟨gp,3,none⟩=some (.map (some bm))) from fun W h=>⟨(af.o.p.next h).c 0 _ rfl,(af.o.p.next h).c 1 _ rfl,(af.o.p.next h).c 2 _ rfl,(af.o.p.next h).c 3 _ rfl⟩)
        have i1:I64 (x:Int):=⟨by omega,by omega⟩
        have i2:I64 (y:Int):=⟨by omega,by omega⟩
        have i3:I64 ((x:Int)-1):=⟨by omega,by omega⟩
        have i4:I64 ((y:Int)-1):=⟨by omega,by omega⟩
        refine wp_region_noPanic ?_
        refine wp_region_held_drew (S:=fun _=>True) (by kernel_rfl) ?_ (fun _=>?_)
        .trivial
        refine GG.sound (S0:=(fun W=>Below W4.heap.size W4 W/\W.cell? ⟨gp,0,none⟩=some (.int .i64 c.wide)/\W.cell? ⟨gp,1,none⟩=some (.int .i64 c.high)/\W.cell? ⟨gp,2,none⟩=some (.slice c.A c.piece.length c.c)/\W.cell? ⟨gp,3,none⟩=some (.map (some bm)))) _ (fun W=>Below W4.heap.size W4 W) _ _ (fun W W' h hb=>h.trans (hb.mono h.size)) (fun W h=>⟨h,H3.o W h⟩) ?_ _ ((Below.refl _ _).drew)
        refine zaj (i:=0) (v:=?v1) rfl (by kernel_rfl) (by kernel_rfl) (by kernel_rfl) (MakesIf.yields (Or.inl ⟨by rfl,?hy1⟩)) ?_
        case hy1=>(intro w aa;(try dsimp only at aa);go_simp;try (with_reducible rfl))
        try simp only[Act.put,qJ,qK,qL]
        refine zaj (i:=1) (v:=?v2) rfl (by kernel_rfl) (by kernel_rfl) (by kernel_rfl) (MakesIf.yields (Or.inl ⟨by rfl,?hy2⟩)) ?_
        case hy2=>(intro w aa;(try dsimp only at aa);go_simp;try (with_reducible rfl))
        try simp only[Act.put,qJ,qK,qL]
        refine zaj (i:=2) (v:=?v3) rfl (by kernel_rfl) (by kernel_rfl) (by kernel_rfl) (MakesIf.yields (Or.inl ⟨by rfl,?hy3⟩)) ?_
        case hy3=>(intro w aa;(try dsimp only at aa);go_simp;try (with_reducible rfl))
        try simp only[Act.put,qJ,qK,qL]
        refine zaj (i:=3) (v:=?v4) rfl (by kernel_rfl) (by kernel_rfl) (by kernel_rfl) (MakesIf.yields (Or.inl ⟨by rfl,?hy4⟩)) ?_
        case hy4=>(intro w aa;(try dsimp only at aa);go_simp;try (with_reducible rfl))
        try simp only[Act.put,qJ,qK,qL]
        refine zaj (i:=4) (v:=?v5) rfl (by kernel_rfl) (by kernel_rfl) (by kernel_rfl) (MakesIf.yields (Or.inl ⟨by rfl,?hy5⟩)) ?_
        case hy5=>(intro w aa;(try dsimp only at aa);go_simp;try (with_reducible rfl))
        try simp only[Act.put,qJ,qK,qL]
        refine zaj (i:=5) (v:=?v6) rfl (by kernel_rfl) (by kernel_rfl) (by kernel_rfl) (MakesIf.yields (Or.inl ⟨by rfl,?hy6⟩)) ?_
        case hy6=>(intro w aa;(try dsimp only at aa);go_simp;try (with_reducible rfl))
        try simp only[Act.put,qJ,qK,qL]
        refine zaj (i:=6) (v:=.int .i64 (at2 c ((x:Int)-1) ((y:Int)-1))) rfl (by kernel_rfl) (by kernel_rfl) (by kernel_rfl) (Or.inl ⟨by rfl,fun W hW=>?_⟩) ?_
        .go_simp;exact HC.o _ _ W i3 i4 hW.1
        try simp only[Act.put,qJ,qK,qL]
        refine zaj (i:=7) (v:=?v7) rfl (by kernel_rfl) (by kernel_rfl) (by kernel_rfl) (MakesIf.yields (Or.inl ⟨by rfl,?hy7⟩)) ?_
        case hy7=>(intro w aa;(try dsimp only at aa);go_simp;try (with_reducible rfl))
        try simp only[Act.put,qJ,qK,qL]
        refine zaj (i:=8) (v:=?v8) rfl (by kernel_rfl) (by kernel_rfl) (by kernel_rfl) (MakesIf.yields (Or.inl ⟨by rfl,?hy8⟩)) ?_
        case hy8=>(intro w aa;(try dsimp only at aa);go_simp;try (with_reducible rfl))
        try simp only[Act.put,qJ,qK,qL]
        refine zaj (i:=9) (v:=?v9) rfl (by kernel_rfl) (by kernel_rfl) (by kernel_rfl) (MakesIf.yields (Or.inl ⟨by rfl,?hy9⟩)) ?_
        case hy9=>(intro w aa;(try dsimp only at aa);go_simp;try (with_reducible rfl))
        try simp only[Act.put,qJ,qK,qL]
        refine zaj (i:=10) (v:=?v10) rfl (by kernel_rfl) (by kernel_rfl) (by kernel_rfl) (MakesIf.yields (Or.inl ⟨by rfl,?hy10⟩)) ?_
        case hy10=>(intro w aa;(try dsimp only at aa);go_simp;try (with_reducible rfl))
        try simp only[Act.put,qJ,qK,qL]
        refine zaj (i:=11) (v:=?v11) rfl (by kernel_rfl) (by kernel_rfl) (by kernel_rfl) (MakesIf.yields (Or.inl ⟨by rfl,?hy11⟩)) ?_
        case hy11=>(intro w aa;(try dsimp only at aa);go_simp;try (with_reducible rfl))
        try simp only[Act.put,qJ,qK,qL]
        refine zaj (i:=12) (v:=.int .i64 (at2 c (x:Int) ((y:Int)-1))) rfl (by kernel_rfl) (by kernel_rfl) (by kernel_rfl) (Or.inl ⟨by rfl,fun W hW=>?_⟩) ?_
        .go_simp;exact HC.o _ _ W i1 i4 hW.1
        try simp only[Act.put,qJ,qK,qL]
        refine zaj (i:=13) (v:=?v12) rfl (by kernel_rfl) (by kernel_rfl) (by kernel_rfl) (MakesIf.yields (Or.inl ⟨by rfl,?hy12⟩)) ?_
        case hy12=>(intro w aa;(try dsimp only at aa);go_simp;try (with_reducible rfl))
        try simp only[Act.put,qJ,qK,qL]
        refine zaj (i:=14) (v:=?v13) rfl (by kernel_rfl) (by kernel_rfl) (by kernel_rfl) (MakesIf.yields (Or.inl ⟨by rfl,?hy13⟩)) ?_
        case hy13=>(intro w aa;(try dsimp only at aa);go_simp;try (with_reducible rfl))
        try simp only[Act.put,qJ,qK,qL]
        refine zaj (i:=15) (v:=?v14) rfl (by kernel_rfl) (by kernel_rfl) (by kernel_rfl) (MakesIf.yields (Or.inl ⟨by rfl,?hy14⟩)) ?_
        case hy14=>(intro w aa;(try dsimp only at aa);go_simp;try (with_reducible rfl))
        try simp only[Act.put,qJ,qK,qL]
        refine zaj (i:=16) (v:=?v15) rfl (by kernel_rfl) (by kernel_rfl) (by kernel_rfl) (MakesIf.yields (Or.inl ⟨by rfl,?hy15⟩)) ?_
        case hy15=>(intro w aa;(try dsimp only at aa);go_simp;try (with_reducible rfl))
        try simp only[Act.put,qJ,qK,qL]
        refine zaj (i:=17) (v:=?v16) rfl (by kernel_rfl) (by kernel_rfl) (by kernel_rfl) (MakesIf.yields (Or.inl ⟨by rfl,?hy16⟩)) ?_
        case hy16=>(intro w aa;(try dsimp only at aa);go_simp;try (with_reducible rfl))
        try simp only[Act.put,qJ,qK,qL]
        refine zaj (i:=18) (v:=.int .i64 (at2 c ((x:Int)-1) (y:Int))) rfl (by kernel_rfl) (by kernel_rfl) (by kernel_rfl) (Or.inl ⟨by rfl,fun W hW=>?_⟩) ?_
        .go_simp;exact HC.o _ _ W i3 i2 hW.1
        try simp only[Act.put,qJ,qK,qL]
        refine zaj (i:=19) (v:=?v17) rfl (by kernel_rfl) (by kernel_rfl) (by kernel_rfl) (MakesIf.yields (Or.inl ⟨by rfl,?hy17⟩)) ?_
        case hy17=>(intro w aa;(try dsimp only at aa);go_simp;try (with_reducible rfl))
        try simp only[Act.put,qJ,qK,qL]
        refine zaj (i:=20) (v:=?v18) rfl (by kernel_rfl) (by kernel_rfl) (by kernel_rfl) (MakesIf.yields (Or.inl ⟨by rfl,?hy18⟩)) ?_
        case hy18=>(intro w aa;(try dsimp only at aa);go_simp;try (with_reducible rfl))
        try simp only[Act.put,qJ,qK,qL]
        refine zaj (i:=21) (v:=?v19) rfl (by kernel_rfl) (by kernel_rfl) (by kernel_rfl) (MakesIf.yields (Or.inl ⟨by rfl,?hy19⟩)) ?_
        case hy19=>(intro w aa;(try dsimp only at aa);go_simp;try (with_reducible rfl))
        try simp only[Act.put,qJ,qK,qL]
        refine zaj (i:=22) (v:=?v20) rfl (by kernel_rfl) (by kernel_rfl) (by kernel_rfl) (MakesIf.yields (Or.inl ⟨by rfl,?hy20⟩)) ?_
        case hy20=>(intro w aa;(try dsimp only at aa);go_simp;try (with_reducible rfl))
        try simp only[Act.put,qJ,qK,qL]
        refine zaj (i:=23) (v:=.int .i64 (at2 c (x:Int) (y:Int))) rfl (by kernel_rfl) (by kernel_rfl) (by kernel_rfl) (Or.inl ⟨by rfl,fun W hW=>?_⟩) ?_
        .go_simp;exact HC.o _ _ W i1 i2 hW.1
        try simp only[Act.put,qJ,qK,qL]
        refine zaj (i:=24) (v:=?v21) rfl (by kernel_rfl) (by kernel_rfl) (by kernel_rfl) (MakesIf.yields (Or.inl ⟨by rfl,?hy21⟩)) ?_
        case hy21=>(intro w aa;(try dsimp only at aa);go_simp;try (with_reducible rfl))
        try simp only[Act.put,qJ,qK,qL]
        refine zaj (i:=25) (v:=?v22) rfl (by kernel_rfl) (by kernel_rfl) (by kernel_rfl) (MakesIf.yields (Or.inl ⟨by rfl,?hy22⟩)) ?_
        case hy22=>(intro w aa;(try dsimp only at aa);go_simp;try (with_reducible rfl))
        try simp only[Act.put,qJ,qK,qL]
        refine zaj (i:=26) (v:=?v23) rfl (by kernel_rfl) (by kernel_rfl) (by kernel_rfl) (MakesIf.yields (Or.inl ⟨by rfl,?hy23⟩)) ?_
        case hy23=>(intro w aa;(try dsimp only at aa);go_simp;try (with_reducible rfl))
        try simp only[Act.put,qJ,qK,qL]
        refine zaj (i:=27) (v:=?v24) rfl (by kernel_rfl) (by kernel_rfl) (by kernel_rfl) (MakesIf.yields (Or.inl ⟨by rfl,?hy24⟩)) ?_
        case hy24=>(intro w aa;(try dsimp only at aa);go_simp;try (with_reducible rfl))
        try simp only[Act.put,qJ,qK,qL]
        refine ziQ (by kernel_rfl) (fun w' hT=>?_)
        refine NoPanic.normal ?_
        have ao:=qG (af.o.next hT)
        clear hT HC H3 i1 i2 i3 i4 ba bV
        generalize at2 c ((x:Int)-1) ((y:Int)-1)=pa at *
        generalize at2 c (x:Int) ((y:Int)-1)=pb at *
        generalize at2 c ((x:Int)-1) (y:Int)=pd at *
        generalize at2 c (x:Int) (y:Int)=pf at *
        obtain⟨u,hu⟩:∃ u,u=cutB pb pa:=⟨_,rfl⟩
        obtain⟨r,aq⟩:∃ r,r=cutB pf pb:=⟨_,rfl⟩
        obtain⟨d,hd⟩:∃ d,d=cutB pd pf:=⟨_,rfl⟩
        obtain⟨le,hle⟩:∃ le,le=cutB pa pd:=⟨_,rfl⟩
        rw[<- hu] at aL
        rw[<- aq] at bh
        rw[<- hd] at aM
        rw[<- hle] at bi
        have HU:=qG hu
        have HR:=qG aq
        have HD:=qG hd
        have ax:=qG hle
        clear hu aq hd hle
        generalize w'=W5 at *
        have n14:=nxA W5 (.cells #[.int .i64 pa,.int .i64 pb,.int .i64 pf,.int .i64 pd] 366)
        have n15:=nxA (W5.alloc (.cells #[.int .i64 pa,.int .i64 pb,.int .i64 pf,.int .i64 pd] 366)) (.cells #[.bool false,.bool false,.bool false,.bool false] 367)
        have x14:=(Bx.new W5 #[.int .i64 pa,.int .i64 pb,.int .i64 pf,.int .i64 pd] 366).next n15
        have x15:=Bx.new (W5.alloc (.cells #[.int .i64 pa,.int .i64 pb,.int .i64 pf,.int .i64 pd] 366)) #[.bool false,.bool false,.bool false,.bool false] 367
        simp only[World.size_alloc] at x15
        obtain⟨g14,ay⟩:∃ g,g=W5.heap.size:=⟨_,rfl⟩
        obtain⟨W6,aF⟩:∃ W',W'=(W5.alloc (.cells #[.int .i64 pa,.int .i64 pb,.int .i64 pf,.int .i64 pd] 366)).alloc (.cells #[.bool false,.bool false,.bool false,.bool false] 367):=⟨_,rfl⟩
        have bL:=qG (show RPi c bm gp w l b2 j2 s2 g14 (g14+1) pa pb pf pd u r d le 0 (.int .i64 0) W6 from by
         have h1:=ao.o.o.lt
         have h2:=ao.o.p.lt
         have h3:=ao.o.pic.lt
         have h4:=ao.o.x.lt
         refine⟨by omega,rfl,by rw[aF];exact(ao.o.next n14).next n15,by rw[aF,ay];exact x14,by rw[aF,ay];exact x15,?_⟩
         omega)
        go_wp2_with fail
        rw[<- aF,<- ay]
        clear aF ay n14 n15 x14 x15 ao
        have HM:=qG (show zcv u r d le 4=manyP c (x:Int) (y:Int) from by rw[bK.o,aL.o,bh.o,aM.o,bi.o];rfl)
        refine zfV lnM4 (fun g W'=>∃ i:Nat,g 95=.int .i64 (i:Int)/\RPi c bm gp w l b2 j2 s2 g14 (g14+1) pa pb pf pd u r d le i (g 16) W') (fun g _=>4-(intOf (g 95)).toNat) (by kernel_rfl) ⟨0,zae rfl,by rw[zae rfl];exact bL.o⟩ ?_
        .intro fi wr hrel
         obtain⟨i,e95,ab⟩:=hrel
         have e16:=ab.m
         rw[e16] at ab
         simp only[lnM4,mixF,e95,e16]
         have ac:=qG e95
         clear e95 e16
         have hi:=ab.hi
         have b7:=zn4 u r d le i
         have bM:IntKind.i64.wrap (zcv u r d le i+1)=zcv u r d le i+1:=qF _ (by omega)
         generalize wr=W7 at *
         rcases(by omega:i=0\/i=1\/i=2\/i=3\/i=4) with rfl|rfl|rfl|rfl|rfl
         .have HI:=qG ab
          have t0:=ab.x14.c 0 _ rfl
          have t1:=ab.x14.c 1 _ rfl
          have t2:=ab.x14.c 2 _ rfl
          have t3:=ab.x14.c 3 _ rfl
          have s0:=ab.x15.fr 0
          have s1:=ab.x15.c 0 _ rfl
          have bj:∀ W:World,(Instr.index 366 (.agg #[.int .i64 pa,.int .i64 pb,.int .i64 pf,.int .i64 pd]) (.int .i64 0)).run Tryz.prog W=.ok (.int .i64 pa) W:=fun W=>by kernel_rfl
          clear ab
          by_cases h1:pb=pa
          .have HN:=qG (HI.o.no (by omega) (by show u=false;rw[HU.o];unfold cutB;simp;omega))
           have e1:(pb==pa)=true:=by simp[h1]
           have e1b:(pb !=pa)=false:=by simp[h1]
           clear h1
           clear HI
           go_wp2_with fail
           refine endM (by kernel_rfl) (by kernel_rfl) ⟨1,zae rfl,by rw[zae rfl];exact HN.o⟩ ?_
           show 4-(intOf (zar _ 95)).toNat<4-(intOf (fi 95)).toNat
           rw[zae rfl,ac.o]
           decide
          .have e1:(pb==pa)=false:=by simp[h1]
           have e1b:(pb !=pa)=true:=by simp[h1]
           by_cases h2:pb=-1
           .have HN:=qG (HI.o.no (by omega) (by show u=false;rw[HU.o];unfold cutB;simp;omega))
            have e2:(pb==-1)=true:=by simp[h2]
            have e2b:(pb !=-1)=false:=by simp[h2]
            clear h1 h2
            clear HI
            go_wp2_with fail
            refine endM (by kernel_rfl) (by kernel_rfl) ⟨1,zae rfl,by rw[zae rfl];exact HN.o⟩ ?_
            show 4-(intOf (zar _ 95)).toNat<4-(intOf (fi 95)).toNat
            rw[zae rfl,ac.o]
            decide
           .have e2:(pb==-1)=false:=by simp[h2]
            have e2b:(pb !=-1)=true:=by simp[h2]
            by_cases h3:pa=-1
            .have HN:=qG (HI.o.no (by omega) (by show u=false;rw[HU.o];unfold cutB;simp;omega))
             have e3:(pa==-1)=true:=by simp[h3]
             have e3b:(pa !=-1)=false:=by simp[h3]
             clear h1 h2 h3
             clear HI
             go_wp2_with fail
             refine endM (by kernel_rfl) (by kernel_rfl) ⟨1,zae rfl,by rw[zae rfl];exact HN.o⟩ ?_
             show 4-(intOf (zar _ 95)).toNat<4-(intOf (fi 95)).toNat
             rw[zae rfl,ac.o]
             decide
            .have e3:(pa==-1)=false:=by simp[h3]
             have e3b:(pa !=-1)=true:=by simp[h3]
             have HN:=qG (HI.o.yes (by omega) (by show u=true;rw[HU.o];unfold cutB;simp;omega))
             clear HI h1 h2 h3
             go_wp2_with fail
             refine endM (by kernel_rfl) (by kernel_rfl) ⟨1,zae rfl,by rw[zae rfl];exact HN.o⟩ ?_
             show 4-(intOf (zar _ 95)).toNat<4-(intOf (fi 95)).toNat
             rw[zae rfl,ac.o]
             decide
         .have HI:=qG ab
          have t0:=ab.x14.c 0 _ rfl
          have t1:=ab.x14.c 1 _ rfl
          have t2:=ab.x14.c 2 _ rfl
          have t3:=ab.x14.c 3 _ rfl
          have s0:=ab.x15.fr 1
          have s1:=ab.x15.c 1 _ rfl
          have bj:∀ W:World,(Instr.index 366 (.agg #[.int .i64 pa,.int .i64 pb,.int .i64 pf,.int .i64 pd]) (.int .i64 1)).run Tryz.prog W=.ok (.int .i64 pb) W:=fun W=>by kernel_rfl
          clear ab
          by_cases h1:pf=pb
          .have HN:=qG (HI.o.no (by omega) (by show r=false;rw[HR.o];unfold cutB;simp;omega))
           have e1:(pf==pb)=true:=by simp[h1]
           have e1b:(pf !=pb)=false:=by simp[h1]
           clear h1
           clear HI
           go_wp2_with fail
           refine endM (by kernel_rfl) (by kernel_rfl) ⟨2,zae rfl,by rw[zae rfl];exact HN.o⟩ ?_
           show 4-(intOf (zar _ 95)).toNat<4-(intOf (fi 95)).toNat
           rw[zae rfl,ac.o]
           decide
          .have e1:(pf==pb)=false:=by simp[h1]
           have e1b:(pf !=pb)=true:=by simp[h1]
           by_cases h2:pf=-1
           .have HN:=qG (HI.o.no (by omega) (by show r=false;rw[HR.o];unfold cutB;simp;omega))
            have e2:(pf==-1)=true:=by simp[h2]
            have e2b:(pf !=-1)=false:=by simp[h2]
            clear h1 h2
            clear HI
            go_wp2_with fail
            refine endM (by kernel_rfl) (by kernel_rfl) ⟨2,zae rfl,by rw[zae rfl];exact HN.o⟩ ?_
            show 4-(intOf (zar _ 95)).toNat<4-(intOf (fi 95)).toNat
            rw[zae rfl,ac.o]
            decide
           .have e2:(pf==-1)=false:=by simp[h2]
            have e2b:(pf !=-1)=true:=by simp[h2]
            by_cases h3:pb=-1
            .have HN:=qG (HI.o.no (by omega) (by show r=false;rw[HR.o];unfold cutB;simp;omega))
             have e3:(pb==-1)=true:=by simp[h3]
             have e3b:(pb !=-1)=false:=by simp[h3]
             clear h1 h2 h3
             clear HI
             go_wp2_with fail
             refine endM (by kernel_rfl) (by kernel_rfl) ⟨2,zae rfl,by rw[zae rfl];exact HN.o⟩ ?_
             show 4-(intOf (zar _ 95)).toNat<4-(intOf (fi 95)).toNat
             rw[zae rfl,ac.o]
             decide
            .have e3:(pb==-1)=false:=by simp[h3]
             have e3b:(pb !=-1)=true:=by simp[h3]
             have HN:=qG (HI.o.yes (by omega) (by show r=true;rw[HR.o];unfold cutB;simp;omega))
             clear HI h1 h2 h3
             go_wp2_with fail
             refine endM (by kernel_rfl) (by kernel_rfl) ⟨2,zae rfl,by rw[zae rfl];exact HN.o⟩ ?_
             show 4-(intOf (zar _ 95)).toNat<4-(intOf (fi 95)).toNat
             rw[zae rfl,ac.o]
             decide
         .have HI:=qG ab
          have t0:=ab.x14.c 0 _ rfl
          have t1:=ab.x14.c 1 _ rfl
          have t2:=ab.x14.c 2 _ rfl
          have t3:=ab.x14.c 3 _ rfl
          have s0:=ab.x15.fr 2
          have s1:=ab.x15.c 2 _ rfl
          have bj:∀ W:World,(Instr.index 366 (.agg #[.int .i64 pa,.int .i64 pb,.int .i64 pf,.int .i64 pd]) (.int .i64 2)).run Tryz.prog W=.ok (.int .i64 pf) W:=fun W=>by kernel_rfl
          clear ab
          by_cases h1:pd=pf
          .have HN:=qG (HI.o.no (by omega) (by show d=false;rw[HD.o];unfold cutB;simp;omega))
           have e1:(pd==pf)=true:=by simp[h1]
           have e1b:(pd !=pf)=false:=by simp[h1]
           clear h1
           clear HI
           go_wp2_with fail
           refine endM (by kernel_rfl) (by kernel_rfl) ⟨3,zae rfl,by rw[zae rfl];exact HN.o⟩ ?_
           show 4-(intOf (zar _ 95)).toNat<4-(intOf (fi 95)).toNat
           rw[zae rfl,ac.o]
           decide
          .have e1:(pd==pf)=false:=by simp[h1]
           have e1b:(pd !=pf)=true:=by simp[h1]
           by_cases h2:pd=-1
           .have HN:=qG (HI.o.no (by omega) (by show d=false;rw[HD.o];unfold cutB;simp;omega))
            have e2:(pd==-1)=true:=by simp[h2]
            have e2b:(pd !=-1)=false:=by simp[h2]
            clear h1 h2
            clear HI
            go_wp2_with fail
            refine endM (by kernel_rfl) (by kernel_rfl) ⟨3,zae rfl,by rw[zae rfl];exact HN.o⟩ ?_
            show 4-(intOf (zar _ 95)).toNat<4-(intOf (fi 95)).toNat
            rw[zae rfl,ac.o]
            decide
           .have e2:(pd==-1)=false:=by simp[h2]
            have e2b:(pd !=-1)=true:=by simp[h2]
            by_cases h3:pf=-1
            .have HN:=qG (HI.o.no (by omega) (by show d=false;rw[HD.o];unfold cutB;simp;omega))
             have e3:(pf==-1)=true:=by simp[h3]
             have e3b:(pf !=-1)=false:=by simp[h3]
             clear h1 h2 h3
             clear HI
             go_wp2_with fail
             refine endM (by kernel_rfl) (by kernel_rfl) ⟨3,zae rfl,by rw[zae rfl];exact HN.o⟩ ?_
             show 4-(intOf (zar _ 95)).toNat<4-(intOf (fi 95)).toNat
             rw[zae rfl,ac.o]
             decide
            .have e3:(pf==-1)=false:=by simp[h3]
             have e3b:(pf !=-1)=true:=by simp[h3]
             have HN:=qG (HI.o.yes (by omega) (by show d=true;rw[HD.o];unfold cutB;simp;omega))
             clear HI h1 h2 h3
             go_wp2_with fail
             refine endM (by kernel_rfl) (by kernel_rfl) ⟨3,zae rfl,by rw[zae rfl];exact HN.o⟩ ?_
             show 4-(intOf (zar _ 95)).toNat<4-(intOf (fi 95)).toNat
             rw[zae rfl,ac.o]
             decide
         .have HI:=qG ab
          have t0:=ab.x14.c 0 _ rfl
          have t1:=ab.x14.c 1 _ rfl
          have t2:=ab.x14.c 2 _ rfl
          have t3:=ab.x14.c 3 _ rfl
          have s0:=ab.x15.fr 3
          have s1:=ab.x15.c 3 _ rfl
          have bj:∀ W:World,(Instr.index 366 (.agg #[.int .i64 pa,.int .i64 pb,.int .i64 pf,.int .i64 pd]) (.int .i64 3)).run Tryz.prog W=.ok (.int .i64 pd) W:=fun W=>by kernel_rfl
          clear ab
          by_cases h1:pa=pd
          .have HN:=qG (HI.o.no (by omega) (by show le=false;rw[ax.o];unfold cutB;simp;omega))
           have e1:(pa==pd)=true:=by simp[h1]
           have e1b:(pa !=pd)=false:=by simp[h1]
           clear h1
           clear HI
           go_wp2_with fail
           refine endM (by kernel_rfl) (by kernel_rfl) ⟨4,zae rfl,by rw[zae rfl];exact HN.o⟩ ?_
           show 4-(intOf (zar _ 95)).toNat<4-(intOf (fi 95)).toNat
           rw[zae rfl,ac.o]
           decide
          .have e1:(pa==pd)=false:=by simp[h1]
           have e1b:(pa !=pd)=true:=by simp[h1]
           by_cases h2:pa=-1
           .have HN:=qG (HI.o.no (by omega) (by show le=false;rw[ax.o];unfold cutB;simp;omega))
            have e2:(pa==-1)=true:=by simp[h2]
            have e2b:(pa !=-1)=false:=by simp[h2]
            clear h1 h2
            clear HI
            go_wp2_with fail
            refine endM (by kernel_rfl) (by kernel_rfl) ⟨4,zae rfl,by rw[zae rfl];exact HN.o⟩ ?_
            show 4-(intOf (zar _ 95)).toNat<4-(intOf (fi 95)).toNat
            rw[zae rfl,ac.o]
            decide
           .have e2:(pa==-1)=false:=by simp[h2]
            have e2b:(pa !=-1)=true:=by simp[h2]
            by_cases h3:pd=-1
            .have HN:=qG (HI.o.no (by omega) (by show le=false;rw[ax.o];unfold cutB;simp;omega))
             have e3:(pd==-1)=true:=by simp[h3]
             have e3b:(pd !=-1)=false:=by simp[h3]
             clear h1 h2 h3
             clear HI
             go_wp2_with fail
             refine endM (by kernel_rfl) (by kernel_rfl) ⟨4,zae rfl,by rw[zae rfl];exact HN.o⟩ ?_
             show 4-(intOf (zar _ 95)).toNat<4-(intOf (fi 95)).toNat
             rw[zae rfl,ac.o]
             decide
            .have e3:(pd==-1)=false:=by simp[h3]
             have e3b:(pd !=-1)=true:=by simp[h3]
             have HN:=qG (HI.o.yes (by omega) (by show le=true;rw[ax.o];unfold cutB;simp;omega))
             clear HI h1 h2 h3
             go_wp2_with fail
             refine endM (by kernel_rfl) (by kernel_rfl) ⟨4,zae rfl,by rw[zae rfl];exact HN.o⟩ ?_
             show 4-(intOf (zar _ 95)).toNat<4-(intOf (fi 95)).toNat
             rw[zae rfl,ac.o]
             decide
         .have HI:=qG ab
          have bN:At W7 W7.heap.size 1 zad (some ⟨g14,0,none⟩) [pa,pb,pf,pd]:=zqr ab.x14
          have bO:=qG bN
          rw[HM.o] at b7 bM ⊢
          have b8:=ab.x15.c 0 _ rfl
          have cb:=ab.x15.c 2 _ rfl
          have o1:=ab.ln.o.c 1 _ rfl
          have o2:=ab.ln.o.c 2 _ rfl
          have o3:=ab.ln.o.c 3 _ rfl
          have f1:=ab.ln.o.fr 1
          have f2:=ab.ln.o.fr 2
          have f3:=ab.ln.o.fr 3
          change W7.cell? ⟨g14+1,0,none⟩=some (.bool u) at b8
          change W7.cell? ⟨g14+1,2,none⟩=some (.bool d) at cb
          rw[aL.o,aM.o] at ag
          clear ab bN bK aL bh aM bi HU HR HD ax bL HM bM
          generalize manyP c (x:Int) (y:Int)=mm at *
          have cB:IntKind.i64.wrap (s2+mm)=s2+mm:=qF _ (by omega)
          go_wp2_with fail
          refine(zhM (-1) (some ⟨g14,0,none⟩) 4 [pa,pb,pf,pd] W7 bO.o (by simp)).mono ?_
          rintro e w' ⟨rfl,rfl⟩
          rw[bf.o]
          generalize edgeP c (x:Int) (y:Int)=ed at *
          clear bf bO
          cases ed
          .by_cases aN:2<mm
           .have HN:=qG (ah.o _ b2 (j2+1) s2 (by rw[ag.o];simp[aN]) (by rw[aj.o];simp[aN]) (by rw[ai.o];simp) (HI.o.ln.set2 (j2+1)))
            clear ah ag aj ai
            go_wp2_with fail
            refine endM (by kernel_rfl) (by kernel_rfl) (by show RP4 c bm gp w l y (zar _ 9) _;rw[zae rfl];exact HN.o) ?_
            show W c+1-(intOf (zar _ 9)).toNat<W c+1-(intOf (f9 9)).toNat
            rw[zae rfl,ar.o]
            have:=ak.o
            simp[intOf]
            omega
           .by_cases aO:mm=2
            .subst aO
             cases u <;> cases d
             .have HN:=qG (ah.o _ b2 j2 s2 (by rw[ag.o];simp) (by rw[aj.o];simp) (by rw[ai.o];simp) HI.o.ln)
              clear ah ag aj ai
              go_wp2_with fail
              refine endM (by kernel_rfl) (by kernel_rfl) (by show RP4 c bm gp w l y (zar _ 9) _;rw[zae rfl];exact HN.o) ?_
              show W c+1-(intOf (zar _ 9)).toNat<W c+1-(intOf (f9 9)).toNat
              rw[zae rfl,ar.o]
              have:=ak.o
              simp[intOf]
              omega
             .have HN:=qG (ah.o _ (b2+1) j2 s2 (by rw[ag.o];simp) (by rw[aj.o];simp) (by rw[ai.o];simp) (HI.o.ln.set1 (b2+1)))
              clear ah ag aj ai
              go_wp2_with fail
              refine endM (by kernel_rfl) (by kernel_rfl) (by show RP4 c bm gp w l y (zar _ 9) _;rw[zae rfl];exact HN.o) ?_
              show W c+1-(intOf (zar _ 9)).toNat<W c+1-(intOf (f9 9)).toNat
              rw[zae rfl,ar.o]
              have:=ak.o
              simp[intOf]
              omega
             .have HN:=qG (ah.o _ (b2+1) j2 s2 (by rw[ag.o];simp) (by rw[aj.o];simp) (by rw[ai.o];simp) (HI.o.ln.set1 (b2+1)))
              clear ah ag aj ai
              go_wp2_with fail
              refine endM (by kernel_rfl) (by kernel_rfl) (by show RP4 c bm gp w l y (zar _ 9) _;rw[zae rfl];exact HN.o) ?_
              show W c+1-(intOf (zar _ 9)).toNat<W c+1-(intOf (f9 9)).toNat
              rw[zae rfl,ar.o]
              have:=ak.o
              simp[intOf]
              omega
             .have HN:=qG (ah.o _ b2 j2 s2 (by rw[ag.o];simp) (by rw[aj.o];simp) (by rw[ai.o];simp) HI.o.ln)
              clear ah ag aj ai
              go_wp2_with fail
              refine endM (by kernel_rfl) (by kernel_rfl) (by show RP4 c bm gp w l y (zar _ 9) _;rw[zae rfl];exact HN.o) ?_
              show W c+1-(intOf (zar _ 9)).toNat<W c+1-(intOf (f9 9)).toNat
              rw[zae rfl,ar.o]
              have:=ak.o
              simp[intOf]
              omega
            .have e3:(mm==2)=false:=by simp[aO]
             have HN:=qG (ah.o _ b2 j2 s2 (by rw[ag.o];simp[aN,aO]) (by rw[aj.o];simp[aN]) (by rw[ai.o];simp) HI.o.ln)
             clear ah ag aj ai aO
             go_wp2_with fail
             refine endM (by kernel_rfl) (by kernel_rfl) (by show RP4 c bm gp w l y (zar _ 9) _;rw[zae rfl];exact HN.o) ?_
             show W c+1-(intOf (zar _ 9)).toNat<W c+1-(intOf (f9 9)).toNat
             rw[zae rfl,ar.o]
             have:=ak.o
             simp[intOf]
             omega
          .have HN:=qG (ah.o _ b2 j2 (s2+mm) (by rw[ag.o];simp) (by rw[aj.o];simp) (by rw[ai.o];simp) (HI.o.ln.set3 (s2+mm)))
           clear ah ag aj ai
           go_wp2_with fail
           refine endM (by kernel_rfl) (by kernel_rfl) (by show RP4 c bm gp w l y (zar _ 9) _;rw[zae rfl];exact HN.o) ?_
           show W c+1-(intOf (zar _ 9)).toNat<W c+1-(intOf (f9 9)).toNat
           rw[zae rfl,ar.o]
           have:=ak.o
           simp[intOf]
           omega
       .have bU:¬(x:Int)<=c.wide:=by omega
        have aP:x=W c+1:=by omega
        have HF:=qG (show RP3 c bm gp w l (.int .i64 ((y:Int)+1)) W4 from⟨y+1,b2,j2,s2,by omega,rfl,by rw[bG.o,aP];rfl,by rw[bH.o,aP];rfl,by rw[bI.o,aP];rfl,af.o⟩)
        clear aP bJ aE ba
        go_wp2_with fail
        refine endM (by kernel_rfl) (by kernel_rfl) (by show RP3 c bm gp w l (zar _ 8) _;rw[zae rfl];exact HF.o) ?_
        show H c+1-(intOf (zar _ 8)).toNat<H c+1-(intOf (f8 8)).toNat
        rw[zae rfl,bZ.o]
        have:=bT.o
        simp[intOf]
        omega
     .have bS:¬(y:Int)<=c.high:=by omega
      have aQ:y=H c+1:=by omega
      have cd:=qG (show b=zcu c (zco c) from by rw[bD.o,aQ];rfl)
      have cf:=qG (show j=zcu c (zbS c) from by rw[bE.o,aQ];rfl)
      have cg:=qG (show s=zcu c (zbR c) from by rw[bF.o,aQ];rfl)
      have d0:=ae.o.o.c 0 _ rfl
      have d1:=ae.o.o.c 1 _ rfl
      have d2:=ae.o.o.c 2 _ rfl
      have d3:=ae.o.o.c 3 _ rfl
      have f0:=ae.o.o.fr 0
      have f1:=ae.o.o.fr 1
      have f2:=ae.o.o.fr 2
      have f3:=ae.o.o.fr 3
      have aH:=qG (zmK (ae.o.o.setAll [.int .i64 l,.int .i64 b,.int .i64 j,.int .i64 s] rfl))
      have aU:=qG (zac (b:=w.heap.size+1) (B:=w.heap.size) (by omega) [.int .i64 l,.int .i64 b,.int .i64 j,.int .i64 s] 0 ae.o.b)
      clear aQ aE
      go_wp2_with fail
      ((try simp only[Exit.inBlock,Exit.then]);refine bodyPost_ret (zah rfl rfl aH.o) rfl ?_)
      exact zgI (by rw[aS.o,if_pos bu.o,cd.o,cf.o,cg.o]) bu.o aU.o
   .have aK:=aq.rlt
    have hv:edgesR c p.2 p.1=v/\0<v:=by
     unfold edgO posO at hf
     split at hf
     .split at hf
      .injection hf with hf
       omega
      .cases hf
     .cases hf
    have cC:=zoJ HG.o.ok (a:=p.2) (b:=p.1) (by omega)
    have hlt:=zj3 HG.o.ok p.2 p.1
    have ci:=zp7 HG.o.ok done
    have aC:=qG (show LnP c bm gp w W2 (lenD c done) 0 0 0 from hr.ln.grow bC a7.o.1)
    have bP:=qG aq
    have bk:=qG (show cnt2<zdI be rr W1 from by rw[hr.rg.left];exact a9)
    have hn:=nxA W2 (.cells #[.int .i64 p.1,.int .i64 p.2] 365)
    have af:=qG (aC.o.next hn)
    have aG:=qG (bP.o.next_ hn)
    have au:=qG (fun h=>zoh (c:=c) (D:=done) (p:=p) bB h ⟨by omega,by omega⟩)
    have an:=qG (fun h=>zmP (c:=c) (D:=done) (p:=p) h (by omega))
    have HV:=qG hv.1
    unfold kv2 vvI at bA hent
    obtain⟨l0,bp⟩:∃ l0,l0=lenD c done:=⟨_,rfl⟩
    rw[<- bp] at af ci au an
    have b0:IntKind.i64.wrap (l0+v)=l0+v:=qF _ (by omega)
    have x6:=Bx.new W2 #[.int .i64 p.1,.int .i64 p.2] 365
    have k0:=af.o.o.c 0 _ rfl
    have k1:=af.o.o.fr 0
    clear hr hf bB aq a9 bC bY hn hv bp aK aC bP
    by_cases hA:p.1=-1
    .have e1:(p.1==-1)=true:=by simp[hA]
     have e1':(p.1 !=-1)=false:=by simp[hA]
     have HS:=qG (an.o (fun h=>h.1 hA))
     have z0:=x6.c 0 _ rfl
     clear au an hA x6
     go_wp2_with fail
     refine⟨⟨_,_,⟨by rw[HS.o];exact af.o,aG.o⟩⟩,?_⟩
     rw[aG.o.left]
     exact bk.o
    .have e1:(p.1==-1)=false:=by simp[hA]
     have e1':(p.1 !=-1)=true:=by simp[hA]
     by_cases hC:p.1<p.2
     .have HS:=qG (au.o ⟨hA,hC⟩)
      have z0:=x6.c 0 _ rfl
      have z1:=x6.c 1 _ rfl
      have bQ:=qG (aG.o.grown (zlN _ (w.heap.size+1) 0 (.int .i64 (l0+v))) (fun e=>a7.o.2 (by injection e)) (fun e=>a7.o.1.1 (by injection e)))
      have ao:=qG (af.o.set0 (l0+v))
      clear au an hA x6
      go_wp2_with fail
      refine⟨⟨_,_,⟨by rw[HS.o,HV.o];exact ao.o,bQ.o⟩⟩,?_⟩
      rw[bQ.o.left]
      exact bk.o
     .have HS:=qG (an.o (fun h=>hC h.2))
      have z0:=x6.c 0 _ rfl
      have z1:=x6.c 1 _ rfl
      clear au an hA x6
      go_wp2_with fail
      refine⟨⟨_,_,⟨by rw[HS.o];exact af.o,aG.o⟩⟩,?_⟩
      rw[aG.o.left]
      exact bk.o
end Cu
end Go.Proofs.YtankkcbofgighaaGreatDoor
