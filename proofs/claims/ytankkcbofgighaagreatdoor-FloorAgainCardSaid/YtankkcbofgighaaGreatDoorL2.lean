import Derived.Test.YtankkcbofgighaaGreatDoorL1
import Derived.WalkKit
import Derived.Test.YtankkcbofgighaaGreatDoorRows
import Derived.WalkSpells
import Derived.WalkLawsBesides
import Derived.Lib.Hide
import Derived.BigQuiet
import Derived.Deep.QuietTactic
import Derived.Lib.ItoaNum
import Derived.Lib.AtoiAll
import Derived.Lib.SplitLaws
import Derived.Lib.Join
set_option linter.all false
set_option maxRecDepth 100000
set_option maxHeartbeats 40000000
namespace Go.Proofs.YtankkcbofgighaaGreatDoor
namespace Cu
structure Cut where
 wide:Int
 high:Int
 piece:List Int
 A:Option Addr
 c:Nat
def inS(n a b:Int):Bool:=decide (a<=n/\n<=b)
def cutS(c:Cut):Bool:=inS c.wide 1 12&&(inS c.high 1 12&&(decide ((c.piece.length:Int)=c.wide*c.high)&&c.piece.all (fun x=>inS x 0 39)))
def isIn(c:Cut)(x y:Int):Bool:=inS x 0 (c.wide-1)&&inS y 0 (c.high-1)
def at2(c:Cut)(x y:Int):Int:=if isIn c x y=true then c.piece.getD (y*c.wide+x).toNat 0 else -1
def za0(x y:Int):List (Int×Int):=[(x-1,y),(x+1,y),(x,y-1),(x,y+1)]
inductive Reach(c:Cut):Int×Int->Int×Int->Prop
|refl (p):Reach c p p
|step {p q r}:Reach c p q->r∈za0 q.1 q.2->at2 c r.1 r.2=at2 c q.1 q.2->Reach c p r
def Whole(c:Cut)(k:Int):Prop:=∀ p q:Int×Int,isIn c p.1 p.2=true->isIn c q.1 q.2=true->at2 c p.1 p.2=k->at2 c q.1 q.2=k->Reach c p q
def zbh(c:Cut)(k:Int):Nat:=c.piece.countP (fun x=>x==k)
def zag(c:Cut):Int:=c.piece.foldl max 0
open Classical in
noncomputable def checkS(c:Cut):Int×Int:=
 if cutS c=false then(0,1)
 else match(List.range (zag c).toNat).find? (fun k:Nat=>zbh c (k:Int)==0) with
 |some k=>((k:Int),4)
 |none=>match(List.range ((zag c).toNat+1)).find? (fun k:Nat=>decide (¬ Whole c (k:Int))) with
  |some k=>((k:Int),6)
  |none=>(zag c+1,0)
def zai(f:Nat->Int):Nat->Int
|0=>0
|n+1=>zai f n+f n
def zfC(c:Cut)(x y:Int):Int:=at2 c (x-1) (y-1)
def zfB(c:Cut)(x y:Int):Int:=at2 c x (y-1)
def zfz(c:Cut)(x y:Int):Int:=at2 c x y
def zfA(c:Cut)(x y:Int):Int:=at2 c (x-1) y
def cutB(m k:Int):Bool:=decide (m≠k/\m≠-1/\k≠-1)
def upB(c:Cut)(x y:Int):Bool:=cutB (zfB c x y) (zfC c x y)
def zeP(c:Cut)(x y:Int):Bool:=cutB (zfz c x y) (zfB c x y)
def zex(c:Cut)(x y:Int):Bool:=cutB (zfA c x y) (zfz c x y)
def zgU(c:Cut)(x y:Int):Bool:=cutB (zfC c x y) (zfA c x y)
def b2i(b:Bool):Int:=if b=true then 1 else 0
def manyP(c:Cut)(x y:Int):Int:=b2i (upB c x y)+b2i (zeP c x y)+b2i (zex c x y)+b2i (zgU c x y)
def edgeP(c:Cut)(x y:Int):Bool:=decide (zfC c x y=-1\/zfB c x y=-1\/zfz c x y=-1\/zfA c x y=-1)
def zbR(c:Cut)(x y:Int):Int:=if edgeP c x y=true then manyP c x y else 0
def zbS(c:Cut)(x y:Int):Int:=if edgeP c x y=true then 0 else if 2<manyP c x y then 1 else 0
def zco(c:Cut)(x y:Int):Int:=if edgeP c x y=true then 0 else if 2<manyP c x y then 0 else if manyP c x y=2/\upB c x y≠zex c x y then 1 else 0
def W(c:Cut):Nat:=c.wide.toNat
def H(c:Cut):Nat:=c.high.toNat
def zcu(c:Cut)(g:Int->Int->Int):Int:=zai (fun y=>zai (fun x=>g x y) (W c+1)) (H c+1)
def zb1(c:Cut)(x y a b:Int):Int:=if at2 c x y=a then b2i (at2 c (x-1) y==b)+b2i (at2 c (x+1) y==b)+b2i (at2 c x (y-1)==b)+b2i (at2 c x (y+1)==b) else 0
def edgesR(c:Cut)(a b:Int):Int:=zai (fun y=>zai (fun x=>zb1 c x y a b) (W c)) (H c)
def four:List (Fin 4):=[0,1,2,3]
noncomputable def openE(c:Cut)(piece:Int):Int:=if(checkS c).2≠0 then(checkS c).2 else if inS piece 0 (zag c)=true then 0 else 2
def jn(lo hi k:Int):Int:=if k=hi then lo else if hi<k then k-1 else k
noncomputable def zbb(c:Cut)(a b:Int):Int:=if openE c a≠0 then openE c a else if inS b 0 (zag c)=false\/a=b then 2 else if edgesR c b a=0 then 6 else 0
noncomputable def za6(c:Cut)(a b:Int):List Int:=if zbb c a b=0 then c.piece.map (jn (min a b) (max a b)) else[]
def lenS(c:Cut):Int:=zai (fun a=>zai (fun b=>edgesR c (a:Int) (b:Int)) a) ((zag c).toNat+1)
noncomputable def cutE(c:Cut):Int:=(checkS c).2
noncomputable def zan(c:Cut):Int×Int×Int×Int:=if cutE c=0 then(lenS c,zcu c (zco c),zcu c (zbS c),zcu c (zbR c)) else(0,0,0,0)
end Cu
namespace Ru
structure Blade where
 fl:Int
 fh:Int
 wl:Int
 wh:Int
def worstS(b:Blade)(x:Int):Int:=b.fh+b.wh*x
section
variable (bl:List Blade) (bound:Int) (cost:Nat->Int)
end
end Ru
namespace Ru
open Go.RowKit
def Ret(v:Value)(w:World)(e:Ending)(w':World):Prop:=e=.returned v/\Below w.heap.size w w'
def RetQ(v:Value)(w:World)(e:Ending)(w':World):Prop:=e=.returned v/\w=w'
theorem zng(a b:Bool):a=false\/(a=true/\b=false)\/(a=true/\b=true):=by cases a <;> cases b <;> simp
theorem zkg(a b c d:Bool):a=false\/(a=true/\b=false)\/(a=true/\b=true/\c=false)\/(a=true/\b=true/\c=true/\d=false)\/(a=true/\b=true/\c=true/\d=true):=by cases a <;> cases b <;> cases c <;> cases d <;> simp
theorem zbM{a b:Bool}{w:World}(h:a=b):RetQ (.bool b) w (.returned (.bool a)) w:=⟨by rw[h],rfl⟩
theorem zaA{a b:Bool}{w w':World}(h:a=b)(hb:Below w.heap.size w w'):Ret (.bool b) w (.returned (.bool a)) w':=⟨by rw[h],hb⟩
theorem zhi{W w1:World}(hb:Below W.heap.size W w1):(∀ b o,b<W.heap.size->w1.cell? ⟨b,o,none⟩=W.cell? ⟨b,o,none⟩)/\(∀ b o,b<W.heap.size->w1.frozen? ⟨b,o,none⟩=W.frozen? ⟨b,o,none⟩):=
 ⟨fun b o h=>hb.cell (p:=⟨b,o,none⟩) h,fun b o h=>hb.frozen (p:=⟨b,o,none⟩) h⟩
def At{α:Type}(w:World)(B size:Nat)(cells:α->List Value)(A:Option Addr)(l:List α):Prop:=
 ∀ k x,l[k]?=some x->∃ b off,A=some ⟨b,off,none⟩/\b<B/\∀ j u,(cells x)[j]?=some u->w.cell? ⟨b,off+k*size+j,none⟩=some u
theorem At.keep{α:Type}{w w':World}{B size:Nat}{cells:α->List Value}{A:Option Addr}{l:List α}(h:At w B size cells A l)
  (hk:∀ b o,b<B->w'.cell? ⟨b,o,none⟩=w.cell? ⟨b,o,none⟩):At w' B size cells A l:=fun k x hx=>by
 obtain⟨b,off,e,hb,hc⟩:=h k x hx
 exact⟨b,off,e,hb,fun j u hu=>(hk b _ hb).trans (hc j u hu)⟩
theorem At.below{α:Type}{w w':World}{B size:Nat}{cells:α->List Value}{A:Option Addr}{l:List α}(h:At w B size cells A l)
  (hb:Below B w w'):At w' B size cells A l:=h.keep fun b o hk=>hb.cell (p:=⟨b,o,none⟩) hk
theorem At.more{α:Type}{w:World}{B B' size:Nat}{cells:α->List Value}{A:Option Addr}{l:List α}(h:At w B size cells A l)
  (hb:B<=B'):At w B' size cells A l:=fun k x hx=>by
 obtain⟨b,off,e,hk,hc⟩:=h k x hx
 exact⟨b,off,e,qM hk hb,hc⟩
theorem zbO{α:Type}{l:List α}{p:α->Bool}{k:Nat}(hk:k<l.length)(h:(l.take k).all p=true)(hp:p l[k]=true):(l.take (k+1)).all p=true:=by
 rw[List.take_succ_eq_append_getElem hk];simp only[List.all_append,h,List.all_cons,hp,List.all_nil,Bool.and_self]
theorem zbP{α:Type}{l:List α}{p:α->Bool}{k:Nat}(hk:¬ k<l.length)(h:(l.take k).all p=true):l.all p=true:=by
 rw[List.take_of_length_le (by omega)] at h;exact h
def Blade.cells(b:Blade):List Value:=[.int .i64 b.fl,.int .i64 b.fh,.int .i64 b.wl,.int .i64 b.wh]
structure Die where
 blades:List Blade
 bound:Int
 stop:Int
 bend:Int
 A:Option Addr
 c:Nat
structure DieAt(w:World)(B:Nat)(d:Die):Prop where
 bl:At w B 4 Blade.cells d.A d.blades
 l1:d.blades.length<=9223372036854775807
theorem DieAt.below{w w':World}{B:Nat}{d:Die}(h:DieAt w B d)(hb:Below B w w'):DieAt w' B d:=⟨h.bl.below hb,h.l1⟩
theorem DieAt.more{w:World}{B B':Nat}{d:Die}(h:DieAt w B d)(hb:B<=B'):DieAt w B' d:=⟨h.bl.more hb,h.l1⟩
theorem DieAt.next{w w':World}{d:Die}(h:DieAt w w.heap.size d)(hb:Below w.heap.size w w'):DieAt w' w'.heap.size d:=(h.below hb).more hb.size
def inS(a b c:Int):Bool:=decide (b<=a/\a<=c)
def zc7(l h a b:Int):Bool:=decide (a<=l/\l<=h/\h<=b)
def Blade.ok(b:Blade):Bool:=zc7 b.fl b.fh 0 10000&&zc7 b.wl b.wh 0 10000
def dieS(d:Die):Bool:=d.blades.all Blade.ok&&(inS d.blades.length 1 5&&(inS d.bound 0 100000&&(inS d.stop 0 10000&&inS d.bend 0 10000)))
def bladeAt(d:Die)(k:Nat):Blade:=d.blades.getD k ⟨0,0,0,0⟩
structure OkB(b:Blade):Prop where
 f:0<=b.fl/\b.fl<=b.fh/\b.fh<=10000
 w:0<=b.wl/\b.wl<=b.wh/\b.wh<=10000
structure OkD(d:Die):Prop where
 nb:1<=d.blades.length/\d.blades.length<=5
 bl:∀ b∈d.blades,OkB b
 bound:0<=d.bound/\d.bound<=100000
 stop:0<=d.stop/\d.stop<=10000
 bend:0<=d.bend/\d.bend<=10000
theorem zkS(b:Blade):Blade.ok b=true↔OkB b:=by
 unfold Blade.ok zc7
 rw[Bool.and_eq_true,qC,qC]
 exact⟨fun h=>⟨h.1,h.2⟩,fun h=>⟨h.f,h.w⟩⟩
theorem zhA(d:Die):dieS d=true↔OkD d:=by
 unfold dieS inS
 simp only[Bool.and_eq_true,qC,List.all_eq_true]
 constructor
 .rintro⟨h1,h2,h3,h4,h5⟩
  exact⟨by omega,fun b hb=>(zkS b).1 (h1 b hb),h3,h4,h5⟩
 .intro h
  exact⟨fun b hb=>(zkS b).2 (h.bl b hb),by have:=h.nb;omega,h.bound,h.stop,h.bend⟩
theorem zkE{d:Die}{k:Nat}(hk:k<d.blades.length):bladeAt d k∈d.blades:=by
 unfold bladeAt;rw[qP,qN hk];exact List.getElem_mem hk
theorem zkF{d:Die}{k:Nat}(hk:k<d.blades.length):d.blades[k]?=some (bladeAt d k):=by
 unfold bladeAt;rw[qP,qN hk];rfl
theorem OkD.at{d:Die}(h:OkD d){k:Nat}(hk:k<d.blades.length):OkB (bladeAt d k):=h.bl _ (zkE hk)
def offLo(b:Blade)(x:Int):Int:=b.fl+b.wl*x
def offS(d:Die)(k x:Int):(Int×Int)×Int:=
 if dieS d=false then((0,0),1) else if inS k 0 (d.blades.length-1)=false\/inS x 0 7000=false then((0,0),2) else((offLo (bladeAt d k.toNat) x,worstS (bladeAt d k.toNat) x),0)
theorem zmC{a b A B:Int}(h1:0<=a)(h2:a<=A)(h3:0<=b)(h4:b<=B):0<=a*b/\a*b<=A*B:=⟨Int.mul_nonneg h1 h3,Int.mul_le_mul h2 h4 h3 (by omega)⟩
theorem OkB.off_bd{b:Blade}(h:OkB b){x:Int}(h1:0<=x)(h2:x<=7000):0<=b.wl*x/\b.wl*x<=b.wh*x/\0<=b.wh*x/\b.wh*x<=70000000/\b.wl*x<=70000000:=by
 have g1:=zmC h.w.1 (by have:=h.w;omega:b.wl<=10000) h1 h2
 have g2:=zmC (by have:=h.w;omega:0<=b.wh) h.w.2.2 h1 h2
 have g3:=Int.mul_le_mul_of_nonneg_right h.w.2.1 h1
 omega
end Ru
namespace Le
abbrev Tk:=Nat->Option Nat
def updT(T:Tk)(s:Nat)(v:Option Nat):Tk:=fun u=>if u=s then v else T u
def cntT(T:Tk)(r:Nat):Nat->Nat
|0=>0
|n+1=>cntT T r n+(if T n=some r then 1 else 0)
theorem zgu(T:Tk)(s:Nat)(v:Option Nat)(r:Nat):∀{n:Nat},(s<n->cntT (updT T s v) r n+(if T s=some r then 1 else 0)=cntT T r n+(if v=some r then 1 else 0))/\(n<=s->cntT (updT T s v) r n=cntT T r n)
|0=>⟨fun h=>by omega,fun _=>rfl⟩
|n+1=>by
  obtain⟨h1,h2⟩:=zgu T s v r (n:=n)
  show(s<n+1->cntT (updT T s v) r n+(if updT T s v n=some r then 1 else 0)+_=cntT T r n+(if T n=some r then 1 else 0)+_)/\(n+1<=s->cntT (updT T s v) r n+(if updT T s v n=some r then 1 else 0)=cntT T r n+(if T n=some r then 1 else 0))
  by_cases e:n=s
  .subst e
   have h3:updT T n v n=v:=if_pos rfl
   rw[h3,h2 (qQ _)]
   exact⟨fun _=>by omega,fun h=>by omega⟩
  .have h3:updT T s v n=T n:=if_neg e
   rw[h3]
   exact⟨fun h=>by have:=h1 (by omega);omega,fun h=>by rw[h2 (by omega)]⟩
theorem zgw{T:Tk}{r:Nat}:∀{n:Nat},0<cntT T r n->∃ s,s<n/\T s=some r
|n+1,h=>by
  have h:0<cntT T r n+(if T n=some r then 1 else 0):=h
  by_cases e:T n=some r
  .exact⟨n,by omega,e⟩
  .rw[if_neg e] at h
   obtain⟨s,hs,h2⟩:=zgw (n:=n) (by omega)
   exact⟨s,by omega,h2⟩
theorem zdz{T:Tk}{r s:Nat}:∀{n:Nat},s<n->T s=some r->1<=cntT T r n
|n+1,hs,h=>by
  show 1<=cntT T r n+(if T n=some r then 1 else 0)
  by_cases e:s=n
  .subst e;rw[if_pos h];omega
  .have:=zdz (n:=n) (by omega) h;omega
theorem zgv{T:Tk}{r s t:Nat}(hst:s<t):∀{n:Nat},t<n->T s=some r->T t=some r->2<=cntT T r n
|n+1,ht,h1,h2=>by
  show 2<=cntT T r n+(if T n=some r then 1 else 0)
  by_cases e:t=n
  .subst e
   rw[if_pos h2]
   have:=zdz (n:=t) hst h1;omega
  .have:=zgv hst (n:=n) (by omega) h1 h2;omega
theorem zkb{T:Tk}{r s t n:Nat}(hc:cntT T r n<=1)(hs:s<n)(ht:t<n)(h1:T s=some r)(h2:T t=some r):s=t:=by
 rcases Nat.lt_trichotomy s t with h|h|h
 .have:=zgv h ht h1 h2;omega
 .exact h
 .have:=zgv h hs h2 h1;omega
section
variable (R:Nat->List Nat)
def zlp(T:Tk)(Z:Nat->Prop):Prop:=∀ s,Z s->∃ r,T s=some r/\∀ u∈R r,Z u
structure GiveY(T T':Tk)(S S':Nat->Bool)(row n:Nat):Prop where
 cnt:∀ r,cntT T' r n=cntT T r n+(if r=row then 1 else 0)
 keep:∀ s,S s=true->T' s=T s
 names:(∀ s r,T s=some r->s∈R r)->∀ s r,T' s=some r->s∈R r
 zed:∀ Z,zlp R T Z->(∃ s∈R row,¬ Z s)/\∀ s,Z s->T' s=T s
 out:∀ s,n<=s->T' s=T s
 seen:∀ s,S s=true->S' s=true
structure GiveN(T:Tk)(S S':Nat->Bool)(l:List Nat):Prop where
 seen:∀ s,S s=true->S' s=true
 own:∀ s∈l,S' s=true
 cl:∀ s,S' s=true->S s=false->∃ r,T s=some r/\∀ u∈R r,S' u=true
def zb9(S:Nat->Bool)(s:Nat):Nat->Bool:=fun u=>S u||decide (u=s)
variable {R}
theorem GiveN.start{T:Tk}{S:Nat->Bool}:GiveN R T S S []:=⟨fun _ h=>h,fun _ h=>by simp at h,fun s h h0=>by rw[h] at h0;cases h0⟩
theorem GiveN.skip{T:Tk}{S S':Nat->Bool}{l:List Nat}{s:Nat}(h:GiveN R T S S' l)(hs:S' s=true):GiveN R T S S' (l++[s]):=
 ⟨h.seen,fun u hu=>(List.mem_append.1 hu).elim (h.own u) (fun hu=>by rw[List.mem_singleton.1 hu];exact hs),h.cl⟩
theorem zd3{S:Nat->Bool}{s u:Nat}(h:S u=true):zb9 S s u=true:=by unfold zb9;rw[h,Bool.true_or]
theorem zen(S:Nat->Bool)(s:Nat):zb9 S s s=true:=by unfold zb9;simp
theorem GiveN.go{T:Tk}{S S' S'':Nat->Bool}{l:List Nat}{s r:Nat}(h:GiveN R T S S' l)(hT:T s=some r)(h2:GiveN R T (zb9 S' s) S'' (R r)):GiveN R T S S'' (l++[s]):=by
 have up:∀ u,S' u=true->S'' u=true:=fun u hu=>h2.seen u (zd3 hu)
 have aa:S'' s=true:=h2.seen s (zen _ _)
 refine⟨fun u hu=>up u (h.seen u hu),fun u hu=>(List.mem_append.1 hu).elim (fun hu=>up u (h.own u hu)) (fun hu=>by rw[List.mem_singleton.1 hu];exact aa),fun u hu h0=>?_⟩
 by_cases e:u=s
 .subst e;exact⟨r,hT,h2.own⟩
 .cases hu':S' u
  .exact h2.cl u hu (by unfold zb9;simp[hu',e])
  .obtain⟨r',h3,h4⟩:=h.cl u hu' h0
   exact⟨r',h3,fun v hv=>up v (h4 v hv)⟩
theorem GiveY.free{T:Tk}{S S':Nat->Bool}{l:List Nat}{s row n:Nat}(h:GiveN R T S S' l)(hs:S' s=false)(hT:T s=none)(hr:s∈R row)(hn:s<n):GiveY R T (updT T s (some row)) S (zb9 S' s) row n:=by
 refine⟨fun r=>?_,fun u hu=>?_,fun ab u r hu=>?_,fun Z hZ=>?_,fun u hu=>if_neg (by omega),fun u hu=>zd3 (h.seen u hu)⟩
 .have:=(zgu T s (some row) r (n:=n)).1 hn
  rw[hT,if_neg (by simp)] at this
  by_cases e:r=row
  .subst e;rw[if_pos rfl] at this ⊢;omega
  .rw[if_neg (show ¬ some row=some r from fun h=>e (by injection h with h;exact h.symm))] at this
   rw[if_neg e];omega
 .unfold updT
  rw[if_neg (fun e=>by subst e;rw[h.seen u hu] at hs;cases hs)]
 .unfold updT at hu
  by_cases e:u=s
  .rw[if_pos e] at hu;injection hu with hu;rw[e,<- hu];exact hr
  .rw[if_neg e] at hu;exact ab u r hu
 .have aa:¬ Z s:=fun hz=>by
   obtain⟨r,h1,_⟩:=hZ s hz
   rw[hT] at h1;cases h1
  exact⟨⟨s,hr,aa⟩,fun u hu=>if_neg (fun e=>aa (by rw[<- e];exact hu))⟩
theorem GiveY.move{T T1:Tk}{S S' S'':Nat->Bool}{l:List Nat}{s r row n:Nat}(h:GiveN R T S S' l)(hs:S' s=false)(hT:T s=some r)(hr:s∈R row)(hn:s<n)(h2:GiveY R T T1 (zb9 S' s) S'' r n):GiveY R T (updT T1 s (some row)) S S'' row n:=by
 have hk:T1 s=some r:=by rw[h2.keep s (zen _ _)];exact hT
 refine⟨fun r'=>?_,fun u hu=>?_,fun ab u r' hu=>?_,fun Z hZ=>?_,fun u hu=>?_,fun u hu=>h2.seen u (zd3 (h.seen u hu))⟩
 .have h3:=(zgu T1 s (some row) r' (n:=n)).1 hn
  have h4:=h2.cnt r'
  rw[hk] at h3
  by_cases e1:r'=r <;> by_cases e2:r'=row
  .subst e1;subst e2
   rw[if_pos rfl] at h3 h4 ⊢;omega
  .subst e1
   rw[if_pos rfl,if_neg (show ¬ some row=some r' from fun h=>e2 (by injection h with h;exact h.symm))] at h3
   rw[if_pos rfl] at h4
   rw[if_neg e2];omega
  .subst e2
   rw[if_neg (show ¬ some r=some r' from fun h=>e1 (by injection h with h;exact h.symm)),if_pos rfl] at h3
   rw[if_neg e1] at h4
   rw[if_pos rfl];omega
  .rw[if_neg (show ¬ some r=some r' from fun h=>e1 (by injection h with h;exact h.symm)),if_neg (show ¬ some row=some r' from fun h=>e2 (by injection h with h;exact h.symm))] at h3
   rw[if_neg e1] at h4
   rw[if_neg e2];omega
 .unfold updT
  rw[if_neg (fun e=>by subst e;rw[h.seen u hu] at hs;cases hs)]
  exact h2.keep u (zd3 (h.seen u hu))
 .unfold updT at hu
  by_cases e:u=s
  .rw[if_pos e] at hu;injection hu with hu;rw[e,<- hu];exact hr
  .rw[if_neg e] at hu;exact h2.names ab u r' hu
 .obtain⟨⟨v,hv,ac⟩,h3⟩:=h2.zed Z hZ
  have aa:¬ Z s:=fun hz=>by
   obtain⟨r',h4,h5⟩:=hZ s hz
   rw[hT] at h4
   injection h4 with h4
   subst h4
   exact ac (h5 v hv)
  refine⟨⟨s,hr,aa⟩,fun u hu=>?_⟩
  unfold updT
  rw[if_neg (fun e=>aa (by rw[<- e];exact hu))]
  exact h3 u hu
 .unfold updT
  rw[if_neg (by omega)]
  exact h2.out u hu
variable (R)
def sumR(f:Nat->Nat):Nat->Nat
|0=>0
|n+1=>sumR f n+f n
structure MtI(T:Tk)(n i many:Nat):Prop where
 names:∀ s r,T s=some r->s∈R r
 out:∀ s,n<=s->T s=none
 c1:∀ r,cntT T r n<=1
 c0:∀ r,i<=r->cntT T r n=0
 many:many=sumR (fun r=>cntT T r n) i
 z:∃ Z,zlp R T Z/\∀ r,r<i->cntT T r n=0->∀ u∈R r,Z u
variable {R}
theorem zgG{f g:Nat->Nat}:∀{n:Nat},(∀ k,k<n->f k=g k)->sumR f n=sumR g n
|0,_=>rfl
|n+1,h=>by show sumR f n+f n=sumR g n+g n;rw[zgG fun k hk=>h k (by omega),h n (by omega)]
theorem zfe(r:Nat):∀ n:Nat,cntT (fun _=>none) r n=0
|0=>rfl
|n+1=>by show cntT _ r n+0=0;rw[zfe r n]
theorem MtI.start(n:Nat):MtI R (fun _=>none) n 0 0:=⟨fun _ _ h=>(by cases h),fun _ _=>rfl,fun r=>(by rw[zfe];omega),fun r _=>zfe r n,rfl,fun _=>False,fun _ h=>h.elim,fun r h=>(by omega)⟩
theorem MtI.yes{T T':Tk}{S':Nat->Bool}{n i many:Nat}(h:MtI R T n i many)(hg:GiveY R T T' (fun _=>false) S' i n):MtI R T' n (i+1) (many+1):=by
 obtain⟨Z,hZ,hz⟩:=h.z
 have hk:=(hg.zed Z hZ).2
 refine⟨hg.names h.names,fun s hs=>by rw[hg.out s hs];exact h.out s hs,fun r=>?_,fun r hr=>?_,?_,Z,fun s hs=>?_,fun r hr h0=>?_⟩
 .have h1:=hg.cnt r
  have h2:=h.c1 r
  have h3:=h.c0 r
  by_cases e:r=i
  .rw[if_pos e] at h1;have:=h3 (by omega);omega
  .rw[if_neg e] at h1;omega
 .rw[hg.cnt r,if_neg (by omega)]
  exact h.c0 r (by omega)
 .show many+1=sumR (fun r=>cntT T' r n) i+cntT T' i n
  rw[hg.cnt i,if_pos rfl,h.c0 i (qQ _),h.many,zgG (f:=fun r=>cntT T' r n) (g:=fun r=>cntT T r n) fun k hk=>by rw[hg.cnt k,if_neg (by omega),Nat.add_zero]]
 .obtain⟨r,h1,h2⟩:=hZ s hs
  exact⟨r,by rw[hk s hs];exact h1,h2⟩
 .have h1:=hg.cnt r
  by_cases e:r=i
  .rw[if_pos e] at h1;omega
  .rw[if_neg e] at h1
   exact hz r (by omega) (by omega)
theorem MtI.no{T:Tk}{S':Nat->Bool}{n i many:Nat}(h:MtI R T n i many)(hg:GiveN R T (fun _=>false) S' (R i)):MtI R T n (i+1) many:=by
 obtain⟨Z,hZ,hz⟩:=h.z
 refine⟨h.names,h.out,h.c1,fun r hr=>h.c0 r (by omega),?_,fun s=>Z s\/S' s=true,fun s hs=>?_,fun r hr h0 u hu=>?_⟩
 .show many=sumR (fun r=>cntT T r n) i+cntT T i n
  rw[h.c0 i (qQ _),Nat.add_zero];exact h.many
 .rcases hs with hs|hs
  .obtain⟨r,h1,h2⟩:=hZ s hs
   exact⟨r,h1,fun u hu=>.inl (h2 u hu)⟩
  .obtain⟨r,h1,h2⟩:=hg.cl s hs rfl
   exact⟨r,h1,fun u hu=>.inr (h2 u hu)⟩
 .by_cases e:r=i
  .subst e;exact .inr (hg.own u hu)
  .exact .inl (hz r (by omega) h0 u hu)
end
theorem zmz{l l':List Nat}(h:l.Nodup)(hs:∀ x∈l,x∈l'):l.length<=l'.length:=by
 induction l generalizing l' with
|nil=>exact Nat.zero_le _
|cons x l ih=>
  rw[List.nodup_cons] at h
  have h1:=ih h.2 (l':=l'.erase x) (fun y hy=>(List.mem_erase_of_ne (fun e=>h.1 (by rw[<- e];exact hy))).2 (hs y (List.mem_cons_of_mem _ hy)))
  rw[List.length_erase_of_mem (hs x (qE ..))] at h1
  have:=List.length_pos_of_mem (hs x (qE ..))
  rw[List.length_cons];omega
theorem zk2{P:Nat->Prop}{n:Nat}{φ:Nat->Nat}(hn:∀ s,P s->s<n)(hm:∀ s,P s->P (φ s))(hi:∀ s t,P s->P t->φ s=φ t->s=t){y:Nat}(hy:P y):∃ x,P x/\φ x=y:=by
 classical
 refine Classical.byContradiction fun ac=>?_
 obtain⟨l,hl⟩:∃ l,l=(List.range n).filter fun s=>decide (P s):=⟨_,rfl⟩
 have aa:∀ s,s∈l↔P s:=fun s=>by
  rw[hl,List.mem_filter,List.mem_range,qC]
  exact⟨fun h=>h.2,fun h=>⟨hn s h,h⟩⟩
 have ae:l.Nodup:=by rw[hl];exact List.Pairwise.filter _ List.nodup_range
 have ab:(l.map φ).Nodup:=by
  unfold List.Nodup
  rw[List.pairwise_map]
  exact List.Pairwise.imp_of_mem (fun {a b} ha hb af e=>af (hi a b ((aa a).1 ha) ((aa b).1 hb) e)) ae
 have:=zmz (l:=y :: l.map φ) (l':=l) (by
  rw[List.nodup_cons]
  exact⟨fun h=>by
   obtain⟨x,hx,e⟩:=List.mem_map.1 h
   exact ac ⟨x,(aa x).1 hx,e⟩,ab⟩) (fun x hx=>by
  rcases List.mem_cons.1 hx with rfl|hx
  .exact(aa _).2 hy
  .obtain⟨s,hs,rfl⟩:=List.mem_map.1 hx
   exact(aa _).2 (hm s ((aa s).1 hs)))
 rw[List.length_cons,List.length_map] at this
 omega
theorem zi8{R:Nat->List Nat}{T:Tk}{n m many:Nat}(h:MtI R T n m many):many=m↔∃ σ:Nat->Nat,(∀ r,r<m->σ r∈R r)/\∀ r q,r<m->q<m->σ r=σ q->r=q:=by
 have hle:∀ k:Nat,sumR (fun r=>cntT T r n) k<=k:=fun k=>by
  induction k with
 |zero=>exact qQ _
 |succ k ih=>have:=h.c1 k;show sumR _ k+cntT T k n<=k+1;omega
 have af:∀ k:Nat,sumR (fun r=>cntT T r n) k=k->∀ r,r<k->cntT T r n=1:=fun k=>by
  induction k with
 |zero=>intro _ r hr;omega
 |succ k ih=>
   intro hk r hr
   have hk:sumR (fun r=>cntT T r n) k+cntT T k n=k+1:=hk
   have h1:=h.c1 k
   have h2:=hle k
   by_cases e:r=k
   .subst e;omega
   .exact ih (by omega) r (by omega)
 constructor
 .intro hm
  have h1:=af m (by rw[<- h.many];exact hm)
  have ab:∀ r,∃ s,r<m->s<n/\T s=some r:=fun r=>by
   by_cases hr:r<m
   .obtain⟨s,hs⟩:=zgw (T:=T) (r:=r) (n:=n) (by rw[h1 r hr];omega)
    exact⟨s,fun _=>hs⟩
   .exact⟨0,fun h=>absurd h hr⟩
  obtain⟨σ,hσ⟩:=Classical.axiomOfChoice ab
  refine⟨σ,fun r hr=>h.names _ _ (hσ r hr).2,fun r q hr hq e=>?_⟩
  have h2:=(hσ r hr).2
  rw[e,(hσ q hq).2] at h2
  injection h2 with h2
  exact h2.symm
 .rintro⟨σ,h1,h2⟩
  refine Classical.byContradiction fun ah=>?_
  have ab:∃ r,r<m/\cntT T r n=0:=Classical.byContradiction fun ai=>ah (by
   have ag:∀ k,k<=m->sumR (fun r=>cntT T r n) k=k:=fun k=>by
    induction k with
   |zero=>intro _;rfl
   |succ k ih=>
     intro hk
     show sumR _ k+cntT T k n=k+1
     have:=ih (by omega)
     have h3:=h.c1 k
     have h4:cntT T k n≠0:=fun e=>ai ⟨k,by omega,e⟩
     omega
   rw[h.many];exact ag m (qQ _))
  obtain⟨r0,ac,ae⟩:=ab
  obtain⟨Z,hZ,hz⟩:=h.z
  have hlt:∀ s,Z s->s<n:=fun s hs=>Classical.byContradiction fun hn=>by
   obtain⟨r,h3,_⟩:=hZ s hs
   rw[h.out s (by omega)] at h3;cases h3
  have aa:∀ s r,T s=some r->s<n->r<m:=fun s r h3 h4=>Classical.byContradiction fun hn=>by
   have:=zdz h4 h3
   rw[h.c0 r (by omega)] at this;omega
  have hg:∀ s,Z s->T s=some ((T s).getD 0)/\∀ u∈R ((T s).getD 0),Z u:=fun s hs=>by
   obtain⟨r,h3,h4⟩:=hZ s hs
   rw[h3];exact⟨rfl,h4⟩
  obtain⟨x,hx,ex⟩:=zk2 (P:=Z) (n:=n) (φ:=fun s=>σ ((T s).getD 0)) hlt (fun s hs=>(hg s hs).2 _ (h1 _ (aa s _ (hg s hs).1 (hlt s hs)))) (fun s t hs ht e=>by
   have h5:=h2 _ _ (aa s _ (hg s hs).1 (hlt s hs)) (aa t _ (hg t ht).1 (hlt t ht)) e
   exact zkb (h.c1 _) (hlt s hs) (hlt t ht) (hg s hs).1 (by rw[h5];exact(hg t ht).1)) (y:=σ r0) (hz r0 ac ae _ (h1 r0 ac))
  have h5:=h2 _ _ (aa x _ (hg x hx).1 (hlt x hx)) ac ex
  have:=zdz (hlt x hx) (hg x hx).1
  rw[h5,ae] at this
  omega
theorem zgF{T:Tk}{m:Nat}:∀ n:Nat,(∀ s r,s<n->T s=some r->r<m)->sumR (fun r=>cntT T r n) m+sumR (fun s=>if T s=none then 1 else 0) n=n
|0,_=>by
  have:sumR (fun r=>cntT T r 0) m=0:=by
   have:∀ k,sumR (fun r=>cntT T r 0) k=0:=fun k=>by
    induction k with
   |zero=>rfl
   |succ k ih=>show sumR _ k+0=0;rw[ih]
   exact this m
  rw[this];rfl
|n+1,h=>by
  have ih:=zgF n fun s r hs=>h s r (by omega)
  have aa:∀ k,sumR (fun r=>cntT T r (n+1)) k=sumR (fun r=>cntT T r n) k+sumR (fun r=>if T n=some r then 1 else 0) k:=fun k=>by
   induction k with
  |zero=>rfl
  |succ k ih=>
    show sumR _ k+(cntT T k n+(if T n=some k then 1 else 0))=sumR _ k+cntT T k n+(sumR _ k+(if T n=some k then 1 else 0))
    rw[ih];omega
  have ab:∀ k,sumR (fun r=>if T n=some r then 1 else 0) k=if ∃ r,T n=some r/\r<k then 1 else 0:=fun k=>by
   induction k with
  |zero=>rw[if_neg (by rintro⟨r,_,h⟩;omega)];rfl
  |succ k ih=>
    show sumR _ k+(if T n=some k then 1 else 0)=_
    rw[ih]
    by_cases e:T n=some k
    .rw[if_pos e,if_neg (by rintro⟨r,h1,h2⟩;rw[e] at h1;injection h1 with h1;omega),if_pos ⟨k,e,by omega⟩]
    .rw[if_neg e]
     by_cases h1:∃ r,T n=some r/\r<k
     .obtain⟨r,h2,h3⟩:=h1
      rw[if_pos ⟨r,h2,h3⟩,if_pos ⟨r,h2,by omega⟩]
     .rw[if_neg h1,if_neg]
      rintro⟨r,h2,h3⟩
      by_cases e2:r=k
      .rw[e2] at h2;exact e h2
      .exact h1 ⟨r,h2,by omega⟩
  rw[aa,ab]
  show _+(sumR (fun s=>if T s=none then 1 else 0) n+(if T n=none then 1 else 0))=n+1
  cases e:T n with
 |none=>
   rw[if_neg (by rintro⟨r,h1,_⟩;cases h1),if_pos rfl];omega
 |some r=>
   rw[if_pos ⟨r,rfl,h n r (by omega) e⟩,if_neg (by simp)];omega
theorem zmn{R:Nat->List Nat}{T:Tk}{n m many:Nat}(h:MtI R T n m many):many=n↔∃ τ:Nat->Nat,(∀ s,s<n->τ s<m/\s∈R (τ s))/\∀ s t,s<n->t<n->τ s=τ t->s=t:=by
 have ae:∀ s r,s<n->T s=some r->r<m:=fun s r h4 h3=>Classical.byContradiction fun hn=>by
  have:=zdz h4 h3
  rw[h.c0 r (by omega)] at this;omega
 have hs:=zgF (T:=T) (m:=m) n ae
 rw[<- h.many] at hs
 constructor
 .intro hm
  have hz:sumR (fun s=>if T s=none then 1 else 0) n=0:=by omega
  have ab:∀ k,sumR (fun s=>if T s=none then 1 else 0) k=0->∀ s,s<k->T s≠none:=fun k=>by
   induction k with
  |zero=>intro _ s hs;omega
  |succ k ih=>
    intro hk s an
    have hk:sumR (fun s=>if T s=none then 1 else 0) k+(if T k=none then 1 else 0)=0:=hk
    by_cases e:s=k
    .subst e
     intro e2
     rw[if_pos e2] at hk;omega
    .exact ih (by omega) s (by omega)
  have hf:=ab n hz
  have hg:∀ s,s<n->T s=some ((T s).getD 0):=fun s aa=>by
   cases e:T s with
  |none=>exact absurd e (hf s aa)
  |some r=>rfl
  refine⟨fun s=>(T s).getD 0,fun s aa=>⟨ae s _ aa (hg s aa),h.names _ _ (hg s aa)⟩,fun s t aa af e=>?_⟩
  exact zkb (h.c1 _) aa af (hg s aa) (by rw[show(T s).getD 0=(T t).getD 0 from e];exact hg t af)
 .rintro⟨τ,h1,h2⟩
  refine Classical.byContradiction fun ah=>?_
  have ai:∃ s,s<n/\T s=none:=Classical.byContradiction fun aj=>ah (by
   have ac:∀ k,k<=n->sumR (fun s=>if T s=none then 1 else 0) k=0:=fun k=>by
    induction k with
   |zero=>intro _;rfl
   |succ k ih=>
     intro hk
     show sumR _ k+(if T k=none then 1 else 0)=0
     rw[ih (by omega),if_neg (fun e=>aj ⟨k,by omega,e⟩)]
   have:=ac n (qQ _)
   omega)
  obtain⟨s0,ak,ag⟩:=ai
  obtain⟨Z,hZ,hz⟩:=h.z
  have am:¬ Z s0:=fun hq=>by
   obtain⟨r,h3,_⟩:=hZ s0 hq
   rw[ag] at h3;cases h3
  have hm:∀ s,∃ t,(s<n/\¬ Z s)->(t<n/\¬ Z t)/\T t=some (τ s):=fun s=>by
   by_cases hsp:s<n/\¬ Z s
   .obtain⟨h3,h4⟩:=h1 s hsp.1
    have h5:cntT T (τ s) n≠0:=fun e=>hsp.2 (hz _ h3 e s h4)
    obtain⟨t,ht,h6⟩:=zgw (T:=T) (r:=τ s) (n:=n) (by omega)
    refine⟨t,fun _=>⟨⟨ht,fun hq=>?_⟩,h6⟩⟩
    obtain⟨r,h7,h8⟩:=hZ t hq
    rw[h6] at h7
    injection h7 with h7
    subst h7
    exact hsp.2 (h8 s h4)
   .exact⟨0,fun h=>absurd h hsp⟩
  obtain⟨ψ,hψ⟩:=Classical.axiomOfChoice hm
  obtain⟨x,hx,ex⟩:=zk2 (P:=fun s=>s<n/\¬ Z s) (n:=n) (φ:=ψ) (fun s hs=>hs.1) (fun s hs=>(hψ s hs).1) (fun s t hs ht e=>by
   have h3:=(hψ s hs).2
   rw[e,(hψ t ht).2] at h3
   injection h3 with h3
   exact h2 s t hs.1 ht.1 h3.symm) (y:=s0) ⟨ak,am⟩
  have h3:=(hψ x hx).2
  rw[ex,ag] at h3
  cases h3
def cntF(f:Nat->Nat)(p:Nat):Nat->Nat
|0=>0
|n+1=>cntF f p n+(if f n=p then 1 else 0)
def updF(f:Nat->Nat)(k p:Nat):Nat->Nat:=fun u=>if u=k then p else f u
theorem zkc(f:Nat->Nat)(k v p:Nat):∀{n:Nat},(k<n->cntF (updF f k v) p n+(if f k=p then 1 else 0)=cntF f p n+(if v=p then 1 else 0))/\(n<=k->cntF (updF f k v) p n=cntF f p n)
|0=>⟨fun h=>by omega,fun _=>rfl⟩
|n+1=>by
  obtain⟨h1,h2⟩:=zkc f k v p (n:=n)
  show(k<n+1->cntF (updF f k v) p n+(if updF f k v n=p then 1 else 0)+_=cntF f p n+(if f n=p then 1 else 0)+_)/\(n+1<=k->cntF (updF f k v) p n+(if updF f k v n=p then 1 else 0)=cntF f p n+(if f n=p then 1 else 0))
  by_cases e:n=k
  .subst e
   have h3:updF f n v n=v:=if_pos rfl
   rw[h3,h2 (qQ _)]
   exact⟨fun _=>by omega,fun h=>by omega⟩
  .have h3:updF f k v n=f n:=if_neg e
   rw[h3]
   exact⟨fun h=>by have:=h1 (by omega);omega,fun h=>by rw[h2 (by omega)]⟩
theorem zhc{f g:Nat->Nat}{p:Nat}:∀{n:Nat},(∀ k,k<n->f k=g k)->cntF f p n=cntF g p n
|0,_=>rfl
|n+1,h=>by
  show cntF f p n+_=cntF g p n+_
  rw[zhc fun k hk=>h k (by omega),h n (by omega)]
theorem zlh(f:Nat->Nat)(p:Nat):∀ n:Nat,cntF f p n<=n
|0=>qQ _
|n+1=>by
  have:=zlh f p n
  show cntF f p n+(if f n=p then 1 else 0)<=n+1
  split <;> omega
theorem zkd{f:Nat->Nat}{p k:Nat}:∀{n:Nat},k<n->f k=p->1<=cntF f p n
|n+1,hk,h=>by
  show 1<=cntF f p n+(if f n=p then 1 else 0)
  by_cases e:k=n
  .subst e;rw[if_pos h];omega
  .have:=zkd (n:=n) (by omega) h;omega
structure FitBy(n:Nat)(S:Nat->Nat->Bool)(a:Nat->Option Nat)(f:Nat->Nat):Prop where
 can:∀ k,k<n->S k (f k)=true
 adm:∀ p m,a p=some m->cntF f p n=m
def Fit(n:Nat)(S:Nat->Nat->Bool)(a:Nat->Option Nat):Prop:=∃ f,FitBy n S a f
def setA(a:Nat->Option Nat)(p m:Nat):Nat->Option Nat:=fun x=>if x=p then some m else a x
theorem FitBy.weak{n:Nat}{S:Nat->Nat->Bool}{a:Nat->Option Nat}{p m:Nat}{f:Nat->Nat}(ha:a p=none)(h:FitBy n S (setA a p m) f):FitBy n S a f:=
 ⟨h.can,fun x m' hx=>h.adm x m' (by unfold setA;rw[if_neg (fun e=>by subst e;rw[ha] at hx;cases hx)];exact hx)⟩
theorem Fit.some{n:Nat}{S:Nat->Nat->Bool}{a:Nat->Option Nat}(p:Nat)(ha:a p=none):Fit n S a↔∃ m,m<=n/\Fit n S (setA a p m):=by
 constructor
 .rintro⟨f,hf⟩
  refine⟨cntF f p n,zlh f p n,f,hf.can,fun x m hx=>?_⟩
  unfold setA at hx
  by_cases e:x=p
  .rw[if_pos e] at hx;injection hx with hx;rw[e];exact hx
  .rw[if_neg e] at hx;exact hf.adm x m hx
 .rintro⟨m,_,f,hf⟩
  exact⟨f,hf.weak ha⟩
def zaD(k:Nat)(i:Nat):Nat:=if i<k then i else i+1
theorem zff(f:Nat->Nat)(p k:Nat):∀{n:Nat},(k<=n->cntF f p (n+1)=cntF (fun i=>f (zaD k i)) p n+(if f k=p then 1 else 0))/\(n<=k->cntF (fun i=>f (zaD k i)) p n=cntF f p n)
|0=>⟨fun h=>by
   have:k=0:=by omega
   subst this
   rfl,fun _=>rfl⟩
|n+1=>by
  obtain⟨h1,h2⟩:=zff f p k (n:=n)
  refine⟨fun h=>?_,fun h=>?_⟩
  .show cntF f p (n+1)+(if f (n+1)=p then 1 else 0)=cntF (fun i=>f (zaD k i)) p n+(if f (zaD k n)=p then 1 else 0)+_
   by_cases e:k=n+1
   .subst e
    have h3:zaD (n+1) n=n:=if_pos (by omega)
    rw[h3,h2 (by omega)];rfl
   .have h3:zaD k n=n+1:=if_neg (by omega)
    rw[h1 (by omega),h3];omega
  .show cntF (fun i=>f (zaD k i)) p n+(if f (zaD k n)=p then 1 else 0)=cntF f p n+(if f n=p then 1 else 0)
   have h3:zaD k n=n:=if_pos (by omega)
   rw[h3,h2 (by omega)]
def zer(a:Nat->Option Nat)(p:Nat):Nat->Option Nat:=fun x=>if x=p then(a p).map (·-1) else a x
theorem ze6{n:Nat}{S:Nat->Nat->Bool}{a:Nat->Option Nat}{k p:Nat}(hk:k<=n)(hp:S k p=true):(a p≠some 0/\Fit n (fun i=>S (zaD k i)) (zer a p))↔∃ f,FitBy (n+1) S a f/\f k=p:=by
 constructor
 .rintro⟨h0,f,hf⟩
  refine⟨fun i=>if i=k then p else f (if i<k then i else i-1),⟨fun i hi=>?_,fun x m hx=>?_⟩,if_pos rfl⟩
  .show S i (if i=k then p else f (if i<k then i else i-1))=true
   by_cases e:i=k
   .rw[if_pos e,e];exact hp
   .rw[if_neg e]
    have h1:=hf.can (if i<k then i else i-1) (by split <;> omega)
    have h2:zaD k (if i<k then i else i-1)=i:=by
     unfold zaD
     by_cases e2:i<k
     .rw[if_pos e2,if_pos e2]
     .rw[if_neg e2,if_neg (by omega)];omega
    rw[h2] at h1;exact h1
  .rw[(zff _ x k (n:=n)).1 hk,zhc (g:=f) (fun i hi=>?_)]
   .show cntF f x n+(if(if k=k then p else _)=x then 1 else 0)=m
    rw[if_pos rfl]
    by_cases e:p=x
    .subst e
     rw[if_pos rfl]
     have h3:=hf.adm p (m-1) (by unfold zer;rw[if_pos rfl,hx];rfl)
     have h4:m≠0:=fun e=>h0 (by rw[hx,e])
     omega
    .rw[if_neg e,hf.adm x m (by unfold zer;rw[if_neg (fun e2=>e e2.symm)];exact hx)];rfl
   .show(if zaD k i=k then p else f (if zaD k i<k then zaD k i else zaD k i-1))=f i
    unfold zaD
    by_cases e:i<k
    .rw[if_pos e,if_neg (by omega),if_pos e]
    .rw[if_neg e,if_neg (by omega),if_neg (by omega)];rfl
 .rintro⟨f,hf,e⟩
  have h1:∀ x,cntF f x (n+1)=cntF (fun i=>f (zaD k i)) x n+(if p=x then 1 else 0):=fun x=>by rw[(zff f x k (n:=n)).1 hk,e]
  refine⟨fun h0=>?_,fun i=>f (zaD k i),fun i hi=>hf.can _ (by unfold zaD;split <;> omega),fun x m hx=>?_⟩
  .have h2:=hf.adm p 0 h0
   have:=zkd (f:=f) (p:=p) (k:=k) (n:=n+1) (by omega) e
   omega
  .unfold zer at hx
   by_cases e2:x=p
   .subst e2
    rw[if_pos rfl] at hx
    cases ha:a x with
   |none=>rw[ha] at hx;cases hx
   |some m'=>
     rw[ha] at hx
     have hx:some (m'-1)=some m:=hx
     injection hx with hx
     have h2:=hf.adm x m' ha
     rw[h1,if_pos rfl] at h2
     show cntF (fun i=>f (zaD k i)) x n=m
     omega
   .rw[if_neg e2] at hx
    have h2:=hf.adm x m hx
    rw[h1,if_neg (fun e=>e2 e.symm)] at h2
    exact h2
def zbU(mu:Nat->Bool)(σ τ:Nat->Nat):Nat->Nat
|0=>0
|n+1=>zbU mu σ τ n+(if mu (τ n)=true/\σ (τ n)=n then 1 else 0)
theorem zit(mu:Nat->Bool)(σ τ:Nat->Nat):∀ n:Nat,zbU mu σ τ n<=n
|0=>qQ _
|n+1=>by
  have:=zit mu σ τ n
  show zbU mu σ τ n+(if mu (τ n)=true/\σ (τ n)=n then 1 else 0)<=n+1
  split <;> omega
theorem zhk{mu:Nat->Bool}{σ τ:Nat->Nat}{m:Nat}(hm:mu m=true)(aa:¬(mu (τ (σ m))=true/\σ (τ (σ m))=σ m)):∀{n:Nat},(σ m<n->zbU mu σ (updF τ (σ m) m) n=zbU mu σ τ n+1)/\(n<=σ m->zbU mu σ (updF τ (σ m) m) n=zbU mu σ τ n)
|0=>⟨fun h=>by omega,fun _=>rfl⟩
|n+1=>by
  obtain⟨h1,h2⟩:=zhk hm aa (n:=n)
  show(σ m<n+1->zbU mu σ (updF τ (σ m) m) n+(if mu (updF τ (σ m) m n)=true/\σ (updF τ (σ m) m n)=n then 1 else 0)=zbU mu σ τ n+(if mu (τ n)=true/\σ (τ n)=n then 1 else 0)+1)/\(n+1<=σ m->zbU mu σ (updF τ (σ m) m) n+(if mu (updF τ (σ m) m n)=true/\σ (updF τ (σ m) m n)=n then 1 else 0)=zbU mu σ τ n+(if mu (τ n)=true/\σ (τ n)=n then 1 else 0))
  by_cases e:n=σ m
  .have h3:updF τ (σ m) m n=m:=if_pos e
   rw[h3,h2 (by omega),if_pos ⟨hm,e.symm⟩,if_neg (by rw[e];exact aa)]
   exact⟨fun _=>by omega,fun h=>by omega⟩
  .have h3:updF τ (σ m) m n=τ n:=if_neg e
   rw[h3]
   exact⟨fun h=>by rw[h1 (by omega)];omega,fun h=>by rw[h2 (by omega)]⟩
theorem mend{n N:Nat}{E:Nat->Nat->Prop}{mu:Nat->Bool}{σ:Nat->Nat}(hσ:∀ k,k<n->mu k=true->σ k<N/\E k (σ k))(hi:∀ k q,k<n->q<n->mu k=true->mu q=true->σ k=σ q->k=q) :
  ∀(d:Nat) {τ:Nat->Nat},N-zbU mu σ τ N<=d->(∀ s,s<N->τ s<n/\E (τ s) s)->(∀ s t,s<N->t<N->τ s=τ t->s=t)->
  ∃ τ':Nat->Nat,(∀ s,s<N->τ' s<n/\E (τ' s) s)/\(∀ s t,s<N->t<N->τ' s=τ' t->s=t)/\∀ k,k<n->mu k=true->∃ s,s<N/\τ' s=k
|d,τ,hd,hτ,hj=>by
  by_cases aa:∀ k,k<n->mu k=true->∃ s,s<N/\τ s=k
  .exact⟨τ,hτ,hj,aa⟩
  .obtain⟨m,hm,ab,ac⟩:∃ m,m<n/\mu m=true/\∀ s,s<N->τ s≠m:=Classical.byContradiction fun ae=>aa fun k hk ag=>Classical.byContradiction fun h=>ae ⟨k,hk,ag,fun s hs e=>h ⟨s,hs,e⟩⟩
   obtain⟨af,hE⟩:=hσ m hm ab
   have ae:¬(mu (τ (σ m))=true/\σ (τ (σ m))=σ m):=fun h=>ac (σ m) af (hi _ _ (hτ _ af).1 hm h.1 ab h.2)
   have h1:=(zhk ab ae (n:=N)).1 af
   have h2:=zit mu σ (updF τ (σ m) m) N
   cases d with
  |zero=>omega
  |succ d=>
    refine mend hσ hi d (τ:=updF τ (σ m) m) (by omega) (fun s hs=>?_) (fun s t hs ht e=>?_)
    .unfold updF
     by_cases e:s=σ m
     .rw[if_pos e,e];exact⟨hm,hE⟩
     .rw[if_neg e];exact hτ s hs
    .unfold updF at e
     by_cases e1:s=σ m <;> by_cases e2:t=σ m
     .rw[e1,e2]
     .rw[if_pos e1,if_neg e2] at e;exact absurd e.symm (ac t ht)
     .rw[if_neg e1,if_pos e2] at e;exact absurd e (ac s hs)
     .rw[if_neg e1,if_neg e2] at e;exact hj s t hs ht e
theorem zc2(f:Nat->Nat)(p:Nat){k:Nat}:∀{n:Nat},k<=n->cntF f p k<=cntF f p n
|0,h=>by rw[show k=0 by omega];exact qQ _
|n+1,h=>by
  by_cases e:k=n+1
  .rw[e];exact qQ _
  .have:=zc2 f p (k:=k) (n:=n) (by omega)
   show cntF f p k<=cntF f p n+_
   omega
theorem zje{f:Nat->Nat}{p k q:Nat}(hk:f k=p)(hq:f q=p)(h:cntF f p k=cntF f p q):k=q:=by
 have hs:∀ k,f k=p->cntF f p (k+1)=cntF f p k+1:=fun k hk=>by show cntF f p k+(if f k=p then 1 else 0)=_;rw[if_pos hk]
 rcases Nat.lt_trichotomy k q with h1|h1|h1
 .have:=zc2 f p (k:=k+1) (n:=q) h1
  rw[hs k hk] at this;omega
 .exact h1
 .have:=zc2 f p (k:=q+1) (n:=k) h1
  rw[hs q hq] at this;omega
theorem zjq{f:Nat->Nat}{p j:Nat}:∀{n:Nat},j<cntF f p n->∃ k,k<n/\f k=p/\cntF f p k=j
|n+1,h=>by
  have h:j<cntF f p n+(if f n=p then 1 else 0):=h
  by_cases h1:j<cntF f p n
  .obtain⟨k,hk,h2⟩:=zjq h1
   exact⟨k,by omega,h2⟩
  .by_cases e:f n=p
   .rw[if_pos e] at h
    exact⟨n,by omega,e,by omega⟩
   .rw[if_neg e] at h;omega
structure zl3(n N:Nat)(S:Nat->Nat->Bool)(a:Nat->Option Nat)(own:Nat->Nat)(mu:Nat->Bool):Prop where
 some:∀ s,s<N->∃ m,a (own s)=some m
 cnt:∀ p m,a p=Option.some m->cntF own p N=m
 must:∀ k,k<n->(mu k=true↔∀ p,S k p=true->∃ m,a p=Option.some m)
def zdd(own τ f:Nat->Nat):Nat->Nat->Nat
|0=>f
|s+1=>updF (zdd own τ f s) (τ s) (own s)
theorem zgl{own τ f:Nat->Nat}{N:Nat}(hj:∀ s t,s<N->t<N->τ s=τ t->s=t):∀ n:Nat,n<=N->(∀ s,s<n->zdd own τ f n (τ s)=own s)/\∀ k,(∀ s,s<n->τ s≠k)->zdd own τ f n k=f k
|0,_=>⟨fun s hs=>by omega,fun _ _=>rfl⟩
|n+1,h=>by
  obtain⟨h1,h2⟩:=zgl hj n (by omega)
  refine⟨fun s hs=>?_,fun k hk=>?_⟩
  .show updF (zdd own τ f n) (τ n) (own n) (τ s)=own s
   unfold updF
   by_cases e:s=n
   .rw[e,if_pos rfl]
   .rw[if_neg (fun e2=>e (hj s n (by omega) (by omega) e2)),h1 s (by omega)]
  .show updF (zdd own τ f n) (τ n) (own n) k=f k
   unfold updF
   rw[if_neg (fun e=>hk n (by omega) e.symm),h2 k fun s hs=>hk s (by omega)]
theorem zid{own τ f:Nat->Nat}{n N p:Nat}(hj:∀ s t,s<N->t<N->τ s=τ t->s=t)(hτ:∀ s,s<N->τ s<n)(hf:∀ k,k<n->f k≠p):∀ s:Nat,s<=N->cntF (zdd own τ f s) p n=cntF own p s
|0,_=>by
  have:∀ m,m<=n->cntF f p m=0:=fun m=>by
   induction m with
  |zero=>intro _;rfl
  |succ m ih=>intro hm;show cntF f p m+(if f m=p then 1 else 0)=0;rw[ih (by omega),if_neg (hf m (by omega))]
  exact this n (qQ _)
|s+1,h=>by
  have ih:=zid (own:=own) hj hτ hf s (by omega)
  have h1:=(zkc (zdd own τ f s) (τ s) (own s) p (n:=n)).1 (hτ s (by omega))
  have h2:=(zgl (own:=own) (f:=f) hj s (by omega)).2 (τ s) (fun t ht e=>by have:=hj t s (by omega) (by omega) e;omega)
  rw[h2,if_neg (hf _ (hτ s (by omega)))] at h1
  show cntF (updF (zdd own τ f s) (τ s) (own s)) p n=cntF own p s+(if own s=p then 1 else 0)
  rw[Nat.add_zero] at h1
  rw[h1,ih]
theorem zif{n N:Nat}{S:Nat->Nat->Bool}{a:Nat->Option Nat}{own:Nat->Nat}{mu:Nat->Bool}(h:zl3 n N S a own mu){d:Nat}(hd:a d=none) :
  Fit n S a↔(∃ σ:Nat->Nat,(∀ k,k<n->mu k=true->σ k<N/\S k (own (σ k))=true)/\∀ k q,k<n->q<n->mu k=true->mu q=true->σ k=σ q->k=q)/\∃ τ:Nat->Nat,(∀ s,s<N->τ s<n/\S (τ s) (own s)=true)/\∀ s t,s<N->t<N->τ s=τ t->s=t:=by
 constructor
 .rintro⟨f,hf⟩
  constructor
  .have aa:∀ k,∃ s,(k<n/\mu k=true)->s<N/\own s=f k/\cntF own (f k) s=cntF f (f k) k:=fun k=>by
    by_cases hk:k<n/\mu k=true
    .obtain⟨m,hm⟩:=(h.must k hk.1).1 hk.2 (f k) (hf.can k hk.1)
     have h1:=h.cnt _ _ hm
     have h2:=hf.adm _ _ hm
     have h3:=zc2 f (f k) (k:=k+1) (n:=n) hk.1
     have h4:cntF f (f k) (k+1)=cntF f (f k) k+1:=by show cntF f (f k) k+(if f k=f k then 1 else 0)=_;rw[if_pos rfl]
     obtain⟨s,hs⟩:=zjq (f:=own) (p:=f k) (j:=cntF f (f k) k) (n:=N) (by omega)
     exact⟨s,fun _=>hs⟩
    .exact⟨0,fun h=>absurd h hk⟩
   obtain⟨σ,hσ⟩:=Classical.axiomOfChoice aa
   refine⟨σ,fun k hk hm=>⟨(hσ k ⟨hk,hm⟩).1,by rw[(hσ k ⟨hk,hm⟩).2.1];exact hf.can k hk⟩,fun k q hk hq af ag e=>?_⟩
   obtain⟨_,h1,h2⟩:=hσ k ⟨hk,af⟩
   obtain⟨_,h3,h4⟩:=hσ q ⟨hq,ag⟩
   rw[<- e,h1] at h3
   rw[<- e,<- h3,h2] at h4
   exact zje rfl h3.symm h4
  .have aa:∀ s,∃ k,s<N->k<n/\f k=own s/\cntF f (own s) k=cntF own (own s) s:=fun s=>by
    by_cases hs:s<N
    .obtain⟨m,hm⟩:=h.some s hs
     have h1:=h.cnt _ _ hm
     have h2:=hf.adm _ _ hm
     have h3:=zc2 own (own s) (k:=s+1) (n:=N) hs
     have h4:cntF own (own s) (s+1)=cntF own (own s) s+1:=by show cntF own (own s) s+(if own s=own s then 1 else 0)=_;rw[if_pos rfl]
     obtain⟨k,hk⟩:=zjq (f:=f) (p:=own s) (j:=cntF own (own s) s) (n:=n) (by omega)
     exact⟨k,fun _=>hk⟩
    .exact⟨0,fun h=>absurd h hs⟩
   obtain⟨τ,hτ⟩:=Classical.axiomOfChoice aa
   refine⟨τ,fun s hs=>⟨(hτ s hs).1,by rw[<- (hτ s hs).2.1];exact hf.can _ (hτ s hs).1⟩,fun s t hs ht e=>?_⟩
   obtain⟨_,h1,h2⟩:=hτ s hs
   obtain⟨_,h3,h4⟩:=hτ t ht
   rw[<- e,h1] at h3
   rw[<- e,<- h3,h2] at h4
   exact zje rfl h3.symm h4
 .rintro⟨⟨σ,hσ,hi⟩,τ0,hτ0,ah⟩
  obtain⟨τ,hτ,hj,hc⟩:=mend (E:=fun k s=>S k (own s)=true) hσ hi (N-zbU mu σ τ0 N) (qQ _) hτ0 ah
  have aa:∀ k,∃ p,a p=none/\(k<n->mu k=false->S k p=true):=fun k=>by
   by_cases hk:k<n/\mu k=false
   .refine Classical.byContradiction fun ai=>?_
    have:=(h.must k hk.1).2 fun p hp=>by
     cases ha:a p with
    |none=>exact absurd ⟨p,ha,fun _ _=>hp⟩ ai
    |some m=>exact⟨m,rfl⟩
    rw[hk.2] at this;cases this
   .exact⟨d,hd,fun h1 h2=>absurd ⟨h1,h2⟩ hk⟩
  obtain⟨f0,ac⟩:=Classical.axiomOfChoice aa
  have ae:=zgl (own:=own) (f:=f0) hj N (qQ _)
  refine⟨zdd own τ f0 N,fun k hk=>?_,fun p m hp=>?_⟩
  .by_cases ab:∃ s,s<N/\τ s=k
   .obtain⟨s,hs,rfl⟩:=ab
    rw[ae.1 s hs];exact(hτ s hs).2
   .rw[ae.2 k fun s hs e=>ab ⟨s,hs,e⟩]
    refine(ac k).2 hk ?_
    cases hm:mu k
    .rfl
    .exact absurd (hc k hk hm) ab
  .rw[zid hj (fun s hs=>(hτ s hs).1) (fun k _ e=>by rw[<- e,(ac k).1] at hp;cases hp) N (qQ _)]
   exact h.cnt p m hp
def zap(row:Nat->List Nat)(mu:Nat->Bool):Nat->List (List Nat)
|0=>[]
|n+1=>if mu n then zap row mu n++[row n] else zap row mu n
theorem zcg{row:Nat->List Nat}{mu:Nat->Bool}{k:Nat}(hm:mu k=true):∀{n:Nat},k<n->(zap row mu k).length<(zap row mu n).length/\(zap row mu n).getD (zap row mu k).length []=row k
|n+1,h=>by
  show(zap row mu k).length<(if mu n then zap row mu n++[row n] else zap row mu n).length/\(if mu n then zap row mu n++[row n] else zap row mu n).getD _ []=row k
  by_cases e:k=n
  .subst e
   rw[hm]
   refine⟨by show _<(zap row mu k++[row k]).length;rw[qD,List.length_singleton];omega,?_⟩
   show(zap row mu k++[row k]).getD _ []=row k
   rw[qP,List.getElem?_append_right (qQ _),Nat.sub_self];rfl
  .obtain⟨h1,h2⟩:=zcg (row:=row) hm (n:=n) (by omega)
   split
   .refine⟨by rw[qD];omega,?_⟩
    rw[qP,List.getElem?_append_left h1,<- qP];exact h2
   .exact⟨h1,h2⟩
theorem zjt{row:Nat->List Nat}{mu:Nat->Bool}{r:Nat}:∀{n:Nat},r<(zap row mu n).length->∃ k,k<n/\mu k=true/\(zap row mu k).length=r
|n+1,h=>by
  have h:r<(if mu n then zap row mu n++[row n] else zap row mu n).length:=h
  by_cases h1:r<(zap row mu n).length
  .obtain⟨k,hk,h2⟩:=zjt h1
   exact⟨k,by omega,h2⟩
  .cases hm:mu n
   .rw[hm] at h;exact absurd h h1
   .rw[hm] at h
    have h:r<(zap row mu n++[row n]).length:=h
    rw[qD,List.length_singleton] at h
    exact⟨n,by omega,hm,by omega⟩
theorem zjs{row:Nat->List Nat}{mu:Nat->Bool}{n:Nat} :
  (∃ σ:Nat->Nat,(∀ r,r<(zap row mu n).length->σ r∈(zap row mu n).getD r [])/\∀ r q,r<(zap row mu n).length->q<(zap row mu n).length->σ r=σ q->r=q)↔∃ σ:Nat->Nat,(∀ k,k<n->mu k=true->σ k∈row k)/\∀ k q,k<n->q<n->mu k=true->mu q=true->σ k=σ q->k=q:=by
 have ae:∀ k q,mu k=true->mu q=true->(zap row mu k).length=(zap row mu q).length->k=q:=fun k q hk hq e=>by
  rcases Nat.lt_trichotomy k q with h1|h1|h1
  .have:=(zcg (row:=row) hk h1).1;omega
  .exact h1
  .have:=(zcg (row:=row) hq h1).1;omega
 constructor
 .rintro⟨σ,h1,h2⟩
  refine⟨fun k=>σ (zap row mu k).length,fun k hk hm=>?_,fun k q hk hq ab ac e=>?_⟩
  .have h3:=zcg (row:=row) hm hk
   have h4:=h1 _ h3.1
   rw[h3.2] at h4;exact h4
  .exact ae k q ab ac (h2 _ _ (zcg ab hk).1 (zcg ac hq).1 e)
 .rintro⟨σ,h1,h2⟩
  have af:∀ r,∃ k,r<(zap row mu n).length->k<n/\mu k=true/\(zap row mu k).length=r:=fun r=>by
   by_cases hr:r<(zap row mu n).length
   .obtain⟨k,hk⟩:=zjt hr
    exact⟨k,fun _=>hk⟩
   .exact⟨0,fun h=>absurd h hr⟩
  obtain⟨ix,aa⟩:=Classical.axiomOfChoice af
  refine⟨fun r=>σ (ix r),fun r hr=>?_,fun r q hr hq e=>?_⟩
  .obtain⟨h3,h4,h5⟩:=aa r hr
   have h6:=(zcg (row:=row) h4 h3).2
   rw[h5] at h6
   rw[h6];exact h1 _ h3 h4
  .obtain⟨h3,h4,h5⟩:=aa r hr
   obtain⟨h6,h7,h8⟩:=aa q hq
   rw[<- h5,<- h8,h2 _ _ h3 h6 h4 h7 e]
theorem zoA{n N:Nat}{S:Nat->Nat->Bool}{a:Nat->Option Nat}{own:Nat->Nat}{mu:Nat->Bool}(h:zl3 n N S a own mu){d:Nat}(hd:a d=none){row:Nat->List Nat}(aa:∀ k s,k<n->(s∈row k↔s<N/\S k (own s)=true)){R:Nat->List Nat}(hR:∀ k,k<n->R k=row k){T T':Tk}{m1 m2:Nat}(h1:MtI (fun r=>(zap row mu n).getD r []) T N (zap row mu n).length m1)(h2:MtI R T' N n m2) :
  (m1=(zap row mu n).length/\m2=N)↔Fit n S a:=by
 rw[zif h hd,zi8 h1,zmn h2,zjs]
 refine and_congr ⟨?_,?_⟩ ⟨?_,?_⟩
 .rintro⟨σ,h3,h4⟩
  exact⟨σ,fun k hk hm=>(aa k _ hk).1 (h3 k hk hm),h4⟩
 .rintro⟨σ,h3,h4⟩
  exact⟨σ,fun k hk hm=>(aa k _ hk).2 (h3 k hk hm),h4⟩
 .rintro⟨τ,h3,h4⟩
  exact⟨τ,fun s hs=>⟨(h3 s hs).1,((aa _ s (h3 s hs).1).1 (by have:=(h3 s hs).2;rw[hR _ (h3 s hs).1] at this;exact this)).2⟩,h4⟩
 .rintro⟨τ,h3,h4⟩
  exact⟨τ,fun s hs=>⟨(h3 s hs).1,by rw[hR _ (h3 s hs).1];exact(aa _ s (h3 s hs).1).2 ⟨hs,(h3 s hs).2⟩⟩,h4⟩
def admA(l:List Int)(p:Nat):Option Nat:=
 match l[p]? with
|some m=>if 0<=m then some m.toNat else none
|none=>none
def decL(l:List Int)(p:Nat):List Int:=if 0<l.getD p (-1) then l.set p (l.getD p (-1)-1) else l
def canB(S:Nat->Nat->Bool):Nat->List Int->Bool
|0,l=>l.all fun m=>decide (m<=0)
|n+1,l=>(List.range 8).any fun p=>S 0 p&&!decide (l.getD p (-1)=0)&&canB (fun k=>S (k+1)) n (decL l p)
theorem zfi{l:List Int}{p:Nat}:admA l p=some 0↔l.getD p (-1)=0:=by
 unfold admA
 rw[qP]
 cases h:l[p]? with
|none=>simp
|some m=>
  show(if 0<=m then some m.toNat else none)=some 0↔m=0
  by_cases h0:0<=m
  .rw[if_pos h0]
   constructor
   .intro h;injection h with h;omega
   .intro h;rw[h];rfl
  .rw[if_neg h0]
   exact⟨fun h=>(by cases h),fun h=>(by omega)⟩
theorem zfj{l:List Int}{p:Nat}(h0:l.getD p (-1)≠0):admA (decL l p)=zer (admA l) p:=by
 funext x
 unfold decL zer
 by_cases hp:0<l.getD p (-1)
 .rw[if_pos hp]
  have hlt:p<l.length:=Classical.byContradiction fun hn=>by
   rw[qP,List.getElem?_eq_none (by omega)] at hp
   exact absurd hp (by decide)
  have hg:l.getD p (-1)=l[p]:=by rw[qP,qN hlt];rfl
  rw[hg] at hp ⊢
  by_cases e:x=p
  .subst e
   rw[if_pos rfl]
   unfold admA
   rw[List.getElem?_set_self hlt,qN hlt]
   show(if 0<=l[x]-1 then some (l[x]-1).toNat else none)=(if 0<=l[x] then some l[x].toNat else none).map (·-1)
   rw[if_pos (by omega),if_pos (by omega)]
   show some (l[x]-1).toNat=some (l[x].toNat-1)
   congr 1
   omega
  .rw[if_neg e]
   unfold admA
   rw[List.getElem?_set_ne (fun e2=>e e2.symm)]
 .rw[if_neg hp]
  by_cases e:x=p
  .subst e
   rw[if_pos rfl]
   have:admA l x=none:=by
    unfold admA
    rw[qP] at hp h0
    cases h:l[x]? with
   |none=>rfl
   |some m=>
     rw[h] at hp h0
     have hp:¬ 0<m:=hp
     have h0:m≠0:=h0
     show(if 0<=m then some m.toNat else none)=none
     rw[if_neg (by omega)]
   rw[this];rfl
  .rw[if_neg e]
theorem zoB{S:Nat->Nat->Bool}{l:List Int}:(l.all fun m=>decide (m<=0))=true↔Fit 0 S (admA l):=by
 rw[List.all_eq_true]
 constructor
 .intro h
  refine⟨fun _=>0,fun k hk=>by omega,fun p m hp=>?_⟩
  show 0=m
  unfold admA at hp
  cases hg:l[p]? with
 |none=>rw[hg] at hp;cases hp
 |some v=>
   rw[hg] at hp
   have hp:(if 0<=v then some v.toNat else none)=some m:=hp
   have h1:=h v (List.mem_of_getElem? hg)
   rw[qC] at h1
   by_cases h0:0<=v
   .rw[if_pos h0] at hp;injection hp with hp;omega
   .rw[if_neg h0] at hp;cases hp
 .rintro⟨f,hf⟩ v hv
  rw[qC]
  obtain⟨p,hp⟩:=List.getElem?_of_mem hv
  by_cases h0:0<=v
  .have:=hf.adm p v.toNat (by unfold admA;rw[hp];exact if_pos h0)
   have h1:0=v.toNat:=this
   omega
  .omega
theorem zoC{n:Nat}{S:Nat->Nat->Bool}{a:Nat->Option Nat}:Fit (n+1) S a↔∃ p,S 0 p=true/\a p≠some 0/\Fit n (fun k=>S (k+1)) (zer a p):=by
 have aa:(fun i=>S (zaD 0 i))=fun k=>S (k+1):=by funext i;show S (if i<0 then i else i+1)=_;rw[if_neg (by omega)]
 constructor
 .rintro⟨f,hf⟩
  have hp:=hf.can 0 (by omega)
  have:=(ze6 (k:=0) (Nat.zero_le n) hp).2 ⟨f,hf,rfl⟩
  rw[aa] at this
  exact⟨f 0,hp,this⟩
 .rintro⟨p,hp,h⟩
  rw[<- aa] at h
  obtain⟨f,hf,_⟩:=(ze6 (k:=0) (Nat.zero_le n) hp).1 h
  exact⟨f,hf⟩
theorem zdB:∀{n:Nat} {S:Nat->Nat->Bool} {l:List Int},(∀ k p,S k p=true->p<8)->(canB S n l=true↔Fit n S (admA l))
|0,S,l,_=>zoB
|n+1,S,l,h8=>by
  rw[zoC]
  show(List.range 8).any _=true↔_
  rw[List.any_eq_true]
  constructor
  .rintro⟨p,_,hp⟩
   rw[Bool.and_eq_true,Bool.and_eq_true,Bool.not_eq_true',decide_eq_false_iff_not] at hp
   obtain⟨⟨h1,h2⟩,h3⟩:=hp
   refine⟨p,h1,fun e=>h2 (zfi.1 e),?_⟩
   rw[<- zfj h2]
   exact(zdB fun k p h=>h8 _ p h).1 h3
  .rintro⟨p,h1,h2,h3⟩
   have h2:l.getD p (-1)≠0:=fun e=>h2 (zfi.2 e)
   refine⟨p,List.mem_range.2 (h8 0 p h1),?_⟩
   rw[Bool.and_eq_true,Bool.and_eq_true,Bool.not_eq_true',decide_eq_false_iff_not]
   refine⟨⟨h1,h2⟩,(zdB fun k p h=>h8 _ p h).2 ?_⟩
   rw[zfj h2];exact h3
def zgO(S:Nat->Nat->Bool)(k p:Nat):Nat->Nat->Bool:=fun i q=>S i q&&!(decide (i=k)&&!decide (q=p))
theorem znZ{n:Nat}{S:Nat->Nat->Bool}{a:Nat->Option Nat}{k p:Nat}(hk:k<n):Fit n (zgO S k p) a↔∃ f,FitBy n S a f/\f k=p:=by
 constructor
 .rintro⟨f,hf⟩
  have h1:∀ i,i<n->S i (f i)=true/\(i=k->f i=p):=fun i hi=>by
   have:=hf.can i hi
   unfold zgO at this
   rw[Bool.and_eq_true] at this
   refine⟨this.1,fun e=>?_⟩
   have h2:=this.2
   rw[decide_eq_true e,Bool.true_and,Bool.not_not,qC] at h2
   exact h2
  exact⟨f,⟨fun i hi=>(h1 i hi).1,hf.adm⟩,(h1 k hk).2 rfl⟩
 .rintro⟨f,hf,e⟩
  refine⟨f,fun i hi=>?_,hf.adm⟩
  unfold zgO
  rw[hf.can i hi]
  by_cases h:i=k
  .rw[h,e];simp
  .simp[h]
def setB(q:Nat->Bool):Nat->Nat
|0=>0
|n+1=>setB q n+if q n then 2 ^ n else 0
theorem zhr(q:Nat->Bool):∀ n:Nat,setB q n<2 ^ n
|0=>Nat.one_pos
|n+1=>by
  have:=zhr q n
  show setB q n+(if q n then 2 ^ n else 0)<2 ^ (n+1)
  rw[Nat.pow_succ];split <;> omega
theorem zi3(q:Nat->Bool)(p:Nat):∀ n:Nat,(setB q n).testBit p=(decide (p<n)&&q p)
|0=>by simp[setB]
|n+1=>by
  have ih:=zi3 q p n
  have hlt:=zhr q n
  show(setB q n+if q n then 2 ^ n else 0).testBit p=_
  by_cases e:p=n
  .subst e
   rw[show decide (p<p+1)=true from decide_eq_true (by omega),Bool.true_and]
   cases q p
   .rw[if_neg (by decide),Nat.add_zero,ih];simp
   .rw[if_pos rfl,Nat.add_comm,Nat.testBit_two_pow_add_eq,ih];simp
  .by_cases e2:p<n
   .rw[decide_eq_true (show p<n+1 by omega),decide_eq_true e2] at *
    rw[<- ih]
    cases q n
    .rw[if_neg (by decide),Nat.add_zero]
    .rw[if_pos rfl,Nat.add_comm,Nat.testBit_two_pow_add_gt e2]
   .rw[show decide (p<n+1)=false from decide_eq_false (by omega),Bool.false_and]
    refine Nat.testBit_lt_two_pow (qM ?_ (Nat.pow_le_pow_right (by decide) (show n+1<=p by omega)))
    rw[Nat.pow_succ];split <;> omega
structure Loan where
 p:Int
 a:Int
 b:Int
structure Look where
 h:Int
 there:Int
 gone:Int
structure Tl where
 n:Int
 loans:List Loan
 looks:List Look
 admits:List Int
abbrev mxH:Int:=1048576
def ibit(x:Int)(k:Nat):Bool:=x.toNat.testBit k
def inS(n low high:Int):Bool:=decide (low<=n)&&decide (n<=high)
def powI(n:Nat):Int:=((2 ^ n:Nat):Int)
def has(set n:Nat):Bool:=set.testBit n
theorem zb6{n low high:Int}:inS n low high=true↔low<=n/\n<=high:=by unfold inS;rw[Bool.and_eq_true,qC,qC]
def zcZ(n:Nat)(s:Look):Bool:=inS s.h 0 mxH&&(inS s.there 0 (powI n-1)&&(inS s.gone 0 (powI n-1)&&decide (s.there.toNat &&& s.gone.toNat=0)))
def zaG(x y:Loan):Bool:=decide (x.a<y.b)&&decide (y.a<x.b)
def zcr(m:Nat)(x:Loan):Bool:=inS x.p 0 (m-1)&&(inS x.a 0 1048575&&inS x.b (x.a+1) mxH)
def zfq(m:Int):Bool:=inS m (-1) 16
def zbm(m:Nat):List Loan->List Loan->Bool
|_,[]=>true
|e,x :: l=>zcr m x&&!(e.any (zaG x))&&zbm m (e++[x]) l
def zaN(t:Tl):Bool:=
 inS t.n 1 16&&(inS t.admits.length 1 6&&(decide ((t.loans.length:Int)<=12)&&(decide ((t.looks.length:Int)<=20)&&(zbm t.admits.length [] t.loans&&(t.looks.all (zcZ t.n.toNat)&&t.admits.all zfq)))))
def seenS(l:List Look)(k:Nat):Int:=l.foldl (fun s x=>if ibit x.there k then max s x.h else s) 0
def goneS(l:List Look)(k:Nat):Int:=l.foldl (fun s x=>if ibit x.gone k then min s x.h else s) (mxH+1)
theorem zc8(k:Nat)(y:Int):∀(l:List Look) (s:Int),l.foldl (fun s x=>if ibit x.there k then max s x.h else s) s<=y↔s<=y/\∀ x∈l,ibit x.there k=true->x.h<=y
|[],s=>by simp
|x :: l,s=>by
  rw[List.foldl_cons,zc8 k y l]
  simp only[List.mem_cons,forall_eq_or_imp]
  cases ibit x.there k
  .simp
  .rw[if_pos rfl]
   constructor
   .rintro⟨h1,h2⟩;exact⟨by omega,fun _=>by omega,h2⟩
   .rintro⟨h1,h2,h3⟩;exact⟨by have:=h2 rfl;omega,h3⟩
theorem zdc(k:Nat)(y:Int):∀(l:List Look) (s:Int),y<l.foldl (fun s x=>if ibit x.gone k then min s x.h else s) s↔y<s/\∀ x∈l,ibit x.gone k=true->y<x.h
|[],s=>by simp
|x :: l,s=>by
  rw[List.foldl_cons,zdc k y l]
  simp only[List.mem_cons,forall_eq_or_imp]
  cases ibit x.gone k
  .simp
  .rw[if_pos rfl]
   constructor
   .rintro⟨h1,h2⟩;exact⟨by omega,fun _=>by omega,h2⟩
   .rintro⟨h1,h2,h3⟩;exact⟨by have:=h2 rfl;omega,h3⟩
def InW(l:List Look)(k:Nat)(h:Int):Prop:=0<=h/\h<=mxH/\∀ x∈l,(ibit x.there k=true->x.h<=h)/\(ibit x.gone k=true->h<x.h)
theorem zd6(l:List Look)(k:Nat)(h:Int):InW l k h↔seenS l k<=h/\h<goneS l k:=by
 unfold InW seenS goneS
 rw[zc8,zdc]
 constructor
 .rintro⟨h1,h2,h3⟩
  exact⟨⟨h1,fun x hx=>(h3 x hx).1⟩,by omega,fun x hx=>(h3 x hx).2⟩
 .rintro⟨⟨h1,h2⟩,h3,h4⟩
  exact⟨h1,by omega,fun x hx=>⟨h2 x hx,h4 x hx⟩⟩
theorem zeM(l:List Look)(k:Nat):0<=seenS l k:=Classical.byContradiction fun hn=>by
 have h1:seenS l k<=-1:=by omega
 unfold seenS at h1
 rw[zc8] at h1
 have:=h1.1;omega
theorem zi5{l:List Look}{k:Nat}(hl:∀ x∈l,x.h<=mxH):seenS l k<=mxH:=by
 unfold seenS
 rw[zc8]
 exact⟨by decide,fun x hx _=>hl x hx⟩
theorem zjK(l:List Look)(k:Nat):goneS l k<=mxH+1:=Classical.byContradiction fun hn=>by
 have h1:mxH+1<goneS l k:=by omega
 unfold goneS at h1
 rw[zdc] at h1
 have:=h1.1;omega
theorem ze4{l:List Look}{k:Nat}(hl:∀ x∈l,0<=x.h):0<=goneS l k:=by
 have:-1<goneS l k:=by
  unfold goneS
  rw[zdc]
  exact⟨by decide,fun x hx _=>by have:=hl x hx;omega⟩
 omega
def zaL(h:Int)(x:Loan):Bool:=decide (x.a<=h)&&decide (h<x.b)
def zbQ(l:List Loan)(h:Int):Option Int:=(l.find? (zaL h)).map Loan.p
def whoH(l:List Loan)(h:Int):Nat:=
 if h=mxH then 7 else match zbQ l h with
 |some p=>p.toNat
 |none=>6
def ovl(x:Loan)(lo hi:Int):Int:=min x.b hi-max x.a lo
def zca(lo hi:Int)(l:List Loan):Nat×Int:=l.foldl (fun s x=>if 0<ovl x lo hi then(s.1 ||| 2 ^ x.p.toNat,s.2+ovl x lo hi) else s) (0,0)
def susp(l:List Loan)(s:List Look)(k:Nat):Nat:=
 if goneS s k<=seenS s k then 0 else
  (zca (seenS s k) (min (goneS s k) mxH) l).1 ||| (if(zca (seenS s k) (min (goneS s k) mxH) l).2<min (goneS s k) mxH-seenS s k then 64 else 0) ||| (if goneS s k=mxH+1 then 128 else 0)
def cntH(P:Int->Bool)(lo:Int):Nat->Nat
|0=>0
|m+1=>cntH P lo m+if P (lo+m) then 1 else 0
theorem zlg{P:Int->Bool}{lo:Int}:∀{m:Nat},cntH P lo m<m↔∃ i:Nat,i<m/\P (lo+i)=false
|0=>⟨fun h=>by omega,fun⟨i,h,_⟩=>by omega⟩
|m+1=>by
  have ih:=zlg (P:=P) (lo:=lo) (m:=m)
  have hle:∀ m,cntH P lo m<=m:=fun m=>by
   induction m with
  |zero=>exact qQ _
  |succ m ih=>show cntH P lo m+(if P (lo+m) then 1 else 0)<=m+1;split <;> omega
  have:=hle m
  show cntH P lo m+(if P (lo+m) then 1 else 0)<m+1↔_
  cases h:P (lo+m)
  .rw[if_neg (by decide)]
   exact⟨fun _=>⟨m,by omega,h⟩,fun _=>by omega⟩
  .rw[if_pos rfl]
   constructor
   .intro h1
    obtain⟨i,hi,h2⟩:=ih.1 (by omega)
    exact⟨i,by omega,h2⟩
   .rintro⟨i,hi,h2⟩
    have:i≠m:=fun e=>by subst e;rw[h] at h2;cases h2
    have:=ih.2 ⟨i,by omega,h2⟩
    omega
theorem zil(x:Loan)(lo:Int):∀ m:Nat,(cntH (fun h=>zaL h x) lo m:Int)=max 0 (ovl x lo (lo+m))
|0=>by unfold ovl;show(0:Int)=_;omega
|m+1=>by
  have ih:=zil x lo m
  show((cntH (fun h=>zaL h x) lo m+(if zaL (lo+m) x then 1 else 0):Nat):Int)=_
  unfold ovl at ih ⊢
  have hi:zaL (lo+m) x=true↔x.a<=lo+m/\lo+m<x.b:=by unfold zaL;rw[Bool.and_eq_true,qC,qC]
  by_cases h:x.a<=lo+m/\lo+m<x.b
  .rw[if_pos (hi.2 h)]
   push_cast
   rw[ih];omega
  .rw[if_neg (fun e=>h (hi.1 e))]
   push_cast
   rw[Int.add_zero,ih]
   omega
theorem zlf{P Q:Int->Bool}{lo:Int}(hx:∀ h,¬(P h=true/\Q h=true)):∀ m:Nat,cntH (fun h=>P h||Q h) lo m=cntH P lo m+cntH Q lo m
|0=>rfl
|m+1=>by
  show cntH _ lo m+(if(P (lo+m)||Q (lo+m)) then 1 else 0)=cntH P lo m+(if P (lo+m) then 1 else 0)+(cntH Q lo m+(if Q (lo+m) then 1 else 0))
  rw[zlf hx m]
  have:=hx (lo+m)
  cases hp:P (lo+m) <;> cases hq:Q (lo+m)
  .simp
  .simp;omega
  .simp;omega
  .exact absurd ⟨hp,hq⟩ this
def zl5:List Loan->Prop
|[]=>True
|x :: l=>(∀ y∈l,zaG x y=false)/\zl5 l
theorem zjr{x y:Loan}(h:zaG x y=false)(t:Int):¬(zaL t x=true/\zaL t y=true):=by
 unfold zaG at h
 unfold zaL
 rw[Bool.and_eq_true,Bool.and_eq_true,qC,qC,qC,qC]
 rw[Bool.and_eq_false_iff,decide_eq_false_iff_not,decide_eq_false_iff_not] at h
 omega
def sumO(lo hi:Int):List Loan->Int
|[]=>0
|x :: l=>max 0 (ovl x lo hi)+sumO lo hi l
theorem zim(lo:Int)(m:Nat):∀ l:List Loan,zl5 l->(cntH (fun h=>l.any (zaL h)) lo m:Int)=sumO lo (lo+m) l
|[],_=>by
  have:∀ m,cntH (fun h=>([]:List Loan).any (zaL h)) lo m=0:=fun m=>by
   induction m with
  |zero=>rfl
  |succ m ih=>show cntH _ lo m+0=0;rw[ih]
  rw[this];rfl
|x :: l,h=>by
  have h1:=zlf (P:=fun h=>zaL h x) (Q:=fun h=>l.any (zaL h)) (lo:=lo) (fun t ht=>by
   obtain⟨y,hy,h2⟩:=List.any_eq_true.1 ht.2
   exact zjr (h.1 y hy) t ⟨ht.1,h2⟩) m
  have h2:(fun h=>(x :: l).any (zaL h))=fun h=>zaL h x||l.any (zaL h):=by funext t;rw[List.any_cons]
  rw[h2,h1]
  push_cast
  rw[zil,zim lo m l h.2];rfl
theorem zdS(lo hi:Int):∀(l:List Loan) (s:Nat×Int),(l.foldl (fun s x=>if 0<ovl x lo hi then(s.1 ||| 2 ^ x.p.toNat,s.2+ovl x lo hi) else s) s).2=s.2+sumO lo hi l/\∀ p,(l.foldl (fun s x=>if 0<ovl x lo hi then(s.1 ||| 2 ^ x.p.toNat,s.2+ovl x lo hi) else s) s).1.testBit p=true↔s.1.testBit p=true\/∃ x∈l,0<ovl x lo hi/\x.p.toNat=p
|[],s=>⟨by show s.2=s.2+0;omega,fun p=>by simp⟩
|x :: l,s=>by
  rw[List.foldl_cons]
  obtain⟨h1,h2⟩:=zdS lo hi l (if 0<ovl x lo hi then(s.1 ||| 2 ^ x.p.toNat,s.2+ovl x lo hi) else s)
  refine⟨?_,fun p=>?_⟩
  .rw[h1]
   show _=s.2+(max 0 (ovl x lo hi)+sumO lo hi l)
   by_cases h:0<ovl x lo hi
   .rw[if_pos h];show s.2+ovl x lo hi+_=_;omega
   .rw[if_neg h];omega
  .rw[h2]
   by_cases h:0<ovl x lo hi
   .rw[if_pos h]
    show(s.1 ||| 2 ^ x.p.toNat).testBit p=true\/_↔_
    rw[Nat.testBit_or,Bool.or_eq_true,Nat.testBit_two_pow,qC]
    constructor
    .rintro((h3|h3)|⟨y,hy,h3⟩)
     .exact .inl h3
     .exact .inr ⟨x,qE ..,h,h3⟩
     .exact .inr ⟨y,List.mem_cons_of_mem _ hy,h3⟩
    .rintro(h3|⟨y,hy,h3⟩)
     .exact .inl (.inl h3)
     .rcases List.mem_cons.1 hy with rfl|hy
      .exact .inl (.inr h3.2)
      .exact .inr ⟨y,hy,h3⟩
   .rw[if_neg h]
    constructor
    .rintro(h3|⟨y,hy,h3⟩)
     .exact .inl h3
     .exact .inr ⟨y,List.mem_cons_of_mem _ hy,h3⟩
    .rintro(h3|⟨y,hy,h3⟩)
     .exact .inl h3
     .rcases List.mem_cons.1 hy with rfl|hy
      .exact absurd h3.1 h
      .exact .inr ⟨y,hy,h3⟩
structure Lent(l:List Loan):Prop where
 good:∀ x∈l,0<=x.p/\x.p<6/\0<=x.a/\x.a<x.b/\x.b<=mxH
 apart:zl5 l
theorem zeX{m:Nat}(hm:m<=6):∀{e l:List Loan},zbm m e l=true->Lent l/\∀ x∈l,x.p<m/\∀ y∈e,zaG x y=false
|e,[],_=>⟨⟨fun _ h=>(by cases h),trivial⟩,fun _ h=>(by cases h)⟩
|e,x :: l,h=>by
  have h:(zcr m x&&!(e.any (zaG x))&&zbm m (e++[x]) l)=true:=h
  rw[Bool.and_eq_true,Bool.and_eq_true] at h
  obtain⟨⟨h1,h2⟩,h3⟩:=h
  obtain⟨h4,h5⟩:=zeX hm h3
  unfold zcr at h1
  simp only[Bool.and_eq_true,zb6] at h1
  have h2:∀ y∈e,zaG x y=false:=fun y hy=>by
   rw[Bool.not_eq_true',List.any_eq_false] at h2
   cases hc:zaG x y
   .rfl
   .exact absurd hc (h2 y hy)
  have aa:∀ x y:Loan,zaG x y=zaG y x:=fun x y=>by unfold zaG;rw[Bool.and_comm]
  refine⟨⟨fun y hy=>?_,fun y hy=>?_,h4.apart⟩,fun y hy=>?_⟩
  .rcases List.mem_cons.1 hy with rfl|hy
   .omega
   .exact h4.good y hy
  .rw[aa]
   exact(h5 y hy).2 x (List.mem_append_right _ (List.mem_singleton.2 rfl))
  .rcases List.mem_cons.1 hy with rfl|hy
   .exact⟨by omega,h2⟩
   .exact⟨(h5 y hy).1,fun z hz=>(h5 y hy).2 z (List.mem_append_left _ hz)⟩
theorem zlM{l:List Loan}(hl:Lent l){x:Loan}(hx:x∈l){h:Int}(hh:zaL h x=true):zbQ l h=some x.p:=by
 have ha:=hl.apart
 clear hl
 unfold zbQ
 induction l with
|nil=>cases hx
|cons y l ih=>
  rw[List.find?_cons]
  cases hy:zaL h y
  .rcases List.mem_cons.1 hx with rfl|hx
   .rw[hh] at hy;cases hy
   .exact ih hx ha.2
  .rcases List.mem_cons.1 hx with rfl|hx
   .rfl
   .exact absurd ⟨hy,hh⟩ (zjr (ha.1 x hx) h)
theorem zgi{l:List Loan}{h p:Int}(e:zbQ l h=some p):∃ x∈l,zaL h x=true/\x.p=p:=by
 unfold zbQ at e
 cases hf:l.find? (zaL h) with
|none=>rw[hf] at e;cases e
|some x=>
  rw[hf] at e
  have e:some x.p=some p:=e
  injection e with e
  exact⟨x,List.mem_of_find?_eq_some hf,List.find?_some hf,e⟩
theorem zgX{l:List Loan}{h:Int}:zbQ l h=none↔l.any (zaL h)=false:=by
 unfold zbQ
 rw[Option.map_eq_none_iff,List.find?_eq_none,List.any_eq_false]
theorem zpx{l:List Loan}(hl:Lent l)(h:Int):whoH l h<8:=by
 unfold whoH
 split
 .decide
 .cases e:zbQ l h with
 |none=>decide
 |some p=>
   obtain⟨x,hx,_,rfl⟩:=zgi e
   have:=hl.good x hx
   show x.p.toNat<8
   omega
theorem zdn{l:List Loan}{s:List Look}{k p:Nat}(hl:Lent l)(hs:∀ x∈s,0<=x.h/\x.h<=mxH):(susp l s k).testBit p=true↔∃ h,InW s k h/\whoH l h=p:=by
 have h1:=zeM s k
 have h2:=zi5 (l:=s) (k:=k) fun x hx=>(hs x hx).2
 have h3:=zjK s k
 have h4:=ze4 (l:=s) (k:=k) fun x hx=>(hs x hx).1
 unfold susp
 by_cases he:goneS s k<=seenS s k
 .rw[if_pos he,Nat.zero_testBit]
  constructor
  .intro h;cases h
  .rintro⟨h,hh,_⟩
   have:=(zd6 s k h).1 hh
   omega
 .rw[if_neg he]
  have h5:(zca (seenS s k) (min (goneS s k) mxH) l).2=sumO (seenS s k) (min (goneS s k) mxH) l:=by unfold zca;rw[(zdS (seenS s k) (min (goneS s k) mxH) l (0,0)).1];exact Int.zero_add _
  have h6:(zca (seenS s k) (min (goneS s k) mxH) l).1.testBit p=true↔∃ x∈l,0<ovl x (seenS s k) (min (goneS s k) mxH)/\x.p.toNat=p:=by
   unfold zca;rw[(zdS (seenS s k) (min (goneS s k) mxH) l (0,0)).2]
   show(0:Nat).testBit p=true\/_↔_
   rw[Nat.zero_testBit];simp
  have h7:(sumO (seenS s k) (min (goneS s k) mxH) l<min (goneS s k) mxH-seenS s k)↔∃ h,seenS s k<=h/\h<min (goneS s k) mxH/\zbQ l h=none:=by
   have h8:=zim (seenS s k) (min (goneS s k) mxH-seenS s k).toNat l hl.apart
   have h9:=zlg (P:=fun h=>l.any (zaL h)) (lo:=seenS s k) (m:=(min (goneS s k) mxH-seenS s k).toNat)
   rw[show seenS s k+((min (goneS s k) mxH-seenS s k).toNat:Int)=min (goneS s k) mxH by omega] at h8
   rw[<- h8]
   constructor
   .intro h
    obtain⟨i,hi,hp⟩:=h9.1 (by omega)
    exact⟨seenS s k+i,by omega,by omega,zgX.2 hp⟩
   .rintro⟨h,ha,hb,hc⟩
    have:=h9.2 ⟨(h-seenS s k).toNat,by omega,by rw[show seenS s k+((h-seenS s k).toNat:Int)=h by omega];exact zgX.1 hc⟩
    omega
  rw[Nat.testBit_or,Nat.testBit_or,Bool.or_eq_true,Bool.or_eq_true,h6,h5]
  have b6:(if sumO (seenS s k) (min (goneS s k) mxH) l<min (goneS s k) mxH-seenS s k then 64 else 0).testBit p=true↔(∃ h,seenS s k<=h/\h<min (goneS s k) mxH/\zbQ l h=none)/\p=6:=by
   rw[<- h7]
   by_cases h:sumO (seenS s k) (min (goneS s k) mxH) l<min (goneS s k) mxH-seenS s k
   .rw[if_pos h,show(64:Nat)=2 ^ 6 from rfl,Nat.testBit_two_pow,qC]
    exact⟨fun e=>⟨h,e.symm⟩,fun e=>e.2.symm⟩
   .rw[if_neg h,Nat.zero_testBit]
    exact⟨fun e=>(by cases e),fun e=>absurd e.1 h⟩
  have b7:(if goneS s k=mxH+1 then 128 else 0).testBit p=true↔goneS s k=mxH+1/\p=7:=by
   by_cases h:goneS s k=mxH+1
   .rw[if_pos h,show(128:Nat)=2 ^ 7 from rfl,Nat.testBit_two_pow,qC]
    exact⟨fun e=>⟨h,e.symm⟩,fun e=>e.2.symm⟩
   .rw[if_neg h,Nat.zero_testBit]
    exact⟨fun e=>(by cases e),fun e=>absurd e.1 h⟩
  rw[b6,b7]
  clear b6 b7 h7 h5 h6
  constructor
  .rintro((⟨x,hx,ho,hp⟩|⟨⟨h,ha,hb,hc⟩,rfl⟩)|⟨hg,rfl⟩)
   .unfold ovl at ho
    have ab:=hl.good x hx
    refine⟨max x.a (seenS s k),(zd6 s k _).2 ⟨by omega,by omega⟩,?_⟩
    unfold whoH
    rw[if_neg (by omega),zlM hl hx (h:=max x.a (seenS s k)) (by unfold zaL;rw[Bool.and_eq_true,qC,qC];omega)]
    exact hp
   .refine⟨h,(zd6 s k h).2 ⟨ha,by omega⟩,?_⟩
    unfold whoH
    rw[if_neg (by omega),hc]
   .exact⟨mxH,(zd6 s k _).2 ⟨h2,by omega⟩,if_pos rfl⟩
  .rintro⟨h,hh,hp⟩
   obtain⟨ha,hb⟩:=(zd6 s k h).1 hh
   unfold whoH at hp
   by_cases e:h=mxH
   .rw[if_pos e] at hp
    exact .inr ⟨by omega,hp.symm⟩
   .rw[if_neg e] at hp
    have hm:=hh.2.1
    cases ho:zbQ l h with
   |none=>
     rw[ho] at hp
     exact .inl (.inr ⟨⟨h,ha,by omega,ho⟩,hp.symm⟩)
   |some q=>
     rw[ho] at hp
     have hp:q.toNat=p:=hp
     obtain⟨x,hx,aa,rfl⟩:=zgi ho
     unfold zaL at aa
     rw[Bool.and_eq_true,qC,qC] at aa
     exact .inl (.inl ⟨x,hx,by unfold ovl;omega,hp⟩)
def zbY(t:Tl)(k p:Nat):Bool:=has (susp t.loans t.looks k) p
def fitB(t:Tl):Bool:=canB (zbY t) t.n.toNat t.admits
def whoB(t:Tl)(k p:Nat):Bool:=canB (zgO (zbY t) k p) t.n.toNat t.admits
def whoS(t:Tl)(k:Int):Nat×Int:=
 if zaN t=false then(0,1) else if inS k 0 (t.n-1)=false then(0,2) else if fitB t=false then(0,6) else(setB (whoB t k.toNat) 8,0)
def zbL(t:Tl)(p:Nat)(v:Int):Tl:={ t with admits:=t.admits.set p v }
def zax(t:Tl)(p:Nat):Nat->Int×Int×Bool
|0=>(0,0,false)
|n+1=>let x:=zax t p n
  if fitB (zbL t p n) then(if x.2.2 then x.1 else(n:Int),(n:Int),true) else x
def zaX(t:Tl)(p:Int):(Int×Int)×Int:=
 if zaN t=false then((0,0),1) else if inS p 0 ((t.admits.length:Int)-1)=false then((0,0),2) else if fitB t=false then((0,0),6) else
 if t.admits.getD p.toNat 0≠-1 then((t.admits.getD p.toNat 0,t.admits.getD p.toNat 0),0) else
 (((zax t p.toNat (t.n.toNat+1)).1,(zax t p.toNat (t.n.toNat+1)).2.1),0)
def zaW(t:Tl):Nat->Option Nat
|0=>none
|i+1=>match zaW t i with
 |some j=>some j
 |none=>if(List.range t.n.toNat).any (fun k=>decide (goneS (t.looks.take (i+1)) k<=seenS (t.looks.take (i+1)) k)) then some i else none
def zby(t:Tl):Int×Int:=
 if zaN t=false then(0,1) else match zaW t t.looks.length with
 |some i=>(i,0)
 |none=>if fitB t=false then(t.looks.length,0) else(0,4)
theorem zfX{t:Tl}(hl:Lent t.loans)(hs:∀ x∈t.looks,0<=x.h/\x.h<=mxH)(k p:Nat)(h:zbY t k p=true):p<8:=by
 obtain⟨x,_,rfl⟩:=(zdn hl hs).1 h
 exact zpx hl x
theorem zcA{t:Tl}(hl:Lent t.loans)(hs:∀ x∈t.looks,0<=x.h/\x.h<=mxH):fitB t=true↔Fit t.n.toNat (zbY t) (admA t.admits):=zdB (zfX hl hs)
theorem ziT{t:Tl}(hl:Lent t.loans)(hs:∀ x∈t.looks,0<=x.h/\x.h<=mxH){k p:Nat}(hk:k<t.n.toNat):whoB t k p=true↔∃ f,FitBy t.n.toNat (zbY t) (admA t.admits) f/\f k=p:=by
 rw[<- znZ hk]
 refine zdB fun i q h=>zfX hl hs i q ?_
 unfold zgO at h
 rw[Bool.and_eq_true] at h
 exact h.1
end Le
namespace Bo
open Go
abbrev Tx:=List UInt8
def zlL(c:UInt8):Prop:=48<=c.toNat/\c.toNat<=57
theorem zik{u:Nat}(h:u<10):Lib.decDigits u=[UInt8.ofNat (48+u)]:=by rw[Lib.decDigits,dif_pos h]
theorem zql{u:Nat}(h:¬ u<10):Lib.decDigits u=Lib.decDigits (u / 10)++[UInt8.ofNat (48+u % 10)]:=by rw[Lib.decDigits,dif_neg h]
def zb8(acc:Nat):Tx->Nat
|[]=>acc
|c :: l=>zb8 (acc*10+(c.toNat-48)) l
theorem zmi(l m:Tx):∀ acc,zb8 acc (l++m)=zb8 (zb8 acc l) m:=by
 induction l with
|nil=>intro acc;rfl
|cons c l ih=>intro acc;exact ih _
theorem zi1(l:Tx)(hd:∀ c∈l,zlL c):∀ acc,zb8 acc l<(acc+1)*10 ^ l.length:=by
 induction l with
|nil=>intro acc;show acc<(acc+1)*1;omega
|cons c l ih=>
  intro acc
  have hc:=hd c (qE ..)
  have h1:=ih (fun x hx=>hd x (List.mem_cons_of_mem _ hx)) (acc*10+(c.toNat-48))
  show zb8 (acc*10+(c.toNat-48)) l<(acc+1)*10 ^ (l.length+1)
  have h2:(acc*10+(c.toNat-48)+1)*10 ^ l.length<=(acc+1)*10*10 ^ l.length:=Nat.mul_le_mul_right _ (by unfold zlL at hc;omega)
  rw[Nat.pow_succ,Nat.mul_comm (10 ^ l.length) 10,<- Nat.mul_assoc]
  omega
theorem zom(u:Nat):Lib.itoa (u:Int)=Lib.decDigits u:=by unfold Lib.itoa;rw[if_neg (by omega),Int.toNat_natCast]
def digB(c:UInt8):Bool:=decide (48<=c.toNat)&&decide (c.toNat<=57)
def zas(c:UInt8):Tx->List Tx
|[]=>[[]]
|b :: l=>if b=c then[] :: zas c l else match zas c l with
 |[]=>[[b]]
 |x :: r=>(b :: x) :: r
def putC(b:UInt8):List Tx->List Tx
|[]=>[[b]]
|x :: r=>(b :: x) :: r
theorem zcb(c b:UInt8)(l:Tx):zas c (b :: l)=if b=c then[] :: zas c l else putC b (zas c l):=by
 show(if b=c then[] :: zas c l else match zas c l with
 |[]=>[[b]]
 |x :: r=>(b :: x) :: r)=_
 cases zas c l <;> rfl
theorem zcB(c:UInt8)(l:Tx):zas c l≠[]:=by
 cases l with
|nil=>exact List.cons_ne_nil _ _
|cons b l=>
  unfold zas
  split
  .exact List.cons_ne_nil _ _
  .split <;> exact List.cons_ne_nil _ _
theorem zdO{c:UInt8}:∀{l:Tx},c∉l->zas c l=[l]
|[],_=>rfl
|b :: l,h=>by
  rw[zcb,if_neg (fun e=>h (by rw[<- e];exact qE ..)),zdO (fun e=>h (List.mem_cons_of_mem _ e))];rfl
theorem zdP{c:UInt8}(l:Tx):∀{x:Tx},c∉x->zas c (x++c :: l)=x :: zas c l
|[],_=>by show zas c (c :: l)=_;rw[zcb,if_pos rfl]
|b :: x,h=>by
  show zas c (b :: (x++c :: l))=_
  rw[zcb,if_neg (fun e=>h (by rw[<- e];exact qE ..)),zdP l (fun e=>h (List.mem_cons_of_mem _ e))];rfl
theorem zef{c:UInt8}:∀ s:Tx,c∈s->∃ x l,s=x++c :: l/\c∉x
|[],h=>by cases h
|b :: s,h=>by
  by_cases e:b=c
  .subst e;exact⟨[],s,rfl,fun h=>by cases h⟩
  .obtain⟨x,l,e2,hx⟩:=zef s ((List.mem_cons.1 h).resolve_left (fun e'=>e e'.symm))
   exact⟨b :: x,l,by rw[e2];rfl,fun h'=>(List.mem_cons.1 h').elim (fun e'=>e e'.symm) hx⟩
theorem zmW{c:UInt8}{x:Tx}(l:Tx)(h:c∉x):Lib.index (x++c :: l) [c]=x.length:=by
 refine Lib.index_first (by rw[qD];omega) ?_ ?_
 .unfold Lib.occAt
  rw[List.drop_left]
  show(c==c&&([]:Tx).isPrefixOf l)=true
  rw[beq_self_eq_true];rfl
 .intro j hj
  unfold Lib.occAt
  rw[List.drop_append_of_le_length (by omega)]
  cases e:x.drop j with
 |nil=>
   have:=congrArg List.length e
   rw[List.length_drop] at this
   exact absurd this (by simp;omega)
 |cons b t=>
   show(c==b&&_)=false
   have:¬ c=b:=fun e2=>h (by rw[e2];exact List.mem_of_mem_drop (i:=j) (by rw[e];exact qE ..))
   rw[beq_false_of_ne this];rfl
theorem ziZ(c:UInt8):∀(n:Nat) (s:Tx),s.length<=n->Lib.split s [c]=zas c s
|0,s,hn=>by
  have:s=[]:=List.eq_nil_of_length_eq_zero (by omega)
  subst this
  rfl
|n+1,s,hn=>by
  by_cases h:c∈s
  .obtain⟨x,l,rfl,hx⟩:=zef s h
   have hc:Lib.count (x++c :: l) [c]=Lib.count l [c]+1:=by
    rw[Lib.count_one,Lib.count_one,List.count_append,List.count_cons_self,List.count_eq_zero.2 hx];omega
   rw[zdP l hx]
   unfold Lib.split
   rw[hc]
   unfold Lib.splitK
   rw[zmW l hx]
   have e1:((x.length:Int)==-1)=false:=by rw[beq_eq_false_iff_ne];omega
   rw[e1,if_neg (by decide),Int.toNat_natCast,Nat.add_zero]
   rw[List.take_left,show x.length+([c]:Tx).length=x.length+1 from rfl,<- List.drop_drop,List.drop_left]
   have ih:=ziZ c n l (by rw[qD,List.length_cons] at hn;omega)
   unfold Lib.split at ih
   show x :: Lib.splitK [c] 0 (Lib.count l [c]) l=_
   rw[ih]
  .rw[zdO h]
   unfold Lib.split
   have hc:Lib.count s [c]=0:=by rw[Lib.count_one,List.count_eq_zero.2 h]
   rw[hc];rfl
def glue(c:UInt8):List Tx->Tx
|[]=>[]
|[x]=>x
|x :: y :: r=>x++c :: glue c (y :: r)
theorem zib(c:UInt8):∀ ws:List Tx,Lib.join ws [c]=glue c ws
|[]=>rfl
|[x]=>Lib.join_one x [c]
|x :: y :: r=>by
  have ih:=zib c (y :: r)
  rw[Lib.join_cons] at ih ⊢
  show x++([c]++y++Lib.joinTail [c] r)=x++c :: glue c (y :: r)
  rw[<- ih];rfl
def zc0(s:Tx):List Tx:=if(zas 10 s).getLast?=some [] then(zas 10 s).dropLast else zas 10 s
theorem zkw{x:Tx}(l:Tx)(h:(10:UInt8)∉x):zc0 (x++10 :: l)=x :: zc0 l:=by
 unfold zc0
 rw[zdP l h]
 have aa:=zcB 10 l
 cases e:zas 10 l with
|nil=>exact absurd e aa
|cons y r=>
  rw[List.getLast?_cons_cons,List.dropLast_cons_cons]
  split <;> rfl
theorem zkv{x:Tx}(h:(10:UInt8)∉x)(hx:x≠[]):zc0 x=[x]:=by
 unfold zc0
 rw[zdO h]
 rw[if_neg (fun e=>by injection e with e;exact hx e)]
end Bo
section
abbrev Tx:=List UInt8
inductive Pa
|w (s:Tx)
|n (i:Int)
def Pa.tx:Pa->Tx
|.w s=>s
|.n i=>Lib.itoa i
def rep(l:List Pa):Tx:=Bo.glue 32 (l.map Pa.tx)
def figS(s:Tx):Option Int:=if s=[]\/13<s.length\/(s≠[48]/\s.head?=some 48)\/s.all Bo.digB=false then none else some ((Bo.zb8 0 s:Nat):Int)
def zaP:List Tx->Option (List Int)
|[]=>some []
|x :: l=>match figS x,zaP l with
 |some n,some r=>some (n :: r)
 |_,_=>none
inductive Vb
|hour|drop|cut|join|lines|make|bend|off|lend|back|seen|admit|who|lost
deriving DecidableEq
def Vb.name:Vb->Tx
|.hour=>[104,111,117,114]
|.drop=>[100,114,111,112]
|.cut=>[99,117,116]
|.join=>[106,111,105,110]
|.lines=>[108,105,110,101,115]
|.make=>[109,97,107,101]
|.bend=>[98,101,110,100]
|.off=>[111,102,102]
|.lend=>[108,101,110,100]
|.back=>[98,97,99,107]
|.seen=>[115,101,101,110]
|.admit=>[97,100,109,105,116]
|.who=>[119,104,111]
|.lost=>[108,111,115,116]
def Vb.all:List Vb:=[.hour,.drop,.cut,.join,.lines,.make,.bend,.off,.lend,.back,.seen,.admit,.who,.lost]
def Vb.many:Vb->Int
|.hour=>1|.drop=>0|.cut=>-1|.join=>3|.lines=>1|.make=>2|.bend=>1|.off=>1|.lend=>1|.back=>0|.seen=>2|.admit=>2|.who=>1|.lost=>1
def Vb.clock:Vb->Bool
|.hour=>true
|.drop=>true
|_=>false
def vbOf(s:Tx):Option Vb:=Vb.all.find? (fun v=>decide (v.name=s))
structure En where
 v:Vb
 n:List Int
def zbF(v:Vb)(n:List Int):Bool:=
 if v=.cut then decide (2<=n.length)&&(decide (n.getD 0 0<=400)&&(decide (n.getD 1 0<=400)&&decide ((n.length:Int)=2+n.getD 0 0*n.getD 1 0)))
 else decide ((n.length:Int)=v.many)
def entS:List Tx->Option En
|[]=>none
|a :: r=>match vbOf a,zaP r with
 |some v,some n=>if zbF v n=true then some ⟨v,n⟩ else none
 |_,_=>none
def atT:Tx:=[97,116]
inductive Cmd
|do_ (e:En)
|at_ (h:Int) (e:En)
def cmdW:List Tx->Option Cmd
|a :: h :: b :: r=>if a=atT then(match figS h,entS (b :: r) with
  |some n,some e=>if e.v.clock=true then none else some (.at_ n e)
  |_,_=>none) else(entS (a :: h :: b :: r)).map .do_
|l=>if l.head?=some atT then none else(entS l).map .do_
def cmdS(t:Tx):Option Cmd:=cmdW (Bo.zas 32 t)
structure Ct where
 w:Int
 h:Int
 p:List Int
noncomputable def Ct.c(x:Ct):Cu.Cut:=⟨x.w,x.h,x.p,none,0⟩
structure Bt where
 cut:Int
 n:Int
structure Pn where
 hour:Int
 num:Int
 e:En
structure Bk where
 hour:Int
 cuts:List Ct
 ran:List Int
 made:List Bt
 t:Le.Tl
 cost:Int
 opn:Bool
structure St where
 b:Bk
 plans:List Pn
 planned:Int
abbrev ResB:=Except Int (Bk×Tx)
abbrev Res:=Except Int (St×Tx)
def wd(s:Tx):Pa:=.w s
def zdX:Tx:=[112,105,101,99,101,115]
def zgD:Tx:=[109,97,100,101]
def zgE:Tx:=[99,111,115,116]
def zc6:Tx:=[112,108,97,110]
def wErr:Tx:=[101,114,114,111,114]
def fitE(t:Le.Tl):Int:=if(Le.zby t).2=0 then 6 else if(Le.zby t).2=4 then 0 else(Le.zby t).2
def farS(d:Ru.Die)(k:Int):Nat->List Int->Int->Except Int Int
|_,[],far=>.ok far
|i,r :: l,far=>if(Ru.offS d i (r+k)).2≠0 then .error (Ru.offS d i (r+k)).2 else farS d k (i+1) l (max far (Ru.offS d i (r+k)).1.2)
noncomputable def doV(d:Ru.Die)(s:Bk)(v:Vb)(n:List Int):ResB:=
 let a:=n.getD 0 0
 let b:=n.getD 1 0
 match v with
|.cut=>
  let c:Ct:=⟨a,b,n.drop 2⟩
  if 6<=s.cuts.length then .error 9
  else if(Cu.checkS c.c).2≠0 then .error (Cu.checkS c.c).2
  else .ok ({ s with cuts:=s.cuts++[c] },rep [wd Vb.cut.name,.n s.cuts.length,wd zdX,.n (Cu.checkS c.c).1])
|.join=>
  if(s.cuts.length:Int)<=a then .error 2
  else if s.made.any (fun x=>decide (x.cut=a))=true then .error 6
  else
   let c:=(s.cuts.getD a.toNat ⟨0,0,[]⟩).c
   let o:Ct:=⟨c.wide,c.high,Cu.za6 c b (n.getD 2 0)⟩
   if Cu.zbb c b (n.getD 2 0)≠0 then .error (Cu.zbb c b (n.getD 2 0))
   else if(Cu.checkS o.c).2≠0 then .error (Cu.checkS o.c).2
   else .ok ({ s with cuts:=s.cuts.set a.toNat o },rep [wd Vb.join.name,.n (Cu.checkS o.c).1])
|.lines=>
  if(s.cuts.length:Int)<=a then .error 2
  else
   let c:=(s.cuts.getD a.toNat ⟨0,0,[]⟩).c
   if Cu.cutE c≠0 then .error (Cu.cutE c)
   else .ok (s,rep [wd Vb.lines.name,.n (Cu.zan c).1,.n (Cu.zan c).2.1,.n (Cu.zan c).2.2.1,.n (Cu.zan c).2.2.2])
|.make=>
  if 12<=s.made.length then .error 9
  else if(s.cuts.length:Int)<=a then .error 2
  else if ¬(1<=b/\b<=1000) then .error 2
  else match farS d b 0 s.ran 0 with
  |.error e=>.error e
  |.ok far=>if d.bound<far then .error 11
    else .ok ({ s with ran:=s.ran.map (·+b),made:=s.made++[⟨a,b⟩] },rep [wd zgD,.n ((s.made.length:Int)+1),wd Vb.off.name,.n far])
|.bend=>
  if(s.ran.length:Int)<=a then .error 2
  else .ok ({ s with ran:=s.ran.set a.toNat 0,cost:=s.cost+(d.stop+d.bend) },rep [wd Vb.bend.name,.n a,wd zgE,.n (s.cost+(d.stop+d.bend))])
|.off=>
  if(s.ran.length:Int)<=a then .error 2
  else
   let o:=Ru.offS d a (s.ran.getD a.toNat 0)
   if o.2≠0 then .error o.2
   else .ok (s,rep [wd Vb.off.name,.n (s.ran.getD a.toNat 0),.n o.1.1,.n o.1.2])
|.lend=>
  if(s.t.admits.length:Int)<=a then .error 2
  else if s.opn=true then .error 6
  else if 12<=s.t.loans.length then .error 9
  else .ok ({ s with t:={ s.t with loans:=s.t.loans++[⟨a,s.hour,1048576⟩] },opn:=true },rep [wd Vb.lend.name,.n a])
|.back=>
  let x:=s.t.loans.getD (s.t.loans.length-1) ⟨0,0,0⟩
  let t:Le.Tl:={ s.t with loans:=s.t.loans.set (s.t.loans.length-1) ⟨x.p,x.a,s.hour⟩ }
  if s.opn=false then .error 4
  else if s.hour<=x.a then .error 7
  else if fitE t≠0 then .error (fitE t)
  else .ok ({ s with t:=t,opn:=false },rep [wd Vb.back.name,.n x.p])
|.seen=>
  let t:Le.Tl:={ s.t with looks:=s.t.looks++[⟨s.hour,a,b⟩] }
  if 20<=s.t.looks.length then .error 9
  else if fitE t≠0 then .error (fitE t)
  else .ok ({ s with t:=t },rep [wd Vb.seen.name,.n ((s.t.looks.length:Int)+1)])
|.admit=>
  let t:Le.Tl:={ s.t with admits:=s.t.admits.set a.toNat b }
  if ¬(a<s.t.admits.length/\b<=16) then .error 2
  else if s.t.admits.getD a.toNat 0≠-1 then .error 5
  else if fitE t≠0 then .error (fitE t)
  else .ok ({ s with t:=t },rep [wd Vb.admit.name,.n a,.n b])
|.who=>
  if(Le.whoS s.t a).2≠0 then .error (Le.whoS s.t a).2
  else .ok (s,rep [wd Vb.who.name,.n ((Le.whoS s.t a).1:Nat)])
|.lost=>
  if(Le.zaX s.t a).2≠0 then .error (Le.zaX s.t a).2
  else .ok (s,rep [wd Vb.lost.name,.n (Le.zaX s.t a).1.1,.n (Le.zaX s.t a).1.2])
|_=>.error 8
def Pn.lt(p o:Pn):Bool:=if p.hour≠o.hour then decide (p.hour<o.hour) else decide (p.num<o.num)
def putP(x:Pn):List Pn->List Pn
|[]=>[x]
|p :: l=>if p.hour<=x.hour then p :: putP x l else x :: p :: l
def zcw(best:Nat)(bn:Int)(i:Nat):List Pn->Nat
|[]=>best
|p :: l=>if bn<p.num then zcw i p.num (i+1) l else zcw best bn (i+1) l
def zbx:List Pn->Nat
|[]=>0
|p :: l=>zcw 0 p.num 1 l
noncomputable def runP(d:Ru.Die)(h:Int):List Pn->Bk->Int->Int->Bk×List Pn×Int×Int
|[],s,m,k=>(s,[],m,k)
|p :: l,s,m,k=>if p.hour<=h then(match doV d { s with hour:=p.hour } p.e.v p.e.n with
  |.ok (s',_)=>runP d h l s' (m+1) k
  |.error _=>runP d h l { s with hour:=p.hour } (m+1) (k+1)) else(s,p :: l,m,k)
noncomputable def cmdV(d:Ru.Die)(s:St):Cmd->Res
|.do_ e=>
  if e.v=.hour then
   let a:=e.n.getD 0 0
   let r:=runP d a s.plans s.b 0 0
   if ¬(s.b.hour<=a/\a<=1048575) then .error 7
   else .ok (⟨{ r.1 with hour:=a },r.2.1,s.planned⟩,rep [wd Vb.hour.name,.n a,.n r.2.2.1,.n r.2.2.2])
  else if e.v=.drop then
   if s.plans=[] then .error 4
   else .ok (⟨s.b,s.plans.eraseIdx (zbx s.plans),s.planned⟩,rep [wd zc6,.n (s.plans.eraseIdx (zbx s.plans)).length])
  else match doV d s.b e.v e.n with
  |.ok (b,t)=>.ok (⟨b,s.plans,s.planned⟩,t)
  |.error x=>.error x
|.at_ h e=>
  if ¬(s.b.hour+1<=h/\h<=1048575) then .error 7
  else if 8<=s.plans.length then .error 9
  else .ok (⟨s.b,putP ⟨h,s.planned,e⟩ s.plans,s.planned+1⟩,rep [wd zc6,.n ((s.plans.length:Int)+1)])
noncomputable def zbZ(d:Ru.Die)(s:St)(t:Tx):Res:=
 if 400<t.length then .error 3
 else match cmdS t with
 |none=>.error 8
 |some c=>cmdV d s c
noncomputable def lineS(d:Ru.Die)(s:St)(t:Tx):St×Tx×Int:=match zbZ d s t with
|.ok (s',r)=>(s',r,0)
|.error e=>(s,[],e)
def newS(d:Ru.Die)(pieces persons:Int):Option St:=
 if Ru.dieS d=true/\(1<=pieces/\pieces<=16)/\(1<=persons/\persons<=6) then
  some ⟨⟨0,[],List.replicate d.blades.length 0,[],⟨pieces,[],[],List.replicate persons.toNat (-1)⟩,0,false⟩,[],0⟩
 else none
noncomputable def playS(d:Ru.Die):St->List Tx->Tx
|_,[]=>[]
|s,l :: ls=>(if(lineS d s l).2.2=0 then(lineS d s l).2.1 else rep [wd wErr,.n (lineS d s l).2.2])++10 :: playS d (lineS d s l).1 ls
def zcT(t:Tx):List Tx:=(Bo.zas 10 t).dropLast
noncomputable def runS(d:Ru.Die)(pieces persons:Int)(t:Tx):Tx×Int:=
 if 131072<t.length then([],3)
 else if t≠[]/\t.getLast?≠some 10 then([],8)
 else match newS d pieces persons with
 |none=>([],1)
 |some s=>(playS d s (zcT t),0)
end
namespace Hp
variable {α:Type}
def swapL(l:List α)(i j:Nat):List α:=if h:i<l.length/\j<l.length then(l.set i l[j]).set j l[i] else l
theorem swapL_len(l:List α)(i j:Nat):(swapL l i j).length=l.length:=by unfold swapL;split <;> simp
theorem zaS{l:List α}{i j k:Nat}(hi:i<l.length)(hj:j<l.length):(swapL l i j)[k]?=if k=j then l[i]? else if k=i then l[j]? else l[k]?:=by
 unfold swapL
 rw[dif_pos ⟨hi,hj⟩]
 by_cases e:k=j
 .subst e;rw[if_pos rfl,List.getElem?_set_self (by simpa using hj),qN hi]
 .rw[if_neg e,List.getElem?_set_ne (fun h=>e h.symm)]
  by_cases e2:k=i
  .subst e2;rw[if_pos rfl,List.getElem?_set_self hi,qN hj]
  .rw[if_neg e2,List.getElem?_set_ne (fun h=>e2 h.symm)]
theorem swapL_perm(l:List α)(i j:Nat):(swapL l i j).Perm l:=by
 unfold swapL
 split
 .rename_i h
  have h1:(l.set i l[j]).set j l[i]=(l.toArray.swap i j h.1 h.2).toList:=by simp[Array.swap]
  rw[h1]
  have h2:=Array.swap_perm (xs:=l.toArray) (i:=i) (j:=j) h.1 h.2
  exact Array.perm_iff_toList_perm.1 h2
 .exact List.Perm.refl _
structure Lt(lt:α->α->Bool):Prop where
 ntr:∀{a b c},lt b a=false->lt c b=false->lt c a=false
 asy:∀{a b},lt a b=true->lt b a=false
theorem Lt.ir{lt:α->α->Bool}(h:Lt lt)(a:α):lt a a=false:=by
 cases e:lt a a
 .rfl
 .exact(h.asy e).symm.trans e |>.symm▸rfl
def Ge(lt:α->α->Bool)(l:List α)(i k:Nat):Prop:=∀ x y,l[i]?=some x->l[k]?=some y->lt y x=false
def HeapOk(lt:α->α->Bool)(l:List α):Prop:=∀ k,0<k->Ge lt l ((k-1) / 2) k
def upL(lt:α->α->Bool)(l:List α)(j:Nat):List α:=
 if _hj:j=0 then l else match l[j]?,l[(j-1) / 2]? with
 |some y,some x=>if lt y x=true then upL lt (swapL l ((j-1) / 2) j) ((j-1) / 2) else l
 |_,_=>l
termination_by j
decreasing_by omega
structure UpOk(lt:α->α->Bool)(l:List α)(j:Nat):Prop where
 ok:∀ k,0<k->k≠j->Ge lt l ((k-1) / 2) k
 ch:∀ k,0<k->0<j->(k-1) / 2=j->Ge lt l ((j-1) / 2) k
theorem get_of{l:List α}{k:Nat}(h:k<l.length):∃ x,l[k]?=some x:=⟨_,qN h⟩
theorem upL_len(lt:α->α->Bool):∀(j:Nat) (l:List α),(upL lt l j).length=l.length:=by
 intro j
 induction j using Nat.strongRecOn with
|ind j ih=>
  intro l
  unfold upL
  split
  .rfl
  .split
   .split
    .rw[ih _ (by omega),swapL_len]
    .rfl
   .rfl
theorem upL_perm(lt:α->α->Bool):∀(j:Nat) (l:List α),(upL lt l j).Perm l:=by
 intro j
 induction j using Nat.strongRecOn with
|ind j ih=>
  intro l
  unfold upL
  split
  .exact .refl _
  .split
   .split
    .exact(ih _ (by omega) _).trans (swapL_perm _ _ _)
    .exact .refl _
   .exact .refl _
theorem zl9{lt:α->α->Bool}(hl:Lt lt):∀(j:Nat) (l:List α),j<l.length->UpOk lt l j->HeapOk lt (upL lt l j):=by
 intro j
 induction j using Nat.strongRecOn with
|ind j ih=>
  intro l hj h
  unfold upL
  split
  .rename_i e
   subst e
   exact fun k hk=>h.ok k hk (by omega)
  .rename_i e
   obtain⟨y,hy⟩:=get_of hj
   obtain⟨x,hx⟩:=get_of (show(j-1) / 2<l.length by omega)
   rw[hy,hx]
   dsimp only
   split
   .rename_i hlt
    refine ih _ (by omega) _ (by rw[swapL_len];omega) ⟨fun k hk ab=>?_,fun k hk h0 hp=>?_⟩
    .intro a b ha hb
     rw[zaS (by omega) hj] at ha hb
     by_cases e1:k=j
     .subst e1
      rw[if_neg (by omega),if_pos rfl,hy] at ha
      rw[if_pos rfl,hx] at hb
      injection ha with ha;injection hb with hb
      subst ha hb
      exact hl.asy hlt
     .rw[if_neg e1,if_neg ab] at hb
      by_cases e2:(k-1) / 2=j
      .rw[if_pos e2,hx] at ha
       injection ha with ha
       subst ha
       exact h.ch k hk (by omega) e2 _ _ hx hb
      .rw[if_neg e2] at ha
       by_cases e3:(k-1) / 2=(j-1) / 2
       .rw[if_pos e3,hy] at ha
        injection ha with ha
        subst ha
        exact hl.ntr (hl.asy hlt) (h.ok k hk e1 _ _ (by rw[e3];exact hx) hb)
       .rw[if_neg e3] at ha
        exact h.ok k hk e1 _ _ ha hb
    .intro a b ha hb
     rw[zaS (by omega) hj] at ha hb
     rw[if_neg (by omega),if_neg (by omega)] at ha
     have aa:=h.ok ((j-1) / 2) (by omega) (by omega) _ _ ha hx
     by_cases e1:k=j
     .rw[if_pos e1,hx] at hb
      injection hb with hb
      subst hb
      exact aa
     .rw[if_neg e1,if_neg (by omega)] at hb
      exact hl.ntr aa (h.ok k hk e1 _ _ (by rw[hp];exact hx) hb)
   .rename_i hlt
    intro k hk
    by_cases e1:k=j
    .subst e1
     intro a b ha hb
     rw[hx] at ha;rw[hy] at hb
     injection ha with ha;injection hb with hb
     subst ha hb
     simpa using hlt
    .exact h.ok k hk e1
def kid(lt:α->α->Bool)(l:List α)(i n:Nat):Nat:=
 if 2*i+2<n then(match l[2*i+2]?,l[2*i+1]? with
 |some y,some x=>if lt y x=true then 2*i+2 else 2*i+1
 |_,_=>2*i+1) else 2*i+1
theorem ze0(lt:α->α->Bool)(l:List α)(i n:Nat):kid lt l i n=2*i+1\/(kid lt l i n=2*i+2/\2*i+2<n):=by
 unfold kid
 split
 .split
  .split
   .exact .inr ⟨rfl,by assumption⟩
   .exact .inl rfl
  .exact .inl rfl
 .exact .inl rfl
def downL(lt:α->α->Bool)(l:List α)(i n:Nat):List α×Nat:=
 if _hn:n<=2*i+1 then(l,i) else match l[kid lt l i n]?,l[i]? with
 |some y,some x=>if lt y x=true then downL lt (swapL l i (kid lt l i n)) (kid lt l i n) n else(l,i)
 |_,_=>(l,i)
termination_by n-i
decreasing_by have:=ze0 lt l i n;omega
theorem zj7(lt:α->α->Bool)(n:Nat):∀(m i:Nat) (l:List α),n-i<=m->i<=(downL lt l i n).2:=by
 intro m
 induction m with
|zero=>
  intro i l h
  unfold downL
  rw[dif_pos (by omega)];exact qQ _
|succ m ih=>
  intro i l h
  unfold downL
  split
  .exact qQ _
  .split
   .split
    .have:=ze0 lt l i n
     exact Nat.le_trans (by omega) (ih (kid lt l i n) _ (by omega))
    .exact qQ _
   .exact qQ _
theorem downL_perm(lt:α->α->Bool)(n:Nat):∀(m i:Nat) (l:List α),n-i<=m->(downL lt l i n).1.Perm l:=by
 intro m
 induction m with
|zero=>
  intro i l h
  unfold downL
  rw[dif_pos (by omega)]
|succ m ih=>
  intro i l h
  unfold downL
  split
  .exact .refl _
  .split
   .split
    .have:=ze0 lt l i n
     exact(ih (kid lt l i n) _ (by omega)).trans (swapL_perm _ _ _)
    .exact .refl _
   .exact .refl _
theorem zfb(lt:α->α->Bool)(n:Nat):∀(m i:Nat) (l:List α),n-i<=m->n<=l.length->∀ k,n<=k->i<n->(downL lt l i n).1[k]?=l[k]?:=by
 intro m
 induction m with
|zero=>
  intro i l h _ k hk hi
  omega
|succ m ih=>
  intro i l h hn k hk hi
  unfold downL
  split
  .rfl
  .split
   .split
    .have:=ze0 lt l i n
     rw[ih (kid lt l i n) _ (by omega) (by rw[swapL_len];exact hn) k hk (by omega),zaS (by omega) (by omega),if_neg (by omega),if_neg (by omega)]
    .rfl
   .rfl
structure DnOk(lt:α->α->Bool)(l:List α)(i n:Nat):Prop where
 ok:∀ k,0<k->k<n->k≠i->(k-1) / 2≠i->Ge lt l ((k-1) / 2) k
 ch:∀ k,0<k->k<n->0<i->(k-1) / 2=i->Ge lt l ((i-1) / 2) k
def zpu(lt:α->α->Bool)(l:List α)(n:Nat):Prop:=∀ k,0<k->k<n->Ge lt l ((k-1) / 2) k
theorem zmS{lt:α->α->Bool}(hl:Lt lt){l:List α}{i n k:Nat}(hn:n<=l.length)(hk:0<k)(ab:k<n)(hp:(k-1) / 2=i):Ge lt l (kid lt l i n) k:=by
 intro a b ha hb
 have aa:k=2*i+1\/k=2*i+2:=by omega
 unfold kid at ha
 by_cases h2:2*i+2<n
 .rw[if_pos h2] at ha
  obtain⟨y,hy⟩:=get_of (show 2*i+2<l.length by omega)
  obtain⟨x,hx⟩:=get_of (show 2*i+1<l.length by omega)
  rw[hy,hx] at ha
  dsimp only at ha
  split at ha
  .rename_i hlt
   rw[hy] at ha;injection ha with ha;subst ha
   rcases aa with rfl|rfl
   .rw[hx] at hb;injection hb with hb;subst hb;exact hl.asy hlt
   .rw[hy] at hb;injection hb with hb;subst hb;exact hl.ir _
  .rename_i hlt
   rw[hx] at ha;injection ha with ha;subst ha
   rcases aa with rfl|rfl
   .rw[hx] at hb;injection hb with hb;subst hb;exact hl.ir _
   .rw[hy] at hb;injection hb with hb;subst hb;simpa using hlt
 .rw[if_neg h2] at ha
  have:k=2*i+1:=by omega
  subst this
  rw[ha] at hb;injection hb with hb;subst hb;exact hl.ir _
theorem zj6{lt:α->α->Bool}(hl:Lt lt)(n:Nat):∀(m i:Nat) (l:List α),n-i<=m->n<=l.length->DnOk lt l i n->
  ((downL lt l i n).2=i->(downL lt l i n).1=l/\∀ k,0<k->k<n->(k-1) / 2=i->Ge lt l i k)/\((i<(downL lt l i n).2\/i=0\/Ge lt l ((i-1) / 2) i)->zpu lt (downL lt l i n).1 n):=by
 intro m
 induction m with
|zero=>
  intro i l h hn hd
  unfold downL
  rw[dif_pos (by omega)]
  refine⟨fun _=>⟨rfl,fun k _ _ _=>by omega⟩,fun ab k hk aa=>?_⟩
  by_cases e:k=i
  .subst e;rcases ab with h'|h'|h'
   .exact absurd h' (Nat.lt_irrefl _)
   .omega
   .exact h'
  .exact hd.ok k hk aa e (by omega)
|succ m ih=>
  intro i l h hn hd
  unfold downL
  split
  .refine⟨fun _=>⟨rfl,fun k _ _ _=>by omega⟩,fun ab k hk aa=>?_⟩
   by_cases e:k=i
   .subst e;rcases ab with h'|h'|h'
    .exact absurd h' (Nat.lt_irrefl _)
    .omega
    .exact h'
   .exact hd.ok k hk aa e (by omega)
  .rename_i ah
   have ai:=ze0 lt l i n
   obtain⟨y,hy⟩:=get_of (show kid lt l i n<l.length by omega)
   obtain⟨x,hx⟩:=get_of (show i<l.length by omega)
   rw[hy,hx]
   dsimp only
   split
   .rename_i hlt
    have ac:∀ k,0<k->k<n->(k-1) / 2=i->Ge lt l (kid lt l i n) k:=fun k hk aa hp=>zmS hl hn hk aa hp
    have ae:DnOk lt (swapL l i (kid lt l i n)) (kid lt l i n) n:=by
     refine⟨fun k hk aa _ af=>?_,fun k hk aa h0 hp=>?_⟩
     .intro a b ha hb
      rw[zaS (by omega) (by omega)] at ha hb
      rw[if_neg af] at ha
      by_cases e1:k=kid lt l i n
      .rw[if_pos e1,hx] at hb;injection hb with hb;subst hb
       rw[if_pos (by omega),hy] at ha;injection ha with ha;subst ha
       exact hl.asy hlt
      .rw[if_neg e1] at hb
       by_cases e2:(k-1) / 2=i
       .rw[if_pos e2,hy] at ha;injection ha with ha;subst ha
        rw[if_neg (by omega)] at hb
        exact ac k hk aa e2 _ _ hy hb
       .rw[if_neg e2] at ha
        by_cases e3:k=i
        .rw[if_pos e3,hy] at hb;injection hb with hb;subst hb
         exact hd.ch (kid lt l i n) (by omega) (by omega) (by omega) (by omega) _ _ (by rw[<- e3];exact ha) hy
        .rw[if_neg e3] at hb
         exact hd.ok k hk aa e3 e2 _ _ ha hb
     .intro a b ha hb
      have ag:(kid lt l i n-1) / 2=i:=by omega
      rw[zaS (by omega) (by omega)] at ha hb
      rw[if_neg (by omega),if_pos ag,hy] at ha;injection ha with ha;subst ha
      rw[if_neg (by omega),if_neg (by omega)] at hb
      exact hd.ok k hk aa (by omega) (by omega) _ _ (by rw[hp];exact hy) hb
    obtain⟨-,h2⟩:=ih (kid lt l i n) (swapL l i (kid lt l i n)) (by omega) (by rw[swapL_len];exact hn) ae
    have hle:=zj7 lt n (n-kid lt l i n) (kid lt l i n) (swapL l i (kid lt l i n)) (qQ _)
    refine⟨fun e=>by omega,fun _=>h2 (.inr (.inr ?_))⟩
    intro a b ha hb
    rw[zaS (by omega) (by omega)] at ha hb
    rw[if_neg (by omega),if_pos (by omega),hy] at ha;injection ha with ha;subst ha
    rw[if_pos rfl,hx] at hb;injection hb with hb;subst hb
    exact hl.asy hlt
   .rename_i hlt
    have ac:∀ k,0<k->k<n->(k-1) / 2=i->Ge lt l i k:=fun k hk aa hp=>by
     intro a b ha hb
     rw[hx] at ha;injection ha with ha;subst ha
     exact hl.ntr (by simpa using hlt) (zmS hl hn hk aa hp _ _ hy hb)
    refine⟨fun _=>⟨rfl,ac⟩,fun ab k hk aa=>?_⟩
    by_cases e:(k-1) / 2=i
    .rw[e];exact ac k hk aa e
    .by_cases e1:k=i
     .subst e1;rcases ab with h'|h'|h'
      .exact absurd h' (Nat.lt_irrefl _)
      .omega
      .exact h'
     .exact hd.ok k hk aa e1 e
theorem heap_min{lt:α->α->Bool}(hl:Lt lt){l:List α}(h:HeapOk lt l):∀ k,Ge lt l 0 k:=by
 intro k
 induction k using Nat.strongRecOn with
|ind k ih=>
  by_cases hk:k=0
  .subst hk;intro a b ha hb;rw[ha] at hb;injection hb with hb;subst hb;exact hl.ir _
  .intro a b ha hb
   obtain⟨c,hc⟩:=get_of (show(k-1) / 2<l.length by have:=(qO.1 hb).1;omega)
   exact hl.ntr (ih _ (by omega) _ _ ha hc) (h k (by omega) _ _ hc hb)
def pushH(lt:α->α->Bool)(l:List α)(x:α):List α:=upL lt (l++[x]) l.length
def popH(lt:α->α->Bool)(l:List α):List α:=(downL lt (swapL l 0 (l.length-1)) 0 (l.length-1)).1
def remH(lt:α->α->Bool)(l:List α)(i:Nat):List α:=
 if l.length-1=i then l else
 if i<(downL lt (swapL l i (l.length-1)) i (l.length-1)).2 then(downL lt (swapL l i (l.length-1)) i (l.length-1)).1
 else upL lt (downL lt (swapL l i (l.length-1)) i (l.length-1)).1 i
theorem push_perm(lt:α->α->Bool)(l:List α)(x:α):(pushH lt l x).Perm (l++[x]):=upL_perm _ _ _
theorem push_ok{lt:α->α->Bool}(hl:Lt lt){l:List α}(h:HeapOk lt l)(x:α):HeapOk lt (pushH lt l x):=by
 refine zl9 hl _ _ (by simp) ⟨fun k hk aa=>?_,fun k hk h0 hp=>?_⟩
 .intro a b ha hb
  by_cases e:k<l.length
  .rw[List.getElem?_append_left (by omega)] at ha hb
   exact h k hk _ _ ha hb
  .rw[List.getElem?_eq_none (by simp;omega)] at hb;cases hb
 .intro a b ha hb
  rw[List.getElem?_eq_none (by simp;omega)] at hb;cases hb
theorem zbX{l:List α}{n k:Nat}:(l.take n)[k]?=if k<n then l[k]? else none:=by
 rw[List.getElem?_take]
theorem ze3{lt:α->α->Bool}{l:List α}{n:Nat}(h:zpu lt l n):HeapOk lt (l.take n):=by
 intro k hk a b ha hb
 rw[zbX] at ha hb
 split at hb
 .rename_i aa
  rw[if_pos (by omega)] at ha
  exact h k hk aa _ _ ha hb
 .cases hb
theorem zcK{l:List α}{n:Nat}{x:α}(hn:l.length=n+1)(hx:l[n]?=some x):l=l.take n++[x]:=by
 have h1:=List.take_append_drop n l
 have h2:l.drop n=[x]:=by
  obtain⟨h,e⟩:=qO.1 hx
  rw[List.drop_eq_getElem_cons h,e,List.drop_eq_nil_of_le (by omega)]
 rw[h2] at h1
 exact h1.symm
theorem downL_len(lt:α->α->Bool)(l:List α)(i n:Nat):(downL lt l i n).1.length=l.length:=(downL_perm lt n _ i l (qQ _)).length_eq
theorem pop_ok{lt:α->α->Bool}(hl:Lt lt){l:List α}(h:HeapOk lt l){x:α}(hx:l[0]?=some x) :
  (popH lt l).length=l.length/\(popH lt l)[l.length-1]?=some x/\HeapOk lt ((popH lt l).take (l.length-1))/\(x :: (popH lt l).take (l.length-1)).Perm l:=by
 have h0:0<l.length:=(qO.1 hx).1
 have ab:(popH lt l).length=l.length:=by unfold popH;rw[downL_len,swapL_len]
 have ac:DnOk lt (swapL l 0 (l.length-1)) 0 (l.length-1):=by
  refine⟨fun k hk ae _ af=>?_,fun k _ _ h'=>by omega⟩
  intro a b ha hb
  rw[zaS h0 (by omega)] at ha hb
  rw[if_neg (by omega),if_neg (by omega)] at ha hb
  exact h k hk _ _ ha hb
 have aa:(popH lt l)[l.length-1]?=some x:=by
  by_cases e:l.length-1=0
  .unfold popH downL
   rw[dif_pos (by omega),zaS h0 (by omega),if_pos rfl,hx]
  .unfold popH
   rw[zfb lt _ _ _ _ (qQ _) (by rw[swapL_len];omega) _ (qQ _) (by omega),zaS h0 (by omega),if_pos rfl,hx]
 have hp:(popH lt l).Perm l:=(downL_perm lt _ _ _ _ (qQ _)).trans (swapL_perm _ _ _)
 refine⟨ab,aa,ze3 ((zj6 hl _ _ 0 _ (qQ _) (by rw[swapL_len];omega) ac).2 (.inr (.inl rfl))),?_⟩
 have hs:=zcK (show(popH lt l).length=(l.length-1)+1 by omega) aa
 rw[hs] at hp
 exact(List.perm_append_singleton x _).symm.trans hp
theorem zls{l:List α}{i j n:Nat}(hi:i<n)(hj:j<n)(hn:n<=l.length):(swapL l i j).take n=swapL (l.take n) i j:=by
 apply List.ext_getElem?
 intro k
 rw[zbX,zaS (by omega) (by omega),zaS (by simp;omega) (by simp;omega),zbX,zbX,zbX,if_pos hi,if_pos hj]
 by_cases hk:k<n
 .rw[if_pos hk,if_pos hk]
 .rw[if_neg hk,if_neg (by omega),if_neg (by omega),if_neg hk]
theorem znC(lt:α->α->Bool):∀(j:Nat) (l:List α) (n:Nat),j<n->n<=l.length->(upL lt l j).take n=upL lt (l.take n) j:=by
 intro j
 induction j using Nat.strongRecOn with
|ind j ih=>
  intro l n hj hn
  unfold upL
  split
  .rfl
  .rw[zbX,zbX,if_pos hj,if_pos (by omega)]
   obtain⟨y,hy⟩:=get_of (show j<l.length by omega)
   obtain⟨x,hx⟩:=get_of (show(j-1) / 2<l.length by omega)
   rw[hy,hx]
   dsimp only
   split
   .rw[ih _ (by omega) _ n (by omega) (by rw[swapL_len];exact hn),zls (by omega) hj hn]
   .rfl
theorem zpz(lt:α->α->Bool):∀(j:Nat) (l:List α) (k:Nat),j<k->(upL lt l j)[k]?=l[k]?:=by
 intro j
 induction j using Nat.strongRecOn with
|ind j ih=>
  intro l k hk
  unfold upL
  split
  .rfl
  .split
   .rename_i y x hy hx
    have hj:=(qO.1 hy).1
    split
    .rw[ih _ (by omega) _ k (by omega),zaS (by omega) hj,if_neg (by omega),if_neg (by omega)]
    .rfl
   .rfl
theorem rem_ok{lt:α->α->Bool}(hl:Lt lt){l:List α}(h:HeapOk lt l){i:Nat}{x:α}(hx:l[i]?=some x) :
  (remH lt l i).length=l.length/\(remH lt l i)[l.length-1]?=some x/\HeapOk lt ((remH lt l i).take (l.length-1))/\(x :: (remH lt l i).take (l.length-1)).Perm l:=by
 have hi:i<l.length:=(qO.1 hx).1
 have ag:(remH lt l i).length=l.length:=by
  unfold remH;split
  .rfl
  .split
   .rw[downL_len,swapL_len]
   .rw[upL_len,downL_len,swapL_len]
 have hp:(remH lt l i).Perm l:=by
  unfold remH;split
  .exact .refl _
  .split
   .exact(downL_perm lt _ _ _ _ (qQ _)).trans (swapL_perm _ _ _)
   .exact(upL_perm _ _ _).trans ((downL_perm lt _ _ _ _ (qQ _)).trans (swapL_perm _ _ _))
 have ac:(remH lt l i)[l.length-1]?=some x:=by
  unfold remH;split
  .rename_i e;rw[e];exact hx
  .split
   .rw[zfb lt _ _ _ _ (qQ _) (by rw[swapL_len];omega) _ (qQ _) (by omega),zaS hi (by omega),if_pos rfl,hx]
   .rw[zpz _ _ _ _ (by omega),zfb lt _ _ _ _ (qQ _) (by rw[swapL_len];omega) _ (qQ _) (by omega),zaS hi (by omega),if_pos rfl,hx]
 refine⟨ag,ac,?_,?_⟩
 .by_cases e:l.length-1=i
  .have:remH lt l i=l:=by unfold remH;rw[if_pos e]
   rw[this]
   exact ze3 fun k hk _=>h k hk
  .have ae:DnOk lt (swapL l i (l.length-1)) i (l.length-1):=by
    refine⟨fun k hk aa ah af=>?_,fun k hk aa h0 ab=>?_⟩
    .intro a b ha hb
     rw[zaS hi (by omega)] at ha hb
     rw[if_neg (by omega),if_neg af] at ha
     rw[if_neg (by omega),if_neg ah] at hb
     exact h k hk _ _ ha hb
    .intro a b ha hb
     rw[zaS hi (by omega)] at ha hb
     rw[if_neg (by omega),if_neg (by omega)] at ha
     rw[if_neg (by omega),if_neg (by omega)] at hb
     obtain⟨c,hc⟩:=get_of hi
     exact hl.ntr (h i h0 _ _ ha hc) (h k hk _ _ (by rw[ab];exact hc) hb)
   obtain⟨h1,h2⟩:=zj6 hl (l.length-1) _ i _ (qQ _) (by rw[swapL_len];omega) ae
   have hle:=zj7 lt (l.length-1) _ i (swapL l i (l.length-1)) (qQ _)
   unfold remH
   rw[if_neg e]
   split
   .rename_i hlt
    exact ze3 (h2 (.inl hlt))
   .rename_i hlt
    obtain⟨h3,h4⟩:=h1 (by omega)
    rw[h3,znC _ _ _ _ (by omega) (by rw[swapL_len];omega)]
    refine zl9 hl _ _ (by simp[swapL_len];omega) ⟨fun k hk af=>?_,fun k hk h0 ab=>?_⟩
    .intro a b ha hb
     rw[zbX] at ha hb
     split at hb
     .rename_i aa
      rw[if_pos (by omega)] at ha
      by_cases e2:(k-1) / 2=i
      .rw[e2] at ha;exact h4 k hk aa e2 _ _ ha hb
      .exact ae.ok k hk aa af e2 _ _ ha hb
     .cases hb
    .intro a b ha hb
     rw[zbX] at ha hb
     split at hb
     .rename_i aa
      rw[if_pos (by omega)] at ha
      exact ae.ch k hk aa h0 ab _ _ ha hb
     .cases hb
 .have hs:=zcK (show(remH lt l i).length=(l.length-1)+1 by omega) ac
  rw[hs] at hp
  exact(List.perm_append_singleton x _).symm.trans hp
end Hp
section
theorem zpl:Hp.Lt Pn.lt:=by
 refine⟨fun {a b c} h1 h2=>?_,fun {a b} h=>?_⟩ <;> unfold Pn.lt at*<;> (repeat' split at *) <;> simp_all <;> omega
def znv(q:List Pn):Prop:=q.Pairwise (fun a b=>Pn.lt a b=true)
structure PlOk(q:List Pn)(n:Int):Prop where
 so:znv q
 ne:q.Pairwise (fun a b=>a.num≠b.num)
 lt:∀ p∈q,0<=p.num/\p.num<n
theorem PlOk.nil{n:Int}:PlOk [] n:=⟨List.Pairwise.nil,List.Pairwise.nil,fun p h=>by cases h⟩
theorem zbV(x:Pn):∀ q:List Pn,(putP x q).Perm (x :: q)
|[]=>.refl _
|p :: l=>by
  unfold putP
  split
  .exact((zbV x l).cons p).trans (.swap x p l)
  .exact .refl _
theorem zmr{q:List Pn}{n:Int}(h:PlOk q n)(h0:0<=n)(hour:Int)(e:En):PlOk (putP ⟨hour,n,e⟩ q) (n+1):=by
 refine⟨?_,?_,fun p hp=>?_⟩
 .have hs:=h.so
  have hl:=h.lt
  clear h
  induction q with
 |nil=>exact List.pairwise_singleton _ _
 |cons p l ih=>
   have hp:=List.pairwise_cons.1 hs
   unfold putP
   split
   .rename_i hle
    refine List.pairwise_cons.2 ⟨fun y hy=>?_,ih hp.2 (fun z hz=>hl z (List.mem_cons_of_mem _ hz))⟩
    rcases List.mem_cons.1 ((zbV _ l).mem_iff.1 hy) with rfl|hy
    .have:=(hl p (qE ..)).2
     unfold Pn.lt
     simp only at hle
     split
     .rw[qC]
      rename_i aa
      simp only at aa
      show p.hour<hour
      omega
     .rw[qC];exact this
    .exact hp.1 y hy
   .rename_i hle
    simp only at hle
    refine List.pairwise_cons.2 ⟨fun y hy=>?_,hs⟩
    have ab:p.hour<=y.hour:=by
     rcases List.mem_cons.1 hy with rfl|hy
     .exact Int.le_refl _
     .have:=hp.1 y hy
      unfold Pn.lt at this
      split at this
      .rw[qC] at this;omega
      .rename_i aa;simp only[ne_eq,Decidable.not_not] at aa;omega
    unfold Pn.lt
    rw[if_pos (by show hour≠y.hour;omega),qC]
    show hour<y.hour
    omega
 .have h1:(putP ⟨hour,n,e⟩ q).Pairwise (fun a b=>a.num≠b.num)↔((⟨hour,n,e⟩:Pn) :: q).Pairwise (fun a b=>a.num≠b.num):=(zbV _ q).pairwise_iff (fun h=>fun e=>h e.symm)
  rw[h1]
  exact List.pairwise_cons.2 ⟨fun y hy=>by have:=(h.lt y hy).2;show n≠y.num;omega,h.ne⟩
 .rcases List.mem_cons.1 ((zbV _ q).mem_iff.1 hp) with rfl|hp
  .exact⟨h0,by show n<n+1;omega⟩
  .have:=h.lt p hp;omega
theorem PlOk.sub{q q':List Pn}{n:Int}(h:PlOk q n)(hs:q'.Sublist q):PlOk q' n:=⟨h.so.sublist hs,h.ne.sublist hs,fun p hp=>h.lt p (hs.subset hp)⟩
theorem zeZ:∀(l pre:List Pn) (best i:Nat) (bn:Int),i=pre.length->(∃ x,pre[best]?=some x/\x.num=bn)->(∀ y∈pre,y.num<=bn)->
  ∃ x,(pre++l)[zcw best bn i l]?=some x/\∀ y∈pre++l,y.num<=x.num
|[],pre,best,i,bn,_,⟨x,hx,e⟩,hm=>⟨x,by unfold zcw;rw[List.append_nil];exact hx,fun y hy=>by rw[List.append_nil] at hy;rw[e];exact hm y hy⟩
|p :: l,pre,best,i,bn,hi,⟨x,hx,e⟩,hm=>by
  have h1:pre++p :: l=(pre++[p])++l:=by simp
  rw[h1]
  unfold zcw
  split
  .rename_i hlt
   refine zeZ l (pre++[p]) i (i+1) p.num (by simp[hi]) ⟨p,by rw[hi];simp,rfl⟩ fun y hy=>?_
   rcases List.mem_append.1 hy with hy|hy
   .have:=hm y hy;omega
   .rw[List.mem_singleton.1 hy];exact Int.le_refl _
  .rename_i hlt
   refine zeZ l (pre++[p]) best (i+1) bn (by simp[hi]) ⟨x,by rw[List.getElem?_append_left (qO.1 hx).1];exact hx,e⟩ fun y hy=>?_
   rcases List.mem_append.1 hy with hy|hy
   .exact hm y hy
   .rw[List.mem_singleton.1 hy];omega
theorem zgV{q:List Pn}(h:q≠[]):∃ x,q[zbx q]?=some x/\∀ y∈q,y.num<=x.num:=by
 cases q with
|nil=>exact absurd rfl h
|cons p l=>exact zeZ l [p] 0 1 p.num rfl ⟨p,rfl,rfl⟩ fun y hy=>by rw[List.mem_singleton.1 hy];exact Int.le_refl _
theorem zp0{q:List Pn}(h:q.Pairwise (fun a b=>a.num≠b.num)){x y:Pn}(hx:x∈q)(hy:y∈q)(e:x.num=y.num):x=y:=by
 induction q with
|nil=>cases hx
|cons p l ih=>
  have hp:=List.pairwise_cons.1 h
  rcases List.mem_cons.1 hx with h1|h1 <;> rcases List.mem_cons.1 hy with h2|h2
  .rw[h1,h2]
  .exact absurd (h1▸e) (hp.1 y h2)
  .exact absurd (h2▸e.symm) (hp.1 x h1)
  .exact ih hp.2 h1 h2
theorem zg7{α:Type}:∀(q:List α) (i:Nat) {x:α},q[i]?=some x->(x :: q.eraseIdx i).Perm q
|[],i,x,h=>by simp at h
|p :: l,0,x,h=>by
  rw[List.getElem?_cons_zero] at h;injection h with h;subst h;exact .refl _
|p :: l,i+1,x,h=>by
  rw[List.getElem?_cons_succ] at h
  exact(List.Perm.swap p x _).trans ((zg7 l i h).cons p)
def ltQ{α:Type}(π:α->Pn)(a b:α):Bool:=Pn.lt (π a) (π b)
theorem zgQ{α:Type}(π:α->Pn):Hp.Lt (ltQ π):=⟨fun h1 h2=>zpl.ntr h1 h2,fun h=>zpl.asy h⟩
structure HpOk{α:Type}(π:α->Pn)(l:List α)(q:List Pn)(n:Int):Prop where
 pl:PlOk q n
 hp:Hp.HeapOk (ltQ π) l
 pe:(l.map π).Perm q
section
variable {α:Type} {π:α->Pn} {l:List α} {q:List Pn} {n:Int}
theorem HpOk.nil:HpOk π [] [] n:=⟨.nil,fun k _ a b ha=>by simp at ha,.refl _⟩
theorem HpOk.len(h:HpOk π l q n):l.length=q.length:=by rw[<- h.pe.length_eq,List.length_map]
theorem HpOk.push(h:HpOk π l q n)(h0:0<=n)(x:α){hour:Int}{e:En}(hx:π x=⟨hour,n,e⟩):HpOk π (Hp.pushH (ltQ π) l x) (putP ⟨hour,n,e⟩ q) (n+1):=by
 refine⟨zmr h.pl h0 hour e,Hp.push_ok (zgQ π) h.hp _,?_⟩
 refine((Hp.push_perm (ltQ π) l x).map π).trans ?_
 rw[List.map_append,List.map_cons,List.map_nil,hx]
 exact(List.perm_append_singleton _ _).trans ((h.pe.cons _).trans (zbV _ _).symm)
theorem HpOk.head{x:Pn}(h:HpOk π l (x :: q) n):∃ a,l[0]?=some a/\π a=x:=by
 have aa:0<l.length:=by rw[h.len];simp
 obtain⟨a,ha⟩:=Hp.get_of aa
 refine⟨a,ha,?_⟩
 have hm:π a∈x :: q:=h.pe.mem_iff.1 (List.mem_map_of_mem (List.mem_of_getElem? ha))
 rcases List.mem_cons.1 hm with e|hq
 .exact e
 .have h1:=(List.pairwise_cons.1 h.pl.so).1 _ hq
  obtain⟨b,hb,e⟩:=List.mem_map.1 (h.pe.mem_iff.2 (qE (a:=x) (l:=q)))
  obtain⟨k,hk⟩:=List.getElem?_of_mem hb
  have h2:=Hp.heap_min (zgQ π) h.hp k _ _ ha hk
  unfold ltQ at h2
  rw[e,h1] at h2
  cases h2
theorem HpOk.pop{x:Pn}(h:HpOk π l (x :: q) n) :
  (Hp.popH (ltQ π) l).length=l.length/\(∃ a,(Hp.popH (ltQ π) l)[l.length-1]?=some a/\π a=x)/\HpOk π ((Hp.popH (ltQ π) l).take (l.length-1)) q n:=by
 obtain⟨a,ha,e⟩:=h.head
 obtain⟨h1,h2,h3,h4⟩:=Hp.pop_ok (zgQ π) h.hp ha
 refine⟨h1,⟨a,h2,e⟩,h.pl.sub (List.sublist_cons_self _ _),h3,?_⟩
 have h5:=(h4.map π).trans h.pe
 rw[List.map_cons,e] at h5
 exact h5.cons_inv
theorem HpOk.late(h:HpOk π l q n)(hq:q≠[]):∃ a x,l[zbx (l.map π)]?=some a/\π a=x/\q[zbx q]?=some x:=by
 have hl:l.map π≠[]:=by intro e;have h1:=h.pe;rw[e] at h1;exact hq h1.nil_eq.symm
 obtain⟨x,hx,mx⟩:=zgV hq
 obtain⟨y,hy,my⟩:=zgV hl
 have aa:=List.mem_of_getElem? hx
 have ab:=h.pe.mem_iff.1 (List.mem_of_getElem? hy)
 have e:y=x:=zp0 h.pl.ne ab aa (Int.le_antisymm (mx y ab) (my x (h.pe.mem_iff.2 aa)))
 subst e
 rw[List.getElem?_map] at hy
 obtain⟨a,ha,e⟩:=Option.map_eq_some_iff.1 hy
 exact⟨a,y,ha,e,hx⟩
theorem HpOk.rem(h:HpOk π l q n)(hq:q≠[]) :
  (Hp.remH (ltQ π) l (zbx (l.map π))).length=l.length/\HpOk π ((Hp.remH (ltQ π) l (zbx (l.map π))).take (l.length-1)) (q.eraseIdx (zbx q)) n:=by
 obtain⟨a,x,ha,e,hx⟩:=h.late hq
 obtain⟨h1,h2,h3,h4⟩:=Hp.rem_ok (zgQ π) h.hp ha
 refine⟨h1,h.pl.sub (List.eraseIdx_sublist _ _),h3,?_⟩
 have h5:=(h4.map π).trans (h.pe.trans (zg7 q _ hx).symm)
 rw[List.map_cons,e] at h5
 exact h5.cons_inv
end
theorem zj9:∀(k u:Nat),u<10 ^ (k+1)->(Lib.decDigits u).length<=k+1
|0,u,h=>by rw[Bo.zik (by simpa using h)];exact qQ _
|k+1,u,h=>by
  by_cases h1:u<10
  .rw[Bo.zik h1];simp
  .rw[Bo.zql h1,qD]
   have:=zj9 k (u / 10) (by rw[Nat.pow_succ] at h;omega)
   simp only[List.length_cons,List.length_nil]
   omega
theorem zj0{t:Tx}{n:Int}(h:figS t=some n):0<=n/\n<10000000000000:=by
 unfold figS at h
 split at h
 .cases h
 .rename_i hn
  injection h with h
  subst h
  have ab:t.length<=13:=by
   by_cases e:13<t.length
   .exact absurd (.inr (.inl e)) hn
   .omega
  have aa:t.all Bo.digB=true:=by
   cases e:t.all Bo.digB
   .exact absurd (.inr (.inr (.inr e))) hn
   .rfl
  have h1:=Bo.zi1 t (fun c hc=>by
   have:=List.all_eq_true.1 aa c hc
   unfold Bo.digB at this
   rw[Bool.and_eq_true,qC,qC] at this
   exact this) 0
  have h2:(0+1)*10 ^ t.length<=10 ^ 13:=by rw[Nat.one_mul];exact Nat.pow_le_pow_right (by omega) ab
  have h3:(10:Nat) ^ 13=10000000000000:=rfl
  omega
theorem zk9:∀{l:List Tx} {n:List Int},zaP l=some n->n.length=l.length/\∀ x∈n,0<=x/\x<10000000000000
|[],n,h=>by unfold zaP at h;injection h with h;subst h;exact⟨rfl,fun x hx=>by cases hx⟩
|t :: l,n,h=>by
  unfold zaP at h
  split at h
  .rename_i a r ha hr
   injection h with h
   subst h
   obtain⟨h1,h2⟩:=zk9 hr
   refine⟨by simp[h1],fun x hx=>?_⟩
   rcases List.mem_cons.1 hx with rfl|hx
   .exact zj0 ha
   .exact h2 x hx
  .cases h
theorem ze8{l:List Tx}{e:En}(h:entS l=some e):zbF e.v e.n=true/\∀ x∈e.n,0<=x/\x<10000000000000:=by
 unfold entS at h
 split at h
 .cases h
 .split at h
  .rename_i v n hv hn
   split at h
   .rename_i hm
    injection h with h
    subst h
    exact⟨hm,(zk9 hn).2⟩
   .cases h
  .cases h
theorem zey{d:Ru.Die}{s:Bk}{v:Vb}{n:List Int}{x:Bk×Tx}(h:doV d s v n=.ok x):x.1.hour=s.hour:=by
 cases v <;> unfold doV at h <;> simp only[] at h <;> (repeat' split at h) <;> first|(cases h;done)|(injection h with h;subst h;rfl)
theorem zla(d:Ru.Die)(k:Int):∀(l:List Int) (i:Nat) (far e:Int),farS d k i l far=.error e->e≠0
|[],_,_,_,h=>by unfold farS at h;cases h
|r :: l,i,far,e,h=>by
  unfold farS at h
  split at h
  .rename_i hn
   injection h with h;subst h;exact hn
  .exact zla d k l _ _ e h
theorem zld{d:Ru.Die}{s:Bk}{v:Vb}{n:List Int}{e:Int}(h:doV d s v n=.error e):e≠0:=by
 cases v <;> unfold doV at h <;> simp only[] at h <;> (repeat' split at h) <;> first|(cases h;done)|(injection h with h;subst h;first|assumption|decide|(exact zla _ _ _ _ _ _ (by assumption)))
end
end Go.Proofs.YtankkcbofgighaaGreatDoor
