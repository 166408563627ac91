import Derived.Test.YtankkcbofgighaaGreatDoorL7
set_option linter.all false
set_option maxRecDepth 100000
set_option maxHeartbeats 40000000
namespace Go.Proofs.YtankkcbofgighaaGreatDoor
namespace Cu
open Go.RowKit
theorem zhM(v:Int)(A:Option Addr)(c:Nat)(l:List Int)(w:World)(h:At w w.heap.size 1 zad A l)(hl:l.length<=9223372036854775807) :
  Calls Tryz.prog 276 #[.slice A l.length c,.int .i64 v] w (RetQ (.bool (decide (0<=firstI (eqPc v) l))) w):=by
 have H1:=qG (zfR v A c l w h hl)
 clear h hl
 go_enter Tryz.func276,Tryz.ntmps276
 go_upto_region 1 with fail
 go_wp2_with (go_at_call 77;(with_reducible refine(H1.o).mono ?_);rintro e w' ⟨rfl,rfl⟩)
 go_ret
 exact⟨rfl,rfl⟩
theorem zlN(W:World)(b o:Nat)(u:Value):W.grownBy (W.setCell ⟨b,o,none⟩ u) (some b):=
 ⟨rfl,rfl,rfl,by rw[World.size_setCell];exact qQ _,fun i _ hi=>zb5 (fun e=>hi (by rw[e])) _ _⟩
structure LnP(c:Cut)(bm gp:Nat)(w W:World)(l b j s:Int):Prop where
 o:Bx W (w.heap.size+1) [.int .i64 l,.int .i64 b,.int .i64 j,.int .i64 s]
 x:Bx W w.heap.size (cutL c)
 p:Bx W gp (picL c bm)
 pic:PicAt c bm W
 b:Below w.heap.size w W
 g:w.heap.size+2<=gp
section
variable {c:Cut} {bm gp:Nat} {w W W':World} {l b j s:Int}
theorem LnP.next(h:LnP c bm gp w W l b j s)(hb:Below W.heap.size W W'):LnP c bm gp w W' l b j s:=
 ⟨h.o.next hb,h.x.next hb,h.p.next hb,MapIs.next h.pic hb,h.b.trans (hb.mono h.b.size),h.g⟩
theorem LnP.grow(h:LnP c bm gp w W l b j s){r:Nat}(hg:W.grownBy W' (some r))(hr:r≠w.heap.size+1/\r≠w.heap.size/\r≠gp/\r≠bm/\w.heap.size<=r):LnP c bm gp w W' l b j s:=
 ⟨h.o.gk hg (fun q e=>by injection e with e;omega),h.x.gk hg (fun q e=>by injection e with e;omega),h.p.gk hg (fun q e=>by injection e with e;omega),MapIs.grown h.pic hg (fun e=>by injection e with e;omega),h.b.grown hg h.b.size (fun q e=>by injection e with e;omega),h.g⟩
theorem LnP.set(h:LnP c bm gp w W l b j s){k:Nat}(v:Value){l' b' j' s':Int}(hk:k<4)(he:[.int .i64 l,.int .i64 b,.int .i64 j,.int .i64 s].set k v=[.int .i64 l',.int .i64 b',.int .i64 j',.int .i64 s']):LnP c bm gp w (W.setCell ⟨w.heap.size+1,k,none⟩ v) l' b' j' s':=by
 have hg:=h.g
 refine⟨?_,h.x.far (by omega) _,h.p.far (by omega) _,h.pic.of (zb5 (zcG h.o h.pic) _ _),h.b.setCell (p:=⟨w.heap.size+1,k,none⟩) (by show w.heap.size<=w.heap.size+1;omega) _,h.g⟩
 rw[<- he]
 exact h.o.set (by simpa using hk) v
theorem LnP.set0(h:LnP c bm gp w W l b j s)(l':Int):LnP c bm gp w (W.setCell ⟨w.heap.size+1,0,none⟩ (.int .i64 l')) l' b j s:=h.set _ (by omega) rfl
theorem LnP.set1(h:LnP c bm gp w W l b j s)(b':Int):LnP c bm gp w (W.setCell ⟨w.heap.size+1,1,none⟩ (.int .i64 b')) l b' j s:=h.set _ (by omega) rfl
theorem LnP.set2(h:LnP c bm gp w W l b j s)(j':Int):LnP c bm gp w (W.setCell ⟨w.heap.size+1,2,none⟩ (.int .i64 j')) l b j' s:=h.set _ (by omega) rfl
theorem LnP.set3(h:LnP c bm gp w W l b j s)(s':Int):LnP c bm gp w (W.setCell ⟨w.heap.size+1,3,none⟩ (.int .i64 s')) l b j s':=h.set _ (by omega) rfl
end
theorem zmK{w:World}{b:Nat}{a0 a1 a2 a3:Value}(h:Bx w b [a0,a1,a2,a3]):(loadVar 310 ⟨b,0,none⟩).run Tryz.prog w=.ok (.agg #[a0,a1,a2,a3]) w:=by
 have h0:=h.c 0 _ rfl
 have h1:=h.c 1 _ rfl
 have h2:=h.c 2 _ rfl
 have h3:=h.c 3 _ rfl
 go_simp
theorem zgI{c:Cut}{w w':World}{l b j s e:Int}(h1:zan c=(l,b,j,s))(h2:cutE c=e)(hb:Below w.heap.size w w'):Ret (zgT c) w (.returned (.tuple #[.agg #[.int .i64 l,.int .i64 b,.int .i64 j,.int .i64 s],.int .i64 e])) w':=by
 refine⟨?_,hb⟩
 unfold zgT
 rw[h1,h2]
def zlR(c:Cut)(x y:Int):List Int:=[zfC c x y,zfB c x y,zfz c x y,zfA c x y]
theorem znd(c:Cut)(x y:Int):decide (0<=firstI (eqPc (-1)) (zlR c x y))=edgeP c x y:=by
 unfold zlR edgeP
 rw[Bool.eq_iff_iff,decide_eq_true_iff,decide_eq_true_iff]
 rcases zcO (eqPc (-1)) [zfC c x y,zfB c x y,zfz c x y,zfA c x y] with ⟨k,hk,e,hp,-⟩|⟨e,hj⟩
 .rw[e]
  refine⟨fun _=>?_,fun _=>by omega⟩
  unfold eqPc at hp
  simp only[List.length_cons,List.length_nil] at hk
  have hk:k<4:=by omega
  match k,hk with
 |0,_=>simp at hp;omega
 |1,_=>simp at hp;omega
 |2,_=>simp at hp;omega
 |3,_=>simp at hp;omega
 .rw[e]
  refine⟨fun h=>by omega,fun h=>?_⟩
  have h0:=hj 0 (by simp)
  have h1:=hj 1 (by simp)
  have h2:=hj 2 (by simp)
  have h3:=hj 3 (by simp)
  unfold eqPc at h0 h1 h2 h3
  simp at h0 h1 h2 h3
  omega
theorem zn3(c:Cut)(x y:Int):0<=manyP c x y/\manyP c x y<=4:=by
 unfold manyP
 have h1:=za9 (upB c x y)
 have h2:=za9 (zeP c x y)
 have h3:=za9 (zex c x y)
 have h4:=za9 (zgU c x y)
 omega
theorem ziY(c:Cut)(x y:Int):(0<=zbR c x y/\zbR c x y<=4)/\(0<=zbS c x y/\zbS c x y<=4)/\(0<=zco c x y/\zco c x y<=4):=by
 have:=zn3 c x y
 refine⟨?_,?_,?_⟩
 .unfold zbR;split <;> omega
 .unfold zbS;split <;> (try split) <;> omega
 .unfold zco;split <;> (try split) <;> (try split) <;> omega
def rowP(c:Cut)(g:Int->Int->Int)(y:Nat):Int:=zai (fun x=>g (x:Int) (y:Int)) (W c+1)
theorem zhy{c:Cut}(ok:OkC c){g:Int->Int->Int}(h:∀ x y,0<=g x y/\g x y<=4){y x:Nat}(hy:y<=13)(hx:x<=13):0<=zai (rowP c g) y+zai (fun x:Nat=>g (x:Int) (y:Int)) x/\zai (rowP c g) y+zai (fun x:Nat=>g (x:Int) (y:Int)) x<=1000:=by
 have hw:=ok.w
 have h1:=zaK (f:=rowP c g) (B:=52) (fun y=>by
  have:=zaK (f:=fun x:Nat=>g (x:Int) (y:Int)) (B:=4) (fun x=>h _ _) (Go.Proofs.YtankkcbofgighaaGreatDoor.Cu.W c+1)
  have hW:((Go.Proofs.YtankkcbofgighaaGreatDoor.Cu.W c:Nat):Int)=c.wide:=by unfold Go.Proofs.YtankkcbofgighaaGreatDoor.Cu.W;omega
  unfold rowP
  omega) y
 have h2:=zaK (f:=fun x:Nat=>g (x:Int) (y:Int)) (B:=4) (fun x=>h _ _) x
 omega
structure RMp(c:Cut)(bm gp be rr:Nat)(w W:World)(done:Pt->Bool)(cnt:Nat):Prop where
 ln:LnP c bm gp w W (lenD c done) 0 0 0
 rg:RangeIs Tryz.prog 365 kv2 vvI be rr (edgO c) done cnt W
def RP3(c:Cut)(bm gp:Nat)(w:World)(l:Int)(yv:Value)(wr:World):Prop:=∃(y:Nat) (b j s:Int),y<=H c+1/\yv=.int .i64 (y:Int)/\b=zai (rowP c (zco c)) y/\j=zai (rowP c (zbS c)) y/\s=zai (rowP c (zbR c)) y/\LnP c bm gp w wr l b j s
def RP4(c:Cut)(bm gp:Nat)(w:World)(l:Int)(y:Nat)(xv:Value)(wr:World):Prop:=∃(x:Nat) (b j s:Int),x<=W c+1/\xv=.int .i64 (x:Int)/\b=zai (rowP c (zco c)) y+zai (fun x:Nat=>zco c (x:Int) (y:Int)) x/\j=zai (rowP c (zbS c)) y+zai (fun x:Nat=>zbS c (x:Int) (y:Int)) x/\s=zai (rowP c (zbR c)) y+zai (fun x:Nat=>zbR c (x:Int) (y:Int)) x/\LnP c bm gp w wr l b j s
def zfy(u r d l:Bool)(i:Nat):List Value:=[.bool (decide (1<=i)&&u),.bool (decide (2<=i)&&r),.bool (decide (3<=i)&&d),.bool (decide (4<=i)&&l)]
def zcv(u r d l:Bool)(i:Nat):Int:=b2i (decide (1<=i)&&u)+b2i (decide (2<=i)&&r)+b2i (decide (3<=i)&&d)+b2i (decide (4<=i)&&l)
structure RPi(c:Cut)(bm gp:Nat)(w:World)(l b j s:Int)(g14 g15:Nat)(pa pb pf pd:Int)(u r d le:Bool)(i:Nat)(mv:Value)(W:World):Prop where
 hi:i<=4
 m:mv=.int .i64 (zcv u r d le i)
 ln:LnP c bm gp w W l b j s
 x14:Bx W g14 [.int .i64 pa,.int .i64 pb,.int .i64 pf,.int .i64 pd]
 x15:Bx W g15 (zfy u r d le i)
 ne:g14≠g15/\w.heap.size+1≠g15/\w.heap.size+1≠g14/\w.heap.size<=g15/\gp≠g15/\w.heap.size≠g15/\bm≠g15
theorem RPi.no{c:Cut}{bm gp:Nat}{w:World}{l b j s:Int}{g14 g15:Nat}{pa pb pf pd:Int}{u r d le:Bool}{i:Nat}{mv:Value}{W:World}(h:RPi c bm gp w l b j s g14 g15 pa pb pf pd u r d le i mv W)(hi:i<4)(hq:[u,r,d,le].getD i false=false):RPi c bm gp w l b j s g14 g15 pa pb pf pd u r d le (i+1) mv W:=by
 have e:zcv u r d le (i+1)=zcv u r d le i/\zfy u r d le (i+1)=zfy u r d le i:=by
  rcases(by omega:i=0\/i=1\/i=2\/i=3) with rfl|rfl|rfl|rfl
  .obtain rfl:u=false:=hq
   exact⟨rfl,rfl⟩
  .obtain rfl:r=false:=hq
   exact⟨rfl,rfl⟩
  .obtain rfl:d=false:=hq
   exact⟨rfl,rfl⟩
  .obtain rfl:le=false:=hq
   exact⟨rfl,rfl⟩
 exact⟨by omega,by rw[e.1];exact h.m,h.ln,h.x14,by rw[e.2];exact h.x15,h.ne⟩
theorem RPi.yes{c:Cut}{bm gp:Nat}{w:World}{l b j s:Int}{g14 g15:Nat}{pa pb pf pd:Int}{u r d le:Bool}{i:Nat}{mv:Value}{W:World}(h:RPi c bm gp w l b j s g14 g15 pa pb pf pd u r d le i mv W)(hi:i<4)(hq:[u,r,d,le].getD i false=true):RPi c bm gp w l b j s g14 g15 pa pb pf pd u r d le (i+1) (.int .i64 (zcv u r d le i+1)) (W.setCell ⟨g15,i,none⟩ (.bool true)):=by
 have e:zcv u r d le (i+1)=zcv u r d le i+1/\zfy u r d le (i+1)=(zfy u r d le i).set i (.bool true):=by
  rcases(by omega:i=0\/i=1\/i=2\/i=3) with rfl|rfl|rfl|rfl
  .obtain rfl:u=true:=hq
   exact⟨by cases r <;> cases d <;> cases le <;> rfl,rfl⟩
  .obtain rfl:r=true:=hq
   exact⟨by cases u <;> cases d <;> cases le <;> rfl,rfl⟩
  .obtain rfl:d=true:=hq
   exact⟨by cases u <;> cases r <;> cases le <;> rfl,rfl⟩
  .obtain rfl:le=true:=hq
   exact⟨by cases u <;> cases r <;> cases d <;> rfl,rfl⟩
 have hn:=h.ne
 refine⟨by omega,by rw[e.1],?_,h.x14.far (by omega) _,by rw[e.2];exact h.x15.set (by simp[zfy];omega) _,h.ne⟩
 exact⟨h.ln.o.far (by omega) _,h.ln.x.far (by omega) _,h.ln.p.far (by omega) _,h.ln.pic.of (zb5 (by omega) _ _),h.ln.b.setCell (p:=⟨g15,i,none⟩) (by show w.heap.size<=g15;omega) _,h.ln.g⟩
theorem zn4(u r d le:Bool)(i:Nat):0<=zcv u r d le i/\zcv u r d le i<=4:=by
 unfold zcv
 have h1:=za9 (decide (1<=i)&&u)
 have h2:=za9 (decide (2<=i)&&r)
 have h3:=za9 (decide (3<=i)&&d)
 have h4:=za9 (decide (4<=i)&&le)
 omega
theorem zqr{W:World}{g:Nat}{pa pb pf pd:Int}(h:Bx W g [.int .i64 pa,.int .i64 pb,.int .i64 pf,.int .i64 pd]):At W W.heap.size 1 zad (some ⟨g,0,none⟩) [pa,pb,pf,pd]:=by
 intro k x hx
 refine⟨g,0,rfl,h.lt,fun j u hu=>?_⟩
 unfold zad at hu
 match j,hu with
|0,hu=>
  injection hu with hu
  subst hu
  rw[Nat.mul_one,Nat.zero_add,Nat.add_zero]
  refine h.c k _ ?_
  match k,hx with
 |0,hx=>injection hx with hx;subst hx;rfl
 |1,hx=>injection hx with hx;subst hx;rfl
 |2,hx=>injection hx with hx;subst hx;rfl
 |3,hx=>injection hx with hx;subst hx;rfl
def lnM2:List (Option Nat):=[none,none,none,none,none,none,none,none,some 8,some 9,some 10,some 11,some 12,some 13,some 14,some 15,some 16,some 17,some 18,some 19,none,none,none,none,none,none,none,none,none,none,none,none,none,none,none,none,none,none,none,none,none,none,none,none,none,none,none,none,none,none,none,none,none,some 53,some 54,some 55,some 56,some 57,some 58,some 59,some 60,some 61,some 62,some 63,some 64,some 65,some 66,some 67,some 68,some 69,some 70,some 71,some 72,some 73,some 74,some 75,some 76,some 77,some 78,some 79,some 80,some 81,some 82,some 83,some 84,some 85,some 86,some 87,some 88,some 89,some 90,some 91,some 92,some 93,some 94,some 95,some 96,some 97,some 98,some 99,some 100,some 101,some 102,some 103,some 104,some 105,some 106,some 107,some 108,some 109,some 110,some 111,some 112,some 113,some 114,some 115,some 116,some 117,some 118,some 119,some 120,some 121,some 122,some 123,some 124,some 125,some 126,some 127,some 128,some 129,some 130,some 131,some 132,some 133,some 134,some 135,some 136,some 137,some 138,some 139,some 140,some 141,some 142,some 143,some 144,some 145,some 146,some 147,some 148,none]
def lnM3:List (Option Nat):=[none,none,none,none,none,none,none,none,none,some 9,some 10,some 11,some 12,some 13,some 14,some 15,some 16,some 17,some 18,some 19,none,none,none,none,none,none,none,none,none,none,none,none,none,none,none,none,none,none,none,none,none,none,none,none,none,none,none,none,none,none,none,none,none,none,none,none,none,none,none,some 59,some 60,some 61,some 62,some 63,some 64,some 65,some 66,some 67,some 68,some 69,some 70,some 71,some 72,some 73,some 74,some 75,some 76,some 77,some 78,some 79,some 80,some 81,some 82,some 83,some 84,some 85,some 86,some 87,some 88,some 89,some 90,some 91,some 92,some 93,some 94,some 95,some 96,some 97,some 98,some 99,some 100,some 101,some 102,some 103,some 104,some 105,some 106,some 107,some 108,some 109,some 110,some 111,some 112,some 113,some 114,some 115,some 116,some 117,some 118,some 119,some 120,some 121,some 122,some 123,some 124,some 125,some 126,some 127,some 128,some 129,some 130,some 131,some 132,some 133,some 134,some 135,some 136,some 137,some 138,some 139,some 140,some 141,some 142,some 143,some 144,some 145,some 146,some 147,some 148,none]
def lnM4:List (Option Nat):=[none,none,none,none,none,none,none,none,none,none,none,none,none,none,none,none,some 16,some 17,some 18,some 19,none,none,none,none,none,none,none,none,none,none,none,none,none,none,none,none,none,none,none,none,none,none,none,none,none,none,none,none,none,none,none,none,none,none,none,none,none,none,none,none,none,none,none,none,none,none,none,none,none,none,none,none,none,none,none,none,none,none,none,none,none,none,none,none,none,none,none,none,none,none,none,none,none,none,none,some 95,some 96,some 97,some 98,some 99,some 100,some 101,some 102,some 103,some 104,some 105,some 106,some 107,some 108,some 109,some 110,some 111,some 112,some 113,some 114,some 115,some 116,some 117,some 118,some 119,none,none,none,none,none,none,none,none,none,none,none,none,none,none,none,none,none,none,none,none,none,none,none,none,none,none,none,none,none,none]
theorem zl4(c:Cut)(w:World)(hr:CutAt w w.heap.size c):Calls Tryz.prog 245 #[.agg #[.int .i64 c.wide,.int .i64 c.high,.slice c.A c.piece.length c.c]] w (Ret (zgT c) w):=by
 have n1:=nxA w (.cells #[.int .i64 c.wide,.int .i64 c.high,.slice c.A c.piece.length c.c] 57)
 have n2:=nxA (w.alloc (.cells #[.int .i64 c.wide,.int .i64 c.high,.slice c.A c.piece.length c.c] 57)) (.cells #[.int .i64 0,.int .i64 0,.int .i64 0,.int .i64 0] 310)
 have ay:=qG ((Bx.new w #[.int .i64 c.wide,.int .i64 c.high,.slice c.A c.piece.length c.c] 57).next n2)
 have aQ:=qG (Bx.new (w.alloc (.cells #[.int .i64 c.wide,.int .i64 c.high,.slice c.A c.piece.length c.c] 57)) #[.int .i64 0,.int .i64 0,.int .i64 0,.int .i64 0] 310)
 have aH:=qG (n1.trans (n2.mono n1.size))
 have bp:=qG (hr.next aH.o)
 simp only[World.size_alloc] at aQ
 have aR:=qG (show zan c=if cutE c=0 then(lenS c,zcu c (zco c),zcu c (zbS c),zcu c (zbR c)) else(0,0,0,0) from rfl)
 clear hr n1 n2
 go_enter Tryz.func245,Tryz.ntmps245
 go_upto_region 1 with fail
 generalize(w.alloc (.cells #[.int .i64 c.wide,.int .i64 c.high,.slice c.A c.piece.length c.c] 57)).alloc (.cells #[.int .i64 0,.int .i64 0,.int .i64 0,.int .i64 0] 310)=V at *
 have c0:=ay.o.c 0 _ rfl
 have c1:=ay.o.c 1 _ rfl
 have c2:=ay.o.c 2 _ rfl
 go_wp2_with fail
 refine(zcU c 0 V bp.o).mono ?_
 rintro e V0 ⟨ho,aI⟩
 clear c0 c1 c2
 have aS:=qG (ay.o.next aI)
 have az:=qG (aQ.o.next aI)
 have au:=qG (aH.o.trans (aI.mono aH.o.size))
 clear ay aQ bp aH aI
 rcases ho with ho|ho
 .obtain⟨h0,rfl⟩:=ho
  have hn:=nxA V0 (.cells #[.int .i64 0,.int .i64 0,.slice none 0 0,.map none] 156)
  have HY:=qG (az.o.next hn)
  have HB:=qG (au.o.trans (hn.mono au.o.size))
  have HE:=qG (show cutE c=openE c 0 from(zh8 c).symm)
  have HL:=qG (show zan c=(0,0,0,0) from by rw[aR.o,if_neg (by rw[HE.o];exact h0)])
  have e0:(openE c 0==0)=false:=by simp[h0]
  have f0:=HY.o.fr 0
  have f1:=HY.o.fr 1
  have f2:=HY.o.fr 2
  have f3:=HY.o.fr 3
  have g0:=HY.o.c 0 _ rfl
  have g1:=HY.o.c 1 _ rfl
  have g2:=HY.o.c 2 _ rfl
  have g3:=HY.o.c 3 _ rfl
  have aG:=qG (zmK (HY.o.setAll [.int .i64 0,.int .i64 0,.int .i64 0,.int .i64 0] rfl))
  have aT:=qG (zac (b:=w.heap.size+1) (B:=w.heap.size) (by omega) [.int .i64 0,.int .i64 0,.int .i64 0,.int .i64 0] 0 HB.o)
  clear h0 hn aS az au
  generalize openE c 0=x at *
  go_wp2_with fail
  ((try simp only[Exit.inBlock,Exit.then]);refine bodyPost_ret (zah rfl rfl aG.o) rfl ?_)
  exact zgI HL.o HE.o aT.o
 .obtain⟨h0,bm,rfl,aU,aV⟩:=ho
  have HG:=qG (zgL h0)
  have bq:=qG (show cutE c=0 from(zh8 c).symm.trans h0)
  have hn:=nxA V0 (.cells #[.int .i64 c.wide,.int .i64 c.high,.slice c.A c.piece.length c.c,.map (some (bm))] 156)
  obtain⟨gp,aA⟩:∃ g,g=V0.heap.size:=⟨_,rfl⟩
  have ak:=qG (show LnP c bm gp w (V0.alloc (.cells #[.int .i64 c.wide,.int .i64 c.high,.slice c.A c.piece.length c.c,.map (some (bm))] 156)) 0 0 0 0 from⟨az.o.next hn,aS.o.next hn,by rw[aA];exact Bx.new V0 #[.int .i64 c.wide,.int .i64 c.high,.slice c.A c.piece.length c.c,.map (some (bm))] 156,MapIs.next aV hn,au.o.trans (hn.mono au.o.size),by have:=az.o.lt;omega⟩)
  have HW:=qG (show((W c:Nat):Int)=c.wide from by have:=HG.o.ok.w;unfold W;omega)
  have HH:=qG (show((H c:Nat):Int)=c.high from by have:=HG.o.ok.h;unfold H;omega)
  have ci:=HG.o.ok.w
  have cj:=HG.o.ok.h
  clear h0 aU aV hn aS az au
  go_upto_region 2 with fail
  rw[<- aA]
  clear aA
  generalize V0.alloc (.cells #[.int .i64 c.wide,.int .i64 c.high,.slice c.A c.piece.length c.c,.map (some (bm))] 156)=V1 at *
  have q0:=ak.o.p.c 0 _ rfl
  have q1:=ak.o.p.c 1 _ rfl
  have q2:=ak.o.p.c 2 _ rfl
  have q3:=ak.o.p.c 3 _ rfl
  go_wp2_with fail
  refine(zij c bm V1 HG.o.ok ak.o.pic).mono ?_
  rintro e V2 ⟨be,rfl,bV,bu,aW⟩
  obtain⟨rr,aJ⟩:∃ rr,rr=V2.heap.size:=⟨_,rfl⟩
  obtain⟨V3,cnt0,aX,aY,bv,bw⟩:=bu.range zds
  rw[<- aJ] at aX aY bw
  have ac:=qG ((ak.o.next aW).next bv)
  have aU:=ak.o.pic.lt
  have aA:=ak.o.g
  have bQ:=ak.o.p.lt
  have aZ:=qG (show(rr≠w.heap.size+1/\rr≠w.heap.size/\rr≠gp/\rr≠bm/\w.heap.size<=rr)/\be≠w.heap.size+1 from by have:=aW.size;omega)
  have bW:=qG (show RMp c bm gp be rr w V3 (fun _=>false) cnt0 from⟨by rw[zmQ];exact ac.o,aY⟩)
  clear bu bV aW aY bv bw aU aA bQ aJ q0 q1 q2 q3
  go_wp2_with fail
  clear aX ac
  go_loopw [] (fun wr=>∃ done cnt,RMp c bm gp be rr w wr done cnt) (fun wr=>zdI be rr wr)
  case atStart=>exact⟨_,_,bW.o⟩
  case round=>
   obtain⟨done,cnt,hr⟩:=hrel
   have HM:=qG hr
   have aw:=qG hr.rg.left
   generalize wr=W1 at *
   rcases hr.rg.step zbK 0 with ⟨h0,a7,bz⟩|⟨p,v,W2,cnt2,hf,bA,-,bz,ao,a8,bB,bX,hent⟩
   .have aB:=qG (show LnP c bm gp w W1 (lenS c) 0 0 0 from by have:=hr.ln;rw[zog a7] at this;exact this)
    obtain⟨l,hl⟩:∃ l,l=lenS c:=⟨_,rfl⟩
    rw[<- hl] at aB aR
    clear hr a7 hl
    go_wp2_with fail
    refine zfV lnM2 (fun g W=>RP3 c bm gp w l (g 8) W) (fun g _=>H c+1-(intOf (g 8)).toNat) (by kernel_rfl) ⟨0,0,0,0,by omega,zae rfl,rfl,rfl,rfl,aB.o⟩ ?_
    .intro f8 wr hrel
     obtain⟨y,b,j,s,hy,e8,hb,hj,hs,aC⟩:=hrel
     simp only[lnM2,mixF,e8]
     have bY:=qG e8
     clear e8
     generalize wr=W3 at *
     have ac:=qG aC
     have bC:=qG hb
     have bD:=qG hj
     have bE:=qG hs
     have aD:=HH.o
     have c1:=ac.o.x.c 1 _ rfl
     clear aC hb hj hs
     by_cases cm:y<H c+1
     .have bR:(y:Int)<=c.high:=by omega
      have bZ:IntKind.i64.wrap ((y:Int)+1)=(y:Int)+1:=qF _ (by omega)
      have a9:IntKind.i64.wrap ((y:Int)-1)=(y:Int)-1:=qF _ (by omega)
      have bS:=qG (show H c+1-(y+1)<H c+1-y from by omega)
      clear aD
      go_wp2_with fail
      clear c1
      refine zfV lnM3 (fun g W'=>RP4 c bm gp w l y (g 9) W') (fun g _=>W c+1-(intOf (g 9)).toNat) (by kernel_rfl) ⟨0,b,j,s,by omega,zae rfl,by rw[bC.o];show _=_+0;omega,by rw[bD.o];show _=_+0;omega,by rw[bE.o];show _=_+0;omega,ac.o⟩ ?_
      .intro f9 wr hrel
       obtain⟨x,b2,j2,s2,hx,e9,hb,hj,hs,aC⟩:=hrel
       simp only[lnM3,mixF,e9]
       have aq:=qG e9
       clear e9
       generalize wr=W4 at *
       have ae:=qG aC
       have bF:=qG hb
       have bG:=qG hj
       have bH:=qG hs
       have bI:=HW.o
       have aD:=HH.o
       have cn:0<=b2/\b2<=1000:=by rw[hb];exact zhy HG.o.ok (fun x y=>(ziY c x y).2.2) (by omega) (by omega)
       have cp:0<=j2/\j2<=1000:=by rw[hj];exact zhy HG.o.ok (fun x y=>(ziY c x y).2.1) (by omega) (by omega)
       have cq:0<=s2/\s2<=1000:=by rw[hs];exact zhy HG.o.ok (fun x y=>(ziY c x y).1) (by omega) (by omega)
       have c0:=ae.o.x.c 0 _ rfl
       clear aC hb hj hs
       by_cases cr:x<W c+1
       .have bT:(x:Int)<=c.wide:=by omega
        have cv:IntKind.i64.wrap ((x:Int)+1)=(x:Int)+1:=qF _ (by omega)
        have bU:IntKind.i64.wrap ((x:Int)-1)=(x:Int)-1:=qF _ (by omega)
        have cw:IntKind.i64.wrap (b2+1)=b2+1:=qF _ (by omega)
        have cx:IntKind.i64.wrap (j2+1)=j2+1:=qF _ (by omega)
        have aj:=qG (show W c+1-(x+1)<W c+1-x from by omega)
        have cy:(x:Int)<=12:=by omega
        have cz:(y:Int)<=12:=by omega
        have ag:=qG (fun(W':World) (bn jn sn:Int) (h1:bn=b2+zco c (x:Int) (y:Int)) (h2:jn=j2+zbS c (x:Int) (y:Int)) (h3:sn=s2+zbR c (x:Int) (y:Int)) (h:LnP c bm gp w W' l bn jn sn)=>(show RP4 c bm gp w l y (.int .i64 ((x:Int)+1)) W' from⟨x+1,bn,jn,sn,by omega,rfl,by rw[h1,bF.o];exact Int.add_assoc _ _ _,by rw[h2,bG.o];exact Int.add_assoc _ _ _,by rw[h3,bH.o];exact Int.add_assoc _ _ _,h⟩))
        have ba:=qG (znd c (x:Int) (y:Int))
        have ah:=qG (show zbR c (x:Int) (y:Int)=if edgeP c (x:Int) (y:Int)=true then manyP c (x:Int) (y:Int) else 0 from rfl)
        have ai:=qG (show zbS c (x:Int) (y:Int)=if edgeP c (x:Int) (y:Int)=true then 0 else if 2<manyP c (x:Int) (y:Int) then 1 else 0 from rfl)
        have af:=qG (show zco c (x:Int) (y:Int)=if edgeP c (x:Int) (y:Int)=true then 0 else if 2<manyP c (x:Int) (y:Int) then 0 else if manyP c (x:Int) (y:Int)=2/\upB c (x:Int) (y:Int)≠zex c (x:Int) (y:Int) then 1 else 0 from rfl)
        have bJ:=qG (show manyP c (x:Int) (y:Int)=b2i (upB c (x:Int) (y:Int))+b2i (zeP c (x:Int) (y:Int))+b2i (zex c (x:Int) (y:Int))+b2i (zgU c (x:Int) (y:Int)) from rfl)
        have aK:=qG (show upB c (x:Int) (y:Int)=cutB (at2 c (x:Int) ((y:Int)-1)) (at2 c ((x:Int)-1) ((y:Int)-1)) from rfl)
        have bf:=qG (show zeP c (x:Int) (y:Int)=cutB (at2 c (x:Int) (y:Int)) (at2 c (x:Int) ((y:Int)-1)) from rfl)
        have aL:=qG (show zex c (x:Int) (y:Int)=cutB (at2 c ((x:Int)-1) (y:Int)) (at2 c (x:Int) (y:Int)) from rfl)
        have bh:=qG (show zgU c (x:Int) (y:Int)=cutB (at2 c ((x:Int)-1) ((y:Int)-1)) (at2 c ((x:Int)-1) (y:Int)) from rfl)
        unfold zlR zfC zfB zfz zfA at ba
        clear bI aD
        go_upto_region 15 with fail
        clear c0
        have HC:=qG (show ∀(x y:Int) (W:World),I64 x->I64 y->Below W4.heap.size W4 W->Calls Tryz.prog 144 #[.agg #[.int .i64 c.wide,.int .i64 c.high,.slice c.A c.piece.length c.c,.map (some (bm))],.agg #[.int .i64 x,.int .i64 y]] W (Ret (.int .i64 (at2 c x y)) W) from fun x y W hx hy h=>zeV c bm x y W (ae.o.next h).pic hx hy)
        have H3:=qG (show ∀ W:World,Below W4.heap.size W4 W->(W.cell? ⟨gp,0,none⟩=some (.int .i64 c.wide)/\W.cell? ⟨gp,1,none⟩=some (.int .i64 c.high)/\W.cell? ⟨gp,2,none⟩=some (.slice c.A c.piece.length c.c)/\W.cell? ⟨gp,3,none⟩=some (.map (some bm))) from fun W h=>⟨(ae.o.p.next h).c 0 _ rfl,(ae.o.p.next h).c 1 _ rfl,(ae.o.p.next h).c 2 _ rfl,(ae.o.p.next h).c 3 _ rfl⟩)
        have i1:I64 (x:Int):=⟨by omega,by omega⟩
        have i2:I64 (y:Int):=⟨by omega,by omega⟩
        have i3:I64 ((x:Int)-1):=⟨by omega,by omega⟩
        have i4:I64 ((y:Int)-1):=⟨by omega,by omega⟩
        refine wp_region_noPanic ?_
        refine wp_region_held_drew (S:=fun _=>True) (by kernel_rfl) ?_ (fun _=>?_)
        .trivial
        refine GG.sound (S0:=(fun W=>Below W4.heap.size W4 W/\W.cell? ⟨gp,0,none⟩=some (.int .i64 c.wide)/\W.cell? ⟨gp,1,none⟩=some (.int .i64 c.high)/\W.cell? ⟨gp,2,none⟩=some (.slice c.A c.piece.length c.c)/\W.cell? ⟨gp,3,none⟩=some (.map (some bm)))) _ (fun W=>Below W4.heap.size W4 W) _ _ (fun W W' h hb=>h.trans (hb.mono h.size)) (fun W h=>⟨h,H3.o W h⟩) ?_ _ ((Below.refl _ _).drew)
        refine gt 0 (h:=?_)
        refine gt 1 (h:=?_)
        refine gt 2 (h:=?_)
        refine gt 3 (h:=?_)
        refine gt 4 (h:=?_)
        refine gt 5 (h:=?_)
        refine zaj (i:=6) (v:=.int .i64 (at2 c ((x:Int)-1) ((y:Int)-1))) rfl (by kernel_rfl) (by kernel_rfl) (by kernel_rfl) (Or.inl ⟨by rfl,fun W hW=>?_⟩) ?_
        .go_simp;exact HC.o _ _ W i3 i4 hW.1
        try simp only[qW]
        refine gt 7 (h:=?_)
        refine gt 8 (h:=?_)
        refine gt 9 (h:=?_)
        refine gt 10 (h:=?_)
        refine gt 11 (h:=?_)
        refine zaj (i:=12) (v:=.int .i64 (at2 c (x:Int) ((y:Int)-1))) rfl (by kernel_rfl) (by kernel_rfl) (by kernel_rfl) (Or.inl ⟨by rfl,fun W hW=>?_⟩) ?_
        .go_simp;exact HC.o _ _ W i1 i4 hW.1
        try simp only[qW]
        refine gt 13 (h:=?_)
        refine gt 14 (h:=?_)
        refine gt 15 (h:=?_)
        refine gt 16 (h:=?_)
        refine gt 17 (h:=?_)
        refine zaj (i:=18) (v:=.int .i64 (at2 c ((x:Int)-1) (y:Int))) rfl (by kernel_rfl) (by kernel_rfl) (by kernel_rfl) (Or.inl ⟨by rfl,fun W hW=>?_⟩) ?_
        .go_simp;exact HC.o _ _ W i3 i2 hW.1
        try simp only[qW]
        refine gt 19 (h:=?_)
        refine gt 20 (h:=?_)
        refine gt 21 (h:=?_)
        refine gt 22 (h:=?_)
        refine zaj (i:=23) (v:=.int .i64 (at2 c (x:Int) (y:Int))) rfl (by kernel_rfl) (by kernel_rfl) (by kernel_rfl) (Or.inl ⟨by rfl,fun W hW=>?_⟩) ?_
        .go_simp;exact HC.o _ _ W i1 i2 hW.1
        try simp only[qW]
        refine gt 24 (h:=?_)
        refine gt 25 (h:=?_)
        refine gt 26 (h:=?_)
        refine gt 27 (h:=?_)
        refine ziQ (by kernel_rfl) (fun w' hT=>?_)
        refine NoPanic.normal ?_
        have an:=qG (ae.o.next hT)
        clear hT HC H3 i1 i2 i3 i4 a9 bU
        generalize at2 c ((x:Int)-1) ((y:Int)-1)=pa at *
        generalize at2 c (x:Int) ((y:Int)-1)=pb at *
        generalize at2 c ((x:Int)-1) (y:Int)=pd at *
        generalize at2 c (x:Int) (y:Int)=pf at *
        obtain⟨u,hu⟩:∃ u,u=cutB pb pa:=⟨_,rfl⟩
        obtain⟨r,ao⟩:∃ r,r=cutB pf pb:=⟨_,rfl⟩
        obtain⟨d,hd⟩:∃ d,d=cutB pd pf:=⟨_,rfl⟩
        obtain⟨le,hle⟩:∃ le,le=cutB pa pd:=⟨_,rfl⟩
        rw[<- hu] at aK
        rw[<- ao] at bf
        rw[<- hd] at aL
        rw[<- hle] at bh
        have HU:=qG hu
        have HR:=qG ao
        have HD:=qG hd
        have aw:=qG hle
        clear hu ao hd hle
        generalize w'=W5 at *
        have n14:=nxA W5 (.cells #[.int .i64 pa,.int .i64 pb,.int .i64 pf,.int .i64 pd] 366)
        have n15:=nxA (W5.alloc (.cells #[.int .i64 pa,.int .i64 pb,.int .i64 pf,.int .i64 pd] 366)) (.cells #[.bool false,.bool false,.bool false,.bool false] 367)
        have x14:=(Bx.new W5 #[.int .i64 pa,.int .i64 pb,.int .i64 pf,.int .i64 pd] 366).next n15
        have x15:=Bx.new (W5.alloc (.cells #[.int .i64 pa,.int .i64 pb,.int .i64 pf,.int .i64 pd] 366)) #[.bool false,.bool false,.bool false,.bool false] 367
        simp only[World.size_alloc] at x15
        obtain⟨g14,ax⟩:∃ g,g=W5.heap.size:=⟨_,rfl⟩
        obtain⟨W6,aE⟩:∃ W',W'=(W5.alloc (.cells #[.int .i64 pa,.int .i64 pb,.int .i64 pf,.int .i64 pd] 366)).alloc (.cells #[.bool false,.bool false,.bool false,.bool false] 367):=⟨_,rfl⟩
        have bK:=qG (show RPi c bm gp w l b2 j2 s2 g14 (g14+1) pa pb pf pd u r d le 0 (.int .i64 0) W6 from by
         have h1:=an.o.o.lt
         have h2:=an.o.p.lt
         have h3:=an.o.pic.lt
         have h4:=an.o.x.lt
         refine⟨by omega,rfl,by rw[aE];exact(an.o.next n14).next n15,by rw[aE,ax];exact x14,by rw[aE,ax];exact x15,?_⟩
         omega)
        go_wp2_with fail
        rw[<- aE,<- ax]
        clear aE ax n14 n15 x14 x15 an
        have HM:=qG (show zcv u r d le 4=manyP c (x:Int) (y:Int) from by rw[bJ.o,aK.o,bf.o,aL.o,bh.o];rfl)
        refine zfV lnM4 (fun g W'=>∃ i:Nat,g 95=.int .i64 (i:Int)/\RPi c bm gp w l b2 j2 s2 g14 (g14+1) pa pb pf pd u r d le i (g 16) W') (fun g _=>4-(intOf (g 95)).toNat) (by kernel_rfl) ⟨0,zae rfl,by rw[zae rfl];exact bK.o⟩ ?_
        .intro fi wr hrel
         obtain⟨i,e95,aa⟩:=hrel
         have e16:=aa.m
         rw[e16] at aa
         simp only[lnM4,mixF,e95,e16]
         have ab:=qG e95
         clear e95 e16
         have hi:=aa.hi
         have b0:=zn4 u r d le i
         have bL:IntKind.i64.wrap (zcv u r d le i+1)=zcv u r d le i+1:=qF _ (by omega)
         generalize wr=W7 at *
         rcases(by omega:i=0\/i=1\/i=2\/i=3\/i=4) with rfl|rfl|rfl|rfl|rfl
         .have HI:=qG aa
          have t0:=aa.x14.c 0 _ rfl
          have t1:=aa.x14.c 1 _ rfl
          have t2:=aa.x14.c 2 _ rfl
          have t3:=aa.x14.c 3 _ rfl
          have s0:=aa.x15.fr 0
          have s1:=aa.x15.c 0 _ rfl
          have bi:∀ W:World,(Instr.index 366 (.agg #[.int .i64 pa,.int .i64 pb,.int .i64 pf,.int .i64 pd]) (.int .i64 0)).run Tryz.prog W=.ok (.int .i64 pa) W:=fun W=>by kernel_rfl
          clear aa
          by_cases h1:pb=pa
          .have HN:=qG (HI.o.no (by omega) (by show u=false;rw[HU.o];unfold cutB;simp;omega))
           have e1:(pb==pa)=true:=by simp[h1]
           have e1b:(pb !=pa)=false:=by simp[h1]
           clear h1
           clear HI
           go_wp2_with fail
           refine endM (by kernel_rfl) (by kernel_rfl) ⟨1,zae rfl,by rw[zae rfl];exact HN.o⟩ ?_
           show 4-(intOf (zar _ 95)).toNat<4-(intOf (fi 95)).toNat
           rw[zae rfl,ab.o]
           decide
          .have e1:(pb==pa)=false:=by simp[h1]
           have e1b:(pb !=pa)=true:=by simp[h1]
           by_cases h2:pb=-1
           .have HN:=qG (HI.o.no (by omega) (by show u=false;rw[HU.o];unfold cutB;simp;omega))
            have e2:(pb==-1)=true:=by simp[h2]
            have e2b:(pb !=-1)=false:=by simp[h2]
            clear h1 h2
            clear HI
            go_wp2_with fail
            refine endM (by kernel_rfl) (by kernel_rfl) ⟨1,zae rfl,by rw[zae rfl];exact HN.o⟩ ?_
            show 4-(intOf (zar _ 95)).toNat<4-(intOf (fi 95)).toNat
            rw[zae rfl,ab.o]
            decide
           .have e2:(pb==-1)=false:=by simp[h2]
            have e2b:(pb !=-1)=true:=by simp[h2]
            by_cases h3:pa=-1
            .have HN:=qG (HI.o.no (by omega) (by show u=false;rw[HU.o];unfold cutB;simp;omega))
             have e3:(pa==-1)=true:=by simp[h3]
             have e3b:(pa !=-1)=false:=by simp[h3]
             clear h1 h2 h3
             clear HI
             go_wp2_with fail
             refine endM (by kernel_rfl) (by kernel_rfl) ⟨1,zae rfl,by rw[zae rfl];exact HN.o⟩ ?_
             show 4-(intOf (zar _ 95)).toNat<4-(intOf (fi 95)).toNat
             rw[zae rfl,ab.o]
             decide
            .have e3:(pa==-1)=false:=by simp[h3]
             have e3b:(pa !=-1)=true:=by simp[h3]
             have HN:=qG (HI.o.yes (by omega) (by show u=true;rw[HU.o];unfold cutB;simp;omega))
             clear HI h1 h2 h3
             go_wp2_with fail
             refine endM (by kernel_rfl) (by kernel_rfl) ⟨1,zae rfl,by rw[zae rfl];exact HN.o⟩ ?_
             show 4-(intOf (zar _ 95)).toNat<4-(intOf (fi 95)).toNat
             rw[zae rfl,ab.o]
             decide
         .have HI:=qG aa
          have t0:=aa.x14.c 0 _ rfl
          have t1:=aa.x14.c 1 _ rfl
          have t2:=aa.x14.c 2 _ rfl
          have t3:=aa.x14.c 3 _ rfl
          have s0:=aa.x15.fr 1
          have s1:=aa.x15.c 1 _ rfl
          have bi:∀ W:World,(Instr.index 366 (.agg #[.int .i64 pa,.int .i64 pb,.int .i64 pf,.int .i64 pd]) (.int .i64 1)).run Tryz.prog W=.ok (.int .i64 pb) W:=fun W=>by kernel_rfl
          clear aa
          by_cases h1:pf=pb
          .have HN:=qG (HI.o.no (by omega) (by show r=false;rw[HR.o];unfold cutB;simp;omega))
           have e1:(pf==pb)=true:=by simp[h1]
           have e1b:(pf !=pb)=false:=by simp[h1]
           clear h1
           clear HI
           go_wp2_with fail
           refine endM (by kernel_rfl) (by kernel_rfl) ⟨2,zae rfl,by rw[zae rfl];exact HN.o⟩ ?_
           show 4-(intOf (zar _ 95)).toNat<4-(intOf (fi 95)).toNat
           rw[zae rfl,ab.o]
           decide
          .have e1:(pf==pb)=false:=by simp[h1]
           have e1b:(pf !=pb)=true:=by simp[h1]
           by_cases h2:pf=-1
           .have HN:=qG (HI.o.no (by omega) (by show r=false;rw[HR.o];unfold cutB;simp;omega))
            have e2:(pf==-1)=true:=by simp[h2]
            have e2b:(pf !=-1)=false:=by simp[h2]
            clear h1 h2
            clear HI
            go_wp2_with fail
            refine endM (by kernel_rfl) (by kernel_rfl) ⟨2,zae rfl,by rw[zae rfl];exact HN.o⟩ ?_
            show 4-(intOf (zar _ 95)).toNat<4-(intOf (fi 95)).toNat
            rw[zae rfl,ab.o]
            decide
           .have e2:(pf==-1)=false:=by simp[h2]
            have e2b:(pf !=-1)=true:=by simp[h2]
            by_cases h3:pb=-1
            .have HN:=qG (HI.o.no (by omega) (by show r=false;rw[HR.o];unfold cutB;simp;omega))
             have e3:(pb==-1)=true:=by simp[h3]
             have e3b:(pb !=-1)=false:=by simp[h3]
             clear h1 h2 h3
             clear HI
             go_wp2_with fail
             refine endM (by kernel_rfl) (by kernel_rfl) ⟨2,zae rfl,by rw[zae rfl];exact HN.o⟩ ?_
             show 4-(intOf (zar _ 95)).toNat<4-(intOf (fi 95)).toNat
             rw[zae rfl,ab.o]
             decide
            .have e3:(pb==-1)=false:=by simp[h3]
             have e3b:(pb !=-1)=true:=by simp[h3]
             have HN:=qG (HI.o.yes (by omega) (by show r=true;rw[HR.o];unfold cutB;simp;omega))
             clear HI h1 h2 h3
             go_wp2_with fail
             refine endM (by kernel_rfl) (by kernel_rfl) ⟨2,zae rfl,by rw[zae rfl];exact HN.o⟩ ?_
             show 4-(intOf (zar _ 95)).toNat<4-(intOf (fi 95)).toNat
             rw[zae rfl,ab.o]
             decide
         .have HI:=qG aa
          have t0:=aa.x14.c 0 _ rfl
          have t1:=aa.x14.c 1 _ rfl
          have t2:=aa.x14.c 2 _ rfl
          have t3:=aa.x14.c 3 _ rfl
          have s0:=aa.x15.fr 2
          have s1:=aa.x15.c 2 _ rfl
          have bi:∀ W:World,(Instr.index 366 (.agg #[.int .i64 pa,.int .i64 pb,.int .i64 pf,.int .i64 pd]) (.int .i64 2)).run Tryz.prog W=.ok (.int .i64 pf) W:=fun W=>by kernel_rfl
          clear aa
          by_cases h1:pd=pf
          .have HN:=qG (HI.o.no (by omega) (by show d=false;rw[HD.o];unfold cutB;simp;omega))
           have e1:(pd==pf)=true:=by simp[h1]
           have e1b:(pd !=pf)=false:=by simp[h1]
           clear h1
           clear HI
           go_wp2_with fail
           refine endM (by kernel_rfl) (by kernel_rfl) ⟨3,zae rfl,by rw[zae rfl];exact HN.o⟩ ?_
           show 4-(intOf (zar _ 95)).toNat<4-(intOf (fi 95)).toNat
           rw[zae rfl,ab.o]
           decide
          .have e1:(pd==pf)=false:=by simp[h1]
           have e1b:(pd !=pf)=true:=by simp[h1]
           by_cases h2:pd=-1
           .have HN:=qG (HI.o.no (by omega) (by show d=false;rw[HD.o];unfold cutB;simp;omega))
            have e2:(pd==-1)=true:=by simp[h2]
            have e2b:(pd !=-1)=false:=by simp[h2]
            clear h1 h2
            clear HI
            go_wp2_with fail
            refine endM (by kernel_rfl) (by kernel_rfl) ⟨3,zae rfl,by rw[zae rfl];exact HN.o⟩ ?_
            show 4-(intOf (zar _ 95)).toNat<4-(intOf (fi 95)).toNat
            rw[zae rfl,ab.o]
            decide
           .have e2:(pd==-1)=false:=by simp[h2]
            have e2b:(pd !=-1)=true:=by simp[h2]
            by_cases h3:pf=-1
            .have HN:=qG (HI.o.no (by omega) (by show d=false;rw[HD.o];unfold cutB;simp;omega))
             have e3:(pf==-1)=true:=by simp[h3]
             have e3b:(pf !=-1)=false:=by simp[h3]
             clear h1 h2 h3
             clear HI
             go_wp2_with fail
             refine endM (by kernel_rfl) (by kernel_rfl) ⟨3,zae rfl,by rw[zae rfl];exact HN.o⟩ ?_
             show 4-(intOf (zar _ 95)).toNat<4-(intOf (fi 95)).toNat
             rw[zae rfl,ab.o]
             decide
            .have e3:(pf==-1)=false:=by simp[h3]
             have e3b:(pf !=-1)=true:=by simp[h3]
             have HN:=qG (HI.o.yes (by omega) (by show d=true;rw[HD.o];unfold cutB;simp;omega))
             clear HI h1 h2 h3
             go_wp2_with fail
             refine endM (by kernel_rfl) (by kernel_rfl) ⟨3,zae rfl,by rw[zae rfl];exact HN.o⟩ ?_
             show 4-(intOf (zar _ 95)).toNat<4-(intOf (fi 95)).toNat
             rw[zae rfl,ab.o]
             decide
         .have HI:=qG aa
          have t0:=aa.x14.c 0 _ rfl
          have t1:=aa.x14.c 1 _ rfl
          have t2:=aa.x14.c 2 _ rfl
          have t3:=aa.x14.c 3 _ rfl
          have s0:=aa.x15.fr 3
          have s1:=aa.x15.c 3 _ rfl
          have bi:∀ W:World,(Instr.index 366 (.agg #[.int .i64 pa,.int .i64 pb,.int .i64 pf,.int .i64 pd]) (.int .i64 3)).run Tryz.prog W=.ok (.int .i64 pd) W:=fun W=>by kernel_rfl
          clear aa
          by_cases h1:pa=pd
          .have HN:=qG (HI.o.no (by omega) (by show le=false;rw[aw.o];unfold cutB;simp;omega))
           have e1:(pa==pd)=true:=by simp[h1]
           have e1b:(pa !=pd)=false:=by simp[h1]
           clear h1
           clear HI
           go_wp2_with fail
           refine endM (by kernel_rfl) (by kernel_rfl) ⟨4,zae rfl,by rw[zae rfl];exact HN.o⟩ ?_
           show 4-(intOf (zar _ 95)).toNat<4-(intOf (fi 95)).toNat
           rw[zae rfl,ab.o]
           decide
          .have e1:(pa==pd)=false:=by simp[h1]
           have e1b:(pa !=pd)=true:=by simp[h1]
           by_cases h2:pa=-1
           .have HN:=qG (HI.o.no (by omega) (by show le=false;rw[aw.o];unfold cutB;simp;omega))
            have e2:(pa==-1)=true:=by simp[h2]
            have e2b:(pa !=-1)=false:=by simp[h2]
            clear h1 h2
            clear HI
            go_wp2_with fail
            refine endM (by kernel_rfl) (by kernel_rfl) ⟨4,zae rfl,by rw[zae rfl];exact HN.o⟩ ?_
            show 4-(intOf (zar _ 95)).toNat<4-(intOf (fi 95)).toNat
            rw[zae rfl,ab.o]
            decide
           .have e2:(pa==-1)=false:=by simp[h2]
            have e2b:(pa !=-1)=true:=by simp[h2]
            by_cases h3:pd=-1
            .have HN:=qG (HI.o.no (by omega) (by show le=false;rw[aw.o];unfold cutB;simp;omega))
             have e3:(pd==-1)=true:=by simp[h3]
             have e3b:(pd !=-1)=false:=by simp[h3]
             clear h1 h2 h3
             clear HI
             go_wp2_with fail
             refine endM (by kernel_rfl) (by kernel_rfl) ⟨4,zae rfl,by rw[zae rfl];exact HN.o⟩ ?_
             show 4-(intOf (zar _ 95)).toNat<4-(intOf (fi 95)).toNat
             rw[zae rfl,ab.o]
             decide
            .have e3:(pd==-1)=false:=by simp[h3]
             have e3b:(pd !=-1)=true:=by simp[h3]
             have HN:=qG (HI.o.yes (by omega) (by show le=true;rw[aw.o];unfold cutB;simp;omega))
             clear HI h1 h2 h3
             go_wp2_with fail
             refine endM (by kernel_rfl) (by kernel_rfl) ⟨4,zae rfl,by rw[zae rfl];exact HN.o⟩ ?_
             show 4-(intOf (zar _ 95)).toNat<4-(intOf (fi 95)).toNat
             rw[zae rfl,ab.o]
             decide
         .have HI:=qG aa
          have bM:At W7 W7.heap.size 1 zad (some ⟨g14,0,none⟩) [pa,pb,pf,pd]:=zqr aa.x14
          have bN:=qG bM
          rw[HM.o] at b0 bL ⊢
          have b7:=aa.x15.c 0 _ rfl
          have b8:=aa.x15.c 2 _ rfl
          have o1:=aa.ln.o.c 1 _ rfl
          have o2:=aa.ln.o.c 2 _ rfl
          have o3:=aa.ln.o.c 3 _ rfl
          have f1:=aa.ln.o.fr 1
          have f2:=aa.ln.o.fr 2
          have f3:=aa.ln.o.fr 3
          change W7.cell? ⟨g14+1,0,none⟩=some (.bool u) at b7
          change W7.cell? ⟨g14+1,2,none⟩=some (.bool d) at b8
          rw[aK.o,aL.o] at af
          clear aa bM bJ aK bf aL bh HU HR HD aw bK HM bL
          generalize manyP c (x:Int) (y:Int)=mm at *
          have cA:IntKind.i64.wrap (s2+mm)=s2+mm:=qF _ (by omega)
          go_wp2_with fail
          refine(zhM (-1) (some ⟨g14,0,none⟩) 4 [pa,pb,pf,pd] W7 bN.o (by simp)).mono ?_
          rintro e w' ⟨rfl,rfl⟩
          rw[ba.o]
          generalize edgeP c (x:Int) (y:Int)=ed at *
          clear ba bN
          cases ed
          .by_cases aM:2<mm
           .have HN:=qG (ag.o _ b2 (j2+1) s2 (by rw[af.o];simp[aM]) (by rw[ai.o];simp[aM]) (by rw[ah.o];simp) (HI.o.ln.set2 (j2+1)))
            clear ag af ai ah
            go_wp2_with fail
            refine endM (by kernel_rfl) (by kernel_rfl) (by show RP4 c bm gp w l y (zar _ 9) _;rw[zae rfl];exact HN.o) ?_
            show W c+1-(intOf (zar _ 9)).toNat<W c+1-(intOf (f9 9)).toNat
            rw[zae rfl,aq.o]
            have:=aj.o
            simp[intOf]
            omega
           .by_cases aN:mm=2
            .subst aN
             cases u <;> cases d
             .have HN:=qG (ag.o _ b2 j2 s2 (by rw[af.o];simp) (by rw[ai.o];simp) (by rw[ah.o];simp) HI.o.ln)
              clear ag af ai ah
              go_wp2_with fail
              refine endM (by kernel_rfl) (by kernel_rfl) (by show RP4 c bm gp w l y (zar _ 9) _;rw[zae rfl];exact HN.o) ?_
              show W c+1-(intOf (zar _ 9)).toNat<W c+1-(intOf (f9 9)).toNat
              rw[zae rfl,aq.o]
              have:=aj.o
              simp[intOf]
              omega
             .have HN:=qG (ag.o _ (b2+1) j2 s2 (by rw[af.o];simp) (by rw[ai.o];simp) (by rw[ah.o];simp) (HI.o.ln.set1 (b2+1)))
              clear ag af ai ah
              go_wp2_with fail
              refine endM (by kernel_rfl) (by kernel_rfl) (by show RP4 c bm gp w l y (zar _ 9) _;rw[zae rfl];exact HN.o) ?_
              show W c+1-(intOf (zar _ 9)).toNat<W c+1-(intOf (f9 9)).toNat
              rw[zae rfl,aq.o]
              have:=aj.o
              simp[intOf]
              omega
             .have HN:=qG (ag.o _ (b2+1) j2 s2 (by rw[af.o];simp) (by rw[ai.o];simp) (by rw[ah.o];simp) (HI.o.ln.set1 (b2+1)))
              clear ag af ai ah
              go_wp2_with fail
              refine endM (by kernel_rfl) (by kernel_rfl) (by show RP4 c bm gp w l y (zar _ 9) _;rw[zae rfl];exact HN.o) ?_
              show W c+1-(intOf (zar _ 9)).toNat<W c+1-(intOf (f9 9)).toNat
              rw[zae rfl,aq.o]
              have:=aj.o
              simp[intOf]
              omega
             .have HN:=qG (ag.o _ b2 j2 s2 (by rw[af.o];simp) (by rw[ai.o];simp) (by rw[ah.o];simp) HI.o.ln)
              clear ag af ai ah
              go_wp2_with fail
              refine endM (by kernel_rfl) (by kernel_rfl) (by show RP4 c bm gp w l y (zar _ 9) _;rw[zae rfl];exact HN.o) ?_
              show W c+1-(intOf (zar _ 9)).toNat<W c+1-(intOf (f9 9)).toNat
              rw[zae rfl,aq.o]
              have:=aj.o
              simp[intOf]
              omega
            .have e3:(mm==2)=false:=by simp[aN]
             have HN:=qG (ag.o _ b2 j2 s2 (by rw[af.o];simp[aM,aN]) (by rw[ai.o];simp[aM]) (by rw[ah.o];simp) HI.o.ln)
             clear ag af ai ah aN
             go_wp2_with fail
             refine endM (by kernel_rfl) (by kernel_rfl) (by show RP4 c bm gp w l y (zar _ 9) _;rw[zae rfl];exact HN.o) ?_
             show W c+1-(intOf (zar _ 9)).toNat<W c+1-(intOf (f9 9)).toNat
             rw[zae rfl,aq.o]
             have:=aj.o
             simp[intOf]
             omega
          .have HN:=qG (ag.o _ b2 j2 (s2+mm) (by rw[af.o];simp) (by rw[ai.o];simp) (by rw[ah.o];simp) (HI.o.ln.set3 (s2+mm)))
           clear ag af ai ah
           go_wp2_with fail
           refine endM (by kernel_rfl) (by kernel_rfl) (by show RP4 c bm gp w l y (zar _ 9) _;rw[zae rfl];exact HN.o) ?_
           show W c+1-(intOf (zar _ 9)).toNat<W c+1-(intOf (f9 9)).toNat
           rw[zae rfl,aq.o]
           have:=aj.o
           simp[intOf]
           omega
       .have bT:¬(x:Int)<=c.wide:=by omega
        have aO:x=W c+1:=by omega
        have HF:=qG (show RP3 c bm gp w l (.int .i64 ((y:Int)+1)) W4 from⟨y+1,b2,j2,s2,by omega,rfl,by rw[bF.o,aO];rfl,by rw[bG.o,aO];rfl,by rw[bH.o,aO];rfl,ae.o⟩)
        clear aO bI aD a9
        go_wp2_with fail
        refine endM (by kernel_rfl) (by kernel_rfl) (by show RP3 c bm gp w l (zar _ 8) _;rw[zae rfl];exact HF.o) ?_
        show H c+1-(intOf (zar _ 8)).toNat<H c+1-(intOf (f8 8)).toNat
        rw[zae rfl,bY.o]
        have:=bS.o
        simp[intOf]
        omega
     .have bR:¬(y:Int)<=c.high:=by omega
      have aP:y=H c+1:=by omega
      have cb:=qG (show b=zcu c (zco c) from by rw[bC.o,aP];rfl)
      have cd:=qG (show j=zcu c (zbS c) from by rw[bD.o,aP];rfl)
      have cf:=qG (show s=zcu c (zbR c) from by rw[bE.o,aP];rfl)
      have d0:=ac.o.o.c 0 _ rfl
      have d1:=ac.o.o.c 1 _ rfl
      have d2:=ac.o.o.c 2 _ rfl
      have d3:=ac.o.o.c 3 _ rfl
      have f0:=ac.o.o.fr 0
      have f1:=ac.o.o.fr 1
      have f2:=ac.o.o.fr 2
      have f3:=ac.o.o.fr 3
      have aG:=qG (zmK (ac.o.o.setAll [.int .i64 l,.int .i64 b,.int .i64 j,.int .i64 s] rfl))
      have aT:=qG (zac (b:=w.heap.size+1) (B:=w.heap.size) (by omega) [.int .i64 l,.int .i64 b,.int .i64 j,.int .i64 s] 0 ac.o.b)
      clear aP aD
      go_wp2_with fail
      ((try simp only[Exit.inBlock,Exit.then]);refine bodyPost_ret (zah rfl rfl aG.o) rfl ?_)
      exact zgI (by rw[aR.o,if_pos bq.o,cb.o,cd.o,cf.o]) bq.o aT.o
   .have aJ:=ao.rlt
    have hv:edgesR c p.2 p.1=v/\0<v:=by
     unfold edgO posO at hf
     split at hf
     .split at hf
      .injection hf with hf
       omega
      .cases hf
     .cases hf
    have cB:=zoJ HG.o.ok (a:=p.2) (b:=p.1) (by omega)
    have hlt:=zj3 HG.o.ok p.2 p.1
    have cg:=zp7 HG.o.ok done
    have aB:=qG (show LnP c bm gp w W2 (lenD c done) 0 0 0 from hr.ln.grow bB aZ.o.1)
    have bO:=qG ao
    have bj:=qG (show cnt2<zdI be rr W1 from by rw[hr.rg.left];exact a8)
    have hn:=nxA W2 (.cells #[.int .i64 p.1,.int .i64 p.2] 365)
    have ae:=qG (aB.o.next hn)
    have aF:=qG (bO.o.next_ hn)
    have ar:=qG (fun h=>zoh (c:=c) (D:=done) (p:=p) bA h ⟨by omega,by omega⟩)
    have am:=qG (fun h=>zmP (c:=c) (D:=done) (p:=p) h (by omega))
    have HV:=qG hv.1
    unfold kv2 vvI at bz hent
    obtain⟨l0,bk⟩:∃ l0,l0=lenD c done:=⟨_,rfl⟩
    rw[<- bk] at ae cg ar am
    have bZ:IntKind.i64.wrap (l0+v)=l0+v:=qF _ (by omega)
    have x6:=Bx.new W2 #[.int .i64 p.1,.int .i64 p.2] 365
    have k0:=ae.o.o.c 0 _ rfl
    have k1:=ae.o.o.fr 0
    clear hr hf bA ao a8 bB bX hn hv bk aJ aB bO
    by_cases hA:p.1=-1
    .have e1:(p.1==-1)=true:=by simp[hA]
     have e1':(p.1 !=-1)=false:=by simp[hA]
     have HS:=qG (am.o (fun h=>h.1 hA))
     have z0:=x6.c 0 _ rfl
     clear ar am hA x6
     go_wp2_with fail
     refine⟨⟨_,_,⟨by rw[HS.o];exact ae.o,aF.o⟩⟩,?_⟩
     rw[aF.o.left]
     exact bj.o
    .have e1:(p.1==-1)=false:=by simp[hA]
     have e1':(p.1 !=-1)=true:=by simp[hA]
     by_cases hC:p.1<p.2
     .have HS:=qG (ar.o ⟨hA,hC⟩)
      have z0:=x6.c 0 _ rfl
      have z1:=x6.c 1 _ rfl
      have bP:=qG (aF.o.grown (zlN _ (w.heap.size+1) 0 (.int .i64 (l0+v))) (fun e=>aZ.o.2 (by injection e)) (fun e=>aZ.o.1.1 (by injection e)))
      have an:=qG (ae.o.set0 (l0+v))
      clear ar am hA x6
      go_wp2_with fail
      refine⟨⟨_,_,⟨by rw[HS.o,HV.o];exact an.o,bP.o⟩⟩,?_⟩
      rw[bP.o.left]
      exact bj.o
     .have HS:=qG (am.o (fun h=>hC h.2))
      have z0:=x6.c 0 _ rfl
      have z1:=x6.c 1 _ rfl
      clear ar am hA x6
      go_wp2_with fail
      refine⟨⟨_,_,⟨by rw[HS.o];exact ae.o,aF.o⟩⟩,?_⟩
      rw[aF.o.left]
      exact bj.o
end Cu
end Go.Proofs.YtankkcbofgighaaGreatDoor
