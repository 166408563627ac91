import Derived.Test.YtankkcbofgighaaGreatDoorL4
import Derived.Laws.EntriesVeiled
import Derived.Laws.AppendOwn
import Derived.Maps.AppendAt
import Derived.Deep.MidRow
import Derived.Defers
import Derived.Recover
import Derived.Laws.Pointers
import Derived.Laws.IdiomCopy
import Derived.BigRegion
import Derived.Laws.BitsAllLaws
import Derived.Laws.Bits64b
set_option linter.all false
set_option maxRecDepth 100000
set_option maxHeartbeats 40000000
namespace Go.Proofs.YtankkcbofgighaaGreatDoor
namespace Le
open Go.RowKit
theorem znk:(Tryz.prog.info? 4).map (fun i=>(i.zero,i.size,i.bytes))=some (some (.bool false),1,1):=by kernel_rfl
theorem VBlk.made(w:World)(v:Value)(n:Nat)(t:TypeId):VBlk (w.alloc (.cells (madeCells #[v] n) t)) w.heap.size n (fun _=>v):=by
 refine⟨by simp,fun j hj=>?_,fun j=>by simp[go_sem]⟩
 have h1:(madeCells #[v] n).toList=List.replicate n v:=toList_madeCells_one _ _
 have h2:(madeCells #[v] n)[j]?=some v:=by
  rw[<- Array.getElem?_toList,h1,List.getElem?_replicate,if_pos hj]
 rw[<- h2]
 exact cell_of_row _ _ _ _ t (0,0) (heap_alloc_new w _)
theorem VBlk.eq{w:World}{g n:Nat}{f f':Nat->Value}(h:VBlk w g n f)(e:∀ s,s<n->f' s=f s):VBlk w g n f':=⟨h.lt,fun j hj=>by rw[e j hj];exact h.cell j hj,h.free⟩
theorem zkN{f:Nat->Nat}(h:∀ r,f r<=1):∀ n:Nat,sumR f n<=n
|0=>qQ _
|n+1=>by have:=zkN h n;have:=h n;show sumR f n+f n<=n+1;omega
def RetM(R:List (List Nat))(n:Nat)(w:World)(e:Ending)(w':World):Prop:=∃(many:Nat) (T:Tk),e=.returned (.int .i64 many)/\many<=R.length/\MtI (rowF R) T n R.length many/\Below w.heap.size w w'
def RMf(w:World)(R:List (List Nat))(A:Option Addr)(c n:Nat)(i:Value)(W:World):Prop:=∃ k:Nat,k<=n/\i=.int .i64 k/\Below w.heap.size w W/\Bx W w.heap.size [.slice A R.length c]/\Bx W (w.heap.size+1+1) [.slice (some ⟨w.heap.size+1,0,none⟩) n n]/\VBlk W (w.heap.size+1) n (fun s=>.int .i64 (if s<k then -1 else 0))
structure GP(V:World)(R:List (List Nat))(A:Option Addr)(c n br bs bt bg gt:Nat)(T:Tk)(w:World):Prop where
 b:Below V.heap.size V w
 xr:Bx w br [.slice A R.length c]
 xs:∃ v,Bx w bs [v]
 xt:Bx w bt [.slice (some ⟨gt,0,none⟩) n n]
 xg:Bx w bg [.func (.func 213) #[] #[.pointer (some ⟨br,0,none⟩),.pointer (some ⟨bs,0,none⟩),.pointer (some ⟨bt,0,none⟩),.pointer (some ⟨bg,0,none⟩)]]
 vt:VBlk w gt n (fun s=>.int .i64 (tkI (T s)))
def RMm(V:World)(R:List (List Nat))(A:Option Addr)(c n br bs bt bg gt:Nat)(mv i:Value)(W:World):Prop:=∃(k many:Nat) (T:Tk),k<=R.length/\i=.int .i64 k/\mv=.int .i64 many/\MtI (rowF R) T n k many/\GP V R A c n br bs bt bg gt T W
theorem GW.gp{V:World}{R:List (List Nat)}{A:Option Addr}{c n br bs bt bg gt gs:Nat}{T:Tk}{S:Nat->Bool}{w:World}(h:GW V R A c n br bs bt bg gt gs T S w):GP V R A c n br bs bt bg gt T w:=⟨h.b,h.xr,⟨_,h.xs⟩,h.xt,h.xg,h.vt⟩
theorem GP.gw{V:World}{R:List (List Nat)}{A:Option Addr}{c n br bs bt bg gt:Nat}{T:Tk}{w:World}(h:GP V R A c n br bs bt bg gt T w)(t:TypeId)(hs:V.heap.size<=bs)(h1:bs≠br)(h2:bs≠bt)(h3:bs≠bg)(h4:bs≠gt) :
  GW V R A c n br bs bt bg gt w.heap.size T (fun _=>false) ((w.setCell ⟨bs,0,none⟩ (.slice (some ⟨w.heap.size,0,none⟩) n n)).alloc (.cells (madeCells #[.bool false] n) t)):=by
 obtain⟨v,hv⟩:=h.xs
 have hb:=nxA (w.setCell ⟨bs,0,none⟩ (.slice (some ⟨w.heap.size,0,none⟩) n n)) (.cells (madeCells #[.bool false] n) t)
 have hm:=VBlk.made (w.setCell ⟨bs,0,none⟩ (.slice (some ⟨w.heap.size,0,none⟩) n n)) (.bool false) n t
 rw[World.size_setCell] at hm
 have aa:=h.b.setCell (p:=⟨bs,0,none⟩) hs (.slice (some ⟨w.heap.size,0,none⟩) n n)
 exact⟨aa.trans (hb.mono aa.size),(h.xr.other h1.symm _ _).next hb,(hv.set (k:=0) (by simp) _).next hb,(h.xt.other h2.symm _ _).next hb,(h.xg.other h3.symm _ _).next hb,(h.vt.other h4 _ _).next hb,hm⟩
theorem zfP(R:List (List Nat))(A:Option Addr)(c n:Nat)(w:World)(hR:RowsAt w w.heap.size A R)(ok:RowsOk R n):Calls Tryz.prog 159 #[.slice A R.length c,.int .i64 n] w (RetM R n w):=by
 have aE:=ok.n96
 have aF:=ok.len
 have HR:=qG hR
 have OK:=qG ok
 obtain⟨i0,af,ag,ah,ai⟩:=info_parts zch
 obtain⟨i1,aj,ak,am,an⟩:=info_parts znk
 have aA:∀ W:World,(Instr.makeSlice 35 (.int .i64 (n:Int)) (.int .i64 (n:Int))).run Tryz.prog W=.ok (.slice (some ⟨W.heap.size,0,none⟩) n n) (W.alloc (.cells (zeros n) 3)):=fun W=>by
  have:=run_make (P:=Tryz.prog) W 35 3 i0 (.int .i64 0) Tryz.underlying35 af ag .i64 .i64 n n (by omega) (by omega) (by rw[ai];omega) (by omega)
  simpa [zeros,Value.cells,ah] using this
 have ao:∀ W:World,(Instr.makeSlice 318 (.int .i64 (n:Int)) (.int .i64 (n:Int))).run Tryz.prog W=.ok (.slice (some ⟨W.heap.size,0,none⟩) n n) (W.alloc (.cells (madeCells #[.bool false] n) 4)):=fun W=>by
  have:=run_make (P:=Tryz.prog) W 318 4 i1 (.bool false) Tryz.underlying318 aj ak .i64 .i64 n n (by omega) (by omega) (by rw[an];omega) (by omega)
  simpa [Value.cells,am] using this
 have aB:=qG ao
 clear ao hR ok af ag ah ai aj ak am an
 have n1:=nxA w (.cells #[.slice A R.length c] 277)
 have y1:=Bx.new w #[.slice A R.length c] 277
 have s1:(w.alloc (.cells #[.slice A R.length c] 277)).heap.size=w.heap.size+1:=by simp
 go_enter Tryz.func159,Tryz.ntmps159
 go_wp2_with fail
 generalize w.alloc (.cells #[.slice A R.length c] 277)=W1 at *
 have n2:=nxA W1 (.cells (zeros n) 3)
 have y2:VBlk (W1.alloc (.cells (zeros n) 3)) W1.heap.size n (fun _=>.int .i64 0):=VBlk.made W1 (.int .i64 0) n 3
 have s2:(W1.alloc (.cells (zeros n) 3)).heap.size=w.heap.size+1+1:=by simp[s1]
 generalize W1.alloc (.cells (zeros n) 3)=W2 at *
 have n3:=nxA W2 (.cells #[.slice (some ⟨w.heap.size+1,0,none⟩) n n] 35)
 have y3:=Bx.new W2 #[.slice (some ⟨w.heap.size+1,0,none⟩) n n] 35
 have s3:(W2.alloc (.cells #[.slice (some ⟨w.heap.size+1,0,none⟩) n n] 35)).heap.size=w.heap.size+1+1+1:=by simp[s2]
 generalize W2.alloc (.cells #[.slice (some ⟨w.heap.size+1,0,none⟩) n n] 35)=W3 at *
 rw[s1] at y2
 rw[s2] at y3
 have H0:=qG (show RMf w R A c n (.int .i64 0) W3 from⟨0,by omega,rfl,n1.trans ((n2.trans (n3.mono n2.size)).mono n1.size),(y1.next n2).next n3,y3,(y2.next n3).eq (fun s _=>by rw[if_neg (by omega)])⟩)
 have aq:=qG (fun i W=>show RMf w R A c n i W↔∃ k:Nat,k<=n/\i=.int .i64 k/\Below w.heap.size w W/\Bx W w.heap.size [.slice A R.length c]/\Bx W (w.heap.size+1+1) [.slice (some ⟨w.heap.size+1,0,none⟩) n n]/\VBlk W (w.heap.size+1) n (fun s=>.int .i64 (if s<k then -1 else 0)) from Iff.rfl)
 clear n1 n2 n3 y1 y2 y3 s1 s2 s3 aA
 go_loopw [14] (fun i wr=>RMf w R A c n i wr) (fun i _=>n-(intOf i).toNat)
 case atStart=>exact H0.o
 case round=>
  obtain⟨k,hk,rfl,hb,hx,hy,hv⟩:=(aq.o _ _).1 hrel
  clear hrel
  have HB:=qG hb
  have HX:=qG hx
  have HY:=qG hy
  have HV:=qG hv
  have c3:=hy.c 0 _ rfl
  have aG:=hb.size
  by_cases hlt:k<n
  .have v0:=hv.cell k hlt
   have f0:=hv.free k
   have HF:=qG (show RMf w R A c n (.int .i64 ((k+1:Nat):Int)) (wr.setCell ⟨w.heap.size+1,k,none⟩ (.int .i64 (-1))) from
    ⟨k+1,by omega,rfl,hb.setCell (p:=⟨w.heap.size+1,k,none⟩) (by show w.heap.size<=w.heap.size+1;omega) _,hx.other (by omega) _ _,hy.other (by omega) _ _,hv.set_ hlt (by rw[if_pos (by omega)]) (fun i hi=>by
     by_cases h:i<k
     .rw[if_pos h,if_pos (by omega)]
     .rw[if_neg h,if_neg (by omega)])⟩)
   clear hb hx hy hv
   go_wp2_with fail
   refine⟨?_,by simp[intOf];omega⟩
   have:=HF.o
   rwa[show((k:Int)+1)=((k+1:Nat):Int) by push_cast;rfl]
  .obtain rfl:k=n:=by omega
   have n7:=nxA wr (.cells #[.slice none 0 0] 318)
   have y7:=Bx.new wr #[.slice none 0 0] 318
   have s7:(wr.alloc (.cells #[.slice none 0 0] 318)).heap.size=wr.heap.size+1:=by simp
   clear hb hx hy hv
   go_upto_region 9 with fail
   generalize wr.alloc (.cells #[.slice none 0 0] 318)=W7 at *
   have n8:=nxA W7 (.cells #[.nilFunc] 162)
   have y8:=Bx.new W7 #[.nilFunc] 162
   generalize W7.alloc (.cells #[.nilFunc] 162)=W8 at *
   rw[s7] at y8
   have aH:=y8.lt
   obtain⟨bs,ab⟩:∃ bs,bs=wr.heap.size:=⟨_,rfl⟩
   have n9:=qG (n7.trans (n8.mono n7.size))
   have Y7:=qG (y7.next n8)
   have c8:=y8.c 0 _ rfl
   have f8:=y8.fr 0
   have Y8:=qG y8
   have ax:=HV.o.lt
   have ay:=HY.o.lt
   rw[<- ab] at Y7 Y8 c8 f8 ax ay ⊢
   have ar:=qG ab
   clear ab n7 n8 y7 y8 s7 c3
   obtain⟨fv,ac⟩:∃ fv:Value,fv=.func (.func 213) #[] #[.pointer (some ⟨w.heap.size,0,none⟩),.pointer (some ⟨bs,0,none⟩),.pointer (some ⟨w.heap.size+1+1,0,none⟩),.pointer (some ⟨bs+1,0,none⟩)]:=⟨_,rfl⟩
   have HP:=qG (show GP w R A c k w.heap.size bs (w.heap.size+1+1) (bs+1) (w.heap.size+1) (fun _=>none) (W8.setCell ⟨bs+1,0,none⟩ fv) from by
    have hb:=HB.o.trans (n9.o.mono (by rw[<- ar.o];omega))
    refine⟨hb.setCell (p:=⟨bs+1,0,none⟩) (by show w.heap.size<=bs+1;omega) _,(HX.o.next n9.o).other (by omega) _ _,⟨_,Y7.o.other (by omega) _ _⟩,(HY.o.next n9.o).other (by omega) _ _,?_,?_⟩
    .have:=Y8.o.set (k:=0) (by simp) fv
     rw[ac] at this ⊢
     exact this
    .exact((HV.o.next n9.o).other (by omega) _ _).eq (fun s hs=>by rw[if_pos hs];rfl))
   rw[ac] at HP
   clear ac fv
   go_upto_region 10 with fail
   generalize W8.setCell ⟨bs+1,0,none⟩ (.func (.func 213) #[] #[.pointer (some ⟨w.heap.size,0,none⟩),.pointer (some ⟨bs,0,none⟩),.pointer (some ⟨w.heap.size+1+1,0,none⟩),.pointer (some ⟨bs+1,0,none⟩)])=W9 at *
   have r0:=HP.o.xr.c 0 _ rfl
   have H1:=qG (show RMm w R A c k w.heap.size bs (w.heap.size+1+1) (bs+1) (w.heap.size+1) (.int .i64 0) (.int .i64 0) W9 from⟨0,0,_,by omega,rfl,rfl,MtI.start k,HP.o⟩)
   clear HP HB HX HY HV ar H0 aq n9 Y7 Y8 c8 f8 hlt
   go_wp2_with fail
   clear r0
   go_loopw [4,24] (fun mv i wr=>RMm w R A c k w.heap.size bs (w.heap.size+1+1) (bs+1) (w.heap.size+1) mv i wr) (fun _ i _=>R.length-(intOf i).toNat)
   case atStart=>exact H1.o
   case round=>
    obtain⟨q,many,T,hq,rfl,rfl,hM,hG⟩:=hrel
    have HM:=qG hM
    have HG:=qG hG
    have aC:many<=q:=by rw[hM.many];exact zkN hM.c1 q
    clear hM
    by_cases aD:q<R.length
    .have aI:=hG.xt.lt
     obtain⟨sv,aa⟩:=hG.xs
     have aJ:=aa.lt
     have aK:=hG.vt.lt
     have g1:=hG.xg.lt
     have g2:=hG.xr.lt
     have au:=qG (hG.gw 4 (by omega) (by omega) (by omega) (by omega) (by omega))
     have hz:=aa.c 0 _ rfl
     have fz:=aa.fr 0
     have az:=aB.o
     clear hG
     go_upto_region 14 with fail
     clear az hz fz aa
     generalize(wr.setCell ⟨bs,0,none⟩ (.slice (some ⟨wr.heap.size,0,none⟩) k k)).alloc (.cells (madeCells #[.bool false] k) 4)=W2 at *
     have hD:GD w.heap.size w.heap.size bs (w.heap.size+1+1) (bs+1) (w.heap.size+1) wr.heap.size:=⟨by omega,by omega,by omega,by omega,by omega,by omega,by omega,by omega,by omega,by omega,by omega⟩
     generalize wr.heap.size=gs at *
     have ae:=qG (zox w R A c k w.heap.size bs (w.heap.size+1+1) (bs+1) (w.heap.size+1) gs hD HR.o OK.o _ q T (fun _=>false) W2 (qQ _) aD HM.o.names au.o)
     have x4:=au.o.xg.c 0 _ rfl
     clear hD
     go_wp2_with fail
     refine ae.o.mono ?_
     rintro e w3 ⟨y,T',S',rfl,aw,hy,hn⟩
     have HP:=qG aw.gp
     clear x4 aw
     cases y
     .have HF:=qG (show RMm w R A c k w.heap.size bs (w.heap.size+1+1) (bs+1) (w.heap.size+1) (.int .i64 many) (.int .i64 ((q+1:Nat):Int)) w3 from⟨q+1,many,T',by omega,rfl,rfl,by rw[(hn rfl).1];exact HM.o.no (hn rfl).2,HP.o⟩)
      clear hy hn
      go_wp2_with fail
      refine⟨?_,by simp[intOf];omega⟩
      have:=HF.o
      rwa[show(((q+1:Nat):Int))=(q:Int)+1 by push_cast;rfl] at this
     .have HF:=qG (show RMm w R A c k w.heap.size bs (w.heap.size+1+1) (bs+1) (w.heap.size+1) (.int .i64 ((many+1:Nat):Int)) (.int .i64 ((q+1:Nat):Int)) w3 from⟨q+1,many+1,T',by omega,rfl,rfl,HM.o.yes (hy rfl),HP.o⟩)
      clear hy hn
      go_wp2_with fail
      refine⟨?_,by simp[intOf];omega⟩
      have:=HF.o
      rwa[show(((q+1:Nat):Int))=(q:Int)+1 by push_cast;rfl,show(((many+1:Nat):Int))=(many:Int)+1 by push_cast;rfl] at this
    .obtain rfl:q=R.length:=by omega
     have HB:=qG hG.b
     clear hG
     go_wp2_with fail
     go_ret
     exact⟨many,T,rfl,aC,HM.o,HB.o⟩
theorem zaO{α:Type}{cells:α->List Value}{size:Nat}(hs:∀ x,(cells x).length=size):∀(l:List α) (k:Nat) (x:α) (j:Nat) (u:Value),l[k]?=some x->(cells x)[j]?=some u->(l.flatMap cells)[k*size+j]?=some u
|[],k,x,j,u,h,_=>by simp at h
|y :: l,0,x,j,u,h,hu=>by
  rw[List.getElem?_cons_zero] at h
  injection h with h
  subst h
  have hj:=(qO.1 hu).1
  rw[List.flatMap_cons,Nat.zero_mul,Nat.zero_add,List.getElem?_append_left hj]
  exact hu
|y :: l,k+1,x,j,u,h,hu=>by
  rw[List.getElem?_cons_succ] at h
  rw[List.flatMap_cons,List.getElem?_append_right (by rw[hs y,Nat.add_mul];omega),hs y,show(k+1)*size+j-size=k*size+j by rw[Nat.add_mul];omega]
  exact zaO hs l k x j u h hu
theorem zgK{α:Type}{cells:α->List Value}{size:Nat}(hs:∀ x,(cells x).length=size)(h0:0<size){w:World}{base:Nat}{e:TypeId}{v:Value}{l:List α}(h:w.ownsRow base e size v l.length (l.flatMap cells)) :
  ∃ A c,v=.slice A l.length c/\At w w.heap.size size cells A l:=by
 obtain⟨A,c,rfl,hc⟩:=zbE h
 refine⟨A,c,rfl,fun k x hx=>?_⟩
 have ab:0<(cells x).length:=by rw[hs x];exact h0
 have g0:(cells x)[0]?=some ((cells x)[0]'ab):=qN ab
 obtain⟨b,e,-,hb,-⟩:=hc _ _ (zaO hs l k x 0 _ hx g0)
 refine⟨b,0,e,hb,fun j u hu=>?_⟩
 obtain⟨b',e',-,-,aa⟩:=hc _ _ (zaO hs l k x j u hx hu)
 rw[e] at e'
 injection e' with e'
 injection e' with e1
 subst e1
 rw[Nat.zero_add]
 exact aa
theorem Bx.grown{W W':World}{row:Option Nat}{b:Nat}{vs:List Value}(h:Bx W b vs)(hg:W.grownBy W' row)(hr:row≠some b):Bx W' b vs:=
 have hk:=hg.block b h.lt (fun e=>hr e.symm)
 ⟨qM h.lt hg.size,fun j u hu=>(World.cell?_of_block (a:=⟨b,j,none⟩) hk).trans (h.c j u hu),fun j=>(World.frozen?_of_block (a:=⟨b,j,none⟩) hk).trans (h.fr j)⟩
theorem At.pre{α:Type}{w:World}{B size:Nat}{cells:α->List Value}{A:Option Addr}{l z:List α}(h:At w B size cells A (l++z)):At w B size cells A l:=fun k x hx=>
 h k x (by rw[List.getElem?_append_left (qO.1 hx).1];exact hx)
theorem At.drop{α:Type}{w:World}{B size b off:Nat}{cells:α->List Value}{l:List α}(h:At w B size cells (some ⟨b,off,none⟩) l)(n:Nat):At w B size cells (some ⟨b,off+n*size,none⟩) (l.drop n):=fun k x hx=>by
 rw[List.getElem?_drop] at hx
 obtain⟨b',off',e,hb,hc⟩:=h _ _ hx
 injection e with e
 injection e with e1 e2
 subst e1 e2
 refine⟨b,_,rfl,hb,fun j u hu=>?_⟩
 have:=hc j u hu
 rw[Nat.add_mul] at this
 rw[Nat.add_assoc off]
 exact this
theorem zdx{α:Type}{cells:α->List Value}{size:Nat}(hs:∀ x,(cells x).length=size):∀(l:List α) (j:Nat) (u:Value),(l.flatMap cells)[j]?=some u->∃ k x r,l[k]?=some x/\(cells x)[r]?=some u/\j=k*size+r
|[],j,u,h=>by simp at h
|y :: l,j,u,h=>by
  rw[List.flatMap_cons] at h
  by_cases hj:j<size
  .rw[List.getElem?_append_left (by rw[hs];exact hj)] at h
   exact⟨0,y,j,rfl,h,by omega⟩
  .rw[List.getElem?_append_right (by rw[hs];omega),hs] at h
   obtain⟨k,x,r,h1,h2,h3⟩:=zdx hs l _ u h
   exact⟨k+1,x,r,by rw[List.getElem?_cons_succ];exact h1,h2,by rw[Nat.add_mul];omega⟩
theorem At.news{α:Type}{w:World}{B size b off:Nat}{cells:α->List Value}{l:List α}(hs:∀ x,(cells x).length=size)(h:At w B size cells (some ⟨b,off,none⟩) l):∀ j u,(l.flatMap cells)[j]?=some u->w.cell? ((⟨b,off,none⟩:Addr).add j)=some u:=fun j u hu=>by
 obtain⟨k,x,r,h1,h2,rfl⟩:=zdx hs l j u hu
 obtain⟨b',off',e,hb,hc⟩:=h _ _ h1
 injection e with e
 injection e with e1 e2
 subst e1 e2
 have:=hc r u h2
 have aa:(⟨b,off,none⟩:Addr).add (k*size+r)=⟨b,off+(k*size+r),none⟩:=by unfold Addr.add;split <;> simp_all
 rw[aa,<- Nat.add_assoc]
 exact this
theorem zev{α:Type}{cells:α->List Value}{size:Nat}(hs:∀ x,(cells x).length=size):∀ l:List α,(l.flatMap cells).length=l.length*size
|[]=>by simp
|y :: l=>by rw[List.flatMap_cons,qD,hs,zev hs l,List.length_cons,Nat.add_mul];omega
theorem zdF{P:Program}{w:World}{ops:Array Oper}{o:Oper}{a:Act}{K:Act->World->Prop}{Q:Exit->Act->World->Prop}{E:Prop}(ag:o.guard=none)(s x:Operand)(t:TypeId)
  (ho:o.op=.call { callee:=.builtin .append,args:=#[s,x],argTypes:=#[t,t] })
  (base:Nat) (e:TypeId) (i:TypeInfo) (z:Value) (size bytes:Nat) (ht:P.underlying t=some (.slice e)) (hi:P.info? e=some i) (hz:i.zero=some z)
  (ab:i.size=size) (ah:i.bytes=bytes) (ai:z.cells.size=size) (aj:0<size)
  (v:Value) (n:Nat) (xs:List Value) (hs:a.eval s=v) (af:w.ownsRow base e size v n xs)
  (ad:Addr) (m c:Nat) (news:List Value) (hx:a.eval x=.slice (some ad) m c) (hl:news.length=m*size) (ac:∀ j u,news[j]?=some u->w.cell? (ad.add j)=some u) (h1:∀ u∈news,u.oneCell'=true)
  (ak:n+m<=maxLen) (aa:(n+m)*bytes<=140737488355328) (ae:base<=w.heap.size)
  (h:∀ v' w',w'.ownsRow base e size v' (n+m) (xs++news)->w.grownBy w' v.ownBlock->K (a.put o.dst v') w') :
  if Region.wanted o (yielded ops a.tmps)=true then Oper.wp P o a w K Q else E:=by
 have hw:Region.wanted o (yielded ops a.tmps)=true:=by simp[Region.wanted,ag]
 rw[if_pos hw]
 obtain⟨v',w',hr,h2,h3,-,-⟩:=run_append_own_at (P:=P) w base t o.type e i z size bytes ht hi hz ab ah ai aj v n xs af ad m c news hl ac h1 ak aa ae
 unfold Oper.wp execOp
 simp only[ho,resolve,invoke,builtin,Sem.run_bind,Sem.run_pure,Result.andThen_ok,List.map_toArray,List.map_cons,List.map_nil,hs,hx,hr]
 exact h v' w' h2 h3
theorem zgY{B:Nat}{V W W':World}{row:Option Nat}(hb:Below B V W)(h:W.grownBy W' row)(hs:B<=W.heap.size)(hr:∀ g,row=some g->B<=g):Below B V W':=
 ⟨h.os.trans hb.os,h.tape.trans hb.tape,h.output.trans hb.output,Nat.le_trans hb.size h.size,fun k hk=>(h.block k (by omega) (fun e=>by have:=hr k e.symm;omega)).trans (hb.block k hk)⟩
theorem zmx{W:World}{H base size:Nat}{e:TypeId}(h:W.heap[H]?=some (.cells #[] e (0,0)))(hb:base<=H):W.ownsRow base e size (.slice (some ⟨H,0,none⟩) 0 0) 0 []:=
 ⟨by simp,.inr ⟨H,0,#[],rfl,hb,h,qQ _,by unfold maxLen;omega,by simp,by simp⟩⟩
theorem At.pre'{α:Type}{w:World}{B size:Nat}{cells:α->List Value}{A:Option Addr}{l l0 z:List α}(h:At w B size cells A l)(e:l=l0++z):At w B size cells A l0:=by subst e;exact h.pre
theorem zo2{α:Type}{W:World}{B size:Nat}{cells:α->List Value}{A:Option Addr}{l:List α}(hs:∀ x,(cells x).length=size)(h:At W B size cells A l):(A=none/\l=[])\/∃ a,A=some a/\∀ W' B',At W' B' size cells A l->∀ j u,(l.flatMap cells)[j]?=some u->W'.cell? (a.add j)=some u:=by
 match l,h with
|[],_=>
  cases A with
 |none=>exact .inl ⟨rfl,rfl⟩
 |some a=>exact .inr ⟨a,rfl,fun W' B' _ j u hu=>by simp at hu⟩
|x :: l,h=>
  obtain⟨b,off,e,-,-⟩:=h 0 x rfl
  subst e
  exact .inr ⟨_,rfl,fun W' B' h'=>h'.news hs⟩
def RwAt(W:World)(x:Value)(p:List Nat):Prop:=(p=[]/\x=.slice none 0 0)\/(p≠[]/\∃ b c cur fr,x=.slice (some ⟨b,0,none⟩) p.length c/\W.heap[b]?=some (.cells cur 3 fr)/\∀ k,k<p.length->W.cell? ⟨b,k,none⟩=some (.int .i64 ((p.getD k 0:Nat):Int)))
theorem zh6{w:World}{base:Nat}{e:TypeId}{size:Nat}{v:Value}{n:Nat}{xs:List Value}(h:w.ownsRow base e size v n xs){g:Nat}(hg:v.ownBlock=some g):∃ cur,w.heap[g]?=some (.cells cur e (0,0)):=by
 rcases h.2 with ⟨rfl,-⟩|⟨g',cap,cur,rfl,-,hh,-⟩
 .cases hg
 .injection hg with hg
  simp only at hg
  subst hg
  exact⟨cur,hh⟩
theorem RwAt.grow{W W':World}{x:Value}{p:List Nat}(h:RwAt W x p){base:Nat}{size:Nat}{v:Value}{n:Nat}{xs:List Value}(ab:W.ownsRow base 35 size v n xs)(hg:W.grownBy W' v.ownBlock):RwAt W' x p:=by
 refine h.imp id ?_
 rintro⟨h0,b,c,cur,fr,e,hh,hc⟩
 have ac:some b≠v.ownBlock:=fun e'=>by
  obtain⟨cur',aa⟩:=zh6 ab e'.symm
  rw[hh] at aa
  injection aa with aa
  injection aa with _ h2 _
  exact absurd h2 (by decide)
 have hb:=hg.block b (qB.1 hh).1 ac
 exact⟨h0,b,c,cur,fr,e,hb.trans hh,fun k hk=>(World.cell?_of_block (a:=⟨b,k,none⟩) hb).trans (hc k hk)⟩
theorem RwAt.next{W W':World}{x:Value}{p:List Nat}(h:RwAt W x p)(hb:Below W.heap.size W W'):RwAt W' x p:=by
 refine h.imp id ?_
 rintro⟨h0,b,c,cur,fr,e,hh,hc⟩
 have aa:=hb.block b (qB.1 hh).1
 exact⟨h0,b,c,cur,fr,e,aa.trans hh,fun k hk=>(World.cell?_of_block (a:=⟨b,k,none⟩) aa).trans (hc k hk)⟩
theorem RwAt.of_own{W:World}{base:Nat}{v:Value}{p:List Nat}(hp:p≠[])(h:W.ownsRow base 3 1 v p.length (p.map fun k=>Value.int .i64 ((k:Nat):Int))):RwAt W v p:=by
 obtain⟨g,cap,rfl,hb,hlt⟩:=h.form (List.length_pos_iff.2 hp)
 obtain⟨cur,hh⟩:=zh6 h rfl
 refine .inr ⟨hp,g,cap,cur,_,rfl,hh,fun k hk=>?_⟩
 rw[h.cellAt k (by omega),List.getElem?_map,qN hk,qP,qN hk];rfl
def RwsAt(W:World)(xs:List Value)(L:List (List Nat)):Prop:=xs.length=L.length/\∀(i:Nat) (x:Value) (p:List Nat),xs[i]?=some x->L[i]?=some p->RwAt W x p
theorem RwsAt.imp{W W':World}{xs:List Value}{L:List (List Nat)}(h:RwsAt W xs L)(hi:∀ x p,RwAt W x p->RwAt W' x p):RwsAt W' xs L:=⟨h.1,fun i x p hx hp=>hi x p (h.2 i x p hx hp)⟩
theorem RwsAt.app{W:World}{xs ys:List Value}{L M:List (List Nat)}(h:RwsAt W xs L)(k:RwsAt W ys M):RwsAt W (xs++ys) (L++M):=by
 refine⟨by rw[qD,qD,h.1,k.1],fun i x p hx hp=>?_⟩
 by_cases hi:i<xs.length
 .rw[List.getElem?_append_left hi] at hx
  rw[List.getElem?_append_left (by rw[<- h.1];exact hi)] at hp
  exact h.2 i x p hx hp
 .rw[List.getElem?_append_right (by omega)] at hx
  rw[List.getElem?_append_right (by rw[<- h.1];omega),<- h.1] at hp
  exact k.2 _ x p hx hp
theorem zl2{P:Program}{w:World}{base:Nat}{t ty e:TypeId}{i:TypeInfo}{z:Value}{size bytes:Nat}(ht:P.underlying t=some (.slice e))(hi:P.info? e=some i)(hz:i.zero=some z)
  (af:i.size=size) (ag:i.bytes=bytes) {v:Value} {n:Nat} {xs:List Value} (ac:w.ownsRow base e size v n xs)
  {a:Addr} {m c:Nat} {news:List Value} (hl:news.length=m*size) (aa:∀ j u,news[j]?=some u->w.cell? (a.add j)=some u) (h1:∀ u∈news,u.oneCell'=true)
  (ah:n+m<=maxLen) (ab:(n+m)*bytes<=140737488355328) (hm:0<m) {v':Value} {w':World}
  (hr:(Builtin.append_ #[t,t] ty #[v,.slice (some a) m c]).run P w=.ok v' w'):∀ k,v'.ownBlock=some k->v.ownBlock=some k\/w.heap.size<=k:=by
 subst af
 subst ag
 have ai:n+m<=9223372036854775807:=by simp only[maxLen] at ah;omega
 intro k hk
 rcases ac.2 with ⟨rfl,rfl⟩|⟨g,cap,cur,rfl,ak,hg,am,an,aj,zaf⟩
 .rw[run_append_nil (P:=P) w t ty e i z ht hi hz a m c news hl aa hm (by omega) (by have hb:=ab;simp only[Nat.zero_add] at hb;omega)] at hr
  injection hr with h2 _
  rw[<- h2] at hk
  injection hk with hk
  exact .inr (by simp only at hk;omega)
 .by_cases ae:n+m<=cap
  .rw[run_append_room (P:=P) w t ty e i ht hi g n cap cur hg a m c news hl aa h1 ae (by rw[hl,aj,<- Nat.add_mul];exact Nat.mul_le_mul_right _ ae)] at hr
   injection hr with h2 _
   rw[<- h2] at hk
   exact .inl hk
  .rw[run_append_grow (P:=P) w t ty e i z ht hi hz ⟨g,0,none⟩ n cap xs ac.1 (ac.cells (g:=g) rfl) a m c news hl aa (by omega) (by omega) (growslice_fits (by omega) ab)] at hr
   injection hr with h2 _
   rw[<- h2] at hk
   injection hk with hk
   exact .inr (by simp only at hk;omega)
theorem zc5{P:Program}{w:World}{ops:Array Oper}{rest:List Oper}{o:Oper}{a:Act}{Q:Exit->Act->World->Prop}(ai:o.guard=none)(s x:Operand)(t:TypeId)
  (ho:o.op=.call { callee:=.builtin .append,args:=#[s,x],argTypes:=#[t,t] })
  (base:Nat) (e:TypeId) (i:TypeInfo) (z:Value) (size bytes:Nat) (ht:P.underlying t=some (.slice e)) (hi:P.info? e=some i) (hz:i.zero=some z)
  (ab:i.size=size) (ag:i.bytes=bytes) (aj:z.cells.size=size) (ak:0<size)
  (v:Value) (n:Nat) (xs:List Value) (hs:a.eval s=v) (ae:w.ownsRow base e size v n xs)
  (ad:Addr) (m c:Nat) (news:List Value) (hx:a.eval x=.slice (some ad) m c) (hl:news.length=m*size) (ac:∀ j u,news[j]?=some u->w.cell? (ad.add j)=some u) (h1:∀ u∈news,u.oneCell'=true)
  (ah:n+m<=maxLen) (aa:(n+m)*bytes<=140737488355328) (af:base<=w.heap.size) (hm:0<m)
  (h:∀ v' w',w'.ownsRow base e size v' (n+m) (xs++news)->w.grownBy w' v.ownBlock->(∀ k,v'.ownBlock=some k->v.ownBlock=some k\/w.heap.size<=k)->wpList P ops Q rest (a.put o.dst v') w'):wpList P ops Q (o :: rest) a w:=by
 refine wpList_plain ai fun K hK=>?_
 obtain⟨v',w',hr,h2,h3,-⟩:=run_append_own (P:=P) w base t o.type e i z size bytes ht hi hz ab ag aj ak v n xs ae ad m c news hl ac h1 ah aa af
 have h4:=zl2 (P:=P) ht hi hz ab ag ae hl ac h1 ah aa hm hr
 unfold Oper.wp execOp
 simp only[ho,resolve,invoke,builtin,Sem.run_bind,Sem.run_pure,Result.andThen_ok,List.map_toArray,List.map_cons,List.map_nil,hs,hx,hr]
 exact hK _ _ (h v' w' h2 h3 h4)
def gI(g:Nat->Nat)(i:Nat):Int:=((g i:Nat):Int)
structure OkBk(m:Mt)(g:Nat->Nat):Prop where
 n0:0<=m.t.n
 n2:m.t.n<=16
 h6:m.t.admits.length<=6
 adm:∀ x∈m.t.admits,-1<=x/\x<=16
 lt:∀ k,g k<256
 ok:∀ k,k<m.t.n.toNat->OkB m.t.admits.length (g k)
def bkA(m:Mt)(g:Nat->Nat):Array Value:=#[.int .i64 m.t.n,.slice m.A1 m.t.loans.length m.c1,.slice m.A2 m.t.looks.length m.c2,.slice m.A3 m.t.admits.length m.c3,.int .i64 (gI g 0),.int .i64 (gI g 1),.int .i64 (gI g 2),.int .i64 (gI g 3),.int .i64 (gI g 4),.int .i64 (gI g 5),.int .i64 (gI g 6),.int .i64 (gI g 7),.int .i64 (gI g 8),.int .i64 (gI g 9),.int .i64 (gI g 10),.int .i64 (gI g 11),.int .i64 (gI g 12),.int .i64 (gI g 13),.int .i64 (gI g 14),.int .i64 (gI g 15)]
theorem zd9(m:Mt)(g:Nat->Nat){k:Nat}(hk:k<16):(bkA m g).toList[4+k]?=some (.int .i64 ((g k:Nat):Int)):=by
 have:k=0\/k=1\/k=2\/k=3\/k=4\/k=5\/k=6\/k=7\/k=8\/k=9\/k=10\/k=11\/k=12\/k=13\/k=14\/k=15:=by omega
 rcases this with rfl|rfl|rfl|rfl|rfl|rfl|rfl|rfl|rfl|rfl|rfl|rfl|rfl|rfl|rfl|rfl <;> rfl
theorem zaC:Tryz.prog.underlying 176=some (.struct (Tryz.prog.fieldsOf 176)):=by kernel_rfl
theorem zaR:(Tryz.prog.info? 176).map (·.size)=some 20:=by kernel_rfl
theorem Bx.range{W:World}{b:Nat}{L:List Value}(h:Bx W b L):W.rangeAt b 0 L:=fun j v hv=>by rw[Nat.zero_add];exact h.c j v hv
theorem zqa(m:Mt)(g:Nat->Nat)(w:World)(hr:TaleAt w w.heap.size m)(h6:m.t.admits.length<=6):Calls Tryz.prog 158 #[.agg (bkA m g)] w (Ret (.int .i64 (freeN m.t.admits m.t.admits.length)) w):=zoy m (gI g) w hr h6
def natV(l:List Nat):List Value:=l.map fun k=>Value.int .i64 ((k:Nat):Int)
structure RF1(V W:World)(sv:Value)(l:List Nat):Prop where
 b:Below V.heap.size V W
 own:W.ownsRow V.heap.size 3 1 sv l.length (natV l)
theorem RF1.app{V W W':World}{sv sv':Value}{l:List Nat}{x:Nat}(h:RF1 V W sv l)(t:TypeId)(ho:W'.ownsRow V.heap.size 3 1 sv' (l.length+1) (natV l++[.int .i64 x]))(hg:(W.alloc (.cells #[.int .i64 x] t)).grownBy W' sv.ownBlock):RF1 V W' sv' (l++[x]):=
 ⟨(h.b.alloc h.b.size _).grown hg (by have:=h.b.size;simp;omega) (fun k hk=>(h.own.lt k hk).1),by unfold natV at *;rw[qD,List.map_append];exact ho⟩
theorem RF1.eq{V W:World}{sv:Value}{l l':List Nat}(h:RF1 V W sv l)(e:l=l'):RF1 V W sv l':=e▸h
theorem zmB(l:List Nat):natV l=l.flatMap zaw:=by
 unfold natV zaw;induction l with
|nil=>rfl
|cons x l ih=>rw[List.map_cons,List.flatMap_cons,ih];rfl
theorem zlu:(Tryz.prog.info? 35).map (fun i=>(i.zero,i.size,i.bytes))=some (some (.slice none 0 0),1,24):=by kernel_rfl
structure RF3(V W:World)(mv av:Value)(Lm La:List (List Nat)):Prop where
 b:Below V.heap.size V W
 ap:∀ k,mv.ownBlock=some k->av.ownBlock≠some k
 xm:∃ xs,W.ownsRow V.heap.size 35 1 mv Lm.length xs/\RwsAt W xs Lm
 xa:∃ xs,W.ownsRow V.heap.size 35 1 av La.length xs/\RwsAt W xs La
theorem RF3.swap{V W:World}{mv av:Value}{Lm La:List (List Nat)}(h:RF3 V W mv av Lm La):RF3 V W av mv La Lm:=⟨h.b,fun k hk hm=>h.ap k hm hk,h.xa,h.xm⟩
theorem RF3.next{V W W':World}{mv av:Value}{Lm La:List (List Nat)}(h:RF3 V W mv av Lm La)(hb:Below W.heap.size W W'):RF3 V W' mv av Lm La:=by
 obtain⟨xs,h1,h2⟩:=h.xm
 obtain⟨ys,h3,h4⟩:=h.xa
 exact⟨h.b.trans (hb.mono h.b.size),h.ap,⟨xs,za5 h1 hb,h2.imp fun x p h=>h.next hb⟩,⟨ys,za5 h3 hb,h4.imp fun x p h=>h.next hb⟩⟩
theorem RF3.app{V W W':World}{mv av av' x:Value}{Lm La:List (List Nat)}{l:List Nat}(h:RF3 V W mv av Lm La)(hx:RwAt W x l){xs:List Value}(ho:W.ownsRow V.heap.size 35 1 av La.length xs)(hr:RwsAt W xs La)(t:TypeId)
  (ae:W'.ownsRow V.heap.size 35 1 av' (La.length+1) (xs++[x])) (hg:(W.alloc (.cells #[x] t)).grownBy W' av.ownBlock) (hk:∀ k,av'.ownBlock=some k->av.ownBlock=some k\/(W.alloc (.cells #[x] t)).heap.size<=k):RF3 V W' mv av' Lm (La++[l]):=by
 obtain⟨ys,h1,h2⟩:=h.xm
 have aa:=nxA W (.cells #[x] t)
 have hb:=h.b.trans (aa.mono h.b.size)
 have ac:=za5 h1 aa
 have ab:=za5 ho aa
 have af:mv.ownBlock=none\/mv.ownBlock≠av.ownBlock:=by
  cases e:mv.ownBlock with
 |none=>exact .inl rfl
 |some k=>exact .inr (fun e2=>h.ap k e e2.symm)
 refine⟨hb.grown hg hb.size (fun k e=>(ho.lt k e).1),fun k e e2=>?_,⟨ys,ac.kept hg af,(h2.imp fun x p h=>h.next aa).imp fun x p h=>h.grow ab hg⟩,⟨xs++[x],by rw[qD];exact ae,?_⟩⟩
 .rcases hk k e2 with h3|h3
  .exact h.ap k e h3
  .have:=(ac.lt k e).2;omega
 .exact((hr.imp fun x p h=>h.next aa).imp fun x p h=>h.grow ab hg).app ⟨rfl,fun i y p hy hp=>by
   cases i with
  |zero=>simp at hy hp;subst hy;subst hp;exact(hx.next aa).grow ab hg
  |succ i=>simp at hy⟩
theorem RF3.start(V:World):RF3 V V (.slice none 0 0) (.slice none 0 0) [] []:=⟨Below.refl _ _,(fun k h=>by cases h),⟨[],World.ownsRow_nil _ _ _ _,rfl,fun i x p h=>by simp at h⟩,⟨[],World.ownsRow_nil _ _ _ _,rfl,fun i x p h=>by simp at h⟩⟩
theorem zpj{W:World}{x:Value}{l:List Nat}(h:RwAt W x l):∃ A c,x=.slice A l.length c/\At W W.heap.size 1 zaw A l:=by
 rcases h with ⟨rfl,rfl⟩|⟨h0,b,c,cur,fr,rfl,hh,hc⟩
 .exact⟨none,0,rfl,At.nil⟩
 .refine⟨_,c,rfl,fun k s hs=>⟨b,0,rfl,(qB.1 hh).1,fun j u hu=>?_⟩⟩
  have hk:=(qO.1 hs).1
  cases j with
 |zero=>
   have hu:some (Value.int .i64 s)=some u:=hu
   injection hu with hu
   rw[Nat.zero_add,Nat.mul_one,Nat.add_zero,hc k hk,<- hu,qP,hs];rfl
 |succ j=>simp[zaw] at hu
theorem zkQ{V W:World}{v:Value}{L:List (List Nat)}{xs:List Value}(h:W.ownsRow V.heap.size 35 1 v L.length xs)(hr:RwsAt W xs L):∃ A c,v=.slice A L.length c/\RowsAt W W.heap.size A L:=by
 obtain⟨A,c,rfl,hc⟩:=zbE h
 refine⟨A,c,rfl,⟨fun r l hl=>?_⟩⟩
 have hlt:r<xs.length:=by rw[hr.1];exact(qO.1 hl).1
 have hx:xs[r]?=some xs[r]:=qN hlt
 obtain⟨b,e,-,hb,aa⟩:=hc r _ hx
 obtain⟨A',c',e2,ab⟩:=zpj (hr.2 r _ l hx hl)
 rw[e2] at aa
 exact⟨b,0,A',c',e,hb,by rw[Nat.zero_add];exact aa,ab⟩
theorem zqQ{V W:World}{v:Value}{l:List Nat}(h:RF1 V W v l)(hv:l=[]->v=.slice none 0 0):RwAt W v l:=by
 by_cases hl:l=[]
 .exact .inl ⟨hl,hv hl⟩
 .exact RwAt.of_own hl h.own
structure RF4(V W:World)(lv:Value)(l:List Nat):Prop where
 r:RF1 V W lv l
 nil:l=[]->lv=.slice none 0 0
theorem zci(m:Mt)(g:Nat->Nat)(w:World)(hr:TaleAt w w.heap.size m)(ok:OkBk m g):Calls Tryz.prog 88 #[.agg #[.int .i64 m.t.n,.slice m.A1 m.t.loans.length m.c1,.slice m.A2 m.t.looks.length m.c2,.slice m.A3 m.t.admits.length m.c3,.int .i64 (gI g 0),.int .i64 (gI g 1),.int .i64 (gI g 2),.int .i64 (gI g 3),.int .i64 (gI g 4),.int .i64 (gI g 5),.int .i64 (gI g 6),.int .i64 (gI g 7),.int .i64 (gI g 8),.int .i64 (gI g 9),.int .i64 (gI g 10),.int .i64 (gI g 11),.int .i64 (gI g 12),.int .i64 (gI g 13),.int .i64 (gI g 14),.int .i64 (gI g 15)]] w (fun e w'=>∃ b:Bool,e=.returned (.bool b)/\Below w.heap.size w w'/\(b=true↔Fit m.t.n.toNat (fun k p=>has (g k) p) (admA m.t.admits))):=by
 obtain⟨i0,hi,ag,aU,aV⟩:=info_parts zch
 obtain⟨i1,aW,aX,aY,aZ⟩:=info_parts zlu
 have B0:=qG (nxA w (.cells #[.int .i64 m.t.n,.slice m.A1 m.t.loans.length m.c1,.slice m.A2 m.t.looks.length m.c2,.slice m.A3 m.t.admits.length m.c3,.int .i64 (gI g 0),.int .i64 (gI g 1),.int .i64 (gI g 2),.int .i64 (gI g 3),.int .i64 (gI g 4),.int .i64 (gI g 5),.int .i64 (gI g 6),.int .i64 (gI g 7),.int .i64 (gI g 8),.int .i64 (gI g 9),.int .i64 (gI g 10),.int .i64 (gI g 11),.int .i64 (gI g 12),.int .i64 (gI g 13),.int .i64 (gI g 14),.int .i64 (gI g 15)] 176))
 have HX:Bx (w.alloc (.cells #[.int .i64 m.t.n,.slice m.A1 m.t.loans.length m.c1,.slice m.A2 m.t.looks.length m.c2,.slice m.A3 m.t.admits.length m.c3,.int .i64 (gI g 0),.int .i64 (gI g 1),.int .i64 (gI g 2),.int .i64 (gI g 3),.int .i64 (gI g 4),.int .i64 (gI g 5),.int .i64 (gI g 6),.int .i64 (gI g 7),.int .i64 (gI g 8),.int .i64 (gI g 9),.int .i64 (gI g 10),.int .i64 (gI g 11),.int .i64 (gI g 12),.int .i64 (gI g 13),.int .i64 (gI g 14),.int .i64 (gI g 15)] 176)) w.heap.size (bkA m g).toList:=Bx.new w #[.int .i64 m.t.n,.slice m.A1 m.t.loans.length m.c1,.slice m.A2 m.t.looks.length m.c2,.slice m.A3 m.t.admits.length m.c3,.int .i64 (gI g 0),.int .i64 (gI g 1),.int .i64 (gI g 2),.int .i64 (gI g 3),.int .i64 (gI g 4),.int .i64 (gI g 5),.int .i64 (gI g 6),.int .i64 (gI g 7),.int .i64 (gI g 8),.int .i64 (gI g 9),.int .i64 (gI g 10),.int .i64 (gI g 11),.int .i64 (gI g 12),.int .i64 (gI g 13),.int .i64 (gI g 14),.int .i64 (gI g 15)] 176
 have HR:=qG (hr.next B0.o)
 have OK:=qG ok
 have h6:=ok.h6
 have a7:(w.alloc (.cells #[.int .i64 m.t.n,.slice m.A1 m.t.loans.length m.c1,.slice m.A2 m.t.looks.length m.c2,.slice m.A3 m.t.admits.length m.c3,.int .i64 (gI g 0),.int .i64 (gI g 1),.int .i64 (gI g 2),.int .i64 (gI g 3),.int .i64 (gI g 4),.int .i64 (gI g 5),.int .i64 (gI g 6),.int .i64 (gI g 7),.int .i64 (gI g 8),.int .i64 (gI g 9),.int .i64 (gI g 10),.int .i64 (gI g 11),.int .i64 (gI g 12),.int .i64 (gI g 13),.int .i64 (gI g 14),.int .i64 (gI g 15)] 176)).heap.size=w.heap.size+1:=by simp
 clear hr ok
 go_enter Tryz.func88,Tryz.ntmps88
 go_upto_region 2 with fail
 generalize w.alloc (.cells #[.int .i64 m.t.n,.slice m.A1 m.t.loans.length m.c1,.slice m.A2 m.t.looks.length m.c2,.slice m.A3 m.t.admits.length m.c3,.int .i64 (gI g 0),.int .i64 (gI g 1),.int .i64 (gI g 2),.int .i64 (gI g 3),.int .i64 (gI g 4),.int .i64 (gI g 5),.int .i64 (gI g 6),.int .i64 (gI g 7),.int .i64 (gI g 8),.int .i64 (gI g 9),.int .i64 (gI g 10),.int .i64 (gI g 11),.int .i64 (gI g 12),.int .i64 (gI g 13),.int .i64 (gI g 14),.int .i64 (gI g 15)] 176)=V at *
 have c3:=HX.c 3 (.slice m.A3 m.t.admits.length m.c3) rfl
 have a8:=qG HX
 have a9:=qG a7
 have aD:=qG (fun x hx=>(OK.o.adm x hx))
 clear HX a7
 go_wp2_with fail
 clear c3
 go_loopw [3,17] (fun sv iv wr=>∃ p:Nat,iv=.int .i64 p/\p<=m.t.admits.length/\RF1 V wr sv (slotsL m.t.admits p)) (fun _ iv _=>m.t.admits.length-(intOf iv).toNat)
 case atStart=>exact⟨0,rfl,by omega,Below.refl _ _,World.ownsRow_nil _ _ _ _⟩
 case round=>
  obtain⟨p,rfl,hp,ba⟩:=hrel
  have ae:=qG ba
  clear ba
  by_cases hlt:p<m.t.admits.length
  .obtain⟨b,off,e,hb,h0⟩:=zb4 (HR.o.ad.below ae.o.b) hlt
   have bN:=qM hb ae.o.b.size
   have hx:=aD.o (m.t.admits.getD p 0) (zdv hlt)
   have HL:=qG (show slotsL m.t.admits (p+1)=slotsL m.t.admits p++List.replicate (m.t.admits.getD p 0).toNat p from rfl)
   have bf:=zeL (fun x hx=>(aD.o x hx).2) p
   generalize m.t.admits.getD p 0=x at *
   generalize slotsL m.t.admits p=sl at *
   generalize m.A3=A3 at *
   subst e
   go_wp2_with fail
   clear h0
   go_loopw [3,23] (fun sv iv wi=>∃ j:Nat,iv=.int .i64 j/\j<=x.toNat/\RF1 V wi sv (sl++List.replicate j p)) (fun _ iv _=>x.toNat-(intOf iv).toNat)
   case atStart=>exact⟨0,rfl,by omega,by rw[List.replicate_zero,List.append_nil];exact ae.o⟩
   case round=>
    obtain⟨j,rfl,hj,az⟩:=hrel
    have bh:=qG az
    have ac:=az.own
    have cb:(sl++List.replicate j p).length<=96:=by rw[qD,List.length_replicate];omega
    have aE:sl++List.replicate (j+1) p=(sl++List.replicate j p)++[p]:=by rw[List.append_assoc,<- List.replicate_succ']
    have bJ:=qG aE
    have bK:=qG (fun(h:j=x.toNat)=>az.eq (show _=slotsL m.t.admits (p+1) by rw[HL.o,<- h]))
    generalize sl++List.replicate j p=cur at *
    clear az aE
    by_cases aF:j<x.toNat
    .have bO:(j:Int)<x:=by omega
     go_wp2_with (at_builtin;refine wpList_append_own _ rfl (.tmp 25) (.tmp 27) 35 rfl V.heap.size 3 i0 (.int .i64 0) 1 8 Tryz.underlying35 hi ag aU aV rfl (by decide) _ _ _ rfl (ac.alloc _) ⟨wr.heap.size,0,none⟩ 1 1 [.int .i64 (p:Int)] rfl rfl (cell_one_new _ _ _) (by simp[Value.oneCell']) (by unfold maxLen;omega) (by omega) (by have:=bh.o.b.size;simp;omega) ?_;intro v2 w2 ab aa _)
     have HF:=qG (bh.o.app 3 ab aa)
     clear ab aa ac
     go_wp2_with fail
     exact⟨⟨j+1,by go_num,by omega,by rw[bJ.o];exact HF.o⟩,by simp[intOf];omega⟩
    .have bO:¬((j:Int)<x):=by omega
     have HF:=qG (bK.o (by omega))
     clear ac
     go_wp2_with fail
     exact⟨⟨p+1,by go_num,by omega,HF.o⟩,by simp[intOf];omega⟩
  .obtain rfl:p=m.t.admits.length:=by omega
   have aG:=qG (a8.o.below ae.o.b (by have:=a9.o;omega))
   have am:=qG ((HR.o.below ae.o.b).more ae.o.b.size)
   have bf:=zeL (fun x hx=>(aD.o x hx).2) m.t.admits.length
   have aH:=qG aG.o.range
   have bi:=qG (show(Tryz.prog.info? 176).map (·.size)=some (bkA m g).toList.length from zaR)
   go_wp2_with (refine wpList_load_mid rfl 176 (.tmp 1) rfl w.heap.size 0 rfl (bkA m g).toList _ aH.o zaC rfl bi.o ?_)
   refine(zqa m g wr am.o h6).mono ?_
   rintro e W3 ⟨rfl,aA⟩
   have cg:=zgn m.t.admits m.t.admits.length h6
   have ah:=qG (aG.o.next aA)
   have aI:=qG (za5 ae.o.own aA)
   have bj:=qG (B0.o.trans ((ae.o.b.trans (aA.mono ae.o.b.size)).mono B0.o.size))
   have bk:=qG (zmB (slotsL m.t.admits m.t.admits.length))
   rw[bk.o] at aI
   obtain⟨A3,c3,rfl,aJ⟩:=zgK (size:=1) (cells:=zaw) (fun _=>rfl) (by omega) aI.o
   have bP:=qG aJ
   have hN:(slotsL m.t.admits m.t.admits.length).length<=96:=by omega
   have bQ:=qG (fun k=>show muB g m.t.admits k=decide (g k &&& freeN m.t.admits m.t.admits.length=0) from rfl)
   have aK:=qG (fun k=>show rowP g m.t.admits k=rowG (fun s=>has (g k) (ownP m.t.admits s)) (slotsL m.t.admits m.t.admits.length).length from rfl)
   have bR:=qG (fun s=>show ownP m.t.admits s=(slotsL m.t.admits m.t.admits.length).getD s 0 from rfl)
   have bS:=qG (fun s (hs:s<(slotsL m.t.admits m.t.admits.length).length)=>show ownP m.t.admits s<6 from by
    have hm:ownP m.t.admits s∈slotsL m.t.admits m.t.admits.length:=by unfold ownP;rw[qP,qN hs];exact List.getElem_mem hs
    have:=(zeK hm).1;omega)
   have bp:=qG (fun T T' m1 m2 h1 h2=>zlP (n:=m.t.n.toNat) (g:=g) (l:=m.t.admits) h6 (fun x hx=>(OK.o.adm x hx).1) OK.o.ok (T:=T) (T':=T') (m1:=m1) (m2:=m2) h1 h2)
   have bq:=qG (fun T m1 h1 bT=>zqb (n:=m.t.n.toNat) (g:=g) (l:=m.t.admits) h6 (fun x hx=>(OK.o.adm x hx).1) OK.o.ok (T:=T) (m1:=m1) h1 bT)
   generalize hslN:slotsL m.t.admits m.t.admits.length=sl at *
   have n0:=OK.o.n0
   have n2:=OK.o.n2
   obtain⟨n,hn⟩:∃ n:Nat,m.t.n=n:=⟨m.t.n.toNat,by omega⟩
   have aL:m.t.n.toNat=n:=by omega
   have aM:=qG aL
   have cd:n<=16:=by omega
   rw[aL] at bp bq
   have c0:=ah.o.c 0 (.int .i64 n) (by rw[<- hn];rfl)
   clear aJ aA aH bi aG am ae a8 HR a9 hslN hn aL n0 n2 bf aI bk
   generalize freeN m.t.admits m.t.admits.length=F at *
   go_wp2_with fail
   clear c0
   go_loopw [7,8,36] (fun mv av iv wr=>∃ k:Nat,iv=.int .i64 k/\k<=n/\RF3 W3 wr mv av (zap (rowP g m.t.admits) (muB g m.t.admits) k) (zap (rowP g m.t.admits) (fun _=>true) k)) (fun _ _ iv _=>n-(intOf iv).toNat)
   case atStart=>exact⟨0,rfl,by omega,RF3.start W3⟩
   case round=>
    obtain⟨k,rfl,hk,bu⟩:=hrel
    have ai:=qG bu
    clear bu
    rename World=>Wk
    by_cases hlt:k<n
    .have aq:=qG (ah.o.below ai.o.b ah.o.lt)
     have aB:=aq.o.c _ _ (zd9 m g (k:=k) (by omega))
     have ci:=OK.o.lt k
     have cj:=qG aB
     have aC:=qG (And.intro (show zap (rowP g m.t.admits) (muB g m.t.admits) (k+1)=if muB g m.t.admits k then zap (rowP g m.t.admits) (muB g m.t.admits) k++[rowP g m.t.admits k] else zap (rowP g m.t.admits) (muB g m.t.admits) k from rfl) (show zap (rowP g m.t.admits) (fun _=>true) (k+1)=zap (rowP g m.t.admits) (fun _=>true) k++[rowP g m.t.admits k] from if_pos rfl))
     have bv:=And.intro (zgd (rowP g m.t.admits) (muB g m.t.admits) k) (zfE (rowP g m.t.admits) k)
     clear aB
     go_wp2_with fail
     go_loopw [10,41] (fun lv iv wi=>∃ j:Nat,iv=.int .i64 j/\j<=sl.length/\RF4 Wk wi lv (rowG (fun s=>has (g k) (ownP m.t.admits s)) j)) (fun _ iv _=>sl.length-(intOf iv).toNat)
     case atStart=>exact⟨0,rfl,by omega,⟨Below.refl _ _,World.ownsRow_nil _ _ _ _⟩,fun _=>rfl⟩
     case round=>
      obtain⟨j,rfl,hj,bw⟩:=hrel
      have af:=qG bw
      clear bw
      by_cases aF:j<sl.length
      .obtain⟨p,hs⟩:∃ p,sl[j]?=some p:=⟨_,qN aF⟩
       have hp:ownP m.t.admits j=p:=by rw[bR.o,qP,hs];rfl
       have bU:=bS.o j aF
       rw[hp] at bU
       have ar:=qG (ai.o.b.trans (af.o.r.b.mono ai.o.b.size))
       obtain⟨b,off,e,hb,hc⟩:=(bP.o.below ar.o) j p hs
       have g0:=hc 0 _ rfl
       rw[Nat.mul_one,Nat.add_zero] at g0
       have bN:=qM hb ar.o.size
       have HG:=qG (show rowG (fun s=>has (g k) (ownP m.t.admits s)) (j+1)=if has (g k) p then rowG (fun s=>has (g k) (ownP m.t.admits s)) j++[j] else rowG (fun s=>has (g k) (ownP m.t.admits s)) j from by rw[<- hp];rfl)
       have aB:=(aq.o.below af.o.r.b aq.o.lt).c _ _ (zd9 m g (k:=k) (by omega))
       have bV:w.heap.size<wr.heap.size:=(aq.o.below af.o.r.b aq.o.lt).lt
       have aj:=zhT (T:=g k) (p:=p) (by omega)
       have cn:=zeh (fun s=>has (g k) (ownP m.t.admits s)) j
       have ac:=af.o.r.own
       have HR:=qG af.o.r
       have HN:=qG af.o.nil
       generalize g k=G at *
       generalize rowG (fun s=>has G (ownP m.t.admits s)) j=cur at *
       clear hp hs hc
       subst e
       cases hG:has G p
       .rw[hG] at aj HG
        rw[if_neg (by decide)] at aj
        have aN:=qG (HG.o.trans (if_neg (by decide)))
        clear hG ac
        go_wp2_with fail
        exact⟨⟨j+1,by go_num,by omega,by rw[aN.o];exact⟨HR.o,HN.o⟩⟩,by simp[intOf];omega⟩
       .rw[hG] at aj HG
        rw[if_pos rfl] at aj
        have aN:=qG (HG.o.trans (if_pos rfl))
        clear hG
        go_wp2_with (at_builtin;refine wpList_append_own _ rfl (.tmp 54) (.tmp 56) 35 rfl Wk.heap.size 3 i0 (.int .i64 0) 1 8 Tryz.underlying35 hi ag aU aV rfl (by decide) _ _ _ rfl (ac.alloc _) ⟨wr.heap.size,0,none⟩ 1 1 [.int .i64 (j:Int)] rfl rfl (cell_one_new _ _ _) (by simp[Value.oneCell']) (by unfold maxLen;omega) (by omega) (by have:=af.o.r.b.size;simp;omega) ?_;intro v2 w2 ab aa _)
        have HF:=qG (HR.o.app 3 ab aa)
        clear ab aa ac
        go_wp2_with fail
        exact⟨⟨j+1,by go_num,by omega,by rw[aN.o];exact⟨HF.o,fun h=>absurd h (by simp)⟩⟩,by simp[intOf];omega⟩
      .obtain rfl:j=sl.length:=by omega
       have am:=qG (show RwAt wr _ (rowP g m.t.admits k) from by rw[aK.o];exact zqQ af.o.r af.o.nil)
       obtain⟨Al,cl,el,-⟩:=zpj am.o
       subst el
       have aO:=qG (ai.o.next af.o.r.b)
       obtain⟨xa,ac,au⟩:=aO.o.xa
       have ax:=qG ac
       have b7:=bv.2
       have cf:(rowP g m.t.admits k).length<=96:=by have:=zeh (fun s=>has (g k) (ownP m.t.admits s)) sl.length;rw[aK.o];omega
       go_upto_region 23 with (at_builtin;refine zc5 rfl (.tmp 59) (.tmp 61) 277 rfl W3.heap.size 35 i1 (.slice none 0 0) 1 24 Tryz.underlying277 aW aX aY aZ rfl (by decide) _ _ _ rfl (ac.alloc _) ⟨wr.heap.size,0,none⟩ 1 1 [.slice Al (rowP g m.t.admits k).length cl] rfl rfl (cell_one_new _ _ _) (by simp[Value.oneCell']) (by unfold maxLen;omega) (by omega) (by have:=aO.o.b.size;simp;omega) (by decide) ?_;intro v2 w2 ab aa ak)
       have HF:=qG (aO.o.app am.o ax.o au 35 ab aa ak)
       have bL:=qG (show RwAt w2 (.slice Al (rowP g m.t.admits k).length cl) (rowP g m.t.admits k) from(am.o.next (nxA wr (.cells #[.slice Al (rowP g m.t.admits k).length cl] 35))).grow (za5 ax.o (nxA wr (.cells #[.slice Al (rowP g m.t.admits k).length cl] 35))) aa)
       have aB:=(ah.o.below HF.o.b ah.o.lt).c _ _ (zd9 m g (k:=k) (by omega))
       have bV:w.heap.size<w2.heap.size:=(ah.o.below HF.o.b ah.o.lt).lt
       have aj:bits BinOp.and IntKind.i64 ((g k:Nat):Int) ((F:Nat):Int)=((g k &&& F:Nat):Int):=zdT _ _ (by omega) (by omega)
       obtain⟨xm,ao,aw⟩:=HF.o.xm
       have bz:=qG ao
       have b8:=bv.1
       clear ac ab aa ak au ax
       have an:=bQ.o k
       generalize g k &&& F=z at *
       by_cases ag:z=0
       .rw[decide_eq_true ag] at an
        have aP:=qG (aC.o.1.trans (if_pos an))
        have d1:((z:Int)==0)=true:=by rw[ag];rfl
        clear an ag
        go_wp2_with (at_builtin;refine zc5 rfl (.tmp 70) (.tmp 72) 277 rfl W3.heap.size 35 i1 (.slice none 0 0) 1 24 Tryz.underlying277 aW aX aY aZ rfl (by decide) _ _ _ rfl (ao.alloc _) ⟨w2.heap.size,0,none⟩ 1 1 [.slice Al (rowP g m.t.admits k).length cl] rfl rfl (cell_one_new _ _ _) (by simp[Value.oneCell']) (by unfold maxLen;omega) (by omega) (by have:=HF.o.b.size;simp;omega) (by decide) ?_;intro v3 w3 ab aa ak)
        have bW:=qG (HF.o.swap.app bL.o bz.o aw 35 ab aa ak).swap
        clear ao ab aa ak aw bz
        go_wp2_with fail
        exact⟨⟨k+1,by go_num,by omega,by rw[aP.o,aC.o.2];exact bW.o⟩,by simp[intOf];omega⟩
       .rw[decide_eq_false ag] at an
        have aP:=qG (aC.o.1.trans (if_neg (by rw[an];decide)))
        have d1:((z:Int)==0)=false:=by simpa using ag
        clear an ag
        go_wp2_with fail
        exact⟨⟨k+1,by go_num,by omega,by rw[aP.o,aC.o.2];exact HF.o⟩,by simp[intOf];omega⟩
    .obtain rfl:k=n:=by omega
     obtain⟨xm,bA,aw⟩:=ai.o.xm
     obtain⟨xa,bB,au⟩:=ai.o.xa
     obtain⟨Am,cm,rfl,bC⟩:=zkQ bA aw
     obtain⟨Aa,ca,rfl,bD⟩:=zkQ bB au
     have ar:=qG (bj.o.trans (ai.o.b.mono bj.o.size))
     have bX:=zgd (rowP g m.t.admits) (muB g m.t.admits) k
     have bE:=zfE (rowP g m.t.admits) k
     have ay:∀ l,(∃ q,l=rowP g m.t.admits q)->l.length<=96/\∀ s∈l,s<sl.length:=by
      rintro l ⟨q,rfl⟩
      have h1:=zeh (fun s=>has (g q) (ownP m.t.admits s)) sl.length
      rw[aK.o]
      exact⟨by omega,fun s hs=>(zeg.1 hs).1⟩
     have OKm:=qG (show RowsOk (zap (rowP g m.t.admits) (muB g m.t.admits) k) sl.length from⟨by omega,hN,fun l hl=>ay l (by obtain⟨q,-,e⟩:=zem hl;exact⟨q,e⟩)⟩)
     have OKa:=qG (show RowsOk (zap (rowP g m.t.admits) (fun _=>true) k) sl.length from⟨by omega,hN,fun l hl=>ay l (by obtain⟨q,-,e⟩:=zem hl;exact⟨q,e⟩)⟩)
     have bY:=qG bC
     have bZ:=qG bD
     have b0:=qG bE
     clear bC bD bA bB aw au ay bE bX
     go_wp2_with fail
     refine(zfP _ Am cm sl.length Wk bY.o OKm.o).mono ?_
     rintro e W4 ⟨m1,T1,rfl,cp,bF,aQ⟩
     have bG:=qG bF
     have aR:=qG (ar.o.trans (aQ.mono ar.o.size))
     have bM:=qG (bZ.o.next aQ)
     clear bF aQ
     by_cases h1:m1=(zap (rowP g m.t.admits) (muB g m.t.admits) k).length
     .have d1:((m1:Int)==((zap (rowP g m.t.admits) (muB g m.t.admits) k).length:Int))=true:=by rw[h1];simp
      have H1:=qG h1
      clear h1
      go_wp2_with fail
      refine(zfP _ Aa ca sl.length W4 bM.o OKa.o).mono ?_
      rintro e W5 ⟨m2,T2,rfl,cq,aS,bH⟩
      rw[b0.o] at aS
      have bI:=qG (aR.o.trans (bH.mono aR.o.size))
      have aT:=qG (bp.o T1 T2 m1 m2 bG.o aS)
      clear aS bH d1
      by_cases h2:m2=sl.length
      .have d2:((m2:Int)==(sl.length:Int))=true:=by rw[h2];simp
       have H2:=qG h2
       clear h2
       go_wp2_with fail
       go_ret
       exact⟨true,rfl,bI.o,by rw[aM.o];exact⟨fun _=>aT.o.1 ⟨H1.o,H2.o⟩,fun _=>rfl⟩⟩
      .have d2:((m2:Int)==(sl.length:Int))=false:=by simp;omega
       have H2:=qG h2
       clear h2
       go_wp2_with fail
       go_ret
       exact⟨false,rfl,bI.o,by rw[aM.o];exact⟨(fun h=>by cases h),fun h=>absurd (aT.o.2 h).2 H2.o⟩⟩
     .have d1:((m1:Int)==((zap (rowP g m.t.admits) (muB g m.t.admits) k).length:Int))=false:=by simp;omega
      have H1:=qG h1
      clear h1
      go_wp2_with fail
      go_ret
      exact⟨false,rfl,aR.o,by rw[aM.o];exact⟨(fun h=>by cases h),fun h=>absurd h (bq.o T1 m1 bG.o H1.o)⟩⟩
theorem zgM(b:Nat)(x:Bool)(older:List PanicEntry)(w:World)(hc:w.cell? ⟨b,0,none⟩=some (.bool x))(hz:w.frozen? ⟨b,0,none⟩=false)(hb:b<w.heap.size) :
  CallsD Tryz.prog 156 #[.pointer (some ⟨b,0,none⟩)] (.panicking ({ v:=.iface 274 (.agg #[]),recovered:=false } :: older)) w fun e u' w'=>
   e=.returned (.tuple #[])/\u'=.panicking ({ v:=.iface 274 (.agg #[]),recovered:=true } :: older)/\w'=(w.setCell ⟨b,0,none⟩ (.bool false)).alloc (.cells #[] 274):=by
 refine callsD_of_wpS Tryz.func156 rfl fun c₀ cs hu=>?_
 apply wpS_seq
 apply wpS_region
 simp[wpOpsS,go_sem,recoverD,hu,Tryz.ntmps156,Exit.thenS]
 refine wpS_of_wp ?_
 change Code.wp _ _ _ { tmps:=#[.pointer (some ⟨b,0,none⟩),.iface 274 (.agg #[]),undef,undef,.iface 274 (.agg #[]),undef,undef,undef,undef,undef,undef,undef,undef,undef,undef],defers:=[] } w
 have aa:∀ W:World,(binOp .neq 20 (.iface 274 (.agg #[])) .nilIface).run Tryz.prog W=.ok (.bool true) W:=fun W=>by kernel_rfl
 have ab:∀ W:World,(Instr.typeAssert (.iface 274 (.agg #[])) 20 274 true).run Tryz.prog W=.ok (.tuple #[.agg #[],.bool true]) W:=fun W=>by kernel_rfl
 go_wp2_with fail
 cases c₀
 simp_all [bodyPostS,results,Tryz.results156]
theorem zlz(p:Addr)(w:World) :
  CallsD Tryz.prog 156 #[.pointer (some p)] .returning w fun e u' w'=>e=.returned (.tuple #[])/\u'=.returning/\w'=w:=by
 refine callsD_of_wpS Tryz.func156 rfl fun c₀ cs hu=>?_
 apply wpS_seq
 apply wpS_region
 simp[wpOpsS,go_sem,recoverD,hu,Tryz.ntmps156,Exit.thenS]
 refine wpS_of_wp ?_
 go_wp2
 cases c₀
 simp_all [bodyPostS,results,Tryz.results156]
theorem zno(m:Mt)(g:Nat->Nat){k:Nat}(hk:k<16)(x:Nat):(bkA m g).toList.set (4+k) (.int .i64 (x:Int))=(bkA m (fun i=>if i=k then x else g i)).toList:=by
 have:k=0\/k=1\/k=2\/k=3\/k=4\/k=5\/k=6\/k=7\/k=8\/k=9\/k=10\/k=11\/k=12\/k=13\/k=14\/k=15:=by omega
 rcases this with rfl|rfl|rfl|rfl|rfl|rfl|rfl|rfl|rfl|rfl|rfl|rfl|rfl|rfl|rfl|rfl <;> rfl
def opG(t:Tl)(k:Nat):Nat->Nat:=fun i=>if i<k then susp t.loans t.looks i else 0
def zcs(t:Tl)(k:Nat):Prop:=goneS t.looks k<=seenS t.looks k
def zrn(m:Mt)(w:World)(e:Ending)(w':World):Prop:=Below w.heap.size w w'/\
 (((∀ k,k<m.t.n.toNat->¬ zcs m.t k)/\e=.returned (.tuple #[.agg (bkA m (opG m.t m.t.n.toNat)),.bool true]))\/((∃ k,k<m.t.n.toNat/\zcs m.t k)/\∃ g,e=.returned (.tuple #[.agg (bkA m g),.bool false])))
structure ROp(m:Mt)(w:World)(k:Nat)(W:World):Prop where
 hk:k<=m.t.n.toNat
 b:Below w.heap.size w W
 x1:Bx W w.heap.size m.cells
 x2:Bx W (w.heap.size+1) (bkA m (opG m.t k)).toList
 x3:Bx W (w.heap.size+1+1) [.bool false]
 ne:∀ q,q<k->¬ zcs m.t q
theorem zpp{w:World}{b:Nat}{x:Bool}(h:Bx w b [.bool x]):(loadVar 4 ⟨b,0,none⟩).run Tryz.prog w=.ok (.bool x) w:=by
 have c0:=h.c 0 _ rfl
 clear h
 go_simp
theorem zaQ(b:Nat):∀(vs:List Value) (o:Nat) (W:World),W.setCells b o vs=setCells W b o vs
|[],_,_=>rfl
|_ :: vs,o,_=>zaQ b vs (o+1) _
theorem zcU(m:Mt)(w:World)(hr:TaleAt w w.heap.size m)(ok:OkT m.t):Calls Tryz.prog 87 #[.agg #[.int .i64 m.t.n,.slice m.A1 m.t.loans.length m.c1,.slice m.A2 m.t.looks.length m.c2,.slice m.A3 m.t.admits.length m.c3]] w (zrn m w):=by
 have am:∀(fn:Fn) (first cap:Array Value) (w:World),(Instr.makeFunc fn first cap).run Tryz.prog w=.ok (.func fn first cap) w:=fun _ _ _ _=>rfl
 have OK:=qG ok
 have n1:=nxA w (.cells #[.int .i64 m.t.n,.slice m.A1 m.t.loans.length m.c1,.slice m.A2 m.t.looks.length m.c2,.slice m.A3 m.t.admits.length m.c3] 40)
 have y1:=Bx.new w #[.int .i64 m.t.n,.slice m.A1 m.t.loans.length m.c1,.slice m.A2 m.t.looks.length m.c2,.slice m.A3 m.t.admits.length m.c3] 40
 have s1:(w.alloc (.cells #[.int .i64 m.t.n,.slice m.A1 m.t.loans.length m.c1,.slice m.A2 m.t.looks.length m.c2,.slice m.A3 m.t.admits.length m.c3] 40)).heap.size=w.heap.size+1:=by simp
 have HR:=qG hr
 clear hr ok
 go_enter_defers Tryz.func87,Tryz.ntmps87
 go_upto_region 2 with fail
 generalize w.alloc (.cells #[.int .i64 m.t.n,.slice m.A1 m.t.loans.length m.c1,.slice m.A2 m.t.looks.length m.c2,.slice m.A3 m.t.admits.length m.c3] 40)=V1 at *
 have n2:=nxA V1 (.cells #[.int .i64 0,.slice none 0 0,.slice none 0 0,.slice none 0 0,.int .i64 0,.int .i64 0,.int .i64 0,.int .i64 0,.int .i64 0,.int .i64 0,.int .i64 0,.int .i64 0,.int .i64 0,.int .i64 0,.int .i64 0,.int .i64 0,.int .i64 0,.int .i64 0,.int .i64 0,.int .i64 0] 176)
 have y2:=Bx.new V1 #[.int .i64 0,.slice none 0 0,.slice none 0 0,.slice none 0 0,.int .i64 0,.int .i64 0,.int .i64 0,.int .i64 0,.int .i64 0,.int .i64 0,.int .i64 0,.int .i64 0,.int .i64 0,.int .i64 0,.int .i64 0,.int .i64 0,.int .i64 0,.int .i64 0,.int .i64 0,.int .i64 0] 176
 have s2:(V1.alloc (.cells #[.int .i64 0,.slice none 0 0,.slice none 0 0,.slice none 0 0,.int .i64 0,.int .i64 0,.int .i64 0,.int .i64 0,.int .i64 0,.int .i64 0,.int .i64 0,.int .i64 0,.int .i64 0,.int .i64 0,.int .i64 0,.int .i64 0,.int .i64 0,.int .i64 0,.int .i64 0,.int .i64 0] 176)).heap.size=w.heap.size+1+1:=by simp[s1]
 generalize V1.alloc (.cells #[.int .i64 0,.slice none 0 0,.slice none 0 0,.slice none 0 0,.int .i64 0,.int .i64 0,.int .i64 0,.int .i64 0,.int .i64 0,.int .i64 0,.int .i64 0,.int .i64 0,.int .i64 0,.int .i64 0,.int .i64 0,.int .i64 0,.int .i64 0,.int .i64 0,.int .i64 0,.int .i64 0] 176)=V2 at *
 have n3:=nxA V2 (.cells #[.bool false] 4)
 have y3:=Bx.new V2 #[.bool false] 4
 generalize V2.alloc (.cells #[.bool false] 4)=V3 at *
 rw[s1] at y2
 rw[s2] at y3
 have x1:=(y1.next n2).next n3
 have x2:=y2.next n3
 have x3:=y3
 have HB:=qG (n1.trans ((n2.trans (n3.mono n2.size)).mono n1.size))
 clear n1 n2 n3 y1 y2 y3 s1 s2
 have c0:=x1.c 0 _ rfl
 have c1:=x1.c 1 _ rfl
 have c2:=x1.c 2 _ rfl
 have c3:=x1.c 3 _ rfl
 have d0:=x2.c 0 _ rfl
 have d1:=x2.c 1 _ rfl
 have d2:=x2.c 2 _ rfl
 have d3:=x2.c 3 _ rfl
 have f0:=x2.fr 0
 have f1:=x2.fr 1
 have f2:=x2.fr 2
 have f3:=x2.fr 3
 have l1:=x1.lt
 have l2:=x2.lt
 have H0:=qG (show ROp m w 0 ((((V3.setCell ⟨w.heap.size+1,0,none⟩ (.int .i64 m.t.n)).setCell ⟨w.heap.size+1,1,none⟩ (.slice m.A1 m.t.loans.length m.c1)).setCell ⟨w.heap.size+1,2,none⟩ (.slice m.A2 m.t.looks.length m.c2)).setCell ⟨w.heap.size+1,3,none⟩ (.slice m.A3 m.t.admits.length m.c3)) from by
  refine⟨by omega,?_,?_,?_,?_,fun q hq=>by omega⟩
  .exact((((HB.o.setCell (p:=⟨w.heap.size+1,0,none⟩) (by show w.heap.size<=w.heap.size+1;omega) _).setCell (p:=⟨w.heap.size+1,1,none⟩) (by show w.heap.size<=w.heap.size+1;omega) _).setCell (p:=⟨w.heap.size+1,2,none⟩) (by show w.heap.size<=w.heap.size+1;omega) _).setCell (p:=⟨w.heap.size+1,3,none⟩) (by show w.heap.size<=w.heap.size+1;omega) _)
  .exact(((x1.other (by omega) _ _).other (by omega) _ _).other (by omega) _ _).other (by omega) _ _
  .have h1:=x2.set (k:=0) (by simp) (.int .i64 m.t.n)
   have h2:=h1.set (k:=1) (by simp) (.slice m.A1 m.t.loans.length m.c1)
   have h3:=h2.set (k:=2) (by simp) (.slice m.A2 m.t.looks.length m.c2)
   have h4:=h3.set (k:=3) (by simp) (.slice m.A3 m.t.admits.length m.c3)
   exact h4
  .exact(((x3.other (by omega) _ _).other (by omega) _ _).other (by omega) _ _).other (by omega) _ _)
 clear x1 x2 x3
 go_upto_region 3 with fail
 clear c0 c1 c2 c3 d0 d1 d2 d3 f0 f1 f2 f3 l1 l2
 generalize(((V3.setCell ⟨w.heap.size+1,0,none⟩ (.int .i64 m.t.n)).setCell ⟨w.heap.size+1,1,none⟩ (.slice m.A1 m.t.loans.length m.c1)).setCell ⟨w.heap.size+1,2,none⟩ (.slice m.A2 m.t.looks.length m.c2)).setCell ⟨w.heap.size+1,3,none⟩ (.slice m.A3 m.t.admits.length m.c3)=V4 at *
 obtain⟨n,hn⟩:∃ n:Nat,m.t.n=n:=⟨m.t.n.toNat,by have:=OK.o.n1;omega⟩
 have HN:=qG (show m.t.n.toNat=n by omega)
 have au:n<=16:=by have:=OK.o.n2;omega
 have c0:=H0.o.x1.c 0 (.int .i64 n) (by rw[<- hn];rfl)
 have l1:=H0.o.x1.lt
 clear hn am
 go_wp2_with fail
 clear c0 l1
 have aw:=qG (fun k W=>show ROp m w k W->ROp m w k W from id)
 go_loopw [10] (fun iv wr=>∃ k:Nat,iv=.int .i64 k/\ROp m w k wr) (fun iv _=>n-(intOf iv).toNat)
 case atStart=>exact⟨0,rfl,H0.o⟩
 case round=>
  obtain⟨k,rfl,ae⟩:=hrel
  have HO:=qG ae
  have hk:=ae.hk
  rw[HN.o] at hk
  clear ae
  by_cases hlt:k<n
  .have c0:=HO.o.x1.c 0 _ rfl
   have c1:=HO.o.x1.c 1 _ rfl
   have c2:=HO.o.x1.c 2 _ rfl
   have c3:=HO.o.x1.c 3 _ rfl
   have l1:=HO.o.x1.lt
   go_wp2_with fail
   refine(ziW m k wr ((HR.o.below HO.o.b).more HO.o.b.size) OK.o (by omega)).mono ?_
   intro e w1 aa
   clear c0 c1 c2 c3 l1
   by_cases he:zcs m.t k
   .have h1:zfF m k wr e w1=(e=.panicked [{ v:=.iface 274 (.agg #[]),recovered:=false }]/\Below wr.heap.size wr w1):=if_pos he
    rw[h1] at aa
    obtain⟨rfl,hb⟩:=aa
    dsimp only
    have X3:=qG (HO.o.x3.next hb)
    have X2:=qG (HO.o.x2.next hb)
    have an:=qG (HO.o.b.trans (hb.mono HO.o.b.size))
    have HE:=qG he
    clear hb he h1
    go_wp2_with fail
    refine leaves_cons (f:=156) (args:=#[.pointer (some ⟨w.heap.size+1+1,0,none⟩)]) (by simp) (by simp[go_sem]) ?_
    refine(zgM (w.heap.size+1+1) false [] w1 (X3.o.c 0 _ rfl) (X3.o.fr 0) X3.o.lt).mono ?_
    rintro e u' w'' ⟨rfl,rfl,rfl⟩
    have n4:=nxA (w1.setCell ⟨w.heap.size+1+1,0,none⟩ (.bool false)) (.cells #[] 274)
    have x3:=(X3.o.set (k:=0) (by simp) (.bool false)).next n4
    have x2:=(X2.o.other (g:=w.heap.size+1+1) (by omega) 0 (.bool false)).next n4
    have ah:=an.o.setCell (p:=⟨w.heap.size+1+1,0,none⟩) (by show w.heap.size<=w.heap.size+1+1;omega) (.bool false)
    refine⟨_,zbB rfl rfl rfl (run_loadVar_mid _ _ _ _ _ _ x2.range zaC rfl (show _=some (bkA m (opG m.t k)).toList.length from zaR)) (zpp x3),?_⟩
    exact⟨ah.trans (n4.mono ah.size),.inr ⟨⟨k,by rw[HN.o];exact hlt,HE.o⟩,_,rfl⟩⟩
   .have h1:zfF m k wr e w1=Ret (.int .i64 (susp m.t.loans m.t.looks k)) wr e w1:=if_neg he
    rw[h1] at aa
    obtain⟨rfl,hb⟩:=aa
    have X2:=qG (HO.o.x2.next hb)
    have HE:=qG he
    have ax:=X2.o.c _ _ (zd9 m (opG m.t k) (k:=k) (by omega))
    have ay:=X2.o.fr (4+k)
    have az:=X2.o.lt
    have HF:=qG (show ROp m w (k+1) (w1.setCell ⟨w.heap.size+1,4+k,none⟩ (.int .i64 (susp m.t.loans m.t.looks k))) from by
     refine⟨by rw[HN.o];omega,?_,(HO.o.x1.next hb).other (by omega) _ _,?_,(HO.o.x3.next hb).other (by omega) _ _,fun q hq=>?_⟩
     .exact(HO.o.b.trans (hb.mono HO.o.b.size)).setCell (p:=⟨w.heap.size+1,4+k,none⟩) (by show w.heap.size<=w.heap.size+1;omega) _
     .have h2:=X2.o.set (k:=4+k) (by simp[bkA];omega) (.int .i64 (susp m.t.loans m.t.looks k))
      rw[zno m _ (by omega)] at h2
      rw[show opG m.t (k+1)=(fun i=>if i=k then susp m.t.loans m.t.looks k else opG m.t k i) from by
       funext i;unfold opG
       by_cases e1:i=k
       .subst e1;rw[if_pos (by omega),if_pos rfl]
       .rw[if_neg e1]
        by_cases e2:i<k
        .rw[if_pos e2,if_pos (by omega)]
        .rw[if_neg e2,if_neg (by omega)]]
      exact h2
     .by_cases e1:q=k
      .subst e1;exact HE.o
      .exact HO.o.ne q (by omega))
    clear hb he h1
    generalize susp m.t.loans m.t.looks k=x at *
    go_wp2_with fail
    refine⟨?_,by simp[intOf];omega⟩
    exact⟨k+1,by go_num,HF.o⟩
  .obtain rfl:k=n:=by omega
   have ab:=qG HO.o.x2
   obtain⟨L,hL⟩:∃ L,L=(bkA m (opG m.t k)).toList:=⟨_,rfl⟩
   have HL:=qG hL
   have af:=qG (show L.length=20 from by rw[hL];rfl)
   have ao:=qG (show L.toArray.all (·.oneCell')=true from by rw[hL];unfold bkA;simp[Value.oneCell'])
   rw[<- hL] at ab
   clear hL
   have ag:=qG ab.o.range
   have aq:=qG (show wr.there (w.heap.size+1) 0 L.toArray.size from fun j hj=>by
    have ar:j<L.length:=by simpa using hj
    exact⟨by rw[ag.o j _ (qN ar)];rfl,by rw[Nat.zero_add];exact ab.o.fr j⟩)
   have ai:=qG (show(Tryz.prog.info? 176).map (·.size)=some L.length from by rw[af.o];exact zaR)
   have ak:=qG (show(Tryz.prog.info? 176).map (·.size)=some L.toArray.size from by rw[List.size_toArray,af.o];exact zaR)
   have HF:=qG (ab.o.setAll L rfl)
   have ac:=qG (HO.o.x3.setOther (g:=w.heap.size+1) (by omega) L 0)
   have aj:=qG (zac (b:=w.heap.size+1) (by omega) L 0 HO.o.b)
   rw[<- zaQ] at HF ac aj
   go_upto_region 8 with fail
   have z0:=ac.o.c 0 _ rfl
   have zf:=ac.o.fr 0
   go_wp2_with (first|(refine wpList_load_mid rfl 176 (.tmp 2) rfl (w.heap.size+1) 0 rfl L _ ag.o zaC rfl ai.o ?_)|(refine wpList_store_mid rfl 176 (.tmp 2) (.tmp 20) rfl (w.heap.size+1) 0 L.toArray rfl rfl aq.o ak.o ao.o ?_))
   refine leaves_cons (f:=156) (args:=#[.pointer (some ⟨w.heap.size+1+1,0,none⟩)]) (by simp) (by simp[go_sem]) ?_
   refine(zlz _ _).mono ?_
   rintro e u' w'' ⟨rfl,rfl,rfl⟩
   have x3:=ac.o.set (k:=0) (by simp) (.bool true)
   have x2:=HF.o.other (g:=w.heap.size+1+1) (by omega) 0 (.bool true)
   refine⟨_,zbB rfl rfl rfl (run_loadVar_mid _ _ _ _ _ _ x2.range zaC rfl ai.o) (zpp x3),?_⟩
   exact⟨aj.o.setCell (p:=⟨w.heap.size+1+1,0,none⟩) (by show w.heap.size<=w.heap.size+1+1;omega) (.bool true),.inl ⟨fun q hq=>HO.o.ne q (by rw[HN.o] at hq;exact hq),by rw[HL.o,HN.o]⟩⟩
theorem At.vblk{W:World}{g:Nat}{l:List Int}(h:VBlk W g l.length (fun j=>.int .i64 (l.getD j 0))):At W W.heap.size 1 zad (some ⟨g,0,none⟩) l:=fun k x hx=>by
 have hk:=(qO.1 hx).1
 refine⟨g,0,rfl,h.lt,fun j u hu=>?_⟩
 cases j with
|zero=>
  have hu:some (Value.int .i64 x)=some u:=hu
  injection hu with hu
  rw[Nat.zero_add,Nat.mul_one,Nat.add_zero,h.cell k hk,<- hu,qP,hx];rfl
|succ j=>simp[zad] at hu
theorem zcf(x:Nat):(zaw x).length=1:=rfl
theorem zmX(x:Int):(zad x).length=1:=rfl
def RetC(l:List Int)(w:World)(e:Ending)(w':World):Prop:=∃ g c,e=.returned (.slice (some ⟨g,0,none⟩) l.length c)/\l.length<=c/\w.heap.size<=g/\VBlk w' g l.length (fun j=>.int .i64 (l.getD j 0))/\Below w.heap.size w w'
theorem znU{w:World}{base:Nat}{e:TypeId}{v:Value}{l:List Int}(hn:0<l.length)(h:w.ownsRow base e 1 v l.length (l.flatMap zad)) :
  ∃ g c,v=.slice (some ⟨g,0,none⟩) l.length c/\l.length<=c/\base<=g/\VBlk w g l.length (fun j=>.int .i64 (l.getD j 0)):=by
 obtain⟨g,cap,rfl,hb,hlt⟩:=h.form hn
 have hf:∀ l:List Int,l.flatMap zad=l.map fun x=>Value.int .i64 x:=fun l=>by
  induction l with
 |nil=>rfl
 |cons x l ih=>rw[List.flatMap_cons,ih];rfl
 rcases h.2 with ⟨e1,_⟩|⟨g',cap',cur,e1,_,hh,aa,_⟩
 .cases e1
 .injection e1 with e1 _ e2
  injection e1 with e1
  injection e1 with e1
  subst e1 e2
  refine⟨g,cap,rfl,aa,hb,hlt,fun j hj=>?_,fun j=>h.frozenAt j⟩
  rw[h.cellAt j (by omega),hf,List.getElem?_map,qN hj,qP,qN hj];rfl
theorem zg2(l:List Int):l.flatMap zad=l.map fun x=>Value.int .i64 x:=by
 induction l with
|nil=>rfl
|cons x l ih=>rw[List.flatMap_cons,ih];rfl
theorem zdL(b off c:Nat)(l:List Int)(w:World)(h0:0<l.length)(hl:l.length<=1000)(h:At w w.heap.size 1 zad (some ⟨b,off,none⟩) l):Calls Tryz.prog 101 #[.slice (some ⟨b,off,none⟩) l.length c] w (RetC l w):=by
 obtain⟨i0,hi,aj,ak,am⟩:=info_parts zch
 have ai:=fun W=>Lib.run_eql_slice_nil (P:=Tryz.prog) W 35 3 (some ⟨b,off,none⟩) l.length c 0 0 Tryz.underlying35
 have aa:=World.ownsRow_lit (base:=w.heap.size) (e:=3) (size:=1) w #[] 0 (qQ _) (by decide) rfl
 have ab:∀ j u,(l.flatMap zad)[j]?=some u->(w.alloc (.cells #[] 3)).cell? ((⟨b,off,none⟩:Addr).add j)=some u:=(h.below (nxA w (.cells #[] 3))).news zmX
 have af:(l.flatMap zad).length=l.length*1:=by rw[zg2];simp
 have ag:∀ u∈l.flatMap zad,u.oneCell'=true:=by rw[zg2];simp[Value.oneCell']
 clear h
 go_enter Tryz.func101,Tryz.ntmps101
 go_wp2_with (at_builtin;refine wpList_append_own _ rfl (.tmp 5) (.tmp 6) 35 rfl w.heap.size 3 i0 (.int .i64 0) 1 8 Tryz.underlying35 hi aj ak am rfl (by decide) _ 0 [] rfl aa ⟨b,off,none⟩ l.length c (l.flatMap zad) rfl af ab ag (by unfold maxLen;omega) (by omega) (by simp) ?_;intro v' w' ac ae _)
 have ah:w'.ownsRow w.heap.size 3 1 v' l.length (l.flatMap zad):=by simpa using ac
 have an:Below w.heap.size w w':=((Below.refl _ _).alloc (qQ _) _).grown ae (by simp) (fun k hk=>by have:=aa.lt k hk;omega)
 clear aa ac ae ab ai af ag
 go_wp2
 go_ret
 obtain⟨g,c',rfl,h1,h2,h3⟩:=znU h0 ah
 exact⟨g,c',rfl,h1,h2,h3,an⟩
theorem zhB{l:List Nat}:∀ u∈l.flatMap zaw,u.oneCell'=true:=fun u hu=>by
 obtain⟨x,-,h⟩:=List.mem_flatMap.1 hu
 unfold zaw at h
 rw[List.mem_singleton] at h
 rw[h];rfl
def zrm(l:List Nat)(i:Nat)(w:World)(e:Ending)(w':World):Prop:=∃ A c,e=.returned (.slice A (l.take i++l.drop (i+1)).length c)/\At w' w'.heap.size 1 zaw A (l.take i++l.drop (i+1))/\Below w.heap.size w w'/\∀ a,A=some a->w.heap.size<=a.block
theorem zdM(b off c:Nat)(l:List Nat)(i:Nat)(w:World)(hi:i<l.length)(aE:l.length<=c)(hc:c<=1000)(h:At w w.heap.size 1 zaw (some ⟨b,off,none⟩) l):Calls Tryz.prog 165 #[.slice (some ⟨b,off,none⟩) l.length c,.int .i64 i] w (zrm l i w):=by
 obtain⟨i0,af,ag,ah,ai⟩:=info_parts zch
 obtain⟨ad,ab⟩:∃ ad:Addr,(if c=i+1 then some (⟨b,off,none⟩:Addr) else some ⟨b,off+(i+1),none⟩)=some ad:=by split <;> exact⟨_,rfl⟩
 have aj:∀ j u,((l.take i).flatMap zaw)[j]?=some u->∀ W:World,Below w.heap.size w W->W.cell? ((⟨b,off,none⟩:Addr).add j)=some u:=fun j u hu W hb=>by
  have hp:At W w.heap.size 1 zaw (some ⟨b,off,none⟩) (l.take i):=(h.below hb).pre' (List.take_append_drop i l).symm
  exact hp.news zcf j u hu
 have ak:∀ j u,((l.drop (i+1)).flatMap zaw)[j]?=some u->∀ W:World,Below w.heap.size w W->W.cell? (ad.add j)=some u:=fun j u hu W hb=>by
  by_cases e:c=i+1
  .have e2:l.drop (i+1)=[]:=List.drop_eq_nil_of_le (by omega)
   rw[e2] at hu
   simp at hu
  .rw[if_neg e] at ab
   injection ab with ab
   subst ab
   have:=(h.below hb).drop (i+1)
   rw[Nat.mul_one] at this
   exact this.news zcf j u hu
 have l1:(l.take i).length=i:=by rw[List.length_take];omega
 have l2:(l.drop (i+1)).length=l.length-(i+1):=List.length_drop
 have L1:=qG (show((l.take i).flatMap zaw).length=i*1 from by rw[zev zcf,l1])
 have L2:=qG (show((l.drop (i+1)).flatMap zaw).length=(l.length-(i+1))*1 from by rw[zev zcf,l2])
 have am:=qG aj
 have an:=qG ak
 have ao:(l.take i++l.drop (i+1)).length=i+(l.length-(i+1)):=by rw[qD,l1,l2]
 have ax:=qG ao
 have ay:i<=c:=by omega
 have az:i+1<=l.length:=by omega
 have aA:i+1<=c:=by omega
 have aB:0<=(i:Int)+1:=by omega
 have aC:(i:Int)+1<=(l.length:Int):=by omega
 have aD:IntKind.i64.wrap ((i:Int)+1)=((i+1:Nat):Int):=by rw[IntKind.wrap_i64];omega
 clear aj ak l1 l2 ao h
 go_enter Tryz.func165,Tryz.ntmps165
 go_upto_region 1 with fail
 have hc:Below w.heap.size w w.drew:=(Below.refl _ _).drew
 refine wp_region_noPanic ?_
 refine wp_region_held_drew (S:=(fun W=>True)) (by kernel_rfl) ?_ (fun aa=>?_)
 ·(try dsimp only);try trivial
 refine ht 1 (h:=?_)
 refine ht 2 (h:=?_)
 refine ht 3 (h:=?_)
 refine ht 5 (h:=?_)
 refine ht 6 (h:=?_)
 refine ht 7 (h:=?_)
 refine ht 8 (h:=?_)
 refine r1 (i:=0) (by kernel_rfl) rfl fun K hK=>?_
 go_simp
 have aq:=heap_alloc_new w (.cells #[] 3);replace hc:=hc.alloc hc.size (.cells #[] 3)
 refine hK.out _ _ ?_ (fun aa=>?_)
 ·(try dsimp only);try trivial
 clear hK K
 try simp only[qW]
 refine r1 (i:=4) (by kernel_rfl) rfl fun K hK=>?_
 refine zdF rfl (.tmp 5) (.tmp 8) 35 rfl w.heap.size 3 i0 (.int .i64 0) 1 8 Tryz.underlying35 af ag ah ai rfl (by decide) _ 0 [] rfl (zmx aq (qQ _)) ⟨b,off,none⟩ i c ((l.take i).flatMap zaw) rfl L1.o (fun j u hu=>am.o j u hu _ hc) zhB (by unfold maxLen;omega) (by omega) hc.size ?_;intro v5 w5 ac ar;replace hc:=zgY hc ar hc.size (fun g e=>by injection e with e;subst e;exact qQ _)
 refine hK.out _ _ ?_ (fun aa=>?_)
 ·(try dsimp only);try trivial
 clear hK K
 try simp only[qW]
 refine r1 (i:=9) (by kernel_rfl) rfl fun K hK=>?_
 refine zdF rfl (.tmp 9) (.tmp 13) 35 rfl w.heap.size 3 i0 (.int .i64 0) 1 8 Tryz.underlying35 af ag ah ai rfl (by decide) v5 (0+i) ([]++(l.take i).flatMap zaw) rfl ac ad (l.length-(i+1)) (c-(i+1)) ((l.drop (i+1)).flatMap zaw) rfl L2.o (fun j u hu=>an.o j u hu _ hc) zhB (by unfold maxLen;omega) (by omega) hc.size ?_;intro v6 w6 ae au;replace hc:=zgY hc au hc.size (fun g e=>(ac.lt g e).1)
 refine hK.out _ _ ?_ (fun aa=>?_)
 ·(try dsimp only);try trivial
 clear hK K
 try simp only[qW]
 refine ht 10 (h:=?_)
 refine wpAnyH_done (by kernel_rfl) ?_ _
 refine NoPanic.normal ?_
 iterate 12 (try clear aa)
 have aw:w6.ownsRow w.heap.size 3 1 v6 (l.take i++l.drop (i+1)).length ((l.take i++l.drop (i+1)).flatMap zaw):=by
  rw[ax.o,List.flatMap_append]
  rw[Nat.zero_add,List.nil_append] at ae
  exact ae
 have HO:=qG aw
 have HC:=qG hc
 clear ae au ac ar aq hc aw ab aD az aA aB aC ay am an L1 L2
 go_wp2_with fail
 go_ret
 obtain⟨A,c',rfl,ha⟩:=zgK (size:=1) zcf (by omega) HO.o
 exact⟨A,c',rfl,ha,HC.o,fun a e=>(HO.o.lt a.block (by rw[e];rfl)).1⟩
theorem At.off{α:Type}{W:World}{B size:Nat}{cells:α->List Value}{A:Option Addr}{l:List α}(h:At W B size cells A l){b:Nat}(aa:∀ a,A=some a->a.block≠b)(o:Nat)(vs:List Value):At (W.setCells b o vs) B size cells A l:=fun k x hx=>by
 obtain⟨b',off,e,hb,hc⟩:=h k x hx
 refine⟨b',off,e,hb,fun j u hu=>?_⟩
 rw[zaQ,za1 b vs o W b' _ (aa _ e)]
 exact hc j u hu
theorem zcS{P:Program}{w:World}{ops:Array Oper}{rest:List Oper}{o:Oper}{a:Act}{Q:Exit->Act->World->Prop}(ag:o.guard=none)(d s:Operand)(dT sT:TypeId)
  (ho:o.op=.call { callee:=.builtin .copy,args:=#[d,s],argTypes:=#[dT,sT] }) (elem:TypeId) (hu:P.underlying dT=some (.slice elem)) (ac:(P.info? elem).map (·.size)=some 1)
  (b off dLen dCap:Nat) (A:Option Addr) (l:List Nat) (c B:Nat) (ae:At w B 1 zaw A l) (hd:a.eval d=.slice (some ⟨b,off,none⟩) dLen dCap) (hs:a.eval s=.slice A l.length c) (hle:l.length<=dLen)
  (hc:∀ j,j<l.length->(w.cell? ⟨b,off+j,none⟩).isSome=true) (hf:∀ j,j<l.length->w.frozen? ⟨b,off+j,none⟩=false)
  (h:wpList P ops Q rest (a.put o.dst (goInt l.length)) (w.setCells b off (l.flatMap zaw))):wpList P ops Q (o :: rest) a w:=by
 have aa:(l.flatMap zaw).length=l.length:=by rw[zev zcf,Nat.mul_one]
 refine wpList_plain ag fun K hK=>?_
 have af:(Builtin.copy_ #[dT,sT] o.type #[.slice (some ⟨b,off,none⟩) dLen dCap,.slice A l.length c]).run P w=.ok (goInt l.length) (w.setCells b off (l.flatMap zaw)):=by
  rcases zo2 zcf ae with ⟨rfl,rfl⟩|⟨ad,rfl,ab⟩
  .exact run_copy_none (P:=P) w dT sT o.type elem _ _ dLen dCap 0 c hu ac (Nat.min_eq_left (Nat.zero_le _))
  .have:=run_copy_cells (P:=P) w dT sT o.type elem b off dLen dCap ad l.length c (l.flatMap zaw) hu ac (by rw[aa];exact(Nat.min_eq_left hle).symm) (ab w B ae) (fun j hj=>hc j (by omega)) (fun j hj=>hf j (by omega)) zhB
   rw[aa] at this
   exact this
 unfold Oper.wp
 simp[execOp,ho,resolve,invoke,builtin,hd,hs,af,Result.andThen]
 exact hK _ _ h
theorem znp(m:Mt){g g':Nat->Nat}(h:∀ i,i<16->g i=g' i):bkA m g=bkA m g':=by
 unfold bkA gI
 simp only[h 0 (by decide),h 1 (by decide),h 2 (by decide),h 3 (by decide),h 4 (by decide),h 5 (by decide),h 6 (by decide),h 7 (by decide),h 8 (by decide),h 9 (by decide),h 10 (by decide),h 11 (by decide),h 12 (by decide),h 13 (by decide),h 14 (by decide),h 15 (by decide)]
def zaV(g:Nat->Nat)(o:Nat)(l:List Nat)(i:Nat):Nat:=if o<=i/\i<o+l.length then l.getD (i-o) 0 else g i
theorem Bx.over{m:Mt}{b:Nat}:∀{l:List Nat} {o:Nat} {W:World} {g:Nat->Nat},Bx W b (bkA m g).toList->o+l.length<=16->Bx (W.setCells b (4+o) (l.flatMap zaw)) b (bkA m (zaV g o l)).toList
|[],o,W,g,h,_=>by
  rw[znp m (g:=zaV g o []) (g':=g) (fun i _=>by unfold zaV;rw[if_neg (by rw[List.length_nil];omega)])]
  exact h
|x :: l,o,W,g,h,ho=>by
  rw[List.length_cons] at ho
  have h1:=h.set (k:=4+o) (by simp[bkA];omega) (.int .i64 (x:Int))
  rw[zno m g (by omega)] at h1
  have h2:=Bx.over (l:=l) (o:=o+1) h1 (by omega)
  rw[znp m (g:=zaV g o (x :: l)) (g':=zaV (fun i=>if i=o then x else g i) (o+1) l) (fun i _=>by
   show(if o<=i/\i<o+(l.length+1) then(x :: l).getD (i-o) 0 else g i)=(if o+1<=i/\i<o+1+l.length then l.getD (i-(o+1)) 0 else if i=o then x else g i)
   by_cases e:i=o
   .subst e
    rw[if_pos (by omega),if_neg (by omega),if_pos rfl,Nat.sub_self];rfl
   .by_cases e2:o+1<=i/\i<o+1+l.length
    .rw[if_pos e2,if_pos (by omega),show i-o=(i-(o+1))+1 by omega];rfl
    .rw[if_neg e2,if_neg e,if_neg (by omega)])]
  exact h2
theorem zbA{B:Nat}{V W:World}{b:Nat}(hb:B<=b)(h:Below B V W)(o:Nat)(vs:List Value):Below B V (W.setCells b o vs):=by rw[zaQ];exact zac hb vs o h
theorem VBlk.wset{W:World}{g b n:Nat}{f:Nat->Value}(h:VBlk W g n f)(aa:b≠g)(o:Nat)(vs:List Value):VBlk (W.setCells b o vs) g n f:=by
 induction vs generalizing W o with
|nil=>exact h
|cons v vs ih=>exact ih (h.other aa o v) (o+1)
theorem Fit.congr{n:Nat}{S S':Nat->Nat->Bool}{a:Nat->Option Nat}(h:∀ k,k<n->S k=S' k):Fit n S a↔Fit n S' a:=
 ⟨fun⟨f,hf⟩=>⟨f,fun k hk=>by rw[<- h k hk];exact hf.can k hk,hf.adm⟩,fun⟨f,hf⟩=>⟨f,fun k hk=>by rw[h k hk];exact hf.can k hk,hf.adm⟩⟩
def zaB(g:Nat->Nat)(n k:Nat):List Nat:=((List.range n).map g).take k++((List.range n).map g).drop (k+1)
theorem zeQ(g:Nat->Nat){n k:Nat}(h:k<n):(zaB g n k).length=n-1:=by
 unfold zaB;rw[qD,List.length_take,List.length_drop,List.length_map,List.length_range];omega
theorem zf5(g:Nat->Nat){n k i:Nat}(h:k<n)(hi:i<n-1):(zaB g n k).getD i 0=g (zaD k i):=by
 unfold zaB zaD
 rw[qP]
 by_cases e:i<k
 .rw[if_pos e,List.getElem?_append_left (by rw[List.length_take,List.length_map,List.length_range];omega),List.getElem?_take_of_lt e,List.getElem?_map,List.getElem?_range (by omega)];rfl
 .rw[if_neg e,List.getElem?_append_right (by rw[List.length_take,List.length_map,List.length_range];omega),List.length_take,List.length_map,List.length_range,List.getElem?_drop,List.getElem?_map,show k+1+(i-min k n)=i+1 by omega,List.getElem?_range (by omega)];rfl
theorem zgy{W:World}{b:Nat}{m:Mt}{g:Nat->Nat}(h:Bx W b (bkA m g).toList){n:Nat}(hn:n<=16):At W W.heap.size 1 zaw (some ⟨b,4,none⟩) ((List.range n).map g):=fun k x hx=>by
 have hk:=(qO.1 hx).1
 rw[List.length_map,List.length_range] at hk
 rw[List.getElem?_map,List.getElem?_range hk] at hx
 have hx:some (g k)=some x:=hx
 injection hx with hx
 refine⟨b,4,rfl,h.lt,fun j u hu=>?_⟩
 cases j with
|zero=>
  have hu:some (Value.int .i64 x)=some u:=hu
  injection hu with hu
  rw[Nat.mul_one,Nat.add_zero,h.c _ _ (zd9 m g (by omega)),<- hu,hx]
|succ j=>simp[zaw] at hu
def zps(m:Mt)(g:Nat->Nat)(k p:Nat)(w:World)(e:Ending)(w':World):Prop:=∃ b:Bool,e=.returned (.bool b)/\Below w.heap.size w w'/\(b=true↔m.t.admits.getD p (-1)≠0/\Fit (m.t.n.toNat-1) (fun i q=>has (g (zaD k i)) q) (admA (decL m.t.admits p)))
def zrs(n:Nat):Array Value:=(List.replicate n (Value.int .i64 0)).toArray
theorem zcR(n:Nat):(zrs n).size=n:=by unfold zrs;simp
theorem zfU:(zrs 16).toList=(List.replicate 16 0).flatMap zaw:=rfl
theorem zho:(zrs 16).all (·.oneCell')=true:=by unfold zrs;simp[Value.oneCell']
theorem zgz:(Tryz.prog.info? 174).map (·.size)=some 16:=by kernel_rfl
theorem zgg:(Tryz.prog.info? 3).map (·.size)=some 1:=by kernel_rfl
theorem ze5{n k p:Nat}{g g2:Nat->Nat}{l adm':List Int}(hd:adm'=decL l p)(h0:l.getD p (-1)≠0)(hg:∀ i,i<n-1->g2 i=g (zaD k i)) :
  Fit (n-1) (fun i q=>has (g2 i) q) (admA adm')↔l.getD p (-1)≠0/\Fit (n-1) (fun i q=>has (g (zaD k i)) q) (admA (decL l p)):=by
 rw[hd]
 have h:=Fit.congr (n:=n-1) (S:=fun i q=>has (g2 i) q) (S':=fun i q=>has (g (zaD k i)) q) (a:=admA (decL l p)) (fun i hi=>by rw[hg i hi])
 exact h.trans ⟨fun h=>⟨h0,h⟩,fun h=>h.2⟩
theorem zqj{l:List Int}{p:Nat}(h:∀ x∈l,-1<=x/\x<=16):∀ x∈decL l p,-1<=x/\x<=16:=fun x hx=>by
 unfold decL at hx
 split at hx
 .rename_i h0
  rcases List.mem_or_eq_of_mem_set hx with h1|h1
  .exact h x h1
  .rw[qP] at h0 h1
   cases hp:l[p]? with
  |none=>rw[hp] at h0;exact absurd h0 (by decide)
  |some y=>
    rw[hp] at h0 h1
    have:=h y (List.mem_of_getElem? hp)
    have h0:0<y:=h0
    have h1:x=y-1:=h1
    omega
 .exact h x hx
theorem zqk{l:List Int}{p:Nat}(hp:p<l.length):l.getD p (-1)=l.getD p 0:=by
 rw[qP,qP,qN hp];rfl
theorem zfY(g n o:Nat)(W:World)(hn:n<=16):(Instr.sliceAt 174 (.pointer (some ⟨g,o,none⟩)) none (some (.int .i64 (n:Int))) none).run Tryz.prog W=.ok (.slice (some ⟨g,o,none⟩) n 16) W:=by
 have hu:Tryz.prog.underlying 174=some (.array (Tryz.prog.arrayLen 174) (Tryz.prog.elem 174)):=by kernel_rfl
 have hl:Tryz.prog.arrayLen 174=16:=by kernel_rfl
 have hs:(sizeOf (Tryz.prog.elem 174)).run Tryz.prog W=.ok 1 W:=by kernel_rfl
 rw[run_sliceAt_array_h (P:=Tryz.prog) W 174 ⟨g,o,none⟩ hu .i64 n (by omega) (by omega),hs,Result.andThen_ok,hl]
 simp[slicedAt,Addr.add]
theorem zfZ(g o:Nat)(W:World):(Instr.sliceAt 174 (.pointer (some ⟨g,o,none⟩)) none none none).run Tryz.prog W=.ok (.slice (some ⟨g,o,none⟩) 16 16) W:=by
 have hu:Tryz.prog.underlying 174=some (.array (Tryz.prog.arrayLen 174) (Tryz.prog.elem 174)):=by kernel_rfl
 have hl:Tryz.prog.arrayLen 174=16:=by kernel_rfl
 have hs:(sizeOf (Tryz.prog.elem 174)).run Tryz.prog W=.ok 1 W:=by kernel_rfl
 rw[run_sliceAt_array_all (P:=Tryz.prog) W 174 ⟨g,o,none⟩ hu,hs,Result.andThen_ok,hl]
 simp[slicedAt,Addr.add]
theorem zm1(m:Mt)(g:Nat->Nat)(k p:Nat)(w:World)(hr:TaleAt w w.heap.size m)(ok:OkBk m g)(h1:1<=m.t.admits.length)(hk:k<m.t.n.toNat):Calls Tryz.prog 99 #[.agg #[.int .i64 m.t.n,.slice m.A1 m.t.loans.length m.c1,.slice m.A2 m.t.looks.length m.c2,.slice m.A3 m.t.admits.length m.c3,.int .i64 (gI g 0),.int .i64 (gI g 1),.int .i64 (gI g 2),.int .i64 (gI g 3),.int .i64 (gI g 4),.int .i64 (gI g 5),.int .i64 (gI g 6),.int .i64 (gI g 7),.int .i64 (gI g 8),.int .i64 (gI g 9),.int .i64 (gI g 10),.int .i64 (gI g 11),.int .i64 (gI g 12),.int .i64 (gI g 13),.int .i64 (gI g 14),.int .i64 (gI g 15)],.int .i64 k,.int .i64 p] w (zps m g k p w):=by
 have B0:=qG (nxA w (.cells #[.int .i64 m.t.n,.slice m.A1 m.t.loans.length m.c1,.slice m.A2 m.t.looks.length m.c2,.slice m.A3 m.t.admits.length m.c3,.int .i64 (gI g 0),.int .i64 (gI g 1),.int .i64 (gI g 2),.int .i64 (gI g 3),.int .i64 (gI g 4),.int .i64 (gI g 5),.int .i64 (gI g 6),.int .i64 (gI g 7),.int .i64 (gI g 8),.int .i64 (gI g 9),.int .i64 (gI g 10),.int .i64 (gI g 11),.int .i64 (gI g 12),.int .i64 (gI g 13),.int .i64 (gI g 14),.int .i64 (gI g 15)] 176))
 have HX:Bx (w.alloc (.cells #[.int .i64 m.t.n,.slice m.A1 m.t.loans.length m.c1,.slice m.A2 m.t.looks.length m.c2,.slice m.A3 m.t.admits.length m.c3,.int .i64 (gI g 0),.int .i64 (gI g 1),.int .i64 (gI g 2),.int .i64 (gI g 3),.int .i64 (gI g 4),.int .i64 (gI g 5),.int .i64 (gI g 6),.int .i64 (gI g 7),.int .i64 (gI g 8),.int .i64 (gI g 9),.int .i64 (gI g 10),.int .i64 (gI g 11),.int .i64 (gI g 12),.int .i64 (gI g 13),.int .i64 (gI g 14),.int .i64 (gI g 15)] 176)) w.heap.size (bkA m g).toList:=Bx.new w #[.int .i64 m.t.n,.slice m.A1 m.t.loans.length m.c1,.slice m.A2 m.t.looks.length m.c2,.slice m.A3 m.t.admits.length m.c3,.int .i64 (gI g 0),.int .i64 (gI g 1),.int .i64 (gI g 2),.int .i64 (gI g 3),.int .i64 (gI g 4),.int .i64 (gI g 5),.int .i64 (gI g 6),.int .i64 (gI g 7),.int .i64 (gI g 8),.int .i64 (gI g 9),.int .i64 (gI g 10),.int .i64 (gI g 11),.int .i64 (gI g 12),.int .i64 (gI g 13),.int .i64 (gI g 14),.int .i64 (gI g 15)] 176
 have HR:=qG (hr.next B0.o)
 have OK:=qG ok
 have n0:=ok.n0
 have n2:=ok.n2
 obtain⟨n,hn⟩:∃ n:Nat,m.t.n=n:=⟨m.t.n.toNat,by omega⟩
 have ao:k<n:=by omega
 have ah:n<=16:=by omega
 have HN:=qG hn
 have bp:=qG h1
 have aP:=qG hr
 have aC:=qG (show m.t.n.toNat=n by omega)
 obtain⟨b,off,eA,hb,-⟩:=zb4 HR.o.ad h1
 have ai:=HR.o.ad
 have h6:=ok.h6
 have H6:=qG h6
 have EA:=qG eA
 clear hr ok n0 n2 hk hn eA
 go_enter Tryz.func99,Tryz.ntmps99
 go_upto_region 1 with fail
 generalize w.alloc (.cells #[.int .i64 m.t.n,.slice m.A1 m.t.loans.length m.c1,.slice m.A2 m.t.looks.length m.c2,.slice m.A3 m.t.admits.length m.c3,.int .i64 (gI g 0),.int .i64 (gI g 1),.int .i64 (gI g 2),.int .i64 (gI g 3),.int .i64 (gI g 4),.int .i64 (gI g 5),.int .i64 (gI g 6),.int .i64 (gI g 7),.int .i64 (gI g 8),.int .i64 (gI g 9),.int .i64 (gI g 10),.int .i64 (gI g 11),.int .i64 (gI g 12),.int .i64 (gI g 13),.int .i64 (gI g 14),.int .i64 (gI g 15)] 176)=V at *
 have c0:=HX.c 0 (.int .i64 n) (by rw[<- HN.o];rfl)
 have c3:=HX.c 3 (.slice m.A3 m.t.admits.length m.c3) rfl
 have f3:=HX.fr 3
 have aQ:=qG HX
 have hl:=HX.lt
 have aR:=fun W=>zfY w.heap.size n 4 W ah
 clear HX
 go_upto_region 2 with fail
 rw[EA.o] at c3 ai
 go_wp2_with fail
 refine(zdL b off m.c3 m.t.admits V h1 (by omega) ai).mono ?_
 rintro e W1 ⟨ga,ca,rfl,aS,bq,aD,aq⟩
 have X1:=qG (aQ.o.next aq)
 have c3':=X1.o.c 3 (.slice m.A3 m.t.admits.length m.c3) rfl
 have f3':=X1.o.fr 3
 have aT:=X1.o.lt
 have aJ:w.heap.size<ga:=by omega
 have aU:=qG aD
 have aV:=qG (B0.o.trans (aq.mono B0.o.size))
 clear c0 c3 f3 aD aq ai aR
 go_upto_region 3 with fail
 have X2:=qG (show Bx (W1.setCell ⟨w.heap.size,3,none⟩ (.slice (some ⟨ga,0,none⟩) m.t.admits.length ca)) w.heap.size (bkA { m with A3:=some ⟨ga,0,none⟩,c3:=ca } g).toList from X1.o.set (k:=3) (by simp[bkA]) _)
 have V2:=qG (aU.o.other (b:=w.heap.size) (by omega) 3 (.slice (some ⟨ga,0,none⟩) m.t.admits.length ca))
 have B2:=qG (aV.o.setCell (p:=⟨w.heap.size,3,none⟩) (qQ _) (.slice (some ⟨ga,0,none⟩) m.t.admits.length ca))
 clear c3' f3' aT
 generalize W1.setCell ⟨w.heap.size,3,none⟩ (.slice (some ⟨ga,0,none⟩) m.t.admits.length ca)=W2 at *
 have c3:=X2.o.c 3 (.slice (some ⟨ga,0,none⟩) m.t.admits.length ca) rfl
 have bu:=X2.o.lt
 have bj:=V2.o.lt
 have aW:=qG aJ
 by_cases hpl:p<m.t.admits.length
 case' neg=>
  have aK:m.t.admits.length<=p:=by omega
  have hd:decide ((p:Int)<(m.t.admits.length:Int))=false:=decide_eq_false (by omega)
  have aX:¬((p:Int)<(m.t.admits.length:Int)):=by omega
  have ac:=qG (show m.t.admits.getD p (-1)=-1 by rw[qP,List.getElem?_eq_none aK];rfl)
  go_upto_region 7 with fail
  obtain⟨adm',aa⟩:∃ adm',adm'=m.t.admits:=⟨_,rfl⟩
  have ae:=qG (show adm'=decL m.t.admits p/\m.t.admits.getD p (-1)≠0 from⟨by rw[aa];unfold decL;rw[ac.o,if_neg (by decide)],by rw[ac.o];decide⟩)
  have ab:=qG (show adm'.length=m.t.admits.length by rw[aa])
  have aj:=qG (show ∀ x∈adm',-1<=x/\x<=16 from by rw[aa];exact OK.o.adm)
  have XT:=X2
  have VT:=V2
  have BT:=B2
  rw[<- aa] at VT
  obtain⟨WT,ar⟩:∃ WT,WT=W2:=⟨_,rfl⟩
  subst ar
  clear c3 aa hd aX
 case' pos=>
  have a0:=V2.o.cell p hpl
  have fa:=V2.o.free p
  have hx:=OK.o.adm (m.t.admits.getD p 0) (zdv hpl)
  have ac:=qG (zqk hpl)
  obtain⟨x,au⟩:∃ x,x=m.t.admits.getD p 0:=⟨_,rfl⟩
  rw[<- au] at a0 hx ac
  have bv:=qG au
  clear au
  by_cases h1:x=-1
  case' pos=>
   subst h1
   go_upto_region 7 with fail
   obtain⟨adm',aa⟩:∃ adm',adm'=m.t.admits:=⟨_,rfl⟩
   have ae:=qG (show adm'=decL m.t.admits p/\m.t.admits.getD p (-1)≠0 from⟨by rw[aa];unfold decL;rw[ac.o,if_neg (by decide)],by rw[ac.o];decide⟩)
   have ab:=qG (show adm'.length=m.t.admits.length by rw[aa])
   have aj:=qG (show ∀ x∈adm',-1<=x/\x<=16 from by rw[aa];exact OK.o.adm)
   have XT:=X2
   have VT:=V2
   have BT:=B2
   rw[<- aa] at VT
   obtain⟨WT,ar⟩:∃ WT,WT=W2:=⟨_,rfl⟩
   subst ar
   clear c3 a0 fa hx aa
  case' neg=>
   have e1:(x==-1)=false:=by simp[h1]
   have e2:(x !=-1)=true:=by simp[h1]
   have H1:=qG h1
   clear h1
   go_upto_region 5 with fail
   have hw:IntKind.i64.wrap (x-1)=x-1:=qF _ (by omega)
   try rw[hw]
   obtain⟨adm',aa⟩:∃ adm',adm'=m.t.admits.set p (x-1):=⟨_,rfl⟩
   have ab:=qG (show adm'.length=m.t.admits.length by rw[aa,List.length_set])
   have VT:=qG (show VBlk (W2.setCell ⟨ga,p,none⟩ (.int .i64 (x-1))) ga m.t.admits.length (fun j=>.int .i64 (adm'.getD j 0)) from V2.o.set_ hpl (by rw[aa,qP,List.getElem?_set_self hpl];rfl) (fun i hi=>by
    rw[aa,qP,List.getElem?_set_ne (Ne.symm hi),qP]))
   have XT:=qG (X2.o.other (g:=ga) (by omega) p (.int .i64 (x-1)))
   have BT:=qG (B2.o.setCell (p:=⟨ga,p,none⟩) (by show w.heap.size<=ga;omega) (.int .i64 (x-1)))
   clear c3 a0 fa
   generalize W2.setCell ⟨ga,p,none⟩ (.int .i64 (x-1))=WT at *
   have c3:=XT.o.c 3 (.slice (some ⟨ga,0,none⟩) m.t.admits.length ca) rfl
   have a0:=VT.o.cell p hpl
   rw[show adm'.getD p 0=x-1 by rw[aa,qP,List.getElem?_set_self hpl];rfl] at a0
   have hlt:=XT.o.lt
   have bk:=VT.o.lt
   by_cases h0:x=0
   case pos=>
    have d1:decide (x-1<0)=true:=decide_eq_true (by omega)
    have HZ:=qG (show m.t.admits.getD p (-1)=0 by rw[ac.o];exact h0)
    clear h0
    go_wp2_with fail
    go_ret
    exact⟨false,rfl,BT.o,(fun h=>by cases h),fun h=>absurd HZ.o h.1⟩
   case' neg=>
    have d1:decide (x-1<0)=false:=decide_eq_false (by have:=H1.o;omega)
    have aE:0<x:=by have:=H1.o;omega
    have ae:=qG (show adm'=decL m.t.admits p/\m.t.admits.getD p (-1)≠0 from⟨by rw[aa];unfold decL;rw[ac.o,if_pos aE],by rw[ac.o];intro h;omega⟩)
    have aj:=qG (show ∀ x∈adm',-1<=x/\x<=16 from by rw[ae.o.1];exact zqj OK.o.adm)
    clear h0 aa aE
    go_upto_region 7 with fail
    clear c3 a0 hw d1
 all_goals
  have aF:=zgy XT.o ah
  have aw:=zdM w.heap.size 4 16 ((List.range n).map g) k WT (by simp;exact ao) (by simp;exact ah) (by decide) aF
  rw[List.length_map,List.length_range] at aw
  clear aF
  go_wp2_with fail
  refine aw.mono ?_
  rintro e W7 ⟨Ar,cr,ax,ak,am,aG⟩
  have aH:=qG (show ∀ a,Ar=some a->a.block≠w.heap.size from fun a e=>by have:=aG a e;have:=XT.o.lt;omega)
  replace ax:e=.returned (.slice Ar (zaB g n k).length cr):=ax
  subst ax
  replace ak:At W7 W7.heap.size 1 zaw Ar (zaB g n k):=ak
  have aY:=qG ak
  have X7:=qG (XT.o.next am)
  have V7:=qG (VT.o.next am)
  have B7:=qG (BT.o.trans (am.mono BT.o.size))
  have c0:=X7.o.c 0 (.int .i64 n) (by rw[<- HN.o];rfl)
  have f0:=X7.o.fr 0
  have aZ:=X7.o.lt
  have aL:=V7.o.lt
  have aI:IntKind.i64.wrap ((n:Int)-1)=((n-1:Nat):Int):=by rw[IntKind.wrap_i64];omega
  clear ak am aw aG
  go_upto_region 9 with fail
  try rw[aI]
  try rw[show(n:Int)-1=((n-1:Nat):Int) by omega]
  obtain⟨m2,af⟩:∃ m2:Mt,m2=⟨⟨((n-1:Nat):Int),m.t.loans,m.t.looks,adm'⟩,m.A1,m.c1,m.A2,m.c2,some ⟨ga,0,none⟩,ca⟩:=⟨_,rfl⟩
  have M1:=qG (show m2.t.n=((n-1:Nat):Int) by rw[af])
  have M2:=qG (show m2.t.admits=adm' by rw[af])
  have a7:=qG af
  have X8:=qG (show Bx (W7.setCell ⟨w.heap.size,0,none⟩ (.int .i64 ((n-1:Nat):Int))) w.heap.size (bkA m2 g).toList from by
   have h:=X7.o.set (k:=0) (by simp[bkA]) (.int .i64 ((n-1:Nat):Int))
   have e:(bkA m2 g).toList=((bkA { m with A3:=some ⟨ga,0,none⟩,c3:=ca } g).toList.set 0 (.int .i64 ((n-1:Nat):Int))):=by
    rw[af];unfold bkA
    show _=_
    dsimp only
    rw[ab.o];rfl
   rw[e];exact h)
  have V8:=qG (V7.o.other (b:=w.heap.size) (by omega) 0 (.int .i64 ((n-1:Nat):Int)))
  have B8:=qG (B7.o.setCell (p:=⟨w.heap.size,0,none⟩) (qQ _) (.int .i64 ((n-1:Nat):Int)))
  have A8:=qG (show At (W7.setCell ⟨w.heap.size,0,none⟩ (.int .i64 ((n-1:Nat):Int))) W7.heap.size 1 zaw Ar (zaB g n k) from aY.o.off aH.o 0 [.int .i64 ((n-1:Nat):Int)])
  generalize W7.setCell ⟨w.heap.size,0,none⟩ (.int .i64 ((n-1:Nat):Int))=W8 at *
  have a8:=qG (show W8.there w.heap.size 4 (zrs 16).size from fun j hj=>by
   have ay:4+j<(bkA m2 g).toList.length:=by rw[zcR] at hj;simp[bkA];omega
   exact⟨by rw[X8.o.c _ _ (qN ay)];rfl,X8.o.fr _⟩)
  have X9:=qG (show Bx (W8.setCells w.heap.size 4 (zrs 16).toList) w.heap.size (bkA m2 (zaV g 0 (List.replicate 16 0))).toList from by
   have h:=X8.o.over (l:=List.replicate 16 0) (o:=0) (by decide)
   rw[<- zfU] at h
   exact h)
  have V9:=qG (V8.o.wset (b:=w.heap.size) (by omega) 4 (zrs 16).toList)
  have B9:=qG (zbA (qQ _) B8.o 4 (zrs 16).toList)
  have A9:=qG (A8.o.off aH.o 4 (zrs 16).toList)
  clear c0 f0 aZ aL aI af
  go_upto_region 10 with (refine wpList_store_mid rfl 174 (.tmp 60) (.tmp 59) rfl w.heap.size 4 (zrs 16) rfl rfl a8.o (by rw[zcR];exact zgz) zho ?_)
  generalize W8.setCells w.heap.size 4 (zrs 16).toList=W9 at *
  have a9:=fun W=>zfZ w.heap.size 4 W
  have ag:=qG (zeQ g ao)
  have X10:=qG (show Bx (W9.setCells w.heap.size 4 ((zaB g n k).flatMap zaw)) w.heap.size (bkA m2 (zaV (zaV g 0 (List.replicate 16 0)) 0 (zaB g n k))).toList from X9.o.over (l:=zaB g n k) (o:=0) (by rw[ag.o];omega))
  have V10:=qG (V9.o.wset (b:=w.heap.size) (by have:=aW.o;omega) 4 ((zaB g n k).flatMap zaw))
  have B10:=qG (zbA (qQ _) B9.o 4 ((zaB g n k).flatMap zaw))
  have ba:=qG (show ∀ j,j<(zaB g n k).length->(W9.cell? ⟨w.heap.size,4+j,none⟩).isSome=true from fun j hj=>by
   have ay:4+j<(bkA m2 (zaV g 0 (List.replicate 16 0))).toList.length:=by rw[ag.o] at hj;simp[bkA];omega
   rw[X9.o.c _ _ (qN ay)];rfl)
  go_upto_region 11 with (refine zcS rfl (.tmp 62) (.tmp 63) 35 35 rfl 3 Tryz.underlying35 zgg w.heap.size 4 16 16 Ar (zaB g n k) cr _ A9.o rfl rfl (by rw[ag.o];omega) ba.o (fun j _=>X9.o.fr _) ?_)
  clear a9
  generalize W9.setCells w.heap.size 4 ((zaB g n k).flatMap zaw)=W10 at *
  obtain⟨g2,an⟩:∃ g2,g2=zaV (zaV g 0 (List.replicate 16 0)) 0 (zaB g n k):=⟨_,rfl⟩
  have az:=qG (show ∀ i,i<n-1->g2 i=g (zaD k i) from fun i hi=>by
   rw[an];unfold zaV
   rw[if_pos (by rw[ag.o];omega),Nat.sub_zero];exact zf5 g ao hi)
  have bf:=qG (show ∀ i,g2 i<256 from fun i=>by
   by_cases hi:i<n-1
   .rw[az.o i hi];exact OK.o.lt _
   .rw[an];unfold zaV
    rw[if_neg (by rw[ag.o];omega)]
    split
    .rw[Nat.sub_zero,qP,List.getElem?_replicate];split <;> decide
    .exact OK.o.lt _)
  rw[<- an] at X10
  have aM:=qG X10.o.range
  have bh:=qG (show(Tryz.prog.info? 176).map (·.size)=some (bkA m2 g2).toList.length from zaR)
  clear an
  have HT:=qG (show TaleAt W10 W10.heap.size m2 from by
   have hT:=(aP.o.below B10.o).more B10.o.size
   rw[a7.o]
   exact⟨hT.lo,hT.lk,by have:=At.vblk (l:=adm') (by first|exact V10.o|(rw[ab.o];exact V10.o));exact this,hT.l1,hT.l2,by show adm'.length<=_;rw[ab.o];exact hT.l3,hT.k1,hT.k2,by show adm'.length<=ca;rw[ab.o];exact aS⟩)
  have bi:=qG (show OkBk m2 g2 from⟨by rw[M1.o];omega,by rw[M1.o];omega,by rw[M2.o,ab.o];exact H6.o,by rw[M2.o];exact aj.o,bf.o,fun i hi=>by
   rw[M1.o] at hi
   rw[M2.o,ab.o,az.o i (by omega)]
   exact OK.o.ok _ (by rw[aC.o];unfold zaD;split <;> omega)⟩)
  go_wp2_with (refine wpList_load_mid rfl 176 (.tmp 3) rfl w.heap.size 0 rfl (bkA m2 g2).toList _ aM.o zaC rfl bh.o ?_)
  refine(zci m2 g2 W10 HT.o bi.o).mono ?_
  rintro e W11 ⟨rb,rfl,aA,aB⟩
  have aN:=qG (B10.o.trans (aA.mono B10.o.size))
  have aO:=qG aB
  clear aA aB
  go_wp2_with fail
  go_ret
  refine⟨rb,rfl,aN.o,aO.o.trans ?_⟩
  rw[M1.o,M2.o,aC.o,Int.toNat_natCast]
  exact ze5 ae.o.1 ae.o.2 az.o
def zbJ:Mt:=⟨⟨0,[],[],[]⟩,none,0,none,0,none,0⟩
theorem zct(m:Mt)(g:Nat->Nat):(bkA m g).toList.toArray.all (·.oneCell')=true:=by
 rw[Array.toArray_toList];unfold bkA;simp[Value.oneCell']
theorem zbG{W:World}{b:Nat}{L:List Value}(h:Bx W b L)(aa:L.length=20):W.there b 0 20:=fun j hj=>by
 rw[<- aa] at hj
 exact⟨by rw[Nat.zero_add,h.c j _ (qN hj)];rfl,by rw[Nat.zero_add];exact h.fr j⟩
theorem zme{t:Tl}{k:Nat}(h:zcs t k):susp t.loans t.looks k=0:=by unfold susp;exact if_pos h
theorem zpm{t:Tl}(ok:OkT t)(k:Nat):OkB t.admits.length (susp t.loans t.looks k):=fun p hp=>by
 obtain⟨h,_,rfl⟩:=(zdn ok.lent (fun x hx=>(ok.look x hx).1)).1 hp
 unfold whoH
 split
 .exact .inr (.inr rfl)
 .cases e:zbQ t.loans h with
 |none=>exact .inr (.inl rfl)
 |some q=>
   obtain⟨x,hx,_,rfl⟩:=zgi e
   have h1:=ok.per x hx
   have h2:=(ok.lent.good x hx).1
   exact .inl (by show x.p.toNat<_;omega)
theorem zkM{t:Tl}(ok:OkT t)(k:Nat):susp t.loans t.looks k<256:=by
 refine Nat.lt_pow_two_of_testBit (n:=8) _ fun i hi=>?_
 cases e:(susp t.loans t.looks k).testBit i with
|false=>rfl
|true=>
  have:=zpm ok k i e
  have:=ok.a2
  omega
theorem zgN{m:Mt}(ok:OkT m.t):OkBk m (opG m.t m.t.n.toNat):=by
 refine⟨by have:=ok.n1;omega,ok.n2,ok.a2,ok.adm,fun k=>?_,fun k hk=>?_⟩
 .unfold opG;split
  .exact zkM ok k
  .decide
 .unfold opG;rw[if_pos hk];exact zpm ok k
theorem zg4{t:Tl}(ok:OkT t):Fit t.n.toNat (fun k p=>has (opG t t.n.toNat k) p) (admA t.admits)↔fitB t=true:=by
 rw[zcA ok.lent (fun x hx=>(ok.look x hx).1)]
 exact Fit.congr fun k hk=>by unfold opG zbY;rw[if_pos hk]
theorem zig{t:Tl}(ok:OkT t){k:Nat}(hk:k<t.n.toNat)(h:zcs t k):fitB t=false:=by
 cases e:fitB t with
|false=>rfl
|true=>
  obtain⟨f,hf⟩:=(zcA ok.lent (fun x hx=>(ok.look x hx).1)).1 e
  have:=hf.can k hk
  unfold zbY at this
  rw[zme h] at this
  unfold has at this
  rw[Nat.zero_testBit] at this;cases this
theorem zfx(m:Mt)(g:Nat->Nat)(w:World)(hr:TaleAt w w.heap.size m)(ok:OkBk m g):Calls Tryz.prog 88 #[.agg (bkA m g)] w (fun e w'=>∃ b:Bool,e=.returned (.bool b)/\Below w.heap.size w w'/\(b=true↔Fit m.t.n.toNat (fun k p=>has (g k) p) (admA m.t.admits))):=zci m g w hr ok
theorem zdl{P:Program}{ops:Array Oper}{rest:List Oper}{op:Oper}{a:Act}{w:World}{Q:Exit->Act->World->Prop}(hw:Region.wanted op (yielded ops a.tmps)=true)(ty:TypeId)(x:Operand)(ho:op.op=.load ty x)
  (b o:Nat) (hx:a.eval x=.pointer (some ⟨b,o,none⟩)) (cs:List Value) (d:TypeDesc) (hc:w.rangeAt b o cs)
  (hu:P.underlying ty=some d) (hd:d.isRow=true) (hi:(P.info? ty).map (·.size)=some cs.length)
  (h:wpList P ops Q rest (a.put op.dst (.agg cs.toArray)) w):wpList P ops Q (op :: rest) a w:=
 wpList_step fun _ hK=>by rw[if_pos hw];exact wp_load_mid ty x ho b o hx cs d hc hu hd hi (hK _ _ h)
def ckE(t:Tl)(v:Bool):Int:=if zaN t=false then 1 else if v=false then 2 else if fitB t=false then 6 else 0
def zpt(m:Mt)(v:Bool)(w:World)(e:Ending)(w':World):Prop:=Below w.heap.size w w'/\∃(m':Mt) (g:Nat->Nat),e=.returned (.tuple #[.agg (bkA m' g),.int .i64 (ckE m.t v)])/\(ckE m.t v=0->m'=m/\g=opG m.t m.t.n.toNat)
theorem zlW(m:Mt)(v:Bool)(bp bt:Nat)(w:World)(hr:TaleAt w w.heap.size m)(hv:OkT m.t->∀ W,Below w.heap.size w W->Calls Tryz.prog 96 #[.pointer (some ⟨bp,0,none⟩),.pointer (some ⟨bt,0,none⟩)] W (RetQ (.bool v) W)):Calls Tryz.prog 95 #[.agg #[.int .i64 m.t.n,.slice m.A1 m.t.loans.length m.c1,.slice m.A2 m.t.looks.length m.c2,.slice m.A3 m.t.admits.length m.c3],.func (.func 96) #[] #[.pointer (some ⟨bp,0,none⟩),.pointer (some ⟨bt,0,none⟩)]] w (zpt m v w):=by
 have n1:=nxA w (.cells #[.int .i64 m.t.n,.slice m.A1 m.t.loans.length m.c1,.slice m.A2 m.t.looks.length m.c2,.slice m.A3 m.t.admits.length m.c3] 40)
 have y1:=Bx.new w #[.int .i64 m.t.n,.slice m.A1 m.t.loans.length m.c1,.slice m.A2 m.t.looks.length m.c2,.slice m.A3 m.t.admits.length m.c3] 40
 have s1:(w.alloc (.cells #[.int .i64 m.t.n,.slice m.A1 m.t.loans.length m.c1,.slice m.A2 m.t.looks.length m.c2,.slice m.A3 m.t.admits.length m.c3] 40)).heap.size=w.heap.size+1:=by simp
 have HR:=qG hr
 have HV:=qG hv
 have HD:=qG (show ckE m.t v=if zaN m.t=false then 1 else if v=false then 2 else if fitB m.t=false then 6 else 0 from rfl)
 clear hr hv
 go_enter Tryz.func95,Tryz.ntmps95
 go_upto_region 1 with fail
 generalize w.alloc (.cells #[.int .i64 m.t.n,.slice m.A1 m.t.loans.length m.c1,.slice m.A2 m.t.looks.length m.c2,.slice m.A3 m.t.admits.length m.c3] 40)=V1 at *
 have n2:=nxA V1 (.cells (bkA zbJ (fun _=>0)) 176)
 have y2:Bx (V1.alloc (.cells (bkA zbJ (fun _=>0)) 176)) V1.heap.size (bkA zbJ (fun _=>0)).toList:=Bx.new V1 (bkA zbJ (fun _=>0)) 176
 rw[s1] at y2
 have HB:=qG (n1.trans (n2.mono n1.size))
 have af:=qG (y1.next n2)
 have aJ:=qG y2
 have aK:=qG (HR.o.next HB.o)
 change Code.wp _ _ _ _ (V1.alloc (.cells (bkA zbJ (fun _=>0)) 176))
 generalize V1.alloc (.cells (bkA zbJ (fun _=>0)) 176)=V at *
 clear n1 n2 y1 y2 s1
 obtain⟨L0,an⟩:∃ L0,L0=(bkA zbJ (fun _=>0)).toList:=⟨_,rfl⟩
 have aB:=qG an
 have ag:=qG (show L0.length=20 from by rw[an];rfl)
 have aC:=qG (show L0.toArray.all (·.oneCell')=true from by rw[an];exact zct _ _)
 rw[<- an] at aJ
 clear an
 have c0:=af.o.c 0 _ rfl
 have c1:=af.o.c 1 _ rfl
 have c2:=af.o.c 2 _ rfl
 have c3:=af.o.c 3 _ rfl
 have hl:=af.o.lt
 go_wp2_with fail
 refine(zet m _ aK.o).mono ?_
 rintro e w1 ⟨rfl,ao⟩
 have au:=qG (HB.o.trans (ao.mono HB.o.size))
 have X1:=qG (af.o.next ao)
 have X2:=qG (aJ.o.next ao)
 have R1:=qG (aK.o.next ao)
 have ab:=qG X2.o.range
 have ah:=qG (show w1.there (w.heap.size+1) 0 L0.toArray.size from by rw[show L0.toArray.size=20 from by simpa using ag.o];exact zbG X2.o ag.o)
 have aa:=qG (show(Tryz.prog.info? 176).map (·.size)=some L0.length from by rw[ag.o];exact zaR)
 have ae:=qG (show(Tryz.prog.info? 176).map (·.size)=some L0.toArray.size from by rw[List.size_toArray,ag.o];exact zaR)
 have HF:=qG (X2.o.setAll L0 rfl)
 have aw:=qG (zac (b:=w.heap.size+1) (by omega) L0 0 au.o)
 rw[<- zaQ] at HF aw
 clear c0 c1 c2 c3 hl ao
 cases ht:zaN m.t
 .have HT:=qG ht
  clear ht
  go_wp2_with (first|(refine wpList_load_mid rfl 176 (.tmp 4) rfl (w.heap.size+1) 0 rfl L0 _ ab.o zaC rfl aa.o ?_)|(refine wpList_store_mid rfl 176 (.tmp 4) (.tmp 11) rfl (w.heap.size+1) 0 L0.toArray rfl rfl ah.o ae.o aC.o ?_))
  (try simp only[Exit.inBlock,Exit.then])
  refine bodyPost_ret (zah rfl rfl (run_loadVar_mid _ _ _ _ _ _ HF.o.range zaC rfl aa.o)) rfl ?_
  exact⟨aw.o,zbJ,fun _=>0,by rw[HD.o,HT.o,aB.o];rfl,fun h=>absurd h (by rw[HD.o,HT.o];simp)⟩
 .have OK:=qG (zcL ht)
  have HT:=qG ht
  clear ht
  have ax:=qG (HV.o OK.o w1 au.o)
  go_wp2_with fail
  refine ax.o.mono ?_
  rintro e w2 ⟨rfl,rfl⟩
  cases v
  .go_wp2_with (first|(refine wpList_load_mid rfl 176 (.tmp 4) rfl (w.heap.size+1) 0 rfl L0 _ ab.o zaC rfl aa.o ?_)|(refine wpList_store_mid rfl 176 (.tmp 4) (.tmp 16) rfl (w.heap.size+1) 0 L0.toArray rfl rfl ah.o ae.o aC.o ?_))
   (try simp only[Exit.inBlock,Exit.then])
   refine bodyPost_ret (zah rfl rfl (run_loadVar_mid _ _ _ _ _ _ HF.o.range zaC rfl aa.o)) rfl ?_
   exact⟨aw.o,zbJ,fun _=>0,by rw[HD.o,HT.o,aB.o];rfl,fun h=>absurd h (by rw[HD.o,HT.o];simp)⟩
  .have c0:=X1.o.c 0 _ rfl
   have c1:=X1.o.c 1 _ rfl
   have c2:=X1.o.c 2 _ rfl
   have c3:=X1.o.c 3 _ rfl
   have hl:=X1.o.lt
   clear ax HF aw aa ae ah ab aC aB
   go_wp2_with fail
   refine(zcU m _ R1.o OK.o).mono ?_
   rintro e w3 ⟨ay,aL⟩
   have aM:=qG (au.o.trans (ay.mono au.o.size))
   have X3:=qG (X2.o.next ay)
   have R3:=qG (R1.o.next ay)
   have aP:=qG (zbG X3.o ag.o)
   have aQ:∃(g:Nat->Nat) (b:Bool),e=.returned (.tuple #[.agg (bkA m g).toList.toArray,.bool b])/\(b=true->g=opG m.t m.t.n.toNat/\∀ k,k<m.t.n.toNat->¬ zcs m.t k)/\(b=false->fitB m.t=false):=by
    rcases aL with ⟨h1,rfl⟩|⟨⟨k,hk,h1⟩,g,rfl⟩
    .exact⟨_,true,by rw[Array.toArray_toList],fun _=>⟨rfl,h1⟩,(fun h=>by cases h)⟩
    .exact⟨g,false,by rw[Array.toArray_toList],(fun h=>by cases h),fun _=>zig OK.o hk h1⟩
   obtain⟨g,b,rfl,aN,aO⟩:=aQ
   have aD:=qG aN
   have aE:=qG aO
   obtain⟨L,hL⟩:∃ L,L=(bkA m g).toList:=⟨_,rfl⟩
   have HL:=qG hL
   have ac:=qG (show L.length=20 from by rw[hL];rfl)
   have az:=qG (show L.toArray.all (·.oneCell')=true from by rw[hL];exact zct _ _)
   have aq:=qG (show L.toArray=bkA m g from by rw[hL,Array.toArray_toList])
   have aa:=qG (show(Tryz.prog.info? 176).map (·.size)=some L.length from by rw[ac.o];exact zaR)
   have ae:=qG (show(Tryz.prog.info? 176).map (·.size)=some L.toArray.size from by rw[List.size_toArray,ac.o];exact zaR)
   have ah:=qG (show w3.there (w.heap.size+1) 0 L.toArray.size from by rw[show L.toArray.size=20 from by simpa using ac.o];exact aP.o)
   rw[<- hL]
   have X4:=qG (X3.o.setAll L (by rw[ac.o,ag.o]))
   have ai:=qG (zac (b:=w.heap.size+1) (by omega) L 0 aM.o)
   rw[<- zaQ] at X4 ai
   clear hL aL aN aO ay c0 c1 c2 c3 hl
   go_upto_region 6 with (refine wpList_store_mid rfl 176 (.tmp 4) (.tmp 20) rfl (w.heap.size+1) 0 L.toArray rfl rfl ah.o ae.o az.o ?_)
   generalize w3.setCells (w.heap.size+1) 0 L=W4 at *
   clear ah X3 aM
   cases b
   .have aF:=qG (aE.o rfl)
    clear aE aD
    have ab:=qG X4.o.range
    have am:=qG (show W4.there (w.heap.size+1) 0 L.toArray.size from by rw[show L.toArray.size=20 from by simpa using ac.o];exact zbG X4.o ac.o)
    have aj:=qG (X4.o.setAll L rfl)
    have ak:=qG (zac (b:=w.heap.size+1) (by omega) L 0 ai.o)
    rw[<- zaQ] at aj ak
    go_wp2_with (first|(refine wpList_load_mid rfl 176 (.tmp 4) rfl (w.heap.size+1) 0 rfl L _ ab.o zaC rfl aa.o ?_)|(refine wpList_store_mid rfl 176 (.tmp 4) (.tmp 29) rfl (w.heap.size+1) 0 L.toArray rfl rfl am.o ae.o az.o ?_))
    (try simp only[Exit.inBlock,Exit.then])
    refine bodyPost_ret (zah rfl rfl (run_loadVar_mid _ _ _ _ _ _ aj.o.range zaC rfl aa.o)) rfl ?_
    exact⟨ak.o,m,g,by rw[HD.o,HT.o,aF.o,aq.o];rfl,fun h=>absurd h (by rw[HD.o,HT.o,aF.o];simp)⟩
   .have ar:=qG (aD.o rfl)
    clear aE aD
    have aR:=qG X4.o.range
    go_wp2_with (refine zdl rfl 176 (.tmp 4) rfl (w.heap.size+1) 0 rfl L _ aR.o zaC rfl aa.o ?_)
    rw[aq.o,ar.o.1]
    refine(zfx m _ W4 ((HR.o.below ai.o).more ai.o.size) (zgN OK.o)).mono ?_
    rintro e W5 ⟨rb,rfl,aG,aH⟩
    have aI:=qG (aH.trans (zg4 OK.o))
    have X5:=qG (X4.o.next aG)
    have aS:=qG (ai.o.trans (aG.mono ai.o.size))
    rw[<- ar.o.1,<- aq.o]
    clear aG aH
    have ab:=qG X5.o.range
    have am:=qG (show W5.there (w.heap.size+1) 0 L.toArray.size from by rw[show L.toArray.size=20 from by simpa using ac.o];exact zbG X5.o ac.o)
    have aj:=qG (X5.o.setAll L rfl)
    have ak:=qG (zac (b:=w.heap.size+1) (by omega) L 0 aS.o)
    rw[<- zaQ] at aj ak
    cases rb
    .have hf:fitB m.t=false:=by cases e:fitB m.t with|false=>rfl|true=>exact absurd (aI.o.2 e) (by decide)
     have aA:=qG hf
     clear hf
     go_wp2_with (first|(refine wpList_load_mid rfl 176 (.tmp 4) rfl (w.heap.size+1) 0 rfl L _ ab.o zaC rfl aa.o ?_)|(refine wpList_store_mid rfl 176 (.tmp 4) (.tmp 29) rfl (w.heap.size+1) 0 L.toArray rfl rfl am.o ae.o az.o ?_))
     (try simp only[Exit.inBlock,Exit.then])
     refine bodyPost_ret (zah rfl rfl (run_loadVar_mid _ _ _ _ _ _ aj.o.range zaC rfl aa.o)) rfl ?_
     exact⟨ak.o,m,g,by rw[HD.o,HT.o,aA.o,aq.o];rfl,fun h=>absurd h (by rw[HD.o,HT.o,aA.o];simp)⟩
    .have aA:=qG (aI.o.1 rfl)
     go_wp2_with (first|(refine wpList_load_mid rfl 176 (.tmp 4) rfl (w.heap.size+1) 0 rfl L _ ab.o zaC rfl aa.o ?_)|(refine wpList_store_mid rfl 176 (.tmp 4) (.tmp 30) rfl (w.heap.size+1) 0 L.toArray rfl rfl am.o ae.o az.o ?_))
     (try simp only[Exit.inBlock,Exit.then])
     refine bodyPost_ret (zah rfl rfl (run_loadVar_mid _ _ _ _ _ _ aj.o.range zaC rfl aa.o)) rfl ?_
     exact⟨ak.o,m,g,by rw[HD.o,HT.o,aA.o,aq.o];rfl,fun h=>⟨rfl,ar.o.1⟩⟩
theorem zlX(m:Mt)(v:Bool)(bp bt:Nat)(w:World)(hr:TaleAt w w.heap.size m)(hv:OkT m.t->∀ W,Below w.heap.size w W->Calls Tryz.prog 100 #[.pointer (some ⟨bp,0,none⟩),.pointer (some ⟨bt,0,none⟩)] W (RetQ (.bool v) W)):Calls Tryz.prog 95 #[.agg #[.int .i64 m.t.n,.slice m.A1 m.t.loans.length m.c1,.slice m.A2 m.t.looks.length m.c2,.slice m.A3 m.t.admits.length m.c3],.func (.func 100) #[] #[.pointer (some ⟨bp,0,none⟩),.pointer (some ⟨bt,0,none⟩)]] w (zpt m v w):=by
 have n1:=nxA w (.cells #[.int .i64 m.t.n,.slice m.A1 m.t.loans.length m.c1,.slice m.A2 m.t.looks.length m.c2,.slice m.A3 m.t.admits.length m.c3] 40)
 have y1:=Bx.new w #[.int .i64 m.t.n,.slice m.A1 m.t.loans.length m.c1,.slice m.A2 m.t.looks.length m.c2,.slice m.A3 m.t.admits.length m.c3] 40
 have s1:(w.alloc (.cells #[.int .i64 m.t.n,.slice m.A1 m.t.loans.length m.c1,.slice m.A2 m.t.looks.length m.c2,.slice m.A3 m.t.admits.length m.c3] 40)).heap.size=w.heap.size+1:=by simp
 have HR:=qG hr
 have HV:=qG hv
 have HD:=qG (show ckE m.t v=if zaN m.t=false then 1 else if v=false then 2 else if fitB m.t=false then 6 else 0 from rfl)
 clear hr hv
 go_enter Tryz.func95,Tryz.ntmps95
 go_upto_region 1 with fail
 generalize w.alloc (.cells #[.int .i64 m.t.n,.slice m.A1 m.t.loans.length m.c1,.slice m.A2 m.t.looks.length m.c2,.slice m.A3 m.t.admits.length m.c3] 40)=V1 at *
 have n2:=nxA V1 (.cells (bkA zbJ (fun _=>0)) 176)
 have y2:Bx (V1.alloc (.cells (bkA zbJ (fun _=>0)) 176)) V1.heap.size (bkA zbJ (fun _=>0)).toList:=Bx.new V1 (bkA zbJ (fun _=>0)) 176
 rw[s1] at y2
 have HB:=qG (n1.trans (n2.mono n1.size))
 have af:=qG (y1.next n2)
 have aJ:=qG y2
 have aK:=qG (HR.o.next HB.o)
 change Code.wp _ _ _ _ (V1.alloc (.cells (bkA zbJ (fun _=>0)) 176))
 generalize V1.alloc (.cells (bkA zbJ (fun _=>0)) 176)=V at *
 clear n1 n2 y1 y2 s1
 obtain⟨L0,an⟩:∃ L0,L0=(bkA zbJ (fun _=>0)).toList:=⟨_,rfl⟩
 have aB:=qG an
 have ag:=qG (show L0.length=20 from by rw[an];rfl)
 have aC:=qG (show L0.toArray.all (·.oneCell')=true from by rw[an];exact zct _ _)
 rw[<- an] at aJ
 clear an
 have c0:=af.o.c 0 _ rfl
 have c1:=af.o.c 1 _ rfl
 have c2:=af.o.c 2 _ rfl
 have c3:=af.o.c 3 _ rfl
 have hl:=af.o.lt
 go_wp2_with fail
 refine(zet m _ aK.o).mono ?_
 rintro e w1 ⟨rfl,ao⟩
 have au:=qG (HB.o.trans (ao.mono HB.o.size))
 have X1:=qG (af.o.next ao)
 have X2:=qG (aJ.o.next ao)
 have R1:=qG (aK.o.next ao)
 have ab:=qG X2.o.range
 have ah:=qG (show w1.there (w.heap.size+1) 0 L0.toArray.size from by rw[show L0.toArray.size=20 from by simpa using ag.o];exact zbG X2.o ag.o)
 have aa:=qG (show(Tryz.prog.info? 176).map (·.size)=some L0.length from by rw[ag.o];exact zaR)
 have ae:=qG (show(Tryz.prog.info? 176).map (·.size)=some L0.toArray.size from by rw[List.size_toArray,ag.o];exact zaR)
 have HF:=qG (X2.o.setAll L0 rfl)
 have aw:=qG (zac (b:=w.heap.size+1) (by omega) L0 0 au.o)
 rw[<- zaQ] at HF aw
 clear c0 c1 c2 c3 hl ao
 cases ht:zaN m.t
 .have HT:=qG ht
  clear ht
  go_wp2_with (first|(refine wpList_load_mid rfl 176 (.tmp 4) rfl (w.heap.size+1) 0 rfl L0 _ ab.o zaC rfl aa.o ?_)|(refine wpList_store_mid rfl 176 (.tmp 4) (.tmp 11) rfl (w.heap.size+1) 0 L0.toArray rfl rfl ah.o ae.o aC.o ?_))
  (try simp only[Exit.inBlock,Exit.then])
  refine bodyPost_ret (zah rfl rfl (run_loadVar_mid _ _ _ _ _ _ HF.o.range zaC rfl aa.o)) rfl ?_
  exact⟨aw.o,zbJ,fun _=>0,by rw[HD.o,HT.o,aB.o];rfl,fun h=>absurd h (by rw[HD.o,HT.o];simp)⟩
 .have OK:=qG (zcL ht)
  have HT:=qG ht
  clear ht
  have ax:=qG (HV.o OK.o w1 au.o)
  go_wp2_with fail
  refine ax.o.mono ?_
  rintro e w2 ⟨rfl,rfl⟩
  cases v
  .go_wp2_with (first|(refine wpList_load_mid rfl 176 (.tmp 4) rfl (w.heap.size+1) 0 rfl L0 _ ab.o zaC rfl aa.o ?_)|(refine wpList_store_mid rfl 176 (.tmp 4) (.tmp 16) rfl (w.heap.size+1) 0 L0.toArray rfl rfl ah.o ae.o aC.o ?_))
   (try simp only[Exit.inBlock,Exit.then])
   refine bodyPost_ret (zah rfl rfl (run_loadVar_mid _ _ _ _ _ _ HF.o.range zaC rfl aa.o)) rfl ?_
   exact⟨aw.o,zbJ,fun _=>0,by rw[HD.o,HT.o,aB.o];rfl,fun h=>absurd h (by rw[HD.o,HT.o];simp)⟩
  .have c0:=X1.o.c 0 _ rfl
   have c1:=X1.o.c 1 _ rfl
   have c2:=X1.o.c 2 _ rfl
   have c3:=X1.o.c 3 _ rfl
   have hl:=X1.o.lt
   clear ax HF aw aa ae ah ab aC aB
   go_wp2_with fail
   refine(zcU m _ R1.o OK.o).mono ?_
   rintro e w3 ⟨ay,aL⟩
   have aM:=qG (au.o.trans (ay.mono au.o.size))
   have X3:=qG (X2.o.next ay)
   have R3:=qG (R1.o.next ay)
   have aP:=qG (zbG X3.o ag.o)
   have aQ:∃(g:Nat->Nat) (b:Bool),e=.returned (.tuple #[.agg (bkA m g).toList.toArray,.bool b])/\(b=true->g=opG m.t m.t.n.toNat/\∀ k,k<m.t.n.toNat->¬ zcs m.t k)/\(b=false->fitB m.t=false):=by
    rcases aL with ⟨h1,rfl⟩|⟨⟨k,hk,h1⟩,g,rfl⟩
    .exact⟨_,true,by rw[Array.toArray_toList],fun _=>⟨rfl,h1⟩,(fun h=>by cases h)⟩
    .exact⟨g,false,by rw[Array.toArray_toList],(fun h=>by cases h),fun _=>zig OK.o hk h1⟩
   obtain⟨g,b,rfl,aN,aO⟩:=aQ
   have aD:=qG aN
   have aE:=qG aO
   obtain⟨L,hL⟩:∃ L,L=(bkA m g).toList:=⟨_,rfl⟩
   have HL:=qG hL
   have ac:=qG (show L.length=20 from by rw[hL];rfl)
   have az:=qG (show L.toArray.all (·.oneCell')=true from by rw[hL];exact zct _ _)
   have aq:=qG (show L.toArray=bkA m g from by rw[hL,Array.toArray_toList])
   have aa:=qG (show(Tryz.prog.info? 176).map (·.size)=some L.length from by rw[ac.o];exact zaR)
   have ae:=qG (show(Tryz.prog.info? 176).map (·.size)=some L.toArray.size from by rw[List.size_toArray,ac.o];exact zaR)
   have ah:=qG (show w3.there (w.heap.size+1) 0 L.toArray.size from by rw[show L.toArray.size=20 from by simpa using ac.o];exact aP.o)
   rw[<- hL]
   have X4:=qG (X3.o.setAll L (by rw[ac.o,ag.o]))
   have ai:=qG (zac (b:=w.heap.size+1) (by omega) L 0 aM.o)
   rw[<- zaQ] at X4 ai
   clear hL aL aN aO ay c0 c1 c2 c3 hl
   go_upto_region 6 with (refine wpList_store_mid rfl 176 (.tmp 4) (.tmp 20) rfl (w.heap.size+1) 0 L.toArray rfl rfl ah.o ae.o az.o ?_)
   generalize w3.setCells (w.heap.size+1) 0 L=W4 at *
   clear ah X3 aM
   cases b
   .have aF:=qG (aE.o rfl)
    clear aE aD
    have ab:=qG X4.o.range
    have am:=qG (show W4.there (w.heap.size+1) 0 L.toArray.size from by rw[show L.toArray.size=20 from by simpa using ac.o];exact zbG X4.o ac.o)
    have aj:=qG (X4.o.setAll L rfl)
    have ak:=qG (zac (b:=w.heap.size+1) (by omega) L 0 ai.o)
    rw[<- zaQ] at aj ak
    go_wp2_with (first|(refine wpList_load_mid rfl 176 (.tmp 4) rfl (w.heap.size+1) 0 rfl L _ ab.o zaC rfl aa.o ?_)|(refine wpList_store_mid rfl 176 (.tmp 4) (.tmp 29) rfl (w.heap.size+1) 0 L.toArray rfl rfl am.o ae.o az.o ?_))
    (try simp only[Exit.inBlock,Exit.then])
    refine bodyPost_ret (zah rfl rfl (run_loadVar_mid _ _ _ _ _ _ aj.o.range zaC rfl aa.o)) rfl ?_
    exact⟨ak.o,m,g,by rw[HD.o,HT.o,aF.o,aq.o];rfl,fun h=>absurd h (by rw[HD.o,HT.o,aF.o];simp)⟩
   .have ar:=qG (aD.o rfl)
    clear aE aD
    have aR:=qG X4.o.range
    go_wp2_with (refine zdl rfl 176 (.tmp 4) rfl (w.heap.size+1) 0 rfl L _ aR.o zaC rfl aa.o ?_)
    rw[aq.o,ar.o.1]
    refine(zfx m _ W4 ((HR.o.below ai.o).more ai.o.size) (zgN OK.o)).mono ?_
    rintro e W5 ⟨rb,rfl,aG,aH⟩
    have aI:=qG (aH.trans (zg4 OK.o))
    have X5:=qG (X4.o.next aG)
    have aS:=qG (ai.o.trans (aG.mono ai.o.size))
    rw[<- ar.o.1,<- aq.o]
    clear aG aH
    have ab:=qG X5.o.range
    have am:=qG (show W5.there (w.heap.size+1) 0 L.toArray.size from by rw[show L.toArray.size=20 from by simpa using ac.o];exact zbG X5.o ac.o)
    have aj:=qG (X5.o.setAll L rfl)
    have ak:=qG (zac (b:=w.heap.size+1) (by omega) L 0 aS.o)
    rw[<- zaQ] at aj ak
    cases rb
    .have hf:fitB m.t=false:=by cases e:fitB m.t with|false=>rfl|true=>exact absurd (aI.o.2 e) (by decide)
     have aA:=qG hf
     clear hf
     go_wp2_with (first|(refine wpList_load_mid rfl 176 (.tmp 4) rfl (w.heap.size+1) 0 rfl L _ ab.o zaC rfl aa.o ?_)|(refine wpList_store_mid rfl 176 (.tmp 4) (.tmp 29) rfl (w.heap.size+1) 0 L.toArray rfl rfl am.o ae.o az.o ?_))
     (try simp only[Exit.inBlock,Exit.then])
     refine bodyPost_ret (zah rfl rfl (run_loadVar_mid _ _ _ _ _ _ aj.o.range zaC rfl aa.o)) rfl ?_
     exact⟨ak.o,m,g,by rw[HD.o,HT.o,aA.o,aq.o];rfl,fun h=>absurd h (by rw[HD.o,HT.o,aA.o];simp)⟩
    .have aA:=qG (aI.o.1 rfl)
     go_wp2_with (first|(refine wpList_load_mid rfl 176 (.tmp 4) rfl (w.heap.size+1) 0 rfl L _ ab.o zaC rfl aa.o ?_)|(refine wpList_store_mid rfl 176 (.tmp 4) (.tmp 30) rfl (w.heap.size+1) 0 L.toArray rfl rfl am.o ae.o az.o ?_))
     (try simp only[Exit.inBlock,Exit.then])
     refine bodyPost_ret (zah rfl rfl (run_loadVar_mid _ _ _ _ _ _ aj.o.range zaC rfl aa.o)) rfl ?_
     exact⟨ak.o,m,g,by rw[HD.o,HT.o,aA.o,aq.o];rfl,fun h=>⟨rfl,ar.o.1⟩⟩
def deB:List Nat:=[0,1,56,2,57,49,28,3,61,58,42,50,38,29,17,4,62,47,59,36,45,43,51,22,53,39,33,30,24,18,12,5,63,55,48,27,60,41,37,16,46,35,44,21,52,32,23,11,54,26,40,15,34,20,31,10,25,14,19,9,13,8,7,6]
structure Env(w:World):Prop where
 lt:3<w.heap.size
 cell:∀ j,j<64->w.cell? ⟨3,j,none⟩=some (.int .u8 ((deB.getD j 0:Nat):Int))
theorem Env.next{w w':World}(h:Env w)(hb:Below w.heap.size w w'):Env w':=
 ⟨qM h.lt hb.size,fun j hj=>(hb.cell (p:=⟨3,j,none⟩) h.lt).trans (h.cell j hj)⟩
def ctz(x:Nat):Nat:=((List.range 9).find? fun i=>x.testBit i).getD 0
def tzi(x:Nat):Nat:=(2 ^ ctz x*285870213051353865 % 18446744073709551616) / 288230376151711744
theorem zqB:∀ x:Nat,x<512->0<x->x &&& (18446744073709551616-x)=2 ^ ctz x/\tzi x<64/\deB.getD (tzi x) 0=ctz x/\ctz x<9:=by decide +kernel
theorem zqC(x:Nat)(hx:x<512)(h0:0<x):IntKind.u64.wrap (bits BinOp.and IntKind.u64 (x:Int) (IntKind.u64.wrap (-(x:Int)))*285870213051353865) / 288230376151711744=(tzi x:Int)/\tzi x<64/\deB.getD (tzi x) 0=ctz x/\ctz x<9:=by
 obtain⟨aa,hr⟩:=zqB x hx h0
 refine⟨?_,hr⟩
 have e1:IntKind.u64.wrap (-(x:Int))=((18446744073709551616-x:Nat):Int):=by rw[IntKind.wrap_u64];omega
 rw[e1,bits_and_u64_nat x _ (by omega) (by omega),aa,IntKind.wrap_u64]
 unfold tzi
 generalize 2 ^ ctz x=a
 omega
theorem zmb(x k idx:Nat)(w:World)(ab:((x:Int)==0)=false)
  (key:IntKind.u64.wrap (bits BinOp.and IntKind.u64 (x:Int) (IntKind.u64.wrap (-(x:Int)))*285870213051353865) / 288230376151711744=(idx:Int))
  (hi:idx<64) (hk:k<64) (aa:w.cell? ⟨3,idx,none⟩=some (.int .u8 k)) :
  Calls Tryz.prog 222 #[.int .u64 x] w fun e w'=>e=.returned (.int .i64 k)/\w'=w:=by
 go_enter Tryz.func222,Tryz.ntmps222
 go_wp2_with (simp only[key])
 go_ret
 exact⟨rfl,rfl⟩
theorem znF(x:Nat)(w:World)(h0:0<x)(h1:x<512)(he:Env w):Calls Tryz.prog 222 #[.int .u64 x] w (RetQ (.int .i64 (ctz x)) w):=by
 obtain⟨key,hi,hd,ab⟩:=zqC x h1 h0
 have aa:=he.cell (tzi x) hi
 rw[hd] at aa
 exact(zmb x (ctz x) (tzi x) w (by rw[beq_eq_false_iff_ne];omega) key hi (by omega) aa).mono fun _ _ h=>⟨h.1,h.2.symm⟩
theorem zqD(x:Nat)(w:World)(h0:0<x)(h1:x<512)(he:Env w):Calls Tryz.prog 164 #[.int .u64 x] w (RetQ (.int .i64 (ctz x)) w):=by
 go_enter Tryz.func164,Tryz.ntmps164
 go_wp2_with (go_at_call 222;(with_reducible refine(znF x _ h0 h1 he).mono ?_);rintro e w' ⟨rfl,rfl⟩)
 go_ret
 exact zja rfl
def zbH(x:Nat):List Nat:=(List.range 9).filter fun i=>has x i
theorem znq:∀ x:Nat,x<512->0<x->zbH x=ctz x :: zbH (x &&& (x-1))/\2 ^ ctz x<=x/\x &&& (x-1)<x:=by decide +kernel
theorem zoX:zbH 0=[]:=by decide +kernel
theorem zoZ(x:Nat):(zbH x).length<=9:=Nat.le_trans (List.length_filter_le _ _) (by simp)
theorem zoY{x k:Nat}:k∈zbH x->has x k=true:=fun h=>(List.mem_filter.1 h).2
theorem zn1{x k:Nat}(hx:x<512)(h:has x k=true):k∈zbH x:=by
 refine List.mem_filter.2 ⟨List.mem_range.2 ?_,h⟩
 refine Nat.lt_of_not_le fun hk=>?_
 have:has x k=false:=Nat.testBit_lt_two_pow (qM hx (Nat.pow_le_pow_right (by omega) hk:2 ^ 9<=2 ^ k))
 rw[this] at h;cases h
attribute [local go_sem] Oper.semAt_some
def encB(k:Fin 8):Array Value:=#[.int .i64 (k.val:Nat)]
structure OB(n0:Nat)(W:World):Prop where
 size:n0<=W.heap.size
 one:3<n0
 env:Env W
theorem OB.kp{n0:Nat}{W W':World}(h:OB n0 W)(k:Below n0 W W'):OB n0 W':=
 ⟨Nat.le_trans h.size k.size,h.one,⟨qM h.one (Nat.le_trans h.size k.size),fun j hj=>(k.cell (p:=⟨3,j,none⟩) h.one).trans (h.env.cell j hj)⟩⟩
theorem zku(set:Nat)(w:World):Calls Tryz.prog 98 #[.int .i64 set] w fun e w'=>e=.returned (.func (.func 163) #[] #[.pointer (some ⟨w.heap.size,0,none⟩)])/\w'=w.alloc (.cells #[.int .i64 set] 3):=by
 go_enter Tryz.func98,Tryz.ntmps98
 go_wp2
 go_ret
 exact⟨rfl,rfl⟩
def RB(n0:Nat)(set:Nat)(J:List (Fin 8)->World->Prop)(i:Value)(w:World):Prop:=∃(pre:List (Fin 8)) (x:Nat),i=.int .u64 x/\x<256/\zbH set=pre.map Fin.val++zbH x/\OB n0 w/\J pre w
def oF:Value->Nat
|.int _ n=>n.toNat
|_=>0
theorem zhC(n:Nat)(hn:1<=n)(set n0 bset:Nat)(w:World)(af:set<256)(aA:bset<w.heap.size)(ag:w.cell? ⟨bset,0,none⟩=some (.int .i64 set))(ae:OB n0 w) :
  SeqStopsK Fence.wide n Tryz.prog 163 #[.pointer (some ⟨bset,0,none⟩)] encB (Below n0) (fun xs=>xs.map Fin.val=zbH set) (fun pre=>pre.map Fin.val <+: zbH set) 9 w:=by
 intro l J Jx W hW hJ aB hY h0
 have ah:OB n0 W:=⟨Nat.le_trans ae.size hW.size,ae.one,ae.env.next hW⟩
 have aG:W.cell? ⟨bset,0,none⟩=some (.int .i64 set):=(hW.cell (p:=⟨bset,0,none⟩) aA).trans ag
 have hu:IntKind.u64.wrap (set:Int)=(set:Int):=by rw[IntKind.wrap_u64];omega
 have HY:=qG hY
 have H0:=qG h0
 have HF:=qG ah
 clear ae ag hW hY h0 ah hJ aB
 refine callsIn_of_wp Tryz.func163 rfl trivial ?_ rfl
 simp only[Tryz.ntmps163,List.size_toArray,List.length_cons,List.length_nil,Nat.reduceAdd,Nat.reduceSub,Array.replicate_succ,Array.replicate_zero,List.push_toArray,List.append_toArray,List.nil_append,List.cons_append]
 gi_wp2
 gi_loopw [3] (fun i wr=>RB n0 set J i wr) (fun i _=>oF i)
 case atStart=>exact⟨[],set,rfl,af,rfl,HF.o,H0.o⟩
 case round=>
  obtain⟨pre,x,rfl,hx,aa,hF,ai⟩:=hrel
  by_cases am:x=0
  .subst am
   have e:zbH set=pre.map Fin.val:=by rw[aa,zoX,List.append_nil]
   gi_wp2
   go_end0
   exact⟨⟨_,rfl⟩,.inl ⟨pre,e.symm,ai⟩⟩
  .have an:0<x:=Nat.pos_of_ne_zero am
   have aE:((x:Int) !=0)=true:=by rw[bne_iff_ne];omega
   obtain⟨zab,hle,au⟩:=znq x (by omega) an
   have hk:ctz x<8:=(Nat.pow_lt_pow_iff_right (a:=2) (by omega)).1 (Nat.lt_of_le_of_lt hle (by omega))
   have aw:pre.length<9:=by
    have:=zoZ set
    rw[aa,zab] at this
    simp at this
    omega
   obtain⟨fn,tmps,assign,body,hy,hR⟩:=HY.o pre ⟨ctz x,hk⟩ wr ai aw
   dsimp only[encB] at hy
   have ac:bits .and .u64 (x:Int) ((x:Int)-1)=((x &&& (x-1):Nat):Int):=by
    rw[show((x:Int)-1)=((x-1:Nat):Int) by omega];exact bits_and_u64_nat x _ (by omega) (by omega)
   have ab:zbH set=(pre++[(⟨ctz x,hk⟩:Fin 8)]).map Fin.val++zbH (x &&& (x-1)):=by rw[aa,zab];simp
   have Hb:=qG ab
   have aC:=qG hF
   have aD:=hF.env
   have aj:(pre++[(⟨ctz x,hk⟩:Fin 8)]).map Fin.val <+: zbH set:=⟨_,ab.symm⟩
   have ax:=qG aj
   have HR:=qG hR
   clear aa ab zab hF ai aj hR hle
   have ay:=qG ac
   clear ac
   gi_wp2_with fail
   refine⟨trivial,(callsIn_wide.2 (zqD x _ an (by omega) aD)).mono ?_⟩
   rintro e w' ⟨rfl,rfl⟩
   generalize ctz x=k at *
   gi_wp2_with fail
   refine HR.o.mono ?_
   rintro e W3 (⟨rfl,ao,aq⟩|⟨rfl,az⟩)
   .have ar:=qG (aC.o.kp aq)
    have ak:=qG ao
    have ac:=ay.o
    clear ao aq
    gi_wp2
    have aF:x &&& (x-1)<x:=au
    all_goals (first
    |(refine⟨?_,?_⟩;(exact⟨_,_,rfl,by omega,Hb.o,ar.o,ak.o⟩);(simp[oF];omega))
    |(go_roundw;(case rel=>exact⟨_,_,rfl,by omega,Hb.o,ar.o,ak.o⟩);(case measure=>simp[oF];omega)))
   .gi_wp2
    refine bodyPost_ret (results_none rfl _ _ _) rfl ?_
    exact⟨⟨_,rfl⟩,.inr ⟨_,ax.o,az⟩⟩
end Le
end Go.Proofs.YtankkcbofgighaaGreatDoor
