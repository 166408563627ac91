import Derived.Test.YtankkcbofgighaaGreatDoorL23
import Derived.Deep.Slices
import Derived.Deep.Fields
import Derived.ChangeSame
import Derived.ChangeMaps5
import Derived.OpenShut
import Derived.Carry
import Derived.Test.YtankkcbofgighaaGreatDoorRows
import Derived.ProofKit
import Derived.LaidMore
import Derived.LaidSub
import Derived.Stop.Joined
import Derived.Stop.LaidErr
import Derived.Lib.LaidTab
import Derived.Shelf.Vars
import Derived.PinnedBridge
import Derived.FnData
import Derived.Handed
import Derived.Test.YtankkcbofgighaaGreatDoorCards
import Derived.Test.YtankkcbofgighaaGreatDoorTie
import Derived.SevenTiedAt
set_option linter.all false
set_option maxRecDepth 100000
set_option maxHeartbeats 40000000
namespace Go.Proofs.YtankkcbofgighaaGreatDoor
section
section
open Go.ChangeShapes Go.WideShapes Go.RowKit Go.Deep
open Le (At At.nil)
section
variable {H:Type} {enc:TypeId×Value->H} {w:World}
theorem uInt:Tryz.prog.underlying 3=some (.int .i64):=by kernel_rfl
theorem uU8:Tryz.prog.underlying 5=some (.int .u8):=by kernel_rfl
theorem uStr:Tryz.prog.underlying 9=some .string:=by kernel_rfl
theorem ztq:Tryz.prog.underlying 61=some (.struct (Tryz.prog.fieldsOf 61)):=by kernel_rfl
theorem kInt:Tryz.prog.cellsOf 3=1:=by kernel_rfl
theorem kU8:Tryz.prog.cellsOf 5=1:=by kernel_rfl
theorem zsV:Tryz.prog.cellsOf 61=2:=by kernel_rfl
theorem uDie:Tryz.prog.underlying 24=some (.struct (Tryz.prog.fieldsOf 24)):=by kernel_rfl
theorem ztm:Tryz.prog.underlying 114=some (.struct (Tryz.prog.fieldsOf 114)):=by kernel_rfl
theorem kDie:Tryz.prog.cellsOf 24=4:=by kernel_rfl
theorem zs0:Tryz.prog.cellsOf 114=4:=by kernel_rfl
theorem kStr:Tryz.prog.cellsOf 9=1:=by kernel_rfl
theorem ztk:Tryz.prog.cellsOf 22=1:=by kernel_rfl
theorem ztd:Tryz.prog.underlying 22=some (.slice 114):=by kernel_rfl
theorem zta:Tryz.prog.underlying 30=some (.slice 9):=by kernel_rfl
abbrev Rd(enc:TypeId×Value->H)(w:World)(n:Nat)(t:TypeId)(cs:List Value):Prop:=∃ y,DataW.trod enc Tryz.prog w 0 (fun _=>true) true n t cs=some y
theorem zrR{n:Nat}{cs:List Value}(h:Rd enc w n 3 cs):∃ k,cs=[.int .i64 k]:=by
 obtain⟨y,hy⟩:=h
 obtain⟨k,e,-⟩:=DataW.trod_int uInt hy
 exact⟨k,e⟩
theorem zrS{t:TypeId}{n:Nat}{cs:List Value}(hs:Tryz.prog.underlying t=some (.struct (Tryz.prog.fieldsOf t)))(h:Rd enc w n t cs) :
  cs.length=Tryz.prog.cellsOf t/\∃ m,∀(i o ty:Nat),((Tryz.prog.fieldsOf t)[i]?).map (fun f=>(f.offset,f.type))=some (o,ty)->Rd enc w m ty ((cs.drop o).take (Tryz.prog.cellsOf ty)):=by
 obtain⟨y,hy⟩:=h
 obtain⟨xs,m,_,_,hl,hx,hf⟩:=DataW.trod_struct hs hy
 refine⟨hl,m,fun i o ty hi=>?_⟩
 obtain⟨f,aa,ab⟩:=Option.map_eq_some_iff.1 hi
 injection ab with e1 e2
 subst e1 e2
 have:=hf i f aa
 have hlt:i<xs.length:=by rw[hx];exact(qB.1 aa).1
 rw[qN hlt] at this
 exact⟨_,this⟩
theorem zsF{n:Nat}{cs:List Value}(h:Rd enc w n 61 cs):∃ a b:Int,cs=[.int .i64 a,.int .i64 b]:=by
 obtain⟨hl,m,hf⟩:=zrS ztq h
 rw[zsV] at hl
 match cs,hl with
|[a,b],_=>
  obtain⟨k1,e1⟩:=zrR (by have:=hf 0 0 3 (by kernel_rfl);rw[kInt] at this;exact this:Rd enc w m 3 [a])
  obtain⟨k2,e2⟩:=zrR (by have:=hf 1 1 3 (by kernel_rfl);rw[kInt] at this;exact this:Rd enc w m 3 [b])
  injection e1 with e1
  injection e2 with e2
  subst e1 e2
  exact⟨k1,k2,rfl⟩
theorem zs6{n:Nat}{cs:List Value}(h:Rd enc w n 114 cs):∃ x:Ru.Blade,cs=x.cells:=by
 obtain⟨hl,m,hf⟩:=zrS ztm h
 rw[zs0] at hl
 match cs,hl with
|[a0,a1,a2,a3],_=>
  obtain⟨x0,x1,e1⟩:=zsF (by have:=hf 0 0 61 (by kernel_rfl);rw[zsV] at this;exact this:Rd enc w m 61 [a0,a1])
  obtain⟨x2,x3,e2⟩:=zsF (by have:=hf 1 2 61 (by kernel_rfl);rw[zsV] at this;exact this:Rd enc w m 61 [a2,a3])
  simp only[List.cons.injEq,and_true] at e1 e2
  obtain⟨e1,e1'⟩:=e1
  obtain⟨e2,e2'⟩:=e2
  subst e1 e1' e2 e2'
  exact⟨⟨x0,x1,x2,x3⟩,rfl⟩
theorem zsL{a:Addr}(h:a.spot=none)(n:Nat):a.add n=⟨a.block,a.off+n,none⟩:=by
 unfold Addr.add
 split
 .rename_i e;subst e;cases a;simp only at h;subst h;rfl
 .rfl
theorem zoU{W:World}{a:Addr}{v:Value}(h:W.cell? a=some v):a.spot=none/\a.block<W.heap.size:=by
 unfold World.cell? at h
 split at h
 .rename_i ho
  refine⟨?_,(qB.1 ho).1⟩
  split at h
  .cases h
  .rename_i hs;simpa using hs
 .cases h
theorem zsP{α:Type}(n:Nat){Q:Nat->α->Prop}(h:∀ i,i<n->∃ a,Q i a):∃ l:List α,l.length=n/\∀ i a,l[i]?=some a->Q i a:=by
 induction n with
|zero=>exact⟨[],rfl,fun i a h=>by simp at h⟩
|succ n ih=>
  obtain⟨l,hl,hq⟩:=ih (fun i hi=>h i (by omega))
  obtain⟨a,ha⟩:=h n (by omega)
  refine⟨l++[a],by simp[hl],fun i b hb=>?_⟩
  by_cases hi:i<l.length
  .rw[List.getElem?_append_left hi] at hb;exact hq i b hb
  .rw[List.getElem?_append_right (by omega)] at hb
   have:i-l.length=0:=by
    have:=(qO.1 hb).1
    simp at this;omega
   rw[this] at hb
   simp at hb
   subst hb
   rw[show i=n by omega]
   exact ha
theorem zsG{α:Type}{size:Nat}{cells:α->List Value}{Good:α->Prop}{t e:TypeId}{n:Nat}{cs:List Value}(ht:Tryz.prog.underlying t=some (.slice e))(hC:Tryz.prog.cellsOf e=size)(aa:0<size)
  (ag:∀ m cs',Rd enc w m e cs'->∃ a:α,cs'=cells a/\Good a) (h:Rd enc w n t cs) :
  ∃(A:Option Addr) (c:Nat) (l:List α),cs=[.slice A l.length c]/\At w w.heap.size size cells A l/\l.length<=9223372036854775807/\(∀ a∈l,Good a)/\l.length<=c:=by
 obtain⟨y,hy⟩:=h
 rcases open_slice ht hy with ⟨rfl,-⟩|⟨a,len,cap,m,n',D,Pl,rfl,hb,hl,hm,ah,-,hi⟩
 .exact⟨none,0,[],rfl,At.nil,by simp,(fun a h=>by simp at h),by simp⟩
 .have aq:len<=m:=by simp at ah;omega
  obtain⟨l,ai,hq⟩:=zsP (α:=α) len (Q:=fun i x=>w.cells? 0 (a.add (i*size)) size=some (cells x)/\Good x) (fun i ac=>by
   obtain⟨cs',h1,h2⟩:=hi i (by omega)
   rw[hC] at h1
   obtain⟨x,rfl,hg⟩:=ag _ _ ⟨_,h2⟩
   exact⟨x,h1,hg⟩)
  refine⟨some a,cap,l,by rw[ai],fun k x hk=>?_,by unfold maxLen at hm;omega,fun x hx=>?_,by omega⟩
  .obtain⟨h1,-⟩:=hq k x hk
   obtain⟨-,ar,ae⟩:=World.cells?_some h1
   have aj:=ae 0 aa
   have hv:(cells x)[0]?=some ((cells x)[0]'(by omega)):=qN (by omega)
   rw[hv] at aj
   have ak:0<l.length:=by have:=(qO.1 hk).1;omega
   obtain⟨h0,-⟩:=hq 0 l[0] (qN ak)
   obtain⟨-,ao,af⟩:=World.cells?_some h0
   have ab:=af 0 aa
   have am:(cells l[0])[0]?=some ((cells l[0])[0]'(by omega)):=qN (by omega)
   rw[am,Nat.zero_mul] at ab
   have hz:a.add 0=a:=by unfold Addr.add;simp
   rw[hz,hz] at ab
   obtain⟨hs,an⟩:=zoU ab
   refine⟨a.block,a.off,by cases a;simp only at hs;subst hs;rfl,an,fun j u hu=>?_⟩
   have hj:j<size:=by have:=(qO.1 hu).1;omega
   have:=ae j hj
   rw[zsL hs,zsL (a:=⟨a.block,a.off+k*size,none⟩) rfl] at this
   exact this.trans hu
  .obtain⟨i,ac,rfl⟩:=List.mem_iff_getElem.1 hx
   exact(hq i _ (qN ac)).2
theorem zto{b:Nat}{v:Value}{d:DataW H}{ps:List MemPlace}(hv:Value.okWide Tryz.prog w .any b 24 v)(h:DataW.Trod enc Tryz.prog w 0 (fun _=>true) true 24 v d ps):∃ s:Ru.Die,v=.agg #[.slice s.A s.blades.length s.c,.int .i64 s.bound,.int .i64 s.stop,.int .i64 s.bend]/\Ru.DieAt w w.heap.size s:=by
 obtain⟨⟨cs⟩,rfl,aa⟩:=okWide_struct uDie hv
 rw[kDie] at aa
 obtain⟨fuel,hf⟩:=h
 match cs,aa with
|[c0,c1,c2,c3],_=>
  obtain⟨-,m,hf⟩:=zrS uDie (⟨_,hf⟩:Rd enc w fuel 24 [c0,c1,c2,c3])
  obtain⟨A1,q1,l1,e1,h1,b1,-⟩:=zsG (α:=Ru.Blade) (size:=4) (cells:=Ru.Blade.cells) (Good:=fun _=>True) ztd zs0 (by omega) (fun m cs' h'=>by obtain⟨k,e⟩:=zs6 h';exact⟨k,e,trivial⟩) (by have:=hf 0 0 22 (by kernel_rfl);rw[ztk] at this;exact this:Rd enc w m 22 [c0])
  obtain⟨k2,e2⟩:=zrR (by have:=hf 1 1 3 (by kernel_rfl);rw[kInt] at this;exact this:Rd enc w m 3 [c1])
  obtain⟨k3,e3⟩:=zrR (by have:=hf 2 2 3 (by kernel_rfl);rw[kInt] at this;exact this:Rd enc w m 3 [c2])
  obtain⟨k4,e4⟩:=zrR (by have:=hf 3 3 3 (by kernel_rfl);rw[kInt] at this;exact this:Rd enc w m 3 [c3])
  injection e1 with e1
  injection e2 with e2
  injection e3 with e3
  injection e4 with e4
  subst e1 e2 e3 e4
  exact⟨⟨l1,k2,k3,k4,A1,q1⟩,rfl,h1,b1⟩
theorem zth{n:Nat}{cs:List Value}(h:Rd enc w n 9 cs):∃ t:Tx,cs=zfl t/\t.length<=9223372036854775807:=by
 obtain⟨y,hy⟩:=h
 obtain⟨s,e,-,hs⟩:=DataW.trod_string uStr hy
 refine⟨s.data.toList,e,?_⟩
 have:s.data.toList.length=s.size:=rfl
 rw[this]
 unfold maxLen at hs
 omega
theorem ztg{b:Nat}{v:Value}{d:DataW H}{ps:List MemPlace}(hv:Value.okWide Tryz.prog w .any b 30 v)(h:DataW.Trod enc Tryz.prog w 0 (fun _=>true) true 30 v d ps):∃(A:Option Addr) (c:Nat) (l:List Tx),v=.slice A l.length c/\At w w.heap.size 1 zfl A l/\l.length<=9223372036854775807/\(∀ t∈l,t.length<=9223372036854775807)/\l.length<=c:=by
 obtain⟨A,len,cap,rfl⟩:=okWide_slice zta hv
 obtain⟨fuel,hf⟩:=h
 obtain⟨A',c',l,e,h1,h2,h4,h3⟩:=zsG (α:=Tx) (size:=1) (cells:=zfl) (Good:=fun t=>t.length<=9223372036854775807) zta kStr (by omega) (fun m cs' h'=>by obtain⟨k,e,g⟩:=zth h';exact⟨k,e,g⟩) (⟨_,hf⟩:Rd enc w fuel 30 [.slice A len cap])
 simp only[List.cons.injEq,and_true,Value.slice.injEq] at e
 obtain⟨rfl,rfl,rfl⟩:=e
 exact⟨A,cap,l,rfl,h1,h2,h4,h3⟩
end
end
section
open Go.ChangeShapes Go.WideShapes Go.ChangeAt Go.RowKit
theorem own:ownKnob Tryz.prog.godebug=none:=by kernel_rfl
def zdJ:List (String×DataW Unit):=[("math/bits.deBruijn32tab",Rows.laid_math_bits_deBruijn32tab),("math/bits.deBruijn64tab",Rows.laid_math_bits_deBruijn64tab),("internal/strconv.uint64pow10",Rows.laid_internal_strconv_uint64pow10),("unicode/utf8.acceptRanges",Rows.laid_unicode_utf8_acceptRanges),("unicode/utf8.first",Rows.laid_unicode_utf8_first)]
theorem gPow:Tryz.prog.globalNamed "internal/strconv.uint64pow10" =some 1:=by kernel_rfl
theorem tPow:(Tryz.prog.globals[1]?).map (·.type)=some 350:=by kernel_rfl
theorem uPow:Tryz.prog.underlying 350=some (.array 20 297):=by kernel_rfl
theorem uU64:Tryz.prog.underlying 297=some (.int .u64):=by kernel_rfl
theorem kU64:Tryz.prog.cellsOf 297=1:=by kernel_rfl
theorem kPow:Tryz.prog.cellsOf 350=20:=by kernel_rfl
theorem zoj:(Rows.laid_internal_strconv_uint64pow10:DataW Unit)=Lib.tabData .u64 Lib.pow10Tab:=by kernel_rfl
theorem zjn{W:World}(h:laidMetH Tryz.prog zdJ W)(n:String)(d:DataW Unit)(hf:zdJ.filter (fun x=>x.1==n)=[(n,d)])(hd:d.handleName?.isNone=true):laidMet Tryz.prog [(n,d)] W:=by
 have:=h.filter (fun x=>x.1==n)
 rw[hf,MakeChecks.laidMetH_plain _ _ _ (by simp[hd])] at this
 exact this
theorem gTab:Tryz.prog.globalNamed "math/bits.deBruijn64tab" =some 3:=by kernel_rfl
theorem tTab:(Tryz.prog.globals[3]?).map (·.type)=some 354:=by kernel_rfl
theorem u132:Tryz.prog.underlying 354=some (.array 64 5):=by kernel_rfl
theorem zok:(Rows.laid_math_bits_deBruijn64tab:DataW Unit)=.agg (Le.deB.map fun n=>.lit (.int .u8 (n:Nat))):=rfl
theorem zkA{W:World}(h:laidMetH Tryz.prog zdJ W):Le.Env W:=by
 have h:=zjn h "math/bits.deBruijn64tab" Rows.laid_math_bits_deBruijn64tab (by kernel_rfl) (by kernel_rfl)
 obtain⟨ps,⟨g1,t1,cs1,f1,p1,q1,af,ag,ah,ai,_,_⟩,_⟩:=h
 obtain rfl:=Option.some.inj (gTab.symm.trans af)
 obtain rfl:=Option.some.inj (tTab.symm.trans ag)
 obtain⟨xs,m1,rfl,ac,ak,hn,aj⟩:=DataW.trod_array u132 ai
 simp only[Prod.mk.injEq] at ac
 have aa:=ac.1
 rw[zok] at aa
 injection aa with aa
 have ab:∀ j,j<64->W.cell? ⟨3,j,none⟩=some (.int .u8 ((Le.deB.getD j 0:Nat):Int)):=by
  intro j hj
  have ae:xs[j]?=some (xs[j]'(by omega)):=qN (by omega)
  have h1:=aj j hj
  rw[kU8,ae,Nat.mul_one] at h1
  obtain⟨k,e1,e2,_⟩:=DataW.trod_int uU8 h1
  have e3:(xs.map (·.1))[j]?=some (.lit (.int .u8 k)):=by rw[List.getElem?_map,ae,e2];rfl
  rw[<- aa] at e3
  have hd:Le.deB[j]?=some (Le.deB.getD j 0):=by
   have hl:j<Le.deB.length:=hj
   rw[qP,qN hl];rfl
  rw[List.getElem?_map,hd] at e3
  simp only[Option.map_some,Option.some.injEq,DataW.lit.injEq,Lit.int.injEq,true_and] at e3
  rw[World.var?_cell gTab ah j,<- Array.getElem?_toList]
  have h2:(cs1.toList.drop j)[0]?=some (.int .u8 k):=by
   have:=congrArg (·[0]?) e1
   simpa [List.getElem?_take] using this
  rw[List.getElem?_drop,Nat.add_zero] at h2
  rw[h2,<- e3]
 refine⟨?_,ab⟩
 exact(zoU (ab 0 (by omega))).2
theorem zkz{W:World}(h:laidMetH Tryz.prog zdJ W)(hs:W.ShapedOpen Tryz.prog):Env W:=by
 refine⟨?_,?_,?_,zkA h⟩
 .obtain⟨o,-,hh,-,-⟩:=hs.2 6 (of_decide_eq_true (by kernel_rfl)) (of_decide_eq_true (by kernel_rfl))
  have:=(qB.1 hh).1
  omega
 .exact cell_of_shapedOpen_int (g:=0) (t:=3) (zero:=#[.int .i64 0]) hs (of_decide_eq_true (by kernel_rfl)) (by kernel_rfl) rfl (by kernel_rfl) (by kernel_rfl) (by kernel_rfl)
 .have:=zjn h "internal/strconv.uint64pow10" Rows.laid_internal_strconv_uint64pow10 (by kernel_rfl) (by kernel_rfl)
  rw[zoj] at this
  exact Lib.tabIs_of_head gPow tPow uPow uU64 kU64 kPow this
noncomputable def zpq(os:Os):World:=
 let w0:=World.doorLaid Tryz.prog 2000 os
 { w0 with heap:=w0.heap.modify ((Tryz.prog.globalNamed "unicode/utf8.first").getD 0) fun
 |.cells _ t frozen=>.cells (Lib.firstTab.map fun z=>Value.int .u8 z).toArray t frozen
 |o=>o }
theorem zoP(os:Os)(args:Array Value):laidMetH Tryz.prog zdJ ((zpq os).forCall (fun _ _=>0) ⟨#[],args,[]⟩).memory:=
 laidMetH_of_parts3 (fuel:=8) (laidMet_of_run' 8 (by kernel_rfl) (by kernel_rfl)) (by kernel_rfl) (by kernel_rfl)
end
section
open Go.ChangeShapes Go.WideShapes Go.ChangeAt Go.RowKit
theorem zp8:laidOutB Tryz.prog=true:=by kernel_rfl
theorem u4:Tryz.prog.underlying 4=some .bool:=by kernel_rfl
section
variable {H:Type} {enc:TypeId×Value->H} {P:Program}
theorem ziv{f:Func}{s:ChangeSpec}{apart fresh ae again:Bool}{W W':World}{args:Array Value}{v:Value}{ds gs:List (DataW H)}{before pa pv:List MemPlace}
  (hW:DataW.Whole enc P f.params.toList s.vars apart W args.toList ds gs before)
  (af:∀(b:Nat) (sp:Nat->Bool) (hd:Bool),DataW.TrodAll enc P W' b sp hd f.resultTypes.toList (v.resultList f.resultTypes.size) (s.fn H (ds++gs)).results [])
  (aa:∀ sp:Nat->Bool,(∀ p∈before,sp p.block=true)->DataW.TrodAll enc P W' 0 sp true f.params.toList args.toList (s.fn H (ds++gs)).args pa)
  (ab:∀ sp:Nat->Bool,(∀ p∈before,sp p.block=true)->DataW.TrodVars enc P W' sp s.vars (s.fn H (ds++gs)).vars pv)
  (ac:before=pa++pv) (hb:Below W.heap.size W W')
  (ai:∀(j:Nat) (t:TypeId) (r:Value),f.resultTypes[j]?=some t->(v.resultList f.resultTypes.size)[j]?=some r->Value.okWide P W' .any 0 t r) :
  s.post enc P f apart fresh ae again W args v W':=by
 have hlt:∀ p∈before,p.block<W.heap.size:=fun p hp=>hW.lt p hp
 have ag:∀ p∈before,(fun b=>decide (b<W.heap.size)) p.block=true:=fun p hp=>by simpa using hlt p hp
 refine⟨ds,gs,before,[],pa,pv,hW,af _ _ _,aa _ ag,ab _ ag,World.keptBut_mono (fun p hp=>⟨hp,?_⟩) (hb.frame (·∈before)),fun _=>?_⟩
 .rw[ac,List.mem_append] at hp
  exact Or.inr hp
 .obtain⟨_,_,_,_,_,hz,hn⟩:=hW
  refine⟨ai,_,_,([]++pa)++pv,⟨[]++pa,pv,trodAll_append (aa _ (fun _ _=>rfl)) (af _ _ _),ab _ (fun _ _=>rfl),rfl,?_,?_⟩,?_⟩
  .intro b off hp
   have ah:MemPlace.cell b off∈before:=by rw[ac];simpa using hp
   rw[hb.frozen (hlt _ ah)]
   exact hz b off ah
  .intro ha
   have:=hn ha
   rw[ac] at this
   simpa using this
  .intro p hp _
   rw[ac]
   simpa using hp
theorem zeE(hl:laidOutB P=true){W W':World}(hb:Below W.heap.size W W'){sp:Nat->Bool}:∀{ts:List TypeId} {vs:List Value} {ds:List (DataW H)} {ps:List MemPlace},
  (∀ t∈ts,P.readableRec t=true/\t<P.types.size)->DataW.TrodAll enc P W 0 (fun _=>true) true ts vs ds ps->(∀ x∈ps,x.block<W.heap.size)->(∀ x∈ps,sp x.block=true)->DataW.TrodAll enc P W' 0 sp true ts vs ds ps
|[],[],[],_,_,h,_,_=>h
|[],_ :: _,_,_,_,h,_,_=>h.elim
|[],[],_ :: _,_,_,h,_,_=>h.elim
|_ :: _,[],_,_,_,h,_,_=>h.elim
|_ :: _,_ :: _,[],_,_,h,_,_=>h.elim
|t :: ts,v :: vs,d :: ds,ps,hr,h,hlt,hsp=>by
  obtain⟨p,q,h1,h2,rfl⟩:=h
  obtain⟨r1,r2⟩:=hr t (qE ..)
  exact⟨p,q,WideElems.Trod_stays hl r1 r2 h1 (fun x hx=>hb.same (hlt x (List.mem_append_left _ hx))) (fun x hx=>hsp x (List.mem_append_left _ hx)),
   zeE hl hb (fun t ht=>hr t (List.mem_cons_of_mem _ ht)) h2 (fun x hx=>hlt x (List.mem_append_right _ hx)) (fun x hx=>hsp x (List.mem_append_right _ hx)),rfl⟩
end
section
variable {H:Type} {enc:TypeId×Value->H}
theorem zhv{a:Assume}{C:Checked}{os:Os}{f:FuncId}{fn:Func}{s:ChangeSpec}{conds:List PathCond}{apart fresh aa again:Bool}{X:World->Array Value->Prop}
  (hX:∀(w w':World) (args:Array Value),w.heap=w'.heap->X w args->X w' args)
  (own:ownKnob C.prog.godebug=none) (started:os.Started) (noInit:C.prog.inits.idxOf? f=none) (af:C.prog.funcs[f]?=some fn)
  (witness:∃(w:World) (tape:Tape) (i:Input),w.os=os/\(w.forCall tape i).Shaped C.prog/\i.vars=[]/\Input.okWide C.prog (w.forCall tape i) .any w.heap.size f i/\
   ((s.pre enc C.prog fn conds apart (w.forCall tape i).memory i.args/\X (w.forCall tape i).memory i.args)/\sizedMet enc C.prog fn (OpenSpec.ofChange s) apart (w.forCall tape i).memory i.args)/\a.holds C.prog (lone (Frame.enter C.prog f i.args .normal) [] (w.forCall tape i)))
  (contract:∀(W:World) (base:Nat) (args:Array Value) (ds gs:List (DataW H)) (before:List MemPlace),
   (∀(j:Nat) t v,fn.params[j]?=some t->args[j]?=some v->Value.okWide C.prog W .any base t v)->
   DataW.Whole enc C.prog fn.params.toList s.vars apart W args.toList ds gs before->X W args->W.ShapedOpen C.prog->
   Calls C.prog f args W fun e W'=>∃ v,e=.returned v/\s.post enc C.prog fn apart fresh aa again W args v W') :
  ReturnsInHanded a C os f .any (fun w args=>(s.pre enc C.prog fn conds apart w args/\X w args)/\sizedMet enc C.prog fn (OpenSpec.ofChange s) apart w args) (s.post enc C.prog fn apart fresh aa again):=by
 refine returnsInHanded_of_calls own started noInit witness ?_
 intro w tape i _ ag _ ah ab ai
 obtain⟨_,_,_,fn',ac,_,_,_,_,ae⟩:=ah
 have e:fn'=fn:=Option.some.inj (ac.symm.trans af)
 subst e
 obtain⟨⟨⟨ds,gs,before,hw,hc⟩,hx⟩,hz⟩:=ab
 have aj:=DataW.Whole.of_heap (w':=w.forCall tape i) (by rfl) hw
 refine(contract (w.forCall tape i) w.heap.size i.args ds gs before ae aj (hX _ _ _ (by rfl) hx) ag).mono fun e W' ⟨v,he,hp⟩=>?_
 subst he
 exact ChangeSpec.post_blind hp
end
theorem zoi{H:Type}{enc:TypeId×Value->H}{f:Func}{s:ChangeSpec}{W W':World}{args:Array Value}{ds:List (DataW H)}{before:List MemPlace}
  (hv:s.vars=[]) (aa:f.resultTypes=#[4]) (ab:(s.fn H ds).results=[.lit (.bool true)]/\(s.fn H ds).args=ds) (ac:(s.fn H ds).vars=[])
  (hp:(f.params.all fun t=>Tryz.prog.readableRec t&&decide (t<Tryz.prog.types.size))=true)
  (hW:DataW.Whole enc Tryz.prog f.params.toList s.vars false W args.toList ds [] before) (hA:DataW.TrodAll enc Tryz.prog W 0 (fun _=>true) true f.params.toList args.toList ds before) (hb:Below W.heap.size W W') :
  s.post enc Tryz.prog f false true false false W args (.bool true) W':=by
 have hlt:∀ p∈before,p.block<W.heap.size:=fun p hp=>hW.lt p hp
 refine ziv (pa:=before) (pv:=[]) hW (fun _ _ _=>?_) (fun sp hsp=>?_) (fun _ _=>?_) (by simp) hb ?_
 .rw[List.append_nil,ab.1,aa]
  exact trodAll_mk1 (shut_bool u4 _)
 .rw[List.append_nil,ab.2]
  refine zeE zp8 hb (fun t ht=>?_) hA hlt hsp
  have:=Array.all_eq_true'.1 hp t (by simpa using ht)
  simpa using this
 .rw[List.append_nil,ac,hv];rfl
 .rw[aa]
  intro j t r hj hr
  match j,hj,hr with
 |0,hj,hr=>
   simp[Value.resultList] at hj hr
   subst hj;subst hr
   exact okWide_bool_mk u4 _
end
end
end Go.Proofs.YtankkcbofgighaaGreatDoor
