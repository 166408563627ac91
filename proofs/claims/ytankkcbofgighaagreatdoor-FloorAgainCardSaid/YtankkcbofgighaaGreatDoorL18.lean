import Derived.Test.YtankkcbofgighaaGreatDoorL8
import Derived.Test.YtankkcbofgighaaGreatDoorL9
import Derived.Test.YtankkcbofgighaaGreatDoorL16
import Derived.Test.YtankkcbofgighaaGreatDoorL17
import Derived.Lib.AppendIntMem
import Derived.PinnedBridge
import Derived.Laws.IdiomStrings
import Derived.Deep.DeepCutAuto
import Derived.RangeFuncBound
import Derived.RangeFuncCalls
import Derived.OwnWalkIn
import Derived.TacticsInMore
import Derived.LoopNIn
import Derived.LoopIn
import Derived.BigRegion
import Derived.Deep.MidRow
import Derived.Laws.IdiomCopy
import Derived.Laws.MakeOwn
set_option linter.all false
set_option maxRecDepth 100000
set_option maxHeartbeats 40000000
namespace Go.Proofs.YtankkcbofgighaaGreatDoor
section
open Go.RowKit
open Le (At Bx setCells zad nxA Ret RetQ za5 zbE zja zbM)
structure Env(w:World):Prop where
 sz:6<=w.heap.size
 mx:∃ m,w.cell? ⟨0,0,none⟩=some (.int .i64 m)
 tab:Lib.TabIs Tryz.prog w "internal/strconv.uint64pow10" .u64 Lib.pow10Tab
 deb:Le.Env w
theorem zov:∃ g,Tryz.prog.globalNamed "internal/strconv.uint64pow10" =some g/\g<6:=⟨1,by kernel_rfl,by decide⟩
theorem Env.below{w w':World}{B:Nat}(h:Env w)(hB:6<=B)(hb:Below B w w'):Env w':=by
 have h6:=h.sz
 obtain⟨m,hm⟩:=h.mx
 obtain⟨g,hg,aa⟩:=zov
 refine⟨Nat.le_trans h6 hb.size,⟨m,(hb.cell (p:=⟨0,0,none⟩) (by show 0<_;omega)).trans hm⟩,?_,⟨qM h.deb.lt hb.size,fun j hj=>(hb.cell (p:=⟨3,j,none⟩) (by show 3<_;omega)).trans (h.deb.cell j hj)⟩⟩
 have ht:=h.tab
 unfold Lib.TabIs World.var? at ht ⊢
 rw[hg] at ht ⊢
 simp only[Option.bind_some] at ht ⊢
 rw[hb.block g (by omega)]
 exact ht
theorem Env.next{w w':World}(h:Env w)(hb:Below w.heap.size w w'):Env w':=h.below h.sz hb
theorem Env.keep{O:Nat->Prop}{w w':World}(h:Env w)(k:Keep O w w')(hO:∀ b,O b->6<=b):Env w':=
 h.below (qQ 6) ⟨k.os,k.tape,k.output,k.size,fun b hb=>k.block b (qM hb h.sz) (fun ho=>by have:=hO b ho;omega)⟩
abbrev tx(s:Tx):Value:=.string ⟨s.toArray⟩
theorem zat(e:Int)(w:World):Calls Tryz.prog 66 #[.bool true,.int .i64 e] w (RetQ (.tuple #[]) w):=by
 go_enter Tryz.func66,Tryz.ntmps66
 go_wp2
 go_end0
 exact⟨rfl,rfl⟩
def Miss(e:Int)(w:World)(en:Ending)(w':World):Prop:=en=.panicked (zaF e)/\w=w'
theorem zak(e:Int)(w:World):Calls Tryz.prog 66 #[.bool false,.int .i64 e] w (Miss e w):=by
 go_enter Tryz.func66,Tryz.ntmps66
 go_wp2
 exact⟨rfl,rfl,rfl⟩
theorem zam(n low high:Int)(w:World):Calls Tryz.prog 58 #[.int .i64 n,.int .i64 low,.int .i64 high] w (RetQ (.bool (decide (low<=n/\n<=high))) w):=by
 go_enter Tryz.func58,Tryz.ntmps58
 by_cases h1:low<=n <;> by_cases h2:n<=high
 all_goals go_wp2
 all_goals go_ret
 all_goals exact zbM (by simp[h1,h2])
theorem zlU(w:World):Calls Tryz.prog 240 #[.int .i64 0] w (RetQ (.tuple #[]) w):=by
 go_enter Tryz.func240,Tryz.ntmps240
 go_wp2_with (go_at_call 66;refine(zat 0 w).mono ?_;rintro e w' ⟨rfl,rfl⟩)
 go_end0
 exact⟨rfl,rfl⟩
theorem zkC(e:Int)(h:e≠0)(w:World):Calls Tryz.prog 240 #[.int .i64 e] w (Miss e w):=by
 have hq:(e==0)=false:=by simp[h]
 go_enter Tryz.func240,Tryz.ntmps240
 go_wp2_with (go_at_call 66;refine(zak e w).mono ?_;rintro e w' ⟨rfl,rfl⟩)
 exact⟨rfl,rfl,rfl⟩
end
section
open Go.RowKit
open Le (At Bx setCells zad nxA Ret RetQ za5 zbE)
def zq9(t:Tx)(w:World)(e:Ending)(w':World):Prop:=Below w.heap.size w w'/\match figS t with
|some n=>e=.returned (.int .i64 n)
|none=>e=.panicked (zaF 8)
def zdh(t:Tx):Bool:=decide (t≠[])&&(decide (t.length<=13)&&(decide (t=[48])||decide (t.head?≠some 48)))
theorem zqZ{t:Tx}(h:zdh t=true):figS t=if t.all Bo.digB=true then some ((Bo.zb8 0 t:Nat):Int) else none:=by
 unfold zdh at h
 simp only[Bool.and_eq_true,Bool.or_eq_true,qC] at h
 obtain⟨h1,h2,h3⟩:=h
 unfold figS
 cases e:t.all Bo.digB
 .rw[if_pos (.inr (.inr (.inr rfl)))];rfl
 .rw[if_neg,if_pos rfl]
  rintro(h|h|⟨h,h'⟩|h)
  .exact h1 h
  .omega
  .rcases h3 with h3|h3
   .exact h h3
   .exact h3 h'
  .cases h
theorem zjZ{t:Tx}(h:zdh t=false):figS t=none:=by
 unfold zdh at h
 unfold figS
 rw[if_pos]
 by_cases h1:t=[]
 .exact .inl h1
 .by_cases h2:13<t.length
  .exact .inr (.inl h2)
  .right;right;left
   have h3:decide (t.length<=13)=true:=by simp;omega
   simp only[ne_eq,h1,not_false_eq_true,decide_true,Bool.true_and,h3,Bool.or_eq_false_iff,decide_eq_false_iff_not,Decidable.not_not] at h
   exact h
def FigR(t:Tx)(V:World)(i n:Value)(w:World):Prop:=∃ k:Nat,k<=t.length/\i=.int .i64 k/\n=.int .i64 (Bo.zb8 0 (t.take k):Nat)/\w=V/\(t.take k).all Bo.digB=true
theorem zq5{c:UInt8}(h:Bo.digB c=true):Bo.zlL c:=by
 unfold Bo.digB at h
 rw[Bool.and_eq_true,qC,qC] at h
 exact h
theorem zel(b:Bool)(e:Int)(w:World):Calls Tryz.prog 66 #[.bool b,.int .i64 e] w fun en w'=>w=w'/\((b=true/\en=.returned (.tuple #[]))\/(b=false/\en=.panicked (zaF e))):=by
 cases b
 .exact(zak e w).mono fun _ _ h=>⟨h.2,.inr ⟨rfl,h.1⟩⟩
 .exact(zat e w).mono fun _ _ h=>⟨h.2,.inl ⟨rfl,h.1⟩⟩
theorem zoE{c:UInt8}{l:List UInt8}(h:(l.length:Int)+1<=13):zdh (c :: l)=((c==48&&l.isEmpty)||(((⟨(c :: l).toArray⟩:ByteArray)[0]'(by show 0<(c :: l).toArray.size;simp)).toNat:Int) !=48):=by
 have h1:((⟨(c :: l).toArray⟩:ByteArray)[0]'(by show 0<(c :: l).toArray.size;simp))=c:=rfl
 rw[h1]
 unfold zdh
 have h2:decide ((c :: l).length<=13)=true:=by simp;omega
 rw[h2]
 cases l with
|nil=>by_cases hc:c=48
      .subst hc;rfl
      .have:((c.toNat:Int) !=48)=true:=by
        rw[bne_iff_ne];intro e;apply hc;apply UInt8.toNat_inj.1;show c.toNat=48;omega
       rw[this];simp[hc]
|cons d l=>
  by_cases hc:c=48
  .subst hc;rfl
  .have:((c.toNat:Int) !=48)=true:=by
    rw[bne_iff_ne];intro e;apply hc;apply UInt8.toNat_inj.1;show c.toNat=48;omega
   rw[this];simp[hc]
theorem zg5(t:Tx)(w:World)(hl:t.length<=1000):Calls Tryz.prog 67 #[tx t] w (zq9 t w):=by
 go_enter Tryz.func67,Tryz.ntmps67
 go_upto_region 1 with fail
 go_cut [2] (fun s wx=>s=.int .i64 0/\wx=w/\zdh t=true)
 case first=>
  cases t with
 |nil=>
   go_wp2_with fail
   refine(zak 8 w).mono ?_
   rintro e w' ⟨rfl,rfl⟩
   exact⟨rfl,Below.refl _ _,by rw[zjZ (t:=[]) rfl]⟩
 |cons c l=>
   go_wp2_with fail
   .have h1:(l.length:Int)+1<=13:=by assumption
    rw[<- zoE h1]
    refine(zel _ 8 w).mono ?_
    rintro e w' ⟨rfl,⟨h3,rfl⟩|⟨h3,rfl⟩⟩
    .go_wp2_with fail
     go_meet
     exact⟨rfl,rfl,h3⟩
    .exact⟨rfl,Below.refl _ _,by rw[zjZ h3]⟩
   .have h3:c=48/\l=[]:=by assumption
    obtain⟨rfl,rfl⟩:=h3
    refine(zat 8 w).mono ?_
    rintro e w' ⟨rfl,rfl⟩
    go_wp2_with fail
    go_meet
    exact⟨rfl,rfl,rfl⟩
   .have h3:¬(c=48/\l=[]):=by assumption
    have h2:¬(¬ c=48\/¬ l=[]):=by assumption
    exact absurd (by simpa using h2) h3
   .have h1:13<(l.length:Int)+1:=by assumption
    refine(zak 8 w).mono ?_
    rintro e w' ⟨rfl,rfl⟩
    refine⟨rfl,Below.refl _ _,?_⟩
    rw[zjZ (by unfold zdh;rw[(by simp;omega:decide ((c :: l).length<=13)=false)];simp)]
 case rest=>
  obtain⟨rfl,rfl,aa⟩:=hcut
  have HF:=qG (zqZ aa)
  have ak:t.length<=13:=by
   unfold zdh at aa
   simp only[Bool.and_eq_true,qC] at aa
   exact aa.2.1
  clear aa
  have ab:=run_bytes_of_string (P:=Tryz.prog) wc 9 120 5 ⟨t.toArray⟩ Tryz.underlying9 Tryz.underlying120 Tryz.underlying5
  obtain⟨cap,ac⟩:∃ cap,cap=grownCap wc t.length 0 5:=⟨_,rfl⟩
  have ai:(⟨t.toArray⟩:ByteArray).size=t.length:=by simp[ByteArray.size]
  rw[ai,<- ac] at ab
  obtain⟨V,hV⟩:∃ V,V=wc.drew.alloc (.cells (bytesRow ⟨t.toArray⟩ cap) 5 ((bytesRow ⟨t.toArray⟩ cap).size,(bytesRow ⟨t.toArray⟩ cap).size+1)):=⟨_,rfl⟩
  rw[<- hV] at ab
  have HC:=qG (show ∀ k,k<t.length->V.cell? ⟨wc.heap.size,k,none⟩=some (.int .u8 ((t.getD k 0).toNat:Int)) from fun k hk=>by
   rw[hV]
   show(wc.drew.alloc _).cell? ⟨wc.drew.heap.size,k,none⟩=_
   rw[cell_of_row _ _ _ _ 5 _ (heap_alloc_new wc.drew _),bytesRow_at _ _ _ (by simpa using hk)]
   simp[qP,qN hk])
  have HB:=qG (show Below wc.heap.size wc V by rw[hV];exact(Below.refl _ wc).drew.alloc (qQ _) _)
  clear hV ac ai
  go_wp2_with (simp only[ab,Result.andThen_ok])
  clear ab
  obtain⟨g,hg⟩:∃ g,g=wc.heap.size:=⟨_,rfl⟩
  rw[<- hg] at HC ⊢
  clear hg
  go_loopw [25,2] (fun i n wr=>FigR t V i n wr) (fun i _ _=>t.length-(intOf i).toNat)
  case atStart=>exact⟨0,Nat.zero_le _,rfl,rfl,rfl,rfl⟩
  case round=>
   obtain⟨k,hk,rfl,rfl,rfl,ae⟩:=hrel
   have HA:=qG ae
   clear ae
   by_cases hlt:k<t.length
   .have hc:=HC.o k hlt
    have HT:=qG (show t.take (k+1)=t.take k++[t.getD k 0] by rw[List.take_succ_eq_append_getElem hlt,qP,qN hlt];rfl)
    have HM:=qG (show t.getD k 0∈t by rw[qP,qN hlt];exact List.getElem_mem hlt)
    have HS:=qG (show Bo.zb8 0 (t.take k)<10000000000000 from by
     have h1:=Bo.zi1 (t.take k) (fun c hc=>zq5 (List.all_eq_true.1 HA.o c hc)) 0
     have h2:(0+1)*10 ^ (t.take k).length<=10 ^ 13:=by rw[Nat.one_mul];exact Nat.pow_le_pow_right (by omega) (by rw[List.length_take];omega)
     have h3:(10:Nat) ^ 13=10000000000000:=rfl
     omega)
    generalize t.getD k 0=c at hc HT HM
    obtain⟨m,hm⟩:∃ m,m=Bo.zb8 0 (t.take k):=⟨_,rfl⟩
    have aj:=qG hm
    rw[<- hm] at HS ⊢
    clear hm
    have am:IntKind.i64.wrap ((k:Int)+1)=(k:Int)+1:=qF _ (by omega)
    have af:=qG (show Bo.digB c=false->figS t=none from fun h=>by
     rw[HF.o,if_neg]
     intro e
     rw[List.all_eq_true.1 e c HM.o] at h
     cases h)
    by_cases an:48<=(c.toNat:Int)
    .by_cases ao:(c.toNat:Int)<=57
     .have h1:=HS.o
      have aq:IntKind.u8.wrap ((c.toNat:Int)-48)=(c.toNat:Int)-48:=by rw[IntKind.wrap_u8];omega
      have ar:IntKind.i64.wrap ((c.toNat:Int)-48)=(c.toNat:Int)-48:=qF _ (by omega)
      have au:IntKind.i64.wrap (10*(m:Int))=10*(m:Int):=qF _ (by omega)
      have aw:IntKind.i64.wrap (10*(m:Int)+((c.toNat:Int)-48))=10*(m:Int)+((c.toNat:Int)-48):=qF _ (by omega)
      have ag:=qG (show Value.int .i64 (10*(m:Int)+((c.toNat:Int)-48))=.int .i64 ((Bo.zb8 0 (t.take (k+1)):Nat):Int) by
       rw[HT.o,Bo.zmi,<- aj.o]
       show Value.int .i64 _=Value.int .i64 ((m*10+(c.toNat-48):Nat):Int)
       congr 1
       omega)
      have ah:=qG (show(t.take (k+1)).all Bo.digB=true by
       rw[HT.o,List.all_append,HA.o]
       show(true&&(Bo.digB c&&true))=true
       unfold Bo.digB
       simp
       omega)
      go_wp2_with fail
      refine(zat 8 wr).mono ?_
      rintro e w' ⟨rfl,rfl⟩
      go_wp2_with fail
      (first|(refine⟨?_,?_⟩;(unfold FigR;exact⟨k+1,hlt,by go_num,ag.o,rfl,ah.o⟩);(simp[intOf];omega))|(go_roundw;(case rel=>(unfold FigR;exact⟨k+1,hlt,by go_num,ag.o,rfl,ah.o⟩));(case measure=>(simp[intOf];omega)))|(go_round;(case rel=>(unfold FigR;exact⟨k+1,hlt,by go_num,ag.o,rfl,ah.o⟩));(case measure=>(simp[intOf];omega))))
     .have hd:Bo.digB c=false:=by unfold Bo.digB;simp;omega
      have HN:=qG (af.o hd)
      clear hd
      go_wp2_with fail
      refine(zak 8 wr).mono ?_
      rintro e w' ⟨rfl,rfl⟩
      exact⟨rfl,HB.o,by rw[HN.o]⟩
    .have hd:Bo.digB c=false:=by unfold Bo.digB;simp;omega
     have HN:=qG (af.o hd)
     clear hd
     go_wp2_with fail
     refine(zak 8 wr).mono ?_
     rintro e w' ⟨rfl,rfl⟩
     exact⟨rfl,HB.o,by rw[HN.o]⟩
   .obtain rfl:k=t.length:=by omega
    have HE:=qG (show figS t=some ((Bo.zb8 0 t:Nat):Int) by
     have:=HA.o
     rw[List.take_length] at this
     rw[HF.o,if_pos this])
    rw[List.take_length]
    generalize Bo.zb8 0 t=m at *
    go_wp2_with fail
    go_ret
    exact⟨HB.o,by rw[HE.o];rfl⟩
theorem zih(x:Tx):∀ l:List Tx,zaP (l++[x])=match zaP l,figS x with
 |some r,some n=>some (r++[n])
 |_,_=>none
|[]=>by
  show zaP [x]=_
  unfold zaP
  cases figS x <;> rfl
|y :: l=>by
  rw[List.cons_append]
  unfold zaP
  rw[zih x l]
  cases figS y <;> cases zaP l <;> cases figS x <;> rfl
theorem zii{x:Tx}(h:figS x=none):∀{l:List Tx},x∈l->zaP l=none
|y :: l,hm=>by
  unfold zaP
  rcases List.mem_cons.1 hm with rfl|hm
  .rw[h]
  .rw[zii h hm];cases figS y <;> rfl
def zfl(t:Tx):List Value:=[tx t]
def encN(n:Int):Array Value:=#[.int .i64 n]
attribute [local go_sem] Oper.semAt_some
def Same(B0:Nat)(W W':World):Prop:=∀ b,b<B0->W'.heap[b]?=W.heap[b]?
theorem Same.lt{B0:Nat}{W W':World}(h:Same B0 W W')(hB:B0<=W.heap.size):B0<=W'.heap.size:=by
 cases B0 with
|zero=>exact Nat.zero_le _
|succ b=>
  have h1:=h b (by omega)
  rw[Array.getElem?_eq_getElem (show b<W.heap.size by omega)] at h1
  exact(qB.1 h1).1
theorem Same.below{B0:Nat}{W W' W'':World}(h:Same B0 W W')(hB:B0<=W.heap.size)(k:Below W'.heap.size W' W''):Same B0 W W'':=fun b hb=>(k.block b (qM hb (h.lt hB))).trans (h b hb)
theorem Same.trans{B0:Nat}{W W' W'':World}(h:Same B0 W W')(k:Same B0 W' W''):Same B0 W W'':=fun b hb=>(k b hb).trans (h b hb)
def RFg(l:List Tx)(B0:Nat)(w0:World)(J:List Int->World->Prop)(iv:Value)(w:World):Prop:=∃(k:Nat) (pre:List Int),iv=.int .i64 k/\k<=l.length/\zaP (l.take k)=some pre/\pre.length=k/\Same B0 w0 w/\J pre w
theorem zky(A:Option Addr)(n c:Nat)(w:World):Calls Tryz.prog 130 #[.slice A n c] w fun e w'=>e=.returned (.func (.func 200) #[] #[.pointer (some ⟨w.heap.size,0,none⟩)])/\w'=w.alloc (.cells #[.slice A n c] 30):=by
 go_enter Tryz.func130,Tryz.ntmps130
 go_wp2
 go_ret
 exact⟨rfl,rfl⟩
theorem zgj{w w':World}(h:Below w.heap.size w w'):w.grownBy w' none:=⟨h.os,h.tape,h.output,h.size,fun i hi _=>h.block i hi⟩
theorem zlQ(n:Nat)(hn:1<=n)(A:Option Addr)(c:Nat)(l:List Tx)(hl:l.length<=1000)(ht:∀ t∈l,t.length<=1000)(bx:Nat)(w:World)(hb:Bx w bx [.slice A l.length c])(h:At w bx 1 zfl A l) :
  SeqX Fence.wide n Tryz.prog 200 #[.pointer (some ⟨bx,0,none⟩)] encN (fun _ _=>False) (Same (bx+1)) (fun _ _=>True) (fun xs=>zaP l=some xs) (fun pre=>pre.length<=l.length) (fun ch _=>ch=zaF 8/\zaP l=none) w:=by
 intro lp J Jx Jp hJ aq ar hY h0
 have HY:=qG hY
 have H0:=qG h0
 have HJ:=qG hJ
 have au:=qG h
 have aw:=qG ht
 have c0:=hb.c 0 _ rfl
 have ax:=qG hb.lt
 clear hY h0 hb hJ aq ar h ht
 refine callsIn_of_wp Tryz.func200 rfl trivial ?_ rfl
 simp only[Tryz.ntmps200,List.size_toArray,List.length_cons,List.length_nil,Nat.reduceAdd,Nat.reduceSub,Array.replicate_succ,Array.replicate_zero,List.push_toArray,List.append_toArray,List.nil_append,List.cons_append]
 gi_wp2
 gi_loopw [7] (fun iv wr=>RFg l (bx+1) w J iv wr) (fun iv _=>l.length-(intOf iv).toNat)
 case atStart=>exact⟨0,[],rfl,Nat.zero_le _,rfl,rfl,fun _ _=>rfl,H0.o⟩
 case round=>
  obtain⟨k,pre,rfl,hk,aa,hpl,hs,ae⟩:=hrel
  have HP:=qG aa
  have ab:=qG hpl
  have af:=qG hs
  have ag:=qG ae
  clear aa hpl hs ae
  by_cases hlt:k<l.length
  .obtain⟨b,off,hA,aE,ah⟩:=au.o k l[k] (qN hlt)
   subst hA
   have hc:=(World.cell?_of_block (a:=⟨b,off+k*1+0,none⟩) (af.o b (by omega))).trans (ah 0 _ rfl)
   clear ah
   rw[Nat.mul_one,Nat.add_zero] at hc
   have ai:=qG (show l.take (k+1)=l.take k++[l[k]] by rw[List.take_succ_eq_append_getElem hlt])
   have HM:=qG (List.getElem_mem hlt)
   generalize l[k]=t at hc ai HM
   have aF:IntKind.i64.wrap ((k:Int)+1)=(k:Int)+1:=qF _ (by omega)
   gi_wp2_with fail
   refine⟨trivial,(callsIn_wide.2 (zg5 t wr (aw.o t HM.o))).mono ?_⟩
   rintro e w1 ⟨ac,hf⟩
   have aj:=qG (HJ.o pre wr w1 none ag.o (zgj ac) (fun r e=>by cases e))
   have ay:=qG (af.o.below (by have:=ax.o;omega) ac)
   cases hfig:figS t with
  |none=>
    rw[hfig] at hf
    subst hf
    exact⟨rfl,.inr (.inr ⟨_,pre,rfl,⟨rfl,zii hfig HM.o⟩,aj.o⟩)⟩
  |some v=>
    rw[hfig] at hf
    have hf:e=.returned (.int .i64 v):=hf
    subst hf
    have az:=qG (show zaP (l.take (k+1))=some (pre++[v]) by rw[ai.o,zih,HP.o,hfig])
    clear hfig ac
    obtain⟨fn,tmps,assign,body,hy,hR⟩:=HY.o pre v w1 aj.o (by rw[qD,ab.o];exact hlt) trivial
    dsimp only[encN] at hy
    have aA:=qG hR
    clear hR
    gi_wp2_with fail
    refine aA.o.mono ?_
    rintro e W3 (⟨rfl,ak,am⟩|⟨rfl,an,-⟩|⟨ch,rfl,ao,-⟩)
    .have aB:=qG (ay.o.trans am)
     have aC:=qG ak
     clear ak am hy
     gi_wp2_with fail
     go_roundw
     case rel=>exact⟨k+1,pre++[v],by go_num,hlt,az.o,by rw[qD,ab.o];rfl,aB.o,aC.o⟩
     case measure=>simp[intOf];omega
    .gi_wp2_with fail
     refine bodyPost_ret (results_none rfl _ _ _) rfl ?_
     exact .inl ⟨⟨_,rfl⟩,.inr ⟨_,by rw[qD,ab.o];exact hlt,an⟩⟩
    .exact⟨rfl,.inr (.inl ⟨ch,rfl,ao⟩)⟩
  .obtain rfl:k=l.length:=by omega
   have aD:=qG (show zaP l=some pre by have:=HP.o;rwa[List.take_length] at this)
   gi_wp2_with fail
   go_end0
   exact .inl ⟨⟨_,rfl⟩,.inl ⟨pre,aD.o,ag.o⟩⟩
end
section
open Go.RowKit
open Le (At Bx setCells zad nxA Ret RetQ za5 zbE)
attribute [local go_sem] Oper.semAt_some
theorem zch:(Tryz.prog.info? 3).map (fun i=>(i.zero,i.size,i.bytes))=some (some (.int .i64 0),1,8):=by kernel_rfl
def ICl(w:World)(b:Nat)(pre:List Int)(W:World):Prop:=∃ v,Bx W b [v]/\W.ownsRow (b+1) 3 1 v pre.length (pre.map (Value.int .i64))/\Below w.heap.size w W
theorem ICl.turn{w:World}{b:Nat}{pre:List Int}{W W':World}{row:Option Nat}(h:ICl w b pre W)(hg:W.grownBy W' row)(hr:∀ r,row=some r->w.heap.size<=r/\r≠b/\∃ o:Obj,W.heap[r]?=some o/\o.isCells=false):ICl w b pre W':=by
 obtain⟨v,hx,ho,hw⟩:=h
 have ab:row≠some b:=fun e=>(hr b e).2.1 rfl
 refine⟨v,⟨qM hx.lt hg.size,fun j u hu=>(World.cell?_of_block (a:=⟨b,j,none⟩) (hg.block b hx.lt (fun e=>ab e.symm))).trans (hx.c j u hu),fun j=>(World.frozen?_of_block (a:=⟨b,j,none⟩) (hg.block b hx.lt (fun e=>ab e.symm))).trans (hx.fr j)⟩,ho.kept hg ?_,Below.grown hw hg hw.size (fun r e=>(hr r e).1)⟩
 cases e:v.ownBlock with
|none=>exact .inl rfl
|some g=>
  right
  intro e2
  obtain⟨-,-,o,aa,ac⟩:=hr g e2.symm
  rcases ho.2 with ⟨e3,-⟩|⟨g',cap,cur,e3,-,hh,-⟩
  .rw[e3] at e;cases e
  .rw[e3] at e
   injection e with e
   simp only at e
   subst e
   rw[hh] at aa
   injection aa with aa
   subst aa
   cases ac
theorem znX{w:World}{base base':Nat}{e:TypeId}{size:Nat}{v:Value}{n:Nat}{xs:List Value}(h:w.ownsRow base e size v n xs)(hb:base'<=base):w.ownsRow base' e size v n xs:=by
 refine⟨h.1,?_⟩
 rcases h.2 with h2|⟨g,cap,cur,e1,h3,h4⟩
 .exact .inl h2
 .exact .inr ⟨g,cap,cur,e1,by omega,h4⟩
theorem _root_.Go.Proofs.YtankkcbofgighaaGreatDoor.Le.Bx.grownR{W W':World}{b:Nat}{vs:List Value}{row:Option Nat}(h:Bx W b vs)(hg:W.grownBy W' row)(hr:∀ r,row=some r->r≠b):Bx W' b vs:=
 have hk:=hg.block b h.lt (fun e=>hr b e.symm rfl)
 ⟨qM h.lt hg.size,fun j u hu=>(World.cell?_of_block (a:=⟨b,j,none⟩) hk).trans (h.c j u hu),fun j=>(World.frozen?_of_block (a:=⟨b,j,none⟩) hk).trans (h.fr j)⟩
theorem zgx(w:World)(v:Value)(t:TypeId):∀(j:Nat) (u:Value),[v][j]?=some u->(w.alloc (.cells #[v] t)).cell? ((⟨w.heap.size,0,none⟩:Addr).add j)=some u:=fun j u hu=>by
 rw[show((⟨w.heap.size,0,none⟩:Addr).add j)=⟨w.heap.size,0+j,none⟩ by unfold Addr.add;split <;> simp_all,Nat.zero_add,cell_of_row _ _ _ _ t (0,0) (heap_alloc_new w _)]
 simpa using hu
theorem zb7{B:Nat}{w w':World}{row:Option Nat}(h:w.grownBy w' row)(hr:∀ r,row=some r->B<=r)(hB:B<=w.heap.size):Below B w w':=
 ⟨h.os,h.tape,h.output,h.size,fun k hk=>h.block k (by omega) (fun e=>by have:=hr k e.symm;omega)⟩
def zlo(o:Option (List Int))(w:World)(e:Ending)(w':World):Prop:=Below w.heap.size w w'/\match o with
|some l=>∃ v,e=.returned v/\w'.ownsRow w.heap.size 3 1 v l.length (l.map (Value.int .i64))
|none=>e=.panicked (zaF 8)
theorem ziN(A:Option Addr)(c:Nat)(l:List Tx)(hl:l.length<=1000)(ht:∀ t∈l,t.length<=1000)(bx:Nat)(w:World)(hb:Bx w bx [.slice A l.length c])(h:At w bx 1 zfl A l) :
  Calls Tryz.prog 199 #[.slice none 0 0,.func (.func 200) #[] #[.pointer (some ⟨bx,0,none⟩)]] w (zlo (zaP l) w):=by
 have HB:=qG hb
 have ax:=qG h
 have aw:=hb.lt
 clear hb h
 refine(callsIn_wide (n:=6)).1 ?_
 refine zry Tryz.func199 rfl trivial ?_ rfl
 simp only[Tryz.ntmps199,List.size_toArray,List.length_cons,List.length_nil,Nat.reduceAdd,Nat.reduceSub,Array.replicate_succ,Array.replicate_zero,List.push_toArray,List.append_toArray,List.nil_append,List.cons_append]
 refine zrv trivial (zrt trivial ?_)
 have ak:=qG (Bx.new w #[.slice none 0 0] 35)
 have af:=qG (nxA w (.cells #[.slice none 0 0] 35))
 gi_wp2_with fail
 generalize(w.alloc (.cells #[.slice none 0 0] 35))=V at *
 obtain⟨b,aa⟩:∃ b,b=w.heap.size:=⟨_,rfl⟩
 rw[<- aa] at ak ⊢
 have ag:=qG aa
 clear aa
 refine zrv trivial ?_
 refine zrv trivial (zrt trivial ?_)
 gi_wp2_with fail
 obtain⟨B,hB⟩:∃ B,V.heap.size=B:=⟨_,rfl⟩
 have aG:b<B:=by rw[<- hB];exact ak.o.lt
 have aH:w.heap.size<=B:=by rw[<- hB];exact af.o.size
 have aI:bx<b:=by rw[ag.o];exact aw
 refine zrA trivial (fun _ _ _ h=>h) (fun _ _ _ h=>h) ?_
 refine zrw (fn₀:=Tryz.f199) Tryz.func199 trivial rfl (by omega) (gf:=200) (lb:=#[.pointer (some ⟨bx,0,none⟩)]) rfl trivial (enters_of Tryz.func200 (by kernel_rfl) rfl)
  (encs:=encN) (T:=fun _ _=>False) (Kp:=Same (bx+1)) (R:=fun _ _=>True) (S:=fun xs=>zaP l=some xs) (Sp:=fun pre=>pre.length<=l.length) (So:=fun ch _=>ch=zaF 8/\zaP l=none)
  (fun W hW hs=>zlQ (6-1) (by omega) A c l hl ht bx W ((HB.o.next af.o).next hW) ((ax.o.below (af.o.mono (by omega))).below (hW.mono (by rw[hB];omega))))
  (fun A r h=>h.elim) (fun h k=>h.trans k) (fun W o' q hq=>by rw[World.putObj_heap_other (by rw[hB];omega)]) (fun _=>rfl)
  (ICl w b) (fun _ _ _=>False) (fun _ _=>False) ?hI ?hIx ?hR ?tI ?tIx ?tIp ⟨_,ak.o,World.ownsRow_nil _ _ _ _,af.o⟩
  (fun x=>{ tmps:=#[.slice none 0 0,.func (.func 200) #[] #[.pointer (some ⟨bx,0,none⟩)],.pointer (some ⟨b,0,none⟩),undef,.slice none 0 0,.int .i64 x,.func (.func 200) #[] #[.pointer (some ⟨bx,0,none⟩)],.int .i64 x,undef,undef,undef,undef,undef],defers:=[] })
  ?assign ?body ?done ?stop ?pan ?own
 case assign=>
  intro l x W K hK
  dsimp only[encN]
  gi_wp2
  exact hK
 case hI=>
  intro pre W W' row h hg hr
  exact h.turn hg (fun r e=>by obtain⟨h1,h2,-⟩:=hr r e;exact⟨by omega,by omega,h2⟩)
 case hIx=>exact fun _ _ _ _ _ h _ _=>h
 case hR=>exact fun _ _ _ _ h _ _=>h
 case tI=>
  intro pre W W' row h hg hr
  exact h.turn hg (fun r e=>(hr r e).1.elim)
 case tIx=>exact fun _ _ _ _ _ h _ _=>h
 case tIp=>exact fun _ _ _ _ h _ _=>h
 case stop=>rintro D c pre W _ _ h _;exact h.elim
 case pan=>rintro D ch W _ h _;exact h.elim
 case own=>
  rintro D ch pre W hD ⟨rfl,ay⟩ ⟨v,-,-,aa⟩ hK
  rw[hB] at hD
  refine⟨by simp,.inl ⟨_,_,rfl,run_takeDeferred hK,?_⟩⟩
  refine⟨aa.trans (zb7 (grownBy_putObj' W D (.deferred none)) (fun r e=>by cases e;omega) aa.size),?_⟩
  rw[ay]
 case done=>
  rintro D xs W hD aq ⟨v,hx,ho,aa⟩ hK
  rw[hB] at hD
  have c0:=hx.c 0 _ rfl
  have HO:=qG (znX ho (show w.heap.size<=b+1 by rw[ag.o];omega))
  have ab:=qG aa
  have HK:=qG hK
  have az:=qG aq
  clear hx ho aa hK aq
  refine zrt trivial ?_
  gi_wp2_with fail
  have hG:=grownBy_putObj' W D (.deferred none)
  refine⟨by simp,.inl ⟨_,_,rfl,run_takeDeferred HK.o,?_⟩⟩
  refine⟨_,results_tmp rfl _ _ _,?_⟩
  refine⟨ab.o.trans (zb7 hG (fun r e=>by cases e;omega) ab.o.size),?_⟩
  rw[az.o]
  refine⟨v,rfl,HO.o.kept hG ?_⟩
  cases e:v.ownBlock with
 |none=>exact .inl rfl
 |some g=>
   right
   intro e2
   injection e2 with e2
   subst e2
   rcases HO.o.2 with ⟨e3,-⟩|⟨g',cap,cur,e3,-,hh,-⟩
   .rw[e3] at e;cases e
   .rw[e3] at e
    injection e with e
    simp only at e
    subst e
    rw[HK.o] at hh
    cases hh
 case body=>
  rintro l' pre x W ⟨v,hx,ho,aa⟩ hsp -
  have aJ:1<=6-1-1:=by decide
  obtain⟨i0,hi,aA,aB,aC⟩:=info_parts zch
  have c0:=hx.c 0 _ rfl
  have f0:=hx.fr 0
  have hlt:=hx.lt
  have hpl:pre.length+1<=1000:=by rw[qD] at hsp;simp only[List.length_singleton] at hsp;omega
  have HX:=qG hx
  have HO:=qG ho
  have ab:=qG aa
  have hN:=nxA W (.cells #[.int .i64 x] 3)
  have HN:=qG hN
  have ah:=qG (za5 ho hN)
  have am:=qG (hx.next hN)
  have an:=qG (show b+1<=(W.alloc (.cells #[.int .i64 x] 3)).heap.size by simp;omega)
  have aD:=qG (zgx W (.int .i64 x) 3)
  have c0':=am.o.c 0 _ rfl
  have f0':=am.o.fr 0
  clear hx ho aa hN hsp
  gi_wp2_with (gi_at_builtin;refine wpListIn_append_own _ rfl (.tmp 8) (.tmp 10) 35 rfl (b+1) 3 i0 (.int .i64 0) 1 8 Tryz.underlying35 hi aA aB aC rfl (by decide) _ pre.length _ rfl ah.o ⟨W.heap.size,0,none⟩ 1 1 [.int .i64 x] rfl rfl aD.o (by simp[Value.oneCell']) (by unfold maxLen;omega) (by omega) an.o ?_;intro v' w' ac ai _;have ar:=qG (show(W.alloc (.cells #[.int .i64 x] 3)).grownBy w' v.ownBlock from ai);clear ai;have aj:Bx w' b [v]:=am.o.grownR ar.o (fun r e=>by have:=(ah.o.lt r e).1;omega);have aE:=qG aj;have c2:=aj.c 0 _ rfl;have f2:=aj.fr 0;obtain⟨A',cp',rfl,-⟩:=zbE ac;have au:=qG ac;clear ac aj)
  have hG:=ar.o
  have ao:Below (b+1) (W.alloc (.cells #[.int .i64 x] 3)) w':=zb7 hG (fun r e=>(ah.o.lt r e).1) an.o
  have ae:=zaq w' b 0 (.slice A' (pre.length+1) cp')
  have aF:(W.alloc (.cells #[.int .i64 x] 3)).ownsRow (b+1) 3 1 v pre.length (pre.map (Value.int .i64)):=ah.o
  refine⟨?_,?_,_,aE.o.set (k:=0) (by simp) (.slice A' (pre.length+1) cp'),?_,?_⟩
  .refine⟨Nat.le_trans HN.o.size (Nat.le_trans hG.size ae.size),fun k o hk ho hc=>?_⟩
   have h1:=(HN.o.block k (qB.1 ho).1).trans ho
   have h2:w'.heap[k]?=some o:=(hG.block k (qB.1 h1).1 (fun e=>by
    rcases aF.2 with ⟨e3,-⟩|⟨g',cap,cur,e3,-,hh,-⟩
    .rw[e3] at e;cases e
    .rw[e3] at e
     injection e with e
     simp only at e
     subst e
     rw[h1] at hh
     injection hh with hh
     subst hh
     cases hc)).trans h1
   exact(ae.block k (qB.1 h2).1 (fun e=>by injection e with e;omega)).trans h2
  .intro q hq
   have h1:=HN.o.block q (by omega)
   have h2:=ao.block q (by omega)
   exact(ae.block q (by have:=ao.size;have:=an.o;omega) (fun e=>by injection e with e;omega)).trans (h2.trans h1)
  .have h3:=au.o.kept ae (.inr (fun e=>by have:=(au.o.lt b e).1;omega))
   rw[qD,List.map_append]
   exact h3
  .refine ab.o.trans ?_
   have h4:Below w.heap.size (W.alloc (.cells #[.int .i64 x] 3)) w':=ao.mono (by rw[ag.o];omega)
   exact((HN.o.mono ab.o.size).trans h4).trans (zb7 ae (fun r e=>by cases e;rw[ag.o];exact qQ _) (by have:=ab.o.size;have:=HN.o.size;have:=hG.size;omega))
end
section
open Go.RowKit
open Le (At Bx setCells zad nxA Ret RetQ)
theorem zbd{t:TypeId}{z:Value}{size bytes:Nat}(h:(Tryz.prog.info? t).map (fun i=>(i.zero,i.size,i.bytes))=some (some z,size,bytes)):∃ i,Tryz.prog.info? t=some i/\i.zero=some z/\i.size=size/\i.bytes=bytes:=by
 cases hi:Tryz.prog.info? t with
|none=>rw[hi] at h;cases h
|some i=>
  rw[hi] at h
  injection h with h
  injection h with h1 h
  injection h with h2 h3
  exact⟨i,rfl,h1,h2,h3⟩
theorem zll{α:Type}{cells:α->List Value}{size:Nat}{w:World}{B b off:Nat}{l:List α}(hs:∀ x,(cells x).length=size)(h0:0<size)(h:At w B size cells (some ⟨b,off,none⟩) l):∀ j u,(l.flatMap cells)[j]?=some u->w.cell? ((⟨b,off,none⟩:Addr).add j)=some u:=fun j u hu=>by
 have hj:j / size*size+j % size=j:=by rw[Nat.mul_comm];exact Nat.div_add_mod j size
 have h1:=zhJ hs l (k:=j / size) (Nat.mod_lt j h0)
 rw[hj,hu] at h1
 cases hx:l[j / size]? with
|none=>rw[hx] at h1;cases h1
|some x=>
  rw[hx] at h1
  obtain⟨b',off',e,-,hc⟩:=h _ _ hx
  injection e with e
  injection e with e1 e2 _
  subst e1 e2
  rw[show((⟨b,off,none⟩:Addr).add j)=⟨b,off+j,none⟩ by unfold Addr.add;split <;> simp_all,show off+j=off+j / size*size+j % size by omega]
  exact hc _ _ h1.symm
def zdC(e:TypeId)(size n:Nat)(xs:List Value)(w:World)(en:Ending)(w':World):Prop:=∃ v,en=.returned v/\Rw.ok ⟨e,size,v,n,xs⟩ w'/\(∀ g,blk v=some g->w.heap.size<=g)/\Below w.heap.size w w'
theorem zht{α:Type}{cells:α->List Value}{w:World}{ty:TypeId}(t e:TypeId)(i:TypeInfo)(z:Value)(size bytes:Nat)(ht:Tryz.prog.underlying t=some (.slice e))(hi:Tryz.prog.info? e=some i)(hz:i.zero=some z)
  (ac:i.size=size) (ah:i.bytes=bytes) (ai:z.cells.size=size) (ae:0<size) (af:∀ y,(cells y).length=size)
  (q:Nat) (A:Option Addr) (l:List α) (c B:Nat) (ag:At w B size cells A l) (aj:l.length<=maxLen) (ab:l.length*bytes<=140737488355328) :
  ∃ v w',(Builtin.append_ #[t,t] ty #[.slice (some ⟨q,0,none⟩) 0 0,.slice A l.length c]).run Tryz.prog w=.ok v w'/\Rw.ok ⟨e,size,v,l.length,l.flatMap cells⟩ w'/\(∀ g,blk v=some g->w.heap.size<=g)/\Below w.heap.size w w':=by
 by_cases h0:l=[]
 .subst h0
  refine⟨.slice (some ⟨q,0,none⟩) 0 0,w,?_,⟨by simp,.inl ⟨_,rfl,rfl⟩⟩,fun g e=>(by cases e),Below.refl _ _⟩
  cases A <;> simp[Builtin.append_,run_underlying ht,sizeOf,typeInfo,hi,Builtin.lenOf,Builtin.firstCells,loadCells,loadCellsFrom,storeCells]
 .have hp:0<l.length:=List.length_pos_iff.2 h0
  obtain⟨b,off,rfl,-,-⟩:=ag 0 _ (qN hp)
  obtain⟨v',w',hr,aa,hg⟩:=run_append_arg_grows (P:=Tryz.prog) (w:=w) t ty e i z size bytes ht hi hz ac ah ai ae ⟨q,0,none⟩ 0 0 [] (by simp) (fun j u hu=>by simp at hu) ⟨b,off,none⟩ l.length c (l.flatMap cells) (zbr af l) (zll af ae ag) (by omega) (by rw[Nat.zero_add];exact aj) (by rw[Nat.zero_add];exact ab)
  rw[Nat.zero_add,List.nil_append] at aa
  exact⟨v',w',hr,.of_own aa,fun g e=>(zfD aa e).2,⟨hg.os,hg.tape,hg.output,hg.size,fun k hk=>hg.block k hk (by simp)⟩⟩
theorem za3{α:Type}{cells:α->List Value}{w:World}{ops:Array Oper}{o:Oper}{a:Act}{rest:List Oper}{Q:Exit->Act->World->Prop}(ac:o.guard=none)(s x:Operand)(t:TypeId)
  (ho:o.op=.call { callee:=.builtin .append,args:=#[s,x],argTypes:=#[t,t] })
  (e:TypeId) (i:TypeInfo) (z:Value) (size bytes:Nat) (ht:Tryz.prog.underlying t=some (.slice e)) (hi:Tryz.prog.info? e=some i) (hz:i.zero=some z)
  (ab:i.size=size) (ae:i.bytes=bytes) (af:z.cells.size=size) (ag:0<size) (ah:∀ y,(cells y).length=size)
  (q:Nat) (hs:a.eval s=.slice (some ⟨q,0,none⟩) 0 0) (A:Option Addr) (l:List α) (c B:Nat) (hx:a.eval x=.slice A l.length c) (ai:At w B size cells A l) (aj:l.length<=maxLen) (aa:l.length*bytes<=140737488355328)
  (hk:∀ v w',Rw.ok ⟨e,size,v,l.length,l.flatMap cells⟩ w'->(∀ g,blk v=some g->w.heap.size<=g)->Below w.heap.size w w'->wpList Tryz.prog ops Q rest (a.put o.dst v) w'):wpList Tryz.prog ops Q (o :: rest) a w:=by
 refine wpList_plain ac fun K hK=>?_
 obtain⟨v,w',hr,h2,h3,h4⟩:=zht (w:=w) (ty:=o.type) t e i z size bytes ht hi hz ab ae af ag ah q A l c B ai aj aa
 unfold Oper.wp execOp
 simp only[ho,resolve,invoke,builtin,Sem.run_bind,Sem.run_pure,Result.andThen_ok,List.map_toArray,List.map_cons,List.map_nil,hs,hx,hr]
 exact hK _ _ (hk v w' h2 h3 h4)
theorem zd5:(Tryz.prog.info? 3).map (fun i=>(i.zero,i.size,i.bytes))=some (some (.int .i64 0),1,8):=by kernel_rfl
theorem zbp(x:Int):(zad x).length=1:=rfl
theorem zc4(A:Option Addr)(c:Nat)(l:List Int)(w:World)(hl:l.length<=100000)(h:At w w.heap.size 1 zad A l):Calls Tryz.prog 101 #[.slice A l.length c] w (zdC 3 1 l.length (l.flatMap zad) w):=by
 obtain⟨i0,hi,ae,af,ag⟩:=zbd zd5
 have ah:=fun W=>Lib.run_eql_slice_nil (P:=Tryz.prog) W 35 3 A l.length c 0 0 Tryz.underlying35
 have HH:=qG h
 have HZ:=qG ae
 have HI:=qG hi
 have ai:=qG af
 have aj:=qG ag
 clear h hi ae af ag
 cases A with
|none=>
  have ak:l=[]:=by
   cases l with
  |nil=>rfl
  |cons x l=>obtain⟨b,off,e,-⟩:=HH.o 0 x rfl;cases e
  subst ak
  have am:=fun W=>Lib.run_eql_slice_nil (P:=Tryz.prog) W 35 3 none 0 c 0 0 Tryz.underlying35
  simp only[Option.isNone_none] at am
  clear ah
  go_enter Tryz.func101,Tryz.ntmps101
  go_wp2_with fail
  go_ret
  exact⟨_,rfl,⟨rfl,.inl ⟨none,rfl,rfl⟩⟩,fun g e=>(by cases e),Below.refl _ _⟩
|some a=>
  have hm:=qG (show At (w.alloc (.cells #[] 3)) w.heap.size 1 zad (some a) l from HH.o.below (nxA w (.cells #[] 3)))
  go_enter Tryz.func101,Tryz.ntmps101
  go_wp2_with (at_builtin;refine za3 rfl (.tmp 5) (.tmp 6) 35 rfl 3 i0 (.int .i64 0) 1 8 Tryz.underlying35 HI.o HZ.o ai.o aj.o rfl (by decide) zbp w.heap.size rfl (some a) l c w.heap.size rfl hm.o (by unfold maxLen;omega) (by omega) ?_;intro v' w' aa ab ac;have HR:=qG aa;have an:=qG ab;have ao:=qG ac;clear aa ab ac)
  go_wp2
  go_ret
  exact⟨v',rfl,HR.o,fun g e=>Nat.le_trans (nxA w (.cells #[] 3)).size (an.o g e),(nxA w (.cells #[] 3)).trans (ao.o.mono (nxA w (.cells #[] 3)).size)⟩
theorem znj:(Tryz.prog.info? 65).map (fun i=>(i.zero,i.size,i.bytes))=some (some (.agg #[.int .i64 0,.int .i64 0]),2,16):=by kernel_rfl
theorem zhh(x:Bt):(btL x).length=2:=rfl
theorem zkf(A:Option Addr)(c:Nat)(l:List Bt)(w:World)(hl:l.length<=100000)(h:At w w.heap.size 2 btL A l):Calls Tryz.prog 135 #[.slice A l.length c] w (zdC 65 2 l.length (l.flatMap btL) w):=by
 obtain⟨i0,hi,ae,af,ag⟩:=zbd znj
 have ah:=fun W=>Lib.run_eql_slice_nil (P:=Tryz.prog) W 36 65 A l.length c 0 0 Tryz.underlying36
 have HH:=qG h
 have HZ:=qG ae
 have HI:=qG hi
 have ai:=qG af
 have aj:=qG ag
 clear h hi ae af ag
 cases A with
|none=>
  have ak:l=[]:=by
   cases l with
  |nil=>rfl
  |cons x l=>obtain⟨b,off,e,-⟩:=HH.o 0 x rfl;cases e
  subst ak
  have am:=fun W=>Lib.run_eql_slice_nil (P:=Tryz.prog) W 36 65 none 0 c 0 0 Tryz.underlying36
  simp only[Option.isNone_none] at am
  clear ah
  go_enter Tryz.func135,Tryz.ntmps135
  go_wp2_with fail
  go_ret
  exact⟨_,rfl,⟨rfl,.inl ⟨none,rfl,rfl⟩⟩,fun g e=>(by cases e),Below.refl _ _⟩
|some a=>
  have hm:=qG (show At (w.alloc (.cells #[] 65)) w.heap.size 2 btL (some a) l from HH.o.below (nxA w (.cells #[] 65)))
  go_enter Tryz.func135,Tryz.ntmps135
  go_wp2_with (at_builtin;refine za3 rfl (.tmp 5) (.tmp 6) 36 rfl 65 i0 (.agg #[.int .i64 0,.int .i64 0]) 2 16 Tryz.underlying36 HI.o HZ.o ai.o aj.o rfl (by decide) zhh w.heap.size rfl (some a) l c w.heap.size rfl hm.o (by unfold maxLen;omega) (by omega) ?_;intro v' w' aa ab ac;have HR:=qG aa;have an:=qG ab;have ao:=qG ac;clear aa ab ac)
  go_wp2
  go_ret
  exact⟨v',rfl,HR.o,fun g e=>Nat.le_trans (nxA w (.cells #[] 65)).size (an.o g e),(nxA w (.cells #[] 65)).trans (ao.o.mono (nxA w (.cells #[] 65)).size)⟩
theorem zjz:(Tryz.prog.info? 67).map (fun i=>(i.zero,i.size,i.bytes))=some (some (.agg #[.int .i64 0,.int .i64 0,.int .i64 0]),3,24):=by kernel_rfl
theorem zbv(x:Le.Loan):(Le.Loan.cells x).length=3:=rfl
theorem zhQ(A:Option Addr)(c:Nat)(l:List Le.Loan)(w:World)(hl:l.length<=100000)(h:At w w.heap.size 3 Le.Loan.cells A l):Calls Tryz.prog 136 #[.slice A l.length c] w (zdC 67 3 l.length (l.flatMap Le.Loan.cells) w):=by
 obtain⟨i0,hi,ae,af,ag⟩:=zbd zjz
 have ah:=fun W=>Lib.run_eql_slice_nil (P:=Tryz.prog) W 37 67 A l.length c 0 0 Tryz.underlying37
 have HH:=qG h
 have HZ:=qG ae
 have HI:=qG hi
 have ai:=qG af
 have aj:=qG ag
 clear h hi ae af ag
 cases A with
|none=>
  have ak:l=[]:=by
   cases l with
  |nil=>rfl
  |cons x l=>obtain⟨b,off,e,-⟩:=HH.o 0 x rfl;cases e
  subst ak
  have am:=fun W=>Lib.run_eql_slice_nil (P:=Tryz.prog) W 37 67 none 0 c 0 0 Tryz.underlying37
  simp only[Option.isNone_none] at am
  clear ah
  go_enter Tryz.func136,Tryz.ntmps136
  go_wp2_with fail
  go_ret
  exact⟨_,rfl,⟨rfl,.inl ⟨none,rfl,rfl⟩⟩,fun g e=>(by cases e),Below.refl _ _⟩
|some a=>
  have hm:=qG (show At (w.alloc (.cells #[] 67)) w.heap.size 3 Le.Loan.cells (some a) l from HH.o.below (nxA w (.cells #[] 67)))
  go_enter Tryz.func136,Tryz.ntmps136
  go_wp2_with (at_builtin;refine za3 rfl (.tmp 5) (.tmp 6) 37 rfl 67 i0 (.agg #[.int .i64 0,.int .i64 0,.int .i64 0]) 3 24 Tryz.underlying37 HI.o HZ.o ai.o aj.o rfl (by decide) zbv w.heap.size rfl (some a) l c w.heap.size rfl hm.o (by unfold maxLen;omega) (by omega) ?_;intro v' w' aa ab ac;have HR:=qG aa;have an:=qG ab;have ao:=qG ac;clear aa ab ac)
  go_wp2
  go_ret
  exact⟨v',rfl,HR.o,fun g e=>Nat.le_trans (nxA w (.cells #[] 67)).size (an.o g e),(nxA w (.cells #[] 67)).trans (ao.o.mono (nxA w (.cells #[] 67)).size)⟩
theorem zjy:(Tryz.prog.info? 194).map (fun i=>(i.zero,i.size,i.bytes))=some (some (.agg #[.int .i64 0,.int .i64 0,.int .i64 0]),3,24):=by kernel_rfl
theorem zdt(x:Le.Look):(Le.Look.cells x).length=3:=rfl
theorem zhP(A:Option Addr)(c:Nat)(l:List Le.Look)(w:World)(hl:l.length<=100000)(h:At w w.heap.size 3 Le.Look.cells A l):Calls Tryz.prog 137 #[.slice A l.length c] w (zdC 194 3 l.length (l.flatMap Le.Look.cells) w):=by
 obtain⟨i0,hi,ae,af,ag⟩:=zbd zjy
 have ah:=fun W=>Lib.run_eql_slice_nil (P:=Tryz.prog) W 38 194 A l.length c 0 0 Tryz.underlying38
 have HH:=qG h
 have HZ:=qG ae
 have HI:=qG hi
 have ai:=qG af
 have aj:=qG ag
 clear h hi ae af ag
 cases A with
|none=>
  have ak:l=[]:=by
   cases l with
  |nil=>rfl
  |cons x l=>obtain⟨b,off,e,-⟩:=HH.o 0 x rfl;cases e
  subst ak
  have am:=fun W=>Lib.run_eql_slice_nil (P:=Tryz.prog) W 38 194 none 0 c 0 0 Tryz.underlying38
  simp only[Option.isNone_none] at am
  clear ah
  go_enter Tryz.func137,Tryz.ntmps137
  go_wp2_with fail
  go_ret
  exact⟨_,rfl,⟨rfl,.inl ⟨none,rfl,rfl⟩⟩,fun g e=>(by cases e),Below.refl _ _⟩
|some a=>
  have hm:=qG (show At (w.alloc (.cells #[] 194)) w.heap.size 3 Le.Look.cells (some a) l from HH.o.below (nxA w (.cells #[] 194)))
  go_enter Tryz.func137,Tryz.ntmps137
  go_wp2_with (at_builtin;refine za3 rfl (.tmp 5) (.tmp 6) 38 rfl 194 i0 (.agg #[.int .i64 0,.int .i64 0,.int .i64 0]) 3 24 Tryz.underlying38 HI.o HZ.o ai.o aj.o rfl (by decide) zdt w.heap.size rfl (some a) l c w.heap.size rfl hm.o (by unfold maxLen;omega) (by omega) ?_;intro v' w' aa ab ac;have HR:=qG aa;have an:=qG ab;have ao:=qG ac;clear aa ab ac)
  go_wp2
  go_ret
  exact⟨v',rfl,HR.o,fun g e=>Nat.le_trans (nxA w (.cells #[] 194)).size (an.o g e),(nxA w (.cells #[] 194)).trans (ao.o.mono (nxA w (.cells #[] 194)).size)⟩
theorem zjj:(Tryz.prog.info? 251).map (fun i=>(i.zero,i.size,i.bytes))=some (some (.agg #[.int .i64 0,.int .i64 0,.int .i64 0,.nilFunc,.bool false,.slice none 0 0]),6,64):=by kernel_rfl
theorem zcd(x:Pq):(Pq.cells x).length=6:=rfl
theorem zhO(A:Option Addr)(c:Nat)(l:List Pq)(w:World)(hl:l.length<=100000)(h:At w w.heap.size 6 Pq.cells A l):Calls Tryz.prog 138 #[.slice A l.length c] w (zdC 251 6 l.length (l.flatMap Pq.cells) w):=by
 obtain⟨i0,hi,ae,af,ag⟩:=zbd zjj
 have ah:=fun W=>Lib.run_eql_slice_nil (P:=Tryz.prog) W 80 251 A l.length c 0 0 Tryz.underlying80
 have HH:=qG h
 have HZ:=qG ae
 have HI:=qG hi
 have ai:=qG af
 have aj:=qG ag
 clear h hi ae af ag
 cases A with
|none=>
  have ak:l=[]:=by
   cases l with
  |nil=>rfl
  |cons x l=>obtain⟨b,off,e,-⟩:=HH.o 0 x rfl;cases e
  subst ak
  have am:=fun W=>Lib.run_eql_slice_nil (P:=Tryz.prog) W 80 251 none 0 c 0 0 Tryz.underlying80
  simp only[Option.isNone_none] at am
  clear ah
  go_enter Tryz.func138,Tryz.ntmps138
  go_wp2_with fail
  go_ret
  exact⟨_,rfl,⟨rfl,.inl ⟨none,rfl,rfl⟩⟩,fun g e=>(by cases e),Below.refl _ _⟩
|some a=>
  have hm:=qG (show At (w.alloc (.cells #[] 251)) w.heap.size 6 Pq.cells (some a) l from HH.o.below (nxA w (.cells #[] 251)))
  go_enter Tryz.func138,Tryz.ntmps138
  go_wp2_with (at_builtin;refine za3 rfl (.tmp 5) (.tmp 6) 80 rfl 251 i0 (.agg #[.int .i64 0,.int .i64 0,.int .i64 0,.nilFunc,.bool false,.slice none 0 0]) 6 64 Tryz.underlying80 HI.o HZ.o ai.o aj.o rfl (by decide) zcd w.heap.size rfl (some a) l c w.heap.size rfl hm.o (by unfold maxLen;omega) (by omega) ?_;intro v' w' aa ab ac;have HR:=qG aa;have an:=qG ab;have ao:=qG ac;clear aa ab ac)
  go_wp2
  go_ret
  exact⟨v',rfl,HR.o,fun g e=>Nat.le_trans (nxA w (.cells #[] 251)).size (an.o g e),(nxA w (.cells #[] 251)).trans (ao.o.mono (nxA w (.cells #[] 251)).size)⟩
theorem znn:(Tryz.prog.info? 114).map (fun i=>(i.zero,i.size,i.bytes))=some (some (.agg #[.int .i64 0,.int .i64 0,.int .i64 0,.int .i64 0]),4,32):=by kernel_rfl
theorem ziq(x:Ru.Blade):(Ru.Blade.cells x).length=4:=rfl
theorem zhd(A:Option Addr)(c:Nat)(l:List Ru.Blade)(w:World)(hl:l.length<=100000)(h:At w w.heap.size 4 Ru.Blade.cells A l):Calls Tryz.prog 59 #[.slice A l.length c] w (zdC 114 4 l.length (l.flatMap Ru.Blade.cells) w):=by
 obtain⟨i0,hi,ae,af,ag⟩:=zbd znn
 have ah:=fun W=>Lib.run_eql_slice_nil (P:=Tryz.prog) W 22 114 A l.length c 0 0 Tryz.underlying22
 have HH:=qG h
 have HZ:=qG ae
 have HI:=qG hi
 have ai:=qG af
 have aj:=qG ag
 clear h hi ae af ag
 cases A with
|none=>
  have ak:l=[]:=by
   cases l with
  |nil=>rfl
  |cons x l=>obtain⟨b,off,e,-⟩:=HH.o 0 x rfl;cases e
  subst ak
  have am:=fun W=>Lib.run_eql_slice_nil (P:=Tryz.prog) W 22 114 none 0 c 0 0 Tryz.underlying22
  simp only[Option.isNone_none] at am
  clear ah
  go_enter Tryz.func59,Tryz.ntmps59
  go_wp2_with fail
  go_ret
  exact⟨_,rfl,⟨rfl,.inl ⟨none,rfl,rfl⟩⟩,fun g e=>(by cases e),Below.refl _ _⟩
|some a=>
  have hm:=qG (show At (w.alloc (.cells #[] 114)) w.heap.size 4 Ru.Blade.cells (some a) l from HH.o.below (nxA w (.cells #[] 114)))
  go_enter Tryz.func59,Tryz.ntmps59
  go_wp2_with (at_builtin;refine za3 rfl (.tmp 5) (.tmp 6) 22 rfl 114 i0 (.agg #[.int .i64 0,.int .i64 0,.int .i64 0,.int .i64 0]) 4 32 Tryz.underlying22 HI.o HZ.o ai.o aj.o rfl (by decide) ziq w.heap.size rfl (some a) l c w.heap.size rfl hm.o (by unfold maxLen;omega) (by omega) ?_;intro v' w' aa ab ac;have HR:=qG aa;have an:=qG ab;have ao:=qG ac;clear aa ab ac)
  go_wp2
  go_ret
  exact⟨v',rfl,HR.o,fun g e=>Nat.le_trans (nxA w (.cells #[] 114)).size (an.o g e),(nxA w (.cells #[] 114)).trans (ao.o.mono (nxA w (.cells #[] 114)).size)⟩
end
section
open Go.RowKit
open Le (At Bx setCells zad nxA Ret RetQ za5 zbE)
def Pa.v:Pa->Value
|.w s=>.iface 9 (.string ⟨s.toArray⟩)
|.n i=>.iface 3 (.int .i64 i)
def Pa.ok:Pa->Prop
|.w s=>s.length<=20
|.n i=>0<=i/\i<1000000000000000000
theorem zlJ{n:Int}(h0:0<=n)(h:n<1000000000000000000):(Lib.itoa n).length<=18:=by
 obtain⟨u,rfl⟩:∃ u:Nat,n=u:=⟨n.toNat,by omega⟩
 rw[Bo.zom]
 exact zj9 17 u (by omega)
theorem zmv{x:Pa}(h:x.ok):x.tx.length<=20:=by
 cases x with
|w s=>exact h
|n i=>have:=zlJ h.1 h.2;show(Lib.itoa i).length<=20;omega
theorem zon(n:Int)(w:World)(hE:Env w)(h0:-9223372036854775808<=n)(h1:n<=9223372036854775807):Calls Tryz.prog 30 #[.int .i64 n] w (Ret (tx (Lib.itoa n)) w):=
 (Tryz.strconv_Itoa n h0 h1 w hE.tab).mono fun e w' ⟨he,k,os,hw⟩=>⟨he,by rw[hw];exact Lib.below_grow _ _ (qQ _) _ _⟩
theorem znI:(Tryz.prog.info? 9).map (fun i=>(i.zero,i.size,i.bytes))=some (some (.string ⟨#[]⟩),1,16):=by kernel_rfl
theorem zgk(c:UInt8):∀ l:List Tx,(∀ x∈l,x.length<=20)->(Bo.glue c l).length<=21*l.length
|[],_=>by show 0<=_;omega
|[x],h=>by
  have:=h x (qE ..)
  show x.length<=21*1
  omega
|x :: y :: l,h=>by
  have h1:=h x (qE ..)
  have h2:=zgk c (y :: l) fun z hz=>h z (List.mem_cons_of_mem _ hz)
  show(x++c :: Bo.glue c (y :: l)).length<=_
  rw[qD,List.length_cons,List.length_cons]
  omega
theorem zrf(v:Value)(W:World):(Instr.typeAssert (.iface 9 v) 20 9 true).run Tryz.prog W=.ok (.tuple #[v,.bool true]) W:=by kernel_rfl
theorem zrg(v:Value)(W:World):(Instr.typeAssert (.iface 3 v) 20 9 true).run Tryz.prog W=.ok (.tuple #[.string ⟨#[]⟩,.bool false]) W:=by kernel_rfl
theorem zrh(v:Value)(W:World):(Instr.typeAssert (.iface 3 v) 20 3 true).run Tryz.prog W=.ok (.tuple #[v,.bool true]) W:=by kernel_rfl
theorem zqS{w:World}{base:Nat}{e:TypeId}{size g n m cap:Nat}{xs:List Value}(h:w.ownsRow base e size (.slice (some ⟨g,0,none⟩) n cap) m xs):m<=cap:=by
 rcases h.2 with ⟨e1,_⟩|⟨g',cap',cur',e1,_,_,h3,_⟩
 .cases e1
 .injection e1 with _ _ e2;omega
def paV(x:Pa):List Value:=[x.v]
def paT(x:Pa):Value:=tx x.tx
def RepR(l:List Pa)(w0:World)(v i:Value)(w:World):Prop:=∃ k:Nat,k<=l.length/\i=.int .i64 k/\Below w0.heap.size w0 w/\w.ownsRow w0.heap.size 9 1 v k ((l.take k).map paT)
theorem zh0(A:Option Addr)(c:Nat)(l:List Pa)(w:World)(hE:Env w)(h:At w w.heap.size 1 paV A l)(h0:l≠[])(hl:l.length<=1000)(ak:∀ x∈l,x.ok):Calls Tryz.prog 53 #[.slice A l.length c] w (Ret (tx (rep l)) w):=by
 have HE:=qG hE
 have HL:=qG h
 have HO:=qG ak
 have H0:=qG h0
 clear hE h ak h0
 obtain⟨i0,hi,am,an,ao⟩:=info_parts znI
 go_enter Tryz.func53,Tryz.ntmps53
 go_wp2
 go_loopw [10,3] (fun i v wr=>RepR l w v i wr) (fun i _ _=>l.length-(intOf i).toNat)
 case atStart=>exact⟨0,by omega,rfl,Below.refl _ _,World.ownsRow_nil _ _ _ _⟩
 case round=>
  obtain⟨k,hk,rfl,hb,ah⟩:=hrel
  have aa:=qG ah
  have HB:=qG hb
  have ai:=hb.size
  clear ah hb
  by_cases hlt:k<l.length
  .obtain⟨b,off,rfl,aB,aq⟩:=HL.o.below HB.o k l[k] (qN hlt)
   have hc:=aq 0 _ rfl
   have ar:=qG (HO.o _ (List.getElem_mem hlt))
   have HT:=qG (show(l.take (k+1)).map paT=(l.take k).map paT++[paT l[k]] by rw[List.take_succ_eq_append_getElem hlt,List.map_append];rfl)
   generalize l[k]=x at hc HT ar
   clear aq
   rw[Nat.mul_one,Nat.add_zero] at hc
   have aC:IntKind.i64.wrap ((k:Int)+1)=(k:Int)+1:=qF _ (by omega)
   cases x with
  |w s=>
    change _=some (Value.iface 9 (tx s)) at hc
    go_wp2_with fail
    rw[zrf]
    simp only[Result.andThen]
    rw[Oper.upon_value]
    go_wp2_with (at_builtin;refine wpList_append_own _ rfl (.tmp 18) (.tmp 20) 30 rfl w.heap.size 9 i0 (.string ⟨#[]⟩) 1 16 Tryz.underlying30 hi am an ao rfl (by decide) _ k _ rfl (aa.o.alloc _) ⟨wr.heap.size,0,none⟩ 1 1 [tx s] rfl rfl (zgx _ _ _) (by simp[Value.oneCell']) (by unfold maxLen;omega) (by omega) (by simp;omega) ?_;intro v' w' ac ae _)
    have af:=qG (Below.grown (HB.o.alloc ai (.cells #[tx s] 9)) ae (by simp;omega) (fun j hj=>(aa.o.lt j hj).1))
    have ab:=qG (show w'.ownsRow w.heap.size 9 1 v' (k+1) ((l.take (k+1)).map paT) by rw[HT.o];exact ac)
    clear ac ae
    go_wp2_with fail
    (first|(refine⟨?_,?_⟩;(unfold RepR;exact⟨k+1,by omega,by go_num,af.o,ab.o⟩);(simp[intOf];omega))|(go_roundw;(case rel=>(unfold RepR;exact⟨k+1,by omega,by go_num,af.o,ab.o⟩));(case measure=>(simp[intOf];omega)))|(go_round;(case rel=>(unfold RepR;exact⟨k+1,by omega,by go_num,af.o,ab.o⟩));(case measure=>(simp[intOf];omega))))
  |n i=>
    change _=some (Value.iface 3 (.int .i64 i)) at hc
    obtain⟨i1,i2⟩:=ar.o
    go_wp2_with fail
    rw[zrg]
    simp only[Result.andThen]
    rw[Oper.upon_value]
    go_wp2_with fail
    rw[zrh]
    simp only[Result.andThen]
    rw[Oper.upon_value]
    go_wp2_with fail
    refine(zon i wr (HE.o.next HB.o) (by omega) (by omega)).mono ?_
    rintro e V ⟨rfl,hb⟩
    have ag:=qG (HB.o.trans (hb.mono ai))
    have au:=qG (za5 aa.o hb)
    have ax:=ag.o.size
    clear hb
    go_wp2_with (at_builtin;refine wpList_append_own _ rfl (.tmp 25) (.tmp 28) 30 rfl w.heap.size 9 i0 (.string ⟨#[]⟩) 1 16 Tryz.underlying30 hi am an ao rfl (by decide) _ k _ rfl (au.o.alloc _) ⟨V.heap.size,0,none⟩ 1 1 [tx (Lib.itoa i)] rfl rfl (zgx _ _ _) (by simp[Value.oneCell']) (by unfold maxLen;omega) (by omega) (by simp;omega) ?_;intro v' w' ac ae _)
    have af:=qG (Below.grown (ag.o.alloc ax (.cells #[tx (Lib.itoa i)] 9)) ae (by simp;omega) (fun j hj=>(au.o.lt j hj).1))
    have ab:=qG (show w'.ownsRow w.heap.size 9 1 v' (k+1) ((l.take (k+1)).map paT) by rw[HT.o];exact ac)
    clear ac ae
    go_wp2_with fail
    (first|(refine⟨?_,?_⟩;(unfold RepR;exact⟨k+1,by omega,by go_num,af.o,ab.o⟩);(simp[intOf];omega))|(go_roundw;(case rel=>(unfold RepR;exact⟨k+1,by omega,by go_num,af.o,ab.o⟩));(case measure=>(simp[intOf];omega)))|(go_round;(case rel=>(unfold RepR;exact⟨k+1,by omega,by go_num,af.o,ab.o⟩));(case measure=>(simp[intOf];omega))))
  .obtain rfl:k=l.length:=by omega
   rw[List.take_length] at aa
   have ay:0<l.length:=by
    have:=H0.o
    cases l with
   |nil=>exact absurd rfl this
   |cons a t=>exact Nat.succ_pos _
   obtain⟨g,cap,e0,-⟩:=aa.o.form ay
   subst e0
   have az:=(aa.o.lt g rfl).2
   have hle:=zqS aa.o
   have aj:∀(j:Nat) (x:ByteArray),(l.map fun x=>(⟨x.tx.toArray⟩:ByteArray))[j]?=some x->wr.cell? ⟨g,0+j,none⟩=some (.string x):=fun j x hx=>by
    rw[List.getElem?_map] at hx
    obtain⟨y,hy,rfl⟩:=Option.map_eq_some_iff.1 hx
    have:=aa.o.cells (g:=g) rfl j (.string ⟨y.tx.toArray⟩) (by rw[List.getElem?_map,hy];rfl)
    rw[show((⟨g,0,none⟩:Addr).add j)=⟨g,0+j,none⟩ by unfold Addr.add;split <;> simp_all] at this
    exact this
   have aw:(Lib.join ((l.map fun x=>(⟨x.tx.toArray⟩:ByteArray)).map (·.data.toList)) (⟨#[32]⟩:ByteArray).data.toList)=rep l:=by
    rw[List.map_map]
    exact Bo.zib 32 (l.map Pa.tx)
   have aA:(rep l).length<=21*(l.map Pa.tx).length:=zgk 32 (l.map Pa.tx) (fun x hx=>by
    obtain⟨y,hy,rfl⟩:=List.mem_map.1 hx
    exact zmv (HO.o y hy))
   rw[List.length_map] at aA
   have HJ:=qG (Tryz.strings_Join g 0 cap (l.map fun x=>(⟨x.tx.toArray⟩:ByteArray)) ⟨#[32]⟩ wr aj az (by rw[List.length_map];omega) (by rw[List.length_map];omega) (by rw[aw];omega))
   rw[List.length_map,aw] at HJ
   go_wp2_with fail
   refine HJ.o.mono ?_
   rintro e V ⟨rfl,hb⟩
   have ag:=qG (HB.o.trans (hb.mono ai))
   clear hb
   go_wp2_with fail
   go_ret
   exact⟨rfl,ag.o⟩
end
section
open Go.RowKit
open Le (At Bx setCells zad nxA Ret RetQ)
structure VOk(d:Ru.Die)(s:St):Prop where
 dd:Ru.dieS d=true
 b:BOk d s.b
 n8:s.plans.length<=8
 pn:0<=s.planned/\s.planned<=1000000
 cs:s.b.cost<=100000000000
structure Pre(O:Nat->Prop)(w:World)(f:Nat)(R:Nat->Rw)(cs:List Cu.Cut)(ps:List Pq)(d:Ru.Die)(s:St)(A:Option Addr)(c:Nat)(n:List Int):Prop where
 env:Env w
 o6:∀ b,O b->6<=b
 fl:FlAt O w f R cs ps d s
 ok:VOk d s
 na:AtO O w 1 zad A n
 nc:n.length<=c
 nn:∀ x∈n,0<=x/\x<10000000000000
noncomputable def resV(d:Ru.Die)(s:St)(v:Vb)(n:List Int):Res:=match doV d s.b v n with
|.ok x=>.ok (⟨x.1,s.plans,s.planned⟩,x.2)
|.error e=>.error e
structure Sees(w:World)(f:Nat)(R:Nat->Rw)(cs:List Cu.Cut)(ps:List Pq)(d:Ru.Die)(s:St)(A0:Option Addr)(c0:Nat)(A1:Option Addr)(c1:Nat)(A2:Option Addr)(c2:Nat)(A3:Option Addr)(c3:Nat)(A4:Option Addr)(c4:Nat)(A5:Option Addr)(c5:Nat)(A6:Option Addr)(c6:Nat):Prop where
 x:Bx w f [.int .i64 s.b.hour,.slice A0 s.b.cuts.length c0,.slice A1 s.b.ran.length c1,.slice A2 s.b.made.length c2,.int .i64 s.b.t.n,.slice A3 s.b.t.loans.length c3,.slice A4 s.b.t.looks.length c4,.slice A5 s.b.t.admits.length c5,.int .i64 s.b.cost,.int .i64 s.plans.length,.bool s.b.opn,.slice A6 s.plans.length c6,.int .i64 s.planned,.slice d.A d.blades.length d.c,.int .i64 d.bound,.int .i64 d.stop,.int .i64 d.bend,.bool true]
 e0:(R 0).v=.slice A0 s.b.cuts.length c0
 e1:(R 1).v=.slice A1 s.b.ran.length c1
 e2:(R 2).v=.slice A2 s.b.made.length c2
 e3:(R 3).v=.slice A3 s.b.t.loans.length c3
 e4:(R 4).v=.slice A4 s.b.t.looks.length c4
 e5:(R 5).v=.slice A5 s.b.t.admits.length c5
 e6:(R 6).v=.slice A6 s.plans.length c6
 a0:At w w.heap.size 3 Cu.cutL A0 cs
 a1:At w w.heap.size 1 zad A1 s.b.ran
 a2:At w w.heap.size 2 btL A2 s.b.made
 a3:At w w.heap.size 3 Le.Loan.cells A3 s.b.t.loans
 a4:At w w.heap.size 3 Le.Look.cells A4 s.b.t.looks
 a5:At w w.heap.size 1 zad A5 s.b.t.admits
 a6:At w w.heap.size 6 Pq.cells A6 ps
 l0:s.b.cuts.length<=c0
 l1:s.b.ran.length<=c1
 l2:s.b.made.length<=c2
 l3:s.b.t.loans.length<=c3
 l4:s.b.t.looks.length<=c4
 l5:s.b.t.admits.length<=c5
 l6:s.plans.length<=c6
 nc:cs.length=s.b.cuts.length
 np:ps.length=s.plans.length
theorem zbe{α:Type}{cells:α->List Value}{w:World}{r:Rw}{e:TypeId}{size:Nat}{l:List α}(h:r.ok w)(hr:r.e=e/\r.size=size/\r.n=l.length/\r.xs=l.flatMap cells)(hs:∀ x,(cells x).length=size)(h0:0<size):∃ A c,r.v=.slice A l.length c/\At w w.heap.size size cells A l/\l.length<=c:=by
 obtain⟨-,h2,h3,h4⟩:=hr
 obtain⟨A,c,e1,e2,e3⟩:=h.at_ (cells:=cells) (fun x=>(hs x).trans h2.symm) (by omega) h3 h4
 exact⟨A,c,e1,h2▸e2,e3⟩
theorem zbC(x:Cu.Cut):(Cu.cutL x).length=3:=rfl
theorem FlAt.sees{O:Nat->Prop}{w:World}{f:Nat}{R:Nat->Rw}{cs:List Cu.Cut}{ps:List Pq}{d:Ru.Die}{s:St}(h:FlAt O w f R cs ps d s):∃ A0 c0 A1 c1 A2 c2 A3 c3 A4 c4 A5 c5 A6 c6,Sees w f R cs ps d s A0 c0 A1 c1 A2 c2 A3 c3 A4 c4 A5 c5 A6 c6:=by
 have hR:=h.own.row
 have ro:=h.h.ro
 have nc:cs.length=s.b.cuts.length:=by rw[<- h.h.ec,List.length_map]
 have np:ps.length=s.plans.length:=h.h.hp.len
 obtain⟨A0,c0,e0,at0,l0⟩:=zbe (hR 0 (by decide)) ro.r0 zbC (by decide)
 obtain⟨A1,c1,e1,at1,l1⟩:=zbe (hR 1 (by decide)) ro.r1 zbp (by decide)
 obtain⟨A2,c2,e2,at2,l2⟩:=zbe (hR 2 (by decide)) ro.r2 zhh (by decide)
 obtain⟨A3,c3,e3,at3,l3⟩:=zbe (hR 3 (by decide)) ro.r3 zbv (by decide)
 obtain⟨A4,c4,e4,at4,l4⟩:=zbe (hR 4 (by decide)) ro.r4 zdt (by decide)
 obtain⟨A5,c5,e5,at5,l5⟩:=zbe (hR 5 (by decide)) ro.r5 zbp (by decide)
 obtain⟨A6,c6,e6,at6,l6⟩:=zbe (hR 6 (by decide)) ro.r6 zcd (by decide)
 rw[nc] at e0 l0
 rw[np] at e6 l6
 refine⟨A0,c0,A1,c1,A2,c2,A3,c3,A4,c4,A5,c5,A6,c6,⟨?_,e0,e1,e2,e3,e4,e5,e6,at0,at1,at2,at3,at4,at5,at6,l0,l1,l2,l3,l4,l5,l6,nc,np⟩⟩
 have hb:=h.box
 unfold flL bkL at hb
 rw[e0,e1,e2,e3,e4,e5,e6] at hb
 exact hb
theorem AtO.get{O:Nat->Prop}{w:World}{A:Option Addr}{n:List Int}(h:AtO O w 1 zad A n){k:Nat}(hk:k<n.length):∃ b off,A=some ⟨b,off,none⟩/\b<w.heap.size/\¬ O b/\w.cell? ⟨b,off+k,none⟩=some (.int .i64 (n.getD k 0)):=by
 obtain⟨b,off,e,hb,hn,hc⟩:=h k _ (qN hk)
 have:=hc 0 _ rfl
 rw[Nat.mul_one,Nat.add_zero] at this
 exact⟨b,off,e,hb,hn,by rw[this,qP,qN hk];rfl⟩
def Need(p:Prop)(e:Int)(w:World)(en:Ending)(w':World):Prop:=w=w'/\((p/\en=.returned (.tuple #[]))\/(¬ p/\en=.panicked (zaF e)))
def zrq(p:Prop)(v:Value)(e:Int)(w:World)(en:Ending)(w':World):Prop:=w=w'/\((p/\en=.returned v)\/(¬ p/\en=.panicked (zaF e)))
theorem zlA(p:Prop)[Decidable p](e:Int)(w:World):Calls Tryz.prog 66 #[.bool (decide p),.int .i64 e] w (Need p e w):=
 (zel (decide p) e w).mono fun _ _ h=>⟨h.1,h.2.imp (fun h=>⟨of_decide_eq_true h.1,h.2⟩) (fun h=>⟨of_decide_eq_false h.1,h.2⟩)⟩
theorem zc3(e:Int)(w:World):Calls Tryz.prog 240 #[.int .i64 e] w (Need (e=0) e w):=by
 by_cases h:e=0
 .subst h
  exact(zlU w).mono fun _ _ h=>⟨h.2,.inl ⟨rfl,h.1⟩⟩
 .exact(zkC e h w).mono fun _ _ g=>⟨g.2,.inr ⟨h,g.1⟩⟩
theorem zir(f:Nat)(k:Int)(A:Option Addr)(m c:Nat)(w:World)(h:w.cell? ⟨f,2,none⟩=some (.slice A m c)):Calls Tryz.prog 246 #[.pointer (some ⟨f,0,none⟩),.int .i64 k] w (Need (k<(m:Int)) 2 w):=by
 by_cases hk:k<(m:Int)
 .go_enter Tryz.func246,Tryz.ntmps246
  go_wp2_with fail
  refine(zat 2 w).mono ?_
  rintro e w' ⟨rfl,rfl⟩
  go_wp2_with fail
  go_end0
  exact⟨rfl,.inl ⟨by first|exact hk|trivial,rfl⟩⟩
 .go_enter Tryz.func246,Tryz.ntmps246
  go_wp2_with fail
  refine(zak 2 w).mono ?_
  rintro e w' ⟨rfl,rfl⟩
  exact⟨rfl,rfl,.inr ⟨by first|omega|simp,rfl⟩⟩
theorem zfc(f:Nat)(k:Int)(b off m c:Nat)(A:Option Addr)(w:World)(h0:0<=k)(hA:0<m->A=some ⟨b,off,none⟩)(h:w.cell? ⟨f,1,none⟩=some (.slice A m c)):Calls Tryz.prog 241 #[.pointer (some ⟨f,0,none⟩),.int .i64 k] w (zrq (k<(m:Int)) (.pointer (some ⟨b,off+k.toNat*3,none⟩)) 2 w):=by
 by_cases hk:k<(m:Int)
 .have aa:=hA (by omega)
  subst aa
  clear hA
  go_enter Tryz.func241,Tryz.ntmps241
  go_wp2_with fail
  refine(zat 2 w).mono ?_
  rintro e w' ⟨rfl,rfl⟩
  go_wp2_with fail
  go_ret
  exact⟨rfl,.inl ⟨by first|exact hk|trivial,rfl⟩⟩
 .clear hA
  go_enter Tryz.func241,Tryz.ntmps241
  go_wp2_with fail
  refine(zak 2 w).mono ?_
  rintro e w' ⟨rfl,rfl⟩
  exact⟨rfl,rfl,.inr ⟨by first|omega|simp,rfl⟩⟩
theorem FlAt.or{O:Nat->Prop}{w:World}{f:Nat}{R:Nat->Rw}{cs:List Cu.Cut}{ps:List Pq}{d:Ru.Die}{s:St}(h:FlAt O w f R cs ps d s):FlAt (orO O f R) w f R cs ps d s:=by
 have hO:∀ b,b<w.heap.size->orO O f R b->O b:=fun b _ x=>x.elim (fun y=>y) (h.sub b)
 exact⟨h.own,fun b x=>.inr x,fun b x=>x.elim (h.lt b) (h.own.is_lt b),h.box,h.h.keep (P:=fun _=>False) (.refl _ _) (fun _ _ x=>x.elim) hO h.h.ro,h.die.keep (P:=fun _=>False) (.refl _ _) (fun _ _ x=>x.elim) hO⟩
theorem zei{O:Nat->Prop}{w w':World}{f:Nat}{R:Nat->Rw}{cs:List Cu.Cut}{ps:List Pq}{d:Ru.Die}{s:St}(h:FlAt O w f R cs ps d s)(hb:Below w.heap.size w w'){en:Ending}{t:Tx}(e:en=.returned (tx t)):RetF O w f R d (.ok (s,t)) en w':=
 ⟨e,R,cs,ps,(h.below hb).or,.of_below hb⟩
theorem zau{O:Nat->Prop}{w w':World}{f:Nat}{R:Nat->Rw}{cs:List Cu.Cut}{ps:List Pq}{d:Ru.Die}{s:St}(h:FlAt O w f R cs ps d s)(hb:Below w.heap.size w w'){en:Ending}{c:Int}(e:en=.panicked (zaF c)):RetF O w f R d (.error c) en w':=
 ⟨e,.of_below hb,bkL R s,rfl,h.box.next hb⟩
theorem Keep.below_trans{O:Nat->Prop}{a b c:World}(h:Keep O a b)(k:Below b.heap.size b c):Keep O a c:=h.trans (.of_below (O:=fun _=>False) k) (fun _ _ x=>x.elim)
theorem zbu{O:Nat->Prop}{w w1 w':World}{f:Nat}{R R':Nat->Rw}{cs':List Cu.Cut}{ps':List Pq}{d:Ru.Die}{s':St}(h:FlAt (orO O f R') w1 f R' cs' ps' d s')(t:Turn w w1 f R R')(hb:Below w1.heap.size w1 w'){en:Ending}{x:Tx}(e:en=.returned (tx x)):RetF O w f R d (.ok (s',x)) en w':=
 ⟨e,R',cs',ps',h.below hb,⟨t.k.below_trans hb,t.n⟩⟩
theorem zjb{O:Nat->Prop}{w w1 w':World}{f:Nat}{R:Nat->Rw}{d:Ru.Die}(k:Keep (zao f R) w w1){vs:List Value}(hv:vs.length=13)(hx:Bx w1 f (vs++dieL d))(hb:Below w1.heap.size w1 w'){en:Ending}{c:Int}(e:en=.panicked (zaF c)):RetF O w f R d (.error c) en w':=
 ⟨e,k.below_trans hb,vs,hv,hx.next hb⟩
theorem zeS(V:World)(l:List Pa)(hE:Env V)(h0:l≠[])(hl:l.length<=1000)(aa:∀ x∈l,x.ok):Calls Tryz.prog 53 #[.slice (some ⟨V.heap.size,0,none⟩) l.length l.length] (V.alloc (.cells (l.map Pa.v).toArray 20)).drew fun e w'=>e=.returned (tx (rep l))/\Below V.heap.size V w':=by
 have hb:=(nxA V (.cells (l.map Pa.v).toArray 20)).drew
 refine(zh0 _ _ l _ (hE.next hb) (fun k x hx=>⟨V.heap.size,0,rfl,by show V.heap.size<(V.alloc _).heap.size;simp,fun j u hu=>?_⟩) h0 hl aa).mono fun e w' h=>⟨h.1,hb.trans (h.2.mono hb.size)⟩
 have hj:j=0:=by
  have:=(qO.1 hu).1
  simp[paV] at this
  exact this
 subst hj
 have hu:x.v=u:=by simpa [paV] using hu
 subst hu
 show(V.alloc _).cell? _=_
 rw[Nat.mul_one,Nat.zero_add,Nat.add_zero,cell_of_row _ _ _ _ 20 (0,0) (heap_alloc_new V _)]
 simp[hx]
theorem zaa{W:World}{g o:Nat}{v:Value}(h:W.cell? ⟨g,o,none⟩=some v):g<W.heap.size:=by
 unfold World.cell? at h
 split at h
 .rename_i ho;exact(qB.1 ho).1
 .cases h
theorem n2{w V:World}{g o:Nat}{v:Value}(hn:Below w.heap.size w V)(h:w.cell? ⟨g,o,none⟩=some v):V.cell? ⟨g,o,none⟩=some v:=(hn.cell (p:=⟨g,o,none⟩) (zaa h)).trans h
theorem n3(W:World){b:Obj}{g o:Nat}{v:Value}(h:W.cell? ⟨g,o,none⟩=some v):(W.alloc b).cell? ⟨g,o,none⟩=some v:=n2 ((Below.refl _ _).alloc (Nat.le_refl _) _) h
theorem zoz{R:Nat->Rw}{d:Ru.Die}{s:St}{v0 v1 v2 v3 v4 v5 v6:Value}(e0:(R 0).v=v0)(e1:(R 1).v=v1)(e2:(R 2).v=v2)(e3:(R 3).v=v3)(e4:(R 4).v=v4)(e5:(R 5).v=v5)(e6:(R 6).v=v6) :
  flL R d s=[.int .i64 s.b.hour,v0,v1,v2,.int .i64 s.b.t.n,v3,v4,v5,.int .i64 s.b.cost,.int .i64 s.plans.length,.bool s.b.opn,v6,.int .i64 s.planned,.slice d.A d.blades.length d.c,.int .i64 d.bound,.int .i64 d.stop,.int .i64 d.bend,.bool true]:=by
 subst e0 e1 e2 e3 e4 e5 e6
 rfl
theorem zcn{w:World}{f:Nat}{R:Nat->Rw}{d:Ru.Die}{s:St}{v0 v1 v2 v3 v4 v5 v6:Value}(e0:(R 0).v=v0)(e1:(R 1).v=v1)(e2:(R 2).v=v2)(e3:(R 3).v=v3)(e4:(R 4).v=v4)(e5:(R 5).v=v5)(e6:(R 6).v=v6)
  (h:Bx w f [.int .i64 s.b.hour,v0,v1,v2,.int .i64 s.b.t.n,v3,v4,v5,.int .i64 s.b.cost,.int .i64 s.plans.length,.bool s.b.opn,v6,.int .i64 s.planned,.slice d.A d.blades.length d.c,.int .i64 d.bound,.int .i64 d.stop,.int .i64 d.bend,.bool true]):Bx w f (flL R d s):=by
 rw[zoz e0 e1 e2 e3 e4 e5 e6];exact h
end
section
open Go.RowKit
open Le
theorem zdK:∀(l:List Int) (k:Nat) (x:Int),(l.flatMap zad).set k (.int .i64 x)=(l.set k x).flatMap zad
|[],_,_=>rfl
|y :: l,0,x=>rfl
|y :: l,k+1,x=>by
  show(.int .i64 y :: l.flatMap zad).set (k+1) _=_
  rw[qL,zdK l k x]
  rfl
theorem FlAt.up1{O:Nat->Prop}{w w':World}{f:Nat}{R R':Nat->Rw}{cs cs':List Cu.Cut}{ps ps':List Pq}{d:Ru.Die}{s s':St}(h:FlAt O w f R cs ps d s)(t:Turn w w' f R R')(ho:Own w' f R')(hb:Bx w' f (flL R' d s'))(ro:RowsOk R' cs' ps' s'.b)(ec:cs'.map Ct.of=s'.b.cuts)
  (ca:∀ c∈cs',c∈cs\/AtO (orO O f R') w' 1 zad c.A c.piece) (hp:HpOk Pq.p ps' s'.plans s'.planned) (pa:∀ x∈ps',x∈ps\/(AtO (orO O f R') w' 1 zad x.A x.p.e.n/\x.p.e.n.length<=x.c)):FlAt (orO O f R') w' f R' cs' ps' d s':=
 h.step t ho hb ⟨ro,ec,fun c hc=>(ca c hc).elim (fun hc=>(h.h.ca c hc).keep t.k (fun b _ x=>h.sub b x) (h.oldO t)) (fun x=>x),hp,fun c hc=>(pa c hc).elim (fun hc=>(h.h.pa c hc).keep t.k (fun b _ x=>h.sub b x) (h.oldO t)) (fun x=>x.1),fun c hc=>(pa c hc).elim (fun hc=>h.h.pc c hc) (fun x=>x.2)⟩
theorem Own.drew{w:World}{f:Nat}{R:Nat->Rw}(h:Own w f R):Own w.drew f R:=h.below ((Below.refl _ w).drew)
theorem Keep.drew{O:Nat->Prop}{w w':World}(h:Keep O w w'):Keep O w w'.drew:=⟨h.os,h.tape,h.output,h.size,h.block⟩
theorem Keep.setCell{O:Nat->Prop}{w w':World}(h:Keep O w w'){g:Nat}(hg:O g)(j:Nat)(u:Value):Keep O w (w'.setCell ⟨g,j,none⟩ u):=h.trans (.set w' hg j u) (fun _ _ x=>x)
theorem zgb{f:Nat}{R:Nat->Rw}{k:Nat}{r:Rw}(hv:blk r.v=blk (R k).v):∀ x,zao f (upR R k r) x->zao f R x:=by
 rintro x (rfl|⟨j,hj,e⟩)
 .exact .inl rfl
 .by_cases ej:j=k
  .subst ej;rw[zaU] at e;exact .inr ⟨j,hj,hv▸e⟩
  .rw[zaY _ _ ej] at e;exact .inr ⟨j,hj,e⟩
theorem zo0(O:Nat->Prop)(w:World)(f:Nat)(R:Nat->Rw)(cs:List Cu.Cut)(ps:List Pq)(d:Ru.Die)(s:St)(A:Option Addr)(c:Nat)(a:Int)(hp:Pre O w f R cs ps d s A c [a]) :
  Calls Tryz.prog 191 #[.pointer (some ⟨f,0,none⟩),.slice A 1 c] w (RetF O w f R d (resV d s .bend [a])):=by
 obtain⟨A0,c0,A1,c1,A2,c2,A3,c3,A4,c4,A5,c5,A6,c6,hs⟩:=hp.fl.sees
 obtain⟨b,off,rfl,ay,an,na⟩:=hp.na.get (k:=0) (Nat.zero_lt_one)
 have na:w.cell? ⟨b,off,none⟩=some (.int .i64 a):=na
 have HP:=qG hp
 have HS:=qG hs
 have ao:=qG an
 have az:=qG na
 have F2:=hs.x.c 2 _ rfl
 have aJ:1<=c:=hp.nc
 clear hp hs an ay
 go_enter Tryz.func191,Tryz.ntmps191
 go_wp2_with fail
 refine(zir f a A1 s.b.ran.length c1 w F2).mono ?_
 rintro e w' ⟨rfl,⟨h,rfl⟩|⟨h,rfl⟩⟩
 .have h0:0<=a:=(HP.o.nn a (qE ..)).1
  have hk:a.toNat<s.b.ran.length:=by omega
  obtain⟨g1,eg,⟨cap,ev⟩,x1,x2⟩:=Rw.ok.cell (HP.o.fl.own.row 1 (by decide)) (j:=a.toNat) (u:=.int .i64 (s.b.ran.getD a.toNat 0)) (by
   rw[HP.o.fl.h.ro.r1.2.2.2,<- zaO (cells:=zad) (size:=1) (fun _=>rfl) s.b.ran a.toNat (s.b.ran.getD a.toNat 0) 0 (.int .i64 (s.b.ran.getD a.toNat 0)) (by rw[qP,qN hk];rfl) rfl]
   rw[Nat.mul_one,Nat.add_zero])
  have aA:A1=some ⟨g1,0,none⟩:=by have:=HS.o.e1;rw[ev] at this;injection this with e1 _ _;exact e1.symm
  subst aA
  go_upto_region 2 with fail
  go_region
  have af:f≠g1:=fun e=>HP.o.fl.own.far 1 (by decide) (by rw[eg,e])
  have ag:b≠g1:=fun e=>ao.o (HP.o.fl.sub b (.inr ⟨1,by decide,by rw[eg,e]⟩))
  have aq:b≠f:=fun e=>ao.o (HP.o.fl.sub b (.inl e))
  have ac:=qG ((HS.o.x.other (g:=g1) af a.toNat (.int .i64 0)).drew)
  have aB:=qG ((HP.o.fl.own.set (k:=1) (by decide) eg (j:=a.toNat) (by rw[HP.o.fl.h.ro.r1.2.2.2,zbr (size:=1) (fun _=>rfl)];omega) (.int .i64 0)).drew)
  have aC:=qG (((Keep.refl (zao f R) w).setCell (g:=g1) (.inr ⟨1,by decide,eg⟩) a.toNat (.int .i64 0)).drew)
  have na1:(w.setCell ⟨g1,a.toNat,none⟩ (.int .i64 0)).drew.cell? ⟨b,off,none⟩=some (.int .i64 a):=(qA _ _ _ _ (by intro e;injection e with e;exact ag e.symm)).trans az.o
  generalize(w.setCell ⟨g1,a.toNat,none⟩ (.int .i64 0)).drew=V1 at *
  have HG:=qG (And.intro af ag)
  have aD:=qG aq
  have aw:0<=d.stop/\d.stop<=10000/\0<=d.bend/\d.bend<=10000:=by
   have hd:=HP.o.ok.dd
   unfold Ru.dieS Ru.inS at hd
   simp only[Bool.and_eq_true,qC] at hd
   omega
  have am:=HP.o.ok.b.ct
  have ah:=HP.o.ok.cs
  have aE:IntKind.i64.wrap (d.stop+d.bend)=d.stop+d.bend:=qF _ (by omega)
  have aF:IntKind.i64.wrap (s.b.cost+(d.stop+d.bend))=s.b.cost+(d.stop+d.bend):=qF _ (by omega)
  have aG:=qG (show 0<=s.b.cost+(d.stop+d.bend)/\s.b.cost+(d.stop+d.bend)<1000000000000000000 by omega)
  clear x1 x2 F2 na af ag aq aw am ah
  have y8:=ac.o.c 8 _ rfl
  have z8:=ac.o.fr 8
  have y15:=ac.o.c 15 _ rfl
  have y16:=ac.o.c 16 _ rfl
  go_upto_region 3 with fail
  go_region
  have ae:=qG ((ac.o.set (k:=8) (by simp) (.int .i64 (s.b.cost+(d.stop+d.bend)))).drew)
  have aH:=qG ((aB.o.setF 8 (.int .i64 (s.b.cost+(d.stop+d.bend)))).drew)
  have ar:=qG ((aC.o.setCell (g:=f) (.inl rfl) 8 (.int .i64 (s.b.cost+(d.stop+d.bend)))).drew)
  have na2:(V1.setCell ⟨f,8,none⟩ (.int .i64 (s.b.cost+(d.stop+d.bend)))).drew.cell? ⟨b,off,none⟩=some (.int .i64 a):=(qA _ _ _ _ (by intro e;injection e with e;exact aD.o e.symm)).trans na1
  generalize(V1.setCell ⟨f,8,none⟩ (.int .i64 (s.b.cost+(d.stop+d.bend)))).drew=V2 at *
  clear y8 z8 y15 y16 aE aF na1
  have aa:=qG na2
  have ai:=qG (ae.o.c 8 _ rfl)
  have aI:=qG (HP.o.env.keep ar.o (fun b hb=>HP.o.o6 b (HP.o.fl.sub b hb)))
  clear na2
  have ax:=qG (show ∀ x∈[Pa.w Vb.bend.name,.n a,.w zgE,.n (s.b.cost+(d.stop+d.bend))],x.ok from by simp only[List.forall_mem_cons];exact⟨by show _<=20;decide,⟨(HP.o.nn a (qE ..)).1,by have:=(HP.o.nn a (qE ..)).2;omega⟩,by show _<=20;decide,aG.o,fun x hx=>by cases hx⟩)
  go_upto_region 4 with fail
  refine wp_region_noPanic ?_
  refine wp_region_held_drew (S:=(fun W=>W.cell? ⟨b,off,none⟩=some (.int .i64 a)/\W.cell? ⟨f,8,none⟩=some (.int .i64 (s.b.cost+(d.stop+d.bend))))) (by kernel_rfl) ?_ (fun ab=>?_)
  ·(try dsimp only);exact⟨aa.o,ai.o⟩
  refine ht 0 (h:=?_)
  refine ht 1 (h:=?_)
  refine ht 2 (h:=?_)
  refine ht 3 (h:=?_)
  refine ht 4 (h:=?_)
  refine ht 5 (h:=?_)
  refine ht 6 (h:=?_)
  refine ht 7 (h:=?_)
  refine ht 8 (h:=?_)
  refine ht 9 (h:=?_)
  refine ht 10 (h:=?_)
  refine ht 11 (h:=?_)
  refine ht 12 (h:=?_)
  refine r1 (i:=13) (by kernel_rfl) rfl fun K hK=>?_
  go_simp
  have au:=qG (nxA V2 (.cells (([.w Vb.bend.name,.n a,.w zgE,.n (s.b.cost+(d.stop+d.bend))]:List Pa).map Pa.v).toArray 20))
  refine hK.out _ _ ?_ (fun ab=>?_)
  ·(try dsimp only);exact⟨(au.o.cell (p:=⟨b,off,none⟩) (zaa aa.o)).trans aa.o,(au.o.cell (p:=⟨f,8,none⟩) ae.o.lt).trans ai.o⟩
  clear hK K
  try simp only[qW]
  refine r1 (i:=14) (by kernel_rfl) rfl fun K hK=>?_
  go_simp
  refine(zeS V2 [.w Vb.bend.name,.n a,.w zgE,.n (s.b.cost+(d.stop+d.bend))] aI.o (by simp) (by simp) ax.o).mono ?_;rintro e V3 ⟨rfl,aj⟩;have ak:=qG aj;clear aj
  refine hK.out _ _ ?_ (fun ab=>?_)
  ·(try dsimp only);exact⟨(ak.o.cell (p:=⟨b,off,none⟩) (zaa aa.o)).trans aa.o,(ak.o.cell (p:=⟨f,8,none⟩) ae.o.lt).trans ai.o⟩
  clear hK K
  try simp only[qW]
  refine ht 15 (h:=?_)
  refine wpAnyH_done (by kernel_rfl) ?_ _
  refine NoPanic.normal ?_
  iterate 17 (try clear ab)
  go_wp2_with fail
  go_ret
  rw[show resV d s .bend [a]=.ok (⟨{ s.b with ran:=s.b.ran.set a.toNat 0,cost:=s.b.cost+(d.stop+d.bend) },s.plans,s.planned⟩,rep [.w Vb.bend.name,.n a,.w zgE,.n (s.b.cost+(d.stop+d.bend))]) from by unfold resV doV;simp only[List.getD_cons_zero];rw[if_neg (by omega)];rfl]
  have ht:Turn w V2 f R (upR R 1 { R 1 with xs:=(R 1).xs.set a.toNat (.int .i64 0) }):=⟨ar.o,fun x _ hx=>zgb (k:=1) (r:={ R 1 with xs:=(R 1).xs.set a.toNat (.int .i64 0) }) rfl x hx⟩
  refine zbu (HP.o.fl.up1 (s':=⟨{ s.b with ran:=s.b.ran.set a.toNat 0,cost:=s.b.cost+(d.stop+d.bend) },s.plans,s.planned⟩) ht aH.o ?_ ?_ HP.o.fl.h.ec (fun c hc=>.inl hc) HP.o.fl.h.hp (fun x hx=>.inl hx)) ht ak.o rfl
  .exact zcn HS.o.e0 HS.o.e1 HS.o.e2 HS.o.e3 HS.o.e4 HS.o.e5 HS.o.e6 ae.o
  .have ro:=HP.o.fl.h.ro
   exact⟨ro.r0,⟨ro.r1.1,ro.r1.2.1,by rw[List.length_set];exact ro.r1.2.2.1,by show(R 1).xs.set _ _=_;rw[ro.r1.2.2.2,zdK]⟩,ro.r2,ro.r3,ro.r4,ro.r5,ro.r6⟩
 .have hr:resV d s .bend [a]=.error 2:=by unfold resV doV;simp only[List.getD_cons_zero];rw[if_pos (by omega)]
  exact⟨rfl,by rw[hr];exact zau HP.o.fl (Below.refl _ _) rfl⟩
theorem zbf(V:World)(l:List Pa)(hE:Env V)(h0:l≠[])(hl:l.length<=1000)(aa:∀ x∈l,x.ok):Calls Tryz.prog 53 #[.slice (some ⟨V.heap.size,0,none⟩) l.length l.length] (V.alloc (.cells (l.map Pa.v).toArray 20)) fun e w'=>e=.returned (tx (rep l))/\Below V.heap.size V w':=by
 have hb:=(nxA V (.cells (l.map Pa.v).toArray 20))
 refine(zh0 _ _ l _ (hE.next hb) (fun k x hx=>⟨V.heap.size,0,rfl,by simp,fun j u hu=>?_⟩) h0 hl aa).mono fun e w' h=>⟨h.1,hb.trans (h.2.mono hb.size)⟩
 have hj:j=0:=by
  have:=(qO.1 hu).1
  simp[paV] at this
  exact this
 subst hj
 have hu:x.v=u:=by simpa [paV] using hu
 subst hu
 rw[Nat.mul_one,Nat.zero_add,Nat.add_zero,cell_of_row _ _ _ _ 20 (0,0) (heap_alloc_new V _)]
 simp[hx]
theorem BOk.okT{d:Ru.Die}{b:Bk}(h:BOk d b):Le.OkT b.t:=Le.zcL (Le.zdf.1 h.ft).1
theorem Sees.tale{O:Nat->Prop}{w:World}{f:Nat}{R:Nat->Rw}{cs:List Cu.Cut}{ps:List Pq}{d:Ru.Die}{s:St}{A0 A1 A2 A3 A4 A5 A6:Option Addr}{c0 c1 c2 c3 c4 c5 c6:Nat}{A:Option Addr}{c:Nat}{n:List Int}(h:Sees w f R cs ps d s A0 c0 A1 c1 A2 c2 A3 c3 A4 c4 A5 c5 A6 c6)(hp:Pre O w f R cs ps d s A c n):TaleAt w w.heap.size ⟨s.b.t,A3,c3,A4,c4,A5,c5⟩:=by
 have ok:=hp.ok.b.okT
 have h1:=ok.lo
 have h2:=ok.lk
 have h3:=ok.a2
 exact⟨h.a3,h.a4,h.a5,by show s.b.t.loans.length<=_;omega,by show s.b.t.looks.length<=_;omega,by show s.b.t.admits.length<=_;omega,h.l3,h.l4,h.l5⟩
theorem zl6(t:Le.Tl)(p:Int):(0:Int)<=((Le.whoS t p).1:Nat)/\(((Le.whoS t p).1:Nat):Int)<1000000000000000000:=by
 rw[Le.zkJ]
 split
 .have:=Le.zhr (Le.whoB t p.toNat) 8
  show(0:Int)<=(Le.setB (Le.whoB t p.toNat) 8:Nat)/\((Le.setB (Le.whoB t p.toNat) 8:Nat):Int)<_
  omega
 .show(0:Int)<=(0:Nat)/\((0:Nat):Int)<_
  omega
theorem zjx(t:Le.Tl)(p:Nat):∀ n:Nat,(0<=(Le.zax t p n).1/\(Le.zax t p n).1<=n)/\0<=(Le.zax t p n).2.1/\(Le.zax t p n).2.1<=n
|0=>by unfold Le.zax;exact⟨⟨Int.le_refl _,Int.le_refl _⟩,Int.le_refl _,Int.le_refl _⟩
|n+1=>by
  have ih:=zjx t p n
  unfold Le.zax
  dsimp only
  split
  .dsimp only
   split <;> omega
  .omega
theorem zkW{t:Le.Tl}(ok:Le.OkT t)(p:Int)(h:(Le.zaX t p).2=0):(0<=(Le.zaX t p).1.1/\(Le.zaX t p).1.1<1000000000000000000)/\0<=(Le.zaX t p).1.2/\(Le.zaX t p).1.2<1000000000000000000:=by
 rw[Le.zjw] at h ⊢
 split at h
 .rename_i h0
  rw[if_pos h0]
  by_cases ha:t.admits.getD p.toNat 0≠-1
  .rw[if_pos ha]
   have hb:-1<=t.admits.getD p.toNat 0/\t.admits.getD p.toNat 0<=16:=by
    rw[qP]
    cases e:t.admits[p.toNat]? with
   |none=>exact⟨by decide,by decide⟩
   |some y=>exact ok.adm y (List.mem_of_getElem? e)
   dsimp only
   omega
  .rw[if_neg ha]
   have:=zjx t p.toNat (t.n.toNat+1)
   have aa:=ok.n2
   dsimp only
   omega
 .rename_i h0
  exact absurd h h0
theorem off_bd{d:Ru.Die}{k x:Int}(h:(Ru.offS d k x).2=0):(0<=(Ru.offS d k x).1.1/\(Ru.offS d k x).1.1<1000000000000000000)/\0<=(Ru.offS d k x).1.2/\(Ru.offS d k x).1.2<=70010000:=by
 obtain⟨h1,h2,h3,h4⟩:=zmy h
 have hb:Ru.OkB (Ru.bladeAt d k.toNat):=by
  have hd:=(Ru.zhA d).1 h1
  unfold Ru.bladeAt
  rw[qP,qN (by omega)]
  exact hd.bl _ (List.getElem_mem _)
 have h5:=hb.off_bd h3.1 h3.2
 have h6:(Ru.offS d k x).1.1=Ru.offLo (Ru.bladeAt d k.toNat) x:=by
  unfold Ru.offS at h ⊢
  split at h
  .cases h
  .rename_i g1
   split at h
   .cases h
   .rename_i g2
    rw[if_neg g1,if_neg g2]
 have h7:=hb.f
 rw[h6,h4]
 unfold Ru.offLo Ru.worstS
 omega
theorem zaK(g:Nat->Int)(B:Int):∀ n:Nat,(∀ k,k<n->0<=g k/\g k<=B)->0<=Cu.zai g n/\Cu.zai g n<=n*B
|0,_=>⟨Int.le_refl _,by simp[Cu.zai]⟩
|n+1,h=>by
  have ih:=zaK g B n (fun k hk=>h k (by omega))
  have hn:=h n (Nat.lt_succ_self n)
  have e:((n+1:Nat):Int)*B=n*B+B:=by rw[Int.natCast_add,Int.add_mul];simp
  show 0<=Cu.zai g n+g n/\Cu.zai g n+g n<=_
  rw[e]
  omega
theorem zal{W:World}{b0 off g:Nat}{x y:Value}(h:b0≠g):((W.setCell ⟨g,0,none⟩ x).setCell ⟨g,1,none⟩ y).cell? ⟨b0,off,none⟩=W.cell? ⟨b0,off,none⟩:=by
 have aa:∀ j:Nat,(⟨g,j,none⟩:Addr)≠⟨b0,off,none⟩:=fun j e=>by injection e with e;exact h e.symm
 rw[qA _ _ _ _ (aa 1),qA _ _ _ _ (aa 0)]
theorem FlAt.dieAt{O:Nat->Prop}{w:World}{f:Nat}{R:Nat->Rw}{cs:List Cu.Cut}{ps:List Pq}{d:Ru.Die}{s:St}(h:FlAt O w f R cs ps d s)(hd:Ru.dieS d=true):Ru.DieAt w w.heap.size d:=by
 refine⟨fun k x hx=>?_,?_⟩
 .obtain⟨b,off,e,hb,-,hc⟩:=h.die k x hx
  exact⟨b,off,e,hb,hc⟩
 .have:=((Ru.zhA d).1 hd).nb
  omega
def zko(lo hi e:Int)(w:World)(s5 s6:Value)(wx:World):Prop:=s6=.int .i64 e/\∃ b5,s5=.pointer (some ⟨b5,0,none⟩)/\Bx wx b5 [.int .i64 lo,.int .i64 hi]/\Below w.heap.size w wx
structure Mid(w V:World)(f:Nat)(R R':Nat->Rw)(L:List Value):Prop where
 o:Own V f R'
 x:Bx V f L
 k:Keep (zao f R) w V
 n:∀ x,x<w.heap.size->zao f R' x->zao f R x
section
variable {w V V':World} {f:Nat} {R R':Nat->Rw} {L:List Value}
theorem Mid.below(h:Mid w V f R R' L)(b:Below V.heap.size V V'):Mid w V' f R R' L:=⟨h.o.below b,h.x.next b,h.k.below_trans b,h.n⟩
theorem Mid.drew(h:Mid w V f R R' L):Mid w V.drew f R R' L:=h.below ((Below.refl _ V).drew)
theorem Keep.setC{O:Nat->Prop}{a b:World}(h:Keep O a b){g:Nat}(hg:g<a.heap.size->O g)(j:Nat)(u:Value):Keep O a (b.setCell ⟨g,j,none⟩ u):=
 ⟨h.os,h.tape,h.output,by rw[World.size_setCell];exact h.size,fun i hi hn=>(Below.heap_setCell _ _ _ i (by intro e;have e:i=g:=e;subst e;exact hn (hg hi))).trans (h.block i hi hn)⟩
theorem Mid.setF(h:Mid w V f R R' L){j:Nat}(hj:j<L.length)(u:Value):Mid w (V.setCell ⟨f,j,none⟩ u) f R R' (L.set j u):=
 ⟨h.o.setF j u,h.x.set hj u,h.k.setC (fun _=>.inl rfl) j u,h.n⟩
theorem Mid.setR(h:Mid w V f R R' L){k:Nat}(hk:k<7){g:Nat}(hg:blk (R' k).v=some g){j:Nat}(hj:j<(R' k).xs.length)(u:Value):Mid w (V.setCell ⟨g,j,none⟩ u) f R (upR R' k { R' k with xs:=(R' k).xs.set j u }) L:=
 ⟨h.o.set hk hg hj u,h.x.other (fun e=>h.o.far k hk (by rw[hg,e])) j u,h.k.setC (fun hl=>h.n g hl (.inr ⟨k,hk,hg⟩)) j u,fun x hx ho=>h.n x hx (zgb (k:=k) (r:={ R' k with xs:=(R' k).xs.set j u }) rfl x ho)⟩
theorem Mid.setRs(h:Mid w V f R R' L){k:Nat}(hk:k<7){g:Nat}(hg:blk (R' k).v=some g)(us:List Value){j:Nat}(hj:j+us.length<=(R' k).xs.length):Mid w (setCells V g j us) f R (upR R' k { R' k with xs:=putL (R' k).xs j us }) L:=
 ⟨h.o.setAll hk hg us hj,h.x.setOther (fun e=>h.o.far k hk (by rw[hg,e])) us j,
  ⟨(zaM g us j V).os.trans h.k.os,(zaM g us j V).tape.trans h.k.tape,(zaM g us j V).output.trans h.k.output,Nat.le_trans h.k.size (zaM g us j V).size,
  fun i hi hn=>((zaM g us j V).block i (qM hi h.k.size) (by intro e;injection e with e;exact hn (h.n i hi (.inr ⟨k,hk,by rw[hg,e]⟩)))).trans (h.k.block i hi hn)⟩,
  fun x hx ho=>h.n x hx (zgb (k:=k) (r:={ R' k with xs:=putL (R' k).xs j us }) rfl x ho)⟩
theorem Mid.app(h:Mid w V f R R' L){k:Nat}(hk:k<7){r:Rw}(hg:V.grownBy V' (blk (R' k).v))(hr:r.ok V')(hv:blk r.v=blk (R' k).v\/∀ g,blk r.v=some g->V.heap.size<=g):Mid w V' f R (upR R' k r) L:=
 ⟨h.o.up hk hg hr hv,Le.Bx.grownR h.x hg (fun r e e2=>h.o.far k hk (by rw[e,e2])),
  ⟨hg.os.trans h.k.os,hg.tape.trans h.k.tape,hg.output.trans h.k.output,Nat.le_trans h.k.size hg.size,fun i hi hn=>(hg.block i (qM hi h.k.size) (fun e=>hn (h.n i hi (.inr ⟨k,hk,e.symm⟩)))).trans (h.k.block i hi hn)⟩,
  fun x hx ho=>h.n x hx (zqR hk hv x (qM hx h.k.size) ho)⟩
theorem Mid.turn(h:Mid w V f R R' L):Turn w V f R R':=⟨h.k,h.n⟩
theorem Mid.cell(h:Mid w V f R R' L){b o:Nat}{v:Value}(hn:¬ zao f R b)(hc:w.cell? ⟨b,o,none⟩=some v):V.cell? ⟨b,o,none⟩=some v:=(h.k.cell (zaa hc) hn).trans hc
theorem Mid.env(h:Mid w V f R R' L){O:Nat->Prop}{cs:List Cu.Cut}{ps:List Pq}{d:Ru.Die}{s:St}{A:Option Addr}{c:Nat}{n:List Int}(p:Pre O w f R cs ps d s A c n):Env V:=p.env.keep h.k (fun b hb=>p.o6 b (p.fl.sub b hb))
theorem Mid.at_(h:Mid w V f R R' L){O:Nat->Prop}{α:Type}{size:Nat}{cells:α->List Value}{A:Option Addr}{l:List α}(ha:AtO O w size cells A l)(hO:∀ b,zao f R b->O b):At V V.heap.size size cells A l:=(ha.keep (O':=O) h.k (fun b _ x=>hO b x) (fun _ _ x=>x)).at_
end
theorem Rw.ok.form{r:Rw}{w:World}(h:r.ok w):∃ A c,r.v=.slice A r.n c/\r.n<=c:=by
 rcases h.2 with ⟨A,e,e2⟩|⟨g,cap,cur,e,_,hn,_⟩
 .exact⟨A,0,by rw[e,e2],by omega⟩
 .exact⟨_,_,e,hn⟩
theorem zaJ{K:Act->World->Prop}{a:Act}{W:World}{vs:Array Value}{t:TypeId}
  (h:∀ W',Below W.heap.size W W'->Bx W' W.heap.size vs.toList->W'.heap[W.heap.size]?=some (.cells vs t (0,0))->K a W'):K a (W.alloc (.cells vs t)).drew:=
 h _ (nxA W _).drew (Bx.new W vs t).drew (heap_alloc_new W _)
theorem _root_.Go.Proofs.YtankkcbofgighaaGreatDoor.Le.Bx.news{W:World}{b:Nat}{vs:List Value}(h:Bx W b vs):∀ j u,vs[j]?=some u->W.cell? ((⟨b,0,none⟩:Addr).add j)=some u:=fun j u hu=>by
 rw[show(⟨b,0,none⟩:Addr).add j=⟨b,j,none⟩ by unfold Addr.add;split <;> simp_all];exact h.c j u hu
def ziS(w:World)(f:Nat)(R R':Nat->Rw)(L:List Value)(k j:Nat)(e:TypeId)(size n:Nat)(xs:List Value)(wx:World):Prop:=∃ v',Mid w wx f R (upR R' k ⟨e,size,v',n,xs⟩) (L.set j v')
theorem zcj{P:Program}{ops:Array Oper}{o:Oper}{a:Act}{w:World}{K:Act->World->Prop}{Q:Exit->Act->World->Prop}{E:Prop}(aa:o.guard=none)(ty:TypeId)(x y:Operand)(ho:o.op=.store ty x y)
  (b j:Nat) (cells:Array Value) (hx:a.eval x=.pointer (some ⟨b,j,none⟩)) (hy:a.eval y=.agg cells)
  (ht:w.there b j cells.size) (hi:(P.info? ty).map (·.size)=some cells.size) (h1:cells.all (·.oneCell')=true)
  (h:K (a.put o.dst undef) (w.setCells b j cells.toList)):if Region.wanted o (yielded ops a.tmps)=true then Oper.wp P o a w K Q else E:=by
 have hw:Region.wanted o (yielded ops a.tmps)=true:=by simp[Region.wanted,aa]
 rw[if_pos hw]
 exact wp_store_mid ty x y ho b j cells hx hy ht hi h1 h
theorem Rw.ok.there{r:Rw}{w:World}(h:r.ok w){g:Nat}(hg:blk r.v=some g){j n:Nat}(hj:j+n<=r.xs.length):w.there g j n:=fun i hi=>by
 obtain⟨g',e,-,h1,h2⟩:=h.cell (qN (show j+i<r.xs.length by omega))
 have:g'=g:=Option.some.inj (e.symm.trans hg)
 subst this
 exact⟨by rw[h1];rfl,h2⟩
def seL(d:Ru.Die)(s:St)(A0:Option Addr)(c0:Nat)(A1:Option Addr)(c1:Nat)(A2:Option Addr)(c2:Nat)(A3:Option Addr)(c3:Nat)(A4:Option Addr)(c4:Nat)(A5:Option Addr)(c5:Nat)(A6:Option Addr)(c6:Nat):List Value:=
 [.int .i64 s.b.hour,.slice A0 s.b.cuts.length c0,.slice A1 s.b.ran.length c1,.slice A2 s.b.made.length c2,.int .i64 s.b.t.n,.slice A3 s.b.t.loans.length c3,.slice A4 s.b.t.looks.length c4,.slice A5 s.b.t.admits.length c5,.int .i64 s.b.cost,.int .i64 s.plans.length,.bool s.b.opn,.slice A6 s.plans.length c6,.int .i64 s.planned,.slice d.A d.blades.length d.c,.int .i64 d.bound,.int .i64 d.stop,.int .i64 d.bend,.bool true]
theorem Mid.sees{O:Nat->Prop}{w:World}{f:Nat}{R:Nat->Rw}{cs:List Cu.Cut}{ps:List Pq}{d:Ru.Die}{s:St}{A0 A1 A2 A3 A4 A5 A6:Option Addr}{c0 c1 c2 c3 c4 c5 c6:Nat}(h:FlAt O w f R cs ps d s)(hs:Sees w f R cs ps d s A0 c0 A1 c1 A2 c2 A3 c3 A4 c4 A5 c5 A6 c6):Mid w w f R R (seL d s A0 c0 A1 c1 A2 c2 A3 c3 A4 c4 A5 c5 A6 c6):=⟨h.own,hs.x,.refl _ _,fun _ _ x=>x⟩
theorem Mid.late{O:Nat->Prop}{w V w':World}{f:Nat}{R R':Nat->Rw}{L:List Value}{d:Ru.Die}(h:Mid w V f R R' L)(aa:L.drop 13=dieL d)(hl:13<=L.length)(hb:Below V.heap.size V w'){en:Ending}{c:Int}(e:en=.panicked (zaF c)):RetF O w f R d (.error c) en w':=
 zjb h.k (vs:=L.take 13) (by rw[List.length_take];omega) (by rw[<- aa,List.take_append_drop];exact h.x) hb e
theorem zgH{r:Rw}{e:TypeId}{size n:Nat}{v:Value}{xs:List Value}(h:r.e=e/\r.size=size/\r.n=n/\r.xs=xs)(hv:r.v=v):r=⟨e,size,v,n,xs⟩:=by
 obtain⟨rfl,rfl,rfl,rfl⟩:=h
 subst hv
 rfl
def zqw(t:Le.Tl)(w:World)(en:Ending)(w':World):Prop:=Below w.heap.size w w'/\((fitE t=0/\en=.returned (.tuple #[]))\/(fitE t≠0/\en=.panicked (zaF (fitE t))))
theorem zci(t:Le.Tl)(A3:Option Addr)(c3:Nat)(A4:Option Addr)(c4:Nat)(A5:Option Addr)(c5:Nat)(f:Nat)(w:World)(h4:w.cell? ⟨f,4,none⟩=some (.int .i64 t.n))(h5:w.cell? ⟨f,5,none⟩=some (.slice A3 t.loans.length c3))(h6:w.cell? ⟨f,6,none⟩=some (.slice A4 t.looks.length c4))(h7:w.cell? ⟨f,7,none⟩=some (.slice A5 t.admits.length c5))
  (ht:TaleAt w w.heap.size ⟨t,A3,c3,A4,c4,A5,c5⟩):Calls Tryz.prog 247 #[.pointer (some ⟨f,0,none⟩)] w (zqw t w):=by
 have HT:=qG ht
 clear ht
 obtain⟨x,hx⟩:∃ x,x=zby t:=⟨_,rfl⟩
 have HF:=qG (show fitE t=if x.2=0 then 6 else if x.2=4 then 0 else x.2 from by rw[hx];rfl)
 have HX:=qG hx
 clear hx
 go_enter Tryz.func247,Tryz.ntmps247
 go_wp2_with fail
 refine(zny ⟨t,A3,c3,A4,c4,A5,c5⟩ w HT.o).mono ?_
 rintro e V ⟨rfl,hb⟩
 have HB:=qG hb
 clear hb h4 h5 h6 h7
 simp only[zpk,<- HX.o]
 obtain⟨k,c⟩:=x
 by_cases h0:c=0
 .subst h0
  go_wp2_with fail
  refine(zak 6 V).mono ?_
  rintro e w' ⟨rfl,rfl⟩
  have h6:fitE t=6:=by rw[HF.o];simp
  exact⟨rfl,HB.o,.inr ⟨by rw[h6];decide,by rw[h6]⟩⟩
 .have h1:(c !=0)=true:=by simpa using h0
  by_cases h4:c=4
  .subst h4
   go_wp2_with fail
   refine(zat 6 V).mono ?_
   rintro e w' ⟨rfl,rfl⟩
   go_wp2_with fail
   refine(zat 4 V).mono ?_
   rintro e w' ⟨rfl,rfl⟩
   go_wp2_with fail
   go_end0
   exact⟨HB.o,.inl ⟨by rw[HF.o];simp,rfl⟩⟩
  .have h2:(c==4)=false:=by simpa using h4
   have HE:=qG (show fitE t=c by rw[HF.o];rw[if_neg h0,if_neg h4])
   have H0:=qG h0
   clear h0 h4
   go_wp2_with fail
   refine(zat 6 V).mono ?_
   rintro e w' ⟨rfl,rfl⟩
   go_wp2_with fail
   refine(zak c V).mono ?_
   rintro e w' ⟨rfl,rfl⟩
   exact⟨rfl,HB.o,.inr ⟨by rw[HE.o];exact H0.o,by rw[HE.o]⟩⟩
theorem Mid.tale{w V:World}{f:Nat}{R R':Nat->Rw}{L:List Value}(h:Mid w V f R R' L)(t:Le.Tl){A3 A4 A5:Option Addr}{c3 c4 c5:Nat}
  (h3:(R' 3).e=67/\(R' 3).size=3/\(R' 3).n=t.loans.length/\(R' 3).xs=t.loans.flatMap Le.Loan.cells) (h4:(R' 4).e=194/\(R' 4).size=3/\(R' 4).n=t.looks.length/\(R' 4).xs=t.looks.flatMap Le.Look.cells)
  (h5:(R' 5).e=3/\(R' 5).size=1/\(R' 5).n=t.admits.length/\(R' 5).xs=t.admits.flatMap zad)
  (v3:(R' 3).v=.slice A3 t.loans.length c3) (v4:(R' 4).v=.slice A4 t.looks.length c4) (v5:(R' 5).v=.slice A5 t.admits.length c5) (l3:t.loans.length<=1000) (l4:t.looks.length<=1000) (l5:t.admits.length<=1000):TaleAt V V.heap.size ⟨t,A3,c3,A4,c4,A5,c5⟩:=by
 obtain⟨B3,d3,e3,a3,k3⟩:=zbe (h.o.row 3 (by decide)) h3 zbv (by decide)
 obtain⟨B4,d4,e4,a4,k4⟩:=zbe (h.o.row 4 (by decide)) h4 zdt (by decide)
 obtain⟨B5,d5,e5,a5,k5⟩:=zbe (h.o.row 5 (by decide)) h5 zbp (by decide)
 rw[v3] at e3
 rw[v4] at e4
 rw[v5] at e5
 injection e3 with x1 _ x2
 injection e4 with y1 _ y2
 injection e5 with z1 _ z2
 subst x1 x2 y1 y2 z1 z2
 exact⟨a3,a4,a5,by show t.loans.length<=_;omega,by show t.looks.length<=_;omega,by show t.admits.length<=_;omega,k3,k4,k5⟩
theorem Rw.ok.elem{α:Type}{cells:α->List Value}{r:Rw}{w:World}{e:TypeId}{size:Nat}{l:List α}(h:r.ok w)(hr:r.e=e/\r.size=size/\r.n=l.length/\r.xs=l.flatMap cells)(hs:∀ x,(cells x).length=size)(h0:0<size){k:Nat}{x:α}(hx:l[k]?=some x) :
  ∃ g cap,blk r.v=some g/\r.v=.slice (some ⟨g,0,none⟩) l.length (cap+1)/\∀ j u,(cells x)[j]?=some u->w.cell? ⟨g,k*size+j,none⟩=some u/\w.frozen? ⟨g,k*size+j,none⟩=false:=by
 obtain⟨-,h2,h3,h4⟩:=hr
 have hc:∀ j u,(cells x)[j]?=some u->r.xs[k*size+j]?=some u:=fun j u hu=>by rw[h4];exact zaO hs l k x j u hx hu
 have hl:0<(cells x).length:=by rw[hs];exact h0
 obtain⟨g,e1,⟨cap,e2⟩,-,-⟩:=h.cell (hc 0 _ (qN hl))
 refine⟨g,cap,e1,by rw[e2,h3],fun j u hu=>?_⟩
 obtain⟨g',e3,-,e4,e5⟩:=h.cell (hc j u hu)
 have:g'=g:=Option.some.inj (e3.symm.trans e1)
 subst this
 exact⟨e4,e5⟩
end
section
open Go.RowKit
open Le (At Bx setCells zad nxA Ret RetQ)
attribute [local go_sem] Oper.semAt_some
structure MadeF(b3:Nat)(W:World)(F:Nat->Option Rw):Prop where
 ok:∀ k r,F k=some r->r.ok W/\∀ g,blk r.v=some g->b3<g
 ap:∀ j k r q,F j=some r->F k=some q->j≠k->∀ g,blk r.v=some g->blk q.v≠some g
def upF(F:Nat->Option Rw)(k:Nat)(r:Rw):Nat->Option Rw:=fun j=>if j=k then some r else F j
theorem zbW(F:Nat->Option Rw)(k:Nat)(r:Rw):upF F k r k=some r:=if_pos rfl
theorem zav(F:Nat->Option Rw){k j:Nat}(r:Rw)(h:j≠k):upF F k r j=F j:=if_neg h
theorem MadeF.lt{b3:Nat}{W:World}{F:Nat->Option Rw}(h:MadeF b3 W F){k:Nat}{r:Rw}(e:F k=some r){g:Nat}(hg:blk r.v=some g):g<W.heap.size:=(h.ok k r e).1.lt hg
theorem MadeF.below{b3:Nat}{W W':World}{F:Nat->Option Rw}(h:MadeF b3 W F)(hb:Below W.heap.size W W'):MadeF b3 W' F:=
 ⟨fun k r e=>⟨(h.ok k r e).1.keep (.of_below (O:=fun _=>False) hb) (fun _ _ x=>x),(h.ok k r e).2⟩,h.ap⟩
theorem MadeF.set{b3:Nat}{W:World}{F:Nat->Option Rw}(h:MadeF b3 W F){b:Nat}(hb:b<=b3)(j:Nat)(u:Value):MadeF b3 (W.setCell ⟨b,j,none⟩ u) F:=
 ⟨fun k r e=>⟨(h.ok k r e).1.grown (zaq W b j u) (fun g hg e2=>by injection e2 with e2;have:=(h.ok k r e).2 g hg;omega),(h.ok k r e).2⟩,h.ap⟩
theorem MadeF.put{b3:Nat}{W:World}{F:Nat->Option Rw}(h:MadeF b3 W F){W':World}(hb:Below W.heap.size W W')(hs:b3<W.heap.size)(k:Nat){r:Rw}(hr:r.ok W')(hg:∀ g,blk r.v=some g->W.heap.size<=g):MadeF b3 W' (upF F k r):=by
 have h2:=h.below hb
 refine⟨fun j q e=>?_,fun i j q q' e e' ab g hq aa=>?_⟩
 .by_cases hj:j=k
  .rw[hj,zbW] at e;injection e with e;subst e
   exact⟨hr,fun g e=>by have:=hg g e;omega⟩
  .rw[zav _ _ hj] at e;exact h2.ok j q e
 .by_cases hi:i=k
  .rw[hi,zbW] at e;injection e with e;subst e
   rw[zav _ _ (by omega)] at e'
   have:=h.lt e' aa
   have:=hg g hq
   omega
  .rw[zav _ _ hi] at e
   by_cases hj:j=k
   .rw[hj,zbW] at e';injection e' with e';subst e'
    have:=h.lt e hq
    have:=hg g aa
    omega
   .rw[zav _ _ hj] at e';exact h.ap i j q q' e e' ab g hq aa
theorem MadeF.cell{b3:Nat}{W:World}{F:Nat->Option Rw}(h:MadeF b3 W F){k:Nat}{r:Rw}(e:F k=some r){g:Nat}(hg:blk r.v=some g){j:Nat}(hj:j<r.xs.length)(u:Value):MadeF b3 (W.setCell ⟨g,j,none⟩ u) (upF F k { r with xs:=r.xs.set j u }):=by
 refine⟨fun i q e1=>?_,fun i m q q' e1 e2 ab g' hq aa=>?_⟩
 .by_cases hi:i=k
  .rw[hi,zbW] at e1;injection e1 with e1;subst e1
   exact⟨Rw.ok.set (h.ok k r e).1 hg hj u,(h.ok k r e).2⟩
  .rw[zav _ _ hi] at e1
   exact⟨(h.ok i q e1).1.grown (zaq W g j u) (fun g' ac e3=>by injection e3 with e3;subst e3;exact h.ap i k q r e1 e hi g ac hg),(h.ok i q e1).2⟩
 .by_cases hi:i=k
  .rw[hi,zbW] at e1;injection e1 with e1;subst e1
   rw[zav _ _ (by omega)] at e2
   exact h.ap k m r q' e e2 (by omega) g' hq aa
  .rw[zav _ _ hi] at e1
   by_cases hm:m=k
   .rw[hm,zbW] at e2;injection e2 with e2;subst e2
    exact h.ap i k q r e1 e (by omega) g' hq aa
   .rw[zav _ _ hm] at e2
    exact h.ap i m q q' e1 e2 ab g' hq aa
theorem MadeF.one{b3:Nat}{W:World}{r:Rw}(hr:r.ok W)(hg:∀ g,blk r.v=some g->b3<g)(k:Nat):MadeF b3 W (upF (fun _=>none) k r):=by
 refine⟨fun j q e=>?_,fun i j q q' e e' aa g hq ab=>?_⟩
 .by_cases hj:j=k
  .rw[hj,zbW] at e;injection e with e;subst e;exact⟨hr,hg⟩
  .rw[zav _ _ hj] at e;cases e
 .by_cases hi:i=k
  .rw[zav _ _ (by omega)] at e';cases e'
  .rw[zav _ _ hi] at e;cases e
theorem zbk(b:Nat):∀(l:List Value) (o:Nat) (w:World),w.setCells b o l=setCells w b o l
|[],_,_=>rfl
|_ :: l,o,_=>zbk b l (o+1) _
theorem znR{xs us:List Value}(h:xs.length=us.length):putL xs 0 us=us:=by
 apply List.ext_getElem?
 intro i
 rw[zdq us xs 0 i (by omega)]
 by_cases hi:i<us.length
 .rw[if_pos ⟨Nat.zero_le _,by omega⟩];rfl
 .rw[if_neg (by omega),List.getElem?_eq_none (by omega),List.getElem?_eq_none (by omega)]
theorem zi7{α:Type}{cells:α->List Value}{w:World}(dT sT ty elem:TypeId)(size:Nat)(hu:Tryz.prog.underlying dT=some (.slice elem))(hs:(Tryz.prog.info? elem).map (·.size)=some size)(af:∀ y,(cells y).length=size)(h0:0<size)
  (aj:∀(l:List α),∀ u∈l.flatMap cells,u.oneCell'=true) (g:Nat) (A:Option Addr) (l:List α) (c B:Nat) (ag:At w B size cells A l) {xs:List Value} (hr:Rw.ok ⟨elem,size,.slice (some ⟨g,0,none⟩) l.length l.length,l.length,xs⟩ w) :
  ∃ w',(Builtin.copy_ #[dT,sT] ty #[.slice (some ⟨g,0,none⟩) l.length l.length,.slice A l.length c]).run Tryz.prog w=.ok (.int .i64 l.length) w'/\Rw.ok ⟨elem,size,.slice (some ⟨g,0,none⟩) l.length l.length,l.length,l.flatMap cells⟩ w'/\w.grownBy w' (some g):=by
 cases hq:Tryz.prog.info? elem with
|none=>rw[hq] at hs;cases hs
|some i=>
 have hi:i.size=size:=by rw[hq] at hs;injection hs
 have ak:Nat.min l.length l.length=l.length:=Nat.min_self _
 by_cases hl:l=[]
 .subst hl
  refine⟨w,?_,⟨by simp,.inl ⟨_,rfl,rfl⟩⟩,⟨rfl,rfl,rfl,qQ _,fun _ _ _=>rfl⟩⟩
  have am:∀(x:Addr),(loadCells x 0).run Tryz.prog w=.ok #[] w:=fun x=>by simpa using run_loadCells_list (P:=Tryz.prog) w x [] (by simp)
  cases A <;> simp[Builtin.copy_,run_underlying hu,Builtin.lenOf,Builtin.firstCells,sizeOf,typeInfo,hq,storeCells,am,goInt]
 .have hp:0<l.length:=List.length_pos_iff.2 hl
  obtain⟨b,off,rfl,-,-⟩:=ag 0 _ (qN hp)
  have aa:(l.flatMap cells).length=l.length*size:=zbr af l
  have ah:xs.length=l.length*size:=hr.1
  have ab:blk (.slice (some ⟨g,0,none⟩) l.length l.length)=some g:=by
   cases hn:l.length with
  |zero=>omega
  |succ n=>rfl
  have ai:=run_loadCells_list (P:=Tryz.prog) w ⟨b,off,none⟩ (l.flatMap cells) (zll af h0 ag)
  rw[aa] at ai
  have ae:∀ j,j<(l.flatMap cells).length->(w.cell? ⟨g,0+j,none⟩).isSome=true:=fun j hj=>by
   have ac:j<xs.length:=by omega
   obtain⟨g',e1,-,e3,-⟩:=hr.cell (qN ac)
   have:g'=g:=by exact Option.some.inj (e1.symm.trans ab)
   subst this
   rw[Nat.zero_add,e3];rfl
  have an:∀ j,j<(l.flatMap cells).length->w.frozen? ⟨g,0+j,none⟩=false:=fun j hj=>by
   have ac:j<xs.length:=by omega
   obtain⟨g',e1,-,-,e4⟩:=hr.cell (qN ac)
   have:g'=g:=by exact Option.some.inj (e1.symm.trans ab)
   subst this
   rw[Nat.zero_add];exact e4
  have hst:=run_storeCells_cells (P:=Tryz.prog) g 0 (l.flatMap cells) 0 w (by simpa using ae) (by simpa using an) (aj l)
  refine⟨setCells w g 0 (l.flatMap cells),?_,?_,zaM g _ 0 w⟩
  .simp[Builtin.copy_,run_underlying hu,Builtin.lenOf,Builtin.firstCells,sizeOf,typeInfo,hq,hi,ak,ai,hst,goInt,zbk]
  .have h2:=Rw.ok.setAll (l.flatMap cells) hr (g:=g) ab (j:=0) (by rw[aa,Nat.zero_add];exact Nat.le_of_eq ah.symm)
   rw[show putL xs 0 (l.flatMap cells)=l.flatMap cells from znR (by rw[ah,aa])] at h2
   exact h2
theorem zqm(l:List Cu.Cut):∀ u∈l.flatMap Cu.cutL,u.oneCell'=true:=fun u hu=>by
 obtain⟨x,-,h⟩:=List.mem_flatMap.1 hu
 unfold Cu.cutL at h
 simp only[List.mem_cons,List.not_mem_nil,or_false] at h
 rcases h with rfl|rfl|rfl <;> rfl
theorem zle:(Tryz.prog.info? 57).map (fun i=>(i.zero,i.size,i.bytes))=some (some (.agg #[.int .i64 0,.int .i64 0,.slice none 0 0]),3,40):=by kernel_rfl
end
end Go.Proofs.YtankkcbofgighaaGreatDoor
