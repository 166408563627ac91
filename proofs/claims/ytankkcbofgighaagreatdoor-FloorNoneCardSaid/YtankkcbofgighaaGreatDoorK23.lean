import Derived.Test.YtankkcbofgighaaGreatDoorK1
import Derived.Test.YtankkcbofgighaaGreatDoorK3
import Derived.Test.YtankkcbofgighaaGreatDoorK5
import Derived.Test.YtankkcbofgighaaGreatDoorK10
import Derived.Test.YtankkcbofgighaaGreatDoorK22
import Derived.RangeFuncBound
import Derived.RangeFuncCalls
import Derived.OwnWalkIn
import Derived.TacticsInMore
import Derived.LoopNIn
import Derived.LoopIn
import Derived.BigQuiet
set_option linter.unusedVariables false
set_option linter.unusedSimpArgs false
set_option maxRecDepth 100000
set_option maxHeartbeats 40000000
namespace Go.Proofs.YtankkcbofgighaaGreatDoor
section
open Go.RowKit
open Le
def rawL:Tx->List Tx
|[]=>[]
|c :: s=>if c=10 then[10] :: rawL s else match rawL s with
 |[]=>[[c]]
 |x :: l=>(c :: x) :: l
theorem zh3{x:Tx}(y:Tx)(h:(10:UInt8)∉x):rawL (x++10 :: y)=(x++[10]) :: rawL y:=by
 induction x with
|nil=>show rawL (10 :: y)=_;rw[rawL,if_pos rfl];rfl
|cons c x ih=>
  have hc:c≠10:=fun e=>h (e▸qE ..)
  show rawL (c :: (x++10 :: y))=_
  rw[rawL,if_neg hc,ih (fun e=>h (List.mem_cons_of_mem _ e))]
  rfl
theorem zeU:∀{x:Tx},x≠[]->(10:UInt8)∉x->rawL x=[x]
|[],h,_=>absurd rfl h
|[c],_,h=>by
  have hc:c≠10:=fun e=>h (e▸qE ..)
  rw[rawL,if_neg hc];rfl
|c :: d :: x,_,h=>by
  have hc:c≠10:=fun e=>h (e▸qE ..)
  rw[rawL,if_neg hc,zeU (x:=d :: x) (by simp) (fun e=>h (List.mem_cons_of_mem _ e))]
def zaz(x:Tx):Tx:=Lib.trimSuffix x [10]
theorem zmd(x:Tx):zaz (x++[10])=x:=by
 unfold zaz Lib.trimSuffix Lib.hasSuffix
 rw[if_pos (by rw[List.isSuffixOf_iff_suffix];exact List.suffix_append ..)]
 simp
theorem zlr{x:Tx}(h:(10:UInt8)∉x):zaz x=x:=by
 unfold zaz Lib.trimSuffix Lib.hasSuffix
 rw[if_neg]
 intro e
 rw[List.isSuffixOf_iff_suffix] at e
 exact h (e.mem (List.mem_singleton.2 rfl))
theorem zh2:∀(n:Nat) (s:Tx),s.length<=n->(rawL s).map zaz=Bo.zc0 s
|0,[],_=>rfl
|n+1,s,hn=>by
  by_cases h:(10:UInt8)∈s
  .obtain⟨x,y,rfl,hx⟩:=Bo.zef s h
   rw[zh3 y hx,Bo.zkw y hx,List.map_cons,zmd,zh2 n y (by simp at hn;omega)]
  .by_cases he:s=[]
   .subst he;rfl
   .rw[zeU he h,Bo.zkv h he,List.map_cons,zlr h];rfl
theorem zk5:∀{x:Tx},(10:UInt8)∉x->Lib.indexByte x 10=-1
|[],_=>rfl
|b :: x,h=>by
  have hb:(b==10)=false:=beq_false_of_ne (fun e=>h (e▸qE ..))
  unfold Lib.indexByte
  rw[hb,zk5 (fun e=>h (List.mem_cons_of_mem _ e))]
  rfl
theorem zk4:∀{x:Tx} (y:Tx),(10:UInt8)∉x->Lib.indexByte (x++10 :: y) 10=x.length
|[],_,_=>rfl
|b :: x,y,h=>by
  have hb:(b==10)=false:=beq_false_of_ne (fun e=>h (e▸qE ..))
  show Lib.indexByte (b :: (x++10 :: y)) 10=_
  unfold Lib.indexByte
  rw[hb,zk4 y (fun e=>h (List.mem_cons_of_mem _ e))]
  have:((x.length:Int)==-1)=false:=by simp
  rw[this,List.length_cons]
  simp
theorem zi4(s:ByteArray)(w:World):Calls Tryz.prog 51 #[.string s] w fun e w'=>e=.returned (.func (.func 120) #[] #[.pointer (some ⟨w.heap.size,0,none⟩)])/\w'=w.alloc (.cells #[.string s] 9):=by
 go_enter Tryz.func51,Tryz.ntmps51
 go_wp2
 go_ret
 exact⟨rfl,rfl⟩
theorem zoF(r:Tx)(k:Nat):(⟨r.toArray⟩:ByteArray).extract 0 k=⟨(r.take k).toArray⟩:=by
 apply ByteArray.ext;simp
theorem zoG(r:Tx)(k:Nat):(⟨r.toArray⟩:ByteArray).extract k r.length=⟨(r.drop k).toArray⟩:=by
 apply ByteArray.ext;simp[List.take_of_length_le]
theorem Kd.drew{W:World}{g:Nat}{t:TypeId}(h:Kd W g t):Kd W.drew g t:=h
theorem Kd.same{W W':World}{g:Nat}{t:TypeId}(h:Kd W g t)(hk:W'.heap[g]?=W.heap[g]?):Kd W' g t:=by
 obtain⟨c,fz,h⟩:=h
 exact⟨c,fz,hk.trans h⟩
theorem zjJ{W W':World}{row:Option Nat}(h:W.grownBy W' row):W.grownBy W'.drew row:=⟨h.os,h.tape,h.output,h.size,h.block⟩
def encT(x:Tx):Array Value:=#[tx x]
attribute [local go_sem] Oper.semAt_some
def zqE:Value->Nat
|.string s=>s.size
|_=>0
def RLn(s:Tx)(bx:Nat)(J:List Tx->World->Prop)(w:World):Prop:=∃(pre:List Tx) (r:Tx),rawL s=pre++rawL r/\r.length<=s.length/\Bx w bx [tx r]/\Kd w bx 9/\J pre w
theorem zis{bx:Nat}{W W':World}{vs:List Value}(h:Bx W bx vs)(hk:W'.heap[bx]?=W.heap[bx]?):Bx W' bx vs:=
 ⟨by have:=h.lt;have h2:W'.heap[bx]?.isSome:=by { rw[hk,Array.getElem?_eq_getElem this];rfl };exact(qB.1 (Option.get_mem h2)).1,fun j u hu=>(World.cell?_of_block (a:=⟨bx,j,none⟩) hk).trans (h.c j u hu),fun j=>(World.frozen?_of_block (a:=⟨bx,j,none⟩) hk).trans (h.fr j)⟩
theorem zjD(n:Nat)(hn:1<=n)(s:Tx)(aJ:s.length<=281474976710656)(bx:Nat)(w:World)(hb:Bx w bx [tx s])(hd:Kd w bx 9) :
  SeqX Fence.wide n Tryz.prog 120 #[.pointer (some ⟨bx,0,none⟩)] encT (fun A r=>r=bx/\Kd A bx 9) (fun W W'=>W'.heap[bx]?=W.heap[bx]?) (fun _ _=>True) (fun xs=>xs=rawL s) (fun pre=>pre <+: rawL s) (fun _ _=>False) w:=by
 intro l J Jx Jp hJ aE aF hY h0
 have HY:=qG hY
 have H0:=qG h0
 have HB:=qG hb
 have HD:=qG hd
 have HJ:=qG hJ
 clear hY h0 hb hd hJ aE aF
 refine callsIn_of_wp Tryz.func120 rfl trivial ?_ rfl
 simp only[Tryz.ntmps120,List.size_toArray,List.length_cons,List.length_nil,Nat.reduceAdd,Nat.reduceSub,Array.replicate_succ,Array.replicate_zero,List.push_toArray,List.append_toArray,List.nil_append,List.cons_append]
 gi_wp2
 gi_loopw [] (fun wr=>RLn s bx J wr) (fun wr=>zqE ((wr.cell? ⟨bx,0,none⟩).getD undef))
 case atStart=>exact⟨[],s,rfl,qQ _,HB.o,HD.o,H0.o⟩
 case round=>
  obtain⟨pre,r,hr,aK,ai,az,aA⟩:=hrel
  have ab:=qG az
  clear az
  have HR:=qG hr
  have aB:=qG ai
  have aq:=qG aA
  clear hr aA
  have c0:=ai.c 0 _ rfl
  have f0:=ai.fr 0
  clear ai
  by_cases he:r=[]
  .subst he
   gi_wp2
   go_end0
   exact .inl ⟨⟨_,rfl⟩,.inl ⟨pre,by have:=HR.o;rw[this];show pre=pre++[];simp,aq.o⟩⟩
  .have af:0<r.length:=List.length_pos_iff.2 he
   have aC:(0:Int)<(r.length:Int):=by omega
   by_cases hm:(10:UInt8)∈r
   .obtain⟨x,y,e0,hx⟩:=Bo.zef r hm
    have HI:=qG (show Lib.indexByte r 10=(x.length:Int) by rw[e0];exact zk4 y hx)
    have aj:=qG (show rawL r=r.take (x.length+1) :: rawL (r.drop (x.length+1)) by rw[e0,zh3 y hx,show x++10 :: y=(x++[10])++y by simp,List.take_left' (by simp),List.drop_left' (by simp)])
    have aD:=qG (show x.length<r.length by rw[e0];simp)
    generalize x.length=i at HI aj aD
    clear hm he e0 hx
    gi_wp2_with fail
    refine⟨trivial,(callsIn_wide.2 (Tryz.strings_IndexByte ⟨r.toArray⟩ 10 wr)).mono ?_⟩
    rintro e w' ⟨rfl,hw⟩
    have ar:=hw.symm
    clear hw
    subst ar
    rw[show Lib.indexByte (⟨r.toArray⟩:ByteArray).data.toList (10:Int).toNat.toUInt8=(i:Int) from HI.o]
    have aG:(0:Int)<=(i:Int):=by omega
    gi_wp2_with fail
    have aH:=aD.o
    have aI:IntKind.i64.wrap ((i:Int)+1)=(i:Int)+1:=qF _ (by omega)
    refine wpIn_wide.2 ?_
    go_region
    rw[zoF,zoG]
    have ak:=qG ((aB.o.set (k:=0) (by simp) (tx (r.drop (i+1)))).drew)
    have am:=qG (HJ.o pre wr (wr.setCell ⟨bx,0,none⟩ (tx (r.drop (i+1)))).drew (some bx) aq.o (zjJ (grownBy_setCell' wr bx _)) (fun q hq=>by cases hq;exact⟨⟨rfl,ab.o⟩,rfl,Kd.drew (ab.o.setCell _ _)⟩))
    have an:=qG (show Kd (wr.setCell ⟨bx,0,none⟩ (tx (r.drop (i+1)))).drew bx 9 from Kd.drew (ab.o.setCell _ _))
    generalize(wr.setCell ⟨bx,0,none⟩ (tx (r.drop (i+1)))).drew=W2 at ak am an ⊢
    have HP:=qG (show rawL s=(pre++[r.take (i+1)])++rawL (r.drop (i+1)) by rw[HR.o,aj.o];simp)
    obtain⟨fn,tmps,assign,body,hy,hR⟩:=HY.o pre (r.take (i+1)) W2 am.o ⟨_,HP.o.symm⟩ trivial
    dsimp only[encT] at hy
    have au:=qG hR
    have ao:=qG (show(r.drop (i+1)).length<r.length by rw[List.length_drop];omega)
    have aw:=qG c0
    generalize r.take (i+1)=x1 at *
    generalize r.drop (i+1)=r1 at *
    clear hR c0 f0 aC af aG aH aI
    gi_wp2_with fail
    refine au.o.mono ?_
    rintro e W3 (⟨rfl,ac,aa⟩|⟨rfl,ag,-⟩|⟨ch,rfl,ah,-⟩)
    .have ae:=qG (zis ak.o aa)
     have ax:=qG (an.o.same aa)
     have ay:=qG ac
     clear ac aa
     gi_wp2_with fail
     go_roundw
     case rel=>exact⟨pre++[x1],r1,HP.o,by have:=ao.o;omega,ae.o,ax.o,ay.o⟩
     case measure=>rw[ae.o.c 0 _ rfl,aw.o];show r1.length<r.length;exact ao.o
    .gi_wp2_with fail
     refine bodyPost_ret (results_none rfl _ _ _) rfl ?_
     exact .inl ⟨⟨_,rfl⟩,.inr ⟨_,⟨_,HP.o.symm⟩,ag⟩⟩
    .exact⟨rfl,.inr (.inl ⟨ch,rfl,ah⟩)⟩
   .have HI:=qG (zk5 hm)
    have aj:=qG (zeU he hm)
    clear hm he
    gi_wp2_with fail
    refine⟨trivial,(callsIn_wide.2 (Tryz.strings_IndexByte ⟨r.toArray⟩ 10 wr)).mono ?_⟩
    rintro e w' ⟨rfl,hw⟩
    have ar:=hw.symm
    clear hw
    subst ar
    rw[show Lib.indexByte (⟨r.toArray⟩:ByteArray).data.toList (10:Int).toNat.toUInt8=-1 from HI.o]
    have ak:=qG (aB.o.set (k:=0) (by simp) (tx []))
    have am:=qG (HJ.o pre wr (wr.setCell ⟨bx,0,none⟩ (tx [])) (some bx) aq.o (grownBy_setCell' wr bx _) (fun q hq=>by cases hq;exact⟨⟨rfl,ab.o⟩,rfl,ab.o.setCell _ _⟩))
    have an:=qG (show Kd (wr.setCell ⟨bx,0,none⟩ (tx [])) bx 9 from ab.o.setCell _ _)
    have HP:=qG (show rawL s=(pre++[r])++rawL [] by rw[HR.o,aj.o];simp[rawL])
    obtain⟨fn,tmps,assign,body,hy,hR⟩:=HY.o pre r _ am.o ⟨_,HP.o.symm⟩ trivial
    dsimp only[encT] at hy
    have au:=qG hR
    have ao:=qG af
    have aw:=qG c0
    have aL:=qG f0
    clear hR aC af
    gi_wp2_with fail
    refine au.o.mono ?_
    rintro e W3 (⟨rfl,ac,aa⟩|⟨rfl,ag,-⟩|⟨ch,rfl,ah,-⟩)
    .have ae:=qG (zis ak.o aa)
     have ax:=qG (an.o.same aa)
     have ay:=qG ac
     clear ac aa
     gi_wp2_with fail
     go_roundw
     case rel=>exact⟨pre++[r],[],HP.o,by simp,ae.o,ax.o,ay.o⟩
     case measure=>rw[ae.o.c 0 _ rfl,aw.o];show 0<r.length;exact ao.o
    .gi_wp2_with fail
     refine bodyPost_ret (results_none rfl _ _ _) rfl ?_
     exact .inl ⟨⟨_,rfl⟩,.inr ⟨_,⟨_,HP.o.symm⟩,ag⟩⟩
    .exact⟨rfl,.inr (.inl ⟨ch,rfl,ah⟩)⟩
end
section
open Go.RowKit
open Le
open Go.Lib in
theorem zhU{P:Program}{w:World}{base:Nat}{t u ty e:TypeId}{i:TypeInfo}(ht:P.underlying t=some (.slice e))(hu:P.underlying u=some .string)(hi:P.info? e=some i)(hz:i.zero=some (.int .u8 0))
  (ab:i.size=1) (ae:i.bytes=1) {v:Value} {n:Nat} {xs:List Value} (aa:w.ownsRow base e 1 v n xs) {s:ByteArray}
  (af:n+s.size<=maxLen) (ag:n+s.size<=140737488355328) (h0:0<s.size) {v':Value} {w':World}
  (hr:(Builtin.append_ #[t,u] ty #[v,.string s]).run P w=.ok v' w'):∀ k,v'.ownBlock=some k->v.ownBlock=some k\/w.heap.size<=k:=by
 have ah:n+s.size<=9223372036854775807:=by simp only[maxLen] at af;omega
 have ai:xs.length=n:=by simpa using aa.1
 intro k hk
 rcases aa.2 with ⟨rfl,rfl⟩|⟨g,cap,cur,rfl,am,hg,an,ao,aj,zaf⟩
 .rw[run_append_nil_string (P:=P) w t u ty e i (.int .u8 0) ht hu hi hz s (by omega) (by omega) (by rw[ae];omega)] at hr
  injection hr with h2 _
  rw[<- h2] at hk
  exact .inr (Nat.le_of_eq (Option.some.inj hk))
 .by_cases ac:n+s.size<=cap
  .have ak:cur.size=cap:=by simpa using aj
   rw[run_append_room_string (P:=P) w t u ty e i ht hu hi ab g n cap cur hg s ac (by omega)] at hr
   injection hr with h2 _
   rw[<- h2] at hk
   exact .inl hk
  .have holds:∀ j u,xs[j]?=some u->w.cell? ((⟨g,0,none⟩:Addr).add j)=some u:=aa.cells (g:=g) rfl
   rw[run_append_grow_string (P:=P) w t u ty e i (.int .u8 0) ht hu hi hz ⟨g,0,none⟩ n cap xs (by rw[ab];simpa using ai) holds s (by omega) (by omega) (by rw[ae];exact growslice_fits (by omega) (by omega))] at hr
   injection hr with h2 _
   rw[<- h2] at hk
   exact .inr (Nat.le_of_eq (Option.some.inj hk))
theorem zdW{P:Program}{w:World}{ops:Array Oper}{rest:List Oper}{o:Oper}{a:Act}{Q:Exit->Act->World->Prop}(ah:o.guard=none)(sl x:Operand)(t u:TypeId)
  (ho:o.op=.call { callee:=.builtin .append,args:=#[sl,x],argTypes:=#[t,u] })
  (base:Nat) (e:TypeId) (i:TypeInfo) (ht:P.underlying t=some (.slice e)) (hu:P.underlying u=some .string) (hi:P.info? e=some i) (hz:i.zero=some (.int .u8 0))
  (ab:i.size=1) (af:i.bytes=1)
  (v:Value) (n:Nat) (xs:List Value) (hs:a.eval sl=v) (ac:w.ownsRow base e 1 v n xs) (s:ByteArray) (hx:a.eval x=.string s)
  (ag:n+s.size<=maxLen) (aa:n+s.size<=140737488355328) (ae:base<=w.heap.size) (h0:0<s.size)
  (h:∀ v' w',w'.ownsRow base e 1 v' (n+s.size) (xs++Lib.strCells s)->w.grownBy w' v.ownBlock->(∀ k,v'.ownBlock=some k->v.ownBlock=some k\/w.heap.size<=k)->wpList P ops Q rest (a.put o.dst v') w') :
  wpList P ops Q (o :: rest) a w:=by
 refine wpList_plain ah fun K hK=>?_
 obtain⟨v',w',hr,h2,h3,h4⟩:=Lib.run_append_own_string (P:=P) w base t u o.type e i ht hu hi hz ab af v n xs ac s ag aa ae
 have h5:=zhU (P:=P) ht hu hi hz ab af ac ag aa h0 hr
 unfold Oper.wp execOp
 simp only[ho,resolve,invoke,builtin,Sem.run_bind,Sem.run_pure,Result.andThen_ok,List.map_toArray,List.map_cons,List.map_nil,hs,hx,hr]
 exact hK _ _ (h v' w' h2 h3 h5)
def HldV(t:Tx)(b:Nat)(v:Value)(W:World):Prop:=∃ p,(p=.pointer none\/p=.pointer (some ⟨b,0,none⟩))/\W.heap[b]?=some (.cells #[p,v] 122 (0,0))/\W.ownsRow b 5 1 v t.length (Lib.byteCells t)/\v.ownBlock≠some b
theorem HldV.hld{t:Tx}{b:Nat}{v:Value}{W:World}(h:HldV t b v W):Hld t b W:=by
 obtain⟨p,hp,h1,h2,h3⟩:=h
 have aa:W.ownsRow b 5 1 v (Lib.byteCells t).length (Lib.byteCells t):=by rw[Lib.byteCells_length];exact h2
 rcases hp with rfl|rfl
 .exact .inl ⟨qQ _,v,h1,aa,h3⟩
 .exact .inr ⟨qQ _,v,h1,aa,h3⟩
theorem HldV.new(w:World):HldV [] w.heap.size (.slice none 0 0) (w.alloc (.cells #[.pointer none,.slice none 0 0] 122)):=
 ⟨_,.inl rfl,heap_alloc_new w _,World.ownsRow_nil _ _ _ _,by simp[Value.ownBlock]⟩
theorem HldV.lt{t:Tx}{b:Nat}{v:Value}{W:World}(h:HldV t b v W):b<W.heap.size:=h.hld.lt
def bldO(b:Nat)(v:Value)(x:Nat):Prop:=x=b\/v.ownBlock=some x
theorem HldV.keep{P:Nat->Prop}{t:Tx}{b:Nat}{v:Value}{w w':World}(h:HldV t b v w)(k:Keep P w w')(hn:∀ x,bldO b v x->¬ P x):HldV t b v w':=by
 obtain⟨p,hp,h1,h2,h3⟩:=h
 refine⟨p,hp,by rw[k.block b (qB.1 h1).1 (hn b (.inl rfl))];exact h1,⟨h2.1,?_⟩,h3⟩
 rcases h2.2 with h5|⟨g,cap,cur,e1,ab,hg,aa⟩
 .exact .inl h5
 .refine .inr ⟨g,cap,cur,e1,ab,?_,aa⟩
  rw[k.block g (qB.1 hg).1 (hn g (.inr (by rw[e1];rfl)))]
  exact hg
theorem HldV.cells{t:Tx}{b:Nat}{v:Value}{w:World}(h:HldV t b v w){x:Nat}(hx:bldO b v x):∃ o,w.heap[x]?=some o/\o.isCells=true:=by
 obtain⟨p,hp,h1,h2,h3⟩:=h
 rcases hx with rfl|hx
 .exact⟨_,h1,rfl⟩
 .rcases h2.2 with ⟨e1,-⟩|⟨g,cap,cur,e1,ab,hg,aa⟩
  .rw[e1] at hx;cases hx
  .rw[e1] at hx
   have:=Option.some.inj hx
   simp only at this
   subst this
   exact⟨_,hg,rfl⟩
theorem HldV.type{t:Tx}{b:Nat}{v:Value}{w:World}(h:HldV t b v w){x:Nat}(hx:bldO b v x):b<=x/\(Kd w x 122\/Kd w x 5):=by
 obtain⟨p,hp,h1,h2,h3⟩:=h
 rcases hx with rfl|hx
 .exact⟨qQ _,.inl ⟨_,_,h1⟩⟩
 .rcases h2.2 with ⟨e1,-⟩|⟨g,cap,cur,e1,aa,hg,ab⟩
  .rw[e1] at hx;cases hx
  .rw[e1] at hx
   have:=Option.some.inj hx
   simp only at this
   subst this
   exact⟨aa,.inr ⟨_,_,hg⟩⟩
theorem zgB(t u:Tx)(b:Nat)(v:Value)(w:World)(h:HldV t b v w)(aH:t.length+u.length<=140737488355328)(h0:0<u.length) :
  Calls Tryz.prog 54 #[.pointer (some ⟨b,0,none⟩),tx u] w fun e w'=>e=.returned (.tuple #[.int .i64 u.length,.nilIface])/\∃ v',HldV (t++u) b v' w'/\Keep (bldO b v) w w'/\∀ x,bldO b v' x->bldO b v x\/w.heap.size<=x:=by
 obtain⟨i0,hi,ay,az,aA⟩:=zbd zni
 have ar:b<w.heap.size:=h.lt
 obtain⟨p,hp,ab,aa,ag⟩:=h
 have au:Calls Tryz.prog 124 #[.pointer (some ⟨b,0,none⟩)] w fun e w1=>e=.returned (.tuple #[])/\w1.heap[b]?=some (.cells #[.pointer (some ⟨b,0,none⟩),v] 122 (0,0))/\w1.ownsRow b 5 1 v t.length (Lib.byteCells t)/\w.grownBy w1 (some b):=by
  rcases hp with rfl|rfl
  .have hB:Lib.BuilderAt 122 5 b b (.pointer none) (Lib.byteCells t) w:=⟨qQ _,v,ab,by rw[Lib.byteCells_length];exact aa,ag⟩
   refine(zg8 b w hB.cell0 hB.shape hB.frozen0).mono ?_
   rintro e w1 ⟨rfl,rfl⟩
   refine⟨rfl,?_,?_,zaq w b 0 _⟩
   .unfold World.setCell
    simp only
    rw[Array.getElem?_modify,if_pos rfl,ab]
    rfl
   .refine⟨aa.1,?_⟩
    rcases aa.2 with h5|⟨g,cap,cur,e1,am,hg,ac⟩
    .exact .inl h5
    .refine .inr ⟨g,cap,cur,e1,am,?_,ac⟩
     rw[(zaq w b 0 (.pointer (some ⟨b,0,none⟩))).block g (qB.1 hg).1 (fun e=>ag (by rw[e1];exact e))]
     exact hg
  .have hB:Lib.BuilderAt 122 5 b b (.pointer (some ⟨b,0,none⟩)) (Lib.byteCells t) w:=⟨qQ _,v,ab,by rw[Lib.byteCells_length];exact aa,ag⟩
   refine(zhL b w hB.cell0).mono ?_
   rintro e w1 ⟨rfl,rfl⟩
   exact⟨rfl,ab,aa,⟨rfl,rfl,rfl,qQ _,fun _ _ _=>rfl⟩⟩
 have aB:=qG au
 clear au hp ab aa
 go_enter Tryz.func54,Tryz.ntmps54
 go_wp2_with fail
 refine aB.o.mono ?_
 rintro e w1 ⟨rfl,aj,an,aw⟩
 have ak:=qG aw
 have aC:=qG aj
 have c0:w1.cell? ⟨b,0,none⟩=some (.pointer (some ⟨b,0,none⟩)):=by rw[Lib.cell_of_heap aj];rfl
 have c1:w1.cell? ⟨b,1,none⟩=some v:=by rw[Lib.cell_of_heap aj];rfl
 clear aj aw
 go_wp2_with (at_builtin;refine zdW rfl _ _ 120 9 rfl b 5 i0 Tryz.underlying120 Tryz.underlying9 hi ay az aA _ _ _ rfl an ⟨u.toArray⟩ rfl ?c3 ?c4 ?c5 ?c6 ?_)
 case c3=>(show t.length+u.toArray.size<=_);unfold maxLen;simp;omega
 case c4=>(show t.length+u.toArray.size<=_);simp;omega
 case c5=>exact Nat.le_of_lt (qM ar ak.o.size)
 case c6=>(show 0<u.toArray.size);simpa using h0
 intro v' w2 ae af ai
 have hlt:b<w1.heap.size:=qM ar ak.o.size
 have ah:w2.heap[b]?=some (.cells #[.pointer (some ⟨b,0,none⟩),v] 122 (0,0)):=by
  rw[af.block b hlt (fun e=>ag e.symm)]
  exact aC.o
 have d0:w2.cell? ⟨b,0,none⟩=some (.pointer (some ⟨b,0,none⟩)):=by rw[Lib.cell_of_heap ah];rfl
 have d1:w2.cell? ⟨b,1,none⟩=some v:=by rw[Lib.cell_of_heap ah];rfl
 have f1:w2.frozen? ⟨b,1,none⟩=false:=Lib.frozen_of_heap ah 1
 have ax:v'.ownBlock≠some b:=fun e=>by
  rcases ai b e with h|h
  .exact ag h
  .omega
 have aD:=qG ai
 have aE:=qG ae
 have aF:=qG af
 have aG:=qG ah
 have aq:=qG ax
 obtain⟨ao,n',cap,rfl⟩:∃ ao n' cap,v'=.slice ao n' cap:=by
  rcases ae.2 with ⟨hv,_⟩|⟨g,cap,cur,hv,_⟩
  .exact⟨_,_,_,hv⟩
  .exact⟨_,_,_,hv⟩
 clear ai ae af ah ax an c0 c1
 go_wp2
 go_ret2
 refine⟨rfl,.slice ao n' cap,⟨_,.inr rfl,?_,?_,aq.o⟩,?_,?_⟩
 .unfold World.setCell
  simp only
  rw[Array.getElem?_modify,if_pos rfl,aG.o]
  rfl
 .have ho:=aE.o
  have e1:Lib.byteCells t++Lib.strCells ⟨u.toArray⟩=Lib.byteCells (t++u):=(Lib.byteCells_append t u).symm
  have e2:t.length+u.length=(t++u).length:=qD.symm
  rw[e1,e2] at ho
  refine⟨ho.1,?_⟩
  rcases ho.2 with h5|⟨g,cap,cur,e1,am,hg,ac⟩
  .exact .inl h5
  .refine .inr ⟨g,cap,cur,e1,am,?_,ac⟩
   rw[(zaq w2 b 1 (.slice ao n' _)).block g (qB.1 hg).1 (fun e=>aq.o (by rw[e1];exact e))]
   exact hg
 .have k1:Keep (bldO b v) w w1:=.of_grown ak.o (fun g e=>.inl (Option.some.inj e).symm)
  have k2:Keep (bldO b v) w1 w2:=.of_grown aF.o (fun g e=>.inr e)
  have k3:Keep (bldO b v) w2 _:=.of_grown (zaq w2 b 1 (.slice ao n' cap)) (fun g e=>.inl (Option.some.inj e).symm)
  exact(k1.trans k2 (fun _ _ x=>x)).trans k3 (fun _ _ x=>x)
 .intro x hx
  rcases hx with rfl|hx
  .exact .inl (.inl rfl)
  .rcases aD.o x hx with h|h
   .exact .inl (.inr h)
   .exact .inr (Nat.le_trans ak.o.size h)
theorem zkh{W:World}{b j:Nat}{v:Value}(h:W.cell? ⟨b,j,none⟩=some v):∃ o,W.heap[b]?=some o/\o.isCells=true:=by
 unfold World.cell? at h
 split at h
 .rename_i ho
  exact⟨_,ho,rfl⟩
 .cases h
theorem zoV{W:World}{b:Nat}{v:Value}{vs:List Value}(h:Bx W b (v :: vs)):∃ o,W.heap[b]?=some o/\o.isCells=true:=zkh (h.c 0 v rfl)
theorem zh5{O:Nat->Prop}{W:World}{f:Nat}{R:Nat->Rw}{cs:List Cu.Cut}{ps:List Pq}{d:Ru.Die}{s:St}(h:FlAt O W f R cs ps d s){b:Nat}(hb:zao f R b):∃ o,W.heap[b]?=some o/\o.isCells=true:=by
 rcases hb with rfl|⟨k,hk,e⟩
 .exact zoV h.box
 .rcases(h.own.row k hk).2 with ⟨A,e1,-⟩|⟨g,cap,cur,e1,hg,-⟩
  .rw[e1] at e;cases A <;> cases e
  .rw[e1] at e
   have:=Option.some.inj e
   simp only at this
   subst this
   exact⟨_,hg,rfl⟩
def rowT(t:TypeId):Bool:=t==57||t==3||t==65||t==67||t==194||t==251
theorem znV{O:Nat->Prop}{W:World}{f:Nat}{R:Nat->Rw}{cs:List Cu.Cut}{ps:List Pq}{d:Ru.Die}{s:St}(h:FlAt O W f R cs ps d s){b:Nat}(hb:zao f R b)(hf:b≠f){t:TypeId}(hk:Kd W b t):rowT t=true:=by
 rcases hb with hb|⟨k,aa,e⟩
 .exact absurd hb hf
 .obtain⟨c,fz,hk⟩:=hk
  rcases(h.own.row k aa).2 with ⟨A,e1,-⟩|⟨g,cap,cur,e1,hg,-⟩
  .rw[e1] at e;cases A <;> cases e
  .rw[e1] at e
   have:=Option.some.inj e
   simp only at this
   subst this
   have h1:=Option.some.inj (hk.symm.trans hg)
   injection h1 with _ h1 _
   rw[h1]
   have ro:=h.h.ro
   match k,aa with
  |0,_=>rw[ro.r0.1];rfl
  |1,_=>rw[ro.r1.1];rfl
  |2,_=>rw[ro.r2.1];rfl
  |3,_=>rw[ro.r3.1];rfl
  |4,_=>rw[ro.r4.1];rfl
  |5,_=>rw[ro.r5.1];rfl
  |6,_=>rw[ro.r6.1];rfl
theorem FlAt.belowO{O O':Nat->Prop}{w w':World}{f:Nat}{R:Nat->Rw}{cs:List Cu.Cut}{ps:List Pq}{d:Ru.Die}{s:St}(h:FlAt O w f R cs ps d s)(k:Below w.heap.size w w')(hO:∀ b,b<w.heap.size->O' b->O b)(hs:∀ b,zao f R b->O' b)(hl:∀ b,O' b->b<w'.heap.size):FlAt O' w' f R cs ps d s:=
 ⟨h.own.below k,hs,hl,h.box.next k,h.h.keep (P:=fun _=>False) (.of_below k) (fun _ _ x=>x.elim) hO h.h.ro,h.die.keep (P:=fun _=>False) (.of_below k) (fun _ _ x=>x.elim) hO⟩
theorem AtO.turn{α:Type}{O:Nat->Prop}{w w':World}{size:Nat}{cells:α->List Value}{A:Option Addr}{l:List α}(h:AtO O w size cells A l)(hc:∀ x,(cells x)≠[]){row:Option Nat}(hg:w.grownBy w' row)(hr:∀ r,row=some r->∃ o,w.heap[r]?=some o/\o.isCells=false):AtO O w' size cells A l:=fun k x hx=>by
 obtain⟨b,off,e,hb,hn,aa⟩:=h k x hx
 have ac:some b≠row:=fun e2=>by
  obtain⟨o,ho,hz⟩:=hr b e2.symm
  cases hx:cells x with
 |nil=>exact hc x hx
 |cons u us=>
   obtain⟨o',ae,ab⟩:=zkh (aa 0 u (by rw[hx];rfl))
   have:=Option.some.inj (ho.symm.trans ae)
   subst this
   rw[hz] at ab;cases ab
 exact⟨b,off,e,qM hb hg.size,hn,fun j u hu=>(World.cell?_of_block (a:=⟨b,off+k*size+j,none⟩) (hg.block b hb ac)).trans (aa j u hu)⟩
theorem FlAt.turn{O:Nat->Prop}{w w':World}{f:Nat}{R:Nat->Rw}{cs:List Cu.Cut}{ps:List Pq}{d:Ru.Die}{s:St}(h:FlAt O w f R cs ps d s){row:Option Nat}(hg:w.grownBy w' row)(hr:∀ r,row=some r->∃ o,w.heap[r]?=some o/\o.isCells=false):FlAt O w' f R cs ps d s:=by
 have hn:∀ b,zao f R b->row≠some b:=fun b hb e=>by
  obtain⟨o,ho,hz⟩:=hr b e
  obtain⟨o',ab,aa⟩:=zh5 h hb
  have:=Option.some.inj (ho.symm.trans ab)
  subst this
  rw[hz] at aa;cases aa
 have hK:Keep (fun g=>row=some g) w w':=.of_grown hg (fun _ e=>e)
 exact⟨h.own.keep hK hn,h.sub,fun b hb=>qM (h.lt b hb) hg.size,hK.bx h.box (hn f (.inl rfl)),
  ⟨h.h.ro,h.h.ec,fun c hc=>(h.h.ca c hc).turn (fun x=>by simp[zad]) hg hr,h.h.hp,fun x hx=>(h.h.pa x hx).turn (fun x=>by simp[zad]) hg hr,h.h.pc⟩,h.die.turn (fun x=>by simp[Ru.Blade.cells]) hg hr⟩
theorem FlAt.keepG{O O' P:Nat->Prop}{w w':World}{f:Nat}{R:Nat->Rw}{cs:List Cu.Cut}{ps:List Pq}{d:Ru.Die}{s:St}(h:FlAt O w f R cs ps d s)(k:Keep P w w')(hP:∀ b,P b->O b)(hf:∀ b,zao f R b->¬ P b)(hO:∀ b,b<w.heap.size->O' b->O b)(hs:∀ b,zao f R b->O' b)(hl:∀ b,O' b->b<w'.heap.size):FlAt O' w' f R cs ps d s:=
 ⟨h.own.keep k hf,hs,hl,k.bx h.box (hf f (.inl rfl)),h.h.keep k (fun b _ x=>hP b x) hO h.h.ro,h.die.keep k (fun b _ x=>hP b x) hO⟩
theorem Kd.keep{P:Nat->Prop}{w w':World}{b:Nat}{t:TypeId}(h:Kd w b t)(k:Keep P w w')(hn:¬ P b):Kd w' b t:=by
 obtain⟨c,fz,hc⟩:=h
 exact⟨c,fz,by rw[k.block b (qB.1 hc).1 hn];exact hc⟩
theorem Kd.cells{w:World}{b:Nat}{t:TypeId}(h:Kd w b t):∃ o,w.heap[b]?=some o/\o.isCells=true:=by
 obtain⟨c,fz,hc⟩:=h
 exact⟨_,hc,rfl⟩
theorem Kd.same_type{w:World}{b:Nat}{t u:TypeId}(h:Kd w b t)(k:Kd w b u):t=u:=by
 obtain⟨c,fz,hc⟩:=h
 obtain⟨c',fz',aa⟩:=k
 have:=Option.some.inj (hc.symm.trans aa)
 injection this
theorem KeepsFrom.of_keep{P:Nat->Prop}{B:Nat}{w w':World}(k:Keep P w w')(hP:∀ b,P b->∃ o,w.heap[b]?=some o/\o.isCells=true):KeepsFrom B w w':=
 ⟨k.size,fun b o _ ho hz=>by
  rw[k.block b (qB.1 ho).1 (fun hp=>by
   obtain⟨o',ab,aa⟩:=hP b hp
   have:=Option.some.inj (ho.symm.trans ab)
   subst this
   rw[hz] at aa;cases aa)]
  exact ho⟩
theorem zf7:∀(s x:Tx),x∈rawL s->x.length<=s.length
|[],x,h=>by cases h
|c :: s,x,h=>by
  rw[rawL] at h
  split at h
  .rcases List.mem_cons.1 h with rfl|h
   .simp
   .have:=zf7 s x h;simp;omega
  .have ih:=zf7 s
   split at h
   .rw[List.mem_singleton.1 h];simp
   .rename_i y l e
    rw[e] at ih
    rcases List.mem_cons.1 h with rfl|h
    .have:=ih y (qE ..);simp;omega
    .have:=ih x (List.mem_cons_of_mem _ h);simp;omega
theorem zgJ:∀ s:Tx,(rawL s).length<=s.length
|[]=>qQ _
|c :: s=>by
  have h:=zgJ s
  unfold rawL
  split
  .rw[List.length_cons,List.length_cons];omega
  .split
   .simp
   .rename_i e
    rw[e] at h
    rw[List.length_cons] at h ⊢
    rw[List.length_cons];omega
theorem zpr(a:Tx):(⟨a.toArray⟩:ByteArray)++(⟨#[10]⟩:ByteArray)=⟨(a++[10]).toArray⟩:=by
 apply ByteArray.ext;simp[ByteArray.data_append]
theorem znH(t:Tx):Lib.hasSuffix t [10]=decide (t.getLast?=some 10):=by
 unfold Lib.hasSuffix
 by_cases h:t.getLast?=some 10
 .rw[decide_eq_true h]
  obtain⟨l,hl⟩:=List.getLast?_eq_some_iff.1 h
  rw[hl,List.isSuffixOf_iff_suffix]
  exact List.suffix_append ..
 .rw[decide_eq_false h,<- Bool.not_eq_true,List.isSuffixOf_iff_suffix]
  rintro⟨l,hl⟩
  exact h (by rw[<- hl];simp)
theorem zkO(t:Tx)(w:World)(hl:t.length<=9223372036854775807):Calls Tryz.prog 50 #[tx t,.string ⟨#[10]⟩] w (RetQ (.bool (decide (t.getLast?=some 10))) w):=by
 refine(Tryz.strings_HasSuffix ⟨t.toArray⟩ ⟨#[10]⟩ w (by show t.toArray.size<=_;simpa using hl)).mono ?_
 rintro e w' ⟨rfl,rfl⟩
 refine⟨?_,rfl⟩
 rw[<- znH]
theorem znG(t:Tx)(w:World)(hl:t.length<=9223372036854775807):Calls Tryz.prog 52 #[tx t,.string ⟨#[10]⟩] w (RetQ (tx (zaz t)) w):=by
 refine(Tryz.strings_TrimSuffix ⟨t.toArray⟩ ⟨#[10]⟩ w (by show t.toArray.size<=_;simpa using hl)).mono ?_
 rintro e w' ⟨rfl,rfl⟩
 exact⟨rfl,rfl⟩
def rnO(f bb bx:Nat)(R:Nat->Rw)(v:Value)(x:Nat):Prop:=zao f R x\/x=bx\/bldO bb v x
structure RnI(w0:World)(f bt bb bx:Nat)(d:Ru.Die)(s0:St)(l:List Tx)(W:World):Prop where
 fl:∃ R cs ps v,FlAt (rnO f bb bx R v) W f R cs ps d (stA d s0 l)/\(∀ b,zao f R b->w0.heap.size<=b)/\HldV (playS d s0 l) bb v W
 vf:Bx W bt [.pointer (some ⟨f,0,none⟩)]
 kt:Kd W bt 31
 kx:Kd W bx 9
 env:Env W
 bel:Below w0.heap.size w0 W
attribute [local go_sem] Oper.semAt_some
theorem RnI.turn{w0:World}{f bt bb bx:Nat}{d:Ru.Die}{s0:St}{l:List Tx}{W W':World}(h:RnI w0 f bt bb bx d s0 l W)(h6:6<=w0.heap.size){row:Option Nat}(hg:W.grownBy W' row)(ab:∀ r,row=some r->w0.heap.size<=r)(hr:∀ r,row=some r->∃ o,W.heap[r]?=some o/\o.isCells=false):RnI w0 f bt bb bx d s0 l W':=by
 obtain⟨⟨R,cs,ps,v,aj,ak,af⟩,am,ac,ag,ai,ae⟩:=h
 have hK:Keep (fun g=>row=some g) W W':=.of_grown hg (fun _ e=>e)
 have aa:∀ b,(∃ o,W.heap[b]?=some o/\o.isCells=true)->¬ row=some b:=fun b ⟨o',an,ah⟩ e=>by
  obtain⟨o,ho,hz⟩:=hr b e
  have:=Option.some.inj (ho.symm.trans an)
  subst this
  rw[hz] at ah;cases ah
 exact⟨⟨R,cs,ps,v,aj.turn hg hr,ak,af.keep hK (fun x hx=>aa x (af.cells hx))⟩,hK.bx am (aa bt ac.cells),ac.keep hK (aa bt ac.cells),ag.keep hK (aa bx ag.cells),ai.keep hK (fun b e=>Nat.le_trans h6 (ab b e)),ae.grown hg ae.size (fun k e=>ab k e)⟩
theorem zhS{t:Tx}{b:Nat}{v:Value}{W:World}(h:HldV t b v W){x:Nat}{u:TypeId}(hk:Kd W x u)(h1:(u==122||u==5)=false):¬ bldO b v x:=fun hx=>by
 rcases(h.type hx).2 with h2|h2
 .have:=Kd.same_type hk h2;subst this;revert h1;decide
 .have:=Kd.same_type hk h2;subst this;revert h1;decide
theorem zdi{O:Nat->Prop}{W:World}{f:Nat}{R:Nat->Rw}{cs:List Cu.Cut}{ps:List Pq}{d:Ru.Die}{s:St}(h:FlAt O W f R cs ps d s){b:Nat}(hf:f<b){t:TypeId}(hk:Kd W b t)(ht:rowT t=false):¬ zao f R b:=fun hb=>by
 have:=znV h hb (by omega) hk
 rw[ht] at this;cases this
theorem zkR{O:Nat->Prop}{W:World}{f:Nat}{R:Nat->Rw}{cs:List Cu.Cut}{ps:List Pq}{d:Ru.Die}{s:St}(h:FlAt O W f R cs ps d s){t:Tx}{b:Nat}{v:Value}(hh:HldV t b v W)(hf:f<b){x:Nat}(hx:bldO b v x):¬ zao f R x:=by
 obtain⟨h1,h2⟩:=hh.type hx
 rcases h2 with h2|h2
 .exact zdi h (by omega) h2 rfl
 .exact zdi h (by omega) h2 rfl
theorem RnI.turnX{w0:World}{f bt bb bx:Nat}{d:Ru.Die}{s0:St}{l:List Tx}{W W':World}(h:RnI w0 f bt bb bx d s0 l W)(h6:6<=w0.heap.size)(ak:bt<bb)(am:bb<bx)(hf:f<bt)(hx:w0.heap.size<=bx){row:Option Nat}(hg:W.grownBy W' row)(hr:∀ r,row=some r->r=bx/\Kd W' bx 9):RnI w0 f bt bb bx d s0 l W':=by
 obtain⟨⟨R,cs,ps,v,ac,ah,ae⟩,ai,aj,aa,af,ab⟩:=h
 have hK:Keep (fun g=>g=bx) W W':=.of_grown hg (fun g e=>(hr g e).1)
 have ag:Kd W' bx 9:=by
  cases row with
 |none=>exact aa.keep (P:=fun _=>False) (.of_grown hg (fun _ e=>by cases e)) (fun x=>x)
 |some r=>exact(hr r rfl).2
 have h1:¬ bldO bb v bx:=zhS ae aa rfl
 have h2:¬ zao f R bx:=zdi ac (by omega) aa rfl
 exact⟨⟨R,cs,ps,v,ac.keepO hK (fun b e=>.inr (.inl e)) (fun b hb e=>h2 (by rw[<- e];exact hb)) (fun _ x=>x) (fun b hb=>.inl hb),ah,ae.keep hK (fun x hx e=>h1 (by rw[<- e];exact hx))⟩,
  hK.bx ai (by omega),aj.keep hK (by omega),ag,af.keep hK (fun b e=>by omega),ab.grown hg ab.size (fun k e=>by rw[(hr k e).1];exact hx)⟩
theorem RnI.line{w0:World}{f bt bb bx:Nat}{d:Ru.Die}{s0:St}{l:List Tx}{W U:World}{R R2:Nat->Rw}{cs2:List Cu.Cut}{ps2:List Pq}{v:Value}{cs:List Cu.Cut}{ps:List Pq}{s:St}{x:Tx}
  (ab:FlAt (rnO f bb bx R v) W f R cs ps d s) (ac:∀ b,zao f R b->w0.heap.size<=b) (af:HldV (playS d s0 l) bb v W) (ak:bt<bb) (am:bb<bx) (hf:f<bt) (aj:Bx W bt [.pointer (some ⟨f,0,none⟩)]) (ag:Kd W bt 31) (ae:Kd W bx 9) (ah:Env W) (aa:Below w0.heap.size w0 W) (h6:6<=w0.heap.size)
  (ai:FlAt (orO (rnO f bb bx R v) f R2) U f R2 cs2 ps2 d (lineS d s x).1) (ht:Turn W U f R R2) :
  FlAt (rnO f bb bx R2 v) U f R2 cs2 ps2 d (lineS d s x).1/\(∀ b,zao f R2 b->w0.heap.size<=b)/\HldV (playS d s0 l) bb v U/\Bx U bt [.pointer (some ⟨f,0,none⟩)]/\Kd U bt 31/\Kd U bx 9/\Env U/\Below w0.heap.size w0 U/\U.heap[bx]?=W.heap[bx]?/\KeepsFrom 0 W U:=by
 have n1:¬ zao f R bt:=zdi ab hf ag rfl
 have n2:¬ zao f R bx:=zdi ab (by omega) ae rfl
 have n3:∀ x,bldO bb v x->¬ zao f R x:=fun x hx=>zkR ab af (by omega) hx
 have hlt:bx<W.heap.size:=by obtain⟨c,fz,h⟩:=ae;exact(qB.1 h).1
 refine⟨ai.shrink (fun b hb=>?_) (fun b hb=>.inl hb),fun b hb=>?_,af.keep ht.k n3,ht.k.bx aj n1,ag.keep ht.k n1,ae.keep ht.k n2,ah.keep ht.k (fun b hb=>Nat.le_trans h6 (ac b hb)),?_,ht.k.block bx hlt n2,KeepsFrom.of_keep ht.k (fun b hb=>zh5 ab hb)⟩
 .rcases hb with hb|hb
  .exact .inr hb
  .exact .inl (.inr hb)
 .by_cases h:b<W.heap.size
  .exact ac b (ht.n b h hb)
  .exact Nat.le_trans aa.size (by omega)
 .exact⟨ht.k.os.trans aa.os,ht.k.tape.trans aa.tape,ht.k.output.trans aa.output,Nat.le_trans aa.size ht.k.size,fun b hb=>(ht.k.block b (qM hb aa.size) (fun ho=>by have:=ac b ho;omega)).trans (aa.block b hb)⟩
theorem RnI.write{w0:World}{f bt bb bx B:Nat}{d:Ru.Die}{s0 s2:St}{l:List Tx}{W U V:World}{R2:Nat->Rw}{cs2:List Cu.Cut}{ps2:List Pq}{v v2:Value}{T T':Tx}
  (ae:FlAt (rnO f bb bx R2 v) U f R2 cs2 ps2 d s2) (aj:∀ b,zao f R2 b->w0.heap.size<=b) (ac:HldV T bb v U) (an:bt<bb) (ao:bb<bx) (hf:f<bt) (ak:Bx U bt [.pointer (some ⟨f,0,none⟩)]) (ag:Kd U bt 31) (af:Kd U bx 9) (ai:Env U) (ab:Below w0.heap.size w0 U) (h6:6<=w0.heap.size) (hw:w0.heap.size<=bb)
  (hU:U.heap[bx]?=W.heap[bx]?) (hQ:KeepsFrom B W U) (ah:HldV T' bb v2 V) (aa:Keep (bldO bb v) U V) (am:∀ x,bldO bb v2 x->bldO bb v x\/U.heap.size<=x) (e1:stA d s0 l=s2) (e2:playS d s0 l=T') :
  KeepsFrom B W V/\V.heap[bx]?=W.heap[bx]?/\RnI w0 f bt bb bx d s0 l V:=by
 have n1:¬ bldO bb v bx:=zhS ac af rfl
 have n2:¬ bldO bb v bt:=zhS ac ag rfl
 have hlt:bx<U.heap.size:=by obtain⟨c,fz,h⟩:=af;exact(qB.1 h).1
 have q:=KeepsFrom.of_keep (B:=B) aa (fun b hb=>ac.cells hb)
 refine⟨⟨Nat.le_trans hQ.size q.size,fun k o hb ho hc=>q.same k o hb (hQ.same k o hb ho hc) hc⟩,(aa.block bx hlt n1).trans hU,⟨R2,cs2,ps2,v2,?_,aj,by rw[e2];exact ah⟩,aa.bx ak n2,ag.keep aa n2,af.keep aa n1,ai.keep aa (fun b hb=>by have:=(ac.type hb).1;omega),?_⟩
 .rw[e1]
  refine ae.keepG aa (fun b hb=>.inr (.inr hb)) (fun b hb hp=>zkR ae ac (by omega) hp hb) (fun b hb h=>?_) (fun b hb=>.inl hb) (fun b hb=>?_)
  .rcases h with h|h|h
   .exact .inl h
   .exact .inr (.inl h)
   .rcases am b h with h|h
    .exact .inr (.inr h)
    .omega
  .rcases hb with h|h|h
   .exact qM (ae.own.is_lt b h) aa.size
   .rw[h];exact qM hlt aa.size
   .obtain⟨o,ho,-⟩:=ah.cells h;exact(qB.1 ho).1
 .exact⟨aa.os.trans ab.os,aa.tape.trans ab.tape,aa.output.trans ab.output,Nat.le_trans ab.size aa.size,fun b hb=>(aa.block b (qM hb ab.size) (fun ho=>by have:=(ac.type ho).1;omega)).trans (ab.block b hb)⟩
theorem zpS(d:Ru.Die)(pieces persons:Int)(t:Tx)(w:World)(ai:Env w)(hd:Ru.DieAt w w.heap.size d)(cy:t.length<=9223372036854775807):Calls Tryz.prog 15 #[.agg #[.slice d.A d.blades.length d.c,.int .i64 d.bound,.int .i64 d.stop,.int .i64 d.bend],.int .i64 pieces,.int .i64 persons,tx t] w (Ret (.tuple #[tx (runS d pieces persons t).1,.int .i64 (runS d pieces persons t).2]) w):=by
 have HR:=qG (show runS d pieces persons t=(if 131072<t.length then(([],3):Tx×Int) else if t≠[]/\t.getLast?≠some 10 then([],8) else match newS d pieces persons with
 |none=>([],1)
 |some s=>(playS d s (zcT t),0)) from rfl)
 generalize runS d pieces persons t=RS at *
 have ac:=qG ai
 have n1:=nxA w (.cells #[.slice d.A d.blades.length d.c,.int .i64 d.bound,.int .i64 d.stop,.int .i64 d.bend] 24)
 have y1:=Bx.new w #[.slice d.A d.blades.length d.c,.int .i64 d.bound,.int .i64 d.stop,.int .i64 d.bend] 24
 have bL:=qG (hd.next n1)
 have af:=qG n1
 clear hd ai
 by_cases hl:131072<t.length
 .have cn:decide ((131072:Int)<(t.length:Int))=true:=decide_eq_true (by omega)
  rw[if_pos hl] at HR
  have aj:=qG HR.o
  clear hl n1 y1 HR
  go_enter Tryz.func15,Tryz.ntmps15
  go_wp2_with fail
  go_ret2
  rw[aj.o]
  exact⟨rfl,af.o⟩
 .have cn:decide ((131072:Int)<(t.length:Int))=false:=decide_eq_false (by omega)
  rw[if_neg hl] at HR
  have an:=qG (show t.length<=131072 by omega)
  clear hl
  by_cases hs:t≠[]/\t.getLast?≠some 10
  .rw[if_pos hs] at HR
   have aj:=qG HR.o
   have aw:List.isEmpty t=false:=by
    cases t with
   |nil=>exact absurd rfl hs.1
   |cons b l=>rfl
   have ax:=qG (zkO t (w.alloc (.cells #[.slice d.A d.blades.length d.c,.int .i64 d.bound,.int .i64 d.stop,.int .i64 d.bend] 24)) (by have:=an.o;omega))
   rw[decide_eq_false hs.2] at ax
   clear hs n1 y1 HR
   go_enter Tryz.func15,Tryz.ntmps15
   go_wp2_with fail
   refine ax.o.mono ?_
   rintro e w' ⟨rfl,rfl⟩
   go_wp2_with fail
   go_ret2
   rw[aj.o]
   exact⟨rfl,af.o⟩
  .rw[if_neg hs] at HR
   have bM:=qG (show t=[]\/t.getLast?=some 10 by
    by_cases h1:t=[]
    .exact .inl h1
    .by_cases h2:t.getLast?=some 10
     .exact .inr h2
     .exact absurd ⟨h1,h2⟩ hs)
   clear hs
   have c0:=y1.c 0 _ rfl
   have c1:=y1.c 1 _ rfl
   have c2:=y1.c 2 _ rfl
   have c3:=y1.c 3 _ rfl
   obtain⟨b4,aZ⟩:∃ b,b=w.heap.size:=⟨_,rfl⟩
   generalize hV1:w.alloc (.cells #[.slice d.A d.blades.length d.c,.int .i64 d.bound,.int .i64 d.stop,.int .i64 d.bend] 24)=V1 at *
   have bN:=qG hV1
   rw[<- aZ] at c0 c1 c2 c3
   have bO:=qG aZ
   have ax:=qG (zkO t V1 (by have:=an.o;omega))
   clear hV1 aZ n1 y1
   have aP:List.isEmpty t=true\/(List.isEmpty t=false/\decide (t.getLast?=some 10)=true):=by
    rcases bM.o with h|h
    .rw[h];exact .inl rfl
    .right
     refine⟨?_,decide_eq_true h⟩
     cases t with
    |nil=>cases h
    |cons b l=>rfl
   cases hN:newS d pieces persons with
  |none=>
    rw[hN] at HR
    have aj:=qG HR.o
    have ak:=qG (zkT d pieces persons V1 bL.o)
    unfold zea at ak
    rw[hN] at ak
    clear HR hN
    rcases aP with aw|⟨aw,bJ⟩
    all_goals
     go_enter Tryz.func15,Tryz.ntmps15
     go_upto_region 1 with fail
     rw[bN.o,<- bO.o]
     go_wp2_with fail
     try (refine ax.o.mono ?_;rintro e w' ⟨rfl,rfl⟩;go_wp2_with fail)
     refine ak.o.mono ?_
     rintro e V2 ⟨hb,rfl⟩
     have ae:=qG ((af.o.trans (hb.mono af.o.size)).trans ((nxA V2 (.cells #[.pointer none] 31)).mono (Nat.le_trans af.o.size hb.size)))
     clear hb c0 c1 c2 c3
     go_wp2_with fail
     go_ret2
     rw[aj.o]
     exact⟨rfl,ae.o⟩
  |some s=>
    rw[hN] at HR
    have aj:=qG HR.o
    have ak:=qG (zkT d pieces persons V1 bL.o)
    unfold zea at ak
    rw[hN] at ak
    have ag:=qG (show ∀ A c,Ru.dieS (mvD d A c)=true/\SOk (mvD d A c) s 0 from fun A c=>zp2 (d:=mvD d A c) hN)
    clear HR hN
    rcases aP with aw|⟨aw,bJ⟩
    all_goals
     refine(callsIn_wide (n:=6)).1 ?_
     refine zry Tryz.func15 rfl trivial ?_ rfl
     simp only[Tryz.ntmps15,List.size_toArray,List.length_cons,List.length_nil,Nat.reduceAdd,Nat.reduceSub,Array.replicate_succ,Array.replicate_zero,List.push_toArray,List.append_toArray,List.nil_append,List.cons_append]
     refine zrv trivial (zrt trivial ?_)
     gi_wp2_with fail
     rw[bN.o,<- bO.o]
     refine zrv trivial (zrt trivial ?_)
     gi_wp2_with fail
     first|(refine⟨trivial,(callsIn_wide.2 ax.o).mono ?_⟩;rintro e w' ⟨rfl,rfl⟩;gi_wp2_with fail)|(refine⟨trivial,?_⟩;gi_wp2_with fail)
     refine zrv trivial (zrt trivial ?_)
     gi_wp2_with fail
     refine⟨trivial,(callsIn_wide.2 ak.o).mono ?_⟩
     rintro e V2 ⟨hb,f,R,A,c,rfl,ao,ay⟩
     have am:=qG (ao.shrink (O':=zao f R) (fun b hb=>.inr hb) (fun b hb=>hb))
     replace ag:=qG (ag.o A c)
     have az:=qG ay
     have ae:=qG (af.o.trans (hb.mono af.o.size))
     have n3:=nxA V2 (.cells #[.pointer (some ⟨f,0,none⟩)] 31)
     have y3:=Bx.new V2 #[.pointer (some ⟨f,0,none⟩)] 31
     have k3:=Kd.new V2 #[.pointer (some ⟨f,0,none⟩)] 31
     clear hb ao ay c0 c1 c2 c3
     gi_wp2_with fail
     generalize V2.alloc (.cells #[.pointer (some ⟨f,0,none⟩)] 31)=V3 at *
     obtain⟨bt,a7⟩:∃ b,b=V2.heap.size:=⟨_,rfl⟩
     rw[<- a7] at y3 k3 ⊢
     have aq:=qG a7
     have a8:=qG (ae.o.trans (n3.mono ae.o.size))
     have aN:=qG (am.o.below n3)
     have cx:=qG (show V2.heap.size<=V3.heap.size from n3.size)
     clear n3 a7
     refine zrv trivial (zrt trivial ?_)
     gi_wp2_with fail
     refine zrv trivial (zrt trivial ?_)
     have n4:=nxA V3 (.cells #[.pointer none,.slice none 0 0] 122)
     have y4:=HldV.new V3
     gi_wp2_with fail
     generalize V3.alloc (.cells #[.pointer none,.slice none 0 0] 122)=V4 at *
     obtain⟨bb,aQ⟩:∃ b,b=V3.heap.size:=⟨_,rfl⟩
     rw[<- aQ] at y4 ⊢
     have cg:=qG aQ
     have aO:=qG (a8.o.trans (n4.mono a8.o.size))
     have aA:=qG n4
     have Y3:=qG (y3.next n4)
     have K3:=qG (k3.next n4)
     have bK:=qG (show f<V2.heap.size from am.o.own.lt)
     have ab:=qG (show bt<bb by rw[aQ];exact y3.lt)
     clear n4 y3 k3 aQ am a8
     refine zrv trivial ?_
     refine zrv trivial (zrt trivial ?_)
     gi_wp2_with fail
     refine⟨trivial,(callsIn_wide.2 (zi4 ⟨t.toArray⟩ V4)).mono ?_⟩
     rintro e w' ⟨rfl,rfl⟩
     have n5:=nxA V4 (.cells #[tx t] 9)
     have y5:=Bx.new V4 #[tx t] 9
     have k5:=Kd.new V4 #[tx t] 9
     gi_wp2_with fail
     generalize V4.alloc (.cells #[tx t] 9)=V5 at *
     obtain⟨bx,a9⟩:∃ b,b=V4.heap.size:=⟨_,rfl⟩
     rw[<- a9] at y5 k5 ⊢
     have aR:=qG (aO.o.trans (n5.mono aO.o.size))
     have ba:=qG (aN.o.belowO (O':=rnO f bb bx R (.slice none 0 0)) (aA.o.trans (n5.mono aA.o.size)) (fun b hb h=>h.elim (fun h=>h) (fun h=>h.elim (fun h=>by have:=aA.o.size;omega) (fun h=>h.elim (fun h=>by have:=cg.o;omega) (fun h=>by cases h)))) (fun b hb=>.inl hb) (fun b hb=>hb.elim (fun h=>qM (aN.o.lt b h) (Nat.le_trans aA.o.size n5.size)) (fun h=>h.elim (fun h=>by rw[h];exact y5.lt) (fun h=>h.elim (fun h=>by rw[h];exact qM y4.lt n5.size) (fun h=>by cases h)))))
     have Y5:=qG y5
     have K5:=qG k5
     have bP:=qG (show RnI w f bt bb bx (mvD d A c) s [] V5 from⟨⟨R,[],[],.slice none 0 0,ba.o,(fun b hb=>Nat.le_trans af.o.size (az.o b hb)),y4.keep (.of_below (O:=fun _=>False) n5) (fun _ _ x=>x)⟩,Y3.o.next n5,K3.o.next n5,k5,ac.o.next aR.o,aR.o⟩)
     have ah:=qG (show bb<bx/\bx<V5.heap.size from⟨by rw[a9];exact y4.lt,y5.lt⟩)
     have aB:=qG (show f<bt by rw[aq.o];exact bK.o)
     clear n5 y4 y5 k5 a9 aN ba aO Y3 K3 aA
     obtain⟨B,hB⟩:∃ B,V5.heap.size=B:=⟨_,rfl⟩
     have cz:bx<B:=by rw[<- hB];exact ah.o.2
     refine zrA trivial (fun _ _ _ h=>h) (fun _ _ _ h=>h) ?_
     first|(have hA:List.isEmpty t=true:=aw;obtain⟨F0,hF⟩:∃ F:Tx->Act,F=(fun x=>{ tmps:=#[.agg #[.slice d.A d.blades.length d.c,.int .i64 d.bound,.int .i64 d.stop,.int .i64 d.bend],.int .i64 pieces,.int .i64 persons,tx t,.pointer (some ⟨b4,0,none⟩),undef,undef,undef,.string ⟨#[]⟩,.int .i64 0,.pointer (some ⟨bt,0,none⟩),.pointer (some ⟨bb,0,none⟩),tx x,undef,undef,.bool false,tx t,.int .i64 t.length,.bool false,.bool false,tx t,.bool false,.bool false,undef,undef,undef,.bool false,.tuple #[.pointer (some ⟨f,0,none⟩),.int .i64 0],.agg #[.slice d.A d.blades.length d.c,.int .i64 d.bound,.int .i64 d.stop,.int .i64 d.bend],.int .i64 pieces,.int .i64 persons,.tuple #[.pointer (some ⟨f,0,none⟩),.int .i64 0],.pointer (some ⟨f,0,none⟩),.int .i64 0,.int .i64 0,.bool false,undef,tx t,.func (.func 120) #[] #[.pointer (some ⟨bx,0,none⟩)],tx x,undef,undef,undef,undef,undef,undef,undef,undef,undef,undef,undef,undef,undef,undef,undef,undef,undef,undef],defers:=[] }):=⟨_,rfl⟩;clear hA)|obtain⟨F0,hF⟩:∃ F:Tx->Act,F=(fun x=>{ tmps:=#[.agg #[.slice d.A d.blades.length d.c,.int .i64 d.bound,.int .i64 d.stop,.int .i64 d.bend],.int .i64 pieces,.int .i64 persons,tx t,.pointer (some ⟨b4,0,none⟩),undef,undef,undef,.string ⟨#[]⟩,.int .i64 0,.pointer (some ⟨bt,0,none⟩),.pointer (some ⟨bb,0,none⟩),tx x,undef,undef,.bool false,tx t,.int .i64 t.length,.bool false,.bool false,tx t,.bool true,.bool true,tx t,.bool true,.bool false,.bool false,.tuple #[.pointer (some ⟨f,0,none⟩),.int .i64 0],.agg #[.slice d.A d.blades.length d.c,.int .i64 d.bound,.int .i64 d.stop,.int .i64 d.bend],.int .i64 pieces,.int .i64 persons,.tuple #[.pointer (some ⟨f,0,none⟩),.int .i64 0],.pointer (some ⟨f,0,none⟩),.int .i64 0,.int .i64 0,.bool false,undef,tx t,.func (.func 120) #[] #[.pointer (some ⟨bx,0,none⟩)],tx x,undef,undef,undef,undef,undef,undef,undef,undef,undef,undef,undef,undef,undef,undef,undef,undef,undef,undef],defers:=[] }):=⟨_,rfl⟩
     refine zrw (fn₀:=Tryz.f15) Tryz.func15 trivial rfl (by omega) (gf:=120) (lb:=#[.pointer (some ⟨bx,0,none⟩)]) rfl trivial (enters_of Tryz.func120 (by kernel_rfl) rfl)
        (encs:=encT) (T:=fun A r=>r=bx/\Kd A bx 9) (Kp:=fun W W'=>W'.heap[bx]?=W.heap[bx]?) (R:=fun _ _=>True) (S:=fun xs=>xs=rawL t) (Sp:=fun pre=>pre <+: rawL t) (So:=fun _ _=>False)
        (fun W hW _=>zjD (6-1) (by omega) t (by have:=an.o;omega) bx W (Y5.o.next hW) (K5.o.next hW))
        (fun A r h=>by rw[h.1,hB];omega) (fun h k=>k.trans h) (fun W o'=>by show(W.putObj _ o').heap[bx]?=W.heap[bx]?;rw[World.putObj_heap_other (by rw[hB];omega)]) (fun _=>rfl)
        (fun pre W=>RnI w f bt bb bx (mvD d A c) s (pre.map zaz) W) (fun _ _ _=>False) (fun _ _=>False) ?hI ?hIx ?hR ?tI ?tIx ?tIp bP.o
        F0
        ?assign ?body ?done ?stop ?pan ?own
     all_goals subst hF
     case assign=>
      intro l x W K hK
      dsimp only[encT]
      gi_wp2
      exact hK
     case hI=>
      intro pre W W' row h hg hr
      have cp:∀ r,row=some r->∃ o,W.heap[r]?=some o/\o.isCells=false:=fun r e=>(hr r e).2.1
      exact h.turn ac.o.sz hg (fun r e=>Nat.le_trans aR.o.size (hr r e).1) cp
     case hIx=>exact fun _ _ _ _ _ h _ _=>h
     case hR=>exact fun _ _ _ _ h _ _=>h
     case tI=>
      intro pre W W' row h hg hr
      exact h.turnX ac.o.sz ab.o ah.o.1 aB.o (by have:=ah.o.1;have:=ab.o;have:=aq.o;have:=ae.o.size;omega) hg (fun r e=>⟨(hr r e).1.1,(hr r e).2.2⟩)
     case tIx=>exact fun _ _ _ _ _ h _ _=>h
     case tIp=>exact fun _ _ _ _ h _ _=>h
     case stop=>rintro D c pre W _ _ h _;exact h.elim
     case pan=>rintro D ch W _ h _;exact h.elim
     case own=>rintro D ch pre W _ h _ _;exact h.elim
     case done=>
      rintro D xs W hD cq hI hK
      rw[hB] at hD
      subst cq
      have HI:=qG hI
      have HK:=qG hK
      have ci:=qG (show(rawL t).map zaz=zcT t by rw[zi6 bM.o,zh2 _ t (qQ _)])
      have cr:=qG (zji d A c s (zcT t))
      clear hI hK
      refine zrt trivial ?_
      gi_wp2_with fail
      obtain⟨-,-,-,v,-,-,aC⟩:=HI.o.fl
      have aD:=qG aC.hld
      clear aC
      refine⟨trivial,(callsIn_wide.2 (zkI _ bb W aD.o)).mono ?_⟩
      rintro e W9 ⟨rfl,bQ,bR⟩
      have bS:=qG (HI.o.bel.trans (bQ.mono (by have:=ab.o;have:=aq.o;have:=ae.o.size;omega)))
      have cv:=qG (show W9.heap[D]?=some (.deferred (some [])) from bR D _ HK.o (fun e=>by have:=Option.some.inj e;have:=ah.o.1;omega) (fun c fz e=>by cases e))
      clear bQ bR
      gi_wp2_with fail
      have hG:=grownBy_putObj' W9 D (.deferred none)
      refine⟨by simp,.inl ⟨_,_,rfl,run_takeDeferred cv.o,?_⟩⟩
      refine⟨_,results_tmp2 rfl _ _ _,?_⟩
      refine⟨?_,bS.o.trans (zb7 hG (fun r e=>by cases e;have:=aR.o.size;omega) bS.o.size)⟩
      rw[aj.o,<- cr.o,<- ci.o]
      rfl
     case body=>
      rintro l' pre x W hI hsp -
      obtain⟨⟨R1,cs1,ps1,v,ao,ay,aC⟩,bT,bf,bU,ai,bh⟩:=hI
      have hpl:=hsp.length_le
      have bV:x∈rawL t:=hsp.subset (by simp)
      have cw:=qG (show x.length<=131072 from Nat.le_trans (zf7 t x bV) an.o)
      have aE:=qG (show pre.length+1<=131072 by rw[qD] at hpl;have:=zgJ t;have:=an.o;simp at hpl;omega)
      have aS:=qG (zmg ag.o.1 (pre.map zaz) ag.o.2)
      rw[Nat.zero_add,List.length_map] at aS
      have bW:=qG (znJ (mvD d A c) s (pre.map zaz) (zaz x))
      have bX:=qG (zh4 (mvD d A c) (pre.map zaz) s (zaz x))
      have bi:=qG (show(pre++[x]).map zaz=pre.map zaz++[zaz x] by rw[List.map_append];rfl)
      have bj:=qG (zjh ag.o.1 (pre.map zaz) ag.o.2 (by rw[List.length_map];have:=aE.o;omega))
      rw[List.length_map] at bj
      have aT:=qG (zjm ag.o.1 aS.o (by have:=aE.o;omega) (zaz x))
      have bY:=qG (show outL (mvD d A c) (stA (mvD d A c) s (pre.map zaz)) (zaz x)=if(lineS (mvD d A c) (stA (mvD d A c) s (pre.map zaz)) (zaz x)).2.2=0 then(lineS (mvD d A c) (stA (mvD d A c) s (pre.map zaz)) (zaz x)).2.1 else rep [wd wErr,.n (lineS (mvD d A c) (stA (mvD d A c) s (pre.map zaz)) (zaz x)).2.2] from rfl)
      have bZ:=qG (zia (mvD d A c) (stA (mvD d A c) s (pre.map zaz)) (zaz x))
      have b0:=qG (zdi ao aB.o bf rfl)
      have am:=qG (ao.below ((Below.refl _ W).drew))
      have az:=qG ay
      have aD:=qG aC
      have ar:=qG bT
      have b7:=qG bf
      have b8:=qG bU
      have bk:=qG ai
      have bp:=qG bh
      clear ao ay aC bT bf bU ai bh hpl bV hsp
      gi_wp2_with fail
      refine zcD (S:=(fun W'=>W'.cell? ⟨bt,0,none⟩=some (.pointer (some ⟨f,0,none⟩)))) (by kernel_rfl) (by kernel_rfl) ?_ (fun au=>?_)
      ·(try dsimp only);first|assumption|exact ar.o.c 0 _ rfl
      refine ht 0 (h:=?_)
      refine ht 1 (h:=?_)
      refine r1 (i:=2) (by kernel_rfl) rfl fun K hK=>?_
      go_simp
      refine(znG x _ (by have:=cw.o;omega)).mono ?_;rintro e2 U2 ⟨rfl,rfl⟩
      refine hK.out _ _ ?_ (fun au=>?_)
      ·(try dsimp only);first|assumption|exact ar.o.c 0 _ rfl
      clear hK K
      try simp only[Act.put,qJ,qK,qL]
      refine r1 (i:=3) (by kernel_rfl) rfl fun K hK=>?_
      go_simp
      refine(zp5 _ _ f R1 cs1 ps1 (mvD d A c) _ (zaz x) pre.length (by have:=aE.o;omega) (bk.o.next ((Below.refl _ W).drew)) (fun b hb=>hb.elim (fun h=>Nat.le_trans ac.o.sz (az.o b h)) (fun h=>h.elim (fun h=>by have:=ac.o.sz;have:=ae.o.size;have:=aq.o;have:=ab.o;have:=ah.o.1;omega) (fun h=>by have:=(aD.o.type h).1;have:=ac.o.sz;have:=ae.o.size;have:=aq.o;have:=ab.o;omega))) am.o ag.o.1 aS.o).mono ?_;rintro e3 U3 ⟨rfl,R2,cs2,ps2,bq,cb⟩;have bu:=qG bq;have bv:=qG cb;clear bq cb
      refine hK.out _ _ ?_ (fun au=>?_)
      ·(try dsimp only);exact(bv.o.k.cell (b:=bt) (o:=0) ar.o.lt b0.o).trans (ar.o.c 0 _ rfl)
      clear hK K
      try simp only[Act.put,qJ,qK,qL]
      refine ht 4 (h:=?_)
      refine ht 5 (h:=?_)
      refine ht 6 (h:=?_)
      refine ht 7 (h:=?_)
      refine ht 8 (h:=?_)
      refine wpAnyH_done (by kernel_rfl) ?_ _
      dsimp only[Only]
      iterate 10 (try clear au)
      obtain⟨aU,aV,aF,aW,aX,aG,aH,aI,aY,bw⟩:=RnI.line (w0:=w) (x:=zaz x) am.o az.o (aD.o.keep (.of_below (O:=fun _=>False) ((Below.refl _ W).drew)) (fun _ _ x=>x)) ab.o ah.o.1 aB.o (ar.o.next ((Below.refl _ W).drew)) (b7.o.next ((Below.refl _ W).drew)) (b8.o.next ((Below.refl _ W).drew)) (bk.o.next ((Below.refl _ W).drew)) (bp.o.trans (((Below.refl _ W).drew).mono bp.o.size)) ac.o.sz bu.o bv.o
      replace aU:=qG aU
      replace aV:=qG aV
      replace aF:=qG aF
      replace aW:=qG aW
      replace aX:=qG aX
      replace aG:=qG aG
      replace aH:=qG aH
      replace aI:=qG aI
      replace aY:=qG (aY.trans (show W.drew.heap[bx]?=W.heap[bx]? from rfl))
      have bz:=qG (show KeepsFrom V5.heap.size W U3 from⟨bw.size,fun k o _ ho hc=>bw.same k o (Nat.zero_le _) ho hc⟩)
      clear bw bu bv am az aD ar b7 b8 bk bp b0 aS
      generalize lineS (mvD d A c) (stA (mvD d A c) s (pre.map zaz)) (zaz x)=LN at *
      obtain⟨s2,rp,er⟩:=LN
      dsimp only
      have bA:=qG (show stA (mvD d A c) s ((pre++[x]).map zaz)=s2 by rw[bi.o];exact bW.o)
      have bB:=qG (show playS (mvD d A c) s ((pre++[x]).map zaz)=playS (mvD d A c) s (pre.map zaz)++(outL (mvD d A c) (stA (mvD d A c) s (pre.map zaz)) (zaz x)++[10]) by rw[bi.o];exact bX.o)
      have bC:=qG (show 0<=er/\er<=13 from bZ.o)
      have bD:=qG (show FlAt (rnO f bb bx R2 v) U3 f R2 cs2 ps2 (mvD d A c) s2 from aU.o)
      have bE:=qG (show outL (mvD d A c) (stA (mvD d A c) s (pre.map zaz)) (zaz x)=if er=0 then rp else rep [wd wErr,.n er] from bY.o)
      clear bW bX bZ aU bY bi
      generalize outL (mvD d A c) (stA (mvD d A c) s (pre.map zaz)) (zaz x)=OT at *
      generalize playS (mvD d A c) s (pre.map zaz)=PT at *
      have cd:=qG (show w.heap.size<=bb by have:=ae.o.size;have:=aq.o;have:=ab.o;omega)
      by_cases he:er=0
      .subst he
       have aJ:=qG (show OT=rp from bE.o)
       have cj:¬ 9223372036854775807<rp.length+1:=by have:=aT.o;rw[aJ.o] at this;omega
       have HC:=qG (zpr rp)
       gi_wp2_with fail
       rw[HC.o]
       refine⟨trivial,(CallsIn.inRound l' (callsIn_wide.2 (zgB PT (rp++[10]) bb v U3 aF.o (by have h1:=aT.o;have h2:=bj.o;have h3:=aE.o;rw[aJ.o] at h1;simp only[qD,List.length_singleton];omega) (by simp)))).mono ?_⟩
       rintro e U4 ⟨rfl,v2,aK,aL,aM⟩
       have bF:=qG aK
       have bG:=qG aL
       have bH:=qG aM
       clear aK aL aM
       gi_wp2_with fail
       exact RnI.write bD.o aV.o aF.o ab.o ah.o.1 aB.o aW.o aX.o aG.o aH.o aI.o ac.o.sz cd.o aY.o bz.o bF.o bG.o bH.o bA.o (by rw[bB.o,aJ.o])
      .have cA:(er==0)=false:=beq_false_of_ne he
       have aJ:=qG (show OT=rep [wd wErr,.n er] by rw[bE.o,if_neg he])
       have cm:=qG (show ∀ y∈[wd wErr,Pa.n er],y.ok from by simp only[List.forall_mem_cons];exact⟨(by show _<=20;decide),⟨by have:=bC.o;omega,by have:=bC.o;omega⟩,(fun x hx=>by cases hx)⟩)
       clear he
       gi_wp2_with fail
       refine⟨trivial,(CallsIn.inRound l' (callsIn_wide.2 (zbf U3 [wd wErr,Pa.n er] aH.o (by simp) (by simp) cm.o))).mono ?_⟩
       rintro e U5 ⟨rfl,cf⟩
       rw[<- aJ.o]
       have cj:¬ 9223372036854775807<OT.length+1:=by have:=aT.o;omega
       have HC:=qG (zpr OT)
       have aa:=qG cf
       clear cf
       gi_wp2_with fail
       rw[HC.o]
       have bI:=qG (aF.o.keep (.of_below (O:=fun _=>False) aa.o) (fun _ _ x=>x))
       refine⟨trivial,(CallsIn.inRound l' (callsIn_wide.2 (zgB PT (OT++[10]) bb v U5 bI.o (by have h1:=aT.o;have h2:=bj.o;have h3:=aE.o;simp only[qD,List.length_singleton];omega) (by simp)))).mono ?_⟩
       rintro e U4 ⟨rfl,v2,aK,aL,aM⟩
       have bF:=qG aK
       have bG:=qG aL
       have bH:=qG aM
       clear aK aL aM
       gi_wp2_with fail
       have hlt:bx<U3.heap.size:=by obtain⟨c,fz,h⟩:=aG.o;exact(qB.1 h).1
       exact RnI.write (bD.o.below aa.o) aV.o bI.o ab.o ah.o.1 aB.o (aW.o.next aa.o) (aX.o.next aa.o) (aG.o.next aa.o) (aH.o.next aa.o) (aI.o.trans (aa.o.mono aI.o.size)) ac.o.sz cd.o ((aa.o.block bx hlt).trans aY.o) ⟨Nat.le_trans bz.o.size aa.o.size,fun k o hb ho hc=>by have h1:=bz.o.same k o hb ho hc;rw[aa.o.block k (qB.1 h1).1];exact h1⟩ bF.o bG.o bH.o bA.o bB.o
end
section
open Go.RowKit
open Le
theorem zlv(w:World):Calls Tryz.prog 48 #[] w (RetQ (.tuple #[tx smpS,tx smpR]) w):=by
 go_enter Tryz.func48,Tryz.ntmps48
 go_wp2
 go_ret2
 exact⟨by kernel_rfl,rfl⟩
theorem zn9{w:World}{b:Nat}{a0 a1 a2 a3:Value}(h:Bx w b [a0,a1,a2,a3]):(loadVar 24 ⟨b,0,none⟩).run Tryz.prog w=.ok (.agg #[a0,a1,a2,a3]) w:=by
 have c0:=h.c 0 _ rfl
 have c1:=h.c 1 _ rfl
 have c2:=h.c 2 _ rfl
 have c3:=h.c 3 _ rfl
 clear h
 go_simp
def zrb(w:World)(e:Ending)(w':World):Prop:=∃ A c,e=.returned (.agg #[.slice A (smpD A c).blades.length c,.int .i64 (smpD A c).bound,.int .i64 (smpD A c).stop,.int .i64 (smpD A c).bend])/\Ru.DieAt w' w'.heap.size (smpD A c)/\Below w.heap.size w w'
theorem zoR(w:World):Calls Tryz.prog 49 #[] w (zrb w):=by
 have n1:=nxA w (.cells #[.slice none 0 0,.int .i64 0,.int .i64 0,.int .i64 0] 24)
 have y1:=Bx.new w #[.slice none 0 0,.int .i64 0,.int .i64 0,.int .i64 0] 24
 go_enter Tryz.func49,Tryz.ntmps49
 go_upto_region 1 with fail
 generalize w.alloc (.cells #[.slice none 0 0,.int .i64 0,.int .i64 0,.int .i64 0] 24)=V at *
 obtain⟨b,hb⟩:∃ b,b=w.heap.size:=⟨_,rfl⟩
 rw[<- hb] at y1 ⊢
 have aa:=qG (show w.heap.size<=b by omega)
 have HB:=qG n1
 clear hb n1
 have n2:=nxA V (.cells #[.int .i64 0,.int .i64 5,.int .i64 2,.int .i64 3,.int .i64 2,.int .i64 4,.int .i64 0,.int .i64 1] 114)
 have y2:=qG (Bx.new V #[.int .i64 0,.int .i64 5,.int .i64 2,.int .i64 3,.int .i64 2,.int .i64 4,.int .i64 0,.int .i64 1] 114)
 have HX:=qG (y1.next n2)
 have ab:=qG (HB.o.trans (n2.mono HB.o.size))
 have HG:=qG (show b<V.heap.size from y1.lt)
 have c0:=HX.o.c 0 _ rfl
 have c1:=HX.o.c 1 _ rfl
 have c2:=HX.o.c 2 _ rfl
 have c3:=HX.o.c 3 _ rfl
 have f0:=HX.o.fr 0
 have f1:=HX.o.fr 1
 have f2:=HX.o.fr 2
 have f3:=HX.o.fr 3
 have lb:=HX.o.lt
 clear y1 n2
 go_wp2_with fail
 refine bodyPost_ret (zaH rfl rfl (zn9 (HX.o.setAll [.slice (some ⟨V.heap.size,0,none⟩) 2 2,.int .i64 40,.int .i64 10,.int .i64 3] rfl))) rfl ?_
 refine⟨some ⟨V.heap.size,0,none⟩,2,rfl,⟨fun k x hx=>?_,(by show(2:Nat)<=9223372036854775807;decide)⟩,zac aa.o [.slice (some ⟨V.heap.size,0,none⟩) 2 2,.int .i64 40,.int .i64 10,.int .i64 3] 0 ab.o⟩
 have y3:=y2.o.setOther (g:=b) (by have:=HG.o;omega) [.slice (some ⟨V.heap.size,0,none⟩) 2 2,.int .i64 40,.int .i64 10,.int .i64 3] 0
 refine⟨V.heap.size,0,rfl,y3.lt,fun j u hu=>?_⟩
 rw[Nat.zero_add]
 exact y3.c _ _ (zaO (cells:=Ru.Blade.cells) (size:=4) (fun _=>rfl) (smpD none 0).blades k x j u hx hu)
theorem zns(w:World)(hE:Env w):Calls Tryz.prog 14 #[] w (Ret (.bool true) w):=by
 have HE:=qG hE
 have ae:(smpR==smpR)=true:=beq_self_eq_true _
 clear hE
 go_enter Tryz.func14,Tryz.ntmps14
 go_wp2_with fail
 refine(zlv w).mono ?_
 rintro e w' ⟨rfl,rfl⟩
 go_wp2_with fail
 refine(zoR w).mono ?_
 rintro e V ⟨A,c,rfl,hd,hb⟩
 have HD:=qG hd
 have HB:=qG hb
 have aa:=qG (HE.o.next hb)
 have ab:=qG (zpE A c)
 clear hd hb
 go_wp2_with fail
 refine(zpS (smpD A c) 4 3 smpS V aa.o HD.o (of_decide_eq_true (by kernel_rfl))).mono ?_
 rintro e V2 ⟨rfl,hb⟩
 rw[ab.o]
 have ac:=qG (HB.o.trans (hb.mono HB.o.size))
 clear hb
 generalize smpR=r at *
 go_wp2_with fail
 go_ret
 exact⟨by simp,ac.o⟩
theorem zhW(t:Tx)(w:World)(hE:Env w)(_:t.length<=9223372036854775807):Calls Tryz.prog 9 #[tx t] w (Ret (.bool true) w):=by
 have HE:=qG hE
 clear hE
 go_enter Tryz.func9,Tryz.ntmps9
 go_wp2_with fail
 refine(zoa t w).mono ?_
 rintro e V1 ⟨rfl,hb⟩
 have HB:=qG hb
 clear hb
 go_wp2_with fail
 refine(znl V1).mono ?_
 rintro e V2 ⟨rfl,hb⟩
 replace HB:=qG (HB.o.trans (hb.mono HB.o.size))
 have n1:=nxA V2 (.cells bkZ 42)
 have y1:=Bx.new V2 bkZ 42
 unfold bkZ at *
 go_upto_region 4 with fail
 generalize V2.alloc (.cells #[.int .i64 0,.slice none 0 0,.slice none 0 0,.slice none 0 0,.int .i64 0,.slice none 0 0,.slice none 0 0,.slice none 0 0,.int .i64 0,.int .i64 0] 42)=V3 at *
 obtain⟨b6,ab⟩:∃ b,b=V2.heap.size:=⟨_,rfl⟩
 rw[<- ab] at y1 ⊢
 have aa:=qG y1
 replace HB:=qG (HB.o.trans (n1.mono HB.o.size))
 clear hb n1 y1 ab
 have n2:=nxA V3 (.cells #[.int .i64 0,.slice none 0 0,.slice none 0 0,.slice none 0 0,.int .i64 0,.slice none 0 0,.slice none 0 0,.slice none 0 0,.int .i64 0,.int .i64 0,.bool false,.slice none 0 0,.int .i64 0,.slice none 0 0,.int .i64 0,.int .i64 0,.int .i64 0,.bool false] 84)
 have y2:=Bx.new V3 #[.int .i64 0,.slice none 0 0,.slice none 0 0,.slice none 0 0,.int .i64 0,.slice none 0 0,.slice none 0 0,.slice none 0 0,.int .i64 0,.int .i64 0,.bool false,.slice none 0 0,.int .i64 0,.slice none 0 0,.int .i64 0,.int .i64 0,.int .i64 0,.bool false] 84
 go_upto_region 5 with fail
 generalize V3.alloc (.cells #[.int .i64 0,.slice none 0 0,.slice none 0 0,.slice none 0 0,.int .i64 0,.slice none 0 0,.slice none 0 0,.slice none 0 0,.int .i64 0,.int .i64 0,.bool false,.slice none 0 0,.int .i64 0,.slice none 0 0,.int .i64 0,.int .i64 0,.int .i64 0,.bool false] 84)=V4 at *
 obtain⟨f,hf⟩:∃ b,b=V3.heap.size:=⟨_,rfl⟩
 rw[<- hf] at y2 ⊢
 have HF:=qG (show Bx V4 f (bkL zerR zerS++[.slice none 0 0,.int .i64 0,.int .i64 0,.int .i64 0,.bool false]) from y2)
 replace aa:=qG (aa.o.next n2)
 replace HB:=qG (HB.o.trans (n2.mono HB.o.size))
 clear n2 y2 hf
 go_wp2_with fail
 refine(zmM f t V4 (HF.o.c 17 _ rfl)).mono ?_
 rintro e V5 ⟨rfl,hb⟩
 replace aa:=qG (aa.o.next hb)
 replace HF:=qG (HF.o.next hb)
 replace HB:=qG (HB.o.trans (hb.mono HB.o.size))
 clear hb
 go_wp2_with fail
 refine(zlZ V5 f HF.o).mono ?_
 rintro e V6 ⟨m,rfl,hm,hb⟩
 replace aa:=qG (aa.o.next hb)
 replace HB:=qG (HB.o.trans (hb.mono HB.o.size))
 clear hb hm HF
 have n7:=nxA V6 (.cells #[.int .i64 zerS.b.hour,.slice m.A0 zerS.b.cuts.length m.c0,.slice m.A1 zerS.b.ran.length m.c1,.slice m.A2 zerS.b.made.length m.c2,.int .i64 zerS.b.t.n,.slice m.A3 zerS.b.t.loans.length m.c3,.slice m.A4 zerS.b.t.looks.length m.c4,.slice m.A5 zerS.b.t.admits.length m.c5,.int .i64 zerS.b.cost,.int .i64 zerS.plans.length] 42)
 have y7:=Bx.new V6 #[.int .i64 zerS.b.hour,.slice m.A0 zerS.b.cuts.length m.c0,.slice m.A1 zerS.b.ran.length m.c1,.slice m.A2 zerS.b.made.length m.c2,.int .i64 zerS.b.t.n,.slice m.A3 zerS.b.t.loans.length m.c3,.slice m.A4 zerS.b.t.looks.length m.c4,.slice m.A5 zerS.b.t.admits.length m.c5,.int .i64 zerS.b.cost,.int .i64 zerS.plans.length] 42
 go_upto_region 7 with fail
 generalize V6.alloc (.cells #[.int .i64 zerS.b.hour,.slice m.A0 zerS.b.cuts.length m.c0,.slice m.A1 zerS.b.ran.length m.c1,.slice m.A2 zerS.b.made.length m.c2,.int .i64 zerS.b.t.n,.slice m.A3 zerS.b.t.loans.length m.c3,.slice m.A4 zerS.b.t.looks.length m.c4,.slice m.A5 zerS.b.t.admits.length m.c5,.int .i64 zerS.b.cost,.int .i64 zerS.plans.length] 42)=V7 at *
 obtain⟨b7,ac⟩:∃ b,b=V6.heap.size:=⟨_,rfl⟩
 rw[<- ac] at y7 ⊢
 replace aa:=qG (aa.o.next n7)
 replace HB:=qG (HB.o.trans (n7.mono HB.o.size))
 have c1:=aa.o.c 1 _ rfl
 have c2:=aa.o.c 2 _ rfl
 have d1:V7.cell? ⟨b7,1,none⟩=some (.slice m.A0 0 m.c0):=y7.c 1 _ rfl
 have d2:V7.cell? ⟨b7,2,none⟩=some (.slice m.A1 0 m.c1):=y7.c 2 _ rfl
 have HW:=qG (zns V7 (HE.o.next HB.o))
 clear n7 y7 ac
 go_wp2_with fail
 refine HW.o.mono ?_
 rintro e V8 ⟨rfl,hb⟩
 replace HB:=qG (HB.o.trans (hb.mono HB.o.size))
 clear hb c1 c2 d1 d2
 go_wp2_with fail
 go_ret
 exact⟨rfl,HB.o⟩
end
end Go.Proofs.YtankkcbofgighaaGreatDoor
