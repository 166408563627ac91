import Derived.Test.YtankkcbofgighaaGreatDoorL22
import Derived.BigQuiet
set_option linter.all false
set_option maxRecDepth 100000
set_option maxHeartbeats 40000000
namespace Go.Proofs.YtankkcbofgighaaGreatDoor
section
open Go.RowKit
open Le
open Go.Lib in
theorem zhU{P:Program}{w:World}{base:Nat}{t u ty e:TypeId}{i:TypeInfo}(ht:P.underlying t=some (.slice e))(hu:P.underlying u=some .string)(hi:P.info? e=some i)(hz:i.zero=some (.int .u8 0))
  (ab:i.size=1) (ae:i.bytes=1) {v:Value} {n:Nat} {xs:List Value} (aa:w.ownsRow base e 1 v n xs) {s:ByteArray}
  (af:n+s.size<=maxLen) (ag:n+s.size<=140737488355328) (h0:0<s.size) {v':Value} {w':World}
  (hr:(Builtin.append_ #[t,u] ty #[v,.string s]).run P w=.ok v' w'):∀ k,v'.ownBlock=some k->v.ownBlock=some k\/w.heap.size<=k:=by
 have ah:n+s.size<=9223372036854775807:=by simp only[maxLen] at af;omega
 have ai:xs.length=n:=by simpa using aa.1
 intro k hk
 rcases aa.2 with ⟨rfl,rfl⟩|⟨g,cap,cur,rfl,am,hg,an,ao,aj,zaf⟩
 .rw[run_append_nil_string (P:=P) w t u ty e i (.int .u8 0) ht hu hi hz s (by omega) (by omega) (by rw[ae];omega)] at hr
  injection hr with h2 _
  rw[<- h2] at hk
  exact .inr (Nat.le_of_eq (Option.some.inj hk))
 .by_cases ac:n+s.size<=cap
  .have ak:cur.size=cap:=by simpa using aj
   rw[run_append_room_string (P:=P) w t u ty e i ht hu hi ab g n cap cur hg s ac (by omega)] at hr
   injection hr with h2 _
   rw[<- h2] at hk
   exact .inl hk
  .have holds:∀ j u,xs[j]?=some u->w.cell? ((⟨g,0,none⟩:Addr).add j)=some u:=aa.cells (g:=g) rfl
   rw[run_append_grow_string (P:=P) w t u ty e i (.int .u8 0) ht hu hi hz ⟨g,0,none⟩ n cap xs (by rw[ab];simpa using ai) holds s (by omega) (by omega) (by rw[ae];exact growslice_fits (by omega) (by omega))] at hr
   injection hr with h2 _
   rw[<- h2] at hk
   exact .inr (Nat.le_of_eq (Option.some.inj hk))
theorem zdW{P:Program}{w:World}{ops:Array Oper}{rest:List Oper}{o:Oper}{a:Act}{Q:Exit->Act->World->Prop}(ah:o.guard=none)(sl x:Operand)(t u:TypeId)
  (ho:o.op=.call { callee:=.builtin .append,args:=#[sl,x],argTypes:=#[t,u] })
  (base:Nat) (e:TypeId) (i:TypeInfo) (ht:P.underlying t=some (.slice e)) (hu:P.underlying u=some .string) (hi:P.info? e=some i) (hz:i.zero=some (.int .u8 0))
  (ab:i.size=1) (af:i.bytes=1)
  (v:Value) (n:Nat) (xs:List Value) (hs:a.eval sl=v) (ac:w.ownsRow base e 1 v n xs) (s:ByteArray) (hx:a.eval x=.string s)
  (ag:n+s.size<=maxLen) (aa:n+s.size<=140737488355328) (ae:base<=w.heap.size) (h0:0<s.size)
  (h:∀ v' w',w'.ownsRow base e 1 v' (n+s.size) (xs++Lib.strCells s)->w.grownBy w' v.ownBlock->(∀ k,v'.ownBlock=some k->v.ownBlock=some k\/w.heap.size<=k)->wpList P ops Q rest (a.put o.dst v') w') :
  wpList P ops Q (o :: rest) a w:=by
 refine wpList_plain ah fun K hK=>?_
 obtain⟨v',w',hr,h2,h3,h4⟩:=Lib.run_append_own_string (P:=P) w base t u o.type e i ht hu hi hz ab af v n xs ac s ag aa ae
 have h5:=zhU (P:=P) ht hu hi hz ab af ac ag aa h0 hr
 unfold Oper.wp execOp
 simp only[ho,resolve,invoke,builtin,Sem.run_bind,Sem.run_pure,Result.andThen_ok,List.map_toArray,List.map_cons,List.map_nil,hs,hx,hr]
 exact hK _ _ (h v' w' h2 h3 h5)
def HldV(t:Tx)(b:Nat)(v:Value)(W:World):Prop:=∃ p,(p=.pointer none\/p=.pointer (some ⟨b,0,none⟩))/\W.heap[b]?=some (.cells #[p,v] 122 (0,0))/\W.ownsRow b 5 1 v t.length (Lib.byteCells t)/\v.ownBlock≠some b
theorem HldV.hld{t:Tx}{b:Nat}{v:Value}{W:World}(h:HldV t b v W):Hld t b W:=by
 obtain⟨p,hp,h1,h2,h3⟩:=h
 have aa:W.ownsRow b 5 1 v (Lib.byteCells t).length (Lib.byteCells t):=by rw[Lib.byteCells_length];exact h2
 rcases hp with rfl|rfl
 .exact .inl ⟨qQ _,v,h1,aa,h3⟩
 .exact .inr ⟨qQ _,v,h1,aa,h3⟩
theorem HldV.new(w:World):HldV [] w.heap.size (.slice none 0 0) (w.alloc (.cells #[.pointer none,.slice none 0 0] 122)):=
 ⟨_,.inl rfl,heap_alloc_new w _,World.ownsRow_nil _ _ _ _,by simp[Value.ownBlock]⟩
theorem HldV.lt{t:Tx}{b:Nat}{v:Value}{W:World}(h:HldV t b v W):b<W.heap.size:=h.hld.lt
def bldO(b:Nat)(v:Value)(x:Nat):Prop:=x=b\/v.ownBlock=some x
theorem HldV.keep{P:Nat->Prop}{t:Tx}{b:Nat}{v:Value}{w w':World}(h:HldV t b v w)(k:Keep P w w')(hn:∀ x,bldO b v x->¬ P x):HldV t b v w':=by
 obtain⟨p,hp,h1,h2,h3⟩:=h
 refine⟨p,hp,by rw[k.block b (qB.1 h1).1 (hn b (.inl rfl))];exact h1,⟨h2.1,?_⟩,h3⟩
 rcases h2.2 with h5|⟨g,cap,cur,e1,ab,hg,aa⟩
 .exact .inl h5
 .refine .inr ⟨g,cap,cur,e1,ab,?_,aa⟩
  rw[k.block g (qB.1 hg).1 (hn g (.inr (by rw[e1];rfl)))]
  exact hg
theorem HldV.cells{t:Tx}{b:Nat}{v:Value}{w:World}(h:HldV t b v w){x:Nat}(hx:bldO b v x):∃ o,w.heap[x]?=some o/\o.isCells=true:=by
 obtain⟨p,hp,h1,h2,h3⟩:=h
 rcases hx with rfl|hx
 .exact⟨_,h1,rfl⟩
 .rcases h2.2 with ⟨e1,-⟩|⟨g,cap,cur,e1,ab,hg,aa⟩
  .rw[e1] at hx;cases hx
  .rw[e1] at hx
   have:=Option.some.inj hx
   simp only at this
   subst this
   exact⟨_,hg,rfl⟩
theorem HldV.type{t:Tx}{b:Nat}{v:Value}{w:World}(h:HldV t b v w){x:Nat}(hx:bldO b v x):b<=x/\(Kd w x 122\/Kd w x 5):=by
 obtain⟨p,hp,h1,h2,h3⟩:=h
 rcases hx with rfl|hx
 .exact⟨qQ _,.inl ⟨_,_,h1⟩⟩
 .rcases h2.2 with ⟨e1,-⟩|⟨g,cap,cur,e1,aa,hg,ab⟩
  .rw[e1] at hx;cases hx
  .rw[e1] at hx
   have:=Option.some.inj hx
   simp only at this
   subst this
   exact⟨aa,.inr ⟨_,_,hg⟩⟩
theorem zgB(t u:Tx)(b:Nat)(v:Value)(w:World)(h:HldV t b v w)(aH:t.length+u.length<=140737488355328)(h0:0<u.length) :
  Calls Tryz.prog 54 #[.pointer (some ⟨b,0,none⟩),tx u] w fun e w'=>e=.returned (.tuple #[.int .i64 u.length,.nilIface])/\∃ v',HldV (t++u) b v' w'/\Keep (bldO b v) w w'/\∀ x,bldO b v' x->bldO b v x\/w.heap.size<=x:=by
 obtain⟨i0,hi,ay,az,aA⟩:=zbd zni
 have ar:b<w.heap.size:=h.lt
 obtain⟨p,hp,ab,aa,ag⟩:=h
 have au:Calls Tryz.prog 124 #[.pointer (some ⟨b,0,none⟩)] w fun e w1=>e=.returned (.tuple #[])/\w1.heap[b]?=some (.cells #[.pointer (some ⟨b,0,none⟩),v] 122 (0,0))/\w1.ownsRow b 5 1 v t.length (Lib.byteCells t)/\w.grownBy w1 (some b):=by
  rcases hp with rfl|rfl
  .have hB:Lib.BuilderAt 122 5 b b (.pointer none) (Lib.byteCells t) w:=⟨qQ _,v,ab,by rw[Lib.byteCells_length];exact aa,ag⟩
   refine(zg8 b w hB.cell0 hB.shape hB.frozen0).mono ?_
   rintro e w1 ⟨rfl,rfl⟩
   refine⟨rfl,?_,?_,zaq w b 0 _⟩
   .unfold World.setCell
    simp only
    rw[Array.getElem?_modify,if_pos rfl,ab]
    rfl
   .refine⟨aa.1,?_⟩
    rcases aa.2 with h5|⟨g,cap,cur,e1,am,hg,ac⟩
    .exact .inl h5
    .refine .inr ⟨g,cap,cur,e1,am,?_,ac⟩
     rw[(zaq w b 0 (.pointer (some ⟨b,0,none⟩))).block g (qB.1 hg).1 (fun e=>ag (by rw[e1];exact e))]
     exact hg
  .have hB:Lib.BuilderAt 122 5 b b (.pointer (some ⟨b,0,none⟩)) (Lib.byteCells t) w:=⟨qQ _,v,ab,by rw[Lib.byteCells_length];exact aa,ag⟩
   refine(zhL b w hB.cell0).mono ?_
   rintro e w1 ⟨rfl,rfl⟩
   exact⟨rfl,ab,aa,⟨rfl,rfl,rfl,qQ _,fun _ _ _=>rfl⟩⟩
 have aB:=qG au
 clear au hp ab aa
 go_enter Tryz.func54,Tryz.ntmps54
 go_wp2_with fail
 refine aB.o.mono ?_
 rintro e w1 ⟨rfl,aj,an,aw⟩
 have ak:=qG aw
 have aC:=qG aj
 have c0:w1.cell? ⟨b,0,none⟩=some (.pointer (some ⟨b,0,none⟩)):=by rw[Lib.cell_of_heap aj];rfl
 have c1:w1.cell? ⟨b,1,none⟩=some v:=by rw[Lib.cell_of_heap aj];rfl
 clear aj aw
 go_wp2_with (at_builtin;refine zdW rfl _ _ 120 9 rfl b 5 i0 Tryz.underlying120 Tryz.underlying9 hi ay az aA _ _ _ rfl an ⟨u.toArray⟩ rfl ?c3 ?c4 ?c5 ?c6 ?_)
 case c3=>(show t.length+u.toArray.size<=_);unfold maxLen;simp;omega
 case c4=>(show t.length+u.toArray.size<=_);simp;omega
 case c5=>exact Nat.le_of_lt (qM ar ak.o.size)
 case c6=>(show 0<u.toArray.size);simpa using h0
 intro v' w2 ae af ai
 have hlt:b<w1.heap.size:=qM ar ak.o.size
 have ah:w2.heap[b]?=some (.cells #[.pointer (some ⟨b,0,none⟩),v] 122 (0,0)):=by
  rw[af.block b hlt (fun e=>ag e.symm)]
  exact aC.o
 have d0:w2.cell? ⟨b,0,none⟩=some (.pointer (some ⟨b,0,none⟩)):=by rw[Lib.cell_of_heap ah];rfl
 have d1:w2.cell? ⟨b,1,none⟩=some v:=by rw[Lib.cell_of_heap ah];rfl
 have f1:w2.frozen? ⟨b,1,none⟩=false:=Lib.frozen_of_heap ah 1
 have ax:v'.ownBlock≠some b:=fun e=>by
  rcases ai b e with h|h
  .exact ag h
  .omega
 have aD:=qG ai
 have aE:=qG ae
 have aF:=qG af
 have aG:=qG ah
 have aq:=qG ax
 obtain⟨ao,n',cap,rfl⟩:∃ ao n' cap,v'=.slice ao n' cap:=by
  rcases ae.2 with ⟨hv,_⟩|⟨g,cap,cur,hv,_⟩
  .exact⟨_,_,_,hv⟩
  .exact⟨_,_,_,hv⟩
 clear ai ae af ah ax an c0 c1
 go_wp2
 go_ret2
 refine⟨rfl,.slice ao n' cap,⟨_,.inr rfl,?_,?_,aq.o⟩,?_,?_⟩
 .unfold World.setCell
  simp only
  rw[Array.getElem?_modify,if_pos rfl,aG.o]
  rfl
 .have ho:=aE.o
  have e1:Lib.byteCells t++Lib.strCells ⟨u.toArray⟩=Lib.byteCells (t++u):=(Lib.byteCells_append t u).symm
  have e2:t.length+u.length=(t++u).length:=qD.symm
  rw[e1,e2] at ho
  refine⟨ho.1,?_⟩
  rcases ho.2 with h5|⟨g,cap,cur,e1,am,hg,ac⟩
  .exact .inl h5
  .refine .inr ⟨g,cap,cur,e1,am,?_,ac⟩
   rw[(zaq w2 b 1 (.slice ao n' _)).block g (qB.1 hg).1 (fun e=>aq.o (by rw[e1];exact e))]
   exact hg
 .have k1:Keep (bldO b v) w w1:=.of_grown ak.o (fun g e=>.inl (Option.some.inj e).symm)
  have k2:Keep (bldO b v) w1 w2:=.of_grown aF.o (fun g e=>.inr e)
  have k3:Keep (bldO b v) w2 _:=.of_grown (zaq w2 b 1 (.slice ao n' cap)) (fun g e=>.inl (Option.some.inj e).symm)
  exact(k1.trans k2 (fun _ _ x=>x)).trans k3 (fun _ _ x=>x)
 .intro x hx
  rcases hx with rfl|hx
  .exact .inl (.inl rfl)
  .rcases aD.o x hx with h|h
   .exact .inl (.inr h)
   .exact .inr (Nat.le_trans ak.o.size h)
theorem zkh{W:World}{b j:Nat}{v:Value}(h:W.cell? ⟨b,j,none⟩=some v):∃ o,W.heap[b]?=some o/\o.isCells=true:=by
 unfold World.cell? at h
 split at h
 .rename_i ho
  exact⟨_,ho,rfl⟩
 .cases h
theorem zoV{W:World}{b:Nat}{v:Value}{vs:List Value}(h:Bx W b (v :: vs)):∃ o,W.heap[b]?=some o/\o.isCells=true:=zkh (h.c 0 v rfl)
theorem zh5{O:Nat->Prop}{W:World}{f:Nat}{R:Nat->Rw}{cs:List Cu.Cut}{ps:List Pq}{d:Ru.Die}{s:St}(h:FlAt O W f R cs ps d s){b:Nat}(hb:zao f R b):∃ o,W.heap[b]?=some o/\o.isCells=true:=by
 rcases hb with rfl|⟨k,hk,e⟩
 .exact zoV h.box
 .rcases(h.own.row k hk).2 with ⟨A,e1,-⟩|⟨g,cap,cur,e1,hg,-⟩
  .rw[e1] at e;cases A <;> cases e
  .rw[e1] at e
   have:=Option.some.inj e
   simp only at this
   subst this
   exact⟨_,hg,rfl⟩
def rowT(t:TypeId):Bool:=t==57||t==3||t==65||t==67||t==194||t==251
theorem znV{O:Nat->Prop}{W:World}{f:Nat}{R:Nat->Rw}{cs:List Cu.Cut}{ps:List Pq}{d:Ru.Die}{s:St}(h:FlAt O W f R cs ps d s){b:Nat}(hb:zao f R b)(hf:b≠f){t:TypeId}(hk:Kd W b t):rowT t=true:=by
 rcases hb with hb|⟨k,aa,e⟩
 .exact absurd hb hf
 .obtain⟨c,fz,hk⟩:=hk
  rcases(h.own.row k aa).2 with ⟨A,e1,-⟩|⟨g,cap,cur,e1,hg,-⟩
  .rw[e1] at e;cases A <;> cases e
  .rw[e1] at e
   have:=Option.some.inj e
   simp only at this
   subst this
   have h1:=Option.some.inj (hk.symm.trans hg)
   injection h1 with _ h1 _
   rw[h1]
   have ro:=h.h.ro
   match k,aa with
  |0,_=>rw[ro.r0.1];rfl
  |1,_=>rw[ro.r1.1];rfl
  |2,_=>rw[ro.r2.1];rfl
  |3,_=>rw[ro.r3.1];rfl
  |4,_=>rw[ro.r4.1];rfl
  |5,_=>rw[ro.r5.1];rfl
  |6,_=>rw[ro.r6.1];rfl
theorem FlAt.belowO{O O':Nat->Prop}{w w':World}{f:Nat}{R:Nat->Rw}{cs:List Cu.Cut}{ps:List Pq}{d:Ru.Die}{s:St}(h:FlAt O w f R cs ps d s)(k:Below w.heap.size w w')(hO:∀ b,b<w.heap.size->O' b->O b)(hs:∀ b,zao f R b->O' b)(hl:∀ b,O' b->b<w'.heap.size):FlAt O' w' f R cs ps d s:=
 ⟨h.own.below k,hs,hl,h.box.next k,h.h.keep (P:=fun _=>False) (.of_below k) (fun _ _ x=>x.elim) hO h.h.ro,h.die.keep (P:=fun _=>False) (.of_below k) (fun _ _ x=>x.elim) hO⟩
theorem AtO.turn{α:Type}{O:Nat->Prop}{w w':World}{size:Nat}{cells:α->List Value}{A:Option Addr}{l:List α}(h:AtO O w size cells A l)(hc:∀ x,(cells x)≠[]){row:Option Nat}(hg:w.grownBy w' row)(hr:∀ r,row=some r->∃ o,w.heap[r]?=some o/\o.isCells=false):AtO O w' size cells A l:=fun k x hx=>by
 obtain⟨b,off,e,hb,hn,aa⟩:=h k x hx
 have ac:some b≠row:=fun e2=>by
  obtain⟨o,ho,hz⟩:=hr b e2.symm
  cases hx:cells x with
 |nil=>exact hc x hx
 |cons u us=>
   obtain⟨o',ae,ab⟩:=zkh (aa 0 u (by rw[hx];rfl))
   have:=Option.some.inj (ho.symm.trans ae)
   subst this
   rw[hz] at ab;cases ab
 exact⟨b,off,e,qM hb hg.size,hn,fun j u hu=>(World.cell?_of_block (a:=⟨b,off+k*size+j,none⟩) (hg.block b hb ac)).trans (aa j u hu)⟩
theorem FlAt.turn{O:Nat->Prop}{w w':World}{f:Nat}{R:Nat->Rw}{cs:List Cu.Cut}{ps:List Pq}{d:Ru.Die}{s:St}(h:FlAt O w f R cs ps d s){row:Option Nat}(hg:w.grownBy w' row)(hr:∀ r,row=some r->∃ o,w.heap[r]?=some o/\o.isCells=false):FlAt O w' f R cs ps d s:=by
 have hn:∀ b,zao f R b->row≠some b:=fun b hb e=>by
  obtain⟨o,ho,hz⟩:=hr b e
  obtain⟨o',ab,aa⟩:=zh5 h hb
  have:=Option.some.inj (ho.symm.trans ab)
  subst this
  rw[hz] at aa;cases aa
 have hK:Keep (fun g=>row=some g) w w':=.of_grown hg (fun _ e=>e)
 exact⟨h.own.keep hK hn,h.sub,fun b hb=>qM (h.lt b hb) hg.size,hK.bx h.box (hn f (.inl rfl)),
  ⟨h.h.ro,h.h.ec,fun c hc=>(h.h.ca c hc).turn (fun x=>by simp[zad]) hg hr,h.h.hp,fun x hx=>(h.h.pa x hx).turn (fun x=>by simp[zad]) hg hr,h.h.pc⟩,h.die.turn (fun x=>by simp[Ru.Blade.cells]) hg hr⟩
theorem FlAt.keepG{O O' P:Nat->Prop}{w w':World}{f:Nat}{R:Nat->Rw}{cs:List Cu.Cut}{ps:List Pq}{d:Ru.Die}{s:St}(h:FlAt O w f R cs ps d s)(k:Keep P w w')(hP:∀ b,P b->O b)(hf:∀ b,zao f R b->¬ P b)(hO:∀ b,b<w.heap.size->O' b->O b)(hs:∀ b,zao f R b->O' b)(hl:∀ b,O' b->b<w'.heap.size):FlAt O' w' f R cs ps d s:=
 ⟨h.own.keep k hf,hs,hl,k.bx h.box (hf f (.inl rfl)),h.h.keep k (fun b _ x=>hP b x) hO h.h.ro,h.die.keep k (fun b _ x=>hP b x) hO⟩
theorem Kd.keep{P:Nat->Prop}{w w':World}{b:Nat}{t:TypeId}(h:Kd w b t)(k:Keep P w w')(hn:¬ P b):Kd w' b t:=by
 obtain⟨c,fz,hc⟩:=h
 exact⟨c,fz,by rw[k.block b (qB.1 hc).1 hn];exact hc⟩
theorem Kd.cells{w:World}{b:Nat}{t:TypeId}(h:Kd w b t):∃ o,w.heap[b]?=some o/\o.isCells=true:=by
 obtain⟨c,fz,hc⟩:=h
 exact⟨_,hc,rfl⟩
theorem Kd.same_type{w:World}{b:Nat}{t u:TypeId}(h:Kd w b t)(k:Kd w b u):t=u:=by
 obtain⟨c,fz,hc⟩:=h
 obtain⟨c',fz',aa⟩:=k
 have:=Option.some.inj (hc.symm.trans aa)
 injection this
theorem KeepsFrom.of_keep{P:Nat->Prop}{B:Nat}{w w':World}(k:Keep P w w')(hP:∀ b,P b->∃ o,w.heap[b]?=some o/\o.isCells=true):KeepsFrom B w w':=
 ⟨k.size,fun b o _ ho hz=>by
  rw[k.block b (qB.1 ho).1 (fun hp=>by
   obtain⟨o',ab,aa⟩:=hP b hp
   have:=Option.some.inj (ho.symm.trans ab)
   subst this
   rw[hz] at aa;cases aa)]
  exact ho⟩
theorem zf7:∀(s x:Tx),x∈rawL s->x.length<=s.length
|[],x,h=>by cases h
|c :: s,x,h=>by
  rw[rawL] at h
  split at h
  .rcases List.mem_cons.1 h with rfl|h
   .simp
   .have:=zf7 s x h;simp;omega
  .have ih:=zf7 s
   split at h
   .rw[List.mem_singleton.1 h];simp
   .rename_i y l e
    rw[e] at ih
    rcases List.mem_cons.1 h with rfl|h
    .have:=ih y (qE ..);simp;omega
    .have:=ih x (List.mem_cons_of_mem _ h);simp;omega
theorem zgJ:∀ s:Tx,(rawL s).length<=s.length
|[]=>qQ _
|c :: s=>by
  have h:=zgJ s
  unfold rawL
  split
  .rw[List.length_cons,List.length_cons];omega
  .split
   .simp
   .rename_i e
    rw[e] at h
    rw[List.length_cons] at h ⊢
    rw[List.length_cons];omega
theorem zpr(a:Tx):(⟨a.toArray⟩:ByteArray)++(⟨#[10]⟩:ByteArray)=⟨(a++[10]).toArray⟩:=by
 apply ByteArray.ext;simp[ByteArray.data_append]
theorem znH(t:Tx):Lib.hasSuffix t [10]=decide (t.getLast?=some 10):=by
 unfold Lib.hasSuffix
 by_cases h:t.getLast?=some 10
 .rw[decide_eq_true h]
  obtain⟨l,hl⟩:=List.getLast?_eq_some_iff.1 h
  rw[hl,List.isSuffixOf_iff_suffix]
  exact List.suffix_append ..
 .rw[decide_eq_false h,<- Bool.not_eq_true,List.isSuffixOf_iff_suffix]
  rintro⟨l,hl⟩
  exact h (by rw[<- hl];simp)
theorem zkO(t:Tx)(w:World)(hl:t.length<=9223372036854775807):Calls Tryz.prog 50 #[tx t,.string ⟨#[10]⟩] w (RetQ (.bool (decide (t.getLast?=some 10))) w):=by
 refine(Tryz.strings_HasSuffix ⟨t.toArray⟩ ⟨#[10]⟩ w (by show t.toArray.size<=_;simpa using hl)).mono ?_
 rintro e w' ⟨rfl,rfl⟩
 refine⟨?_,rfl⟩
 rw[<- znH]
theorem znG(t:Tx)(w:World)(hl:t.length<=9223372036854775807):Calls Tryz.prog 52 #[tx t,.string ⟨#[10]⟩] w (RetQ (tx (zaz t)) w):=by
 refine(Tryz.strings_TrimSuffix ⟨t.toArray⟩ ⟨#[10]⟩ w (by show t.toArray.size<=_;simpa using hl)).mono ?_
 rintro e w' ⟨rfl,rfl⟩
 exact⟨rfl,rfl⟩
def rnO(f bb bx:Nat)(R:Nat->Rw)(v:Value)(x:Nat):Prop:=zao f R x\/x=bx\/bldO bb v x
structure RnI(w0:World)(f bt bb bx:Nat)(d:Ru.Die)(s0:St)(l:List Tx)(W:World):Prop where
 fl:∃ R cs ps v,FlAt (rnO f bb bx R v) W f R cs ps d (stA d s0 l)/\(∀ b,zao f R b->w0.heap.size<=b)/\HldV (playS d s0 l) bb v W
 vf:Bx W bt [.pointer (some ⟨f,0,none⟩)]
 kt:Kd W bt 31
 kx:Kd W bx 9
 env:Env W
 bel:Below w0.heap.size w0 W
attribute [local go_sem] Oper.semAt_some
theorem RnI.turn{w0:World}{f bt bb bx:Nat}{d:Ru.Die}{s0:St}{l:List Tx}{W W':World}(h:RnI w0 f bt bb bx d s0 l W)(h6:6<=w0.heap.size){row:Option Nat}(hg:W.grownBy W' row)(ab:∀ r,row=some r->w0.heap.size<=r)(hr:∀ r,row=some r->∃ o,W.heap[r]?=some o/\o.isCells=false):RnI w0 f bt bb bx d s0 l W':=by
 obtain⟨⟨R,cs,ps,v,aj,ak,af⟩,am,ac,ag,ai,ae⟩:=h
 have hK:Keep (fun g=>row=some g) W W':=.of_grown hg (fun _ e=>e)
 have aa:∀ b,(∃ o,W.heap[b]?=some o/\o.isCells=true)->¬ row=some b:=fun b ⟨o',an,ah⟩ e=>by
  obtain⟨o,ho,hz⟩:=hr b e
  have:=Option.some.inj (ho.symm.trans an)
  subst this
  rw[hz] at ah;cases ah
 exact⟨⟨R,cs,ps,v,aj.turn hg hr,ak,af.keep hK (fun x hx=>aa x (af.cells hx))⟩,hK.bx am (aa bt ac.cells),ac.keep hK (aa bt ac.cells),ag.keep hK (aa bx ag.cells),ai.keep hK (fun b e=>Nat.le_trans h6 (ab b e)),ae.grown hg ae.size (fun k e=>ab k e)⟩
theorem zhS{t:Tx}{b:Nat}{v:Value}{W:World}(h:HldV t b v W){x:Nat}{u:TypeId}(hk:Kd W x u)(h1:(u==122||u==5)=false):¬ bldO b v x:=fun hx=>by
 rcases(h.type hx).2 with h2|h2
 .have:=Kd.same_type hk h2;subst this;revert h1;decide
 .have:=Kd.same_type hk h2;subst this;revert h1;decide
theorem zdi{O:Nat->Prop}{W:World}{f:Nat}{R:Nat->Rw}{cs:List Cu.Cut}{ps:List Pq}{d:Ru.Die}{s:St}(h:FlAt O W f R cs ps d s){b:Nat}(hf:f<b){t:TypeId}(hk:Kd W b t)(ht:rowT t=false):¬ zao f R b:=fun hb=>by
 have:=znV h hb (by omega) hk
 rw[ht] at this;cases this
theorem zkR{O:Nat->Prop}{W:World}{f:Nat}{R:Nat->Rw}{cs:List Cu.Cut}{ps:List Pq}{d:Ru.Die}{s:St}(h:FlAt O W f R cs ps d s){t:Tx}{b:Nat}{v:Value}(hh:HldV t b v W)(hf:f<b){x:Nat}(hx:bldO b v x):¬ zao f R x:=by
 obtain⟨h1,h2⟩:=hh.type hx
 rcases h2 with h2|h2
 .exact zdi h (by omega) h2 rfl
 .exact zdi h (by omega) h2 rfl
theorem RnI.turnX{w0:World}{f bt bb bx:Nat}{d:Ru.Die}{s0:St}{l:List Tx}{W W':World}(h:RnI w0 f bt bb bx d s0 l W)(h6:6<=w0.heap.size)(ak:bt<bb)(am:bb<bx)(hf:f<bt)(hx:w0.heap.size<=bx){row:Option Nat}(hg:W.grownBy W' row)(hr:∀ r,row=some r->r=bx/\Kd W' bx 9):RnI w0 f bt bb bx d s0 l W':=by
 obtain⟨⟨R,cs,ps,v,ac,ah,ae⟩,ai,aj,aa,af,ab⟩:=h
 have hK:Keep (fun g=>g=bx) W W':=.of_grown hg (fun g e=>(hr g e).1)
 have ag:Kd W' bx 9:=by
  cases row with
 |none=>exact aa.keep (P:=fun _=>False) (.of_grown hg (fun _ e=>by cases e)) (fun x=>x)
 |some r=>exact(hr r rfl).2
 have h1:¬ bldO bb v bx:=zhS ae aa rfl
 have h2:¬ zao f R bx:=zdi ac (by omega) aa rfl
 exact⟨⟨R,cs,ps,v,ac.keepO hK (fun b e=>.inr (.inl e)) (fun b hb e=>h2 (by rw[<- e];exact hb)) (fun _ x=>x) (fun b hb=>.inl hb),ah,ae.keep hK (fun x hx e=>h1 (by rw[<- e];exact hx))⟩,
  hK.bx ai (by omega),aj.keep hK (by omega),ag,af.keep hK (fun b e=>by omega),ab.grown hg ab.size (fun k e=>by rw[(hr k e).1];exact hx)⟩
theorem RnI.line{w0:World}{f bt bb bx:Nat}{d:Ru.Die}{s0:St}{l:List Tx}{W U:World}{R R2:Nat->Rw}{cs2:List Cu.Cut}{ps2:List Pq}{v:Value}{cs:List Cu.Cut}{ps:List Pq}{s:St}{x:Tx}
  (ab:FlAt (rnO f bb bx R v) W f R cs ps d s) (ac:∀ b,zao f R b->w0.heap.size<=b) (af:HldV (playS d s0 l) bb v W) (ak:bt<bb) (am:bb<bx) (hf:f<bt) (aj:Bx W bt [.pointer (some ⟨f,0,none⟩)]) (ag:Kd W bt 31) (ae:Kd W bx 9) (ah:Env W) (aa:Below w0.heap.size w0 W) (h6:6<=w0.heap.size)
  (ai:FlAt (orO (rnO f bb bx R v) f R2) U f R2 cs2 ps2 d (lineS d s x).1) (ht:Turn W U f R R2) :
  FlAt (rnO f bb bx R2 v) U f R2 cs2 ps2 d (lineS d s x).1/\(∀ b,zao f R2 b->w0.heap.size<=b)/\HldV (playS d s0 l) bb v U/\Bx U bt [.pointer (some ⟨f,0,none⟩)]/\Kd U bt 31/\Kd U bx 9/\Env U/\Below w0.heap.size w0 U/\U.heap[bx]?=W.heap[bx]?/\KeepsFrom 0 W U:=by
 have n1:¬ zao f R bt:=zdi ab hf ag rfl
 have n2:¬ zao f R bx:=zdi ab (by omega) ae rfl
 have n3:∀ x,bldO bb v x->¬ zao f R x:=fun x hx=>zkR ab af (by omega) hx
 have hlt:bx<W.heap.size:=by obtain⟨c,fz,h⟩:=ae;exact(qB.1 h).1
 refine⟨ai.shrink (fun b hb=>?_) (fun b hb=>.inl hb),fun b hb=>?_,af.keep ht.k n3,ht.k.bx aj n1,ag.keep ht.k n1,ae.keep ht.k n2,ah.keep ht.k (fun b hb=>Nat.le_trans h6 (ac b hb)),?_,ht.k.block bx hlt n2,KeepsFrom.of_keep ht.k (fun b hb=>zh5 ab hb)⟩
 .rcases hb with hb|hb
  .exact .inr hb
  .exact .inl (.inr hb)
 .by_cases h:b<W.heap.size
  .exact ac b (ht.n b h hb)
  .exact Nat.le_trans aa.size (by omega)
 .exact⟨ht.k.os.trans aa.os,ht.k.tape.trans aa.tape,ht.k.output.trans aa.output,Nat.le_trans aa.size ht.k.size,fun b hb=>(ht.k.block b (qM hb aa.size) (fun ho=>by have:=ac b ho;omega)).trans (aa.block b hb)⟩
theorem RnI.write{w0:World}{f bt bb bx B:Nat}{d:Ru.Die}{s0 s2:St}{l:List Tx}{W U V:World}{R2:Nat->Rw}{cs2:List Cu.Cut}{ps2:List Pq}{v v2:Value}{T T':Tx}
  (ae:FlAt (rnO f bb bx R2 v) U f R2 cs2 ps2 d s2) (aj:∀ b,zao f R2 b->w0.heap.size<=b) (ac:HldV T bb v U) (an:bt<bb) (ao:bb<bx) (hf:f<bt) (ak:Bx U bt [.pointer (some ⟨f,0,none⟩)]) (ag:Kd U bt 31) (af:Kd U bx 9) (ai:Env U) (ab:Below w0.heap.size w0 U) (h6:6<=w0.heap.size) (hw:w0.heap.size<=bb)
  (hU:U.heap[bx]?=W.heap[bx]?) (hQ:KeepsFrom B W U) (ah:HldV T' bb v2 V) (aa:Keep (bldO bb v) U V) (am:∀ x,bldO bb v2 x->bldO bb v x\/U.heap.size<=x) (e1:stA d s0 l=s2) (e2:playS d s0 l=T') :
  KeepsFrom B W V/\V.heap[bx]?=W.heap[bx]?/\RnI w0 f bt bb bx d s0 l V:=by
 have n1:¬ bldO bb v bx:=zhS ac af rfl
 have n2:¬ bldO bb v bt:=zhS ac ag rfl
 have hlt:bx<U.heap.size:=by obtain⟨c,fz,h⟩:=af;exact(qB.1 h).1
 have q:=KeepsFrom.of_keep (B:=B) aa (fun b hb=>ac.cells hb)
 refine⟨⟨Nat.le_trans hQ.size q.size,fun k o hb ho hc=>q.same k o hb (hQ.same k o hb ho hc) hc⟩,(aa.block bx hlt n1).trans hU,⟨R2,cs2,ps2,v2,?_,aj,by rw[e2];exact ah⟩,aa.bx ak n2,ag.keep aa n2,af.keep aa n1,ai.keep aa (fun b hb=>by have:=(ac.type hb).1;omega),?_⟩
 .rw[e1]
  refine ae.keepG aa (fun b hb=>.inr (.inr hb)) (fun b hb hp=>zkR ae ac (by omega) hp hb) (fun b hb h=>?_) (fun b hb=>.inl hb) (fun b hb=>?_)
  .rcases h with h|h|h
   .exact .inl h
   .exact .inr (.inl h)
   .rcases am b h with h|h
    .exact .inr (.inr h)
    .omega
  .rcases hb with h|h|h
   .exact qM (ae.own.is_lt b h) aa.size
   .rw[h];exact qM hlt aa.size
   .obtain⟨o,ho,-⟩:=ah.cells h;exact(qB.1 ho).1
 .exact⟨aa.os.trans ab.os,aa.tape.trans ab.tape,aa.output.trans ab.output,Nat.le_trans ab.size aa.size,fun b hb=>(aa.block b (qM hb ab.size) (fun ho=>by have:=(ac.type ho).1;omega)).trans (ab.block b hb)⟩
theorem zpS(d:Ru.Die)(pieces persons:Int)(t:Tx)(w:World)(ai:Env w)(hd:Ru.DieAt w w.heap.size d)(cy:t.length<=9223372036854775807):Calls Tryz.prog 15 #[.agg #[.slice d.A d.blades.length d.c,.int .i64 d.bound,.int .i64 d.stop,.int .i64 d.bend],.int .i64 pieces,.int .i64 persons,tx t] w (Ret (.tuple #[tx (runS d pieces persons t).1,.int .i64 (runS d pieces persons t).2]) w):=by
 have HR:=qG (show runS d pieces persons t=(if 131072<t.length then(([],3):Tx×Int) else if t≠[]/\t.getLast?≠some 10 then([],8) else match newS d pieces persons with
 |none=>([],1)
 |some s=>(playS d s (zcT t),0)) from rfl)
 generalize runS d pieces persons t=RS at *
 have ac:=qG ai
 have n1:=nxA w (.cells #[.slice d.A d.blades.length d.c,.int .i64 d.bound,.int .i64 d.stop,.int .i64 d.bend] 24)
 have y1:=Bx.new w #[.slice d.A d.blades.length d.c,.int .i64 d.bound,.int .i64 d.stop,.int .i64 d.bend] 24
 have bL:=qG (hd.next n1)
 have af:=qG n1
 clear hd ai
 by_cases hl:131072<t.length
 .have cm:decide ((131072:Int)<(t.length:Int))=true:=decide_eq_true (by omega)
  rw[if_pos hl] at HR
  have aj:=qG HR.o
  clear hl n1 y1 HR
  go_enter Tryz.func15,Tryz.ntmps15
  go_wp2_with fail
  go_ret2
  rw[aj.o]
  exact⟨rfl,af.o⟩
 .have cm:decide ((131072:Int)<(t.length:Int))=false:=decide_eq_false (by omega)
  rw[if_neg hl] at HR
  have au:=qG (show t.length<=131072 by omega)
  clear hl
  by_cases hs:t≠[]/\t.getLast?≠some 10
  .rw[if_pos hs] at HR
   have aj:=qG HR.o
   have aw:List.isEmpty t=false:=by
    cases t with
   |nil=>exact absurd rfl hs.1
   |cons b l=>rfl
   have ax:=qG (zkO t (w.alloc (.cells #[.slice d.A d.blades.length d.c,.int .i64 d.bound,.int .i64 d.stop,.int .i64 d.bend] 24)) (by have:=au.o;omega))
   rw[decide_eq_false hs.2] at ax
   clear hs n1 y1 HR
   go_enter Tryz.func15,Tryz.ntmps15
   go_wp2_with fail
   refine ax.o.mono ?_
   rintro e w' ⟨rfl,rfl⟩
   go_wp2_with fail
   go_ret2
   rw[aj.o]
   exact⟨rfl,af.o⟩
  .rw[if_neg hs] at HR
   have bM:=qG (show t=[]\/t.getLast?=some 10 by
    by_cases h1:t=[]
    .exact .inl h1
    .by_cases h2:t.getLast?=some 10
     .exact .inr h2
     .exact absurd ⟨h1,h2⟩ hs)
   clear hs
   have c0:=y1.c 0 _ rfl
   have c1:=y1.c 1 _ rfl
   have c2:=y1.c 2 _ rfl
   have c3:=y1.c 3 _ rfl
   obtain⟨b4,aZ⟩:∃ b,b=w.heap.size:=⟨_,rfl⟩
   generalize hV1:w.alloc (.cells #[.slice d.A d.blades.length d.c,.int .i64 d.bound,.int .i64 d.stop,.int .i64 d.bend] 24)=V1 at *
   have bN:=qG hV1
   rw[<- aZ] at c0 c1 c2 c3
   have bO:=qG aZ
   have ax:=qG (zkO t V1 (by have:=au.o;omega))
   clear hV1 aZ n1 y1
   have aP:List.isEmpty t=true\/(List.isEmpty t=false/\decide (t.getLast?=some 10)=true):=by
    rcases bM.o with h|h
    .rw[h];exact .inl rfl
    .right
     refine⟨?_,decide_eq_true h⟩
     cases t with
    |nil=>cases h
    |cons b l=>rfl
   cases hN:newS d pieces persons with
  |none=>
    rw[hN] at HR
    have aj:=qG HR.o
    have ak:=qG (zkT d pieces persons V1 bL.o)
    unfold zea at ak
    rw[hN] at ak
    clear HR hN
    rcases aP with aw|⟨aw,bJ⟩
    all_goals
     go_enter Tryz.func15,Tryz.ntmps15
     go_upto_region 1 with fail
     rw[bN.o,<- bO.o]
     go_wp2_with fail
     try (refine ax.o.mono ?_;rintro e w' ⟨rfl,rfl⟩;go_wp2_with fail)
     refine ak.o.mono ?_
     rintro e V2 ⟨hb,rfl⟩
     have ae:=qG ((af.o.trans (hb.mono af.o.size)).trans ((nxA V2 (.cells #[.pointer none] 31)).mono (Nat.le_trans af.o.size hb.size)))
     clear hb c0 c1 c2 c3
     go_wp2_with fail
     go_ret2
     rw[aj.o]
     exact⟨rfl,ae.o⟩
  |some s=>
    rw[hN] at HR
    have aj:=qG HR.o
    have ak:=qG (zkT d pieces persons V1 bL.o)
    unfold zea at ak
    rw[hN] at ak
    have ag:=qG (show ∀ A c,Ru.dieS (mvD d A c)=true/\SOk (mvD d A c) s 0 from fun A c=>zp2 (d:=mvD d A c) hN)
    clear HR hN
    rcases aP with aw|⟨aw,bJ⟩
    all_goals
     refine(callsIn_wide (n:=6)).1 ?_
     refine zry Tryz.func15 rfl trivial ?_ rfl
     simp only[Tryz.ntmps15,List.size_toArray,List.length_cons,List.length_nil,Nat.reduceAdd,Nat.reduceSub,Array.replicate_succ,Array.replicate_zero,List.push_toArray,List.append_toArray,List.nil_append,List.cons_append]
     refine zrv trivial (zrt trivial ?_)
     gi_wp2_with fail
     rw[bN.o,<- bO.o]
     refine zrv trivial (zrt trivial ?_)
     gi_wp2_with fail
     first|(refine⟨trivial,(callsIn_wide.2 ax.o).mono ?_⟩;rintro e w' ⟨rfl,rfl⟩;gi_wp2_with fail)|(refine⟨trivial,?_⟩;gi_wp2_with fail)
     refine zrv trivial (zrt trivial ?_)
     gi_wp2_with fail
     refine⟨trivial,(callsIn_wide.2 ak.o).mono ?_⟩
     rintro e V2 ⟨hb,f,R,A,c,rfl,an,ay⟩
     have am:=qG (an.shrink (O':=zao f R) (fun b hb=>.inr hb) (fun b hb=>hb))
     replace ag:=qG (ag.o A c)
     have az:=qG ay
     have ae:=qG (af.o.trans (hb.mono af.o.size))
     have n3:=nxA V2 (.cells #[.pointer (some ⟨f,0,none⟩)] 31)
     have y3:=Bx.new V2 #[.pointer (some ⟨f,0,none⟩)] 31
     have k3:=Kd.new V2 #[.pointer (some ⟨f,0,none⟩)] 31
     clear hb an ay c0 c1 c2 c3
     gi_wp2_with fail
     generalize V2.alloc (.cells #[.pointer (some ⟨f,0,none⟩)] 31)=V3 at *
     obtain⟨bt,a7⟩:∃ b,b=V2.heap.size:=⟨_,rfl⟩
     rw[<- a7] at y3 k3 ⊢
     have ao:=qG a7
     have a8:=qG (ae.o.trans (n3.mono ae.o.size))
     have aN:=qG (am.o.below n3)
     have cx:=qG (show V2.heap.size<=V3.heap.size from n3.size)
     clear n3 a7
     refine zrv trivial (zrt trivial ?_)
     gi_wp2_with fail
     refine zrv trivial (zrt trivial ?_)
     have n4:=nxA V3 (.cells #[.pointer none,.slice none 0 0] 122)
     have y4:=HldV.new V3
     gi_wp2_with fail
     generalize V3.alloc (.cells #[.pointer none,.slice none 0 0] 122)=V4 at *
     obtain⟨bb,aQ⟩:∃ b,b=V3.heap.size:=⟨_,rfl⟩
     rw[<- aQ] at y4 ⊢
     have cf:=qG aQ
     have aO:=qG (a8.o.trans (n4.mono a8.o.size))
     have aA:=qG n4
     have Y3:=qG (y3.next n4)
     have K3:=qG (k3.next n4)
     have bK:=qG (show f<V2.heap.size from am.o.own.lt)
     have ab:=qG (show bt<bb by rw[aQ];exact y3.lt)
     clear n4 y3 k3 aQ am a8
     refine zrv trivial ?_
     refine zrv trivial (zrt trivial ?_)
     gi_wp2_with fail
     refine⟨trivial,(callsIn_wide.2 (zi4 ⟨t.toArray⟩ V4)).mono ?_⟩
     rintro e w' ⟨rfl,rfl⟩
     have n5:=nxA V4 (.cells #[tx t] 9)
     have y5:=Bx.new V4 #[tx t] 9
     have k5:=Kd.new V4 #[tx t] 9
     gi_wp2_with fail
     generalize V4.alloc (.cells #[tx t] 9)=V5 at *
     obtain⟨bx,a9⟩:∃ b,b=V4.heap.size:=⟨_,rfl⟩
     rw[<- a9] at y5 k5 ⊢
     have aR:=qG (aO.o.trans (n5.mono aO.o.size))
     have ba:=qG (aN.o.belowO (O':=rnO f bb bx R (.slice none 0 0)) (aA.o.trans (n5.mono aA.o.size)) (fun b hb h=>h.elim (fun h=>h) (fun h=>h.elim (fun h=>by have:=aA.o.size;omega) (fun h=>h.elim (fun h=>by have:=cf.o;omega) (fun h=>by cases h)))) (fun b hb=>.inl hb) (fun b hb=>hb.elim (fun h=>qM (aN.o.lt b h) (Nat.le_trans aA.o.size n5.size)) (fun h=>h.elim (fun h=>by rw[h];exact y5.lt) (fun h=>h.elim (fun h=>by rw[h];exact qM y4.lt n5.size) (fun h=>by cases h)))))
     have Y5:=qG y5
     have K5:=qG k5
     have cn:=qG (show RnI w f bt bb bx (mvD d A c) s [] V5 from⟨⟨R,[],[],.slice none 0 0,ba.o,(fun b hb=>Nat.le_trans af.o.size (az.o b hb)),y4.keep (.of_below (O:=fun _=>False) n5) (fun _ _ x=>x)⟩,Y3.o.next n5,K3.o.next n5,k5,ac.o.next aR.o,aR.o⟩)
     have ah:=qG (show bb<bx/\bx<V5.heap.size from⟨by rw[a9];exact y4.lt,y5.lt⟩)
     have aB:=qG (show f<bt by rw[ao.o];exact bK.o)
     clear n5 y4 y5 k5 a9 aN ba aO Y3 K3 aA
     obtain⟨B,hB⟩:∃ B,V5.heap.size=B:=⟨_,rfl⟩
     have cz:bx<B:=by rw[<- hB];exact ah.o.2
     refine zrA trivial (fun _ _ _ h=>h) (fun _ _ _ h=>h) ?_
     first|(have hA:List.isEmpty t=true:=aw;obtain⟨F0,hF⟩:∃ F:Tx->Act,F=(fun x=>{ tmps:=#[.agg #[.slice d.A d.blades.length d.c,.int .i64 d.bound,.int .i64 d.stop,.int .i64 d.bend],.int .i64 pieces,.int .i64 persons,tx t,.pointer (some ⟨b4,0,none⟩),undef,undef,undef,.string ⟨#[]⟩,.int .i64 0,.pointer (some ⟨bt,0,none⟩),.pointer (some ⟨bb,0,none⟩),tx x,undef,undef,.bool false,tx t,.int .i64 t.length,.bool false,.bool false,tx t,.bool false,.bool false,undef,undef,undef,.bool false,.tuple #[.pointer (some ⟨f,0,none⟩),.int .i64 0],.agg #[.slice d.A d.blades.length d.c,.int .i64 d.bound,.int .i64 d.stop,.int .i64 d.bend],.int .i64 pieces,.int .i64 persons,.tuple #[.pointer (some ⟨f,0,none⟩),.int .i64 0],.pointer (some ⟨f,0,none⟩),.int .i64 0,.int .i64 0,.bool false,undef,tx t,.func (.func 120) #[] #[.pointer (some ⟨bx,0,none⟩)],tx x,undef,undef,undef,undef,undef,undef,undef,undef,undef,undef,undef,undef,undef,undef,undef,undef,undef,undef],defers:=[] }):=⟨_,rfl⟩;clear hA)|obtain⟨F0,hF⟩:∃ F:Tx->Act,F=(fun x=>{ tmps:=#[.agg #[.slice d.A d.blades.length d.c,.int .i64 d.bound,.int .i64 d.stop,.int .i64 d.bend],.int .i64 pieces,.int .i64 persons,tx t,.pointer (some ⟨b4,0,none⟩),undef,undef,undef,.string ⟨#[]⟩,.int .i64 0,.pointer (some ⟨bt,0,none⟩),.pointer (some ⟨bb,0,none⟩),tx x,undef,undef,.bool false,tx t,.int .i64 t.length,.bool false,.bool false,tx t,.bool true,.bool true,tx t,.bool true,.bool false,.bool false,.tuple #[.pointer (some ⟨f,0,none⟩),.int .i64 0],.agg #[.slice d.A d.blades.length d.c,.int .i64 d.bound,.int .i64 d.stop,.int .i64 d.bend],.int .i64 pieces,.int .i64 persons,.tuple #[.pointer (some ⟨f,0,none⟩),.int .i64 0],.pointer (some ⟨f,0,none⟩),.int .i64 0,.int .i64 0,.bool false,undef,tx t,.func (.func 120) #[] #[.pointer (some ⟨bx,0,none⟩)],tx x,undef,undef,undef,undef,undef,undef,undef,undef,undef,undef,undef,undef,undef,undef,undef,undef,undef,undef],defers:=[] }):=⟨_,rfl⟩
     refine zrw (fn₀:=Tryz.f15) Tryz.func15 trivial rfl (by omega) (gf:=120) (lb:=#[.pointer (some ⟨bx,0,none⟩)]) rfl trivial (enters_of Tryz.func120 (by kernel_rfl) rfl)
        (encs:=encT) (T:=fun A r=>r=bx/\Kd A bx 9) (Kp:=fun W W'=>W'.heap[bx]?=W.heap[bx]?) (R:=fun _ _=>True) (S:=fun xs=>xs=rawL t) (Sp:=fun pre=>pre <+: rawL t) (So:=fun _ _=>False)
        (fun W hW _=>zjD (6-1) (by omega) t (by have:=au.o;omega) bx W (Y5.o.next hW) (K5.o.next hW))
        (fun A r h=>by rw[h.1,hB];omega) (fun h k=>k.trans h) (fun W o'=>by show(W.putObj _ o').heap[bx]?=W.heap[bx]?;rw[World.putObj_heap_other (by rw[hB];omega)]) (fun _=>rfl)
        (fun pre W=>RnI w f bt bb bx (mvD d A c) s (pre.map zaz) W) (fun _ _ _=>False) (fun _ _=>False) ?hI ?hIx ?hR ?tI ?tIx ?tIp cn.o
        F0
        ?assign ?body ?done ?stop ?pan ?own
     all_goals subst hF
     case assign=>
      intro l x W K hK
      dsimp only[encT]
      gi_wp2
      exact hK
     case hI=>
      intro pre W W' row h hg hr
      have cp:∀ r,row=some r->∃ o,W.heap[r]?=some o/\o.isCells=false:=fun r e=>(hr r e).2.1
      exact h.turn ac.o.sz hg (fun r e=>Nat.le_trans aR.o.size (hr r e).1) cp
     case hIx=>exact fun _ _ _ _ _ h _ _=>h
     case hR=>exact fun _ _ _ _ h _ _=>h
     case tI=>
      intro pre W W' row h hg hr
      exact h.turnX ac.o.sz ab.o ah.o.1 aB.o (by have:=ah.o.1;have:=ab.o;have:=ao.o;have:=ae.o.size;omega) hg (fun r e=>⟨(hr r e).1.1,(hr r e).2.2⟩)
     case tIx=>exact fun _ _ _ _ _ h _ _=>h
     case tIp=>exact fun _ _ _ _ h _ _=>h
     case stop=>rintro D c pre W _ _ h _;exact h.elim
     case pan=>rintro D ch W _ h _;exact h.elim
     case own=>rintro D ch pre W _ h _ _;exact h.elim
     case done=>
      rintro D xs W hD cq hI hK
      rw[hB] at hD
      subst cq
      have HI:=qG hI
      have HK:=qG hK
      have cg:=qG (show(rawL t).map zaz=zcT t by rw[zi6 bM.o,zh2 _ t (qQ _)])
      have cr:=qG (zji d A c s (zcT t))
      clear hI hK
      refine zrt trivial ?_
      gi_wp2_with fail
      obtain⟨-,-,-,v,-,-,aC⟩:=HI.o.fl
      have aD:=qG aC.hld
      clear aC
      refine⟨trivial,(callsIn_wide.2 (zkI _ bb W aD.o)).mono ?_⟩
      rintro e W9 ⟨rfl,bP,bQ⟩
      have bR:=qG (HI.o.bel.trans (bP.mono (by have:=ab.o;have:=ao.o;have:=ae.o.size;omega)))
      have cv:=qG (show W9.heap[D]?=some (.deferred (some [])) from bQ D _ HK.o (fun e=>by have:=Option.some.inj e;have:=ah.o.1;omega) (fun c fz e=>by cases e))
      clear bP bQ
      gi_wp2_with fail
      have hG:=grownBy_putObj' W9 D (.deferred none)
      refine⟨by simp,.inl ⟨_,_,rfl,run_takeDeferred cv.o,?_⟩⟩
      refine⟨_,results_tmp2 rfl _ _ _,?_⟩
      refine⟨?_,bR.o.trans (zb7 hG (fun r e=>by cases e;have:=aR.o.size;omega) bR.o.size)⟩
      rw[aj.o,<- cr.o,<- cg.o]
      rfl
     case body=>
      rintro l' pre x W hI hsp -
      obtain⟨⟨R1,cs1,ps1,v,an,ay,aC⟩,bS,bf,bT,ai,bh⟩:=hI
      have hpl:=hsp.length_le
      have bU:x∈rawL t:=hsp.subset (by simp)
      have cw:=qG (show x.length<=131072 from Nat.le_trans (zf7 t x bU) au.o)
      have aE:=qG (show pre.length+1<=131072 by rw[qD] at hpl;have:=zgJ t;have:=au.o;simp at hpl;omega)
      have aS:=qG (zmg ag.o.1 (pre.map zaz) ag.o.2)
      rw[Nat.zero_add,List.length_map] at aS
      have bV:=qG (znJ (mvD d A c) s (pre.map zaz) (zaz x))
      have bW:=qG (zh4 (mvD d A c) (pre.map zaz) s (zaz x))
      have bi:=qG (show(pre++[x]).map zaz=pre.map zaz++[zaz x] by rw[List.map_append];rfl)
      have bj:=qG (zjh ag.o.1 (pre.map zaz) ag.o.2 (by rw[List.length_map];have:=aE.o;omega))
      rw[List.length_map] at bj
      have aT:=qG (zjm ag.o.1 aS.o (by have:=aE.o;omega) (zaz x))
      have bX:=qG (show outL (mvD d A c) (stA (mvD d A c) s (pre.map zaz)) (zaz x)=if(lineS (mvD d A c) (stA (mvD d A c) s (pre.map zaz)) (zaz x)).2.2=0 then(lineS (mvD d A c) (stA (mvD d A c) s (pre.map zaz)) (zaz x)).2.1 else rep [wd wErr,.n (lineS (mvD d A c) (stA (mvD d A c) s (pre.map zaz)) (zaz x)).2.2] from rfl)
      have bY:=qG (zia (mvD d A c) (stA (mvD d A c) s (pre.map zaz)) (zaz x))
      have bZ:=qG (zdi an aB.o bf rfl)
      have am:=qG (an.below ((Below.refl _ W).drew))
      have az:=qG ay
      have aD:=qG aC
      have aq:=qG bS
      have b0:=qG bf
      have b7:=qG bT
      have bk:=qG ai
      have bp:=qG bh
      clear an ay aC bS bf bT ai bh hpl bU hsp
      gi_wp2_with fail
      refine zcD (S:=(fun W'=>W'.cell? ⟨bt,0,none⟩=some (.pointer (some ⟨f,0,none⟩)))) (by kernel_rfl) (by kernel_rfl) ?_ (fun ar=>?_)
      ·(try dsimp only);first|assumption|exact aq.o.c 0 _ rfl
      refine ht 0 (h:=?_)
      refine ht 1 (h:=?_)
      refine r1 (i:=2) (by kernel_rfl) rfl fun K hK=>?_
      go_simp
      refine(znG x _ (by have:=cw.o;omega)).mono ?_;rintro e2 U2 ⟨rfl,rfl⟩
      refine hK.out _ _ ?_ (fun ar=>?_)
      ·(try dsimp only);first|assumption|exact aq.o.c 0 _ rfl
      clear hK K
      try simp only[qW]
      refine r1 (i:=3) (by kernel_rfl) rfl fun K hK=>?_
      go_simp
      refine(zp5 _ _ f R1 cs1 ps1 (mvD d A c) _ (zaz x) pre.length (by have:=aE.o;omega) (bk.o.next ((Below.refl _ W).drew)) (fun b hb=>hb.elim (fun h=>Nat.le_trans ac.o.sz (az.o b h)) (fun h=>h.elim (fun h=>by have:=ac.o.sz;have:=ae.o.size;have:=ao.o;have:=ab.o;have:=ah.o.1;omega) (fun h=>by have:=(aD.o.type h).1;have:=ac.o.sz;have:=ae.o.size;have:=ao.o;have:=ab.o;omega))) am.o ag.o.1 aS.o).mono ?_;rintro e3 U3 ⟨rfl,R2,cs2,ps2,bq,b8⟩;have bu:=qG bq;have bv:=qG b8;clear bq b8
      refine hK.out _ _ ?_ (fun ar=>?_)
      ·(try dsimp only);exact(bv.o.k.cell (b:=bt) (o:=0) aq.o.lt bZ.o).trans (aq.o.c 0 _ rfl)
      clear hK K
      try simp only[qW]
      refine ht 4 (h:=?_)
      refine ht 5 (h:=?_)
      refine ht 6 (h:=?_)
      refine ht 7 (h:=?_)
      refine ht 8 (h:=?_)
      refine wpAnyH_done (by kernel_rfl) ?_ _
      dsimp only[Only]
      iterate 10 (try clear ar)
      obtain⟨aU,aV,aF,aW,aX,aG,aH,aI,aY,bw⟩:=RnI.line (w0:=w) (x:=zaz x) am.o az.o (aD.o.keep (.of_below (O:=fun _=>False) ((Below.refl _ W).drew)) (fun _ _ x=>x)) ab.o ah.o.1 aB.o (aq.o.next ((Below.refl _ W).drew)) (b0.o.next ((Below.refl _ W).drew)) (b7.o.next ((Below.refl _ W).drew)) (bk.o.next ((Below.refl _ W).drew)) (bp.o.trans (((Below.refl _ W).drew).mono bp.o.size)) ac.o.sz bu.o bv.o
      replace aU:=qG aU
      replace aV:=qG aV
      replace aF:=qG aF
      replace aW:=qG aW
      replace aX:=qG aX
      replace aG:=qG aG
      replace aH:=qG aH
      replace aI:=qG aI
      replace aY:=qG (aY.trans (show W.drew.heap[bx]?=W.heap[bx]? from rfl))
      have bz:=qG (show KeepsFrom V5.heap.size W U3 from⟨bw.size,fun k o _ ho hc=>bw.same k o (Nat.zero_le _) ho hc⟩)
      clear bw bu bv am az aD aq b0 b7 bk bp bZ aS
      generalize lineS (mvD d A c) (stA (mvD d A c) s (pre.map zaz)) (zaz x)=LN at *
      obtain⟨s2,rp,er⟩:=LN
      dsimp only
      have bA:=qG (show stA (mvD d A c) s ((pre++[x]).map zaz)=s2 by rw[bi.o];exact bV.o)
      have bB:=qG (show playS (mvD d A c) s ((pre++[x]).map zaz)=playS (mvD d A c) s (pre.map zaz)++(outL (mvD d A c) (stA (mvD d A c) s (pre.map zaz)) (zaz x)++[10]) by rw[bi.o];exact bW.o)
      have bC:=qG (show 0<=er/\er<=13 from bY.o)
      have bD:=qG (show FlAt (rnO f bb bx R2 v) U3 f R2 cs2 ps2 (mvD d A c) s2 from aU.o)
      have bE:=qG (show outL (mvD d A c) (stA (mvD d A c) s (pre.map zaz)) (zaz x)=if er=0 then rp else rep [wd wErr,.n er] from bX.o)
      clear bV bW bY aU bX bi
      generalize outL (mvD d A c) (stA (mvD d A c) s (pre.map zaz)) (zaz x)=OT at *
      generalize playS (mvD d A c) s (pre.map zaz)=PT at *
      have cb:=qG (show w.heap.size<=bb by have:=ae.o.size;have:=ao.o;have:=ab.o;omega)
      by_cases he:er=0
      .subst he
       have aJ:=qG (show OT=rp from bE.o)
       have ci:¬ 9223372036854775807<rp.length+1:=by have:=aT.o;rw[aJ.o] at this;omega
       have HC:=qG (zpr rp)
       gi_wp2_with fail
       rw[HC.o]
       refine⟨trivial,(CallsIn.inRound l' (callsIn_wide.2 (zgB PT (rp++[10]) bb v U3 aF.o (by have h1:=aT.o;have h2:=bj.o;have h3:=aE.o;rw[aJ.o] at h1;simp only[qD,List.length_singleton];omega) (by simp)))).mono ?_⟩
       rintro e U4 ⟨rfl,v2,aK,aL,aM⟩
       have bF:=qG aK
       have bG:=qG aL
       have bH:=qG aM
       clear aK aL aM
       gi_wp2_with fail
       exact RnI.write bD.o aV.o aF.o ab.o ah.o.1 aB.o aW.o aX.o aG.o aH.o aI.o ac.o.sz cb.o aY.o bz.o bF.o bG.o bH.o bA.o (by rw[bB.o,aJ.o])
      .have cA:(er==0)=false:=beq_false_of_ne he
       have aJ:=qG (show OT=rep [wd wErr,.n er] by rw[bE.o,if_neg he])
       have cj:=qG (show ∀ y∈[wd wErr,Pa.n er],y.ok from by simp only[List.forall_mem_cons];exact⟨(by show _<=20;decide),⟨by have:=bC.o;omega,by have:=bC.o;omega⟩,(fun x hx=>by cases hx)⟩)
       clear he
       gi_wp2_with fail
       refine⟨trivial,(CallsIn.inRound l' (callsIn_wide.2 (zbf U3 [wd wErr,Pa.n er] aH.o (by simp) (by simp) cj.o))).mono ?_⟩
       rintro e U5 ⟨rfl,cd⟩
       rw[<- aJ.o]
       have ci:¬ 9223372036854775807<OT.length+1:=by have:=aT.o;omega
       have HC:=qG (zpr OT)
       have aa:=qG cd
       clear cd
       gi_wp2_with fail
       rw[HC.o]
       have bI:=qG (aF.o.keep (.of_below (O:=fun _=>False) aa.o) (fun _ _ x=>x))
       refine⟨trivial,(CallsIn.inRound l' (callsIn_wide.2 (zgB PT (OT++[10]) bb v U5 bI.o (by have h1:=aT.o;have h2:=bj.o;have h3:=aE.o;simp only[qD,List.length_singleton];omega) (by simp)))).mono ?_⟩
       rintro e U4 ⟨rfl,v2,aK,aL,aM⟩
       have bF:=qG aK
       have bG:=qG aL
       have bH:=qG aM
       clear aK aL aM
       gi_wp2_with fail
       have hlt:bx<U3.heap.size:=by obtain⟨c,fz,h⟩:=aG.o;exact(qB.1 h).1
       exact RnI.write (bD.o.below aa.o) aV.o bI.o ab.o ah.o.1 aB.o (aW.o.next aa.o) (aX.o.next aa.o) (aG.o.next aa.o) (aH.o.next aa.o) (aI.o.trans (aa.o.mono aI.o.size)) ac.o.sz cb.o ((aa.o.block bx hlt).trans aY.o) ⟨Nat.le_trans bz.o.size aa.o.size,fun k o hb ho hc=>by have h1:=bz.o.same k o hb ho hc;rw[aa.o.block k (qB.1 h1).1];exact h1⟩ bF.o bG.o bH.o bA.o bB.o
end
section
open Go.RowKit
open Le
theorem zrM(a b:Tx):(⟨a.toArray⟩:ByteArray)++(⟨b.toArray⟩:ByteArray)=⟨(a++b).toArray⟩:=by
 apply ByteArray.ext;simp[ByteArray.data_append]
theorem zsN{ls:List Tx}{k:Nat}(h:k<ls.length):zrI (ls.take (k+1))=zrI (ls.take k)++(ls[k]++[10]):=by
 rw[List.take_succ_eq_append_getElem h,zr0]
 show _++zrI [ls[k]]=_
 unfold zrI
 simp
theorem zs3{ls:List Tx}{m k:Nat}(h:∀ t∈ls,t.length<=m):(zrI (ls.take k)).length<=(ls.take k).length*(m+1):=zrN fun x hx=>h x (List.mem_of_mem_take hx)
def ScR(ls:List Tx)(w0:World)(v i:Value)(w:World):Prop:=∃ k:Nat,k<=ls.length/\i=.int .i64 k/\v=tx (zrI (ls.take k))/\w=w0
theorem zrO(A:Option Addr)(c:Nat)(ls:List Tx)(w:World)(h:At w w.heap.size 1 zfl A ls)(hl:ls.length<=1000)(ht:∀ t∈ls,t.length<=1000):Calls Tryz.prog 32 #[.slice A ls.length c] w (RetQ (tx (zrI ls)) w):=by
 go_enter Tryz.func32,Tryz.ntmps32
 go_wp2_with fail
 go_loopw [3,8] (fun v i wr=>ScR ls w v i wr) (fun _ i _=>ls.length-(intOf i).toNat)
 case atStart=>exact⟨0,by omega,rfl,rfl,rfl⟩
 case round=>
  obtain⟨k,hk,rfl,rfl,rfl⟩:=hrel
  by_cases hlt:k<ls.length
  .obtain⟨b,off,rfl,af,ab⟩:=h k ls[k] (qN hlt)
   have h0:=ab 0 _ rfl
   simp only[Nat.add_zero,Nat.mul_one] at h0
   have hx:ls[k].length<=1000:=ht _ (List.getElem_mem hlt)
   have hs:=zs3 (k:=k) ht
   rw[List.length_take] at hs
   have ag:(zrI (ls.take k)).length<=1001000:=Nat.le_trans hs (Nat.mul_le_mul (show min k ls.length<=1000 by omega) (qQ 1001))
   have aa:=qG (zsN hlt)
   generalize ls[k]=x at *
   have ac:=qG (zrM x [10])
   have ae:=qG (zrM (zrI (ls.take k)) (x++[10]))
   have g1:¬ 9223372036854775807<x.length+1:=by omega
   have g2:¬ 9223372036854775807<(zrI (ls.take k)).length+(x.length+1):=by omega
   clear ab hs
   generalize hsq:zrI (ls.take k)=sq at *
   have e1:=ac.o
   have e2:=ae.o
   go_wp2_with fail
   all_goals (first|(refine⟨?_,?_⟩;(unfold ScR;exact⟨k+1,by omega,by go_num,by rw[aa.o],rfl⟩);(simp[intOf];omega))|(go_roundw;(case rel=>(unfold ScR;exact⟨k+1,by omega,by go_num,by rw[aa.o],rfl⟩));(case measure=>(simp[intOf];omega)))|(go_round;(case rel=>(unfold ScR;exact⟨k+1,by omega,by go_num,by rw[aa.o],rfl⟩));(case measure=>(simp[intOf];omega))))
  .have e:ls.take k=ls:=List.take_of_length_le (by omega)
   rw[e]
   go_wp2_with fail
   go_ret
   exact⟨rfl,rfl⟩
def zrL(d:Ru.Die)(ls:List Tx):Bool:=ls.any (fun t=>decide (500<t.length))||(decide (40<ls.length)||decide (10<d.blades.length))
def LgR(ls:List Tx)(w0:World)(i:Value)(w:World):Prop:=∃ k:Nat,k<=ls.length/\i=.int .i64 k/\w=w0/\(ls.take k).all (fun t=>!decide (500<t.length))=true
theorem zs9(d:Ru.Die)(A:Option Addr)(c:Nat)(ls:List Tx)(w:World)(h:At w w.heap.size 1 zfl A ls)(hl:ls.length<=9223372036854775807)(ht:∀ t∈ls,t.length<=9223372036854775807)(hd:d.blades.length<=9223372036854775807) :
  Calls Tryz.prog 23 #[.agg #[.slice d.A d.blades.length d.c,.int .i64 d.bound,.int .i64 d.stop,.int .i64 d.bend],.slice A ls.length c] w (Ret (.bool (zrL d ls)) w):=by
 have n1:=nxA w (.cells #[.slice d.A d.blades.length d.c,.int .i64 d.bound,.int .i64 d.stop,.int .i64 d.bend] 24)
 have HX:=qG (Bx.new w #[.slice d.A d.blades.length d.c,.int .i64 d.bound,.int .i64 d.stop,.int .i64 d.bend] 24)
 have HB:=qG n1
 have HA:=qG (h.next n1)
 clear h n1
 go_enter Tryz.func23,Tryz.ntmps23
 go_upto_region 1 with fail
 generalize w.alloc (.cells #[.slice d.A d.blades.length d.c,.int .i64 d.bound,.int .i64 d.stop,.int .i64 d.bend] 24)=V at *
 go_wp2_with fail
 go_loopw [9] (fun i wr=>LgR ls V i wr) (fun i _=>ls.length-(intOf i).toNat)
 case atStart=>exact⟨0,by omega,rfl,rfl,rfl⟩
 case round=>
  obtain⟨k,hk,rfl,rfl,aa⟩:=hrel
  by_cases hlt:k<ls.length
  .obtain⟨b,off,rfl,ak,ag⟩:=HA.o k ls[k] (qN hlt)
   have h0:=ag 0 _ rfl
   simp only[Nat.add_zero,Nat.mul_one] at h0
   have hx:ls[k].length<=9223372036854775807:=ht _ (List.getElem_mem hlt)
   have Ha:=qG (zbO (p:=fun t=>!decide (500<t.length)) hlt aa)
   have Hf:=qG (show 500<ls[k].length->zrL d ls=true from fun e=>by
    unfold zrL
    rw[List.any_eq_true.2 ⟨_,List.getElem_mem hlt,decide_eq_true e⟩,Bool.true_or])
   generalize ls[k]=x at *
   clear ag aa
   by_cases ac:500<x.length
   .have ah:(500:Int)<(x.length:Int):=by omega
    have ab:=qG ac
    clear ac
    go_wp2_with fail
    go_ret
    exact⟨by rw[Hf.o ab.o];rfl,HB.o⟩
   .have ah:¬(500:Int)<(x.length:Int):=by omega
    have ab:=qG ac
    clear ac
    go_wp2_with fail
    all_goals (first|(refine⟨?_,?_⟩;(unfold LgR;exact⟨k+1,by omega,by go_num,rfl,Ha.o (by simp only[decide_eq_false ab.o];rfl)⟩);(simp[intOf];omega))|(go_roundw;(case rel=>(unfold LgR;exact⟨k+1,by omega,by go_num,rfl,Ha.o (by simp only[decide_eq_false ab.o];rfl)⟩));(case measure=>(simp[intOf];omega)))|(go_round;(case rel=>(unfold LgR;exact⟨k+1,by omega,by go_num,rfl,Ha.o (by simp only[decide_eq_false ab.o];rfl)⟩));(case measure=>(simp[intOf];omega))))
  .have e:=zbP hlt aa
   have HE:=qG (show zrL d ls=(decide (40<ls.length)||decide (10<d.blades.length)) by
    unfold zrL
    rw[zcH e,Bool.false_or])
   have c0:=HX.o.c 0 _ rfl
   clear e aa
   by_cases ae:40<ls.length
   .have ai:(40:Int)<(ls.length:Int):=by omega
    replace HE:=qG (by rw[HE.o,decide_eq_true ae,Bool.true_or]:zrL d ls=true)
    clear ae
    go_wp2_with fail
    go_ret
    exact⟨by rw[HE.o];rfl,HB.o⟩
   .have ai:¬(40:Int)<(ls.length:Int):=by omega
    replace HE:=qG (by rw[HE.o,decide_eq_false ae,Bool.false_or]:zrL d ls=decide (10<d.blades.length))
    clear ae
    by_cases af:10<d.blades.length
    .have aj:(10:Int)<(d.blades.length:Int):=by omega
     replace HE:=qG (by rw[HE.o,decide_eq_true af]:zrL d ls=true)
     clear af
     go_wp2_with fail
     go_ret
     exact⟨by rw[HE.o];rfl,HB.o⟩
    .have aj:¬(10:Int)<(d.blades.length:Int):=by omega
     replace HE:=qG (by rw[HE.o,decide_eq_false af]:zrL d ls=false)
     clear af
     go_wp2_with fail
     go_ret
     exact⟨by rw[HE.o];rfl,HB.o⟩
theorem zsl(l:List Int)(A A':Option Addr)(c c':Nat)(w:World)(h:At w w.heap.size 1 zad A l)(h':At w w.heap.size 1 zad A' l)(hl:l.length<=1000) :
  Calls Tryz.prog 70 #[.slice A l.length c,.slice A' l.length c'] w (Ret (.bool true) w):=by
 have e0:decide (l=l)=true:=decide_eq_true rfl
 exact(Cu.zsM l l A A' c c' w h h' hl hl).mono fun e w' ⟨h1,h2⟩=>⟨by rw[h1,e0],h2⟩
theorem ztj(x:Loan)(W:World):(binOp .neq 67 (.agg #[.int .i64 x.p,.int .i64 x.a,.int .i64 x.b]) (.agg #[.int .i64 x.p,.int .i64 x.a,.int .i64 x.b])).run Tryz.prog W=.ok (.bool false) W:=by
 go_simp
theorem zti(x:Look)(W:World):(binOp .neq 194 (.agg #[.int .i64 x.h,.int .i64 x.there,.int .i64 x.gone]) (.agg #[.int .i64 x.h,.int .i64 x.there,.int .i64 x.gone])).run Tryz.prog W=.ok (.bool false) W:=by
 go_simp
theorem ztr(x:Bt)(W:World):(binOp .neq 65 (.agg #[.int .i64 x.cut,.int .i64 x.n]) (.agg #[.int .i64 x.cut,.int .i64 x.n])).run Tryz.prog W=.ok (.bool false) W:=by
 go_simp
def RS{α:Type}(l:List α)(w0:World)(i:Value)(w:World):Prop:=∃ k:Nat,k<=l.length/\i=.int .i64 k/\Below w0.heap.size w0 w
theorem zsA(m m':Mt)(w:World)(et:m'.t=m.t)(h:TaleAt w w.heap.size m)(h':TaleAt w w.heap.size m')(l1:m.t.loans.length<=1000)(l2:m.t.looks.length<=1000)(l3:m.t.admits.length<=1000) :
  Calls Tryz.prog 39 #[.agg #[.int .i64 m.t.n,.slice m.A1 m.t.loans.length m.c1,.slice m.A2 m.t.looks.length m.c2,.slice m.A3 m.t.admits.length m.c3],.agg #[.int .i64 m'.t.n,.slice m'.A1 m'.t.loans.length m'.c1,.slice m'.A2 m'.t.looks.length m'.c2,.slice m'.A3 m'.t.admits.length m'.c3]] w (Ret (.bool true) w):=by
 have h1:=h'.lo
 have h2:=h'.lk
 have h3:=h'.ad
 rw[et] at h1 h2 h3 ⊢
 clear h'
 have n1:=nxA w (.cells #[.int .i64 m.t.n,.slice m.A1 m.t.loans.length m.c1,.slice m.A2 m.t.looks.length m.c2,.slice m.A3 m.t.admits.length m.c3] 40)
 have n2:=nxA (w.alloc (.cells #[.int .i64 m.t.n,.slice m.A1 m.t.loans.length m.c1,.slice m.A2 m.t.looks.length m.c2,.slice m.A3 m.t.admits.length m.c3] 40)) (.cells #[.int .i64 m.t.n,.slice m'.A1 m.t.loans.length m'.c1,.slice m'.A2 m.t.looks.length m'.c2,.slice m'.A3 m.t.admits.length m'.c3] 40)
 have HX:=qG ((Bx.new w #[.int .i64 m.t.n,.slice m.A1 m.t.loans.length m.c1,.slice m.A2 m.t.looks.length m.c2,.slice m.A3 m.t.admits.length m.c3] 40).next n2)
 have HY:=qG (Bx.new (w.alloc (.cells #[.int .i64 m.t.n,.slice m.A1 m.t.loans.length m.c1,.slice m.A2 m.t.looks.length m.c2,.slice m.A3 m.t.admits.length m.c3] 40)) #[.int .i64 m.t.n,.slice m'.A1 m.t.loans.length m'.c1,.slice m'.A2 m.t.looks.length m'.c2,.slice m'.A3 m.t.admits.length m'.c3] 40)
 have HB:=qG (n1.trans (n2.mono n1.size))
 have ai:=qG (h.lo.next HB.o)
 have af:=qG (h.lk.next HB.o)
 have an:=qG (h.ad.next HB.o)
 have ag:=qG (h1.next HB.o)
 have ae:=qG (h2.next HB.o)
 have aj:=qG (h3.next HB.o)
 simp only[World.size_alloc] at HY
 have aq:=qG l1
 have ar:=qG l2
 have ao:=qG l3
 clear h h1 h2 h3 n1 n2 l1 l2 l3 et
 go_enter Tryz.func39,Tryz.ntmps39
 go_upto_region 1 with fail
 generalize(w.alloc (.cells #[.int .i64 m.t.n,.slice m.A1 m.t.loans.length m.c1,.slice m.A2 m.t.looks.length m.c2,.slice m.A3 m.t.admits.length m.c3] 40)).alloc (.cells #[.int .i64 m.t.n,.slice m'.A1 m.t.loans.length m'.c1,.slice m'.A2 m.t.looks.length m'.c2,.slice m'.A3 m.t.admits.length m'.c3] 40)=V at *
 have c0:=HX.o.c 0 _ rfl
 have c1:=HX.o.c 1 _ rfl
 have c2:=HX.o.c 2 _ rfl
 have c3:=HX.o.c 3 _ rfl
 have d0:=HY.o.c 0 _ rfl
 have d1:=HY.o.c 1 _ rfl
 have d2:=HY.o.c 2 _ rfl
 have d3:=HY.o.c 3 _ rfl
 go_wp2_with fail
 refine(zsl m.t.admits m.A3 m'.A3 m.c3 m'.c3 V an.o aj.o ao.o).mono ?_
 rintro e W ⟨rfl,hw⟩
 replace HX:=qG (HX.o.next hw)
 replace HY:=qG (HY.o.next hw)
 replace HB:=qG (HB.o.trans (hw.mono HB.o.size))
 replace ai:=qG (ai.o.next hw)
 replace af:=qG (af.o.next hw)
 replace ag:=qG (ag.o.next hw)
 replace ae:=qG (ae.o.next hw)
 clear hw c0 c1 c2 c3 d0 d1 d2 d3 an aj ao
 go_wp2_with fail
 go_loopw [5] (fun i wr=>RS m.t.loans W i wr) (fun i _=>m.t.loans.length-(intOf i).toNat)
 case atStart=>exact⟨0,by omega,rfl,Below.refl _ _⟩
 case round=>
  obtain⟨k,hk,rfl,hb⟩:=hrel
  have c1:=(HX.o.next hb).c 1 _ rfl
  have d1:=(HY.o.next hb).c 1 _ rfl
  by_cases hlt:k<m.t.loans.length
  .obtain⟨b,off,e1,ak,ab⟩:=(ai.o.next hb) k m.t.loans[k] (qN hlt)
   obtain⟨b',off',e2,ah,aa⟩:=(ag.o.next hb) k m.t.loans[k] (qN hlt)
   rw[e1] at c1
   rw[e2] at d1
   generalize m.t.loans[k]=x at *
   have y0:=ab 0 _ rfl
   have y1:=ab 1 _ rfl
   have y2:=ab 2 _ rfl
   have u0:=aa 0 _ rfl
   have u1:=aa 1 _ rfl
   have u2:=aa 2 _ rfl
   rw[Nat.add_zero] at y0 u0
   have au:=ztj x
   have ac:=qG hb
   have aw:=qG hlt
   have ax:=aq.o
   clear ab aa e1 e2 hb ak ah
   go_wp2_with (go_quiet (fail))
   all_goals (first|(refine⟨?_,?_⟩;(unfold RS;exact⟨k+1,by omega,by go_num,Le.zbz ac.o _⟩);(simp[intOf];omega))|(go_roundw;(case rel=>(unfold RS;exact⟨k+1,by omega,by go_num,Le.zbz ac.o _⟩));(case measure=>(simp[intOf];omega)))|(go_round;(case rel=>(unfold RS;exact⟨k+1,by omega,by go_num,Le.zbz ac.o _⟩));(case measure=>(simp[intOf];omega))))
  .have ac:=qG hb
   clear hb
   replace HX:=qG (HX.o.next ac.o)
   replace HY:=qG (HY.o.next ac.o)
   replace af:=qG (af.o.next ac.o)
   replace ae:=qG (ae.o.next ac.o)
   replace HB:=qG (HB.o.trans (ac.o.mono HB.o.size))
   go_wp2_with fail
   clear c1 d1 hlt hk
   go_loopw [6] (fun i w2=>RS m.t.looks wr i w2) (fun i _=>m.t.looks.length-(intOf i).toNat)
   case atStart=>exact⟨0,by omega,rfl,Below.refl _ _⟩
   case round=>
    obtain⟨k2,ay,rfl,hb⟩:=hrel
    have c2:=(HX.o.next hb).c 2 _ rfl
    have d2:=(HY.o.next hb).c 2 _ rfl
    by_cases hlt:k2<m.t.looks.length
    .obtain⟨b,off,e1,ak,ab⟩:=(af.o.next hb) k2 m.t.looks[k2] (qN hlt)
     obtain⟨b',off',e2,ah,aa⟩:=(ae.o.next hb) k2 m.t.looks[k2] (qN hlt)
     rw[e1] at c2
     rw[e2] at d2
     generalize m.t.looks[k2]=x at *
     have y0:=ab 0 _ rfl
     have y1:=ab 1 _ rfl
     have y2:=ab 2 _ rfl
     have u0:=aa 0 _ rfl
     have u1:=aa 1 _ rfl
     have u2:=aa 2 _ rfl
     rw[Nat.add_zero] at y0 u0
     have au:=zti x
     have am:=qG hb
     have aw:=qG hlt
     have az:=ar.o
     clear ab aa e1 e2 hb ak ah
     go_wp2_with (go_quiet (fail))
     all_goals (first|(refine⟨?_,?_⟩;(unfold RS;exact⟨k2+1,by omega,by go_num,Le.zbz am.o _⟩);(simp[intOf];omega))|(go_roundw;(case rel=>(unfold RS;exact⟨k2+1,by omega,by go_num,Le.zbz am.o _⟩));(case measure=>(simp[intOf];omega)))|(go_round;(case rel=>(unfold RS;exact⟨k2+1,by omega,by go_num,Le.zbz am.o _⟩));(case measure=>(simp[intOf];omega))))
    .replace HB:=qG (HB.o.trans (hb.mono HB.o.size))
     clear hb
     go_wp2_with fail
     go_ret
     exact⟨rfl,HB.o⟩
theorem zs5{a b:Cu.Cut}(h:Ct.of a=Ct.of b):Cu.zsB a b=true:=by
 unfold Ct.of at h
 injection h with h1 h2 h3
 unfold Cu.zsB
 rw[decide_eq_true h1,decide_eq_true h2,decide_eq_true h3];rfl
theorem zsR{α β:Type}{f:α->β}{l:List α}{q:List β}(h:l.map f=q){k:Nat}(hk:k<q.length):∃ x,l[k]?=some x/\f x=q[k]:=by
 subst h
 rw[List.length_map] at hk
 exact⟨l[k],qN hk,by rw[List.getElem_map]⟩
structure zsC(b:Bk):Prop where
 cu:b.cuts.length<=1000
 pc:∀ c∈b.cuts,c.p.length<=1000
 rn:b.ran.length<=1000
 md:b.made.length<=1000
 ln:b.t.loans.length<=1000
 lk:b.t.looks.length<=1000
 ad:b.t.admits.length<=1000
theorem BkAt.tale{O:Nat->Prop}{w:World}{m:Bv}{b:Bk}(h:BkAt O w m b)(hs:zsC b):TaleAt w w.heap.size ⟨b.t,m.A3,m.c3,m.A4,m.c4,m.A5,m.c5⟩:=
 ⟨h.ln.at_,h.lk.at_,h.ad.at_,by have:=hs.ln;show b.t.loans.length<=_;omega,by have:=hs.lk;show b.t.looks.length<=_;omega,by have:=hs.ad;show b.t.admits.length<=_;omega,h.l3,h.l4,h.l5⟩
theorem BkAt.piece{O:Nat->Prop}{w:World}{m:Bv}{b:Bk}(h:BkAt O w m b)(hs:zsC b){x:Cu.Cut}(hx:x∈m.cs):Cu.CutAt w w.heap.size x/\x.piece.length<=1000:=by
 have hl:x.piece.length<=1000:=hs.pc (Ct.of x) (by rw[<- h.ec];exact List.mem_map_of_mem hx)
 exact⟨⟨(h.pc x hx).at_,by omega⟩,hl⟩
theorem zs2(O O':Nat->Prop)(m n:Bv)(b:Bk)(k:Int)(w:World)(h:BkAt O w m b)(h':BkAt O' w n b)(hs:zsC b) :
  Calls Tryz.prog 21 #[.agg #[.int .i64 b.hour,.slice m.A0 b.cuts.length m.c0,.slice m.A1 b.ran.length m.c1,.slice m.A2 b.made.length m.c2,.int .i64 b.t.n,.slice m.A3 b.t.loans.length m.c3,.slice m.A4 b.t.looks.length m.c4,.slice m.A5 b.t.admits.length m.c5,.int .i64 b.cost,.int .i64 k],.agg #[.int .i64 b.hour,.slice n.A0 b.cuts.length n.c0,.slice n.A1 b.ran.length n.c1,.slice n.A2 b.made.length n.c2,.int .i64 b.t.n,.slice n.A3 b.t.loans.length n.c3,.slice n.A4 b.t.looks.length n.c4,.slice n.A5 b.t.admits.length n.c5,.int .i64 b.cost,.int .i64 k]] w (Ret (.bool true) w):=by
 have n1:=nxA w (.cells #[.int .i64 b.hour,.slice m.A0 b.cuts.length m.c0,.slice m.A1 b.ran.length m.c1,.slice m.A2 b.made.length m.c2,.int .i64 b.t.n,.slice m.A3 b.t.loans.length m.c3,.slice m.A4 b.t.looks.length m.c4,.slice m.A5 b.t.admits.length m.c5,.int .i64 b.cost,.int .i64 k] 42)
 have n2:=nxA (w.alloc (.cells #[.int .i64 b.hour,.slice m.A0 b.cuts.length m.c0,.slice m.A1 b.ran.length m.c1,.slice m.A2 b.made.length m.c2,.int .i64 b.t.n,.slice m.A3 b.t.loans.length m.c3,.slice m.A4 b.t.looks.length m.c4,.slice m.A5 b.t.admits.length m.c5,.int .i64 b.cost,.int .i64 k] 42)) (.cells #[.int .i64 b.hour,.slice n.A0 b.cuts.length n.c0,.slice n.A1 b.ran.length n.c1,.slice n.A2 b.made.length n.c2,.int .i64 b.t.n,.slice n.A3 b.t.loans.length n.c3,.slice n.A4 b.t.looks.length n.c4,.slice n.A5 b.t.admits.length n.c5,.int .i64 b.cost,.int .i64 k] 42)
 have HX:=qG ((Bx.new w #[.int .i64 b.hour,.slice m.A0 b.cuts.length m.c0,.slice m.A1 b.ran.length m.c1,.slice m.A2 b.made.length m.c2,.int .i64 b.t.n,.slice m.A3 b.t.loans.length m.c3,.slice m.A4 b.t.looks.length m.c4,.slice m.A5 b.t.admits.length m.c5,.int .i64 b.cost,.int .i64 k] 42).next n2)
 have HY:=qG (Bx.new (w.alloc (.cells #[.int .i64 b.hour,.slice m.A0 b.cuts.length m.c0,.slice m.A1 b.ran.length m.c1,.slice m.A2 b.made.length m.c2,.int .i64 b.t.n,.slice m.A3 b.t.loans.length m.c3,.slice m.A4 b.t.looks.length m.c4,.slice m.A5 b.t.admits.length m.c5,.int .i64 b.cost,.int .i64 k] 42)) #[.int .i64 b.hour,.slice n.A0 b.cuts.length n.c0,.slice n.A1 b.ran.length n.c1,.slice n.A2 b.made.length n.c2,.int .i64 b.t.n,.slice n.A3 b.t.loans.length n.c3,.slice n.A4 b.t.looks.length n.c4,.slice n.A5 b.t.admits.length n.c5,.int .i64 b.cost,.int .i64 k] 42)
 have HB:=qG (n1.trans (n2.mono n1.size))
 have HM:=qG (h.next HB.o)
 have HN:=qG (h'.next HB.o)
 simp only[World.size_alloc] at HY
 have HS:=qG hs
 clear h h' n1 n2 hs
 go_enter Tryz.func21,Tryz.ntmps21
 go_upto_region 1 with fail
 generalize(w.alloc (.cells #[.int .i64 b.hour,.slice m.A0 b.cuts.length m.c0,.slice m.A1 b.ran.length m.c1,.slice m.A2 b.made.length m.c2,.int .i64 b.t.n,.slice m.A3 b.t.loans.length m.c3,.slice m.A4 b.t.looks.length m.c4,.slice m.A5 b.t.admits.length m.c5,.int .i64 b.cost,.int .i64 k] 42)).alloc (.cells #[.int .i64 b.hour,.slice n.A0 b.cuts.length n.c0,.slice n.A1 b.ran.length n.c1,.slice n.A2 b.made.length n.c2,.int .i64 b.t.n,.slice n.A3 b.t.loans.length n.c3,.slice n.A4 b.t.looks.length n.c4,.slice n.A5 b.t.admits.length n.c5,.int .i64 b.cost,.int .i64 k] 42)=V at *
 have c0:=HX.o.c 0 _ rfl
 have c1:=HX.o.c 1 _ rfl
 have c2:=HX.o.c 2 _ rfl
 have c3:=HX.o.c 3 _ rfl
 have c4:=HX.o.c 4 _ rfl
 have c5:=HX.o.c 5 _ rfl
 have c6:=HX.o.c 6 _ rfl
 have c7:=HX.o.c 7 _ rfl
 have c8:=HX.o.c 8 _ rfl
 have c9:=HX.o.c 9 _ rfl
 have d0:=HY.o.c 0 _ rfl
 have d1:=HY.o.c 1 _ rfl
 have d2:=HY.o.c 2 _ rfl
 have d3:=HY.o.c 3 _ rfl
 have d4:=HY.o.c 4 _ rfl
 have d5:=HY.o.c 5 _ rfl
 have d6:=HY.o.c 6 _ rfl
 have d7:=HY.o.c 7 _ rfl
 have d8:=HY.o.c 8 _ rfl
 have d9:=HY.o.c 9 _ rfl
 go_wp2_with fail
 refine(zsl b.ran m.A1 n.A1 m.c1 n.c1 V HM.o.rn.at_ HN.o.rn.at_ HS.o.rn).mono ?_
 rintro e W ⟨rfl,hw⟩
 replace HX:=qG (HX.o.next hw)
 replace HY:=qG (HY.o.next hw)
 replace HB:=qG (HB.o.trans (hw.mono HB.o.size))
 replace HM:=qG (HM.o.next hw)
 replace HN:=qG (HN.o.next hw)
 clear hw c0 c1 c2 c3 c4 c5 c6 c7 c8 c9 d0 d1 d2 d3 d4 d5 d6 d7 d8 d9
 have c3:=HX.o.c 3 _ rfl
 have c4:=HX.o.c 4 _ rfl
 have c5:=HX.o.c 5 _ rfl
 have c6:=HX.o.c 6 _ rfl
 have c7:=HX.o.c 7 _ rfl
 have d3:=HY.o.c 3 _ rfl
 have d4:=HY.o.c 4 _ rfl
 have d5:=HY.o.c 5 _ rfl
 have d6:=HY.o.c 6 _ rfl
 have d7:=HY.o.c 7 _ rfl
 go_wp2_with fail
 refine(zsA ⟨b.t,m.A3,m.c3,m.A4,m.c4,m.A5,m.c5⟩ ⟨b.t,n.A3,n.c3,n.A4,n.c4,n.A5,n.c5⟩ W rfl (HM.o.tale HS.o) (HN.o.tale HS.o) HS.o.ln HS.o.lk HS.o.ad).mono ?_
 rintro e W2 ⟨rfl,hw⟩
 replace HX:=qG (HX.o.next hw)
 replace HY:=qG (HY.o.next hw)
 replace HB:=qG (HB.o.trans (hw.mono HB.o.size))
 replace HM:=qG (HM.o.next hw)
 replace HN:=qG (HN.o.next hw)
 clear hw c3 c4 c5 c6 c7 d3 d4 d5 d6 d7
 have c8:=HX.o.c 8 _ rfl
 have c9:=HX.o.c 9 _ rfl
 have d8:=HY.o.c 8 _ rfl
 have d9:=HY.o.c 9 _ rfl
 go_wp2_with fail
 clear c8 c9 d8 d9
 go_loopw [5] (fun i wr=>RS b.cuts W2 i wr) (fun i _=>b.cuts.length-(intOf i).toNat)
 case atStart=>exact⟨0,by omega,rfl,Below.refl _ _⟩
 case round=>
  obtain⟨i,hi,rfl,hb⟩:=hrel
  have c1:=(HX.o.next hb).c 1 _ rfl
  have d1:=(HY.o.next hb).c 1 _ rfl
  by_cases hlt:i<b.cuts.length
  .obtain⟨x,hx,ex⟩:=zsR HM.o.ec hlt
   obtain⟨y,hy,ey⟩:=zsR HN.o.ec hlt
   obtain⟨g,off,e1,ah,ae⟩:=(HM.o.next hb).cu.at_ i x hx
   obtain⟨g',off',e2,af,ab⟩:=(HN.o.next hb).cu.at_ i y hy
   rw[e1] at c1
   rw[e2] at d1
   have an:=qG (zs5 (ex.trans ey.symm))
   have ak:=qG ((HM.o.next hb).piece HS.o (List.mem_of_getElem? hx))
   have am:=qG ((HN.o.next hb).piece HS.o (List.mem_of_getElem? hy))
   have y0:=ae 0 _ rfl
   have y1:=ae 1 _ rfl
   have y2:=ae 2 _ rfl
   have u0:=ab 0 _ rfl
   have u1:=ab 1 _ rfl
   have u2:=ab 2 _ rfl
   rw[Nat.add_zero] at y0 u0
   have aa:=qG hb
   have ao:=HS.o.cu
   have HF:=qG (And.intro c1 (And.intro d1 (And.intro y0 (And.intro y1 (And.intro y2 (And.intro u0 (And.intro u1 u2)))))))
   clear ae ab e1 e2 hb ah af ex ey hx hy
   go_upto_region 6 with fail
   clear c1 d1 y0 y1 y2 u0 u1 u2
   refine wp_region_noPanic ?_
   refine wp_region_held_drew (S:=(fun W'=>W'.cell? ⟨w.heap.size,1,none⟩=some (.slice (some ⟨g,off,none⟩) b.cuts.length m.c0)/\W'.cell? ⟨w.heap.size+1,1,none⟩=some (.slice (some ⟨g',off',none⟩) b.cuts.length n.c0)/\W'.cell? ⟨g,off+i*3,none⟩=some (.int .i64 x.wide)/\W'.cell? ⟨g,off+i*3+1,none⟩=some (.int .i64 x.high)/\W'.cell? ⟨g,off+i*3+2,none⟩=some (.slice x.A x.piece.length x.c)/\W'.cell? ⟨g',off'+i*3,none⟩=some (.int .i64 y.wide)/\W'.cell? ⟨g',off'+i*3+1,none⟩=some (.int .i64 y.high)/\W'.cell? ⟨g',off'+i*3+2,none⟩=some (.slice y.A y.piece.length y.c))) (by kernel_rfl) ?_ (fun ag=>?_)
   ·(try dsimp only);exact HF.o
   refine ht 0 (h:=?_)
   refine ht 1 (h:=?_)
   refine ht 2 (h:=?_)
   refine ht 3 (h:=?_)
   refine ht 4 (h:=?_)
   refine ht 5 (h:=?_)
   refine ht 6 (h:=?_)
   refine ht 7 (h:=?_)
   refine ht 8 (h:=?_)
   refine ht 9 (h:=?_)
   refine r1 (i:=10) (by kernel_rfl) rfl fun K hK=>?_
   go_simp
   refine(Cu.zsQ x y _ (ak.o.1.next (Below.refl _ wr).drew) (am.o.1.next (Below.refl _ wr).drew) ak.o.2 am.o.2).mono ?_;rintro e U ⟨rfl,ai⟩;have ac:=qG (show Below wr.heap.size wr U from(Below.refl _ wr).drew.trans ai);clear ai;rw[an.o]
   refine hK.out _ _ ?_ (fun ag=>?_)
   ·(try dsimp only);exact⟨(ac.o.cell (p:=⟨w.heap.size,1,none⟩) (zaa HF.o.1)).trans HF.o.1,(ac.o.cell (p:=⟨w.heap.size+1,1,none⟩) (zaa HF.o.2.1)).trans HF.o.2.1,(ac.o.cell (p:=⟨g,off+i*3,none⟩) (zaa HF.o.2.2.1)).trans HF.o.2.2.1,(ac.o.cell (p:=⟨g,off+i*3+1,none⟩) (zaa HF.o.2.2.2.1)).trans HF.o.2.2.2.1,(ac.o.cell (p:=⟨g,off+i*3+2,none⟩) (zaa HF.o.2.2.2.2.1)).trans HF.o.2.2.2.2.1,(ac.o.cell (p:=⟨g',off'+i*3,none⟩) (zaa HF.o.2.2.2.2.2.1)).trans HF.o.2.2.2.2.2.1,(ac.o.cell (p:=⟨g',off'+i*3+1,none⟩) (zaa HF.o.2.2.2.2.2.2.1)).trans HF.o.2.2.2.2.2.2.1,(ac.o.cell (p:=⟨g',off'+i*3+2,none⟩) (zaa HF.o.2.2.2.2.2.2.2)).trans HF.o.2.2.2.2.2.2.2⟩
   clear hK K
   try simp only[qW]
   refine ht 11 (h:=?_)
   refine wpAnyH_done (by kernel_rfl) ?_ _
   refine NoPanic.normal ?_
   iterate 13 (try clear ag)
   go_wp2_with fail
   all_goals (first|(refine⟨?_,?_⟩;(unfold RS;exact⟨i+1,by omega,by go_num,aa.o.trans (ac.o.mono aa.o.size)⟩);(simp[intOf];omega))|(go_roundw;(case rel=>(unfold RS;exact⟨i+1,by omega,by go_num,aa.o.trans (ac.o.mono aa.o.size)⟩));(case measure=>(simp[intOf];omega)))|(go_round;(case rel=>(unfold RS;exact⟨i+1,by omega,by go_num,aa.o.trans (ac.o.mono aa.o.size)⟩));(case measure=>(simp[intOf];omega))))
  .have aa:=qG hb
   clear hb
   replace HX:=qG (HX.o.next aa.o)
   replace HY:=qG (HY.o.next aa.o)
   replace HM:=qG (HM.o.next aa.o)
   replace HN:=qG (HN.o.next aa.o)
   replace HB:=qG (HB.o.trans (aa.o.mono HB.o.size))
   go_wp2_with fail
   clear c1 d1 hlt hi
   go_loopw [6] (fun i w2=>RS b.made wr i w2) (fun i _=>b.made.length-(intOf i).toNat)
   case atStart=>exact⟨0,by omega,rfl,Below.refl _ _⟩
   case round=>
    obtain⟨k2,aq,rfl,hb⟩:=hrel
    have c3:=(HX.o.next hb).c 3 _ rfl
    have d3:=(HY.o.next hb).c 3 _ rfl
    by_cases hlt:k2<b.made.length
    .obtain⟨g,off,e1,ah,ae⟩:=(HM.o.next hb).md.at_ k2 b.made[k2] (qN hlt)
     obtain⟨g',off',e2,af,ab⟩:=(HN.o.next hb).md.at_ k2 b.made[k2] (qN hlt)
     rw[e1] at c3
     rw[e2] at d3
     generalize b.made[k2]=x at *
     have y0:=ae 0 _ rfl
     have y1:=ae 1 _ rfl
     have u0:=ab 0 _ rfl
     have u1:=ab 1 _ rfl
     rw[Nat.add_zero] at y0 u0
     have ar:=ztr x
     have aj:=qG hb
     have au:=qG hlt
     have aw:=HS.o.md
     clear ae ab e1 e2 hb ah af
     go_wp2_with (go_quiet (fail))
     all_goals (first|(refine⟨?_,?_⟩;(unfold RS;exact⟨k2+1,by omega,by go_num,Le.zbz aj.o _⟩);(simp[intOf];omega))|(go_roundw;(case rel=>(unfold RS;exact⟨k2+1,by omega,by go_num,Le.zbz aj.o _⟩));(case measure=>(simp[intOf];omega)))|(go_round;(case rel=>(unfold RS;exact⟨k2+1,by omega,by go_num,Le.zbz aj.o _⟩));(case measure=>(simp[intOf];omega))))
    .replace HB:=qG (HB.o.trans (hb.mono HB.o.size))
     clear hb
     go_wp2_with fail
     go_ret
     exact⟨rfl,HB.o⟩
theorem zsX{d:Ru.Die}{s:St}{N:Nat}(h:SOk d s N)(A:Option Addr)(c:Nat):SOk (mvD d A c) s N:=
 ⟨⟨h.b.hour,h.b.nc,h.b.ck,h.b.nr,h.b.rn,h.b.rw_,h.b.nm,h.b.md,h.b.ft,h.b.lk,h.b.ln,h.b.op,h.b.cl,h.b.ct⟩,h.pl,h.n8,h.pe,h.pn,h.cs⟩
def newO(n f:Nat)(R:Nat->Rw)(b:Nat):Prop:=(6<=b/\b<n)\/zao f R b
structure InPlay(w0:World)(d:Ru.Die)(f:Nat)(s:St)(W:World):Prop where
 fl:∃ R A c cs ps,FlAt (newO w0.heap.size f R) W f R cs ps (mvD d A c) s/\∀ b,zao f R b->w0.heap.size<=b
 env:Env W
 bel:Below w0.heap.size w0 W
 h6:6<=w0.heap.size
theorem InPlay.next{w0:World}{d:Ru.Die}{f:Nat}{s:St}{W W':World}(h:InPlay w0 d f s W)(hb:Below W.heap.size W W'):InPlay w0 d f s W':=by
 obtain⟨⟨R,A,c,cs,ps,ac,ae⟩,ab,aa,h6⟩:=h
 exact⟨⟨R,A,c,cs,ps,ac.below hb,ae⟩,ab.next hb,aa.trans (hb.mono aa.size),h6⟩
theorem InPlay.wide{w0 V:World}{d:Ru.Die}{f:Nat}{s:St}{W:World}(h:InPlay V d f s W)(hb:Below w0.heap.size w0 V)(h6:6<=w0.heap.size):InPlay w0 d f s W:=by
 obtain⟨⟨R,A,c,cs,ps,ac,ae⟩,aa,ab,-⟩:=h
 exact⟨⟨R,A,c,cs,ps,ac.shrink (fun b x=>x.elim (fun y=>.inl ⟨y.1,qM y.2 hb.size⟩) .inr) (fun b x=>.inr x),fun b hx=>Nat.le_trans hb.size (ae b hx)⟩,aa,hb.trans (ab.mono hb.size),h6⟩
def ztc(w0:World)(d:Ru.Die)(f:Nat)(s:St)(t:Tx)(e:Ending)(w':World):Prop:=e=.returned (.tuple #[tx (lineS d s t).2.1,.int .i64 (lineS d s t).2.2])/\InPlay w0 d f (lineS d s t).1 w'
theorem InPlay.line{w0:World}{d:Ru.Die}{f:Nat}{s:St}{W:World}{N:Nat}(h:InPlay w0 d f s W)(hd:Ru.dieS d=true)(hs:SOk d s N)(hN:N<=400000)(t:Tx) :
  Calls Tryz.prog 19 #[.pointer (some ⟨f,0,none⟩),tx t] W (ztc w0 d f s t):=by
 obtain⟨⟨R,A,c,cs,ps,ag,ab⟩,ac,aa,h6⟩:=h
 refine(zp5 (newO w0.heap.size f R) W f R cs ps (mvD d A c) s t N hN ac (fun b hb=>hb.elim (fun x=>x.1) (fun x=>Nat.le_trans h6 (ab b x))) ag hd (zsX hs A c)).mono ?_
 rintro e w' ⟨he,R2,cs2,ps2,ae,ht⟩
 rw[zod] at he ae
 have af:∀ b,zao f R2 b->w0.heap.size<=b:=fun b hb=>by
  by_cases h:b<W.heap.size
  .exact ab b (ht.n b h hb)
  .exact Nat.le_trans aa.size (by omega)
 exact⟨he,⟨R2,A,c,cs2,ps2,ae.shrink (fun b hb=>hb.elim (fun x=>.inl (.inl x)) .inr) (fun b hb=>.inr hb),af⟩,ac.keep ht.k (fun b hb=>Nat.le_trans h6 (ab b hb)),
  ⟨ht.k.os.trans aa.os,ht.k.tape.trans aa.tape,ht.k.output.trans aa.output,Nat.le_trans aa.size ht.k.size,fun b hb=>(ht.k.block b (qM hb aa.size) (fun ho=>by have:=ab b ho;omega)).trans (aa.block b hb)⟩,h6⟩
theorem InPlay.books{w0:World}{d:Ru.Die}{f:Nat}{s:St}{W:World}{N:Nat}(h:InPlay w0 d f s W)(hd:Ru.dieS d=true)(hs:SOk d s N)(hN:N<=400000):Calls Tryz.prog 22 #[.pointer (some ⟨f,0,none⟩)] W (znx s W):=by
 obtain⟨⟨R,A,c,cs,ps,aa,ae⟩,ab,ac,h6⟩:=h
 exact zs1 (newO w0.heap.size f R) W f R cs ps (mvD d A c) s aa ((zsX hs A c).v hd hN)
def ztt(d:Ru.Die)(pieces persons:Int)(w:World)(e:Ending)(w':World):Prop:=Below w.heap.size w w'/\match newS d pieces persons with
|none=>e=.returned (.tuple #[.pointer none,.int .i64 1])
|some s=>∃ f,e=.returned (.tuple #[.pointer (some ⟨f,0,none⟩),.int .i64 0])/\InPlay w d f s w'
theorem zsH(d:Ru.Die)(pieces persons:Int)(w:World)(aa:Env w)(hd:Ru.DieAt w w.heap.size d):Calls Tryz.prog 17 #[.agg #[.slice d.A d.blades.length d.c,.int .i64 d.bound,.int .i64 d.stop,.int .i64 d.bend],.int .i64 pieces,.int .i64 persons] w (ztt d pieces persons w):=by
 refine(zkT d pieces persons w hd).mono ?_
 rintro e w' ⟨hb,h⟩
 refine⟨hb,?_⟩
 cases hn:newS d pieces persons with
|none=>rw[hn] at h;exact h
|some s=>
  rw[hn] at h
  obtain⟨f,R,A,c,he,ab,ac⟩:=h
  exact⟨f,he,⟨R,A,c,[],[],ab.shrink (fun b x=>x.elim (fun y=>.inl y.2) .inr) (fun b x=>.inr x),ac⟩,aa.next hb,hb,aa.sz⟩
def ztl(d:Ru.Die)(pieces persons:Int)(ls:List Tx)(w:World)(e:Ending)(w':World):Prop:=Below w.heap.size w w'/\match newS d pieces persons with
|none=>e=.returned (.pointer none)
|some s=>∃ f,e=.returned (.pointer (some ⟨f,0,none⟩))/\InPlay w d f (zrJ d s ls) w'
def MdR(ls:List Tx)(w0:World)(d:Ru.Die)(f:Nat)(s:St)(i:Value)(W:World):Prop:=∃ k:Nat,k<=ls.length/\i=.int .i64 k/\InPlay w0 d f (zrJ d s (ls.take k)) W
theorem zsk(d:Ru.Die)(s:St){ls:List Tx}{k:Nat}(h:k<ls.length):zrJ d s (ls.take (k+1))=(lineS d (zrJ d s (ls.take k)) ls[k]).1:=by
 rw[List.take_succ_eq_append_getElem h,zsI];rfl
theorem zsS(d:Ru.Die)(s:St)(hd:Ru.dieS d=true)(h:SOk d s 0)(ls:List Tx)(k:Nat):SOk d (zrJ d s (ls.take k)) (ls.take k).length:=by
 have:=zrZ hd (ls.take k) h
 rw[Nat.zero_add] at this
 exact this
attribute [local irreducible] lineS
theorem zs8(d:Ru.Die)(pieces persons:Int)(A:Option Addr)(c:Nat)(ls:List Tx)(w:World)(aa:Env w)(hd:Ru.DieAt w w.heap.size d)(h:At w w.heap.size 1 zfl A ls)(hl:ls.length<=400000) :
  Calls Tryz.prog 24 #[.agg #[.slice d.A d.blades.length d.c,.int .i64 d.bound,.int .i64 d.stop,.int .i64 d.bend],.int .i64 pieces,.int .i64 persons,.slice A ls.length c] w (ztl d pieces persons ls w):=by
 have n1:=nxA w (.cells #[.slice d.A d.blades.length d.c,.int .i64 d.bound,.int .i64 d.stop,.int .i64 d.bend] 24)
 have y1:=Bx.new w #[.slice d.A d.blades.length d.c,.int .i64 d.bound,.int .i64 d.stop,.int .i64 d.bend] 24
 have HB:=qG n1
 have ah:=qG n1
 have HD:=qG (hd.next n1)
 have ai:=qG h
 have aj:=qG (aa.next n1)
 have ak:=qG aa.sz
 have HL:=qG hl
 clear hd h n1 aa hl
 go_enter Tryz.func24,Tryz.ntmps24
 go_upto_region 1 with fail
 generalize w.alloc (.cells #[.slice d.A d.blades.length d.c,.int .i64 d.bound,.int .i64 d.stop,.int .i64 d.bend] 24)=V at *
 have c0:=y1.c 0 _ rfl
 have c1:=y1.c 1 _ rfl
 have c2:=y1.c 2 _ rfl
 have c3:=y1.c 3 _ rfl
 go_wp2_with fail
 refine(zsH d pieces persons V aj.o HD.o).mono ?_
 rintro e W ⟨hb,hn⟩
 have ao:=qG hb
 replace HB:=qG (HB.o.trans (hb.mono HB.o.size))
 clear c0 c1 c2 c3 y1 hb
 cases hN:newS d pieces persons with
|none=>
  rw[hN] at hn
  subst hn
  have HN:=qG hN
  clear hN
  go_wp2_with fail
  go_ret
  refine⟨HB.o,?_⟩
  rw[HN.o]
  rfl
|some s=>
  rw[hN] at hn
  obtain⟨f,rfl,hp⟩:=hn
  have HN:=qG hN
  have ab:=qG (zp2 hN)
  have HP:=qG (hp.wide ah.o ak.o)
  clear hN hp
  go_wp2_with fail
  go_loopw [24] (fun i wr=>MdR ls w d f s i wr) (fun i _=>ls.length-(intOf i).toNat)
  case atStart=>exact⟨0,by omega,rfl,HP.o⟩
  case round=>
   obtain⟨k,hk,rfl,hp⟩:=hrel
   by_cases hlt:k<ls.length
   .obtain⟨b,off,rfl,aq,af⟩:=(ai.o.next hp.bel) k ls[k] (qN hlt)
    have h0:=af 0 _ rfl
    simp only[Nat.add_zero,Nat.mul_one] at h0
    have ac:=qG (zsk d s hlt)
    have am:=qG (zsS d s ab.o.1 ab.o.2 ls k)
    have an:=qG hp
    have hl:=HL.o
    generalize ls[k]=x at *
    clear af hp
    go_wp2_with fail
    refine(an.o.line ab.o.1 am.o (by rw[List.length_take];omega) x).mono ?_
    rintro e w' ⟨rfl,hp⟩
    have ae:=qG hp
    clear hp h0
    go_wp2_with fail
    all_goals (first|(refine⟨?_,?_⟩;(unfold MdR;exact⟨k+1,by omega,by go_num,by rw[ac.o];exact ae.o⟩);(simp[intOf];omega))|(go_roundw;(case rel=>(unfold MdR;exact⟨k+1,by omega,by go_num,by rw[ac.o];exact ae.o⟩));(case measure=>(simp[intOf];omega)))|(go_round;(case rel=>(unfold MdR;exact⟨k+1,by omega,by go_num,by rw[ac.o];exact ae.o⟩));(case measure=>(simp[intOf];omega))))
   .have e:ls.take k=ls:=List.take_of_length_le (by omega)
    rw[e] at hp
    have ag:=qG hp
    clear hp e
    go_wp2_with fail
    go_ret
    refine⟨ag.o.bel,?_⟩
    rw[HN.o]
    exact⟨f,rfl,ag.o⟩
end
section
theorem zmW(c:UInt8):∀ l:List UInt8,0<=Lib.index l [c]↔c∈l
|[]=>by simp[Lib.index]
|b :: l=>by
  unfold Lib.index
  have ih:=zmW c l
  have hg:=Lib.index_ge l [c]
  by_cases e:c=b
  .subst e;simp[List.isPrefixOf]
  .have hp:[c].isPrefixOf (b :: l)=false:=by simp[List.isPrefixOf,e]
   rw[hp]
   simp only[Bool.false_eq_true,if_false,List.mem_cons,e,false_or]
   split
   .rename_i h
    have h:Lib.index l [c]=-1:=by simpa using h
    rw[<- ih];omega
   .rename_i h
    have h:¬ Lib.index l [c]=-1:=by simpa using h
    rw[<- ih];omega
theorem zsJ(c:UInt8)(l:List UInt8):Lib.contains l [c]=decide (c∈l):=by
 unfold Lib.contains
 exact decide_eq_decide.2 (zmW c l)
theorem zsY(e:Int):rep [wd wErr,.n e]=wErr++32 :: Lib.itoa e:=rfl
theorem zs7(d:Ru.Die)(s:St)(ls:List Tx)(k:Nat):Lib.hasPrefix (playS d s ls) (playS d s (ls.take k))=true:=by
 unfold Lib.hasPrefix
 rw[List.isPrefixOf_iff_prefix]
 have h:=zrV d (ls.take k) (ls.drop k) s
 rw[List.take_append_drop] at h
 exact⟨_,h.symm⟩
theorem zsZ(d:Ru.Die)(s:St){ls:List Tx}{k:Nat}(h:k<ls.length):playS d s (ls.take (k+1))=playS d s (ls.take k)++sayS d (zrJ d s (ls.take k)) ls[k]:=by
 rw[List.take_succ_eq_append_getElem h,zrV]
 show _++playS d _ [ls[k]]=_
 rw[zrT]
 show _++(_++[])=_
 rw[List.append_nil]
theorem zs4{d:Ru.Die}{s:St}{N:Nat}(hd:Ru.dieS d=true)(h:SOk d s N):zsC s.b:=by
 obtain⟨h1,-,-⟩:=Le.zdf.1 h.b.ft
 unfold Le.zaN Le.inS at h1
 simp only[Bool.and_eq_true,qC] at h1
 have hb:=((Ru.zhA d).1 hd).nb
 refine⟨by have:=h.b.nc;omega,fun c hc=>?_,by have:=h.b.nr;omega,by have:=h.b.nm;omega,by omega,by omega,by omega⟩
 have ok:=(Cu.zck _).1 (Cu.zeA (h.b.ck c hc)).1
 have h2:(c.p.length:Int)=c.w*c.h:=ok.len
 have h3:1<=c.w/\c.w<=12:=ok.w
 have h4:1<=c.h/\c.h<=12:=ok.h
 have h5:c.w*c.h<=12*12:=Int.mul_le_mul h3.2 h4.2 (by omega) (by omega)
 omega
end
section
open Go.RowKit
open Le
theorem zlv(w:World):Calls Tryz.prog 48 #[] w (RetQ (.tuple #[tx smpS,tx smpR]) w):=by
 go_enter Tryz.func48,Tryz.ntmps48
 go_wp2
 go_ret2
 exact⟨by kernel_rfl,rfl⟩
theorem zn9{w:World}{b:Nat}{a0 a1 a2 a3:Value}(h:Bx w b [a0,a1,a2,a3]):(loadVar 24 ⟨b,0,none⟩).run Tryz.prog w=.ok (.agg #[a0,a1,a2,a3]) w:=by
 have c0:=h.c 0 _ rfl
 have c1:=h.c 1 _ rfl
 have c2:=h.c 2 _ rfl
 have c3:=h.c 3 _ rfl
 clear h
 go_simp
def zrb(w:World)(e:Ending)(w':World):Prop:=∃ A c,e=.returned (.agg #[.slice A (smpD A c).blades.length c,.int .i64 (smpD A c).bound,.int .i64 (smpD A c).stop,.int .i64 (smpD A c).bend])/\Ru.DieAt w' w'.heap.size (smpD A c)/\Below w.heap.size w w'
theorem zoR(w:World):Calls Tryz.prog 49 #[] w (zrb w):=by
 have n1:=nxA w (.cells #[.slice none 0 0,.int .i64 0,.int .i64 0,.int .i64 0] 24)
 have y1:=Bx.new w #[.slice none 0 0,.int .i64 0,.int .i64 0,.int .i64 0] 24
 go_enter Tryz.func49,Tryz.ntmps49
 go_upto_region 1 with fail
 generalize w.alloc (.cells #[.slice none 0 0,.int .i64 0,.int .i64 0,.int .i64 0] 24)=V at *
 obtain⟨b,hb⟩:∃ b,b=w.heap.size:=⟨_,rfl⟩
 rw[<- hb] at y1 ⊢
 have aa:=qG (show w.heap.size<=b by omega)
 have HB:=qG n1
 clear hb n1
 have n2:=nxA V (.cells #[.int .i64 0,.int .i64 5,.int .i64 2,.int .i64 3,.int .i64 2,.int .i64 4,.int .i64 0,.int .i64 1] 114)
 have y2:=qG (Bx.new V #[.int .i64 0,.int .i64 5,.int .i64 2,.int .i64 3,.int .i64 2,.int .i64 4,.int .i64 0,.int .i64 1] 114)
 have HX:=qG (y1.next n2)
 have ab:=qG (HB.o.trans (n2.mono HB.o.size))
 have HG:=qG (show b<V.heap.size from y1.lt)
 have c0:=HX.o.c 0 _ rfl
 have c1:=HX.o.c 1 _ rfl
 have c2:=HX.o.c 2 _ rfl
 have c3:=HX.o.c 3 _ rfl
 have f0:=HX.o.fr 0
 have f1:=HX.o.fr 1
 have f2:=HX.o.fr 2
 have f3:=HX.o.fr 3
 have lb:=HX.o.lt
 clear y1 n2
 go_wp2_with fail
 refine bodyPost_ret (zaH rfl rfl (zn9 (HX.o.setAll [.slice (some ⟨V.heap.size,0,none⟩) 2 2,.int .i64 40,.int .i64 10,.int .i64 3] rfl))) rfl ?_
 refine⟨some ⟨V.heap.size,0,none⟩,2,rfl,⟨fun k x hx=>?_,(by show(2:Nat)<=9223372036854775807;decide)⟩,zac aa.o [.slice (some ⟨V.heap.size,0,none⟩) 2 2,.int .i64 40,.int .i64 10,.int .i64 3] 0 ab.o⟩
 have y3:=y2.o.setOther (g:=b) (by have:=HG.o;omega) [.slice (some ⟨V.heap.size,0,none⟩) 2 2,.int .i64 40,.int .i64 10,.int .i64 3] 0
 refine⟨V.heap.size,0,rfl,y3.lt,fun j u hu=>?_⟩
 rw[Nat.zero_add]
 exact y3.c _ _ (zaO (cells:=Ru.Blade.cells) (size:=4) (fun _=>rfl) (smpD none 0).blades k x j u hx hu)
theorem zns(w:World)(hE:Env w):Calls Tryz.prog 14 #[] w (Ret (.bool true) w):=by
 have HE:=qG hE
 have ae:(smpR==smpR)=true:=beq_self_eq_true _
 clear hE
 go_enter Tryz.func14,Tryz.ntmps14
 go_wp2_with fail
 refine(zlv w).mono ?_
 rintro e w' ⟨rfl,rfl⟩
 go_wp2_with fail
 refine(zoR w).mono ?_
 rintro e V ⟨A,c,rfl,hd,hb⟩
 have HD:=qG hd
 have HB:=qG hb
 have aa:=qG (HE.o.next hb)
 have ab:=qG (zpE A c)
 clear hd hb
 go_wp2_with fail
 refine(zpS (smpD A c) 4 3 smpS V aa.o HD.o (of_decide_eq_true (by kernel_rfl))).mono ?_
 rintro e V2 ⟨rfl,hb⟩
 rw[ab.o]
 have ac:=qG (HB.o.trans (hb.mono HB.o.size))
 clear hb
 generalize smpR=r at *
 go_wp2_with fail
 go_ret
 exact⟨by simp,ac.o⟩
theorem zsU{d:Ru.Die}{ls:List Tx}(h:zrL d ls=false):(∀ t∈ls,t.length<=500)/\ls.length<=40/\d.blades.length<=10:=by
 unfold zrL at h
 simp only[Bool.or_eq_false_iff,decide_eq_false_iff_not,Nat.not_lt,List.any_eq_false,qC] at h
 exact⟨h.1,h.2.1,h.2.2⟩
theorem ztf{n:Nat}(h:0<n)(x:Nat):∃ k:Nat,k<n/\Int.tmod (x:Int) (n:Int)=(k:Int)/\(x:Int) % (n:Int)=(k:Int):=
 ⟨x % n,Nat.mod_lt _ h,by rw[Int.tmod_eq_emod_of_nonneg (by omega)];rfl,rfl⟩
theorem zrK{ls:List Tx}(h1:∀ t∈ls,t.length<=500)(h2:ls.length<=40)(n:Nat):(zrI (ls.take n)).length<=20040:=by
 have h3:=zrN (ls:=ls.take n) fun t ht=>h1 t (List.mem_of_mem_take ht)
 have h4:(ls.take n).length*501<=40*501:=Nat.mul_le_mul_right 501 (by rw[List.length_take];omega)
 omega
def NlR(ls:List Tx)(w0:World)(i:Value)(w:World):Prop:=∃ k:Nat,k<=ls.length/\i=.int .i64 k/\w=w0/\(ls.take k).all (fun t=>!decide ((10:UInt8)∈t))=true
theorem zsK(t:Tx)(w:World)(hE:Env w)(hl:t.length<=1000):Calls Tryz.prog 31 #[tx t,.string ⟨#[10]⟩] w (RetQ (.bool (decide ((10:UInt8)∈t))) w):=by
 obtain⟨m,hm⟩:=hE.mx
 refine(Tryz.strings_Contains ⟨t.toArray⟩ ⟨#[10]⟩ m w (by show t.toArray.size<_;simp;omega) hm).mono ?_
 rintro e w' ⟨rfl,rfl⟩
 refine⟨?_,rfl⟩
 have h:=zsJ 10 t
 rw[h]
theorem zsT(s p:Tx)(w:World):Calls Tryz.prog 33 #[tx s,tx p] w (RetQ (.bool (Lib.hasPrefix s p)) w):=by
 refine(Tryz.strings_HasPrefix ⟨s.toArray⟩ ⟨p.toArray⟩ w).mono ?_
 rintro e w' ⟨rfl,rfl⟩
 exact⟨rfl,rfl⟩
theorem ztb(t:Tx):((⟨t.toArray⟩:ByteArray)==⟨t.toArray⟩)=true:=by
 show(t.toArray==t.toArray)=true
 exact beq_self_eq_true _
theorem zts(t:Tx):((⟨t.toArray⟩:ByteArray) !=⟨t.toArray⟩)=false:=by
 show(!((⟨t.toArray⟩:ByteArray)==⟨t.toArray⟩))=false
 rw[ztb];rfl
def AgR(ls:List Tx)(w0:World)(d:Ru.Die)(f:Nat)(s:St)(v i:Value)(W:World):Prop:=∃ k:Nat,k<=ls.length/\i=.int .i64 k/\v=tx (playS d s (ls.take k))/\InPlay w0 d f (zrJ d s (ls.take k)) W
theorem ztp(e:Int):(⟨#[101,114,114,111,114,32]⟩:ByteArray)++(⟨(Lib.itoa e).toArray⟩:ByteArray)=⟨(rep [wd wErr,.n e]).toArray⟩:=by
 rw[zsY]
 exact zrM [101,114,114,111,114,32] (Lib.itoa e)
attribute [local irreducible] lineS
theorem zsW(d:Ru.Die)(pieces persons:Int)(A:Option Addr)(c:Nat)(ls:List Tx)(a:Nat)(w:World)(hE:Env w)(hd:Ru.DieAt w w.heap.size d)(aS:d.blades.length<=9223372036854775807)(h:At w w.heap.size 1 zfl A ls)(hl:ls.length<=9223372036854775807)(aE:ls.length<=c)(ht:∀ t∈ls,t.length<=9223372036854775807)(ha:a<=255) :
  Calls Tryz.prog 10 #[.agg #[.slice d.A d.blades.length d.c,.int .i64 d.bound,.int .i64 d.stop,.int .i64 d.bend],.int .i64 pieces,.int .i64 persons,.slice A ls.length c,.int .u8 a] w (Ret (.bool true) w):=by
 have n1:=nxA w (.cells #[.slice d.A d.blades.length d.c,.int .i64 d.bound,.int .i64 d.stop,.int .i64 d.bend] 24)
 have HX:=qG (Bx.new w #[.slice d.A d.blades.length d.c,.int .i64 d.bound,.int .i64 d.stop,.int .i64 d.bend] 24)
 have HB:=qG n1
 have HD:=qG (hd.next n1)
 have HA:=qG (h.next n1)
 have HE:=qG (hE.next n1)
 have aH:=qG aE
 clear hE hd h n1 aE
 go_enter Tryz.func10,Tryz.ntmps10
 go_upto_region 1 with fail
 generalize w.alloc (.cells #[.slice d.A d.blades.length d.c,.int .i64 d.bound,.int .i64 d.stop,.int .i64 d.bend] 24)=V0 at *
 have c0:=HX.o.c 0 _ rfl
 have c1:=HX.o.c 1 _ rfl
 have c2:=HX.o.c 2 _ rfl
 have c3:=HX.o.c 3 _ rfl
 go_wp2_with fail
 refine(zs9 d A c ls V0 HA.o hl ht aS).mono ?_
 rintro e V1 ⟨rfl,hb⟩
 replace HX:=qG (HX.o.next hb)
 replace HB:=qG (HB.o.trans (hb.mono HB.o.size))
 replace HD:=qG (HD.o.next hb)
 replace HA:=qG (HA.o.next hb)
 replace HE:=qG (HE.o.next hb)
 clear hb c0 c1 c2 c3
 cases hlong:zrL d ls with
|true=>
  go_wp2_with fail
  refine(zns V1 HE.o).mono ?_
  rintro e V2 ⟨rfl,hb⟩
  go_wp2_with fail
  go_ret
  exact⟨rfl,HB.o.trans (hb.mono HB.o.size)⟩
|false=>
  have aa:=qG (zsU hlong)
  clear hl ht aS hlong
  go_wp2_with fail
  go_loopw [34] (fun i wr=>NlR ls V1 i wr) (fun i _=>ls.length-(intOf i).toNat)
  case atStart=>exact⟨0,by omega,rfl,rfl,rfl⟩
  case round=>
   obtain⟨k,hk,rfl,rfl,aA⟩:=hrel
   by_cases hlt:k<ls.length
   .obtain⟨b,off,rfl,bh,aD⟩:=HA.o k ls[k] (qN hlt)
    have h0:=aD 0 _ rfl
    simp only[Nat.add_zero,Nat.mul_one] at h0
    have hx:ls[k].length<=500:=aa.o.1 _ (List.getElem_mem hlt)
    have Ha:=qG (zbO (p:=fun t=>!decide ((10:UInt8)∈t)) hlt aA)
    have ba:=aa.o.2.1
    generalize ls[k]=x at *
    clear aD aA
    go_wp2_with fail
    refine(zsK x wr HE.o (by omega)).mono ?_
    rintro e w' ⟨rfl,rfl⟩
    by_cases hn:(10:UInt8)∈x
    .rw[decide_eq_true hn]
     clear hn Ha
     go_wp2_with fail
     refine(zns wr HE.o).mono ?_
     rintro e V2 ⟨rfl,hb⟩
     go_wp2_with fail
     go_ret
     exact⟨rfl,HB.o.trans (hb.mono HB.o.size)⟩
    .rw[decide_eq_false hn] at Ha ⊢
     clear hn
     go_wp2_with fail
     all_goals (first|(refine⟨?_,?_⟩;(unfold NlR;exact⟨k+1,by omega,by go_num,rfl,Ha.o rfl⟩);(simp[intOf];omega))|(go_roundw;(case rel=>(unfold NlR;exact⟨k+1,by omega,by go_num,rfl,Ha.o rfl⟩));(case measure=>(simp[intOf];omega)))|(go_round;(case rel=>(unfold NlR;exact⟨k+1,by omega,by go_num,rfl,Ha.o rfl⟩));(case measure=>(simp[intOf];omega))))
   .have aI:=qG (show ∀ t∈ls,(10:UInt8)∉t from fun t ht hc=>by
     have:=List.all_eq_true.1 (zbP hlt aA) t ht
     rw[decide_eq_true hc] at this
     exact absurd this (by decide))
    clear aA
    have c0:=HX.o.c 0 _ rfl
    have c1:=HX.o.c 1 _ rfl
    have c2:=HX.o.c 2 _ rfl
    have c3:=HX.o.c 3 _ rfl
    go_wp2_with fail
    refine(zsH d pieces persons wr HE.o HD.o).mono ?_
    rintro e V2 ⟨hb,hn⟩
    obtain⟨p,ec,rfl,aF⟩:∃(p:Option Addr) (ec:Int),e=.returned (.tuple #[.pointer p,.int .i64 ec])/\((newS d pieces persons=none/\p=none/\ec=1)\/∃ s f,newS d pieces persons=some s/\p=some ⟨f,0,none⟩/\ec=0/\InPlay wr d f s V2):=by
     cases hN:newS d pieces persons with
    |none=>rw[hN] at hn;exact⟨none,1,hn,.inl ⟨rfl,rfl,rfl⟩⟩
    |some s=>rw[hN] at hn;obtain⟨f,h1,h2⟩:=hn;exact⟨_,0,h1,.inr ⟨s,f,rfl,rfl,rfl,h2⟩⟩
    have HW:=qG hb
    have bi:=qG HX.o
    have bj:=qG HD.o
    have aT:=qG HA.o
    have aU:=qG HB.o
    have bC:=qG HE.o
    have aq:=qG aF
    replace HX:=qG (HX.o.next hb)
    replace HB:=qG (HB.o.trans (hb.mono HB.o.size))
    replace HD:=qG (HD.o.next hb)
    replace HA:=qG (HA.o.next hb)
    replace HE:=qG (HE.o.next hb)
    have aG:=qG (show(zrI ls).length<=20040 from by have:=zrK aa.o.1 aa.o.2.1 ls.length;rw[List.take_length] at this;exact this)
    have aB:=qG (show ∀ n,runS d pieces persons (zrI (ls.take n))=((runS d pieces persons (zrI (ls.take n))).1,ec) from fun n=>by
     have e:=zrP d pieces persons (ls:=ls.take n) (fun t ht=>aI.o t (List.mem_of_mem_take ht)) (Nat.le_trans (zrK aa.o.1 aa.o.2.1 n) (by omega))
     rcases aq.o with ⟨h1,-,h3⟩|⟨s,f,h1,-,h3,-⟩ <;> rw[h1] at e <;> rw[e,h3])
    have aJ:=qG (show runS d pieces persons (zrI ls)=((runS d pieces persons (zrI ls)).1,ec) from by
     have:=aB.o ls.length
     rw[List.take_length] at this
     exact this)
    clear hb hn aF c0 c1 c2 c3
    have HC:=qG (show V2.cell? ⟨w.heap.size,0,none⟩=some (.slice d.A d.blades.length d.c)/\V2.cell? ⟨w.heap.size,1,none⟩=some (.int .i64 d.bound)/\V2.cell? ⟨w.heap.size,2,none⟩=some (.int .i64 d.stop)/\V2.cell? ⟨w.heap.size,3,none⟩=some (.int .i64 d.bend) from⟨HX.o.c 0 _ rfl,HX.o.c 1 _ rfl,HX.o.c 2 _ rfl,HX.o.c 3 _ rfl⟩)
    go_upto_region 10 with fail
    refine wp_region_noPanic ?_
    refine wp_region_held_drew (S:=(fun W=>W.cell? ⟨w.heap.size,0,none⟩=some (.slice d.A d.blades.length d.c)/\W.cell? ⟨w.heap.size,1,none⟩=some (.int .i64 d.bound)/\W.cell? ⟨w.heap.size,2,none⟩=some (.int .i64 d.stop)/\W.cell? ⟨w.heap.size,3,none⟩=some (.int .i64 d.bend))) (by kernel_rfl) ?_ (fun ab=>?_)
    ·(try dsimp only);first|assumption|exact HC.o
    refine ht 0 (h:=?_)
    refine ht 1 (h:=?_)
    refine ht 2 (h:=?_)
    refine ht 3 (h:=?_)
    refine r1 (i:=4) (by kernel_rfl) rfl fun K hK=>?_
    go_simp
    refine(zrO A c ls _ (HA.o.next (Below.refl _ V2).drew) (by have:=aa.o.2.1;omega) (fun t ht=>by have:=aa.o.1 t ht;omega)).mono ?_;rintro e U ⟨rfl,rfl⟩
    refine hK.out _ _ ?_ (fun ab=>?_)
    ·(try dsimp only);first|assumption|exact HC.o
    clear hK K
    try simp only[qW]
    refine r1 (i:=5) (by kernel_rfl) rfl fun K hK=>?_
    go_simp
    refine(zpS d pieces persons (zrI ls) _ (HE.o.next (Below.refl _ V2).drew) (HD.o.next (Below.refl _ V2).drew) (by have:=aG.o;omega)).mono ?_;rintro e U ⟨rfl,af⟩;rw[aJ.o];have ah:=qG (show Below V2.heap.size V2 U from(Below.refl _ V2).drew.trans af);clear af
    refine hK.out _ _ ?_ (fun ab=>?_)
    ·(try dsimp only);exact⟨(ah.o.cell (p:=⟨w.heap.size,0,none⟩) (zaa HC.o.1)).trans HC.o.1,(ah.o.cell (p:=⟨w.heap.size,1,none⟩) (zaa HC.o.2.1)).trans HC.o.2.1,(ah.o.cell (p:=⟨w.heap.size,2,none⟩) (zaa HC.o.2.2.1)).trans HC.o.2.2.1,(ah.o.cell (p:=⟨w.heap.size,3,none⟩) (zaa HC.o.2.2.2)).trans HC.o.2.2.2⟩
    clear hK K
    try simp only[qW]
    refine ht 6 (h:=?_)
    refine ht 7 (h:=?_)
    refine ht 8 (h:=?_)
    refine ht 9 (h:=?_)
    refine ht 10 (h:=?_)
    refine wpAnyH_done (by kernel_rfl) ?_ _
    refine NoPanic.normal ?_
    iterate 12 (try clear ab)
    replace HX:=qG (HX.o.next ah.o)
    replace HB:=qG (HB.o.trans (ah.o.mono HB.o.size))
    replace HD:=qG (HD.o.next ah.o)
    replace HA:=qG (HA.o.next ah.o)
    replace HE:=qG (HE.o.next ah.o)
    obtain⟨q,hq,m1,m2⟩:=ztf (n:=ls.length+1) (by omega) a
    rw[Int.natCast_add,Int.natCast_one] at m1 m2
    have HQ:=qG (show q<=ls.length by omega)
    have ba:=aa.o.2.1
    have bk:((ls.length:Int)+1==0)=false:=by rw[beq_eq_false_iff_ne];omega
    go_upto_region 12 with fail
    have ac:=qG (show U.cell? ⟨w.heap.size,0,none⟩=some (.slice d.A d.blades.length d.c)/\U.cell? ⟨w.heap.size,1,none⟩=some (.int .i64 d.bound)/\U.cell? ⟨w.heap.size,2,none⟩=some (.int .i64 d.stop)/\U.cell? ⟨w.heap.size,3,none⟩=some (.int .i64 d.bend) from⟨HX.o.c 0 _ rfl,HX.o.c 1 _ rfl,HX.o.c 2 _ rfl,HX.o.c 3 _ rfl⟩)
    have aK:=qG (show(ls.take q).length=q from by rw[List.length_take];have:=HQ.o;omega)
    have aV:=qG (show At U U.heap.size 1 zfl A (ls.take q) from HA.o.pre' (List.take_append_drop q ls).symm)
    have bp:q<=c:=Nat.le_trans HQ.o aH.o
    have bq:=HQ.o
    have aE:=aH.o
    clear m1 m2 bk HC
    refine wp_region_noPanic ?_
    refine wp_region_held_drew (S:=(fun W=>W.cell? ⟨w.heap.size,0,none⟩=some (.slice d.A d.blades.length d.c)/\W.cell? ⟨w.heap.size,1,none⟩=some (.int .i64 d.bound)/\W.cell? ⟨w.heap.size,2,none⟩=some (.int .i64 d.stop)/\W.cell? ⟨w.heap.size,3,none⟩=some (.int .i64 d.bend))) (by kernel_rfl) ?_ (fun ab=>?_)
    ·(try dsimp only);first|assumption|exact ac.o
    refine ht 0 (h:=?_)
    refine ht 1 (h:=?_)
    refine ht 2 (h:=?_)
    refine ht 3 (h:=?_)
    refine ht 4 (h:=?_)
    refine ht 5 (h:=?_)
    refine r1 (i:=6) (by kernel_rfl) rfl fun K hK=>?_
    go_simp
    have aL:=zrO A c (ls.take q) _ (aV.o.next (Below.refl _ U).drew) (by rw[aK.o];have:=aa.o.2.1;omega) (fun t ht=>by have:=aa.o.1 t (List.mem_of_mem_take ht);omega);rw[aK.o] at aL;refine aL.mono ?_;clear aL;rintro e X ⟨rfl,rfl⟩
    refine hK.out _ _ ?_ (fun ab=>?_)
    ·(try dsimp only);first|assumption|exact ac.o
    clear hK K
    try simp only[qW]
    refine r1 (i:=7) (by kernel_rfl) rfl fun K hK=>?_
    go_simp
    refine(zpS d pieces persons (zrI (ls.take q)) _ (HE.o.next (Below.refl _ U).drew) (HD.o.next (Below.refl _ U).drew) (by have:=zrK aa.o.1 aa.o.2.1 q;omega)).mono ?_;rintro e X ⟨rfl,af⟩;rw[aB.o q];have am:=qG (show Below U.heap.size U X from(Below.refl _ U).drew.trans af);clear af
    refine hK.out _ _ ?_ (fun ab=>?_)
    ·(try dsimp only);exact⟨(am.o.cell (p:=⟨w.heap.size,0,none⟩) (zaa ac.o.1)).trans ac.o.1,(am.o.cell (p:=⟨w.heap.size,1,none⟩) (zaa ac.o.2.1)).trans ac.o.2.1,(am.o.cell (p:=⟨w.heap.size,2,none⟩) (zaa ac.o.2.2.1)).trans ac.o.2.2.1,(am.o.cell (p:=⟨w.heap.size,3,none⟩) (zaa ac.o.2.2.2)).trans ac.o.2.2.2⟩
    clear hK K
    try simp only[qW]
    refine ht 8 (h:=?_)
    refine ht 9 (h:=?_)
    refine ht 10 (h:=?_)
    refine ht 11 (h:=?_)
    refine ht 12 (h:=?_)
    refine wpAnyH_done (by kernel_rfl) ?_ _
    refine NoPanic.normal ?_
    iterate 14 (try clear ab)
    replace HX:=qG (HX.o.next am.o)
    replace HB:=qG (HB.o.trans (am.o.mono HB.o.size))
    replace HE:=qG (HE.o.next am.o)
    clear bp bq aE ac aK aV aH
    rcases aq.o with ⟨hN,rfl,rfl⟩|⟨s,f,hN,rfl,rfl,hp⟩
    .have ar:∀ n,(runS d pieces persons (zrI (ls.take n))).1=[]:=fun n=>by
      have e:=zrP d pieces persons (ls:=ls.take n) (fun t ht=>aI.o t (List.mem_of_mem_take ht)) (Nat.le_trans (zrK aa.o.1 aa.o.2.1 n) (by omega))
      rw[hN] at e;rw[e]
     have e1:=ar q
     have e2:=ar ls.length
     rw[List.take_length] at e2
     rw[e1,e2]
     clear ar e1 e2 aq aB aJ hN
     go_wp2_with fail
     refine(zns X HE.o).mono ?_
     rintro e V9 ⟨rfl,hb⟩
     replace HB:=qG (HB.o.trans (hb.mono HB.o.size))
     clear hb
     go_wp2_with fail
     go_ret
     exact⟨rfl,HB.o⟩
    .have ar:∀ n,(runS d pieces persons (zrI (ls.take n))).1=playS d s (ls.take n):=fun n=>by
      have e:=zrP d pieces persons (ls:=ls.take n) (fun t ht=>aI.o t (List.mem_of_mem_take ht)) (Nat.le_trans (zrK aa.o.1 aa.o.2.1 n) (by omega))
      rw[hN] at e;rw[e]
     have e1:=ar q
     have e2:=ar ls.length
     rw[List.take_length] at e2
     rw[e1,e2]
     have HN:=qG hN
     have ag:=qG (zp2 hN)
     have HP:=qG ((hp.next ah.o).next am.o)
     clear ar e1 e2 aq aB aJ hN hp
     go_wp2_with fail
     go_loopw [20,100] (fun v i W=>AgR ls wr d f s v i W) (fun _ i _=>ls.length-(intOf i).toNat)
     case atStart=>exact⟨0,by omega,rfl,rfl,HP.o⟩
     case round=>
      obtain⟨n,hn,rfl,rfl,hp⟩:=hrel
      by_cases aC:n<ls.length
      .obtain⟨b,off,rfl,bh,aD⟩:=(aT.o.next hp.bel) n ls[n] (qN aC)
       have h0:=aD 0 _ rfl
       simp only[Nat.add_zero,Nat.mul_one] at h0
       have au:=qG (zsk d s aC)
       have aw:=qG (zsZ d s aC)
       have aW:=qG (zsS d s ag.o.1 ag.o.2 ls n)
       have bu:=qG (zjh ag.o.1 (ls.take n) ag.o.2 (by rw[List.length_take];omega))
       have ae:=qG hp
       have hx:ls[n].length<=500:=aa.o.1 _ (List.getElem_mem aC)
       have aM:=qG (show(ls.take n).length<=40 by rw[List.length_take];omega)
       generalize ls[n]=x at *
       clear aD hp
       by_cases bv:n=q
       case' pos=>
        subst bv
        have ax:((n:Int)==(n:Int))=true:=beq_self_eq_true _
        have ay:=zts (playS d s (ls.take n))
       case' neg=>
        have ax:((n:Int)==(q:Int))=false:=by rw[beq_eq_false_iff_ne];omega
       all_goals
        go_wp2_with fail
        refine(ae.o.line ag.o.1 aW.o (by have:=aM.o;omega) x).mono ?_
        (try clear ax);(try clear ay)
        obtain⟨s',rp,er,hL⟩:∃ s' rp er,lineS d (zrJ d s (ls.take n)) x=(s',rp,er):=⟨_,_,_,rfl⟩
        have aN:=qG (show 0<=er/\er<=13 by have:=zia d (zrJ d s (ls.take n)) x;rw[hL] at this;exact this)
        have aX:=qG (show rp.length<=126 by have:=zkx ag.o.1 aW.o (by have:=aM.o;omega) x;rw[hL] at this;exact this)
        have an:=qG (show sayS d (zrJ d s (ls.take n)) x=(if er=0 then rp else rep [wd wErr,.n er])++[10] by unfold sayS;rw[hL])
        rw[hL] at au
        have bw:=qG hL
        clear hL
        unfold ztc
        rw[bw.o]
        rintro e W2 ⟨rfl,aY⟩
        have ak:=qG aY
        clear aY h0
        have hpl:(playS d s (ls.take n)).length<=127*40:=Nat.le_trans bu.o (Nat.mul_le_mul_left 127 aM.o)
        by_cases he:er=0
        .subst he
         have aO:=qG (zrM rp [10])
         have ac:=qG (zrM (playS d s (ls.take n)) (rp++[10]))
         have g1:¬ 9223372036854775807<rp.length+1:=by have:=aX.o;omega
         have g2:¬ 9223372036854775807<(playS d s (ls.take n)).length+(rp.length+1):=by have:=aX.o;omega
         rw[if_pos rfl] at an
         have e1:=aO.o
         have e2:=ac.o
         go_wp2_with fail
         all_goals (first|(refine⟨?_,?_⟩;(unfold AgR;exact⟨n+1,by omega,by go_num,by rw[aw.o,an.o],by rw[au.o];exact ak.o⟩);(simp[intOf];omega))|(go_roundw;(case rel=>(unfold AgR;exact⟨n+1,by omega,by go_num,by rw[aw.o,an.o],by rw[au.o];exact ak.o⟩));(case measure=>(simp[intOf];omega)))|(go_round;(case rel=>(unfold AgR;exact⟨n+1,by omega,by go_num,by rw[aw.o,an.o],by rw[au.o];exact ak.o⟩));(case measure=>(simp[intOf];omega))))
        .have hz:(er !=0)=true:=by rw[bne_iff_ne];exact he
         rw[if_neg he] at an
         clear he
         go_wp2_with fail
         refine(zon er W2 ak.o.env (by have:=aN.o;omega) (by have:=aN.o;omega)).mono ?_
         rintro e W3 ⟨rfl,az⟩
         replace ak:=qG (ak.o.next az)
         clear az
         have aP:=qG (show(rep [wd wErr,.n er]).length<=126/\(Lib.itoa er).length<=126 by
          have h9:(rep [wd wErr,.n er]).length<=126:=by
           have:=aN.o
           refine Short.len ⟨_,rfl,by simp,?_⟩
           simp only[List.forall_mem_cons]
           exact⟨(by show _<=20;decide),⟨by omega,by omega⟩,(fun x hx=>by cases hx)⟩
          refine⟨h9,?_⟩
          rw[zsY,qD,List.length_cons] at h9
          omega)
         have e0:=ztp er
         have aO:=qG (zrM (rep [wd wErr,.n er]) [10])
         have ac:=qG (zrM (playS d s (ls.take n)) (rep [wd wErr,.n er]++[10]))
         generalize rep [wd wErr,.n er]=RE at *
         have g0:¬ 9223372036854775807<6+(Lib.itoa er).length:=by have:=aP.o.2;omega
         have g1:¬ 9223372036854775807<RE.length+1:=by have:=aP.o.1;omega
         have g2:¬ 9223372036854775807<(playS d s (ls.take n)).length+(RE.length+1):=by have:=aP.o.1;omega
         have e1:=aO.o
         have e2:=ac.o
         generalize Lib.itoa er=IT at *
         go_wp2_with fail
         all_goals (first|(refine⟨?_,?_⟩;(unfold AgR;exact⟨n+1,by omega,by go_num,by rw[aw.o,an.o],by rw[au.o];exact ak.o⟩);(simp[intOf];omega))|(go_roundw;(case rel=>(unfold AgR;exact⟨n+1,by omega,by go_num,by rw[aw.o,an.o],by rw[au.o];exact ak.o⟩));(case measure=>(simp[intOf];omega)))|(go_round;(case rel=>(unfold AgR;exact⟨n+1,by omega,by go_num,by rw[aw.o,an.o],by rw[au.o];exact ak.o⟩));(case measure=>(simp[intOf];omega))))
      .have e:ls.take n=ls:=List.take_of_length_le (by omega)
       rw[e] at hp ⊢
       have ae:=qG hp
       clear hp e
       replace HX:=qG (bi.o.next ae.o.bel)
       replace HB:=qG (aU.o.trans (ae.o.bel.mono aU.o.size))
       replace HD:=qG (bj.o.next ae.o.bel)
       replace HA:=qG (aT.o.next ae.o.bel)
       replace HE:=qG ae.o.env
       have ai:=qG (show wr.cell? ⟨w.heap.size,0,none⟩=some (.slice d.A d.blades.length d.c)/\wr.cell? ⟨w.heap.size,1,none⟩=some (.int .i64 d.bound)/\wr.cell? ⟨w.heap.size,2,none⟩=some (.int .i64 d.stop)/\wr.cell? ⟨w.heap.size,3,none⟩=some (.int .i64 d.bend) from⟨HX.o.c 0 _ rfl,HX.o.c 1 _ rfl,HX.o.c 2 _ rfl,HX.o.c 3 _ rfl⟩)
       have bz:=zrM (zrI ls) [98,97,99,107]
       have bA:¬ 9223372036854775807<(zrI ls).length+4:=by have:=aG.o;omega
       have bf:=qG (zte d pieces persons (t:=zrI ls) (by have:=aG.o;omega))
       go_upto_region 28 with fail
       refine wp_region_noPanic ?_
       refine wp_region_held_drew (S:=(fun W=>W.cell? ⟨w.heap.size,0,none⟩=some (.slice d.A d.blades.length d.c)/\W.cell? ⟨w.heap.size,1,none⟩=some (.int .i64 d.bound)/\W.cell? ⟨w.heap.size,2,none⟩=some (.int .i64 d.stop)/\W.cell? ⟨w.heap.size,3,none⟩=some (.int .i64 d.bend))) (by kernel_rfl) ?_ (fun ab=>?_)
       ·(try dsimp only);first|assumption|exact ai.o
       refine ht 0 (h:=?_)
       refine ht 1 (h:=?_)
       refine ht 2 (h:=?_)
       refine ht 3 (h:=?_)
       refine r1 (i:=4) (by kernel_rfl) rfl fun K hK=>?_
       go_simp
       refine(zrO A c ls _ (HA.o.next (Below.refl _ wr).drew) (by have:=aa.o.2.1;omega) (fun t ht=>by have:=aa.o.1 t ht;omega)).mono ?_;rintro e Y ⟨rfl,rfl⟩
       refine hK.out _ _ ?_ (fun ab=>?_)
       ·(try dsimp only);first|assumption|exact ai.o
       clear hK K
       try simp only[qW]
       refine ht 5 (h:=?_)
       refine r1 (i:=6) (by kernel_rfl) rfl fun K hK=>?_
       go_simp
       refine(zpS d pieces persons (zrI ls++[98,97,99,107]) _ (HE.o.next (Below.refl _ wr).drew) (HD.o.next (Below.refl _ wr).drew) (by rw[qD];have:=aG.o;simp only[List.length_cons,List.length_nil];omega)).mono ?_;rintro e Y ⟨rfl,af⟩;rw[bf.o];have aj:=qG (show Below wr.heap.size wr Y from(Below.refl _ wr).drew.trans af);clear af
       refine hK.out _ _ ?_ (fun ab=>?_)
       ·(try dsimp only);exact⟨(aj.o.cell (p:=⟨w.heap.size,0,none⟩) (zaa ai.o.1)).trans ai.o.1,(aj.o.cell (p:=⟨w.heap.size,1,none⟩) (zaa ai.o.2.1)).trans ai.o.2.1,(aj.o.cell (p:=⟨w.heap.size,2,none⟩) (zaa ai.o.2.2.1)).trans ai.o.2.2.1,(aj.o.cell (p:=⟨w.heap.size,3,none⟩) (zaa ai.o.2.2.2)).trans ai.o.2.2.2⟩
       clear hK K
       try simp only[qW]
       refine ht 7 (h:=?_)
       refine ht 8 (h:=?_)
       refine ht 9 (h:=?_)
       refine ht 10 (h:=?_)
       refine ht 11 (h:=?_)
       refine wpAnyH_done (by kernel_rfl) ?_ _
       refine NoPanic.normal ?_
       iterate 13 (try clear ab)
       clear bz bA
       replace HX:=qG (HX.o.next aj.o)
       replace HB:=qG (HB.o.trans (aj.o.mono HB.o.size))
       replace HD:=qG (HD.o.next aj.o)
       replace HA:=qG (HA.o.next aj.o)
       replace HE:=qG (HE.o.next aj.o)
       replace ae:=qG (ae.o.next aj.o)
       have c0:=HX.o.c 0 _ rfl
       have c1:=HX.o.c 1 _ rfl
       have c2:=HX.o.c 2 _ rfl
       have c3:=HX.o.c 3 _ rfl
       go_wp2_with fail
       refine(zs8 d pieces persons A c ls Y HE.o HD.o HA.o (by have:=aa.o.2.1;omega)).mono ?_
       rintro e Z ⟨hb,hm⟩
       rw[HN.o] at hm
       obtain⟨g,rfl,aZ⟩:=hm
       replace HB:=qG (HB.o.trans (hb.mono HB.o.size))
       replace ae:=qG (ae.o.next hb)
       have ao:=qG aZ
       clear c0 c1 c2 c3 hb aZ
       have aQ:=qG (by have:=zrZ ag.o.1 ls ag.o.2;rw[Nat.zero_add] at this;exact this:SOk d (zrJ d s ls) ls.length)
       have h4:=ztb (playS d s ls)
       go_wp2_with fail
       refine(zsT (playS d s ls) (playS d s (ls.take q)) Z).mono ?_
       rintro e Z' ⟨rfl,rfl⟩
       rw[zs7]
       go_wp2_with fail
       refine(ae.o.books ag.o.1 aQ.o (by have:=aa.o.2.1;omega)).mono ?_
       rintro e Z1 ⟨m1,rfl,a7,ax⟩
       replace HB:=qG (HB.o.trans (ax.mono HB.o.size))
       replace ao:=qG (ao.o.next ax)
       have aR:=qG a7
       clear a7 ax
       go_wp2_with fail
       refine(ao.o.books ag.o.1 aQ.o (by have:=aa.o.2.1;omega)).mono ?_
       rintro e Z2 ⟨m2,rfl,a8,ay⟩
       replace HB:=qG (HB.o.trans (ay.mono HB.o.size))
       replace ao:=qG (ao.o.next ay)
       replace aR:=qG (aR.o.next ay)
       have bB:=qG a8
       clear a8 ay
       go_wp2_with fail
       refine(zs2 _ _ m1 m2 (zrJ d s ls).b (zrJ d s ls).plans.length Z2 aR.o bB.o (zs4 ag.o.1 aQ.o)).mono ?_
       rintro e Z3 ⟨rfl,az⟩
       replace HB:=qG (HB.o.trans (az.mono HB.o.size))
       replace ao:=qG (ao.o.next az)
       clear az
       go_wp2_with fail
       refine(zns Z3 ao.o.env).mono ?_
       rintro e Z4 ⟨rfl,a9⟩
       replace HB:=qG (HB.o.trans (a9.mono HB.o.size))
       clear a9
       go_wp2_with fail
       go_ret
       exact⟨rfl,HB.o⟩
end
section
open Go.RowKit
open Le
theorem ztn{x:Int}(h:(Lit.int .u8 x).wf=true):∃ a:Nat,x=(a:Int)/\a<=255:=by
 simp[Lit.wf,IntKind.min,IntKind.max,IntKind.bits,IntKind.signed] at h
 exact⟨x.toNat,by omega,by omega⟩
theorem zr3(d:Ru.Die)(pieces persons:Int)(A:Option Addr)(c:Nat)(ls:List Tx)(x:Int)(w:World)(hE:Env w)(hd:Ru.DieAt w w.heap.size d)(_:(Lit.int .i64 pieces).wf=true)(_:(Lit.int .i64 persons).wf=true)(h:At w w.heap.size 1 zfl A ls)(hl:ls.length<=9223372036854775807)(ht:∀ t∈ls,t.length<=9223372036854775807)(aa:ls.length<=c)(hx:(Lit.int .u8 x).wf=true) :
  Calls Tryz.prog 10 #[.agg #[.slice d.A d.blades.length d.c,.int .i64 d.bound,.int .i64 d.stop,.int .i64 d.bend],.int .i64 pieces,.int .i64 persons,.slice A ls.length c,.int .u8 x] w (Ret (.bool true) w):=by
 obtain⟨a,rfl,ha⟩:=ztn hx
 exact zsW d pieces persons A c ls a w hE hd hd.l1 h hl aa ht ha
end
end Go.Proofs.YtankkcbofgighaaGreatDoor
