/- Parts of the proof. -/
import Derived.Test.YtgfkglhelfkpoaaGreatRSL
set_option maxRecDepth 100000
set_option maxHeartbeats 4000000
open Go.Proofs.Tryz
open Go.Value renaming int→I,slice→V
open Go.IntKind renaming i64→J
open Option renaming some→M,none→U
open Go.Ending renaming returned→If
open Go.Obj renaming cells→Is
open Go renaming World→Iv,Calls→I0,Value→I1,maxLen→I2,Addr→I3
open Go.RowKit renaming Below→Ix
open Nat renaming le_refl→Jn,add_zero→Mm,zero_mul→Mn,le_trans→Mp,zero_add→Mu
open Go.RowKit.Below renaming refl→Jx,heap_setCell→J1
open List renaming mem_cons_self→M3,mem_cons_of_mem→V2
namespace Go.Proofs.YtgfkglhelfkpoaaGreat
section
open Go.RowKit Plain
variable{w:Iv}
theorem gG{P:Program}{ops:Array Oper}{o:Oper}{a:Act}{K:Act->Iv->Prop}{Q:Exit->Act->Iv->Prop}{E:Prop}(hgd:o.guard=U)(s x:Operand)(t:TypeId)
  (ho:o.op=.call { callee:=.builtin .append,args:=#[s,x],argTypes:=#[t,t] })
  (base:Nat) (e:TypeId) (i:TypeInfo) (z:I1) (size bytes:Nat) (ht:P.underlying t=M (.slice e)) (hi:P.info? e=M i) (hz:i.zero=M z)
  (hsize:i.size=size) (hby:i.bytes=bytes) (hzs:z.cells.size=size) (hsz:0<size)
  (v:I1) (n:Nat) (xs:List I1) (hs:a.eval s=v) (hown:w.ownsRow base e size v n xs)
  (ad:I3) (m c:Nat) (news:List I1) (hx:a.eval x=V (M ad) m c) (hl:news.length=m*size) (hnews:∀ j u,news[j]? = M u->w.cell? (ad.add j)=M u) (h1:∀ u∈news,u.oneCell'=true)
  (h63:n+m<=I2) (GA:(n+m)*bytes<=140737488355328) (YV:base<=w.heap.size)
  (h:∀ v' w',w'.ownsRow base e size v' (n+m) (xs++news)->w.grownBy w' v.ownBlock->(v'.ownBlock=v.ownBlock∨v'.ownBlock=M w.heap.size)->K (a.put o.dst v') w') :
  if Region.wanted o (yielded ops a.tmps)=true then Oper.wp P o a w K Q else E:=by
 have hw:Region.wanted o (yielded ops a.tmps)=true:=by simp[Region.wanted,hgd]
 rw[if_pos hw];obtain⟨v',w',hr,h2,h3,_,h5⟩:=run_append_own_at (P:=P) w base t o.type e i z size bytes ht hi hz hsize hby hzs hsz v n xs hown ad m c news hl hnews h1 h63 GA YV;unfold Oper.wp execOp;simp only[ho,resolve,invoke,builtin,Sem.run_bind,Sem.run_pure,Result.andThen_ok,List.map_toArray,List.map_cons,List.map_nil,hs,hx,hr];exact h v' w' h2 h3 h5
theorem Es.ab5(es:Es)(k n p c:Int)(ks:Es):es.snoc k n p c ks=es.app (.cons k n p c ks .nil):=by
 rw[<-Es.mJ,Es.oQ]
variable{w':Iv}
theorem jq.move{b b':Nat}:∀ {es:Es}{lo hi o:Nat},jq w es lo hi b o->(∀ j,j<es.len*5->w'.cell? ⟨b',o+j,U⟩=w.cell? ⟨b,o+j,U⟩)->(∀ j,w'.frozen? ⟨b',j,U⟩=false)->(b'=b∨hi<=b')->(∀ q,lo<=q->q<hi->q≠b->w'.heap[q]? = w.heap[q]?)->jq w' es lo hi b' o:=by
 intro es
 induction es with
 | nil=>intro lo hi o h _ _ _ _;exact h
 | cons k n p c ks r _ qz=>
  rintro lo hi o ⟨K,cap,bk,l,h,⟨⟨h0,h1,h2,h3,h4⟩,hf⟩,hc,hm,hK,e1,e2,hk,hr⟩ hs hz Fa hb;simp only[Es.len] at hs;have hle:=hr.le;have hlk:=hk.le;refine⟨K,cap,bk,l,h,⟨⟨(hs 0 ah).trans h0,(hs 1 ah).trans h1,(hs 2 ah).trans h2,(hs 3 ah).trans h3,(hs 4 ah).trans h4⟩,λi _=>hz _⟩,hc,hm,hK,e1,ah, ?_,
   qz hr (λj hj=>by have:=hs (5+j) ah;rwa [<-Nat.add_assoc] at this) hz Fa (λq q1 q2 q3=>hb q ah q2 q3)⟩
  cases ks with
  | nil=>exact hk
  | cons _ _ _ _ _ _=>
   have h3:=hK (by simp[Es.len]);exact hk.keep (aN.of_block (hb bk ah ah ah) _ _) (λq q1 q2 _=>hb q ah ah ah)
structure iM (w:Iv) (B:Nat) (v:I1) (es:Es) (vs:List I1):Prop where
 own:w.ownsRow B 33 5 v es.len vs
 size:B<=w.heap.size
 tree:∀ b c,v=V (M ⟨b,0,U⟩) es.len c->jq w es B w.heap.size b 0
variable{v:I1}
theorem iX{base e s n:Nat}{xs:List I1}(h:w.ownsRow base e s v n xs)(hb:∀ g,v.ownBlock=M g->w'.heap[g]? = w.heap[g]?):w'.ownsRow base e s v n xs:=by
 refine⟨h.1, ?_⟩
 rcases h.2 with hn | ⟨g,cap,cur,rfl,hb',BP,rest⟩
 ·exact .inl hn
 ·exact .inr ⟨g,cap,cur,rfl,hb',by rw[hb g rfl];exact BP,rest⟩
variable{B:Nat}{es:Es}{vs:List I1}
theorem iM.keep(h:iM w B v es vs)(hs:w.heap.size<=w'.heap.size)(hb:∀ q,B<=q->q<w.heap.size->w'.heap[q]? = w.heap[q]?):iM w' B v es vs:=by
 refine⟨iX h.own λg hg=>by have:=World.ownsRow.lt h.own g hg;exact hb g this.1 this.2,Mp h.size hs,λb c hv=>?_⟩;subst hv;have hbl:=World.ownsRow.lt h.own b rfl;exact ((h.tree b c rfl).keep (aN.of_block (hb b hbl.1 hbl.2) _ _) (λq q1 q2 _=>hb q q1 q2)).wide (Jn _) hs
theorem iM.below(h:iM w B v es vs)(hb:Ix w.heap.size w w'):iM w' B v es vs:=h.keep hb.size λq _ hq=>hb.block q hq
theorem iM.only{S:Nat->Prop}(h:iM w B v es vs)(ho:aC S w w')(hS:∀ q,B<=q->¬ S q):iM w' B v es vs:=h.keep ho.size λq hq hs=>ho.block q hs (hS q hq)
theorem iM.EA(w:Iv)(B:Nat)(h:B<=w.heap.size):iM w B (V U 0 0) .nil []:=⟨⟨rfl,.inl ⟨rfl,rfl⟩⟩,h,λb c hv=>by cases hv⟩
theorem iM.start(w:Iv):iM (w.alloc (Is #[] 33)) w.heap.size (V (M ⟨w.heap.size,0,U⟩) 0 0) .nil []:=
 ⟨World.ownsRow_lit w #[] 0 (Jn _) (by unfold I2;omega) (by rfl),by simp,λb c _=>by show _<=_;simp⟩
theorem iM.form(h:iM w B v es vs):∃ A cap,v=V A es.len cap/\es.len<=cap/\cap<=I2:=by
 rcases h.own.2 with ⟨hv,h0⟩ | ⟨g,cap,cur,hv,_,_,hc,hm,_⟩
 ·exact⟨U,0,by rw[hv,h0],ah,by unfold I2;omega⟩
 ·exact⟨_,cap,hv,hc,hm⟩
variable{cp:Nat}{A:Option I3}
theorem iM.form'{len:Nat}(h:iM w B (V A len cp) es vs):len=es.len/\es.len<=cp/\cp<=I2:=by
 obtain⟨A',c,e,h1,h2⟩:=h.form;injection e with e1 e2 e3
 subst e3;exact⟨e2,h1,h2⟩
variable{cap:Nat}
theorem iM.aey(h:iM w B (V A es.len cap) es vs):b_ B w.heap.size es A w:=by
 by_cases h0:0<es.len
 ·obtain⟨g,c,hv,hg1,hg2⟩:=World.ownsRow.form h.own h0
  have hA:A=M ⟨g,0,U⟩:=by injection hv
  subst hA;exact⟨g,λ_=>⟨rfl,hg1,hg2⟩,h.tree g cap rfl⟩
 ·cases es with
  | nil=>exact⟨0,λh=>absurd h h0,h.size⟩
  | cons _ _ _ _ _ _=>simp[Es.len] at h0
variable{w1 Ll w2:Iv}{v2:I1}
theorem iM.push{Av K:Option I3}{ks:Es}{k n p c:Int}(h:iM w B (V Av es.len cp) es vs)(hb:Ix w.heap.size w w1)(ht:b_ w.heap.size w1.heap.size ks K w1)(hk:ks.len<=cap)(hm:cap<=I2)
  (hb1:Ix w1.heap.size w1 Ll) (hown:w2.ownsRow B 33 5 v2 (es.len+1) (vs++[I J k,I J n,I J p,I J c,V K ks.len cap])) (hg:Ll.grownBy w2 (V Av es.len cp).ownBlock)
  (hat:v2.ownBlock=(V Av es.len cp).ownBlock∨v2.ownBlock=M Ll.heap.size) :
  iM w2 B v2 (es.snoc k n p c ks) (vs++[I J k,I J n,I J p,I J c,V K ks.len cap])/\Ix B w w2:=by
 have s1:=hb.size;have s2:=hb1.size;have s3:=hg.size;have hB:=h.size;have hlen:vs.length=es.len*5:=h.own.1;refine⟨⟨by rw[Es.dD];exact hown,ah,λb2 c2 hv=>?_⟩,⟨hg.os.trans (hb1.os.trans hb.os),hg.tape.trans (hb1.tape.trans hb.tape),hg.output.trans (hb1.output.trans hb.output),ah,λi hi=>?_⟩⟩
 ·subst hv
  rw[Es.dD] at *;have hb2:(V (M ⟨b2,0,U⟩) (es.len+1) c2).ownBlock=M b2:=rfl;rw[hb2] at hat;have hl2:=World.ownsRow.lt hown b2 rfl;have hcell:∀ j,j<(es.len+1)*5->w2.cell? ⟨b2,j,U⟩=(vs++[I J k,I J n,I J p,I J c,V K ks.len cap])[j]?:=λj hj=>World.ownsRow.cellAt hown j hj
  have hfr:∀ j,w2.frozen? ⟨b2,j,U⟩=false:=λj=>World.ownsRow.frozenAt hown j
  have hkeep:∀ q,q<w1.heap.size->(∀ g,(V Av es.len cp).ownBlock=M g->q≠g)->w2.heap[q]? = w1.heap[q]?:=λq hq hne=>
   (hg.block q ah λe=>by
    cases hr:(V Av es.len cp).ownBlock with
    | none=>rw[hr] at e;cases e
    | some g=>rw[hr] at e;injection e with e;exact hne g hr e).trans (hb1.block q hq)
  have hrow:∀ g,(V Av es.len cp).ownBlock=M g->B<=g/\g<w.heap.size:=λg hg'=>World.ownsRow.lt h.own g hg'
  rw[Es.ab5];have hold:jq w2 es B w.heap.size b2 0:=by
   by_cases h0:0<es.len
   ·obtain⟨g,c',hv,hg1,hg2⟩:=World.ownsRow.form h.own h0
    have hA:Av=M ⟨g,0,U⟩:=by injection hv
    subst hA;have TG:(V (M ⟨g,0,U⟩) es.len cp).ownBlock=M g:=rfl;refine (h.tree g cp rfl).move (λj hj=>?_) hfr ?_ (λq q1 q2 q3=>?_)
    ·rw[Mu,hcell j ah,List.getElem?_append_left ah]
     exact (World.ownsRow.cellAt h.own j hj).symm
    ·rw[TG] at hat
     rcases hat with e | e
     ·injection e with e;exact .inl e
     ·injection e with e;exact .inr ah
    ·exact (hkeep q ah λg' hg'=>by rw[TG] at hg';injection hg' with hg';omega).trans (hb.block q q2)
   ·cases es with
    | nil=>exact hB
    | cons _ _ _ _ _ _=>simp[Es.len] at h0
  refine hold.app ?_;obtain⟨bk,hbk,hek⟩:=ht;rw[Mu];have hnew:∀ j,j<5->w2.cell? ⟨b2,es.len*5+j,U⟩=[I J k,I J n,I J p,I J c,V K ks.len cap][j]?:=λj hj=>by
   rw[hcell _ ah,List.getElem?_append_right ah,hlen,Nat.add_sub_cancel_left]
  have nW:b2<w.heap.size∨w1.heap.size<=b2:=by
   rcases hat with e | e
   ·have:=hrow b2 e.symm;exact .inl this.2
   ·injection e with e;exact .inr ah
  refine⟨K,cap,bk,w.heap.size,w1.heap.size,⟨⟨hnew 0 ah,hnew 1 ah,hnew 2 ah,hnew 3 ah,hnew 4 ah⟩,λi _=>hfr _⟩,hk,hm,hbk,Jn _,nW, ?_,by show _<=_;omega⟩;cases ks with
  | nil=>exact hek
  | cons _ _ _ _ _ _=>
   have h3:=hbk (by simp[Es.len]);have hne:∀ q,w.heap.size<=q->∀ g,(V Av es.len cp).ownBlock=M g->q≠g:=λq hq g hg'=>by have:=hrow g hg';omega
   exact hek.keep (aN.of_block (hkeep bk h3.2.2 (hne bk h3.2.1)) _ _) (λq q1 q2 _=>hkeep q q2 (hne q q1))
 ·exact (hg.block i ah λe=>by have:=(World.ownsRow.lt h.own i e.symm).1;omega).trans ((hb1.block i ah).trans (hb.block i ah))
def zy(F:Iv->Prop)(w:Iv)(g:Nat):Prop:=∀ w',w.heap.size<=w'.heap.size->(∀ q,q<w.heap.size->q≠g->w'.heap[q]? = w.heap[q]?)->F w'
variable{F:Iv->Prop}{g:Nat}
theorem zy.now(h:zy F w g):F w:=h w (Jn _) λ_ _ _=>rfl
theorem zy.next(h:zy F w g)(hs:w.heap.size<=w'.heap.size)(hb:∀ q,q<w.heap.size->q≠g->w'.heap[q]? = w.heap[q]?):zy F w' g:=
 λw2 h1 h2=>h w2 (Mp hs h1) λq hq hn=>(h2 q ah hn).trans (hb q hq hn)
theorem zy.below(h:zy F w g)(hb:Ix w.heap.size w w'):zy F w' g:=h.next hb.size λq hq _=>hb.block q hq
structure qJ (w:Iv) (B:Nat) (T:TypeId) (sz:Nat) (v:I1) (els:List (List I1×(Iv->Prop))):Prop where
 own:w.ownsRow B T sz v els.length (els.flatMap (·.1))
 size:B<=w.heap.size
 one:∀ el∈els,el.1.length=sz
 keeps:∀ el∈els,∀ g,(v.ownBlock=M g∨w.heap.size<=g)->zy el.2 w g
variable{sz:Nat}{T:TypeId}{els:List (List I1×(Iv->Prop))}
theorem qJ.below(h:qJ w B T sz v els)(hb:Ix w.heap.size w w'):qJ w' B T sz v els:=
 ⟨iX h.own λg hg=>hb.block g (World.ownsRow.lt h.own g hg).2,Mp h.size hb.size,h.one,λel he g hg=>(h.keeps el he g (hg.imp id λh1=>Mp hb.size h1)).below hb⟩
theorem qJ.start(w:Iv)(T:TypeId)(sz:Nat):qJ (w.alloc (Is #[] T)) w.heap.size T sz (V (M ⟨w.heap.size,0,U⟩) 0 0) []:=
 ⟨World.ownsRow_lit w #[] 0 (Jn _) (by unfold I2;omega) (by simp),by simp,λel he=>by simp at he,λel he=>by simp at he⟩
theorem qJ.form(h:qJ w B T sz v els):∃ A cap,v=V A els.length cap/\els.length<=cap/\cap<=I2:=by
 rcases h.own.2 with ⟨hv,h0⟩ | ⟨g,cap,cur,hv,_,_,hc,hm,_⟩
 ·exact⟨U,0,by rw[hv,h0],ah,by unfold I2;omega⟩
 ·exact⟨_,cap,hv,hc,hm⟩
theorem qJ.lt(h:qJ w B T sz v els)(hg:v.ownBlock=M g):B<=g/\g<w.heap.size:=World.ownsRow.lt h.own g hg
theorem qJ.push{el:List I1×(Iv->Prop)}(h:qJ w B T sz v els)(hb:Ix w.heap.size w w1)(hl:el.1.length=sz)
  (hk:∀ g,(v.ownBlock=M g∨w1.heap.size<=g)->zy el.2 w1 g) (hb1:Ix w1.heap.size w1 Ll) (hown:w2.ownsRow B T sz v2 (els.length+1) (els.flatMap (·.1)++el.1)) (hg:Ll.grownBy w2 v.ownBlock)
  (hat:v2.ownBlock=v.ownBlock∨v2.ownBlock=M Ll.heap.size):qJ w2 B T sz v2 (els++[el])/\Ix B w w2:=by
 have s1:=hb.size;have s2:=hb1.size;have s3:=hg.size;have hB:=h.size;have key:∀ (F:Iv->Prop),(∀ g,(v.ownBlock=M g∨Ll.heap.size<=g)->zy F Ll g)->∀ g,(v2.ownBlock=M g∨w2.heap.size<=g)->zy F w2 g:=by
  intro F hF g BP w3 t1 t2;cases hr:v.ownBlock with
  | none=>
   refine hF Ll.heap.size (.inr (Jn _)) w3 ah λq hq _=>?_
   have hqg:q≠g:=by
    rcases BP with e | e
    ·rcases hat with e2 | e2
     ·rw[e,hr] at e2;cases e2
     ·rw[e] at e2;injection e2 with e2;omega
    ·omega
   exact (t2 q ah hqg).trans (hg.block q hq (by rw[hr];simp))
  | some g0=>
   refine hF g0 (.inl hr) w3 ah λq hq hne=>?_
   have hqg:q≠g:=by
    rcases BP with e | e
    ·rcases hat with e2 | e2
     ·rw[e,hr] at e2;injection e2 with e2;omega
     ·rw[e] at e2;injection e2 with e2;omega
    ·omega
   exact (t2 q ah hqg).trans (hg.block q hq (by rw[hr];intro e;injection e with e;exact hne e))
 refine⟨⟨?_,ah,λx hx=>?_,λx hx=>?_⟩,⟨hg.os.trans (hb1.os.trans hb.os),hg.tape.trans (hb1.tape.trans hb.tape),hg.output.trans (hb1.output.trans hb.output),ah,λi hi=>?_⟩⟩
 ·rw[List.flatMap_append,List.length_append]
  simpa using hown
 ·rcases List.mem_append.1 hx with hx | hx
  ·exact h.one x hx
  ·rw[List.mem_singleton.1 hx];exact hl
 ·refine key x.2 λg BP=>?_
  rcases List.mem_append.1 hx with hx | hx
  ·exact ((h.keeps x hx g (BP.imp id λe=>ah)).below hb).below hb1
  ·rw[List.mem_singleton.1 hx]
   exact (hk g (BP.imp id λe=>ah)).below hb1
 ·exact (hg.block i ah λe=>by have:=(World.ownsRow.lt h.own i e.symm).1;omega).trans ((hb1.block i ah).trans (hb.block i ah))
theorem flat_get:∀ {els:List (List I1×(Iv->Prop))}{i:Nat}{el:List I1×(Iv->Prop)}{j:Nat},(∀ x∈els,x.1.length=sz)->els[i]? = M el->j<sz->(els.flatMap (·.1))[i*sz+j]? = el.1[j]?
 | [],_,_,_,_,h,_=>by simp at h
 | q :: l,0,el,j,h1,h,hj=>by
  simp only[List.getElem?_cons_zero,Option.some.injEq] at h;subst h;rw[List.flatMap_cons,Mn,Mu,List.getElem?_append_left (by rw[h1 q (M3 ..)];exact hj)]
 | q :: l,i+1,el,j,h1,h,hj=>by
  have hq:=h1 q (M3 ..);rw[List.flatMap_cons,List.getElem?_append_right (by rw[hq,Nat.succ_mul];omega),show (i+1)*sz+j - q.1.length=i*sz+j by rw[hq,Nat.succ_mul];omega];exact flat_get (λx hx=>h1 x (V2 _ hx)) h hj
theorem qJ.read(h:qJ w B T sz (V A els.length cap) els)(h0:0<els.length) :
  ∃ b,A=M ⟨b,0,U⟩/\B<=b/\b<w.heap.size/\∀ (i:Nat) (el:List I1×(Iv->Prop)),els[i]? = M el->el.2 w/\(∀ j,j<sz->w.cell? ⟨b,i*sz+j,U⟩=el.1[j]?/\w.frozen? ⟨b,i*sz+j,U⟩=false):=by
 obtain⟨g,c,hv,hg1,hg2⟩:=World.ownsRow.form h.own h0;have hA:A=M ⟨g,0,U⟩:=by injection hv
 have hc:cap=c:=by injection hv
 subst hA;subst hc;refine⟨g,rfl,hg1,hg2,λi el he=>⟨(h.keeps el (List.mem_of_getElem? he) g (.inl rfl)).now,λj hj=>⟨?_,World.ownsRow.frozenAt h.own _⟩⟩⟩;have hi:i<els.length:=(List.getElem?_eq_some_iff.1 he).1;have hlt:i*sz+j<els.length*sz:=by
  have:(i+1)*sz<=els.length*sz:=Nat.mul_le_mul_right _ hi;rw[Nat.succ_mul] at this;omega
 rw[World.ownsRow.cellAt h.own _ hlt];exact flat_get h.one he hj
end
section
open Go
section
variable {P:Program}{ops:Array Oper}{Q:Exit->Act->Iv->Prop}{S:Iv->Prop}
end
section
variable {P:Program}{l:List Oper}{Q:Exit->Act->Iv->Prop}{S:Iv->Prop}{n:Nat}
end
section
variable {P:Program}{l:List Oper}{Q:Exit->Act->Iv->Prop}{S:Iv->Prop}{n:Nat}
end
end
section
open Go
end
section
open Go.RowKit Plain
def ajX(ks:Es):Prop:=∀ (k n p c:Int) (b o B:Nat) (w:Iv),dF w B k n p c ks b o->B<=w.heap.size->ks.size<=1048576 ->
 I0 Tryz.prog 85 #[ptr b o] w (jH ⟨k,n,p,c,ks⟩ w)
structure EM (w wr:Iv) (k n p c:Int) (v:I1) (pre:Es):Prop where
 box:au wr (w.heap.size+1) 33 [I J k,I J n,I J p,I J c,v]
 box0:au wr w.heap.size 33 [I J 0,I J 0,I J 0,I J 0,V U 0 0]
 row:∃ vs,iM wr (w.heap.size+2) v pre vs
 below:Ix w.heap.size w wr
theorem EM.next{w wr w':Iv}{k n p c:Int}{v:I1}{pre:Es}(h:EM w wr k n p c v pre)(hb:Ix wr.heap.size wr w'):EM w w' k n p c v pre:=by
 obtain⟨vs,hv⟩:=h.row;exact⟨h.box.next hb,h.box0.next hb,⟨vs,hv.below hb⟩,aH h.below hb⟩
theorem wZ:∀ (m:Nat) (ks:Es),ks.size<m->ajX ks:=by
 intro m
 induction m with
 | zero=>intro es h;omega
 | succ m ih=>
 intro ks hm k n p c b o B w hE hB hsz0;obtain⟨i0,hi,hz0,hz1,hz2⟩:=info_parts Tryz.infoE;have IH:=aj ih;clear ih;obtain⟨lD,h0,h1,h2,h3,K,cap,b',o',h4,hc,hcm,hK,hks⟩:=hE;have gI:=aj hks;clear hks;have fF:cap<=9223372036854775807:=by unfold I2 at hcm;omega
 have hbw:b<w.heap.size:=ah;have hls:=Es.aF ks;go_enter func85,ntmps85;go_upto_region 1 with fail;have hg0:Ix w.heap.size w (w.alloc (Is #[I J 0,I J 0,I J 0,I J 0,V U 0 0] 33)):=aV;have hn0:au (w.alloc (Is #[I J 0,I J 0,I J 0,I J 0,V U 0 0] 33)) w.heap.size 33 [I J 0,I J 0,I J 0,I J 0,V U 0 0]:=au.new _ _ _
 have hs0:(w.alloc (Is #[I J 0,I J 0,I J 0,I J 0,V U 0 0] 33)).heap.size=w.heap.size+1:=by simp
 change Code.wp _ _ _ _ (w.alloc (Is #[I J 0,I J 0,I J 0,I J 0,V U 0 0] 33));generalize w.alloc (Is #[I J 0,I J 0,I J 0,I J 0,V U 0 0] 33)=W1 at hg0 hn0 hs0 ⊢;have HB1:=aj hg0.drew;have Ti:ak (au W1.drew w.heap.size 33 [I J 0,I J 0,I J 0,I J 0,V U 0 0]):=hn0.drewN 1;have eu:ak (W1.drew.heap.size=w.heap.size+1):=hs0
 have hD:ak (W1.drew.cell? ⟨b,o,U⟩=M (I J k)/\W1.drew.cell? ⟨b,o+1,U⟩=M (I J n)/\W1.drew.cell? ⟨b,o+2,U⟩=M (I J p)/\W1.drew.cell? ⟨b,o+3,U⟩=M (I J c)):=
  ⟨aB h0 hg0.drew,aB h1 hg0.drew,aB h2 hg0.drew,aB h3 hg0.drew⟩
 clear hg0 hn0 hs0;refine aO.start (S:=λwx=>wx.cell? ⟨b,o,U⟩=M (I J k)/\wx.cell? ⟨b,o+1,U⟩=M (I J n)/\wx.cell? ⟨b,o+2,U⟩=M (I J p)/\wx.cell? ⟨b,o+3,U⟩=M (I J c)) 18 aL aL ?xQ (λaA hB=>?_)
 case xQ=>((try dsimp only);exact hD.o)
 iterate 17 (refine aO.tk hB aA ?_;try simp only[aP])
 generalize W1.drew=W2 at *;refine aO.bU (i:=17) rfl bM aL (λK hK=>?_);go_simp;have hb2:Ix W2.heap.size W2 (W2.alloc (Is #[I J 0,I J 0,I J 0,I J 0,V U 0 0] 33)):=aV;refine hK.out _ _ (by (try dsimp only);exact⟨aB aA.1 hb2,aB aA.2.1 hb2,aB aA.2.2.1 hb2,aB aA.2.2.2 hb2⟩) ?_;clear hK K aA;intro aA
 (try simp only[aP])
 refine aO.gL rfl aL aL (λK hK=>?_);go_simp;refine hK.out _ _ ?_;clear hK K;rw[eu.o];have hg3:Ix W2.heap.size W2 (W2.alloc (Is #[I J k,I J n,I J p,I J c,V U 0 0] 33)):=aV;have JN:au (W2.alloc (Is #[I J k,I J n,I J p,I J c,V U 0 0] 33)) (w.heap.size+1) 33 [I J k,I J n,I J p,I J c,V U 0 0]:=by have:=au.new W2 33 [I J k,I J n,I J p,I J c,V U 0 0];rwa [eu.o] at this
 have jw:EM w (W2.alloc (Is #[I J k,I J n,I J p,I J c,V U 0 0] 33)) k n p c (V U 0 0) .nil:=⟨JN,Ti.o.next hg3,⟨[],iM.EA _ _ (by have:=hg3.size;have:=JN.lt;omega)⟩,aH HB1.o hg3⟩
 change Exit.then _ _ _ _ (W2.alloc (Is #[I J k,I J n,I J p,I J c,V U 0 0] 33));generalize W2.alloc (Is #[I J k,I J n,I J p,I J c,V U 0 0] 33)=W3 at jw ⊢;have HST:=aj jw;clear hg3 JN jw aA hb2 hB HB1 Ti eu hD;go_wp2
 go_loopw [4] (λi wr=>∃ (es' pre:Es) (v:I1),i=I J (pre.len:Int)/\pre.len+es'.len=ks.len/\ak (pre.app es'=ks)/\ak (es'.size<=ks.size)/\ak (aI wr B es' b' (o'+pre.len*5))/\ak (EM w wr k n p c v pre)) (λi _=>ks.len - (intOf i).toNat)
 case atStart=>
  refine⟨ks,.nil,V U 0 0,by first | rfl | go_num,by simp[Es.len],rfl,Jn _, ?_,HST.o⟩;show aI _ _ _ _ _;simp only[Es.len,Mn,Mm];exact gI.o.below (HST.o.below.mono ah)
 case round=>
  obtain⟨es',pre,v,rfl,hj,nW,hsz,HE,HO⟩:=hrel;have h4':wr.cell? ⟨b,o+4,U⟩=M (V K ks.len cap):=(HO.o.below.cell (p:=⟨b,_,U⟩) hbw).trans h4;cases es' with
  | nil=>
   simp only[Es.len] at hj;obtain rfl:pre=ks:=by have:=nW.o;rwa [Es.oQ] at this
   obtain⟨vs,hrow⟩:=HO.o.row;obtain⟨A,cp,rfl,hc1,wW⟩:=hrow.form;have y0:wr.cell? ⟨w.heap.size+1,0,U⟩=M (I J k):=ay HO.o.box
   have y1:wr.cell? ⟨w.heap.size+1,1,U⟩=M (I J n):=ay HO.o.box
   have y2:wr.cell? ⟨w.heap.size+1,2,U⟩=M (I J p):=ay HO.o.box
   have y3:wr.cell? ⟨w.heap.size+1,3,U⟩=M (I J c):=ay HO.o.box
   have y4:wr.cell? ⟨w.heap.size+1,4,U⟩=M (V A pre.len cp):=ay HO.o.box
   have hZ:=HO.o.box0;have j0:wr.cell? ⟨w.heap.size,0,U⟩=M (I J 0):=ay hZ
   have g0:wr.frozen? ⟨w.heap.size,0,U⟩=false:=hZ.frozen _;have j1:wr.cell? ⟨w.heap.size,1,U⟩=M (I J 0):=ay hZ
   have g1:wr.frozen? ⟨w.heap.size,1,U⟩=false:=hZ.frozen _;have j2:wr.cell? ⟨w.heap.size,2,U⟩=M (I J 0):=ay hZ
   have g2:wr.frozen? ⟨w.heap.size,2,U⟩=false:=hZ.frozen _;have j3:wr.cell? ⟨w.heap.size,3,U⟩=M (I J 0):=ay hZ
   have g3:wr.frozen? ⟨w.heap.size,3,U⟩=false:=hZ.frozen _;have j4:wr.cell? ⟨w.heap.size,4,U⟩=M (V U 0 0):=ay hZ
   have g4:wr.frozen? ⟨w.heap.size,4,U⟩=false:=hZ.frozen _;have d0:=hZ;have d1:=d0.aJ 0 (I J k);have d2:=d1.aJ 1 (I J n);have d3:=d2.aJ 2 (I J p);have d4:=d3.aJ 3 (I J c);have d5:=d4.aJ 4 (V A pre.len cp);have x0:=d1.cell 0;have x1:=d2.cell 1;have x2:=d3.cell 2;have x3:=d4.cell 3;have x4:=d5.cell 4;simp only[eY] at x0 x1 x2 x3 x4
   have HP:ak (jH ⟨k,n,p,c,pre⟩ w (If (exV k n p c A pre.len cp)) (cK wr w.heap.size 0 k n p c (V A pre.len cp))):=by
    refine⟨bD _ _ _ _ _ HO.o.below (Jn _),A,cp,rfl,hc1,wW,(hrow.aey.keep (λq q1 q2=>dN _ _ _ _ _ ah)).wide ah (by rw[bN];exact Jn _)⟩
   clear hrow hZ d0 d1 d2 d3 d4 d5 HO HE;go_wp2;refine bodyPost_ret (v:=exV k n p c A pre.len cp) (by simp[results,results85,go_sem,x0,x1,x2,x3,x4]) rfl ?_;exact HP.o
  | cons kk n' p' c' aY r=>
   simp only[Es.len] at hj;have hK:=hK ah;subst hK;obtain⟨JM,hr⟩:=HE.o;have hel:dF wr B kk n' p' c' aY b' (o'+pre.len*5):=JM;clear JM;have hrs:ak (r.size<=ks.size/\aY.size<ks.size):=by
    have:=hsz.o;simp only[Es.size] at this;exact⟨ah,ah⟩
   have sP:ak ((pre.snoc kk n' p' c' aY).app r=ks):=by show _=_;rw[Es.mJ];exact nW.o
   have hjl:(pre.len:Int)<(ks.len:Int):=ah;have hjn:pre.len<ks.len:=ah;obtain⟨vs,hrow⟩:=HO.o.row;obtain⟨Av,cp,rfl,_,_⟩:=hrow.form;have hmax:pre.len+1<=1048577:=ah;go_upto_region 5 with fail;have lg:=aj (HO.o.next (Jx _ _).drew);have oW:iM wr.drew (w.heap.size+2) (V Av pre.len cp) pre vs:=hrow.below (Jx _ _).drew;have iE:=aj oW;have lH:=aj (hel.below ((Jx _ _).drew.mono (by have:=HO.o.below.size;omega)):dF wr.drew B kk n' p' c' aY b' (o'+pre.len*5))
   have yS:=aj (hr.below ((Jx _ _).drew.mono (by have:=HO.o.below.size;omega)):aI wr.drew B r b' (o'+pre.len*5+5));have hD:ak (wr.drew.cell? ⟨w.heap.size+1,4,U⟩=M (V Av pre.len cp)/\wr.drew.cell? ⟨b,o+4,U⟩=M (V (M ⟨b',o',U⟩) ks.len cap)):=⟨by rw[lg.o.box.cell];rfl,h4'⟩
   have qM:ak (w.heap.size<=wr.drew.heap.size):=HO.o.below.size;clear hel hr hrow oW HO HE h4' hsz nW;refine aO.start (S:=λwx=>wx.cell? ⟨w.heap.size+1,4,U⟩=M (V Av pre.len cp)/\wx.cell? ⟨b,o+4,U⟩=M (V (M ⟨b',o',U⟩) ks.len cap)) 12 aL aL ?Sb0 (λaA hB=>?_)
   case Sb0=>((try dsimp only);exact hD.o)
   generalize wr.drew=wd at *
   iterate 8 (refine aO.tk hB aA ?_;try simp only[aP])
   refine aO.bU (i:=8) rfl bM aL (λK hK=>?_);go_simp
   go_at_call 85
   refine (IH.o aY (by have:=hrs.o;omega) kk n' p' c' b' (o'+pre.len*5) B wd lH.o (by have:=qM.o;omega) (by have:=hrs.o;omega)).mono ?_;rintro e w1 ⟨hb1,K',c1,rfl,hc1,wW,hT⟩;have HB1:=aj hb1;have HT:=aj hT;clear hT;refine hK.out _ _ (by (try dsimp only);exact⟨aB aA.1 hb1,aB aA.2 hb1⟩) ?_;clear hK K aA;intro aA
   (try simp only[])
   obtain⟨mM,hW1'⟩:=aD (w1.alloc (Is #[I J kk,I J n',I J p',I J c',V K' aY.len c1] 33))
   have hb2:Ix w1.heap.size w1 mM:=by rw[hW1'];go_grown
   have hC2:au mM w1.heap.size 33 [I J kk,I J n',I J p',I J c',V K' aY.len c1]:=by rw[hW1'];exact au.new _ _ _
   refine aO.bU (i:=9) rfl bM aL (λK hK=>?_);go_simp;change K _ (w1.alloc (Is #[I J kk,I J n',I J p',I J c',V K' aY.len c1] 33));rw[<-hW1'];refine hK.out _ _ (by (try dsimp only);exact⟨aB aA.1 hb2,aB aA.2 hb2⟩) ?_;clear hK K aA;intro aA
   (try simp only[aP])
   have dZ:=aj ((iE.o.below HB1.o).below hb2).own;refine aO.bU (i:=10) rfl bM aL (λK hK=>?_);refine gG rfl (.tmp 32) (.tmp 40) 31 rfl (w.heap.size+2) 33 i0 (exV 0 0 0 0 U 0 0) 5 56 underlying31 hi hz0 hz1 hz2 rfl bM (V Av pre.len cp) pre.len vs (by simp[Act.eval]) dZ.o ⟨w1.heap.size,0,U⟩ 1 1 [I J kk,I J n',I J p',I J c',V K' aY.len c1] (by simp[Act.eval]) rfl ?n10 ?o10 ?p10 ?Iy ?t10 ?_
   case n10=>intro j z hz;rw[addr_add,Mu];exact (hC2.cell j).trans hz
   case o10=>intro z hz;simp only[List.mem_cons,List.not_mem_nil,or_false] at hz;rcases hz with rfl | rfl | rfl | rfl | rfl<;>rfl
   case p10=>unfold I2;omega
   case Iy=>omega
   case t10=>have:=(iE.o.below HB1.o).size;have:=hb2.size;omega
   intro v2 w2 hown hg hat;obtain⟨hrow2,hbl⟩:=iM.push iE.o HB1.o HT.o hc1 wW hb2 hown hg hat;obtain⟨A2,c2,rfl,_,_⟩:=hrow2.form;have vO:=aj hbl;have mD:=aj hrow2;clear hown hg hat hrow2;refine hK.out _ _ (by (try dsimp only);exact⟨(hbl.cell (p:=⟨w.heap.size+1,4,U⟩) (by show w.heap.size+1<_;omega)).trans hD.o.1,(hbl.cell (p:=⟨b,o+4,U⟩) (by show b<_;omega)).trans hD.o.2⟩) ?_;clear hK K aA;intro aA
   (try simp only[aP])
   (refine aO.tk hB aA ?_;try simp only[aP])
   have hbx:au w2 (w.heap.size+1) 33 [I J k,I J n,I J p,I J c,V Av pre.len cp]:=(vO.o.block _ ah).trans lg.o.box;have g4:w2.frozen? ⟨w.heap.size+1,4,U⟩=false:=hbx.frozen _;have f4:=aA.1;have oK:ak (EM w (w2.setCell ⟨w.heap.size+1,4,U⟩ (V A2 (pre.snoc kk n' p' c' aY).len c2)) k n p c (V A2 (pre.snoc kk n' p' c' aY).len c2) (pre.snoc kk n' p' c' aY)):=by
    have hbz:au w2 w.heap.size 33 [I J 0,I J 0,I J 0,I J 0,V U 0 0]:=(vO.o.block _ ah).trans lg.o.box0;have ho:aC (λq=>q=w.heap.size+1) w2 (w2.setCell ⟨w.heap.size+1,4,U⟩ (V A2 (pre.snoc kk n' p' c' aY).len c2)):=⟨rfl,rfl,rfl,by simp[World.setCell],λq _ hq=>J1 _ _ _ _ hq⟩
    refine⟨?_,hbz.far (p:=⟨w.heap.size+1,4,U⟩) (by show w.heap.size≠w.heap.size+1;omega) (V A2 (pre.snoc kk n' p' c' aY).len c2),⟨_,mD.o.only ho (λq hq e=>by have e':q=w.heap.size+1:=e;omega)⟩,(lg.o.below.trans (vO.o.mono ah)).setCell (p:=⟨w.heap.size+1,4,U⟩) (by show w.heap.size<=w.heap.size+1;omega) (V A2 (pre.snoc kk n' p' c' aY).len c2)⟩;have:=hbx.aJ 4 (V A2 (pre.snoc kk n' p' c' aY).len c2)
    simpa using this
   have su:ak (aI (w2.setCell ⟨w.heap.size+1,4,U⟩ (V A2 (pre.snoc kk n' p' c' aY).len c2)) B r b' (o'+(pre.len+1)*5)):=by
    have h1:=yS.o.below (vO.o.mono (by have:=qM.o;omega));have h2:=h1.below (w':=w2.setCell ⟨w.heap.size+1,4,U⟩ (V A2 (pre.snoc kk n' p' c' aY).len c2)) ((Jx B w2).setCell (p:=⟨w.heap.size+1,4,U⟩) (by show B<=w.heap.size+1;omega) (V A2 (pre.snoc kk n' p' c' aY).len c2))
    rwa [show o'+pre.len*5+5=o'+(pre.len+1)*5 by omega] at h2
   clear hC2 hb2 dZ;refine aO.gL rfl aL aL (λK hK=>?_);go_simp;refine hK.out _ _ ?_;clear hK K;generalize w2.setCell ⟨w.heap.size+1,4,U⟩ (V A2 (pre.snoc kk n' p' c' aY).len c2)=W9 at oK su ⊢;clear aA hB hbx g4 f4 hD vO mD iE lg lH yS HB1 HT hb1;go_wp2
   go_roundw
   case rel=>exact⟨r,pre.snoc kk n' p' c' aY,(V A2 (pre.snoc kk n' p' c' aY).len c2),by rw[Es.dD];go_num,by rw[Es.dD];omega,sP,hrs.o.1,by rw[Es.dD];exact su,oK⟩
   case measure=>simp[intOf];omega
end
end Go.Proofs.YtgfkglhelfkpoaaGreat
