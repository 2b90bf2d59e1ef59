/- Parts of the proof. -/
import Derived.Test.YtgfkglhelfkpoaaGreatRSG
import Derived.Lib.AppendZerosOnto
set_option maxRecDepth 100000
set_option maxHeartbeats 4000000
open Go.Proofs.Tryz
open Go.Value renaming int→I,slice→V
open Go.IntKind renaming i64→J
open Option renaming some→M,none→U
open Go.Ending renaming returned→If
open Go.Obj renaming cells→Is
open Go renaming World→Iv,Calls→I0,Value→I1,maxLen→I2,Addr→I3
open Go.RowKit renaming Below→Ix
open Nat renaming le_refl→Jn,le_trans→Mp,zero_add→Mu,lt_of_lt_of_le→M1
open Go.RowKit.Below renaming refl→Jx,heap_setCell→J1
open Bool renaming and_eq_true→Mb
open List renaming length_map→My,mem_cons_self→M3,getD→Up
namespace Go.Proofs.YtgfkglhelfkpoaaGreat
section
open Plain
variable{u:Int}{R:List av}
theorem xH(h:aQ u R=true):R.length<=120/\rE R<=1440:=by
 have h1:=bC h;have h2:=uW (bS h);have h3:R.length*u.toNat<=120*12:=Nat.mul_le_mul h1.2.2 ah;exact⟨h1.2.2,ah⟩
variable{ts:List av}
theorem ahh{us:List av}(h1:aQ u ts=true)(h2:aQ u us=true):(kD (ts++us)).length<=240/\rE (kD (ts++us))<=1048576:=by
 obtain⟨s1,s2⟩:=Kh (ts++us);rw[List.length_append] at s2;have z1:=bC h1;have z2:=bC h2;have hl:jG u.toNat (kD (ts++us)):=λt ht=>by
  obtain⟨s,hs,e⟩:=s1 t ht;rw[<-e]
  rcases List.mem_append.1 hs with hs | hs
  ·exact bS h1 s hs
  ·exact bS h2 s hs
 have h4:=uW hl;have h5:(kD (ts++us)).length*u.toNat<=240*12:=Nat.mul_le_mul ah ah;exact⟨ah,ah⟩
def dW(k:Int)(ts:List av):List av:=ts.map λt=>(t.1,tm t.2 k)
theorem Bf(k:Int)(ts:List av):(dW k ts).length=ts.length:=by unfold dW;exact My _
variable{k:Int}
theorem ab3{i:Nat}(h:i<ts.length):aR (dW k ts) i=((aR ts i).1,tm (aR ts i).2 k):=by
 unfold aR dW;simp[Up,h]
theorem af3{a b:Int}(h0:1<=a)(h1:a<=1000002)(k0:1<=b)(k1:b<=1000002):1<=tm a b/\tm a b<=1000002:=by
 have h:=wD a b;have:=G_ h0 h1 k0 k1;omega
theorem Canon.scl(h:Canon ts){k:Int}(k0:1<=k)(k1:k<=1000002):Canon (dW k ts):=by
 refine⟨?_,λt ht=>?_⟩
 ·unfold dW
  exact List.pairwise_map.2 (h.Ef.imp λh=>h)
 ·unfold dW at ht
  obtain⟨s,hs,rfl⟩:=List.mem_map.1 ht;have:=h.sN s hs;exact af3 this.1 this.2 k0 k1
theorem ab7{c:Int}(h0:1<=c)(h1:c<=1000002):tm c 1=c:=by unfold tm;omega
theorem yP(h:Canon ts):dW 1 ts=ts:=by
 unfold dW;have:∀ t∈ts,(t.1,tm t.2 1)=t:=λt ht=>by
  have:=h.sN t ht;rw[ab7 this.1 this.2]
 rw[List.map_congr_left this,List.map_id']
theorem gD(h:aQ u ts=true)(k0:1<=k)(k1:k<=1000002):aQ u (dW k ts)=true:=by
 have hc:=(dV h).scl k0 k1;have hv:fP u 0 12=true:=by
  unfold aQ at h;simp only[Mb] at h;exact h.1.1
 rw[Fy hv (λt ht=>?_) hc.Ef]
 ·rw[Bf]
  have:=(bC h).2.2;simpa using this
 ·have hc2:=hc.sN t ht
  unfold dW at ht;obtain⟨s,hs,rfl⟩:=List.mem_map.1 ht;exact kW (bZ h hs) rfl hc2.1 hc2.2
theorem Z6(ts:List av)(e:List Int):∃ P S,ts=P++S/\(∀ p∈P,cmpL p.1 e<0)/\∀ s S',S=s :: S'->¬ cmpL s.1 e<0:=by
 induction ts with
 | nil=>exact⟨[],[],rfl,λp h=>by simp at h,λs S' h=>by simp at h⟩
 | cons t ts ih=>
  by_cases h:cmpL t.1 e<0
  ·obtain⟨P,S,h1,h2,h3⟩:=ih
   refine⟨t :: P,S,by rw[h1];rfl,λp hp=>?_,h3⟩
   rcases List.mem_cons.1 hp with rfl | hp
   ·exact h
   ·exact h2 p hp
  ·exact⟨[],t :: ts,rfl,λp h=>by simp at h,λs S' hs=>by injection hs with h1 h2;subst h1;exact h⟩
theorem afP(h:Canon R)(e:List Int){c:Int}(c0:0<=c)(c1:c<=1000002):∃ R',Canon R'/\∀ x,eH R' x=if e=x then pl c (eH R e) else eH R x:=by
 obtain⟨P,S,hR,hP,hS⟩:=Z6 R e;subst hR;cases S with
 | nil=>exact⟨_,BX h hP (λs hs=>by simp at hs) c0 c1⟩
 | cons s S'=>
  have h1:=hS s S' rfl
  by_cases h2:cmpL s.1 e=0
  ·have he:=cmpL_eq h2
   obtain⟨s1,s2⟩:=s;simp only at he;subst he;exact⟨_,Ow h⟩
  ·have h3:cmpL e s.1<0:=by have:=nK s.1 e;omega
   refine⟨_,BX h hP (λx hx=>?_) c0 c1⟩
   rcases List.mem_cons.1 hx with rfl | hx
   ·exact h3
   ·exact gZ h3 ((List.pairwise_cons.1 (List.pairwise_append.1 h.Ef).2.1).1 x hx)
theorem aer(L:List av):∃ R,Canon R/\∀ e,eH R e=eH L e:=by
 induction L with
 | nil=>exact⟨[],Canon.nil,λ_=>rfl⟩
 | cons t L ih=>
  obtain⟨R,h1,h2⟩:=ih;obtain⟨R',h3,h4⟩:=afP h1 t.1 (uT t.2).1 (uT t.2).2;refine⟨R',h3,λx=>?_⟩;rw[h4];show _=if t.1=x then pl t.2 (eH L x) else eH L x
  by_cases hx:t.1=x
  ·rw[if_pos hx,if_pos hx,h2,hx];unfold pl rs;omega
  ·rw[if_neg hx,if_neg hx,h2]
theorem lN(L:List av):Canon (kD L):=by
 obtain⟨R,h1,h2⟩:=aer L;rw[<-pO h1 h2];exact h1
theorem yI(L:List av)(e:List Int):eH (kD L) e=eH L e:=by
 obtain⟨R,h1,h2⟩:=aer L;rw[<-pO h1 h2];exact h2 e
theorem Dj{L:List av}(h:Canon L):kD L=L:=(pO h λ_=>rfl).symm
end
section
open Go.RowKit Plain
variable{w:Iv}{u:Int}{A1 A2:Option I3}
theorem ae1{W0:Iv}{v:Int}{n1 n2 c1 c2:Nat}(aZ:W0=((w.alloc (Is #[I J u,V A1 n1 c1] 86)).alloc (Is #[I J v,V A2 n2 c2] 86)).alloc (Is #[I J 0,V U 0 0] 86)) :
  Ix w.heap.size w W0/\au W0 w.heap.size 86 [I J u,V A1 n1 c1]/\au W0 (w.heap.size+1) 86 [I J v,V A2 n2 c2]/\au W0 (w.heap.size+2) 86 [I J 0,V U 0 0]:=by
 subst aZ;refine⟨aV,(au.new w 86 [I J u,V A1 n1 c1]).next aV, ?_, ?_⟩
 ·have:=(au.new (w.alloc (Is #[I J u,V A1 n1 c1] 86)) 86 [I J v,V A2 n2 c2]).next (w':=((w.alloc (Is #[I J u,V A1 n1 c1] 86)).alloc (Is #[I J v,V A2 n2 c2] 86)).alloc (Is #[I J 0,V U 0 0] 86)) aV
  simpa using this
 ·have:=au.new ((w.alloc (Is #[I J u,V A1 n1 c1] 86)).alloc (Is #[I J v,V A2 n2 c2] 86)) 86 [I J 0,V U 0 0]
  simpa using this
structure TmC (w:Iv) (A:Option I3) (ts:List av) (us:List (I1×Int)):Prop where
 len:us.length=ts.length
 cells:0<ts.length->∃ b o,A=M ⟨b,o,U⟩/\b<w.heap.size/\∀ j u,(bW us)[j]? = M u->w.cell? ⟨b,o+j,U⟩=M u
 row:∀ (i:Nat) (x:I1×Int) (t:av),us[i]? = M x->ts[i]? = M t->x.2=t.2/\∃ Ai cap,x.1=V Ai t.1.length cap/\Ints w Ai t.1
variable{A:Option I3}{ts:List av}
theorem eX.XY(h:eX w A ts):∃ us,TmC w A ts us:=by
 by_cases h0:0<ts.length
 ·obtain⟨b,o,rfl,hb,hc⟩:=h h0
  have hu:∀ i x,((List.range ts.length).map λi=>((w.cell? ⟨b,o+i*2,U⟩).getD (I J 0),(aR ts i).2))[i]? = M x->i<ts.length/\x=((w.cell? ⟨b,o+i*2,U⟩).getD (I J 0),(aR ts i).2):=by
   intro i x hx;rw[List.getElem?_map] at hx;obtain⟨k,hk,rfl⟩:=Option.map_eq_some_iff.1 hx;have hk2:=List.getElem?_eq_some_iff.1 hk;obtain⟨h1,h2⟩:=hk2;simp at h1 h2;subst h2;exact⟨h1,rfl⟩
  refine⟨(List.range ts.length).map λi=>((w.cell? ⟨b,o+i*2,U⟩).getD (I J 0),(aR ts i).2),by simp,λ_=>⟨b,o,rfl,hb,λj u hj=>?_⟩,λi x t hx ht=>?_⟩
  ·have hjl:=(List.getElem?_eq_some_iff.1 hj).1
   rw[vT] at hjl;simp at hjl;have hi:j / 2<ts.length:=ah;have hx:((List.range ts.length).map λi=>((w.cell? ⟨b,o+i*2,U⟩).getD (I J 0),(aR ts i).2))[j / 2]? = M ((w.cell? ⟨b,o+j / 2*2,U⟩).getD (I J 0),(aR ts (j / 2)).2):=by
    rw[List.getElem?_map,List.getElem?_range hi];rfl
   obtain⟨g1,g2⟩:=nS hx;obtain⟨Ai,cap,c1,c2,_,_⟩:=hc (j / 2) _ (l7 hi)
   rcases Nat.mod_two_eq_zero_or_one j with e | e
   ·rw[show j=j / 2*2 by omega] at hj
    rw[g1] at hj;injection hj with hj
    rw[c1] at hj;rw[<-hj,show o+j=o+j / 2*2 by omega,c1];rfl
   ·rw[show j=j / 2*2+1 by omega] at hj
    rw[g2] at hj;injection hj with hj
    rw[<-hj,show o+j=o+j / 2*2+1 by omega,c2]
  ·obtain⟨hi,rfl⟩:=hu i x hx
   obtain⟨Ai,cap,c1,c2,c3,_⟩:=hc i t ht;have e:t=aR ts i:=by rw[l7 hi] at ht;injection ht with ht;exact ht.symm
   exact⟨by rw[e],Ai,cap,by rw[c1];rfl,c3⟩
 ·obtain rfl:ts=[]:=List.length_eq_zero_iff.1 ah
  exact⟨[],rfl,λh=>absurd h h0,λi x t hx _=>by simp at hx⟩
variable{us:List (I1×Int)}
theorem TmC.one(h:TmC w A ts us):∀ u∈bW us,u.oneCell'=true:=M0 λx hx=>by
 obtain⟨i,hi,rfl⟩:=List.getElem_of_mem hx;obtain⟨_,Ai,cap,e,_⟩:=h.row i _ (ts[i]'(by rw[<-h.len];exact hi)) (List.getElem?_eq_getElem hi) (List.getElem?_eq_getElem _);rw[e];rfl
variable{w':Iv}
theorem TmC.below(h:TmC w A ts us)(hb:Ix w.heap.size w w'):TmC w' A ts us:=
 ⟨h.len,λh0=>by
  obtain⟨b,o,e,hl,hc⟩:=h.cells h0;exact⟨b,o,e,M1 hl hb.size,λj u hj=>(hb.cell (p:=⟨b,_,U⟩) hl).trans (hc j u hj)⟩,
 λi x t hx ht=>by
  obtain⟨h1,Ai,cap,h2,h3⟩:=h.row i x t hx ht;exact⟨h1,Ai,cap,h2,h3.below hb⟩⟩
theorem Ro(n:Nat)(w:Iv)(hn:n<=1000000) :
  I0 Tryz.prog 253 #[V U 0 0,I J n] w λe w'=>∃ A c,e=If (V A 0 c)/\w'.ownsRow w.heap.size 173 2 (V A 0 c) 0 []/\Ix w.heap.size w w':=by
 obtain⟨i0,hi,hz0,hz1,hz2⟩:=info_parts Tryz.infoT
 by_cases h0:0<n
 ·have aek:(Builtin.firstCells i0.size 0 (V U 0 0)).run Tryz.prog w.drew=.ok ([]:List I1).toArray w.drew:=run_firstCells_none w.drew i0.size 0 0 0
  have hrz:ak (∀ ty,(Builtin.append_ #[84,3] ty #[V U 0 0,I J (n:Int)]).run Tryz.prog w=_):=λty=>Lib.run_append_grow_zeros w 84 3 ty 173 i0 (Qp U 0 0 0) .i64 .i64 underlying84 underlying3 hi hz0 U 0 0 [] aek n h0 (by rw[hz1];omega) ah ah (by rw[hz2];omega) (growslice_fits ah (by rw[hz2];omega))
  have yj:0+n<=grownCap w (0+n) 0 173:=grownCap_ge w _ _ _;have hG2:=grownCap_le_maxLen w (0+n) 0 173 (by unfold I2;omega);obtain⟨G,hG⟩:=aD (grownCap w (0+n) 0 173)
  rw[<-hG] at hrz yj hG2;have hGz:G<=9223372036854775807:=by unfold I2 at hG2;omega
  obtain⟨W2,hW2⟩:∃ W2,W2=w.drew.alloc (Is (([]:List I1).toArray++Builtin.zeroCells (Qp U 0 0 0).cells n++Builtin.zeroCells (Qp U 0 0 0).cells (G - (0+n))) 173):=⟨_,rfl⟩
  rw[<-hW2] at hrz;have HP:ak (W2.ownsRow w.heap.size 173 2 (V (M ⟨w.heap.size,0,U⟩) 0 G) 0 []/\Ix w.heap.size w W2):=by
   show _/\_;rw[hW2];refine⟨⟨rfl,.inr ⟨w.heap.size,G,_,rfl,Jn _,by have:=heap_alloc_new w.drew (Is (([]:List I1).toArray++Builtin.zeroCells (Qp U 0 0 0).cells n++Builtin.zeroCells (Qp U 0 0 0).cells (G - (0+n))) 173);simpa using this,ah,hG2, ?_,by simp⟩⟩,aV⟩;simp only[Array.size_append,size_zeroCells];have hz:(Qp U 0 0 0).cells.size=2:=rfl;rw[hz];omega
  have h1:¬ ((n:Int)<0):=ah;have h2:(0:Int)<(n:Int):=ah;clear hW2 hG aek hG2;go_enter func253,ntmps253;go_wp2_with (at_builtin;refine Lib.wpList_append_run _ rfl _ _ _ _ rfl _ _ rfl rfl _ _ (hrz.o _) ?_)
  all_goals (go_ret;exact⟨_,_,rfl,HP.o.1,HP.o.2⟩)
 ·obtain rfl:n=0:=ah
  go_enter func253,ntmps253;go_wp2;go_ret;exact⟨U,0,rfl,⟨rfl,.inl ⟨rfl,rfl⟩⟩,Jx _ _⟩
theorem qE{w0:Iv}{ops:Array Oper}{rest:List Oper}{o:Oper}{a:Act}{Q:Exit->Act->Iv->Prop}(hgd:o.guard=U)(s x:Operand)
  (ho:o.op=.call { callee:=.builtin .append,args:=#[s,x],argTypes:=#[84,84] }) (B m:Nat) (Av:Option I3) (cp:Nat) (xs:List I1) (hs:a.eval s=V Av m cp)
  (hown:w.ownsRow B 173 2 (V Av m cp) m xs) (A:Option I3) (cap:Nat) (ts:List av) (us:List (I1×Int)) (hx:a.eval x=V A ts.length cap) (hC:TmC w A ts us)
  (hm:m<=1000000) (ht:ts.length<=1000000) (hB:B<=w.heap.size) (hb:Ix B w0 w)
  (h:∀ A' c' w',w'.ownsRow B 173 2 (V A' (m+ts.length) c') (m+ts.length) (xs++bW us)->Ix B w0 w'->w.heap.size<=w'.heap.size->wpList Tryz.prog ops Q rest (a.put o.dst (V A' (m+ts.length) c')) w') :
  wpList Tryz.prog ops Q (o :: rest) a w:=by
 obtain⟨i0,hi,hz0,hz1,hz2⟩:=info_parts Tryz.infoT
 by_cases h0:0<ts.length
 ·obtain⟨b,of,rfl,hl,hc⟩:=hC.cells h0
  refine wpList_append_own w hgd s x 84 ho B 173 i0 (Qp U 0 0 0) 2 32 underlying84 hi hz0 hz1 hz2 rfl bM _ m xs hs hown ⟨b,of,U⟩ ts.length cap (bW us) hx (by rw[vT,hC.len]) (λj u hj=>by rw[addr_add];exact hc j u hj) hC.one (by unfold I2;omega) ah hB ?_;intro v' w' h1 h2 h3;have h4:Ix B w0 w':=hb.grown h2 hB (λq hq=>(World.ownsRow.lt hown q hq).1)
  rcases h1.2 with ⟨_,hz⟩ | ⟨g,bB,cur,hv,_⟩
  ·omega
  ·subst hv
   exact h _ _ _ h1 h4 h2.size
 ·obtain rfl:ts=[]:=List.length_eq_zero_iff.1 ah
  have sW:us=[]:=List.length_eq_zero_iff.1 (by rw[hC.len];rfl);subst sW;have hle:m<=cp:=by
   rcases hown.2 with ⟨hv,hz⟩ | ⟨g,bB,cur,hv,_,_,hle,_⟩
   ·omega
   ·injection hv with _ _ e;rw[e];exact hle
  have hS:Src Tryz.prog i0.size 84 (V A 0 cap) 0 [] w:=by
   cases A with
   | none=>exact Src.ofNil w underlying84 cap
   | some a=>exact Src.ofSlice w underlying84 a 0 cap [] (by simp) (by simp) (by simp)
  exact kg hgd s x 84 ho 173 i0 underlying84 hi _ m cp hle hs _ hx hS (h Av cp w (by simpa [bW] using hown) hb (Jn _))
def qI(n:Nat)(ts:List av)(w:Iv)(e:Ending)(w':Iv):Prop:=
 ∃ A c,e=If (V A ts.length c)/\IZ w' w'.heap.size A n ts/\Ix w.heap.size w w'/\∀ q,L9 ts.length A q->w.heap.size<=q
theorem Je{c n:Nat}{us:List av}{xs ys:List (I1×Int)}(h1:TmC w A1 ts xs)(h2:TmC w A2 us ys)(n1:jG n ts)(n2:jG n us)
  (hown:w'.ownsRow w.heap.size 173 2 (V A (ts++us).length c) (ts++us).length (bW xs++bW ys)) (hb:Ix w.heap.size w w'):qI n (ts++us) w (If (V A (ts++us).length c)) w':=by
 refine⟨A,c,rfl,λh0=>?_,hb,λq hq=>?_⟩
 ·obtain⟨g,c',hv,hg1,hg2⟩:=World.ownsRow.form hown h0
  have hA:A=M ⟨g,0,U⟩:=by injection hv
  subst hA;refine⟨g,rfl,hg2,λi t ht=>?_⟩;have hi:i<(ts++us).length:=(List.getElem?_eq_some_iff.1 ht).1;have hlen:(xs++ys).length=(ts++us).length:=by simp[h1.len,h2.len]
  obtain⟨x,hx⟩:∃ x,(xs++ys)[i]? = M x:=⟨_,List.getElem?_eq_getElem ah⟩
  have hcg:=nS (l:=xs++ys) (i:=i) (u:=x.1) (c:=x.2) hx;rw[jO] at hcg;have hr:x.2=t.2/\(∃ Ai cap,x.1=V Ai t.1.length cap/\Ints w Ai t.1)/\t.1.length=n:=by
   by_cases GH:i<ts.length
   ·rw[List.getElem?_append_left GH] at ht
    rw[List.getElem?_append_left (by rw[h1.len];exact GH)] at hx;obtain⟨e1,e2⟩:=h1.row i x t hx ht;exact⟨e1,e2,n1 t (List.mem_of_getElem? ht)⟩
   ·rw[List.getElem?_append_right ah] at ht
    rw[List.getElem?_append_right (by rw[h1.len];omega),h1.len] at hx;obtain⟨e1,e2⟩:=h2.row _ x t hx ht;exact⟨e1,e2,n2 t (List.mem_of_getElem? ht)⟩
  obtain⟨e1,⟨Ai,cap,e2,e3⟩,e4⟩:=hr;have c0:=(World.ownsRow.cellAt hown (i*2) ah).trans hcg.1;have c1:=(World.ownsRow.cellAt hown (i*2+1) ah).trans hcg.2;rw[e2] at c0;rw[e1] at c1;refine⟨Ai,cap,by rw[Mu];exact c0,by rw[Mu];exact c1,World.ownsRow.frozenAt hown _,World.ownsRow.frozenAt hown _,e3.below hb,λq hq=>?_,e4⟩;obtain⟨hq0,oq,e⟩:=hq;obtain⟨b',o',e',hb',_⟩:=e3 hq0
  have e5:Ai=M ⟨q,oq,U⟩:=e;rw[e'] at e5;injection e5 with e5
  have:b'=q:=congrArg Addr.block e5;omega
 ·obtain⟨h0,oq,e⟩:=hq
  exact (World.ownsRow.lt hown q (by rw[e];rfl)).1
theorem Jd(b o:Nat)(A1 A2:Option I3)(c1 c2 n:Nat)(ts us:List av)(w:Iv)(h0:w.cell? ⟨b,o,U⟩=M (V A1 ts.length c1))(h1:w.cell? ⟨b,o+1,U⟩=M (V A2 us.length c2))
  (hT:eX w A1 ts) (hU:eX w A2 us) (ht:ts.length<=1000) (hu:us.length<=1000) (nT:jG n ts) (nU:jG n us) :
  I0 Tryz.prog 209 #[V (M ⟨b,o,U⟩) 2 2] w (qI n (ts++us) w):=by
 obtain⟨xs,hX⟩:=hT.XY;obtain⟨ys,hY⟩:=hU.XY;have HX:=aj hX;have HY:=aj hY;have HP:ak (∀ A c w',w'.ownsRow w.heap.size 173 2 (V A (ts++us).length c) (ts++us).length (bW xs++bW ys)->Ix w.heap.size w w'->qI n (ts++us) w (If (V A (ts++us).length c)) w'):=λA c w' h1 h2=>Je hX hY nT nU h1 h2
 have HG:=aj (Ro (ts.length+us.length) w ah);have HZ:ak (w.cell? ⟨b,o,U⟩=M (V A1 ts.length c1)/\w.cell? ⟨b,o+1,U⟩=M (V A2 us.length c2)):=⟨h0,h1⟩
 have HL:ak ((ts++us).length=ts.length+us.length):=List.length_append;obtain⟨N,hN⟩:=aD (ts.length+us.length)
 have hNz:(N:Int)=(ts.length:Int)+(us.length:Int):=ah;rw[<-hN] at HG HL;have HN:=aj hN;have HNz:=aj hNz;have w1:IntKind.i64.wrap ((0:Int)+(ts.length:Int))=(ts.length:Int):=by rw[IntKind.wrap_i64];omega
 have w2:IntKind.i64.wrap ((ts.length:Int)+(us.length:Int))=(N:Int):=by rw[IntKind.wrap_i64];omega
 have n1:¬ ((ts.length:Int)<0):=ah;have n2:¬ ((N:Int)<0):=ah;clear hX hY hT hU nT nU hN hNz;go_enter func209,ntmps209;go_wp2
 go_loopg [3,11] 3 (λkx s3 s11 wr=>w=wr/\((s3=I J 0/\s11=I J 0/\2<kx)∨(s3=I J (ts.length:Int)/\s11=I J 1/\1<kx)∨(s3=I J (N:Int)/\s11=I J 2/\0<kx)))
 case atStart=>exact⟨rfl,.inl ⟨rfl,rfl,ah⟩⟩
 case round=>
  obtain⟨rfl,⟨rfl,rfl,hk⟩ | ⟨rfl,rfl,hk⟩ | ⟨rfl,rfl,hk⟩⟩:=hrel
  ·go_wp2
   go_roundg 2
   case measure=>omega
   case rel=>exact⟨rfl,.inr (.inl ⟨by first | rfl | go_num,by first | rfl | go_num,ah⟩)⟩
  ·go_wp2
   go_roundg 1
   case measure=>omega
   case rel=>exact⟨rfl,.inr (.inr ⟨by first | rfl | go_num,by first | rfl | go_num,ah⟩)⟩
  ·go_wp2_with fail
   refine HG.o.mono ?_;rintro e w3 ⟨Ag,cg,rfl,hown,hb3⟩;have HO:=aj hown;have HB:=aj hb3;clear hown hb3;go_wp2
   go_loopg [6,27] 3 (λkx s6 s27 wr=>∃ (k m:Nat) (A:Option I3) (c:Nat) (cs:List I1),s6=V A m c/\s27=I J (k:Int)/\2 - k<kx/\ak (wr.ownsRow w.heap.size 173 2 (V A m c) m cs)/\ak (Ix w.heap.size w wr)/\ak ((k=0/\m=0/\cs=[])∨(k=1/\m=ts.length/\cs=bW xs)∨(k=2/\N=m/\cs=bW xs++bW ys)))
   case atStart=>exact⟨0,0,Ag,cg,[],rfl,by first | rfl | go_num,ah,HO,HB,by show _∨_;exact .inl ⟨rfl,rfl,rfl⟩⟩
   case round=>
    clear HO HB;obtain⟨k,m,A,c,cs,rfl,rfl,hkx,HO,HB,HK⟩:=hrel
    rcases HK.o with ⟨rfl,rfl,rfl⟩ | ⟨rfl,rfl,rfl⟩ | ⟨rfl,rfl,rfl⟩
    ·have HC:=aj (HX.o.below HB.o)
     have q0:=aB HZ.o.1 HB.o;go_wp2_with (at_builtin;refine qE (w0:=w) rfl _ _ rfl w.heap.size 0 A c [] rfl HO.o A1 c1 ts xs rfl HC.o ah ah HB.o.size HB.o ?_);intro A' c' w' hown hb _;have rO:ak (w'.ownsRow w.heap.size 173 2 (V A' ts.length c') ts.length (bW xs)):=hown;have HB2:=aj hb;have hz:0+ts.length=ts.length:=ah;clear hown hb;go_wp2
     go_roundg 2
     case measure=>omega
     case rel=>exact⟨1,ts.length,A',c',_,by first | rfl | (simp),by first | rfl | go_num,ah,rO,HB2,by show _∨_;exact .inr (.inl ⟨rfl,rfl,rfl⟩)⟩
    ·have HC:=aj (HY.o.below HB.o)
     have q1:=aB HZ.o.2 HB.o;go_wp2_with (at_builtin;refine qE (w0:=w) rfl _ _ rfl w.heap.size ts.length A c (bW xs) rfl HO.o A2 c2 us ys rfl HC.o ah ah HB.o.size HB.o ?_);intro A' c' w' hown hb _;have hz:=HN.o.symm;rw[hz] at hown;have rO:=aj hown;have HB2:=aj hb;clear hown hb;rw[hz];clear hz;go_wp2
     go_roundg 1
     case measure=>omega
     case rel=>exact⟨2,N,A',c',_,by first | rfl | (simp),by first | rfl | go_num,ah,rO,HB2,by show _∨_;exact .inr (.inr ⟨rfl,rfl,rfl⟩)⟩
    ·have HE:ak (qI n (ts++us) w (If (V A N c)) wr):=by
      have h:=HO.o;rw[<-HL.o] at h;have:=HP.o A c wr h HB.o;rw[HL.o] at this;exact this
     go_wp2;go_ret;exact HE.o
theorem nR.of{R:List av}{cp lo:Nat}{w1:Iv}(hb:Ix w.heap.size w w1)(h:RT w1 lo w1.heap.size A R)(hlo:w.heap.size+2<lo)(x y:I1) :
  nR u R w (If (fJ u A R.length cp)) ((w1.setCell ⟨w.heap.size+2,0,U⟩ x).setCell ⟨w.heap.size+2,1,U⟩ y):=by
 have hO2:aC (λq=>q=w.heap.size+2) w1 ((w1.setCell ⟨w.heap.size+2,0,U⟩ x).setCell ⟨w.heap.size+2,1,U⟩ y):=
  ⟨rfl,rfl,rfl,by simp[World.setCell],λq _ hq=>(J1 _ _ _ _ hq).trans (J1 _ _ _ _ hq)⟩
 have h2:=h.only hO2 (λq hq _ e=>by have e':q=w.heap.size+2:=e;omega);have hs:((w1.setCell ⟨w.heap.size+2,0,U⟩ x).setCell ⟨w.heap.size+2,1,U⟩ y).heap.size=w1.heap.size:=by simp[World.setCell]
 exact⟨A,cp,rfl,RT.Di h2 ah (by rw[hs];exact Jn _),(hb.setCell (p:=⟨w.heap.size+2,0,U⟩) (by simp) _).setCell (p:=⟨w.heap.size+2,1,U⟩) (by simp) _⟩
theorem yK(u v:Int)(A1 A2:Option I3)(c1 c2 n:Nat)(ts us:List av)(w:Iv)(hT:eX w A1 ts)(hU:eX w A2 us)(ht:ts.length<=1000)(hu:us.length<=1000)(nT:jG n ts)(nU:jG n us)(hn:n<=1000) :
  I0 Tryz.prog 133 #[fJ u A1 ts.length c1,fJ v A2 us.length c2] w (nR u (kD (ts++us)) w):=by
 obtain⟨W0,aZ⟩:=aD (((w.alloc (Is #[I J u,V A1 ts.length c1] 86)).alloc (Is #[I J v,V A2 us.length c2] 86)).alloc (Is #[I J 0,V U 0 0] 86))
 have HB0:ak (Ix w.heap.size w W0):=by show Ix _ _ _;rw[aZ];go_grown
 have gQ:ak (W0.heap.size=w.heap.size+3):=by show _=_;rw[aZ];simp
 have IU:ak (au W0 w.heap.size 86 [I J u,V A1 ts.length c1]):=by
  show au _ _ _ _;rw[aZ];exact (au.new w 86 [I J u,V A1 ts.length c1]).next aV
 have y7:ak (au W0 (w.heap.size+1) 86 [I J v,V A2 us.length c2]):=by
  show au _ _ _ _;rw[aZ];have:=(au.new (w.alloc (Is #[I J u,V A1 ts.length c1] 86)) 86 [I J v,V A2 us.length c2]).next (w':=((w.alloc (Is #[I J u,V A1 ts.length c1] 86)).alloc (Is #[I J v,V A2 us.length c2] 86)).alloc (Is #[I J 0,V U 0 0] 86)) aV;simpa using this
 have DZ:ak (au W0 (w.heap.size+2) 86 [I J 0,V U 0 0]):=by
  show au _ _ _ _;rw[aZ];have:=au.new ((w.alloc (Is #[I J u,V A1 ts.length c1] 86)).alloc (Is #[I J v,V A2 us.length c2] 86)) 86 [I J 0,V U 0 0];simpa using this
 obtain⟨L,hL⟩:=aD (ts++us)
 have hLl:L.length<=2000:=by rw[hL,List.length_append];omega
 have hbc:Ix W0.heap.size W0 (W0.alloc (Is #[V A1 ts.length c1,V A2 us.length c2] 84)).drew:=aV;have HCC:ak (I0 Tryz.prog 209 #[V (M ⟨W0.heap.size,0,U⟩) 2 2] (W0.alloc (Is #[V A1 ts.length c1,V A2 us.length c2] 84)).drew λe w'=>∃ A c,e=If (V A L.length c)/\IZ w' w'.heap.size A n L/\Ix W0.heap.size W0 w'/\∀ q,L9 L.length A q->W0.heap.size<=q):=by
  have hb':Ix w.heap.size w (W0.alloc (Is #[V A1 ts.length c1,V A2 us.length c2] 84)).drew:=HB0.o.trans (hbc.mono HB0.o.size);have hc:=au.new W0 84 [V A1 ts.length c1,V A2 us.length c2];refine (Jd W0.heap.size 0 A1 A2 c1 c2 n ts us _ (by have:=hc.cell 0;exact this) (by have:=hc.cell 1;exact this) (hT.below hb') (hU.below hb') ht hu nT nU).mono ?_;rintro e w' ⟨A,c,rfl,h2,h3,h4⟩
  rw[<-hL] at h2 h4 ⊢;exact⟨A,c,rfl,h2,hbc.trans (h3.mono hbc.size),λq hq=>Mp hbc.size (h4 q hq)⟩
 have HGA:ak (∀ A c wx,IZ wx wx.heap.size A n L->I0 Tryz.prog 111 #[I J u,V A L.length c] wx (Cj u A n L wx)):=λA c wx h=>qQ u A c n L wx ah ah h
 rw[<-hL];have p1:W0.cell? ⟨w.heap.size,0,U⟩=M (I J u):=ay IU.o
 have p2:W0.cell? ⟨w.heap.size,1,U⟩=M (V A1 ts.length c1):=ay IU.o
 have p3:W0.cell? ⟨w.heap.size+1,1,U⟩=M (V A2 us.length c2):=ay y7.o
 have hz0:=gQ.o;have p1':(W0.alloc (Is #[V A1 ts.length c1,V A2 us.length c2] 84)).cell? ⟨w.heap.size,0,U⟩=M (I J u):=aB p1 aV;have dI:=aj aZ;have HNF:ak (∀ R,Canon R->(∀ e,eH R e=eH L e)->R=kD L):=λR h1 h2=>pO h1 h2
 clear hT hU nT nU hL aZ hz0 hbc;go_enter func133,ntmps133;go_wp2_with fail;rw[<-dI.o]
 go_region_law (first
  | (go_simp;go_at_call 209;refine HCC.o.mono ?_;rintro e w4 ⟨A4,c4,rfl,hR4,hb4,hq4⟩;have y1:=aB p1 hb4;have HG4:=aj (HGA.o A4 c4 w4 hR4);have Te:=aj hb4;have LV:=aj hq4;clear hR4 hb4 hq4)
  | (go_simp;go_at_call 111;refine HG4.o.mono ?_;rintro e w5 ⟨A5,c5,R,rfl,vZ,hcan,Eo,_,_,hO⟩;have hblk:w5.heap[w.heap.size+2]? = w4.heap[w.heap.size+2]?:=(hO.block _ (by have:=Te.o.size;have:=gQ.o;omega) (λh=>by have:=LV.o _ h;have:=gQ.o;omega));have hr:au w5 (w.heap.size+2) 86 [I J 0,V U 0 0]:=hblk.trans (DZ.o.next Te.o);
       have y3:w5.cell? ⟨w.heap.size+2,0,U⟩=M (I J 0):=(by rw[hr.cell];rfl);have y4:w5.cell? ⟨w.heap.size+2,1,U⟩=M (V U 0 0):=(by rw[hr.cell];rfl);have f3:w5.frozen? ⟨w.heap.size+2,0,U⟩=false:=hr.frozen _;have f4:w5.frozen? ⟨w.heap.size+2,1,U⟩=false:=hr.frozen _;have HRR:=aj (HNF.o R hcan Eo);have HRT:=aj vZ;have HO:=aj hO;have HR:=aj hr;clear vZ hcan Eo hO hblk hr))
 all_goals
  have hr:=HR.o;have hD1:=hr.aJ 0 (I J u);have hD2:=hD1.aJ 1 (V A5 R.length c5);have z0:=hD1.cell 0;have z1:=hD2.cell 1;simp only[eY] at z0 z1;clear hr hD1 hD2;have HE:ak (nR u (kD L) w (If (fJ u A5 R.length c5)) ((w5.setCell ⟨w.heap.size+2,0,U⟩ (I J u)).setCell ⟨w.heap.size+2,1,U⟩ (V A5 R.length c5))):=by
   show nR _ _ _ _ _;rw[<-HRR.o];have hs:=gQ.o;have hs4:=Te.o.size;have hb4:Ix w.heap.size w w4:=HB0.o.trans (Te.o.mono HB0.o.size);exact nR.of (hb4.trans (HO.o.below ah (λq hq=>by have:=LV.o q hq;omega))) HRT.o ah _ _
  go_wp2;refine bodyPost_ret (v:=fJ u A5 R.length c5) (by simp[results,results133,go_sem,z0,z1]) rfl ?_;exact HE.o
end
section
open Go
theorem oU{w:Iv}{a:I3}{v:I1}{o:Obj}(h:w.cell? a=M v):(w.alloc o).cell? a=M v:=(World.cell?_alloc_some w a o (by rw[h];rfl)).trans h
section
variable {P:Program}{ops:Array Oper}{Q:Exit->Act->Iv->Prop}{md:Region.Mode}{S:Iv->Prop}{n:Nat}
def DU(P:Program)(md:Region.Mode)(ops:Array Oper)(Q:Exit->Act->Iv->Prop)(S:Iv->Prop)(n:Nat):Nat->Array Bool->Act->Iv->Prop
 | 0,listed,a,w=>Region.ready md ops listed=[]/\Q .normal a w
 | fuel+1,listed,a,w=>
  (Region.ready md ops listed=[]->Q .normal a w) /\
  ∀ i∈Region.ready md ops listed,wpOp P ops Q i (λa' w'=>(i=n∨S w')/\DU P md ops Q S n fuel (listed.setIfInBounds i true) a' w') a w
theorem DV:∀ (fuel:Nat) (listed:Array Bool) (a:Act) (w:Iv),DU P md ops Q S n fuel listed a w->wpAny P md ops Q fuel listed a w
 | 0,_,_,_,h=>h
 | fuel+1,_,_,_,h=>⟨h.1,λi hi=>wpOp_mono (λa' w' h'=>DV fuel _ a' w' h'.2) (h.2 i hi)⟩
variable{i:Nat}{oi:Oper}{v:I1}
theorem Ic(hi:ops[i]? = M oi)(aij:∀ (j:Nat) (o:Oper) cs b,ops[j]? = M o->o.op≠.select cs b)
  (hQ:∀ c a w,Q (.panic c) (a.put oi.dst v) w->Q (.panic c) a w) (hs:Region.sinkB md ops n=true) (hc:Region.chainB md ops n=true) (hn:n<ops.size) (hin:i<n) :
  ∀ (fuel:Nat) (listed:Array Bool) (a:Act) (w:Iv),HeadInv md ops n listed ->
   (∀ j oj,ops[j]? = M oj->j≠i->listed.getD j true=false->(∀ e∈oj.after,Region.binds md e=true->e.on≠i)->oi.apart ops oj=true) ->
   i∈Region.ready md ops listed->YieldsIf P ops S oi v a->S w ->
   DU P md ops Q S n fuel (listed.setIfInBounds i true) (a.put oi.dst v) w->DU P md ops Q S n (fuel+1) listed a w:=by
 intro fuel
 induction fuel with
 | zero=>
  intro listed a w inv _ hr hy hS H;refine⟨λh=>(by rw[h] at hr;cases hr),λj hj=>?_⟩
  by_cases hji:j=i
  ·subst hji;exact hy.wpOp hi hS ⟨.inr hS,H⟩
  ·have:=ready_mono hj hji
   rw[H.1] at this;cases this
 | succ fuel ih=>
  intro listed a w inv hfree hr hy hS H;have Zc:=(mem_ready.1 hr).1;refine⟨λh=>(by rw[h] at hr;cases hr),λj hj=>?_⟩
  by_cases hji:j=i
  ·subst hji;exact hy.wpOp hi hS ⟨.inr hS,H⟩
  ·have hjn:j<n:=by
    rcases Nat.lt_or_ge j n with h | h
    ·exact h
    ·exact absurd hj (tail_waits hs hc hn inv _ i rfl hin Zc j h)
   have h1:=H.2 j (ready_mono hj hji);obtain⟨afs,oj,hoj,hall⟩:=mem_ready.1 hj;have hnot:∀ e∈oj.after,Region.binds md e=true->e.on≠i:=λe he hb heq=>by
    have h1:=hall e he hb;rw[heq,getD_both Zc] at h1;cases h1
   have h2:=wpOp_putIf hoj (hfree j oj hoj hji afs hnot) (λcs b=>aij i oi cs b hi) (λcs b=>aij j oj cs b hoj) hQ hy h1;have hfree':∀ k ok,ops[k]? = M ok->k≠i->(listed.setIfInBounds j true).getD k true=false ->
     (∀ e∈ok.after,Region.binds md e=true->e.on≠i)->oi.apart ops ok=true:=λk ok hk hki Zc hno=>by
    refine hfree k ok hk hki ?_ hno
    by_cases hjk:j=k
    ·subst hjk;exact afs
    ·rw[getD_set_ne true hjk] at Zc;exact Zc
   refine wpOp_mono (λa' w' h3=>?_) h2;have hS':S w':=h3.2.1.resolve_left ah;refine⟨.inr hS',ih (listed.setIfInBounds j true) a' w' (inv.set hj hjn) hfree' (ready_mono hr (Ne.symm hji)) h3.1 hS' ?_⟩;rw[Array.setIfInBounds_comm _ _ hji];exact h3.2.2
def aO(P:Program)(ops:Array Oper)(Q:Exit->Act->Iv->Prop)(S:Iv->Prop)(n:Nat)(fuel:Nat)(listed:Array Bool)(a:Act)(w:Iv):Prop:=
 HeadInv .any ops n listed->DU P .any ops Q S n fuel listed a w
def xG(ops:Array Oper)(n:Nat):Bool:=Region.noSelect ops&&decide (n+1=ops.size)&&Region.sinkB .any ops n&&Region.chainB .any ops n
variable{a:Act}{w:Iv}
theorem aO.start{id:Nat}(n:Nat)(hm:P.follows .mixedOrders=true)(hB:xG ops n=true)(hS:S w.drew)(h:S w.drew->xG ops n=true->aO P ops Q S n ops.size (Array.replicate ops.size false) a w.drew) :
  (Code.region id ops true).wp P Q a w:=by
 have hB':=hB;simp only[xG,Mb,decide_eq_true_eq] at hB;have inv0:HeadInv .any ops n (Array.replicate ops.size false):=
  ⟨by simp,λj oj _ hl=>(by rw[getD_replicate_false] at hl;cases hl),λt _ ht=>getD_in (by simpa using ht) (getD_replicate_false _ _)⟩
 exact wp_region_any hm (DV _ _ _ _ (h hS hB' inv0))
variable{fuel:Nat}{listed:Array Bool}
theorem aO.take(hB:xG ops n=true)(hi:ops[i]? = M oi)(hin:i<n)
  (hf:Region.free .any ops listed i=true) (hr:(Region.ready .any ops listed).contains i=true)
  (hQ:∀ c a w,Q (.panic c) (a.put oi.dst v) w->Q (.panic c) a w) (hy:YieldsIf P ops S oi v a) (hS:S w)
  (h:aO P ops Q S n fuel (listed.setIfInBounds i true) (a.put oi.dst v) w):aO P ops Q S n (fuel+1) listed a w:=λinv=>by
 simp only[xG,Mb,decide_eq_true_eq] at hB;have hr':i∈Region.ready .any ops listed:=by simpa using hr
 exact Ic hi (Region.noSelect_spec hB.1.1.1) hQ hB.1.2 hB.2 ah hin fuel listed a w inv (Region.free_spec hi hf) hr' hy hS (h (inv.set hr' hin))
theorem aO.step{i:Nat}{oi:Oper}{fuel:Nat}{listed:Array Bool}{a:Act}{w:Iv}(hi:ops[i]? = M oi)(hin:i<n)(hr:Region.ready .any ops listed=[i])
  (h:∀ K':Act->Iv->Prop,Shut (∀ a w,S w->(S w->aO P ops Q S n fuel (listed.setIfInBounds i true) a w)->K' a w)->if Region.wanted oi (yielded ops a.tmps)=true then Oper.wp P oi a w K' Q else K' (a.put oi.dst undef) w) :
  aO P ops Q S n (fuel+1) listed a w:=λinv=>by
 have hi':i∈Region.ready .any ops listed:=by rw[hr];simp
 refine⟨λh0=>(by rw[hr] at h0;cases h0),λj hj=>?_⟩;rw[hr] at hj;have hji:j=i:=by simpa using hj
 subst hji;exact wpOp_step hi (λK' hK=>h K' (λa w hS hW=>hK a w ⟨.inr hS,hW hS (inv.set hi' hin)⟩))
theorem aO.last(hi:ops[n]? = M oi)(hr:Region.ready .any ops listed=[n])(hd:Region.ready .any ops (listed.setIfInBounds n true)=[])
  (h:∀ K':Act->Iv->Prop,Shut (∀ a w,Q .normal a w->K' a w)->if Region.wanted oi (yielded ops a.tmps)=true then Oper.wp P oi a w K' Q else K' (a.put oi.dst undef) w) :
  aO P ops Q S n (fuel+1) listed a w:=λ_=>by
 refine⟨λh0=>(by rw[hr] at h0;cases h0),λj hj=>?_⟩;rw[hr] at hj;have hji:j=n:=by simpa using hj
 subst hji;refine wpOp_step hi (λK' hK=>h K' (λa w hq=>hK a w ⟨.inl rfl, ?_⟩));cases fuel with
 | zero=>exact⟨hd,hq⟩
 | succ f=>exact⟨λ_=>hq,by rw[hd];simp⟩
inductive NxL:List Bool->Nat->Prop
 | z {l:List Bool}:NxL (false::l) 0
 | s {l:List Bool}{i:Nat}:NxL l i->NxL (true::l) (i+1)
inductive NxA:Array Bool->Nat->Prop
 | z {n:Nat}:NxA (Array.replicate n false) 0
 | s {a:Array Bool}{i:Nat}:NxA a i->NxA (a.setIfInBounds i true) (i+1)
 | l {l:List Bool}{i:Nat}:NxL l i->NxA l.toArray i
variable{P:Program}{Q:Exit->Act->Iv->Prop}{S:Iv->Prop}{n:Nat}{l:List Oper}
theorem aO.tk(hB:xG l.toArray n=true)(hS:S w)
  (h:aO P l.toArray Q S n fuel (listed.setIfInBounds i true) (a.put oi.dst v) w)
  (_hx:NxA listed i:=by repeat (first | exact NxA.z | refine NxA.s ?_ | (refine NxA.l ?_;repeat (first | exact NxL.z | refine NxL.s ?_)))) (hi:l[i]? = M oi:=by rfl) (hin:i<n:=by decide) (hf:Region.free .any l.toArray listed i=true:=by kernel_rfl)
  (hr:(Region.ready .any l.toArray listed).contains i=true:=by kernel_rfl) (hQ:∀ c a w,Q (.panic c) (a.put oi.dst v) w->Q (.panic c) a w:=by exact λ_ _ _ h=>h)
  (hy:YieldsIf P l.toArray S oi v a:=by first | exact Or.inr ⟨by rfl,rfl⟩ | (refine Or.inl ⟨by rfl,?_⟩;((intro w hSw;(try dsimp only at hSw);go_simp)<;>with_reducible rfl))) :
  aO P l.toArray Q S n (fuel+1) listed a w:=
 aO.take hB (by rw[List.getElem?_toArray];exact hi) hin hf hr hQ hy hS h
theorem aO.ti(hB:xG l.toArray n=true)(hS:S w)
  (h:aO P l.toArray Q S n fuel (listed.setIfInBounds i true) (a.put oi.dst v) w)
  (hi:l[i]? = M oi:=by rfl) (hin:i<n:=by decide) (hf:Region.free .any l.toArray listed i=true:=by kernel_rfl)
  (hr:(Region.ready .any l.toArray listed).contains i=true:=by kernel_rfl) (hQ:∀ c a w,Q (.panic c) (a.put oi.dst v) w->Q (.panic c) a w:=by exact λ_ _ _ h=>h)
  (hy:YieldsIf P l.toArray S oi v a:=by first | exact Or.inr ⟨by rfl,rfl⟩ | (refine Or.inl ⟨by rfl,?_⟩;((intro w hSw;(try dsimp only at hSw);go_simp)<;>with_reducible rfl))) :
  aO P l.toArray Q S n (fuel+1) listed a w:=
 aO.take hB (by rw[List.getElem?_toArray];exact hi) hin hf hr hQ hy hS h
theorem aP:(∀ (a:Act) (d:Nat) (v:I1),Act.put a (M d) v={ a with tmps:=a.tmps.setIfInBounds d v })/\(∀ (a:Act) (v:I1),Act.put a U v=a) /\
  (∀ (l:List I1) (i:Nat) (v:I1),l.toArray.setIfInBounds i v=(l.set i v).toArray)/\(∀ (l:List Bool) (i:Nat) (v:Bool),l.toArray.setIfInBounds i v=(l.set i v).toArray) /\
  (∀ (x:I1) (l:List I1) (v:I1),(x :: l).set 0 v=v :: l)/\(∀ (x:Bool) (l:List Bool) (v:Bool),(x :: l).set 0 v=v :: l) /\
  (∀ (x:I1) (l:List I1) (i:Nat) (v:I1),(x :: l).set (i+1) v=x :: l.set i v)/\(∀ (x:Bool) (l:List Bool) (i:Nat) (v:Bool),(x :: l).set (i+1) v=x :: l.set i v):=
 ⟨λ_ _ _=>rfl,λ_ _=>rfl,λ_ _ _=>by simp,λ_ _ _=>by simp,λ_ _ _=>rfl,λ_ _ _=>rfl,λ_ _ _ _=>rfl,λ_ _ _ _=>rfl⟩
end
end
section
open Go.RowKit Plain
variable{ts:List av}
theorem GInv.takeC(h:Canon ts)(i:Nat):GInv ts i (ts.take i):=by
 refine⟨⟨h.Ef.sublist (List.take_sublist _ _),λt ht=>h.sN t (List.mem_of_mem_take ht)⟩,λhi t ht=>?_,λe=>rfl⟩;have h1:=List.pairwise_append.1 ((List.take_append_drop i ts).symm ▸ h.Ef);refine h1.2.2 t ht _ ?_;rw[List.drop_eq_getElem_cons hi];have:aR ts i=ts[i]:=by simp[aR,Up,hi]
 rw[this];exact M3 ..
theorem Qo{i:Nat}(h:i<ts.length):ts.take (i+1)=ts.take i++[((aR ts i).1,(aR ts i).2)]:=by
 rw[List.take_add_one,l7 h];rfl
theorem NZ{w w':Iv}{B b1 b2 b3 o1 o2 o3 o4:Nat}{x1 x2 x3 x4:I1}(h:w.cell? ⟨b1,o1,U⟩=M x1/\w.cell? ⟨b2,o2,U⟩=M x2/\w.cell? ⟨b3,o3,U⟩=M x3/\w.cell? ⟨b3,o4,U⟩=M x4)(hl:b1<B/\b2<B/\b3<B)(hb:Ix B w w') :
  w'.cell? ⟨b1,o1,U⟩=M x1/\w'.cell? ⟨b2,o2,U⟩=M x2/\w'.cell? ⟨b3,o3,U⟩=M x3/\w'.cell? ⟨b3,o4,U⟩=M x4:=
 ⟨(hb.cell (p:=⟨b1,o1,U⟩) hl.1).trans h.1,(hb.cell (p:=⟨b2,o2,U⟩) hl.2.1).trans h.2.1,(hb.cell (p:=⟨b3,o3,U⟩) hl.2.2).trans h.2.2.1,(hb.cell (p:=⟨b3,o4,U⟩) hl.2.2).trans h.2.2.2⟩
def aaJ(u:Int)(R:List av)(w:Iv)(e:Ending)(w':Iv):Prop:=
 ∃ A' cp,e=If (fJ u A' R.length cp)/\gT w' w.heap.size (V A' R.length cp) R/\Ix w.heap.size w w'
theorem l8(k:Int)(hk0:1<=k)(hk1:k<=1000002)(b o:Nat)(u:Int)(A:Option I3)(cap:Nat)(ts:List av)(w:Iv)(h0:w.cell? ⟨b,o,U⟩=M (I J u))(h1:w.cell? ⟨b,o+1,U⟩=M (V A ts.length cap))(hT:eX w A ts)(dh:aQ u ts=true) :
  I0 Tryz.prog 199 #[ptr b o,I J k] w (aaJ u (dW k ts) w):=by
 obtain⟨i0,hi,hz0,hz1,hz2⟩:=info_parts Tryz.infoT;have hsz:=bC dh;have ah3:=hsz.2.2;have afz:u.toNat<=12:=ah;clear hsz;have hbw:b<w.heap.size:=World.block_lt_of_cell? _ _ h0;have Il:=aj dh;have HT:=aj hT;have HQ:ak (w.cell? ⟨b,o,U⟩=M (I J u)/\w.cell? ⟨b,o+1,U⟩=M (V A ts.length cap)):=⟨h0,h1⟩
 obtain⟨n,hn⟩:=aD u.toNat
 have LK:ak (jG n ts):=by rw[hn];exact bS dh
 have HCN:ak (Canon (dW k ts)):=(dV dh).scl hk0 hk1;obtain⟨us,sW⟩:=aD (dW k ts)
 have HUL:ak (us.length=ts.length):=by rw[sW];exact Bf k ts
 have HUS:=aj sW;rw[<-sW] at HCN;rw[<-sW];have hkn:¬ k=0:=ah;have hkb:(k != 0)=true:=by simp;omega
 clear sW;rw[<-hn] at afz;clear hn dh hT h1;go_enter func199,ntmps199;go_wp2_with fail;obtain⟨W0,aZ⟩:=aD ((w.alloc (Is #[I J 0,V U 0 0] 86)).alloc (Is #[I J u,V U 0 0] 86))
 have hb1:Ix w.heap.size w (w.alloc (Is #[I J 0,V U 0 0] 86)):=aV;have CS:W0.heap.size=w.heap.size+1+1:=by rw[aZ];simp
 have HB0:ak (Ix w.heap.size w W0):=by show Ix _ _ _;rw[aZ];go_grown
 have D_:ak (au W0 w.heap.size 86 [I J 0,V U 0 0]):=by
  show au _ _ _ _;rw[aZ];exact (au.new w 86 [I J 0,V U 0 0]).next aV
 have HST:ak (LA W0 (w.heap.size+1) (w.heap.size+1+1) u us (us.take 0) 0 0 0 U W0):=by
  refine⟨?_,rfl,gT.EA _ _,GInv.takeC HCN.o 0,aC.refl _ _,ah,CS.symm⟩;rw[aZ];have:=au.new (w.alloc (Is #[I J 0,V U 0 0] 86)) 86 [I J u,V U 0 0];simpa using this
 rw[<-aZ];have Tt:=aj CS;clear aZ CS hb1 h0
 go_loopg [6] (ts.length+1) (λkx s6 wr=>∃ (i cp:Nat) (A':Option I3),s6=I J (i:Int)/\i<=ts.length/\ts.length - i<kx/\ak (LA W0 (w.heap.size+1) (w.heap.size+1+1) u us (us.take i) i i cp A' wr))
 case atStart=>exact⟨0,0,U,by first | rfl | go_num,ah,ah,HST⟩
 case round=>
  clear HST;obtain⟨i,cp,A',rfl,hin,hkx,HG⟩:=hrel;obtain⟨wo,rfl⟩:=aD wr
  have jF:ak (Ix w.heap.size w wo):=HB0.o.trans (HG.o.only.below (by have:=Tt.o;omega) (λk hk=>ah));have q0:wo.cell? ⟨b,o,U⟩=M (I J u):=aB HQ.o.1 jF.o;have q1:wo.cell? ⟨b,o+1,U⟩=M (V A ts.length cap):=aB HQ.o.2 jF.o
  by_cases hlt:i<ts.length
  ·have hiz:(i:Int)<(ts.length:Int):=ah
   obtain⟨bt,ot,Ai,ci,rfl,Iu,Lh,Li,tI',_⟩:=HT.o.at_ hlt;have t0:=aB Lh jF.o;have t1:=aB Li jF.o;have tI:=tI'.below jF.o;clear Lh Li tI';have hlen:(aR ts i).1.length=n:=LK.o _ (eZ hlt);have hok1:=bV (bZ Il.o (eZ hlt));rw[hlen] at t0;have HTI:=aj tI;obtain⟨c,hc⟩:=aD ((aR ts i).2)
   obtain⟨E,hE⟩:=aD ((aR ts i).1)
   rw[<-hc] at t1;obtain⟨d,hd⟩:=aD (tm c k)
   rw[<-hE] at hlen HTI;have oJ:=aj hlen;have BK:ak (us.take (i+1)=us.take i++[(E,d)]):=by show _=_;rw[hE,hd,hc,Qo (by rw[HUL.o];exact hlt),HUS.o,ab3 hlt]
   have HTM:ak (∀ wx,I0 Tryz.prog 125 #[I J c,I J k] wx λe w'=>e=If (I J d)/\wx=w'):=λwx=>by
    rw[hd];exact l6 c k wx
   clear hok1 hc hE hlen tI hd;have hp1:wo.cell? ⟨w.heap.size+1,1,U⟩=M (V A' i cp):=ay HG.o.box
   have hpf:wo.frozen? ⟨w.heap.size+1,1,U⟩=false:=HG.o.box.frozen _;have hpl:w.heap.size+1<wo.heap.size:=HG.o.box.lt;obtain⟨L,Ir⟩:=HG.o.row;have hlenL:=HG.o.len;have L6:=aj Ir;have yY:ak (I0 Tryz.prog 244 #[V Ai n ci] wo.drew λe w'=>∃ A c,e=If (V A n c)/\bg w' wo.heap.size (V A E.length c) E/\Ix wo.heap.size wo w'):=by
    have h:=Dp Ai ci E wo.drew (HTI.o.below (Jx _ _).drew) (by rw[oJ.o];omega);rw[oJ.o] at h;exact h.mono λe w' ⟨A,c,h1,h2,h3⟩=>⟨A,c,by rw[oJ.o] at h1;exact h1,h2,⟨h3.os,h3.tape,h3.output,h3.size,h3.block⟩⟩
   have HPU:ak (∀ (uu v2:I1) (w2 w3:Iv),bg w2 wo.heap.size uu E->Ix wo.heap.size wo w2->w3.ownsRow (w.heap.size+1+1) 173 2 v2 (i+1) (bW L++[uu,I J d])->w2.grownBy w3 (V A' i cp).ownBlock ->
     ∃ A2 c2,v2=V A2 (i+1) c2/\Ix (w.heap.size+1+1) wo w3/\LA W0 (w.heap.size+1) (w.heap.size+1+1) u us (us.take (i+1)) (i+1) (i+1) c2 A2 (w3.setCell ⟨w.heap.size+1,1,U⟩ (V A2 (i+1) c2))):=by
    intro uu v2 w2 w3 hu hb hown hg;have h:=HG.o.push (j:=i+1) L6.o hb hu hown hg (by rw[<-BK.o];exact GInv.takeC HCN.o _)
    rwa [<-BK.o] at h
   have gI:ak (wo.cell? ⟨w.heap.size+1,1,U⟩=M (V A' i cp)/\wo.cell? ⟨b,o+1,U⟩=M (V (M ⟨bt,ot,U⟩) ts.length cap)/\wo.cell? ⟨bt,ot+i*2+1,U⟩=M (I J c)):=⟨hp1,q1,t1⟩
   have nJ:ak (∀ w2,Ix wo.heap.size wo w2->w2.ownsRow (w.heap.size+1+1) 173 2 (V A' i cp) i (bW L)):=λw2 hb=>by
    have h:=iW L6.o.own (w':=w2) λg' hg'=>hb.block g' (World.ownsRow.lt L6.o.own g' hg').2
    rwa [hlenL] at h
   have Pf:ak (i+1<=I2/\(i+1)*32<=140737488355328):=⟨by unfold I2;omega,ah⟩
   have qM:ak (w.heap.size+1+1<=wo.heap.size):=by show _<=_;omega
   have lH:ak (E.length=n):=oJ.o;clear Ir hlenL L6 HTI BK HG oJ;go_wp2_with fail;have gQ:ak (wo.cell? ⟨w.heap.size+1,1,U⟩=M (V A' i cp)/\wo.cell? ⟨b,o+1,U⟩=M (V (M ⟨bt,ot,U⟩) ts.length cap)/\wo.cell? ⟨bt,ot+i*2,U⟩=M (V Ai n ci)/\wo.cell? ⟨bt,ot+i*2+1,U⟩=M (I J c)):=⟨hp1,q1,t0,t1⟩
   have agv:ak (w.heap.size+1<w.heap.size+1+1/\b<w.heap.size+1+1/\bt<w.heap.size+1+1):=⟨ah,ah,ah⟩
   refine aO.start (S:=(λwx=>wx.cell? ⟨w.heap.size+1,1,U⟩=M (V A' i cp)/\wx.cell? ⟨b,o+1,U⟩=M (V (M ⟨bt,ot,U⟩) ts.length cap)/\wx.cell? ⟨bt,ot+i*2,U⟩=M (V Ai n ci)/\wx.cell? ⟨bt,ot+i*2+1,U⟩=M (I J c))) 25 aL aL ?S0 (λaA hB=>?_)
   case S0=>((try dsimp only);exact gQ.o)
   iterate 10 (refine aO.tk hB aA ?_;try simp only[aP])
   (refine aO.ti (i:=11) hB aA ?_;try simp only[aP])
   (refine aO.ti (i:=12) hB aA ?_;try simp only[aP])
   (refine aO.ti (i:=13) hB aA ?_;try simp only[aP])
   (refine aO.ti (i:=14) hB aA ?_;try simp only[aP])
   (refine aO.ti (i:=15) hB aA ?_;try simp only[aP])
   (refine aO.ti (i:=16) hB aA ?_;try simp only[aP])
   (refine aO.ti (i:=17) hB aA ?_;try simp only[aP])
   (refine aO.ti (i:=18) hB aA ?_;try simp only[aP])
   (refine aO.ti (i:=19) hB aA ?_;try simp only[aP])
   refine aO.step (i:=10) rfl bM aL (λK hK=>?_);go_simp
   go_at_call 244
   with_reducible refine yY.o.mono ?_
   rintro e w2 ⟨Au,cu,rfl,hu,hb1⟩;go_wp2_with fail;refine hK.out _ _ (by (try dsimp only);exact NZ gQ.o agv.o (hb1.mono qM.o)) ?_;clear hK K aA;intro aA
   (try simp only[aP])
   refine aO.step (i:=20) rfl bM aL (λK hK=>?_);go_simp
   go_at_call 125
   refine (HTM.o _).mono ?_;rintro e w' ⟨rfl,rfl⟩;go_wp2_with fail;refine hK.out _ _ (by (try dsimp only);exact aA) ?_;clear hK K aA;intro aA
   (try simp only[aP])
   (refine aO.tk hB aA ?_;try simp only[aP])
   refine aO.step (i:=22) rfl bM aL (λK hK=>?_);go_simp;refine hK.out _ _ (by (try dsimp only);exact⟨oU aA.1,oU aA.2.1,oU aA.2.2.1,oU aA.2.2.2⟩) ?_;clear hK K aA;intro aA
   (try simp only[aP])
   refine aO.step (i:=23) rfl bM aL (λK hK=>?_);refine mR rfl (.tmp 24) (.tmp 45) 84 rfl (w.heap.size+1+1) 173 i0 (Qp U 0 0 0) 2 32 underlying84 hi hz0 hz1 hz2 rfl bM (V A' i cp) i (bW L) (by simp[Act.eval]) ((nJ.o w2 hb1).alloc _) ⟨w2.heap.size,0,U⟩ 1 1 [V Au n cu,I J d] (by simp[Act.eval]) rfl (Af _ _ _ _) (Zy _) Pf.o.1 Pf.o.2 (by have:=hb1.size;have:=qM.o;simp at *;omega) ?_
   intro v2 w3 hown hg3;obtain⟨A2,c2,rfl,hb3,hG3⟩:=HPU.o _ _ _ _ (hu.alloc _) (hb1.alloc hb1.size _) (by rw[lH.o];exact hown) hg3;refine hK.out _ _ (by (try dsimp only);exact NZ gQ.o agv.o hb3) ?_;clear hK K aA;intro aA
   (try simp only[aP])
   have z1:=(hb3.cell (p:=⟨w.heap.size+1,1,U⟩) (Nat.lt_succ_self _)).trans gI.o.1;have z2:=(hb3.frozen (p:=⟨w.heap.size+1,1,U⟩) (Nat.lt_succ_self _)).trans hpf
   (refine aO.tk hB aA ?_;try simp only[aP])
   refine aO.last rfl aL aL (λK hK=>?_);go_simp;refine hK.out _ _ ?_;clear hK K
   all_goals
    have Ec:=aj hG3;clear hG3 hb3 hown hg3 hu hb1;go_wp2
    go_roundg (ts.length - (i+1)+1)
    case measure=>omega
    case rel=>exact⟨i+1,c2,A2,by first | rfl | go_num,ah,ah,Ec⟩
  ·obtain rfl:i=ts.length:=ah
   have hb:=HG.o.box;have x0:wo.cell? ⟨w.heap.size+1,0,U⟩=M (I J u):=ay hb
   have x1:wo.cell? ⟨w.heap.size+1,1,U⟩=M (V A' ts.length cp):=ay hb
   have hC:au wo w.heap.size 86 [I J 0,V U 0 0]:=(HG.o.only.block w.heap.size (by have:=Tt.o;omega) ah).trans D_.o;have y0:wo.cell? ⟨w.heap.size,0,U⟩=M (I J 0):=ay hC
   have y1:wo.cell? ⟨w.heap.size,1,U⟩=M (V U 0 0):=ay hC
   have f0:wo.frozen? ⟨w.heap.size,0,U⟩=false:=hC.frozen _;have f1:wo.frozen? ⟨w.heap.size,1,U⟩=false:=hC.frozen _;have hD1:=hC.aJ 0 (I J u);have hD2:=hD1.aJ 1 (V A' ts.length cp);have z0:=hD1.cell 0;have z1:=hD2.cell 1;simp only[eY] at z0 z1;have HE:ak (aaJ u us w (If (fJ u A' ts.length cp)) ((wo.setCell ⟨w.heap.size,0,U⟩ (I J u)).setCell ⟨w.heap.size,1,U⟩ (V A' ts.length cp))):=by
    have hO2:aC (λq=>q=w.heap.size) wo ((wo.setCell ⟨w.heap.size,0,U⟩ (I J u)).setCell ⟨w.heap.size,1,U⟩ (V A' ts.length cp)):=
     ⟨rfl,rfl,rfl,by simp[World.setCell],λq _ hq=>(J1 _ _ _ _ hq).trans (J1 _ _ _ _ hq)⟩
    have ael:=HG.o.row;rw[List.take_of_length_le (Nat.le_of_eq HUL.o)] at ael;have hrow:=ael.only hO2 (λq hq e=>by have e':q=w.heap.size:=e;omega);exact⟨A',cp,by rw[HUL.o],by rw[HUL.o];exact hrow.lower ah,(jF.o.setCell (p:=⟨w.heap.size,0,U⟩) (Jn _) _).setCell (p:=⟨w.heap.size,1,U⟩) (Jn _) _⟩
   have hz:¬ (ts.length:Int)<(ts.length:Int):=ah;clear hb hC hD1 hD2 HG;go_wp2;refine bodyPost_ret (v:=fJ u A' ts.length cp) (by simp[results,results199,go_sem,z0,z1]) rfl ?_;exact HE.o
end
end Go.Proofs.YtgfkglhelfkpoaaGreat
