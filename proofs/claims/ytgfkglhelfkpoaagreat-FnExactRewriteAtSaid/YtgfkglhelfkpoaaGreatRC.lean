/- Parts of the proof. -/
import Derived.Test.YtgfkglhelfkpoaaGreatRB
import Derived.Deep.Fields
set_option maxRecDepth 100000
set_option maxHeartbeats 2000000
open Go.Proofs.Tryz
open Go.Value renaming int→I,slice→V
open Go.IntKind renaming i64→J
open Option renaming some→M,none→U
open Go.Ending renaming returned→If
open Go.Obj renaming cells→Is
open Go renaming World→Iv,Calls→I0,Value→I1,maxLen→I2,Addr→I3
open Go.RowKit renaming Below→Ix
open Nat renaming le_refl→Jn,add_zero→Mm,zero_mul→Mn,zero_add→Mu,lt_of_lt_of_le→M1
open Go.RowKit.Below renaming refl→Jx,heap_setCell→J1
namespace Go.Proofs.YtgfkglhelfkpoaaGreat
section
open Go.RowKit Go.Deep Plain
abbrev exV (k n p c:Int) (K:Option I3) (len cap:Nat):I1:=.agg #[I J k,I J n,I J p,I J c,V K len cap]
abbrev Jp (s:ByteArray) (n:Int) (K:Option I3) (len cap:Nat):I1:=.agg #[.string s,I J n,V K len cap]
abbrev rW (K:Option I3) (len cap:Nat):I1:=.agg #[V K len cap]
def aI(w:Iv)(B:Nat):Es->Nat->Nat->Prop
 | .nil,_,_=>True
 | .cons k n p c ks r,b,o=>(b<B/\w.cell? ⟨b,o,U⟩=M (I J k)/\w.cell? ⟨b,o+1,U⟩=M (I J n)/\w.cell? ⟨b,o+2,U⟩=M (I J p)/\w.cell? ⟨b,o+3,U⟩=M (I J c) /\
   ∃ (K:Option I3) (cap b' o':Nat),w.cell? ⟨b,o+4,U⟩=M (V K ks.len cap)/\ks.len<=cap/\cap<=I2/\(0<ks.len->K=M ⟨b',o',U⟩)/\aI w B ks b' o')/\aI w B r b (o+5)
def dF(w:Iv)(B:Nat)(k n p c:Int)(ks:Es)(b o:Nat):Prop:=
 b<B/\w.cell? ⟨b,o,U⟩=M (I J k)/\w.cell? ⟨b,o+1,U⟩=M (I J n)/\w.cell? ⟨b,o+2,U⟩=M (I J p)/\w.cell? ⟨b,o+3,U⟩=M (I J c) /\
   ∃ (K:Option I3) (cap b' o':Nat),w.cell? ⟨b,o+4,U⟩=M (V K ks.len cap)/\ks.len<=cap/\cap<=I2/\(0<ks.len->K=M ⟨b',o',U⟩)/\aI w B ks b' o'
def bJ(w:Iv)(B:Nat)(es:Es)(A:Option I3):Prop:=∃ b o,(0<es.len->A=M ⟨b,o,U⟩)/\aI w B es b o
variable{w w':Iv}{B:Nat}
theorem aI.below(hb:Ix B w w'):∀ {es:Es}{b o:Nat},aI w B es b o->aI w' B es b o:=by
 intro es
 induction es with
 | nil=>intro b o _;trivial
 | cons k n p c ks r BR qz=>
  rintro b o ⟨⟨hB,h0,h1,h2,h3,K,cap,b',o',h4,hc,hm,hK,hk⟩,hr⟩;exact⟨⟨hB,(hb.cell (p:=⟨b,_,U⟩) hB).trans h0,(hb.cell (p:=⟨b,_,U⟩) hB).trans h1,(hb.cell (p:=⟨b,_,U⟩) hB).trans h2,(hb.cell (p:=⟨b,_,U⟩) hB).trans h3,
   K,cap,b',o',(hb.cell (p:=⟨b,_,U⟩) hB).trans h4,hc,hm,hK,BR hk⟩,qz hr⟩
variable{B':Nat}
theorem aI.mono(hb:B<=B'):∀ {es:Es}{b o:Nat},aI w B es b o->aI w B' es b o:=by
 intro es
 induction es with
 | nil=>intro b o _;trivial
 | cons k n p c ks r BR qz=>
  rintro b o ⟨⟨hB,h0,h1,h2,h3,K,cap,b',o',h4,hc,hm,hK,hk⟩,hr⟩;exact⟨⟨M1 hB hb,h0,h1,h2,h3,K,cap,b',o',h4,hc,hm,hK,BR hk⟩,qz hr⟩
variable{k n p c:Int}{ks:Es}{b o:Nat}
theorem dF.below(h:dF w B k n p c ks b o)(hb:Ix B w w'):dF w' B k n p c ks b o:=
 (aI.below hb (es:=.cons k n p c ks .nil) ⟨h,trivial⟩).1
theorem dF.mono(h:dF w B k n p c ks b o)(hb:B<=B'):dF w B' k n p c ks b o:=
 (aI.mono hb (es:=.cons k n p c ks .nil) ⟨h,trivial⟩).1
variable{es:Es}{A:Option I3}
theorem bJ.below(h:bJ w B es A)(hb:Ix B w w'):bJ w' B es A:=by
 obtain⟨b,o,hA,h⟩:=h;exact⟨b,o,hA,h.below hb⟩
theorem bJ.mono(h:bJ w B es A)(hb:B<=B'):bJ w B' es A:=by
 obtain⟨b,o,hA,h⟩:=h;exact⟨b,o,hA,h.mono hb⟩
theorem aI.get{i:Nat}{x:Nd}(h:aI w B es b o)(hx:es.get? i=M x):dF w B x.k x.n x.p x.c x.ks b (o+i*5):=by
 induction es generalizing o i with
 | nil=>simp[Es.get?] at hx
 | cons k n p c ks r _ ih=>
  cases i with
  | zero=>simp only[Es.get?,Option.some.injEq] at hx;subst hx;rw[Mn,Mm];exact h.1
  | succ i=>simp only[Es.get?] at hx;have:=ih h.2 hx;rwa [show o+(i+1)*5=o+5+i*5 by omega]
theorem Ye:∀ (m o:Nat),(∀ i,i<m->∃ k n p c ks,dF w B k n p c ks b (o+i*5))->∃ es:Es,es.len=m/\aI w B es b o
 | 0,_,_=>⟨.nil,rfl,trivial⟩
 | m+1,o,h=>by
  obtain⟨es,hl,he⟩:=Ye m (o+5) λi hi=>by
   obtain⟨k,n,p,c,ks,hx⟩:=h (i+1) ah;exact⟨k,n,p,c,ks,by rwa [show o+5+i*5=o+(i+1)*5 by omega]⟩
  obtain⟨k,n,p,c,ks,hx⟩:=h 0 ah;rw[Mn,Mm] at hx;exact⟨.cons k n p c ks es,by simp[Es.len,hl],hx,he⟩
def fA(w:Iv)(B:Nat):List Fn->Nat->Nat->Prop
 | [],_,_=>True
 | f :: fs,b,o=>(b<B/\w.cell? ⟨b,o,U⟩=M (.string f.name)/\w.cell? ⟨b,o+1,U⟩=M (I J f.params) /\
   f.name.size<=I2/\∃ (K:Option I3) (cap:Nat),w.cell? ⟨b,o+2,U⟩=M (V K f.outs.len cap)/\f.outs.len<=cap/\cap<=I2/\bJ w B f.outs K)/\fA w B fs b (o+3)
def eP(w:Iv)(B:Nat)(fs:List Fn)(A:Option I3):Prop:=∃ b o,(0<fs.length->A=M ⟨b,o,U⟩)/\fA w B fs b o
def Bg(w:Iv)(B:Nat)(f:Fn)(b o:Nat):Prop:=
 b<B/\w.cell? ⟨b,o,U⟩=M (.string f.name)/\w.cell? ⟨b,o+1,U⟩=M (I J f.params) /\
   f.name.size<=I2/\∃ (K:Option I3) (cap:Nat),w.cell? ⟨b,o+2,U⟩=M (V K f.outs.len cap)/\f.outs.len<=cap/\cap<=I2/\bJ w B f.outs K
theorem Bg.below{f:Fn}(h:Bg w B f b o)(hb:Ix B w w'):Bg w' B f b o:=by
 obtain⟨hB,h0,h1,hs,K,cap,h2,hc,hm,hk⟩:=h;exact⟨hB,(hb.cell (p:=⟨b,_,U⟩) hB).trans h0,(hb.cell (p:=⟨b,_,U⟩) hB).trans h1,hs,K,cap,(hb.cell (p:=⟨b,_,U⟩) hB).trans h2,hc,hm,hk.below hb⟩
theorem fA.below(hb:Ix B w w'):∀ {fs:List Fn}{b o:Nat},fA w B fs b o->fA w' B fs b o
 | [],_,_,_=>trivial
 | _ :: _,_,_,h=>⟨Bg.below h.1 hb,fA.below hb h.2⟩
theorem fA.get:∀ {fs:List Fn}{b o i:Nat}{f:Fn},fA w B fs b o->fs[i]? = M f->Bg w B f b (o+i*3)
 | [],_,_,_,_,_,h=>by simp at h
 | g :: fs,b,o,0,f,h,hf=>by simp at hf;subst hf;rw[Mn,Mm];exact h.1
 | g :: fs,b,o,i+1,f,h,hf=>by
  simp at hf;have:=fA.get h.2 hf
  rwa [show o+(i+1)*3=o+3+i*3 by omega]
theorem YA:∀ (m o:Nat),(∀ i,i<m->∃ f,Bg w B f b (o+i*3))->∃ fs:List Fn,fs.length=m/\fA w B fs b o
 | 0,_,_=>⟨[],rfl,trivial⟩
 | m+1,o,h=>by
  obtain⟨es,hl,he⟩:=YA m (o+3) λi hi=>by
   obtain⟨f,hx⟩:=h (i+1) ah;exact⟨f,by rwa [show o+3+i*3=o+(i+1)*3 by omega]⟩
  obtain⟨f,hx⟩:=h 0 ah;rw[Mn,Mm] at hx;exact⟨f :: es,by simp[hl],hx,he⟩
theorem eP.below{fs:List Fn}(h:eP w B fs A)(hb:Ix B w w'):eP w' B fs A:=by
 obtain⟨b,o,hA,h⟩:=h;exact⟨b,o,hA,h.below hb⟩
theorem Tryz.cellsLE:Tryz.prog.cellsOf 24=5:=aL
theorem Tryz.cellsLF:Tryz.prog.cellsOf 195=3:=aL
theorem Tryz.cellsLP:Tryz.prog.cellsOf 44=1:=aL
theorem Tryz.cellsI:Tryz.prog.cellsOf 2=1:=aL
theorem Tryz.cellsS:Tryz.prog.cellsOf 9=1:=aL
theorem Tryz.cellsES:Tryz.prog.cellsOf 22=1:=aL
theorem Tryz.cellsFS:Tryz.prog.cellsOf 42=1:=aL
variable{H:Type}{fuel:Nat}{cs:List I1}
theorem Qk{enc:TypeId×I1->H}{P:Program}{base:Nat}{sp:Nat->Bool}{hd:Bool}{t e:TypeId}{x:DataW H×List MemPlace}(ht:P.underlying t=M (.slice e))
  (h:DataW.trod enc P w base sp hd fuel t cs=M x) :
  cs=[V U 0 0]∨∃ (a:I3) (len cap n:Nat),fuel=n+1/\cs=[V (M a) len cap]/\len<=cap/\cap<=I2 /\
   ∀ i,i<len->∃ X5 y,w.cells? base (a.add (i*P.cellsOf e)) (P.cellsOf e)=M X5/\DataW.trod enc P w base sp hd n e X5=M y:=by
 rcases DataW.trod_slice ht h with ⟨h0,_⟩ | ⟨a,len,cap,elems,rest,n,hn,hcs,_,_,hl,hm,hlen,hel,_⟩
 ·exact .inl h0
 ·refine .inr ⟨a,len,cap,n,hn,hcs,hl,hm,λi hi=>?_⟩
  have key:=hel i hi;rw[List.getElem?_eq_getElem ah] at key;obtain⟨X5,h1,h2⟩:=Option.bind_eq_some_iff.1 key;exact⟨X5,_,h1,h2⟩
theorem Dn{enc:TypeId×I1->H}:∀ (fuel:Nat) (cs:List I1) (x:DataW H×List MemPlace),DataW.trod enc Tryz.prog w 0 (λ_=>true) true fuel 22 cs=M x ->
  ∃ (A:Option I3) (cap:Nat) (es:Es),cs=[V A es.len cap]/\es.len<=cap/\cap<=I2/\bJ w w.heap.size es A:=by
 intro fuel
 induction fuel using Nat.strongRecOn with
 | _ fuel ih=>
 intro cs x h
 rcases Qk underlying22 h with h0 | ⟨a,len,cap,n,rfl,rfl,hl,hm,hi⟩
 ·exact⟨U,0,.nil,h0,Jn _,Nat.zero_le _,0,0,λh=>absurd h (by simp[Es.len]),trivial⟩
 ·rw[Tryz.cellsLE] at hi
  by_cases h0:len=0
  ·subst h0
   exact⟨M a,cap,.nil,rfl,Nat.zero_le _,hm,0,0,λh=>absurd h (by simp[Es.len]),trivial⟩
  ·have hspot:a.spot=U:=by
    obtain⟨X5,y,hc,_⟩:=hi 0 ah;obtain⟨_,hcl,hat⟩:=World.cells?_some hc;have g0:=hat 0 ah;rw[List.getElem?_eq_getElem ah] at g0;simpa [Addr.add] using World.cell?_spot g0
   obtain⟨b,o,spot⟩:=a;simp only at hspot;subst hspot;have each:∀ i,i<len->∃ k n p c ks,dF w w.heap.size k n p c ks b (o+i*5):=by
    intro i him;obtain⟨X5,y,hc,ht⟩:=hi i him;obtain⟨ys,n',hn',_,_,hlen,hf⟩:=DataW.trod_struct underlying24 ht;obtain⟨_,hcl,hat⟩:=World.cells?_some hc
    match X5,hcl,ys,hlen with
    | [c0,c1,c2,c3,c4],_,[y0,y1,y2,y3,y4],_=>
     have h0:DataW.trod enc Tryz.prog w 0 (λ_=>true) true n' 2 (([c0,c1,c2,c3,c4].drop 0).take (Tryz.prog.cellsOf 2))=M y0:=hf 0 _ rfl;have h1:DataW.trod enc Tryz.prog w 0 (λ_=>true) true n' 2 (([c0,c1,c2,c3,c4].drop 1).take (Tryz.prog.cellsOf 2))=M y1:=hf 1 _ rfl;have h2:DataW.trod enc Tryz.prog w 0 (λ_=>true) true n' 2 (([c0,c1,c2,c3,c4].drop 2).take (Tryz.prog.cellsOf 2))=M y2:=hf 2 _ rfl
     have h3:DataW.trod enc Tryz.prog w 0 (λ_=>true) true n' 2 (([c0,c1,c2,c3,c4].drop 3).take (Tryz.prog.cellsOf 2))=M y3:=hf 3 _ rfl;have h4:DataW.trod enc Tryz.prog w 0 (λ_=>true) true n' 22 (([c0,c1,c2,c3,c4].drop 4).take (Tryz.prog.cellsOf 22))=M y4:=hf 4 _ rfl;rw[Tryz.cellsI] at h0 h1 h2 h3;rw[Tryz.cellsES] at h4;obtain⟨n0,e0,_⟩:=DataW.trod_int underlying2 (x:=y0) h0;obtain⟨n1,e1,_⟩:=DataW.trod_int underlying2 (x:=y1) h1
     obtain⟨n2,e2,_⟩:=DataW.trod_int underlying2 (x:=y2) h2;obtain⟨n3,e3,_⟩:=DataW.trod_int underlying2 (x:=y3) h3;obtain⟨A,bB,es,e4,hcap,hmx,hsl⟩:=ih n' ah _ _ h4;simp at e0 e1 e2 e3 e4;subst e0 e1 e2 e3 e4;have a0:=hat 0 ah;have a1:=hat 1 ah;have a2:=hat 2 ah;have a3:=hat 3 ah;have a4:=hat 4 ah;rw[addr_add,addr_add] at a0 a1 a2 a3 a4;obtain⟨b',o',hA,hex⟩:=hsl;exact⟨n0,n1,n2,n3,es,World.block_lt_of_cell? _ _ a0,a0,a1,a2,a3,A,bB,b',o',a4,hcap,hmx,hA,hex⟩
   obtain⟨es,hes,hex⟩:=Ye len o each;subst hes;exact⟨_,cap,es,rfl,hl,hm,b,o,λ_=>rfl,hex⟩
theorem G7{enc:TypeId×I1->H}{x:DataW H×List MemPlace}(h:DataW.trod enc Tryz.prog w 0 (λ_=>true) true fuel 44 cs=M x) :
  ∃ (A:Option I3) (cap:Nat) (fs:List Fn),cs=[V A fs.length cap]/\fs.length<=cap/\cap<=I2/\eP w w.heap.size fs A:=by
 obtain⟨ys,n',_,_,hcl,hlen,hf⟩:=DataW.trod_struct underlying44 h;rw[Tryz.cellsLP] at hcl
 match cs,hcl,ys,hlen with
 | [c0],_,[y0],_=>
 have h0:DataW.trod enc Tryz.prog w 0 (λ_=>true) true n' 42 (([c0].drop 0).take (Tryz.prog.cellsOf 42))=M y0:=hf 0 _ rfl;rw[Tryz.cellsFS] at h0;simp at h0
 rcases Qk underlying42 h0 with h0 | ⟨a,len,cap,n,rfl,hcs,hl,hm,hi⟩
 ·exact⟨U,0,[],h0,Jn _,Nat.zero_le _,0,0,λh=>absurd h (by simp),trivial⟩
 ·rw[Tryz.cellsLF] at hi
  by_cases h0:len=0
  ·subst h0
   exact⟨M a,cap,[],hcs,Nat.zero_le _,hm,0,0,λh=>absurd h (by simp),trivial⟩
  ·have hspot:a.spot=U:=by
    obtain⟨X5,y,hc,_⟩:=hi 0 ah;obtain⟨_,hcl,hat⟩:=World.cells?_some hc;have g0:=hat 0 ah;rw[List.getElem?_eq_getElem ah] at g0;simpa [Addr.add] using World.cell?_spot g0
   obtain⟨b,o,spot⟩:=a;simp only at hspot;subst hspot;have each:∀ i,i<len->∃ f,Bg w w.heap.size f b (o+i*3):=by
    intro i him;obtain⟨X5,y,hc,ht⟩:=hi i him;obtain⟨ys,n',hn',_,_,hlen,hf⟩:=DataW.trod_struct underlying195 ht;obtain⟨_,hcl,hat⟩:=World.cells?_some hc
    match X5,hcl,ys,hlen with
    | [c0,c1,c2],_,[y0,y1,y2],_=>
     have h0:DataW.trod enc Tryz.prog w 0 (λ_=>true) true n' 9 (([c0,c1,c2].drop 0).take (Tryz.prog.cellsOf 9))=M y0:=hf 0 _ rfl;have h1:DataW.trod enc Tryz.prog w 0 (λ_=>true) true n' 2 (([c0,c1,c2].drop 1).take (Tryz.prog.cellsOf 2))=M y1:=hf 1 _ rfl;have h2:DataW.trod enc Tryz.prog w 0 (λ_=>true) true n' 22 (([c0,c1,c2].drop 2).take (Tryz.prog.cellsOf 22))=M y2:=hf 2 _ rfl;rw[Tryz.cellsS] at h0
     rw[Tryz.cellsI] at h1;rw[Tryz.cellsES] at h2;obtain⟨s0,e0,_,hss⟩:=DataW.trod_string underlying9 (x:=y0) h0;obtain⟨n1,e1,_⟩:=DataW.trod_int underlying2 (x:=y1) h1;obtain⟨A,bB,es,e2,hcap,hmx,hsl⟩:=Dn _ _ _ h2;simp at e0 e1 e2;subst e0 e1 e2;have a0:=hat 0 ah;have a1:=hat 1 ah;have a2:=hat 2 ah;rw[addr_add,addr_add] at a0 a1 a2;exact⟨⟨s0,n1,es⟩,World.block_lt_of_cell? _ _ a0,a0,a1,hss,A,bB,a2,hcap,hmx,hsl⟩
   obtain⟨fs,hfs,hex⟩:=YA len o each;subst hfs;exact⟨_,cap,fs,hcs,hl,hm,b,o,λ_=>rfl,hex⟩
end
section
open Go.RowKit Plain
def Es.inner:Es->Nat
 | .nil=>0
 | .cons _ _ _ _ ks r=>ks.size+r.inner
theorem Es.size_inner(es:Es):es.size=es.len+es.inner:=by
 induction es with
 | nil=>rfl
 | cons k n p c ks r _ ih=>simp only[Es.size,Es.len,Es.inner,ih];omega
def nI(n:Nat)(l:Int):Int:=if (n:Int)<=l then l - n else -1
variable{n:Nat}{l:Int}
theorem je(h:(n:Int)<=l):nI n l=l - n:=if_pos h
theorem kV(h:¬ (n:Int)<=l):nI n l=-1:=if_neg h
def SzC(es:Es):Prop:=∀ (A:Option I3) (cap B:Nat) (l:Int) (w:Iv),bJ w B es A->B<=w.heap.size->es.len<=9223372036854775807->0<=l->l<=1048576 ->
 I0 Tryz.prog 66 #[V A es.len cap,I J l] w λe w'=>e=If (I J (nI es.size l))/\Ix w.heap.size w w'
theorem nM{ks:Es}(h:SzC ks)(k n p c:Int)(K:Option I3)(cap B:Nat)(l:Int)(w:Iv)(hK:bJ w B ks K)(hB:B<=w.heap.size)(hm:ks.len<=9223372036854775807)(l0:0<=l)(l1:l<=1048576) :
  I0 Tryz.prog 20 #[exV k n p c K ks.len cap,I J l] w λe w'=>e=If (I J (nI ks.size l))/\Ix w.heap.size w w':=by
 go_enter func20,ntmps20;go_wp2_with fail;refine (h K cap B l _ (hK.below aV) (by simp;omega) hm l0 l1).mono ?_;rintro e w' ⟨rfl,hb⟩;have hr:nI ks.size l=-1∨0<=nI ks.size l:=by unfold nI;split<;>omega
 have h1:nI ks.size l<=l:=by unfold nI;split<;>omega
 generalize hz:nI ks.size l=y at hr h1 ⊢;have HZ:=aj hz;clear hz
 rcases hr with rfl | hr
 ·go_wp2
  go_ret;exact⟨bR HZ.o.symm,((Jx _ _).alloc (Jn _) _).trans (hb.mono (by simp))⟩
 ·go_wp2
  go_ret;exact⟨bR HZ.o.symm,((Jx _ _).alloc (Jn _) _).trans (hb.mono (by simp))⟩
theorem KQ:∀ (m:Nat) (es:Es),es.size<=m->SzC es:=by
 intro m
 induction m with
 | zero=>
  intro es hm A cap B l w _ _ _ l0 l1;have h0:es.len=0:=by have:=Es.aF es;omega
  have h1:es.size=0:=ah;go_enter func66,ntmps66;rw[h0,h1];go_wp2
  go_loopw [1,5] (λll i wr=>ll=I J l/\i=I J 0/\wr=w) (λ_ _ _=>0)
  case atStart=>exact⟨by simp,rfl,rfl⟩
  case round=>
   obtain⟨rfl,rfl,rfl⟩:=hrel;go_wp2;go_ret;exact⟨bR (by rw[je ah];simp),Jx _ _⟩
 | succ m ih=>
 intro es hm A cap B l w hA hB hl l0 l1;have hsi:=aj es.size_inner;have IH:=aj ih;clear ih;obtain⟨b,o,hA1,hA2⟩:=hA;have HA:=aj hA2;clear hA2;go_enter func66,ntmps66
 by_cases h0:l - (es.len:Int)<0
 ·go_wp2
  go_ret;exact⟨bR (by have:=hsi.o;rw[kV ah]),aV⟩
 ·go_wp2
  go_loopw [1,5] (λll i wr=>∃ (j:Nat) (es':Es) (y:Int),i=I J (j:Int)/\ll=I J y/\j+es'.len=es.len/\0<=y/\y<=l/\ak (y - es'.inner=l - es.size)/\ak (es'.size<=es.size)/\ak (aI wr B es' b (o+j*5))/\ak (Ix w.heap.size w wr)) (λ_ i _=>es.len - (intOf i).toNat)
  case atStart=>exact⟨0,es,l - es.len,bE,rfl,ah,ah,ah,by have:=hsi.o;show _=_;omega,Jn _,by show aI _ _ _ _ _;rw[Mn,Mm];exact HA.o,by show Ix _ _ _;go_grown⟩
  case round=>
   obtain⟨j,es',y,rfl,rfl,hj,y0,y1,hy,hsz,HE,HB⟩:=hrel;cases es' with
   | nil=>
    simp only[Es.len] at hj;go_wp2;go_ret;have:=hy.o;simp only[Es.inner] at this;exact⟨bR (by rw[je ah];omega),HB.o⟩
   | cons k n p c ks r=>
    simp only[Es.len] at hj;have hA:=hA1 ah;subst hA;obtain⟨⟨hb,c0,c1,c2,c3,K,cp,b',o',c4,zN,hcm,hK,hks⟩,hr⟩:=HE.o;have HK:ak (bJ wr B ks K):=⟨b',o',hK,hks⟩
    have HR:=aj hr;clear hr hks HE;have hrs:ak (r.size<=es.size/\ks.size<es.size/\ks.len<=ks.size):=by
     have:=hsz.o;simp only[Es.size] at this;exact⟨ah,ah,Es.aF ks⟩
    go_wp2_with fail;refine (nM (IH.o ks (by have:=hrs.o;omega)) k n p c K cp B y wr HK.o (by have:=HB.o.size;omega) (by unfold I2 at hcm;omega) y0 ah).mono ?_;rintro e w1 ⟨rfl,hb1⟩;have hB2:Ix B wr w1:=hb1.mono (by have:=HB.o.size;omega);have gY:ak (aI w1 B r b (o+(j+1)*5)):=by
     have:=HR.o.below hB2
     rwa [show o+j*5+5=o+(j+1)*5 by omega] at this
    have HB1:=aj (aH HB.o hb1);have hyo:=hy.o;simp only[Es.inner] at hyo
    by_cases hs:(ks.size:Int)<=y
    ·rw[je hs]
     obtain⟨z,hz⟩:∃ z,z=y - (ks.size:Int):=⟨_,rfl⟩
     rw[<-hz];have z0:0<=z:=ah;have z1:z<=l:=ah;have HZ:ak (z - r.inner=l - es.size):=by show _=_;omega
     clear hyo hz hs hy;go_wp2
     go_roundw
     case rel=>exact⟨j+1,r,z,bE,rfl,ah,z0,z1,HZ,hrs.o.1,gY,HB1⟩
     case measure=>simp[intOf];omega
    ·rw[kV hs]
     have HN:ak (¬ (es.size:Int)<=l):=by show ¬ _;omega
     clear hyo hs hy;go_wp2;go_ret;exact⟨bR (by rw[kV (by have:=HN.o;omega)]),HB1.o⟩
theorem kG(es:Es):SzC es:=KQ es.size es (Jn _)
def Fn.size(f:Fn):Nat:=f.name.size+f.outs.size
def dU:List Fn->Nat
 | []=>0
 | f :: fs=>f.size+dU fs
def bK(fs:List Fn):Nat:=fs.length+dU fs
theorem OM(f:Fn)(K:Option I3)(cap B:Nat)(l:Int)(w:Iv)(hK:bJ w B f.outs K)(hB:B<=w.heap.size)(hm:f.outs.len<=9223372036854775807)(hn:f.name.size<=9223372036854775807)(l0:0<=l)(l1:l<=1048576) :
  I0 Tryz.prog 137 #[Jp f.name f.params K f.outs.len cap,I J l] w λe w'=>e=If (I J (nI f.size l))/\Ix w.heap.size w w':=by
 have hfs:ak (f.size=f.name.size+f.outs.size):=rfl;go_enter func137,ntmps137
 by_cases hs:l - (f.name.size:Int)<0
 ·go_wp2
  go_ret;exact⟨bR (by rw[kV (by have:=hfs.o;omega)]),aV⟩
 ·go_wp2_with fail
  refine (kG f.outs K cap B (l - (f.name.size:Int)) _ (hK.below aV) (by simp;omega) hm ah ah).mono ?_;rintro e w' ⟨rfl,hb⟩;have hr:(nI f.outs.size (l - f.name.size)=-1/\nI f.size l=-1)∨(0<=nI f.outs.size (l - f.name.size)/\nI f.size l=nI f.outs.size (l - f.name.size)):=by have:=hfs.o;unfold nI;split<;>split<;>omega
  have h1:nI f.outs.size (l - f.name.size)<=l:=by unfold nI;split<;>omega
  generalize hz:nI f.outs.size (l - f.name.size)=y at hr h1 ⊢;clear hz
  rcases hr with ⟨rfl,hz⟩ | ⟨hr,hz⟩
  ·have HZ:=aj hz;clear hz
   go_wp2;go_ret;exact⟨bR HZ.o.symm,((Jx _ _).alloc (Jn _) _).trans (hb.mono (by simp))⟩
  ·have HZ:=aj hz;clear hz
   go_wp2;go_ret;exact⟨bR HZ.o.symm,((Jx _ _).alloc (Jn _) _).trans (hb.mono (by simp))⟩
theorem KS(fs:List Fn)(A:Option I3)(cap B:Nat)(l:Int)(w:Iv)(hA:eP w B fs A)(hB:B<=w.heap.size)(hl:fs.length<=9223372036854775807)(l0:0<=l)(l1:l<=1048576) :
  I0 Tryz.prog 65 #[V A fs.length cap,I J l] w λe w'=>e=If (I J (nI (bK fs) l))/\Ix w.heap.size w w':=by
 have hsi:ak (bK fs=fs.length+dU fs):=rfl;obtain⟨b,o,hA1,hA2⟩:=hA;have HA:=aj hA2;clear hA2;go_enter func65,ntmps65
 by_cases h0:l - (fs.length:Int)<0
 ·go_wp2
  go_ret;exact⟨bR (by have:=hsi.o;rw[kV ah]),aV⟩
 ·go_wp2
  go_loopw [1,5] (λll i wr=>∃ (j:Nat) (es':List Fn) (y:Int),i=I J (j:Int)/\ll=I J y/\j+es'.length=fs.length/\0<=y/\y<=l/\ak (y - dU es'=l - bK fs)/\ak (fA wr B es' b (o+j*3))/\ak (Ix w.heap.size w wr)) (λ_ i _=>fs.length - (intOf i).toNat)
  case atStart=>exact⟨0,fs,l - fs.length,bE,rfl,ah,ah,ah,by have:=hsi.o;show _=_;omega,by show fA _ _ _ _ _;rw[Mn,Mm];exact HA.o,by show Ix _ _ _;go_grown⟩
  case round=>
   obtain⟨j,es',y,rfl,rfl,hj,y0,y1,hy,HE,HB⟩:=hrel;cases es' with
   | nil=>
    simp only[List.length_nil] at hj;go_wp2;go_ret;have:=hy.o;simp only[dU] at this;exact⟨bR (by rw[je ah];omega),HB.o⟩
   | cons f r=>
    simp only[List.length_cons] at hj;have hA:=hA1 ah;subst hA;obtain⟨⟨hb,c0,c1,hss,K,cp,c2,zN,hcm,hks⟩,hr⟩:=HE.o;have HK:=aj hks;have HR:=aj hr;clear hr hks HE;go_wp2_with fail;refine (OM f K cp B y wr HK.o (by have:=HB.o.size;omega) (by unfold I2 at hcm;omega) (by unfold I2 at hss;omega) y0 ah).mono ?_;rintro e w1 ⟨rfl,hb1⟩;have hB2:Ix B wr w1:=hb1.mono (by have:=HB.o.size;omega)
    have gY:ak (fA w1 B r b (o+(j+1)*3)):=by
     have:=fA.below hB2 HR.o
     rwa [show o+j*3+3=o+(j+1)*3 by omega] at this
    have HB1:=aj (aH HB.o hb1);have hyo:=hy.o;simp only[dU] at hyo
    by_cases hs:(f.size:Int)<=y
    ·rw[je hs]
     obtain⟨z,hz⟩:∃ z,z=y - (f.size:Int):=⟨_,rfl⟩
     rw[<-hz];have z0:0<=z:=ah;have z1:z<=l:=ah;have HZ:ak (z - dU r=l - bK fs):=by show _=_;omega
     clear hyo hz hs hy;go_wp2
     go_roundw
     case rel=>exact⟨j+1,r,z,bE,rfl,ah,z0,z1,HZ,gY,HB1⟩
     case measure=>simp[intOf];omega
    ·rw[kV hs]
     have HN:ak (¬ (bK fs:Int)<=l):=by show ¬ _;omega
     clear hyo hs hy;go_wp2;go_ret;exact⟨bR (by rw[kV (by have:=HN.o;omega)]),HB1.o⟩
theorem mh(fs:List Fn)(A:Option I3)(cap B:Nat)(l:Int)(w:Iv)(hA:eP w B fs A)(hB:B<=w.heap.size)(hl:fs.length<=9223372036854775807)(l0:0<=l)(l1:l<=1048576) :
  I0 Tryz.prog 19 #[rW A fs.length cap,I J l] w λe w'=>e=If (I J (nI (bK fs) l))/\Ix w.heap.size w w':=by
 go_enter func19,ntmps19;go_wp2_with fail;refine (KS fs A cap B l _ (hA.below aV) (by simp;omega) hl l0 l1).mono ?_;rintro e w' ⟨rfl,hb⟩;have hr:nI (bK fs) l=-1∨0<=nI (bK fs) l:=by unfold nI;split<;>omega
 have h1:nI (bK fs) l<=l:=by unfold nI;split<;>omega
 generalize hz:nI (bK fs) l=y at hr h1 ⊢;have HZ:=aj hz;clear hz
 rcases hr with rfl | hr
 ·go_wp2
  go_ret;exact⟨bR HZ.o.symm,((Jx _ _).alloc (Jn _) _).trans (hb.mono (by simp))⟩
 ·go_wp2
  go_ret;exact⟨bR HZ.o.symm,((Jx _ _).alloc (Jn _) _).trans (hb.mono (by simp))⟩
def ExM(w:Iv)(b o:Nat)(k n p c:Int)(v:I1):Prop:=
 (w.cell? ⟨b,o,U⟩=M (I J k)/\w.cell? ⟨b,o+1,U⟩=M (I J n)/\w.cell? ⟨b,o+2,U⟩=M (I J p)/\w.cell? ⟨b,o+3,U⟩=M (I J c)/\w.cell? ⟨b,o+4,U⟩=M v) /\
 ∀ i,i<5->w.frozen? ⟨b,o+i,U⟩=false
def iN(w:Iv):Es->Nat->Nat->Nat->Nat->Prop
 | .nil,lo,hi,_,_=>lo<=hi
 | .cons k n p c ks r,lo,hi,b,o=>∃ (K:Option I3) (cap b' mid:Nat),ExM w b o k n p c (V K ks.len cap)/\ks.len<=cap/\cap<=I2/\(0<ks.len->K=M ⟨b',0,U⟩)/\lo<=b'/\b'<mid /\
   iN w ks (b'+1) mid b' 0/\iN w r mid hi b (o+5)
def aN(w w':Iv)(b i j:Nat):Prop:=∀ x,i<=x->x<j->w'.cell? ⟨b,x,U⟩=w.cell? ⟨b,x,U⟩/\w'.frozen? ⟨b,x,U⟩=w.frozen? ⟨b,x,U⟩
variable{w w':Iv}{b:Nat}
theorem aN.of_block(h:w'.heap[b]? = w.heap[b]?)(i j:Nat):aN w w' b i j:=λ_ _ _=>⟨World.cell?_of_block (a:=⟨b,_,U⟩) h,World.frozen?_of_block (a:=⟨b,_,U⟩) h⟩
variable{i j:Nat}
theorem aN.aJ{p:Nat}{u:I1}(h:p<i∨j<=p):aN w (w.setCell ⟨b,p,U⟩ u) b i j:=λx hx hx'=>
 ⟨World.cell?_setCell_other _ _ _ _ (λe=>by injection e with _ h' _;omega),World.frozen?_setCell _ _ _ _⟩
theorem aN.trans{w'':Iv}(h:aN w w' b i j)(h':aN w' w'' b i j):aN w w'' b i j:=λx hx hx'=>
 ⟨(h' x hx hx').1.trans (h x hx hx').1,(h' x hx hx').2.trans (h x hx hx').2⟩
theorem aN.sub{i' j':Nat}(h:aN w w' b i j)(hi:i<=i')(hj:j'<=j):aN w w' b i' j':=λx hx hx'=>h x ah ah
theorem ExM.keep{o:Nat}{k n p c:Int}{v:I1}(h:ExM w b o k n p c v)(hc:aN w w' b o (o+5)):ExM w' b o k n p c v:=by
 obtain⟨⟨h0,h1,h2,h3,h4⟩,hf⟩:=h;exact⟨⟨(hc o ah ah).1.trans h0,(hc (o+1) ah ah).1.trans h1,(hc (o+2) ah ah).1.trans h2,(hc (o+3) ah ah).1.trans h3,(hc (o+4) ah ah).1.trans h4⟩,
  λi hi=>(hc (o+i) ah ah).2.trans (hf i hi)⟩
theorem iN.le:∀ {es:Es}{lo hi b o:Nat},iN w es lo hi b o->lo<=hi
 | .nil,_,_,_,_,h=>h
 | .cons _ _ _ _ _ r,lo,hi,b,o,⟨_,_,b',mid,_,_,_,_,h1,h2,_,hr⟩=>by have:=iN.le hr;omega
theorem iN.keep:∀ {es:Es}{lo hi b o:Nat},iN w es lo hi b o->aN w w' b o (o+es.len*5)->(∀ q,lo<=q->q<hi->w'.heap[q]? = w.heap[q]?)->iN w' es lo hi b o:=by
 intro es
 induction es with
 | nil=>intro lo hi b o h _ _;exact h
 | cons k n p c ks r BR qz=>
  rintro lo hi b o ⟨K,cap,b',mid,h0,hc,hm,hK,h1,h2,hk,hr⟩ hs hb;simp only[Es.len] at hs;have hle:=hr.le;exact⟨K,cap,b',mid,h0.keep (hs.sub (Jn _) ah),hc,hm,hK,h1,h2,BR hk (aN.of_block (hb b' h1 ah) _ _) (λq hq BQ=>hb q ah ah),
   qz hr (hs.sub ah ah) (λq hq BQ=>hb q ah BQ)⟩
theorem iN.exs{B:Nat}:∀ {es:Es}{lo hi b o:Nat},iN w es lo hi b o->hi<=B->b<B->aI w B es b o:=by
 intro es
 induction es with
 | nil=>intro lo hi b o _ _ _;trivial
 | cons k n p c ks r BR qz=>
  rintro lo hi b o ⟨K,cap,b',mid,⟨⟨h0,h1,h2,h3,h4⟩,_⟩,hc,hm,hK,l1,l2,hk,hr⟩ hB hb;have hle:=hr.le;exact⟨⟨hb,h0,h1,h2,h3,K,cap,b',0,h4,hc,hm,hK,BR hk ah ah⟩,qz hr hB hb⟩
namespace Es
def snoc:Es->Int->Int->Int->Int->Es->Es
 | .nil,k,n,p,c,ks=>.cons k n p c ks .nil
 | .cons k' n' p' c' aY r,k,n,p,c,ks=>.cons k' n' p' c' aY (r.snoc k n p c ks)
theorem dD(es:Es)(k n p c:Int)(ks:Es):(es.snoc k n p c ks).len=es.len+1:=by
 induction es with
 | nil=>rfl
 | cons _ _ _ _ _ r _ ih=>simp only[snoc,len,ih]
def app:Es->Es->Es
 | .nil,b=>b
 | .cons k n p c ks r,b=>.cons k n p c ks (r.app b)
theorem oQ(es:Es):es.app .nil=es:=by
 induction es with
 | nil=>rfl
 | cons _ _ _ _ _ r _ ih=>simp only[app,ih]
theorem mJ(es:Es)(k n p c:Int)(ks r:Es):(es.snoc k n p c ks).app r=es.app (.cons k n p c ks r):=by
 induction es with
 | nil=>rfl
 | cons _ _ _ _ _ r _ ih=>simp only[snoc,app,ih]
theorem aaO(a b:Es):(a.app b).len=a.len+b.len:=by
 induction a with
 | nil=>simp[app,len]
 | cons _ _ _ _ _ r _ ih=>simp only[app,len,ih];omega
end Es
theorem iN.snoc{w:Iv}:∀ {es:Es}{lo mid hi b o:Nat}{k n p c:Int}{ks:Es}{K:Option I3}{cap b':Nat},iN w es lo mid b o->ExM w b (o+es.len*5) k n p c (V K ks.len cap)->ks.len<=cap->cap<=I2 ->
  (0<ks.len->K=M ⟨b',0,U⟩)->mid<=b'->b'<hi->iN w ks (b'+1) hi b' 0->iN w (es.snoc k n p c ks) lo hi b o:=by
 intro es
 induction es with
 | nil=>
  intro lo mid hi b o k n p c ks K cap b' h hx hc hm hK h1 h2 hk;simp only[Es.len,Mn,Mm] at hx;have hl:lo<=mid:=h;exact⟨K,cap,b',hi,hx,hc,hm,hK,ah,h2,hk,Jn _⟩
 | cons k' n' p' c' aY r _ qz=>
  rintro lo mid hi b o k n p c ks K cap b' ⟨K0,eT,b0,m0,g0,gc,gm,gK,g1,g2,gk,gr⟩ hx hc hm hK h1 h2 hk;simp only[Es.len] at hx;rw[show o+(r.len+1)*5=o+5+r.len*5 by omega] at hx;exact⟨K0,eT,b0,m0,g0,gc,gm,gK,g1,g2,gk,qz gr hx hc hm hK h1 h2 hk⟩
def ToC(es:Es):Prop:=∀ (A:Option I3) (cap B:Nat) (w:Iv),bJ w B es A->B<=w.heap.size ->
 I0 Tryz.prog 71 #[V A es.len cap] w λe w'=>e=If (V (M ⟨w.heap.size,0,U⟩) es.len es.len)/\iN w' es (w.heap.size+1) w'.heap.size w.heap.size 0/\Ix w.heap.size w w'
theorem Tryz.infoE:(Tryz.prog.info? 33).map (λi=>(i.zero,i.size,i.bytes))=M (M (exV 0 0 0 0 U 0 0),5,56):=aL
theorem aaN(w:Iv)(o1:Obj)(t2:TypeId)(C2:List I1):((w.alloc o1).alloc (Is C2.toArray t2)).heap.size=w.heap.size+2/\au ((w.alloc o1).alloc (Is C2.toArray t2)) (w.heap.size+1) t2 C2/\Ix w.heap.size w ((w.alloc o1).alloc (Is C2.toArray t2)):=by
 refine⟨by simp, ?_,aV⟩;have:=au.new (w.alloc o1) t2 C2
 rwa [show (w.alloc o1).heap.size=w.heap.size+1 by simp] at this
theorem xS(w:Iv)(o1:Obj)(t2 t3:TypeId)(C2 C3:List I1):(((w.alloc o1).alloc (Is C2.toArray t2)).alloc (Is C3.toArray t3)).heap.size=w.heap.size+3/\au (((w.alloc o1).alloc (Is C2.toArray t2)).alloc (Is C3.toArray t3)) (w.heap.size+1) t2 C2 /\
  au (((w.alloc o1).alloc (Is C2.toArray t2)).alloc (Is C3.toArray t3)) (w.heap.size+2) t3 C3/\Ix w.heap.size w (((w.alloc o1).alloc (Is C2.toArray t2)).alloc (Is C3.toArray t3)):=by
 obtain⟨h1,h2,h3⟩:=aaN w o1 t2 C2;refine⟨by simp, ?_, ?_,aV⟩
 ·exact h2.next aV
 ·have:=au.new ((w.alloc o1).alloc (Is C2.toArray t2)) t3 C3
  rwa [h1] at this
theorem vD{ks:Es}(h:ToC ks)(k n p c:Int)(K:Option I3)(cap B:Nat)(w:Iv)(hK:bJ w B ks K)(hB:B<=w.heap.size) :
  I0 Tryz.prog 23 #[exV k n p c K ks.len cap] w λe w'=>∃ g,w.heap.size<=g/\g<w'.heap.size/\e=If (exV k n p c (M ⟨g,0,U⟩) ks.len ks.len)/\iN w' ks (g+1) w'.heap.size g 0/\Ix w.heap.size w w':=by
 go_enter func23,ntmps23;go_wp2_with fail;obtain⟨hsz,pI,hC2,hb0⟩:=xS w (Is #[I J k,I J n,I J p,I J c,V K ks.len cap] 24) 33 33 [I J 0,I J 0,I J 0,I J 0,V U 0 0] [I J k,I J n,I J p,I J c,V U 0 0];generalize (((w.alloc (Is #[I J k,I J n,I J p,I J c,V K ks.len cap] 24)).alloc (Is #[I J 0,I J 0,I J 0,I J 0,V U 0 0] 33)).alloc (Is #[I J k,I J n,I J p,I J c,V U 0 0] 33))=W3 at hsz hb0 pI hC2 ⊢
 refine (h K cap B W3 (hK.below (hb0.mono hB)) ah).mono ?_;rintro e w1 ⟨rfl,hM,hb⟩;rw[hsz] at hM hb ⊢;have hE1:=pI.below hb ah;have hE2:=hC2.below hb ah;have HM:=aj hM;have HB:=aj hb;have z1:=hb.size;have z2:=aj hb0;have k0:w1.cell? ⟨w.heap.size+1+1,0,U⟩=M (I J k):=ay hE2
 have k1:w1.cell? ⟨w.heap.size+1+1,1,U⟩=M (I J n):=ay hE2
 have k2:w1.cell? ⟨w.heap.size+1+1,2,U⟩=M (I J p):=ay hE2
 have k3:w1.cell? ⟨w.heap.size+1+1,3,U⟩=M (I J c):=ay hE2
 have k4:w1.cell? ⟨w.heap.size+1+1,4,U⟩=M (V U 0 0):=ay hE2
 have f4:w1.frozen? ⟨w.heap.size+1+1,4,U⟩=false:=hE2.frozen _;have j0:w1.cell? ⟨w.heap.size+1,0,U⟩=M (I J 0):=ay hE1
 have j1:w1.cell? ⟨w.heap.size+1,1,U⟩=M (I J 0):=ay hE1
 have j2:w1.cell? ⟨w.heap.size+1,2,U⟩=M (I J 0):=ay hE1
 have j3:w1.cell? ⟨w.heap.size+1,3,U⟩=M (I J 0):=ay hE1
 have j4:w1.cell? ⟨w.heap.size+1,4,U⟩=M (V U 0 0):=ay hE1
 have g0:w1.frozen? ⟨w.heap.size+1,0,U⟩=false:=hE1.frozen _;have g1:w1.frozen? ⟨w.heap.size+1,1,U⟩=false:=hE1.frozen _;have g2:w1.frozen? ⟨w.heap.size+1,2,U⟩=false:=hE1.frozen _;have g3:w1.frozen? ⟨w.heap.size+1,3,U⟩=false:=hE1.frozen _;have g4:w1.frozen? ⟨w.heap.size+1,4,U⟩=false:=hE1.frozen _;have hD0:=hE1.far (p:=⟨w.heap.size+1+1,4,U⟩) (by simp) (V (M ⟨w.heap.size+3,0,U⟩) ks.len ks.len)
 have hD1:=hD0.aJ 0 (I J k);have hD2:=hD1.aJ 1 (I J n);have hD3:=hD2.aJ 2 (I J p);have hD4:=hD3.aJ 3 (I J c);have hD5:=hD4.aJ 4 (V (M ⟨w.heap.size+3,0,U⟩) ks.len ks.len);have x0:=hD1.cell 0;have x1:=hD2.cell 1;have x2:=hD3.cell 2;have x3:=hD4.cell 3;have x4:=hD5.cell 4;simp only[eY] at x0 x1 x2 x3 x4
 clear hM hb pI hC2 hE1 hE2 hb0 hD0 hD1 hD2 hD3 hD4 hD5;go_wp2;refine bodyPost_ret (v:=exV k n p c (M ⟨w.heap.size+3,0,U⟩) ks.len ks.len) (by simp[results,results23,go_sem,x0,x1,x2,x3,x4]) rfl ?_;have hl:=HM.o.le;have hb6:=(((((((z2.o.trans (HB.o.mono ah)).setCell (p:=⟨w.heap.size+1+1,4,U⟩) (by simp;omega) (V (M ⟨w.heap.size+3,0,U⟩) ks.len ks.len)).setCell (p:=⟨w.heap.size+1,0,U⟩) (by simp) (I J k)).setCell (p:=⟨w.heap.size+1,1,U⟩) (by simp) (I J n)).setCell (p:=⟨w.heap.size+1,2,U⟩) (by simp) (I J p)).setCell (p:=⟨w.heap.size+1,3,U⟩) (by simp) (I J c)).setCell (p:=⟨w.heap.size+1,4,U⟩) (by simp) (V (M ⟨w.heap.size+3,0,U⟩) ks.len ks.len))
 refine⟨w.heap.size+3,ah,by simp[World.setCell];omega,rfl, ?_,hb6⟩;have hq:∀ q,w.heap.size+3<=q->_:=λq hq=>
  (J1 _ ⟨w.heap.size+1,4,U⟩ (V (M ⟨w.heap.size+3,0,U⟩) ks.len ks.len) q (by simp;omega)).trans ((J1 _ ⟨w.heap.size+1,3,U⟩ (I J c) q (by simp;omega)).trans ((J1 _ ⟨w.heap.size+1,2,U⟩ (I J p) q (by simp;omega)).trans
   ((J1 _ ⟨w.heap.size+1,1,U⟩ (I J n) q (by simp;omega)).trans ((J1 _ ⟨w.heap.size+1,0,U⟩ (I J k) q (by simp;omega)).trans (J1 w1 ⟨w.heap.size+1+1,4,U⟩ (V (M ⟨w.heap.size+3,0,U⟩) ks.len ks.len) q (by simp;omega))))))
 have e6:(((((((w1.setCell ⟨w.heap.size+1+1,4,U⟩ (V (M ⟨w.heap.size+3,0,U⟩) ks.len ks.len)).setCell ⟨w.heap.size+1,0,U⟩ (I J k)).setCell ⟨w.heap.size+1,1,U⟩ (I J n)).setCell ⟨w.heap.size+1,2,U⟩ (I J p)).setCell ⟨w.heap.size+1,3,U⟩ (I J c)).setCell ⟨w.heap.size+1,4,U⟩ (V (M ⟨w.heap.size+3,0,U⟩) ks.len ks.len))).heap.size=w1.heap.size:=by simp[World.setCell]
 rw[e6];exact HM.o.keep (aN.of_block (hq _ ah) _ _) (λq h1 _=>hq q ah)
def cK(w:Iv)(g o:Nat)(k n p c:Int)(v:I1):Iv:=
 ((((w.setCell ⟨g,o,U⟩ (I J k)).setCell ⟨g,o+1,U⟩ (I J n)).setCell ⟨g,o+2,U⟩ (I J p)).setCell ⟨g,o+3,U⟩ (I J c)).setCell ⟨g,o+4,U⟩ v
theorem oz{w:Iv}{g o:Nat}{t:TypeId}{C:List I1}(h:au w g t C)(k n p c:Int)(v:I1):au (cK w g o k n p c v) g t (((((C.set o (I J k)).set (o+1) (I J n)).set (o+2) (I J p)).set (o+3) (I J c)).set (o+4) v):=
 ((((h.aJ _ _).aJ _ _).aJ _ _).aJ _ _).aJ _ _
theorem Z5{w:Iv}{g o:Nat}{t:TypeId}{C:List I1}(h:au w g t C)(hl:o+5<=C.length)(k n p c:Int)(v:I1):ExM (cK w g o k n p c v) g o k n p c v:=by
 have h5:=oz (o:=o) h k n p c v;refine⟨⟨?_, ?_, ?_, ?_, ?_⟩,λi _=>h5.frozen _⟩<;>rw[h5.cell]
 ·rw[List.getElem?_set_ne ah,List.getElem?_set_ne ah,List.getElem?_set_ne ah,List.getElem?_set_ne ah,List.getElem?_set_self (by first | omega | (simp;omega))]
 ·rw[List.getElem?_set_ne ah,List.getElem?_set_ne ah,List.getElem?_set_ne ah,List.getElem?_set_self (by first | omega | (simp;omega))]
 ·rw[List.getElem?_set_ne ah,List.getElem?_set_ne ah,List.getElem?_set_self (by first | omega | (simp;omega))]
 ·rw[List.getElem?_set_ne ah,List.getElem?_set_self (by first | omega | (simp;omega))]
 ·rw[List.getElem?_set_self (by first | omega | (simp;omega))]
theorem SS{w:Iv}{g o:Nat}(k n p c:Int)(v:I1):aN w (cK w g o k n p c v) g 0 o:=
 ((((aN.aJ (.inr (Jn _))).trans (aN.aJ (.inr ah))).trans (aN.aJ (.inr ah))).trans (aN.aJ (.inr ah))).trans (aN.aJ (.inr ah))
theorem dN{w:Iv}{g o:Nat}(k n p c:Int)(v:I1){q:Nat}(hq:q≠g):(cK w g o k n p c v).heap[q]? = w.heap[q]?:=
 (J1 _ _ _ _ hq).trans ((J1 _ _ _ _ hq).trans ((J1 _ _ _ _ hq).trans ((J1 _ _ _ _ hq).trans (J1 _ _ _ _ hq))))
theorem bN{w:Iv}{g o:Nat}(k n p c:Int)(v:I1):(cK w g o k n p c v).heap.size=w.heap.size:=by simp[cK,World.setCell]
theorem bD{w0 w:Iv}{B g o:Nat}(k n p c:Int)(v:I1)(h:Ix B w0 w)(hg:B<=g):Ix B w0 (cK w g o k n p c v):=
 ((((h.setCell (p:=⟨g,_,U⟩) hg _).setCell (p:=⟨g,_,U⟩) hg _).setCell (p:=⟨g,_,U⟩) hg _).setCell (p:=⟨g,_,U⟩) hg _).setCell (p:=⟨g,_,U⟩) hg _
theorem toStep{wr w1:Iv}{g0 j g:Nat}{t:TypeId}{C:List I1}{pre ks:Es}{k n p c:Int}(hp:pre.len=j)(HM:iN wr pre (g0+1) wr.heap.size g0 0)(hb1:Ix wr.heap.size wr w1)(pI:au w1 g0 t C)(hM1:iN w1 ks (g+1) w1.heap.size g 0)
  (hgl:g0<wr.heap.size) (hg1:wr.heap.size<=g) (hg2:g<w1.heap.size) (hcl:j*5+5<=C.length) (hk:ks.len<=1048576) :
  iN (cK w1 g0 (j*5) k n p c (V (M ⟨g,0,U⟩) ks.len ks.len)) (pre.snoc k n p c ks) (g0+1) (cK w1 g0 (j*5) k n p c (V (M ⟨g,0,U⟩) ks.len ks.len)).heap.size g0 0:=by
 have hs:=bN (w:=w1) (g:=g0) (o:=j*5) k n p c (V (M ⟨g,0,U⟩) ks.len ks.len);have hbk:=λq (hq:q≠g0)=>dN (w:=w1) (g:=g0) (o:=j*5) k n p c (V (M ⟨g,0,U⟩) ks.len ks.len) hq
 have hsm:=SS (w:=w1) (g:=g0) (o:=j*5) k n p c (V (M ⟨g,0,U⟩) ks.len ks.len);have hx:=Z5 pI hcl k n p c (V (M ⟨g,0,U⟩) ks.len ks.len);generalize cK w1 g0 (j*5) k n p c (V (M ⟨g,0,U⟩) ks.len ks.len)=W at hs hbk hsm hx ⊢;rw[hs];refine iN.snoc (mid:=wr.heap.size) (K:=M ⟨g,0,U⟩) (cap:=ks.len) (b':=g) ?_ ?_ (Jn _) (by unfold I2;omega) (λ_=>rfl) hg1 hg2 ?_
 ·refine HM.keep ?_ ?_
  ·refine (aN.of_block (hb1.block _ hgl) _ _).trans ?_
   rwa [<-hp,<-Mu (pre.len*5)] at hsm
  ·intro q l1 l2
   exact (hbk q ah).trans (hb1.block q l2)
 ·rw[Mu,hp]
  exact hx
 ·exact hM1.keep (aN.of_block (hbk g ah) _ _) (λq l1 _=>hbk q ah)
theorem Gp{w1 W:Iv}{B b o j:Nat}{r:Es}(h:Ix B w1 W)(hr:aI w1 B r b (o+j*5+5)):aI W B r b (o+(j+1)*5):=by
 have:=hr.below h
 rwa [show o+j*5+5=o+(j+1)*5 by omega] at this
theorem rJ(z:Array I1)(n:Nat):(madeCells z n).size=n:=size_madeCells _ _
theorem KV:∀ (m:Nat) (es:Es),es.size<m->es.size<=1048576->ToC es:=by
 intro m
 induction m with
 | zero=>intro es h;omega
 | succ m ih=>
 intro es hm hz A cap B w hA hB;have IH:=aj ih;clear ih;have hls:=Es.aF es;obtain⟨b,o,hA1,hA2⟩:=hA;have HA:=aj hA2;clear hA2;have hmk:=wC (P:=Tryz.prog) 31 33 (exV 0 0 0 0 U 0 0) 5 56 underlying31 Tryz.infoE .i64 .i64 es.len ah ah;obtain⟨C0,CP⟩:∃ C0:List I1,madeCells (exV 0 0 0 0 U 0 0).cells (es.len*5)=C0.toArray/\C0.length=es.len*5:=⟨(madeCells (exV 0 0 0 0 U 0 0).cells (es.len*5)).toList,by simp,by simp[rJ]⟩
 rw[CP.1] at hmk;go_enter func71,ntmps71;go_wp2
 go_loopw [4] (λi wr=>∃ (j:Nat) (pre suf:Es) (C:List I1),i=I J (j:Int)/\pre.len=j/\j+suf.len=es.len/\ak (es=pre.app suf)/\ak (suf.size<=es.size)/\ak (au wr w.heap.size 33 C)/\C.length=es.len*5 /\
  ak (iN wr pre (w.heap.size+1) wr.heap.size w.heap.size 0)/\ak (aI wr B suf b (o+j*5))/\ak (Ix w.heap.size w wr)) (λi _=>es.len - (intOf i).toNat)
 case atStart=>
  have hg:Ix w.heap.size w (w.alloc (Is C0.toArray 33)):=aV;refine⟨0,.nil,es,C0,bE,rfl,ah,rfl,Jn _,au.new _ _ _,CP.2, ?_, ?_,hg⟩
  ·show _<=_;simp
  ·show aI _ _ _ _ _;rw[Mn,Mm];exact HA.o.below (hg.mono hB)
 case round=>
  obtain⟨j,pre,suf,C,rfl,hp,hj,hes,hsz,HC,hcl,HM,HE,HB⟩:=hrel;cases suf with
  | nil=>
   simp only[Es.len] at hj;go_wp2;go_ret;have he:=hes.o;rw[Es.oQ] at he;subst he;exact⟨rfl,HM.o,HB.o⟩
  | cons k n p c ks r=>
   simp only[Es.len] at hj;have hA:=hA1 ah;subst hA;obtain⟨⟨hb,c0,c1,c2,c3,K,cp,b',o',c4,zN,hcm,hK,hks⟩,hr⟩:=HE.o;have HK:ak (bJ wr B ks K):=⟨b',o',hK,hks⟩
   have HR:=aj hr;have hrs:ak (r.size<=es.size/\ks.size<es.size):=by
    have:=hsz.o;simp only[Es.size] at this;exact⟨ah,ah⟩
   clear hr hks HE;go_wp2_with fail;refine (vD (IH.o ks (by have:=hrs.o;omega) (by have:=hrs.o;omega)) k n p c K cp B wr HK.o (by have:=HB.o.size;omega)).mono ?_;rintro e w1 ⟨g,hg1,hg2,rfl,hM1,hb1⟩;have pI:=HC.o.next hb1;have hgl:=HC.o.lt;have z0:=HB.o.size;have q0:∃ u,w1.cell? ⟨w.heap.size,j*5,U⟩=M u:=⟨C[j*5],by rw[pI.cell];simp⟩
   have q1:∃ u,w1.cell? ⟨w.heap.size,j*5+1,U⟩=M u:=⟨C[j*5+1],by rw[pI.cell];simp⟩
   have q2:∃ u,w1.cell? ⟨w.heap.size,j*5+2,U⟩=M u:=⟨C[j*5+2],by rw[pI.cell];simp⟩
   have q3:∃ u,w1.cell? ⟨w.heap.size,j*5+3,U⟩=M u:=⟨C[j*5+3],by rw[pI.cell];simp⟩
   have q4:∃ u,w1.cell? ⟨w.heap.size,j*5+4,U⟩=M u:=⟨C[j*5+4],by rw[pI.cell];simp⟩
   obtain⟨u0,h0⟩:=q0;obtain⟨u1,h1⟩:=q1;obtain⟨u2,h2⟩:=q2;obtain⟨u3,h3⟩:=q3;obtain⟨u4,h4⟩:=q4;have f0:w1.frozen? ⟨w.heap.size,j*5,U⟩=false:=pI.frozen _;have f1:w1.frozen? ⟨w.heap.size,j*5+1,U⟩=false:=pI.frozen _;have f2:w1.frozen? ⟨w.heap.size,j*5+2,U⟩=false:=pI.frozen _;have f3:w1.frozen? ⟨w.heap.size,j*5+3,U⟩=false:=pI.frozen _;have f4:w1.frozen? ⟨w.heap.size,j*5+4,U⟩=false:=pI.frozen _
   have IL:ak (Ix w.heap.size w (cK w1 w.heap.size (j*5) k n p c (V (M ⟨g,0,U⟩) ks.len ks.len))):=bD _ _ _ _ _ (aH HB.o hb1) (Jn _);have HC5:=aj (oz (o:=j*5) pI k n p c (V (M ⟨g,0,U⟩) ks.len ks.len));have HM5:=aj (toStep hp HM.o hb1 pI hM1 hgl hg1 hg2 ah (by have:=Es.aF ks;have:=hrs.o;omega) (k:=k) (n:=n) (p:=p) (c:=c));have HE5:ak (aI (cK w1 w.heap.size (j*5) k n p c (V (M ⟨g,0,U⟩) ks.len ks.len)) B r b (o+(j+1)*5)):=
    Gp (w1:=wr) (bD _ _ _ _ _ (hb1.mono ah) ah) HR.o
   clear pI hM1 hb1 HM HC HR HK c0 c1 c2 c3 c4;go_wp2
   go_roundw
   case rel=>exact⟨j+1,pre.snoc k n p c ks,r,_,bE,by rw[Es.dD,hp],ah,by show _=_;rw[Es.mJ];exact hes.o,hrs.o.1,HC5,by simp[hcl],HM5,HE5,IL⟩
   case measure=>simp[intOf];omega
theorem pq(es:Es)(h:es.size<=1048576):ToC es:=KV (es.size+1) es ah h
def FnM(w:Iv)(b o:Nat)(s:ByteArray)(n:Int)(v:I1):Prop:=
 (w.cell? ⟨b,o,U⟩=M (.string s)/\w.cell? ⟨b,o+1,U⟩=M (I J n)/\w.cell? ⟨b,o+2,U⟩=M v)/\∀ i,i<3->w.frozen? ⟨b,o+i,U⟩=false
def iO(w:Iv):List Fn->Nat->Nat->Nat->Nat->Prop
 | [],lo,hi,_,_=>lo<=hi
 | f :: r,lo,hi,b,o=>∃ (K:Option I3) (cap b' mid:Nat),FnM w b o f.name f.params (V K f.outs.len cap)/\f.name.size<=I2/\f.outs.len<=cap/\cap<=I2/\(0<f.outs.len->K=M ⟨b',0,U⟩)/\lo<=b'/\b'<mid /\
   iN w f.outs (b'+1) mid b' 0/\iO w r mid hi b (o+3)
theorem FnM.keep{w w':Iv}{b o:Nat}{s:ByteArray}{n:Int}{v:I1}(h:FnM w b o s n v)(hc:aN w w' b o (o+3)):FnM w' b o s n v:=by
 obtain⟨⟨h0,h1,h2⟩,hf⟩:=h;exact⟨⟨(hc o ah ah).1.trans h0,(hc (o+1) ah ah).1.trans h1,(hc (o+2) ah ah).1.trans h2⟩,
  λi hi=>(hc (o+i) ah ah).2.trans (hf i hi)⟩
theorem iO.le{w:Iv}:∀ {fs:List Fn}{lo hi b o:Nat},iO w fs lo hi b o->lo<=hi
 | [],_,_,_,_,h=>h
 | f :: r,lo,hi,b,o,⟨_,_,b',mid,_,_,_,_,_,h1,h2,_,hr⟩=>by have:=iO.le hr;omega
theorem iO.keep{w w':Iv}:∀ {fs:List Fn}{lo hi b o:Nat},iO w fs lo hi b o->aN w w' b o (o+fs.length*3)->(∀ q,lo<=q->q<hi->w'.heap[q]? = w.heap[q]?)->iO w' fs lo hi b o
 | [],_,_,_,_,h,_,_=>h
 | f :: r,lo,hi,b,o,⟨K,cap,b',mid,h0,hn,hc,hm,hK,h1,h2,hk,hr⟩,hs,hb=>by
  simp only[List.length_cons] at hs;have hle:=hr.le;exact⟨K,cap,b',mid,h0.keep (hs.sub (Jn _) ah),hn,hc,hm,hK,h1,h2,hk.keep (aN.of_block (hb b' h1 ah) _ _) (λq hq BQ=>hb q ah ah),
   iO.keep hr (hs.sub ah ah) (λq hq BQ=>hb q ah BQ)⟩
theorem iO.fns{w:Iv}{B:Nat}:∀ {fs:List Fn}{lo hi b o:Nat},iO w fs lo hi b o->hi<=B->b<B->fA w B fs b o
 | [],_,_,_,_,_,_,_=>trivial
 | f :: r,lo,hi,b,o,⟨K,cap,b',mid,⟨⟨h0,h1,h2⟩,_⟩,hn,hc,hm,hK,l1,l2,hk,hr⟩,hB,hb=>by
  have hle:=hr.le;exact⟨⟨hb,h0,h1,hn,K,cap,h2,hc,hm,b',0,hK,hk.exs ah ah⟩,iO.fns hr hB hb⟩
theorem iO.snoc{w:Iv}:∀ {fs:List Fn}{lo mid hi b o:Nat}{f:Fn}{K:Option I3}{cap b':Nat},iO w fs lo mid b o->FnM w b (o+fs.length*3) f.name f.params (V K f.outs.len cap)->f.name.size<=I2->f.outs.len<=cap->cap<=I2 ->
  (0<f.outs.len->K=M ⟨b',0,U⟩)->mid<=b'->b'<hi->iN w f.outs (b'+1) hi b' 0->iO w (fs++[f]) lo hi b o
 | [],lo,mid,hi,b,o,f,K,cap,b',h,hx,hn,hc,hm,hK,h1,h2,hk=>by
  simp only[List.length_nil,Mn,Mm] at hx;have hl:lo<=mid:=h;exact⟨K,cap,b',hi,hx,hn,hc,hm,hK,ah,h2,hk,Jn _⟩
 | g :: r,lo,mid,hi,b,o,f,K,cap,b',⟨K0,eT,b0,m0,g0,gn,gc,gm,gK,g1,g2,gk,gr⟩,hx,hn,hc,hm,hK,h1,h2,hk=>by
  simp only[List.length_cons] at hx;rw[show o+(r.length+1)*3=o+3+r.length*3 by omega] at hx;exact⟨K0,eT,b0,m0,g0,gn,gc,gm,gK,g1,g2,gk,iO.snoc gr hx hn hc hm hK h1 h2 hk⟩
theorem Tryz.infoF:(Tryz.prog.info? 146).map (λi=>(i.zero,i.size,i.bytes))=M (M (Jp ByteArray.empty 0 U 0 0),3,48):=aL
theorem OP(f:Fn)(hz:f.outs.size<=1048576)(K:Option I3)(cap B:Nat)(w:Iv)(hK:bJ w B f.outs K)(hB:B<=w.heap.size) :
  I0 Tryz.prog 147 #[Jp f.name f.params K f.outs.len cap] w λe w'=>∃ g,w.heap.size<=g/\g<w'.heap.size/\e=If (Jp f.name f.params (M ⟨g,0,U⟩) f.outs.len f.outs.len)/\iN w' f.outs (g+1) w'.heap.size g 0/\Ix w.heap.size w w':=by
 go_enter func147,ntmps147;go_wp2_with fail;obtain⟨hsz,pI,hC2,hb0⟩:=xS w (Is #[.string f.name,I J f.params,V K f.outs.len cap] 195) 146 146 [.string ⟨#[]⟩,I J 0,V U 0 0] [.string f.name,I J f.params,V U 0 0];generalize (((w.alloc (Is #[.string f.name,I J f.params,V K f.outs.len cap] 195)).alloc (Is #[.string ⟨#[]⟩,I J 0,V U 0 0] 146)).alloc (Is #[.string f.name,I J f.params,V U 0 0] 146))=W3 at hsz hb0 pI hC2 ⊢
 refine (pq f.outs hz K cap B W3 (hK.below (hb0.mono hB)) ah).mono ?_;rintro e w1 ⟨rfl,hM,hb⟩;rw[hsz] at hM hb ⊢;have hE1:=pI.below hb ah;have hE2:=hC2.below hb ah;have HM:=aj hM;have HB:=aj hb;have z1:=hb.size;have z2:=aj hb0;have k0:w1.cell? ⟨w.heap.size+1+1,0,U⟩=M (.string f.name):=ay hE2
 have k1:w1.cell? ⟨w.heap.size+1+1,1,U⟩=M (I J f.params):=ay hE2
 have k2:w1.cell? ⟨w.heap.size+1+1,2,U⟩=M (V U 0 0):=ay hE2
 have f4:w1.frozen? ⟨w.heap.size+1+1,2,U⟩=false:=hE2.frozen _;have j0:w1.cell? ⟨w.heap.size+1,0,U⟩=M (.string ⟨#[]⟩):=ay hE1
 have j1:w1.cell? ⟨w.heap.size+1,1,U⟩=M (I J 0):=ay hE1
 have j2:w1.cell? ⟨w.heap.size+1,2,U⟩=M (V U 0 0):=ay hE1
 have g0:w1.frozen? ⟨w.heap.size+1,0,U⟩=false:=hE1.frozen _;have g1:w1.frozen? ⟨w.heap.size+1,1,U⟩=false:=hE1.frozen _;have g2:w1.frozen? ⟨w.heap.size+1,2,U⟩=false:=hE1.frozen _;have hD0:=hE1.far (p:=⟨w.heap.size+1+1,2,U⟩) (by simp) (V (M ⟨w.heap.size+3,0,U⟩) f.outs.len f.outs.len);have hD1:=hD0.aJ 0 (.string f.name);have hD2:=hD1.aJ 1 (I J f.params);have hD3:=hD2.aJ 2 (V (M ⟨w.heap.size+3,0,U⟩) f.outs.len f.outs.len)
 have x0:=hD1.cell 0;have x1:=hD2.cell 1;have x2:=hD3.cell 2;simp only[eY] at x0 x1 x2;clear hM hb pI hC2 hE1 hE2 hb0 hD0 hD1 hD2 hD3;go_wp2;refine bodyPost_ret (v:=Jp f.name f.params (M ⟨w.heap.size+3,0,U⟩) f.outs.len f.outs.len) (by simp[results,results147,go_sem,x0,x1,x2]) rfl ?_;have hl:=HM.o.le
 have hb6:=((((z2.o.trans (HB.o.mono ah)).setCell (p:=⟨w.heap.size+1+1,2,U⟩) (by simp;omega) (V (M ⟨w.heap.size+3,0,U⟩) f.outs.len f.outs.len)).setCell (p:=⟨w.heap.size+1,0,U⟩) (by simp) (.string f.name)).setCell (p:=⟨w.heap.size+1,1,U⟩) (by simp) (I J f.params)).setCell (p:=⟨w.heap.size+1,2,U⟩) (by simp) (V (M ⟨w.heap.size+3,0,U⟩) f.outs.len f.outs.len)
 refine⟨w.heap.size+3,ah,by simp[World.setCell];omega,rfl, ?_,hb6⟩;have hq:∀ q,w.heap.size+3<=q->_:=λq hq=>
  (J1 _ ⟨w.heap.size+1,2,U⟩ (V (M ⟨w.heap.size+3,0,U⟩) f.outs.len f.outs.len) q (by simp;omega)).trans
   ((J1 _ ⟨w.heap.size+1,1,U⟩ (I J f.params) q (by simp;omega)).trans ((J1 _ ⟨w.heap.size+1,0,U⟩ (.string f.name) q (by simp;omega)).trans (J1 w1 ⟨w.heap.size+1+1,2,U⟩ (V (M ⟨w.heap.size+3,0,U⟩) f.outs.len f.outs.len) q (by simp;omega))))
 have e6:((((w1.setCell ⟨w.heap.size+1+1,2,U⟩ (V (M ⟨w.heap.size+3,0,U⟩) f.outs.len f.outs.len)).setCell ⟨w.heap.size+1,0,U⟩ (.string f.name)).setCell ⟨w.heap.size+1,1,U⟩ (I J f.params)).setCell ⟨w.heap.size+1,2,U⟩ (V (M ⟨w.heap.size+3,0,U⟩) f.outs.len f.outs.len)).heap.size=w1.heap.size:=by simp[World.setCell]
 rw[e6];exact HM.o.keep (aN.of_block (hq _ ah) _ _) (λq h1 _=>hq q ah)
def BD(w:Iv)(g o:Nat)(s:ByteArray)(n:Int)(v:I1):Iv:=
 ((w.setCell ⟨g,o,U⟩ (.string s)).setCell ⟨g,o+1,U⟩ (I J n)).setCell ⟨g,o+2,U⟩ v
section
variable {w:Iv}{g o:Nat}{t:TypeId}{C:List I1}(s:ByteArray) (n:Int) (v:I1)
theorem DC(h:au w g t C):au (BD w g o s n v) g t (((C.set o (.string s)).set (o+1) (I J n)).set (o+2) v):=((h.aJ _ _).aJ _ _).aJ _ _
theorem ZY(h:au w g t C)(hl:o+3<=C.length):FnM (BD w g o s n v) g o s n v:=by
 have h5:=DC (o:=o) s n v h;refine⟨⟨?_, ?_, ?_⟩,λi _=>h5.frozen _⟩<;>rw[h5.cell]
 ·rw[List.getElem?_set_ne ah,List.getElem?_set_ne ah,List.getElem?_set_self ah]
 ·rw[List.getElem?_set_ne ah,List.getElem?_set_self (by simp;omega)]
 ·rw[List.getElem?_set_self (by simp;omega)]
theorem SN:aN w (BD w g o s n v) g 0 o:=
 ((aN.aJ (.inr (Jn _))).trans (aN.aJ (.inr ah))).trans (aN.aJ (.inr ah))
theorem OE{q:Nat}(hq:q≠g):(BD w g o s n v).heap[q]? = w.heap[q]?:=
 (J1 _ _ _ _ hq).trans ((J1 _ _ _ _ hq).trans (J1 _ _ _ _ hq))
theorem SQ:(BD w g o s n v).heap.size=w.heap.size:=by simp[BD,World.setCell]
theorem Dz{w0:Iv}{B:Nat}(h:Ix B w0 w)(hg:B<=g):Ix B w0 (BD w g o s n v):=
 ((h.setCell (p:=⟨g,_,U⟩) hg _).setCell (p:=⟨g,_,U⟩) hg _).setCell (p:=⟨g,_,U⟩) hg _
end
theorem ab8{wr w1:Iv}{g0 j g:Nat}{t:TypeId}{C:List I1}{pre:List Fn}{f:Fn}(hp:pre.length=j)(HM:iO wr pre (g0+1) wr.heap.size g0 0)(hb1:Ix wr.heap.size wr w1)(pI:au w1 g0 t C)(hM1:iN w1 f.outs (g+1) w1.heap.size g 0)
  (hgl:g0<wr.heap.size) (hg1:wr.heap.size<=g) (hg2:g<w1.heap.size) (hcl:j*3+3<=C.length) (hn:f.name.size<=I2) (hk:f.outs.len<=1048576) :
  iO (BD w1 g0 (j*3) f.name f.params (V (M ⟨g,0,U⟩) f.outs.len f.outs.len)) (pre++[f]) (g0+1) (BD w1 g0 (j*3) f.name f.params (V (M ⟨g,0,U⟩) f.outs.len f.outs.len)).heap.size g0 0:=by
 have hs:=SQ (w:=w1) (g:=g0) (o:=j*3) f.name f.params (V (M ⟨g,0,U⟩) f.outs.len f.outs.len);have hbk:=λq (hq:q≠g0)=>OE (w:=w1) (g:=g0) (o:=j*3) f.name f.params (V (M ⟨g,0,U⟩) f.outs.len f.outs.len) hq
 have hsm:=SN (w:=w1) (g:=g0) (o:=j*3) f.name f.params (V (M ⟨g,0,U⟩) f.outs.len f.outs.len);have hx:=ZY f.name f.params (V (M ⟨g,0,U⟩) f.outs.len f.outs.len) pI hcl;generalize BD w1 g0 (j*3) f.name f.params (V (M ⟨g,0,U⟩) f.outs.len f.outs.len)=W at hs hbk hsm hx ⊢;rw[hs];refine iO.snoc (mid:=wr.heap.size) (K:=M ⟨g,0,U⟩) (cap:=f.outs.len) (b':=g) ?_ ?_ hn (Jn _) (by unfold I2;omega) (λ_=>rfl) hg1 hg2 ?_
 ·refine HM.keep ?_ ?_
  ·refine (aN.of_block (hb1.block _ hgl) _ _).trans ?_
   rwa [<-hp,<-Mu (pre.length*3)] at hsm
  ·intro q l1 l2
   exact (hbk q ah).trans (hb1.block q l2)
 ·rw[Mu,hp]
  exact hx
 ·exact hM1.keep (aN.of_block (hbk g ah) _ _) (λq l1 _=>hbk q ah)
theorem Gq{w1 W:Iv}{B b o j:Nat}{r:List Fn}(h:Ix B w1 W)(hr:fA w1 B r b (o+j*3+3)):fA W B r b (o+(j+1)*3):=by
 have:=fA.below h hr
 rwa [show o+j*3+3=o+(j+1)*3 by omega] at this
theorem KW(fs:List Fn)(hz:bK fs<=1048576)(A:Option I3)(cap B:Nat)(w:Iv)(hA:eP w B fs A)(hB:B<=w.heap.size) :
  I0 Tryz.prog 70 #[V A fs.length cap] w λe w'=>e=If (V (M ⟨w.heap.size,0,U⟩) fs.length fs.length)/\iO w' fs (w.heap.size+1) w'.heap.size w.heap.size 0/\Ix w.heap.size w w':=by
 have HZ:ak (bK fs=fs.length+dU fs):=rfl;have hls:fs.length<=bK fs:=by have:=HZ.o;omega
 obtain⟨b,o,hA1,hA2⟩:=hA;have HA:=aj hA2;clear hA2;have hmk:=wC (P:=Tryz.prog) 49 146 (Jp ByteArray.empty 0 U 0 0) 3 48 underlying49 Tryz.infoF .i64 .i64 fs.length ah ah;obtain⟨C0,CP⟩:∃ C0:List I1,madeCells (Jp ByteArray.empty 0 U 0 0).cells (fs.length*3)=C0.toArray/\C0.length=fs.length*3:=⟨(madeCells (Jp ByteArray.empty 0 U 0 0).cells (fs.length*3)).toList,by simp,by simp[rJ]⟩
 rw[CP.1] at hmk;go_enter func70,ntmps70;go_wp2
 go_loopw [4] (λi wr=>∃ (j:Nat) (pre suf:List Fn) (C:List I1),i=I J (j:Int)/\pre.length=j/\j+suf.length=fs.length/\ak (fs=pre++suf)/\ak (suf.length+dU suf<=bK fs)/\ak (au wr w.heap.size 146 C)/\C.length=fs.length*3 /\
  ak (iO wr pre (w.heap.size+1) wr.heap.size w.heap.size 0)/\ak (fA wr B suf b (o+j*3))/\ak (Ix w.heap.size w wr)) (λi _=>fs.length - (intOf i).toNat)
 case atStart=>
  have hg:Ix w.heap.size w (w.alloc (Is C0.toArray 146)):=aV;refine⟨0,[],fs,C0,bE,rfl,ah,rfl,by have:=HZ.o;show _<=_;omega,au.new _ _ _,CP.2, ?_, ?_,hg⟩
  ·show _<=_;simp
  ·show fA _ _ _ _ _;rw[Mn,Mm];exact fA.below (hg.mono hB) HA.o
 case round=>
  obtain⟨j,pre,suf,C,rfl,hp,hj,hes,hsz,HC,hcl,HM,HE,HB⟩:=hrel;cases suf with
  | nil=>
   simp only[List.length_nil] at hj;go_wp2;go_ret;have he:=hes.o;rw[List.append_nil] at he;subst he;exact⟨rfl,HM.o,HB.o⟩
  | cons f r=>
   simp only[List.length_cons] at hj;have hA:=hA1 ah;subst hA;obtain⟨⟨hb,c0,c1,hss,K,cp,c2,zN,hcm,hks⟩,hr⟩:=HE.o;have HK:=aj hks;have HR:=aj hr;have hrs:ak (r.length+dU r<=bK fs/\f.outs.size<=bK fs):=by
    have:=hsz.o;simp only[List.length_cons,dU,Fn.size] at this;exact⟨ah,ah⟩
   clear hr hks HE;go_wp2_with fail;refine (OP f (by have:=hrs.o;omega) K cp B wr HK.o (by have:=HB.o.size;omega)).mono ?_;rintro e w1 ⟨g,hg1,hg2,rfl,hM1,hb1⟩;have pI:=HC.o.next hb1;have hgl:=HC.o.lt;have z0:=HB.o.size;have q0:∃ u,w1.cell? ⟨w.heap.size,j*3,U⟩=M u:=⟨C[j*3],by rw[pI.cell];simp⟩
   have q1:∃ u,w1.cell? ⟨w.heap.size,j*3+1,U⟩=M u:=⟨C[j*3+1],by rw[pI.cell];simp⟩
   have q2:∃ u,w1.cell? ⟨w.heap.size,j*3+2,U⟩=M u:=⟨C[j*3+2],by rw[pI.cell];simp⟩
   obtain⟨u0,h0⟩:=q0;obtain⟨u1,h1⟩:=q1;obtain⟨u2,h2⟩:=q2;have f0:w1.frozen? ⟨w.heap.size,j*3,U⟩=false:=pI.frozen _;have f1:w1.frozen? ⟨w.heap.size,j*3+1,U⟩=false:=pI.frozen _;have f2:w1.frozen? ⟨w.heap.size,j*3+2,U⟩=false:=pI.frozen _;have IL:ak (Ix w.heap.size w (BD w1 w.heap.size (j*3) f.name f.params (V (M ⟨g,0,U⟩) f.outs.len f.outs.len))):=Dz _ _ _ (aH HB.o hb1) (Jn _)
   have HC5:=aj (DC (o:=j*3) f.name f.params (V (M ⟨g,0,U⟩) f.outs.len f.outs.len) pI);have HM5:=aj (ab8 (f:=f) hp HM.o hb1 pI hM1 hgl hg1 hg2 ah hss (by have:=Es.aF f.outs;have:=hrs.o;omega));have HE5:ak (fA (BD w1 w.heap.size (j*3) f.name f.params (V (M ⟨g,0,U⟩) f.outs.len f.outs.len)) B r b (o+(j+1)*3)):=
    Gq (w1:=wr) (Dz _ _ _ (hb1.mono ah) ah) HR.o
   clear pI hM1 hb1 HM HC HR HK c0 c1 c2;go_wp2
   go_roundw
   case rel=>exact⟨j+1,pre++[f],r,_,bE,by simp[hp],ah,by show _=_;rw[List.append_assoc];exact hes.o,hrs.o.1,HC5,by simp[hcl],HM5,HE5,IL⟩
   case measure=>simp[intOf];omega
theorem EG(fs:List Fn)(hz:bK fs<=1048576)(A:Option I3)(cap B:Nat)(w:Iv)(hA:eP w B fs A)(hB:B<=w.heap.size) :
  I0 Tryz.prog 22 #[rW A fs.length cap] w λe w'=>∃ g,w.heap.size<=g/\g<w'.heap.size/\e=If (rW (M ⟨g,0,U⟩) fs.length fs.length)/\iO w' fs (g+1) w'.heap.size g 0/\Ix w.heap.size w w':=by
 go_enter func22,ntmps22;go_wp2_with fail;obtain⟨hsz,pI,hC2,hb0⟩:=xS w (Is #[V A fs.length cap] 44) 51 51 [V U 0 0] [V U 0 0];generalize (((w.alloc (Is #[V A fs.length cap] 44)).alloc (Is #[V U 0 0] 51)).alloc (Is #[V U 0 0] 51))=W3 at hsz hb0 pI hC2 ⊢;refine (KW fs hz A cap B W3 (hA.below (hb0.mono hB)) ah).mono ?_;rintro e w1 ⟨rfl,hM,hb⟩
 rw[hsz] at hM hb ⊢;have hE1:=pI.below hb ah;have hE2:=hC2.below hb ah;have HM:=aj hM;have HB:=aj hb;have z1:=hb.size;have z2:=aj hb0;have k2:w1.cell? ⟨w.heap.size+1+1,0,U⟩=M (V U 0 0):=ay hE2
 have f4:w1.frozen? ⟨w.heap.size+1+1,0,U⟩=false:=hE2.frozen _;have j2:w1.cell? ⟨w.heap.size+1,0,U⟩=M (V U 0 0):=ay hE1
 have g2:w1.frozen? ⟨w.heap.size+1,0,U⟩=false:=hE1.frozen _;have hD0:=hE1.far (p:=⟨w.heap.size+1+1,0,U⟩) (by simp) (V (M ⟨w.heap.size+3,0,U⟩) fs.length fs.length);have hD3:=hD0.aJ 0 (V (M ⟨w.heap.size+3,0,U⟩) fs.length fs.length);have x2:=hD3.cell 0;simp only[List.set_cons_zero,List.getElem?_cons_zero] at x2;clear hM hb pI hC2 hE1 hE2 hb0 hD0 hD3;go_wp2;refine bodyPost_ret (v:=rW (M ⟨w.heap.size+3,0,U⟩) fs.length fs.length) (by simp[results,results22,go_sem,x2]) rfl ?_
 have hl:=HM.o.le;have hb6:=((z2.o.trans (HB.o.mono ah)).setCell (p:=⟨w.heap.size+1+1,0,U⟩) (by simp;omega) (V (M ⟨w.heap.size+3,0,U⟩) fs.length fs.length)).setCell (p:=⟨w.heap.size+1,0,U⟩) (by simp) (V (M ⟨w.heap.size+3,0,U⟩) fs.length fs.length);refine⟨w.heap.size+3,ah,by simp[World.setCell];omega,rfl, ?_,hb6⟩;have hq:∀ q,w.heap.size+3<=q->_:=λq hq=>
  (J1 _ ⟨w.heap.size+1,0,U⟩ (V (M ⟨w.heap.size+3,0,U⟩) fs.length fs.length) q (by simp;omega)).trans (J1 w1 ⟨w.heap.size+1+1,0,U⟩ (V (M ⟨w.heap.size+3,0,U⟩) fs.length fs.length) q (by simp;omega))
 have e6:((w1.setCell ⟨w.heap.size+1+1,0,U⟩ (V (M ⟨w.heap.size+3,0,U⟩) fs.length fs.length)).setCell ⟨w.heap.size+1,0,U⟩ (V (M ⟨w.heap.size+3,0,U⟩) fs.length fs.length)).heap.size=w1.heap.size:=by simp[World.setCell]
 rw[e6];exact HM.o.keep (aN.of_block (hq _ ah) _ _) (λq h1 _=>hq q ah)
end
section
open Go.RowKit Plain
def EqC(es:Es):Prop:=∀ (A A':Option I3) (cap bB B:Nat) (w:Iv),bJ w B es A->bJ w B es A'->B<=w.heap.size->es.size<=1048576 ->
 I0 Tryz.prog 79 #[V A es.len cap,V A' es.len bB] w λe w'=>e=If (.bool true)/\Ix w.heap.size w w'
theorem ql{ks:Es}(h:EqC ks)(k n p c:Int)(K K':Option I3)(cap bB B:Nat)(w:Iv)(hK:bJ w B ks K)(Gv:bJ w B ks K')(hB:B<=w.heap.size)(hl:ks.size<=1048576) :
  I0 Tryz.prog 26 #[exV k n p c K ks.len cap,exV k n p c K' ks.len bB] w λe w'=>e=If (.bool true)/\Ix w.heap.size w w':=by
 go_enter func26,ntmps26;go_wp2_with fail;refine (h K K' cap bB B _ (hK.below aV) (Gv.below aV) (by simp;omega) hl).mono ?_;rintro e w' ⟨rfl,hb⟩;go_wp2;go_ret;exact⟨rfl,(((Jx _ _).alloc (Jn _) _).alloc (by simp) _).trans (hb.mono (by simp;omega))⟩
theorem mF:∀ (m:Nat) (es:Es),es.size<m->EqC es:=by
 intro m
 induction m with
 | zero=>intro es h;omega
 | succ m ih=>
 intro es hm A A' cap bB B w hA hA' hB hl;have hls:=Es.aF es;have IH:=aj ih;clear ih;obtain⟨b,o,hA1,hA2⟩:=hA;obtain⟨b',o',YG,JA⟩:=hA';have HA:=aj hA2;clear hA2;have HA':=aj JA;clear JA;go_enter func79,ntmps79;go_wp2
 go_loopw [5] (λi wr=>∃ (j:Nat) (es':Es),i=I J (j:Int)/\j+es'.len=es.len/\ak (es'.size<=es.size)/\ak (aI wr B es' b (o+j*5))/\ak (aI wr B es' b' (o'+j*5))/\ak (Ix w.heap.size w wr)) (λi _=>es.len - (intOf i).toNat)
 case atStart=>
  refine⟨0,es,bE,ah,Jn _, ?_, ?_,Jx _ _⟩
  ·show aI _ _ _ _ _;rw[Mn,Mm];exact HA.o
  ·show aI _ _ _ _ _;rw[Mn,Mm];exact HA'.o
 case round=>
  obtain⟨j,es',rfl,hj,hsz,HE,Vk,HB⟩:=hrel;cases es' with
  | nil=>
   simp only[Es.len] at hj;go_wp2;go_ret;exact⟨rfl,HB.o⟩
  | cons k n p c ks r=>
   simp only[Es.len] at hj;have hA:=hA1 ah;subst hA;have hA:=YG ah;subst hA;obtain⟨⟨hb,c0,c1,c2,c3,K,cp,x,y,c4,zN,hcm,hK,hks⟩,hr⟩:=HE.o;obtain⟨⟨hb',c0',c1',c2',c3',K',cp',x',y',I8,afn,fF,Gv,yB⟩,hr'⟩:=Vk.o;have HK:ak (bJ wr B ks K):=⟨x,y,hK,hks⟩
   have HK':ak (bJ wr B ks K'):=⟨x',y',Gv,yB⟩
   have HR:=aj hr;have Vz:=aj hr';have hrs:ak (r.size<=es.size/\ks.size<es.size/\ks.len<=ks.size):=by
    have:=hsz.o;simp only[Es.size] at this;exact⟨ah,ah,Es.aF ks⟩
   clear hr hks HE hr' yB Vk;have hkl:ks.size<=1048576:=by have:=hrs.o;omega
   have HQ:ak (∀ wx,Ix wr.heap.size wr wx->I0 Tryz.prog 26 #[exV k n p c K ks.len cp,exV k n p c K' ks.len cp'] wx λe w'=>e=If (.bool true)/\Ix wx.heap.size wx w'):=λwx hx=>by
    have z0:=HB.o.size;have z1:=hx.size;exact ql (IH.o ks (by have:=hrs.o;omega)) k n p c K K' cp cp' B wx (HK.o.below (hx.mono ah)) (HK'.o.below (hx.mono ah)) ah hkl
   clear HK HK';go_wp2
   go_region_with (go_at_call 26;refine (HQ.o _ (by first | exact (Jx _ _).drew | exact below_drewN' (Jx _ _) _)).mono ?_;rintro e w1 ⟨rfl,hb1⟩)
   all_goals
    have hb2:=EN hb1;have hB2:Ix B wr w1:=hb2.mono (by have:=HB.o.size;omega);have gY:ak (aI w1 B r b (o+(j+1)*5)):=Gp hB2 HR.o;have LH:ak (aI w1 B r b' (o'+(j+1)*5)):=Gp hB2 Vz.o;have HB1:=aj (aH HB.o hb2);clear HR Vz c0 c1 c2 c3 c4 c0' c1' c2' c3' I8 hb1 hB2 HB HQ hb2;go_wp2
    go_roundw
    case rel=>exact⟨j+1,r,bE,ah,hrs.o.1,gY,LH,HB1⟩
    case measure=>simp[intOf];omega
theorem Nb(f:Fn)(K K':Option I3)(cap bB B:Nat)(w:Iv)(hK:bJ w B f.outs K)(Gv:bJ w B f.outs K')(hB:B<=w.heap.size)(hl:f.outs.size<=1048576) :
  I0 Tryz.prog 159 #[Jp f.name f.params K f.outs.len cap,Jp f.name f.params K' f.outs.len bB] w λe w'=>e=If (.bool true)/\Ix w.heap.size w w':=by
 go_enter func159,ntmps159;go_wp2_with fail;refine (mF (f.outs.size+1) f.outs ah K K' cap bB B _ (hK.below aV) (Gv.below aV) (by simp;omega) hl).mono ?_;rintro e w' ⟨rfl,hb⟩;go_wp2;go_ret;exact⟨rfl,(((Jx _ _).alloc (Jn _) _).alloc (by simp) _).trans (hb.mono (by simp;omega))⟩
theorem Jj(fs:List Fn)(A A':Option I3)(cap bB B:Nat)(w:Iv)(hA:eP w B fs A)(hA':eP w B fs A')(hB:B<=w.heap.size)(hl:bK fs<=1048576) :
  I0 Tryz.prog 80 #[V A fs.length cap,V A' fs.length bB] w λe w'=>e=If (.bool true)/\Ix w.heap.size w w':=by
 have hls:fs.length<=1048576:=by unfold bK at hl;omega
 have HL:=aj hl;clear hl;obtain⟨b,o,hA1,hA2⟩:=hA;obtain⟨b',o',YG,JA⟩:=hA';have HA:=aj hA2;clear hA2;have HA':=aj JA;clear JA;go_enter func80,ntmps80;go_wp2
 go_loopw [5] (λi wr=>∃ (j:Nat) (es':List Fn),i=I J (j:Int)/\j+es'.length=fs.length/\ak (dU es'<=bK fs)/\ak (fA wr B es' b (o+j*3))/\ak (fA wr B es' b' (o'+j*3))/\ak (Ix w.heap.size w wr)) (λi _=>fs.length - (intOf i).toNat)
 case atStart=>
  refine⟨0,fs,bE,ah,by show _<=_;unfold bK;omega, ?_, ?_,Jx _ _⟩
  ·show fA _ _ _ _ _;rw[Mn,Mm];exact HA.o
  ·show fA _ _ _ _ _;rw[Mn,Mm];exact HA'.o
 case round=>
  obtain⟨j,es',rfl,hj,hsz,HE,Vk,HB⟩:=hrel;cases es' with
  | nil=>
   simp only[List.length_nil] at hj;go_wp2;go_ret;exact⟨rfl,HB.o⟩
  | cons f r=>
   simp only[List.length_cons] at hj;have hA:=hA1 ah;subst hA;have hA:=YG ah;subst hA;obtain⟨⟨hb,c0,c1,hss,K,cp,c2,zN,hcm,hks⟩,hr⟩:=HE.o;obtain⟨⟨hb',c0',c1',amO,K',cp',c2',afn,fF,yB⟩,hr'⟩:=Vk.o;have HK:=aj hks;have HK':=aj yB;have HR:=aj hr;have Vz:=aj hr';have hrs:ak (dU r<=bK fs/\f.outs.size<=1048576):=by
    have:=hsz.o;have:=HL.o;simp only[dU,Fn.size] at *;exact⟨ah,ah⟩
   clear hr hks HE hr' yB Vk;have HQ:ak (∀ wx,Ix wr.heap.size wr wx->I0 Tryz.prog 159 #[Jp f.name f.params K f.outs.len cp,Jp f.name f.params K' f.outs.len cp'] wx λe w'=>e=If (.bool true)/\Ix wx.heap.size wx w'):=λwx hx=>by
    have z0:=HB.o.size;have z1:=hx.size;exact Nb f K K' cp cp' B wx (HK.o.below (hx.mono ah)) (HK'.o.below (hx.mono ah)) ah hrs.o.2
   clear HK HK';go_wp2
   go_region_with (go_at_call 159;refine (HQ.o _ (by first | exact (Jx _ _).drew | exact below_drewN' (Jx _ _) _)).mono ?_;rintro e w1 ⟨rfl,hb1⟩)
   all_goals
    have hb2:=EN hb1;have hB2:Ix B wr w1:=hb2.mono (by have:=HB.o.size;omega);have gY:ak (fA w1 B r b (o+(j+1)*3)):=Gq hB2 HR.o;have LH:ak (fA w1 B r b' (o'+(j+1)*3)):=Gq hB2 Vz.o;have HB1:=aj (aH HB.o hb2);clear HR Vz c0 c1 c2 c0' c1' c2' hb1 hB2 HB HQ hb2;go_wp2
    go_roundw
    case rel=>exact⟨j+1,r,bE,ah,hrs.o.1,gY,LH,HB1⟩
    case measure=>simp[intOf];omega
theorem Em(fs:List Fn)(A A':Option I3)(cap bB B:Nat)(w:Iv)(hA:eP w B fs A)(hA':eP w B fs A')(hB:B<=w.heap.size)(hl:bK fs<=1048576) :
  I0 Tryz.prog 27 #[rW A fs.length cap,rW A' fs.length bB] w λe w'=>e=If (.bool true)/\Ix w.heap.size w w':=by
 go_enter func27,ntmps27;go_wp2_with fail;refine (Jj fs A A' cap bB B _ (hA.below aV) (hA'.below aV) (by simp;omega) hl).mono ?_;rintro e w' ⟨rfl,hb⟩;go_wp2;go_ret;exact⟨rfl,(((Jx _ _).alloc (Jn _) _).alloc (by simp) _).trans (hb.mono (by simp;omega))⟩
def mk4(w:Iv)(b o:Nat)(y:Int):Iv:=
 (((w.setCell ⟨b,o,U⟩ (I J y)).setCell ⟨b,o+1,U⟩ (I J (y+1))).setCell ⟨b,o+2,U⟩ (I J (y+1+1))).setCell ⟨b,o+3,U⟩ (I J (y+1+1+1))
variable{w:Iv}{b o:Nat}
theorem kC(y:Int){q:Nat}(hq:q≠b):(mk4 w b o y).heap[q]? = w.heap[q]?:=
 (J1 _ _ _ _ hq).trans ((J1 _ _ _ _ hq).trans ((J1 _ _ _ _ hq).trans (J1 _ _ _ _ hq)))
theorem yH(y:Int)(j:Nat):aN w (mk4 w b o y) b (o+4) j:=
 (((aN.aJ (.inl ah)).trans (aN.aJ (.inl ah))).trans (aN.aJ (.inl ah))).trans (aN.aJ (.inl ah))
theorem J9(y:Int):aC (λq=>q=b) w (mk4 w b o y):=
 ⟨rfl,rfl,rfl,by simp[mk4,World.setCell],λ_ _ hq=>kC y hq⟩
def MkC(es:Es):Prop:=∀ (A:Option I3) (cap b lo hi:Nat) (k:Int) (w:Iv),(0<es.len->A=M ⟨b,0,U⟩)->iN w es lo hi b 0->b<lo->hi<=w.heap.size->es.size<=1048576->0<=k->k+4*es.size<=1000000000000 ->
 I0 Tryz.prog 82 #[V A es.len cap,I J k] w λe w'=>e=If (I J (k+4*es.size))/\aC (λq=>(0<es.len/\q=b)∨(lo<=q/\q<hi)) w w'
theorem wu:∀ (m:Nat) (es:Es),es.size<m->MkC es:=by
 intro m
 induction m with
 | zero=>intro es h;omega
 | succ m ih=>
 intro es hm A cap b lo hi k w hA hM hbl hhi hz k0 k1;have IH:=aj ih;clear ih;have hls:=Es.aF es;have HM:=aj hM;clear hM;go_enter func82,ntmps82;go_wp2
 go_loopw [1,5] (λkk i wr=>∃ (j:Nat) (es':Es) (y:Int) (rY:Nat),i=I J (j:Int)/\kk=I J y/\j+es'.len=es.len/\ak (y+4*es'.size=k+4*es.size)/\0<=y/\y<=1000000000000/\ak (es'.size<=es.size)/\lo<=rY/\ak (iN wr es' rY hi b (j*5)) /\
   ak (aC (λq=>(0<es.len/\q=b)∨(lo<=q/\q<hi)) w wr)) (λ_ i _=>es.len - (intOf i).toNat)
 case atStart=>
  refine⟨0,es,k,lo,bE,by simp,ah,rfl,k0,ah,Jn _,Jn _, ?_,aC.refl _ _⟩;show iN _ _ _ _ _ _;rw[Mn];exact HM.o
 case round=>
  obtain⟨j,es',y,rY,rfl,rfl,hj,hy,y0,y1,hsz,hlo,HE,HO⟩:=hrel;cases es' with
  | nil=>
   simp only[Es.len] at hj;go_wp2;go_ret;have:=hy.o;simp only[Es.size] at this;exact⟨bR ah,HO.o⟩
  | cons kk n p c ks r=>
   simp only[Es.len] at hj;have hA:=hA ah;subst hA;obtain⟨K,cp,b',mid,⟨⟨h0,h1,h2,h3,h4⟩,hf⟩,hc,hcm,hK,l1,l2,hks,hr⟩:=HE.o;have hle:=hr.le;have f0:=hf 0 ah;have f1:=hf 1 ah;have f2:=hf 2 ah;have f3:=hf 3 ah;rw[Mm] at f0;have hrs:ak (r.size<=es.size/\ks.size<es.size/\y+4+4*ks.size+4*r.size=k+4*es.size):=by
    have:=hsz.o;have h2:=hy.o;simp only[Es.size] at this h2;exact⟨ah,ah,ah⟩
   have BH:ak (iN (mk4 wr b (j*5) y) ks (b'+1) mid b' 0):=hks.keep (aN.of_block (kC y ah) _ _) (λq q1 _=>kC y ah);have Tj:ak (iN (mk4 wr b (j*5) y) r mid hi b (j*5+5)):=hr.keep ((yH y _).sub ah (Jn _)) (λq q1 _=>kC y ah);have x4:(mk4 wr b (j*5) y).cell? ⟨b,j*5+4,U⟩=M (V K ks.len cp):=((yH y (j*5+5)) _ (Jn _) ah).1.trans h4
   have uZ:=aj (HO.o.chain (J9 y (b:=b) (o:=j*5)) (λq _ e=>.inl ⟨ah,e⟩));have NT:mid<=(mk4 wr b (j*5) y).heap.size:=by
    have:=uZ.o.size;omega
   have LC:=aj (IH.o ks (by have:=hrs.o;omega) K cp b' (b'+1) mid (y+1+1+1+1) (mk4 wr b (j*5) y) hK BH.o ah NT (by have:=hrs.o;omega) ah (by have:=hrs.o;omega));clear hks hr BH HE IH NT;unfold mk4 at x4 LC;go_wp2_with fail;refine LC.o.mono ?_;rintro e w1 ⟨rfl,fC⟩;have qL:ak (iN w1 r mid hi b ((j+1)*5)):=by
    have:=Tj.o.keep (w':=w1) (aN.of_block (fC.block b (by have:=uZ.o.size;unfold mk4 at this;omega) (by intro h;omega)) _ _) (λq q1 q2=>fC.block q (by have:=uZ.o.size;unfold mk4 at this;omega) (by intro h;omega))
    rwa [show j*5+5=(j+1)*5 by omega] at this
   have dZ:ak (aC (λq=>(0<es.len/\q=b)∨(lo<=q/\q<hi)) w w1):=uZ.o.chain fC (λq _ h=>ah);obtain⟨z,hzz⟩:∃ z,z=y+1+1+1+1+4*(ks.size:Int):=⟨_,rfl⟩
   rw[<-hzz];have z0:0<=z:=ah;have z1:z<=1000000000000:=by have:=hrs.o;omega
   have HZ:ak (z+4*r.size=k+4*es.size):=by have:=hrs.o;show _=_;omega
   clear fC uZ Tj x4 hzz LC HO;go_wp2
   go_roundw
   case rel=>exact⟨j+1,r,z,mid,bE,rfl,ah,HZ,z0,z1,hrs.o.1,ah,qL,dZ⟩
   case measure=>simp[intOf];omega
theorem GX(k:Int)(w:Iv)(k0:0<=k)(k1:k<=1000000000000) :
  I0 Tryz.prog 160 #[I J k] w λe w'=>∃ s,e=If (.string s)/\Ix w.heap.size w w':=by
 go_enter func160,ntmps160
 by_cases h:k<=0
 ·go_wp2
  go_ret;exact⟨_,rfl,Jx _ _⟩
 ·go_wp2
  go_loopw [0,3] (λkk o wr=>∃ (y:Int) (s:ByteArray),kk=I J y/\0<=y/\(s.size:Int)+y<=1000000000000/\o=.string s/\ak (Ix w.heap.size w wr)) (λkk _ _=>(intOf kk).toNat)
  case atStart=>exact⟨k,⟨#[]⟩,rfl,k0,by (have hz:(⟨#[]⟩:ByteArray).size=0:=rfl);omega,rfl,Jx _ _⟩
  case round=>
   obtain⟨y,s,rfl,y0,y1,rfl,HB⟩:=hrel
   by_cases hy:0<y
   ·have kc:(convert 260 9 (V (M ⟨wr.heap.size,0,U⟩) 1 1)).run Tryz.prog (wr.alloc (Is #[.int .u8 (48+y % 10)] 5))=.ok (.string (strOfNums [48+y % 10])) (wr.alloc (Is #[.int .u8 (48+y % 10)] 5)):=
     run_convert_bytes_arg _ 260 5 underlying260 underlying5 wr.heap.size 0 1 1 [48+y % 10] rfl (λi hi=>by
      have h0:i=0:=ah;subst h0;show _=M (Value.int .u8 (48+y % 10));simp) 9 underlying9
    have kz:(strOfNums [48+y % 10]).size=1:=rfl;go_wp2
    all_goals
     go_roundw
     case rel=>exact⟨y / 10,_,rfl,ah,by rw[ByteArray.size_append,kz];omega,rfl,(HB.o.alloc HB.o.size _)⟩
     case measure=>simp[intOf];omega
   ·go_wp2
    go_ret;exact⟨⟨_,rfl⟩,HB.o⟩
def Zp(w:Iv)(b o:Nat)(s:ByteArray)(y:Int):Iv:=(w.setCell ⟨b,o,U⟩ (.string s)).setCell ⟨b,o+1,U⟩ (I J y)
theorem vC(s:ByteArray)(y:Int){q:Nat}(hq:q≠b):(Zp w b o s y).heap[q]? = w.heap[q]?:=(J1 _ _ _ _ hq).trans (J1 _ _ _ _ hq)
theorem Kc(s:ByteArray)(y:Int)(j:Nat):aN w (Zp w b o s y) b (o+2) j:=(aN.aJ (.inl ah)).trans (aN.aJ (.inl ah))
theorem Zq(s:ByteArray)(y:Int):aC (λq=>q=b) w (Zp w b o s y):=⟨rfl,rfl,rfl,by simp[Zp,World.setCell],λ_ _ hq=>vC s y hq⟩
theorem Ez(fs:List Fn)(A:Option I3)(cap b lo hi:Nat)(k:Int)(w:Iv)(hA:0<fs.length->A=M ⟨b,0,U⟩)(hM:iO w fs lo hi b 0)(hbl:b<lo)(hhi:hi<=w.heap.size)(hz:bK fs<=1048576)(k0:0<=k)(k1:k<=1000000000) :
  I0 Tryz.prog 81 #[V A fs.length cap,I J k] w λe w'=>∃ k',e=If (I J k')/\k<=k'/\k'<=k+4*bK fs/\aC (λq=>(0<fs.length/\q=b)∨(lo<=q/\q<hi)) w w':=by
 have hls:fs.length<=1048576:=by unfold bK at hz;omega
 have HZ:=aj hz;clear hz;have HM:=aj hM;clear hM;go_enter func81,ntmps81;go_wp2
 go_loopw [1,5] (λkk i wr=>∃ (j:Nat) (es':List Fn) (y:Int) (rY:Nat),i=I J (j:Int)/\kk=I J y/\j+es'.length=fs.length/\ak (y+4*(es'.length+dU es')<=k+4*bK fs)/\k<=y/\y<=2000000000/\lo<=rY/\ak (iO wr es' rY hi b (j*3)) /\
   ak (aC (λq=>(0<fs.length/\q=b)∨(lo<=q/\q<hi)) w wr)) (λ_ i _=>fs.length - (intOf i).toNat)
 case atStart=>
  refine⟨0,fs,k,lo,bE,by simp,ah,by show _<=_;unfold bK;omega,ah,ah,Jn _, ?_,aC.refl _ _⟩;show iO _ _ _ _ _ _;rw[Mn];exact HM.o
 case round=>
  obtain⟨j,es',y,rY,rfl,rfl,hj,hy,y0,y1,hlo,HE,HO⟩:=hrel;cases es' with
  | nil=>
   simp only[List.length_nil] at hj;go_wp2;go_ret;have:=hy.o;simp only[List.length_nil,dU] at this;exact⟨y,rfl,y0,ah,HO.o⟩
  | cons f r=>
   simp only[List.length_cons] at hj;have hA:=hA ah;subst hA;go_wp2_with fail;refine (GX y wr ah ah).mono ?_;rintro e w0 ⟨s,rfl,hb0⟩;have hwr:hi<=wr.heap.size:=by have:=HO.o.size;omega
   have hle0:=HE.o.le;have Qv:ak (iO w0 (f :: r) rY hi b (j*3)):=HE.o.keep (aN.of_block (hb0.block b ah) _ _) (λq _ q2=>hb0.block q ah);have HO0:=aj (HO.o.trans (aC.of_below (S:=λq=>(0<fs.length/\q=b)∨(lo<=q/\q<hi)) hb0));have hw0:hi<=w0.heap.size:=by have:=hb0.size;omega
   clear hb0 HE HO hwr;obtain⟨K,cp,b',mid,⟨⟨h0,h1,h2⟩,hf⟩,hn,hc,hcm,hK,l1,l2,hks,hr⟩:=Qv.o;have hle:=hr.le;have f0:=hf 0 ah;have f1:=hf 1 ah;rw[Mm] at f0;have hrs:ak (f.outs.size<=1048576/\y+2+4*f.outs.size+4*(r.length+dU r)<=k+4*bK fs):=by
    have f_:=hy.o;have hz2:=HZ.o;simp only[List.length_cons,dU,Fn.size] at f_;exact⟨ah,ah⟩
   have BH:ak (iN (Zp w0 b (j*3) s (y+1)) f.outs (b'+1) mid b' 0):=hks.keep (aN.of_block (vC s _ ah) _ _) (λq q1 _=>vC s _ ah);have Tj:ak (iO (Zp w0 b (j*3) s (y+1)) r mid hi b (j*3+3)):=hr.keep ((Kc s _ _).sub ah (Jn _)) (λq q1 _=>vC s _ ah);have x4:(Zp w0 b (j*3) s (y+1)).cell? ⟨b,j*3+2,U⟩=M (V K f.outs.len cp):=((Kc s (y+1) (j*3+3)) _ (Jn _) ah).1.trans h2
   have uZ:=aj (HO0.o.chain (Zq s (y+1) (b:=b) (o:=j*3)) (λq _ e=>.inl ⟨ah,e⟩));have NT:hi<=(Zp w0 b (j*3) s (y+1)).heap.size:=by
    have:=uZ.o.size;omega
   have LC:=aj (wu (f.outs.size+1) f.outs ah K cp b' (b'+1) mid (y+1+1) (Zp w0 b (j*3) s (y+1)) hK BH.o ah ah hrs.o.1 ah (by have:=hrs.o;omega));clear hks hr BH Qv;have hsz5:=aj NT;clear NT;unfold Zp at x4 LC;go_wp2_with fail;refine LC.o.mono ?_;rintro e w1 ⟨rfl,fC⟩;have hs5:=hsz5.o;unfold Zp at hs5;have qL:ak (iO w1 r mid hi b ((j+1)*3)):=by
    have:=Tj.o.keep (w':=w1) (aN.of_block (fC.block b ah (by intro h;omega)) _ _) (λq q1 q2=>fC.block q ah (by intro h;omega))
    rwa [show j*3+3=(j+1)*3 by omega] at this
   have dZ:ak (aC (λq=>(0<fs.length/\q=b)∨(lo<=q/\q<hi)) w w1):=uZ.o.chain fC (λq _ h=>ah);obtain⟨z,hzz⟩:∃ z,z=y+1+1+4*(f.outs.size:Int):=⟨_,rfl⟩
   rw[<-hzz];have z0:k<=z:=ah;have HZ2:ak (z+4*(r.length+dU r)<=k+4*bK fs):=by have:=hrs.o;show _<=_;omega
   have z1:z<=2000000000:=by have:=HZ2.o;have:=HZ.o;omega
   clear fC uZ Tj x4 hzz LC HO0 hs5 hsz5;go_wp2
   go_roundw
   case rel=>exact⟨j+1,r,z,mid,bE,rfl,ah,HZ2,z0,z1,ah,qL,dZ⟩
   case measure=>simp[intOf];omega
theorem BA(fs:List Fn)(A:Option I3)(cap b lo hi:Nat)(k:Int)(w:Iv)(hA:0<fs.length->A=M ⟨b,0,U⟩)(hM:iO w fs lo hi b 0)(hbl:b<lo)(hhi:hi<=w.heap.size)(hz:bK fs<=1048576)(k0:0<=k)(k1:k<=1000000000) :
  I0 Tryz.prog 28 #[rW A fs.length cap,I J k] w λe w'=>∃ k',e=If (I J k')/\k<=k'/\k'<=k+4*bK fs/\aC (λq=>q=b∨(lo<=q/\q<hi)) w w':=by
 go_enter func28,ntmps28;go_wp2_with fail;have hle:=hM.le;have hg:Ix w.heap.size w (w.alloc (Is #[V A fs.length cap] 51)):=aV;refine (Ez fs A cap b lo hi k _ hA (hM.keep (aN.of_block (hg.block b ah) _ _) (λq _ q2=>hg.block q ah)) hbl (by simp;omega) hz k0 k1).mono ?_;rintro e w' ⟨k',rfl,h1,h2,hO⟩;go_wp2;go_ret;exact⟨k',rfl,h1,h2,(aC.of_below hg).trans ⟨hO.os,hO.tape,hO.output,hO.size,λq hq hs=>hO.block q hq (λh=>hs (h.elim (λh=>.inl h.2) .inr))⟩⟩
end
end Go.Proofs.YtgfkglhelfkpoaaGreat
