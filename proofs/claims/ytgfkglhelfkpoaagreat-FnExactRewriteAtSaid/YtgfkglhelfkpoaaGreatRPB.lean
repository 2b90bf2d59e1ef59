/- Parts of the proof. -/
import Derived.Test.YtgfkglhelfkpoaaGreatRPA
import Derived.Test.YtgfkglhelfkpoaaGreatRSU
set_option maxRecDepth 100000
set_option maxHeartbeats 4000000
open Go.Proofs.Tryz
open Go.Value renaming int→I,slice→V
open Go.IntKind renaming i64→J
open Option renaming some→M,none→U
open Go.Ending renaming returned→If
open Go.Obj renaming cells→Is
open Go renaming World→Iv,Calls→I0,Value→I1,maxLen→I2,Addr→I3
open Go.RowKit renaming Below→Ix
open Nat renaming le_refl→Jn,add_zero→Mm,zero_mul→Mn,le_trans→Mp,zero_add→Mu,lt_of_lt_of_le→M1
open Go.RowKit.Below renaming refl→Jx
open And renaming intro→J0
open List renaming length_map→My,getD→Up
open Int renaming toNat_natCast→Mz
namespace Go.Proofs.YtgfkglhelfkpoaaGreat
section
open Go.RowKit Plain
theorem Tryz.infoPo:(Tryz.prog.info? 86).map (λi=>(i.zero,i.size,i.bytes))=M (M (.agg #[I J 0,V U 0 0]),2,32):=aL
abbrev QK:=List av×Option I3×Nat
def jA(u:Int)(p:QK):List I1:=[I J u,V p.2.1 p.1.length p.2.2]
abbrev mH (S:Nat->Prop) (u:Int) (p:QK):List I1×(Iv->Prop):=(jA u p,λw=>iK w S p.2.1 p.1)
variable{w w2:Iv}{S:Nat->Prop}{A:Option I3}{ts:List av}{g:Nat}
theorem iK.move{g2:Nat}(h:iK w (aS S g) A ts)(ho:eU (λq=>q=g) w w2)(hg:g2=g∨w.heap.size<=g2):iK w2 (aS S g2) A ts:=λw3 h3=>
 h w3 ⟨Mp ho.size h3.size,λq hq hn=>(h3.block q (M1 hq ho.size) (λe=>e.elim (λe=>hn (.inl e)) (λe=>(by
  rcases hg with hg | hg
  ·exact hn (.inr (e.trans hg))
  ·omega)))).trans (ho.block q hq (λe=>hn (.inr e)))⟩
def jc(w:Iv)(B:Nat)(S:Nat->Prop)(u:Int)(v:I1)(dP:List (List av)):Prop:=∃ ps:List QK,qJ w B 86 2 v (ps.map (mH S u))/\ps.map (·.1)=dP/\(∀ ts∈dP,aQ u ts=true)/\∀ p∈ps,∀ g,(v.ownBlock=M g∨w.heap.size<=g)->iK w (aS S g) p.2.1 p.1
theorem jc.start(w:Iv)(S:Nat->Prop)(u:Int):jc (w.alloc (Is #[] 86)) w.heap.size S u (V (M ⟨w.heap.size,0,U⟩) 0 0) []:=⟨[],qJ.start w _ _,rfl,λts h=>by simp at h,λp h=>by simp at h⟩
theorem iK.abE(h:iK w (aS S g) A ts):zy (λw=>iK w S A ts) w g:=λw' h1 h2 w2 h3=>
 h w2 ((⟨h1,λq hq hn=>h2 q hq λe=>hn (.inr e)⟩:eU (aS S g) w w').trans (h3.sub λ_q e=>.inl e))
variable{w1:Iv}{B:Nat}{u:Int}{v v2:I1}{ps:List QK}
theorem jc.push{Ll:Iv}{p:QK}(h:qJ w B 86 2 v (ps.map (mH S u)))(dh:∀ ts∈ps.map (·.1),aQ u ts=true)(AO:∀ p∈ps,∀ g,(v.ownBlock=M g∨w.heap.size<=g)->iK w (aS S g) p.2.1 p.1)(hv:v.ownBlock=M g)(hb:Ix w.heap.size w w1)(hp:iK w1 (aS S g) p.2.1 p.1)(hpo:aQ u p.1=true)(hb1:Ix w1.heap.size w1 Ll)
  (hown:w2.ownsRow B 86 2 v2 ((ps.map (mH S u)).length+1) ((ps.map (mH S u)).flatMap (·.1)++jA u p)) (hg:Ll.grownBy w2 v.ownBlock) (hat:v2.ownBlock=v.ownBlock∨v2.ownBlock=M Ll.heap.size) :
  jc w2 B S u v2 (ps.map (·.1)++[p.1])/\Ix B w w2:=by
 obtain⟨q1,q2⟩:=qJ.push (el:=mH S u p) h hb (by rfl) (λg' BP=>by
  rcases BP with e | e
  ·rw[hv] at e;injection e with e;subst e;exact hp.abE
  ·exact ((hp.sub (S:=S) λq e=>.inl e).fresh e).abE) hb1 hown hg hat
 have hrow:=World.ownsRow.lt h.own g hv;have s1:=hb.size;have s2:=hb1.size;have hoo:eU (λq=>q=g) Ll w2:=⟨hg.size,λq hq hn=>hg.block q hq (by rw[hv];intro e;injection e with e;exact hn e)⟩
 refine⟨⟨ps++[p],by rw[List.map_append];exact q1,by rw[List.map_append];rfl,λts hts=>?_,λp' hp' g2 hg2=>?_⟩,q2⟩
 ·rcases List.mem_append.1 hts with h' | h'
  ·exact dh ts h'
  ·rw[List.mem_singleton.1 h'];exact hpo
 ·have BP:g2=g∨Ll.heap.size<=g2:=by
   rcases hg2 with e | e
   ·rcases hat with e2 | e2
    ·rw[e,hv] at e2;injection e2 with e2;exact .inl e2
    ·rw[e] at e2;injection e2 with e2;exact .inr ah
   ·have:=hg.size;exact .inr ah
  rcases List.mem_append.1 hp' with h' | h'
  ·exact iK.move (((AO p' h' g (.inl hv)).only (aC.of_below hb)).only (aC.of_below hb1)) hoo BP
  ·rw[List.mem_singleton.1 h']
   exact iK.move (hp.only (aC.of_below hb1)) hoo BP
variable{w':Iv}{bv:Nat}{dP:List (List av)}
theorem jc.only(h:jc w B S u v dP)(hS:S bv)(hb:bv<B)(ho:aC (λq=>q=bv) w w'):jc w' B S u v dP:=by
 obtain⟨ps,h1,h2,h3,h4⟩:=h;have h4':∀ p∈ps,∀ g,(v.ownBlock=M g∨w'.heap.size<=g)->iK w' (aS S g) p.2.1 p.1:=λp hp g hg=>(h4 p hp g (hg.imp id λe=>Mp ho.size e)).only (ho.sub λq e=>.inl (e ▸ hS))
 refine⟨ps,⟨iX h1.own λg hg=>ho.block g (World.ownsRow.lt h1.own g hg).2 (by have:=(World.ownsRow.lt h1.own g hg).1;omega),Mp h1.size ho.size,h1.one,λel he g hg=>?_⟩,h2,h3,h4'⟩;obtain⟨p,hp,rfl⟩:=List.mem_map.1 he;exact (h4' p hp g hg).abE
theorem jc.env(h:jc w B S u v dP)(hS:∀ q,S q->q<B):∃ A cap,v=V A dP.length cap/\dP.length<=cap/\cap<=I2/\fK w S u A dP:=by
 obtain⟨ps,h1,rfl,dh,_⟩:=h;obtain⟨A,cap,rfl,hc,hm⟩:=h1.form;simp only[My] at *;refine⟨A,cap,rfl,hc,hm,dh, ?_⟩
 by_cases h0:0<ps.length
 ·have h1':qJ w B 86 2 (V A (ps.map (mH S u)).length cap) (ps.map (mH S u)):=by rw[My];exact h1
  obtain⟨b,rfl,hBb,hb,hel⟩:=h1'.read (by simpa using h0);refine⟨b,0,λj=>((ps.getD j ([],U,0)).2.1,(ps.getD j ([],U,0)).2.2),λ_=>rfl,λw' ho _=>⟨M1 hb ho.size,λj ts hj=>?_⟩⟩;rw[List.getElem?_map] at hj;obtain⟨p,hp,rfl⟩:=Option.map_eq_some_iff.1 hj;have hg:ps.getD j ([],U,0)=p:=by simp[Up,hp]
  simp only[hg];obtain⟨hF,hcell⟩:=hel j (mH S u p) (by rw[List.getElem?_map,hp];rfl);have hbk:w'.heap[b]? = w.heap[b]?:=ho.block b hb (λe=>by have:=hS b e;omega);refine⟨?_, ?_,hF w' ho⟩
  ·rw[Mu,World.cell?_of_block (a:=⟨b,j*2,U⟩) hbk];exact (hcell 0 ah).1
  ·rw[Mu,World.cell?_of_block (a:=⟨b,j*2+1,U⟩) hbk];exact (hcell 1 ah).1
 ·have:ps=[]:=List.length_eq_zero_iff.1 ah
  subst this;exact⟨0,0,λ_=>(U,0),λh=>absurd h (by simp),λw' _ h=>absurd h (by simp)⟩
structure mW (w:Iv) (B:Nat) (S:Nat->Prop) (u:Int) (P:List Fn) (fn:Int) (es:Es) (K:Option I3) (cap:Nat) (A:Option I3) (env:List (List av)) (aW:Nat):Prop where
 kids:bJ w B es K
 kl:es.len<=cap
 km:cap<=I2
 qj:fK w S u A env
 el:env.length<=aW
 em:aW<=I2
 big:env.length+es.depth<=1000000
 size:es.size<=400
 form:∀ j y,es.get? j=M y->formed P fn env.length y=true
 f0:0<=fn
 f1:fn<=P.length
def agc(P:List Fn)(u:Int)(f:Nat):Prop:=∀ (es:Es) (env:List (List av)) (s:Int) (t:Nat) (c0 fn:Int) (K:Option I3) (cap B:Nat) (S:Nat->Prop) (bv:Nat) (A PA:Option I3) (aW aX:Nat) (w:Iv),nN w B bv 1 P PA aX->ni w B S bv u->au w bv 168 (jQ u P PA aX++[I J s,I J c0])->(c0=0->s=(t:Int)/\t<=3000/\3001<=t+f) ->
 mW w B S u P fn es K cap A env aW ->
 I0 Tryz.prog 109 #[.pointer (M ⟨bv,0,U⟩),V K es.len cap,V A env.length aW] w (wK S bv u es.len 168 (jQ u P PA aX) (mI u P f c0 es env t) w)
def lI(u:Int)(P:List Fn)(f:Nat)(R:jD (List (List av)))(es':Es)(env DW:List (List av))(s' c':Int):Prop:=
 (c'=0->∃ t1:Nat,s'=t1/\t1<=3000/\3001<=t1+f/\R=(match cB (pv u P f) env es' t1 with | .err e=>.err e | .ok zs t2=>.ok (DW++zs) t2))/\(c'≠0->R=.err c')
variable{P:List Fn}{f:Nat}{s:Int}{es:Es}{env:List (List av)}
theorem lI.start{c0:Int}{t:Nat}(h:c0=0->s=(t:Int)/\t<=3000/\3001<=t+f):lI u P f (mI u P f c0 es env t) es env [] s c0:=by
 unfold mI;constructor
 ·intro h0
  obtain⟨h1,h2,h3⟩:=h h0;refine⟨t,h1,h2,h3, ?_⟩;rw[if_pos h0];cases cB (pv u P f) env es t<;>rfl
 ·intro h0
  rw[if_neg h0]
theorem lI.step{u:Int}{P:List Fn}{f:Nat}{R:jD (List (List av))}{k m p c:Int}{ks r:Es}{env DW:List (List av)}{s c0:Int}{zs:List av}{s' c':Int}(h:lI u P f R (.cons k m p c ks r) env DW s c0)(hr:gJ (om u P f c0 ⟨k,m,p,c,ks⟩ env s.toNat) zs s' c'):lI u P f R r env (DW++[zs]) s' c':=by
 constructor
 ·intro hc
  obtain⟨h0,t1,rfl,h1,h2,h3⟩:=iB hr hc;obtain⟨t0,rfl,a1,a2,a3⟩:=h.1 h0;simp only[Mz] at h1 h3;refine⟨t1,rfl,h2,ah, ?_⟩;rw[a3];simp only[cB];rw[h3];simp only;cases cB (pv u P f) env r t1 with
  | err e=>rfl
  | ok z2 t2=>simp
 ·intro hc
  by_cases h0:c0=0
  ·obtain⟨t0,rfl,a1,a2,a3⟩:=h.1 h0
   have hb:=nH hr hc h0;simp only[Mz] at hb;rw[a3];simp only[cB];rw[hb]
  ·rw[h.2 h0]
   unfold om at hr;rw[if_neg h0] at hr;have:c'=c0:=hr;rw[this]
variable{R:jD (List (List av))}{DW:List (List av)}{c:Int}
theorem lI.end_(h:lI u P f R .nil env DW s c):gJ R DW s c:=by
 by_cases hc:c=0
 ·obtain⟨t,rfl,_,_,h3⟩:=h.1 hc
  rw[h3];simp only[cB,List.append_nil];exact⟨rfl,rfl,hc⟩
 ·rw[h.2 hc];rfl
theorem lI.now(h:lI u P f R es env DW s c):c=0->s=(s.toNat:Int)/\s.toNat<=3000/\3001<=s.toNat+f:=λhc=>by
 obtain⟨t,rfl,h1,h2,_⟩:=h.1 hc;simp only[Mz];exact⟨trivial,h1,h2⟩
theorem ni.mono{wa:Iv}(h:ni w B S bv u)(hs:w.heap.size<=wa.heap.size):ni wa B S bv u:=⟨h.bv,λq e=>M1 (h.lt q e) hs,h.ge,h.u0,h.u1⟩
theorem jl(P:List Fn)(u:Int)(f:Nat)(IH:rH P u f):agc P u f:=by
 intro es env s t c0 fn K cap B S bv A PA aW aX w hI hS hst hf hN;obtain⟨i0,hi,hz0,hz1,hz2⟩:=info_parts Tryz.infoPo;have qK:=aj IH;clear IH;obtain⟨R,hR⟩:=aD (mI u P f c0 es env t)
 rw[<-hR];have hM0:lI u P f R es env [] s c0:=by rw[hR];exact lI.start hf
 have DX:=aj hM0;clear hR hM0 hf;have al:=hI.lt;have hB:=hI.blow;obtain⟨bk,ok,hK,hks⟩:=hN.kids;have gI:=aj hks;have hls:=Es.aF es;have hsz:=hN.size;have hkl:=hN.kl;have hkm:cap<=9223372036854775807:=by have:=hN.km;unfold I2 at this;omega
 have HI:=aj hI;have oO:=aj hS;have HN:=aj hN;have HST:=aj hst;clear hI hN hst hks hS;go_enter func109,ntmps109;go_wp2
 go_loopw [7,13] (λo i wr=>∃ (j:Nat) (es':Es) (dP:List (List av)) (g:Nat) (s' c':Int),i=I J (j:Int)/\ak (o.ownBlock=M g/\w.heap.size<=g/\g<wr.heap.size)/\j+es'.len=es.len/\ak (dP.length=j)/\ak (es'.size<=es.size)/\ak (∀ i,es'.get? i=es.get? (j+i))/\ak (aI wr B es' bk (ok+j*5)) /\
  ak (jc wr w.heap.size S u o dP)/\ak (au wr bv 168 (jQ u P PA aX++[I J s',I J c']))/\ak (aC (λq=>q=bv) w wr)/\ak (lI u P f R es' env dP s' c')) (λ_ i _=>es.len - (intOf i).toNat)
 case atStart=>
  have hg:Ix w.heap.size w (w.alloc (Is #[] 86)):=aV;refine⟨0,es,[],w.heap.size,s,c0,bE,⟨rfl,Jn _,by simp⟩,ah,rfl,Jn _,λi=>by rw[Mu], ?_,jc.start w S u,HST.o.next hg,aC.of_below hg,DX.o⟩;show aI _ _ _ _ _;rw[Mn,Mm];exact gI.o.below (hg.mono ah)
 case round=>
  obtain⟨j,es',dP,g,s',c',rfl,hG,hj,htl,hsz2,hget,HE,HR,HS,HO,HM⟩:=hrel;cases es' with
  | nil=>
   simp only[Es.len] at hj;obtain rfl:j=es.len:=ah;obtain⟨Av,cp,rfl,q1,q2,q3⟩:=HR.o.env (λq hq=>oO.o.lt q hq);rw[htl.o] at q1;have kP:=htl.o;have HP:ak (wK S bv u es.len 168 (jQ u P PA aX) R w (If (V Av es.len cp)) wr):=⟨Av,cp,dP,s',c',rfl,kP,q1,q2,q3,HS.o,HO.o,HM.o.end_⟩
   rw[kP];clear q1 q2 q3 kP;go_wp2;go_ret;exact HP.o
  | cons kk m' p' c1 aY r=>
   simp only[Es.len] at hj;have hK:=hK ah;subst hK;obtain⟨hel,hr⟩:=HE.o;have yS:=aj hr;obtain⟨K',bB,lD,c0',c1',c2',c3',I8,hc2,hcm2,dS⟩:=dF.cells hel;have iT:es.get? j=M ⟨kk,m',p',c1,aY⟩:=by have:=hget.o 0;rw[Mm] at this;rw[<-this];rfl
   have yA:ak (∀ i,r.get? i=es.get? (j+1+i)):=λi=>by have:=hget.o (i+1);rw[show j+1+i=j+(i+1) by omega,<-this];rfl
   have hrs:ak (r.size<=es.size):=by have:=hsz2.o;simp only[Es.size] at this;show _<=_;omega
   have hbr:bk<wr.heap.size:=by have:=HO.o.size;omega
   have mY:aC S w wr:=HO.o.sub λq e=>by rw[e];exact oO.o.bv
   have hNk:lu wr B (aS S g) u P fn ⟨kk,m',p',c1,aY⟩ K' bB A env aW:=⟨dS,hc2,hcm2,HN.o.qj.fresh mY hG.o.2.1,HN.o.el,HN.o.em,by have:=HN.o.big;have:=Es.iG iT;show env.length+aY.depth<=1000000;simp only at this;omega,by have:=HN.o.size;have:=Es.dY iT;show aY.size<=400;simp only at this;omega,HN.o.form j _ iT,HN.o.f0,HN.o.f1⟩
   have YL:ni wr B (aS S g) bv u:=oO.o.fresh HO.o.size hG.o.2.1 hG.o.2.2 ah;have uY:=aj hNk;have nQ:=aj YL;clear hr dS iT hel hNk HE hget hsz2 YL mY;go_wp2_with fail;have NK:Ix wr.heap.size wr (wr.alloc (Is #[I J kk,I J m',I J p',I J c1,V K' aY.len bB] 33)):=aV;have hbx:=au.new wr 33 [I J kk,I J m',I J p',I J c1,V K' aY.len bB]
   have iI:lu (wr.alloc (Is #[I J kk,I J m',I J p',I J c1,V K' aY.len bB] 33)) B (aS S g) u P fn ⟨kk,m',p',c1,aY⟩ K' bB A env aW:=⟨uY.o.kids.below (NK.mono (by have:=HO.o.size;omega)),uY.o.kl,uY.o.km,uY.o.qj.only (aC.of_below NK),uY.o.el,uY.o.em,uY.o.big,uY.o.size,uY.o.form,uY.o.f0,uY.o.f1⟩
   refine (qK.o ⟨kk,m',p',c1,aY⟩ env s' s'.toNat c' fn K' bB B (aS S g) bv A PA aW aX _ ((HI.o.only HO.o).only (aC.of_below NK)) (nQ.o.mono NK.size) (HS.o.next NK) HM.o.now iI).mono ?_;rintro e w1 ⟨v,ts,s2,K_,rfl,⟨Az,cz,rfl,hpz,hkz⟩,hS1,fC,hres⟩;have hO2:=(aC.of_below NK).trans fC;have abq:=hO2.size;have qL:=aj (HR.o.only oO.o.bv al hO2);have Bh:=aj (HM.o.step hres)
   have dZ:=aj (HO.o.trans hO2);have gY:ak (aI w1 B r bk (ok+(j+1)*5)):=by
    have:=yS.o.below (bI hO2 hB (by have:=HO.o.size;omega))
    rwa [show ok+j*5+5=ok+(j+1)*5 by omega] at this
   have eu:=aj hS1;have xI:=aj (J0 hpz hkz);obtain⟨ps,yj,hps,nC,AO⟩:=qL.o;have hpl:ps.length=j:=by have:=congrArg List.length hps;rw[My,htl.o] at this;exact this
   have mq:=aj yj;have BI:=aj AO;have mZ:=aj nC;have r_:=aj hps;have hw1:w.heap.size<=w1.heap.size:=dZ.o.size;clear NK iI hpz hkz hS1 fC hO2 hres yj hps nC AO HR HM HO HS yS uY c0' c1' c2' c3' I8 hbx;obtain⟨mM,hW1'⟩:=aD (w1.alloc (Is (jA u (ts,Az,cz)).toArray 86))
   have hb2:Ix w1.heap.size w1 mM:=by rw[hW1'];go_grown
   have hC2:au mM w1.heap.size 86 (jA u (ts,Az,cz)):=by rw[hW1'];exact au.new _ _ _
   have nJ:=aj (mq.o.below hb2).own;have HB2:=aj hb2;have fH:=aj hC2;have HW1:=aj hW1';clear hb2 hC2 hW1';go_wp2_with (at_builtin;change wpList _ _ _ _ _ (w1.alloc (Is (jA u (ts,Az,cz)).toArray 86));rw[<-HW1.o];refine wpList_append_own_at _ rfl _ _ 162 rfl w.heap.size 86 i0 (.agg #[I J 0,V U 0 0]) 2 32 underlying162 hi hz0 hz1 hz2 rfl bM _ _ _ rfl nJ.o ⟨w1.heap.size,0,U⟩ 1 1 (jA u (ts,Az,cz)) rfl rfl ?c1 ?c2 ?c3 ?c4 ?c5 ?_)
   case c1=>intro q z hz;rw[addr_add,Mu];exact (fH.o.cell q).trans hz
   case c2=>intro z hz;simp only[jA,List.mem_cons,List.not_mem_nil,or_false] at hz;rcases hz with rfl | rfl<;>rfl
   case c3=>simp only[My];unfold I2;omega
   case c4=>simp only[My];omega
   case c5=>have:=HB2.o.size;omega
   intro v2 w2 iA hg2 _ hat;have hown:w2.ownsRow w.heap.size 86 2 v2 ((ps.map (mH S u)).length+1) ((ps.map (mH S u)).flatMap (·.1)++jA u (ts,Az,cz)):=by
    rw[My,hpl];exact iA
   have hgl:=(mq.o.lt hG.o.1)
   obtain⟨hp2,hbl⟩:=jc.push (p:=(ts,Az,cz)) mq.o (by rw[r_.o];exact mZ.o) BI.o hG.o.1 (Jx _ _) xI.o.1 xI.o.2 HB2.o hown hg2 hat;rw[r_.o] at hp2;have hg3:∃ g3,v2.ownBlock=M g3/\w.heap.size<=g3/\g3<w2.heap.size:=by
    have hs2:=hg2.size;have hs1:=HB2.o.size
    rcases hat with e | e
    ·exact⟨g,e.trans hG.o.1,hgl.1,ah⟩
    ·exact⟨mM.heap.size,e,ah,(World.ownsRow.lt hown _ e).2⟩
   obtain⟨g3,hg3⟩:=hg3;have Ec:=aj hg3;have mU:=aj hp2;have HS2:ak (au w2 bv 168 (jQ u P PA aX++[I J s2,I J K_])):=(hbl.block bv al).trans eu.o;have rO:ak (aC (λq=>q=bv) w w2):=⟨hbl.os.trans dZ.o.os,hbl.tape.trans dZ.o.tape,hbl.output.trans dZ.o.output,Mp dZ.o.size hbl.size,λq hq hn=>(hbl.block q hq).trans (dZ.o.block q hq hn)⟩
   have dz:ak (aI w2 B r bk (ok+(j+1)*5)):=gY.o.below (hbl.mono ah);have kP:ak ((dP++[ts]).length=j+1):=by show _=_;rw[List.length_append,htl.o];rfl
   clear hown hg2 hat hp2 hbl hg3 mq BI mZ r_ nJ fH HB2 xI hgl;go_wp2
   go_roundw
   case rel=>exact⟨j+1,r,dP++[ts],g3,s2,K_,bE,Ec,ah,kP,hrs,yA,dz,mU,HS2,rO,Bh⟩
   case measure=>simp[intOf];omega
theorem ZC{b:Nat}:∀ (ps:List QK) (o:Nat),(∀ (j:Nat) p,ps[j]? = M p->w.cell? ⟨b,o+j*2,U⟩=M (I J u)/\w.cell? ⟨b,o+j*2+1,U⟩=M (V p.2.1 p.1.length p.2.2))->∀ (q:Nat) z,(ps.flatMap (jA u))[q]? = M z->w.cell? ⟨b,o+q,U⟩=M z
 | [],_,_,q,z,hz=>by simp at hz
 | p :: ps,o,h,q,z,hz=>by
  obtain⟨h0,h1⟩:=h 0 p rfl;simp only[Mn,Mm] at h0 h1;rw[List.flatMap_cons] at hz
  match q,hz with
  | 0,hz=>rw[Mm,h0];simpa [jA] using hz
  | 1,hz=>rw[h1];simpa [jA] using hz
  | q+2,hz=>
   have hz':(ps.flatMap (jA u))[q]? = M z:=by simpa [jA] using hz
   have:=ZC ps (o+2) (λj p hj=>by
    have:=h (j+1) p hj;rw[show o+2+j*2=o+(j+1)*2 by omega];exact this) q z hz'
   rw[show o+(q+2)=o+2+q by omega];exact this
theorem fK.qs(h:fK w S u A env):∃ ps:List QK,ps.map (·.1)=env/\(∀ a,A=M a->∀ (q:Nat) z,(ps.flatMap (jA u))[q]? = M z->w.cell? (a.add q)=M z)/\∀ p∈ps,iK w S p.2.1 p.1:=by
 obtain⟨_,b,o,f,hA,hf⟩:=h;obtain⟨ps,hl,hq⟩:=Qe env.length (λj (p:QK)=>env[j]? = M p.1/\p.2=f j) λi hi=>⟨(env[i],f i),by simp[List.getElem?_eq_getElem hi],rfl⟩
 have he:∀ (j:Nat) p,ps[j]? = M p->env[j]? = M p.1/\p.2=f j:=λj p hj=>hq j p hj
 refine⟨ps, ?_,λa ha q z hz=>?_,λp hp=>?_⟩
 ·refine List.ext_getElem? λj=>?_
  rw[List.getElem?_map]
  by_cases hj:j<ps.length
  ·rw[List.getElem?_eq_getElem hj]
   exact (he j _ (List.getElem?_eq_getElem hj)).1.symm
  ·rw[List.getElem?_eq_none ah,List.getElem?_eq_none ah];rfl
 ·by_cases h0:0<env.length
  ·obtain⟨_,hc⟩:=hf w (eU.refl _ _) h0
   rw[hA h0] at ha;injection ha with ha
   subst ha;rw[addr_add];refine ZC ps o (λj p hj=>?_) q z hz;obtain⟨e1,e2⟩:=he j p hj;have:=hc j _ e1;rw[e2];exact⟨this.1,this.2.1⟩
  ·have:ps=[]:=List.length_eq_zero_iff.1 ah
   subst this;simp at hz
 ·obtain⟨j,hj⟩:=List.getElem?_of_mem hp
  obtain⟨e1,e2⟩:=he j p hj;have h0:0<env.length:=by have:=(List.getElem?_eq_some_iff.1 e1).1;omega
  intro w' ho;rw[e2];exact ((hf w' ho h0).2 j _ e1).2.2
theorem fK.ali(h:fK w S u A env)(hA:A=U):env.length=0:=by
 rcases Nat.eq_zero_or_pos env.length with h0 | h0
 ·exact h0
 ·obtain⟨_,b,o,f,e,_⟩:=h
  rw[hA] at e;have:=e h0;cases this
theorem fK.more{p:QK}(hm:ps.map (·.1)=env)(dh:∀ ts∈env,aQ u ts=true)(hp:∀ q∈ps,iK w S q.2.1 q.1)(hp1:iK w S p.2.1 p.1)(hpo:aQ u p.1=true)(hS:∀ q,S q->q<w.heap.size)
  (hown:w2.ownsRow w.heap.size 86 2 v2 (env.length+1) (ps.flatMap (jA u)++jA u p)) (hg:w.grownBy w2 U) :
  ∃ A2 c2,v2=V A2 (env.length+1) c2/\env.length+1<=c2/\c2<=I2/\fK w2 S u A2 (env++[p.1])/\Ix w.heap.size w w2:=by
 have hb:Ix w.heap.size w w2:=⟨hg.os,hg.tape,hg.output,hg.size,λk hk=>hg.block k hk (by simp)⟩
 have hl:ps.length=env.length:=by rw[<-hm,My]
 have hall:∀ q∈ps++[p],iK w S q.2.1 q.1:=λq hq=>by
  rcases List.mem_append.1 hq with h | h
  ·exact hp q h
  ·rw[List.mem_singleton.1 h];exact hp1
 have hfr:∀ q∈ps++[p],∀ g,w.heap.size<=g->iK w2 (aS S g) q.2.1 q.1:=λq hq g BP w3 h3=>hall q hq w3 (((aC.of_below (S:=S) hb).h).fresh BP h3)
 have hge:∀ g,(v2.ownBlock=M g∨w2.heap.size<=g)->w.heap.size<=g:=λg e=>by
  rcases e with e | e
  ·exact (World.ownsRow.lt hown g e).1
  ·exact Mp hb.size e
 have hrow:jc w2 w.heap.size S u v2 (env++[p.1]):=by
  refine⟨ps++[p],⟨?_,hb.size,λel he=>?_,λel he g BP=>?_⟩,by rw[List.map_append,hm];rfl,λts hts=>?_,λq hq g BP=>hfr q hq g (hge g BP)⟩
  ·have e1:((ps++[p]).map (mH S u)).length=env.length+1:=by simp[hl]
   have e2:((ps++[p]).map (mH S u)).flatMap (·.1)=ps.flatMap (jA u)++jA u p:=by simp[List.flatMap_map]
   rw[e1,e2];exact hown
  ·obtain⟨q,hq,rfl⟩:=List.mem_map.1 he
   rfl
  ·obtain⟨q,hq,rfl⟩:=List.mem_map.1 he
   exact (hfr q hq g (hge g BP)).abE
  ·rcases List.mem_append.1 hts with h | h
   ·exact dh ts h
   ·rw[List.mem_singleton.1 h];exact hpo
 obtain⟨A,cap,q1,q2,q3,q4⟩:=hrow.env hS;rw[List.length_append] at q1 q2;exact⟨A,cap,q1,q2,q3,q4,hb⟩
structure xO (w1:Iv) (S:Nat->Prop) (u:Int) (A:Option I3) (env:List (List av)) (ts:List av) (Az:Option I3) (cz:Nat) (ps:List QK):Prop where
 len:ps.map (·.1)=env
 ok:∀ ts∈env,aQ u ts=true
 holds:∀ b,A=M b->∀ (j:Nat) v,(ps.flatMap (jA u))[j]? = M v->(w1.alloc (Is #[I J u,V Az ts.length cz] 86)).cell? (b.add j)=M v
 rows:∀ q∈ps,iK (w1.alloc (Is #[I J u,V Az ts.length cz] 86)) S q.2.1 q.1
 news:∀ (j:Nat) v,[I J u,V Az ts.length cz][j]? = M v->(w1.alloc (Is #[I J u,V Az ts.length cz] 86)).cell? ((Addr.mk w1.heap.size 0 U).add j)=M v
 val:iK (w1.alloc (Is #[I J u,V Az ts.length cz] 86)) S Az ts
 vok:aQ u ts=true
 nil:A=U->env.length=0
variable{Az:Option I3}{cz:Nat}
theorem abv(he:fK w1 S u A env)(hp:iK w1 S Az ts)(dh:aQ u ts=true):∃ ps,xO w1 S u A env ts Az cz ps:=by
 have hg:Ix w1.heap.size w1 (w1.alloc (Is #[I J u,V Az ts.length cz] 86)):=aV;obtain⟨ps,h1,h2,h3⟩:=(he.only (aC.of_below hg)).qs;refine⟨ps,h1,he.1,h2,h3,λj v hj=>?_,hp.only (aC.of_below hg),dh,λh=>he.ali h⟩;have hc:au (w1.alloc (Is #[I J u,V Az ts.length cz] 86)) w1.heap.size 86 [I J u,V Az ts.length cz]:=au.new w1 _ _;rw[addr_add,Mu]
 exact (hc.cell j).trans hj
theorem xO.num(h:xO w1 S u A env ts Az cz ps):(ps.flatMap (jA u)).length=env.length*2:=by
 have hl:ps.length=env.length:=by rw[<-h.len,My]
 rw[<-hl];clear h hl
 induction ps with
 | nil=>rfl
 | cons p ps ih=>rw[List.flatMap_cons,List.length_append,ih,List.length_cons];simp[jA];omega
variable{W:Iv}
theorem Zk{te:TypeId}{C:List I1}(hm:xO w1 S u A env ts Az cz ps)(hown:w2.ownsRow (w1.alloc (Is #[I J u,V Az ts.length cz] 86)).heap.size 86 2 v2 (env.length+1) (ps.flatMap (jA u)++[I J u,V Az ts.length cz]))(hg:(w1.alloc (Is #[I J u,V Az ts.length cz] 86)).grownBy w2 U)(fC:aC (λq=>q=bv) W w1)(hC:au w1 bv te C)(hS:∀ q,S q->q<W.heap.size) :
  ∃ A2 c2,v2=V A2 (env.length+1) c2/\env.length+1<=c2/\c2<=I2/\fK w2 S u A2 (env++[ts])/\aC (λq=>q=bv) W w2/\au w2 bv te C:=by
 have TG:Ix w1.heap.size w1 (w1.alloc (Is #[I J u,V Az ts.length cz] 86)):=aV;obtain⟨A2,c2,h1,h2,h3,h4,h5⟩:=fK.more (p:=(ts,Az,cz)) hm.len hm.ok hm.rows hm.val hm.vok (λq e=>by have:=hS q e;have:=fC.size;have:=TG.size;omega) hown hg;exact⟨A2,c2,h1,h2,h3,h4,(fC.trans (aC.of_below TG)).trans (aC.of_below h5),(hC.next TG).next h5⟩
def zw(S:Nat->Prop)(bv:Nat)(u:Int)(P:List Fn)(PA:Option I3)(aX:Nat)(rr:jD (List av))(w w3:Iv)(A3:Option I3)(n3 jr:Nat):Prop:=
  (w3.cell? ⟨w.heap.size+1,0,U⟩=M (I J 0)/\w3.cell? ⟨w.heap.size+1,1,U⟩=M (V U 0 0)/\w3.frozen? ⟨w.heap.size+1,0,U⟩=false/\w3.frozen? ⟨w.heap.size+1,1,U⟩=false) /\
  ((w3.setCell ⟨w.heap.size+1,0,U⟩ (I J u)).cell? ⟨w.heap.size+1,0,U⟩=M (I J u)/\((w3.setCell ⟨w.heap.size+1,0,U⟩ (I J u)).setCell ⟨w.heap.size+1,1,U⟩ (V A3 n3 jr)).cell? ⟨w.heap.size+1,1,U⟩=M (V A3 n3 jr)) /\
  dM S bv u 168 (jQ u P PA aX) rr w (If (fJ u A3 n3 jr)) ((w3.setCell ⟨w.heap.size+1,0,U⟩ (I J u)).setCell ⟨w.heap.size+1,1,U⟩ (V A3 n3 jr))
theorem QV(A:Option I3)(n cap:Nat)(w:Iv)(hn:n<=cap)(_hc:cap<=I2):I0 Tryz.prog 234 #[V A n cap] w λe w'=>e=If (V A n n)/\w=w':=by
 unfold I2 at _hc;cases A with
 | none=>
  go_enter func234,ntmps234;go_wp2;go_ret;exact⟨rfl,rfl⟩
 | some a=>
  go_enter func234,ntmps234;go_wp2;go_ret;exact⟨rfl,rfl⟩
theorem ZF(P:List Fn)(x:Nd)(u:Int)(f:Nat)(IH:rH P u f)(env:List (List av))(t:Nat)(fn:Int)(K:Option I3)(cap B:Nat)(S:Nat->Prop)(bv:Nat)(A PA:Option I3)(aW aX:Nat)(w:Iv)(hI:nN w B bv 1 P PA aX)(hS:ni w B S bv u)(hst:au w bv 168 (jQ u P PA aX++[I J t,I J 0]))(hN:lu w B S u P fn x K cap A env aW)(hk:x.k=9)(hs:t<3000)(hf:3001<=t+(f+1)) :
  I0 Tryz.prog 176 #[.pointer (M ⟨bv,0,U⟩),exV x.k x.n x.p x.c K x.ks.len cap,V A env.length aW] w (dM S bv u 168 (jQ u P PA aX) (pv u P (f+1) x env t) w):=by
 obtain⟨i0,hi,hz0,hz1,hz2⟩:=info_parts Tryz.infoPo;have hl3:=CK hN.form hk;obtain⟨a,ha⟩:=Es.eG (show 0<x.ks.len by omega);obtain⟨b,hb⟩:=Es.eG (show 1<x.ks.len by omega);have iZ:ak (pv u P (f+1) x env t=match pv u P f a env (t+1) with | .err e=>.err e | .ok z s1=>pv u P f b (env++[z]) s1):=by
  show _=_;rw[pv,if_neg ah,if_neg ah,if_neg ah,if_neg ah,if_pos hk,ha,hb]
  all_goals rfl
 obtain⟨rr,dG⟩:=aD (pv u P (f+1) x env t)
 rw[<-dG];have HRR:=aj (dG.trans iZ.o);clear iZ dG;have qK:=aj IH;clear IH;have al:=hI.lt;have hB:=hI.blow;have a1:w.cell? ⟨bv,1,U⟩=M (I J u):=ay hst
 have a2:w.cell? ⟨bv,2,U⟩=M (I J t):=ay hst
 have a3:w.cell? ⟨bv,3,U⟩=M (I J 0):=ay hst
 have z2:w.frozen? ⟨bv,2,U⟩=false:=hst.frozen _;have e1:((t:Int)==3000)=false:=by simp;omega
 have hE:=ow hI hS hst 9 x.n x.p x.c K x.ks.len cap;obtain⟨bk,ok,rfl,Er⟩:=hN.kids.get ha;obtain⟨bk1,ok1,e0,CX⟩:=hN.kids.get hb;obtain⟨rfl,rfl⟩:bk=bk1/\ok=ok1:=by simpa using e0
 have hb0:=bI hE.only hB al;obtain⟨Ka,QT,hkB,k0,k1,k2,k3,k4,kc,km,kk⟩:=(Er.below hb0).cells;obtain⟨Kb,I9,_,l0',l1',l2',l3',l4',lc,lm,lk⟩:=(CX.below hb0).cells;simp only[Mn,Mm,Nat.one_mul] at k0 k1 k2 k3 k4 l0' l1' l2' l3' l4';have hkl:bk<w.heap.size:=ah;have l0:(0:Int)<(x.ks.len:Int):=ah;have l1:(1:Int)<(x.ks.len:Int):=ah;have l0n:0<x.ks.len:=ah;have l1n:1<x.ks.len:=ah
 have x4:(FB w bv t 9 x.n x.p x.c (M ⟨bk,ok,U⟩) x.ks.len cap).cell? ⟨w.heap.size,4,U⟩=M (V (M ⟨bk,ok,U⟩) x.ks.len cap):=ay hE.bx
 have gQ:=aj (J0 x4 (J0 k0 (J0 k1 (J0 k2 (J0 k3 (J0 k4 (J0 l0' (J0 l1' (J0 l2' (J0 l3' l4'))))))))));have mY:aC S w (FB w bv t 9 x.n x.p x.c (M ⟨bk,ok,U⟩) x.ks.len cap):=hE.only.sub λq e=>by rw[e];exact hS.bv
 have LP:=aj (hN.kid mY (g:=w.heap.size+1) ah ha (.inr ah) kk kc km);have HLK:=aj lk;have HLB:=aj (J0 lc lm);have HE:=aj hE;have oO:=aj hS;have HN:=aj hN;have Tg:=aj hb;have hel:=hN.el;have hem:=hN.em;have Rx:=hN.big;have alS:=Es.iG hb;clear hI hst Er CX hE hN ha hb hb0 kk lk e0 hl3 lc lm x4 hS mY k0 k1 k2 k3 k4 l0' l1' l2' l3' l4';have HKK:=aj hk;rw[hk];clear hk
 go_enter func176,ntmps176;go_upto_region 17 with fail;change Code.wp _ _ _ _ (FB w bv t 9 x.n x.p x.c (M ⟨bk,ok,U⟩) x.ks.len cap);generalize FB w bv t 9 x.n x.p x.c (M ⟨bk,ok,U⟩) x.ks.len cap=W at *;have hkW:bk<W.heap.size:=by have:=HE.o.size;omega
 have yx:bv<W.heap.size:=HE.o.ev.lt;have hWl:w.heap.size<W.heap.size:=HE.o.bx.lt;have hg9:w.heap.size≠bv:=ah;have hk9:bk≠bv:=ah;have hd:aC (λq=>q=bv) W W.drew:=(aC.refl _ W).drewN 1;have yY:ak (∀ wx,I0 Tryz.prog 234 #[V A env.length aW] wx λe w'=>e=If (V A env.length env.length)/\wx=w'):=λwx=>QV A env.length aW wx hel hem
 have IX:ak (I0 Tryz.prog 176 #[.pointer (M ⟨bv,0,U⟩),exV a.k a.n a.p a.c Ka a.ks.len QT,V A env.length aW] W.drew λe w1=>∃ Az cz ts s' c' ps,e=If (.agg #[I J u,V Az ts.length cz])/\aC (λq=>q=bv) W w1/\xO w1 (aS S (w.heap.size+1)) u A env ts Az cz ps/\au w1 bv 168 (jQ u P PA aX++[I J s',I J c'])/\gJ (om u P f 0 a env (t+1)) ts s' c'):=by
  have hdS:aC (aS S (w.heap.size+1)) W W.drew:=(aC.refl _ W).drewN 1;refine (qK.o a env ((t+1:Nat):Int) (t+1) 0 fn Ka QT B (aS S (w.heap.size+1)) bv A PA aW aX W.drew (HE.o.ev.only hd) (HE.o.si.mono hd.size) (HE.o.st.drewN 1) (λ_=>⟨rfl,ah,ah⟩) ⟨LP.o.kids.below (bI hd hB yx),LP.o.kl,LP.o.km,LP.o.qj.only hdS,LP.o.el,LP.o.em,LP.o.big,LP.o.size,LP.o.form,LP.o.f0,LP.o.f1⟩).mono ?_
  rintro e w1 ⟨v,zs,s',c',rfl,⟨Az,cz,rfl,hpz,hkz⟩,hS1,fC,hres⟩;have hO2:=hd.trans fC;obtain⟨ps,CY⟩:=abv (cz:=cz) (LP.o.qj.only (hO2.sub λq e=>by rw[e];exact HE.o.si.bv)) hpz hkz;exact⟨Az,cz,zs,s',c',ps,rfl,hO2,CY,hS1,hres⟩
 have Tk:ak (∀ (A2:Option I3) (c2:Nat) (w2:Iv) (ts:List av) (s' c':Int),aC (λq=>q=bv) W w2->au w2 bv 168 (jQ u P PA aX++[I J s',I J c'])->gJ (om u P f 0 a env (t+1)) ts s' c'->fK w2 (aS S (w.heap.size+1)) u A2 (env++[ts])->env.length+1<=c2->c2<=I2 ->
   I0 Tryz.prog 176 #[.pointer (M ⟨bv,0,U⟩),exV b.k b.n b.p b.c Kb b.ks.len I9,V A2 (env.length+1) c2] w2 λe w3=>∃ A3 n3 jr,e=If (.agg #[I J u,V A3 n3 jr])/\zw S bv u P PA aX rr w w3 A3 n3 jr/\aC (λq=>q=bv) W w3):=by
  intro A2 c2 w2 ts s' c' hO hC hres hE hc2 hm2;have nY:=kr HN.o.form Tg.o;have GJ:bQ x.k env.length 1=((env++[ts]).length:Int):=by
   rw[HKK.o,AU];simp
  rw[GJ] at nY;have hz:=qK.o b (env++[ts]) s' s'.toNat c' fn Kb I9 B (aS S (w.heap.size+1)) bv A2 PA c2 aX w2 (HE.o.ev.only hO) (HE.o.si.mono hO.size) hC (λh=>by
   obtain⟨_,t1,rfl,h1,h2,_⟩:=iB hres h;exact⟨by simp,by simp;omega,by simp;omega⟩) ⟨HLK.o.below (bI hO hB yx),HLB.o.1,HLB.o.2,hE,by simp;omega,hm2,by simp;omega,by have:=Es.dY Tg.o;have:=HN.o.size;omega,nY,HN.o.f0,HN.o.f1⟩
  rw[List.length_append] at hz;refine Calls.mono hz λe w3 h=>?_
  have hq:om u P f c' b (env++[ts]) s'.toNat=rr:=by
   rw[HRR.o]
   by_cases hc0:c'=0
   ·obtain⟨_,t1,rfl,h1,h2,h3⟩:=iB hres hc0
    rw[h3];unfold om;rw[if_pos hc0];simp only[Mz]
   ·rw[nH hres hc0 rfl]
    unfold om;rw[if_neg hc0]
  obtain⟨v,wE,s3,c3,rfl,⟨A3,jr,rfl,hp3,qH⟩,mP,hO3,dK⟩:=h;rw[hq] at dK;exact⟨A3,wE.length,jr,rfl,mg (w:=w) (w1:=w3) (cap:=jr) (r:=rr) hp3 qH mP ((HE.o.only.trans hO).trans hO3) dK al (aM HE.o.rb (hO.trans hO3) ah),hO.trans hO3⟩
 have HB1:ak (env.length+1<=I2/\(env.length+1)*32<=140737488355328):=⟨by unfold I2;omega,ah⟩
 have ajW:ak (∀ q,aS S (w.heap.size+1) q->q<W.heap.size):=HE.o.si.lt;have Co:ak (W.drew.cell? ⟨w.heap.size,4,U⟩=M (V (M ⟨bk,ok,U⟩) x.ks.len cap)/\W.drew.cell? ⟨bk,ok,U⟩=M (I J a.k)/\W.drew.cell? ⟨bk,ok+1,U⟩=M (I J a.n)/\W.drew.cell? ⟨bk,ok+2,U⟩=M (I J a.p)/\W.drew.cell? ⟨bk,ok+3,U⟩=M (I J a.c)/\W.drew.cell? ⟨bk,ok+4,U⟩=M (V Ka a.ks.len QT) /\
   W.drew.cell? ⟨bk,ok+5,U⟩=M (I J b.k)/\W.drew.cell? ⟨bk,ok+5+1,U⟩=M (I J b.n)/\W.drew.cell? ⟨bk,ok+5+2,U⟩=M (I J b.p)/\W.drew.cell? ⟨bk,ok+5+3,U⟩=M (I J b.c)/\W.drew.cell? ⟨bk,ok+5+4,U⟩=M (V Kb b.ks.len I9)):=gQ.o
 refine aO.start (S:=λwx=>wx.cell? ⟨w.heap.size,4,U⟩=M (V (M ⟨bk,ok,U⟩) x.ks.len cap)/\wx.cell? ⟨bk,ok,U⟩=M (I J a.k)/\wx.cell? ⟨bk,ok+1,U⟩=M (I J a.n)/\wx.cell? ⟨bk,ok+2,U⟩=M (I J a.p)/\wx.cell? ⟨bk,ok+3,U⟩=M (I J a.c)/\wx.cell? ⟨bk,ok+4,U⟩=M (V Ka a.ks.len QT)/\wx.cell? ⟨bk,ok+5,U⟩=M (I J b.k)/\wx.cell? ⟨bk,ok+5+1,U⟩=M (I J b.n)/\wx.cell? ⟨bk,ok+5+2,U⟩=M (I J b.p)/\wx.cell? ⟨bk,ok+5+3,U⟩=M (I J b.c)/\wx.cell? ⟨bk,ok+5+4,U⟩=M (V Kb b.ks.len I9)) 17 aL aL ?xQ (λaA hB=>?_)
 case xQ=>((try dsimp only);exact Co.o)
 iterate 6 (refine aO.tk hB aA ?_;try simp only[aP])
 (refine aO.ti (i:=7) hB aA ?_;try simp only[aP])
 (refine aO.ti (i:=8) hB aA ?_;try simp only[aP])
 (refine aO.ti (i:=9) hB aA ?_;try simp only[aP])
 (refine aO.ti (i:=10) hB aA ?_;try simp only[aP])
 (refine aO.ti (i:=11) hB aA ?_;try simp only[aP])
 (refine aO.ti (i:=12) hB aA ?_;try simp only[aP])
 refine aO.bU (i:=6) rfl bM aL (λK hK=>?_);go_simp
 go_at_call 234
 refine (yY.o _).mono ?_;rintro e w' ⟨rfl,rfl⟩;refine hK.out _ _ (by (try dsimp only);exact Co.o) ?_;clear hK K aA;intro aA
 (try simp only[aP])
 refine aO.bU (i:=13) rfl bM aL (λK hK=>?_);go_simp
 go_at_call 176
 refine IX.o.mono ?_;rintro e w1 ⟨Az,cz,ts,s',c',ps,rfl,fC,CY,hS1,hres⟩;refine hK.out _ _ (by (try dsimp only);exact BS gQ.o fC hWl hg9 hkW hk9) ?_;clear hK K aA;intro aA
 (try simp only[aP])
 refine aO.bU (i:=14) rfl bM aL (λK hK=>?_);go_simp;refine hK.out _ _ (by (try dsimp only);exact BS gQ.o (fC.trans (aC.of_below aV)) hWl hg9 hkW hk9) ?_;clear hK K aA;intro aA
 (try simp only[aP])
 refine aO.bU (i:=15) rfl bM aL (λK hK=>?_);refine step_append_grows rfl (.tmp 89) (.tmp 97) 162 rfl 86 i0 (.agg #[I J 0,V U 0 0]) 2 32 underlying162 hi hz0 hz1 hz2 rfl bM A env.length env.length (ps.flatMap (jA u)) (by simp[Act.eval]) (λh=>⟨CY.nil h,CY.nil h⟩) CY.num CY.holds ⟨w1.heap.size,0,U⟩ 1 1 [I J u,V Az ts.length cz] (by simp[Act.eval]) rfl CY.news (by intro v hv;simp only[List.mem_cons,List.not_mem_nil,or_false] at hv;rcases hv with rfl | rfl<;>rfl) ah HB1.o.1 HB1.o.2 ?_
 intro v2 w2 hown aej;obtain⟨A2,c2,rfl,q1,q2,q3,hO2,hS2⟩:=Zk CY hown aej fC hS1 ajW.o;refine hK.out _ _ (by (try dsimp only);exact BS gQ.o hO2 hWl hg9 hkW hk9) ?_;clear hK K aA;intro aA
 (try simp only[aP])
 refine aO.bU (i:=16) rfl bM aL (λK hK=>?_);go_simp
 go_at_call 176
 refine (Tk.o A2 c2 w2 ts s' c' hO2 hS2 hres q3 q1 q2).mono ?_;rintro e w3 ⟨A3,n3,jr,rfl,zH,hO3⟩;refine hK.out _ _ (by (try dsimp only);exact BS gQ.o hO3 hWl hg9 hkW hk9) ?_;clear hK K aA;intro aA
 (try simp only[aP])
 obtain⟨⟨k0,k1,q0,Le⟩,⟨y0,y1⟩,dz⟩:=zH;refine aO.gL rfl aL aL (λK hK=>?_);go_simp;refine hK.out _ _ ?_;clear hK K;have fI:=aj dz;clear dz fC hO2 hO3 CY hS1 hS2 hres hown aej q1 q2 q3;go_wp2;refine bodyPost_ret (v:=fJ u A3 n3 jr) (by simp[results,results176,go_sem,y0,y1]) rfl ?_;exact fI.o
theorem gW(u:Int)(w:Iv)(h0:0<=u)(h1:u<=12):I0 Tryz.prog 135 #[I J u,I J 1000002] w λe w'=>∃ A cp,e=If (.agg #[I J u,V A 1 cp])/\(∀ S:Nat->Prop,(∀ q,S q->q<w.heap.size)->iK w' S A (bY u 1000002))/\Ix w.heap.size w w':=by
 refine (lK u 1000002 w h0 h1 ah ah).mono ?_;rintro e w' ⟨A,cp,rfl,hR,hb⟩;have hl:(bY u 1000002).length=1:=by rw[lJ ah];rfl
 exact⟨A,cp,by rw[hl],λS hS=>iK.of hR (fG (yR h0 h1)) hS,hb⟩
variable{K:Option I3}{cap:Nat}
theorem mW.of{fn:Int}{x:Nd}{aW:Nat}(h:lu w B S u P fn x K cap A env aW)(ho:aC S w w')(hb:Ix B w w')(hg:w.heap.size<=g)(hk:x.k≠9):mW w' B (aS S g) u P fn x.ks K cap A env aW:=
 ⟨h.kids.below hb,h.kl,h.km,h.qj.fresh ho hg,h.el,h.em,h.big,h.size,λj y hy=>by have:=kr h.form hy;rwa [eD hk] at this,h.f0,h.f1⟩
structure Mi (w W:Iv) (B:Nat) (S:Nat->Prop) (bv:Nat) (u:Int) (P:List Fn) (PA:Option I3) (aX t1:Nat) (k n p c:Int) (K:Option I3) (len cap:Nat) (A1:Option I3) (dP:List (List av)) (bm:Nat) (Am:Option I3) (cm:Nat):Prop where
 ev:nN W B bv 1 P PA aX
 si:ni W B (aS S (w.heap.size+1)) bv u
 st:au W bv 168 (jQ u P PA aX++[I J t1,I J 0])
 only:aC (λq=>q=bv) w W
 bx:au W w.heap.size 33 [I J k,I J n,I J p,I J c,V K len cap]
 rb:au W (w.heap.size+1) 86 [I J 0,V U 0 0]
 env:fK W (aS S (w.heap.size+1)) u A1 dP
 mb:au W bm 86 [I J u,V Am 1 cm]
 mp:iK W (aS S (w.heap.size+1)) Am (bY u 1000002)
 ml:w.heap.size+2<=bm
variable{p k n:Int}{PA A1 Am:Option I3}{aX t1 len cm:Nat}
theorem Oi{W0:Iv}{s:Nat}(hE:agX w W0 B S bv u P PA aX s k n p c K len cap)(al:bv<w.heap.size)(hS1:au w1 bv 168 (jQ u P PA aX++[I J t1,I J 0]))(fC:aC (λq=>q=bv) W0 w1)(D5:fK w1 (aS S (w.heap.size+1)) u A1 dP)
  (hp2:∀ S:Nat->Prop,(∀ q,S q->q<w1.heap.size)->iK w2 S Am (bY u 1000002)) (hb2:Ix w1.heap.size w1 w2):Mi w (w2.alloc (Is #[I J u,V Am 1 cm] 86)) B S bv u P PA aX t1 k n p c K len cap A1 dP w2.heap.size Am cm:=by
 have hg:Ix w2.heap.size w2 (w2.alloc (Is #[I J u,V Am 1 cm] 86)):=aV;have hb3:Ix w1.heap.size w1 (w2.alloc (Is #[I J u,V Am 1 cm] 86)):=hb2.trans (hg.mono hb2.size);have hO2:aC (λq=>q=bv) w1 (w2.alloc (Is #[I J u,V Am 1 cm] 86)):=aC.of_below hb3;have hO3:=fC.trans hO2;have s0:=hE.size;have s1:=fC.size;have s2:=hb2.size;exact⟨hE.ev.only hO3,hE.si.mono hO3.size,hS1.next hb3,hE.only.trans hO3,aM hE.bx hO3 ah,aM hE.rb hO3 ah,D5.only (aC.of_below hb3),au.new w2 _ _,(hp2 _ λq e=>by have:=hE.si.lt q e;omega).only (aC.of_below hg),ah⟩
variable{bm:Nat}
theorem Mi.aiz{W2:Iv}(h:Mi w W B S bv u P PA aX t1 k n p c K len cap A1 dP bm Am cm)(al:bv<w.heap.size)(ho:aC (λq=>q=bv) W W2)(hst:au W2 bv 168 (jQ u P PA aX++[I J t1,I J 0])):Mi w W2 B S bv u P PA aX t1 k n p c K len cap A1 dP bm Am cm:=
 ⟨h.ev.only ho,h.si.mono ho.size,hst,h.only.trans ho,aM h.bx ho ah,aM h.rb ho ah,h.env.only (ho.sub λq e=>by rw[e];exact h.si.bv),aM h.mb ho (by have:=h.ml;omega),h.mp.only (ho.sub λq e=>by rw[e];exact h.si.bv),h.ml⟩
variable{rr:jD (List av)}
theorem Cz{s' c':Int}(hS1:au w1 bv 168 (jQ u P PA aX++[I J s',I J c']))(ho:aC (λq=>q=bv) w w1)(dG:rr=.err c')(u0:0<=u)(u1:u<=12)(al:bv<w.heap.size)(hq:au w1 (w.heap.size+1) 86 [I J 0,V U 0 0]):zw S bv u P PA aX rr w w1 U 0 0:=
 mg (ts:=[]) (iK.nil _ _ _) (Ki u0 u1) hS1 ho (by rw[dG];rfl) al hq
def VaC(S:Nat->Prop)(bv:Nat)(u:Int)(P:List Fn)(PA:Option I3)(aX:Nat)(rr:jD (List av))(w w3:Iv)(A3:Option I3)(n3 c3:Nat):Prop:=
 I0 Tryz.prog 235 #[.pointer (M ⟨bv,0,U⟩),.agg #[I J u,V A3 n3 c3]] w3 λe w4=>∃ A4 n4 c4,e=If (.agg #[I J u,V A4 n4 c4])/\zw S bv u P PA aX rr w w4 A4 n4 c4/\aC (λq=>q=bv) w3 w4/\w4.cell? ⟨bv,1,U⟩=M (I J u)
theorem vaC{w3:Iv}{lo:Nat}{A3:Option I3}{c3:Nat}{R:List av}(h:Mi w W B S bv u P PA aX t1 k n p c K len cap A1 dP bm Am cm)(al:bv<w.heap.size)(hb:Ix W.heap.size W w3)(hR:RT w3 lo w3.heap.size A3 R)(hlo:W.heap.size<=lo)(hl:R.length<=1048576)(ht:rE R<=1048576)(dG:rr=kR u R t1):VaC S bv u P PA aX rr w w3 A3 R.length c3:=by
 refine (OV P u t1 (aS S (w.heap.size+1)) bv aX c3 PA A3 R w3 (h.st.next hb) (iK.of hR ah (λq e=>by have:=h.si.lt q e;omega)) h.si.u0 h.si.u1 hl ht).mono ?_;rintro e w4 ⟨v,jM,s4,I8,rfl,⟨A4,c4,rfl,vw,hk4⟩,qR,hO4,hres⟩;rw[<-dG] at hres;exact⟨A4,jM.length,c4,rfl,mg vw hk4 qR ((h.only.trans (aC.of_below hb)).trans hO4) hres al (aM (h.rb.next hb) hO4 ah),hO4,by rw[qR.cell];rfl⟩
theorem fK.two(h:fK w S u A env)(h0:0<env.length):∃ b o A0 c0 A1 c1,A=M ⟨b,o,U⟩/\b<w.heap.size/\iK w S A0 (env.getD 0 [])/\aQ u (env.getD 0 [])=true/\(1<env.length->iK w S A1 (env.getD 1 [])/\aQ u (env.getD 1 [])=true) /\
  ∀ w',eU S w w'->w'.cell? ⟨b,o,U⟩=M (I J u)/\w'.cell? ⟨b,o+1,U⟩=M (V A0 (env.getD 0 []).length c0)/\(1<env.length->w'.cell? ⟨b,o+2,U⟩=M (I J u)/\w'.cell? ⟨b,o+2+1,U⟩=M (V A1 (env.getD 1 []).length c1)):=by
 obtain⟨h1,b,o,f,hA,hf⟩:=h;obtain⟨hb,hc⟩:=hf w (eU.refl _ _) h0;have g0:env[0]? = M (env.getD 0 []):=by simp[Up,List.getElem?_eq_getElem h0]
 have g1:1<env.length->env[1]? = M (env.getD 1 []):=λh=>by simp[Up,List.getElem?_eq_getElem h]
 refine⟨b,o,(f 0).1,(f 0).2,(f 1).1,(f 1).2,hA h0,hb,λw' ho=>((hf w' ho h0).2 0 _ g0).2.2,h1 _ (List.mem_of_getElem? g0),λhl=>⟨λw' ho=>((hf w' ho h0).2 1 _ (g1 hl)).2.2,h1 _ (List.mem_of_getElem? (g1 hl))⟩,λw' ho=>?_⟩;obtain⟨_,hc'⟩:=hf w' ho h0;have q0:=hc' 0 _ g0;refine⟨by simpa using q0.1,by simpa using q0.2.1,λhl=>?_⟩;have q1:=hc' 1 _ (g1 hl);exact⟨by simpa using q1.1,by simpa using q1.2.1⟩
theorem QS{bP o2 bk o0:Nat}{vP vm vp a0 a1 a2 a3 a4:I1}(h:w.cell? ⟨bv,0,U⟩=M vP/\w.cell? ⟨g,1,U⟩=M vm/\w.cell? ⟨g,2,U⟩=M vp/\w.cell? ⟨bP,o2,U⟩=M v2/\w.cell? ⟨bk,o0,U⟩=M a0/\w.cell? ⟨bk,o0+1,U⟩=M a1/\w.cell? ⟨bk,o0+2,U⟩=M a2/\w.cell? ⟨bk,o0+3,U⟩=M a3/\w.cell? ⟨bk,o0+4,U⟩=M a4)
  (ho:aC (λq=>q=bv) w w') (hC:w'.cell? ⟨bv,0,U⟩=M vP) (hg:g<w.heap.size) (hgn:g≠bv) (hP:bP<w.heap.size) (hPn:bP≠bv) (hk:bk<w.heap.size) (hkn:bk≠bv) :
  w'.cell? ⟨bv,0,U⟩=M vP/\w'.cell? ⟨g,1,U⟩=M vm/\w'.cell? ⟨g,2,U⟩=M vp/\w'.cell? ⟨bP,o2,U⟩=M v2/\w'.cell? ⟨bk,o0,U⟩=M a0/\w'.cell? ⟨bk,o0+1,U⟩=M a1/\w'.cell? ⟨bk,o0+2,U⟩=M a2/\w'.cell? ⟨bk,o0+3,U⟩=M a3/\w'.cell? ⟨bk,o0+4,U⟩=M a4:=by
 obtain⟨_,h1,h2,h3,h4,h5,h6,h7,h8⟩:=h;exact⟨hC,(ho.cell (a:=⟨g,_,U⟩) hg hgn).trans h1,(ho.cell (a:=⟨g,_,U⟩) hg hgn).trans h2,(ho.cell (a:=⟨bP,_,U⟩) hP hPn).trans h3,(ho.cell (a:=⟨bk,_,U⟩) hk hkn).trans h4,(ho.cell (a:=⟨bk,_,U⟩) hk hkn).trans h5,(ho.cell (a:=⟨bk,_,U⟩) hk hkn).trans h6,(ho.cell (a:=⟨bk,_,U⟩) hk hkn).trans h7,(ho.cell (a:=⟨bk,_,U⟩) hk hkn).trans h8⟩
theorem Sm(P:List Fn)(m pi:Nat)(xc:Int)(ks:Es)(u:Int)(f:Nat)(IH:rH P u f)(env:List (List av))(t:Nat)(fn:Int)(K:Option I3)(cap B:Nat)(S:Nat->Prop)(bv:Nat)(A PA:Option I3)(aW aX:Nat)(w:Iv)(hI:nN w B bv 1 P PA aX)(hS:ni w B S bv u)(hst:au w bv 168 (jQ u P PA aX++[I J t,I J 0]))(hN:lu w B S u P fn ⟨10,m,pi,xc,ks⟩ K cap A env aW)(g:Fn)(y:Nd)(hC:wH P m pi xc ks 10 g y)(hs:t<3000)(hf:3001<=t+(f+1)) :
  I0 Tryz.prog 176 #[.pointer (M ⟨bv,0,U⟩),exV 10 m pi xc K ks.len cap,V A env.length aW] w (dM S bv u 168 (jQ u P PA aX) (pv u P (f+1) ⟨10,m,pi,xc,ks⟩ env t) w):=by
 have iZ:ak (pv u P (f+1) ⟨10,m,pi,xc,ks⟩ env t=match cB (pv u P f) env ks (t+1) with | .err e=>.err e | .ok zs s1=>pv u P f y zs s1):=by
  show _=_;rw[pv,if_neg ah,if_neg (by show ¬ (10:Int)=1;omega),if_neg (by show ¬ (10:Int)=2;omega),if_neg (by show ¬ (10:Int)=8;omega),if_neg (by show ¬ (10:Int)=9;omega)];cases cB (pv u P f) env ks (t+1) with
  | err e=>rfl
  | ok zs s1=>simp only;rw[if_pos trivial,show P[(m:Int).toNat]? = M g from hC.fn];simp only[Mz,hC.o]
 obtain⟨rr,dG⟩:=aD (pv u P (f+1) ⟨10,m,pi,xc,ks⟩ env t)
 rw[<-dG];have HRR:=aj (dG.trans iZ.o);clear iZ dG;have jE:=aj (jl P u f IH);have al:=hI.lt;have hB:=hI.blow;have u0:=hS.u0;have u1:=hS.u1;have a1:w.cell? ⟨bv,1,U⟩=M (I J u):=ay hst
 have a2:w.cell? ⟨bv,2,U⟩=M (I J t):=ay hst
 have a3:w.cell? ⟨bv,3,U⟩=M (I J 0):=ay hst
 have z2:w.frozen? ⟨bv,2,U⟩=false:=hst.frozen _;have e1:((t:Int)==3000)=false:=by simp;omega
 have hE:=ow hI hS hst 10 m pi xc K ks.len cap;have mY:aC S w (FB w bv t 10 m pi xc K ks.len cap):=hE.only.sub λq e=>by rw[e];exact hS.bv
 have vR:=aj (mW.of (g:=w.heap.size+1) hN mY (bI hE.only hB al) ah (by show (10:Int)≠9;omega));have HE:=aj hE;have HN:=aj hN;have oO:=aj hS;have qK:=aj IH;have HC:=aj hC;clear hC;clear hI hst hE hN hS IH mY;go_enter func176,ntmps176;go_wp2_with fail;refine (jE.o ks env ((t+1:Nat):Int) (t+1) 0 fn K cap B (aS S (w.heap.size+1)) bv A PA aW aX _ HE.o.ev HE.o.si HE.o.st (λ_=>⟨rfl,ah,ah⟩) vR.o).mono ?_;rintro e w1 ⟨A1,cp,dP,s',c',rfl,hl,zN,hcm,D5,hS1,fC,hres⟩
 have c3:w1.cell? ⟨bv,3,U⟩=M (I J c'):=ay hS1
 have c1:w1.cell? ⟨bv,1,U⟩=M (I J u):=ay hS1
 have cl:=hS1.lt;have eu:=aj hS1;have dZ:=aj fC;have yZ:=aj D5;have HL:=aj hl;have fD:=aj hres;clear hS1 fC D5 hres
 by_cases hc:c'=0
 ·have qw:=iY fD.o hc
  subst hc;obtain⟨t1,hs1,_,Fe,hev⟩:=qw.2;subst hs1;have iZ:=aj hev;have HT1:ak (t1<=3000):=Fe ah;have HT2:ak (t<t1):=by show _<_;omega
  clear qw hev Fe fD;go_wp2_with fail;refine (gW u w1 u0 u1).mono ?_;rintro e w2 ⟨Am,cm,rfl,hp2,hb2⟩;have HM:=aj (Oi (cm:=cm) HE.o al eu.o dZ.o yZ.o hp2 hb2);clear hp2 hb2 jE vR eu dZ yZ c1 c3 cl;obtain⟨bP,oP,KF,cF,bk,ok,rfl,hbP,g2,TB,hmF,rfl,hKo,hEy⟩:=aet HM.o.ev.prog HC.o.fn HC.o.o;obtain⟨Ky,aaW,hbk,q0,q1,q2,q3,q4,qc,qm,qk⟩:=hEy.cells;have D7:m<P.length:=(List.getElem?_eq_some_iff.1 HC.o.fn).1
  have CZ:(m:Int)<(P.length:Int):=ah;have hpl:pi<g.outs.len:=Es.yg HC.o.o;have afy:(pi:Int)<(g.outs.len:Int):=ah;have hYF:=HC.o.each pi y HC.o.o;have v0:(w2.alloc (Is #[I J u,V Am 1 cm] 86)).cell? ⟨bv,0,U⟩=M (V (M ⟨bP,oP,U⟩) P.length aX):=ay HM.o.st
  have x0:(w2.alloc (Is #[I J u,V Am 1 cm] 86)).cell? ⟨w.heap.size,0,U⟩=M (I J 10):=ay HM.o.bx
  have x1:(w2.alloc (Is #[I J u,V Am 1 cm] 86)).cell? ⟨w.heap.size,1,U⟩=M (I J m):=ay HM.o.bx
  have x2:(w2.alloc (Is #[I J u,V Am 1 cm] 86)).cell? ⟨w.heap.size,2,U⟩=M (I J pi):=ay HM.o.bx
  have gQ:=aj (J0 v0 (J0 x1 (J0 x2 (J0 g2 (J0 q0 (J0 q1 (J0 q2 (J0 q3 q4))))))));have HQK:=aj qk;have HYF:=aj hYF;clear v0 x1 x2 g2 q0 q1 q2 q3 q4 hKo hEy hYF qk;go_upto_region 24 with fail;change Code.wp _ _ _ _ (w2.alloc (Is #[I J u,V Am 1 cm] 86));generalize w2.alloc (Is #[I J u,V Am 1 cm] 86)=W at *;have hd:aC (λq=>q=bv) W W.drew:=(aC.refl _ W).drewN 1
  have yx:bv<W.heap.size:=HM.o.ev.lt;have hWl:w.heap.size<W.heap.size:=HM.o.bx.lt;have hg9:w.heap.size≠bv:=ah;have hBW:B<=W.heap.size:=by have:=HM.o.only.size;omega
  have akt:bk<W.heap.size:=ah;have aks:bk≠bv:=ah;have NH:bP<W.heap.size:=ah;have afc:bP≠bv:=ah;have jh:ak (I0 Tryz.prog 176 #[.pointer (M ⟨bv,0,U⟩),exV y.k y.n y.p y.c Ky y.ks.len aaW,V A1 ks.len cp] W.drew λe w3=>∃ A3 n3 jr,e=If (.agg #[I J u,V A3 n3 jr])/\zw S bv u P (M ⟨bP,oP,U⟩) aX rr w w3 A3 n3 jr/\aC (λq=>q=bv) W w3/\w3.cell? ⟨bv,0,U⟩=M (V (M ⟨bP,oP,U⟩) P.length aX)):=by
   have hz:=qK.o y dP t1 t1 0 m Ky aaW B (aS S (w.heap.size+1)) bv A1 (M ⟨bP,oP,U⟩) cp aX W.drew (HM.o.ev.only hd) (HM.o.si.mono hd.size) (HM.o.st.drewN 1) (λ_=>⟨rfl,HT1.o,by have:=HT2.o;omega⟩)
    ⟨HQK.o.below (bI hd hB yx),qc,qm,HM.o.env.only ((aC.refl _ W).drewN 1),by rw[hl];exact zN,hcm,by rw[hl];have:=HC.o.p12;have:=HYF.o;omega,by have:=HYF.o;omega,by rw[hl];exact HYF.o.1,ah,ah⟩
   rw[hl] at hz;refine Calls.mono hz λe w3 h=>?_
   obtain⟨v,wE,s3,c3,rfl,⟨A3,jr,rfl,hp3,qH⟩,mP,hO3,dK⟩:=h;have hq:om u P f 0 y dP t1=rr:=by rw[HRR.o,iZ.o];rfl
   rw[hq] at dK;exact⟨A3,wE.length,jr,rfl,mg (w:=w) (w1:=w3) (cap:=jr) (r:=rr) hp3 qH mP ((HM.o.only.trans hd).trans hO3) dK al (aM HM.o.rb (hd.trans hO3) ah),hd.trans hO3,by rw[mP.cell];rfl⟩
  have Co:ak (W.drew.cell? ⟨bv,0,U⟩=M (V (M ⟨bP,oP,U⟩) P.length aX)/\W.drew.cell? ⟨w.heap.size,1,U⟩=M (I J m)/\W.drew.cell? ⟨w.heap.size,2,U⟩=M (I J pi)/\W.drew.cell? ⟨bP,oP+m*3+2,U⟩=M (V (M ⟨bk,ok,U⟩) g.outs.len cF)/\W.drew.cell? ⟨bk,ok+pi*5,U⟩=M (I J y.k)/\W.drew.cell? ⟨bk,ok+pi*5+1,U⟩=M (I J y.n)/\W.drew.cell? ⟨bk,ok+pi*5+2,U⟩=M (I J y.p)/\W.drew.cell? ⟨bk,ok+pi*5+3,U⟩=M (I J y.c)/\W.drew.cell? ⟨bk,ok+pi*5+4,U⟩=M (V Ky y.ks.len aaW)):=gQ.o
  refine aO.start (S:=λwx=>wx.cell? ⟨bv,0,U⟩=M (V (M ⟨bP,oP,U⟩) P.length aX)/\wx.cell? ⟨w.heap.size,1,U⟩=M (I J m)/\wx.cell? ⟨w.heap.size,2,U⟩=M (I J pi)/\wx.cell? ⟨bP,oP+m*3+2,U⟩=M (V (M ⟨bk,ok,U⟩) g.outs.len cF)/\wx.cell? ⟨bk,ok+pi*5,U⟩=M (I J y.k)/\wx.cell? ⟨bk,ok+pi*5+1,U⟩=M (I J y.n)/\wx.cell? ⟨bk,ok+pi*5+2,U⟩=M (I J y.p)/\wx.cell? ⟨bk,ok+pi*5+3,U⟩=M (I J y.c)/\wx.cell? ⟨bk,ok+pi*5+4,U⟩=M (V Ky y.ks.len aaW)) 17 aL aL ?xQ (λaA hB=>?_)
  case xQ=>((try dsimp only);exact Co.o)
  iterate 16 (refine aO.tk hB aA ?_;try simp only[aP])
  refine aO.bU (i:=16) rfl bM aL (λK hK=>?_);go_simp
  go_at_call 176
  refine jh.o.mono ?_;rintro e w3 ⟨A3,n3,jr,rfl,zH,hO3,hC3⟩;refine hK.out _ _ (by (try dsimp only);exact QS gQ.o hO3 hC3 hWl hg9 NH afc akt aks) ?_;clear hK K aA;intro aA
  (try simp only[aP])
  obtain⟨⟨k0,k1,q0,Le⟩,⟨y0,y1⟩,dz⟩:=zH;refine aO.gL rfl aL aL (λK hK=>?_);go_simp;refine hK.out _ _ ?_;clear hK K;clear hO3 hC3;have fI:=aj dz;clear dz;go_wp2;refine bodyPost_ret (v:=fJ u A3 n3 jr) (by simp[results,results176,go_sem,y0,y1]) rfl ?_;exact fI.o
 ·have HB:=aj (jS fD.o hc rfl)
  have hc1:(c' != 0)=true:=by simpa using hc
  have hD:=Cz (S:=S) (rr:=rr) eu.o (HE.o.only.trans dZ.o) (by rw[HRR.o,HB.o]) u0 u1 al (aM HE.o.rb dZ.o ah);obtain⟨⟨k0,k1,q0,q1⟩,⟨y0,y1⟩,dz⟩:=hD;have fI:=aj dz;clear dz eu dZ yZ fD jE vR hl hc;go_wp2;refine bodyPost_ret (v:=fJ u U 0 0) (by simp[results,results176,go_sem,y0,y1]) rfl ?_;exact fI.o
end
end Go.Proofs.YtgfkglhelfkpoaaGreat
