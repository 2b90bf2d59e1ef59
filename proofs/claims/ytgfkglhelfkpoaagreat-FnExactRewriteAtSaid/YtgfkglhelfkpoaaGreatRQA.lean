/- Parts of the proof. -/
import Derived.Test.YtgfkglhelfkpoaaGreatRPH
import Derived.Test.YtgfkglhelfkpoaaGreatRSP
set_option maxRecDepth 100000
set_option maxHeartbeats 4000000
open Go.Proofs.Tryz
open Go.Value renaming int→I,slice→V
open Go.IntKind renaming i64→J
open Option renaming some→M,none→U
open Go.Ending renaming returned→If
open Go.Obj renaming cells→Is
open Go renaming World→Iv,Calls→I0,maxLen→I2,Addr→I3
open Go.RowKit renaming Below→Ix
open Nat renaming le_refl→Jn,add_zero→Mm,le_trans→Mp,zero_add→Mu
open Go.RowKit.Below renaming refl→Jx,heap_setCell→J1
open And renaming intro→J0
open Bool renaming and_eq_true→Mb
open List renaming length_map→My
namespace Go.Proofs.YtgfkglhelfkpoaaGreat
section
open Plain
end
section
open Go.RowKit Plain
def acT(v:Int)(ts:List av):Prop:=(0<=v/\v<=12/\ts.length<=1000)/\∀ t∈ts,dL v t=true
def ElG(w:Iv)(B:Nat)(x:Nd)(b o:Nat):Prop:=w.cell? ⟨b,o,U⟩=M (I J x.k)/\w.cell? ⟨b,o+1,U⟩=M (I J x.n)/\w.cell? ⟨b,o+2,U⟩=M (I J x.p)/\w.cell? ⟨b,o+3,U⟩=M (I J x.c) /\
 ∃ K cap,w.cell? ⟨b,o+4,U⟩=M (V K x.ks.len cap)/\x.ks.len<=cap/\cap<=I2/\bJ w B x.ks K
variable{x:Nd}
theorem ElG.only{w w':Iv}{B bv:Nat}{b o:Nat}(h:ElG w B x b o)(ho:aC (λq=>q=bv) w w')(hn:b≠bv)(hl:b<w.heap.size)(hB:B<=bv)(al:bv<w.heap.size):ElG w' B x b o:=by
 obtain⟨h0,h1,h2,h3,K,cap,h4,hc,hm,hk⟩:=h;exact⟨(ho.cell (a:=⟨b,_,U⟩) hl hn).trans h0,(ho.cell (a:=⟨b,_,U⟩) hl hn).trans h1,(ho.cell (a:=⟨b,_,U⟩) hl hn).trans h2,(ho.cell (a:=⟨b,_,U⟩) hl hn).trans h3,K,cap,(ho.cell (a:=⟨b,_,U⟩) hl hn).trans h4,hc,hm,hk.below (bI ho hB al)⟩
structure agS (w:Iv) (B:Nat) (S:Nat->Prop) (u:Int) (P:List Fn) (fn:Int) (bv:Nat) (es:Es) (bk ok cap:Nat) (A:Option I3) (env:List (List av)) (aW:Nat):Prop where
 kids:∀ j x,es.get? j=M x->ElG w B x bk (ok+j*5)
 bn:bk≠bv
 bl:bk<w.heap.size
 kl:es.len<=cap
 km:cap<=I2
 qj:fK w S u A env
 el:env.length<=aW
 em:aW<=I2
 big:env.length+es.depth<=1000000
 size:es.size<=400
 form:∀ j y,es.get? j=M y->formed P fn env.length y=true
 f0:0<=fn
 f1:fn<=P.length
def acd(P:List Fn)(u:Int)(f:Nat):Prop:=∀ (es:Es) (env:List (List av)) (s:Int) (t:Nat) (c0 fn:Int) (bk ok cap B:Nat) (S:Nat->Prop) (bv:Nat) (A PA:Option I3) (aW aX:Nat) (w:Iv),nN w B bv 1 P PA aX->ni w B S bv u->au w bv 168 (jQ u P PA aX++[I J s,I J c0])->(c0=0->s=(t:Int)/\t<=3000/\3001<=t+f) ->
 agS w B S u P fn bv es bk ok cap A env aW ->
 I0 Tryz.prog 109 #[.pointer (M ⟨bv,0,U⟩),V (M ⟨bk,ok,U⟩) es.len cap,V A env.length aW] w (wK S bv u es.len 168 (jQ u P PA aX) (mI u P f c0 es env t) w)
theorem Kk(P:List Fn)(u:Int)(f:Nat)(IH:rH P u f):acd P u f:=by
 intro es env s t c0 fn bk ok cap B S bv A PA aW aX w hI hS hst hf hN;obtain⟨i0,hi,hz0,hz1,hz2⟩:=info_parts Tryz.infoPo;have qK:=aj IH;clear IH;obtain⟨R,hR⟩:=aD (mI u P f c0 es env t)
 rw[<-hR];have hM0:lI u P f R es env [] s c0:=by rw[hR];exact lI.start hf
 have DX:=aj hM0;clear hR hM0 hf;have al:=hI.lt;have hB:=hI.blow;have gI:ak (∀ w',aC (λq=>q=bv) w w'->∀ j x,es.get? j=M x->ElG w' B x bk (ok+j*5)):=λw' ho j x hx=>(hN.kids j x hx).only ho hN.bn hN.bl hB al
 have hbn:=hN.bn;have hbl:=hN.bl;have hls:=Es.aF es;have hsz:=hN.size;have hkl:=hN.kl;have hkm:cap<=9223372036854775807:=by have:=hN.km;unfold I2 at this;omega
 have HI:=aj hI;have oO:=aj hS;have HN:=aj hN;have HST:=aj hst;clear hI hN hst hS;go_enter func109,ntmps109;go_wp2
 go_loopw [7,13] (λo i wr=>∃ (j:Nat) (es':Es) (dP:List (List av)) (g:Nat) (s' c':Int),i=I J (j:Int)/\ak (o.ownBlock=M g/\w.heap.size<=g/\g<wr.heap.size)/\j+es'.len=es.len/\ak (dP.length=j)/\ak (es'.size<=es.size)/\ak (∀ i,es'.get? i=es.get? (j+i)) /\
  ak (jc wr w.heap.size S u o dP)/\ak (au wr bv 168 (jQ u P PA aX++[I J s',I J c']))/\ak (aC (λq=>q=bv) w wr)/\ak (lI u P f R es' env dP s' c')) (λ_ i _=>es.len - (intOf i).toNat)
 case atStart=>
  have hg:Ix w.heap.size w (w.alloc (Is #[] 86)):=aV;refine⟨0,es,[],w.heap.size,s,c0,bE,⟨rfl,Jn _,by simp⟩,ah,rfl,Jn _,λi=>by rw[Mu],jc.start w S u,HST.o.next hg,aC.of_below hg,DX.o⟩
 case round=>
  obtain⟨j,es',dP,g,s',c',rfl,hG,hj,htl,hsz2,hget,HR,HS,HO,HM⟩:=hrel;cases es' with
  | nil=>
   simp only[Es.len] at hj;obtain rfl:j=es.len:=ah;obtain⟨Av,cp,rfl,q1,q2,q3⟩:=HR.o.env (λq hq=>oO.o.lt q hq);rw[htl.o] at q1;have kP:=htl.o;have HP:ak (wK S bv u es.len 168 (jQ u P PA aX) R w (If (V Av es.len cp)) wr):=⟨Av,cp,dP,s',c',rfl,kP,q1,q2,q3,HS.o,HO.o,HM.o.end_⟩
   rw[kP];clear q1 q2 q3 kP;go_wp2;go_ret;exact HP.o
  | cons kk m' p' c1 aY r=>
   simp only[Es.len] at hj;have iT:es.get? j=M ⟨kk,m',p',c1,aY⟩:=by have:=hget.o 0;rw[Mm] at this;rw[<-this];rfl
   obtain⟨c0',c1',c2',c3',K',bB,I8,hc2,hcm2,dS⟩:=gI.o wr HO.o j _ iT;have yA:ak (∀ i,r.get? i=es.get? (j+1+i)):=λi=>by have:=hget.o (i+1);rw[show j+1+i=j+(i+1) by omega,<-this];rfl
   have hrs:ak (r.size<=es.size):=by have:=hsz2.o;simp only[Es.size] at this;show _<=_;omega
   have hbr:bk<wr.heap.size:=by have:=HO.o.size;omega
   have mY:aC S w wr:=HO.o.sub λq e=>by rw[e];exact oO.o.bv
   have hNk:lu wr B (aS S g) u P fn ⟨kk,m',p',c1,aY⟩ K' bB A env aW:=⟨dS,hc2,hcm2,HN.o.qj.fresh mY hG.o.2.1,HN.o.el,HN.o.em,by have:=HN.o.big;have:=Es.iG iT;show env.length+aY.depth<=1000000;simp only at this;omega,by have:=HN.o.size;have:=Es.dY iT;show aY.size<=400;simp only at this;omega,HN.o.form j _ iT,HN.o.f0,HN.o.f1⟩
   have YL:ni wr B (aS S g) bv u:=oO.o.fresh HO.o.size hG.o.2.1 hG.o.2.2 ah;have uY:=aj hNk;have nQ:=aj YL;clear dS iT hNk hget hsz2 YL mY;go_wp2_with fail;have NK:Ix wr.heap.size wr (wr.alloc (Is #[I J kk,I J m',I J p',I J c1,V K' aY.len bB] 33)):=aV;have hbx:=au.new wr 33 [I J kk,I J m',I J p',I J c1,V K' aY.len bB]
   have iI:lu (wr.alloc (Is #[I J kk,I J m',I J p',I J c1,V K' aY.len bB] 33)) B (aS S g) u P fn ⟨kk,m',p',c1,aY⟩ K' bB A env aW:=⟨uY.o.kids.below (NK.mono (by have:=HO.o.size;omega)),uY.o.kl,uY.o.km,uY.o.qj.only (aC.of_below NK),uY.o.el,uY.o.em,uY.o.big,uY.o.size,uY.o.form,uY.o.f0,uY.o.f1⟩
   refine (qK.o ⟨kk,m',p',c1,aY⟩ env s' s'.toNat c' fn K' bB B (aS S g) bv A PA aW aX _ ((HI.o.only HO.o).only (aC.of_below NK)) (nQ.o.mono NK.size) (HS.o.next NK) HM.o.now iI).mono ?_;rintro e w1 ⟨v,ts,s2,K_,rfl,⟨Az,cz,rfl,hpz,hkz⟩,hS1,fC,hres⟩;have hO2:=(aC.of_below NK).trans fC;have abq:=hO2.size;have qL:=aj (HR.o.only oO.o.bv al hO2);have Bh:=aj (HM.o.step hres)
   have dZ:=aj (HO.o.trans hO2);have eu:=aj hS1;have xI:=aj (J0 hpz hkz);obtain⟨ps,yj,hps,nC,AO⟩:=qL.o;have hpl:ps.length=j:=by have:=congrArg List.length hps;rw[My,htl.o] at this;exact this
   have mq:=aj yj;have BI:=aj AO;have mZ:=aj nC;have r_:=aj hps;have hw1:w.heap.size<=w1.heap.size:=dZ.o.size;clear NK iI hpz hkz hS1 fC hO2 hres yj hps nC AO HR HM HO HS uY c0' c1' c2' c3' I8 hbx;obtain⟨mM,hW1'⟩:=aD (w1.alloc (Is (jA u (ts,Az,cz)).toArray 86))
   have hb2:Ix w1.heap.size w1 mM:=by rw[hW1'];go_grown
   have hC2:au mM w1.heap.size 86 (jA u (ts,Az,cz)):=by rw[hW1'];exact au.new _ _ _
   have nJ:=aj (mq.o.below hb2).own;have HB2:=aj hb2;have fH:=aj hC2;have HW1:=aj hW1';clear hb2 hC2 hW1';go_wp2_with (at_builtin;change wpList _ _ _ _ _ (w1.alloc (Is (jA u (ts,Az,cz)).toArray 86));rw[<-HW1.o];refine wpList_append_own_at _ rfl _ _ 162 rfl w.heap.size 86 i0 (.agg #[I J 0,V U 0 0]) 2 32 underlying162 hi hz0 hz1 hz2 rfl bM _ _ _ rfl nJ.o ⟨w1.heap.size,0,U⟩ 1 1 (jA u (ts,Az,cz)) rfl rfl ?c1 ?c2 ?c3 ?c4 ?c5 ?_)
   case c1=>intro q z hz;rw[addr_add,Mu];exact (fH.o.cell q).trans hz
   case c2=>intro z hz;simp only[jA,List.mem_cons,List.not_mem_nil,or_false] at hz;rcases hz with rfl | rfl<;>rfl
   case c3=>simp only[My];unfold I2;omega
   case c4=>simp only[My];omega
   case c5=>have:=HB2.o.size;omega
   intro v2 w2 iA hg2 _ hat;have hown:w2.ownsRow w.heap.size 86 2 v2 ((ps.map (mH S u)).length+1) ((ps.map (mH S u)).flatMap (·.1)++jA u (ts,Az,cz)):=by
    rw[My,hpl];exact iA
   have hgl:=(mq.o.lt hG.o.1)
   obtain⟨hp2,hbl⟩:=jc.push (p:=(ts,Az,cz)) mq.o (by rw[r_.o];exact mZ.o) BI.o hG.o.1 (Jx _ _) xI.o.1 xI.o.2 HB2.o hown hg2 hat;rw[r_.o] at hp2;have hg3:∃ g3,v2.ownBlock=M g3/\w.heap.size<=g3/\g3<w2.heap.size:=by
    have hs2:=hg2.size;have hs1:=HB2.o.size
    rcases hat with e | e
    ·exact⟨g,e.trans hG.o.1,hgl.1,ah⟩
    ·exact⟨mM.heap.size,e,ah,(World.ownsRow.lt hown _ e).2⟩
   obtain⟨g3,hg3⟩:=hg3;have Ec:=aj hg3;have mU:=aj hp2;have HS2:ak (au w2 bv 168 (jQ u P PA aX++[I J s2,I J K_])):=(hbl.block bv al).trans eu.o;have rO:ak (aC (λq=>q=bv) w w2):=⟨hbl.os.trans dZ.o.os,hbl.tape.trans dZ.o.tape,hbl.output.trans dZ.o.output,Mp dZ.o.size hbl.size,λq hq hn=>(hbl.block q hq).trans (dZ.o.block q hq hn)⟩
   have kP:ak ((dP++[ts]).length=j+1):=by show _=_;rw[List.length_append,htl.o];rfl
   clear hown hg2 hat hp2 hbl hg3 mq BI mZ r_ nJ fH HB2 xI hgl;go_wp2
   go_roundw
   case rel=>exact⟨j+1,r,dP++[ts],g3,s2,K_,bE,Ec,ah,kP,hrs,yA,mU,HS2,rO,Bh⟩
   case measure=>simp[intOf];omega
theorem G8(P:List Fn)(u:Int)(f:Nat):acd P u f:=Kk P u f (ZE P u f)
def two(l r:Nd):Es:=.cons l.k l.n l.p l.c l.ks (.cons r.k r.n r.p r.c r.ks .nil)
variable{l r:Nd}
theorem Qr{j:Nat}(h:(two l r).get? j=M x):(j=0/\x=l)∨(j=1/\x=r):=by
 match j with
 | 0=>left;refine⟨rfl, ?_⟩;simp only[two,Es.get?] at h;exact (Option.some.inj h).symm
 | 1=>right;refine⟨rfl, ?_⟩;simp only[two,Es.get?] at h;exact (Option.some.inj h).symm
 | j+2=>simp[two,Es.get?] at h
noncomputable def BO (u:Int):jD (List (List av))->(Int×List av)×Int
 | .err c=>((0,[]),c)
 | .ok dP _=>((u,kD (dP.getD 0 []++dW 1000002 (dP.getD 1 []))),0)
noncomputable def pG (v:Int) (l r:Nd):(Int×List av)×Int:=BO v (cB (pv v [] 3001) (kX v v.toNat) (two l r) 0)
theorem Nv{u:Int}{P:List Fn}{es:Es}{env dP:List (List av)}{s' c':Int}(h:gJ (mI u P 3001 0 es env 0) dP s' c'):(c'=0->BO u (cB (pv u P 3001) env es 0)=((u,kD (dP.getD 0 []++dW 1000002 (dP.getD 1 []))),0))/\(c'≠0->BO u (cB (pv u P 3001) env es 0)=((0,[]),c')):=by
 refine⟨λhc=>?_,λhc=>?_⟩
 ·obtain⟨_,t1,_,_,_,h4⟩:=iY h hc
  rw[h4];rfl
 ·rw[jS h hc rfl];rfl
variable{v:Int}
theorem Jy{a b:List av}(h1:aQ v a=true)(h2:aQ v b=true):acT v (kD (a++dW 1000002 b))/\Canon (kD (a++dW 1000002 b)):=by
 have hb:=gD (k:=1000002) h2 ah ah;have hs:=bC h1;have hl:=(ahh h1 hb).1;refine⟨⟨⟨hs.1,hs.2.1,ah⟩,λt ht=>?_⟩,lN _⟩;obtain⟨u,hu,e⟩:=(lN _).KM (yI _) ht;have hc:=(lN _).sN t ht
 rcases List.mem_append.1 hu with h | h
 ·exact kW (bZ h1 h) (by rw[<-e]) hc.1 hc.2
 ·exact kW (bZ hb h) (by rw[<-e]) hc.1 hc.2
def acO(v:Int)(g:(Int×List av)×Int):Prop:=g.2=0->g.1.1=v/\acT v g.1.2/\Canon g.1.2
theorem Dq:gF []=true:=rfl
theorem eP.nil(w:Iv)(B:Nat):eP w B [] U:=⟨0,0,λh=>absurd h (by simp),trivial⟩
theorem rD(h:dw x v=true):x.ks.depth<=59:=by
 unfold dw bT at h;simp only[Mb,decide_eq_true_eq] at h;have h2:=h.1.1.1.2;unfold Nd.depth at h2;omega
theorem ab4(hl:dw l v=true)(hr:dw r v=true)(_v3:v<=3):(two l r).size<=400/\(two l r).depth<=400/\∀ j y,(two l r).get? j=M y->formed [] 0 v y=true:=by
 obtain⟨a1,_,a3,_,_⟩:=cZ hl;obtain⟨b1,_,b3,_,_⟩:=cZ hr;have hs:(two l r).size<=400:=by simp only[two,Es.size];omega
 refine⟨hs, ?_,λj y h=>?_⟩
 ·have d1:=rD hl
  have d2:=rD hr;simp only[two,Es.depth];omega
 rcases Qr h with ⟨_,rfl⟩ | ⟨_,rfl⟩
 ·exact a3
 ·exact b3
theorem akk(v:Int)(l r:Nd)(KL KR:Option I3)(cl cr B:Nat)(w:Iv)(hL:bJ w B l.ks KL)(hcl:l.ks.len<=cl)(D7:cl<=I2)(hR:bJ w B r.ks KR)(hcr:r.ks.len<=cr)(hmr:cr<=I2)(hB:B<=w.heap.size)(v0:0<=v)(v3:v<=3)(hl:dw l v=true)(hr:dw r v=true) :
  I0 Tryz.prog 63 #[rZ v l KL cl r KR cr] w (λe w'=>Pt (pG v l r).1 (pG v l r).2 w e w'/\acO v (pG v l r)):=by
 obtain⟨W0,aZ⟩:=aD (((w.alloc (Is #[I J v,I J l.k,I J l.n,I J l.p,I J l.c,V KL l.ks.len cl,I J r.k,I J r.n,I J r.p,I J r.c,V KR r.ks.len cr] 35)).alloc (Is #[I J 0,V U 0 0] 86)).alloc (Is #[V U 0 0,I J v,I J 0,I J 0] 168))
 have HB0:ak (Ix w.heap.size w W0):=by show Ix _ _ _;rw[aZ];go_grown
 have DY:ak (au W0 w.heap.size 35 [I J v,I J l.k,I J l.n,I J l.p,I J l.c,V KL l.ks.len cl,I J r.k,I J r.n,I J r.p,I J r.c,V KR r.ks.len cr]):=by
  show au _ _ _ _;rw[aZ];exact (au.new w 35 _).next aV
 have IV:ak (au W0 (w.heap.size+1) 86 [I J 0,V U 0 0]):=by
  show au _ _ _ _;rw[aZ];have:=(au.new (w.alloc (Is #[I J v,I J l.k,I J l.n,I J l.p,I J l.c,V KL l.ks.len cl,I J r.k,I J r.n,I J r.p,I J r.c,V KR r.ks.len cr] 35)) 86 [I J 0,V U 0 0]).next (w':=((w.alloc (Is #[I J v,I J l.k,I J l.n,I J l.p,I J l.c,V KL l.ks.len cl,I J r.k,I J r.n,I J r.p,I J r.c,V KR r.ks.len cr] 35)).alloc (Is #[I J 0,V U 0 0] 86)).alloc (Is #[V U 0 0,I J v,I J 0,I J 0] 168)) aV
  simpa using this
 have HD0:ak (au W0 (w.heap.size+2) 168 [V U 0 0,I J v,I J 0,I J 0]):=by
  show au _ _ _ _;rw[aZ];have:=au.new ((w.alloc (Is #[I J v,I J l.k,I J l.n,I J l.p,I J l.c,V KL l.ks.len cl,I J r.k,I J r.n,I J r.p,I J r.c,V KR r.ks.len cr] 35)).alloc (Is #[I J 0,V U 0 0] 86)) 168 [V U 0 0,I J v,I J 0,I J 0];simpa using this
 have gQ:ak (W0.heap.size=w.heap.size+3):=by show _=_;rw[aZ];simp
 have dI:=aj aZ;have FU:=aj (J0 (hL.below (HB0.o.mono hB)) (hR.below (HB0.o.mono hB)));have Co:=aj (J0 hl hr);obtain⟨gv,RH⟩:=aD (pG v l r)
 rw[<-RH];have HGV:ak (gv=BO v (cB (pv v [] 3001) (kX v v.toNat) (two l r) 0)):=RH;clear RH;clear hL hR hl hr;clear aZ;go_enter func63,ntmps63;go_upto_region 2 with fail;rw[<-dI.o];have yx:w.heap.size+2<W0.heap.size:=HD0.o.lt;have Bz:v<=12:=ah;have iZ:ak (nN W0 w.heap.size (w.heap.size+2) 1 [] U 0):=⟨eP.nil _ _,Jn _,Nat.zero_le _,ah,yx,Dq,ah,ah⟩
 have oO:ak (ni W0 w.heap.size (λq=>q<=w.heap.size+2) (w.heap.size+2) v):=⟨Jn _,λq e=>Nat.lt_of_le_of_lt e yx,trivial,v0,Bz⟩
 have HUK:ak (∀ wx,Ix W0.heap.size W0 wx->I0 Tryz.prog 110 #[I J v] wx λe w'=>∃ A cp,e=If (V A v.toNat cp)/\ak (v.toNat<=cp/\cp<=I2/\fK w' (λq=>q<=w.heap.size+2) v A (kX v v.toNat))/\Ix wx.heap.size wx w'):=λwx hb=>
  (Ia v (λq=>q<=w.heap.size+2) wx (λq e=>by have e':q<=w.heap.size+2:=e;have:=hb.size;omega) v0 Bz).mono λe w' ⟨A,cp,h1,h2,h3,h4,h5⟩=>⟨A,cp,h1,⟨h2,h3,h4⟩,h5⟩
 have jE:ak (∀ wx bk A3 c3,OB W0 wx (M bk) 33 [I J l.k,I J l.n,I J l.p,I J l.c,V KL l.ks.len cl,I J r.k,I J r.n,I J r.p,I J r.c,V KR r.ks.len cr]->(v.toNat<=c3/\c3<=I2/\fK wx (λq=>q<=w.heap.size+2) v A3 (kX v v.toNat))->I0 Tryz.prog 109 #[.pointer (M ⟨w.heap.size+2,0,U⟩),V (M ⟨bk,0,U⟩) 2 2,V A3 v.toNat c3] wx (wK (λq=>q<=w.heap.size+2) (w.heap.size+2) v 2 168 (jQ v [] U 0) (mI v [] 3001 0 (two l r) (kX v v.toNat) 0) wx)):=λwx bk A3 c3 sV ⟨h1,h2,h3⟩=>by
  obtain⟨g1,g2,g3⟩:=ab4 Co.o.1 Co.o.2 v3;obtain⟨k1,k2⟩:=sV.box bk rfl;have hO:aC (λq=>q=w.heap.size+2) W0 wx:=aC.of_below sV.below;have hz:=G8 [] v 3001 (two l r) (kX v v.toNat) 0 0 0 0 bk 0 2 w.heap.size (λq=>q<=w.heap.size+2) (w.heap.size+2) A3 U c3 0 wx (iZ.o.only hO) (oO.o.mono hO.size) (HD0.o.next sV.below) (λ_=>⟨rfl,ah,ah⟩)
   ⟨λj x hx=>by
    rcases Qr hx with ⟨rfl,rfl⟩ | ⟨rfl,rfl⟩
    ·exact⟨(k2.cell 0).trans rfl,(k2.cell 1).trans rfl,(k2.cell 2).trans rfl,(k2.cell 3).trans rfl,KL,cl,(k2.cell 4).trans rfl,hcl,D7,(FU.o.1.mono hB).below (sV.below.mono ah)⟩
    ·exact⟨(k2.cell 5).trans rfl,(k2.cell 6).trans rfl,(k2.cell 7).trans rfl,(k2.cell 8).trans rfl,KR,cr,(k2.cell 9).trans rfl,hcr,hmr,(FU.o.2.mono hB).below (sV.below.mono ah)⟩,
       by omega,k2.lt,Jn _,by unfold I2;omega,h3,by rw[dH];exact h1,h2,by rw[dH];omega,g1,λj y hy=>by rw[dH,Int.toNat_of_nonneg v0];exact g3 j y hy,Int.le_refl _,by simp⟩
  rw[dH] at hz;exact hz
 have BJ:ak (∀ wx,aC (λq=>q=w.heap.size+2) W0 wx->wx.cell? ⟨w.heap.size,0,U⟩=M (I J v)/\wx.cell? ⟨w.heap.size,1,U⟩=M (I J l.k)/\wx.cell? ⟨w.heap.size,2,U⟩=M (I J l.n)/\wx.cell? ⟨w.heap.size,3,U⟩=M (I J l.p)/\wx.cell? ⟨w.heap.size,4,U⟩=M (I J l.c)/\wx.cell? ⟨w.heap.size,5,U⟩=M (V KL l.ks.len cl)/\wx.cell? ⟨w.heap.size,6,U⟩=M (I J r.k)/\wx.cell? ⟨w.heap.size,7,U⟩=M (I J r.n)/\wx.cell? ⟨w.heap.size,8,U⟩=M (I J r.p)/\wx.cell? ⟨w.heap.size,9,U⟩=M (I J r.c)/\wx.cell? ⟨w.heap.size,10,U⟩=M (V KR r.ks.len cr)):=λwx ho=>by
  have h:=aM DY.o ho ah;exact⟨(h.cell 0).trans rfl,(h.cell 1).trans rfl,(h.cell 2).trans rfl,(h.cell 3).trans rfl,(h.cell 4).trans rfl,(h.cell 5).trans rfl,(h.cell 6).trans rfl,(h.cell 7).trans rfl,(h.cell 8).trans rfl,(h.cell 9).trans rfl,(h.cell 10).trans rfl⟩
 go_cut [5] from 10 to 19 (λs5 wc=>∃ (A4:Option I3) (c4:Nat) (dP:List (List av)) (s' c':Int),s5=V A4 2 c4/\ak (dP.length=2/\2<=c4/\c4<=I2/\fK wc (λq=>q<=w.heap.size+2) v A4 dP/\au wc (w.heap.size+2) 168 (jQ v [] U 0++[I J s',I J c'])/\aC (λq=>q=w.heap.size+2) W0 wc/\gJ (mI v [] 3001 0 (two l r) (kX v v.toNat) 0) dP s' c'))
 case first=>
  go_region_held3 (λwx=>wx.cell? ⟨w.heap.size,0,U⟩=M (I J v)/\wx.cell? ⟨w.heap.size,1,U⟩=M (I J l.k)/\wx.cell? ⟨w.heap.size,2,U⟩=M (I J l.n)/\wx.cell? ⟨w.heap.size,3,U⟩=M (I J l.p)/\wx.cell? ⟨w.heap.size,4,U⟩=M (I J l.c)/\wx.cell? ⟨w.heap.size,5,U⟩=M (V KL l.ks.len cl)/\wx.cell? ⟨w.heap.size,6,U⟩=M (I J r.k)/\wx.cell? ⟨w.heap.size,7,U⟩=M (I J r.n)/\wx.cell? ⟨w.heap.size,8,U⟩=M (I J r.p)/\wx.cell? ⟨w.heap.size,9,U⟩=M (I J r.c)/\wx.cell? ⟨w.heap.size,10,U⟩=M (V KR r.ks.len cr)) (first | exact BJ.o _ (aC.of_below (OB.below (OB.start W0 33 [I J l.k,I J l.n,I J l.p,I J l.c,V KL l.ks.len cl,I J r.k,I J r.n,I J r.p,I J r.c,V KR r.ks.len cr]))) | exact BJ.o _ (aC.of_below (OB.below (OB.j_ W0 33 [I J l.k,I J l.n,I J l.p,I J l.c,V KL l.ks.len cl,I J r.k,I J r.n,I J r.p,I J r.c,V KR r.ks.len cr]))) | exact BJ.o _ (aC.of_below (OB.below O3.o)) | exact BJ.o _ (aC.of_below (OB.below O3.o.al)) | exact BJ.o _ uZ.o)
   (first
    | (go_at_call 110;(with_reducible refine (HUK.o _ (OB.start W0 33 [I J l.k,I J l.n,I J l.p,I J l.c,V KL l.ks.len cl,I J r.k,I J r.n,I J r.p,I J r.c,V KR r.ks.len cr]).below).mono ?_);rintro e w3 ⟨A3,c3,rfl,CQ,hb3⟩;have O3:=aj (OB.next (OB.start W0 33 [I J l.k,I J l.n,I J l.p,I J l.c,V KL l.ks.len cl,I J r.k,I J r.n,I J r.p,I J r.c,V KR r.ks.len cr]) hb3);clear hb3)
    | (go_at_call 110;(with_reducible refine (HUK.o _ (OB.j_ W0 33 [I J l.k,I J l.n,I J l.p,I J l.c,V KL l.ks.len cl,I J r.k,I J r.n,I J r.p,I J r.c,V KR r.ks.len cr]).below).mono ?_);rintro e w3 ⟨A3,c3,rfl,CQ,hb3⟩;have O3:=aj (OB.next (OB.j_ W0 33 [I J l.k,I J l.n,I J l.p,I J l.c,V KL l.ks.len cl,I J r.k,I J r.n,I J r.p,I J r.c,V KR r.ks.len cr]) hb3);clear hb3)
    | (go_at_call 109;(with_reducible refine (jE.o _ _ _ _ O3.o CQ.o).mono ?_);rintro e w4 ⟨A4,c4,dP,s',c',rfl,q1,q2,q3,q4,q5,q6,q7⟩;have uZ:=aj (aC.trans (aC.of_below O3.o.below) q6);have QC:=aj (J0 q1 (J0 q2 (J0 q3 (J0 q4 (J0 q5 q7)))));clear q1 q2 q3 q4 q5 q6 q7)
    | (go_at_call 109;(with_reducible refine (jE.o _ _ _ _ O3.o.al ⟨CQ.o.1,CQ.o.2.1,CQ.o.2.2.only (aC.of_below ((Jx _ _).alloc (Jn _) _))⟩).mono ?_);rintro e w4 ⟨A4,c4,dP,s',c',rfl,q1,q2,q3,q4,q5,q6,q7⟩;have uZ:=aj (aC.trans (aC.of_below O3.o.al.below) q6);have QC:=aj (J0 q1 (J0 q2 (J0 q3 (J0 q4 (J0 q5 q7)))));clear q1 q2 q3 q4 q5 q6 q7))
  all_goals
   go_wp2_with fail;go_meet
   case rel=>exact⟨_,_,_,_,_,rfl,QC.o.1,QC.o.2.1,QC.o.2.2.1,QC.o.2.2.2.1,QC.o.2.2.2.2.1,uZ.o,QC.o.2.2.2.2.2⟩
 case rest=>
 obtain⟨A4,c4,dP,s',c',rfl,Bj⟩:=hcut;obtain⟨w4,rfl⟩:=aD wc
 obtain⟨hl4,_,_,hE4,qR,hO4,hres⟩:=Bj.o;have aeH:ak (Ix w.heap.size w w4):=HB0.o.trans (hO4.below (by have:=gQ.o;omega) (λq e=>ah));have Tj:=aj (aM IV.o hO4 ah);have LV:=aj (aM DY.o hO4 ah);have HPK:=aj (Nv hres);have akz:w.heap.size+2<w4.heap.size:=qR.lt;have k3:w4.cell? ⟨w.heap.size+2,3,U⟩=M (I J c'):=ay qR
 have abl:w.heap.size+1<w4.heap.size:=Tj.o.lt;have HE4:=aj hE4;have HL4:=aj hl4;clear hE4 qR hO4 hres hl4 Bj BJ jE HUK iZ oO
 by_cases hcc:c'=0
 ·subst hcc
  have HPV:=aj (HGV.o.trans (HPK.o.1 rfl));obtain⟨b4,o4,Aa,ca,Ab,cb,rfl,hb4,Iq,Iw,vI,hcell⟩:=HE4.o.two (by rw[HL4.o];omega);obtain⟨Ny,sV⟩:=vI (by rw[HL4.o];omega);have fV:ak (∀ w',eU (λq=>q<=w.heap.size+2) w4 w'->w'.cell? ⟨b4,o4,U⟩=M (I J v)/\w'.cell? ⟨b4,o4+1,U⟩=M (V Aa (dP.getD 0 []).length ca)/\w'.cell? ⟨b4,o4+2,U⟩=M (I J v)/\w'.cell? ⟨b4,o4+2+1,U⟩=M (V Ab (dP.getD 1 []).length cb)):=λw' ho=>⟨(hcell w' ho).1,(hcell w' ho).2.1,(hcell w' ho).2.2 (by rw[HL4.o];omega)⟩
  have oN:=aj (J0 Iq Iw);have FV:=aj (J0 Ny sV);clear Iq Iw Ny sV vI hcell HPK;obtain⟨za,hza⟩:=aD (dP.getD 0 [])
  obtain⟨zb,D8⟩:=aD (dP.getD 1 [])
  rw[<-hza] at oN fV HPV;rw[<-D8] at FV fV HPV;clear hza D8 HE4 HL4;go_wp2_with fail;have hd:Ix w4.heap.size w4 w4.drew:=(Jx _ _).drew;have BH:ak (∀ wx,Ix w4.heap.size w4 wx->wx.cell? ⟨w.heap.size,0,U⟩=M (I J v)/\wx.cell? ⟨b4,o4,U⟩=M (I J v)/\wx.cell? ⟨b4,o4+1,U⟩=M (V Aa za.length ca)/\wx.cell? ⟨b4,o4+2,U⟩=M (I J v)/\wx.cell? ⟨b4,o4+2+1,U⟩=M (V Ab zb.length cb)):=λwx hb=>⟨((LV.o.next hb).cell 0).trans rfl,fV.o wx (aC.of_below hb).h⟩
  obtain⟨na,hna⟩:=aD za.length
  obtain⟨nb,hnb⟩:=aD zb.length
  have HMO:=aj (gW v w4.drew v0 Bz);have nP:=aj (J0 hna hnb);clear hna hnb;refine aO.start (S:=λwx=>wx.cell? ⟨w.heap.size,0,U⟩=M (I J v)/\wx.cell? ⟨b4,o4,U⟩=M (I J v)/\wx.cell? ⟨b4,o4+1,U⟩=M (V Aa na ca)/\wx.cell? ⟨b4,o4+2,U⟩=M (I J v)/\wx.cell? ⟨b4,o4+2+1,U⟩=M (V Ab nb cb)) 12 aL aL ?xQ (λaA hB=>?_)
  case xQ=>((try dsimp only);have h1:=BH.o _ hd;rw[<-nP.o.1,<-nP.o.2] at h1;exact h1)
  iterate 8 (refine aO.tk hB aA ?_;try simp only[aP])
  refine aO.bU (i:=8) rfl bM aL (λK hK=>?_);go_simp
  go_at_call 135
  refine HMO.o.mono ?_;rintro e w5 ⟨Am,cm,rfl,jL,hb5⟩;have YS:Ix w4.heap.size w4 w5:=hd.trans (hb5.mono (Jn _));have BK:=aj (tkC (ca:=cb) (cb:=cm) ((FV.o.1.only (aC.of_below YS)).now) ((jL (λq=>q<=w.heap.size+2) (λq e=>Nat.lt_of_le_of_lt e akz)).now) FV.o.2 (yR v0 Bz) ah ah 1 (show 1=(bY v 1000002).length by rw[lJ ah];rfl));rw[<-nP.o.2] at BK
  refine hK.out _ _ (by (try dsimp only);have h1:=BH.o _ YS;rw[<-nP.o.1,<-nP.o.2] at h1;exact h1) ?_;clear hK K aA;intro aA
  (try simp only[aP])
  refine aO.bU (i:=9) rfl bM aL (λK hK=>?_);go_simp
  go_at_call 134
  refine BK.o.mono ?_;rintro e w6 ⟨A5,c5,rfl,hR6,hb6⟩;have Ru:Ix w4.heap.size w4 w6:=YS.trans (hb6.mono YS.size);have abn:=gD (k:=1000002) FV.o.2 ah ah;have l1:=(bC oN.o.2).2.2;have l2:=(bC abn).2.2;have kI:=aj (yK v v Aa A5 ca c5 v.toNat za (dW 1000002 zb) w6 ((oN.o.1.only (aC.of_below Ru)).now) (Hr hR6 (fG abn)) ah ah (bS oN.o.2) (bS abn) ah)
  rw[<-nP.o.1] at kI;clear l1 l2 abn;obtain⟨R,hR⟩:=aD (kD (za++dW 1000002 zb))
  have hgk:=Jy oN.o.2 FV.o.2;rw[<-hR] at kI HPV hgk;have HGK:=aj hgk;clear hgk;clear hR;generalize (dW 1000002 zb).length=n5 at *;refine hK.out _ _ (by (try dsimp only);have h1:=BH.o _ Ru;rw[<-nP.o.1,<-nP.o.2] at h1;exact h1) ?_;clear hK K aA;intro aA
  (try simp only[aP])
  refine aO.bU (i:=10) rfl bM aL (λK hK=>?_);go_simp
  go_at_call 133
  refine kI.o.mono ?_;rintro e w7 ⟨A6,c6,rfl,hR7,wV⟩;have NA:Ix w4.heap.size w4 w7:=Ru.trans (wV.mono Ru.size);have hr7:=Tj.o.next NA;refine hK.out _ _ (by (try dsimp only);have h1:=BH.o _ NA;rw[<-nP.o.1,<-nP.o.2] at h1;exact h1) ?_;clear hK K aA;intro aA
  (try simp only[aP])
  have y0:w7.cell? ⟨w.heap.size+1,0,U⟩=M (I J 0):=ay hr7
  have y1:w7.cell? ⟨w.heap.size+1,1,U⟩=M (V U 0 0):=ay hr7
  have f0:w7.frozen? ⟨w.heap.size+1,0,U⟩=false:=hr7.frozen _;have f1:w7.frozen? ⟨w.heap.size+1,1,U⟩=false:=hr7.frozen _;have hD1:=hr7.aJ 0 (I J v);have hD2:=hD1.aJ 1 (V A6 R.length c6);have z0:=hD1.cell 0;have z1:=hD2.cell 1;simp only[eY] at z0 z1;clear hD1 hD2;have hk7:((w7.setCell ⟨w.heap.size+1,0,U⟩ (I J v)).setCell ⟨w.heap.size+1,1,U⟩ (V A6 R.length c6)).cell? ⟨w.heap.size,0,U⟩=M (I J v)/\((w7.setCell ⟨w.heap.size+1,0,U⟩ (I J v)).setCell ⟨w.heap.size+1,1,U⟩ (V A6 R.length c6)).cell? ⟨b4,o4,U⟩=M (I J v)/\((w7.setCell ⟨w.heap.size+1,0,U⟩ (I J v)).setCell ⟨w.heap.size+1,1,U⟩ (V A6 R.length c6)).cell? ⟨b4,o4+1,U⟩=M (V Aa na ca)/\((w7.setCell ⟨w.heap.size+1,0,U⟩ (I J v)).setCell ⟨w.heap.size+1,1,U⟩ (V A6 R.length c6)).cell? ⟨b4,o4+2,U⟩=M (I J v)/\((w7.setCell ⟨w.heap.size+1,0,U⟩ (I J v)).setCell ⟨w.heap.size+1,1,U⟩ (V A6 R.length c6)).cell? ⟨b4,o4+2+1,U⟩=M (V Ab nb cb):=by
   have hOx:eU (λq=>q<=w.heap.size+2) w4 ((w7.setCell ⟨w.heap.size+1,0,U⟩ (I J v)).setCell ⟨w.heap.size+1,1,U⟩ (V A6 R.length c6)):=⟨Mp NA.size (by simp[World.setCell]),λq hq hn=>((J1 _ _ _ _ (λe=>hn (by have e':q=w.heap.size+1:=e;omega))).trans (J1 _ _ _ _ (λe=>hn (by have e':q=w.heap.size+1:=e;omega)))).trans (NA.block q hq)⟩
   have h1:=fV.o _ hOx;rw[<-nP.o.1,<-nP.o.2] at h1;have e1:¬ (w.heap.size=w.heap.size+1):=ah;refine⟨?_,h1⟩;rw[World.cell?_setCell_other _ _ _ _ (λe=>e1 (congrArg Addr.block e).symm),World.cell?_setCell_other _ _ _ _ (λe=>e1 (congrArg Addr.block e).symm)];exact ((LV.o.next NA).cell 0).trans rfl
  refine aO.bU (i:=11) rfl bM aL (λK hK=>?_);go_simp;refine hK.out _ _ (by (try dsimp only);exact hk7) ?_;clear hK K aA;intro aA
  (try simp only[aP])
  refine aO.gL rfl aL aL (λK hK=>?_);go_simp;refine hK.out _ _ ?_;clear hK K;have HRT:=aj hR7;have pW:=aj (aeH.o.trans (NA.mono aeH.o.size));have hlo:w.heap.size+1<w6.heap.size:=by have:=Ru.size;omega
  clear hR7 YS Ru NA hb5 hb6 wV hr7 hk7 hR6 jL kI BK HMO;go_wp2;refine bodyPost_ret (v:=.tuple #[fJ v A6 R.length c6,I J 0]) (by simp[results,results63,go_sem,z0,z1]) rfl ?_;rw[HPV.o];exact⟨aiF pW.o HRT.o hlo _ _,λ_=>⟨rfl,HGK.o⟩⟩
 ·have HPV:=aj (HGV.o.trans (HPK.o.2 hcc))
  have hcb:(c' != 0)=true:=by simpa using hcc
  clear hcc;go_wp2_with fail;have RJ:au w4.drew (w.heap.size+1) 86 [I J 0,V U 0 0]:=Tj.o.drewN 1;have HS9:ak (w4.drew.cell? ⟨w.heap.size+2,3,U⟩=M (I J c')):=k3;have y0:w4.drew.cell? ⟨w.heap.size+1,0,U⟩=M (I J 0):=ay RJ
  have y1:w4.drew.cell? ⟨w.heap.size+1,1,U⟩=M (V U 0 0):=ay RJ
  have f0:w4.drew.frozen? ⟨w.heap.size+1,0,U⟩=false:=RJ.frozen _;have f1:w4.drew.frozen? ⟨w.heap.size+1,1,U⟩=false:=RJ.frozen _;have hD1:=RJ.aJ 0 (I J 0);have hD2:=hD1.aJ 1 (V U 0 0);have z0:=hD1.cell 0;have z1:=hD2.cell 1;simp only[eY] at z0 z1;clear hD1 hD2;have qH:((w4.drew.setCell ⟨w.heap.size+1,0,U⟩ (I J 0)).setCell ⟨w.heap.size+1,1,U⟩ (V U 0 0)).cell? ⟨w.heap.size+2,3,U⟩=M (I J c'):=by
   have e1:¬ (w.heap.size+2=w.heap.size+1):=ah;rw[World.cell?_setCell_other _ _ _ _ (λe=>e1 (congrArg Addr.block e).symm),World.cell?_setCell_other _ _ _ _ (λe=>e1 (congrArg Addr.block e).symm)];exact k3
  have pW:ak (Ix w.heap.size w w4.drew):=aeH.o.drew;refine aO.start (S:=λwx=>wx.cell? ⟨w.heap.size+2,3,U⟩=M (I J c')) 6 aL aL ?Sd0 (λaA hB=>?_)
  case Sd0=>((try dsimp only);exact HS9.o)
  have afw:w.heap.size+1<w4.drew.heap.size:=abl;clear HS9;generalize w4.drew=W5 at *
  iterate 5 (refine aO.tk hB aA ?_;try simp only[aP])
  refine aO.bU (i:=5) rfl bM aL (λK hK=>?_);go_simp;refine hK.out _ _ (by (try dsimp only);exact qH) ?_;clear hK K aA;intro aA
  (try simp only[aP])
  refine aO.gL rfl aL aL (λK hK=>?_);go_simp;refine hK.out _ _ ?_;clear hK K;clear RJ qH;go_wp2;refine bodyPost_ret (v:=.tuple #[fJ 0 U 0 0,I J c']) (by simp[results,results63,go_sem,z0,z1]) rfl ?_;rw[HPV.o];exact⟨aiF (R:=[]) pW.o (RT.empty _ _ (Jn _) _) afw _ _,λh=>by simp at hcb;exact absurd h hcb⟩
end
end Go.Proofs.YtgfkglhelfkpoaaGreat
