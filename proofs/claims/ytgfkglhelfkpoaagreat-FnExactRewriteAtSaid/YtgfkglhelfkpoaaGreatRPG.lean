/- Parts of the proof. -/
import Derived.Test.YtgfkglhelfkpoaaGreatRPF
set_option maxRecDepth 100000
set_option maxHeartbeats 4000000
open Go.Proofs.Tryz
open Go.Value renaming int→I,slice→V
open Go.IntKind renaming i64→J
open Option renaming some→M,none→U
open Go.Ending renaming returned→If
open Go.Obj renaming cells→Is
open Go renaming World→Iv,Calls→I0,Value→I1,maxLen→I2,Addr→I3
open Go.RowKit renaming Below→Ix
open Nat renaming le_refl→Jn,add_zero→Mm,zero_mul→Mn,le_trans→Mp,zero_add→Mu
open Go.RowKit.Below renaming refl→Jx
open And renaming intro→J0
open Bool renaming and_eq_true→Mb
open List renaming length_map→My,getD→Up
open Int renaming toNat_natCast→Mz
namespace Go.Proofs.YtgfkglhelfkpoaaGreat
section
open Go.RowKit Plain
def Cr(g:List (List av)->Nat->jD (List av)):jD (List (List av))->jD (List av)
 | .err e=>.err e
 | .ok zs s=>g zs s
variable{w:Iv}{S:Nat->Prop}{u:Int}{P:List Fn}
theorem aep{w':Iv}{B g:Nat}{fn:Int}{x:Nd}{b o:Nat}{A:Option I3}{env:List (List av)}{aW:Nat}{K:Option I3}{cap:Nat}(h:iP w B S u P fn x b o A env aW)(ho:aC S w w')(hb:Ix B w w')(hg:w.heap.size<=g)(hks:bJ w B x.ks K)(h1:x.ks.len<=cap)(h2:cap<=I2)(hk:x.k≠9):mW w' B (aS S g) u P fn x.ks K cap A env aW:=
 ⟨hks.below hb,h1,h2,h.qj.fresh ho hg,h.el,h.em,h.big,h.size,λj y hy=>by have:=kr h.form hy;rwa [eD hk] at this,h.f0,h.f1⟩
def agU(P:List Fn)(u:Int)(f:Nat):Prop:=∀ (es:Es) (env:List (List av)) (s:Int) (t:Nat) (c0 fn:Int) (K:Option I3) (cap bf Ld B:Nat) (S:Nat->Prop) (bv:Nat) (A:Option I3) (aW bp op:Nat) (w:Iv),qd w B bv 1 P bp op->ni w B S bv u->au w bv 161 (iy u bp op++[I J s,I J c0])->(c0=0->s=(t:Int)/\t<=3000/\3001<=t+f) ->
 mW w B S u P fn es K cap A env aW->w.cell? ⟨bf,Ld+2,U⟩=M (V K es.len cap)->bf<B ->
 I0 Tryz.prog 107 #[.pointer (M ⟨bv,0,U⟩),ptr bf Ld,V A env.length aW] w (wK S bv u es.len 161 (iy u bp op) (mI u P f c0 es env t) w)
theorem ZA(P:List Fn)(u:Int)(f:Nat)(IH:rG P u f):agU P u f:=by
 intro es env s t c0 fn K cap bf Ld B S bv A aW bp op w hI hS hst hf hN hsrc hbf;obtain⟨i0,hi,hz0,hz1,hz2⟩:=info_parts Tryz.infoPo;have qK:=aj IH;clear IH;obtain⟨R,hR⟩:=aD (mI u P f c0 es env t)
 rw[<-hR];have DX:ak (lI u P f R es env [] s c0):=by rw[hR];exact lI.start hf
 clear hR hf;have al:=hI.lt;have al2:bv<w.heap.size:=al;have hB:=hI.blow;have hsw:bf<w.heap.size:=ah;obtain⟨bk,ok,hK,hks⟩:=hN.kids;have gI:=aj hks;have hls:=Es.aF es;have hsz:=hN.size;have hkl:=hN.kl;have hkm:cap<=9223372036854775807:=by have:=hN.km;unfold I2 at this;omega
 have HI:=aj hI;have oO:=aj hS;have HN:=aj hN;have HST:=aj hst;have VH:=aj hsrc;clear hI hN hst hks hS hsrc;go_enter func107,ntmps107;go_wp2
 go_loopw [7,8] (λo_ i wr=>∃ (j:Nat) (es':Es) (dP:List (List av)) (g:Nat) (s' c':Int),i=I J (j:Int)/\ak (o_.ownBlock=M g/\w.heap.size<=g/\g<wr.heap.size)/\j+es'.len=es.len/\ak (dP.length=j)/\ak (es'.size<=es.size)/\ak (∀ i,es'.get? i=es.get? (j+i))/\ak (aI wr B es' bk (ok+j*5)) /\
  ak (jc wr w.heap.size S u o_ dP)/\ak (au wr bv 161 (iy u bp op++[I J s',I J c']))/\ak (aC (λq=>q=bv) w wr)/\ak (lI u P f R es' env dP s' c')) (λ_ i _=>es.len - (intOf i).toNat)
 case atStart=>
  have hg:Ix w.heap.size w (w.alloc (Is #[] 86)):=aV;refine⟨0,es,[],w.heap.size,s,c0,bE,⟨rfl,Jn _,by simp⟩,ah,rfl,Jn _,λi=>by rw[Mu], ?_,jc.start w S u,HST.o.next hg,aC.of_below hg,DX.o⟩;show aI _ _ _ _ _;rw[Mn,Mm];exact gI.o.below (hg.mono ah)
 case round=>
  obtain⟨j,es',dP,g,s',c',rfl,hG,hj,htl,hsz2,hget,HE,HR,HS,HO,HM⟩:=hrel;have OH:wr.cell? ⟨bf,Ld+2,U⟩=M (V K es.len cap):=(HO.o.cell (a:=⟨bf,Ld+2,U⟩) hsw (show ¬ bf=bv by omega)).trans VH.o;have ahI:bf<wr.heap.size:=by have:=HO.o.size;omega
  cases es' with
  | nil=>
   simp only[Es.len] at hj;obtain rfl:j=es.len:=ah;obtain⟨Av,cp,rfl,q1,q2,q3⟩:=HR.o.env (λq hq=>oO.o.lt q hq);rw[htl.o] at q1;have kP:=htl.o;have HP:ak (wK S bv u es.len 161 (iy u bp op) R w (If (V Av es.len cp)) wr):=⟨Av,cp,dP,s',c',rfl,kP,q1,q2,q3,HS.o,HO.o,HM.o.end_⟩
   rw[kP];clear q1 q2 q3 kP;go_wp2;go_ret;exact HP.o
  | cons kk m' p' c1 aY r=>
   simp only[Es.len] at hj;have hK:=hK ah;subst hK;obtain⟨hel,hr⟩:=HE.o;have yS:=aj hr;have iT:es.get? j=M ⟨kk,m',p',c1,aY⟩:=by have:=hget.o 0;rw[Mm] at this;rw[<-this];rfl
   have yA:ak (∀ i,r.get? i=es.get? (j+1+i)):=λi=>by have:=hget.o (i+1);rw[show j+1+i=j+(i+1) by omega,<-this];rfl
   have hrs:ak (r.size<=es.size):=by have:=hsz2.o;simp only[Es.size] at this;show _<=_;omega
   have mY:aC S w wr:=HO.o.sub λq e=>by rw[e];exact oO.o.bv
   have uY:ak (iP wr B (aS S g) u P fn ⟨kk,m',p',c1,aY⟩ bk (ok+j*5) A env aW):=⟨hel,HN.o.qj.fresh mY hG.o.2.1,HN.o.el,HN.o.em,by have:=HN.o.big;have:=Es.iG iT;show env.length+aY.depth<=1000000;simp only at this;omega,by have:=HN.o.size;have:=Es.dY iT;show aY.size<=400;simp only at this;omega,HN.o.form j _ iT,HN.o.f0,HN.o.f1⟩
   have nQ:=aj (oO.o.fresh HO.o.size hG.o.2.1 hG.o.2.2 ah);have hjl:(j:Int)<(es.len:Int):=ah;clear hr iT hel HE hget hsz2 mY;go_wp2_with fail;refine (qK.o ⟨kk,m',p',c1,aY⟩ env s' s'.toNat c' fn bk (ok+j*5) B (aS S g) bv A aW bp op wr (HI.o.only HO.o) nQ.o HS.o HM.o.now uY.o).mono ?_;rintro e w1 ⟨v,ts,s2,K_,rfl,⟨Az,cz,rfl,hpz,hkz⟩,hS1,fC,hres⟩;have qL:=aj (HR.o.only oO.o.bv al2 fC)
   have Bh:=aj (HM.o.step hres);have dZ:=aj (HO.o.trans fC);have gY:ak (aI w1 B r bk (ok+(j+1)*5)):=by
    have:=yS.o.below (bI fC hB (by have:=HO.o.size;omega))
    rwa [show ok+j*5+5=ok+(j+1)*5 by omega] at this
   have eu:=aj hS1;have xI:=aj (J0 hpz hkz);have abq:=fC.size;obtain⟨ps,yj,hps,nC,AO⟩:=qL.o;have hpl:ps.length=j:=by have:=congrArg List.length hps;rw[My,htl.o] at this;exact this
   have mq:=aj yj;have BI:=aj AO;have mZ:=aj nC;have r_:=aj hps;have hw1:w.heap.size<=w1.heap.size:=dZ.o.size;clear hpz hkz hS1 fC hres yj hps nC AO HR HM HO HS yS uY OH;obtain⟨mM,hW1'⟩:=aD (w1.alloc (Is (jA u (ts,Az,cz)).toArray 86))
   have hb2:Ix w1.heap.size w1 mM:=by rw[hW1'];go_grown
   have hC2:au mM w1.heap.size 86 (jA u (ts,Az,cz)):=by rw[hW1'];exact au.new _ _ _
   have nJ:=aj (mq.o.below hb2).own;have HB2:=aj hb2;have fH:=aj hC2;have sD:=aj hW1';clear hb2 hC2 hW1';go_wp2_with (at_builtin;change wpList _ _ _ _ _ (w1.alloc (Is (jA u (ts,Az,cz)).toArray 86));rw[<-sD.o];refine wpList_append_own_at _ rfl _ _ 162 rfl w.heap.size 86 i0 (.agg #[I J 0,V U 0 0]) 2 32 underlying162 hi hz0 hz1 hz2 rfl bM _ _ _ rfl nJ.o ⟨w1.heap.size,0,U⟩ 1 1 (jA u (ts,Az,cz)) rfl rfl ?c1 ?c2 ?c3 ?c4 ?c5 ?_)
   case c1=>intro q z hz;rw[addr_add,Mu];exact (fH.o.cell q).trans hz
   case c2=>intro z hz;simp only[jA,List.mem_cons,List.not_mem_nil,or_false] at hz;rcases hz with rfl | rfl<;>rfl
   case c3=>simp only[My];unfold I2;omega
   case c4=>simp only[My];omega
   case c5=>have:=HB2.o.size;omega
   intro v2 w2 iA hg2 _ hat;have hown:w2.ownsRow w.heap.size 86 2 v2 ((ps.map (mH S u)).length+1) ((ps.map (mH S u)).flatMap (·.1)++jA u (ts,Az,cz)):=by
    rw[My,hpl];exact iA
   have hgl:=(mq.o.lt hG.o.1)
   obtain⟨hp2,hbl⟩:=jc.push (p:=(ts,Az,cz)) mq.o (by rw[r_.o];exact mZ.o) BI.o hG.o.1 (Jx _ _) xI.o.1 xI.o.2 HB2.o hown hg2 hat;rw[r_.o] at hp2;have hg3:∃ g3,v2.ownBlock=M g3/\w.heap.size<=g3/\g3<w2.heap.size:=by
    have hs2:=hg2.size;have hs1:=HB2.o.size
    rcases hat with e | e
    ·exact⟨g,e.trans hG.o.1,hgl.1,ah⟩
    ·exact⟨mM.heap.size,e,ah,(World.ownsRow.lt hown _ e).2⟩
   obtain⟨g3,hg3⟩:=hg3;have Ec:=aj hg3;have mU:=aj hp2;have HS2:ak (au w2 bv 161 (iy u bp op++[I J s2,I J K_])):=(hbl.block bv al2).trans eu.o;have rO:ak (aC (λq=>q=bv) w w2):=⟨hbl.os.trans dZ.o.os,hbl.tape.trans dZ.o.tape,hbl.output.trans dZ.o.output,Mp dZ.o.size hbl.size,λq hq hn=>(hbl.block q hq).trans (dZ.o.block q hq hn)⟩
   have dz:ak (aI w2 B r bk (ok+(j+1)*5)):=gY.o.below (hbl.mono ah);have kP:ak ((dP++[ts]).length=j+1):=by show _=_;rw[List.length_append,htl.o];rfl
   clear hown iA hg2 hat hp2 hbl hg3 mq BI mZ r_ nJ fH HB2 xI hgl sD;go_wp2
   go_roundw
   case rel=>exact⟨j+1,r,dP++[ts],g3,s2,K_,bE,Ec,ah,kP,hrs,yA,dz,mU,HS2,rO,Bh⟩
   case measure=>simp[intOf];omega
theorem aaT(P:List Fn)(u:Int)(f:Nat)(IH:rG P u f)(m pi:Nat)(xc:Int)(es:Es)(fg:Fn)(y:Nd)(env:List (List av))(t:Nat)(fn:Int)(b o B:Nat)(S:Nat->Prop)(bv:Nat)(A:Option I3)(aW bp op:Nat)(w:Iv)(hI:qd w B bv 1 P bp op)(hS:ni w B S bv u)(hst:au w bv 161 (iy u bp op++[I J t,I J 0]))(ht:t<=3000)(htf:3001<=t+f)(hN0:iP w B S u P fn ⟨10,m,pi,xc,es⟩ b o A env aW)(hC:wH P m pi xc es 10 fg y) :
  I0 Tryz.prog 201 #[.pointer (M ⟨bv,0,U⟩),ptr b o,V A env.length aW] w (dM S bv u 161 (iy u bp op) (Cr (λzs s1=>pv u P f y zs s1) (cB (pv u P f) env es t)) w):=by
 obtain⟨i0,hi,hz0,hz1,hz2⟩:=info_parts Tryz.infoPo;have qK:=aj IH;obtain⟨rr,dG⟩:∃ rr:jD (List av),rr=Cr (λzs s1=>pv u P f y zs s1) (cB (pv u P f) env es t):=⟨_,rfl⟩
 rw[<-dG];have HRR:=aj dG;obtain⟨s,hs⟩:∃ s:Int,s=t:=⟨_,rfl⟩
 rw[<-hs] at hst;obtain⟨c0,hc0⟩:∃ c0:Int,c0=0:=⟨_,rfl⟩
 rw[<-hc0] at hst;obtain⟨R,hR⟩:=aD (mI u P f c0 es env t)
 have DX:ak (lI u P f R es env [] s c0):=by rw[hR];exact lI.start λ_=>⟨hs,ht,htf⟩
 have IV:ak (R=cB (pv u P f) env es t):=by show _=_;rw[hR];unfold mI;rw[if_pos hc0]
 clear hR hs hc0 dG IH;have al:=hI.lt;have hB:=hI.blow;have u0:=hS.u0;have u1:=hS.u1;obtain⟨W0,aZ⟩:=aD (w.alloc (Is #[I J 0,V U 0 0] 86))
 have hg0:Ix w.heap.size w W0:=by rw[aZ];go_grown
 have hs0:W0.heap.size=w.heap.size+1:=by rw[aZ];simp
 have HQ:ak (au W0 w.heap.size 86 [I J 0,V U 0 0]):=by show au _ _ _ _;rw[aZ];exact au.new w _ _
 have HST:=aj (hst.next hg0);have oO:=aj (hS.fresh (wa:=W0) (g:=w.heap.size) ah (Jn _) ah ah);have HI:=aj (hI.only (aC.of_below hg0));have Qx:=aj hg0;have al2:bv<W0.heap.size:=ah;obtain⟨lD,u0',u1',u2,u3,K,cap,bk,ok,u4,hkl,Y2,hK,hks⟩:=hN0.node;have gI:=aj (hks.below (hg0.mono ah));have hsw:b<W0.heap.size:=ah;have hls:=Es.aF es;have hsz:=hN0.size;have hkm:cap<=9223372036854775807:=by unfold I2 at Y2;omega
 have HN:ak (mW W0 B (aS S w.heap.size) u P fn es K cap A env aW):=aep hN0 (aC.of_below hg0) (hg0.mono ah) (Jn _) ⟨bk,ok,hK,hks⟩ hkl Y2 (by show (10:Int)≠9;omega);have VH:=aj (aB u4 hg0);have HU:=aj (J0 (aB u0' hg0) (J0 (aB u1' hg0) (J0 (aB u2 hg0) (aB u3 hg0))));have HC:=aj hC;have dI:=aj aZ;have HZ0:=aj hs0;clear hI hst hks hS hN0 hC u0' u1' u2 u3 u4 hg0 aZ
 go_enter func201,ntmps201;go_upto_region 1 with fail;rw[<-dI.o];have hB0:B<=W0.heap.size:=ah;clear hs0;go_wp2
 go_loopw [7,8] (λo_ i wr=>∃ (j:Nat) (es':Es) (dP:List (List av)) (g:Nat) (s' c':Int),i=I J (j:Int)/\ak (o_.ownBlock=M g/\W0.heap.size<=g/\g<wr.heap.size)/\j+es'.len=es.len/\ak (dP.length=j)/\ak (es'.size<=es.size)/\ak (∀ i,es'.get? i=es.get? (j+i))/\ak (aI wr B es' bk (ok+j*5)) /\
  ak (jc wr W0.heap.size (aS S w.heap.size) u o_ dP)/\ak (au wr bv 161 (iy u bp op++[I J s',I J c']))/\ak (aC (λq=>q=bv) W0 wr)/\ak (lI u P f R es' env dP s' c')) (λ_ i _=>es.len - (intOf i).toNat)
 case atStart=>
  have hg:Ix W0.heap.size W0 (W0.alloc (Is #[] 86)):=aV;refine⟨0,es,[],W0.heap.size,s,c0,bE,⟨rfl,Jn _,by simp⟩,ah,rfl,Jn _,λi=>by rw[Mu], ?_,jc.start W0 (aS S w.heap.size) u,HST.o.next hg,aC.of_below hg,DX.o⟩;show aI _ _ _ _ _;rw[Mn,Mm];exact gI.o.below (hg.mono ah)
 case round=>
  obtain⟨j,es',dP,g,s',c',rfl,hG,hj,htl,hsz2,hget,HE,HR,HS,HO,HM⟩:=hrel;have OH:wr.cell? ⟨b,o+4,U⟩=M (V K es.len cap):=(HO.o.cell (a:=⟨b,o+4,U⟩) hsw (show ¬ b=bv by omega)).trans VH.o;have ahI:b<wr.heap.size:=by have:=HO.o.size;omega
  cases es' with
  | nil=>
   simp only[Es.len] at hj;obtain rfl:j=es.len:=ah;have ak3:=HC.o.p12;obtain⟨Av,cp,rfl,e1,e2,e3⟩:=HR.o.env (λq hq=>oO.o.lt q hq);rw[htl.o] at e1;have kP:=htl.o;rw[kP];have fD:=aj HM.o.end_;have Vu:ak (c'=0->∃ t1:Nat,s'=t1/\t1<=3000/\3001<=t1+f):=λh=>by
    obtain⟨t1,h1,h2,h3,_⟩:=HM.o.1 h;exact⟨t1,h1,h2,h3⟩
   have HNZ:ak (∀ e,R=.err e->e≠0):=λe h=>by
    have hg:=oh (BZ (u:=u) (P:=P) f) es env t;rw[<-IV.o,h] at hg;exact hg
   have hIr:=HI.o.only HO.o;obtain⟨bP,oP,aX,KF,cF,hbp,v0,hbP,v2,TB,hmF,hKo,ah9⟩:=ahm hIr.prog HC.o.fn;have c0':wr.cell? ⟨bv,0,U⟩=M (ptr bp op):=ay HS.o
   have clr:=HS.o.lt;have Bv:b≠bv:=ah;have y0:wr.cell? ⟨b,o,U⟩=M (I J 10):=(HO.o.cell (a:=⟨b,_,U⟩) hsw Bv).trans HU.o.1;have y1:wr.cell? ⟨b,o+1,U⟩=M (I J m):=(HO.o.cell (a:=⟨b,_,U⟩) hsw Bv).trans HU.o.2.1;have y2:wr.cell? ⟨b,o+2,U⟩=M (I J pi):=(HO.o.cell (a:=⟨b,_,U⟩) hsw Bv).trans HU.o.2.2.1;have y3:wr.cell? ⟨b,o+3,U⟩=M (I J xc):=(HO.o.cell (a:=⟨b,_,U⟩) hsw Bv).trans HU.o.2.2.2
   have D7:m<P.length:=(List.getElem?_eq_some_iff.1 HC.o.fn).1;have CZ:(m:Int)<(P.length:Int):=ah;have hpl:pi<fg.outs.len:=Es.yg HC.o.o;have afy:(pi:Int)<(fg.outs.len:Int):=ah;have fI:=aj e3;have HKO:=aj hKo;have QA:=aj hIr;have ng:=aj v2;have HEE:=aj (J0 e1 e2);have he1:es.len<=cp:=e1;have RD:cp<=9223372036854775807:=by unfold I2 at e2;omega
   have Io:=aj kP;clear hIr hKo v2 e1 e2 e3 HM HR HE hget hsz2 hj kP;go_wp2_with fail;go_quiet (fail)
   rename Nat=>nq
   have hd:aC (λq=>q=bv) wr (wr.drewN nq):=(aC.refl _ wr).drewN nq;have HD:=aj hd;have HS2:ak (au (wr.drewN nq) bv 161 (iy u bp op++[I J s',I J c'])):=HS.o.drewN nq;have w0:(wr.drewN nq).cell? ⟨b,o,U⟩=M (I J 10):=y0;have w2':(wr.drewN nq).cell? ⟨b,o+2,U⟩=M (I J pi):=y2;have w3:(wr.drewN nq).cell? ⟨b,o+3,U⟩=M (I J xc):=y3;have w4:(wr.drewN nq).cell? ⟨bP,oP+m*3+2,U⟩=M (V KF fg.outs.len cF):=ng.o
   have wl:wr.heap.size<=(wr.drewN nq).heap.size:=hd.size;have nJ:=aj (HO.o.trans hd);clear y0 y1 y2 y3 c0' v0 hd OH;generalize wr.drewN nq=W at *;obtain⟨by_,oy,hKF,hEy⟩:=(HKO.o.below (bI HD.o hB clr)).get HC.o.o;subst hKF;have hYF:=HC.o.each pi y HC.o.o;have hIW:=QA.o.only HD.o;have hbW:b<W.heap.size:=ah;have NH:bP<W.heap.size:=ah;have jh:ak (I0 Tryz.prog 123 #[.pointer (M ⟨bv,0,U⟩),ptr by_ (oy+pi*5),V Av es.len cp] W.drew λe w5=>∃ A4 n4 rR,e=If (.agg #[I J u,V A4 n4 rR])/\eO S bv u 161 (iy u bp op) rr w.heap.size w w5 A4 n4 rR/\aC (λq=>q=bv) W w5):=by
    have hd2:aC (λq=>q=bv) W W.drew:=(aC.refl _ W).drewN 1;have hz:=qK.o y dP s' s'.toNat c' m by_ (oy+pi*5) B (aS S w.heap.size) bv Av cp bp op W.drew (hIW.only hd2) ((oO.o.mono nJ.o.size).mono hd2.size) (HS2.o.drewN 1) (λh=>by
     obtain⟨t1,h1,h2,h3⟩:∃ t1:Nat,s'=t1/\t1<=3000/\3001<=t1+f:=Vu.o h;subst h1;simp only[Mz];exact⟨trivial,h2,h3⟩) ⟨hEy.below (bI hd2 hB ah),(fI.o.only (HD.o.sub λq e=>by rw[e];exact oO.o.bv)).only ((aC.refl _ W).drewN 1),by rw[Io.o];exact HEE.o.1,HEE.o.2,by rw[Io.o];have:=HC.o.p12;omega,ah,by rw[Io.o];exact hYF.1,ah,ah⟩
    rw[Io.o] at hz;refine Calls.mono hz λe w5 h=>?_
    have hq:om u P f c' y dP s'.toNat=rr:=by
     rw[HRR.o,<-IV.o]
     by_cases hc1:c'=0
     ·obtain⟨t1,h1,_,_⟩:=Vu.o hc1
      have hr:=fD.o;unfold om;rw[if_pos hc1];subst h1;simp only[Mz]
      revert hr
      cases R with
      | err e=>intro hr;exact absurd (hc1.symm.trans hr).symm (HNZ.o e rfl)
      | ok z0 t0=>rintro⟨rfl,h3,_⟩;have:t0=t1:=ah
                  subst this;rfl
     ·have hr:=fD.o
      unfold om;rw[if_neg hc1]
      revert hr
      cases R with
      | err e=>intro hr;exact congrArg _ hr
      | ok z0 t0=>rintro⟨_,_,h3⟩;exact absurd h3 hc1
    obtain⟨v,wE,s3,c3',rfl,⟨A4,rR,rfl,hp3,qH⟩,mP,hO3,dK⟩:=h;rw[hq] at dK;have Tw:=hd2.trans hO3;exact⟨A4,wE.length,rR,rfl,fq hp3 qH mP (((aC.of_below Qx.o).trans nJ.o).trans Tw) dK (Jn _) al (aM (aM HQ.o nJ.o ah) Tw ah),Tw⟩
   have ags:ak (∀ w',aC (λq=>q=bv) W w'->w'.cell? ⟨bP,oP+m*3+2,U⟩=M (V (M ⟨by_,oy,U⟩) fg.outs.len cF)/\w'.cell? ⟨b,o+2,U⟩=M (I J pi)):=λw' ho=>⟨(ho.cell (a:=⟨bP,_,U⟩) NH (show ¬ bP=bv by omega)).trans w4,(ho.cell (a:=⟨b,_,U⟩) hbW Bv).trans w2'⟩
   have HWD:ak (aC (λq=>q=bv) W W.drew):=(aC.refl _ W).drewN 1;clear hEy hYF hIW;go_wp2_with fail;refine aO.start (S:=λwx=>wx.cell? ⟨bP,oP+m*3+2,U⟩=M (V (M ⟨by_,oy,U⟩) fg.outs.len cF)/\wx.cell? ⟨b,o+2,U⟩=M (I J pi)) 12 aL aL ?Sk0 (λaA hB=>?_)
   case Sk0=>((try dsimp only);exact ags.o _ HWD.o)
   iterate 11 (refine aO.tk hB aA ?_;try simp only[aP])
   refine aO.bU (i:=11) rfl bM aL (λK hK=>?_);go_simp
   go_at_call 123
   refine jh.o.mono ?_;rintro e w5 ⟨A4,n4,rR,rfl,hE,Tw⟩;refine hK.out _ _ (by (try dsimp only);exact ags.o _ Tw) ?_;clear hK K aA;intro aA
   (try simp only[aP])
   obtain⟨⟨c0,c1,q0',Le⟩,⟨y0,y1⟩,dz⟩:=hE;refine aO.gL rfl aL aL (λK hK=>?_);go_simp;refine hK.out _ _ ?_;clear hK K;have HE4:=aj dz;clear dz Tw;go_wp2;refine bodyPost_ret (v:=fJ u A4 n4 rR) (by simp[results,results201,go_sem,y0,y1]) rfl ?_;exact HE4.o
  | cons kk m' p' c1 aY r=>
   simp only[Es.len] at hj;have hK:=hK ah;subst hK;obtain⟨hel,hr⟩:=HE.o;have yS:=aj hr;have iT:es.get? j=M ⟨kk,m',p',c1,aY⟩:=by have:=hget.o 0;rw[Mm] at this;rw[<-this];rfl
   have yA:ak (∀ i,r.get? i=es.get? (j+1+i)):=λi=>by have:=hget.o (i+1);rw[show j+1+i=j+(i+1) by omega,<-this];rfl
   have hrs:ak (r.size<=es.size):=by have:=hsz2.o;simp only[Es.size] at this;show _<=_;omega
   have mY:aC (aS S w.heap.size) W0 wr:=HO.o.sub λq e=>by rw[e];exact oO.o.bv
   have uY:ak (iP wr B (aS (aS S w.heap.size) g) u P fn ⟨kk,m',p',c1,aY⟩ bk (ok+j*5) A env aW):=⟨hel,HN.o.qj.fresh mY hG.o.2.1,HN.o.el,HN.o.em,by have:=HN.o.big;have:=Es.iG iT;show env.length+aY.depth<=1000000;simp only at this;omega,by have:=HN.o.size;have:=Es.dY iT;show aY.size<=400;simp only at this;omega,HN.o.form j _ iT,HN.o.f0,HN.o.f1⟩
   have nQ:=aj (oO.o.fresh HO.o.size hG.o.2.1 hG.o.2.2 ah);have hjl:(j:Int)<(es.len:Int):=ah;clear hr iT hel HE hget hsz2 mY;go_wp2_with fail;refine (qK.o ⟨kk,m',p',c1,aY⟩ env s' s'.toNat c' fn bk (ok+j*5) B (aS (aS S w.heap.size) g) bv A aW bp op wr (HI.o.only HO.o) nQ.o HS.o HM.o.now uY.o).mono ?_;rintro e w1 ⟨v,ts,s2,K_,rfl,⟨Az,cz,rfl,hpz,hkz⟩,hS1,fC,hres⟩
   have qL:=aj (HR.o.only oO.o.bv al2 fC);have Bh:=aj (HM.o.step hres);have dZ:=aj (HO.o.trans fC);have gY:ak (aI w1 B r bk (ok+(j+1)*5)):=by
    have:=yS.o.below (bI fC hB (by have:=HO.o.size;omega))
    rwa [show ok+j*5+5=ok+(j+1)*5 by omega] at this
   have eu:=aj hS1;have xI:=aj (J0 hpz hkz);have abq:=fC.size;obtain⟨ps,yj,hps,nC,AO⟩:=qL.o;have hpl:ps.length=j:=by have:=congrArg List.length hps;rw[My,htl.o] at this;exact this
   have mq:=aj yj;have BI:=aj AO;have mZ:=aj nC;have r_:=aj hps;have hw1:W0.heap.size<=w1.heap.size:=dZ.o.size;clear hpz hkz hS1 fC hres yj hps nC AO HR HM HO HS yS uY OH;obtain⟨mM,hW1'⟩:=aD (w1.alloc (Is (jA u (ts,Az,cz)).toArray 86))
   have hb2:Ix w1.heap.size w1 mM:=by rw[hW1'];go_grown
   have hC2:au mM w1.heap.size 86 (jA u (ts,Az,cz)):=by rw[hW1'];exact au.new _ _ _
   have nJ:=aj (mq.o.below hb2).own;have HB2:=aj hb2;have fH:=aj hC2;have sD:=aj hW1';clear hb2 hC2 hW1';go_wp2_with (at_builtin;change wpList _ _ _ _ _ (w1.alloc (Is (jA u (ts,Az,cz)).toArray 86));rw[<-sD.o];refine wpList_append_own_at _ rfl _ _ 162 rfl W0.heap.size 86 i0 (.agg #[I J 0,V U 0 0]) 2 32 underlying162 hi hz0 hz1 hz2 rfl bM _ _ _ rfl nJ.o ⟨w1.heap.size,0,U⟩ 1 1 (jA u (ts,Az,cz)) rfl rfl ?c1 ?c2 ?c3 ?c4 ?c5 ?_)
   case c1=>intro q z hz;rw[addr_add,Mu];exact (fH.o.cell q).trans hz
   case c2=>intro z hz;simp only[jA,List.mem_cons,List.not_mem_nil,or_false] at hz;rcases hz with rfl | rfl<;>rfl
   case c3=>simp only[My];unfold I2;omega
   case c4=>simp only[My];omega
   case c5=>have:=HB2.o.size;omega
   intro v2 w2 iA hg2 _ hat;have hown:w2.ownsRow W0.heap.size 86 2 v2 ((ps.map (mH (aS S w.heap.size) u)).length+1) ((ps.map (mH (aS S w.heap.size) u)).flatMap (·.1)++jA u (ts,Az,cz)):=by
    rw[My,hpl];exact iA
   have hgl:=(mq.o.lt hG.o.1)
   obtain⟨hp2,hbl⟩:=jc.push (p:=(ts,Az,cz)) mq.o (by rw[r_.o];exact mZ.o) BI.o hG.o.1 (Jx _ _) xI.o.1 xI.o.2 HB2.o hown hg2 hat;rw[r_.o] at hp2;have hg3:∃ g3,v2.ownBlock=M g3/\W0.heap.size<=g3/\g3<w2.heap.size:=by
    have hs2:=hg2.size;have hs1:=HB2.o.size
    rcases hat with e | e
    ·exact⟨g,e.trans hG.o.1,hgl.1,ah⟩
    ·exact⟨mM.heap.size,e,ah,(World.ownsRow.lt hown _ e).2⟩
   obtain⟨g3,hg3⟩:=hg3;have Ec:=aj hg3;have mU:=aj hp2;have HS2:ak (au w2 bv 161 (iy u bp op++[I J s2,I J K_])):=(hbl.block bv al2).trans eu.o;have rO:ak (aC (λq=>q=bv) W0 w2):=⟨hbl.os.trans dZ.o.os,hbl.tape.trans dZ.o.tape,hbl.output.trans dZ.o.output,Mp dZ.o.size hbl.size,λq hq hn=>(hbl.block q hq).trans (dZ.o.block q hq hn)⟩
   have dz:ak (aI w2 B r bk (ok+(j+1)*5)):=gY.o.below (hbl.mono ah);have kP:ak ((dP++[ts]).length=j+1):=by show _=_;rw[List.length_append,htl.o];rfl
   clear hown iA hg2 hat hp2 hbl hg3 mq BI mZ r_ nJ fH HB2 xI hgl sD;go_wp2
   go_roundw
   case rel=>exact⟨j+1,r,dP++[ts],g3,s2,K_,bE,Ec,ah,kP,hrs,yA,dz,mU,HS2,rO,Bh⟩
   case measure=>simp[intOf];omega
variable{f q:Nat}{outs:Es}{R:jD (List (List av))}{zs:List (List av)}{s' c':Int}
theorem mV.step2{TK:List (List av)}{s c:Int}(h:mV u P f outs R (q+1) zs s c)(hr:gJ (mI u P f c outs zs s.toNat) TK s' c'):mV u P f outs R q TK s' c':=by
 by_cases hc:c=0
 ·subst hc
  exact h.step hr
 ·unfold mI at hr
  rw[if_neg hc] at hr;have:c'=c:=hr;subst this;exact⟨λh0=>absurd h0 hc,λ_=>h.2 hc⟩
theorem Zl{wr:Iv}{bv cp pi g0:Nat}{t:TypeId}{hd:List I1}{A':Option I3}{ts:List av}{rr:jD (List av)}(hO:aC (λq=>q=bv) w wr)(hS:au wr bv t (hd++[I J s',I J c']))(hp:iK wr (aS S g0) A' ts)(dh:aQ u ts=true)(hts:zs.getD pi []=ts)
  (hL:mV u P f outs R q zs s' c') (hq:c'=0->q=0) (dG:rr=A9 pi R) (al:bv<w.heap.size) (hg0:w.heap.size<=g0) (hb:au wr g0 86 [I J 0,V U 0 0]):eO S bv u t hd rr g0 w wr A' ts.length cp:=by
 refine fq hp dh hS hO ?_ hg0 al hb
 by_cases hc:c'=0
 ·obtain⟨t1,rfl,_,_,h3⟩:=hL.1 hc
  rw[hq hc] at h3;simp only[iJ] at h3;rw[dG,h3];exact⟨hts.symm,rfl,hc⟩
 ·rw[dG,hL.2 hc];rfl
theorem aaU(P:List Fn)(u:Int)(f:Nat)(IH:rG P u f)(m pi:Nat)(C:Nat)(es:Es)(fg:Fn)(y:Nd)(env:List (List av))(t:Nat)(fn:Int)(b o B:Nat)(S:Nat->Prop)(bv:Nat)(A:Option I3)(aW bp op:Nat)(w:Iv)(hI:qd w B bv 1 P bp op)(hS:ni w B S bv u)(hst:au w bv 161 (iy u bp op++[I J t,I J 0]))(ht:t<=3000)(htf:3001<=t+f)(hN0:iP w B S u P fn ⟨11,m,pi,(C:Int),es⟩ b o A env aW)(hC:wH P m pi (C:Int) es 11 fg y) :
  I0 Tryz.prog 201 #[.pointer (M ⟨bv,0,U⟩),ptr b o,V A env.length aW] w (dM S bv u 161 (iy u bp op) (Cr (λzs s1=>A9 pi (iJ (pv u P f) fg.outs C zs s1)) (cB (pv u P f) env es t)) w):=by
 obtain⟨i0,hi,hz0,hz1,hz2⟩:=info_parts Tryz.infoPo;have qK:=aj IH;obtain⟨rr,dG⟩:∃ rr:jD (List av),rr=Cr (λzs s1=>A9 pi (iJ (pv u P f) fg.outs C zs s1)) (cB (pv u P f) env es t):=⟨_,rfl⟩
 rw[<-dG];have HRR:=aj dG;obtain⟨s,hs⟩:∃ s:Int,s=t:=⟨_,rfl⟩
 rw[<-hs] at hst;obtain⟨c0,hc0⟩:∃ c0:Int,c0=0:=⟨_,rfl⟩
 rw[<-hc0] at hst;obtain⟨R,hR⟩:=aD (mI u P f c0 es env t)
 have DX:ak (lI u P f R es env [] s c0):=by rw[hR];exact lI.start λ_=>⟨hs,ht,htf⟩
 have IV:ak (R=cB (pv u P f) env es t):=by show _=_;rw[hR];unfold mI;rw[if_pos hc0]
 clear hR hs hc0 dG IH;have al:=hI.lt;have hB:=hI.blow;have u0:=hS.u0;have u1:=hS.u1;obtain⟨W0,aZ⟩:=aD (w.alloc (Is #[I J 0,V U 0 0] 86))
 have hg0:Ix w.heap.size w W0:=by rw[aZ];go_grown
 have hs0:W0.heap.size=w.heap.size+1:=by rw[aZ];simp
 have HQ:ak (au W0 w.heap.size 86 [I J 0,V U 0 0]):=by show au _ _ _ _;rw[aZ];exact au.new w _ _
 have HST:=aj (hst.next hg0);have oO:=aj (hS.fresh (wa:=W0) (g:=w.heap.size) ah (Jn _) ah ah);have HI:=aj (hI.only (aC.of_below hg0));have Qx:=aj hg0;have al2:bv<W0.heap.size:=ah;obtain⟨lD,u0',u1',u2,u3,K,cap,bk,ok,u4,hkl,Y2,hK,hks⟩:=hN0.node;have gI:=aj (hks.below (hg0.mono ah));have hsw:b<W0.heap.size:=ah;have hls:=Es.aF es;have hsz:=hN0.size;have hkm:cap<=9223372036854775807:=by unfold I2 at Y2;omega
 have HN:ak (mW W0 B (aS S w.heap.size) u P fn es K cap A env aW):=aep hN0 (aC.of_below hg0) (hg0.mono ah) (Jn _) ⟨bk,ok,hK,hks⟩ hkl Y2 (by show (11:Int)≠9;omega);have VH:=aj (aB u4 hg0);have HU:=aj (J0 (aB u0' hg0) (J0 (aB u1' hg0) (J0 (aB u2 hg0) (aB u3 hg0))));have HC:=aj hC;have dI:=aj aZ;have HZ0:=aj hs0;clear hI hst hks hS hN0 hC u0' u1' u2 u3 u4 hg0 aZ
 go_enter func201,ntmps201;go_upto_region 1 with fail;rw[<-dI.o];have hB0:B<=W0.heap.size:=ah;clear hs0;go_wp2
 go_loopw [7,8] (λo_ i wr=>∃ (j:Nat) (es':Es) (dP:List (List av)) (g:Nat) (s' c':Int),i=I J (j:Int)/\ak (o_.ownBlock=M g/\W0.heap.size<=g/\g<wr.heap.size)/\j+es'.len=es.len/\ak (dP.length=j)/\ak (es'.size<=es.size)/\ak (∀ i,es'.get? i=es.get? (j+i))/\ak (aI wr B es' bk (ok+j*5)) /\
  ak (jc wr W0.heap.size (aS S w.heap.size) u o_ dP)/\ak (au wr bv 161 (iy u bp op++[I J s',I J c']))/\ak (aC (λq=>q=bv) W0 wr)/\ak (lI u P f R es' env dP s' c')) (λ_ i _=>es.len - (intOf i).toNat)
 case atStart=>
  have hg:Ix W0.heap.size W0 (W0.alloc (Is #[] 86)):=aV;refine⟨0,es,[],W0.heap.size,s,c0,bE,⟨rfl,Jn _,by simp⟩,ah,rfl,Jn _,λi=>by rw[Mu], ?_,jc.start W0 (aS S w.heap.size) u,HST.o.next hg,aC.of_below hg,DX.o⟩;show aI _ _ _ _ _;rw[Mn,Mm];exact gI.o.below (hg.mono ah)
 case round=>
  obtain⟨j,es',dP,g,s',c',rfl,hG,hj,htl,hsz2,hget,HE,HR,HS,HO,HM⟩:=hrel;have OH:wr.cell? ⟨b,o+4,U⟩=M (V K es.len cap):=(HO.o.cell (a:=⟨b,o+4,U⟩) hsw (show ¬ b=bv by omega)).trans VH.o;have ahI:b<wr.heap.size:=by have:=HO.o.size;omega
  cases es' with
  | nil=>
   simp only[Es.len] at hj;obtain rfl:j=es.len:=ah;have ak3:=HC.o.p12;obtain⟨Av,cp,rfl,e1,e2,e3⟩:=HR.o.env (λq hq=>oO.o.lt q hq);rw[htl.o] at e1;have kP:=htl.o;rw[kP];have fD:=aj HM.o.end_;have Vu:ak (c'=0->∃ t1:Nat,s'=t1/\t1<=3000/\3001<=t1+f):=λh=>by
    obtain⟨t1,h1,h2,h3,_⟩:=HM.o.1 h;exact⟨t1,h1,h2,h3⟩
   have HNZ:ak (∀ e,R=.err e->e≠0):=λe h=>by
    have hg:=oh (BZ (u:=u) (P:=P) f) es env t;rw[<-IV.o,h] at hg;exact hg
   have hIr:=HI.o.only HO.o;obtain⟨bP,oP,aX,KF,cF,hbp,v0,hbP,v2,TB,hmF,hKo,ah9⟩:=ahm hIr.prog HC.o.fn;have c0':wr.cell? ⟨bv,0,U⟩=M (ptr bp op):=ay HS.o
   have clr:=HS.o.lt;have Bv:b≠bv:=ah;have y0:wr.cell? ⟨b,o,U⟩=M (I J 11):=(HO.o.cell (a:=⟨b,_,U⟩) hsw Bv).trans HU.o.1;have y1:wr.cell? ⟨b,o+1,U⟩=M (I J m):=(HO.o.cell (a:=⟨b,_,U⟩) hsw Bv).trans HU.o.2.1;have y2:wr.cell? ⟨b,o+2,U⟩=M (I J pi):=(HO.o.cell (a:=⟨b,_,U⟩) hsw Bv).trans HU.o.2.2.1;have y3:wr.cell? ⟨b,o+3,U⟩=M (I J (C:Int)):=(HO.o.cell (a:=⟨b,_,U⟩) hsw Bv).trans HU.o.2.2.2
   have D7:m<P.length:=(List.getElem?_eq_some_iff.1 HC.o.fn).1;have CZ:(m:Int)<(P.length:Int):=ah;have hpl:pi<fg.outs.len:=Es.yg HC.o.o;have afy:(pi:Int)<(fg.outs.len:Int):=ah;have fI:=aj e3;have HKO:=aj hKo;have QA:=aj hIr;have ng:=aj v2;have HEE:=aj (J0 e1 e2);have he1:es.len<=cp:=e1;have RD:cp<=9223372036854775807:=by unfold I2 at e2;omega
   have Io:=aj kP;clear hIr hKo v2 e1 e2 e3 HM HR HE hget hsz2 hj kP;go_wp2_with fail;go_quiet (fail)
   rename Nat=>nq
   have hd:aC (λq=>q=bv) wr (wr.drewN nq):=(aC.refl _ wr).drewN nq;have HD:=aj hd;have HS2:ak (au (wr.drewN nq) bv 161 (iy u bp op++[I J s',I J c'])):=HS.o.drewN nq;have w0:(wr.drewN nq).cell? ⟨b,o,U⟩=M (I J 11):=y0;have w2':(wr.drewN nq).cell? ⟨b,o+2,U⟩=M (I J pi):=y2;have w3:(wr.drewN nq).cell? ⟨b,o+3,U⟩=M (I J (C:Int)):=y3;have w4:(wr.drewN nq).cell? ⟨bP,oP+m*3+2,U⟩=M (V KF fg.outs.len cF):=ng.o
   have wl:wr.heap.size<=(wr.drewN nq).heap.size:=hd.size;have nJ:=aj (HO.o.trans hd);clear y0 y1 y2 y3 c0' v0 hd OH;generalize wr.drewN nq=W at *;have hpi:pi<es.len:=by have:=(HC.o.loop rfl).2.2;omega
   have amH:(pi:Int)<(es.len:Int):=ah;have hC8:C<=8:=by have:=(HC.o.loop rfl).2.1;omega
   have P6:fg.outs.len=es.len:=(HC.o.loop rfl).2.2;have IQ:=aj P6;obtain⟨R2,hR2⟩:∃ R2:jD (List (List av)),R2=(match R with | .err e=>.err e | .ok zs s1=>iJ (pv u P f) fg.outs C zs s1):=⟨_,rfl⟩
   have HRW:ak (rr=A9 pi R2):=by
    show _=_;rw[HRR.o,<-IV.o,hR2];cases R<;>rfl
   have FU:ak (mV u P f fg.outs R2 (C - 0) dP s' c'):=by
    constructor
    ·intro hc1
     obtain⟨t1,h1,h2,h3⟩:=Vu.o hc1;refine⟨t1,h1,h2,h3, ?_⟩;have hr:=fD.o
     revert hr hR2
     cases R with
     | err e=>intro _ hr;exact absurd (hc1.symm.trans hr).symm (HNZ.o e rfl)
     | ok z0 t0=>rintro hR2 ⟨rfl,h4,_⟩;have:t0=t1:=ah
                 subst this;exact hR2
    ·intro hc1
     have hr:=fD.o
     revert hr hR2
     cases R with
     | err e=>intro hR2 hr;rw[hR2];exact (congrArg _ hr).symm
     | ok z0 t0=>rintro _ ⟨_,_,h4⟩;exact absurd h4 hc1
   have agB:=aj (ZA P u f qK.o);have HEW:=aj (fI.o.only (HD.o.sub λq e=>by rw[e];exact oO.o.bv));have HIW:=aj (QA.o.only HD.o);have HKW:=aj (HKO.o.below (bI HD.o hB clr));have HW2:=aj w2';have HW3:=aj w3;have HW4:=aj w4;have hbW:b<W.heap.size:=ah;have NH:bP<W.heap.size:=ah;have Im:=aj (aM HQ.o nJ.o ah);have ajV:=aj (oO.o.mono nJ.o.size)
   have yx:bv<W.heap.size:=HS2.o.lt;have hgW:w.heap.size<W.heap.size:=Im.o.lt;clear hR2 P6 fI HKO QA;go_wp2
   go_loopw [7,10] (λkd i wz=>∃ (q:Nat) (A1:Option I3) (cp:Nat) (zs:List (List av)) (s' c':Int),i=I J (q:Int)/\kd=V A1 es.len cp/\q<=C/\es.len<=cp/\cp<=I2/\ak (zs.length=es.len)/\ak (fK wz (aS S w.heap.size) u A1 zs)/\ak (au wz bv 161 (iy u bp op++[I J s',I J c']))/\ak (aC (λq=>q=bv) W wz) /\
    ak (mV u P f fg.outs R2 (C - q) zs s' c')) (λ_ i _=>C - (intOf i).toNat)
   case atStart=>exact⟨0,Av,cp,dP,s',c',bE,rfl,Nat.zero_le _,he1,HEE.o.2,Io,HEW,HS2,aC.refl _ _,FU⟩
   case round=>
    clear HS HS2 HEW FU htl fD Vu w0 w2' w3 w4 RD he1 HEE Io;obtain⟨q,A1,cp,zs,s',c',rfl,rfl,hq,zN,hcm,HL,HE,eu,mK,FU⟩:=hrel;have RD:cp<=9223372036854775807:=by unfold I2 at hcm;omega
    have w2':wr.cell? ⟨b,o+2,U⟩=M (I J pi):=(mK.o.cell (a:=⟨b,_,U⟩) hbW Bv).trans HW2.o;have w3:wr.cell? ⟨b,o+3,U⟩=M (I J C):=(mK.o.cell (a:=⟨b,_,U⟩) hbW Bv).trans HW3.o;have amm:bv<wr.heap.size:=eu.o.lt;have amf:b<wr.heap.size:=by have:=mK.o.size;omega
    by_cases hlt:q<C
    ·have akZ:(q:Int)<(C:Int):=ah
     have g4:wr.cell? ⟨bP,oP+m*3+2,U⟩=M (V KF fg.outs.len cF):=(mK.o.cell (a:=⟨bP,_,U⟩) NH (show ¬ bP=bv by omega)).trans HW4.o;have hls:mW wr B (aS S w.heap.size) u P m fg.outs KF cF A1 zs cp:=⟨HKW.o.below (bI mK.o hB yx),TB,hmF,HE.o,by rw[HL.o];exact zN,hcm,by rw[HL.o];have:=HC.o.p12;have:=HC.o.dep;omega,HC.o.size,λj z hz=>by rw[HL.o];exact (HC.o.each j z hz).1,ah,ah⟩
     have hcall:=agB.o fg.outs zs s' s'.toNat c' m KF cF bP (oP+m*3) B (aS S w.heap.size) bv A1 cp bp op wr (HIW.o.only mK.o) (ajV.o.mono mK.o.size) eu.o FU.o.now hls g4 hbP;rw[HL.o,IQ.o] at hcall;have jh:=aj hcall;have Vs:ak (mV u P f fg.outs R2 (C - (q+1)+1) zs s' c'):=by have:=FU.o;rwa [show C - q=C - (q+1)+1 by omega] at this
     clear hcall hls FU HE g4;go_wp2_with fail;refine jh.o.mono ?_;rintro e w2 ⟨A3,jr,zs3,s3,c3',rfl,hl3,YW,RB,CQ,mP,hO4,dK⟩;have HO5:ak (aC (λq=>q=bv) W w2):=mK.o.trans hO4;have HL5:=aj hl3;have HE5:=aj CQ;have Pj:=aj mP;have aeK:=aj (Vs.o.step2 dK);clear hl3 CQ mP hO4 dK eu mK jh HL Vs w2' w3;go_wp2
     go_roundw
     case rel=>exact⟨q+1,A3,jr,zs3,s3,c3',bE,rfl,ah,YW,RB,HL5,HE5,Pj,HO5,aeK⟩
     case measure=>simp[intOf];omega
    ·obtain rfl:q=C:=ah
     obtain⟨ts,hts⟩:∃ ts,zs[pi]? = M ts:=⟨zs[pi]'(by rw[HL.o];exact hpi),List.getElem?_eq_getElem _⟩
     have htd:zs.getD pi []=ts:=by simp[Up,hts]
     obtain⟨b1,o1,Az,cz,rfl,hb1,d0,d1,hPz,hoz⟩:=HE.o.get hts;have hD:=Zl (cp:=cz) (((aC.of_below Qx.o).trans nJ.o).trans mK.o) eu.o hPz hoz htd FU.o (λ_=>ah) HRW.o al (Jn _) (aM Im.o mK.o ah);obtain⟨⟨k0,k1,q0,q1⟩,⟨y0,y1⟩,dz⟩:=hD;have fI:=aj dz;clear dz hts htd hPz hoz;go_wp2;refine bodyPost_ret (v:=fJ u Az ts.length cz) (by simp[results,results201,go_sem,y0,y1]) rfl ?_
     exact fI.o
  | cons kk m' p' c1 aY r=>
   simp only[Es.len] at hj;have hK:=hK ah;subst hK;obtain⟨hel,hr⟩:=HE.o;have yS:=aj hr;have iT:es.get? j=M ⟨kk,m',p',c1,aY⟩:=by have:=hget.o 0;rw[Mm] at this;rw[<-this];rfl
   have yA:ak (∀ i,r.get? i=es.get? (j+1+i)):=λi=>by have:=hget.o (i+1);rw[show j+1+i=j+(i+1) by omega,<-this];rfl
   have hrs:ak (r.size<=es.size):=by have:=hsz2.o;simp only[Es.size] at this;show _<=_;omega
   have mY:aC (aS S w.heap.size) W0 wr:=HO.o.sub λq e=>by rw[e];exact oO.o.bv
   have uY:ak (iP wr B (aS (aS S w.heap.size) g) u P fn ⟨kk,m',p',c1,aY⟩ bk (ok+j*5) A env aW):=⟨hel,HN.o.qj.fresh mY hG.o.2.1,HN.o.el,HN.o.em,by have:=HN.o.big;have:=Es.iG iT;show env.length+aY.depth<=1000000;simp only at this;omega,by have:=HN.o.size;have:=Es.dY iT;show aY.size<=400;simp only at this;omega,HN.o.form j _ iT,HN.o.f0,HN.o.f1⟩
   have nQ:=aj (oO.o.fresh HO.o.size hG.o.2.1 hG.o.2.2 ah);have hjl:(j:Int)<(es.len:Int):=ah;clear hr iT hel HE hget hsz2 mY;go_wp2_with fail;refine (qK.o ⟨kk,m',p',c1,aY⟩ env s' s'.toNat c' fn bk (ok+j*5) B (aS (aS S w.heap.size) g) bv A aW bp op wr (HI.o.only HO.o) nQ.o HS.o HM.o.now uY.o).mono ?_;rintro e w1 ⟨v,ts,s2,K_,rfl,⟨Az,cz,rfl,hpz,hkz⟩,hS1,fC,hres⟩
   have qL:=aj (HR.o.only oO.o.bv al2 fC);have Bh:=aj (HM.o.step hres);have dZ:=aj (HO.o.trans fC);have gY:ak (aI w1 B r bk (ok+(j+1)*5)):=by
    have:=yS.o.below (bI fC hB (by have:=HO.o.size;omega))
    rwa [show ok+j*5+5=ok+(j+1)*5 by omega] at this
   have eu:=aj hS1;have xI:=aj (J0 hpz hkz);have abq:=fC.size;obtain⟨ps,yj,hps,nC,AO⟩:=qL.o;have hpl:ps.length=j:=by have:=congrArg List.length hps;rw[My,htl.o] at this;exact this
   have mq:=aj yj;have BI:=aj AO;have mZ:=aj nC;have r_:=aj hps;have hw1:W0.heap.size<=w1.heap.size:=dZ.o.size;clear hpz hkz hS1 fC hres yj hps nC AO HR HM HO HS yS uY OH;obtain⟨mM,hW1'⟩:=aD (w1.alloc (Is (jA u (ts,Az,cz)).toArray 86))
   have hb2:Ix w1.heap.size w1 mM:=by rw[hW1'];go_grown
   have hC2:au mM w1.heap.size 86 (jA u (ts,Az,cz)):=by rw[hW1'];exact au.new _ _ _
   have nJ:=aj (mq.o.below hb2).own;have HB2:=aj hb2;have fH:=aj hC2;have sD:=aj hW1';clear hb2 hC2 hW1';go_wp2_with (at_builtin;change wpList _ _ _ _ _ (w1.alloc (Is (jA u (ts,Az,cz)).toArray 86));rw[<-sD.o];refine wpList_append_own_at _ rfl _ _ 162 rfl W0.heap.size 86 i0 (.agg #[I J 0,V U 0 0]) 2 32 underlying162 hi hz0 hz1 hz2 rfl bM _ _ _ rfl nJ.o ⟨w1.heap.size,0,U⟩ 1 1 (jA u (ts,Az,cz)) rfl rfl ?c1 ?c2 ?c3 ?c4 ?c5 ?_)
   case c1=>intro q z hz;rw[addr_add,Mu];exact (fH.o.cell q).trans hz
   case c2=>intro z hz;simp only[jA,List.mem_cons,List.not_mem_nil,or_false] at hz;rcases hz with rfl | rfl<;>rfl
   case c3=>simp only[My];unfold I2;omega
   case c4=>simp only[My];omega
   case c5=>have:=HB2.o.size;omega
   intro v2 w2 iA hg2 _ hat;have hown:w2.ownsRow W0.heap.size 86 2 v2 ((ps.map (mH (aS S w.heap.size) u)).length+1) ((ps.map (mH (aS S w.heap.size) u)).flatMap (·.1)++jA u (ts,Az,cz)):=by
    rw[My,hpl];exact iA
   have hgl:=(mq.o.lt hG.o.1)
   obtain⟨hp2,hbl⟩:=jc.push (p:=(ts,Az,cz)) mq.o (by rw[r_.o];exact mZ.o) BI.o hG.o.1 (Jx _ _) xI.o.1 xI.o.2 HB2.o hown hg2 hat;rw[r_.o] at hp2;have hg3:∃ g3,v2.ownBlock=M g3/\W0.heap.size<=g3/\g3<w2.heap.size:=by
    have hs2:=hg2.size;have hs1:=HB2.o.size
    rcases hat with e | e
    ·exact⟨g,e.trans hG.o.1,hgl.1,ah⟩
    ·exact⟨mM.heap.size,e,ah,(World.ownsRow.lt hown _ e).2⟩
   obtain⟨g3,hg3⟩:=hg3;have Ec:=aj hg3;have mU:=aj hp2;have HS2:ak (au w2 bv 161 (iy u bp op++[I J s2,I J K_])):=(hbl.block bv al2).trans eu.o;have rO:ak (aC (λq=>q=bv) W0 w2):=⟨hbl.os.trans dZ.o.os,hbl.tape.trans dZ.o.tape,hbl.output.trans dZ.o.output,Mp dZ.o.size hbl.size,λq hq hn=>(hbl.block q hq).trans (dZ.o.block q hq hn)⟩
   have dz:ak (aI w2 B r bk (ok+(j+1)*5)):=gY.o.below (hbl.mono ah);have kP:ak ((dP++[ts]).length=j+1):=by show _=_;rw[List.length_append,htl.o];rfl
   clear hown iA hg2 hat hp2 hbl hg3 mq BI mZ r_ nJ fH HB2 xI hgl sD;go_wp2
   go_roundw
   case rel=>exact⟨j+1,r,dP++[ts],g3,s2,K_,bE,Ec,ah,kP,hrs,yA,dz,mU,HS2,rO,Bh⟩
   case measure=>simp[intOf];omega
theorem Gm(P:List Fn)(m pi:Nat)(xc:Int)(ks:Es)(u:Int)(f:Nat)(IH:rG P u f)(env:List (List av))(t:Nat)(fn:Int)(b o B:Nat)(S:Nat->Prop)(bv:Nat)(A:Option I3)(aW bp op:Nat)(w:Iv)(hI:qd w B bv 1 P bp op)(hS:ni w B S bv u)(hst:au w bv 161 (iy u bp op++[I J t,I J 0]))(hN:iP w B S u P fn ⟨10,m,pi,xc,ks⟩ b o A env aW)(hs:t<3000)(hf:3001<=t+(f+1))(fg:Fn)(y:Nd)(hC:wH P m pi xc ks 10 fg y) :
  I0 Tryz.prog 123 #[.pointer (M ⟨bv,0,U⟩),ptr b o,V A env.length aW] w (dM S bv u 161 (iy u bp op) (pv u P (f+1) ⟨10,m,pi,xc,ks⟩ env t) w):=by
 have iZ:ak (pv u P (f+1) ⟨10,m,pi,xc,ks⟩ env t=Cr (λzs s1=>pv u P f y zs s1) (cB (pv u P f) env ks (t+1))):=by
  show _=_;rw[pv,if_neg ah,if_neg (by show ¬ (10:Int)=1;omega),if_neg (by show ¬ (10:Int)=2;omega),if_neg (by show ¬ (10:Int)=8;omega),if_neg (by show ¬ (10:Int)=9;omega)];cases cB (pv u P f) env ks (t+1) with
  | err e=>rfl
  | ok zs s1=>simp only;rw[if_pos trivial,show P[(m:Int).toNat]? = M fg from hC.fn];simp only[Mz,hC.o];rfl
 obtain⟨rr,dG⟩:=aD (pv u P (f+1) ⟨10,m,pi,xc,ks⟩ env t)
 rw[<-dG];have HRR:=aj (dG.trans iZ.o);clear iZ dG;have al:=hI.lt;have hB:=hI.blow;have u0:=hS.u0;have u1:=hS.u1;have hQ:=uQ hI hS hst;obtain⟨W0,aZ⟩:=aD (w.alloc (Is #[I J 0,V U 0 0] 86))
 obtain⟨W1,kK⟩:∃ W1,W1=W0.setCell ⟨bv,2,U⟩ (I J ((t:Int)+1)):=⟨_,rfl⟩
 rw[<-aZ,<-kK] at hQ;have hg0:Ix w.heap.size w W0:=by rw[aZ];go_grown
 have hS0:=hst.next hg0;have Nz:bv<W0.heap.size:=hS0.lt;have a2:W0.cell? ⟨bv,2,U⟩=M (I J t):=ay hS0
 have a3:W0.cell? ⟨bv,3,U⟩=M (I J 0):=ay hS0
 have z2:W0.frozen? ⟨bv,2,U⟩=false:=hS0.frozen _;have e1:((t:Int)==3000)=false:=by simp;omega
 obtain⟨K,cap,bk,ok,lD,k0,k1,k2,k3,k4,hcap,hlc,hK,iI⟩:=hN.parts;have hbw:b<w.heap.size:=ah;have hbn:b≠bv:=ah;have j0:W1.cell? ⟨b,o,U⟩=M (I J 10):=(hQ.only.cell (a:=⟨b,_,U⟩) hbw hbn).trans k0;have j1:W1.cell? ⟨b,o+1,U⟩=M (I J m):=(hQ.only.cell (a:=⟨b,_,U⟩) hbw hbn).trans k1;have j4:W1.cell? ⟨b,o+4,U⟩=M (V K ks.len cap):=(hQ.only.cell (a:=⟨b,_,U⟩) hbw hbn).trans k4
 have hbW:b<W1.heap.size:=by have:=hQ.only.size;omega
 have dI:=aj aZ;have HW1:=aj kK;have HQ:=aj hQ;have y5:=aj iI;have vQ:=aj (aaT P u f IH m pi xc ks fg y env (t+1) fn b o B (aS S w.heap.size) bv A aW bp op W1 hQ.ev hQ.si hQ.st ah ah (hN.self (hQ.only.sub λq e=>by rw[e];exact hS.bv) (bI hQ.only hB al) (Jn _)) hC);rw[<-HRR.o] at vQ;clear hN IH hC;clear hI hst aZ kK hQ hg0 hS0 iI k0 k1 k2 k3 k4;go_enter func123,ntmps123
 go_upto_region 1 with fail;rw[<-dI.o];go_upto_region 6 with fail;rw[<-HW1.o];go_wp2_with fail;refine vQ.o.mono ?_;rintro e w3 ⟨v,wE,s3,c3,rfl,⟨A3,jr,rfl,hp3,qH⟩,mP,hO3,dK⟩;have hE:eO S bv u 161 (iy u bp op) rr w.heap.size w w3 A3 wE.length jr:=fq hp3 qH mP (HQ.o.only.trans hO3) dK (Jn _) al (aM HQ.o.rb hO3 ah);clear hp3 qH mP hO3 dK vQ;obtain⟨⟨c0,c1,q0,q1⟩,⟨y0,y1⟩,dz⟩:=hE
 have fI:=aj dz;clear dz;go_wp2;refine bodyPost_ret (v:=fJ u A3 wE.length jr) (by simp[results,results123,go_sem,y0,y1]) rfl ?_;exact fI.o
theorem Gn(P:List Fn)(m pi:Nat)(C:Nat)(ks:Es)(u:Int)(f:Nat)(IH:rG P u f)(env:List (List av))(t:Nat)(fn:Int)(b o B:Nat)(S:Nat->Prop)(bv:Nat)(A:Option I3)(aW bp op:Nat)(w:Iv)(hI:qd w B bv 1 P bp op)(hS:ni w B S bv u)(hst:au w bv 161 (iy u bp op++[I J t,I J 0]))(hN:iP w B S u P fn ⟨11,m,pi,C,ks⟩ b o A env aW)(hs:t<3000)(hf:3001<=t+(f+1))(fg:Fn)(y:Nd)(hC:wH P m pi C ks 11 fg y) :
  I0 Tryz.prog 123 #[.pointer (M ⟨bv,0,U⟩),ptr b o,V A env.length aW] w (dM S bv u 161 (iy u bp op) (pv u P (f+1) ⟨11,m,pi,C,ks⟩ env t) w):=by
 have iZ:ak (pv u P (f+1) ⟨11,m,pi,C,ks⟩ env t=Cr (λzs s1=>A9 pi (iJ (pv u P f) fg.outs C zs s1)) (cB (pv u P f) env ks (t+1))):=by
  show _=_;rw[pv,if_neg ah,if_neg (by show ¬ (11:Int)=1;omega),if_neg (by show ¬ (11:Int)=2;omega),if_neg (by show ¬ (11:Int)=8;omega),if_neg (by show ¬ (11:Int)=9;omega)];cases cB (pv u P f) env ks (t+1) with
  | err e=>rfl
  | ok zs s1=>simp only;rw[if_neg ah,if_pos trivial,show P[(m:Int).toNat]? = M fg from hC.fn];simp only[Mz,Cr];cases iJ (pv u P f) fg.outs C zs s1<;>rfl
 obtain⟨rr,dG⟩:=aD (pv u P (f+1) ⟨11,m,pi,C,ks⟩ env t)
 rw[<-dG];have HRR:=aj (dG.trans iZ.o);clear iZ dG;have al:=hI.lt;have hB:=hI.blow;have u0:=hS.u0;have u1:=hS.u1;have hQ:=uQ hI hS hst;obtain⟨W0,aZ⟩:=aD (w.alloc (Is #[I J 0,V U 0 0] 86))
 obtain⟨W1,kK⟩:∃ W1,W1=W0.setCell ⟨bv,2,U⟩ (I J ((t:Int)+1)):=⟨_,rfl⟩
 rw[<-aZ,<-kK] at hQ;have hg0:Ix w.heap.size w W0:=by rw[aZ];go_grown
 have hS0:=hst.next hg0;have Nz:bv<W0.heap.size:=hS0.lt;have a2:W0.cell? ⟨bv,2,U⟩=M (I J t):=ay hS0
 have a3:W0.cell? ⟨bv,3,U⟩=M (I J 0):=ay hS0
 have z2:W0.frozen? ⟨bv,2,U⟩=false:=hS0.frozen _;have e1:((t:Int)==3000)=false:=by simp;omega
 obtain⟨K,cap,bk,ok,lD,k0,k1,k2,k3,k4,hcap,hlc,hK,iI⟩:=hN.parts;have hbw:b<w.heap.size:=ah;have hbn:b≠bv:=ah;have j0:W1.cell? ⟨b,o,U⟩=M (I J 11):=(hQ.only.cell (a:=⟨b,_,U⟩) hbw hbn).trans k0;have j1:W1.cell? ⟨b,o+1,U⟩=M (I J m):=(hQ.only.cell (a:=⟨b,_,U⟩) hbw hbn).trans k1;have j4:W1.cell? ⟨b,o+4,U⟩=M (V K ks.len cap):=(hQ.only.cell (a:=⟨b,_,U⟩) hbw hbn).trans k4
 have hbW:b<W1.heap.size:=by have:=hQ.only.size;omega
 have dI:=aj aZ;have HW1:=aj kK;have HQ:=aj hQ;have y5:=aj iI;have vQ:=aj (aaU P u f IH m pi C ks fg y env (t+1) fn b o B (aS S w.heap.size) bv A aW bp op W1 hQ.ev hQ.si hQ.st ah ah (hN.self (hQ.only.sub λq e=>by rw[e];exact hS.bv) (bI hQ.only hB al) (Jn _)) hC);rw[<-HRR.o] at vQ;clear hN IH hC;clear hI hst aZ kK hQ hg0 hS0 iI k0 k1 k2 k3 k4;go_enter func123,ntmps123
 go_upto_region 1 with fail;rw[<-dI.o];go_upto_region 6 with fail;rw[<-HW1.o];go_wp2_with fail;refine vQ.o.mono ?_;rintro e w3 ⟨v,wE,s3,c3,rfl,⟨A3,jr,rfl,hp3,qH⟩,mP,hO3,dK⟩;have hE:eO S bv u 161 (iy u bp op) rr w.heap.size w w3 A3 wE.length jr:=fq hp3 qH mP (HQ.o.only.trans hO3) dK (Jn _) al (aM HQ.o.rb hO3 ah);clear hp3 qH mP hO3 dK vQ;obtain⟨⟨c0,c1,q0,q1⟩,⟨y0,y1⟩,dz⟩:=hE
 have fI:=aj dz;clear dz;go_wp2;refine bodyPost_ret (v:=fJ u A3 wE.length jr) (by simp[results,results123,go_sem,y0,y1]) rfl ?_;exact fI.o
theorem EU(P:List Fn)(u:Int):∀ f:Nat,rG P u f:=by
 intro f
 induction f with
 | zero=>
  intro x env s t c0 fn b o B S bv A aW bp op w hI hS hst hf hN;have hc:c0≠0:=λh=>by have:=hf h;omega
  unfold om;rw[if_neg hc];exact CJ u env s c0 b o B S bv A aW bp op w hS hst hc
 | succ f IH=>
  intro x env s t c0 fn b o B S bv A aW bp op w hI hS hst hf hN
  by_cases hc:c0=0
  ·obtain⟨rfl,ht,Lc⟩:=hf hc
   subst hc;unfold om;rw[if_pos rfl]
   by_cases hs:t<3000
   ·have hk:=xZ hN.form
    have nY:=hN.form;obtain⟨xk,xn,xp,xc,xks⟩:=x;simp only at hk nY hN ⊢
    by_cases k1:xk=1
    ·subst k1
     have h1:=nY;unfold formed at h1;rw[Mb] at h1;simp only at h1;rw[nD] at h1;simp only[Mb] at h1;have hb:=bH.1 h1.1.2.2;have hv:=Q9 P ⟨1,xn,xp,xc,xks⟩ u env t fn b o B S bv A aW bp op w hI hS hst hN hs rfl hb.1 hb.2;rw[pv,if_neg ah,if_pos rfl];exact hv
    by_cases k2:xk=2
    ·subst k2
     have h1:=nY;unfold formed at h1;rw[Mb] at h1;simp only at h1;rw[nE] at h1;simp only[Mb] at h1;have hb:=bH.1 h1.1.2.2;obtain⟨j,rfl⟩:=Int.eq_ofNat_of_zero_le hb.1;have hj:j<env.length:=ah;have hv:=Q_ P ⟨2,j,xp,xc,xks⟩ u env t fn b o B S bv A aW bp op w hI hS hst hN hs j env[j] rfl rfl (List.getElem?_eq_getElem hj);rw[pv,if_neg ah,if_neg (by show ¬ (2:Int)=1;omega),if_pos rfl]
     have e:env.getD (j:Int).toNat []=env[j]:=by simp[Up,hj]
     simp only;rw[e];exact hv
    by_cases k8:xk=8
    ·exact Yc P _ u f IH env t fn b o B S bv A aW bp op w hI hS hst hN hs Lc k8
    by_cases k9:xk=9
    ·exact Q7 P _ u f IH env t fn b o B S bv A aW bp op w hI hS hst hN hs Lc k9
    by_cases k7:xk=7
    ·exact Q8 P _ u f IH env t fn b o B S bv A aW bp op w hI hS hst hN hs Lc k7
    by_cases k36:xk=3∨xk=4∨xk=5∨xk=6
    ·exact Q6 P _ u f IH env t fn b o B S bv A aW bp op w hI hS hst hN hs Lc k36
    obtain⟨m,pi,g,y,hn,hp,_,hC⟩:=XV hI.ok nY ah hN.f1;subst hn hp
    by_cases k10:xk=10
    ·subst k10
     exact Gm P m pi xc xks u f IH env t fn b o B S bv A aW bp op w hI hS hst hN hs Lc g y hC
    ·obtain rfl:xk=11:=ah
     obtain⟨C,rfl⟩:=Int.eq_ofNat_of_zero_le (hC.loop rfl).1;exact Gn P m pi C xks u f IH env t fn b o B S bv A aW bp op w hI hS hst hN hs Lc g y hC
   ·obtain rfl:t=3000:=ah
    rw[pv,if_pos ah];exact Nh u env b o B S bv A aW bp op w hS hst
  ·unfold om
   rw[if_neg hc];exact CJ u env s c0 b o B S bv A aW bp op w hS hst hc
end
end Go.Proofs.YtgfkglhelfkpoaaGreat
