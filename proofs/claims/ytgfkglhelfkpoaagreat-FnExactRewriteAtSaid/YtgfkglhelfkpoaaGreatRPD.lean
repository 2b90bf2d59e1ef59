/- Parts of the proof. -/
import Derived.Test.YtgfkglhelfkpoaaGreatRPC
set_option maxRecDepth 100000
set_option maxHeartbeats 4000000
open Go.Proofs.Tryz
open Go.Value renaming int→I,slice→V
open Go.IntKind renaming i64→J
open Option renaming some→M,none→U
open Go.Ending renaming returned→If
open Go.Obj renaming cells→Is
open Go renaming World→Iv,Calls→I0,maxLen→I2,Addr→I3
open Go.RowKit renaming Below→Ix
open Nat renaming le_refl→Jn,zero_add→Mu
open Go.RowKit.Below renaming refl→Jx
open And renaming intro→J0
open Bool renaming and_eq_true→Mb
open List renaming length_map→My,getD→Up
open Int renaming toNat_natCast→Mz
namespace Go.Proofs.YtgfkglhelfkpoaaGreat
section
open Go.RowKit Plain
def Gi(a b:List av)(s:Nat):jD (List av):=match iq b with
 | none=>.err 4
 | some n=>if n=0 then .err 6 else .ok (dW (iv n) a) s
variable{a b:List av}{s:Nat}{s' n s2 c2:Int}
theorem Ji(h:wJ b s' 0 n s2 c2)(hn:n=0):Gi a b s=.err (if c2=0 then 6 else c2):=by
 unfold wJ at h;unfold Gi;cases hb:iq b with
 | none=>
  rw[hb] at h;obtain⟨_,h2⟩:=h;rw[if_pos rfl] at h2;subst h2;rfl
 | some m=>
  rw[hb] at h;obtain⟨h1,_,h2⟩:=h;subst h2;simp only;rw[if_pos ah,if_pos trivial]
theorem ET(h:wJ b s' 0 n s2 c2)(hn:n≠0):Gi a b s=.ok (dW (iv n) a) s/\s2=s'/\c2=0/\iq b=M n:=by
 unfold wJ at h;unfold Gi;cases hb:iq b with
 | none=>
  rw[hb] at h;exact absurd h.1 hn
 | some m=>
  rw[hb] at h;obtain⟨h1,h3,h2⟩:=h;subst h1;simp only;rw[if_neg hn];exact⟨rfl,h3,h2,trivial⟩
theorem ZK(P:List Fn)(x:Nd)(u:Int)(f:Nat)(IH:rH P u f)(env:List (List av))(t:Nat)(fn:Int)(K:Option I3)(cap B:Nat)(S:Nat->Prop)(bv:Nat)(A PA:Option I3)(aW aX:Nat)(w:Iv)(hI:nN w B bv 1 P PA aX)(hS:ni w B S bv u)(hst:au w bv 168 (jQ u P PA aX++[I J t,I J 0]))(hN:lu w B S u P fn x K cap A env aW)(hk:x.k=6)(hs:t<3000)(hf:3001<=t+(f+1)) :
  I0 Tryz.prog 176 #[.pointer (M ⟨bv,0,U⟩),exV x.k x.n x.p x.c K x.ks.len cap,V A env.length aW] w (dM S bv u 168 (jQ u P PA aX) (pv u P (f+1) x env t) w):=by
 have iZ:ak (pv u P (f+1) x env t=match cB (pv u P f) env x.ks (t+1) with | .err e=>.err e | .ok zs s1=>Gi (zs.getD 0 []) (zs.getD 1 []) s1):=by
  show _=_;rw[pv,if_neg ah,if_neg ah,if_neg ah,if_neg ah,if_neg ah];cases cB (pv u P f) env x.ks (t+1) with
  | err e=>rfl
  | ok zs s1=>simp only;rw[if_neg ah];rw[if_neg ah];unfold xD Gi;rw[if_neg ah];rw[if_neg ah];rw[if_neg ah];rw[if_neg ah];cases iq (zs.getD 1 [])<;>rfl
 obtain⟨rr,dG⟩:=aD (pv u P (f+1) x env t)
 rw[<-dG];have HRR:=aj (dG.trans iZ.o);clear iZ dG;have jE:=aj (jl P u f IH);have al:=hI.lt;have hB:=hI.blow;have u0:=hS.u0;have u1:=hS.u1;have a1:w.cell? ⟨bv,1,U⟩=M (I J u):=ay hst
 have a2:w.cell? ⟨bv,2,U⟩=M (I J t):=ay hst
 have a3:w.cell? ⟨bv,3,U⟩=M (I J 0):=ay hst
 have z2:w.frozen? ⟨bv,2,U⟩=false:=hst.frozen _;have e1:((t:Int)==3000)=false:=by simp;omega
 have hE:=ow hI hS hst 6 x.n x.p x.c K x.ks.len cap;have mY:aC S w (FB w bv t 6 x.n x.p x.c K x.ks.len cap):=hE.only.sub λq e=>by rw[e];exact hS.bv
 have vR:=aj (mW.of (g:=w.heap.size+1) hN mY (bI hE.only hB al) ah ah);have HE:=aj hE;have HN:=aj hN;have oO:=aj hS;have qK:=aj IH;have oJ:=aj (jV (N:=2) hN.form (by rw[hk];exact .inl ⟨ah,rfl⟩));clear hI hst hE hN hS IH mY;have HKK:=aj hk;rw[hk];clear hk;go_enter func176,ntmps176;go_wp2_with fail;refine (jE.o x.ks env ((t+1:Nat):Int) (t+1) 0 fn K cap B (aS S (w.heap.size+1)) bv A PA aW aX _ HE.o.ev HE.o.si HE.o.st (λ_=>⟨rfl,ah,ah⟩) vR.o).mono ?_;rintro e w1 ⟨A1,cp,dP,s',c',rfl,hl,zN,hcm,D5,hS1,fC,hres⟩
 have c3:w1.cell? ⟨bv,3,U⟩=M (I J c'):=ay hS1
 have c1:w1.cell? ⟨bv,1,U⟩=M (I J u):=ay hS1
 have cl:=hS1.lt;have eu:=aj hS1;have dZ:=aj fC;have yZ:=aj D5;have HL:=aj hl;have fD:=aj hres;clear hS1 fC D5 hres
 by_cases hc:c'=0
 ·have qw:=iY fD.o hc
  subst hc;obtain⟨t1,hs1,_,Fe,hev⟩:=qw.2;subst hs1;have iZ:=aj hev;have HT1:ak (t1<=3000):=Fe ah;have HT2:ak (t<t1):=by show _<_;omega
  clear qw hev Fe fD;go_wp2_with fail;refine (gW u w1 u0 u1).mono ?_;rintro e w2 ⟨Am,cm,rfl,hp2,hb2⟩;have HM:=aj (Oi (cm:=cm) HE.o al eu.o dZ.o yZ.o hp2 hb2);clear hp2 hb2 jE vR eu dZ yZ c1 c3 cl;have hlen:dP.length=2:=by rw[HL.o,oJ.o]
  obtain⟨b1,o1,Aa,ca,Ab,cb,rfl,hb1,Iq,Iw,vI,hcell⟩:=HM.o.env.two ah;have l0:(0:Int)<(x.ks.len:Int):=by rw[oJ.o];omega
  have l0n:0<x.ks.len:=by rw[oJ.o];omega
  have l1:(1:Int)<(x.ks.len:Int):=by rw[oJ.o];omega
  have l1n:1<x.ks.len:=by rw[oJ.o];omega
  obtain⟨Ny,sV⟩:=vI ah;have m_:ak (rr=Gi (dP.getD 0 []) (dP.getD 1 []) t1):=by show _=_;rw[HRR.o,iZ.o]
  obtain⟨za,hza⟩:=aD (dP.getD 0 [])
  obtain⟨zb,D8⟩:=aD (dP.getD 1 [])
  rw[<-hza] at Iq Iw m_;rw[<-D8] at Ny sV m_;have fV:ak (∀ w',eU (aS S (w.heap.size+1)) (w2.alloc (Is #[I J u,V Am 1 cm] 86)) w'->w'.cell? ⟨b1,o1,U⟩=M (I J u)/\w'.cell? ⟨b1,o1+1,U⟩=M (V Aa za.length ca)/\w'.cell? ⟨b1,o1+2,U⟩=M (I J u)/\w'.cell? ⟨b1,o1+2+1,U⟩=M (V Ab zb.length cb)):=λw' ho=>by
   rw[hza,D8];exact⟨(hcell w' ho).1,(hcell w' ho).2.1,(hcell w' ho).2.2 ah⟩
  obtain⟨_,_,g2,g3⟩:=fV.o _ (eU.refl _ _);have x0:(w2.alloc (Is #[I J u,V Am 1 cm] 86)).cell? ⟨w.heap.size,0,U⟩=M (I J 6):=ay HM.o.bx
  have oN:=aj (J0 Iq Iw);have Vv:=aj (AY P u 0 t1 (aS S (w.heap.size+1)) bv aX cb PA Ab zb _ HM.o.st Ny sV);have Pg:=aj sV;have HZ:=aj (J0 hza D8);clear Iq Iw vI hcell HRR iZ Ny sV hza D8;go_wp2_with fail;refine Vv.o.mono ?_;rintro e w3 ⟨n,s2,c2,rfl,mP,hO3,nZ⟩;have HNR:ak (wJ zb t1 0 n s2 c2):=nZ;have EJ:=aj mP;have mK:=aj hO3;clear mP hO3 nZ Vv g2 g3 x0
  by_cases hz:n=0
  ·have z0:(n==0)=true:=by simpa using hz
   have Im:=aj (m_.o.trans (Ji HNR.o hz));have HF:=aj (vo P u c2 s2 6 (aS S (w.heap.size+1)) bv aX PA w3 EJ.o u0 u1);clear hz;go_wp2_with fail;refine HF.o.mono ?_;rintro e w4 ⟨v,jM,s4,c4,rfl,⟨A4,rR,rfl,vw,hk4⟩,qR,hO4,hres⟩;rw[<-Im.o] at hres;have hD:zw S bv u P PA aX rr w w4 A4 jM.length rR:=mg vw hk4 qR ((HM.o.only.trans mK.o).trans hO4) hres al (aM (aM HM.o.rb mK.o ah) hO4 ah)
   obtain⟨⟨k0,k1,q0,q1⟩,⟨y0,y1⟩,dz⟩:=hD;have fI:=aj dz;clear dz vw hk4 qR hO4 hres HF;go_wp2;refine bodyPost_ret (v:=fJ u A4 jM.length rR) (by simp[results,results176,go_sem,y0,y1]) rfl ?_;exact fI.o
  ·have z0:(n==0)=false:=by simpa using hz
   obtain⟨hr1,hr2,hr3,hr4⟩:=ET (a:=za) (s:=t1) HNR.o hz;have hbd:=Qi Pg.o hr4;obtain⟨i0,i1⟩:=Ze hbd.1 hbd.2 hz;subst hr2 hr3;have HM3:=aj (HM.o.aiz al mK.o EJ.o);have aaF:=aj (m_.o.trans hr1);obtain⟨m,hm⟩:=aD (iv n)
   have HMM:=aj hm;rw[<-hm] at i0 i1 aaF;clear hr1 hr4 hz hm hbd HNR;have Vi:ak (∀ w',aC (λq=>q=bv) w3 w'->w'.cell? ⟨b1,o1,U⟩=M (I J u)/\w'.cell? ⟨b1,o1+1,U⟩=M (V Aa za.length ca)):=λw' ho=>by
    have:=fV.o w' ((mK.o.trans ho).sub (T:=aS S (w.heap.size+1)) λq e=>by rw[e];exact HM.o.si.bv).h;exact⟨this.1,this.2.1⟩
   have aaC:=aj (J0 (oN.o.1.only (mK.o.sub λq e=>by rw[e];exact HM.o.si.bv)) oN.o.2);clear fV HM m_ oN EJ mK Pg HZ;go_upto_region 42 with fail;have hd:Ix w3.heap.size w3 w3.drew:=(Jx _ _).drew;obtain⟨na,hna⟩:=aD za.length
   have nP:=aj hna;have HB1:ak (∀ w',Ix w3.heap.size w3 w'->w'.cell? ⟨bv,1,U⟩=M (I J u)):=λw' hb=>by rw[(HM3.o.st.next hb).cell];rfl
   clear hna;refine aO.start (S:=λwx=>wx.cell? ⟨b1,o1,U⟩=M (I J u)/\wx.cell? ⟨b1,o1+1,U⟩=M (V Aa na ca)/\wx.cell? ⟨bv,1,U⟩=M (I J u)) 13 aL aL ?xQ (λaA hB=>?_)
   case xQ=>((try dsimp only);exact (by have h1:=Vi.o _ (aC.of_below hd);rw[<-nP.o] at h1;exact⟨h1.1,h1.2,HB1.o _ hd⟩))
   iterate 9 (refine aO.tk hB aA ?_;try simp only[aP])
   refine aO.bU (i:=9) rfl bM aL (λK hK=>?_);go_simp
   go_at_call 236
   refine (JX n _).mono ?_;rintro e w' ⟨rfl,rfl⟩;rw[<-HMM.o];refine hK.out _ _ (by (try dsimp only);exact (by have h1:=Vi.o _ (aC.of_below hd);rw[<-nP.o] at h1;exact⟨h1.1,h1.2,HB1.o _ hd⟩)) ?_;clear hK K aA;intro aA
   (try simp only[aP])
   refine aO.bU (i:=10) rfl bM aL (λK hK=>?_);go_simp
   go_at_call 135
   refine (lK u m w3.drew u0 u1 ah i1).mono ?_;rintro e w5 ⟨A5,c5,rfl,hR5,hb5⟩;have hbW:Ix w3.heap.size w3 w5:=hd.trans (hb5.mono (Jn _));have hck:=qh u0 u1 (show 0<=m by omega) i1;have BK:=aj (tkC (ca:=ca) (cb:=c5) ((aaC.o.1.only (aC.of_below hbW)).now) (Hr hR5 (fG hck)) aaC.o.2 hck i0 i1 _ rfl);rw[<-nP.o] at BK;generalize (bY u m).length=n5 at *
   refine hK.out _ _ (by (try dsimp only);exact (by have h1:=Vi.o _ (aC.of_below hbW);rw[<-nP.o] at h1;exact⟨h1.1,h1.2,HB1.o _ hbW⟩)) ?_;clear hK K aA;intro aA
   (try simp only[aP])
   refine aO.bU (i:=11) rfl bM aL (λK hK=>?_);go_simp
   go_at_call 134
   refine BK.o.mono ?_;rintro e w6 ⟨A6,c6,rfl,hR6,hb6⟩;have hbX:Ix w3.heap.size w3 w6:=hbW.trans (hb6.mono hbW.size);have hO6:aC (λq=>q=bv) w3 w6:=aC.of_below hbX;have hsc:=gD (k:=m) aaC.o.2 i0 i1;have HVA:=aj (show I0 _ _ _ _ _ from vaC (rr:=rr) (c3:=c6) HM3.o al hbX hR6 hbW.size (by have:=(bC hsc).2.2;omega) (by have:=(xH hsc).2;omega) (by rw[aaF.o,J4 aaC.o.2 i0 i1]))
   generalize (dW m za).length=n6 at *;refine hK.out _ _ (by (try dsimp only);exact (by have h1:=Vi.o _ hO6;rw[<-nP.o] at h1;exact⟨h1.1,h1.2,HB1.o _ hbX⟩)) ?_;clear hK K aA;intro aA
   (try simp only[aP])
   refine aO.bU (i:=12) rfl bM aL (λK hK=>?_);go_simp
   go_at_call 235
   refine HVA.o.mono ?_;rintro e w4 ⟨A3,n3,jr,rfl,zH,hO4,hC4⟩;refine hK.out _ _ (by (try dsimp only);exact (by have h1:=Vi.o _ (hO6.trans hO4);rw[<-nP.o] at h1;exact⟨h1.1,h1.2,hC4⟩)) ?_;clear hK K aA;intro aA
   (try simp only[aP])
   obtain⟨⟨k0,k1,q0,Le⟩,⟨y0,y1⟩,dz⟩:=zH;refine aO.gL rfl aL aL (λK hK=>?_);go_simp;refine hK.out _ _ ?_;clear hK K;clear hO6 hO4 hC4 hR5 hb5 hbW hck hR6 hb6 hbX hsc;have fI:=aj dz;clear dz;go_wp2;refine bodyPost_ret (v:=fJ u A3 n3 jr) (by simp[results,results176,go_sem,y0,y1]) rfl ?_;exact fI.o
 ·have HB:=aj (jS fD.o hc rfl)
  have hc1:(c' != 0)=true:=by simpa using hc
  have hD:=Cz (S:=S) (rr:=rr) eu.o (HE.o.only.trans dZ.o) (by rw[HRR.o,HB.o]) u0 u1 al (aM HE.o.rb dZ.o ah);obtain⟨⟨k0,k1,q0,q1⟩,⟨y0,y1⟩,dz⟩:=hD;have fI:=aj dz;clear dz eu dZ yZ fD jE vR hl hc;go_wp2;refine bodyPost_ret (v:=fJ u U 0 0) (by simp[results,results176,go_sem,y0,y1]) rfl ?_;exact fI.o
def A9(pi:Nat):jD (List (List av))->jD (List av)
 | .err e=>.err e
 | .ok ws s2=>.ok (ws.getD pi []) s2
def mV(u:Int)(P:List Fn)(f:Nat)(outs:Es)(R:jD (List (List av)))(q:Nat)(zs:List (List av))(s' c':Int):Prop:=
 (c'=0->∃ t1:Nat,s'=t1/\t1<=3000/\3001<=t1+f/\R=iJ (pv u P f) outs q zs t1)/\(c'≠0->R=.err c')
theorem mV.step{u:Int}{P:List Fn}{f:Nat}{outs:Es}{R:jD (List (List av))}{q:Nat}{zs TK:List (List av)}{s s' c':Int}(h:mV u P f outs R (q+1) zs s 0)(hr:gJ (mI u P f 0 outs zs s.toNat) TK s' c'):mV u P f outs R q TK s' c':=by
 obtain⟨t0,rfl,a1,a2,a3⟩:=h.1 rfl;constructor
 ·intro hc
  obtain⟨_,t1,rfl,h1,h2,h3⟩:=iY hr hc;simp only[Mz] at h1 h2 h3;refine⟨t1,rfl,h2 a1,ah, ?_⟩;rw[a3];simp only[iJ];rw[h3]
 ·intro hc
  have hb:=jS hr hc rfl;simp only[Mz] at hb;rw[a3];simp only[iJ];rw[hb]
variable{u c:Int}{P:List Fn}{f q:Nat}{outs:Es}{R:jD (List (List av))}{zs:List (List av)}
theorem mV.now{s:Int}(h:mV u P f outs R q zs s c):c=0->s=(s.toNat:Int)/\s.toNat<=3000/\3001<=s.toNat+f:=λhc=>by
 obtain⟨t,rfl,h1,h2,_⟩:=h.1 hc;simp only[Mz];exact⟨trivial,h1,h2⟩
variable{w:Iv}
theorem J5{wr:Iv}{S:Nat->Prop}{bv cp pi:Nat}{PA:Option I3}{aX:Nat}{A':Option I3}{ts:List av}{c':Int}{rr:jD (List av)}(hO:aC (λq=>q=bv) w wr)(hS:au wr bv 168 (jQ u P PA aX++[I J s',I J c']))(hp:iK wr (aS S (w.heap.size+1)) A' ts)(dh:aQ u ts=true)(hts:zs.getD pi []=ts)
  (hL:mV u P f outs R q zs s' c') (hq:c'=0->q=0) (dG:rr=A9 pi R) (al:bv<w.heap.size) (hb:au wr (w.heap.size+1) 86 [I J 0,V U 0 0]):zw S bv u P PA aX rr w wr A' ts.length cp:=by
 refine mg hp dh hS hO ?_ al hb
 by_cases hc:c'=0
 ·obtain⟨t1,rfl,_,_,h3⟩:=hL.1 hc
  rw[hq hc] at h3;simp only[iJ] at h3;rw[dG,h3];exact⟨hts.symm,rfl,hc⟩
 ·rw[dG,hL.2 hc];rfl
theorem Sq(P:List Fn)(m pi C:Nat)(ks:Es)(u:Int)(f:Nat)(IH:rH P u f)(env:List (List av))(t:Nat)(fn:Int)(K:Option I3)(cap B:Nat)(S:Nat->Prop)(bv:Nat)(A PA:Option I3)(aW aX:Nat)(w:Iv)(hI:nN w B bv 1 P PA aX)(hS:ni w B S bv u)(hst:au w bv 168 (jQ u P PA aX++[I J t,I J 0]))(hN:lu w B S u P fn ⟨11,m,pi,C,ks⟩ K cap A env aW)(g:Fn)(y:Nd)(hC:wH P m pi C ks 11 g y)(hs:t<3000)(hf:3001<=t+(f+1)) :
  I0 Tryz.prog 176 #[.pointer (M ⟨bv,0,U⟩),exV 11 m pi C K ks.len cap,V A env.length aW] w (dM S bv u 168 (jQ u P PA aX) (pv u P (f+1) ⟨11,m,pi,C,ks⟩ env t) w):=by
 have iZ:ak (pv u P (f+1) ⟨11,m,pi,C,ks⟩ env t=match cB (pv u P f) env ks (t+1) with | .err e=>.err e | .ok zs s1=>A9 pi (iJ (pv u P f) g.outs C zs s1)):=by
  show _=_;rw[pv,if_neg ah,if_neg (by show ¬ (11:Int)=1;omega),if_neg (by show ¬ (11:Int)=2;omega),if_neg (by show ¬ (11:Int)=8;omega),if_neg (by show ¬ (11:Int)=9;omega)];cases cB (pv u P f) env ks (t+1) with
  | err e=>rfl
  | ok zs s1=>simp only;rw[if_neg ah,if_pos trivial,show P[(m:Int).toNat]? = M g from hC.fn];simp only[Mz];cases iJ (pv u P f) g.outs C zs s1<;>rfl
 obtain⟨rr,dG⟩:=aD (pv u P (f+1) ⟨11,m,pi,C,ks⟩ env t)
 rw[<-dG];have HRR:=aj (dG.trans iZ.o);clear iZ dG;have jE:=aj (jl P u f IH);have al:=hI.lt;have hB:=hI.blow;have u0:=hS.u0;have u1:=hS.u1;have a1:w.cell? ⟨bv,1,U⟩=M (I J u):=ay hst
 have a2:w.cell? ⟨bv,2,U⟩=M (I J t):=ay hst
 have a3:w.cell? ⟨bv,3,U⟩=M (I J 0):=ay hst
 have z2:w.frozen? ⟨bv,2,U⟩=false:=hst.frozen _;have e1:((t:Int)==3000)=false:=by simp;omega
 have hE:=ow hI hS hst 11 m pi C K ks.len cap;have mY:aC S w (FB w bv t 11 m pi C K ks.len cap):=hE.only.sub λq e=>by rw[e];exact hS.bv
 have vR:=aj (mW.of (g:=w.heap.size+1) hN mY (bI hE.only hB al) ah (by show (11:Int)≠9;omega));have HE:=aj hE;have HN:=aj hN;have oO:=aj hS;have qK:=aj IH;have HC:=aj hC;clear hC;clear hI hst hE hN hS IH mY;go_enter func176,ntmps176;go_wp2_with fail;refine (jE.o ks env ((t+1:Nat):Int) (t+1) 0 fn K cap B (aS S (w.heap.size+1)) bv A PA aW aX _ HE.o.ev HE.o.si HE.o.st (λ_=>⟨rfl,ah,ah⟩) vR.o).mono ?_;rintro e w1 ⟨A1,cp,dP,s',c',rfl,hl,zN,hcm,D5,hS1,fC,hres⟩
 have c3:w1.cell? ⟨bv,3,U⟩=M (I J c'):=ay hS1
 have c1:w1.cell? ⟨bv,1,U⟩=M (I J u):=ay hS1
 have cl:=hS1.lt;have eu:=aj hS1;have dZ:=aj fC;have yZ:=aj D5;have HL:=aj hl;have fD:=aj hres;clear hS1 fC D5 hres
 by_cases hc:c'=0
 ·have qw:=iY fD.o hc
  subst hc;obtain⟨t1,hs1,_,Fe,hev⟩:=qw.2;subst hs1;have iZ:=aj hev;have HT1:ak (t1<=3000):=Fe ah;have HT2:ak (t<t1):=by show _<_;omega
  clear qw hev Fe fD;go_wp2_with fail;refine (gW u w1 u0 u1).mono ?_;rintro e w2 ⟨Am,cm,rfl,hp2,hb2⟩;have HM:=aj (Oi (cm:=cm) HE.o al eu.o dZ.o yZ.o hp2 hb2);clear hp2 hb2 jE vR eu dZ yZ c1 c3 cl;obtain⟨bP,oP,KF,cF,bk,ok,rfl,hbP,g2,TB,hmF,rfl,hKo,hEy⟩:=aet HM.o.ev.prog HC.o.fn HC.o.o;have D7:m<P.length:=(List.getElem?_eq_some_iff.1 HC.o.fn).1;have CZ:(m:Int)<(P.length:Int):=ah
  have hpl:pi<ks.len:=by have:=Es.yg HC.o.o;have:=(HC.o.loop rfl).2.2;omega
  have afy:(pi:Int)<(ks.len:Int):=ah;have hC8:C<=8:=by have:=(HC.o.loop rfl).2.1;omega
  have P6:g.outs.len=ks.len:=(HC.o.loop rfl).2.2;have RD:cp<=9223372036854775807:=by unfold I2 at hcm;omega
  obtain⟨R,hR⟩:=aD (iJ (pv u P f) g.outs C dP t1)
  have HRW:ak (rr=A9 pi R):=by show _=_;rw[HRR.o,iZ.o,hR]
  have FU:ak (mV u P f g.outs R (C - 0) dP t1 0):=⟨λ_=>⟨t1,rfl,HT1.o,by have:=HT2.o;omega,hR⟩,λh=>absurd rfl h⟩
  have jE:=aj (jl P u f qK.o);have IQ:=aj P6;have pz:=aj g2;have HKO:=aj hKo;have x0:(w2.alloc (Is #[I J u,V Am 1 cm] 86)).cell? ⟨w.heap.size,0,U⟩=M (I J 11):=ay HM.o.bx
  have hWb:w2.heap.size+1=(w2.alloc (Is #[I J u,V Am 1 cm] 86)).heap.size:=by simp
  have LK:=aj hl;clear hR iZ HRR hEy P6 g2 hKo;go_upto_region 26 with fail;change Code.wp _ _ _ _ (w2.alloc (Is #[I J u,V Am 1 cm] 86));generalize w2.alloc (Is #[I J u,V Am 1 cm] 86)=W at *;clear x0 hWb;have yx:bv<W.heap.size:=HM.o.ev.lt;have hWl:w.heap.size<W.heap.size:=HM.o.bx.lt;have hg9:w.heap.size≠bv:=ah;have NH:bP<W.heap.size:=ah;have afc:bP≠bv:=ah
  go_wp2
  go_loopw [8,10] (λkd i wr=>∃ (q:Nat) (A1:Option I3) (cp:Nat) (zs:List (List av)) (s' c':Int),i=I J (q:Int)/\kd=V A1 ks.len cp/\q<=C/\ks.len<=cp/\cp<=I2/\ak (zs.length=ks.len)/\ak (fK wr (aS S (w.heap.size+1)) u A1 zs)/\ak (au wr bv 168 (jQ u P (M ⟨bP,oP,U⟩) aX++[I J s',I J c']))/\ak (aC (λq=>q=bv) W wr)/\ak (mV u P f g.outs R (C - q) zs s' c')) (λ_ i _=>C - (intOf i).toNat)
  case atStart=>exact⟨0,A1,cp,dP,t1,0,bE,rfl,Nat.zero_le _,zN,hcm,LK,HM.o.env,HM.o.st,aC.refl _ _,FU⟩
  case round=>
   clear LK FU zN hcm RD hl HL;obtain⟨q,A1,cp,zs,s',c',rfl,rfl,hq,zN,hcm,HL,gY,eu,mK,FU⟩:=hrel;have RD:cp<=9223372036854775807:=by unfold I2 at hcm;omega
   have Pn:=aj (aM HM.o.bx mK.o ah);have qL:=aj (aM HM.o.rb mK.o ah);have c3:wr.cell? ⟨bv,3,U⟩=M (I J c'):=ay eu.o
   have c0:wr.cell? ⟨bv,0,U⟩=M (V (M ⟨bP,oP,U⟩) P.length aX):=ay eu.o
   have x1:wr.cell? ⟨w.heap.size,1,U⟩=M (I J m):=ay Pn.o
   have x2:wr.cell? ⟨w.heap.size,2,U⟩=M (I J pi):=ay Pn.o
   have x3:wr.cell? ⟨w.heap.size,3,U⟩=M (I J C):=ay Pn.o
   have clr:bv<wr.heap.size:=eu.o.lt;have xlr:w.heap.size<wr.heap.size:=Pn.o.lt;obtain⟨ts,hts⟩:∃ ts,zs[pi]? = M ts:=⟨zs[pi]'(by rw[HL.o];exact hpl),List.getElem?_eq_getElem _⟩
   have htd:zs.getD pi []=ts:=by simp[Up,hts]
   obtain⟨b1,o1,Az,cz,rfl,hb1,d0,d1,hPz,hoz⟩:=gY.o.get hts;have HTD:=aj htd;have xI:=aj (J0 hPz hoz);clear hts htd hPz hoz
   by_cases hlt:q<C
   ·have akZ:(q:Int)<(C:Int):=ah
    by_cases hc:c'=0
    ·subst hc
     have g2:wr.cell? ⟨bP,oP+m*3+2,U⟩=M (V (M ⟨bk,ok,U⟩) g.outs.len cF):=(mK.o.cell (a:=⟨bP,_,U⟩) NH afc).trans pz.o;rw[IQ.o] at g2;have amd:bP<wr.heap.size:=by have:=mK.o.size;omega
     have hd:aC (λq=>q=bv) wr wr.drew:=(aC.refl _ wr).drewN 1;have hI3:=HM.o.ev.only (mK.o.trans hd);have hls:mW wr.drew B (aS S (w.heap.size+1)) u P m g.outs (M ⟨bk,ok,U⟩) cF (M ⟨b1,o1,U⟩) zs cp:=⟨HKO.o.below (bI (mK.o.trans hd) hB yx),TB,hmF,gY.o.only ((aC.refl _ wr).drewN 1),by rw[HL.o];exact zN,hcm,by rw[HL.o];have:=HC.o.p12;have:=HC.o.dep;omega,HC.o.size,λj z hz=>by rw[HL.o];exact (HC.o.each j z hz).1,ah,ah⟩
     have hcall:=jE.o g.outs zs s' s'.toNat 0 m (M ⟨bk,ok,U⟩) cF B (aS S (w.heap.size+1)) bv (M ⟨b1,o1,U⟩) (M ⟨bP,oP,U⟩) cp aX wr.drew hI3 (HM.o.si.mono (mK.o.trans hd).size) (eu.o.drewN 1) FU.o.now hls;rw[HL.o,IQ.o] at hcall;have jh:=aj hcall;have Vs:ak (mV u P f g.outs R (C - (q+1)+1) zs s' 0):=by have:=FU.o;rwa [show C - q=C - (q+1)+1 by omega] at this
     clear hcall hls hI3 hd FU gY d0 d1 xI HTD;go_wp2_with fail;go_still_tail 12,aL;change wpList _ _ _ _ _ wr.drew;go_wp2_with fail;refine jh.o.mono ?_;rintro e w4 ⟨A3,jr,zs3,s3,c3',rfl,hl3,YW,RB,CQ,mP,hO4,dK⟩;have HO5:ak (aC (λq=>q=bv) W w4):=(mK.o.drewN 1).trans hO4;have HL5:=aj hl3;have HE5:=aj CQ;have Pj:=aj mP;have aeK:=aj (Vs.o.step dK);clear hl3 CQ mP hO4 dK Pn qL eu mK c0 x1 x2 x3 g2 jh HL Vs
     go_wp2
     go_roundw
     case rel=>exact⟨q+1,A3,jr,zs3,s3,c3',bE,rfl,ah,YW,RB,HL5,HE5,Pj,HO5,aeK⟩
     case measure=>simp[intOf];omega
    ·have hD:=J5 (cp:=cz) (HM.o.only.trans mK.o) eu.o xI.o.1 xI.o.2 HTD.o FU.o (λh=>absurd h hc) HRW.o al qL.o
     obtain⟨⟨k0,k1,q0,q1⟩,⟨y0,y1⟩,dz⟩:=hD;have fI:=aj dz;have hc1:(c'==0)=false:=by simpa using hc
     clear dz hc;go_wp2;refine bodyPost_ret (v:=fJ u Az ts.length cz) (by simp[results,results176,go_sem,y0,y1]) rfl ?_;exact fI.o
   ·obtain rfl:q=C:=ah
    have hD:=J5 (cp:=cz) (HM.o.only.trans mK.o) eu.o xI.o.1 xI.o.2 HTD.o FU.o (λ_=>ah) HRW.o al qL.o;obtain⟨⟨k0,k1,q0,q1⟩,⟨y0,y1⟩,dz⟩:=hD;have fI:=aj dz;clear dz;go_wp2;refine bodyPost_ret (v:=fJ u Az ts.length cz) (by simp[results,results176,go_sem,y0,y1]) rfl ?_;exact fI.o
 ·have HB:=aj (jS fD.o hc rfl)
  have hc1:(c' != 0)=true:=by simpa using hc
  have hD:=Cz (S:=S) (rr:=rr) eu.o (HE.o.only.trans dZ.o) (by rw[HRR.o,HB.o]) u0 u1 al (aM HE.o.rb dZ.o ah);obtain⟨⟨k0,k1,q0,q1⟩,⟨y0,y1⟩,dz⟩:=hD;have fI:=aj dz;clear dz eu dZ yZ fD jE vR hl hc;go_wp2;refine bodyPost_ret (v:=fJ u U 0 0) (by simp[results,results176,go_sem,y0,y1]) rfl ?_;exact fI.o
theorem ZE(P:List Fn)(u:Int):∀ f:Nat,rH P u f:=by
 intro f
 induction f with
 | zero=>
  intro x env s t c0 fn K cap B S bv A PA aW aX w hI hS hst hf hN;have hc:c0≠0:=λh=>by have:=hf h;omega
  have hv:=Fz P x env s c0 u K cap B bv S A PA aW aX w hI hS hst hc;unfold om;rw[if_neg hc];exact hv
 | succ f IH=>
  intro x env s t c0 fn K cap B S bv A PA aW aX w hI hS hst hf hN
  by_cases hc:c0=0
  ·obtain⟨rfl,ht,Lc⟩:=hf hc
   subst hc;unfold om;rw[if_pos rfl]
   by_cases hs:t<3000
   ·have hk:=xZ hN.form
    have nY:=hN.form;obtain⟨xk,xn,xp,xc,xks⟩:=x;simp only at hk nY hN ⊢
    by_cases k1:xk=1
    ·subst k1
     have h1:=nY;unfold formed at h1;rw[Mb] at h1;simp only at h1;rw[nD] at h1;simp only[Mb] at h1;have hb:=bH.1 h1.1.2.2;have hv:=ZG P ⟨1,xn,xp,xc,xks⟩ env t u K cap B bv S A PA aW aX w hI hS hst rfl hs hb.1 hb.2;rw[pv,if_neg ah,if_pos rfl];exact hv
    by_cases k2:xk=2
    ·subst k2
     have h1:=nY;unfold formed at h1;rw[Mb] at h1;simp only at h1;rw[nE] at h1;simp only[Mb] at h1;have hb:=bH.1 h1.1.2.2;obtain⟨j,rfl⟩:=Int.eq_ofNat_of_zero_le hb.1;have hj:j<env.length:=ah;have hem:=hN.em;have hel:=hN.el;have hv:=ZM P ⟨2,j,xp,xc,xks⟩ env t u K cap B bv S A PA aW aX w hI hS hst hN.qj (by unfold I2 at hem;omega) j env[j] rfl rfl hs (List.getElem?_eq_getElem hj)
     rw[pv,if_neg ah,if_neg (by show ¬ (2:Int)=1;omega),if_pos rfl];have e:env.getD (j:Int).toNat []=env[j]:=by simp[Up,hj]
     simp only;rw[e];exact hv
    by_cases k8:xk=8
    ·exact abH P _ u f IH env t fn K cap B S bv A PA aW aX w hI hS hst hN k8 hs Lc
    by_cases k9:xk=9
    ·exact ZF P _ u f IH env t fn K cap B S bv A PA aW aX w hI hS hst hN k9 hs Lc
    by_cases k3:xk=3
    ·exact ZH P _ u f IH env t fn K cap B S bv A PA aW aX w hI hS hst hN k3 hs Lc
    by_cases k4:xk=4
    ·exact ZI P _ u f IH env t fn K cap B S bv A PA aW aX w hI hS hst hN k4 hs Lc
    by_cases k5:xk=5
    ·exact ZJ P _ u f IH env t fn K cap B S bv A PA aW aX w hI hS hst hN k5 hs Lc
    by_cases k6:xk=6
    ·exact ZK P _ u f IH env t fn K cap B S bv A PA aW aX w hI hS hst hN k6 hs Lc
    by_cases k7:xk=7
    ·exact ZL P _ u f IH env t fn K cap B S bv A PA aW aX w hI hS hst hN k7 hs Lc
    obtain⟨m,pi,g,y,hn,hp,_,hC⟩:=XV hI.ok nY ah hN.f1;subst hn hp
    by_cases k10:xk=10
    ·subst k10
     exact Sm P m pi xc xks u f IH env t fn K cap B S bv A PA aW aX w hI hS hst hN g y hC hs Lc
    ·obtain rfl:xk=11:=ah
     obtain⟨C,rfl⟩:=Int.eq_ofNat_of_zero_le (hC.loop rfl).1;exact Sq P m pi C xks u f IH env t fn K cap B S bv A PA aW aX w hI hS hst hN g y hC hs Lc
   ·obtain rfl:t=3000:=ah
    have hv:=Sn P x env u K cap B bv S A PA aW aX w hI hS hst;rw[pv,if_pos ah];exact hv
  ·have hv:=Fz P x env s c0 u K cap B bv S A PA aW aX w hI hS hst hc
   unfold om;rw[if_neg hc];exact hv
variable{lo be oe bt cap:Nat}{E:List Int}
theorem Fw(hbe:be<w.heap.size)(he:∀ j x,E[j]? = M x->w.cell? ⟨be,oe+j,U⟩=M (I J x)/\w.frozen? ⟨be,oe+j,U⟩=false)(ht:au w bt 173 [V (M ⟨be,oe,U⟩) E.length cap,I J c])(h1:lo<=be)(h2:lo<=bt)(hne:be≠bt):RT w lo w.heap.size (M ⟨bt,0,U⟩) [(E,c)]:=by
 have l2:=ht.lt;refine⟨ah,Jn _,λ_=>⟨bt,0,λ_=>be,rfl,h2,l2,λi t hi=>?_,λi j ti tj hij hi hj _ _=>?_⟩,λ_ _ h hb=>h.keep hb⟩
 ·cases i with
  | zero=>
   simp only[List.getElem?_cons_zero,Option.some.injEq] at hi;subst hi;exact⟨_,cap,by rw[ht.cell];rfl,by rw[ht.cell];rfl,ht.frozen _,λ_=>⟨oe,rfl,h1,hbe,hne,λj x hx=>he j x hx⟩⟩
  | succ i=>simp at hi
 ·have a:=(List.getElem?_eq_some_iff.1 hi).1
  have b:=(List.getElem?_eq_some_iff.1 hj).1;simp at a b;omega
theorem abD(he:au w be 2 (E.map (I J)))(ht:au w bt 173 [V (M ⟨be,0,U⟩) E.length cap,I J c])(h1:lo<=be)(h2:lo<=bt)(hne:be≠bt):RT w lo w.heap.size (M ⟨bt,0,U⟩) [(E,c)]:=
 Fw he.lt (λj x hx=>⟨by rw[Mu,he.cell,List.getElem?_map,hx];rfl,he.frozen _⟩) ht h1 h2 hne
theorem aam{n j:Nat}(hj:j<n)(he:∀ j x,(cO n)[j]? = M x->w.cell? ⟨be,oe+j,U⟩=M (I J x)/\w.frozen? ⟨be,oe+j,U⟩=false)(i:Nat)(x:Int)(hx:(qD n j)[i]? = M x) :
  (w.setCell ⟨be,oe+j,U⟩ (I J 1)).cell? ⟨be,oe+i,U⟩=M (I J x)/\(w.setCell ⟨be,oe+j,U⟩ (I J 1)).frozen? ⟨be,oe+i,U⟩=false:=by
 have hz:∀ k,k<n->(cO n)[k]? = M 0:=λk hk=>by unfold cO;simp[hk]
 have hi:i<n:=by have:=(List.getElem?_eq_some_iff.1 hx).1;rw[kH] at this;exact this
 have hf:(w.setCell ⟨be,oe+j,U⟩ (I J 1)).frozen? ⟨be,oe+i,U⟩=false:=by rw[World.frozen?_setCell];exact (he i 0 (hz i hi)).2
 refine⟨?_,hf⟩
 by_cases e:i=j
 ·subst e
  have h1:x=1:=by unfold qD cO at hx;simp[hi] at hx;exact hx.symm
  rw[h1];exact World.cell?_setCell_same _ _ _ (he i 0 (hz i hi)).1
 ·have h0:x=0:=by
   unfold qD cO at hx;rw[List.getElem?_set_ne (Ne.symm e)] at hx;simp[hi] at hx;exact hx.symm
  rw[h0,World.cell?_setCell_other _ _ _ _ (λh=>e (by injection h with _ h;omega))];exact (he i 0 (hz i hi)).1
theorem Ia(u:Int)(S:Nat->Prop)(w:Iv)(hS:∀ q,S q->q<w.heap.size)(h0:0<=u)(h1:u<=12) :
  I0 Tryz.prog 110 #[I J u] w λe w'=>∃ A cp,e=If (V A u.toNat cp)/\u.toNat<=cp/\cp<=I2/\fK w' S u A (kX u u.toNat)/\Ix w.heap.size w w':=by
 obtain⟨i0,hi,hz0,hz1,hz2⟩:=info_parts Tryz.infoPo;obtain⟨un,rfl⟩:∃ m:Nat,u=m:=⟨u.toNat,ah⟩
 have Zc:un<=12:=ah;have hmk:=run_make_row' (P:=Tryz.prog) 28 2 (I J 0) 8 underlying28 Tryz.infoI rfl .i64 .i64 un ah ah;obtain⟨Z,hZ⟩:=aD (madeCells #[I J 0] un)
 rw[<-hZ] at hmk;have HZ:ak (Z=((cO un).map (I J)).toArray):=by show _=_;rw[hZ,l9,FN]
 have HSS:=aj hS;clear hZ hS;go_enter func110,ntmps110;go_wp2
 go_loopw [3,8] (λo_ i wr=>∃ (j g:Nat),i=I J (j:Int)/\j<=un/\ak (o_.ownBlock=M g/\w.heap.size<=g/\g<wr.heap.size)/\ak (jc wr w.heap.size S un o_ (kX un j))/\ak (Ix w.heap.size w wr)) (λ_ i _=>un - (intOf i).toNat)
 case atStart=>exact⟨0,w.heap.size,bE,Nat.zero_le _,⟨rfl,Jn _,by simp⟩,jc.start w _ _,by show Ix _ _ _;go_grown⟩
 case round=>
  obtain⟨j,g,rfl,hj,hG,HR,jF⟩:=hrel
  by_cases hlt:j<un
  ·have hjl:(j:Int)<(un:Int):=ah
   have hbe:au (wr.alloc (Is Z 2)) wr.heap.size 2 ((cO un).map (I J)):=by rw[HZ.o];exact au.new wr _ _
   have hsz1:(wr.alloc (Is Z 2)).heap.size=wr.heap.size+1:=by simp
   have hg1:Ix wr.heap.size wr (wr.alloc (Is Z 2)):=aV;go_upto_region 6 with fail;change Code.wp _ _ _ _ (wr.alloc (Is Z 2));generalize wr.alloc (Is Z 2)=Wa at *;have hze:(cO un)[j]? = M 0:=by unfold cO;simp[hlt]
   have e0:Wa.cell? ⟨wr.heap.size,j,U⟩=M (I J 0):=by rw[hbe.cell,List.getElem?_map,hze];rfl
   have ef:Wa.frozen? ⟨wr.heap.size,j,U⟩=false:=hbe.frozen _;have afd:au (Wa.setCell ⟨wr.heap.size,j,U⟩ (I J 1)) wr.heap.size 2 ((qD un j).map (I J)):=by
    have:=hbe.aJ j (I J 1);rw[<-List.map_set] at this;exact this
   have hg2:Ix wr.heap.size wr (Wa.setCell ⟨wr.heap.size,j,U⟩ (I J 1)):=hg1.setCell (p:=⟨wr.heap.size,j,U⟩) (Jn _) _;have hsz2:(Wa.setCell ⟨wr.heap.size,j,U⟩ (I J 1)).heap.size=Wa.heap.size:=by simp[World.setCell]
   have afs:j<un:=hlt;clear hbe hg1;go_upto_region 7 with fail;change Code.wp _ _ _ _ (Wa.setCell ⟨wr.heap.size,j,U⟩ (I J 1));generalize Wa.setCell ⟨wr.heap.size,j,U⟩ (I J 1)=Wb at *;have Zb:Wb.heap.size=wr.heap.size+1:=ah;clear e0 ef hsz2 hsz1;obtain⟨W3,jw⟩:=aD (Wb.alloc (Is #[V (M ⟨wr.heap.size,0,U⟩) un un,I J 1] 173))
   have hg3:Ix Wb.heap.size Wb W3:=by rw[jw];go_grown
   have hC3:au W3 wr.heap.size 2 ((qD un j).map (I J)):=afd.next hg3;have hT3:au W3 (wr.heap.size+1) 173 [V (M ⟨wr.heap.size,0,U⟩) un un,I J 1]:=by
    have:=au.new Wb 173 [V (M ⟨wr.heap.size,0,U⟩) un un,I J 1];rw[<-Zb,jw];exact this
   have vZ:RT W3 wr.heap.size W3.heap.size (M ⟨wr.heap.size+1,0,U⟩) (oL un j):=by
    show RT _ _ _ _ [(qD (un:Int).toNat j,1)];exact abD (cap:=un) hC3 (by rw[kH];exact hT3) (Jn _) ah ah
   have dh:aQ un (oL un j)=true:=Qs h0 h1;have hb3:Ix wr.heap.size wr W3:=hg2.trans (hg3.mono ah);have vY:iK W3 (aS S g) (M ⟨wr.heap.size+1,0,U⟩) (oL un j):=iK.of vZ (fG dh) (λq e=>by
    rcases e with e | e
    ·have:=HSS.o q e;have:=jF.o.size;omega
    ·have:=hG.o.2.2;omega)
   have oN:=aj (J0 vY dh);have HB3:=aj hb3;obtain⟨ps,yj,hps,nC,AO⟩:=HR.o;have hpl:ps.length=j:=by have:=congrArg List.length hps;rw[My,dH] at this;exact this
   have mq:=aj yj;have BI:=aj AO;have mZ:=aj nC;have r_:=aj hps;obtain⟨mM,hW1'⟩:=aD (W3.alloc (Is (jA un (oL un j,M ⟨Wb.heap.size,0,U⟩,1)).toArray 86))
   have hb2:Ix W3.heap.size W3 mM:=by rw[hW1'];go_grown
   have hC2:au mM W3.heap.size 86 (jA un (oL un j,M ⟨Wb.heap.size,0,U⟩,1)):=by rw[hW1'];exact au.new _ _ _
   have nJ:=aj ((mq.o.below hb3).below hb2).own;have HB2:=aj hb2;have fH:=aj hC2;have HW3:=aj jw;have sD:=aj hW1';have hs3:W3.heap.size=Wb.heap.size+1:=by rw[jw];simp
   have HZZ:=aj (J0 Zb hs3);clear hb2 hC2 hW1' yj hps nC AO HR vY vZ hb3 hg3 hC3 hT3 hg2 afd jw Zb hs3 dh;go_wp2_with (at_builtin;change wpList _ _ _ _ _ ((Wb.alloc (Is #[V (M ⟨wr.heap.size,0,U⟩) un un,I J 1] 173)).alloc (Is (jA un (oL un j,M ⟨Wb.heap.size,0,U⟩,1)).toArray 86));rw[<-HW3.o,<-sD.o];refine wpList_append_own_at _ rfl _ _ 162 rfl w.heap.size 86 i0 (.agg #[I J 0,V U 0 0]) 2 32 underlying162 hi hz0 hz1 hz2 rfl bM _ _ _ rfl nJ.o ⟨W3.heap.size,0,U⟩ 1 1 (jA un (oL un j,M ⟨Wb.heap.size,0,U⟩,1)) ?c0 rfl ?c1 ?c2 ?c3 ?c4 ?c5 ?_)
   case c0=>rw[HZZ.o.2];simp[Act.eval]
   case c1=>intro q z hz;rw[addr_add,Mu];exact (fH.o.cell q).trans hz
   case c2=>intro z hz;simp only[jA,List.mem_cons,List.not_mem_nil,or_false] at hz;rcases hz with rfl | rfl<;>rfl
   case c3=>simp only[My];unfold I2;omega
   case c4=>simp only[My];omega
   case c5=>have:=HB2.o.size;have:=HB3.o.size;have:=jF.o.size;omega
   intro v2 w2 iA hg2 _ hat;have hown:w2.ownsRow w.heap.size 86 2 v2 ((ps.map (mH S (un:Int))).length+1) ((ps.map (mH S (un:Int))).flatMap (·.1)++jA un (oL un j,M ⟨Wb.heap.size,0,U⟩,1)):=by
    rw[My,hpl];exact iA
   have vY:=oN.o;rw[<-HZZ.o.1] at vY;have hgl:=mq.o.lt hG.o.1;obtain⟨hp2,hbl⟩:=jc.push (p:=(oL un j,M ⟨Wb.heap.size,0,U⟩,1)) mq.o (by rw[r_.o];exact mZ.o) BI.o hG.o.1 HB3.o vY.1 vY.2 HB2.o hown hg2 hat;rw[r_.o,<-FM] at hp2;have hg3:∃ g3,v2.ownBlock=M g3/\w.heap.size<=g3/\g3<w2.heap.size:=by
    have hs2:=hg2.size;have hs1:=HB2.o.size;have hs3:=HB3.o.size;have hs4:=jF.o.size
    rcases hat with e | e
    ·exact⟨g,e.trans hG.o.1,hgl.1,ah⟩
    ·exact⟨mM.heap.size,e,ah,(World.ownsRow.lt hown _ e).2⟩
   obtain⟨g3,hg3⟩:=hg3;have Ec:=aj hg3;have mU:=aj hp2;have Vg:=aj (jF.o.trans hbl);clear hown iA hg2 hat hp2 hbl hg3 mq BI mZ r_ nJ fH HB2 oN hgl sD HW3 HZZ vY HB3;go_wp2
   go_roundw
   case rel=>exact⟨j+1,g3,bE,ah,Ec,mU,Vg⟩
   case measure=>simp[intOf];omega
  ·obtain rfl:j=un:=ah
   obtain⟨A,cp,rfl,q1,q2,q3⟩:=HR.o.env (λq e=>HSS.o q e);rw[dH] at q1 ⊢;have HP:ak (∃ A2 cp2,Ending.returned (V A j cp)=If (V A2 (j:Int).toNat cp2)/\(j:Int).toNat<=cp2/\cp2<=I2/\fK wr S j A2 (kX j (j:Int).toNat)/\Ix w.heap.size w wr):=⟨A,cp,rfl,q1,q2,q3,jF.o⟩
   clear q1 q2 q3;go_wp2;go_ret;exact HP.o
end
end Go.Proofs.YtgfkglhelfkpoaaGreat
