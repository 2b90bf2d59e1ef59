/- Parts of the proof. -/
import Derived.Test.YtgfkglhelfkpoaaGreatRPE
set_option maxRecDepth 100000
set_option maxHeartbeats 2000000
open Go.Proofs.Tryz
open Go.Value renaming int→I,slice→V
open Go.IntKind renaming i64→J
open Option renaming some→M,none→U
open Go.Ending renaming returned→If
open Go.Obj renaming cells→Is
open Go renaming World→Iv,Calls→I0,maxLen→I2,Addr→I3
open Go.RowKit renaming Below→Ix
open Nat renaming le_refl→Jn,add_zero→Mm,zero_mul→Mn,zero_add→Mu
open Go.RowKit.Below renaming refl→Jx
open And renaming intro→J0
open List renaming length_map→My
open Int renaming toNat_natCast→Mz
namespace Go.Proofs.YtgfkglhelfkpoaaGreat
section
open Go.RowKit Plain
variable{u:Int}
theorem XQ{a b:List av}(h1:aQ u a=true)(h2:aQ u b=true):aQ u (kD (a++b))=decide ((kD (a++b)).length<=120):=by
 have hs:=bC h1;exact Gs (kQ hs.1 hs.2.1) (lN _) (yI _) λx hx=>by
  rcases List.mem_append.1 hx with h | h
  ·exact⟨x,bZ h1 h,rfl⟩
  ·exact⟨x,bZ h2 h,rfl⟩
noncomputable def aaQ (u k:Int):jD (List (List av))->jD (List av)
 | .err e=>.err e
 | .ok zs s1=>xD u k (zs.getD 0 []) (zs.getD 1 []) s1
variable{R:List av}{t:Nat}{rr:jD (List av)}
theorem zZ(hdec:aQ u R=decide (R.length<=120))(dG:rr=kR u R t):(R.length<=120->aQ u R=true/\gJ rr R (t:Int) 0)/\(¬ R.length<=120->rr=.err (oV 0 3)):=by
 refine⟨λhl=>?_,λhn=>?_⟩
 ·have h:aQ u R=true:=by rw[hdec];exact decide_eq_true hl
  refine⟨h, ?_⟩;rw[dG];unfold kR;rw[if_pos h];exact⟨rfl,rfl,rfl⟩
 ·have h:aQ u R=false:=by rw[hdec];exact decide_eq_false hn
  rw[dG];unfold kR;rw[if_neg (by rw[h];simp)];rfl
theorem aah{za zb:List av}{ok:Bool}(h1:aQ u za=true)(h2:aQ u zb=true)(hm:Ke za zb=(R,ok))(dG:rr=kR u (kD (bX za zb)) t):(ok=true->R.length<=120->aQ u R=true/\gJ rr R (t:Int) 0)/\(¬ (ok=true/\R.length<=120)->rr=.err (oV 0 3))/\R.length<=1048576/\rE R<=1048576:=by
 by_cases hb:I6 za zb
 ·rw[Kg hb] at hm
  injection hm with e1 e2
  subst e1 e2;refine⟨λh=>by simp at h,λ_=>?_,by simp,by simp[rE,Lj]⟩;rw[dG];unfold kR;rw[if_neg (by rw[afF h1 h2 hb];simp)];rfl
 ·rw[BU hb] at hm
  injection hm with e1 e2
  subst e1 e2;have:=aee h1 h2;have hg:=zZ (aix h1 h2 hb) dG;exact⟨λ_ hl=>hg.1 hl,λhn=>hg.2 λhl=>hn ⟨rfl,hl⟩,ah,this.2⟩
theorem aaR(P:List Fn)(x:Nd)(u:Int)(f:Nat)(IH:rG P u f)(env:List (List av))(t:Nat)(fn:Int)(b o B:Nat)(S:Nat->Prop)(bv:Nat)(A:Option I3)(aW bp op:Nat)(w:Iv)(hI:qd w B bv 1 P bp op)(hS:ni w B S bv u)(hst:au w bv 161 (iy u bp op++[I J t,I J 0]))(hN:iP w B S u P fn x b o A env aW)(ht:t<=3000)(hf:3001<=t+f)(hk:x.k=3∨x.k=4∨x.k=5∨x.k=6) :
  I0 Tryz.prog 202 #[.pointer (M ⟨bv,0,U⟩),ptr b o,V A env.length aW] w (dM S bv u 161 (iy u bp op) (aaQ u x.k (cB (pv u P f) env x.ks t)) w):=by
 have hl2:=jV (N:=2) hN.form (.inl ⟨ah,rfl⟩);obtain⟨a,ha⟩:=Es.eG (show 0<x.ks.len by omega);obtain⟨b2,hb⟩:=Es.eG (show 1<x.ks.len by omega);have hks:=Zi hl2 ha hb;obtain⟨rr,dG⟩:=aD (aaQ u x.k (cB (pv u P f) env x.ks t))
 rw[<-dG];obtain⟨R,hR⟩:=aD (mI u P f 0 x.ks env t)
 have HRR:ak (rr=aaQ u x.k R):=by show _=_;rw[dG,hR];unfold mI;rw[if_pos rfl]
 have DX:ak (lI u P f R (.cons a.k a.n a.p a.c a.ks (.cons b2.k b2.n b2.p b2.c b2.ks .nil)) env [] (t:Int) 0):=by rw[hR,hks];exact lI.start λ_=>⟨rfl,ah,ah⟩
 have HNZ:ak (∀ z s c,gJ R z s c->c=0->∃ t1:Nat,s=t1/\R=.ok z t1):=λz s c h hc=>by
  rw[hR] at h;obtain⟨_,t1,h1,_,_,h4⟩:=iY h hc;exact⟨t1,h1,by rw[hR];unfold mI;rw[if_pos rfl];exact h4⟩
 have xL:ak (∀ z s c,gJ R z s c->c≠0->R=.err c):=λz s c h hc=>by
  rw[hR] at h;have:=jS h hc rfl;rw[hR];unfold mI;rw[if_pos rfl];exact this
 clear dG hR hks;have qK:=aj IH;clear IH;have HHA:=aj ha;have Tg:=aj hb;have HK:=aj hk;clear ha hb;have al:=hI.lt;have hB:=hI.blow;have u0:=hS.u0;have u1:=hS.u1;obtain⟨W0,aZ⟩:=aD (w.alloc (Is #[I J 0,V U 0 0] 86))
 have hg0:Ix w.heap.size w W0:=by rw[aZ];go_grown
 have hs0:W0.heap.size=w.heap.size+1:=by rw[aZ];simp
 have hq:au W0 w.heap.size 86 [I J 0,V U 0 0]:=by rw[aZ];exact au.new w _ _
 have hS0:=hst.next hg0;have YK:ni W0 B (aS S w.heap.size) bv u:=hS.fresh ah (Jn _) ah ah;have hI0:=hI.only (aC.of_below hg0);have mY:aC S w W0:=aC.of_below hg0;obtain⟨K,cap,bk,ok,lD,k0,k1,k2,k3,k4,hcap,hlc,hK,iI⟩:=hN.parts;have hbw:b<w.heap.size:=ah;have hbn:b≠bv:=ah;have j0:W0.cell? ⟨b,o,U⟩=M (I J x.k):=aB k0 hg0;have j4:W0.cell? ⟨b,o+4,U⟩=M (V K x.ks.len cap):=aB k4 hg0
 have hbW:b<W0.heap.size:=ah;have dI:=aj aZ;have y5:=aj iI;have HN:=aj hN;have HI0:=aj hI0;have LZ:=aj YK;have gQ:=aj hS0;have HOS:=aj mY;have HQ:=aj hq;have Qx:=aj hg0;have HZ0:=aj hs0;have hK:=hK ah;subst hK;have l0:(0:Int)<(x.ks.len:Int):=ah;have l1:(1:Int)<(x.ks.len:Int):=ah;have l0n:0<x.ks.len:=ah;have l1n:1<x.ks.len:=ah;have Er:=(iI 0 a HHA.o).below (hg0.mono ah)
 rw[Mn,Mm] at Er;have VJ:=aj (hN.kid mY (Jn _) HHA.o (.inl ah) Er);have BH:=aj (J0 k0 k4);clear Er hk hl2;clear hI hst aZ hg0 hS0 iI k0 k1 k2 k3 k4 hI0 YK mY hq hs0 hN;go_enter func202,ntmps202;go_upto_region 1 with fail;rw[<-dI.o];go_wp2_with fail;refine (qK.o a env (t:Int) t 0 fn bk ok B (aS S w.heap.size) bv A aW bp op W0 HI0.o LZ.o gQ.o (λ_=>⟨rfl,ah,ah⟩) VJ.o).mono ?_;rintro e w1 ⟨v,za,s1,c1,rfl,⟨Aa,ca,rfl,hpa,hka⟩,hS1,fC,hres⟩
 have Bh:ak (lI u P f R (.cons b2.k b2.n b2.p b2.c b2.ks .nil) env ([]++[za]) s1 c1):=DX.o.step (by rw[Mz];exact hres);obtain⟨hb1,x0,x1,hs1⟩:=zB (w1:=w1) (u:=u) (Az:=Aa) (n:=za.length) (cz:=ca);have hOa:aC (λq=>q=bv) w (w1.alloc (Is #[I J u,V Aa za.length ca] 86)):=((aC.of_below Qx.o).trans fC).trans (aC.of_below hb1);have hOW:=fC.trans (aC.of_below (S:=λq=>q=bv) hb1)
 have hsz1:w.heap.size+1<=w1.heap.size:=by have:=fC.size;have:=HZ0.o;omega
 have i4:(w1.alloc (Is #[I J u,V Aa za.length ca] 86)).cell? ⟨b,o+4,U⟩=M (V (M ⟨bk,ok,U⟩) x.ks.len cap):=(hOa.cell (a:=⟨b,_,U⟩) hbw hbn).trans BH.o.2;have bl1:b<(w1.alloc (Is #[I J u,V Aa za.length ca] 86)).heap.size:=by have:=hOa.size;omega
 have CX:=(y5.o 1 b2 Tg.o).below (bI hOa hB al);rw[Nat.one_mul] at CX;have HSb:=aj (HN.o.kid (hOa.sub λq e=>by rw[e];exact hS.bv) (Jn _) Tg.o (.inl (by have:=HK.o;omega)) CX);have HI1:=aj (HI0.o.only hOW);have agK:=aj (LZ.o.mono hOW.size);have eu:=aj (hS1.next hb1);have HPa:=aj (J0 (hpa.only (aC.of_below hb1)) hka);have HOa:=aj hOa;have HXa:=aj (J0 x0 x1)
 have nJ:=aj hOW;clear hpa hka hS1 fC hres hb1 hs1 CX hOa hOW VJ x0 x1;go_wp2_with fail;refine (qK.o b2 env s1 s1.toNat c1 fn bk (ok+5) B (aS S w.heap.size) bv A aW bp op _ HI1.o agK.o eu.o Bh.o.now HSb.o).mono ?_;rintro e w2 ⟨v,zb,s2,c2,rfl,⟨Ab,cb,rfl,hpb,hkb⟩,hS2,hO2,hres⟩;have Ik:=aj (Bh.o.step hres).end_;obtain⟨hb2,x2,x3,hs2⟩:=zB (w1:=w2) (u:=u) (Az:=Ab) (n:=zb.length) (cz:=cb)
 have hsz2:w1.heap.size+1<=w2.heap.size:=by have:=hO2.size;simp at this;omega
 have hOb:aC (λq=>q=bv) (w1.alloc (Is #[I J u,V Aa za.length ca] 86)) (w2.alloc (Is #[I J u,V Ab zb.length cb] 86)):=hO2.trans (aC.of_below hb2);have abd:w1.heap.size≠bv:=ah;have ahA:w1.heap.size<(w1.alloc (Is #[I J u,V Aa za.length ca] 86)).heap.size:=by simp
 have x0:=(hOb.cell (a:=⟨w1.heap.size,0,U⟩) ahA abd).trans HXa.o.1;have x1:=(hOb.cell (a:=⟨w1.heap.size,1,U⟩) ahA abd).trans HXa.o.2;have xM:=aj (J0 (HPa.o.1.only (hOb.sub λq e=>by rw[e];exact LZ.o.bv)) HPa.o.2);have QD:=aj (J0 (hpb.only (aC.of_below hb2)) hkb);have HOF:=aj (HOa.o.trans hOb);have aa9:=hS2.next hb2;have d3:(w2.alloc (Is #[I J u,V Ab zb.length cb] 86)).cell? ⟨bv,3,U⟩=M (I J c2):=ay aa9
 have dl:bv<(w2.alloc (Is #[I J u,V Ab zb.length cb] 86)).heap.size:=aa9.lt;have i0:(w2.alloc (Is #[I J u,V Ab zb.length cb] 86)).cell? ⟨b,o,U⟩=M (I J x.k):=(HOF.o.cell (a:=⟨b,_,U⟩) hbw hbn).trans BH.o.1;have bl2:b<(w2.alloc (Is #[I J u,V Ab zb.length cb] 86)).heap.size:=by have:=HOF.o.size;omega
 have HS2:=aj aa9;have nQ:=aj (agK.o.mono hOb.size);have sj:=aj (aM (aM HQ.o nJ.o ah) hOb ah);have IY:=aj (J0 x0 (J0 x1 (J0 x2 x3)));clear hpb hkb hS2 aa9 hO2 hres hs2 hOb HSb HPa Bh DX i4 bl1;go_upto_region 3 with fail;change Code.wp _ _ _ _ (w2.alloc (Is #[I J u,V Ab zb.length cb] 86));generalize hW2:w2.alloc (Is #[I J u,V Ab zb.length cb] 86)=W2 at *
 generalize w1.heap.size=g7 at *;generalize w2.heap.size=g8 at *;clear hW2
 by_cases hd:c2=0
 ·have Lb:(c2 != 0)=false:=by simpa using hd
  obtain⟨t2,hs2,ahz⟩:=HNZ.o _ _ _ Ik.o hd;subst hd hs2;have m_:ak (rr=xD u x.k za zb t2):=by show _=_;rw[HRR.o,ahz];rfl
  clear ahz HRR Ik HNZ xL
  rcases HK.o with hk | hk | hk | hk
  ·rw[hk] at i0
   have HA:=aj (w_ 1 g7 0 g8 0 u Aa Ab ca cb za zb W2 x0 x1 x3 xM.o.1.now QD.o.1.now xM.o.2 QD.o.2);have HRL:ak (rr=kR u (kD (za++dW 1 zb)) t2):=by show _=_;rw[m_.o];unfold xD;rw[if_pos hk,yP (dV QD.o.2)]
   have hsb:=gD (k:=1) QD.o.2 ah ah;have HTG:=aj (zZ (XQ xM.o.2 hsb) HRL.o);have yX:=aj (BL xM.o.2 hsb);clear hsb hk;go_wp2_with fail;refine HA.o.mono ?_;rintro e w3 ⟨A3,c3,rfl,E_,hb3⟩;have Io:=aj (zY u t2 0 (aS S w.heap.size) bv bp op c3 A3 _ true rr w3 (HS2.o.next hb3) (iK.of (E_.rt hb3.size) (by have:=yX.o;omega) nQ.o.lt) u0 u1 yX.o.1 (λ_ h=>HTG.o.1 h) (λh=>HTG.o.2 λhl=>h ⟨rfl,hl⟩))
   have QE:=aj (sj.o.next hb3);have mK:=aj (HOF.o.trans (aC.of_below hb3));clear E_ hb3 HA x0 x1 x2 x3;go_wp2_with fail;refine Io.o.mono ?_;rintro e w4 ⟨v,jM,s4,c4,rfl,⟨A4,rR,rfl,vw,hk4⟩,qR,hO4,fZ⟩;have hE:eO S bv u 161 (iy u bp op) rr w.heap.size w w4 A4 jM.length rR:=fq vw hk4 qR (mK.o.trans hO4) fZ (Jn _) al (aM QE.o hO4 ah);clear vw hk4 qR hO4 fZ Io
   obtain⟨⟨c0,c1,q0,q1⟩,⟨y0,y1⟩,dz⟩:=hE;have fI:=aj dz;clear dz;go_wp2;refine bodyPost_ret (v:=fJ u A4 jM.length rR) (by simp[results,results202,go_sem,y0,y1]) rfl ?_;exact fI.o
  ·rw[hk] at i0
   have HA:=aj (w_ 1000002 g7 0 g8 0 u Aa Ab ca cb za zb W2 x0 x1 x3 xM.o.1.now QD.o.1.now xM.o.2 QD.o.2);have HRL:ak (rr=kR u (kD (za++dW 1000002 zb)) t2):=by show _=_;rw[m_.o];unfold xD;rw[if_neg ah,if_pos hk]
   have hsb:=gD (k:=1000002) QD.o.2 ah ah;have HTG:=aj (zZ (XQ xM.o.2 hsb) HRL.o);have yX:=aj (BL xM.o.2 hsb);clear hsb hk;go_wp2_with fail;refine HA.o.mono ?_;rintro e w3 ⟨A3,c3,rfl,E_,hb3⟩;have Io:=aj (zY u t2 0 (aS S w.heap.size) bv bp op c3 A3 _ true rr w3 (HS2.o.next hb3) (iK.of (E_.rt hb3.size) (by have:=yX.o;omega) nQ.o.lt) u0 u1 yX.o.1 (λ_ h=>HTG.o.1 h) (λh=>HTG.o.2 λhl=>h ⟨rfl,hl⟩))
   have QE:=aj (sj.o.next hb3);have mK:=aj (HOF.o.trans (aC.of_below hb3));clear E_ hb3 HA x0 x1 x2 x3;go_wp2_with fail;refine Io.o.mono ?_;rintro e w4 ⟨v,jM,s4,c4,rfl,⟨A4,rR,rfl,vw,hk4⟩,qR,hO4,fZ⟩;have hE:eO S bv u 161 (iy u bp op) rr w.heap.size w w4 A4 jM.length rR:=fq vw hk4 qR (mK.o.trans hO4) fZ (Jn _) al (aM QE.o hO4 ah);clear vw hk4 qR hO4 fZ Io
   obtain⟨⟨c0,c1,q0,q1⟩,⟨y0,y1⟩,dz⟩:=hE;have fI:=aj dz;clear dz;go_wp2;refine bodyPost_ret (v:=fJ u A4 jM.length rR) (by simp[results,results202,go_sem,y0,y1]) rfl ?_;exact fI.o
  ·rw[hk] at i0
   have HA:=aj (N8 g7 0 g8 0 u Aa Ab ca cb za zb W2 x0 x1 x3 xM.o.1.now QD.o.1.now xM.o.2 QD.o.2);have HRL:ak (rr=kR u (kD (bX za zb)) t2):=by show _=_;rw[m_.o];unfold xD;rw[if_neg ah,if_neg ah,if_pos hk]
   clear hk;go_wp2_with fail;refine HA.o.mono ?_;rintro e w3 ⟨A3,c3,R3,ok3,hm,rfl,E_,hb3⟩;have HTG:=aj (aah xM.o.2 QD.o.2 hm HRL.o);obtain⟨hb4,y0',y1',hs4⟩:=zB (w1:=w3) (u:=u) (Az:=A3) (n:=R3.length) (cz:=c3);have hb5:=hb3.trans (hb4.mono hb3.size);have Io:=aj (zY u t2 0 (aS S w.heap.size) bv bp op c3 A3 R3 ok3 rr (w3.alloc (Is #[I J u,V A3 R3.length c3] 86)) (HS2.o.next hb5) ((iK.of (E_.rt hb3.size) (by have:=HTG.o.2.2;omega) nQ.o.lt).only (aC.of_below hb4)) u0 u1 HTG.o.2.2.1 HTG.o.1 HTG.o.2.1)
   have QE:=aj (sj.o.next hb5);have mK:=aj (HOF.o.trans (aC.of_below hb5));clear E_ hb3 HA x0 x1 x2 x3 hm hb4 hb5 hs4;go_wp2_with fail;refine Io.o.mono ?_;rintro e w4 ⟨v,jM,s4,c4,rfl,⟨A4,rR,rfl,vw,hk4⟩,qR,hO4,fZ⟩;have hE:eO S bv u 161 (iy u bp op) rr w.heap.size w w4 A4 jM.length rR:=fq vw hk4 qR (mK.o.trans hO4) fZ (Jn _) al (aM QE.o hO4 ah)
   clear vw hk4 qR hO4 fZ Io y0' y1';obtain⟨⟨c0,c1,q0,q1⟩,⟨y0,y1⟩,dz⟩:=hE;have fI:=aj dz;clear dz;go_wp2;refine bodyPost_ret (v:=fJ u A4 jM.length rR) (by simp[results,results202,go_sem,y0,y1]) rfl ?_;exact fI.o
  ·rw[hk] at i0
   have Vv:=aj (AZ u 0 t2 bv bp op g8 0 cb Ab zb W2 HS2.o x3 QD.o.1.now QD.o.2);have HRL:ak (rr=Gi za zb t2):=by show _=_;rw[m_.o];unfold xD Gi;rw[if_neg ah,if_neg ah,if_neg ah,if_neg ah];cases iq zb<;>rfl
   clear hk;go_wp2_with fail;refine Vv.o.mono ?_;rintro e w3 ⟨n,s3,M_,rfl,mP,hO3,nZ⟩;have agy:=aj nZ;have mK:=aj hO3;have EJ:=aj mP;have dd3:w3.cell? ⟨bv,3,U⟩=M (I J M_):=ay mP
   have dl3:=mP.lt;have QE:=aj (aM sj.o hO3 ah);have aeN:=aj (HOF.o.trans hO3);have ajU:=aj (nQ.o.mono hO3.size);clear nZ mP hO3 Vv x0 x1 x2 x3
   by_cases hz:n=0
   ·have yX:=aj (HRL.o.trans (Ji agy.o hz))
    by_cases YZ:M_=0
    ·have z0:(M_==0)=true:=by simpa using YZ
     have z1:(n==0)=true:=by simpa using hz
     have HF:=aj (jv u M_ s3 6 (aS S w.heap.size) bv bp op w3 EJ.o u0 u1);clear hz YZ;go_wp2_with fail;refine HF.o.mono ?_;rintro e w4 ⟨v,jM,s4,c4,rfl,⟨A4,rR,rfl,vw,hk4⟩,qR,hO4,fZ⟩;rw[show oV M_ 6=(if M_=0 then 6 else M_) from rfl,<-yX.o] at fZ;have hE:eO S bv u 161 (iy u bp op) rr w.heap.size w w4 A4 jM.length rR:=fq vw hk4 qR (aeN.o.trans hO4) fZ (Jn _) al (aM QE.o hO4 ah)
     clear vw hk4 qR hO4 fZ HF;obtain⟨⟨c0,c1,q0,q1⟩,⟨y0,y1⟩,dz⟩:=hE;have fI:=aj dz;clear dz;go_wp2;refine bodyPost_ret (v:=fJ u A4 jM.length rR) (by simp[results,results202,go_sem,y0,y1]) rfl ?_;exact fI.o
    ·have z0:(M_==0)=false:=by simpa using YZ
     have z1:(M_ != 0)=true:=by simpa using YZ
     have HF:=aj (jv u M_ s3 M_ (aS S w.heap.size) bv bp op w3 EJ.o u0 u1);have HFC:ak (oV M_ M_=(if M_=0 then 6 else M_)):=by show _=_;unfold oV;rw[if_neg YZ,if_neg YZ]
     clear hz YZ;go_wp2_with fail;refine HF.o.mono ?_;rintro e w4 ⟨v,jM,s4,c4,rfl,⟨A4,rR,rfl,vw,hk4⟩,qR,hO4,fZ⟩;rw[HFC.o,<-yX.o] at fZ;have hE:eO S bv u 161 (iy u bp op) rr w.heap.size w w4 A4 jM.length rR:=fq vw hk4 qR (aeN.o.trans hO4) fZ (Jn _) al (aM QE.o hO4 ah);clear vw hk4 qR hO4 fZ HF;obtain⟨⟨c0,c1,q0,q1⟩,⟨y0,y1⟩,dz⟩:=hE;have fI:=aj dz
     clear dz;go_wp2;refine bodyPost_ret (v:=fJ u A4 jM.length rR) (by simp[results,results202,go_sem,y0,y1]) rfl ?_;exact fI.o
   ·have z0:(n==0)=false:=by simpa using hz
    obtain⟨hr1,hr2,hr3,hr4⟩:=ET (a:=za) (s:=t2) agy.o hz;have hbd:=Qi QD.o.2 hr4;obtain⟨i1,i2⟩:=Ze hbd.1 hbd.2 hz;subst hr2 hr3;have x0:w3.cell? ⟨g7,0,U⟩=M (I J u):=(mK.o.cell (a:=⟨g7,_,U⟩) (World.block_lt_of_cell? _ _ IY.o.1) abd).trans IY.o.1;have akR:g7<W2.heap.size:=World.block_lt_of_cell? _ _ IY.o.1;have x1:w3.cell? ⟨g7,1,U⟩=M (V Aa za.length ca):=(mK.o.cell (a:=⟨g7,1,U⟩) akR abd).trans IY.o.2.1
    have HSC:=aj (l8 (iv n) i1 i2 g7 0 u Aa ca za w3 x0 x1 (xM.o.1.only (mK.o.sub λq e=>by rw[e];exact LZ.o.bv)).now xM.o.2);have aaF:=aj (HRL.o.trans hr1);have Il:=aj (gD (k:=iv n) xM.o.2 i1 i2);have HIV:=aj (λwx=>Zd n wx);generalize iv n=m at *;clear hr1 hr4 hz hbd;go_wp2_with fail;refine (HIV.o _).mono ?_;rintro e w' ⟨rfl,rfl⟩;go_wp2_with fail
    refine HSC.o.mono ?_;rintro e w4 ⟨A4,rR,rfl,E_,hb4⟩;have hE:eO S bv u 161 (iy u bp op) rr w.heap.size w w4 A4 (dW m za).length rR:=fq (iK.of (E_.rt hb4.size) (fG Il.o) ajU.o.lt) Il.o (EJ.o.next hb4) (aeN.o.trans (aC.of_below hb4)) (by rw[aaF.o];exact⟨rfl,rfl,rfl⟩) (Jn _) al (QE.o.next hb4);clear E_ hb4 HSC x0 x1;obtain⟨⟨c0,c1,q0,q1⟩,⟨y0,y1⟩,dz⟩:=hE
    have fI:=aj dz;clear dz;go_wp2;refine bodyPost_ret (v:=fJ u A4 (dW m za).length rR) (by simp[results,results202,go_sem,y0,y1]) rfl ?_;exact fI.o
 ·have Lb:(c2 != 0)=true:=by simpa using hd
  have HB2:=aj (xL.o _ _ _ Ik.o hd);have HF:=aj (jv u c2 s2 c2 (aS S w.heap.size) bv bp op W2 HS2.o u0 u1);have HFC:ak (oV c2 c2=c2):=if_neg hd;have Im:ak (rr=.err c2):=by show _=_;rw[HRR.o,HB2.o];rfl
  clear hd;go_wp2_with fail;refine HF.o.mono ?_;rintro e w4 ⟨v,jM,s4,c4,rfl,⟨A4,rR,rfl,vw,hk4⟩,qR,hO4,fZ⟩;rw[HFC.o,<-Im.o] at fZ;have hE:eO S bv u 161 (iy u bp op) rr w.heap.size w w4 A4 jM.length rR:=fq vw hk4 qR (HOF.o.trans hO4) fZ (Jn _) al (aM sj.o hO4 ah);clear vw hk4 qR hO4 fZ HF;obtain⟨⟨c0,c1,q0,q1⟩,⟨y0,y1⟩,dz⟩:=hE;have fI:=aj dz
  clear dz;go_wp2;refine bodyPost_ret (v:=fJ u A4 jM.length rR) (by simp[results,results202,go_sem,y0,y1]) rfl ?_;exact fI.o
theorem Q6(P:List Fn)(x:Nd)(u:Int)(f:Nat)(IH:rG P u f)(env:List (List av))(t:Nat)(fn:Int)(b o B:Nat)(S:Nat->Prop)(bv:Nat)(A:Option I3)(aW bp op:Nat)(w:Iv)(hI:qd w B bv 1 P bp op)(hS:ni w B S bv u)(hst:au w bv 161 (iy u bp op++[I J t,I J 0]))(hN:iP w B S u P fn x b o A env aW)(hs:t<3000)(hf:3001<=t+(f+1))(hk:x.k=3∨x.k=4∨x.k=5∨x.k=6) :
  I0 Tryz.prog 123 #[.pointer (M ⟨bv,0,U⟩),ptr b o,V A env.length aW] w (dM S bv u 161 (iy u bp op) (pv u P (f+1) x env t) w):=by
 have iZ:ak (pv u P (f+1) x env t=aaQ u x.k (cB (pv u P f) env x.ks (t+1))):=by
  show _=_;rw[pv,if_neg ah,if_neg ah,if_neg ah,if_neg ah,if_neg ah];cases cB (pv u P f) env x.ks (t+1) with
  | err e=>rfl
  | ok zs s1=>simp only;rw[if_neg ah,if_neg ah];rfl
 obtain⟨rr,dG⟩:=aD (pv u P (f+1) x env t)
 rw[<-dG];have HRR:=aj (dG.trans iZ.o);clear iZ dG;have al:=hI.lt;have hB:=hI.blow;have u0:=hS.u0;have u1:=hS.u1;have hQ:=uQ hI hS hst;obtain⟨W0,aZ⟩:=aD (w.alloc (Is #[I J 0,V U 0 0] 86))
 obtain⟨W1,kK⟩:∃ W1,W1=W0.setCell ⟨bv,2,U⟩ (I J ((t:Int)+1)):=⟨_,rfl⟩
 rw[<-aZ,<-kK] at hQ;have hg0:Ix w.heap.size w W0:=by rw[aZ];go_grown
 have hS0:=hst.next hg0;have Nz:bv<W0.heap.size:=hS0.lt;have a2:W0.cell? ⟨bv,2,U⟩=M (I J t):=ay hS0
 have a3:W0.cell? ⟨bv,3,U⟩=M (I J 0):=ay hS0
 have z2:W0.frozen? ⟨bv,2,U⟩=false:=hS0.frozen _;have e1:((t:Int)==3000)=false:=by simp;omega
 obtain⟨K,cap,bk,ok,lD,k0,k1,k2,k3,k4,hcap,hlc,hK,iI⟩:=hN.parts;have hbw:b<w.heap.size:=ah;have hbn:b≠bv:=ah;have j0:W1.cell? ⟨b,o,U⟩=M (I J x.k):=(hQ.only.cell (a:=⟨b,_,U⟩) hbw hbn).trans k0;have j1:W1.cell? ⟨b,o+1,U⟩=M (I J x.n):=(hQ.only.cell (a:=⟨b,_,U⟩) hbw hbn).trans k1;have j4:W1.cell? ⟨b,o+4,U⟩=M (V K x.ks.len cap):=(hQ.only.cell (a:=⟨b,_,U⟩) hbw hbn).trans k4
 have hbW:b<W1.heap.size:=by have:=hQ.only.size;omega
 have dI:=aj aZ;have HW1:=aj kK;have HQ:=aj hQ;have y5:=aj iI;have vQ:=aj (aaR P x u f IH env (t+1) fn b o B (aS S w.heap.size) bv A aW bp op W1 hQ.ev hQ.si hQ.st (hN.self (hQ.only.sub λq e=>by rw[e];exact hS.bv) (bI hQ.only hB al) (Jn _)) ah ah hk);rw[<-HRR.o] at vQ;obtain⟨kx,hkx⟩:=aD x.k
 rw[<-hkx] at j0 hk;have m1:(kx==1)=false:=by simp;omega
 have m2:(kx==2)=false:=by simp;omega
 have m7:(kx==7)=false:=by simp;omega
 have m8:(kx==8)=false:=by simp;omega
 have m9:(kx==9)=false:=by simp;omega
 have m10:(kx==10)=false:=by simp;omega
 have m11:(kx==11)=false:=by simp;omega
 clear hN IH hk hkx;clear hI hst aZ kK hQ hg0 hS0 iI k0 k1 k2 k3 k4;go_enter func123,ntmps123;go_upto_region 1 with fail;rw[<-dI.o];go_upto_region 6 with fail;rw[<-HW1.o];go_wp2_with fail;refine vQ.o.mono ?_;rintro e w3 ⟨v,wE,s3,c3,rfl,⟨A3,jr,rfl,hp3,qH⟩,mP,hO3,dK⟩;have hE:eO S bv u 161 (iy u bp op) rr w.heap.size w w3 A3 wE.length jr:=fq hp3 qH mP (HQ.o.only.trans hO3) dK (Jn _) al (aM HQ.o.rb hO3 ah)
 clear hp3 qH mP hO3 dK vQ;obtain⟨⟨c0,c1,q0,q1⟩,⟨y0,y1⟩,dz⟩:=hE;have fI:=aj dz;clear dz;go_wp2;refine bodyPost_ret (v:=fJ u A3 wE.length jr) (by simp[results,results123,go_sem,y0,y1]) rfl ?_;exact fI.o
theorem Q7(P:List Fn)(x:Nd)(u:Int)(f:Nat)(IH:rG P u f)(env:List (List av))(t:Nat)(fn:Int)(b o B:Nat)(S:Nat->Prop)(bv:Nat)(A:Option I3)(aW bp op:Nat)(w:Iv)(hI:qd w B bv 1 P bp op)(hS:ni w B S bv u)(hst:au w bv 161 (iy u bp op++[I J t,I J 0]))(hN:iP w B S u P fn x b o A env aW)(hs:t<3000)(hf:3001<=t+(f+1))(hk:x.k=9) :
  I0 Tryz.prog 123 #[.pointer (M ⟨bv,0,U⟩),ptr b o,V A env.length aW] w (dM S bv u 161 (iy u bp op) (pv u P (f+1) x env t) w):=by
 obtain⟨i0,hi,hz0,hz1,hz2⟩:=info_parts Tryz.infoPo;have hl2:=CK hN.form hk;obtain⟨a,ha⟩:=Es.eG (show 0<x.ks.len by omega);obtain⟨b2,hb⟩:=Es.eG (show 1<x.ks.len by omega);have iZ:ak (pv u P (f+1) x env t=match pv u P f a env (t+1) with | .err e=>.err e | .ok z s1=>pv u P f b2 (env++[z]) s1):=by
  show _=_;rw[pv,if_neg ah,if_neg ah,if_neg ah,if_neg ah,if_pos hk,ha,hb]
  all_goals rfl
 obtain⟨rr,dG⟩:=aD (pv u P (f+1) x env t)
 rw[<-dG];have HRR:=aj (dG.trans iZ.o);clear iZ dG;have qK:=aj IH;clear IH;have HKK:=aj hk;have Tg:=aj hb;have al:=hI.lt;have hB:=hI.blow;have u0:=hS.u0;have u1:=hS.u1;have hQ:=uQ hI hS hst;obtain⟨W0,aZ⟩:=aD (w.alloc (Is #[I J 0,V U 0 0] 86))
 obtain⟨W1,kK⟩:∃ W1,W1=W0.setCell ⟨bv,2,U⟩ (I J ((t:Int)+1)):=⟨_,rfl⟩
 rw[<-aZ,<-kK] at hQ;have hg0:Ix w.heap.size w W0:=by rw[aZ];go_grown
 have hS0:=hst.next hg0;have Nz:bv<W0.heap.size:=hS0.lt;have a2:W0.cell? ⟨bv,2,U⟩=M (I J t):=ay hS0
 have a3:W0.cell? ⟨bv,3,U⟩=M (I J 0):=ay hS0
 have z2:W0.frozen? ⟨bv,2,U⟩=false:=hS0.frozen _;have e1:((t:Int)==3000)=false:=by simp;omega
 obtain⟨K,cap,bk,ok,lD,k0,k1,k2,k3,k4,hcap,hlc,hK,iI⟩:=hN.parts;have hbw:b<w.heap.size:=ah;have hbn:b≠bv:=ah;have j0:W1.cell? ⟨b,o,U⟩=M (I J x.k):=(hQ.only.cell (a:=⟨b,_,U⟩) hbw hbn).trans k0;have j1:W1.cell? ⟨b,o+1,U⟩=M (I J x.n):=(hQ.only.cell (a:=⟨b,_,U⟩) hbw hbn).trans k1;have j4:W1.cell? ⟨b,o+4,U⟩=M (V K x.ks.len cap):=(hQ.only.cell (a:=⟨b,_,U⟩) hbw hbn).trans k4
 have hbW:b<W1.heap.size:=by have:=hQ.only.size;omega
 have dI:=aj aZ;have HW1:=aj kK;have HQ:=aj hQ;have y5:=aj iI;rw[hk] at j0;have hK:=hK ah;subst hK;have l0:(0:Int)<(x.ks.len:Int):=ah;have l1:(1:Int)<(x.ks.len:Int):=ah;have l0n:0<x.ks.len:=ah;have l1n:1<x.ks.len:=ah;have Er:=(iI 0 a ha).below (bI hQ.only hB al);rw[Mn,Mm] at Er;have VJ:=aj (hN.kid (hQ.only.sub λq e=>by rw[e];exact hS.bv) (Jn _) ha (.inr ah) Er)
 have HN:=aj hN;have BH:=aj k4;have hel:=hN.el;have Rx:=hN.big;have hdp:=Es.iG hb;have hem:aW<=9223372036854775807:=by have:=hN.em;unfold I2 at this;omega
 clear hN Er ha hb hk hl2;clear hI hst aZ kK hQ hg0 hS0 iI k0 k1 k2 k3 k4;go_enter func123,ntmps123;go_upto_region 1 with fail;rw[<-dI.o];go_upto_region 6 with fail;rw[<-HW1.o];go_wp2_with fail;refine (qK.o a env ((t+1:Nat):Int) (t+1) 0 fn bk ok B (aS S w.heap.size) bv A aW bp op _ HQ.o.ev HQ.o.si HQ.o.st (λ_=>⟨rfl,ah,ah⟩) VJ.o).mono ?_;rintro e w1 ⟨v,zs,s',c',rfl,⟨Az,cz,rfl,hpz,hkz⟩,hS1,fC,hres⟩
 obtain⟨hb1,x0,x1,hs1⟩:=zB (w1:=w1) (u:=u) (Az:=Az) (n:=zs.length) (cz:=cz);have hO2:=(HQ.o.only.trans fC).trans (aC.of_below (S:=λq=>q=bv) hb1);have HS2:=aj (hS1.next hb1);have xI:=aj (J0 (hpz.only (aC.of_below hb1)) hkz);have HX:=aj (J0 x0 x1);have sj:=aj (aM HQ.o.rb (fC.trans (aC.of_below hb1)) ah);have nQ:=aj (HQ.o.si.mono (fC.trans (aC.of_below (S:=λq=>q=bv) hb1)).size)
 have Qz:=aj (HQ.o.ev.only (fC.trans (aC.of_below hb1)));have rO:=aj hO2;have fD:=aj hres;have hsz1:w.heap.size+1<=w1.heap.size:=by have:=fC.size;have:=HQ.o.size;omega
 clear hpz hkz hS1 fC hO2 hres hb1 hs1 VJ x0 x1;go_upto_region 18 with fail;change Code.wp _ _ _ _ (w1.alloc (Is #[I J u,V Az zs.length cz] 86));have akq:w1.heap.size+1=(w1.alloc (Is #[I J u,V Az zs.length cz] 86)).heap.size:=by simp
 generalize w1.alloc (Is #[I J u,V Az zs.length cz] 86)=W2 at *;have hg8:w1.heap.size<W2.heap.size:=ah;clear akq;generalize w1.heap.size=g8 at *;go_wp2
 go_loopw [9,10] (λo_ i wr=>∃ (j g:Nat),i=I J (j:Int)/\j<=env.length/\ak (o_.ownBlock=M g/\W2.heap.size<=g/\g<wr.heap.size)/\ak (jc wr W2.heap.size (aS S w.heap.size) u o_ (env.take j))/\ak (Ix W2.heap.size W2 wr)) (λ_ i _=>env.length - (intOf i).toNat)
 case atStart=>exact⟨0,W2.heap.size,bE,Nat.zero_le _,⟨rfl,Jn _,by simp⟩,jc.start W2 _ u,by show Ix _ _ _;go_grown⟩
 case round=>
  obtain⟨j,g,rfl,hj,hG,HR,jF⟩:=hrel;have hOr:aC (λq=>q=bv) w wr:=rO.o.trans (aC.of_below jF.o);have hEr:fK wr (aS (aS S w.heap.size) g) u A env:=((HN.o.qj.fresh (g:=w.heap.size) (aC.refl S w) (Jn _)).only (aC.refl _ w)).fresh (hOr.sub λq e=>by rw[e];exact .inl hS.bv) (by have:=hG.o.2.1;omega);obtain⟨ps,yj,hps,nC,AO⟩:=HR.o;have hpl:ps.length=j:=by have:=congrArg List.length hps;rw[My,List.length_take] at this;omega
  have mq:=aj yj;have BI:=aj AO;have mZ:=aj nC;have r_:=aj hps;have hwr:W2.heap.size<=wr.heap.size:=jF.o.size
  by_cases hlt:j<env.length
  ·have hjl:(j:Int)<(env.length:Int):=ah
   obtain⟨b1,o1,Aj,cj,rfl,ame,d0,d1,vY,dh⟩:=hEr.get (List.getElem?_eq_getElem hlt);obtain⟨ts,hts⟩:=aD (env[j])
   rw[<-hts] at d1 vY dh;have oN:=aj (J0 vY dh);have HTS:=aj hts;clear hEr yj hps nC AO HR vY dh hts;obtain⟨mM,hW1'⟩:=aD (wr.alloc (Is (jA u (ts,Aj,cj)).toArray 86))
   have hb2:Ix wr.heap.size wr mM:=by rw[hW1'];go_grown
   have hC2:au mM wr.heap.size 86 (jA u (ts,Aj,cj)):=by rw[hW1'];exact au.new _ _ _
   have nJ:=aj (mq.o.below hb2).own;have HB2:=aj hb2;have fH:=aj hC2;have sD:=aj hW1';clear hb2 hC2 hW1';go_wp2_with (at_builtin;change wpList _ _ _ _ _ (wr.alloc (Is (jA u (ts,Aj,cj)).toArray 86));rw[<-sD.o];refine wpList_append_own_at _ rfl _ _ 162 rfl W2.heap.size 86 i0 (.agg #[I J 0,V U 0 0]) 2 32 underlying162 hi hz0 hz1 hz2 rfl bM _ _ _ rfl nJ.o ⟨wr.heap.size,0,U⟩ 1 1 (jA u (ts,Aj,cj)) rfl rfl ?c1 ?c2 ?c3 ?c4 ?c5 ?_)
   case c1=>intro q z hz;rw[addr_add,Mu];exact (fH.o.cell q).trans hz
   case c2=>intro z hz;simp only[jA,List.mem_cons,List.not_mem_nil,or_false] at hz;rcases hz with rfl | rfl<;>rfl
   case c3=>simp only[My];unfold I2;omega
   case c4=>simp only[My];omega
   case c5=>have:=HB2.o.size;omega
   intro v2 w2 iA hg2 _ hat;have hown:w2.ownsRow W2.heap.size 86 2 v2 ((ps.map (mH (aS S w.heap.size) u)).length+1) ((ps.map (mH (aS S w.heap.size) u)).flatMap (·.1)++jA u (ts,Aj,cj)):=by
    rw[My,hpl];exact iA
   have hgl:=(mq.o.lt hG.o.1)
   obtain⟨hp2,hbl⟩:=jc.push (p:=(ts,Aj,cj)) mq.o (by rw[r_.o];exact mZ.o) BI.o hG.o.1 (Jx _ _) oN.o.1 oN.o.2 HB2.o hown hg2 hat;rw[r_.o] at hp2;have hg3:∃ g3,v2.ownBlock=M g3/\W2.heap.size<=g3/\g3<w2.heap.size:=by
    have hs2:=hg2.size;have hs1:=HB2.o.size
    rcases hat with e | e
    ·exact⟨g,e.trans hG.o.1,hgl.1,ah⟩
    ·exact⟨mM.heap.size,e,ah,(World.ownsRow.lt hown _ e).2⟩
   obtain⟨g3,hg3⟩:=hg3;have Ec:=aj hg3;have mU:ak (jc w2 W2.heap.size (aS S w.heap.size) u v2 (env.take (j+1))):=by show jc _ _ _ _ _ _;rw[DL env j _ (List.getElem?_eq_getElem hlt),<-HTS.o];exact hp2
   have Vg:=aj (jF.o.trans hbl);clear hown iA hg2 hat hp2 hbl hg3 mq BI mZ r_ nJ fH HB2 oN hgl sD HTS d0 d1;go_wp2
   go_roundw
   case rel=>exact⟨j+1,g3,bE,ah,Ec,mU,Vg⟩
   case measure=>simp[intOf];omega
  ·obtain rfl:j=env.length:=ah
   have m0:wr.cell? ⟨g8,0,U⟩=M (I J u):=aB HX.o.1 jF.o;have m1:wr.cell? ⟨g8,1,U⟩=M (V Az zs.length cz):=aB HX.o.2 jF.o;have i4:wr.cell? ⟨b,o+4,U⟩=M (V (M ⟨bk,ok,U⟩) x.ks.len cap):=(hOr.cell (a:=⟨b,_,U⟩) hbw hbn).trans BH.o;have hbr:b<wr.heap.size:=by have:=hOr.size;omega
   have vY:iK wr (aS (aS S w.heap.size) g) Az zs:=(xI.o.1.fresh hG.o.2.1).only (aC.of_below jF.o);have oN:=aj (J0 vY xI.o.2);have HOR:=aj hOr;clear hEr yj hps nC AO HR vY hOr;have hdr:Ix wr.heap.size wr wr.drew:=(Jx _ _).drew;have hb2:Ix wr.heap.size wr (wr.alloc (Is #[I J u,V Az zs.length cz] 86)).drew:=(show Ix wr.heap.size wr (wr.alloc (Is #[I J u,V Az zs.length cz] 86)) by go_grown).drew
   have hC2:au (wr.alloc (Is #[I J u,V Az zs.length cz] 86)).drew wr.heap.size 86 (jA u (zs,Az,cz)):=(au.new wr 86 (jA u (zs,Az,cz))).drewN 1;have nJ:=aj (mq.o.below hb2).own;have HB2:=aj hb2;have fH:=aj hC2;have HM:=aj (J0 i4 (J0 m0 m1));have Pf:ak (env.length+1<=I2/\(env.length+1)*32<=140737488355328):=⟨by unfold I2;omega,ah⟩
   have jh:ak (∀ (A3:Option I3) (c3:Nat) (w2:Iv),Ix W2.heap.size W2 w2->fK w2 (aS S w.heap.size) u A3 (env++[zs])->env.length+1<=c3->c3<=I2->I0 Tryz.prog 123 #[.pointer (M ⟨bv,0,U⟩),ptr bk (ok+5),V A3 (env.length+1) c3] w2 λe w3=>∃ A4 n4 rR,e=If (.agg #[I J u,V A4 n4 rR])/\eO S bv u 161 (iy u bp op) rr w.heap.size w w3 A4 n4 rR/\aC (λq=>q=bv) w2 w3):=by
    intro A3 c3 w2 hBl hE hc hm;have hO:aC (λq=>q=bv) W2 w2:=aC.of_below hBl;have nY:=kr HN.o.form Tg.o;have GJ:bQ x.k env.length 1=((env++[zs]).length:Int):=by rw[HKK.o,AU];simp
    rw[GJ] at nY;have hOw:=rO.o.trans hO;have CX:=(y5.o 1 b2 Tg.o).below (bI hOw hB al);rw[Nat.one_mul] at CX;have ak4:au w2 bv 161 (iy u bp op++[I J s',I J c']):=HS2.o.next hBl;have hz:=qK.o b2 (env++[zs]) s' s'.toNat c' fn bk (ok+5) B (aS S w.heap.size) bv A3 c3 bp op w2 (Qz.o.only hO) (nQ.o.mono hO.size) ak4 (λh=>by
     obtain⟨_,t1,rfl,h1,h2,_⟩:=iB fD.o h;exact⟨by simp,by simp;omega,by simp;omega⟩) ⟨CX,hE,by simp;omega,hm,by simp;omega,by have:=Es.dY Tg.o;have:=HN.o.size;omega,nY,HN.o.f0,HN.o.f1⟩
    rw[List.length_append] at hz;refine Calls.mono hz λe w3 h=>?_
    have hq:om u P f c' b2 (env++[zs]) s'.toNat=rr:=by
     rw[HRR.o]
     by_cases hc0:c'=0
     ·obtain⟨_,t1,rfl,h1,h2,h3⟩:=iB fD.o hc0
      rw[h3];unfold om;rw[if_pos hc0];simp only[Mz]
     ·rw[nH fD.o hc0 rfl]
      unfold om;rw[if_neg hc0]
    obtain⟨v,wE,s3,c3',rfl,⟨A4,rR,rfl,hp3,qH⟩,mP,hO3,dK⟩:=h;rw[hq] at dK;exact⟨A4,wE.length,rR,rfl,fq hp3 qH mP (hOw.trans hO3) dK (Jn _) al (aM sj.o (hO.trans hO3) ah),hO3⟩
   have akr:b<W2.heap.size:=by have:=rO.o.size;omega
   have i42:W2.cell? ⟨b,o+4,U⟩=M (V (M ⟨bk,ok,U⟩) x.ks.len cap):=(rO.o.cell (a:=⟨b,_,U⟩) hbw hbn).trans BH.o;have ahV:g8≠bv:=ah;have hkeep:∀ w',aC (λq=>q=bv) W2 w'->w'.cell? ⟨b,o+4,U⟩=M (V (M ⟨bk,ok,U⟩) x.ks.len cap)/\w'.cell? ⟨g8,0,U⟩=M (I J u)/\w'.cell? ⟨g8,1,U⟩=M (V Az zs.length cz):=λw' ho=>
    ⟨(ho.cell (a:=⟨b,_,U⟩) akr hbn).trans i42,(ho.cell (a:=⟨g8,0,U⟩) hg8 ahV).trans HX.o.1,(ho.cell (a:=⟨g8,1,U⟩) hg8 ahV).trans HX.o.2⟩
   have kM:=aj hkeep;have lg:ak (aC (λq=>q=bv) W2 wr.drew):=(aC.of_below jF.o).drewN 1;have LQ:ak (aC (λq=>q=bv) W2 (wr.alloc (Is #[I J u,V Az zs.length cz] 86)).drew):=(aC.of_below jF.o).trans (aC.of_below HB2.o);clear hb2 hC2 hkeep i42;go_wp2_with fail;refine aO.start (S:=λwx=>wx.cell? ⟨b,o+4,U⟩=M (V (M ⟨bk,ok,U⟩) x.ks.len cap)/\wx.cell? ⟨g8,0,U⟩=M (I J u)/\wx.cell? ⟨g8,1,U⟩=M (V Az zs.length cz)) 11 aL aL ?Sr0 (λaA hB=>?_)
   case Sr0=>((try dsimp only);exact kM.o _ lg.o)
   iterate 8 (refine aO.tk hB aA ?_;try simp only[aP])
   refine aO.bU (i:=8) rfl bM aL (λK hK=>?_);go_simp;refine hK.out _ _ (by (try dsimp only);exact kM.o _ LQ.o) ?_;clear hK K aA;intro aA
   (try simp only[aP])
   refine aO.bU (i:=9) rfl bM aL (λK hK=>?_);refine gG rfl (.tmp 104) (.tmp 106) 162 rfl W2.heap.size 86 i0 (.agg #[I J 0,V U 0 0]) 2 32 underlying162 hi hz0 hz1 hz2 rfl bM _ _ _ (by simp[Act.eval]) nJ.o ⟨wr.heap.size,0,U⟩ 1 1 (jA u (zs,Az,cz)) (by simp[Act.eval]) rfl (λq z hz=>by rw[addr_add,Mu];exact (fH.o.cell q).trans hz) (by intro z hz;simp only[jA,List.mem_cons,List.not_mem_nil,or_false] at hz;rcases hz with rfl | rfl<;>rfl) (by simp only[My];rw[hpl];exact Pf.o.1) (by simp only[My];rw[hpl];exact Pf.o.2) (by have:=HB2.o.size;omega) ?_
   intro v2 w2 iA hg2 hat;obtain⟨hp2,hbl⟩:=jc.push (p:=(zs,Az,cz)) mq.o (by rw[r_.o];exact mZ.o) BI.o hG.o.1 (Jx _ _) oN.o.1 oN.o.2 HB2.o iA hg2 hat;rw[r_.o,List.take_length] at hp2;obtain⟨A3,c3,rfl,q1,q2,q3⟩:=hp2.env (λq e=>nQ.o.lt q e);rw[List.length_append] at *;have hBl:=jF.o.trans hbl;have hO3:aC (λq=>q=bv) W2 w2:=aC.of_below hBl
   refine hK.out _ _ (by (try dsimp only);exact kM.o _ hO3) ?_;clear hK K aA;intro aA
   (try simp only[aP])
   refine aO.bU (i:=10) rfl bM aL (λK hK=>?_);go_simp
   go_at_call 123
   refine (jh.o A3 c3 w2 hBl q3 q1 q2).mono ?_;rintro e w3 ⟨A4,n4,rR,rfl,hE,hO4⟩;refine hK.out _ _ (by (try dsimp only);exact kM.o _ (hO3.trans hO4)) ?_;clear hK K aA;intro aA
   (try simp only[aP])
   obtain⟨⟨c0,c1,q0',Le⟩,⟨y0,y1⟩,dz⟩:=hE;refine aO.gL rfl aL aL (λK hK=>?_);go_simp;refine hK.out _ _ ?_;clear hK K;have fI:=aj dz;clear dz hO3 hO4 hp2 hbl hBl iA hg2 hat q1 q2 q3;go_wp2;refine bodyPost_ret (v:=fJ u A4 n4 rR) (by simp[results,results123,go_sem,y0,y1]) rfl ?_;exact fI.o
end
end Go.Proofs.YtgfkglhelfkpoaaGreat
