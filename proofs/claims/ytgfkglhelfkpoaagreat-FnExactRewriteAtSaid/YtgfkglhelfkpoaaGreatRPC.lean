/- Parts of the proof. -/
import Derived.Test.YtgfkglhelfkpoaaGreatRPB
set_option maxRecDepth 100000
set_option maxHeartbeats 4000000
open Go.Proofs.Tryz
open Go.Value renaming int→I,slice→V
open Go.IntKind renaming i64→J
open Option renaming some→M,none→U
open Go.Ending renaming returned→If
open Go.Obj renaming cells→Is
open Go renaming World→Iv,Calls→I0,Addr→I3
open Go.RowKit renaming Below→Ix
open Nat renaming le_refl→Jn
open Go.RowKit.Below renaming refl→Jx
open And renaming intro→J0
namespace Go.Proofs.YtgfkglhelfkpoaaGreat
section
open Go.RowKit Plain
variable{u:Int}{a b:List av}
theorem BL(h1:aQ u a=true)(h2:aQ u b=true):(kD (a++b)).length<=1048576/\rE (kD (a++b))<=1048576:=by
 have l1:=(bC h1).2.2;have l2:=(bC h2).2.2;have:=aeq (n:=u.toNat) (B:=240) (L:=a++b) (λt ht=>(List.mem_append.1 ht).elim (bS h1 t) (bS h2 t)) (by have:=(bC h1);omega) (by rw[List.length_append];omega) ah;omega
def PlC(S:Nat->Prop)(bv:Nat)(u:Int)(P:List Fn)(PA:Option I3)(aX:Nat)(rr:jD (List av))(w:Iv)(A0:Option I3)(n0 c0:Nat)(A1:Option I3)(n1 c1:Nat)(W:Iv):Prop:=
 I0 Tryz.prog 133 #[.agg #[I J u,V A0 n0 c0],.agg #[I J u,V A1 n1 c1]] W λe w3=>∃ A3 n3 c3,e=If (.agg #[I J u,V A3 n3 c3])/\Ix W.heap.size W w3/\VaC S bv u P PA aX rr w w3 A3 n3 c3
variable{w W w0:Iv}{B bv aX t1 len cap bm cm ca cb:Nat}{S:Nat->Prop}{P:List Fn}{PA K A1 Am Aa Ab:Option I3}{k n p c:Int}{dP:List (List av)}{rr:jD (List av)}
theorem plC(h:Mi w W B S bv u P PA aX t1 k n p c K len cap A1 dP bm Am cm)(al:bv<w.heap.size)(hb:Ix W.heap.size W w0)(ha:eX w0 Aa a)(Iu:eX w0 Ab b)(oa:aQ u a=true)(ob:aQ u b=true)(dG:rr=kR u (kD (a++b)) t1):PlC S bv u P PA aX rr w Aa a.length ca Ab b.length cb w0:=by
 have l1:=(bC oa).2.2;have l2:=(bC ob).2.2;refine (yK u u Aa Ab ca cb u.toNat a b w0 ha Iu ah ah (bS oa) (bS ob) (by have:=bC oa;omega)).mono ?_;rintro e w3 ⟨A3,c3,rfl,hR,hb3⟩;exact⟨A3,_,c3,rfl,hb3,vaC h al (hb.trans (hb3.mono hb.size)) hR hb.size (BL oa ob).1 (BL oa ob).2 dG⟩
theorem tmC(h:Mi w W B S bv u P PA aX t1 k n p c K len cap A1 dP bm Am cm)(al:bv<w.heap.size)(hb:Ix W.heap.size W w0)(ha:eX w0 Aa a)(Iu:eX w0 Ab b)(oa:aQ u a=true)(ob:aQ u b=true)(dG:rr=kR u (kD (bX a b)) t1) :
  I0 Tryz.prog 134 #[.agg #[I J u,V Aa a.length ca],.agg #[I J u,V Ab b.length cb]] w0 λe w3=>∃ A3 n3 c3,e=If (.agg #[I J u,V A3 n3 c3])/\Ix w0.heap.size w0 w3/\VaC S bv u P PA aX rr w w3 A3 n3 c3:=by
 refine (wB u Aa Ab ca cb a b w0 ha Iu oa ob).mono ?_;rintro e w3 ⟨A3,c3,rfl,hR,hb3⟩;have hbd:=aee oa ob;exact⟨A3,_,c3,rfl,hb3,vaC h al (hb.trans (hb3.mono hb.size)) hR hb.size ah hbd.2 dG⟩
theorem tkC(ha:eX w0 Aa a)(Iu:eX w0 Ab (bY u k))(oa:aQ u a=true)(ob:aQ u (bY u k)=true)(k1:1<=k)(k2:k<=1000002)(n:Nat)(hn:n=(bY u k).length) :
  I0 Tryz.prog 134 #[.agg #[I J u,V Aa a.length ca],.agg #[I J u,V Ab n cb]] w0 λe w3=>∃ A3 c3,e=If (.agg #[I J u,V A3 (dW k a).length c3])/\RT w3 w0.heap.size w3.heap.size A3 (dW k a)/\Ix w0.heap.size w0 w3:=by
 subst hn;refine (wB u Aa Ab ca cb a (bY u k) w0 ha Iu oa ob).mono ?_;rintro e w3 ⟨A3,c3,rfl,hR,hb3⟩;rw[Ko oa k1 k2] at hR ⊢;exact⟨A3,c3,rfl,hR,hb3⟩
theorem ZH(P:List Fn)(x:Nd)(u:Int)(f:Nat)(IH:rH P u f)(env:List (List av))(t:Nat)(fn:Int)(K:Option I3)(cap B:Nat)(S:Nat->Prop)(bv:Nat)(A PA:Option I3)(aW aX:Nat)(w:Iv)(hI:nN w B bv 1 P PA aX)(hS:ni w B S bv u)(hst:au w bv 168 (jQ u P PA aX++[I J t,I J 0]))(hN:lu w B S u P fn x K cap A env aW)(hk:x.k=3)(hs:t<3000)(hf:3001<=t+(f+1)) :
  I0 Tryz.prog 176 #[.pointer (M ⟨bv,0,U⟩),exV x.k x.n x.p x.c K x.ks.len cap,V A env.length aW] w (dM S bv u 168 (jQ u P PA aX) (pv u P (f+1) x env t) w):=by
 have iZ:ak (pv u P (f+1) x env t=match cB (pv u P f) env x.ks (t+1) with | .err e=>.err e | .ok zs s1=>kR u (kD (zs.getD 0 []++zs.getD 1 [])) s1):=by
  show _=_;rw[pv,if_neg ah,if_neg ah,if_neg ah,if_neg ah,if_neg ah];cases cB (pv u P f) env x.ks (t+1) with
  | err e=>rfl
  | ok zs s1=>simp only;rw[if_neg ah];rw[if_neg ah];unfold xD;rw[if_pos hk]
 obtain⟨rr,dG⟩:=aD (pv u P (f+1) x env t)
 rw[<-dG];have HRR:=aj (dG.trans iZ.o);clear iZ dG;have jE:=aj (jl P u f IH);have al:=hI.lt;have hB:=hI.blow;have u0:=hS.u0;have u1:=hS.u1;have a1:w.cell? ⟨bv,1,U⟩=M (I J u):=ay hst
 have a2:w.cell? ⟨bv,2,U⟩=M (I J t):=ay hst
 have a3:w.cell? ⟨bv,3,U⟩=M (I J 0):=ay hst
 have z2:w.frozen? ⟨bv,2,U⟩=false:=hst.frozen _;have e1:((t:Int)==3000)=false:=by simp;omega
 have hE:=ow hI hS hst 3 x.n x.p x.c K x.ks.len cap;have mY:aC S w (FB w bv t 3 x.n x.p x.c K x.ks.len cap):=hE.only.sub λq e=>by rw[e];exact hS.bv
 have vR:=aj (mW.of (g:=w.heap.size+1) hN mY (bI hE.only hB al) ah ah);have HE:=aj hE;have HN:=aj hN;have oO:=aj hS;have qK:=aj IH;have oJ:=aj (jV (N:=2) hN.form (by rw[hk];exact .inl ⟨ah,rfl⟩));clear hI hst hE hN hS IH mY;have HKK:=aj hk;rw[hk];clear hk;go_enter func176,ntmps176;go_wp2_with fail;refine (jE.o x.ks env ((t+1:Nat):Int) (t+1) 0 fn K cap B (aS S (w.heap.size+1)) bv A PA aW aX _ HE.o.ev HE.o.si HE.o.st (λ_=>⟨rfl,ah,ah⟩) vR.o).mono ?_;rintro e w1 ⟨A1,cp,dP,s',c',rfl,hl,zN,hcm,D5,hS1,fC,hres⟩
 have c3:w1.cell? ⟨bv,3,U⟩=M (I J c'):=ay hS1
 have c1:w1.cell? ⟨bv,1,U⟩=M (I J u):=ay hS1
 have cl:=hS1.lt;have eu:=aj hS1;have dZ:=aj fC;have yZ:=aj D5;have HL:=aj hl;have fD:=aj hres;clear hS1 fC D5 hres
 by_cases hc:c'=0
 ·have qw:=iY fD.o hc
  subst hc;obtain⟨t1,hs1,_,Fe,hev⟩:=qw.2;subst hs1;have iZ:=aj hev;have HT1:ak (t1<=3000):=Fe ah;have HT2:ak (t<t1):=by show _<_;omega
  clear qw hev Fe fD;go_wp2_with fail;refine (gW u w1 u0 u1).mono ?_;rintro e w2 ⟨Am,cm,rfl,hp2,hb2⟩;have HM:=aj (Oi (cm:=cm) HE.o al eu.o dZ.o yZ.o hp2 hb2);clear hp2 hb2 jE vR eu dZ yZ c1 c3 cl;have hlen:dP.length=2:=by rw[HL.o,oJ.o]
  obtain⟨b1,o1,Aa,ca,Ab,cb,rfl,hb1,Iq,Iw,vI,hcell⟩:=HM.o.env.two ah;have l0:(0:Int)<(x.ks.len:Int):=by rw[oJ.o];omega
  have l0n:0<x.ks.len:=by rw[oJ.o];omega
  have l1:(1:Int)<(x.ks.len:Int):=by rw[oJ.o];omega
  have l1n:1<x.ks.len:=by rw[oJ.o];omega
  obtain⟨Ny,sV⟩:=vI ah;have fV:ak (∀ w',eU (aS S (w.heap.size+1)) (w2.alloc (Is #[I J u,V Am 1 cm] 86)) w'->w'.cell? ⟨b1,o1,U⟩=M (I J u)/\w'.cell? ⟨b1,o1+1,U⟩=M (V Aa (dP.getD 0 []).length ca)/\w'.cell? ⟨b1,o1+2,U⟩=M (I J u)/\w'.cell? ⟨b1,o1+2+1,U⟩=M (V Ab (dP.getD 1 []).length cb)):=λw' ho=>⟨(hcell w' ho).1,(hcell w' ho).2.1,(hcell w' ho).2.2 ah⟩
  have FV:=aj (J0 Ny sV);clear Ny sV;have oN:=aj (J0 Iq Iw);have x0:(w2.alloc (Is #[I J u,V Am 1 cm] 86)).cell? ⟨w.heap.size,0,U⟩=M (I J 3):=ay HM.o.bx
  have HAS:ak (∀ zs s1,cB (pv u P f) env x.ks (t+1)=.ok zs s1->zs=dP/\s1=t1):=λzs s1 h=>by rw[iZ.o] at h;injection h with h1 h2;exact⟨h1.symm,h2.symm⟩
  have m_:ak (rr=kR u (kD (dP.getD 0 []++dP.getD 1 [])) t1):=by show _=_;rw[HRR.o,iZ.o]
  clear Iq Iw vI hcell HRR iZ;obtain⟨za,hza⟩:=aD (dP.getD 0 [])
  obtain⟨zb,D8⟩:=aD (dP.getD 1 [])
  rw[<-hza] at oN fV;rw[<-hza] at m_;rw[<-D8] at FV fV m_;have HZ:=aj (J0 hza D8);clear hza D8;go_upto_region 32 with fail;change Code.wp _ _ _ _ (w2.alloc (Is #[I J u,V Am 1 cm] 86));generalize w2.alloc (Is #[I J u,V Am 1 cm] 86)=W at *;generalize w2.heap.size=bm at *;clear x0;have hd:Ix W.heap.size W W.drew:=(Jx _ _).drew;have HMB:ak (∀ w',aC (λq=>q=bv) W w'->w'.cell? ⟨bm,0,U⟩=M (I J u)/\w'.cell? ⟨bm,1,U⟩=M (V Am 1 cm)):=λw' ho=>by
   have h:=aM HM.o.mb ho (by have:=HM.o.ml;omega);exact⟨by rw[h.cell];rfl,by rw[h.cell];rfl⟩
  have FW:ak (∀ w',aC (λq=>q=bv) W w'->eU (aS S (w.heap.size+1)) W w'):=λw' ho=>(ho.sub (T:=aS S (w.heap.size+1)) λq e=>by rw[e];exact HM.o.si.bv).h
  obtain⟨na,hna⟩:=aD za.length
  obtain⟨nb,hnb⟩:=aD zb.length
  have HOP:ak (PlC S bv u P PA aX rr w Aa na ca Ab nb cb W.drew):=by rw[hna,hnb];exact plC HM.o al hd ((oN.o.1.only (aC.of_below hd)).now) ((FV.o.1.only (aC.of_below hd)).now) oN.o.2 FV.o.2 m_.o
  have nP:=aj (J0 hna hnb);clear hna hnb;refine aO.start (S:=λwx=>wx.cell? ⟨b1,o1,U⟩=M (I J u)/\wx.cell? ⟨b1,o1+1,U⟩=M (V Aa na ca)/\wx.cell? ⟨b1,o1+2,U⟩=M (I J u)/\wx.cell? ⟨b1,o1+2+1,U⟩=M (V Ab nb cb)) 9 aL aL ?xQ (λaA hB=>?_)
  case xQ=>((try dsimp only);exact (by have:=fV.o W.drew (FW.o _ (aC.of_below hd));rw[<-nP.o.1,<-nP.o.2] at this;exact this))
  iterate 7 (refine aO.tk hB aA ?_;try simp only[aP])
  refine aO.bU (i:=7) rfl bM aL (λK hK=>?_);go_simp
  go_at_call 133
  refine (show I0 _ _ _ _ _ from HOP.o).mono ?_;rintro e w3 ⟨A5,n5,c5,rfl,hb3,hVA⟩;have HVA:=aj (show I0 _ _ _ _ _ from hVA);have hO3:aC (λq=>q=bv) W w3:=aC.of_below (hd.trans (hb3.mono (Jn _)));refine hK.out _ _ (by (try dsimp only);exact (by have:=fV.o _ (FW.o _ hO3);rw[<-nP.o.1,<-nP.o.2] at this;exact this)) ?_;clear hK K aA;intro aA
  (try simp only[aP])
  refine aO.bU (i:=8) rfl bM aL (λK hK=>?_);go_simp
  go_at_call 235
  refine HVA.o.mono ?_;rintro e w4 ⟨A3,n3,jr,rfl,zH,hO4,hC4⟩;refine hK.out _ _ (by (try dsimp only);exact (by have:=fV.o _ (FW.o _ (hO3.trans hO4));rw[<-nP.o.1,<-nP.o.2] at this;exact this)) ?_;clear hK K aA;intro aA
  (try simp only[aP])
  obtain⟨⟨k0,k1,q0,Le⟩,⟨y0,y1⟩,dz⟩:=zH;refine aO.gL rfl aL aL (λK hK=>?_);go_simp;refine hK.out _ _ ?_;clear hK K;clear hC4 hO3 hO4 hb3 hVA;have fI:=aj dz;clear dz;go_wp2;refine bodyPost_ret (v:=fJ u A3 n3 jr) (by simp[results,results176,go_sem,y0,y1]) rfl ?_;exact fI.o
 ·have HB:=aj (jS fD.o hc rfl)
  have hc1:(c' != 0)=true:=by simpa using hc
  have hD:=Cz (S:=S) (rr:=rr) eu.o (HE.o.only.trans dZ.o) (by rw[HRR.o,HB.o]) u0 u1 al (aM HE.o.rb dZ.o ah);obtain⟨⟨k0,k1,q0,q1⟩,⟨y0,y1⟩,dz⟩:=hD;have fI:=aj dz;clear dz eu dZ yZ fD jE vR hl hc;go_wp2;refine bodyPost_ret (v:=fJ u U 0 0) (by simp[results,results176,go_sem,y0,y1]) rfl ?_;exact fI.o
theorem ZJ(P:List Fn)(x:Nd)(u:Int)(f:Nat)(IH:rH P u f)(env:List (List av))(t:Nat)(fn:Int)(K:Option I3)(cap B:Nat)(S:Nat->Prop)(bv:Nat)(A PA:Option I3)(aW aX:Nat)(w:Iv)(hI:nN w B bv 1 P PA aX)(hS:ni w B S bv u)(hst:au w bv 168 (jQ u P PA aX++[I J t,I J 0]))(hN:lu w B S u P fn x K cap A env aW)(hk:x.k=5)(hs:t<3000)(hf:3001<=t+(f+1)) :
  I0 Tryz.prog 176 #[.pointer (M ⟨bv,0,U⟩),exV x.k x.n x.p x.c K x.ks.len cap,V A env.length aW] w (dM S bv u 168 (jQ u P PA aX) (pv u P (f+1) x env t) w):=by
 have iZ:ak (pv u P (f+1) x env t=match cB (pv u P f) env x.ks (t+1) with | .err e=>.err e | .ok zs s1=>kR u (kD (bX (zs.getD 0 []) (zs.getD 1 []))) s1):=by
  show _=_;rw[pv,if_neg ah,if_neg ah,if_neg ah,if_neg ah,if_neg ah];cases cB (pv u P f) env x.ks (t+1) with
  | err e=>rfl
  | ok zs s1=>simp only;rw[if_neg ah];rw[if_neg ah];unfold xD;rw[if_neg ah];rw[if_neg ah];rw[if_pos hk]
 obtain⟨rr,dG⟩:=aD (pv u P (f+1) x env t)
 rw[<-dG];have HRR:=aj (dG.trans iZ.o);clear iZ dG;have jE:=aj (jl P u f IH);have al:=hI.lt;have hB:=hI.blow;have u0:=hS.u0;have u1:=hS.u1;have a1:w.cell? ⟨bv,1,U⟩=M (I J u):=ay hst
 have a2:w.cell? ⟨bv,2,U⟩=M (I J t):=ay hst
 have a3:w.cell? ⟨bv,3,U⟩=M (I J 0):=ay hst
 have z2:w.frozen? ⟨bv,2,U⟩=false:=hst.frozen _;have e1:((t:Int)==3000)=false:=by simp;omega
 have hE:=ow hI hS hst 5 x.n x.p x.c K x.ks.len cap;have mY:aC S w (FB w bv t 5 x.n x.p x.c K x.ks.len cap):=hE.only.sub λq e=>by rw[e];exact hS.bv
 have vR:=aj (mW.of (g:=w.heap.size+1) hN mY (bI hE.only hB al) ah ah);have HE:=aj hE;have HN:=aj hN;have oO:=aj hS;have qK:=aj IH;have oJ:=aj (jV (N:=2) hN.form (by rw[hk];exact .inl ⟨ah,rfl⟩));clear hI hst hE hN hS IH mY;have HKK:=aj hk;rw[hk];clear hk;go_enter func176,ntmps176;go_wp2_with fail;refine (jE.o x.ks env ((t+1:Nat):Int) (t+1) 0 fn K cap B (aS S (w.heap.size+1)) bv A PA aW aX _ HE.o.ev HE.o.si HE.o.st (λ_=>⟨rfl,ah,ah⟩) vR.o).mono ?_;rintro e w1 ⟨A1,cp,dP,s',c',rfl,hl,zN,hcm,D5,hS1,fC,hres⟩
 have c3:w1.cell? ⟨bv,3,U⟩=M (I J c'):=ay hS1
 have c1:w1.cell? ⟨bv,1,U⟩=M (I J u):=ay hS1
 have cl:=hS1.lt;have eu:=aj hS1;have dZ:=aj fC;have yZ:=aj D5;have HL:=aj hl;have fD:=aj hres;clear hS1 fC D5 hres
 by_cases hc:c'=0
 ·have qw:=iY fD.o hc
  subst hc;obtain⟨t1,hs1,_,Fe,hev⟩:=qw.2;subst hs1;have iZ:=aj hev;have HT1:ak (t1<=3000):=Fe ah;have HT2:ak (t<t1):=by show _<_;omega
  clear qw hev Fe fD;go_wp2_with fail;refine (gW u w1 u0 u1).mono ?_;rintro e w2 ⟨Am,cm,rfl,hp2,hb2⟩;have HM:=aj (Oi (cm:=cm) HE.o al eu.o dZ.o yZ.o hp2 hb2);clear hp2 hb2 jE vR eu dZ yZ c1 c3 cl;have hlen:dP.length=2:=by rw[HL.o,oJ.o]
  obtain⟨b1,o1,Aa,ca,Ab,cb,rfl,hb1,Iq,Iw,vI,hcell⟩:=HM.o.env.two ah;have l0:(0:Int)<(x.ks.len:Int):=by rw[oJ.o];omega
  have l0n:0<x.ks.len:=by rw[oJ.o];omega
  have l1:(1:Int)<(x.ks.len:Int):=by rw[oJ.o];omega
  have l1n:1<x.ks.len:=by rw[oJ.o];omega
  obtain⟨Ny,sV⟩:=vI ah;have fV:ak (∀ w',eU (aS S (w.heap.size+1)) (w2.alloc (Is #[I J u,V Am 1 cm] 86)) w'->w'.cell? ⟨b1,o1,U⟩=M (I J u)/\w'.cell? ⟨b1,o1+1,U⟩=M (V Aa (dP.getD 0 []).length ca)/\w'.cell? ⟨b1,o1+2,U⟩=M (I J u)/\w'.cell? ⟨b1,o1+2+1,U⟩=M (V Ab (dP.getD 1 []).length cb)):=λw' ho=>⟨(hcell w' ho).1,(hcell w' ho).2.1,(hcell w' ho).2.2 ah⟩
  have FV:=aj (J0 Ny sV);clear Ny sV;have oN:=aj (J0 Iq Iw);have x0:(w2.alloc (Is #[I J u,V Am 1 cm] 86)).cell? ⟨w.heap.size,0,U⟩=M (I J 5):=ay HM.o.bx
  have HAS:ak (∀ zs s1,cB (pv u P f) env x.ks (t+1)=.ok zs s1->zs=dP/\s1=t1):=λzs s1 h=>by rw[iZ.o] at h;injection h with h1 h2;exact⟨h1.symm,h2.symm⟩
  have m_:ak (rr=kR u (kD (bX (dP.getD 0 []) (dP.getD 1 []))) t1):=by show _=_;rw[HRR.o,iZ.o]
  clear Iq Iw vI hcell HRR iZ;obtain⟨za,hza⟩:=aD (dP.getD 0 [])
  obtain⟨zb,D8⟩:=aD (dP.getD 1 [])
  rw[<-hza] at oN fV;rw[<-hza] at m_;rw[<-D8] at FV fV m_;have HZ:=aj (J0 hza D8);clear hza D8;go_upto_region 36 with fail;change Code.wp _ _ _ _ (w2.alloc (Is #[I J u,V Am 1 cm] 86));generalize w2.alloc (Is #[I J u,V Am 1 cm] 86)=W at *;generalize w2.heap.size=bm at *;clear x0;have hd:Ix W.heap.size W W.drew:=(Jx _ _).drew;have HMB:ak (∀ w',aC (λq=>q=bv) W w'->w'.cell? ⟨bm,0,U⟩=M (I J u)/\w'.cell? ⟨bm,1,U⟩=M (V Am 1 cm)):=λw' ho=>by
   have h:=aM HM.o.mb ho (by have:=HM.o.ml;omega);exact⟨by rw[h.cell];rfl,by rw[h.cell];rfl⟩
  have FW:ak (∀ w',aC (λq=>q=bv) W w'->eU (aS S (w.heap.size+1)) W w'):=λw' ho=>(ho.sub (T:=aS S (w.heap.size+1)) λq e=>by rw[e];exact HM.o.si.bv).h
  obtain⟨na,hna⟩:=aD za.length
  obtain⟨nb,hnb⟩:=aD zb.length
  have HOP:=aj (tmC (rr:=rr) (ca:=ca) (cb:=cb) HM.o al hd ((oN.o.1.only (aC.of_below hd)).now) ((FV.o.1.only (aC.of_below hd)).now) oN.o.2 FV.o.2 m_.o);rw[<-hna,<-hnb] at HOP;have nP:=aj (J0 hna hnb);clear hna hnb;refine aO.start (S:=λwx=>wx.cell? ⟨b1,o1,U⟩=M (I J u)/\wx.cell? ⟨b1,o1+1,U⟩=M (V Aa na ca)/\wx.cell? ⟨b1,o1+2,U⟩=M (I J u)/\wx.cell? ⟨b1,o1+2+1,U⟩=M (V Ab nb cb)) 9 aL aL ?xQ (λaA hB=>?_)
  case xQ=>((try dsimp only);exact (by have:=fV.o W.drew (FW.o _ (aC.of_below hd));rw[<-nP.o.1,<-nP.o.2] at this;exact this))
  iterate 7 (refine aO.tk hB aA ?_;try simp only[aP])
  refine aO.bU (i:=7) rfl bM aL (λK hK=>?_);go_simp
  go_at_call 134
  refine HOP.o.mono ?_;rintro e w3 ⟨A5,n5,c5,rfl,hb3,hVA⟩;have HVA:=aj (show I0 _ _ _ _ _ from hVA);have hO3:aC (λq=>q=bv) W w3:=aC.of_below (hd.trans (hb3.mono (Jn _)));refine hK.out _ _ (by (try dsimp only);exact (by have:=fV.o _ (FW.o _ hO3);rw[<-nP.o.1,<-nP.o.2] at this;exact this)) ?_;clear hK K aA;intro aA
  (try simp only[aP])
  refine aO.bU (i:=8) rfl bM aL (λK hK=>?_);go_simp
  go_at_call 235
  refine HVA.o.mono ?_;rintro e w4 ⟨A3,n3,jr,rfl,zH,hO4,hC4⟩;refine hK.out _ _ (by (try dsimp only);exact (by have:=fV.o _ (FW.o _ (hO3.trans hO4));rw[<-nP.o.1,<-nP.o.2] at this;exact this)) ?_;clear hK K aA;intro aA
  (try simp only[aP])
  obtain⟨⟨k0,k1,q0,Le⟩,⟨y0,y1⟩,dz⟩:=zH;refine aO.gL rfl aL aL (λK hK=>?_);go_simp;refine hK.out _ _ ?_;clear hK K;clear hC4 hO3 hO4 hb3 hVA;have fI:=aj dz;clear dz;go_wp2;refine bodyPost_ret (v:=fJ u A3 n3 jr) (by simp[results,results176,go_sem,y0,y1]) rfl ?_;exact fI.o
 ·have HB:=aj (jS fD.o hc rfl)
  have hc1:(c' != 0)=true:=by simpa using hc
  have hD:=Cz (S:=S) (rr:=rr) eu.o (HE.o.only.trans dZ.o) (by rw[HRR.o,HB.o]) u0 u1 al (aM HE.o.rb dZ.o ah);obtain⟨⟨k0,k1,q0,q1⟩,⟨y0,y1⟩,dz⟩:=hD;have fI:=aj dz;clear dz eu dZ yZ fD jE vR hl hc;go_wp2;refine bodyPost_ret (v:=fJ u U 0 0) (by simp[results,results176,go_sem,y0,y1]) rfl ?_;exact fI.o
theorem ZI(P:List Fn)(x:Nd)(u:Int)(f:Nat)(IH:rH P u f)(env:List (List av))(t:Nat)(fn:Int)(K:Option I3)(cap B:Nat)(S:Nat->Prop)(bv:Nat)(A PA:Option I3)(aW aX:Nat)(w:Iv)(hI:nN w B bv 1 P PA aX)(hS:ni w B S bv u)(hst:au w bv 168 (jQ u P PA aX++[I J t,I J 0]))(hN:lu w B S u P fn x K cap A env aW)(hk:x.k=4)(hs:t<3000)(hf:3001<=t+(f+1)) :
  I0 Tryz.prog 176 #[.pointer (M ⟨bv,0,U⟩),exV x.k x.n x.p x.c K x.ks.len cap,V A env.length aW] w (dM S bv u 168 (jQ u P PA aX) (pv u P (f+1) x env t) w):=by
 have iZ:ak (pv u P (f+1) x env t=match cB (pv u P f) env x.ks (t+1) with | .err e=>.err e | .ok zs s1=>kR u (kD (zs.getD 0 []++dW 1000002 (zs.getD 1 []))) s1):=by
  show _=_;rw[pv,if_neg ah,if_neg ah,if_neg ah,if_neg ah,if_neg ah];cases cB (pv u P f) env x.ks (t+1) with
  | err e=>rfl
  | ok zs s1=>simp only;rw[if_neg ah];rw[if_neg ah];unfold xD;rw[if_neg ah];rw[if_pos hk]
 obtain⟨rr,dG⟩:=aD (pv u P (f+1) x env t)
 rw[<-dG];have HRR:=aj (dG.trans iZ.o);clear iZ dG;have jE:=aj (jl P u f IH);have al:=hI.lt;have hB:=hI.blow;have u0:=hS.u0;have u1:=hS.u1;have a1:w.cell? ⟨bv,1,U⟩=M (I J u):=ay hst
 have a2:w.cell? ⟨bv,2,U⟩=M (I J t):=ay hst
 have a3:w.cell? ⟨bv,3,U⟩=M (I J 0):=ay hst
 have z2:w.frozen? ⟨bv,2,U⟩=false:=hst.frozen _;have e1:((t:Int)==3000)=false:=by simp;omega
 have hE:=ow hI hS hst 4 x.n x.p x.c K x.ks.len cap;have mY:aC S w (FB w bv t 4 x.n x.p x.c K x.ks.len cap):=hE.only.sub λq e=>by rw[e];exact hS.bv
 have vR:=aj (mW.of (g:=w.heap.size+1) hN mY (bI hE.only hB al) ah ah);have HE:=aj hE;have HN:=aj hN;have oO:=aj hS;have qK:=aj IH;have oJ:=aj (jV (N:=2) hN.form (by rw[hk];exact .inl ⟨ah,rfl⟩));clear hI hst hE hN hS IH mY;have HKK:=aj hk;rw[hk];clear hk;go_enter func176,ntmps176;go_wp2_with fail;refine (jE.o x.ks env ((t+1:Nat):Int) (t+1) 0 fn K cap B (aS S (w.heap.size+1)) bv A PA aW aX _ HE.o.ev HE.o.si HE.o.st (λ_=>⟨rfl,ah,ah⟩) vR.o).mono ?_;rintro e w1 ⟨A1,cp,dP,s',c',rfl,hl,zN,hcm,D5,hS1,fC,hres⟩
 have c3:w1.cell? ⟨bv,3,U⟩=M (I J c'):=ay hS1
 have c1:w1.cell? ⟨bv,1,U⟩=M (I J u):=ay hS1
 have cl:=hS1.lt;have eu:=aj hS1;have dZ:=aj fC;have yZ:=aj D5;have HL:=aj hl;have fD:=aj hres;clear hS1 fC D5 hres
 by_cases hc:c'=0
 ·have qw:=iY fD.o hc
  subst hc;obtain⟨t1,hs1,_,Fe,hev⟩:=qw.2;subst hs1;have iZ:=aj hev;have HT1:ak (t1<=3000):=Fe ah;have HT2:ak (t<t1):=by show _<_;omega
  clear qw hev Fe fD;go_wp2_with fail;refine (gW u w1 u0 u1).mono ?_;rintro e w2 ⟨Am,cm,rfl,hp2,hb2⟩;have HM:=aj (Oi (cm:=cm) HE.o al eu.o dZ.o yZ.o hp2 hb2);clear hp2 hb2 jE vR eu dZ yZ c1 c3 cl;have hlen:dP.length=2:=by rw[HL.o,oJ.o]
  obtain⟨b1,o1,Aa,ca,Ab,cb,rfl,hb1,Iq,Iw,vI,hcell⟩:=HM.o.env.two ah;have l0:(0:Int)<(x.ks.len:Int):=by rw[oJ.o];omega
  have l0n:0<x.ks.len:=by rw[oJ.o];omega
  have l1:(1:Int)<(x.ks.len:Int):=by rw[oJ.o];omega
  have l1n:1<x.ks.len:=by rw[oJ.o];omega
  obtain⟨Ny,sV⟩:=vI ah;have fV:ak (∀ w',eU (aS S (w.heap.size+1)) (w2.alloc (Is #[I J u,V Am 1 cm] 86)) w'->w'.cell? ⟨b1,o1,U⟩=M (I J u)/\w'.cell? ⟨b1,o1+1,U⟩=M (V Aa (dP.getD 0 []).length ca)/\w'.cell? ⟨b1,o1+2,U⟩=M (I J u)/\w'.cell? ⟨b1,o1+2+1,U⟩=M (V Ab (dP.getD 1 []).length cb)):=λw' ho=>⟨(hcell w' ho).1,(hcell w' ho).2.1,(hcell w' ho).2.2 ah⟩
  have FV:=aj (J0 Ny sV);clear Ny sV;have oN:=aj (J0 Iq Iw);have x0:(w2.alloc (Is #[I J u,V Am 1 cm] 86)).cell? ⟨w.heap.size,0,U⟩=M (I J 4):=ay HM.o.bx
  have HAS:ak (∀ zs s1,cB (pv u P f) env x.ks (t+1)=.ok zs s1->zs=dP/\s1=t1):=λzs s1 h=>by rw[iZ.o] at h;injection h with h1 h2;exact⟨h1.symm,h2.symm⟩
  have m_:ak (rr=kR u (kD (dP.getD 0 []++dW 1000002 (dP.getD 1 []))) t1):=by show _=_;rw[HRR.o,iZ.o]
  clear Iq Iw vI hcell HRR iZ;obtain⟨za,hza⟩:=aD (dP.getD 0 [])
  obtain⟨zb,D8⟩:=aD (dP.getD 1 [])
  rw[<-hza] at oN fV;rw[<-hza] at m_;rw[<-D8] at FV fV m_;have HZ:=aj (J0 hza D8);clear hza D8;go_upto_region 34 with fail;change Code.wp _ _ _ _ (w2.alloc (Is #[I J u,V Am 1 cm] 86));generalize w2.alloc (Is #[I J u,V Am 1 cm] 86)=W at *;generalize w2.heap.size=bm at *;clear x0;have hd:Ix W.heap.size W W.drew:=(Jx _ _).drew;have HMB:ak (∀ w',aC (λq=>q=bv) W w'->w'.cell? ⟨bm,0,U⟩=M (I J u)/\w'.cell? ⟨bm,1,U⟩=M (V Am 1 cm)):=λw' ho=>by
   have h:=aM HM.o.mb ho (by have:=HM.o.ml;omega);exact⟨by rw[h.cell];rfl,by rw[h.cell];rfl⟩
  have FW:ak (∀ w',aC (λq=>q=bv) W w'->eU (aS S (w.heap.size+1)) W w'):=λw' ho=>(ho.sub (T:=aS S (w.heap.size+1)) λq e=>by rw[e];exact HM.o.si.bv).h
  obtain⟨na,hna⟩:=aD za.length
  obtain⟨nb,hnb⟩:=aD zb.length
  have HOP:=aj (tkC (ca:=cb) (cb:=cm) ((FV.o.1.only (aC.of_below hd)).now) ((HM.o.mp.only (aC.of_below hd)).now) FV.o.2 (yR u0 u1) ah ah 1 (show 1=(bY u 1000002).length by rw[lJ ah];rfl));rw[<-hnb] at HOP;have nP:=aj (J0 hna hnb);clear hna hnb;refine aO.start (S:=λwx=>wx.cell? ⟨b1,o1,U⟩=M (I J u)/\wx.cell? ⟨b1,o1+1,U⟩=M (V Aa na ca)/\wx.cell? ⟨b1,o1+2,U⟩=M (I J u)/\wx.cell? ⟨b1,o1+2+1,U⟩=M (V Ab nb cb)/\wx.cell? ⟨bm,0,U⟩=M (I J u)/\wx.cell? ⟨bm,1,U⟩=M (V Am 1 cm)) 11 aL aL ?xQ (λaA hB=>?_)
  case xQ=>((try dsimp only);exact (by have h1:=fV.o W.drew (FW.o _ (aC.of_below hd));rw[<-nP.o.1,<-nP.o.2] at h1;have h2:=HMB.o W.drew (aC.of_below hd);exact⟨h1.1,h1.2.1,h1.2.2.1,h1.2.2.2,h2.1,h2.2⟩))
  iterate 8 (refine aO.tk hB aA ?_;try simp only[aP])
  refine aO.bU (i:=8) rfl bM aL (λK hK=>?_);go_simp
  go_at_call 134
  refine HOP.o.mono ?_;rintro e w3 ⟨A5,c5,rfl,hR3,hb3⟩;have hbW:Ix W.heap.size W w3:=hd.trans (hb3.mono (Jn _));have hO3:aC (λq=>q=bv) W w3:=aC.of_below hbW;have kI:=aj (show I0 _ _ _ _ _ from plC (rr:=rr) (ca:=ca) (cb:=c5) HM.o al hbW ((oN.o.1.only (aC.of_below hbW)).now) (Hr hR3 (fG (gD FV.o.2 ah ah))) oN.o.2 (gD FV.o.2 ah ah) m_.o)
  rw[<-nP.o.1] at kI;generalize (dW 1000002 zb).length=n5 at *;refine hK.out _ _ (by (try dsimp only);exact (by have h1:=fV.o _ (FW.o _ hO3);rw[<-nP.o.1,<-nP.o.2] at h1;have h2:=HMB.o _ hO3;exact⟨h1.1,h1.2.1,h1.2.2.1,h1.2.2.2,h2.1,h2.2⟩)) ?_;clear hK K aA;intro aA
  (try simp only[aP])
  refine aO.bU (i:=9) rfl bM aL (λK hK=>?_);go_simp
  go_at_call 133
  refine kI.o.mono ?_;rintro e w5 ⟨A6,n6,c6,rfl,hb5,hVA⟩;have HVA:=aj (show I0 _ _ _ _ _ from hVA);have Tw:aC (λq=>q=bv) W w5:=hO3.trans (aC.of_below hb5);refine hK.out _ _ (by (try dsimp only);exact (by have h1:=fV.o _ (FW.o _ Tw);rw[<-nP.o.1,<-nP.o.2] at h1;have h2:=HMB.o _ Tw;exact⟨h1.1,h1.2.1,h1.2.2.1,h1.2.2.2,h2.1,h2.2⟩)) ?_;clear hK K aA;intro aA
  (try simp only[aP])
  refine aO.bU (i:=10) rfl bM aL (λK hK=>?_);go_simp
  go_at_call 235
  refine HVA.o.mono ?_;rintro e w4 ⟨A3,n3,jr,rfl,zH,hO4,hC4⟩;refine hK.out _ _ (by (try dsimp only);exact (by have h1:=fV.o _ (FW.o _ (Tw.trans hO4));rw[<-nP.o.1,<-nP.o.2] at h1;have h2:=HMB.o _ (Tw.trans hO4);exact⟨h1.1,h1.2.1,h1.2.2.1,h1.2.2.2,h2.1,h2.2⟩)) ?_;clear hK K aA;intro aA
  (try simp only[aP])
  obtain⟨⟨k0,k1,q0,Le⟩,⟨y0,y1⟩,dz⟩:=zH;refine aO.gL rfl aL aL (λK hK=>?_);go_simp;refine hK.out _ _ ?_;clear hK K;clear hC4 hO3 hO4 Tw hb3 hb5 hbW hR3 hVA;have fI:=aj dz;clear dz;go_wp2;refine bodyPost_ret (v:=fJ u A3 n3 jr) (by simp[results,results176,go_sem,y0,y1]) rfl ?_;exact fI.o
 ·have HB:=aj (jS fD.o hc rfl)
  have hc1:(c' != 0)=true:=by simpa using hc
  have hD:=Cz (S:=S) (rr:=rr) eu.o (HE.o.only.trans dZ.o) (by rw[HRR.o,HB.o]) u0 u1 al (aM HE.o.rb dZ.o ah);obtain⟨⟨k0,k1,q0,q1⟩,⟨y0,y1⟩,dz⟩:=hD;have fI:=aj dz;clear dz eu dZ yZ fD jE vR hl hc;go_wp2;refine bodyPost_ret (v:=fJ u U 0 0) (by simp[results,results176,go_sem,y0,y1]) rfl ?_;exact fI.o
theorem ZL(P:List Fn)(x:Nd)(u:Int)(f:Nat)(IH:rH P u f)(env:List (List av))(t:Nat)(fn:Int)(K:Option I3)(cap B:Nat)(S:Nat->Prop)(bv:Nat)(A PA:Option I3)(aW aX:Nat)(w:Iv)(hI:nN w B bv 1 P PA aX)(hS:ni w B S bv u)(hst:au w bv 168 (jQ u P PA aX++[I J t,I J 0]))(hN:lu w B S u P fn x K cap A env aW)(hk:x.k=7)(hs:t<3000)(hf:3001<=t+(f+1)) :
  I0 Tryz.prog 176 #[.pointer (M ⟨bv,0,U⟩),exV x.k x.n x.p x.c K x.ks.len cap,V A env.length aW] w (dM S bv u 168 (jQ u P PA aX) (pv u P (f+1) x env t) w):=by
 have iZ:ak (pv u P (f+1) x env t=match cB (pv u P f) env x.ks (t+1) with | .err e=>.err e | .ok zs s1=>(.ok (dW 1000002 (zs.getD 0 [])) s1)):=by
  show _=_;rw[pv,if_neg ah,if_neg ah,if_neg ah,if_neg ah,if_neg ah];cases cB (pv u P f) env x.ks (t+1) with
  | err e=>rfl
  | ok zs s1=>simp only;rw[if_neg ah];rw[if_neg ah];unfold xD;rw[if_neg ah];rw[if_neg ah];rw[if_neg ah];rw[if_pos hk]
 obtain⟨rr,dG⟩:=aD (pv u P (f+1) x env t)
 rw[<-dG];have HRR:=aj (dG.trans iZ.o);clear iZ dG;have jE:=aj (jl P u f IH);have al:=hI.lt;have hB:=hI.blow;have u0:=hS.u0;have u1:=hS.u1;have a1:w.cell? ⟨bv,1,U⟩=M (I J u):=ay hst
 have a2:w.cell? ⟨bv,2,U⟩=M (I J t):=ay hst
 have a3:w.cell? ⟨bv,3,U⟩=M (I J 0):=ay hst
 have z2:w.frozen? ⟨bv,2,U⟩=false:=hst.frozen _;have e1:((t:Int)==3000)=false:=by simp;omega
 have hE:=ow hI hS hst 7 x.n x.p x.c K x.ks.len cap;have mY:aC S w (FB w bv t 7 x.n x.p x.c K x.ks.len cap):=hE.only.sub λq e=>by rw[e];exact hS.bv
 have vR:=aj (mW.of (g:=w.heap.size+1) hN mY (bI hE.only hB al) ah ah);have HE:=aj hE;have HN:=aj hN;have oO:=aj hS;have qK:=aj IH;have oJ:=aj (jV (N:=1) hN.form (by rw[hk];exact .inr (.inl ⟨rfl,rfl⟩)));clear hI hst hE hN hS IH mY;have HKK:=aj hk;rw[hk];clear hk;go_enter func176,ntmps176;go_wp2_with fail;refine (jE.o x.ks env ((t+1:Nat):Int) (t+1) 0 fn K cap B (aS S (w.heap.size+1)) bv A PA aW aX _ HE.o.ev HE.o.si HE.o.st (λ_=>⟨rfl,ah,ah⟩) vR.o).mono ?_;rintro e w1 ⟨A1,cp,dP,s',c',rfl,hl,zN,hcm,D5,hS1,fC,hres⟩
 have c3:w1.cell? ⟨bv,3,U⟩=M (I J c'):=ay hS1
 have c1:w1.cell? ⟨bv,1,U⟩=M (I J u):=ay hS1
 have cl:=hS1.lt;have eu:=aj hS1;have dZ:=aj fC;have yZ:=aj D5;have HL:=aj hl;have fD:=aj hres;clear hS1 fC D5 hres
 by_cases hc:c'=0
 ·have qw:=iY fD.o hc
  subst hc;obtain⟨t1,hs1,_,Fe,hev⟩:=qw.2;subst hs1;have iZ:=aj hev;have HT1:ak (t1<=3000):=Fe ah;have HT2:ak (t<t1):=by show _<_;omega
  clear qw hev Fe fD;go_wp2_with fail;refine (gW u w1 u0 u1).mono ?_;rintro e w2 ⟨Am,cm,rfl,hp2,hb2⟩;have HM:=aj (Oi (cm:=cm) HE.o al eu.o dZ.o yZ.o hp2 hb2);clear hp2 hb2 jE vR eu dZ yZ c1 c3 cl;have hlen:dP.length=1:=by rw[HL.o,oJ.o]
  obtain⟨b1,o1,Aa,ca,Ab,cb,rfl,hb1,Iq,Iw,vI,hcell⟩:=HM.o.env.two ah;have l0:(0:Int)<(x.ks.len:Int):=by rw[oJ.o];omega
  have l0n:0<x.ks.len:=by rw[oJ.o];omega
  have fV:ak (∀ w',eU (aS S (w.heap.size+1)) (w2.alloc (Is #[I J u,V Am 1 cm] 86)) w'->w'.cell? ⟨b1,o1,U⟩=M (I J u)/\w'.cell? ⟨b1,o1+1,U⟩=M (V Aa (dP.getD 0 []).length ca)):=λw' ho=>⟨(hcell w' ho).1,(hcell w' ho).2.1⟩
  have oN:=aj (J0 Iq Iw);have x0:(w2.alloc (Is #[I J u,V Am 1 cm] 86)).cell? ⟨w.heap.size,0,U⟩=M (I J 7):=ay HM.o.bx
  have HAS:ak (∀ zs s1,cB (pv u P f) env x.ks (t+1)=.ok zs s1->zs=dP/\s1=t1):=λzs s1 h=>by rw[iZ.o] at h;injection h with h1 h2;exact⟨h1.symm,h2.symm⟩
  have m_:ak (rr=(.ok (dW 1000002 (dP.getD 0 [])) t1)):=by show _=_;rw[HRR.o,iZ.o]
  clear Iq Iw vI hcell HRR iZ;obtain⟨za,hza⟩:=aD (dP.getD 0 [])
  obtain⟨zb,D8⟩:=aD (dP.getD 1 [])
  rw[<-hza] at oN fV;rw[<-hza] at m_;have HZ:=aj (J0 hza D8);clear hza D8;go_upto_region 38 with fail;change Code.wp _ _ _ _ (w2.alloc (Is #[I J u,V Am 1 cm] 86));generalize w2.alloc (Is #[I J u,V Am 1 cm] 86)=W at *;generalize w2.heap.size=bm at *;clear x0;have hd:Ix W.heap.size W W.drew:=(Jx _ _).drew;have HMB:ak (∀ w',aC (λq=>q=bv) W w'->w'.cell? ⟨bm,0,U⟩=M (I J u)/\w'.cell? ⟨bm,1,U⟩=M (V Am 1 cm)):=λw' ho=>by
   have h:=aM HM.o.mb ho (by have:=HM.o.ml;omega);exact⟨by rw[h.cell];rfl,by rw[h.cell];rfl⟩
  have FW:ak (∀ w',aC (λq=>q=bv) W w'->eU (aS S (w.heap.size+1)) W w'):=λw' ho=>(ho.sub (T:=aS S (w.heap.size+1)) λq e=>by rw[e];exact HM.o.si.bv).h
  obtain⟨na,hna⟩:=aD za.length
  obtain⟨nb,hnb⟩:=aD zb.length
  have HOP:=aj (tkC (ca:=ca) (cb:=cm) ((oN.o.1.only (aC.of_below hd)).now) ((HM.o.mp.only (aC.of_below hd)).now) oN.o.2 (yR u0 u1) ah ah 1 (show 1=(bY u 1000002).length by rw[lJ ah];rfl));rw[<-hna] at HOP;have nP:=aj (J0 hna hnb);clear hna hnb;refine aO.start (S:=λwx=>wx.cell? ⟨b1,o1,U⟩=M (I J u)/\wx.cell? ⟨b1,o1+1,U⟩=M (V Aa na ca)/\wx.cell? ⟨bm,0,U⟩=M (I J u)/\wx.cell? ⟨bm,1,U⟩=M (V Am 1 cm)) 7 aL aL ?xQ (λaA hB=>?_)
  case xQ=>((try dsimp only);exact (by have h1:=fV.o W.drew (FW.o _ (aC.of_below hd));rw[<-nP.o.1] at h1;have h2:=HMB.o W.drew (aC.of_below hd);exact⟨h1.1,h1.2,h2.1,h2.2⟩))
  iterate 5 (refine aO.tk hB aA ?_;try simp only[aP])
  refine aO.bU (i:=5) rfl bM aL (λK hK=>?_);go_simp
  go_at_call 134
  refine HOP.o.mono ?_;rintro e w3 ⟨A5,c5,rfl,hR3,hb3⟩;have hbW:Ix W.heap.size W w3:=hd.trans (hb3.mono (Jn _));have hO3:aC (λq=>q=bv) W w3:=aC.of_below hbW;have hsc:=gD (k:=1000002) oN.o.2 ah ah;have HVA:=aj (show I0 _ _ _ _ _ from vaC (rr:=rr) (c3:=c5) HM.o al hbW hR3 (Jn _) (by have:=(bC hsc).2.2;omega) (by have:=(xH hsc).2;omega) (by rw[m_.o,J4 oN.o.2 ah ah]))
  generalize (dW 1000002 za).length=n5 at *;refine hK.out _ _ (by (try dsimp only);exact (by have h1:=fV.o _ (FW.o _ hO3);rw[<-nP.o.1] at h1;have h2:=HMB.o _ hO3;exact⟨h1.1,h1.2,h2.1,h2.2⟩)) ?_;clear hK K aA;intro aA
  (try simp only[aP])
  refine aO.bU (i:=6) rfl bM aL (λK hK=>?_);go_simp
  go_at_call 235
  refine HVA.o.mono ?_;rintro e w4 ⟨A3,n3,jr,rfl,zH,hO4,hC4⟩;refine hK.out _ _ (by (try dsimp only);exact (by have h1:=fV.o _ (FW.o _ (hO3.trans hO4));rw[<-nP.o.1] at h1;have h2:=HMB.o _ (hO3.trans hO4);exact⟨h1.1,h1.2,h2.1,h2.2⟩)) ?_;clear hK K aA;intro aA
  (try simp only[aP])
  obtain⟨⟨k0,k1,q0,Le⟩,⟨y0,y1⟩,dz⟩:=zH;refine aO.gL rfl aL aL (λK hK=>?_);go_simp;refine hK.out _ _ ?_;clear hK K;clear hC4 hO3 hO4 hb3 hbW hR3 hsc;have fI:=aj dz;clear dz;go_wp2;refine bodyPost_ret (v:=fJ u A3 n3 jr) (by simp[results,results176,go_sem,y0,y1]) rfl ?_;exact fI.o
 ·have HB:=aj (jS fD.o hc rfl)
  have hc1:(c' != 0)=true:=by simpa using hc
  have hD:=Cz (S:=S) (rr:=rr) eu.o (HE.o.only.trans dZ.o) (by rw[HRR.o,HB.o]) u0 u1 al (aM HE.o.rb dZ.o ah);obtain⟨⟨k0,k1,q0,q1⟩,⟨y0,y1⟩,dz⟩:=hD;have fI:=aj dz;clear dz eu dZ yZ fD jE vR hl hc;go_wp2;refine bodyPost_ret (v:=fJ u U 0 0) (by simp[results,results176,go_sem,y0,y1]) rfl ?_;exact fI.o
end
end Go.Proofs.YtgfkglhelfkpoaaGreat
