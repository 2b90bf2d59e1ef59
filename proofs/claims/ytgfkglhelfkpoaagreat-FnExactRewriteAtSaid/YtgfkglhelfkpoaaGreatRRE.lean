/- Parts of the proof. -/
import Derived.Test.YtgfkglhelfkpoaaGreatRRC
set_option maxRecDepth 100000
set_option maxHeartbeats 4000000
open Go.Proofs.Tryz
open Go.Value renaming int→I,slice→V
open Go.IntKind renaming i64→J
open Option renaming some→M,none→U
open Go.Ending renaming returned→If
open Go.Obj renaming cells→Is
open Go renaming World→Iv,Calls→I0,Value→I1,maxLen→I2,Addr→I3
open Go.RowKit renaming Below→Ix
open Nat renaming le_refl→Jn,add_zero→Mm,zero_mul→Mn,le_trans→Mp,zero_add→Mu,lt_of_lt_of_le→M1
open Go.RowKit.Below renaming refl→Jx,heap_setCell→J1
open Bool renaming and_eq_true→Mb
open Int renaming toNat_natCast→Mz
namespace Go.Proofs.YtgfkglhelfkpoaaGreat
section
open Go.RowKit Plain
def Sub.gt(σ:Sub)(i:Nat):Nd:=(σ.getD i U).getD jK
theorem Sub.YE(σ:Sub)(n:Int):σ.get n=σ.gt n.toNat:=rfl
structure sJ (w:Iv) (B gb gw:Nat) (σ:Sub):Prop where
 b:∀ i,i<σ.length->w.cell? ⟨gb,i,U⟩=M (.bool (σ.getD i U).isSome)
 fb:∀ i,w.frozen? ⟨gb,i,U⟩=false
 e:∀ i,i<σ.length->∃ K cap,w.cell? ⟨gw,i*5,U⟩=M (I J (σ.gt i).k)/\w.cell? ⟨gw,i*5+1,U⟩=M (I J (σ.gt i).n)/\w.cell? ⟨gw,i*5+2,U⟩=M (I J (σ.gt i).p)/\w.cell? ⟨gw,i*5+3,U⟩=M (I J (σ.gt i).c)/\w.cell? ⟨gw,i*5+4,U⟩=M (V K (σ.gt i).ks.len cap)/\dO w B (σ.gt i) K cap
 fw:∀ i,w.frozen? ⟨gw,i,U⟩=false
 lb:gb<w.heap.size
 lw:gw<w.heap.size
 bb:B<=gb
 bw:B<=gw
 ne:gb≠gw
variable{w:Iv}{B gb gw:Nat}{σ:Sub}
theorem sJ.keep{w':Iv}(h:sJ w B gb gw σ)(hb:Ix w.heap.size w w')(hB:B<=w.heap.size):sJ w' B gb gw σ:=by
 refine⟨λi hi=>aB (h.b i hi) hb,λi=>(hb.frozen (p:=⟨gb,i,U⟩) h.lb).trans (h.fb i),λi hi=>?_,λi=>(hb.frozen (p:=⟨gw,i,U⟩) h.lw).trans (h.fw i),M1 h.lb hb.size,M1 h.lw hb.size,h.bb,h.bw,h.ne⟩;obtain⟨K,cap,h0,h1,h2,h3,h4,h5⟩:=h.e i hi;exact⟨K,cap,aB h0 hb,aB h1 hb,aB h2 hb,aB h3 hb,aB h4 hb,h5.below (hb.mono hB)⟩
theorem sJ.el(h:sJ w B gb gw σ)(hB:B<=w.heap.size){i:Nat}(hi:i<σ.length):dF w w.heap.size (σ.gt i).k (σ.gt i).n (σ.gt i).p (σ.gt i).c (σ.gt i).ks gw (i*5):=by
 obtain⟨K,cap,h0,h1,h2,h3,h4,h5⟩:=h.e i hi;obtain⟨b,o,hk,hx⟩:=h5.sl.mono hB;exact⟨h.lw,h0,h1,h2,h3,K,cap,b,o,h4,h5.len,h5.cap,hk,hx⟩
variable{i:Nat}{y:Nd}
theorem ae5{n:Nat}(hn:n<σ.length):Sub.gt (σ.set n (M y)) i=if i=n then y else σ.gt i:=by
 unfold Sub.gt;rw[List.getD_eq_getElem?_getD,List.getElem?_set]
 by_cases e:n=i
 ·subst e
  rw[if_pos rfl,if_pos rfl,if_pos hn];rfl
 ·rw[if_neg e,if_neg (λe'=>e e'.symm),<-List.getD_eq_getElem?_getD]
theorem sJ.put{W0 W1 W:Iv}(h:sJ w B gb gw σ)(hB:B<=w.heap.size){n:Nat}(hn:n<σ.length){y:Nd}{K:Option I3}{cap:Nat}(hy:dO w B y K cap)
  (aZ:W0=w.setCell ⟨gb,n,U⟩ (.bool true)) (kK:W1=W0.drew) (hW:W=cK W1 gw (n*5) y.k y.n y.p y.c (V K y.ks.len cap)) :
  sJ W B gb gw (σ.set n (M y))/\aC (λq=>q=gb∨q=gw) w W:=by
 have hlen:(σ.set n (M y)).length=σ.length:=List.length_set ..;have o1:aC (λq=>q=gb) w W1:=by
  rw[kK,aZ];exact (⟨rfl,rfl,rfl,by simp[World.setCell],λq _ hq=>J1 _ _ _ _ hq⟩:aC (λq=>q=gb) w (w.setCell ⟨gb,n,U⟩ (.bool true))).drewN 1
 have o2:aC (λq=>q=gw) W1 W:=by
  rw[hW];refine⟨?_, ?_, ?_,by rw[bN];exact Jn _,λq _ hq=>dN _ _ _ _ _ hq⟩<;>simp[cK,World.setCell]
 have hsz:W.heap.size=w.heap.size:=by rw[hW,bN,kK,aZ];simp[World.setCell]
 have hO:aC (λq=>q=gb∨q=gw) w W:=⟨o2.os.trans o1.os,o2.tape.trans o1.tape,o2.output.trans o1.output,ah,λr hr hne=>(o2.block r (M1 hr o1.size) (λe=>hne (.inr e))).trans (o1.block r hr (λe=>hne (.inl e)))⟩
 have Rw:Ix B w W:=hO.below hB (λq hq=>by have:=h.bb;have:=h.bw;omega);have hf1:∀ a:I3,W1.frozen? a=w.frozen? a:=λa=>by rw[kK,aZ];exact World.frozen?_setCell _ _ _ _
 have hfr:∀ a:I3,W.frozen? a=w.frozen? a:=λa=>by
  refine Eq.trans ?_ (hf1 a);rw[hW];unfold cK;exact (World.frozen?_setCell _ _ _ _).trans ((World.frozen?_setCell _ _ _ _).trans ((World.frozen?_setCell _ _ _ _).trans ((World.frozen?_setCell _ _ _ _).trans (World.frozen?_setCell _ _ _ _))))
 have hg1:∀ j,W1.cell? ⟨gw,j,U⟩=w.cell? ⟨gw,j,U⟩:=λj=>World.cell?_of_block (o1.block gw h.lw (λe=>h.ne e.symm))
 have hg2:∀ j,W.cell? ⟨gb,j,U⟩=W0.cell? ⟨gb,j,U⟩:=λj=>(World.cell?_of_block (o2.block gb (by have:=o1.size;have:=h.lb;omega) h.ne)).trans (by rw[kK];rfl)
 have afx:∀ j,j<n*5∨n*5+5<=j->W.cell? ⟨gw,j,U⟩=w.cell? ⟨gw,j,U⟩:=λj hj=>by rw[hW];exact (DF hj).trans (hg1 _)
 have hown:W.cell? ⟨gw,n*5,U⟩=M (I J y.k)/\W.cell? ⟨gw,n*5+1,U⟩=M (I J y.n)/\W.cell? ⟨gw,n*5+2,U⟩=M (I J y.p)/\W.cell? ⟨gw,n*5+3,U⟩=M (I J y.c)/\W.cell? ⟨gw,n*5+4,U⟩=M (V K y.ks.len cap):=by
  obtain⟨K',bB,h0,h1,h2,h3,h4,_⟩:=h.e n hn;rw[hW];exact KE ((hg1 _).trans h0) ((hg1 _).trans h1) ((hg1 _).trans h2) ((hg1 _).trans h3) ((hg1 _).trans h4)
 refine⟨⟨λi hi=>?_,λi=>(hfr _).trans (h.fb i),λi hi=>?_,λi=>(hfr _).trans (h.fw i),by rw[hsz];exact h.lb,by rw[hsz];exact h.lw,h.bb,h.bw,h.ne⟩,hO⟩
 ·rw[hlen] at hi
  rw[hg2,aZ]
  by_cases e:i=n
  ·subst e
   rw[vW _ (h.b i hi)];rw[List.getD_eq_getElem?_getD,List.getElem?_set_self hi];rfl
  ·rw[dX _ _ _ _ _ (λe'=>e e'.symm),h.b i hi]
   rw[List.getD_eq_getElem?_getD,List.getD_eq_getElem?_getD,List.getElem?_set_ne (λe'=>e e'.symm)]
 ·rw[hlen] at hi
  rw[ae5 hn]
  by_cases e:i=n
  ·subst e
   rw[if_pos rfl];obtain⟨e0,e1,e2,e3,e4⟩:=hown;exact⟨K,cap,e0,e1,e2,e3,e4,hy.below Rw⟩
  ·rw[if_neg e]
   obtain⟨K',bB,h0,h1,h2,h3,h4,h5⟩:=h.e i hi;have o:∀ j,j<5->W.cell? ⟨gw,i*5+j,U⟩=w.cell? ⟨gw,i*5+j,U⟩:=λj hj=>afx _ ah
   exact⟨K',bB,(o 0 ah).trans h0,(o 1 ah).trans h1,(o 2 ah).trans h2,(o 3 ah).trans h3,(o 4 ah).trans h4,h5.below Rw⟩
theorem Gt(h:σ.getD i U=M y):σ.gt i=y:=by unfold Sub.gt;rw[h];rfl
def Ci(B gb gw:Nat)(o:Option Sub)(w:Iv)(e:Ending)(w':Iv):Prop:=
 e=If (.bool o.isSome)/\aC (λq=>q=gb∨q=gw) w w'/\∀ τ,o=M τ->sJ w' B gb gw τ
def aiT(xs:Es):Prop:=∀ (k n p c:Int) (b o:Nat) (k' n' p' c':Int) (es:Es) (b2 o2 B gb gw cb cw:Nat) (σ:Sub) (w:Iv),
 dF w B k n p c xs b o->dF w B k' n' p' c' es b2 o2->B<=w.heap.size->xs.size<=1000->es.size+1<=1000000->sJ w B gb gw σ->σ.length<=cb->σ.length<=cw->cb<=I2->cw<=I2->Lg σ.length ⟨k,n,p,c,xs⟩=true->σ.bd 1000000->σ.length<=1000000 ->
 I0 Tryz.prog 214 #[ptr b o,ptr b2 o2,V (M ⟨gb,0,U⟩) σ.length cb,V (M ⟨gw,0,U⟩) σ.length cw] w (Ci B gb gw (jP ⟨k,n,p,c,xs⟩ ⟨k',n',p',c',es⟩ σ) w)
theorem Yx(n p c:Int)(xs:Es)(b o:Nat)(k' n' p' c':Int)(es:Es)(b2 o2 B gb gw cb cw:Nat)(σ:Sub)(w:Iv)(hE:dF w B 2 n p c xs b o)(hE2:dF w B k' n' p' c' es b2 o2)(hB:B<=w.heap.size)(hz:es.size+1<=1000000)
  (hS:sJ w B gb gw σ) (_hcb:σ.length<=cb) (_hcw:σ.length<=cw) (hmb:cb<=I2) (Y3:cw<=I2) (h0:0<=n) (hl:n.toNat<σ.length) (hbd:σ.bd 1000000) (_hsl:σ.length<=1000000) :
  I0 Tryz.prog 214 #[ptr b o,ptr b2 o2,V (M ⟨gb,0,U⟩) σ.length cb,V (M ⟨gw,0,U⟩) σ.length cw] w (Ci B gb gw (qP n ⟨k',n',p',c',es⟩ σ) w):=by
 obtain⟨q,rfl⟩:∃ q:Nat,n=(q:Int):=Int.eq_ofNat_of_zero_le h0;rw[Mz] at hl;have hx1:cb<=9223372036854775807:=by unfold I2 at hmb;omega
 have hx2:cw<=9223372036854775807:=by unfold I2 at Y3;omega
 have hqz:(q:Int)<(σ.length:Int):=ah;obtain⟨lD,c0,c1,c2,c3,K,cap,bx,ox,c4,hc,hcm,hK,hks⟩:=hE;have dz:=aj hE2;obtain⟨ahF,d0,d1,d2,d3,K2,jN,b3,o3,d4,hc2,hcm2,hK2,dS⟩:=hE2;have hb1:=hS.b q hl;have hf1:=hS.fb q;have hbne:b≠gb:=λe=>by have:=hS.bb;omega
 have JK:b2≠gb:=λe=>by have:=hS.bb;omega
 have HS:=aj hS;have Vo:ak (dO w B ⟨k',n',p',c',es⟩ K2 jN):=⟨⟨b3,o3,hK2,dS⟩,hc2,hcm2⟩
 have hat:σ.at (q:Int)=σ.getD q U:=by unfold Sub.at;rw[Mz]
 clear hks dS hS hK2;cases ho:σ.getD q U with
 | none=>
  rw[ho] at hb1 hat;have hb1':w.cell? ⟨gb,q,U⟩=M (.bool false):=hb1;have HV:ak (qP (q:Int) ⟨k',n',p',c',es⟩ σ=M (σ.set q (M ⟨k',n',p',c',es⟩))):=by show _=_;unfold qP;rw[hat,Mz]
  rw[HV.o];obtain⟨V0,hV0⟩:=aD (w.setCell ⟨gb,q,U⟩ (.bool true))
  obtain⟨V1,hV1⟩:=aD V0.drew
  obtain⟨WP,hWP⟩:=aD (cK V1 gw (q*5) k' n' p' c' (V K2 es.len jN))
  have HP:=aj (HS.o.put hB hl Vo.o hV0 hV1 hWP);obtain⟨Kq,cq,g0,g1,g2,g3,g4,_⟩:=HS.o.e q hl;have z0:=HS.o.fw (q*5);have z1:=HS.o.fw (q*5+1);have z2:=HS.o.fw (q*5+2);have z3:=HS.o.fw (q*5+3);have z4:=HS.o.fw (q*5+4);have hg1:∀ j,(w.setCell ⟨gb,q,U⟩ (.bool true)).cell? ⟨gw,j,U⟩=w.cell? ⟨gw,j,U⟩:=λj=>World.cell?_of_block (J1 _ _ _ _ (by show gw≠gb;exact λe=>HS.o.ne e.symm))
  have hgb:∀ b0 j,b0≠gb->(w.setCell ⟨gb,q,U⟩ (.bool true)).cell? ⟨b0,j,U⟩=w.cell? ⟨b0,j,U⟩:=λb0 j hne=>World.cell?_of_block (J1 _ _ _ _ (by show b0≠gb;exact hne))
  have hfr:∀ a:I3,(w.setCell ⟨gb,q,U⟩ (.bool true)).frozen? a=w.frozen? a:=λa=>World.frozen?_setCell _ _ _ _
  have e1:=(hgb b (o+1) hbne).trans c1;have f0:=(hgb b2 o2 JK).trans d0;have f1:=(hgb b2 (o2+1) JK).trans d1;have f2:=(hgb b2 (o2+2) JK).trans d2;have f3:=(hgb b2 (o2+3) JK).trans d3;have f4:=(hgb b2 (o2+4) JK).trans d4;have u0:=(hg1 _).trans g0;have u1:=(hg1 _).trans g1;have u2:=(hg1 _).trans g2;have u3:=(hg1 _).trans g3;have u4:=(hg1 _).trans g4;have y0:=(hfr _).trans z0;have y1:=(hfr _).trans z1
  have y2:=(hfr _).trans z2;have y3:=(hfr _).trans z3;have y4:=(hfr _).trans z4;have QC:ak (Ci B gb gw (M (σ.set q (M ⟨k',n',p',c',es⟩))) w (If (.bool true)) WP):=by
   refine⟨rfl,HP.o.2,λτ pK=>?_⟩;injection pK with pK
   subst pK;exact HP.o.1
  rw[hWP,hV1,hV0] at QC;clear hg1 hgb hfr g0 g1 g2 g3 g4 z0 z1 z2 z3 z4 HP hWP hV1 hV0 HS Vo dz hat ho;go_enter func214,ntmps214;go_upto_region 5 with fail;change Code.wp _ _ _ _ (w.setCell ⟨gb,q,U⟩ (.bool true));generalize w.setCell ⟨gb,q,U⟩ (.bool true)=W1 at *;go_still_tail 8,aL;change wpList _ _ _ _ _ W1.drew;go_wp2;go_ret;exact QC.o
 | some z=>
  rw[ho] at hb1 hat;have hb1':w.cell? ⟨gb,q,U⟩=M (.bool true):=hb1;have hel:=HS.o.el hB hl;rw[Gt ho] at hel;have hzs:z.ks.size<=1048576:=by
   have:=hbd q z (by rw[List.getD_eq_getElem?_getD] at ho;cases h2:σ[q]? with | none=>(rw[h2] at ho;cases ho) | some y=>(rw[h2] at ho;simp at ho;rw[ho]));unfold Nd.size at this;omega
  have HQ:=aj (SL (z.ks.size+1) z.ks ah z.k z.n z.p z.c gw (q*5) k' n' p' c' es b2 o2 w.heap.size w hel (dz.o.mono hB) (Jn _) hzs ah);have HV:ak (qP (q:Int) ⟨k',n',p',c',es⟩ σ=if z.same ⟨k',n',p',c',es⟩ then M σ else U):=by show _=_;unfold qP;rw[hat]
  obtain⟨rr,dG⟩:∃ rr,rr=qP (q:Int) ⟨k',n',p',c',es⟩ σ:=⟨_,rfl⟩
  rw[<-dG];rw[<-dG] at HV;obtain⟨bb,Fa⟩:=aD (z.same ⟨k',n',p',c',es⟩)
  have y7:ak (I0 Tryz.prog 256 #[ptr gw (q*5),ptr b2 o2] w λe w'=>e=If (.bool bb)/\∃ q,w'=w.drewN q):=by rw[Fa];exact HQ.o
  rw[<-Fa] at HV;clear hel HQ Fa dG ho hb1 hat;go_enter func214,ntmps214;go_wp2_with fail;refine y7.o.mono ?_;rintro e w1 ⟨rfl,hd⟩;have hO:aC (λq=>q=gb∨q=gw) w w1:=by obtain⟨q,rfl⟩:=hd;exact (aC.refl _ w).drewN q
  have hS1:sJ w1 B gb gw σ:=HS.o.keep (by obtain⟨q,rfl⟩:=hd;exact below_drewN' (Jx _ _) q) hB;have HO:=aj hO;have eu:=aj hS1;clear hO hS1 hd;go_wp2;go_ret;refine⟨?_,HO.o,λτ pK=>?_⟩
  ·rw[HV.o];cases bb<;>rfl
  ·rw[HV.o] at pK
   cases bb
   ·cases pK
   ·simp only[if_true,Option.some.injEq] at pK
    subst pK;exact eu.o
theorem Yw:∀ (m:Nat) (xs:Es),xs.size<m->aiT xs:=by
 intro m
 induction m with
 | zero=>intro es h;omega
 | succ m ih=>
 intro xs hm k n p c b o k' n' p' c' es b2 o2 B gb gw cb cw σ w hE hE2 hB hz1 hz hS hcb hcw hmb Y3 Bw hbd hsl
 by_cases hk:k=2
 ·have hv:=B_ Bw hk
  subst hk;exact Yx n p c xs b o k' n' p' c' es b2 o2 B gb gw cb cw σ w hE hE2 hB hz hS hcb hcw hmb Y3 hv.1 hv.2 hbd hsl
 have IH:=aj ih;clear ih;have hx1:cb<=9223372036854775807:=by unfold I2 at hmb;omega
 have hx2:cw<=9223372036854775807:=by unfold I2 at Y3;omega
 have hls:=Es.aF es;have hlx:=Es.aF xs;have hk2:(k==2)=false:=beq_eq_false_iff_ne.2 hk;have HF:ak (jP ⟨k,n,p,c,xs⟩ ⟨k',n',p',c',es⟩ σ=if k=k'/\n=n'/\xs.len=es.len then mO xs es σ else U):=by
  show _=_;unfold jP;exact if_neg hk
 obtain⟨rr,dG⟩:=aD (jP ⟨k,n,p,c,xs⟩ ⟨k',n',p',c',es⟩ σ)
 rw[<-dG];rw[<-dG] at HF;clear dG;have Qv:=aj hE;have alR:=aj hE2;obtain⟨lD,h0,h1,h2,h3,K,cap,x,y,h4,hc,hcm,hK,hks⟩:=hE;obtain⟨ahE,h0',h1',h2',h3',K',bB,x',y',h4',hc',fF,Gv,yB⟩:=hE2;have gI:=aj hks;clear hks;have Vn:=aj yB;clear yB;have afl:cap<=9223372036854775807:=by unfold I2 at hcm;omega
 have hcm2:bB<=9223372036854775807:=by unfold I2 at fF;omega
 by_cases e0:k=k'
 case neg=>
  have hn:(k != k')=true:=by simp[e0]
  have HV:ak (rr=U):=by show _=_;rw[HF.o,if_neg (λh=>e0 h.1)]
  clear hS;go_enter func214,ntmps214;go_wp2_with fail;go_quiet (fail);go_wp2;go_ret;exact⟨by rw[HV.o];rfl,(aC.refl _ w).drewN _,λτ pK=>by rw[HV.o] at pK;cases pK⟩
 have hn0:(k != k')=false:=by simp[e0]
 by_cases e1:n=n'
 case neg=>
  have hn:(n != n')=true:=by simp[e1]
  have HV:ak (rr=U):=by show _=_;rw[HF.o,if_neg (λh=>e1 h.2.1)]
  clear hS e0;go_enter func214,ntmps214;go_wp2_with fail;go_quiet (fail);go_wp2;go_ret;exact⟨by rw[HV.o];rfl,(aC.refl _ w).drewN _,λτ pK=>by rw[HV.o] at pK;cases pK⟩
 have hn1:(n != n')=false:=by simp[e1]
 by_cases e2:xs.len=es.len
 case neg=>
  have hn:((xs.len:Int) != (es.len:Int))=true:=by simp;omega
  have HV:ak (rr=U):=by show _=_;rw[HF.o,if_neg (λh=>e2 h.2.2)]
  clear hS e0 e1;go_enter func214,ntmps214;go_wp2_with fail;go_quiet (fail);go_wp2;go_ret;exact⟨by rw[HV.o];rfl,(aC.refl _ w).drewN _,λτ pK=>by rw[HV.o] at pK;cases pK⟩
 have hn2:((xs.len:Int) != (es.len:Int))=false:=by simp;omega
 have Tk:ak (rr=mO xs es σ):=by show _=_;rw[HF.o,if_pos ⟨e0,e1,e2⟩]
 have xL:=aj e2;clear e0 e1 e2 HF;have Co:ak (Iz σ.length xs=true):=by
  unfold Lg at Bw;simp only[Mb] at Bw;exact Bw.2
 have yX:=aj hbd;have HZ:ak (xs.size<=1000/\es.size+1<=1000000):=⟨hz1,hz⟩
 have HS:=aj hS;have H4:=aj h4;have H4':=aj h4';clear Bw hbd hS;go_enter func214,ntmps214;go_wp2_with fail;go_quiet (fail);have HD:ak (Ix w.heap.size w (w.drewN nq)):=below_drewN' (Jx _ _) nq;have lg:ak (aC (λq=>q=gb∨q=gw) w (w.drewN nq)):=(aC.refl _ w).drewN nq;generalize w.drewN nq=W at *;clear h0 h1 h2 h3 h4 h0' h1' h2' h3' h4';go_wp2_with fail
 go_loopg [9] (es.len+1) (λkx s9 wr=>∃ (j:Nat) (x1 e1:Es) (τ:Sub),s9=I J (j:Int)/\j+e1.len=es.len/\ak (x1.len=e1.len)/\es.len - j<kx/\ak (x1.size<=xs.size/\e1.size<=es.size)/\ak (rr=mO x1 e1 τ)/\ak (τ.length=σ.length/\Iz τ.length x1=true/\τ.bd 1000000)/\ak (sJ wr B gb gw τ)/\ak (aI wr B x1 x (y+j*5))/\ak (aI wr B e1 x' (y'+j*5))/\ak (aC (λq=>q=gb∨q=gw) w wr))
 case atStart=>
  refine⟨0,xs,es,σ,by first | rfl | go_num,ah,xL.o,ah,⟨Jn _,Jn _⟩,Tk,⟨rfl,Co.o,yX.o⟩,HS.o.keep HD.o hB, ?_, ?_,lg⟩
  ·show aI _ _ _ _ _;rw[Mn,Mm];exact gI.o.below (HD.o.mono hB)
  ·show aI _ _ _ _ _;rw[Mn,Mm];exact Vn.o.below (HD.o.mono hB)
 case round=>
  obtain⟨j,x1,e1,τ,rfl,hj,HL,hkx,hsz,HP,HT,QH,HE,dz,HO⟩:=hrel;clear gI Vn Tk Co yX HD lg;have hBr:Ix B w wr:=HO.o.below hB (λq hq=>by have:=QH.o.bb;have:=QH.o.bw;omega);have hbw:b<w.heap.size:=ah;have akA:b2<w.heap.size:=ah;have c4:wr.cell? ⟨b,o+4,U⟩=M (V K xs.len cap):=(hBr.cell (p:=⟨b,o+4,U⟩) lD).trans H4.o;have I8:wr.cell? ⟨b2,o2+4,U⟩=M (V K' es.len bB):=(hBr.cell (p:=⟨b2,o2+4,U⟩) ahE).trans H4'.o
  have TH:B<=wr.heap.size:=by have:=HO.o.size;omega
  cases e1 with
  | nil=>
   simp only[Es.len] at hj;have ak8:x1=.nil:=Es.J2 (by have:=HL.o;simp only[Es.len] at this;exact this);subst ak8;have hjz:¬ (j:Int)<(es.len:Int):=ah;have HV:ak (rr=M τ):=HP.o;clear hBr;go_wp2;go_ret;refine⟨by rw[HV.o];rfl,HO.o,λρ hρ=>?_⟩;rw[HV.o] at hρ;injection hρ with hρ
   subst hρ;exact QH.o
  | cons Qd nk' pk' ck' GV Lf=>
   cases x1 with
   | nil=>exact absurd HL.o (by simp[Es.len])
   | cons kk nk pk ck ls rs=>
   have HL2:ak (rs.len=Lf.len):=by have:=HL.o;simp only[Es.len] at this;show _=_;omega
   simp only[Es.len] at hj;have hjz:(j:Int)<(es.len:Int):=ah;have hje:(j:Int)<(xs.len:Int):=by have:=xL.o;omega
   have hA:=hK (by have:=xL.o;omega);subst hA;have hA:=Gv ah;subst hA;obtain⟨hel,hr⟩:=HE.o;obtain⟨Y0,hr'⟩:=dz.o;have hrs:ak (rs.size<=xs.size/\ls.size<xs.size/\ls.size<=1000/\Lf.size<=es.size/\GV.size+1<=1000000):=by
    have h1:=hsz.o;have h2:=HZ.o;simp only[Es.size] at h1;exact⟨ah,ah,ah,ah,ah⟩
   have qU:=HT.o.2.1;rw[yQ,Mb] at qU;have hdr:Ix wr.heap.size wr wr.drew:=(Jx _ _).drew;have hcc:=IH.o ls (by have:=hrs.o;omega) kk nk pk ck x (y+j*5) Qd nk' pk' ck' GV x' (y'+j*5) B gb gw cb cw τ wr.drew (dF.below hel (hdr.mono TH)) (dF.below Y0 (hdr.mono TH)) TH hrs.o.2.2.1 hrs.o.2.2.2.2 (QH.o.keep hdr TH) (by rw[HT.o.1];exact hcb) (by rw[HT.o.1];exact hcw) hmb Y3 qU.1 HT.o.2.2 (by rw[HT.o.1];exact hsl)
   rw[HT.o.1] at hcc;have HC:=aj hcc;have HR:ak (aI wr.drew B rs x (y+j*5+5)):=hr.below (hdr.mono TH);have sj:ak (aI wr.drew B Lf x' (y'+j*5+5)):=hr'.below (hdr.mono TH);have HOd:ak (aC (λq=>q=gb∨q=gw) w wr.drew):=HO.o.drewN 1;have ng:ak (rr=(jP ⟨kk,nk,pk,ck,ls⟩ ⟨Qd,nk',pk',ck',GV⟩ τ).bind (mO rs Lf)):=by show _=_;rw[HP.o,EX]
   have HN3:ak (∀ ρ,jP ⟨kk,nk,pk,ck,ls⟩ ⟨Qd,nk',pk',ck',GV⟩ τ=M ρ->ρ.length=σ.length/\Iz ρ.length rs=true/\ρ.bd 1000000):=λρ h=>⟨(qo h).1.trans HT.o.1,by rw[(qo h).1];exact qU.2,xY h HT.o.2.2 (by show 1+GV.size<=_;have:=hrs.o;omega)⟩
   have Ck:ak (B<=gb/\B<=gw/\B<=wr.drew.heap.size):=⟨QH.o.bb,QH.o.bw,TH⟩
   clear hr hr' hel Y0 HE dz HP qU hcc hdr hBr QH HO HT hK Gv;cases ho:jP ⟨kk,nk,pk,ck,ls⟩ ⟨Qd,nk',pk',ck',GV⟩ τ with
   | none=>
    rw[ho] at HC ng;have Bl:ak (rr=U):=ng.o;clear ho ng;go_wp2_with fail;go_still_tail 14,aL;change wpList _ _ _ _ _ wr.drew;go_wp2_with fail;refine HC.o.mono ?_;rintro e w1 ⟨rfl,ho1,_⟩;have mK:ak (aC (λq=>q=gb∨q=gw) w w1):=HOd.o.trans ho1;clear ho1;go_wp2;go_ret;exact⟨by rw[Bl.o];rfl,mK.o,λτ pK=>by rw[Bl.o] at pK;cases pK⟩
   | some ρ=>
    rw[ho] at HC ng;have Bl:ak (rr=mO rs Lf ρ):=ng.o;have HT2:=aj (HN3.o ρ ho);clear ho ng HN3;go_wp2_with fail;go_still_tail 14,aL;change wpList _ _ _ _ _ wr.drew;go_wp2_with fail;refine HC.o.mono ?_;rintro e w1 ⟨rfl,ho1,wW⟩;have eu:=aj (wW ρ rfl);have mK:ak (aC (λq=>q=gb∨q=gw) w w1):=HOd.o.trans ho1;have hB2:Ix B wr.drew w1:=ho1.below Ck.o.2.2 (λq hq=>by have:=Ck.o;omega)
    have gY:ak (aI w1 B rs x (y+(j+1)*5)):=by
     have:=HR.o.below hB2
     rwa [show y+j*5+5=y+(j+1)*5 by omega] at this
    have fI:ak (aI w1 B Lf x' (y'+(j+1)*5)):=by
     have:=sj.o.below hB2
     rwa [show y'+j*5+5=y'+(j+1)*5 by omega] at this
    clear ho1 wW hB2 HR sj HC c4 I8 HOd;go_wp2
    go_roundg (es.len - (j+1)+1)
    case measure=>omega
    case rel=>exact⟨j+1,rs,Lf,ρ,by first | rfl | go_num,ah,HL2,ah,⟨hrs.o.1,hrs.o.2.2.2.1⟩,Bl,HT2,eu,gY,fI,mK⟩
def aiR(ks:Es):Prop:=∀ (k n p c:Int) (b o B gb gw cw:Nat) (σ:Sub) (w:Iv),dF w B k n p c ks b o->B<=w.heap.size->ks.size<=1000->sJ w B gb gw σ->σ.length<=cw->cw<=I2->Lg σ.length ⟨k,n,p,c,ks⟩=true->σ.bd 1000000->σ.length<=1000000 ->
 I0 Tryz.prog 216 #[ptr b o,V (M ⟨gw,0,U⟩) σ.length cw] w (jH (iQ σ ⟨k,n,p,c,ks⟩) w)
theorem aeg{m:Nat}(hb:σ.bd m)(hm:1<=m)(i:Nat):(σ.gt i).size<=m:=by
 have:=Sub.yh hb hm (i:Int)
 rwa [Sub.YE,Mz] at this
theorem Rf(n p c:Int)(xs:Es)(b o B gb gw cw:Nat)(σ:Sub)(w:Iv)(hE:dF w B 2 n p c xs b o)(hB:B<=w.heap.size)(hS:sJ w B gb gw σ)(_hcw:σ.length<=cw)(Y3:cw<=I2)(h0:0<=n)(hl:n.toNat<σ.length)(hbd:σ.bd 1000000) :
  I0 Tryz.prog 216 #[ptr b o,V (M ⟨gw,0,U⟩) σ.length cw] w (jH (σ.get n) w):=by
 obtain⟨q,rfl⟩:∃ q:Nat,n=(q:Int):=Int.eq_ofNat_of_zero_le h0;rw[Mz] at hl;have hqz:(q:Int)<(σ.length:Int):=ah;have hx2:cw<=9223372036854775807:=by unfold I2 at Y3;omega
 rw[show σ.get (q:Int)=σ.gt q by rw[Sub.YE,Mz]];obtain⟨W0,aZ⟩:=aD (w.alloc (Is #[I J 0,I J 0,I J 0,I J 0,V U 0 0] 33))
 have hb0:Ix w.heap.size w W0:=by rw[aZ];go_grown
 have hq0:au W0 w.heap.size 33 [I J 0,I J 0,I J 0,I J 0,V U 0 0]:=by rw[aZ];exact au.new w 33 _
 obtain⟨lD,c0,c1,c2,c3,K,cap,bx,ox,c4,hc,hcm,hK,hks⟩:=hE;have hS0:=hS.keep hb0 hB;have hel:=hS0.el (Mp hB hb0.size) hl;have hz:=aeg hbd ah q;obtain⟨x,hx⟩:=aD (σ.gt q)
 rw[<-hx] at hel hz ⊢;obtain⟨xk,xn,xp,xc,O1⟩:=x;simp only at hel;have yY:=aj (wZ (O1.size+1) O1 ah xk xn xp xc gw (q*5) W0.heap.size W0 hel (Jn _) (by unfold Nd.size at hz;simp only at hz;omega));have d0:=aB c0 hb0;have d1:=aB c1 hb0;have HB0:=aj hb0;have DY:=aj hq0;have dI:=aj aZ;clear hks hK hS hS0 hel hx hb0 hq0 aZ c0 c1 c2 c3 c4;go_enter func216,ntmps216
 go_upto_region 1 with fail;rw[<-dI.o];go_wp2_with fail;refine yY.o.mono ?_;rintro e w1 ⟨hb1,K',c1,rfl,hc1,wW,hT⟩;simp only at hc1 hT;have hZ:=DY.o.next hb1;have j0:w1.cell? ⟨w.heap.size,0,U⟩=M (I J 0):=ay hZ
 have g0:w1.frozen? ⟨w.heap.size,0,U⟩=false:=hZ.frozen _;have j1:w1.cell? ⟨w.heap.size,1,U⟩=M (I J 0):=ay hZ
 have g1:w1.frozen? ⟨w.heap.size,1,U⟩=false:=hZ.frozen _;have j2:w1.cell? ⟨w.heap.size,2,U⟩=M (I J 0):=ay hZ
 have g2:w1.frozen? ⟨w.heap.size,2,U⟩=false:=hZ.frozen _;have j3:w1.cell? ⟨w.heap.size,3,U⟩=M (I J 0):=ay hZ
 have g3:w1.frozen? ⟨w.heap.size,3,U⟩=false:=hZ.frozen _;have j4:w1.cell? ⟨w.heap.size,4,U⟩=M (V U 0 0):=ay hZ
 have g4:w1.frozen? ⟨w.heap.size,4,U⟩=false:=hZ.frozen _;have d0:=hZ;have d1:=d0.aJ 0 (I J xk);have d2:=d1.aJ 1 (I J xn);have d3:=d2.aJ 2 (I J xp);have d4:=d3.aJ 3 (I J xc);have d5:=d4.aJ 4 (V K' O1.len c1);have x0:=d1.cell 0;have x1:=d2.cell 1;have x2:=d3.cell 2;have x3:=d4.cell 3;have x4:=d5.cell 4;simp only[eY] at x0 x1 x2 x3 x4
 clear d0 d1 d2 d3 d4 d5;have HP:ak (jH ⟨xk,xn,xp,xc,O1⟩ w (If (exV xk xn xp xc K' O1.len c1)) (cK w1 w.heap.size 0 xk xn xp xc (V K' O1.len c1))):=
  ⟨bD _ _ _ _ _ (HB0.o.trans (hb1.mono HB0.o.size)) ah,K',c1,rfl,hc1,wW,(hT.keep (λq q1 q2=>dN _ _ _ _ _ (by have:=DY.o.lt;omega))).wide (by have:=HB0.o.size;omega) (by rw[bN];exact Jn _)⟩
 clear hT hb1 hZ d0 d1;go_wp2;refine bodyPost_ret (v:=exV xk xn xp xc K' O1.len c1) (by simp[results,results216,go_sem,x0,x1,x2,x3,x4]) rfl ?_;exact HP.o
theorem Rb:∀ (m:Nat) (ks:Es),ks.size<m->aiR ks:=by
 intro m
 induction m with
 | zero=>intro es h;omega
 | succ m ih=>
 intro ks hm k n p c b o B gb gw cw σ w hE hB hsz0 hS hcw Y3 Bw hbd hsl
 by_cases hk:k=2
 ·have hv:=B_ Bw hk
  subst hk;exact Rf n p c ks b o B gb gw cw σ w hE hB hS hcw Y3 hv.1 hv.2 hbd
 obtain⟨i0,hi,hz0,hz1,hz2⟩:=info_parts Tryz.infoE;have IH:=aj ih;clear ih;obtain⟨lD,h0,h1,h2,h3,K,cap,b',o',h4,hc,hcm,hK,hks⟩:=hE;have gI:=aj hks;clear hks;have fF:cap<=9223372036854775807:=by unfold I2 at hcm;omega
 have hx2:cw<=9223372036854775807:=by unfold I2 at Y3;omega
 have hbw:b<w.heap.size:=ah;have hls:=Es.aF ks;have hk2:(k==2)=false:=beq_eq_false_iff_ne.2 hk;have HFN:ak (iQ σ ⟨k,n,p,c,ks⟩=⟨k,n,0,0,gV σ ks⟩):=by show _=_;unfold iQ;exact if_neg hk
 rw[HFN.o];have Co:ak (Iz σ.length ks=true):=by
  unfold Lg at Bw;simp only[Mb] at Bw;exact Bw.2
 have yX:ak (σ.bd 1000000/\σ.length<=1000000):=⟨hbd,hsl⟩
 have HS:=aj hS;clear hS Bw hbd;go_enter func216,ntmps216;have hg0:Ix w.heap.size w (w.alloc (Is #[I J 0,I J 0,I J 0,I J 0,V U 0 0] 33)):=aV;have a0:=aB h0 hg0;have a1:=aB h1 hg0;go_upto_region 3 with fail;have hn0:au (w.alloc (Is #[I J 0,I J 0,I J 0,I J 0,V U 0 0] 33)) w.heap.size 33 [I J 0,I J 0,I J 0,I J 0,V U 0 0]:=au.new _ _ _
 have hs0:(w.alloc (Is #[I J 0,I J 0,I J 0,I J 0,V U 0 0] 33)).heap.size=w.heap.size+1:=by simp
 change Code.wp _ _ _ _ (w.alloc (Is #[I J 0,I J 0,I J 0,I J 0,V U 0 0] 33));generalize w.alloc (Is #[I J 0,I J 0,I J 0,I J 0,V U 0 0] 33)=W1 at *;have HB1:=aj hg0.drew;have Ti:ak (au W1.drew w.heap.size 33 [I J 0,I J 0,I J 0,I J 0,V U 0 0]):=hn0.drewN 1;have eu:ak (W1.drew.heap.size=w.heap.size+1):=hs0
 have hD:ak (W1.drew.cell? ⟨b,o,U⟩=M (I J k)/\W1.drew.cell? ⟨b,o+1,U⟩=M (I J n)):=
  ⟨aB h0 hg0.drew,aB h1 hg0.drew⟩
 clear hg0 hn0 hs0 a0 a1;refine aO.start (S:=λwx=>wx.cell? ⟨b,o,U⟩=M (I J k)/\wx.cell? ⟨b,o+1,U⟩=M (I J n)) 10 aL aL ?xQ (λaA hB=>?_)
 case xQ=>((try dsimp only);exact hD.o)
 iterate 9 (refine aO.tk hB aA ?_;try simp only[aP])
 generalize W1.drew=W2 at *;refine aO.bU (i:=9) rfl bM aL (λK hK=>?_);go_simp;have hb2:Ix W2.heap.size W2 (W2.alloc (Is #[I J 0,I J 0,I J 0,I J 0,V U 0 0] 33)):=aV;refine hK.out _ _ (by (try dsimp only);exact⟨aB aA.1 hb2,aB aA.2 hb2⟩) ?_;clear hK K aA;intro aA
 (try simp only[aP])
 refine aO.gL rfl aL aL (λK hK=>?_);go_simp;refine hK.out _ _ ?_;clear hK K;rw[eu.o];have hg3:Ix W2.heap.size W2 (W2.alloc (Is #[I J k,I J n,I J 0,I J 0,V U 0 0] 33)):=aV;have JN:au (W2.alloc (Is #[I J k,I J n,I J 0,I J 0,V U 0 0] 33)) (w.heap.size+1) 33 [I J k,I J n,I J 0,I J 0,V U 0 0]:=by have:=au.new W2 33 [I J k,I J n,I J 0,I J 0,V U 0 0];rwa [eu.o] at this
 have jw:vF w (W2.alloc (Is #[I J k,I J n,I J 0,I J 0,V U 0 0] 33)) (w.heap.size+1) w.heap.size (w.heap.size+2) k n 0 0 (V U 0 0) .nil:=⟨JN,Ti.o.next hg3,⟨[],iM.EA _ _ (by have:=hg3.size;have:=JN.lt;omega)⟩,aH HB1.o hg3,ah,ah,ah,ah,ah⟩
 change Exit.then _ _ _ _ (W2.alloc (Is #[I J k,I J n,I J 0,I J 0,V U 0 0] 33));generalize W2.alloc (Is #[I J k,I J n,I J 0,I J 0,V U 0 0] 33)=W3 at jw ⊢;have HST:=aj jw;clear hg3 JN jw aA hb2 hB HB1 Ti eu hD;go_wp2
 go_loopw [6] (λi wr=>∃ (es' pre:Es) (v:I1),i=I J (pre.len:Int)/\pre.len+es'.len=ks.len/\ak (pre.app (gV σ es')=gV σ ks)/\ak (es'.size<=ks.size)/\ak (Iz σ.length es'=true)/\ak (aI wr B es' b' (o'+pre.len*5))/\ak (vF w wr (w.heap.size+1) w.heap.size (w.heap.size+2) k n 0 0 v pre)) (λi _=>ks.len - (intOf i).toNat)
 case atStart=>
  refine⟨ks,.nil,V U 0 0,by first | rfl | go_num,by simp[Es.len],rfl,Jn _,Co, ?_,HST.o⟩;show aI _ _ _ _ _;simp only[Es.len,Mn,Mm];exact gI.o.below (HST.o.below.mono ah)
 case round=>
  obtain⟨es',pre,v,rfl,hj,nW,hsz,IW,HE,HO⟩:=hrel;have h4':wr.cell? ⟨b,o+4,U⟩=M (V K ks.len cap):=(HO.o.below.cell (p:=⟨b,_,U⟩) hbw).trans h4;cases es' with
  | nil=>
   simp only[Es.len] at hj;have hpk:pre=gV σ ks:=by have:=nW.o;rwa [gV,Es.oQ] at this
   have hjl:¬ (pre.len:Int)<(ks.len:Int):=ah;have HPK:=aj hpk;clear hpk;obtain⟨vs,hrow⟩:=HO.o.row;obtain⟨A,cp,rfl,_,_⟩:=hrow.form;have y0:wr.cell? ⟨w.heap.size+1,0,U⟩=M (I J k):=ay HO.o.box
   have y1:wr.cell? ⟨w.heap.size+1,1,U⟩=M (I J n):=ay HO.o.box
   have y2:wr.cell? ⟨w.heap.size+1,2,U⟩=M (I J 0):=ay HO.o.box
   have y3:wr.cell? ⟨w.heap.size+1,3,U⟩=M (I J 0):=ay HO.o.box
   have y4:wr.cell? ⟨w.heap.size+1,4,U⟩=M (V A pre.len cp):=ay HO.o.box
   have hZ:=HO.o.box0;have j0:wr.cell? ⟨w.heap.size,0,U⟩=M (I J 0):=ay hZ
   have g0:wr.frozen? ⟨w.heap.size,0,U⟩=false:=hZ.frozen _;have j1:wr.cell? ⟨w.heap.size,1,U⟩=M (I J 0):=ay hZ
   have g1:wr.frozen? ⟨w.heap.size,1,U⟩=false:=hZ.frozen _;have j2:wr.cell? ⟨w.heap.size,2,U⟩=M (I J 0):=ay hZ
   have g2:wr.frozen? ⟨w.heap.size,2,U⟩=false:=hZ.frozen _;have j3:wr.cell? ⟨w.heap.size,3,U⟩=M (I J 0):=ay hZ
   have g3:wr.frozen? ⟨w.heap.size,3,U⟩=false:=hZ.frozen _;have j4:wr.cell? ⟨w.heap.size,4,U⟩=M (V U 0 0):=ay hZ
   have g4:wr.frozen? ⟨w.heap.size,4,U⟩=false:=hZ.frozen _;have d0:=hZ;have d1:=d0.aJ 0 (I J k);have d2:=d1.aJ 1 (I J n);have d3:=d2.aJ 2 (I J 0);have d4:=d3.aJ 3 (I J 0);have d5:=d4.aJ 4 (V A pre.len cp);have x0:=d1.cell 0;have x1:=d2.cell 1;have x2:=d3.cell 2;have x3:=d4.cell 3;have x4:=d5.cell 4;simp only[eY] at x0 x1 x2 x3 x4
   have HP:=aj HO.o.post;clear hrow hZ d0 d1 d2 d3 d4 d5 HO HE;go_wp2;refine bodyPost_ret (v:=exV k n 0 0 A pre.len cp) (by simp[results,results216,go_sem,x0,x1,x2,x3,x4]) rfl ?_;rw[<-HPK.o];exact HP.o
  | cons kk n' p' c' aY r=>
   simp only[Es.len] at hj;have hK:=hK ah;subst hK;obtain⟨JM,hr⟩:=HE.o;have hel:dF wr B kk n' p' c' aY b' (o'+pre.len*5):=JM;clear JM;have hrs:ak (r.size<=ks.size/\aY.size<ks.size):=by
    have:=hsz.o;simp only[Es.size] at this;exact⟨ah,ah⟩
   have qU:=IW.o;rw[yQ,Mb] at qU;have QF:=aj qU.1;have VF:=aj qU.2;have hjl:(pre.len:Int)<(ks.len:Int):=ah;have hjn:pre.len<ks.len:=ah;obtain⟨vs,hrow⟩:=HO.o.row;obtain⟨Av,cp,rfl,_,_⟩:=hrow.form;have hmax:pre.len+1<=1048577:=ah;go_upto_region 7 with fail;have Gz:B<=wr.heap.size:=by have:=HO.o.below.size;omega
   have hdw:Ix wr.heap.size wr wr.drew:=(Jx _ _).drew;have lg:=aj (HO.o.next hdw);have oW:=hrow.below hdw;have lH:=aj (dF.below hel (hdw.mono Gz));have yS:ak (aI wr.drew B r b' (o'+pre.len*5+5)):=hr.below (hdw.mono Gz);have QH:ak (sJ wr.drew B gb gw σ):=HS.o.keep (aH HO.o.below hdw) ah;have FP:ak (pre.app (gV σ (.cons kk n' p' c' aY r))=gV σ ks):=nW
   rw[wP] at FP;obtain⟨x,hx⟩:=aD (iQ σ ⟨kk,n',p',c',aY⟩)
   rw[<-hx] at FP;have HXX:=aj hx;obtain⟨fk,fn,fp,fc,fs⟩:=x;have sP:ak ((pre.snoc fk fn fp fc fs).app (gV σ r)=gV σ ks):=by show _=_;rw[Es.mJ];exact FP.o
   have iE:=aj oW;have qM:ak (B<=wr.drew.heap.size/\B<=w.heap.size+2/\b<w.heap.size):=⟨Gz,ah,hbw⟩
   have hD:ak (wr.drew.cell? ⟨w.heap.size+1,4,U⟩=M (V Av pre.len cp)/\wr.drew.cell? ⟨b,o+4,U⟩=M (V (M ⟨b',o',U⟩) ks.len cap)):=⟨by rw[lg.o.box.cell];rfl,h4'⟩
   clear hrow oW HO HE hr hel nW hsz Gz hdw qU IW hx FP h4';obtain⟨Br,hBr⟩:=aD (w.heap.size+2)
   rw[<-hBr] at iE lg qM;have vQ:=aj hBr;clear hBr;have kM:ak (∀ wx:Iv,Ix Br wr.drew wx->wx.cell? ⟨w.heap.size+1,4,U⟩=M (V Av pre.len cp)/\wx.cell? ⟨b,o+4,U⟩=M (V (M ⟨b',o',U⟩) ks.len cap)):=λwx hx=>⟨(hx.cell (p:=⟨w.heap.size+1,4,U⟩) lg.o.b3).trans hD.o.1,(hx.cell (p:=⟨b,o+4,U⟩) (by show b<Br;have:=vQ.o;omega)).trans hD.o.2⟩
   refine aO.start (S:=λwx=>wx.cell? ⟨w.heap.size+1,4,U⟩=M (V Av pre.len cp)/\wx.cell? ⟨b,o+4,U⟩=M (V (M ⟨b',o',U⟩) ks.len cap)) 13 aL aL ?Sb0 (λaA hB=>?_)
   case Sb0=>((try dsimp only);exact hD.o)
   generalize wr.drew=wd at *
   iterate 9 (refine aO.tk hB aA ?_;try simp only[aP])
   refine aO.bU (i:=9) rfl bM aL (λK hK=>?_);go_simp
   go_at_call 216
   have CP:=IH.o aY (by have:=hrs.o;omega) kk n' p' c' b' (o'+pre.len*5) B gb gw cw σ wd lH.o qM.o.1 (by have:=hrs.o;omega) QH.o hcw Y3 QF.o yX.o.1 yX.o.2;rw[<-HXX.o] at CP;refine CP.mono ?_;rintro e w1 ⟨hb1,K',c1,rfl,hc1,wW,hT⟩;have HB1:=aj hb1;have HT:=aj hT;clear hT;refine hK.out _ _ (by (try dsimp only);exact⟨aB aA.1 hb1,aB aA.2 hb1⟩) ?_;clear hK K aA;intro aA
   (try simp only[])
   obtain⟨mM,hW1'⟩:=aD (w1.alloc (Is #[I J fk,I J fn,I J fp,I J fc,V K' fs.len c1] 33))
   have hb2:Ix w1.heap.size w1 mM:=by rw[hW1'];go_grown
   have hC2:au mM w1.heap.size 33 [I J fk,I J fn,I J fp,I J fc,V K' fs.len c1]:=by rw[hW1'];exact au.new _ _ _
   refine aO.bU (i:=10) rfl bM aL (λK hK=>?_);go_simp;change K _ (w1.alloc (Is #[I J fk,I J fn,I J fp,I J fc,V K' fs.len c1] 33));rw[<-hW1'];refine hK.out _ _ (by (try dsimp only);exact⟨aB aA.1 hb2,aB aA.2 hb2⟩) ?_;clear hK K aA;intro aA
   (try simp only[aP])
   have dZ:=aj ((iE.o.below HB1.o).below hb2).own;refine aO.bU (i:=11) rfl bM aL (λK hK=>?_);refine gG rfl (.tmp 38) (.tmp 47) 31 rfl Br 33 i0 (exV 0 0 0 0 U 0 0) 5 56 underlying31 hi hz0 hz1 hz2 rfl bM (V Av pre.len cp) pre.len vs (by simp[Act.eval]) dZ.o ⟨w1.heap.size,0,U⟩ 1 1 [I J fk,I J fn,I J fp,I J fc,V K' fs.len c1] (by simp[Act.eval]) rfl ?afI ?afL ?afO ?afW ?af2 ?_
   case afI=>intro j z hz;rw[addr_add,Mu];exact (hC2.cell j).trans hz
   case afL=>intro z hz;simp only[List.mem_cons,List.not_mem_nil,or_false] at hz;rcases hz with rfl | rfl | rfl | rfl | rfl<;>rfl
   case afO=>unfold I2;omega
   case afW=>omega
   case af2=>have:=(iE.o.below HB1.o).size;have:=hb2.size;omega
   intro v2 w2 hown hg hat;obtain⟨hrow2,hbl⟩:=iM.push iE.o HB1.o HT.o hc1 wW hb2 hown hg hat;obtain⟨A2,c2,rfl,_,_⟩:=hrow2.form;have vO:=aj hbl;have mD:=aj hrow2;clear hown hg hat hrow2;refine hK.out _ _ (by (try dsimp only);exact kM.o w2 hbl) ?_;clear hK K aA;intro aA
   (try simp only[aP])
   (refine aO.tk hB aA ?_;try simp only[aP])
   have g4:w2.frozen? ⟨w.heap.size+1,4,U⟩=false:=au.frozen (t:=33) ((vO.o.block _ lg.o.b3).trans lg.o.box) _;have f4:=aA.1;have oK:=aj (lg.o.push mD.o vO.o);have su:ak (aI (w2.setCell ⟨w.heap.size+1,4,U⟩ (V A2 (pre.snoc fk fn fp fc fs).len c2)) B r b' (o'+(pre.len+1)*5)):=by
    have h1:=yS.o.below (vO.o.mono (by have:=qM.o;omega));have h2:=h1.below (w':=w2.setCell ⟨w.heap.size+1,4,U⟩ (V A2 (pre.snoc fk fn fp fc fs).len c2)) ((Jx B w2).setCell (p:=⟨w.heap.size+1,4,U⟩) (by show B<=w.heap.size+1;have:=lg.o.b1;omega) (V A2 (pre.snoc fk fn fp fc fs).len c2))
    rwa [show o'+pre.len*5+5=o'+(pre.len+1)*5 by omega] at h2
   clear hC2 hb2 dZ;refine aO.gL rfl aL aL (λK hK=>?_);go_simp;refine hK.out _ _ ?_;clear hK K;generalize w2.setCell ⟨w.heap.size+1,4,U⟩ (V A2 (pre.snoc fk fn fp fc fs).len c2)=W9 at oK su ⊢;clear aA hB g4 f4 hD vO mD iE lg yS HB1 HT hb1 kM;rw[vQ.o] at oK;clear lH QH qM;go_wp2
   go_roundw
   case rel=>exact⟨r,pre.snoc fk fn fp fc fs,(V A2 (pre.snoc fk fn fp fc fs).len c2),by rw[Es.dD];go_num,by rw[Es.dD];omega,sP,hrs.o.1,VF,by rw[Es.dD];exact su,oK⟩
   case measure=>simp[intOf];omega
end
end Go.Proofs.YtgfkglhelfkpoaaGreat
