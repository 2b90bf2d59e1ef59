/- Parts of the proof. -/
import Derived.Test.YtgfkglhelfkpoaaGreatRRH
import Derived.Test.YtgfkglhelfkpoaaGreatRRD
import Derived.Test.YtgfkglhelfkpoaaGreatRZB
set_option maxRecDepth 100000
set_option maxHeartbeats 2000000
open Go.Proofs.Tryz
open Go.Value renaming int→I,slice→V
open Go.IntKind renaming i64→J
open Option renaming some→M,none→U
open Go.Ending renaming returned→If
open Go.Obj renaming cells→Is
open Go renaming World→Iv,Calls→I0,Value→I1,maxLen→I2,Addr→I3
open Go.RowKit renaming Below→Ix
open Nat renaming le_refl→Jn
open And renaming intro→J0
open Go.RowKit.Below renaming heap_setCell→J1
namespace Go.Proofs.YtgfkglhelfkpoaaGreat
section
open Go.RowKit Plain
def wI(lo hi:Nat)(ks:Es)(g:Nat)(w:Iv):Prop:=lo<=g/\g<hi/\iN w ks (g+1) hi g 0
variable{lo hi g:Nat}{ks:Es}{w w':Iv}
theorem wI.keep(h:wI lo hi ks g w)(hb:∀ q,lo<=q->q<hi->w'.heap[q]? = w.heap[q]?):wI lo hi ks g w':=by
 obtain⟨h1,h2,h3⟩:=h;exact⟨h1,h2,h3.keep (aN.of_block (hb g h1 h2) _ _) (λq q1 q2=>hb q ah q2)⟩
theorem wI.sl{B:Nat}(h:wI lo hi ks g w)(hB:hi<=B):bJ w B ks (M ⟨g,0,U⟩):=by
 obtain⟨h1,h2,h3⟩:=h;exact⟨g,0,λ_=>rfl,h3.exs hB ah⟩
variable{b:Nat}{T:TypeId}{a0:I1}
theorem PE(h:au w b T [a0]):w.cell? ⟨b,0,U⟩=M a0:=(h.cell 0).trans rfl
variable{a1 a2 a3 a4:I1}
theorem yT(h:au w b T [a0,a1,a2,a3,a4]):w.cell? ⟨b,0,U⟩=M a0/\w.cell? ⟨b,1,U⟩=M a1/\w.cell? ⟨b,2,U⟩=M a2/\w.cell? ⟨b,3,U⟩=M a3/\w.cell? ⟨b,4,U⟩=M a4:=
 ⟨(h.cell 0).trans rfl,(h.cell 1).trans rfl,(h.cell 2).trans rfl,(h.cell 3).trans rfl,(h.cell 4).trans rfl⟩
theorem wO{a5 a6 a7 a8 a9 a10:I1}(h:au w b T [a0,a1,a2,a3,a4,a5,a6,a7,a8,a9,a10]):w.cell? ⟨b,0,U⟩=M a0/\w.cell? ⟨b,1,U⟩=M a1/\w.cell? ⟨b,2,U⟩=M a2/\w.cell? ⟨b,3,U⟩=M a3/\w.cell? ⟨b,4,U⟩=M a4/\w.cell? ⟨b,5,U⟩=M a5/\w.cell? ⟨b,6,U⟩=M a6/\w.cell? ⟨b,7,U⟩=M a7/\w.cell? ⟨b,8,U⟩=M a8/\w.cell? ⟨b,9,U⟩=M a9/\w.cell? ⟨b,10,U⟩=M a10:=
 ⟨(h.cell 0).trans rfl,(h.cell 1).trans rfl,(h.cell 2).trans rfl,(h.cell 3).trans rfl,(h.cell 4).trans rfl,(h.cell 5).trans rfl,(h.cell 6).trans rfl,(h.cell 7).trans rfl,(h.cell 8).trans rfl,(h.cell 9).trans rfl,(h.cell 10).trans rfl⟩
theorem vB(w:Iv)(T1:TypeId)(C1:List I1)(T2:TypeId)(C2:List I1)(T3:TypeId)(C3:List I1):∃ W,W=((w.alloc (Is C1.toArray T1)).alloc (Is C2.toArray T2)).alloc (Is C3.toArray T3) /\
  jd W w.heap.size (w.heap.size+1) (λw'=>au w' w.heap.size T1 C1)/\jd W (w.heap.size+1) (w.heap.size+1+1) (λw'=>au w' (w.heap.size+1) T2 C2)/\jd W (w.heap.size+1+1) (w.heap.size+1+1+1) (λw'=>au w' (w.heap.size+1+1) T3 C3)/\Ix w.heap.size w W:=by
 obtain⟨z,h2,h3,hb⟩:=xS w (Is C1.toArray T1) T2 T3 C2 C3;exact⟨_,rfl,rC ((au.new w T1 C1).next aV),rC h2,rC h3,hb⟩
structure aeC (w:Iv) (x:Nd) (K:Option I3) (c:Nat):Prop where
 val:dO w w.heap.size x K c
 sz:x.ks.size<=1048576
theorem Ho{x:Nd}(h:jd w lo hi (wI lo hi x.ks g))(hz:x.ks.size<=1048576):aeC w x (M ⟨g,0,U⟩) x.ks.len:=by
 have h1:=Es.aF x.ks;exact⟨⟨h.now.sl h.size,Jn _,by unfold I2;omega⟩,hz⟩
theorem Ca(x:Nd){K:Option I3}{c B:Nat}{w:Iv}(h:dO w B x K c)(hB:B<=w.heap.size)(hz:x.ks.size<=1048576) :
  I0 Tryz.prog 23 #[exV x.k x.n x.p x.c K x.ks.len c] w λe w'=>∃ g,w.heap.size<=g/\e=If (exV x.k x.n x.p x.c (M ⟨g,0,U⟩) x.ks.len x.ks.len)/\jd w' g w'.heap.size (wI g w'.heap.size x.ks g)/\Ix w.heap.size w w':=
 (vD (pq x.ks hz) x.k x.n x.p x.c K c B w h.sl hB).mono λ_ _ ⟨g,h1,h2,h3,h4,h5⟩=>
  ⟨g,h1,h3,⟨ah,Jn _,⟨Jn _,h2,h4⟩,λ_ _ h hb=>h.keep hb⟩,h5⟩
theorem aa1(x:Nd){g1 g2 lo hi rY hi' cap bB:Nat}{w:Iv}(h:jd w lo hi (wI lo hi x.ks g1))(h':jd w rY hi' (wI rY hi' x.ks g2))(hz:x.ks.size<=1048576) :
  I0 Tryz.prog 26 #[exV x.k x.n x.p x.c (M ⟨g1,0,U⟩) x.ks.len cap,exV x.k x.n x.p x.c (M ⟨g2,0,U⟩) x.ks.len bB] w λe w'=>e=If (.bool true)/\Ix w.heap.size w w':=
 ql (mF (x.ks.size+1) x.ks ah) x.k x.n x.p x.c _ _ cap bB w.heap.size w (h.now.sl h.size) (h'.now.sl h'.size) (Jn _) hz
theorem RU(x:Nd){g lo hi cap:Nat}{y:Int}{w:Iv}(h:jd w lo hi (wI lo hi x.ks g))(hz:x.ks.size<=1048576)(y0:0<=y)(y1:y<=1000000000) :
  I0 Tryz.prog 29 #[exV x.k x.n x.p x.c (M ⟨g,0,U⟩) x.ks.len cap,I J y] w λe w'=>e=If (I J (y+4*x.ks.size))/\aC (λq=>lo<=q/\q<hi) w w':=by
 obtain⟨h1,h2,h3⟩:=h.now;have hs:=h.size;exact (zR x.k x.n x.p x.c cap h3 hs ah hz y0 y1).mono λ_ _ ⟨e1,e2⟩=>⟨e1,e2.sub λq e=>ah⟩
variable{A Kx KL KR Az:Option I3}{aU cx cl cr:Nat}
theorem Bd(P:List Fn)(x:Nd)(vars funcs v:Int)(l r:Nd)(path:List Int)(w:Iv)(hP:Mj w P A aU)(hX:aeC w x Kx cx)(hR:Ml w l KL cl r KR cr)(hA:Ints w Az path)(hl:path.length<=1048576) :
  I0 Tryz.prog 25 #[rW A P.length aU,exV x.k x.n x.p x.c Kx x.ks.len cx,I J vars,I J funcs,rZ v l KL cl r KR cr,V Az path.length path.length] w (fO (jJ P x vars funcs v l r path).1 (jJ P x vars funcs v l r path).2 w):=
 Oy P x vars funcs v l r path A Kx KL KR Az aU cx cl cr path.length w.heap.size w hP.fns hP.pl hP.pm hP.sz hX.val hX.sz ⟨hR.left,hR.ll,hR.lm⟩ (by have:=hR.sz;omega) ⟨hR.right,hR.rl,hR.rm⟩ (by have:=hR.sz;omega) hA hl (Jn _) (by unfold I2;omega) (Jn _)
theorem KA(P:List Fn)(x:Nd)(vars funcs v:Int)(l r:Nd)(path:List Int)(w:Iv)(hP:Mj w P A aU)(hX:aeC w x Kx cx)(hR:Ml w l KL cl r KR cr)(hA:Ints w Az path)(hl:path.length<=1048576) :
  I0 Tryz.prog 21 #[rW A P.length aU,exV x.k x.n x.p x.c Kx x.ks.len cx,I J vars,I J funcs,rZ v l KL cl r KR cr,V Az path.length path.length] w (fO (jJ P x vars funcs v l r path).1 (jJ P x vars funcs v l r path).2 w):=
 Oz P x vars funcs v l r path A Kx KL KR Az aU cx cl cr path.length w.heap.size w hP.fns hP.pl hP.pm hP.sz hX.val hX.sz ⟨hR.left,hR.ll,hR.lm⟩ (by have:=hR.sz;omega) ⟨hR.right,hR.rl,hR.rm⟩ (by have:=hR.sz;omega) hA hl (Jn _) (by unfold I2;omega) (Jn _)
theorem Hu(P:List Fn)(x:Nd)(vars funcs v:Int)(l r:Nd)(path:List Int):(jJ P x vars funcs v l r path).1.ks.size<=1048576:=by
 have hz:Es.size jK.ks<=1048576:=by simp[jK,Es.size]
 unfold jJ;split
 ·unfold iC
  split
  ·exact hz
  ·split
   ·split
    ·split
     ·rename_i he
      have:=zG he;unfold Nd.size at this;show Es.size (fT _ _ _).ks<=_;omega
     ·exact hz
    ·exact hz
   ·exact hz
 ·exact hz
variable{W w4 w5:Iv}{C:List I1}{Φ:Iv->Prop}
theorem OB.ake{w6:Iv}{Z:List I1}(h:OB W w4 (M b) T Z)(hb:Ix w4.heap.size w4 w5)(hR:jd w5 w4.heap.size w5.heap.size Φ)(hw:aC (λq=>q=b) w5 w6)(hs:w6.heap.size=w5.heap.size)(hC:au w5 b T Z->au w6 b T C)(hB:Ix W.heap.size W w5->W.heap.size<=b->Ix W.heap.size W w6) :
  QJ W w6 b w4.heap.size w5.heap.size T C Φ:=by
 obtain⟨h1,h2⟩:=h.box b rfl;have hlt:=h2.lt;exact⟨hB (aH h.below hb) h1,⟨h1,by rw[hs];have:=hb.size;omega,h.below.size,hb.size,by rw[hs];exact Jn _,.inl hlt⟩,hC (h2.next hb),hR.only hw (λq hq _ e=>by have e':q=b:=e;omega)⟩
theorem tL{i:Nat}(v:I1):aC (λq=>q=b) w (w.setCell ⟨b,i,U⟩ v):=⟨rfl,rfl,rfl,by simp[World.setCell],λq _ hq=>J1 _ _ _ _ hq⟩
theorem OB.QZ{z1 z2 z3 z4 z5:I1}(h:OB W w4 (M b) T [z1,z2,z3,z4,z5])(hb:Ix w4.heap.size w4 w5)(hR:jd w5 w4.heap.size w5.heap.size Φ)(x1 x2 x3 x4 x5:I1) :
  QJ W (((((w5.setCell ⟨b,0,U⟩ x1).setCell ⟨b,1,U⟩ x2).setCell ⟨b,2,U⟩ x3).setCell ⟨b,3,U⟩ x4).setCell ⟨b,4,U⟩ x5) b w4.heap.size w5.heap.size T [x1,x2,x3,x4,x5] Φ:=
 h.ake hb hR ((((tL x1).trans (tL x2)).trans (tL x3)).trans ((tL x4).trans (tL x5))) (by simp[World.setCell])
  (λh3=>(((((h3.aJ 0 x1).aJ 1 x2).aJ 2 x3).aJ 3 x4).aJ 4 x5))
  (λh0 h1=>(((((h0.setCell h1 _).setCell h1 _).setCell h1 _).setCell h1 _).setCell h1 _))
theorem Oc(v:Int)(l r:Nd){g1 g2 lo hi cl cr:Nat}{y:Int}{w:Iv}(h:jd w lo hi (rP lo hi l r g1 g2))(hz:l.ks.size+r.ks.size<=1048576)(y0:0<=y)(y1:y<=100000000) :
  I0 Tryz.prog 16 #[rZ v l (M ⟨g1,0,U⟩) cl r (M ⟨g2,0,U⟩) cr,I J y] w λe w'=>∃ k',e=If (I J k')/\y<=k'/\k'<=y+4194304/\aC (λq=>lo<=q/\q<hi) w w':=by
 obtain⟨mid,a1,a2,a3,a4,a5,a6⟩:=h.now;have hs:=h.size;obtain⟨W0,aZ⟩:=aD (w.alloc (Is #[I J v,I J l.k,I J l.n,I J l.p,I J l.c,V (M ⟨g1,0,U⟩) l.ks.len cl,I J r.k,I J r.n,I J r.p,I J r.c,V (M ⟨g2,0,U⟩) r.ks.len cr] 35))
 have hg:Ix w.heap.size w W0:=by rw[aZ];go_grown
 have hq:au W0 w.heap.size 35 [I J v,I J l.k,I J l.n,I J l.p,I J l.c,V (M ⟨g1,0,U⟩) l.ks.len cl,I J r.k,I J r.n,I J r.p,I J r.c,V (M ⟨g2,0,U⟩) r.ks.len cr]:=by rw[aZ];exact au.new w 35 _
 have h3:iN W0 l.ks (g1+1) mid g1 0:=a3.keep (aN.of_block (hg.block g1 ah) _ _) (λq _ q2=>hg.block q ah);have h6:iN W0 r.ks (g2+1) hi g2 0:=a6.keep (aN.of_block (hg.block g2 ah) _ _) (λq _ q2=>hg.block q ah);have hsz:=hg.size;have Bh:=aj (zR l.k l.n l.p l.c cl (y:=y) h3 ah ah ah y0 ah);have Ik:ak (∀ w1,aC (λq=>q=g1∨(g1+1<=q/\q<mid)) W0 w1->I0 Tryz.prog 29 #[exV r.k r.n r.p r.c (M ⟨g2,0,U⟩) r.ks.len cr,I J (y+4*l.ks.size)] w1 λe w'=>e=If (I J (y+4*l.ks.size+4*r.ks.size))/\aC (λq=>q=g2∨(g2+1<=q/\q<hi)) w1 w'):=λw1 ho=>
  zR r.k r.n r.p r.c cr (h6.keep (aN.of_block (ho.block g2 ah (λe=>ah)) _ _) (λq q1 q2=>ho.block q ah (λe=>ah))) (by have:=ho.size;omega) (by have:=ho.size;omega) ah ah ah
 have HX:ak (∀ w1,aC (λq=>q=g1∨(g1+1<=q/\q<mid)) W0 w1->w1.cell? ⟨w.heap.size,6,U⟩=M (I J r.k)/\w1.cell? ⟨w.heap.size,7,U⟩=M (I J r.n)/\w1.cell? ⟨w.heap.size,8,U⟩=M (I J r.p)/\w1.cell? ⟨w.heap.size,9,U⟩=M (I J r.c)/\w1.cell? ⟨w.heap.size,10,U⟩=M (V (M ⟨g2,0,U⟩) r.ks.len cr)):=λw1 ho=>by
  have h:=ho.block w.heap.size hq.lt (λe=>ah);have hq1:au w1 w.heap.size _ _:=h.trans hq;exact⟨(hq1.cell 6).trans rfl,(hq1.cell 7).trans rfl,(hq1.cell 8).trans rfl,(hq1.cell 9).trans rfl,(hq1.cell 10).trans rfl⟩
 have HO0:ak (aC (λq=>lo<=q/\q<hi) w W0):=aC.of_below hg;have hk:(0:Int)<=y+4*l.ks.size+4*r.ks.size/\y+4*l.ks.size+4*r.ks.size<=y+4194304:=ah;have dI:=aj aZ;have x1:W0.cell? ⟨w.heap.size,1,U⟩=M (I J l.k):=(hq.cell 1).trans rfl;have x2:W0.cell? ⟨w.heap.size,2,U⟩=M (I J l.n):=(hq.cell 2).trans rfl;have x3:W0.cell? ⟨w.heap.size,3,U⟩=M (I J l.p):=(hq.cell 3).trans rfl
 have x4:W0.cell? ⟨w.heap.size,4,U⟩=M (I J l.c):=(hq.cell 4).trans rfl;have x5:W0.cell? ⟨w.heap.size,5,U⟩=M (V (M ⟨g1,0,U⟩) l.ks.len cl):=(hq.cell 5).trans rfl;have HHK:=aj hk;have HY:ak (y<=y+4*l.ks.size+4*r.ks.size):=by show _<=_;omega
 have FW:ak ((∀ q,(q=g1∨(g1+1<=q/\q<mid))->lo<=q/\q<hi)/\(∀ q,(q=g2∨(g2+1<=q/\q<hi))->lo<=q/\q<hi)):=⟨λq e=>ah,λq e=>ah⟩
 clear hk aZ hg hq h3 h6 a1 a2 a3 a4 a5 a6 h hz hsz hs;go_enter func16,ntmps16;go_upto_region 1 with fail;rw[<-dI.o];go_wp2_with fail;refine Bh.o.mono ?_;rintro e w1 ⟨rfl,fC⟩;clear x1 x2 x3 x4 x5 Bh;obtain⟨x6,x7,x8,x9,x10⟩:=HX.o w1 fC;have dZ:=aj fC;clear fC;go_wp2_with fail;refine (Ik.o w1 dZ.o).mono ?_;rintro e w2 ⟨rfl,hO2⟩;have rO:=aj ((HO0.o.trans (dZ.o.sub FW.o.1)).trans (hO2.sub FW.o.2))
 clear x6 x7 x8 x9 x10 hO2;go_wp2;go_ret;exact⟨_,rfl,HY.o,HHK.o.2,rO.o⟩
variable{p0 p1 p2 p3 p4 p5 p6 p7 p8 p9:I3}{u0 u1 u2 u3 u4 u5 u6 u7 u8 u9:I1}
theorem Zh{p10 p11 p12 p13 p14 p15 p16 p17 p18 p19 p20 p21:I3}{vE u11 u12 u13 u14 u15 u16 u17 u18 u19 u20 u21:I1}(h:w.cell? p0=M u0/\w.cell? p1=M u1/\w.cell? p2=M u2/\w.cell? p3=M u3/\w.cell? p4=M u4/\w.cell? p5=M u5/\w.cell? p6=M u6/\w.cell? p7=M u7/\w.cell? p8=M u8/\w.cell? p9=M u9/\w.cell? p10=M vE/\w.cell? p11=M u11/\w.cell? p12=M u12/\w.cell? p13=M u13/\w.cell? p14=M u14/\w.cell? p15=M u15/\w.cell? p16=M u16/\w.cell? p17=M u17/\w.cell? p18=M u18/\w.cell? p19=M u19/\w.cell? p20=M u20/\w.cell? p21=M u21)(hb:Ix w.heap.size w w'):w'.cell? p0=M u0/\w'.cell? p1=M u1/\w'.cell? p2=M u2/\w'.cell? p3=M u3/\w'.cell? p4=M u4/\w'.cell? p5=M u5/\w'.cell? p6=M u6/\w'.cell? p7=M u7/\w'.cell? p8=M u8/\w'.cell? p9=M u9/\w'.cell? p10=M vE/\w'.cell? p11=M u11/\w'.cell? p12=M u12/\w'.cell? p13=M u13/\w'.cell? p14=M u14/\w'.cell? p15=M u15/\w'.cell? p16=M u16/\w'.cell? p17=M u17/\w'.cell? p18=M u18/\w'.cell? p19=M u19/\w'.cell? p20=M u20/\w'.cell? p21=M u21:=
 ⟨aB h.1 hb,aB h.2.1 hb,aB h.2.2.1 hb,aB h.2.2.2.1 hb,aB h.2.2.2.2.1 hb,aB h.2.2.2.2.2.1 hb,aB h.2.2.2.2.2.2.1 hb,aB h.2.2.2.2.2.2.2.1 hb,aB h.2.2.2.2.2.2.2.2.1 hb,aB h.2.2.2.2.2.2.2.2.2.1 hb,aB h.2.2.2.2.2.2.2.2.2.2.1 hb,aB h.2.2.2.2.2.2.2.2.2.2.2.1 hb,aB h.2.2.2.2.2.2.2.2.2.2.2.2.1 hb,aB h.2.2.2.2.2.2.2.2.2.2.2.2.2.1 hb,aB h.2.2.2.2.2.2.2.2.2.2.2.2.2.2.1 hb,aB h.2.2.2.2.2.2.2.2.2.2.2.2.2.2.2.1 hb,aB h.2.2.2.2.2.2.2.2.2.2.2.2.2.2.2.2.1 hb,aB h.2.2.2.2.2.2.2.2.2.2.2.2.2.2.2.2.2.1 hb,aB h.2.2.2.2.2.2.2.2.2.2.2.2.2.2.2.2.2.2.1 hb,aB h.2.2.2.2.2.2.2.2.2.2.2.2.2.2.2.2.2.2.2.1 hb,aB h.2.2.2.2.2.2.2.2.2.2.2.2.2.2.2.2.2.2.2.2.1 hb,aB h.2.2.2.2.2.2.2.2.2.2.2.2.2.2.2.2.2.2.2.2.2 hb⟩
theorem Zg(h:w.cell? p0=M u0/\w.cell? p1=M u1/\w.cell? p2=M u2/\w.cell? p3=M u3/\w.cell? p4=M u4/\w.cell? p5=M u5/\w.cell? p6=M u6/\w.cell? p7=M u7/\w.cell? p8=M u8/\w.cell? p9=M u9)(hb:Ix w.heap.size w w'):w'.cell? p0=M u0/\w'.cell? p1=M u1/\w'.cell? p2=M u2/\w'.cell? p3=M u3/\w'.cell? p4=M u4/\w'.cell? p5=M u5/\w'.cell? p6=M u6/\w'.cell? p7=M u7/\w'.cell? p8=M u8/\w'.cell? p9=M u9:=
 ⟨aB h.1 hb,aB h.2.1 hb,aB h.2.2.1 hb,aB h.2.2.2.1 hb,aB h.2.2.2.2.1 hb,aB h.2.2.2.2.2.1 hb,aB h.2.2.2.2.2.2.1 hb,aB h.2.2.2.2.2.2.2.1 hb,aB h.2.2.2.2.2.2.2.2.1 hb,aB h.2.2.2.2.2.2.2.2.2 hb⟩
theorem QJ.blw(h:QJ W w' b lo hi T C Φ):Ix W.heap.size W w':=h.1
theorem vJ(P0:List Fn)(A0:Option I3)(eT:Nat)(e1:Nd)(K1:Option I3)(rT:Nat)(a2:Int)(a3:Int)(lZ:Int)(dA dB:Nd)(qF qG:Option I3)(oD oH:Nat)(A5:Option I3)(nu:Nat)(z5:List Int)(w:Iv)(_h0:eP w w.heap.size P0 A0)(_hl0:P0.length<=eT)(_hm0:eT<=I2)(_h1:dO w w.heap.size e1 K1 rT)(_w2:(Lit.int .i64 a2).wf=true)(_w3:(Lit.int .i64 a3).wf=true)(_h4:bJ w w.heap.size dA.ks qF)(_hcl4:dA.ks.len<=oD)(_hml4:oD<=I2)(_hr4:bJ w w.heap.size dB.ks qG)(_hcr4:dB.ks.len<=oH)(_hmr4:oH<=I2)(_h5:Ints w A5 z5) (_c0:¬ z5.length<=1048576) :
  I0 Tryz.prog 4 #[rW A0 P0.length eT,exV e1.k e1.n e1.p e1.c K1 e1.ks.len rT,.int .i64 a2,.int .i64 a3,rZ lZ dA qF oD dB qG oH,V A5 z5.length nu] w λe w'=>e=If (.bool true)/\Ix w.heap.size w w':=by
 go_enter func4,ntmps4;go_wp2;go_ret;exact⟨rfl,aV⟩
theorem vK(P0:List Fn)(A0:Option I3)(eT:Nat)(e1:Nd)(K1:Option I3)(rT:Nat)(a2:Int)(a3:Int)(lZ:Int)(dA dB:Nd)(qF qG:Option I3)(oD oH:Nat)(A5:Option I3)(nu:Nat)(z5:List Int)(w:Iv)(h0:eP w w.heap.size P0 A0)(_hl0:P0.length<=eT)(hm0:eT<=I2)(h1:dO w w.heap.size e1 K1 rT)(_w2:(Lit.int .i64 a2).wf=true)(_w3:(Lit.int .i64 a3).wf=true)(h4:bJ w w.heap.size dA.ks qF)(jy:dA.ks.len<=oD)(zO:oD<=I2)(hr4:bJ w w.heap.size dB.ks qG)(Ep:dB.ks.len<=oH)(zP:oH<=I2)(_h5:Ints w A5 z5)(_c0:z5.length<=1048576)(c1:¬ bK P0<=1048576) :
  I0 Tryz.prog 4 #[rW A0 P0.length eT,exV e1.k e1.n e1.p e1.c K1 e1.ks.len rT,.int .i64 a2,.int .i64 a3,rZ lZ dA qF oD dB qG oH,V A5 z5.length nu] w λe w'=>e=If (.bool true)/\Ix w.heap.size w w':=by
 have C1:=aj c1;clear c1;have S0:=aj h0;clear h0;have DX:eT<=9223372036854775807:=by have:=hm0;unfold I2 at this;omega
 have Bh:e1.ks.len<=9223372036854775807:=by have hu1:=h1.len;have hu2:=h1.cap;unfold I2 at hu2;omega
 have S1:=aj h1;clear h1;have S4:=aj (J0 h4 hr4);clear h4 hr4;have aeL:dA.ks.len<=9223372036854775807:=by have:=zO;unfold I2 at this;omega
 have aeM:dB.ks.len<=9223372036854775807:=by have:=zP;unfold I2 at this;omega
 obtain⟨W0,aZ,fx0,fx1,fx4,hB0⟩:=vB w 44 [V A0 P0.length eT] 24 [.int .i64 e1.k,.int .i64 e1.n,.int .i64 e1.p,.int .i64 e1.c,V K1 e1.ks.len rT] 26 [.int .i64 lZ,.int .i64 dA.k,.int .i64 dA.n,.int .i64 dA.p,.int .i64 dA.c,V qF dA.ks.len oD,.int .i64 dB.k,.int .i64 dB.n,.int .i64 dB.p,.int .i64 dB.c,V qG dB.ks.len oH];have dI:=aj aZ;clear aZ;have HB0:=aj hB0;clear hB0
 have IC:=aj fx0;clear fx0;have IG:=aj fx1;clear fx1;have IJ:=aj fx4;clear fx4;go_enter func4,ntmps4;go_upto_region 1 with fail;rw[<-dI.o];have Yf:=PE IC.o.now;obtain⟨Yg,Yh,Yi,Yj,Yk⟩:=yT IG.o.now;obtain⟨Yl,Ym,Yn,Yo,Yp,Yq,Yr,Yt,Yu,Yv,Jm⟩:=wO IJ.o.now;go_wp2_with fail;refine (mh P0 A0 eT w.heap.size 1048576 _ (S0.o.below HB0.o) HB0.o.size ah ah ah).mono ?_;rintro e w1 ⟨rfl,hb1⟩
 have HB1:=aj (aH HB0.o hb1);clear hb1;rw[kV (by have:=C1.o;omega)];go_wp2;go_ret;exact⟨rfl,HB1.o⟩
theorem vL(P0:List Fn)(A0:Option I3)(eT:Nat)(e1:Nd)(K1:Option I3)(rT:Nat)(a2:Int)(a3:Int)(lZ:Int)(dA dB:Nd)(qF qG:Option I3)(oD oH:Nat)(A5:Option I3)(nu:Nat)(z5:List Int)(w:Iv)(h0:eP w w.heap.size P0 A0)(_hl0:P0.length<=eT)(hm0:eT<=I2)(h1:dO w w.heap.size e1 K1 rT)(_w2:(Lit.int .i64 a2).wf=true)(_w3:(Lit.int .i64 a3).wf=true)(h4:bJ w w.heap.size dA.ks qF)(jy:dA.ks.len<=oD)(zO:oD<=I2)(hr4:bJ w w.heap.size dB.ks qG)(Ep:dB.ks.len<=oH)(zP:oH<=I2)(_h5:Ints w A5 z5)(_c0:z5.length<=1048576)(c1:bK P0<=1048576)(c2:¬ (e1.ks.size:Int)<=1048576 - (bK P0:Int)) :
  I0 Tryz.prog 4 #[rW A0 P0.length eT,exV e1.k e1.n e1.p e1.c K1 e1.ks.len rT,.int .i64 a2,.int .i64 a3,rZ lZ dA qF oD dB qG oH,V A5 z5.length nu] w λe w'=>e=If (.bool true)/\Ix w.heap.size w w':=by
 have C1:=aj c1;clear c1;have C2:=aj c2;clear c2;have S0:=aj h0;clear h0;have DX:eT<=9223372036854775807:=by have:=hm0;unfold I2 at this;omega
 have Bh:e1.ks.len<=9223372036854775807:=by have hu1:=h1.len;have hu2:=h1.cap;unfold I2 at hu2;omega
 have S1:=aj h1;clear h1;have S4:=aj (J0 h4 hr4);clear h4 hr4;have aeL:dA.ks.len<=9223372036854775807:=by have:=zO;unfold I2 at this;omega
 have aeM:dB.ks.len<=9223372036854775807:=by have:=zP;unfold I2 at this;omega
 obtain⟨W0,aZ,fx0,fx1,fx4,hB0⟩:=vB w 44 [V A0 P0.length eT] 24 [.int .i64 e1.k,.int .i64 e1.n,.int .i64 e1.p,.int .i64 e1.c,V K1 e1.ks.len rT] 26 [.int .i64 lZ,.int .i64 dA.k,.int .i64 dA.n,.int .i64 dA.p,.int .i64 dA.c,V qF dA.ks.len oD,.int .i64 dB.k,.int .i64 dB.n,.int .i64 dB.p,.int .i64 dB.c,V qG dB.ks.len oH];have dI:=aj aZ;clear aZ;have HB0:=aj hB0;clear hB0
 have IC:=aj fx0;clear fx0;have IG:=aj fx1;clear fx1;have IJ:=aj fx4;clear fx4;go_enter func4,ntmps4;go_upto_region 1 with fail;rw[<-dI.o];have Yf:=PE IC.o.now;obtain⟨Yg,Yh,Yi,Yj,Yk⟩:=yT IG.o.now;obtain⟨Yl,Ym,Yn,Yo,Yp,Yq,Yr,Yt,Yu,Yv,Jm⟩:=wO IJ.o.now;go_wp2_with fail;refine (mh P0 A0 eT w.heap.size 1048576 _ (S0.o.below HB0.o) HB0.o.size ah ah ah).mono ?_;rintro e w1 ⟨rfl,hb1⟩
 have HB1:=aj (aH HB0.o hb1);have IE:=aj (IC.o.below hb1);clear IC;have IC:=IE;clear IE;have Yf:=PE IC.o.now;have II:=aj (IG.o.below hb1);clear IG;have IG:=II;clear II;obtain⟨Yg,Yh,Yi,Yj,Yk⟩:=yT IG.o.now;have IK:=aj (IJ.o.below hb1);clear IJ;have IJ:=IK;clear IK;obtain⟨Yl,Ym,Yn,Yo,Yp,Yq,Yr,Yt,Yu,Yv,Jm⟩:=wO IJ.o.now
 clear hb1;rw[je (by have:=C1.o;omega)];obtain⟨l1,hlv1⟩:∃ l1:Int,l1=1048576 - bK P0:=⟨_,rfl⟩
 rw[<-hlv1];have lo1:0<=l1:=by have:=C1.o;omega
 have GH:l1<=1048576:=ah;have HL1:=aj hlv1;clear hlv1;go_wp2_with fail;refine (nM (kG e1.ks) e1.k e1.n e1.p e1.c K1 rT w.heap.size l1 _ (S1.o.sl.below HB1.o) HB1.o.size ah ah ah).mono ?_;rintro e w2 ⟨rfl,hb2⟩;have HB2:=aj (aH HB1.o hb2);clear hb2;rw[kV (by have:=C2.o;have:=HL1.o;omega)];go_wp2;go_ret;exact⟨rfl,HB2.o⟩
theorem vM(P0:List Fn)(A0:Option I3)(eT:Nat)(e1:Nd)(K1:Option I3)(rT:Nat)(a2:Int)(a3:Int)(lZ:Int)(dA dB:Nd)(qF qG:Option I3)(oD oH:Nat)(A5:Option I3)(nu:Nat)(z5:List Int)(w:Iv)(h0:eP w w.heap.size P0 A0)(_hl0:P0.length<=eT)(hm0:eT<=I2)(h1:dO w w.heap.size e1 K1 rT)(_w2:(Lit.int .i64 a2).wf=true)(_w3:(Lit.int .i64 a3).wf=true)(h4:bJ w w.heap.size dA.ks qF)(jy:dA.ks.len<=oD)(zO:oD<=I2)(hr4:bJ w w.heap.size dB.ks qG)(Ep:dB.ks.len<=oH)(zP:oH<=I2)(_h5:Ints w A5 z5)(_c0:z5.length<=1048576)(c1:bK P0<=1048576)(c2:(e1.ks.size:Int)<=1048576 - (bK P0:Int))(c3:¬ ((dA.ks.size+dB.ks.size:Nat):Int)<=1048576 - (bK P0:Int) - (e1.ks.size:Int)) :
  I0 Tryz.prog 4 #[rW A0 P0.length eT,exV e1.k e1.n e1.p e1.c K1 e1.ks.len rT,.int .i64 a2,.int .i64 a3,rZ lZ dA qF oD dB qG oH,V A5 z5.length nu] w λe w'=>e=If (.bool true)/\Ix w.heap.size w w':=by
 have C1:=aj c1;clear c1;have C2:=aj c2;clear c2;have C3:=aj c3;clear c3;have S0:=aj h0;clear h0;have DX:eT<=9223372036854775807:=by have:=hm0;unfold I2 at this;omega
 have Bh:e1.ks.len<=9223372036854775807:=by have hu1:=h1.len;have hu2:=h1.cap;unfold I2 at hu2;omega
 have S1:=aj h1;clear h1;have S4:=aj (J0 h4 hr4);clear h4 hr4;have aeL:dA.ks.len<=9223372036854775807:=by have:=zO;unfold I2 at this;omega
 have aeM:dB.ks.len<=9223372036854775807:=by have:=zP;unfold I2 at this;omega
 obtain⟨W0,aZ,fx0,fx1,fx4,hB0⟩:=vB w 44 [V A0 P0.length eT] 24 [.int .i64 e1.k,.int .i64 e1.n,.int .i64 e1.p,.int .i64 e1.c,V K1 e1.ks.len rT] 26 [.int .i64 lZ,.int .i64 dA.k,.int .i64 dA.n,.int .i64 dA.p,.int .i64 dA.c,V qF dA.ks.len oD,.int .i64 dB.k,.int .i64 dB.n,.int .i64 dB.p,.int .i64 dB.c,V qG dB.ks.len oH];have dI:=aj aZ;clear aZ;have HB0:=aj hB0;clear hB0
 have IC:=aj fx0;clear fx0;have IG:=aj fx1;clear fx1;have IJ:=aj fx4;clear fx4;go_enter func4,ntmps4;go_upto_region 1 with fail;rw[<-dI.o];have Yf:=PE IC.o.now;obtain⟨Yg,Yh,Yi,Yj,Yk⟩:=yT IG.o.now;obtain⟨Yl,Ym,Yn,Yo,Yp,Yq,Yr,Yt,Yu,Yv,Jm⟩:=wO IJ.o.now;go_wp2_with fail;refine (mh P0 A0 eT w.heap.size 1048576 _ (S0.o.below HB0.o) HB0.o.size ah ah ah).mono ?_;rintro e w1 ⟨rfl,hb1⟩
 have HB1:=aj (aH HB0.o hb1);have IE:=aj (IC.o.below hb1);clear IC;have IC:=IE;clear IE;have Yf:=PE IC.o.now;have II:=aj (IG.o.below hb1);clear IG;have IG:=II;clear II;obtain⟨Yg,Yh,Yi,Yj,Yk⟩:=yT IG.o.now;have IK:=aj (IJ.o.below hb1);clear IJ;have IJ:=IK;clear IK;obtain⟨Yl,Ym,Yn,Yo,Yp,Yq,Yr,Yt,Yu,Yv,Jm⟩:=wO IJ.o.now
 clear hb1;rw[je (by have:=C1.o;omega)];obtain⟨l1,hlv1⟩:∃ l1:Int,l1=1048576 - bK P0:=⟨_,rfl⟩
 rw[<-hlv1];have lo1:0<=l1:=by have:=C1.o;omega
 have GH:l1<=1048576:=ah;have HL1:=aj hlv1;clear hlv1;go_wp2_with fail;refine (nM (kG e1.ks) e1.k e1.n e1.p e1.c K1 rT w.heap.size l1 _ (S1.o.sl.below HB1.o) HB1.o.size ah ah ah).mono ?_;rintro e w2 ⟨rfl,hb2⟩;have HB2:=aj (aH HB1.o hb2);have IE:=aj (IC.o.below hb2);clear IC;have IC:=IE;clear IE;have Yf:=PE IC.o.now;have II:=aj (IG.o.below hb2);clear IG
 have IG:=II;clear II;obtain⟨Yg,Yh,Yi,Yj,Yk⟩:=yT IG.o.now;have IK:=aj (IJ.o.below hb2);clear IJ;have IJ:=IK;clear IK;obtain⟨Yl,Ym,Yn,Yo,Yp,Yq,Yr,Yt,Yu,Yv,Jm⟩:=wO IJ.o.now;clear hb2;rw[je (by have:=C2.o;have:=HL1.o;omega)];obtain⟨l2,hlv2⟩:∃ l2:Int,l2=l1 - e1.ks.size:=⟨_,rfl⟩
 rw[<-hlv2];have lo2:0<=l2:=by have:=C2.o;have:=HL1.o;omega
 have hi2:l2<=1048576:=ah;have HL2:=aj hlv2;clear hlv2;go_wp2_with fail;refine (DK lZ dA dB qF qG oD oH w.heap.size l2 _ (S4.o.1.below HB2.o) ah (S4.o.2.below HB2.o) ah HB2.o.size ah ah).mono ?_;rintro e w3 ⟨rfl,hb3⟩;have HB3:=aj (aH HB2.o hb3);clear hb3;rw[kV (by have:=C3.o;have:=HL1.o;have:=HL2.o;omega)];go_wp2;go_ret;exact⟨rfl,HB3.o⟩
end
end Go.Proofs.YtgfkglhelfkpoaaGreat
