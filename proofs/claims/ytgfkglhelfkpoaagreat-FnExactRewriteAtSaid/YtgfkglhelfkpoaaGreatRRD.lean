/- Parts of the proof. -/
import Derived.Test.YtgfkglhelfkpoaaGreatRRC
set_option maxRecDepth 100000
set_option maxHeartbeats 8000000
open Go.Proofs.Tryz
open Go.Value renaming int→I,slice→V
open Go.IntKind renaming i64→J
open Option renaming some→M,none→U
open Go.Ending renaming returned→If
open Go.Obj renaming cells→Is
open Go renaming World→Iv,Calls→I0,maxLen→I2,Addr→I3
open Go.RowKit renaming Below→Ix
open Nat renaming le_refl→Jn,le_trans→Mp
open Go.RowKit.Below renaming refl→Jx
namespace Go.Proofs.YtgfkglhelfkpoaaGreat
section
open Go.RowKit Plain
theorem afY(v:Int)(l r:Nd)(KL KR:Option I3)(cl cr B:Nat)(w:Iv)(hL:dO w B l KL cl)(hR:dO w B r KR cr)(hB:B<=w.heap.size)(dh:eF v l r=true) :
  I0 Tryz.prog 75 #[rZ v l KL cl r KR cr] w (d9 (jZ v l r) w):=by
 obtain⟨v0,v3,hsl,yU⟩:=jB dh;obtain⟨W0,aZ⟩:=aD (w.alloc (Is #[I J v,I J l.k,I J l.n,I J l.p,I J l.c,V KL l.ks.len cl,I J r.k,I J r.n,I J r.p,I J r.c,V KR r.ks.len cr] 35))
 have hb0:Ix w.heap.size w W0:=by rw[aZ];go_grown
 have hq:au W0 w.heap.size 35 [I J v,I J l.k,I J l.n,I J l.p,I J l.c,V KL l.ks.len cl,I J r.k,I J r.n,I J r.p,I J r.c,V KR r.ks.len cr]:=by rw[aZ];exact au.new w 35 _
 have Qy:=aj (akk v l r KL KR cl cr B W0 (hL.sl.below (hb0.mono hB)) hL.len hL.cap (hR.sl.below (hb0.mono hB)) hR.len hR.cap (Mp hB hb0.size) v0 v3 hsl yU);have QG:ak (jZ v l r=(decide ((pG v l r).2=0)&&(pG v l r).1.2.isEmpty)):=rfl;obtain⟨sv,hsv⟩:=aD (jZ v l r)
 rw[<-hsv] at QG ⊢;obtain⟨gv,RH⟩:=aD (pG v l r)
 rw[<-RH] at Qy QG;obtain⟨⟨gu,ts⟩,gc⟩:=gv;simp only at QG;have c0:W0.cell? ⟨w.heap.size,0,U⟩=M (I J v):=ay hq
 have c1:W0.cell? ⟨w.heap.size,1,U⟩=M (I J l.k):=ay hq
 have c2:W0.cell? ⟨w.heap.size,2,U⟩=M (I J l.n):=ay hq
 have c3:W0.cell? ⟨w.heap.size,3,U⟩=M (I J l.p):=ay hq
 have c4:W0.cell? ⟨w.heap.size,4,U⟩=M (I J l.c):=ay hq
 have c5:W0.cell? ⟨w.heap.size,5,U⟩=M (V KL l.ks.len cl):=ay hq
 have c6:W0.cell? ⟨w.heap.size,6,U⟩=M (I J r.k):=ay hq
 have c7:W0.cell? ⟨w.heap.size,7,U⟩=M (I J r.n):=ay hq
 have c8:W0.cell? ⟨w.heap.size,8,U⟩=M (I J r.p):=ay hq
 have c9:W0.cell? ⟨w.heap.size,9,U⟩=M (I J r.c):=ay hq
 have c10:W0.cell? ⟨w.heap.size,10,U⟩=M (V KR r.ks.len cr):=ay hq
 have HB0:=aj hb0;have dI:=aj aZ;clear hL hR hb0 aZ hq hsv RH dh;go_enter func75,ntmps75;go_upto_region 1 with fail;rw[<-dI.o];go_wp2_with fail;refine Qy.o.mono ?_;rintro e w2 ⟨⟨hb2,A2,cp2,rfl,vZ⟩,afp⟩;have pW:ak (Ix w.heap.size w w2):=HB0.o.trans (hb2.mono HB0.o.size);clear c0 c1 c2 c3 c4 c5 c6 c7 c8 c9 c10 hb2 vZ afp Qy
 by_cases TF:gc=0
 ·subst TF
  cases ts with
  | nil=>
   have HV:ak (sv=true):=QG.o;go_wp2;go_ret;exact⟨by rw[HV.o];rfl,pW.o.alloc pW.o.size _⟩
  | cons t ts=>
   have HV:ak (sv=false):=QG.o;have hne:(((t :: ts).length:Int)==0)=false:=by simp;omega
   go_wp2;go_ret;exact⟨by rw[HV.o];simp;omega,pW.o.alloc pW.o.size _⟩
 ·have hgb:(gc==0)=false:=beq_eq_false_iff_ne.2 TF
  have HV:ak (sv=false):=by show _=_;rw[QG.o,decide_eq_false TF];rfl
  clear TF;go_wp2;go_ret;exact⟨by rw[HV.o];rfl,pW.o.alloc pW.o.size _⟩
theorem Oy(P:List Fn)(x:Nd)(vars funcs v:Int)(l r:Nd)(path:List Int)(A Kx KL KR Az:Option I3)(aU cx cl cr pc B:Nat)(w:Iv)(kJ:eP w B P A)(nV:P.length<=aU)(jL:aU<=I2)(hsz:bK P<=1048576)(hX:dO w B x Kx cx)(hxz:x.ks.size<=1048576)
  (hL:dO w B l KL cl) (hlz:l.ks.size<=1048576) (hR:dO w B r KR cr) (hrz:r.ks.size<=1048576) (hA:Ints w Az path) (hpl:path.length<=1048576) (hpc:path.length<=pc) (hpm:pc<=I2) (hB:B<=w.heap.size) :
  I0 Tryz.prog 25 #[rW A P.length aU,exV x.k x.n x.p x.c Kx x.ks.len cx,I J vars,I J funcs,rZ v l KL cl r KR cr,V Az path.length pc] w (fO (jJ P x vars funcs v l r path).1 (jJ P x vars funcs v l r path).2 w):=by
 obtain⟨W0,aZ⟩:=aD ((((w.alloc (Is #[V A P.length aU] 51)).alloc (Is #[I J x.k,I J x.n,I J x.p,I J x.c,V Kx x.ks.len cx] 33)).alloc (Is #[I J v,I J l.k,I J l.n,I J l.p,I J l.c,V KL l.ks.len cl,I J r.k,I J r.n,I J r.p,I J r.c,V KR r.ks.len cr] 35)).alloc (Is #[I J 0,I J 0,I J 0,I J 0,V U 0 0] 33))
 have hb0:Ix w.heap.size w W0:=by rw[aZ];go_grown
 obtain⟨X1,hX1⟩:=aD (w.alloc (Is #[V A P.length aU] 51))
 obtain⟨X2,hX2⟩:=aD (X1.alloc (Is #[I J x.k,I J x.n,I J x.p,I J x.c,V Kx x.ks.len cx] 33))
 obtain⟨X3,CU⟩:=aD (X2.alloc (Is #[I J v,I J l.k,I J l.n,I J l.p,I J l.c,V KL l.ks.len cl,I J r.k,I J r.n,I J r.p,I J r.c,V KR r.ks.len cr] 35))
 have z1:X1.heap.size=w.heap.size+1:=by rw[hX1];simp
 have z2:X2.heap.size=w.heap.size+2:=by rw[hX2];simp[z1]
 have z3:X3.heap.size=w.heap.size+3:=by rw[CU];simp[z2]
 have jw:W0=X3.alloc (Is #[I J 0,I J 0,I J 0,I J 0,V U 0 0] 33):=by rw[aZ,CU,hX2,hX1]
 have hs0:W0.heap.size=w.heap.size+4:=by rw[jw];simp[z3]
 have hb3:Ix X3.heap.size X3 W0:=by rw[jw];go_grown
 have hb2:Ix X2.heap.size X2 X3:=by rw[CU];go_grown
 have hb1:Ix X1.heap.size X1 X2:=by rw[hX2];go_grown
 have hq0:au W0 w.heap.size 51 [V A P.length aU]:=by
  have h:au X1 w.heap.size 51 [V A P.length aU]:=by rw[hX1];exact au.new w 51 _
  exact ((h.next hb1).next hb2).next hb3
 have hq1:au W0 (w.heap.size+1) 33 [I J x.k,I J x.n,I J x.p,I J x.c,V Kx x.ks.len cx]:=by
  have h:au X2 (w.heap.size+1) 33 [I J x.k,I J x.n,I J x.p,I J x.c,V Kx x.ks.len cx]:=by rw[hX2,<-z1];exact au.new X1 33 _
  exact (h.next hb2).next hb3
 have hq2:au W0 (w.heap.size+2) 35 [I J v,I J l.k,I J l.n,I J l.p,I J l.c,V KL l.ks.len cl,I J r.k,I J r.n,I J r.p,I J r.c,V KR r.ks.len cr]:=by
  have h:au X3 (w.heap.size+2) 35 [I J v,I J l.k,I J l.n,I J l.p,I J l.c,V KL l.ks.len cl,I J r.k,I J r.n,I J r.p,I J r.c,V KR r.ks.len cr]:=by rw[CU,<-z2];exact au.new X2 35 _
  exact h.next hb3
 have hq3:au W0 (w.heap.size+3) 33 [I J 0,I J 0,I J 0,I J 0,V U 0 0]:=by rw[jw,<-z3];exact au.new X3 33 _
 have hB0:B<=W0.heap.size:=Mp hB hb0.size;have Pm:ak (∀ wx,Ix W0.heap.size W0 wx->I0 Tryz.prog 72 #[rW A P.length aU] wx (d9 (gF P) wx)):=λwx h=>z8 P B A aU wx (kJ.below ((hb0.mono hB).trans (h.mono hB0))) nV jL (Mp hB0 h.size) hsz
 have Tn:ak (∀ wx,Ix W0.heap.size W0 wx->I0 Tryz.prog 73 #[rW A P.length aU,exV x.k x.n x.p x.c Kx x.ks.len cx,I J vars,I J funcs] wx (d9 (bT P x vars funcs) wx)):=λwx h=>mo P x.ks x.k x.n x.p x.c Kx cx B A aU vars funcs wx (hX.sl.below ((hb0.mono hB).trans (h.mono hB0))) hX.len hX.cap (kJ.below ((hb0.mono hB).trans (h.mono hB0))) nV jL (Mp hB0 h.size) hxz
 have Tp:ak (∀ wx,Ix W0.heap.size W0 wx->I0 Tryz.prog 62 #[rZ v l KL cl r KR cr] wx (d9 (eF v l r) wx)):=λwx h=>SH v l r KL KR cl cr B wx (hL.sl.below ((hb0.mono hB).trans (h.mono hB0))) hL.len hL.cap (hR.sl.below ((hb0.mono hB).trans (h.mono hB0))) hR.len hR.cap (Mp hB0 h.size) hlz hrz
 have ng:ak (∀ (y:Nd) (Ky:Option I3) (cy:Nat) wx,Ix W0.heap.size W0 wx->dO wx wx.heap.size y Ky cy->y.ks.size<=1048576->I0 Tryz.prog 73 #[rW A P.length aU,exV y.k y.n y.p y.c Ky y.ks.len cy,I J vars,I J funcs] wx (d9 (bT P y vars funcs) wx)):=λy Ky cy wx h hy hz=>mo P y.ks y.k y.n y.p y.c Ky cy wx.heap.size A aU vars funcs wx hy.sl hy.len hy.cap (eP.mono (kJ.below ((hb0.mono hB).trans (h.mono hB0))) (Mp hB0 h.size)) nV jL (Jn _) hz
 have HX:ak (∀ wx,Ix W0.heap.size W0 wx->wx.cell? ⟨w.heap.size,0,U⟩=M (V A P.length aU)/\wx.cell? ⟨w.heap.size+1,0,U⟩=M (I J x.k)/\wx.cell? ⟨w.heap.size+1,1,U⟩=M (I J x.n)/\wx.cell? ⟨w.heap.size+1,2,U⟩=M (I J x.p)/\wx.cell? ⟨w.heap.size+1,3,U⟩=M (I J x.c)/\wx.cell? ⟨w.heap.size+1,4,U⟩=M (V Kx x.ks.len cx)/\wx.cell? ⟨w.heap.size+2,0,U⟩=M (I J v)/\wx.cell? ⟨w.heap.size+2,1,U⟩=M (I J l.k)/\wx.cell? ⟨w.heap.size+2,2,U⟩=M (I J l.n)/\wx.cell? ⟨w.heap.size+2,3,U⟩=M (I J l.p)/\wx.cell? ⟨w.heap.size+2,4,U⟩=M (I J l.c)/\wx.cell? ⟨w.heap.size+2,5,U⟩=M (V KL l.ks.len cl)/\wx.cell? ⟨w.heap.size+2,6,U⟩=M (I J r.k)/\wx.cell? ⟨w.heap.size+2,7,U⟩=M (I J r.n)/\wx.cell? ⟨w.heap.size+2,8,U⟩=M (I J r.p)/\wx.cell? ⟨w.heap.size+2,9,U⟩=M (I J r.c)/\wx.cell? ⟨w.heap.size+2,10,U⟩=M (V KR r.ks.len cr)):=λwx hb=>by
  have h0:=hq0.next hb;have h1:=hq1.next hb;have h2:=hq2.next hb;exact⟨(h0.cell 0).trans rfl,(h1.cell 0).trans rfl,(h1.cell 1).trans rfl,(h1.cell 2).trans rfl,(h1.cell 3).trans rfl,(h1.cell 4).trans rfl,(h2.cell 0).trans rfl,(h2.cell 1).trans rfl,(h2.cell 2).trans rfl,(h2.cell 3).trans rfl,(h2.cell 4).trans rfl,(h2.cell 5).trans rfl,(h2.cell 6).trans rfl,(h2.cell 7).trans rfl,(h2.cell 8).trans rfl,(h2.cell 9).trans rfl,(h2.cell 10).trans rfl⟩
 have HZ:ak (∀ wx,Ix W0.heap.size W0 wx->au wx (w.heap.size+3) 33 [I J 0,I J 0,I J 0,I J 0,V U 0 0]):=λwx hb=>hq3.next hb
 have HXV:ak (dO W0 B x Kx cx/\dO W0 B l KL cl/\dO W0 B r KR cr/\Ints W0 Az path):=⟨hX.below (hb0.mono hB),hL.below (hb0.mono hB),hR.below (hb0.mono hB),hA.below hb0⟩
 have ahL:cl<=9223372036854775807:=by have:=hL.cap;unfold I2 at this;omega
 have ahN:cr<=9223372036854775807:=by have:=hR.cap;unfold I2 at this;omega
 have akE:cx<=9223372036854775807:=by have:=hX.cap;unfold I2 at this;omega
 have hxl:x.ks.len<=9223372036854775807:=by have:=hX.len;omega
 have hll:l.ks.len<=9223372036854775807:=by have:=hL.len;omega
 have hrl:r.ks.len<=9223372036854775807:=by have:=hR.len;omega
 obtain⟨rv,GK⟩:=aD (jJ P x vars funcs v l r path)
 rw[<-GK];have m_:=aj GK;have dI:=aj aZ;have HB0:=aj hb0;have gQ:=aj hs0;have Ck:ak (B<=W0.heap.size):=hB0;clear hb0 aZ jw hX1 hX2 CU hb1 hb2 hb3 hq0 hq1 hq2 hq3 hs0 z1 z2 z3 GK kJ hX hL hR hA hsz hxz hlz hrz;cases hp:gF P with
 | false=>
  rw[hp] at Pm;have HV:ak (rv=(jK,1)):=by show _=_;rw[m_.o];exact lY (λh=>by rw[hp] at h;cases h.1)
  clear hp;go_enter func25,ntmps25;go_upto_region 1 with fail;rw[<-dI.o];obtain⟨p0,e0,e1,e2,e3,e4,u0,u1,u2,u3,u4,u5,u6,u7,u8,u9,vE⟩:=HX.o W0 (Jx _ _);go_wp2_with fail;refine (Pm.o _ (Jx _ _)).mono ?_;rintro e w1 ⟨rfl,hb1⟩;have hZ:=HZ.o w1 hb1;have hbw:Ix w.heap.size w w1:=HB0.o.trans (hb1.mono HB0.o.size);have j0:w1.cell? ⟨w.heap.size+3,0,U⟩=M (I J 0):=ay hZ
  have g0:w1.frozen? ⟨w.heap.size+3,0,U⟩=false:=hZ.frozen _;have j1:w1.cell? ⟨w.heap.size+3,1,U⟩=M (I J 0):=ay hZ
  have g1:w1.frozen? ⟨w.heap.size+3,1,U⟩=false:=hZ.frozen _;have j2:w1.cell? ⟨w.heap.size+3,2,U⟩=M (I J 0):=ay hZ
  have g2:w1.frozen? ⟨w.heap.size+3,2,U⟩=false:=hZ.frozen _;have j3:w1.cell? ⟨w.heap.size+3,3,U⟩=M (I J 0):=ay hZ
  have g3:w1.frozen? ⟨w.heap.size+3,3,U⟩=false:=hZ.frozen _;have j4:w1.cell? ⟨w.heap.size+3,4,U⟩=M (V U 0 0):=ay hZ
  have g4:w1.frozen? ⟨w.heap.size+3,4,U⟩=false:=hZ.frozen _;have d0:=hZ;have d1:=d0.aJ 0 (I J 0);have d2:=d1.aJ 1 (I J 0);have d3:=d2.aJ 2 (I J 0);have d4:=d3.aJ 3 (I J 0);have d5:=d4.aJ 4 (V U 0 0);have x0:=d1.cell 0;have x1:=d2.cell 1;have x2:=d3.cell 2;have x3:=d4.cell 3;have x4:=d5.cell 4;simp only[eY] at x0 x1 x2 x3 x4
  clear d0 d1 d2 d3 d4 d5;have HP:ak (fO jK 1 w (If (.tuple #[exV 0 0 0 0 U 0 0,I J 1])) (cK w1 (w.heap.size+3) 0 0 0 0 0 (V U 0 0))):=
   ⟨bD _ _ _ _ _ hbw ah,U,0,rfl,Jn _,Nat.zero_le _,(b_.nil U _ (by rw[bN];exact Below.size hbw)).reg⟩
  clear hZ hbw hb1 p0 e0 e1 e2 e3 e4 u0 u1 u2 u3 u4 u5 u6 u7 u8 u9 vE;go_wp2;refine bodyPost_ret (v:=.tuple #[exV 0 0 0 0 U 0 0,I J 1]) (by simp[results,results25,go_sem,x0,x1,x2,x3,x4]) rfl ?_;rw[HV.o];exact HP.o
 | true=>
 rw[hp] at Pm;cases he:bT P x vars funcs with
 | false=>
  rw[he] at Tn;have HV:ak (rv=(jK,1)):=by show _=_;rw[m_.o];exact lY (λh=>by rw[he] at h;cases h.2.1)
  clear hp he;go_enter func25,ntmps25;go_upto_region 1 with fail;rw[<-dI.o];obtain⟨p0,e0,e1,e2,e3,e4,u0,u1,u2,u3,u4,u5,u6,u7,u8,u9,vE⟩:=HX.o W0 (Jx _ _);go_wp2_with fail;refine (Pm.o _ (Jx _ _)).mono ?_;rintro e w1 ⟨rfl,hb1⟩;clear p0 e0 e1 e2 e3 e4 u0 u1 u2 u3 u4 u5 u6 u7 u8 u9 vE;obtain⟨p0,e0,e1,e2,e3,e4,u0,u1,u2,u3,u4,u5,u6,u7,u8,u9,vE⟩:=HX.o w1 hb1;go_wp2_with fail
  refine (Tn.o _ hb1).mono ?_;rintro e w2 ⟨rfl,hb2⟩;have dR:=hb1.trans (hb2.mono hb1.size);have hZ:=HZ.o w2 dR;have hbw:Ix w.heap.size w w2:=HB0.o.trans (dR.mono HB0.o.size);have j0:w2.cell? ⟨w.heap.size+3,0,U⟩=M (I J 0):=ay hZ
  have g0:w2.frozen? ⟨w.heap.size+3,0,U⟩=false:=hZ.frozen _;have j1:w2.cell? ⟨w.heap.size+3,1,U⟩=M (I J 0):=ay hZ
  have g1:w2.frozen? ⟨w.heap.size+3,1,U⟩=false:=hZ.frozen _;have j2:w2.cell? ⟨w.heap.size+3,2,U⟩=M (I J 0):=ay hZ
  have g2:w2.frozen? ⟨w.heap.size+3,2,U⟩=false:=hZ.frozen _;have j3:w2.cell? ⟨w.heap.size+3,3,U⟩=M (I J 0):=ay hZ
  have g3:w2.frozen? ⟨w.heap.size+3,3,U⟩=false:=hZ.frozen _;have j4:w2.cell? ⟨w.heap.size+3,4,U⟩=M (V U 0 0):=ay hZ
  have g4:w2.frozen? ⟨w.heap.size+3,4,U⟩=false:=hZ.frozen _;have d0:=hZ;have d1:=d0.aJ 0 (I J 0);have d2:=d1.aJ 1 (I J 0);have d3:=d2.aJ 2 (I J 0);have d4:=d3.aJ 3 (I J 0);have d5:=d4.aJ 4 (V U 0 0);have x0:=d1.cell 0;have x1:=d2.cell 1;have x2:=d3.cell 2;have x3:=d4.cell 3;have x4:=d5.cell 4;simp only[eY] at x0 x1 x2 x3 x4
  clear d0 d1 d2 d3 d4 d5;have HP:ak (fO jK 1 w (If (.tuple #[exV 0 0 0 0 U 0 0,I J 1])) (cK w2 (w.heap.size+3) 0 0 0 0 0 (V U 0 0))):=
   ⟨bD _ _ _ _ _ hbw ah,U,0,rfl,Jn _,Nat.zero_le _,(b_.nil U _ (by rw[bN];exact Below.size hbw)).reg⟩
  clear hZ hbw hb1 hb2 dR p0 e0 e1 e2 e3 e4 u0 u1 u2 u3 u4 u5 u6 u7 u8 u9 vE;go_wp2;refine bodyPost_ret (v:=.tuple #[exV 0 0 0 0 U 0 0,I J 1]) (by simp[results,results25,go_sem,x0,x1,x2,x3,x4]) rfl ?_;rw[HV.o];exact HP.o
 | true=>
 rw[he] at Tn;cases hr:eF v l r with
 | false=>
  rw[hr] at Tp;have HV:ak (rv=(jK,1)):=by show _=_;rw[m_.o];exact lY (λh=>by rw[hr] at h;cases h.2.2)
  clear hp he hr;go_enter func25,ntmps25;go_upto_region 1 with fail;rw[<-dI.o];obtain⟨p0,e0,e1,e2,e3,e4,u0,u1,u2,u3,u4,u5,u6,u7,u8,u9,vE⟩:=HX.o W0 (Jx _ _);go_wp2_with fail;refine (Pm.o _ (Jx _ _)).mono ?_;rintro e w1 ⟨rfl,hb1⟩;clear p0 e0 e1 e2 e3 e4 u0 u1 u2 u3 u4 u5 u6 u7 u8 u9 vE;obtain⟨p0,e0,e1,e2,e3,e4,u0,u1,u2,u3,u4,u5,u6,u7,u8,u9,vE⟩:=HX.o w1 hb1;go_wp2_with fail
  refine (Tn.o _ hb1).mono ?_;rintro e w2 ⟨rfl,hb2⟩;have dR:=hb1.trans (hb2.mono hb1.size);clear p0 e0 e1 e2 e3 e4 u0 u1 u2 u3 u4 u5 u6 u7 u8 u9 vE;obtain⟨p0,e0,e1,e2,e3,e4,u0,u1,u2,u3,u4,u5,u6,u7,u8,u9,vE⟩:=HX.o w2 dR;go_wp2_with fail;refine (Tp.o _ dR).mono ?_;rintro e w3 ⟨rfl,hb3⟩;have iH:=dR.trans (hb3.mono dR.size);have hZ:=HZ.o w3 iH;have hbw:Ix w.heap.size w w3:=HB0.o.trans (iH.mono HB0.o.size)
  have j0:w3.cell? ⟨w.heap.size+3,0,U⟩=M (I J 0):=ay hZ
  have g0:w3.frozen? ⟨w.heap.size+3,0,U⟩=false:=hZ.frozen _;have j1:w3.cell? ⟨w.heap.size+3,1,U⟩=M (I J 0):=ay hZ
  have g1:w3.frozen? ⟨w.heap.size+3,1,U⟩=false:=hZ.frozen _;have j2:w3.cell? ⟨w.heap.size+3,2,U⟩=M (I J 0):=ay hZ
  have g2:w3.frozen? ⟨w.heap.size+3,2,U⟩=false:=hZ.frozen _;have j3:w3.cell? ⟨w.heap.size+3,3,U⟩=M (I J 0):=ay hZ
  have g3:w3.frozen? ⟨w.heap.size+3,3,U⟩=false:=hZ.frozen _;have j4:w3.cell? ⟨w.heap.size+3,4,U⟩=M (V U 0 0):=ay hZ
  have g4:w3.frozen? ⟨w.heap.size+3,4,U⟩=false:=hZ.frozen _;have d0:=hZ;have d1:=d0.aJ 0 (I J 0);have d2:=d1.aJ 1 (I J 0);have d3:=d2.aJ 2 (I J 0);have d4:=d3.aJ 3 (I J 0);have d5:=d4.aJ 4 (V U 0 0);have x0:=d1.cell 0;have x1:=d2.cell 1;have x2:=d3.cell 2;have x3:=d4.cell 3;have x4:=d5.cell 4;simp only[eY] at x0 x1 x2 x3 x4
  clear d0 d1 d2 d3 d4 d5;have HP:ak (fO jK 1 w (If (.tuple #[exV 0 0 0 0 U 0 0,I J 1])) (cK w3 (w.heap.size+3) 0 0 0 0 0 (V U 0 0))):=
   ⟨bD _ _ _ _ _ hbw ah,U,0,rfl,Jn _,Nat.zero_le _,(b_.nil U _ (by rw[bN];exact Below.size hbw)).reg⟩
  clear hZ hbw hb1 hb2 dR hb3 iH p0 e0 e1 e2 e3 e4 u0 u1 u2 u3 u4 u5 u6 u7 u8 u9 vE;go_wp2;refine bodyPost_ret (v:=.tuple #[exV 0 0 0 0 U 0 0,I J 1]) (by simp[results,results25,go_sem,x0,x1,x2,x3,x4]) rfl ?_;rw[HV.o];exact HP.o
 | true=>
 rw[hr] at Tp;have hxs:=zG he;have Ph:ak (rv=iC P x vars funcs v l r path):=by show _=_;rw[m_.o];exact FC hp he hr
 have JO:=λwx (h:Ix W0.heap.size W0 wx)=>Og x.k x.n x.p x.c x.ks Kx cx Az pc path B wx (HXV.o.1.below (h.mono Ck.o)) (Mp Ck.o h.size) (by unfold Nd.size at hxs;omega) (HXV.o.2.2.2.below h) hpl
 have HNO:=aj JO;have EL:ak (∀ wx,Ix W0.heap.size W0 wx->I0 Tryz.prog 75 #[rZ v l KL cl r KR cr] wx (d9 (jZ v l r) wx)):=λwx h=>afY v l r KL KR cl cr B wx (HXV.o.2.1.below (h.mono Ck.o)) (HXV.o.2.2.1.below (h.mono Ck.o)) (Mp Ck.o h.size) hr
 have HRW:ak (∀ (y:Nd) (Ky:Option I3) (cy:Nat) wx,Ix W0.heap.size W0 wx->dO wx B y Ky cy->y.size<=400->I0 Tryz.prog 76 #[rZ v l KL cl r KR cr,exV y.k y.n y.p y.c Ky y.ks.len cy] wx (fO (jY v l r y).1 (jY v l r y).2 wx)):=λy Ky cy wx h hy hz=>EB v l r y KL KR Ky cl cr cy B wx (HXV.o.2.1.below (h.mono Ck.o)) (HXV.o.2.2.1.below (h.mono Ck.o)) hy (Mp Ck.o h.size) hr ah
 have HRZ:ak (r.size<=40):=by
  obtain⟨_,_,_,yU⟩:=jB hr;obtain⟨r1,_⟩:=cZ yU;show 1+_<=40;omega
 have L8:=aj hxs;clear hp he hr m_ JO hxs;go_enter func25,ntmps25;go_upto_region 1 with fail;rw[<-dI.o];obtain⟨p0,e0,e1,e2,e3,e4,u0,u1,u2,u3,u4,u5,u6,u7,u8,u9,vE⟩:=HX.o W0 (Jx _ _);go_wp2_with fail;refine (Pm.o _ (Jx _ _)).mono ?_;rintro e w1 ⟨rfl,hb1⟩;clear p0 e0 e1 e2 e3 e4 u0 u1 u2 u3 u4 u5 u6 u7 u8 u9 vE;obtain⟨p0,e0,e1,e2,e3,e4,u0,u1,u2,u3,u4,u5,u6,u7,u8,u9,vE⟩:=HX.o w1 hb1
 go_wp2_with fail;refine (Tn.o _ hb1).mono ?_;rintro e w2 ⟨rfl,hb2⟩;have dR:=hb1.trans (hb2.mono hb1.size);clear p0 e0 e1 e2 e3 e4 u0 u1 u2 u3 u4 u5 u6 u7 u8 u9 vE;obtain⟨p0,e0,e1,e2,e3,e4,u0,u1,u2,u3,u4,u5,u6,u7,u8,u9,vE⟩:=HX.o w2 dR;go_wp2_with fail;refine (Tp.o _ dR).mono ?_;rintro e w3 ⟨rfl,hb3⟩;have iH:=dR.trans (hb3.mono dR.size);clear hb1 hb2 dR hb3 Pm Tn Tp;clear p0 e0 e1 e2 e3 e4 u0 u1 u2 u3 u4 u5 u6 u7 u8 u9 vE
 obtain⟨p0,e0,e1,e2,e3,e4,u0,u1,u2,u3,u4,u5,u6,u7,u8,u9,vE⟩:=HX.o w3 iH;go_wp2_with fail;refine (HNO.o _ iH).mono ?_;rintro e w4 ⟨hb4,hn0,hn1⟩;have gq:=iH.trans (hb4.mono iH.size);clear p0 e0 e1 e2 e3 e4 u0 u1 u2 u3 u4 u5 u6 u7 u8 u9 vE;cases hat:nodeAt x path with
 | none=>
  rw[hn0 hat];have HV:ak (rv=(jK,2)):=by show _=_;rw[Ph.o];exact Dv hat
  clear hn0 hn1 hat;have fU:Ix w4.heap.size w4 (w4.alloc (Is #[I J 0,I J 0,I J 0,I J 0,V U 0 0] 33)):=aV;have jf:=gq.trans (fU.mono gq.size);have hZ:=HZ.o _ jf;have hbw:=HB0.o.trans (jf.mono HB0.o.size);obtain⟨W5,hW5⟩:=aD (w4.alloc (Is #[I J 0,I J 0,I J 0,I J 0,V U 0 0] 33))
  rw[<-hW5] at hZ hbw;go_upto_region 4 with fail;change Code.wp _ _ _ _ (w4.alloc (Is #[I J 0,I J 0,I J 0,I J 0,V U 0 0] 33));rw[<-hW5];clear hW5;have j0:W5.cell? ⟨w.heap.size+3,0,U⟩=M (I J 0):=ay hZ
  have g0:W5.frozen? ⟨w.heap.size+3,0,U⟩=false:=hZ.frozen _;have j1:W5.cell? ⟨w.heap.size+3,1,U⟩=M (I J 0):=ay hZ
  have g1:W5.frozen? ⟨w.heap.size+3,1,U⟩=false:=hZ.frozen _;have j2:W5.cell? ⟨w.heap.size+3,2,U⟩=M (I J 0):=ay hZ
  have g2:W5.frozen? ⟨w.heap.size+3,2,U⟩=false:=hZ.frozen _;have j3:W5.cell? ⟨w.heap.size+3,3,U⟩=M (I J 0):=ay hZ
  have g3:W5.frozen? ⟨w.heap.size+3,3,U⟩=false:=hZ.frozen _;have j4:W5.cell? ⟨w.heap.size+3,4,U⟩=M (V U 0 0):=ay hZ
  have g4:W5.frozen? ⟨w.heap.size+3,4,U⟩=false:=hZ.frozen _;have d0:=hZ;have d1:=d0.aJ 0 (I J 0);have d2:=d1.aJ 1 (I J 0);have d3:=d2.aJ 2 (I J 0);have d4:=d3.aJ 3 (I J 0);have d5:=d4.aJ 4 (V U 0 0);have x0:=d1.cell 0;have x1:=d2.cell 1;have x2:=d3.cell 2;have x3:=d4.cell 3;have x4:=d5.cell 4;simp only[eY] at x0 x1 x2 x3 x4
  clear d0 d1 d2 d3 d4 d5;have HP:ak (fO jK 2 w (If (.tuple #[exV 0 0 0 0 U 0 0,I J 2])) (cK W5 (w.heap.size+3) 0 0 0 0 0 (V U 0 0))):=
   ⟨bD _ _ _ _ _ hbw ah,U,0,rfl,Jn _,Nat.zero_le _,(b_.nil U _ (by rw[bN];exact Below.size hbw)).reg⟩
  clear hZ hbw iH hb4 gq fU jf;go_wp2;refine bodyPost_ret (v:=.tuple #[exV 0 0 0 0 U 0 0,I J 2]) (by simp[results,results25,go_sem,x0,x1,x2,x3,x4]) rfl ?_;rw[HV.o];exact HP.o
 | some y=>
  obtain⟨Ky,cy,rfl,hyv⟩:=hn1 y hat;have hyz:y.size<=400:=by have:=tH hat;have:=L8.o;omega
  have hpz:path.length<=400:=by have:=xw hat;have:=L8.o;omega
  have amV:cy<=9223372036854775807:=by have:=hyv.cap;unfold I2 at this;omega
  have hyl:y.ks.len<=9223372036854775807:=by have:=hyv.len;omega
  clear hn0 hn1;have fU:Ix w4.heap.size w4 (w4.alloc (Is #[I J y.k,I J y.n,I J y.p,I J y.c,V Ky y.ks.len cy] 33)):=aV;have jf:=gq.trans (fU.mono gq.size);have abt:dO (w4.alloc (Is #[I J y.k,I J y.n,I J y.p,I J y.c,V Ky y.ks.len cy] 33)) B y Ky cy:=hyv.below (fU.mono (Mp Ck.o gq.size));have hkb:=au.new w4 33 [I J y.k,I J y.n,I J y.p,I J y.c,V Ky y.ks.len cy]
  obtain⟨W5,hW5⟩:=aD (w4.alloc (Is #[I J y.k,I J y.n,I J y.p,I J y.c,V Ky y.ks.len cy] 33))
  rw[<-hW5] at jf abt hkb;have FT:=aj hkb;have HYV:=aj abt;have LB:=aj jf;have al8:w4.heap.size<W5.heap.size:=by rw[hW5];simp
  cases hs:jZ v l r with
  | false=>
   rw[hs] at EL;have HV:ak (rv=(jK,8)):=by show _=_;rw[Ph.o];exact FD hat hs
   clear hat hs hkb hyv abt fU;go_upto_region 4 with fail;change Code.wp _ _ _ _ (w4.alloc (Is #[I J y.k,I J y.n,I J y.p,I J y.c,V Ky y.ks.len cy] 33));rw[<-hW5];clear hW5;obtain⟨p0,e0,e1,e2,e3,e4,u0,u1,u2,u3,u4,u5,u6,u7,u8,u9,vE⟩:=HX.o W5 jf;go_wp2_with fail;refine (EL.o _ jf).mono ?_;rintro e w6 ⟨rfl,hb6⟩;have ig:=jf.trans (hb6.mono jf.size);have hZ:=HZ.o w6 ig
   have hbw:=HB0.o.trans (ig.mono HB0.o.size);have j0:w6.cell? ⟨w.heap.size+3,0,U⟩=M (I J 0):=ay hZ
   have g0:w6.frozen? ⟨w.heap.size+3,0,U⟩=false:=hZ.frozen _;have j1:w6.cell? ⟨w.heap.size+3,1,U⟩=M (I J 0):=ay hZ
   have g1:w6.frozen? ⟨w.heap.size+3,1,U⟩=false:=hZ.frozen _;have j2:w6.cell? ⟨w.heap.size+3,2,U⟩=M (I J 0):=ay hZ
   have g2:w6.frozen? ⟨w.heap.size+3,2,U⟩=false:=hZ.frozen _;have j3:w6.cell? ⟨w.heap.size+3,3,U⟩=M (I J 0):=ay hZ
   have g3:w6.frozen? ⟨w.heap.size+3,3,U⟩=false:=hZ.frozen _;have j4:w6.cell? ⟨w.heap.size+3,4,U⟩=M (V U 0 0):=ay hZ
   have g4:w6.frozen? ⟨w.heap.size+3,4,U⟩=false:=hZ.frozen _;have d0:=hZ;have d1:=d0.aJ 0 (I J 0);have d2:=d1.aJ 1 (I J 0);have d3:=d2.aJ 2 (I J 0);have d4:=d3.aJ 3 (I J 0);have d5:=d4.aJ 4 (V U 0 0);have x0:=d1.cell 0;have x1:=d2.cell 1;have x2:=d3.cell 2;have x3:=d4.cell 3;have x4:=d5.cell 4;simp only[eY] at x0 x1 x2 x3 x4
   clear d0 d1 d2 d3 d4 d5;have HP:ak (fO jK 8 w (If (.tuple #[exV 0 0 0 0 U 0 0,I J 8])) (cK w6 (w.heap.size+3) 0 0 0 0 0 (V U 0 0))):=
    ⟨bD _ _ _ _ _ hbw ah,U,0,rfl,Jn _,Nat.zero_le _,(b_.nil U _ (by rw[bN];exact Below.size hbw)).reg⟩
   clear hZ hbw iH hb4 gq jf hb6 ig p0 e0 e1 e2 e3 e4 u0 u1 u2 u3 u4 u5 u6 u7 u8 u9 vE;go_wp2;refine bodyPost_ret (v:=.tuple #[exV 0 0 0 0 U 0 0,I J 8]) (by simp[results,results25,go_sem,x0,x1,x2,x3,x4]) rfl ?_;rw[HV.o];exact HP.o
  | true=>
  rw[hs] at EL;have LY:=aj (λwx (h:Ix W5.heap.size W5 wx)=>HRW.o y Ky cy wx (LB.o.trans (h.mono LB.o.size)) (HYV.o.below (h.mono (Mp Ck.o LB.o.size))) hyz);obtain⟨q,hq⟩:=aD (jY v l r y)
  have hqz:q.1.size<=16001:=by
   have h1:=FJ (vars:=v) (l:=l) (r:=r) (x:=y);have h2:r.size*y.size<=40*400:=Nat.mul_le_mul HRZ.o hyz;rw[hq];omega
  rw[<-hq] at LY;have HRC:ak (q.2≠0->rv=(jK,q.2)):=λh=>by rw[Ph.o,Du hat hs (by rw[<-hq];exact h),<-hq]
  have Im:ak (q.2=0->bT P (fT x q.1 path) vars funcs=false->rv=(jK,3)):=λh h'=>by rw[Ph.o];exact FE hat hs (by rw[<-hq];exact h) (by rw[<-hq];exact h')
  have HRO:ak (q.2=0->bT P (fT x q.1 path) vars funcs=true->rv=(fT x q.1 path,0)):=λh h'=>by rw[Ph.o,Kw hat hs (by rw[<-hq];exact h) (by rw[<-hq];exact h'),<-hq]
  have LM:ak (nodeAt x path=M y):=hat;clear hat hs hkb hyv abt fU hq HRW;obtain⟨q1,qc⟩:=q;simp only at LY hqz HRC Im HRO;go_upto_region 4 with fail;change Code.wp _ _ _ _ (w4.alloc (Is #[I J y.k,I J y.n,I J y.p,I J y.c,V Ky y.ks.len cy] 33));rw[<-hW5];clear hW5;obtain⟨p0,e0,e1,e2,e3,e4,u0,u1,u2,u3,u4,u5,u6,u7,u8,u9,vE⟩:=HX.o W5 jf;go_wp2_with fail
  refine (EL.o _ jf).mono ?_;rintro e w6 ⟨rfl,hb6⟩;have ig:=jf.trans (hb6.mono jf.size);clear p0 e0 e1 e2 e3 e4 u0 u1 u2 u3 u4 u5 u6 u7 u8 u9 vE;clear EL HNO;obtain⟨p0,e0,e1,e2,e3,e4,u0,u1,u2,u3,u4,u5,u6,u7,u8,u9,vE⟩:=HX.o w6 ig;have RI:=FT.o.next hb6;have P9:w6.cell? ⟨w4.heap.size,0,U⟩=M (I J y.k):=ay RI
  have P_:w6.cell? ⟨w4.heap.size,1,U⟩=M (I J y.n):=ay RI
  have Qa:w6.cell? ⟨w4.heap.size,2,U⟩=M (I J y.p):=ay RI
  have Qb:w6.cell? ⟨w4.heap.size,3,U⟩=M (I J y.c):=ay RI
  have Qc:w6.cell? ⟨w4.heap.size,4,U⟩=M (V Ky y.ks.len cy):=ay RI
  go_wp2_with fail;refine (LY.o _ hb6).mono ?_;rintro e w7 ⟨wV,K7,c7,rfl,hc7,hm7,JR⟩;have jW:=ig.trans (wV.mono ig.size);clear p0 e0 e1 e2 e3 e4 u0 u1 u2 u3 u4 u5 u6 u7 u8 u9 vE;clear P9 P_ Qa Qb Qc RI;have ht7:b_ w6.heap.size w7.heap.size q1.ks K7 w7:=JR.now;have h7a:c7<=9223372036854775807:=by unfold I2 at hm7;omega
  have h7b:q1.ks.len<=9223372036854775807:=ah;have fU:Ix w7.heap.size w7 (w7.alloc (Is #[I J q1.k,I J q1.n,I J q1.p,I J q1.c,V K7 q1.ks.len c7] 33)):=aV;have gN:=jW.trans (fU.mono jW.size);have hqv:dO (w7.alloc (Is #[I J q1.k,I J q1.n,I J q1.p,I J q1.c,V K7 q1.ks.len c7] 33)) w7.heap.size q1 K7 c7:=⟨(ht7.sl (Jn _)).below fU,hc7,hm7⟩
  have hkb:=au.new w7 33 [I J q1.k,I J q1.n,I J q1.p,I J q1.c,V K7 q1.ks.len c7];obtain⟨W8,Tz⟩:=aD (w7.alloc (Is #[I J q1.k,I J q1.n,I J q1.p,I J q1.c,V K7 q1.ks.len c7] 33))
  rw[<-Tz] at gN hqv hkb;have al9:w7.heap.size<W8.heap.size:=by rw[Tz];simp
  clear JR ht7 fU
  by_cases hqc:qc=0
  case neg=>
   have Y5:(qc != 0)=true:=by simpa using hqc
   have HV:=aj (HRC.o hqc);have hZ:=HZ.o W8 gN;have hbw:=HB0.o.trans (gN.mono HB0.o.size);clear hqc hkb hqv;go_upto_region 10 with fail;change Code.wp _ _ _ _ (w7.alloc (Is #[I J q1.k,I J q1.n,I J q1.p,I J q1.c,V K7 q1.ks.len c7] 33));rw[<-Tz];clear Tz;have j0:W8.cell? ⟨w.heap.size+3,0,U⟩=M (I J 0):=ay hZ
   have g0:W8.frozen? ⟨w.heap.size+3,0,U⟩=false:=hZ.frozen _;have j1:W8.cell? ⟨w.heap.size+3,1,U⟩=M (I J 0):=ay hZ
   have g1:W8.frozen? ⟨w.heap.size+3,1,U⟩=false:=hZ.frozen _;have j2:W8.cell? ⟨w.heap.size+3,2,U⟩=M (I J 0):=ay hZ
   have g2:W8.frozen? ⟨w.heap.size+3,2,U⟩=false:=hZ.frozen _;have j3:W8.cell? ⟨w.heap.size+3,3,U⟩=M (I J 0):=ay hZ
   have g3:W8.frozen? ⟨w.heap.size+3,3,U⟩=false:=hZ.frozen _;have j4:W8.cell? ⟨w.heap.size+3,4,U⟩=M (V U 0 0):=ay hZ
   have g4:W8.frozen? ⟨w.heap.size+3,4,U⟩=false:=hZ.frozen _;have d0:=hZ;have d1:=d0.aJ 0 (I J 0);have d2:=d1.aJ 1 (I J 0);have d3:=d2.aJ 2 (I J 0);have d4:=d3.aJ 3 (I J 0);have d5:=d4.aJ 4 (V U 0 0);have x0:=d1.cell 0;have x1:=d2.cell 1;have x2:=d3.cell 2;have x3:=d4.cell 3;have x4:=d5.cell 4;simp only[eY] at x0 x1 x2 x3 x4
   clear d0 d1 d2 d3 d4 d5;have HP:ak (fO jK qc w (If (.tuple #[exV 0 0 0 0 U 0 0,I J qc])) (cK W8 (w.heap.size+3) 0 0 0 0 0 (V U 0 0))):=
    ⟨bD _ _ _ _ _ hbw ah,U,0,rfl,Jn _,Nat.zero_le _,(b_.nil U _ (by rw[bN];exact Below.size hbw)).reg⟩
   clear hZ hbw iH hb4 gq jf hb6 ig jW gN wV;go_wp2;refine bodyPost_ret (v:=.tuple #[exV 0 0 0 0 U 0 0,I J qc]) (by simp[results,results25,go_sem,x0,x1,x2,x3,x4]) rfl ?_;rw[HV.o];exact HP.o
  case pos=>
  subst hqc;have hx8:=HXV.o.1.below (gN.mono Ck.o);have hrep:=Ht path ah x.k x.n x.p x.c x.ks Kx cx Az pc q1 K7 c7 w7.heap.size y W8 (hx8.mono (by have:=jW.size;have:=Ck.o;omega)) hqv (HXV.o.2.2.2.below gN) hpc hpm ah (by have:=L8.o;unfold Nd.size at this;omega) LM.o;have VA:=aj hrep;have hrz:(fT x q1 path).size<=16401:=by have:=xE q1 LM.o;have:=L8.o;omega
  obtain⟨z,hzz⟩:=aD (fT x q1 path)
  have VB:ak (I0 Tryz.prog 78 #[exV x.k x.n x.p x.c Kx x.ks.len cx,V Az path.length pc,exV q1.k q1.n q1.p q1.c K7 q1.ks.len c7] W8 (pY w7.heap.size z W8)):=by rw[hzz];exact VA.o
  rw[<-hzz] at hrz Im HRO;have Vm:=aj hkb;clear hrep VA hzz hx8 hqv hkb LM HRC;go_upto_region 11 with fail;change Code.wp _ _ _ _ (w7.alloc (Is #[I J q1.k,I J q1.n,I J q1.p,I J q1.c,V K7 q1.ks.len c7] 33));rw[<-Tz];clear Tz;obtain⟨p0,e0,e1,e2,e3,e4,u0,u1,u2,u3,u4,u5,u6,u7,u8,u9,vE⟩:=HX.o W8 gN;have P9:W8.cell? ⟨w7.heap.size,0,U⟩=M (I J q1.k):=ay Vm.o
  have P_:W8.cell? ⟨w7.heap.size,1,U⟩=M (I J q1.n):=ay Vm.o
  have Qa:W8.cell? ⟨w7.heap.size,2,U⟩=M (I J q1.p):=ay Vm.o
  have Qb:W8.cell? ⟨w7.heap.size,3,U⟩=M (I J q1.c):=ay Vm.o
  have Qc:W8.cell? ⟨w7.heap.size,4,U⟩=M (V K7 q1.ks.len c7):=ay Vm.o
  go_wp2_with fail;refine VB.o.mono ?_;rintro e w9 ⟨La,K9,c9,rfl,hc9,hm9,hq9⟩;have nA:=gN.trans (La.mono gN.size);clear p0 e0 e1 e2 e3 e4 u0 u1 u2 u3 u4 u5 u6 u7 u8 u9 vE;clear P9 P_ Qa Qb Qc;have yY:=aj (Cv (z.ks.size+1) z.ks ah z.k z.n z.p z.c K9 c9 w9.heap.size w9 hq9.exs hc9 hm9 (Jn _) (by unfold Nd.size at hrz;omega));clear hq9;go_wp2_with fail;refine yY.o.mono ?_;rintro e kL ⟨qx,pU,c10,rfl,GD,Eu,Rs⟩
  simp only at GD Rs;have yu:=nA.trans (qx.mono nA.size);have akn:c10<=9223372036854775807:=by unfold I2 at Eu;omega
  have ako:z.ks.len<=9223372036854775807:=ah;have fU:Ix kL.heap.size kL (kL.alloc (Is #[I J z.k,I J z.n,I J z.p,I J z.c,V pU z.ks.len c10] 33)):=aV;have lC:=yu.trans (fU.mono yu.size);have GL:b_ w9.heap.size kL.heap.size z.ks pU (kL.alloc (Is #[I J z.k,I J z.n,I J z.p,I J z.c,V pU z.ks.len c10] 33)):=Rs.below fU (Jn _)
  have hkb:=au.new kL 33 [I J z.k,I J z.n,I J z.p,I J z.c,V pU z.ks.len c10];obtain⟨XF,Gw⟩:=aD (kL.alloc (Is #[I J z.k,I J z.n,I J z.p,I J z.c,V pU z.ks.len c10] 33))
  rw[<-Gw] at lC GL hkb;have ahq:kL.heap.size<XF.heap.size:=by rw[Gw];simp
  have HVZ:=aj (ng.o z pU c10 XF lC ⟨GL.sl ah,GD,Eu⟩ (by unfold Nd.size at hrz;omega));have aeS:=aj GL;have Ad:=aj hkb;have h9w:w.heap.size+4<=w9.heap.size:=by have:=nA.size;have:=gQ.o;omega
  clear yY Rs fU GL hkb;go_upto_region 12 with fail;change Code.wp _ _ _ _ (kL.alloc (Is #[I J z.k,I J z.n,I J z.p,I J z.c,V pU z.ks.len c10] 33));rw[<-Gw];clear Gw;obtain⟨p0,e0,e1,e2,e3,e4,u0,u1,u2,u3,u4,u5,u6,u7,u8,u9,vE⟩:=HX.o XF lC;have P9:XF.cell? ⟨kL.heap.size,0,U⟩=M (I J z.k):=ay Ad.o
  have P_:XF.cell? ⟨kL.heap.size,1,U⟩=M (I J z.n):=ay Ad.o
  have Qa:XF.cell? ⟨kL.heap.size,2,U⟩=M (I J z.p):=ay Ad.o
  have Qb:XF.cell? ⟨kL.heap.size,3,U⟩=M (I J z.c):=ay Ad.o
  have Qc:XF.cell? ⟨kL.heap.size,4,U⟩=M (V pU z.ks.len c10):=ay Ad.o
  cases RF:bT P z vars funcs with
  | false=>
   rw[RF] at HVZ;have HV:=aj (Im.o trivial RF);clear RF;go_wp2_with fail;refine HVZ.o.mono ?_;rintro e jo ⟨rfl,dR⟩;have nX:=lC.trans (dR.mono lC.size);have hZ:=HZ.o jo nX;have hbw:=HB0.o.trans (nX.mono HB0.o.size);have j0:jo.cell? ⟨w.heap.size+3,0,U⟩=M (I J 0):=ay hZ
   have g0:jo.frozen? ⟨w.heap.size+3,0,U⟩=false:=hZ.frozen _;have j1:jo.cell? ⟨w.heap.size+3,1,U⟩=M (I J 0):=ay hZ
   have g1:jo.frozen? ⟨w.heap.size+3,1,U⟩=false:=hZ.frozen _;have j2:jo.cell? ⟨w.heap.size+3,2,U⟩=M (I J 0):=ay hZ
   have g2:jo.frozen? ⟨w.heap.size+3,2,U⟩=false:=hZ.frozen _;have j3:jo.cell? ⟨w.heap.size+3,3,U⟩=M (I J 0):=ay hZ
   have g3:jo.frozen? ⟨w.heap.size+3,3,U⟩=false:=hZ.frozen _;have j4:jo.cell? ⟨w.heap.size+3,4,U⟩=M (V U 0 0):=ay hZ
   have g4:jo.frozen? ⟨w.heap.size+3,4,U⟩=false:=hZ.frozen _;have d0:=hZ;have d1:=d0.aJ 0 (I J 0);have d2:=d1.aJ 1 (I J 0);have d3:=d2.aJ 2 (I J 0);have d4:=d3.aJ 3 (I J 0);have d5:=d4.aJ 4 (V U 0 0);have x0:=d1.cell 0;have x1:=d2.cell 1;have x2:=d3.cell 2;have x3:=d4.cell 3;have x4:=d5.cell 4;simp only[eY] at x0 x1 x2 x3 x4
   clear d0 d1 d2 d3 d4 d5;have HP:ak (fO jK 3 w (If (.tuple #[exV 0 0 0 0 U 0 0,I J 3])) (cK jo (w.heap.size+3) 0 0 0 0 0 (V U 0 0))):=
    ⟨bD _ _ _ _ _ hbw ah,U,0,rfl,Jn _,Nat.zero_le _,(b_.nil U _ (by rw[bN];exact Below.size hbw)).reg⟩
   clear hZ hbw iH hb4 gq jf hb6 ig jW gN wV La nA qx yu lC dR nX p0 e0 e1 e2 e3 e4 u0 u1 u2 u3 u4 u5 u6 u7 u8 u9 vE P9 P_ Qa Qb Qc;go_wp2;refine bodyPost_ret (v:=.tuple #[exV 0 0 0 0 U 0 0,I J 3]) (by simp[results,results25,go_sem,x0,x1,x2,x3,x4]) rfl ?_;rw[HV.o];exact HP.o
  | true=>
   rw[RF] at HVZ;have HV:=aj (HRO.o trivial RF);clear RF;go_wp2_with fail;refine HVZ.o.mono ?_;rintro e jo ⟨rfl,dR⟩;have nX:=lC.trans (dR.mono lC.size);have hZ:=HZ.o jo nX;have hbw:=HB0.o.trans (nX.mono HB0.o.size);have qy:=Ad.o.next dR;clear p0 e0 e1 e2 e3 e4 u0 u1 u2 u3 u4 u5 u6 u7 u8 u9 vE;clear P9 P_ Qa Qb Qc;have P9:jo.cell? ⟨kL.heap.size,0,U⟩=M (I J z.k):=ay qy
   have P_:jo.cell? ⟨kL.heap.size,1,U⟩=M (I J z.n):=ay qy
   have Qa:jo.cell? ⟨kL.heap.size,2,U⟩=M (I J z.p):=ay qy
   have Qb:jo.cell? ⟨kL.heap.size,3,U⟩=M (I J z.c):=ay qy
   have Qc:jo.cell? ⟨kL.heap.size,4,U⟩=M (V pU z.ks.len c10):=ay qy
   have j0:jo.cell? ⟨w.heap.size+3,0,U⟩=M (I J 0):=ay hZ
   have g0:jo.frozen? ⟨w.heap.size+3,0,U⟩=false:=hZ.frozen _;have j1:jo.cell? ⟨w.heap.size+3,1,U⟩=M (I J 0):=ay hZ
   have g1:jo.frozen? ⟨w.heap.size+3,1,U⟩=false:=hZ.frozen _;have j2:jo.cell? ⟨w.heap.size+3,2,U⟩=M (I J 0):=ay hZ
   have g2:jo.frozen? ⟨w.heap.size+3,2,U⟩=false:=hZ.frozen _;have j3:jo.cell? ⟨w.heap.size+3,3,U⟩=M (I J 0):=ay hZ
   have g3:jo.frozen? ⟨w.heap.size+3,3,U⟩=false:=hZ.frozen _;have j4:jo.cell? ⟨w.heap.size+3,4,U⟩=M (V U 0 0):=ay hZ
   have g4:jo.frozen? ⟨w.heap.size+3,4,U⟩=false:=hZ.frozen _;have d0:=hZ;have d1:=d0.aJ 0 (I J z.k);have d2:=d1.aJ 1 (I J z.n);have d3:=d2.aJ 2 (I J z.p);have d4:=d3.aJ 3 (I J z.c);have d5:=d4.aJ 4 (V pU z.ks.len c10);have x0:=d1.cell 0;have x1:=d2.cell 1;have x2:=d3.cell 2;have x3:=d4.cell 3;have x4:=d5.cell 4;simp only[eY] at x0 x1 x2 x3 x4
   clear d0 d1 d2 d3 d4 d5;have HP:ak (fO z 0 w (If (.tuple #[exV z.k z.n z.p z.c pU z.ks.len c10,I J 0])) (cK jo (w.heap.size+3) 0 z.k z.n z.p z.c (V pU z.ks.len c10))):=by
    have ht:b_ w.heap.size (cK jo (w.heap.size+3) 0 z.k z.n z.p z.c (V pU z.ks.len c10)).heap.size z.ks pU (cK jo (w.heap.size+3) 0 z.k z.n z.p z.c (V pU z.ks.len c10)):=by
     rw[bN];exact (((aeS.o.below dR ah).keep (λq q1 q2=>dN _ _ _ _ _ ah)).wide ah (by have:=dR.size;omega))
    exact⟨bD _ _ _ _ _ hbw ah,pU,c10,rfl,GD,Eu,ht.reg⟩
   clear hZ hbw iH hb4 gq jf hb6 ig jW gN wV La nA qx yu lC dR nX qy;go_wp2;refine bodyPost_ret (v:=.tuple #[exV z.k z.n z.p z.c pU z.ks.len c10,I J 0]) (by simp[results,results25,go_sem,x0,x1,x2,x3,x4]) rfl ?_;rw[HV.o];exact HP.o
end
end Go.Proofs.YtgfkglhelfkpoaaGreat
