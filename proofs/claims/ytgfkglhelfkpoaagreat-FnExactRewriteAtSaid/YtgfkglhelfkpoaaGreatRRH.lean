/- Parts of the proof. -/
import Derived.Test.YtgfkglhelfkpoaaGreatRRG
set_option maxRecDepth 100000
set_option maxHeartbeats 8000000
open Go.Proofs.Tryz
open Go.Value renaming int→I,slice→V
open Go.IntKind renaming i64→J
open Option renaming some→M,none→U
open Go.Ending renaming returned→If
open Go.Obj renaming cells→Is
open Go renaming World→Iv,Calls→I0,maxLen→I2,Addr→I3
open Go.RowKit renaming Below→Ix
open Nat renaming le_refl→Jn,le_trans→Mp
open Go.RowKit.Below renaming refl→Jx
namespace Go.Proofs.YtgfkglhelfkpoaaGreat
section
open Go.RowKit Plain
theorem X8{w:Iv}{g:Nat}{x:Nd}{K:Option I3}{c:Nat}(h:au w g 33 [I J x.k,I J x.n,I J x.p,I J x.c,V K x.ks.len c])(hx:dO w w.heap.size x K c):dF w w.heap.size x.k x.n x.p x.c x.ks g 0:=by
 obtain⟨b,o,hk,he⟩:=hx.sl;exact⟨h.lt,by rw[h.cell];rfl,by rw[h.cell];rfl,by rw[h.cell];rfl,by rw[h.cell];rfl,K,c,b,o,by rw[h.cell];rfl,hx.len,hx.cap,hk,he⟩
theorem aaP(P:List Fn)(x:Nd)(vars funcs v:Int)(l r:Nd)(path:List Int)(Az:Option I3)(pc bp op b2 o2 b o B:Nat)(w:Iv)(hP:sG w B P bp op)(hX:dF w B x.k x.n x.p x.c x.ks b2 o2)(hxs:x.size<=400)(hE:pE w B v l r b o)(dh:eF v l r=true)
  (hA:Ints w Az path) (hpl:path.length<=1048576) (hpc:path.length<=pc) (hpm:pc<=I2) (hB:B<=w.heap.size) :
  I0 Tryz.prog 69 #[ptr bp op,ptr b2 o2,I J vars,I J funcs,ptr b o,V Az path.length pc] w (fO (iC P x vars funcs v l r path).1 (iC P x vars funcs v l r path).2 w):=by
 obtain⟨W0,aZ⟩:=aD (w.alloc (Is #[I J 0,I J 0,I J 0,I J 0,V U 0 0] 33))
 have hb0:Ix w.heap.size w W0:=by rw[aZ];go_grown
 have hs0:W0.heap.size=w.heap.size+1:=by rw[aZ];simp
 have hq0:au W0 w.heap.size 33 [I J 0,I J 0,I J 0,I J 0,V U 0 0]:=by rw[aZ];exact au.new w 33 _
 have hB0:B<=W0.heap.size:=Mp hB hb0.size;have JO:=R5 x.k x.n x.p x.c x.ks b2 o2 Az pc path B W0 (dF.below hX (hb0.mono hB)) hB0 (by unfold Nd.size at hxs;omega) (hA.below hb0) hpl;have HNO:=aj JO;have EL:ak (∀ wx,Ix W0.heap.size W0 wx->I0 Tryz.prog 144 #[ptr b o] wx (d9 (jZ v l r) wx)):=λwx h=>afZ v l r b o B wx (hE.below ((hb0.mono hB).trans (h.mono hB0))) (Mp hB0 h.size) dh
 have HRW:ak (∀ (y:Nd) (b3 o3:Nat) wx,Ix W0.heap.size W0 wx->dF wx B y.k y.n y.p y.c y.ks b3 o3->y.size<=400->I0 Tryz.prog 145 #[ptr b o,ptr b3 o3] wx (fO (jY v l r y).1 (jY v l r y).2 wx)):=λy b3 o3 wx h hy hz=>Hw v l r y b o b3 o3 B wx (hE.below ((hb0.mono hB).trans (h.mono hB0))) hy (Mp hB0 h.size) dh ah
 have HVX:ak (∀ (z:Nd) (g:Nat) wx,Ix W0.heap.size W0 wx->dF wx wx.heap.size z.k z.n z.p z.c z.ks g 0->z.ks.size<=1048576->I0 Tryz.prog 68 #[ptr bp op,ptr g 0,I J vars,I J funcs] wx (d9 (bT P z vars funcs) wx)):=λz g wx h hz hs=>vk P z.ks z.k z.n z.p z.c vars funcs g 0 bp op wx.heap.size wx hz ((hP.below ((hb0.mono hB).trans (h.mono hB0))).mono (Mp hB0 h.size)) (Jn _) hs
 have HZ:ak (∀ wx,Ix W0.heap.size W0 wx->au wx w.heap.size 33 [I J 0,I J 0,I J 0,I J 0,V U 0 0]):=λwx hb=>hq0.next hb
 have HXX:ak (dF W0 B x.k x.n x.p x.c x.ks b2 o2/\Ints W0 Az path):=⟨dF.below hX (hb0.mono hB),hA.below hb0⟩
 have HRZ:ak (r.size<=40):=by
  obtain⟨_,_,_,yU⟩:=jB dh;obtain⟨r1,_⟩:=cZ yU;show 1+_<=40;omega
 obtain⟨rv,GK⟩:=aD (iC P x vars funcs v l r path)
 rw[<-GK];have Ph:=aj GK;have dI:=aj aZ;have HB0:=aj hb0;have gQ:=aj hs0;have L8:=aj hxs;clear hb0 aZ hs0 hq0 GK hP hX hE hA JO hxs dh;go_enter func69,ntmps69;go_upto_region 1 with fail;rw[<-dI.o];go_wp2_with fail;refine HNO.o.mono ?_;rintro e w4 ⟨YZ,hn0,hn1⟩;have gq:Ix W0.heap.size W0 w4:=YZ.below;cases hat:nodeAt x path with
 | none=>
  obtain⟨b3,o3,rfl⟩:=hn0 hat;have HV:ak (rv=(jK,2)):=by show _=_;rw[Ph.o];exact Dv hat
  have hZ:=HZ.o _ gq;have hbw:=HB0.o.trans (gq.mono HB0.o.size);clear hn0 hn1 hat;have j0:w4.cell? ⟨w.heap.size,0,U⟩=M (I J 0):=ay hZ
  have g0:w4.frozen? ⟨w.heap.size,0,U⟩=false:=hZ.frozen _;have j1:w4.cell? ⟨w.heap.size,1,U⟩=M (I J 0):=ay hZ
  have g1:w4.frozen? ⟨w.heap.size,1,U⟩=false:=hZ.frozen _;have j2:w4.cell? ⟨w.heap.size,2,U⟩=M (I J 0):=ay hZ
  have g2:w4.frozen? ⟨w.heap.size,2,U⟩=false:=hZ.frozen _;have j3:w4.cell? ⟨w.heap.size,3,U⟩=M (I J 0):=ay hZ
  have g3:w4.frozen? ⟨w.heap.size,3,U⟩=false:=hZ.frozen _;have j4:w4.cell? ⟨w.heap.size,4,U⟩=M (V U 0 0):=ay hZ
  have g4:w4.frozen? ⟨w.heap.size,4,U⟩=false:=hZ.frozen _;have d0:=hZ;have d1:=d0.aJ 0 (I J 0);have d2:=d1.aJ 1 (I J 0);have d3:=d2.aJ 2 (I J 0);have d4:=d3.aJ 3 (I J 0);have d5:=d4.aJ 4 (V U 0 0);have x0:=d1.cell 0;have x1:=d2.cell 1;have x2:=d3.cell 2;have x3:=d4.cell 3;have x4:=d5.cell 4;simp only[eY] at x0 x1 x2 x3 x4
  clear d0 d1 d2 d3 d4 d5;have HP:ak (fO jK 2 w (If (.tuple #[exV 0 0 0 0 U 0 0,I J 2])) (cK w4 (w.heap.size) 0 0 0 0 0 (V U 0 0))):=
   ⟨bD _ _ _ _ _ hbw ah,U,0,rfl,Jn _,Nat.zero_le _,(b_.nil U _ (by rw[bN];exact Below.size hbw)).reg⟩
  clear hZ hbw gq YZ;go_wp2;refine bodyPost_ret (v:=.tuple #[exV 0 0 0 0 U 0 0,I J 2]) (by simp[results,results69,go_sem,x0,x1,x2,x3,x4]) rfl ?_;rw[HV.o];exact HP.o
 | some y=>
  obtain⟨b3,o3,rfl,hyv⟩:=hn1 y hat;have hyz:y.size<=400:=by have:=tH hat;have:=L8.o;omega
  have hpz:path.length<=400:=by have:=xw hat;have:=L8.o;omega
  have HYV:=aj (dF.below hyv (gq.mono hB0));have Ve:=aj gq;clear hn0 hn1 hyv YZ;cases hs:jZ v l r with
  | false=>
   rw[hs] at EL;have HV:ak (rv=(jK,8)):=by show _=_;rw[Ph.o];exact FD hat hs
   clear hat hs;go_wp2_with fail;refine (EL.o _ gq).mono ?_;rintro e w6 ⟨rfl,hb6⟩;have ig:=gq.trans (hb6.mono gq.size);have hZ:=HZ.o w6 ig;have hbw:=HB0.o.trans (ig.mono HB0.o.size);have j0:w6.cell? ⟨w.heap.size,0,U⟩=M (I J 0):=ay hZ
   have g0:w6.frozen? ⟨w.heap.size,0,U⟩=false:=hZ.frozen _;have j1:w6.cell? ⟨w.heap.size,1,U⟩=M (I J 0):=ay hZ
   have g1:w6.frozen? ⟨w.heap.size,1,U⟩=false:=hZ.frozen _;have j2:w6.cell? ⟨w.heap.size,2,U⟩=M (I J 0):=ay hZ
   have g2:w6.frozen? ⟨w.heap.size,2,U⟩=false:=hZ.frozen _;have j3:w6.cell? ⟨w.heap.size,3,U⟩=M (I J 0):=ay hZ
   have g3:w6.frozen? ⟨w.heap.size,3,U⟩=false:=hZ.frozen _;have j4:w6.cell? ⟨w.heap.size,4,U⟩=M (V U 0 0):=ay hZ
   have g4:w6.frozen? ⟨w.heap.size,4,U⟩=false:=hZ.frozen _;have d0:=hZ;have d1:=d0.aJ 0 (I J 0);have d2:=d1.aJ 1 (I J 0);have d3:=d2.aJ 2 (I J 0);have d4:=d3.aJ 3 (I J 0);have d5:=d4.aJ 4 (V U 0 0);have x0:=d1.cell 0;have x1:=d2.cell 1;have x2:=d3.cell 2;have x3:=d4.cell 3;have x4:=d5.cell 4;simp only[eY] at x0 x1 x2 x3 x4
   clear d0 d1 d2 d3 d4 d5;have HP:ak (fO jK 8 w (If (.tuple #[exV 0 0 0 0 U 0 0,I J 8])) (cK w6 (w.heap.size) 0 0 0 0 0 (V U 0 0))):=
    ⟨bD _ _ _ _ _ hbw ah,U,0,rfl,Jn _,Nat.zero_le _,(b_.nil U _ (by rw[bN];exact Below.size hbw)).reg⟩
   clear hZ hbw gq hb6 ig;go_wp2;refine bodyPost_ret (v:=.tuple #[exV 0 0 0 0 U 0 0,I J 8]) (by simp[results,results69,go_sem,x0,x1,x2,x3,x4]) rfl ?_;rw[HV.o];exact HP.o
  | true=>
  rw[hs] at EL;have LY:=aj (λwx (h:Ix w4.heap.size w4 wx)=>HRW.o y b3 o3 wx (Ve.o.trans (h.mono Ve.o.size)) (dF.below HYV.o (h.mono (Mp hB0 Ve.o.size))) hyz);obtain⟨q,hq⟩:=aD (jY v l r y)
  have hqz:q.1.size<=16001:=by
   have h1:=FJ (vars:=v) (l:=l) (r:=r) (x:=y);have h2:r.size*y.size<=40*400:=Nat.mul_le_mul HRZ.o hyz;rw[hq];omega
  rw[<-hq] at LY;have HRC:ak (q.2≠0->rv=(jK,q.2)):=λh=>by rw[Ph.o,Du hat hs (by rw[<-hq];exact h),<-hq]
  have Im:ak (q.2=0->bT P (fT x q.1 path) vars funcs=false->rv=(jK,3)):=λh h'=>by rw[Ph.o];exact FE hat hs (by rw[<-hq];exact h) (by rw[<-hq];exact h')
  have HRO:ak (q.2=0->bT P (fT x q.1 path) vars funcs=true->rv=(fT x q.1 path,0)):=λh h'=>by rw[Ph.o,Kw hat hs (by rw[<-hq];exact h) (by rw[<-hq];exact h'),<-hq]
  have LM:ak (nodeAt x path=M y):=hat;clear hat hs hq HRW;obtain⟨q1,qc⟩:=q;simp only at LY hqz HRC Im HRO;go_wp2_with fail;refine (EL.o _ gq).mono ?_;rintro e w6 ⟨rfl,hb6⟩;have ig:=gq.trans (hb6.mono gq.size);clear EL HNO;go_wp2_with fail;refine (LY.o _ hb6).mono ?_;rintro e w7 ⟨wV,K7,c7,rfl,hc7,hm7,JR⟩;have jW:=ig.trans (wV.mono ig.size);have ht7:b_ w6.heap.size w7.heap.size q1.ks K7 w7:=JR.now
  have h7a:c7<=9223372036854775807:=by unfold I2 at hm7;omega
  have h7b:q1.ks.len<=9223372036854775807:=ah;have fU:Ix w7.heap.size w7 (w7.alloc (Is #[I J q1.k,I J q1.n,I J q1.p,I J q1.c,V K7 q1.ks.len c7] 33)):=aV;have gN:=jW.trans (fU.mono jW.size);have hqv:dO (w7.alloc (Is #[I J q1.k,I J q1.n,I J q1.p,I J q1.c,V K7 q1.ks.len c7] 33)) (w7.alloc (Is #[I J q1.k,I J q1.n,I J q1.p,I J q1.c,V K7 q1.ks.len c7] 33)).heap.size q1 K7 c7:=⟨((ht7.sl (Jn _)).below fU).mono fU.size,hc7,hm7⟩
  have hkb:=au.new w7 33 [I J q1.k,I J q1.n,I J q1.p,I J q1.c,V K7 q1.ks.len c7];have abh:=X8 hkb hqv;obtain⟨W8,Tz⟩:=aD (w7.alloc (Is #[I J q1.k,I J q1.n,I J q1.p,I J q1.c,V K7 q1.ks.len c7] 33))
  rw[<-Tz] at gN abh;clear JR ht7 fU hkb hqv
  by_cases hqc:qc=0
  case neg=>
   have Y5:(qc != 0)=true:=by simpa using hqc
   have HV:=aj (HRC.o hqc);have hZ:=HZ.o W8 gN;have hbw:=HB0.o.trans (gN.mono HB0.o.size);clear hqc abh;go_upto_region 8 with fail;change Code.wp _ _ _ _ (w7.alloc (Is #[I J q1.k,I J q1.n,I J q1.p,I J q1.c,V K7 q1.ks.len c7] 33));rw[<-Tz];clear Tz;have j0:W8.cell? ⟨w.heap.size,0,U⟩=M (I J 0):=ay hZ
   have g0:W8.frozen? ⟨w.heap.size,0,U⟩=false:=hZ.frozen _;have j1:W8.cell? ⟨w.heap.size,1,U⟩=M (I J 0):=ay hZ
   have g1:W8.frozen? ⟨w.heap.size,1,U⟩=false:=hZ.frozen _;have j2:W8.cell? ⟨w.heap.size,2,U⟩=M (I J 0):=ay hZ
   have g2:W8.frozen? ⟨w.heap.size,2,U⟩=false:=hZ.frozen _;have j3:W8.cell? ⟨w.heap.size,3,U⟩=M (I J 0):=ay hZ
   have g3:W8.frozen? ⟨w.heap.size,3,U⟩=false:=hZ.frozen _;have j4:W8.cell? ⟨w.heap.size,4,U⟩=M (V U 0 0):=ay hZ
   have g4:W8.frozen? ⟨w.heap.size,4,U⟩=false:=hZ.frozen _;have d0:=hZ;have d1:=d0.aJ 0 (I J 0);have d2:=d1.aJ 1 (I J 0);have d3:=d2.aJ 2 (I J 0);have d4:=d3.aJ 3 (I J 0);have d5:=d4.aJ 4 (V U 0 0);have x0:=d1.cell 0;have x1:=d2.cell 1;have x2:=d3.cell 2;have x3:=d4.cell 3;have x4:=d5.cell 4;simp only[eY] at x0 x1 x2 x3 x4
   clear d0 d1 d2 d3 d4 d5;have HP:ak (fO jK qc w (If (.tuple #[exV 0 0 0 0 U 0 0,I J qc])) (cK W8 (w.heap.size) 0 0 0 0 0 (V U 0 0))):=
    ⟨bD _ _ _ _ _ hbw ah,U,0,rfl,Jn _,Nat.zero_le _,(b_.nil U _ (by rw[bN];exact Below.size hbw)).reg⟩
   clear hZ hbw gq hb6 ig jW gN wV;go_wp2;refine bodyPost_ret (v:=.tuple #[exV 0 0 0 0 U 0 0,I J qc]) (by simp[results,results69,go_sem,x0,x1,x2,x3,x4]) rfl ?_;rw[HV.o];exact HP.o
  case pos=>
  subst hqc;have hw8:W0.heap.size<=W8.heap.size:=gN.size;have hrep:=Sz path ah x.k x.n x.p x.c x.ks b2 o2 Az pc q1 w7.heap.size 0 W8.heap.size y W8 ((dF.below HXX.o.1 (gN.mono hB0)).mono ah) abh (HXX.o.2.below gN) hpc hpm (Jn _) (by have:=L8.o;unfold Nd.size at this;omega) ah LM.o;have VA:=aj hrep;have hrz:(fT x q1 path).size<=16401:=by have:=xE q1 LM.o;have:=L8.o;omega
  obtain⟨z,hzz⟩:=aD (fT x q1 path)
  have VB:ak (I0 Tryz.prog 146 #[ptr b2 o2,V Az path.length pc,ptr w7.heap.size 0] W8 (jH z W8)):=by rw[hzz];exact VA.o
  rw[<-hzz] at hrz Im HRO;clear hrep VA hzz LM HRC abh;go_upto_region 9 with fail;change Code.wp _ _ _ _ (w7.alloc (Is #[I J q1.k,I J q1.n,I J q1.p,I J q1.c,V K7 q1.ks.len c7] 33));rw[<-Tz];clear Tz;go_wp2_with fail;refine VB.o.mono ?_;rintro e kL ⟨qx,pU,c10,rfl,GD,Eu,Rs⟩;have yu:=gN.trans (qx.mono gN.size);have akn:c10<=9223372036854775807:=by unfold I2 at Eu;omega
  have ako:z.ks.len<=9223372036854775807:=ah;have fU:Ix kL.heap.size kL (kL.alloc (Is #[I J z.k,I J z.n,I J z.p,I J z.c,V pU z.ks.len c10] 33)):=aV;have lC:=yu.trans (fU.mono yu.size);have GL:b_ W8.heap.size kL.heap.size z.ks pU (kL.alloc (Is #[I J z.k,I J z.n,I J z.p,I J z.c,V pU z.ks.len c10] 33)):=Rs.below fU (Jn _)
  have hkb:=au.new kL 33 [I J z.k,I J z.n,I J z.p,I J z.c,V pU z.ks.len c10];have Y1:=X8 hkb ⟨GL.sl fU.size,GD,Eu⟩;obtain⟨XF,Gw⟩:=aD (kL.alloc (Is #[I J z.k,I J z.n,I J z.p,I J z.c,V pU z.ks.len c10] 33))
  rw[<-Gw] at lC GL hkb Y1;have ahq:kL.heap.size<XF.heap.size:=by rw[Gw];simp
  have HVZ:=aj (HVX.o z kL.heap.size XF lC Y1 (by unfold Nd.size at hrz;omega));have aeS:=aj GL;have Ad:=aj hkb;have h9w:w.heap.size+1<=W8.heap.size:=by have:=gQ.o;omega
  clear Rs fU GL hkb Y1;go_upto_region 10 with fail;change Code.wp _ _ _ _ (kL.alloc (Is #[I J z.k,I J z.n,I J z.p,I J z.c,V pU z.ks.len c10] 33));rw[<-Gw];clear Gw;cases RF:bT P z vars funcs with
  | false=>
   rw[RF] at HVZ;have HV:=aj (Im.o trivial RF);clear RF;go_wp2_with fail;refine HVZ.o.mono ?_;rintro e jo ⟨rfl,dR⟩;have nX:=lC.trans (dR.mono lC.size);have hZ:=HZ.o jo nX;have hbw:=HB0.o.trans (nX.mono HB0.o.size);have j0:jo.cell? ⟨w.heap.size,0,U⟩=M (I J 0):=ay hZ
   have g0:jo.frozen? ⟨w.heap.size,0,U⟩=false:=hZ.frozen _;have j1:jo.cell? ⟨w.heap.size,1,U⟩=M (I J 0):=ay hZ
   have g1:jo.frozen? ⟨w.heap.size,1,U⟩=false:=hZ.frozen _;have j2:jo.cell? ⟨w.heap.size,2,U⟩=M (I J 0):=ay hZ
   have g2:jo.frozen? ⟨w.heap.size,2,U⟩=false:=hZ.frozen _;have j3:jo.cell? ⟨w.heap.size,3,U⟩=M (I J 0):=ay hZ
   have g3:jo.frozen? ⟨w.heap.size,3,U⟩=false:=hZ.frozen _;have j4:jo.cell? ⟨w.heap.size,4,U⟩=M (V U 0 0):=ay hZ
   have g4:jo.frozen? ⟨w.heap.size,4,U⟩=false:=hZ.frozen _;have d0:=hZ;have d1:=d0.aJ 0 (I J 0);have d2:=d1.aJ 1 (I J 0);have d3:=d2.aJ 2 (I J 0);have d4:=d3.aJ 3 (I J 0);have d5:=d4.aJ 4 (V U 0 0);have x0:=d1.cell 0;have x1:=d2.cell 1;have x2:=d3.cell 2;have x3:=d4.cell 3;have x4:=d5.cell 4;simp only[eY] at x0 x1 x2 x3 x4
   clear d0 d1 d2 d3 d4 d5;have HP:ak (fO jK 3 w (If (.tuple #[exV 0 0 0 0 U 0 0,I J 3])) (cK jo (w.heap.size) 0 0 0 0 0 (V U 0 0))):=
    ⟨bD _ _ _ _ _ hbw ah,U,0,rfl,Jn _,Nat.zero_le _,(b_.nil U _ (by rw[bN];exact Below.size hbw)).reg⟩
   clear hZ hbw gq hb6 ig jW gN wV qx yu lC dR nX;go_wp2;refine bodyPost_ret (v:=.tuple #[exV 0 0 0 0 U 0 0,I J 3]) (by simp[results,results69,go_sem,x0,x1,x2,x3,x4]) rfl ?_;rw[HV.o];exact HP.o
  | true=>
   rw[RF] at HVZ;have HV:=aj (HRO.o trivial RF);clear RF;go_wp2_with fail;refine HVZ.o.mono ?_;rintro e jo ⟨rfl,dR⟩;have nX:=lC.trans (dR.mono lC.size);have hZ:=HZ.o jo nX;have hbw:=HB0.o.trans (nX.mono HB0.o.size);have qy:=Ad.o.next dR;have P9:jo.cell? ⟨kL.heap.size,0,U⟩=M (I J z.k):=ay qy
   have P_:jo.cell? ⟨kL.heap.size,1,U⟩=M (I J z.n):=ay qy
   have Qa:jo.cell? ⟨kL.heap.size,2,U⟩=M (I J z.p):=ay qy
   have Qb:jo.cell? ⟨kL.heap.size,3,U⟩=M (I J z.c):=ay qy
   have Qc:jo.cell? ⟨kL.heap.size,4,U⟩=M (V pU z.ks.len c10):=ay qy
   have j0:jo.cell? ⟨w.heap.size,0,U⟩=M (I J 0):=ay hZ
   have g0:jo.frozen? ⟨w.heap.size,0,U⟩=false:=hZ.frozen _;have j1:jo.cell? ⟨w.heap.size,1,U⟩=M (I J 0):=ay hZ
   have g1:jo.frozen? ⟨w.heap.size,1,U⟩=false:=hZ.frozen _;have j2:jo.cell? ⟨w.heap.size,2,U⟩=M (I J 0):=ay hZ
   have g2:jo.frozen? ⟨w.heap.size,2,U⟩=false:=hZ.frozen _;have j3:jo.cell? ⟨w.heap.size,3,U⟩=M (I J 0):=ay hZ
   have g3:jo.frozen? ⟨w.heap.size,3,U⟩=false:=hZ.frozen _;have j4:jo.cell? ⟨w.heap.size,4,U⟩=M (V U 0 0):=ay hZ
   have g4:jo.frozen? ⟨w.heap.size,4,U⟩=false:=hZ.frozen _;have d0:=hZ;have d1:=d0.aJ 0 (I J z.k);have d2:=d1.aJ 1 (I J z.n);have d3:=d2.aJ 2 (I J z.p);have d4:=d3.aJ 3 (I J z.c);have d5:=d4.aJ 4 (V pU z.ks.len c10);have x0:=d1.cell 0;have x1:=d2.cell 1;have x2:=d3.cell 2;have x3:=d4.cell 3;have x4:=d5.cell 4;simp only[eY] at x0 x1 x2 x3 x4
   clear d0 d1 d2 d3 d4 d5;have HP:ak (fO z 0 w (If (.tuple #[exV z.k z.n z.p z.c pU z.ks.len c10,I J 0])) (cK jo w.heap.size 0 z.k z.n z.p z.c (V pU z.ks.len c10))):=by
    have ht:b_ w.heap.size (cK jo w.heap.size 0 z.k z.n z.p z.c (V pU z.ks.len c10)).heap.size z.ks pU (cK jo w.heap.size 0 z.k z.n z.p z.c (V pU z.ks.len c10)):=by
     rw[bN];exact (((aeS.o.below dR ah).keep (λq q1 q2=>dN _ _ _ _ _ ah)).wide ah (by have:=dR.size;omega))
    exact⟨bD _ _ _ _ _ hbw ah,pU,c10,rfl,GD,Eu,ht.reg⟩
   clear hZ hbw gq hb6 ig jW gN wV qx yu lC dR nX qy;go_wp2;refine bodyPost_ret (v:=.tuple #[exV z.k z.n z.p z.c pU z.ks.len c10,I J 0]) (by simp[results,results69,go_sem,x0,x1,x2,x3,x4]) rfl ?_;rw[HV.o];exact HP.o
theorem Oz(P:List Fn)(x:Nd)(vars funcs v:Int)(l r:Nd)(path:List Int)(A Kx KL KR Az:Option I3)(aU cx cl cr pc B:Nat)(w:Iv)(kJ:eP w B P A)(nV:P.length<=aU)(jL:aU<=I2)(hsz:bK P<=1048576)(hX:dO w B x Kx cx)(hxz:x.ks.size<=1048576)
  (hL:dO w B l KL cl) (hlz:l.ks.size<=1048576) (hR:dO w B r KR cr) (hrz:r.ks.size<=1048576) (hA:Ints w Az path) (hpl:path.length<=1048576) (hpc:path.length<=pc) (hpm:pc<=I2) (hB:B<=w.heap.size) :
  I0 Tryz.prog 21 #[rW A P.length aU,exV x.k x.n x.p x.c Kx x.ks.len cx,I J vars,I J funcs,rZ v l KL cl r KR cr,V Az path.length pc] w (fO (jJ P x vars funcs v l r path).1 (jJ P x vars funcs v l r path).2 w):=by
 obtain⟨W0,aZ⟩:=aD ((((w.alloc (Is #[V A P.length aU] 51)).alloc (Is #[I J x.k,I J x.n,I J x.p,I J x.c,V Kx x.ks.len cx] 33)).alloc (Is #[I J v,I J l.k,I J l.n,I J l.p,I J l.c,V KL l.ks.len cl,I J r.k,I J r.n,I J r.p,I J r.c,V KR r.ks.len cr] 35)).alloc (Is #[I J 0,I J 0,I J 0,I J 0,V U 0 0] 33))
 have hb0:Ix w.heap.size w W0:=by rw[aZ];go_grown
 obtain⟨X1,hX1⟩:=aD (w.alloc (Is #[V A P.length aU] 51))
 obtain⟨X2,hX2⟩:=aD (X1.alloc (Is #[I J x.k,I J x.n,I J x.p,I J x.c,V Kx x.ks.len cx] 33))
 obtain⟨X3,CU⟩:=aD (X2.alloc (Is #[I J v,I J l.k,I J l.n,I J l.p,I J l.c,V KL l.ks.len cl,I J r.k,I J r.n,I J r.p,I J r.c,V KR r.ks.len cr] 35))
 have z1:X1.heap.size=w.heap.size+1:=by rw[hX1];simp
 have z2:X2.heap.size=w.heap.size+2:=by rw[hX2];simp[z1]
 have z3:X3.heap.size=w.heap.size+3:=by rw[CU];simp[z2]
 have jw:W0=X3.alloc (Is #[I J 0,I J 0,I J 0,I J 0,V U 0 0] 33):=by rw[aZ,CU,hX2,hX1]
 have hs0:W0.heap.size=w.heap.size+4:=by rw[jw];simp[z3]
 have hb3:Ix X3.heap.size X3 W0:=by rw[jw];go_grown
 have hb2:Ix X2.heap.size X2 X3:=by rw[CU];go_grown
 have hb1:Ix X1.heap.size X1 X2:=by rw[hX2];go_grown
 have hq0:au W0 w.heap.size 51 [V A P.length aU]:=by
  have h:au X1 w.heap.size 51 [V A P.length aU]:=by rw[hX1];exact au.new w 51 _
  exact ((h.next hb1).next hb2).next hb3
 have hq1:au W0 (w.heap.size+1) 33 [I J x.k,I J x.n,I J x.p,I J x.c,V Kx x.ks.len cx]:=by
  have h:au X2 (w.heap.size+1) 33 [I J x.k,I J x.n,I J x.p,I J x.c,V Kx x.ks.len cx]:=by rw[hX2,<-z1];exact au.new X1 33 _
  exact (h.next hb2).next hb3
 have hq2:au W0 (w.heap.size+2) 35 [I J v,I J l.k,I J l.n,I J l.p,I J l.c,V KL l.ks.len cl,I J r.k,I J r.n,I J r.p,I J r.c,V KR r.ks.len cr]:=by
  have h:au X3 (w.heap.size+2) 35 [I J v,I J l.k,I J l.n,I J l.p,I J l.c,V KL l.ks.len cl,I J r.k,I J r.n,I J r.p,I J r.c,V KR r.ks.len cr]:=by rw[CU,<-z2];exact au.new X2 35 _
  exact h.next hb3
 have hq3:au W0 (w.heap.size+3) 33 [I J 0,I J 0,I J 0,I J 0,V U 0 0]:=by rw[jw,<-z3];exact au.new X3 33 _
 have vY:sG W0 W0.heap.size P w.heap.size 0:=⟨hq0.lt,A,aU,by rw[hq0.cell];rfl,nV,jL,(kJ.below (hb0.mono hB)).mono (Mp hB hb0.size)⟩
 have hEA:dF W0 W0.heap.size x.k x.n x.p x.c x.ks (w.heap.size+1) 0:=X8 hq1 ((hX.below (hb0.mono hB)).mono (Mp hB hb0.size));have hRA:pE W0 W0.heap.size v l r (w.heap.size+2) 0:=by
  have hl:=(hL.below (hb0.mono hB)).mono (Mp hB hb0.size);have hr:=(hR.below (hb0.mono hB)).mono (Mp hB hb0.size);obtain⟨bl,ol,hkl,hxl⟩:=hl.sl;obtain⟨br,or',hkr,hxr⟩:=hr.sl;exact⟨by rw[hq2.cell];rfl,⟨hq2.lt,by rw[hq2.cell];rfl,by rw[hq2.cell];rfl,by rw[hq2.cell];rfl,by rw[hq2.cell];rfl,KL,cl,bl,ol,by rw[hq2.cell];rfl,hl.len,hl.cap,hkl,hxl⟩,⟨hq2.lt,by rw[hq2.cell];rfl,by rw[hq2.cell];rfl,by rw[hq2.cell];rfl,by rw[hq2.cell];rfl,KR,cr,br,or',by rw[hq2.cell];rfl,hr.len,hr.cap,hkr,hxr⟩⟩
 have Pm:ak (∀ wx,Ix W0.heap.size W0 wx->I0 Tryz.prog 67 #[ptr w.heap.size 0] wx (d9 (gF P) wx)):=λwx h=>abC P w.heap.size 0 W0.heap.size wx (vY.below h) h.size hsz
 have Tn:ak (∀ wx,Ix W0.heap.size W0 wx->I0 Tryz.prog 68 #[ptr w.heap.size 0,ptr (w.heap.size+1) 0,I J vars,I J funcs] wx (d9 (bT P x vars funcs) wx)):=λwx h=>vk P x.ks x.k x.n x.p x.c vars funcs (w.heap.size+1) 0 w.heap.size 0 W0.heap.size wx (dF.below hEA h) (vY.below h) h.size hxz
 have Tp:ak (∀ wx,Ix W0.heap.size W0 wx->I0 Tryz.prog 57 #[ptr (w.heap.size+2) 0] wx (d9 (eF v l r) wx)):=λwx h=>SI v l r (w.heap.size+2) 0 W0.heap.size wx (hRA.below h) h.size hlz hrz
 have HAT:ak (bT P x vars funcs=true->eF v l r=true->∀ wx,Ix W0.heap.size W0 wx->I0 Tryz.prog 69 #[ptr w.heap.size 0,ptr (w.heap.size+1) 0,I J vars,I J funcs,ptr (w.heap.size+2) 0,V Az path.length pc] wx (fO (iC P x vars funcs v l r path).1 (iC P x vars funcs v l r path).2 wx)):=λhe hr wx h=>aaP P x vars funcs v l r path Az pc w.heap.size 0 (w.heap.size+1) 0 (w.heap.size+2) 0 W0.heap.size wx (vY.below h) (dF.below hEA h) (zG he) (hRA.below h) hr ((hA.below hb0).below h) hpl hpc hpm h.size
 have HZ:ak (∀ wx,Ix W0.heap.size W0 wx->au wx (w.heap.size+3) 33 [I J 0,I J 0,I J 0,I J 0,V U 0 0]):=λwx hb=>hq3.next hb
 obtain⟨rv,GK⟩:=aD (jJ P x vars funcs v l r path)
 rw[<-GK];have m_:=aj GK;have dI:=aj aZ;have HB0:=aj hb0;have gQ:=aj hs0;clear hb0 aZ jw hX1 hX2 CU hb1 hb2 hb3 hq0 hq1 hq2 hq3 hs0 z1 z2 z3 GK kJ hX hL hR hA vY hEA hRA;cases hp:gF P with
 | false=>
  rw[hp] at Pm;have HV:ak (rv=(jK,1)):=by show _=_;rw[m_.o];exact lY (λh=>by rw[hp] at h;cases h.1)
  clear hp;go_enter func21,ntmps21;go_upto_region 1 with fail;rw[<-dI.o];go_wp2_with fail;refine (Pm.o _ (Jx _ _)).mono ?_;rintro e w1 ⟨rfl,hb1⟩;have hZ:=HZ.o w1 hb1;have hbw:Ix w.heap.size w w1:=HB0.o.trans (hb1.mono HB0.o.size);have j0:w1.cell? ⟨w.heap.size+3,0,U⟩=M (I J 0):=ay hZ
  have g0:w1.frozen? ⟨w.heap.size+3,0,U⟩=false:=hZ.frozen _;have j1:w1.cell? ⟨w.heap.size+3,1,U⟩=M (I J 0):=ay hZ
  have g1:w1.frozen? ⟨w.heap.size+3,1,U⟩=false:=hZ.frozen _;have j2:w1.cell? ⟨w.heap.size+3,2,U⟩=M (I J 0):=ay hZ
  have g2:w1.frozen? ⟨w.heap.size+3,2,U⟩=false:=hZ.frozen _;have j3:w1.cell? ⟨w.heap.size+3,3,U⟩=M (I J 0):=ay hZ
  have g3:w1.frozen? ⟨w.heap.size+3,3,U⟩=false:=hZ.frozen _;have j4:w1.cell? ⟨w.heap.size+3,4,U⟩=M (V U 0 0):=ay hZ
  have g4:w1.frozen? ⟨w.heap.size+3,4,U⟩=false:=hZ.frozen _;have d0:=hZ;have d1:=d0.aJ 0 (I J 0);have d2:=d1.aJ 1 (I J 0);have d3:=d2.aJ 2 (I J 0);have d4:=d3.aJ 3 (I J 0);have d5:=d4.aJ 4 (V U 0 0);have x0:=d1.cell 0;have x1:=d2.cell 1;have x2:=d3.cell 2;have x3:=d4.cell 3;have x4:=d5.cell 4;simp only[eY] at x0 x1 x2 x3 x4
  clear d0 d1 d2 d3 d4 d5;have HP:ak (fO jK 1 w (If (.tuple #[exV 0 0 0 0 U 0 0,I J 1])) (cK w1 (w.heap.size+3) 0 0 0 0 0 (V U 0 0))):=
   ⟨bD _ _ _ _ _ hbw ah,U,0,rfl,Jn _,Nat.zero_le _,(b_.nil U _ (by rw[bN];exact Below.size hbw)).reg⟩
  clear hZ hbw hb1;go_wp2;refine bodyPost_ret (v:=.tuple #[exV 0 0 0 0 U 0 0,I J 1]) (by simp[results,results21,go_sem,x0,x1,x2,x3,x4]) rfl ?_;rw[HV.o];exact HP.o
 | true=>
 rw[hp] at Pm;cases he:bT P x vars funcs with
 | false=>
  rw[he] at Tn;have HV:ak (rv=(jK,1)):=by show _=_;rw[m_.o];exact lY (λh=>by rw[he] at h;cases h.2.1)
  clear hp he;go_enter func21,ntmps21;go_upto_region 1 with fail;rw[<-dI.o];go_wp2_with fail;refine (Pm.o _ (Jx _ _)).mono ?_;rintro e w1 ⟨rfl,hb1⟩;go_wp2_with fail;refine (Tn.o _ hb1).mono ?_;rintro e w2 ⟨rfl,hb2⟩;have dR:=hb1.trans (hb2.mono hb1.size);have hZ:=HZ.o w2 dR;have hbw:Ix w.heap.size w w2:=HB0.o.trans (dR.mono HB0.o.size);have j0:w2.cell? ⟨w.heap.size+3,0,U⟩=M (I J 0):=ay hZ
  have g0:w2.frozen? ⟨w.heap.size+3,0,U⟩=false:=hZ.frozen _;have j1:w2.cell? ⟨w.heap.size+3,1,U⟩=M (I J 0):=ay hZ
  have g1:w2.frozen? ⟨w.heap.size+3,1,U⟩=false:=hZ.frozen _;have j2:w2.cell? ⟨w.heap.size+3,2,U⟩=M (I J 0):=ay hZ
  have g2:w2.frozen? ⟨w.heap.size+3,2,U⟩=false:=hZ.frozen _;have j3:w2.cell? ⟨w.heap.size+3,3,U⟩=M (I J 0):=ay hZ
  have g3:w2.frozen? ⟨w.heap.size+3,3,U⟩=false:=hZ.frozen _;have j4:w2.cell? ⟨w.heap.size+3,4,U⟩=M (V U 0 0):=ay hZ
  have g4:w2.frozen? ⟨w.heap.size+3,4,U⟩=false:=hZ.frozen _;have d0:=hZ;have d1:=d0.aJ 0 (I J 0);have d2:=d1.aJ 1 (I J 0);have d3:=d2.aJ 2 (I J 0);have d4:=d3.aJ 3 (I J 0);have d5:=d4.aJ 4 (V U 0 0);have x0:=d1.cell 0;have x1:=d2.cell 1;have x2:=d3.cell 2;have x3:=d4.cell 3;have x4:=d5.cell 4;simp only[eY] at x0 x1 x2 x3 x4
  clear d0 d1 d2 d3 d4 d5;have HP:ak (fO jK 1 w (If (.tuple #[exV 0 0 0 0 U 0 0,I J 1])) (cK w2 (w.heap.size+3) 0 0 0 0 0 (V U 0 0))):=
   ⟨bD _ _ _ _ _ hbw ah,U,0,rfl,Jn _,Nat.zero_le _,(b_.nil U _ (by rw[bN];exact Below.size hbw)).reg⟩
  clear hZ hbw hb1 hb2 dR;go_wp2;refine bodyPost_ret (v:=.tuple #[exV 0 0 0 0 U 0 0,I J 1]) (by simp[results,results21,go_sem,x0,x1,x2,x3,x4]) rfl ?_;rw[HV.o];exact HP.o
 | true=>
 rw[he] at Tn;cases hr:eF v l r with
 | false=>
  rw[hr] at Tp;have HV:ak (rv=(jK,1)):=by show _=_;rw[m_.o];exact lY (λh=>by rw[hr] at h;cases h.2.2)
  clear hp he hr;go_enter func21,ntmps21;go_upto_region 1 with fail;rw[<-dI.o];go_wp2_with fail;refine (Pm.o _ (Jx _ _)).mono ?_;rintro e w1 ⟨rfl,hb1⟩;go_wp2_with fail;refine (Tn.o _ hb1).mono ?_;rintro e w2 ⟨rfl,hb2⟩;have dR:=hb1.trans (hb2.mono hb1.size);go_wp2_with fail;refine (Tp.o _ dR).mono ?_;rintro e w3 ⟨rfl,hb3⟩;have iH:=dR.trans (hb3.mono dR.size);have hZ:=HZ.o w3 iH
  have hbw:Ix w.heap.size w w3:=HB0.o.trans (iH.mono HB0.o.size);have j0:w3.cell? ⟨w.heap.size+3,0,U⟩=M (I J 0):=ay hZ
  have g0:w3.frozen? ⟨w.heap.size+3,0,U⟩=false:=hZ.frozen _;have j1:w3.cell? ⟨w.heap.size+3,1,U⟩=M (I J 0):=ay hZ
  have g1:w3.frozen? ⟨w.heap.size+3,1,U⟩=false:=hZ.frozen _;have j2:w3.cell? ⟨w.heap.size+3,2,U⟩=M (I J 0):=ay hZ
  have g2:w3.frozen? ⟨w.heap.size+3,2,U⟩=false:=hZ.frozen _;have j3:w3.cell? ⟨w.heap.size+3,3,U⟩=M (I J 0):=ay hZ
  have g3:w3.frozen? ⟨w.heap.size+3,3,U⟩=false:=hZ.frozen _;have j4:w3.cell? ⟨w.heap.size+3,4,U⟩=M (V U 0 0):=ay hZ
  have g4:w3.frozen? ⟨w.heap.size+3,4,U⟩=false:=hZ.frozen _;have d0:=hZ;have d1:=d0.aJ 0 (I J 0);have d2:=d1.aJ 1 (I J 0);have d3:=d2.aJ 2 (I J 0);have d4:=d3.aJ 3 (I J 0);have d5:=d4.aJ 4 (V U 0 0);have x0:=d1.cell 0;have x1:=d2.cell 1;have x2:=d3.cell 2;have x3:=d4.cell 3;have x4:=d5.cell 4;simp only[eY] at x0 x1 x2 x3 x4
  clear d0 d1 d2 d3 d4 d5;have HP:ak (fO jK 1 w (If (.tuple #[exV 0 0 0 0 U 0 0,I J 1])) (cK w3 (w.heap.size+3) 0 0 0 0 0 (V U 0 0))):=
   ⟨bD _ _ _ _ _ hbw ah,U,0,rfl,Jn _,Nat.zero_le _,(b_.nil U _ (by rw[bN];exact Below.size hbw)).reg⟩
  clear hZ hbw hb1 hb2 dR hb3 iH;go_wp2;refine bodyPost_ret (v:=.tuple #[exV 0 0 0 0 U 0 0,I J 1]) (by simp[results,results21,go_sem,x0,x1,x2,x3,x4]) rfl ?_;rw[HV.o];exact HP.o
 | true=>
 rw[hr] at Tp;have Ph:ak (rv=iC P x vars funcs v l r path):=by show _=_;rw[m_.o];exact FC hp he hr
 have aeE:=aj (HAT.o he hr);rw[<-Ph.o] at aeE;clear hp he hr m_ HAT Ph;obtain⟨z,zc⟩:=rv;simp only at aeE;go_enter func21,ntmps21;go_upto_region 1 with fail;rw[<-dI.o];go_wp2_with fail;refine (Pm.o _ (Jx _ _)).mono ?_;rintro e w1 ⟨rfl,hb1⟩;go_wp2_with fail;refine (Tn.o _ hb1).mono ?_;rintro e w2 ⟨rfl,hb2⟩;have dR:=hb1.trans (hb2.mono hb1.size);go_wp2_with fail
 refine (Tp.o _ dR).mono ?_;rintro e w3 ⟨rfl,hb3⟩;have iH:=dR.trans (hb3.mono dR.size);go_wp2_with fail;refine (aeE.o _ iH).mono ?_;rintro e w4 ⟨hb4,pU,c10,rfl,GD,Eu,aid⟩;have gq:=iH.trans (hb4.mono iH.size);have hZ:=HZ.o w4 gq;have hbw:=HB0.o.trans (gq.mono HB0.o.size);have hT:=aid.now;have h3w:w.heap.size+4<=w3.heap.size:=by have:=iH.size;have:=gQ.o;omega
 clear aid;have j0:w4.cell? ⟨w.heap.size+3,0,U⟩=M (I J 0):=ay hZ
 have g0:w4.frozen? ⟨w.heap.size+3,0,U⟩=false:=hZ.frozen _;have j1:w4.cell? ⟨w.heap.size+3,1,U⟩=M (I J 0):=ay hZ
 have g1:w4.frozen? ⟨w.heap.size+3,1,U⟩=false:=hZ.frozen _;have j2:w4.cell? ⟨w.heap.size+3,2,U⟩=M (I J 0):=ay hZ
 have g2:w4.frozen? ⟨w.heap.size+3,2,U⟩=false:=hZ.frozen _;have j3:w4.cell? ⟨w.heap.size+3,3,U⟩=M (I J 0):=ay hZ
 have g3:w4.frozen? ⟨w.heap.size+3,3,U⟩=false:=hZ.frozen _;have j4:w4.cell? ⟨w.heap.size+3,4,U⟩=M (V U 0 0):=ay hZ
 have g4:w4.frozen? ⟨w.heap.size+3,4,U⟩=false:=hZ.frozen _;have d0:=hZ;have d1:=d0.aJ 0 (I J z.k);have d2:=d1.aJ 1 (I J z.n);have d3:=d2.aJ 2 (I J z.p);have d4:=d3.aJ 3 (I J z.c);have d5:=d4.aJ 4 (V pU z.ks.len c10);have x0:=d1.cell 0;have x1:=d2.cell 1;have x2:=d3.cell 2;have x3:=d4.cell 3;have x4:=d5.cell 4;simp only[eY] at x0 x1 x2 x3 x4
 clear d0 d1 d2 d3 d4 d5;have HP:ak (fO z zc w (If (.tuple #[exV z.k z.n z.p z.c pU z.ks.len c10,I J zc])) (cK w4 (w.heap.size+3) 0 z.k z.n z.p z.c (V pU z.ks.len c10))):=by
  have ht:b_ w.heap.size (cK w4 (w.heap.size+3) 0 z.k z.n z.p z.c (V pU z.ks.len c10)).heap.size z.ks pU (cK w4 (w.heap.size+3) 0 z.k z.n z.p z.c (V pU z.ks.len c10)):=by
   rw[bN];exact (hT.keep (λq q1 q2=>dN _ _ _ _ _ ah)).wide ah (Jn _)
  exact⟨bD _ _ _ _ _ hbw ah,pU,c10,rfl,GD,Eu,ht.reg⟩
 clear hZ hbw hb1 hb2 dR hb3 iH hb4 gq hT;go_wp2;refine bodyPost_ret (v:=.tuple #[exV z.k z.n z.p z.c pU z.ks.len c10,I J zc]) (by simp[results,results21,go_sem,x0,x1,x2,x3,x4]) rfl ?_;exact HP.o
end
end Go.Proofs.YtgfkglhelfkpoaaGreat
