/- Parts of the proof. -/
import Derived.Test.YtgfkglhelfkpoaaGreatRRB
import Derived.Test.YtgfkglhelfkpoaaGreatRQC
set_option maxRecDepth 100000
set_option maxHeartbeats 4000000
open Go.Proofs.Tryz
open Go.Value renaming int→I,slice→V
open Go.IntKind renaming i64→J
open Option renaming some→M,none→U
open Go.Ending renaming returned→If
open Go.Obj renaming cells→Is
open Go renaming World→Iv,Calls→I0,Value→I1,maxLen→I2,Addr→I3
open Go.RowKit renaming Below→Ix
open Nat renaming le_refl→Jn,add_zero→Mm,zero_mul→Mn,zero_add→Mu
open Go.RowKit.Below renaming refl→Jx,heap_setCell→J1
open Int renaming toNat_natCast→Mz
namespace Go.Proofs.YtgfkglhelfkpoaaGreat
section
open Go.RowKit Plain
def Ch(w:Iv)(Q:Nat->Prop):Es->Nat->Nat->Prop
 | .nil,_,_=>True
 | .cons k n p c ks r,b,o=>(Q b/\w.cell? ⟨b,o,U⟩=M (I J k)/\w.cell? ⟨b,o+1,U⟩=M (I J n)/\w.cell? ⟨b,o+2,U⟩=M (I J p)/\w.cell? ⟨b,o+3,U⟩=M (I J c) /\
   ∃ (K:Option I3) (cap b' o':Nat),w.cell? ⟨b,o+4,U⟩=M (V K ks.len cap)/\ks.len<=cap/\cap<=I2/\(0<ks.len->K=M ⟨b',o',U⟩)/\Ch w Q ks b' o')/\Ch w Q r b (o+5)
def ExQ(w:Iv)(Q:Nat->Prop)(es:Es)(A:Option I3):Prop:=∃ b o,(0<es.len->A=M ⟨b,o,U⟩)/\Ch w Q es b o
variable{w:Iv}{B:Nat}
theorem aI.q:∀ {es:Es}{b o:Nat},aI w B es b o->Ch w (λq=>q<B) es b o:=by
 intro es
 induction es with
 | nil=>intro b o _;trivial
 | cons k n p c ks r BR qz=>
  rintro b o ⟨⟨hB,h0,h1,h2,h3,K,cap,b',o',h4,hc,hm,hK,hk⟩,hr⟩;exact⟨⟨hB,h0,h1,h2,h3,K,cap,b',o',h4,hc,hm,hK,BR hk⟩,qz hr⟩
variable{w':Iv}{Q Q':Nat->Prop}
theorem Ch.keep(hQ:∀ q,Q q->Q' q)(hb:∀ q,Q q->w'.heap[q]? = w.heap[q]?):∀ {es:Es}{b o:Nat},Ch w Q es b o->Ch w' Q' es b o:=by
 intro es
 induction es with
 | nil=>intro b o _;trivial
 | cons k n p c ks r BR qz=>
  rintro b o ⟨⟨hB,h0,h1,h2,h3,K,cap,b',o',h4,hc,hm,hK,hk⟩,hr⟩;have e:∀ i,w'.cell? ⟨b,i,U⟩=w.cell? ⟨b,i,U⟩:=λi=>World.cell?_of_block (hb b hB)
  exact⟨⟨hQ _ hB,(e _).trans h0,(e _).trans h1,(e _).trans h2,(e _).trans h3,K,cap,b',o',(e _).trans h4,hc,hm,hK,BR hk⟩,qz hr⟩
theorem Ch.exs:∀ {es:Es}{b o:Nat},Ch w Q es b o->aI w w.heap.size es b o:=by
 intro es
 induction es with
 | nil=>intro b o _;trivial
 | cons k n p c ks r BR qz=>
  rintro b o ⟨⟨_,h0,h1,h2,h3,K,cap,b',o',h4,hc,hm,hK,hk⟩,hr⟩;exact⟨⟨World.block_lt_of_cell? _ _ h0,h0,h1,h2,h3,K,cap,b',o',h4,hc,hm,hK,BR hk⟩,qz hr⟩
variable{es:Es}{A:Option I3}
theorem ExQ.exs(h:ExQ w Q es A):bJ w w.heap.size es A:=by
 obtain⟨b,o,h1,h2⟩:=h;exact⟨b,o,h1,h2.exs⟩
theorem ExQ.keep(h:ExQ w Q es A)(hQ:∀ q,Q q->Q' q)(hb:∀ q,Q q->w'.heap[q]? = w.heap[q]?):ExQ w' Q' es A:=by
 obtain⟨b,o,h1,h2⟩:=h;exact⟨b,o,h1,h2.keep hQ hb⟩
theorem bJ.q(h:bJ w B es A):ExQ w (λq=>q<B) es A:=by
 obtain⟨b,o,h1,h2⟩:=h;exact⟨b,o,h1,h2.q⟩
variable{b g:Nat}
theorem Yd{w1 w2:Iv}(hk:∀ q,q<B->w2.heap[q]? = w1.heap[q]?)(hQ:∀ q,q<B->Q q)(hg:Q g):∀ {es:Es}{i o o2:Nat}{y:Nd}{K:Option I3}{cap:Nat},aI w1 B es b o->i<es.len ->
  (∀ j,j<es.len*5->j<i*5∨(i+1)*5<=j->w2.cell? ⟨g,o2+j,U⟩=w1.cell? ⟨b,o+j,U⟩) ->
  w2.cell? ⟨g,o2+i*5,U⟩=M (I J y.k)->w2.cell? ⟨g,o2+i*5+1,U⟩=M (I J y.n)->w2.cell? ⟨g,o2+i*5+2,U⟩=M (I J y.p)->w2.cell? ⟨g,o2+i*5+3,U⟩=M (I J y.c)->w2.cell? ⟨g,o2+i*5+4,U⟩=M (V K y.ks.len cap) ->
  y.ks.len<=cap->cap<=I2->ExQ w2 Q y.ks K->Ch w2 Q (es.put i y) g o2:=by
 intro es
 induction es with
 | nil=>intro i o o2 y K cap _ hi;simp[Es.len] at hi
 | cons k n p c ks r _ qz=>
  rintro i o o2 y K cap ⟨⟨hB,h0,h1,h2,h3,K',bB,b',o',h4,hc',hm',Gv,hks⟩,hr⟩ hi hc e0 e1 e2 e3 e4 hcap hmx hy;simp only[Es.len] at hi hc;cases i with
  | zero=>
   simp only[Mn,Mm] at e0 e1 e2 e3 e4;obtain⟨b2,o3,hk2,hx2⟩:=hy;refine⟨⟨hg,e0,e1,e2,e3,K,cap,b2,o3,e4,hcap,hmx,hk2,hx2⟩, ?_⟩;have copy:∀ (es:Es) (o o2:Nat),aI w1 B es b o->(∀ j,j<es.len*5->w2.cell? ⟨g,o2+j,U⟩=w1.cell? ⟨b,o+j,U⟩)->Ch w2 Q es g o2:=by
    intro es
    induction es with
    | nil=>intro o o2 _ _;trivial
    | cons k n p c ks r _ qz=>
     rintro o o2 ⟨⟨hB,h0,h1,h2,h3,K',bB,b',o',h4,hc',hm',Gv,hks⟩,hr⟩ hc;simp only[Es.len] at hc;exact⟨⟨hg,(hc 0 ah).trans h0,(hc 1 ah).trans h1,(hc 2 ah).trans h2,(hc 3 ah).trans h3,K',bB,b',o',(hc 4 ah).trans h4,hc',hm',Gv,hks.q.keep hQ hk⟩,
      qz (o+5) (o2+5) hr (λj hj=>by have:=hc (5+j) ah;rwa [<-Nat.add_assoc,<-Nat.add_assoc] at this)⟩
   exact copy r (o+5) (o2+5) hr (λj hj=>by have:=hc (5+j) ah (.inr ah);rwa [<-Nat.add_assoc,<-Nat.add_assoc] at this)
  | succ i=>
   have hz:∀ j,j<5->w2.cell? ⟨g,o2+j,U⟩=w1.cell? ⟨b,o+j,U⟩:=λj hj=>hc j ah (.inl ah)
   refine⟨⟨hg,(hz 0 ah).trans h0,(hz 1 ah).trans h1,(hz 2 ah).trans h2,(hz 3 ah).trans h3,K',bB,b',o',(hz 4 ah).trans h4,hc',hm',Gv,hks.q.keep hQ hk⟩, ?_⟩;rw[show o2+(i+1)*5=o2+5+i*5 by omega] at e0 e1 e2 e3 e4;exact qz hr ah (λj hj h=>by have:=hc (5+j) ah ah;rwa [<-Nat.add_assoc,<-Nat.add_assoc] at this) e0 e1 e2 e3 e4 hcap hmx hy
structure dO (w:Iv) (B:Nat) (x:Nd) (K:Option I3) (cap:Nat):Prop where
 sl:bJ w B x.ks K
 len:x.ks.len<=cap
 cap:cap<=I2
variable{x:Nd}{K:Option I3}{cap:Nat}
theorem dO.below(h:dO w B x K cap)(hb:Ix B w w'):dO w' B x K cap:=⟨h.sl.below hb,h.len,h.cap⟩
theorem dO.mono{B':Nat}(h:dO w B x K cap)(hb:B<=B'):dO w B' x K cap:=⟨h.sl.mono hb,h.len,h.cap⟩
def aaI(B:Nat)(o:Option Nd)(w:Iv)(e:Ending)(w':Iv):Prop:=
 Ix w.heap.size w w'/\(o=U->e=If (.tuple #[exV 0 0 0 0 U 0 0,.bool false]))/\∀ z,o=M z->∃ K cap,e=If (.tuple #[exV z.k z.n z.p z.c K z.ks.len cap,.bool true])/\dO w' B z K cap
theorem Og(k n p c:Int)(ks:Es)(K:Option I3)(cap:Nat)(A:Option I3)(pc:Nat)(zs:List Int)(B:Nat)(w:Iv)(hX:dO w B ⟨k,n,p,c,ks⟩ K cap)(hB:B<=w.heap.size)(hz:ks.size<=1000000)(hA:Ints w A zs)(hzl:zs.length<=1048576) :
  I0 Tryz.prog 74 #[exV k n p c K ks.len cap,V A zs.length pc] w (aaI B (nodeAt ⟨k,n,p,c,ks⟩ zs) w):=by
 obtain⟨hsl,hc,hcm⟩:=hX;simp only at hsl hc;have hx1:cap<=9223372036854775807:=by unfold I2 at hcm;omega
 have hls:=Es.aF ks;obtain⟨W0,aZ⟩:=aD ((w.alloc (Is #[I J k,I J n,I J p,I J c,V K ks.len cap] 33)).alloc (Is #[I J 0,I J 0,I J 0,I J 0,V U 0 0] 33))
 have hb0:Ix w.heap.size w W0:=by rw[aZ];go_grown
 have hs0:W0.heap.size=w.heap.size+2:=by rw[aZ];simp
 have hq1:au W0 w.heap.size 33 [I J k,I J n,I J p,I J c,V K ks.len cap]:=by
  rw[aZ];exact (au.new w 33 [I J k,I J n,I J p,I J c,V K ks.len cap]).next aV
 have hq2:au W0 (w.heap.size+1) 33 [I J 0,I J 0,I J 0,I J 0,V U 0 0]:=by
  rw[aZ];have:=au.new (w.alloc (Is #[I J k,I J n,I J p,I J c,V K ks.len cap] 33)) 33 [I J 0,I J 0,I J 0,I J 0,V U 0 0];simpa using this
 obtain⟨rr,dG⟩:=aD (nodeAt ⟨k,n,p,c,ks⟩ zs)
 rw[<-dG];have HRR:=aj dG;have dI:=aj aZ;have HB0:=aj hb0;have IU:=aj hq1;have y7:=aj hq2;have gQ:=aj hs0;have HA:=aj hA;have HSL:ak (bJ W0 B ks K):=hsl.below (hb0.mono hB);have HZ:=aj hz;clear dG aZ hb0 hq1 hq2 hs0 hA hsl hz;go_enter func74,ntmps74;go_upto_region 1 with fail;rw[<-dI.o];go_wp2_with fail
 go_loopg [10] (zs.length+1) (λkx Hy wr=>∃ (j:Nat) (yk yn yp yc:Int) (ys:Es) (Ky:Option I3) (cy:Nat),Hy=I J (j:Int)/\j<=zs.length/\zs.length - j<kx/\ak (rr=nodeAt ⟨yk,yn,yp,yc,ys⟩ (zs.drop j))/\ak (ys.size<=1000000)/\ys.len<=cy/\cy<=I2/\ak (au wr w.heap.size 33 [I J yk,I J yn,I J yp,I J yc,V Ky ys.len cy])/\ak (bJ wr B ys Ky)/\ak (aC (λq=>q=w.heap.size) W0 wr))
 case atStart=>exact⟨0,k,n,p,c,ks,K,cap,by first | rfl | go_num,ah,ah,by show _=_;rw[HRR.o,List.drop_zero],HZ,hc,hcm,IU,HSL,aC.refl _ _⟩
 case round=>
  obtain⟨j,yk,yn,yp,yc,ys,Ky,cy,rfl,hjn,hkx,HP,hys,hcy,ahM,HQ,VG,HO⟩:=hrel;clear HRR IU HSL;have amq:cy<=9223372036854775807:=by unfold I2 at ahM;omega
  have hly:=Es.aF ys;have hlz:ys.len<=1000000:=by have:=hys.o;omega
  have y0:wr.cell? ⟨w.heap.size,0,U⟩=M (I J yk):=ay HQ.o
  have y1:wr.cell? ⟨w.heap.size,1,U⟩=M (I J yn):=ay HQ.o
  have y2:wr.cell? ⟨w.heap.size,2,U⟩=M (I J yp):=ay HQ.o
  have y3:wr.cell? ⟨w.heap.size,3,U⟩=M (I J yc):=ay HQ.o
  have y4:wr.cell? ⟨w.heap.size,4,U⟩=M (V Ky ys.len cy):=ay HQ.o
  have hZ:au wr (w.heap.size+1) 33 [I J 0,I J 0,I J 0,I J 0,V U 0 0]:=(HO.o.block _ (by have:=gQ.o;omega) (by show ¬ w.heap.size+1=w.heap.size;omega)).trans y7.o;have hsw:w.heap.size+2<=wr.heap.size:=by have:=HO.o.size;have:=gQ.o;omega
  have HBr:ak (Ix w.heap.size w wr):=HB0.o.trans (HO.o.below (by have:=gQ.o;omega) (λq hq=>by subst hq;exact Jn _))
  by_cases hlt:j<zs.length
  ·have hjz:(j:Int)<(zs.length:Int):=ah
   obtain⟨z,hzj⟩:∃ z,zs[j]? = M z:=⟨_,List.getElem?_eq_getElem hlt⟩
   obtain⟨bA,oA,rfl,hbA,Rz⟩:=HA.o ah;have hcz:wr.cell? ⟨bA,oA+j,U⟩=M (I J z):=(HBr.o.cell (p:=⟨bA,oA+j,U⟩) hbA).trans (Rz j z hzj);have HD:ak (zs.drop j=z :: zs.drop (j+1)):=by
    show _=_;rw[List.drop_eq_getElem_cons hlt]
    congr 1
    exact Option.some.inj ((List.getElem?_eq_getElem hlt).symm.trans hzj)
   have oI:=aj (λwx=>aT z 0 ((ys.len:Int) - 1) wx);have hwv:IntKind.i64.wrap ((ys.len:Int) - 1)=(ys.len:Int) - 1:=by rw[IntKind.wrap_i64];omega
   clear Rz hzj;cases hin:fP z 0 ((ys.len:Int) - 1)
   ·rw[hin] at oI
    have HV:ak (rr=U):=by show _=_;rw[HP.o,HD.o];exact Dk hin
    have j0:wr.cell? ⟨w.heap.size+1,0,U⟩=M (I J 0):=ay hZ
    have g0:wr.frozen? ⟨w.heap.size+1,0,U⟩=false:=hZ.frozen _;have j1:wr.cell? ⟨w.heap.size+1,1,U⟩=M (I J 0):=ay hZ
    have g1:wr.frozen? ⟨w.heap.size+1,1,U⟩=false:=hZ.frozen _;have j2:wr.cell? ⟨w.heap.size+1,2,U⟩=M (I J 0):=ay hZ
    have g2:wr.frozen? ⟨w.heap.size+1,2,U⟩=false:=hZ.frozen _;have j3:wr.cell? ⟨w.heap.size+1,3,U⟩=M (I J 0):=ay hZ
    have g3:wr.frozen? ⟨w.heap.size+1,3,U⟩=false:=hZ.frozen _;have j4:wr.cell? ⟨w.heap.size+1,4,U⟩=M (V U 0 0):=ay hZ
    have g4:wr.frozen? ⟨w.heap.size+1,4,U⟩=false:=hZ.frozen _;have d0:=hZ;have d1:=d0.aJ 0 (I J 0);have d2:=d1.aJ 1 (I J 0);have d3:=d2.aJ 2 (I J 0);have d4:=d3.aJ 3 (I J 0);have d5:=d4.aJ 4 (V U 0 0);have x0:=d1.cell 0;have x1:=d2.cell 1;have x2:=d3.cell 2;have x3:=d4.cell 3;have x4:=d5.cell 4;simp only[eY] at x0 x1 x2 x3 x4
    clear d0 d1 d2 d3 d4 d5;have HP5:ak (Ix w.heap.size w (cK wr (w.heap.size+1) 0 0 0 0 0 (V U 0 0))):=bD _ _ _ _ _ HBr.o ah;clear hin hZ y0 y1 y2 y3 HQ HP HD HO VG HBr;go_wp2_with (go_at_call 90;refine (oI.o _).mono ?_;rintro e w' ⟨rfl,rfl⟩);refine bodyPost_ret (v:=.tuple #[exV 0 0 0 0 U 0 0,.bool false]) (by simp[results,results74,go_sem,x0,x1,x2,x3,x4]) rfl ?_
    exact⟨HP5.o,(λ_=>rfl),(λz hz=>by rw[HV.o] at hz;cases hz)⟩
   ·rw[hin] at oI
    have hzr:=bH.1 hin;obtain⟨q,rfl⟩:∃ q:Nat,z=(q:Int):=Int.eq_ofNat_of_zero_le hzr.1;have hq:q<ys.len:=ah;have hqz:(q:Int)<(ys.len:Int):=ah;obtain⟨x,hx⟩:=Es.eG hq;obtain⟨bk,ok,hKy,hxs⟩:=VG.o;have hKy:=hKy ah;subst hKy;obtain⟨lD,e0,e1,e2,e3,Kx,cx,b2,o2,e4,hcx,akD,hKx,abk⟩:=hxs.get hx;have hsx:=Es.dY hx;have mU:ak (rr=nodeAt x (zs.drop (j+1))):=by show _=_;rw[HP.o,HD.o];exact AX hin (by rw[Mz];exact hx)
    obtain⟨xk,xn,xp,xc,xs⟩:=x;simp only at e0 e1 e2 e3 e4 hcx hKx abk hsx;have f0:wr.frozen? ⟨w.heap.size,0,U⟩=false:=HQ.o.frozen _;have f1:wr.frozen? ⟨w.heap.size,1,U⟩=false:=HQ.o.frozen _;have f2:wr.frozen? ⟨w.heap.size,2,U⟩=false:=HQ.o.frozen _;have f3:wr.frozen? ⟨w.heap.size,3,U⟩=false:=HQ.o.frozen _;have f4:wr.frozen? ⟨w.heap.size,4,U⟩=false:=HQ.o.frozen _;have L8:ak (xs.size<=1000000):=by have:=hys.o;show _<=_;omega
    have agE:ak (au (cK wr w.heap.size 0 xk xn xp xc (V Kx xs.len cx)) w.heap.size 33 [I J xk,I J xn,I J xp,I J xc,V Kx xs.len cx]):=oz (o:=0) HQ.o xk xn xp xc (V Kx xs.len cx);have hO2:aC (λq=>q=w.heap.size) wr (cK wr w.heap.size 0 xk xn xp xc (V Kx xs.len cx)):=⟨rfl,rfl,rfl,by rw[bN];exact Jn _,λq _ hq=>dN _ _ _ _ _ hq⟩
    have agL:ak (bJ (cK wr w.heap.size 0 xk xn xp xc (V Kx xs.len cx)) B xs Kx):=bJ.below ⟨b2,o2,hKx,abk⟩ (hO2.below ah (λq hq=>by subst hq;exact hB));have rO:ak (aC (λq=>q=w.heap.size) W0 (cK wr w.heap.size 0 xk xn xp xc (V Kx xs.len cx))):=HO.o.trans hO2;clear hin hZ HP HD HO VG hxs hx abk hO2 HQ hzr HBr hKx;go_wp2_with (go_at_call 90;refine (oI.o _).mono ?_;rintro e w' ⟨rfl,rfl⟩)
    unfold cK at agE agL rO
    go_roundg (zs.length - (j+1)+1)
    case measure=>omega
    case rel=>exact⟨j+1,xk,xn,xp,xc,xs,Kx,cx,by first | rfl | go_num,ah,ah,mU,L8,hcx,akD,agE,agL,rO⟩
  ·obtain rfl:j=zs.length:=ah
   have hjz:¬ (zs.length:Int)<(zs.length:Int):=ah;have HV:ak (rr=M ⟨yk,yn,yp,yc,ys⟩):=by show _=_;rw[HP.o,List.drop_length];rfl
   have j0:wr.cell? ⟨w.heap.size+1,0,U⟩=M (I J 0):=ay hZ
   have g0:wr.frozen? ⟨w.heap.size+1,0,U⟩=false:=hZ.frozen _;have j1:wr.cell? ⟨w.heap.size+1,1,U⟩=M (I J 0):=ay hZ
   have g1:wr.frozen? ⟨w.heap.size+1,1,U⟩=false:=hZ.frozen _;have j2:wr.cell? ⟨w.heap.size+1,2,U⟩=M (I J 0):=ay hZ
   have g2:wr.frozen? ⟨w.heap.size+1,2,U⟩=false:=hZ.frozen _;have j3:wr.cell? ⟨w.heap.size+1,3,U⟩=M (I J 0):=ay hZ
   have g3:wr.frozen? ⟨w.heap.size+1,3,U⟩=false:=hZ.frozen _;have j4:wr.cell? ⟨w.heap.size+1,4,U⟩=M (V U 0 0):=ay hZ
   have g4:wr.frozen? ⟨w.heap.size+1,4,U⟩=false:=hZ.frozen _;have d0:=hZ;have d1:=d0.aJ 0 (I J yk);have d2:=d1.aJ 1 (I J yn);have d3:=d2.aJ 2 (I J yp);have d4:=d3.aJ 3 (I J yc);have d5:=d4.aJ 4 (V Ky ys.len cy);have x0:=d1.cell 0;have x1:=d2.cell 1;have x2:=d3.cell 2;have x3:=d4.cell 3;have x4:=d5.cell 4;simp only[eY] at x0 x1 x2 x3 x4
   clear d0 d1 d2 d3 d4 d5;have HP5:ak (Ix w.heap.size w (cK wr (w.heap.size+1) 0 yk yn yp yc (V Ky ys.len cy))):=bD _ _ _ _ _ HBr.o ah;have Pj:ak (bJ (cK wr (w.heap.size+1) 0 yk yn yp yc (V Ky ys.len cy)) B ys Ky):=VG.o.below (bD _ _ _ _ _ (Jx _ _) ah);clear hZ HQ HP HO VG HBr;go_wp2;refine bodyPost_ret (v:=.tuple #[exV yk yn yp yc Ky ys.len cy,.bool true]) (by simp[results,results74,go_sem,x0,x1,x2,x3,x4]) rfl ?_
   refine⟨HP5.o,(λh=>by rw[HV.o] at h;cases h),(λz hz=>?_)⟩;rw[HV.o] at hz;injection hz with hz
   subst hz;exact⟨Ky,cy,rfl,Pj.o,hcy,ahM⟩
theorem EW:∀ {es:Es}{o:Nat},aI w B es b o->∃ C:List I1,C.length=es.len*5/\(∀ (j:Nat) u,C[j]? = M u->w.cell? ⟨b,o+j,U⟩=M u)/\∀ u∈C,u.oneCell'=true:=by
 intro es
 induction es with
 | nil=>intro o _;exact⟨[],by simp[Es.len],λj u h=>by simp at h,λu h=>by simp at h⟩
 | cons k n p c ks r _ qz=>
  rintro o ⟨⟨_,h0,h1,h2,h3,K,cap,b',o',h4,_⟩,hr⟩;obtain⟨C,c1,c2,c3⟩:=qz hr;refine⟨[I J k,I J n,I J p,I J c,V K ks.len cap]++C,by simp[Es.len,c1];omega,λj u h=>?_,λu h=>?_⟩
  ·by_cases hj:j<5
   ·rw[List.getElem?_append_left (by simpa using hj)] at h
    match j,hj with
    | 0,_=>simp at h;subst h;exact h0
    | 1,_=>simp at h;subst h;exact h1
    | 2,_=>simp at h;subst h;exact h2
    | 3,_=>simp at h;subst h;exact h3
    | 4,_=>simp at h;subst h;exact h4
   ·rw[List.getElem?_append_right (by simp;omega)] at h
    have:=c2 _ u h
    rwa [show o+5+(j - [I J k,I J n,I J p,I J c,V K ks.len cap].length)=o+j by simp;omega] at this
  ·rcases List.mem_append.1 h with h | h
   ·simp only[List.mem_cons,List.not_mem_nil,or_false] at h
    rcases h with rfl | rfl | rfl | rfl | rfl<;>rfl
   ·exact c3 u h
def acx(w:Iv)(len b o:Nat)(e:Ending)(w':Iv):Prop:=
 ∃ g c2,e=If (V (M ⟨g,0,U⟩) len c2)/\len<=c2/\c2<=I2/\w.heap.size<=g/\g<w'.heap.size/\Ix w.heap.size w w'/\(∀ j,j<len*5->w'.cell? ⟨g,j,U⟩=w.cell? ⟨b,o+j,U⟩)/\∀ j,w'.frozen? ⟨g,j,U⟩=false
theorem I_(es:Es)(b o cap B:Nat)(w:Iv)(hE:aI w B es b o)(hB:B<=w.heap.size)(h0:0<es.len)(hl:es.len<=1000000) :
  I0 Tryz.prog 158 #[V (M ⟨b,o,U⟩) es.len cap] w (acx w es.len b o):=by
 obtain⟨i0,hi,hz0,hz1,hz2⟩:=info_parts Tryz.infoE;have hrow:=(iM.start w).own;have hg:Ix w.heap.size w (w.alloc (Is #[] 33)):=aV;obtain⟨C,c1,c2,c3⟩:=EW (hE.below (hg.mono hB));have HO:=aj hrow;have HG:=aj hg;have HN:ak (∀ (j:Nat) u,C[j]? = M u->(w.alloc (Is #[] 33)).cell? ((Addr.mk b o U).add j)=M u):=by
  intro j u hu;rw[addr_add];exact c2 j u hu
 have H1:=aj c3;have HC:ak (∀ (j:Nat) u,C[j]? = M u->w.cell? ⟨b,o+j,U⟩=M u):=λj u hu=>by
  obtain⟨C',e1,e2,_⟩:=EW hE;have hj:j<C'.length:=by have:=(List.getElem?_eq_some_iff.1 hu).1;omega
  have h3:=e2 j _ (List.getElem?_eq_getElem hj);have h4:=c2 j u hu;have h5:(w.alloc (Is #[] 33)).cell? ⟨b,o+j,U⟩=w.cell? ⟨b,o+j,U⟩:=hg.cell (p:=⟨b,o+j,U⟩) (World.block_lt_of_cell? _ _ h3);rw[<-h5];exact h4
 have q22:∀ (w:Iv) (a:Option I3) (n c n' c':Nat),(binOp .eql 31 (V a n c) (V U n' c')).run Tryz.prog w=.ok (.bool a.isNone) w:=λw a n c n' c'=>Lib.run_eql_slice_nil w _ _ a n c n' c' underlying31
 clear hrow hg hE c2 c3;go_enter func158,ntmps158;go_wp2_with (at_builtin;refine wpList_append_own _ rfl _ _ 31 rfl w.heap.size 33 i0 (exV 0 0 0 0 U 0 0) 5 56 underlying31 hi hz0 hz1 hz2 rfl bM _ 0 _ rfl HO.o ⟨b,o,U⟩ es.len cap C rfl ?c0 HN.o H1.o ?c3 ?c4 ?c5 ?_)
 try (case c0=>exact c1)
 case c3=>unfold I2;omega
 case c4=>omega
 try (case c5=>simp;try omega)
 intro v2 w2 hown hg _
 try simp only[Mu,List.nil_append] at hown
 obtain⟨g,c',hv,hg1,hg2⟩:=World.ownsRow.form hown h0;subst hv;have zN:es.len<=c'/\c'<=I2:=by
  rcases hown.2 with ⟨hv,_⟩ | ⟨g',bB,cur,hv,_,_,hc,hm,_⟩
  ·cases hv
  ·injection hv with _ _ e
   subst e;exact⟨hc,hm⟩
 have hb2:Ix w.heap.size w w2:=HG.o.grown hg (by simp) (λq hq=>(World.ownsRow.lt HO.o q hq).1);have HP:ak (acx w es.len b o (If (V (M ⟨g,0,U⟩) es.len c')) w2):=by
  refine⟨g,c',rfl,zN.1,zN.2,hg1,hg2,hb2,λj hj=>?_,λj=>World.ownsRow.frozenAt hown j⟩;have h1:=World.ownsRow.cellAt hown j hj;have hjc:j<C.length:=ah;rw[h1,List.getElem?_eq_getElem hjc];exact (HC.o j _ (List.getElem?_eq_getElem hjc)).symm
 clear hown hg hb2 zN;go_wp2;go_ret;exact HP.o
variable{o:Nat}{k n p c:Int}{v:I1}
theorem DF{j:Nat}(h:j<o∨o+5<=j):(cK w g o k n p c v).cell? ⟨g,j,U⟩=w.cell? ⟨g,j,U⟩:=by
 unfold cK;rw[dX _ _ _ _ _ ah,dX _ _ _ _ _ ah,dX _ _ _ _ _ ah,dX _ _ _ _ _ ah,dX _ _ _ _ _ ah]
theorem KE{u0 u1 u2 u3 u4:I1}(h0:w.cell? ⟨g,o,U⟩=M u0)(h1:w.cell? ⟨g,o+1,U⟩=M u1)(h2:w.cell? ⟨g,o+2,U⟩=M u2)(h3:w.cell? ⟨g,o+3,U⟩=M u3)(h4:w.cell? ⟨g,o+4,U⟩=M u4) :
  (cK w g o k n p c v).cell? ⟨g,o,U⟩=M (I J k)/\(cK w g o k n p c v).cell? ⟨g,o+1,U⟩=M (I J n)/\(cK w g o k n p c v).cell? ⟨g,o+2,U⟩=M (I J p)/\(cK w g o k n p c v).cell? ⟨g,o+3,U⟩=M (I J c)/\(cK w g o k n p c v).cell? ⟨g,o+4,U⟩=M v:=by
 refine⟨?_, ?_, ?_, ?_, ?_⟩
 ·unfold cK
  rw[dX _ _ _ _ _ ah,dX _ _ _ _ _ ah,dX _ _ _ _ _ ah,dX _ _ _ _ _ ah,vW _ h0]
 ·unfold cK
  rw[dX _ _ _ _ _ ah,dX _ _ _ _ _ ah,dX _ _ _ _ _ ah,vW (u:=u1) _ (by rw[dX _ _ _ _ _ ah,h1])]
 ·unfold cK
  rw[dX _ _ _ _ _ ah,dX _ _ _ _ _ ah,vW (u:=u2) _ (by rw[dX _ _ _ _ _ ah,dX _ _ _ _ _ ah,h2])]
 ·unfold cK
  rw[dX _ _ _ _ _ ah,vW (u:=u3) _ (by rw[dX _ _ _ _ _ ah,dX _ _ _ _ _ ah,dX _ _ _ _ _ ah,h3])]
 ·unfold cK
  rw[vW (u:=u4) _ (by rw[dX _ _ _ _ _ ah,dX _ _ _ _ _ ah,dX _ _ _ _ _ ah,dX _ _ _ _ _ ah,h4])]
def pY(B:Nat)(x:Nd)(w:Iv)(e:Ending)(w':Iv):Prop:=
 Ix w.heap.size w w'/\∃ K cap,e=If (exV x.k x.n x.p x.c K x.ks.len cap)/\x.ks.len<=cap/\cap<=I2/\ExQ w' (λq=>q<B∨w.heap.size<=q) x.ks K
def ag4(path:List Int):Prop:=∀ (k n p c:Int) (ks:Es) (K:Option I3) (cap:Nat) (A:Option I3) (pc:Nat) (y:Nd) (Ky:Option I3) (cy B:Nat) (z:Nd) (w:Iv),dO w B ⟨k,n,p,c,ks⟩ K cap->dO w B y Ky cy->Ints w A path->path.length<=pc->pc<=I2->B<=w.heap.size->ks.size<=1000000->nodeAt ⟨k,n,p,c,ks⟩ path=M z ->
 I0 Tryz.prog 78 #[exV k n p c K ks.len cap,V A path.length pc,exV y.k y.n y.p y.c Ky y.ks.len cy] w (pY B (fT ⟨k,n,p,c,ks⟩ y path) w)
theorem Ht:∀ (path:List Int),path.length<=1000000->ag4 path:=by
 intro path
 induction path with
 | nil=>
  intro _ k n p c ks K cap A pc y Ky cy B z w hX hY hA hpc hpm hB hz hat;obtain⟨yk,yn,yp,yc,ys⟩:=y;obtain⟨hsy,hcy,hmy⟩:=hY;simp only at hsy hcy;have hx1:pc<=9223372036854775807:=by unfold I2 at hpm;omega
  obtain⟨W0,aZ⟩:=aD (((w.alloc (Is #[I J k,I J n,I J p,I J c,V K ks.len cap] 33)).alloc (Is #[I J yk,I J yn,I J yp,I J yc,V Ky ys.len cy] 33)).alloc (Is #[I J 0,I J 0,I J 0,I J 0,V U 0 0] 33))
  have hb0:Ix w.heap.size w W0:=by rw[aZ];go_grown
  have hs0:W0.heap.size=w.heap.size+3:=by rw[aZ];simp
  have hq2:au W0 (w.heap.size+1) 33 [I J yk,I J yn,I J yp,I J yc,V Ky ys.len cy]:=by
   rw[aZ];have:=(au.new (w.alloc (Is #[I J k,I J n,I J p,I J c,V K ks.len cap] 33)) 33 [I J yk,I J yn,I J yp,I J yc,V Ky ys.len cy]).next (w':=((w.alloc (Is #[I J k,I J n,I J p,I J c,V K ks.len cap] 33)).alloc (Is #[I J yk,I J yn,I J yp,I J yc,V Ky ys.len cy] 33)).alloc (Is #[I J 0,I J 0,I J 0,I J 0,V U 0 0] 33)) aV
   simpa using this
  have hZ:au W0 (w.heap.size+2) 33 [I J 0,I J 0,I J 0,I J 0,V U 0 0]:=by
   rw[aZ];have:=au.new ((w.alloc (Is #[I J k,I J n,I J p,I J c,V K ks.len cap] 33)).alloc (Is #[I J yk,I J yn,I J yp,I J yc,V Ky ys.len cy] 33)) 33 [I J 0,I J 0,I J 0,I J 0,V U 0 0];simpa using this
  have y0:W0.cell? ⟨w.heap.size+1,0,U⟩=M (I J yk):=ay hq2
  have y1:W0.cell? ⟨w.heap.size+1,1,U⟩=M (I J yn):=ay hq2
  have y2:W0.cell? ⟨w.heap.size+1,2,U⟩=M (I J yp):=ay hq2
  have y3:W0.cell? ⟨w.heap.size+1,3,U⟩=M (I J yc):=ay hq2
  have y4:W0.cell? ⟨w.heap.size+1,4,U⟩=M (V Ky ys.len cy):=ay hq2
  have j0:W0.cell? ⟨w.heap.size+2,0,U⟩=M (I J 0):=ay hZ
  have g0:W0.frozen? ⟨w.heap.size+2,0,U⟩=false:=hZ.frozen _;have j1:W0.cell? ⟨w.heap.size+2,1,U⟩=M (I J 0):=ay hZ
  have g1:W0.frozen? ⟨w.heap.size+2,1,U⟩=false:=hZ.frozen _;have j2:W0.cell? ⟨w.heap.size+2,2,U⟩=M (I J 0):=ay hZ
  have g2:W0.frozen? ⟨w.heap.size+2,2,U⟩=false:=hZ.frozen _;have j3:W0.cell? ⟨w.heap.size+2,3,U⟩=M (I J 0):=ay hZ
  have g3:W0.frozen? ⟨w.heap.size+2,3,U⟩=false:=hZ.frozen _;have j4:W0.cell? ⟨w.heap.size+2,4,U⟩=M (V U 0 0):=ay hZ
  have g4:W0.frozen? ⟨w.heap.size+2,4,U⟩=false:=hZ.frozen _;have d0:=hZ;have d1:=d0.aJ 0 (I J yk);have d2:=d1.aJ 1 (I J yn);have d3:=d2.aJ 2 (I J yp);have d4:=d3.aJ 3 (I J yc);have d5:=d4.aJ 4 (V Ky ys.len cy);have x0:=d1.cell 0;have x1:=d2.cell 1;have x2:=d3.cell 2;have x3:=d4.cell 3;have x4:=d5.cell 4;simp only[eY] at x0 x1 x2 x3 x4
  clear d0 d1 d2 d3 d4 d5;have HP:ak (pY B ⟨yk,yn,yp,yc,ys⟩ w (If (exV yk yn yp yc Ky ys.len cy)) (cK W0 (w.heap.size+2) 0 yk yn yp yc (V Ky ys.len cy))):=by
   have hb5:Ix w.heap.size w (cK W0 (w.heap.size+2) 0 yk yn yp yc (V Ky ys.len cy)):=bD _ _ _ _ _ hb0 ah;exact⟨hb5,Ky,cy,rfl,hcy,hmy,hsy.q.keep (λq hq=>.inl hq) (λq hq=>hb5.block q ah)⟩
  have dI:=aj aZ;clear hb0 hs0 hq2 hZ aZ hsy hX hA;show I0 Tryz.prog 78 #[exV k n p c K ks.len cap,V A 0 pc,exV yk yn yp yc Ky ys.len cy] w _;go_enter func78,ntmps78;go_upto_region 1 with fail;rw[<-dI.o];go_wp2;refine bodyPost_ret (v:=exV yk yn yp yc Ky ys.len cy) (by simp[results,results78,go_sem,x0,x1,x2,x3,x4]) rfl ?_;exact HP.o
 | cons i path ih=>
  intro hpl k n p c ks K cap A pc y Ky cy B z w hX hY hA hpc hpm hB hz hat;obtain⟨u,hi0,GH,hu,YR⟩:=mG hat;simp only at GH hu;obtain⟨q,rfl⟩:∃ q:Nat,i=(q:Int):=Int.eq_ofNat_of_zero_le hi0;rw[Mz] at hu;have hq:q<ks.len:=ah;have hqz:(q:Int)<(ks.len:Int):=ah;have sW:=Es.dY hu;have HRP:ak (fT ⟨k,n,p,c,ks⟩ y ((q:Int) :: path)=⟨k,n,p,c,ks.put q (fT u y path)⟩):=by
   have:=Dt (x:=⟨k,n,p,c,ks⟩) y (path:=path) (k:=(q:Int)) (by rw[Mz];exact hu);rw[Mz] at this;exact this
  rw[HRP.o];obtain⟨yk,yn,yp,yc,ys⟩:=y;obtain⟨uk,un,up,uc,us⟩:=u;obtain⟨i0,hi,hz0,hz1,hz2⟩:=info_parts Tryz.infoE;simp only[List.length_cons] at hpl hpc;have IH:=aj (ih ah);clear ih;obtain⟨hsy,hcy,hmy⟩:=hY;obtain⟨hsx,hcx,hmx⟩:=hX;simp only at hsy hcy hsx hcx sW;have hx1:pc<=9223372036854775807:=by unfold I2 at hpm;omega
  have hx2:cap<=9223372036854775807:=by unfold I2 at hmx;omega
  have hls:=Es.aF ks;obtain⟨bk,ok,hK,hks⟩:=hsx;have hK:=hK ah;subst hK;obtain⟨bA,oA,rfl,hbA,Rz⟩:=hA (by simp);have hA2:Ints w (M ⟨bA,oA+1,U⟩) path:=λhn=>⟨bA,oA+1,rfl,hbA,λj x hx=>by
   have:=Rz (j+1) x (by simpa using hx)
   rwa [show oA+(j+1)=oA+1+j by omega] at this⟩
  have abe:w.cell? ⟨bA,oA,U⟩=M (I J (q:Int)):=by have:=Rz 0 (q:Int) rfl;rwa [Mm] at this
  obtain⟨W0,aZ⟩:=aD ((((w.alloc (Is #[I J k,I J n,I J p,I J c,V (M ⟨bk,ok,U⟩) ks.len cap] 33)).alloc (Is #[I J yk,I J yn,I J yp,I J yc,V Ky ys.len cy] 33)).alloc (Is #[I J 0,I J 0,I J 0,I J 0,V U 0 0] 33)).alloc (Is #[I J k,I J n,I J p,I J c,V (M ⟨bk,ok,U⟩) ks.len cap] 33))
  have hb0:Ix w.heap.size w W0:=by rw[aZ];go_grown
  have hs0:W0.heap.size=w.heap.size+4:=by rw[aZ];simp
  obtain⟨X1,hX1⟩:=aD (w.alloc (Is #[I J k,I J n,I J p,I J c,V (M ⟨bk,ok,U⟩) ks.len cap] 33))
  obtain⟨X2,hX2⟩:=aD (X1.alloc (Is #[I J yk,I J yn,I J yp,I J yc,V Ky ys.len cy] 33))
  obtain⟨X3,CU⟩:=aD (X2.alloc (Is #[I J 0,I J 0,I J 0,I J 0,V U 0 0] 33))
  have z1:X1.heap.size=w.heap.size+1:=by rw[hX1];simp
  have z2:X2.heap.size=w.heap.size+2:=by rw[hX2];simp[z1]
  have z3:X3.heap.size=w.heap.size+3:=by rw[CU];simp[z2]
  have jw:W0=X3.alloc (Is #[I J k,I J n,I J p,I J c,V (M ⟨bk,ok,U⟩) ks.len cap] 33):=by rw[aZ,CU,hX2,hX1]
  have hb3:Ix X3.heap.size X3 W0:=by rw[jw];go_grown
  have hb2:Ix X2.heap.size X2 X3:=by rw[CU];go_grown
  have hb1:Ix X1.heap.size X1 X2:=by rw[hX2];go_grown
  have hq1:au W0 w.heap.size 33 [I J k,I J n,I J p,I J c,V (M ⟨bk,ok,U⟩) ks.len cap]:=by
   have h:au X1 w.heap.size 33 [I J k,I J n,I J p,I J c,V (M ⟨bk,ok,U⟩) ks.len cap]:=by rw[hX1];exact au.new w 33 _
   exact ((h.next hb1).next hb2).next hb3
  have hq2:au W0 (w.heap.size+1) 33 [I J yk,I J yn,I J yp,I J yc,V Ky ys.len cy]:=by
   have h:au X2 (w.heap.size+1) 33 [I J yk,I J yn,I J yp,I J yc,V Ky ys.len cy]:=by rw[hX2,<-z1];exact au.new X1 33 _
   exact (h.next hb2).next hb3
  have hq3:au W0 (w.heap.size+2) 33 [I J 0,I J 0,I J 0,I J 0,V U 0 0]:=by
   have h:au X3 (w.heap.size+2) 33 [I J 0,I J 0,I J 0,I J 0,V U 0 0]:=by rw[CU,<-z2];exact au.new X2 33 _
   exact h.next hb3
  have hq4:au W0 (w.heap.size+3) 33 [I J k,I J n,I J p,I J c,V (M ⟨bk,ok,U⟩) ks.len cap]:=by rw[jw,<-z3];exact au.new X3 33 _
  have yY:=aj (I_ ks bk ok cap B W0 (hks.below (hb0.mono hB)) ah ah ah);have dI:=aj aZ;have HB0:=aj hb0;have gQ:=aj hs0;have IU:=aj hq1;have y7:=aj hq2;have DZ:=aj hq3;have LV:=aj hq4;have gI:=aj hks;have HA2:=aj hA2;have HSY:=aj hsy;have HU:=aj hu;have HAT:=aj YR;have HUS:=aj sW;have q4:W0.cell? ⟨w.heap.size,4,U⟩=M (V (M ⟨bk,ok,U⟩) ks.len cap):=ay hq1
  have r4:W0.cell? ⟨w.heap.size+3,4,U⟩=M (V (M ⟨bk,ok,U⟩) ks.len cap):=ay hq4
  have rf:W0.frozen? ⟨w.heap.size+3,4,U⟩=false:=hq4.frozen _;have amI:((path.length+1:Nat)==0)=false:=by simp
  have aia:(((path.length:Nat):Int)+1==0)=false:=by simp;omega
  clear aZ hb0 hs0 hq1 hq2 hq3 hq4 hks hsy hu hat YR sW hX1 hX2 CU jw hb1 hb2 hb3 Rz hA hA2 z1 z2 z3;show I0 Tryz.prog 78 #[exV k n p c (M ⟨bk,ok,U⟩) ks.len cap,V (M ⟨bA,oA,U⟩) (path.length+1) pc,exV yk yn yp yc Ky ys.len cy] w _;go_enter func78,ntmps78;go_upto_region 4 with fail;rw[<-dI.o];go_upto_region 5 with (go_at_call 158;refine yY.o.mono ?_;rintro e w1 ⟨g,c2,rfl,g1,g2,g3,g4,g5,g6,g7⟩;have s4:=aB r4 g5;have sf:=(g5.frozen (p:=⟨w.heap.size+3,4,U⟩) (by show w.heap.size+3<_;have:=gQ.o;omega)).trans rf)
  rw[show w.heap.size+1+1+1=w.heap.size+3 from rfl,show w.heap.size+1+1=w.heap.size+2 from rfl];obtain⟨lD,e0,e1,e2,e3,Ku,cu,b2,o2,e4,hcu,hmu,hKu,hku⟩:=gI.o.get HU.o;simp only at e0 e1 e2 e3 e4 hcu hKu hku;have hsz1:=g5.size;have hz0':=gQ.o;have aku:bk<w.heap.size:=ah;obtain⟨W2,hW2⟩:=aD (w1.setCell ⟨w.heap.size+3,4,U⟩ (V (M ⟨g,0,U⟩) ks.len c2))
  have dR:Ix w.heap.size w W2:=by rw[hW2];exact (HB0.o.trans (g5.mono ah)).setCell (p:=⟨w.heap.size+3,4,U⟩) (by show w.heap.size<=w.heap.size+3;omega) _
  have aa8:aC (λq=>q=w.heap.size+3) W0 W2:=by rw[hW2];exact (aC.of_below g5).trans ⟨rfl,rfl,rfl,by simp[World.setCell],λq _ hq=>J1 _ _ _ _ hq⟩
  have hs2:W2.heap.size=w1.heap.size:=by rw[hW2];simp[World.setCell]
  have k1:au W2 w.heap.size 33 [I J k,I J n,I J p,I J c,V (M ⟨bk,ok,U⟩) ks.len cap]:=(aa8.block _ ah (by show ¬ w.heap.size=w.heap.size+3;omega)).trans IU.o;have k2:au W2 (w.heap.size+1) 33 [I J yk,I J yn,I J yp,I J yc,V Ky ys.len cy]:=(aa8.block _ ah (by show ¬ w.heap.size+1=w.heap.size+3;omega)).trans y7.o;have k3:au W2 (w.heap.size+2) 33 [I J 0,I J 0,I J 0,I J 0,V U 0 0]:=(aa8.block _ ah (by show ¬ w.heap.size+2=w.heap.size+3;omega)).trans DZ.o
  have k4:au W2 (w.heap.size+3) 33 [I J k,I J n,I J p,I J c,V (M ⟨g,0,U⟩) ks.len c2]:=by
   have h1:au w1 (w.heap.size+3) 33 [I J k,I J n,I J p,I J c,V (M ⟨bk,ok,U⟩) ks.len cap]:=(g5.block _ ah).trans LV.o;have h2:=h1.aJ 4 (V (M ⟨g,0,U⟩) ks.len c2);rw[hW2];simpa using h2
  have hg2:W2.heap[g]? = w1.heap[g]?:=by rw[hW2];exact J1 _ _ _ _ (by show g≠w.heap.size+3;omega)
  have TF:∀ j,j<ks.len*5->W2.cell? ⟨g,j,U⟩=w.cell? ⟨bk,ok+j,U⟩:=λj hj=>(World.cell?_of_block hg2).trans ((g6 j hj).trans (HB0.o.cell (p:=⟨bk,ok+j,U⟩) aku))
  have hgf:∀ j,W2.frozen? ⟨g,j,U⟩=false:=λj=>(World.frozen?_of_block hg2).trans (g7 j)
  change Code.wp _ _ _ _ (w1.setCell ⟨w.heap.size+3,4,U⟩ (V (M ⟨g,0,U⟩) ks.len c2));rw[<-hW2];have hd2:Ix W2.heap.size W2 W2.drew:=(Jx _ _).drew;have hwd:Ix w.heap.size w W2.drew:=dR.drew;have hD:ak (W2.drew.cell? ⟨w.heap.size+3,4,U⟩=M (V (M ⟨g,0,U⟩) ks.len c2)/\W2.drew.cell? ⟨bA,oA,U⟩=M (I J (q:Int))/\W2.drew.cell? ⟨w.heap.size,4,U⟩=M (V (M ⟨bk,ok,U⟩) ks.len cap) /\
    W2.drew.cell? ⟨bk,ok+q*5,U⟩=M (I J uk)/\W2.drew.cell? ⟨bk,ok+q*5+1,U⟩=M (I J un)/\W2.drew.cell? ⟨bk,ok+q*5+2,U⟩=M (I J up)/\W2.drew.cell? ⟨bk,ok+q*5+3,U⟩=M (I J uc)/\W2.drew.cell? ⟨bk,ok+q*5+4,U⟩=M (V Ku us.len cu) /\
    W2.drew.cell? ⟨w.heap.size+1,0,U⟩=M (I J yk)/\W2.drew.cell? ⟨w.heap.size+1,1,U⟩=M (I J yn)/\W2.drew.cell? ⟨w.heap.size+1,2,U⟩=M (I J yp)/\W2.drew.cell? ⟨w.heap.size+1,3,U⟩=M (I J yc)/\W2.drew.cell? ⟨w.heap.size+1,4,U⟩=M (V Ky ys.len cy)):=
   ⟨by have:=k4.next hd2;rw[this.cell];rfl,aB abe hwd,by have:=k1.next hd2;rw[this.cell];rfl,aB e0 hwd,aB e1 hwd,aB e2 hwd,aB e3 hwd,aB e4 hwd,
       by have:=k2.next hd2;rw[this.cell];rfl,by have:=k2.next hd2;rw[this.cell];rfl,by have:=k2.next hd2;rw[this.cell];rfl,by have:=k2.next hd2;rw[this.cell];rfl,by have:=k2.next hd2;rw[this.cell];rfl⟩
  obtain⟨AA,hAA⟩:∃ AA:Option I3,(if pc=1 then M (⟨bA,oA,U⟩:I3) else M ⟨bA,oA+1,U⟩)=AA:=⟨_,rfl⟩
  have hle1:(1:Int)<=(path.length:Int)+1:=ah;have hA3:Ints w AA path:=λhn=>by
   rw[<-hAA,if_neg ah];exact HA2.o hn
  have HC:=aj (IH.o uk un up uc us Ku cu AA (pc - 1) ⟨yk,yn,yp,yc,ys⟩ Ky cy B z W2.drew ⟨bJ.below ⟨b2,o2,hKu,hku⟩ (hwd.mono hB),hcu,hmu⟩ ⟨HSY.o.below (hwd.mono hB),hcy,hmy⟩ (hA3.below hwd) ah ah (by have:=hwd.size;omega) (by have:=HUS.o;omega) HAT.o);have HGC:ak (∀ j,j<ks.len*5->W2.drew.cell? ⟨g,j,U⟩=w.cell? ⟨bk,ok+j,U⟩):=TF;have HGF:ak (∀ j,W2.drew.frozen? ⟨g,j,U⟩=false):=hgf
  have HK3:=aj (k3.next hd2);have BH:=aj (k4.next hd2);have Im:ak (w.heap.size+4<=W2.drew.heap.size):=by show _<=W2.heap.size;omega
  have HWD:=aj hwd;have HES:ak (w.cell? ⟨bk,ok+q*5,U⟩=M (I J uk)/\w.cell? ⟨bk,ok+q*5+1,U⟩=M (I J un)/\w.cell? ⟨bk,ok+q*5+2,U⟩=M (I J up)/\w.cell? ⟨bk,ok+q*5+3,U⟩=M (I J uc)/\w.cell? ⟨bk,ok+q*5+4,U⟩=M (V Ku us.len cu)):=⟨e0,e1,e2,e3,e4⟩
  have ahW:g<W2.drew.heap.size:=by show g<W2.heap.size;omega
  have amv:w.heap.size+4<=g:=ah;obtain⟨x,hx⟩:=aD (fT ⟨uk,un,up,uc,us⟩ ⟨yk,yn,yp,yc,ys⟩ path)
  rw[<-hx] at HC;have HRX:ak (∀ e w',pY B ⟨k,n,p,c,ks.put q x⟩ w e w'->pY B ⟨k,n,p,c,ks.put q (fT ⟨uk,un,up,uc,us⟩ ⟨yk,yn,yp,yc,ys⟩ path)⟩ w e w'):=λe w' h=>by rw[<-hx];exact h
  obtain⟨xk,xn,xp,xc,xs⟩:=x;clear hx g5 g6 g7 s4 sf r4 rf q4 dR aa8 k1 k2 k3 k4 TF hgf hd2 hwd e0 e1 e2 e3 e4 hku hKu hsz1 hs2 HA2 HSY hA3 HRP IU y7 DZ LV dI yY IH HAT abe hW2 hg2;refine aO.start (S:=λwx=>wx.cell? ⟨w.heap.size+3,4,U⟩=M (V (M ⟨g,0,U⟩) ks.len c2)/\wx.cell? ⟨bA,oA,U⟩=M (I J (q:Int))/\wx.cell? ⟨w.heap.size,4,U⟩=M (V (M ⟨bk,ok,U⟩) ks.len cap)/\wx.cell? ⟨bk,ok+q*5,U⟩=M (I J uk)/\wx.cell? ⟨bk,ok+q*5+1,U⟩=M (I J un)/\wx.cell? ⟨bk,ok+q*5+2,U⟩=M (I J up)/\wx.cell? ⟨bk,ok+q*5+3,U⟩=M (I J uc)/\wx.cell? ⟨bk,ok+q*5+4,U⟩=M (V Ku us.len cu)/\wx.cell? ⟨w.heap.size+1,0,U⟩=M (I J yk)/\wx.cell? ⟨w.heap.size+1,1,U⟩=M (I J yn)/\wx.cell? ⟨w.heap.size+1,2,U⟩=M (I J yp)/\wx.cell? ⟨w.heap.size+1,3,U⟩=M (I J yc)/\wx.cell? ⟨w.heap.size+1,4,U⟩=M (V Ky ys.len cy)) 17 aL aL ?xQ (λaA hB=>?_)
  case xQ=>((try dsimp only);exact hD.o)
  generalize W2.drew=wd at *
  iterate 15 (refine aO.tk hB aA ?_;try simp only[aP])
  refine aO.bU (i:=15) rfl bM aL (λK hK=>?_);go_simp
  go_at_call 78
  refine HC.o.mono ?_;rintro e w3 ⟨hb3,K',c3,rfl,hc3,hm3,hQ3⟩;refine hK.out _ _ (by (try dsimp only);exact⟨aB aA.1 hb3,aB aA.2.1 hb3,aB aA.2.2.1 hb3,aB aA.2.2.2.1 hb3,aB aA.2.2.2.2.1 hb3,aB aA.2.2.2.2.2.1 hb3,aB aA.2.2.2.2.2.2.1 hb3,aB aA.2.2.2.2.2.2.2.1 hb3,aB aA.2.2.2.2.2.2.2.2.1 hb3,aB aA.2.2.2.2.2.2.2.2.2.1 hb3,aB aA.2.2.2.2.2.2.2.2.2.2.1 hb3,aB aA.2.2.2.2.2.2.2.2.2.2.2.1 hb3,aB aA.2.2.2.2.2.2.2.2.2.2.2.2 hb3⟩) ?_;clear hK K aA;intro aA
  (try simp only[])
  have NI:∀ j,j<ks.len*5->w3.cell? ⟨g,j,U⟩=w.cell? ⟨bk,ok+j,U⟩:=λj hj=>(hb3.cell (p:=⟨g,j,U⟩) ahW).trans (HGC.o j hj)
  have RG:∀ j,w3.frozen? ⟨g,j,U⟩=false:=λj=>(hb3.frozen (p:=⟨g,j,U⟩) ahW).trans (HGF.o j)
  have l0:w3.cell? ⟨g,q*5,U⟩=M (I J uk):=(NI (q*5) ah).trans HES.o.1;have l1:w3.cell? ⟨g,q*5+1,U⟩=M (I J un):=(NI (q*5+1) ah).trans HES.o.2.1;have l2:w3.cell? ⟨g,q*5+2,U⟩=M (I J up):=(NI (q*5+2) ah).trans HES.o.2.2.1;have l3:w3.cell? ⟨g,q*5+3,U⟩=M (I J uc):=(NI (q*5+3) ah).trans HES.o.2.2.2.1;have l4:w3.cell? ⟨g,q*5+4,U⟩=M (V Ku us.len cu):=(NI (q*5+4) ah).trans HES.o.2.2.2.2
  have m0:=RG (q*5);have m1:=RG (q*5+1);have m2:=RG (q*5+2);have m3:=RG (q*5+3);have m4:=RG (q*5+4);have Pn:=aj (KE (k:=xk) (n:=xn) (p:=xp) (c:=xc) (v:=V K' xs.len c3) l0 l1 l2 l3 l4);have IY:ak (∀ j,j<ks.len*5->j<q*5∨(q+1)*5<=j->(cK w3 g (q*5) xk xn xp xc (V K' xs.len c3)).cell? ⟨g,j,U⟩=w.cell? ⟨bk,ok+j,U⟩):=λj hj h=>(DF ah).trans (NI j hj)
  have Te:ak (Ix w.heap.size w (cK w3 g (q*5) xk xn xp xc (V K' xs.len c3))):=bD _ _ _ _ _ (HWD.o.trans (hb3.mono HWD.o.size)) ah;have LV:ak (∀ r,r≠g->(cK w3 g (q*5) xk xn xp xc (V K' xs.len c3)).heap[r]? = w3.heap[r]?):=λr hr=>dN _ _ _ _ _ hr
  have IL:=aj hb3;have DZ:=aj hQ3
  (refine aO.tk hB aA ?_;try simp only[aP])
  clear NI RG hb3 hQ3;refine aO.gL rfl aL aL (λK hK=>?_);go_simp;refine hK.out _ _ ?_;clear hK K;change Exit.then _ _ _ _ (cK w3 g (q*5) xk xn xp xc (V K' xs.len c3));clear aA hB l0 l1 l2 l3 l4 m0 m1 m2 m3 m4 hD HC HGC HGF HES;generalize cK w3 g (q*5) xk xn xp xc (V K' xs.len c3)=W4 at *;have k4:au W4 (w.heap.size+3) 33 [I J k,I J n,I J p,I J c,V (M ⟨g,0,U⟩) ks.len c2]:=(LV.o _ ah).trans (BH.o.next IL.o)
  have hZ:au W4 (w.heap.size+2) 33 [I J 0,I J 0,I J 0,I J 0,V U 0 0]:=(LV.o _ ah).trans (HK3.o.next IL.o);have y0:W4.cell? ⟨w.heap.size+3,0,U⟩=M (I J k):=ay k4
  have y1:W4.cell? ⟨w.heap.size+3,1,U⟩=M (I J n):=ay k4
  have y2:W4.cell? ⟨w.heap.size+3,2,U⟩=M (I J p):=ay k4
  have y3:W4.cell? ⟨w.heap.size+3,3,U⟩=M (I J c):=ay k4
  have y4:W4.cell? ⟨w.heap.size+3,4,U⟩=M (V (M ⟨g,0,U⟩) ks.len c2):=ay k4
  have uj0:W4.cell? ⟨w.heap.size+2,0,U⟩=M (I J 0):=ay hZ
  have ug0:W4.frozen? ⟨w.heap.size+2,0,U⟩=false:=hZ.frozen _;have uj1:W4.cell? ⟨w.heap.size+2,1,U⟩=M (I J 0):=ay hZ
  have ug1:W4.frozen? ⟨w.heap.size+2,1,U⟩=false:=hZ.frozen _;have uj2:W4.cell? ⟨w.heap.size+2,2,U⟩=M (I J 0):=ay hZ
  have ug2:W4.frozen? ⟨w.heap.size+2,2,U⟩=false:=hZ.frozen _;have uj3:W4.cell? ⟨w.heap.size+2,3,U⟩=M (I J 0):=ay hZ
  have ug3:W4.frozen? ⟨w.heap.size+2,3,U⟩=false:=hZ.frozen _;have uj4:W4.cell? ⟨w.heap.size+2,4,U⟩=M (V U 0 0):=ay hZ
  have ug4:W4.frozen? ⟨w.heap.size+2,4,U⟩=false:=hZ.frozen _;have ud0:=hZ;have ud1:=ud0.aJ 0 (I J k);have ud2:=ud1.aJ 1 (I J n);have ud3:=ud2.aJ 2 (I J p);have ud4:=ud3.aJ 3 (I J c);have ud5:=ud4.aJ 4 (V (M ⟨g,0,U⟩) ks.len c2);have ux0:=ud1.cell 0;have ux1:=ud2.cell 1;have ux2:=ud3.cell 2;have ux3:=ud4.cell 3;have ux4:=ud5.cell 4;simp only[eY] at ux0 ux1 ux2 ux3 ux4
  clear ud0 ud1 ud2 ud3 ud4 ud5;have HP:ak (pY B ⟨k,n,p,c,ks.put q ⟨xk,xn,xp,xc,xs⟩⟩ w (If (exV k n p c (M ⟨g,0,U⟩) ks.len c2)) (cK W4 (w.heap.size+2) 0 k n p c (V (M ⟨g,0,U⟩) ks.len c2))):=by
   have hf:∀ r,r≠w.heap.size+2->(cK W4 (w.heap.size+2) 0 k n p c (V (M ⟨g,0,U⟩) ks.len c2)).heap[r]? = W4.heap[r]?:=λr hr=>dN _ _ _ _ _ hr
   have hfg:∀ j,(cK W4 (w.heap.size+2) 0 k n p c (V (M ⟨g,0,U⟩) ks.len c2)).cell? ⟨g,j,U⟩=W4.cell? ⟨g,j,U⟩:=λj=>World.cell?_of_block (hf g ah)
   have hb5:Ix w.heap.size w (cK W4 (w.heap.size+2) 0 k n p c (V (M ⟨g,0,U⟩) ks.len c2)):=bD _ _ _ _ _ Te.o ah;have GN:=Pn.o;have hrb:=Im.o;refine⟨hb5,M ⟨g,0,U⟩,c2,by simp only[Es.Hf],by simp only[Es.Hf];exact g1,g2,g,0,λ_=>rfl, ?_⟩;refine Yd (w1:=w) (B:=B) (b:=bk) (o:=ok) (K:=K') (cap:=c3) (λr hr=>hb5.block r ah) (λr hr=>.inl hr) (.inr ah) gI.o hq (λj hj h=>?_) ?_ ?_ ?_ ?_ ?_ hc3 hm3 ?_
   ·rw[Mu];exact (hfg j).trans (IY.o j hj h)
   ·rw[Mu];exact (hfg _).trans GN.1
   ·rw[Mu];exact (hfg _).trans GN.2.1
   ·rw[Mu];exact (hfg _).trans GN.2.2.1
   ·rw[Mu];exact (hfg _).trans GN.2.2.2.1
   ·rw[Mu];exact (hfg _).trans GN.2.2.2.2
   ·exact DZ.o.keep (λr hr=>by rcases hr with h | h;exact .inl h;exact .inr ah) (λr hr=>(hf r ah).trans (LV.o r ah))
  clear k4 hZ Pn IY DZ Te IL LV HK3 BH gI;go_wp2;refine bodyPost_ret (v:=exV k n p c (M ⟨g,0,U⟩) ks.len c2) (by simp[results,results78,go_sem,ux0,ux1,ux2,ux3,ux4]) rfl ?_;exact HRX.o _ _ HP.o
theorem BG{P:Program}{kt:TypeId}{ops:Array Oper}{rest:List Oper}{o:Oper}{a:Act}{Q:Exit->Act->Iv->Prop}(hg:o.guard=U)(it:Operand)(hop:o.op=Op.next it false)(K:Maps.Keyed P kt)
  (hk:P.underlying kt=M (.int .i64)) (b r n B:Nat) (D:DataW I1) (σ:Sub) (left:Lit->Bool) (cnt:Nat) (hit:a.eval it=.pointer (M ⟨r,0,U⟩)) (h:w.ranges P kt Hg b r n D left cnt) (hD:zA w B D σ)
  (hDone:(∀ kl,left kl=false)->wpList P ops Q rest (a.put o.dst (.tuple #[.bool false])) w)
  (YI:∀ (i:Nat) (y:Nd) (K:Option I3) (cap:Nat) (w':Iv) (Gg:Nat),σ[i]? = M (M y)->dO w B y K cap->w'.ranges P kt Hg b r n D (λz=>left z&&!z.sameKey (.int .i64 (i:Int))) Gg->Gg<cnt ->
   w.grownBy w' (M r)->w'.heap.size=w.heap.size->(Instr.entry (.pointer (M ⟨r,0,U⟩))).run P w'=.ok (.tuple #[.int .i64 (i:Int),exV y.k y.n y.p y.c K y.ks.len cap]) w'->wpList P ops Q rest (a.put o.dst (.tuple #[.bool true,.int .i64 (i:Int),exV y.k y.n y.p y.c K y.ks.len cap])) w') :
  wpList P ops Q (o :: rest) a w:=
 wpList_next_ranges w hg it hop kt K Hg (Value.int .i64) (λv:I1=>v) (λkey kl hkey=>by obtain⟨x,rfl,_⟩:=Maps.keyOf_int_inv hk hkey;exact⟨x,rfl⟩) (λv y _=>⟨v,rfl⟩) b r n D left cnt hit h (λ_=>hDone)
  (λx v kl y w' Gg hkey _ hy hat Y6 hlt hg1 hs1 hen=>by
   obtain⟨x',ex,rfl,hwx⟩:=Maps.keyOf_int_inv hk hkey;cases ex;obtain⟨-,rfl⟩:=uR hy;obtain⟨i,z,hi,e⟩:=hD.keys _ (Maps.has_true_of_atKey hat);injection e with _ e
   subst e;obtain⟨K1,c1,h1,h2,h3,h4⟩:=hD.at_ i z hi;have e1:=(hat (.lit (.bool true))).symm.trans (h1 (.lit (.bool true)));injection e1 with e1
   subst e1;exact YI i z K1 c1 w' Gg hi ⟨h2,h3,h4⟩ Y6 hlt hg1 hs1 hen)
theorem sK{r:Nat}(h:w.grownBy w' (M r))(hr:B<=r)(hB:B<=w.heap.size):Ix B w w':=⟨h.os,h.tape,h.output,h.size,λk hk=>h.block k ah (λe=>by injection e with e;omega)⟩
variable{r:Nd}{σ:Sub}{i:Nat}
theorem RS{y:Nd}(h:σ[i]? = M (M y)):fM r σ i=(!r.iL.contains (i:Int)&&!y.total):=by
 unfold fM;rw[List.getD_eq_getElem?_getD,h];rfl
theorem J6(h:∀ y,σ[i]?≠M (M y)):fM r σ i=false:=by
 unfold fM;rw[List.getD_eq_getElem?_getD];cases h2:σ[i]? with
 | none=>rfl
 | some z=>
  cases z with
  | none=>rfl
  | some y=>exact absurd h2 (h y)
theorem OJ(w:Iv)(B:Nat)(v:Int):zA w B (.map []) (h_ v):=by
 refine⟨⟨[],rfl⟩,λi x h=>?_,λkl h=>by simp[Maps.has] at h⟩;unfold h_ at h;rw[List.getElem?_replicate] at h;split at h<;>simp at h
theorem EB(v:Int)(l r x:Nd)(KL KR Kx:Option I3)(cl cr cx B:Nat)(w:Iv)(hL:dO w B l KL cl)(hR:dO w B r KR cr)(hX:dO w B x Kx cx)(hB:B<=w.heap.size)(dh:eF v l r=true)(hz:x.size<=999999) :
  I0 Tryz.prog 76 #[rZ v l KL cl r KR cr,exV x.k x.n x.p x.c Kx x.ks.len cx] w (fO (jY v l r x).1 (jY v l r x).2 w):=by
 have hmm:=@run_makeMap Tryz.prog;have law:Maps.Keyed Tryz.prog 2:=Maps.int_keyed underlying2;obtain⟨v0,v3,hsl,yU⟩:=jB dh;obtain⟨l1,l2,l3,l4,l5⟩:=cZ hsl;obtain⟨r1,r2,r3,r4,r5⟩:=cZ yU;have hlen:(h_ v).length=v.toNat:=by simp[h_]
 have ahL:cl<=9223372036854775807:=by have:=hL.cap;unfold I2 at this;omega
 have ahN:cr<=9223372036854775807:=by have:=hR.cap;unfold I2 at this;omega
 have akE:cx<=9223372036854775807:=by have:=hX.cap;unfold I2 at this;omega
 have hxl:x.ks.len<=9223372036854775807:=by have:=hX.len;omega
 have hll:l.ks.len<=9223372036854775807:=by have:=hL.len;omega
 have hrl:r.ks.len<=9223372036854775807:=by have:=hR.len;omega
 obtain⟨W0,aZ⟩:=aD ((((w.alloc (Is #[.int .i64 v,.int .i64 l.k,.int .i64 l.n,.int .i64 l.p,.int .i64 l.c,V KL l.ks.len cl,.int .i64 r.k,.int .i64 r.n,.int .i64 r.p,.int .i64 r.c,V KR r.ks.len cr] 35)).alloc (Is #[.int .i64 x.k,.int .i64 x.n,.int .i64 x.p,.int .i64 x.c,V Kx x.ks.len cx] 33)).alloc (Is #[.int .i64 0,.int .i64 0,.int .i64 0,.int .i64 0,V U 0 0] 33)).alloc (.map #[] 0))
 have hb0:Ix w.heap.size w W0:=by rw[aZ];go_grown
 obtain⟨X1,hX1⟩:=aD (w.alloc (Is #[.int .i64 v,.int .i64 l.k,.int .i64 l.n,.int .i64 l.p,.int .i64 l.c,V KL l.ks.len cl,.int .i64 r.k,.int .i64 r.n,.int .i64 r.p,.int .i64 r.c,V KR r.ks.len cr] 35))
 obtain⟨X2,hX2⟩:=aD (X1.alloc (Is #[.int .i64 x.k,.int .i64 x.n,.int .i64 x.p,.int .i64 x.c,V Kx x.ks.len cx] 33))
 obtain⟨X3,CU⟩:=aD (X2.alloc (Is #[.int .i64 0,.int .i64 0,.int .i64 0,.int .i64 0,V U 0 0] 33))
 have z1:X1.heap.size=w.heap.size+1:=by rw[hX1];simp
 have z2:X2.heap.size=w.heap.size+2:=by rw[hX2];simp[z1]
 have z3:X3.heap.size=w.heap.size+3:=by rw[CU];simp[z2]
 have jw:W0=X3.alloc (.map #[] 0):=by rw[aZ,CU,hX2,hX1]
 have hs0:W0.heap.size=w.heap.size+4:=by rw[jw];simp[z3]
 have hb3:Ix X3.heap.size X3 W0:=by rw[jw];go_grown
 have hb2:Ix X2.heap.size X2 X3:=by rw[CU];go_grown
 have hb1:Ix X1.heap.size X1 X2:=by rw[hX2];go_grown
 have hq1:au W0 w.heap.size 35 [.int .i64 v,.int .i64 l.k,.int .i64 l.n,.int .i64 l.p,.int .i64 l.c,V KL l.ks.len cl,.int .i64 r.k,.int .i64 r.n,.int .i64 r.p,.int .i64 r.c,V KR r.ks.len cr]:=by
  have h:au X1 w.heap.size 35 [.int .i64 v,.int .i64 l.k,.int .i64 l.n,.int .i64 l.p,.int .i64 l.c,V KL l.ks.len cl,.int .i64 r.k,.int .i64 r.n,.int .i64 r.p,.int .i64 r.c,V KR r.ks.len cr]:=by rw[hX1];exact au.new w 35 _
  exact ((h.next hb1).next hb2).next hb3
 have hq2:au W0 (w.heap.size+1) 33 [.int .i64 x.k,.int .i64 x.n,.int .i64 x.p,.int .i64 x.c,V Kx x.ks.len cx]:=by
  have h:au X2 (w.heap.size+1) 33 [.int .i64 x.k,.int .i64 x.n,.int .i64 x.p,.int .i64 x.c,V Kx x.ks.len cx]:=by rw[hX2,<-z1];exact au.new X1 33 _
  exact (h.next hb2).next hb3
 have hq3:au W0 (w.heap.size+2) 33 [.int .i64 0,.int .i64 0,.int .i64 0,.int .i64 0,V U 0 0]:=by
  have h:au X3 (w.heap.size+2) 33 [.int .i64 0,.int .i64 0,.int .i64 0,.int .i64 0,V U 0 0]:=by rw[CU,<-z2];exact au.new X2 33 _
  exact h.next hb3
 have hM:wL W0 B (w.heap.size+3) 0 (h_ v):=by
  refine⟨.map [], ?_,OJ W0 B v⟩;rw[jw,<-z3];exact World.ownsMap_made (H:=I1) X3 Tryz.prog 2 Hg
 have hF:=Yy (l.ks.size+1) l.ks ah l.k l.n l.p l.c KL cl x.k x.n x.p x.c x.ks Kx cx B (w.heap.size+3) 0 (h_ v) W0 (hL.sl.below (hb0.mono hB)) hL.len hL.cap (hX.sl.below (hb0.mono hB)) hX.len hX.cap ah ah (by unfold Nd.size at hz;omega) hM ah (by rw[hlen];exact H6 hsl) (uV v _) (by rw[hlen];omega);have q0:W0.cell? ⟨w.heap.size+1,0,U⟩=M (.int .i64 x.k):=ay hq2
 have q1:W0.cell? ⟨w.heap.size+1,1,U⟩=M (.int .i64 x.n):=ay hq2
 have q2:W0.cell? ⟨w.heap.size+1,2,U⟩=M (.int .i64 x.p):=ay hq2
 have q3:W0.cell? ⟨w.heap.size+1,3,U⟩=M (.int .i64 x.c):=ay hq2
 have q4:W0.cell? ⟨w.heap.size+1,4,U⟩=M (V Kx x.ks.len cx):=ay hq2
 have c1:W0.cell? ⟨w.heap.size,1,U⟩=M (.int .i64 l.k):=ay hq1
 have c2:W0.cell? ⟨w.heap.size,2,U⟩=M (.int .i64 l.n):=ay hq1
 have c3:W0.cell? ⟨w.heap.size,3,U⟩=M (.int .i64 l.p):=ay hq1
 have c4:W0.cell? ⟨w.heap.size,4,U⟩=M (.int .i64 l.c):=ay hq1
 have c5:W0.cell? ⟨w.heap.size,5,U⟩=M (V KL l.ks.len cl):=ay hq1
 have HF:=aj hF;have dI:=aj aZ;have HB0:=aj hb0;have IU:=aj hq1;have DZ:=aj hq3;have gQ:=aj hs0;have Ed:ak (r.ks.size<=39/\r.plain=true/\formed [] 0 v r=true/\Lg v.toNat r=true/\0<=v/\v<=3):=⟨r1,r2,r3,H6 yU,v0,v3⟩
 have HR:ak (dO W0 B r KR cr):=hR.below (hb0.mono hB);obtain⟨rv,GK⟩:=aD (jY v l r x)
 rw[<-GK];have m_:=aj GK;have HZ:=aj hz;clear hF aZ hb0 hq1 hq2 hq3 hs0 hX1 hX2 CU hb1 hb2 hb3 jw z1 z2 z3 hL hR hX dh hsl yU hM GK l1 l2 l3 l4 l5 r1 r2 r3 r4 r5 hz;cases ho:jP l x (h_ v) with
 | none=>
  have ho':jP ⟨l.k,l.n,l.p,l.c,l.ks⟩ ⟨x.k,x.n,x.p,x.c,x.ks⟩ (h_ v)=U:=ho;rw[ho'] at HF;have HV:ak (rv=(jK,9)):=by show _=_;rw[m_.o];exact FI ho
  clear ho ho' HR m_;go_enter func76,ntmps76;go_upto_region 2 with fail;rw[<-dI.o];go_wp2_with fail;refine HF.o.mono ?_;rintro e w1 ⟨rfl,ho1,_⟩;have hZ:au w1 (w.heap.size+2) 33 [.int .i64 0,.int .i64 0,.int .i64 0,.int .i64 0,V U 0 0]:=(ho1.block _ (by have:=gQ.o;omega) (by show ¬ w.heap.size+2=w.heap.size+3;omega)).trans DZ.o;have hbw:Ix w.heap.size w w1:=HB0.o.trans (ho1.below (by have:=gQ.o;omega) (λq hq=>ah))
  have j0:w1.cell? ⟨w.heap.size+2,0,U⟩=M (.int .i64 0):=ay hZ
  have g0:w1.frozen? ⟨w.heap.size+2,0,U⟩=false:=hZ.frozen _;have j1:w1.cell? ⟨w.heap.size+2,1,U⟩=M (.int .i64 0):=ay hZ
  have g1:w1.frozen? ⟨w.heap.size+2,1,U⟩=false:=hZ.frozen _;have j2:w1.cell? ⟨w.heap.size+2,2,U⟩=M (.int .i64 0):=ay hZ
  have g2:w1.frozen? ⟨w.heap.size+2,2,U⟩=false:=hZ.frozen _;have j3:w1.cell? ⟨w.heap.size+2,3,U⟩=M (.int .i64 0):=ay hZ
  have g3:w1.frozen? ⟨w.heap.size+2,3,U⟩=false:=hZ.frozen _;have j4:w1.cell? ⟨w.heap.size+2,4,U⟩=M (V U 0 0):=ay hZ
  have g4:w1.frozen? ⟨w.heap.size+2,4,U⟩=false:=hZ.frozen _;have d0:=hZ;have d1:=d0.aJ 0 (.int .i64 0);have d2:=d1.aJ 1 (.int .i64 0);have d3:=d2.aJ 2 (.int .i64 0);have d4:=d3.aJ 3 (.int .i64 0);have d5:=d4.aJ 4 (V U 0 0);have x0:=d1.cell 0;have x1:=d2.cell 1;have x2:=d3.cell 2;have x3:=d4.cell 3;have x4:=d5.cell 4;simp only[eY] at x0 x1 x2 x3 x4
  clear d0 d1 d2 d3 d4 d5;have HP:ak (fO jK 9 w (If (.tuple #[exV 0 0 0 0 U 0 0,.int .i64 9])) (cK w1 (w.heap.size+2) 0 0 0 0 0 (V U 0 0))):=
   ⟨bD _ _ _ _ _ hbw ah,U,0,rfl,Jn _,Nat.zero_le _,(b_.nil U _ (by rw[bN];exact hbw.size)).reg⟩
  clear hZ hbw ho1 c1 c2 c3 c4 c5 q0 q1 q2 q3 q4;go_wp2;refine bodyPost_ret (v:=.tuple #[exV 0 0 0 0 U 0 0,.int .i64 9]) (by simp[results,results76,go_sem,x0,x1,x2,x3,x4]) rfl ?_;rw[HV.o];exact HP.o
 | some σ=>
  have ho':jP ⟨l.k,l.n,l.p,l.c,l.ks⟩ ⟨x.k,x.n,x.p,x.c,x.ks⟩ (h_ v)=M σ:=ho;rw[ho'] at HF;have Pk:ak (σ.length=v.toNat/\σ.bd 1000000):=⟨by rw[(qo ho).1,hlen],xY ho (uV v _) (by have:=HZ.o;omega)⟩
  have HVL:ak (lost r σ=true->rv=(jK,4)):=λh=>by rw[m_.o];exact FH ho h
  have HVO:ak (lost r σ=false->rv=(iQ σ r,0)):=λh=>by rw[m_.o];exact Qm ho h
  clear ho ho' m_ HZ;go_enter func76,ntmps76;go_upto_region 2 with fail;rw[<-dI.o];go_wp2_with fail;refine HF.o.mono ?_;rintro e w1 ⟨rfl,ho1,wW⟩;obtain⟨n1,hn1,D,AP,hD1⟩:=wW σ rfl;clear wW;have lD:Ix B W0 w1:=ho1.below (by have:=gQ.o;omega) (λq hq=>ah);have hq1:au w1 w.heap.size 35 [.int .i64 v,.int .i64 l.k,.int .i64 l.n,.int .i64 l.p,.int .i64 l.c,V KL l.ks.len cl,.int .i64 r.k,.int .i64 r.n,.int .i64 r.p,.int .i64 r.c,V KR r.ks.len cr]:=(ho1.block _ (by have:=gQ.o;omega) (by show ¬ w.heap.size=w.heap.size+3;omega)).trans IU.o
  have HZ1:ak (au w1 (w.heap.size+2) 33 [.int .i64 0,.int .i64 0,.int .i64 0,.int .i64 0,V U 0 0]):=(ho1.block _ (by have:=gQ.o;omega) (by show ¬ w.heap.size+2=w.heap.size+3;omega)).trans DZ.o;have ajh:ak (Ix w.heap.size w w1):=HB0.o.trans (ho1.below (by have:=gQ.o;omega) (λq hq=>ah));have qL:ak (dO w1 B r KR cr):=HR.o.below lD;have eu:ak (w.heap.size+4<=w1.heap.size):=by have:=ho1.size;have:=gQ.o;show _<=_;omega
  have HOC:=aj (pQ r KR cr B v w1 qL.o.sl qL.o.len qL.o.cap (by have:=eu.o;omega) Ed.o.1 Ed.o.2.1 Ed.o.2.2.1 Ed.o.2.2.2.2.1 (by have:=Ed.o;omega));have HD1:=aj hD1;have dZ:=aj AP;clear c1 c2 c3 c4 c5 q0 q1 q2 q3 q4 ho1 lD hD1 AP HR;have c0:w1.cell? ⟨w.heap.size,0,U⟩=M (.int .i64 v):=ay hq1
  have c6:w1.cell? ⟨w.heap.size,6,U⟩=M (.int .i64 r.k):=ay hq1
  have c7:w1.cell? ⟨w.heap.size,7,U⟩=M (.int .i64 r.n):=ay hq1
  have c8:w1.cell? ⟨w.heap.size,8,U⟩=M (.int .i64 r.p):=ay hq1
  have c9:w1.cell? ⟨w.heap.size,9,U⟩=M (.int .i64 r.c):=ay hq1
  have c10:w1.cell? ⟨w.heap.size,10,U⟩=M (V KR r.ks.len cr):=ay hq1
  have aaD:=aj hq1;clear hq1;go_wp2_with fail;refine HOC.o.mono ?_;rintro e w2 ⟨A,cpo,rfl,hints,hb2⟩;have hown2:=dZ.o.kept (below_grown hb2) (by simp);have hsz2:=hb2.size;go_wp2_with (first
   | (at_range;refine wpList_range_own _ rfl _ 210 rfl 2 33 law underlying210 _ (w.heap.size+3) n1 _ rfl hown2 ?_;intro w3 RL hg0 hs0)
   | go_in)
  go_frame
  have hb3:Ix w2.heap.size w2 w3:=⟨hg0.os,hg0.tape,hg0.output,ah,λk hk=>hg0.block k ah (by simp)⟩
  have FQ:ak (Ix w1.heap.size w1 w3):=hb2.trans (hb3.mono hsz2);have HI3:ak (Ints w3 A r.iL):=hints.below hb3;have IQ:ak (r.iL.length<=12):=yJ Ed.o.2.1 Ed.o.2.2.1 Ed.o.2.2.2.2.1 (by have:=Ed.o;omega);have HMK:ak (w1.heap.size<=w2.heap.size/\w2.heap.size<w3.heap.size):=⟨hsz2,ah⟩
  obtain⟨it,hit⟩:=aD w2.heap.size
  rw[<-hit] at RL HMK ⊢;have aie:=aj RL;clear hb3 hg0 hs0 hb2 hown2 hints hsz2 hit HOC dZ c0 c6 c7 c8 c9 c10
  go_loopw [8] (λ_ wr=>∃ (left:Lit->Bool) (cnt:Nat),wr.ranges Tryz.prog 2 Hg (w.heap.size+3) it n1 D left cnt/\ak (aC (λq=>q=it) w3 wr)/\ak (∀ i:Nat,left (.int .i64 (i:Int))=false->fM r σ i=false)) (λ_ wr=>wr.rangeLeft (w.heap.size+3) it)
  case atStart=>
   refine⟨Maps.has D,Maps.size D,RL,aC.refl _ _,λi hi=>J6 λy hy=>?_⟩;obtain⟨K1,c1,h1,_⟩:=HD1.o.at_ i y hy;rw[Maps.has_true_of_atKey h1] at hi;cases hi
  case round=>
   obtain⟨left,cnt,hrg,HO,HLF⟩:=hrel;clear RL;have amP:=HO.o.size;have hBr:Ix B w1 wr:=(FQ.o.mono (by have:=eu.o;omega)).trans (HO.o.below (by have:=FQ.o.size;have:=eu.o;omega) (λq hq=>by have:=HMK.o;have:=eu.o;omega));have hDr:=HD1.o.below hBr;have vQ:=aj hBr;have HWR:ak (Ix w.heap.size w wr):=(ajh.o.trans (FQ.o.mono (by have:=eu.o;omega))).trans (HO.o.below (by have:=FQ.o.size;have:=eu.o;omega) (λq hq=>by have:=HMK.o;have:=eu.o;omega))
   have hkeep:∀ q,q<w1.heap.size->wr.heap[q]? = w1.heap[q]?:=λq hq=>(HO.o.block q (by have:=FQ.o.size;omega) (λe=>by have:=HMK.o;omega)).trans (FQ.o.block q hq)
   have HZr:ak (au wr (w.heap.size+2) 33 [.int .i64 0,.int .i64 0,.int .i64 0,.int .i64 0,V U 0 0]):=(hkeep _ (by have:=eu.o;omega)).trans HZ1.o;have Vy:ak (au wr w.heap.size 35 [.int .i64 v,.int .i64 l.k,.int .i64 l.n,.int .i64 l.p,.int .i64 l.c,V KL l.ks.len cl,.int .i64 r.k,.int .i64 r.n,.int .i64 r.p,.int .i64 r.c,V KR r.ks.len cr]):=(hkeep _ (by have:=eu.o;omega)).trans aaD.o
   have HIr:ak (Ints wr A r.iL):=HI3.o.only HO.o (λq hq i=>by
    have hq:q=it:=hq;subst hq;obtain⟨_,_,_,_,_,_,_,_,_,hr,_⟩:=aie.o;simp[World.cell?,hr])
   have HSM:ak (wL wr B (w.heap.size+3) n1 σ):=⟨D,hrg.owns,hDr⟩
   go_wp2_with (first
    | (at_next;refine BG rfl _ rfl law underlying2 (w.heap.size+3) it n1 B D σ left cnt rfl hrg hDr ?_ ?_)
    | go_in)
   ·intro hl0
    have HV:ak (rv=(iQ σ r,0)):=HVO.o (Dh λi=>HLF.o i (hl0 _));have c6:wr.cell? ⟨w.heap.size,6,U⟩=M (.int .i64 r.k):=ay Vy.o
    have c7:wr.cell? ⟨w.heap.size,7,U⟩=M (.int .i64 r.n):=ay Vy.o
    have c8:wr.cell? ⟨w.heap.size,8,U⟩=M (.int .i64 r.p):=ay Vy.o
    have c9:wr.cell? ⟨w.heap.size,9,U⟩=M (.int .i64 r.c):=ay Vy.o
    have c10:wr.cell? ⟨w.heap.size,10,U⟩=M (V KR r.ks.len cr):=ay Vy.o
    have HFI:=aj (Nj (r.ks.size+1) r.ks ah r.k r.n r.p r.c KR cr B (w.heap.size+3) n1 σ wr (qL.o.sl.below vQ.o) qL.o.len qL.o.cap (by have:=HWR.o.size;omega) (by have:=Ed.o;omega) HSM.o (by rw[Pk.o.1];exact Ed.o.2.2.2.1) Pk.o.2 (by rw[Pk.o.1];omega));obtain⟨y,hy⟩:=aD (iQ σ r)
    have aeJ:ak (I0 Tryz.prog 157 #[exV r.k r.n r.p r.c KR r.ks.len cr,.map (M (w.heap.size+3))] wr (jH y wr)):=by rw[hy];exact HFI.o
    rw[<-hy] at HV;obtain⟨yk,yn,yp,yc,ys⟩:=y;clear hy HFI hl0 hrg hBr hDr hkeep HSM HIr Vy vQ aaD qL HLF HVL HVO HF;go_wp2_with fail;refine aeJ.o.mono ?_;rintro e w5 ⟨hb5,K5,c5,rfl,hc5,hm5,hT5⟩;simp only at hc5 hT5;have hZ:au w5 (w.heap.size+2) 33 [.int .i64 0,.int .i64 0,.int .i64 0,.int .i64 0,V U 0 0]:=HZr.o.next hb5;have hbw:Ix w.heap.size w w5:=HWR.o.trans (hb5.mono HWR.o.size)
    have j0:w5.cell? ⟨w.heap.size+2,0,U⟩=M (.int .i64 0):=ay hZ
    have g0:w5.frozen? ⟨w.heap.size+2,0,U⟩=false:=hZ.frozen _;have j1:w5.cell? ⟨w.heap.size+2,1,U⟩=M (.int .i64 0):=ay hZ
    have g1:w5.frozen? ⟨w.heap.size+2,1,U⟩=false:=hZ.frozen _;have j2:w5.cell? ⟨w.heap.size+2,2,U⟩=M (.int .i64 0):=ay hZ
    have g2:w5.frozen? ⟨w.heap.size+2,2,U⟩=false:=hZ.frozen _;have j3:w5.cell? ⟨w.heap.size+2,3,U⟩=M (.int .i64 0):=ay hZ
    have g3:w5.frozen? ⟨w.heap.size+2,3,U⟩=false:=hZ.frozen _;have j4:w5.cell? ⟨w.heap.size+2,4,U⟩=M (V U 0 0):=ay hZ
    have g4:w5.frozen? ⟨w.heap.size+2,4,U⟩=false:=hZ.frozen _;have d0:=hZ;have d1:=d0.aJ 0 (.int .i64 yk);have d2:=d1.aJ 1 (.int .i64 yn);have d3:=d2.aJ 2 (.int .i64 yp);have d4:=d3.aJ 3 (.int .i64 yc);have d5:=d4.aJ 4 (V K5 ys.len c5);have x0:=d1.cell 0;have x1:=d2.cell 1;have x2:=d3.cell 2;have x3:=d4.cell 3;have x4:=d5.cell 4;simp only[eY] at x0 x1 x2 x3 x4
    clear d0 d1 d2 d3 d4 d5;have HP:ak (fO ⟨yk,yn,yp,yc,ys⟩ 0 w (If (.tuple #[exV yk yn yp yc K5 ys.len c5,.int .i64 0])) (cK w5 (w.heap.size+2) 0 yk yn yp yc (V K5 ys.len c5))):=by
     have hw4:w.heap.size+4<=wr.heap.size:=by have:=eu.o;have:=FQ.o.size;omega
     have ht:b_ w.heap.size (cK w5 (w.heap.size+2) 0 yk yn yp yc (V K5 ys.len c5)).heap.size ys K5 (cK w5 (w.heap.size+2) 0 yk yn yp yc (V K5 ys.len c5)):=by
      rw[bN];exact (hT5.keep (λq q1 q2=>dN _ _ _ _ _ ah)).wide ah (Jn _)
     exact⟨bD _ _ _ _ _ hbw ah,K5,c5,rfl,hc5,hm5,ht.reg⟩
    clear hZ hbw hb5 hT5 c6 c7 c8 c9 c10;go_wp2;refine bodyPost_ret (v:=.tuple #[exV yk yn yp yc K5 ys.len c5,.int .i64 0]) (by simp[results,results76,go_sem,x0,x1,x2,x3,x4]) rfl ?_;rw[HV.o];exact HP.o
   ·intro i y Ky cy w4 ahk hi hy aih abl hg4 hs4 hen
    have hLA:=RS (r:=r) hi;have hys:y.size<=1000000:=Pk.o.2 i y hi;obtain⟨yk,yn,yp,yc,ys⟩:=y;obtain⟨hsy,hcy,hmy⟩:=hy;simp only at hsy hcy hen;have hyl:ys.len<=9223372036854775807:=by unfold I2 at hmy;omega
    have hyc:cy<=9223372036854775807:=by unfold I2 at hmy;omega
    have amy:w1.heap.size<=it:=HMK.o.1;have akW:it<wr.heap.size:=by have:=HMK.o;omega
    have hB4:Ix B wr w4:=sK hg4 (by have:=eu.o;omega) (by have:=HWR.o.size;omega);have hO4:aC (λq=>q=it) w3 w4:=HO.o.trans (qW hg4);have hI4:Ints w4 A r.iL:=HIr.o.only (qW hg4) (λq hq i=>by
     have hq:q=it:=hq;subst hq;obtain⟨_,_,_,_,_,_,_,_,_,hr,_⟩:=hrg;simp[World.cell?,hr])
    have fU:Ix w4.heap.size w4 (w4.alloc (Is #[.int .i64 yk,.int .i64 yn,.int .i64 yp,.int .i64 yc,V Ky ys.len cy] 33)):=aV;have aii:=aih.alloc (Is #[.int .i64 yk,.int .i64 yn,.int .i64 yp,.int .i64 yc,V Ky ys.len cy] 33);have LD:=aj (pF A cpo r.iL (i:Int) _ (hI4.below fU) (by have:=IQ.o;omega));have HTO:=aj (Ta (ys.size+1) ys ah yk yn yp yc Ky cy B _ ((hsy.below hB4).below (fU.mono (by have:=HWR.o.size;omega))) hcy hmy (by have:=HWR.o.size;have:=fU.size;omega) (by unfold Nd.size at hys;simp only at hys;omega))
    have HO5:ak (aC (λq=>q=it) w3 (w4.alloc (Is #[.int .i64 yk,.int .i64 yn,.int .i64 yp,.int .i64 yc,V Ky ys.len cy] 33))):=hO4.trans (aC.of_below fU);have HZ5:ak (au (w4.alloc (Is #[.int .i64 yk,.int .i64 yn,.int .i64 yp,.int .i64 yc,V Ky ys.len cy] 33)) (w.heap.size+2) 33 [.int .i64 0,.int .i64 0,.int .i64 0,.int .i64 0,V U 0 0]):=au.next ((hg4.block _ (by have:=eu.o;omega) (λe=>by injection e with e;have:=eu.o;omega)).trans HZr.o) fU
    have HW5:ak (Ix w.heap.size w (w4.alloc (Is #[.int .i64 yk,.int .i64 yn,.int .i64 yp,.int .i64 yc,V Ky ys.len cy] 33))):=(HWR.o.trans (sK hg4 (by have:=eu.o;omega) HWR.o.size)).trans (fU.mono (by have:=HWR.o.size;omega));have aaE:=aj aii;have HRG:=aj hrg;have LK:=aj abl;have HI:=aj hi;have hkb:=au.new w4 33 [.int .i64 yk,.int .i64 yn,.int .i64 yp,.int .i64 yc,V Ky ys.len cy]
    have P9:(w4.alloc (Is #[.int .i64 yk,.int .i64 yn,.int .i64 yp,.int .i64 yc,V Ky ys.len cy] 33)).cell? ⟨w4.heap.size,0,U⟩=M (.int .i64 yk):=hkb.cell 0;have P_:(w4.alloc (Is #[.int .i64 yk,.int .i64 yn,.int .i64 yp,.int .i64 yc,V Ky ys.len cy] 33)).cell? ⟨w4.heap.size,1,U⟩=M (.int .i64 yn):=hkb.cell 1;have Qa:(w4.alloc (Is #[.int .i64 yk,.int .i64 yn,.int .i64 yp,.int .i64 yc,V Ky ys.len cy] 33)).cell? ⟨w4.heap.size,2,U⟩=M (.int .i64 yp):=hkb.cell 2
    have Qb:(w4.alloc (Is #[.int .i64 yk,.int .i64 yn,.int .i64 yp,.int .i64 yc,V Ky ys.len cy] 33)).cell? ⟨w4.heap.size,3,U⟩=M (.int .i64 yc):=hkb.cell 3;have Qc:(w4.alloc (Is #[.int .i64 yk,.int .i64 yn,.int .i64 yp,.int .i64 yc,V Ky ys.len cy] 33)).cell? ⟨w4.heap.size,4,U⟩=M (V Ky ys.len cy):=hkb.cell 4;have oJ:ak (∀ b:Bool,fM r σ i=b->b=false->∀ j:Nat,(left (.int .i64 (j:Int))&&!(Lit.int .i64 (j:Int)).sameKey (.int .i64 (i:Int)))=false->fM r σ j=false):=λb hb h0 j hj=>by
     by_cases e:j=i
     ·subst e;rw[hb,h0]
     ·refine HLF.o j ?_
      have hk:(Lit.int .i64 (j:Int)).sameKey (.int .i64 (i:Int))=false:=by
       cases hs:(Lit.int .i64 (j:Int)).sameKey (.int .i64 (i:Int))
       ·rfl
       ·have:=(WideAt.sameKey_iff (by simp[WideAt.IsKeyLit])).1 hs
        injection this with _ this;exact absurd ah e
      rw[hk] at hj;simpa using hj
    clear hkb fU aih aii hrg abl hi hsy hB4 hO4 hI4 hg4 hs4 hBr hDr hkeep HIr Vy vQ HSM HO HZr HWR hys akW;obtain⟨bc,hbc⟩:∃ bc,bc=r.iL.contains (i:Int):=⟨_,rfl⟩
    obtain⟨bt,Iu⟩:=aD (Nd.total ⟨yk,yn,yp,yc,ys⟩)
    rw[<-hbc] at LD hLA;rw[<-Iu] at HTO hLA;have Vq:=aj hLA;clear hbc Iu hLA;cases bc with
    | true=>
     have Vp:ak (fM r σ i=false):=Vq.o;go_wp2_with fail;refine LD.o.mono ?_;rintro e w6 ⟨rfl,rfl⟩;clear P9 P_ Qa Qb Qc HTO LD;go_wp2
     go_roundw
     case rel=>exact⟨_,ahk,aaE.o,HO5,oJ.o false Vp.o rfl⟩
     case measure=>rw[aaE.o.left_eq,HRG.o.left_eq];exact LK.o
    | false=>
     cases bt with
     | true=>
      have Vp:ak (fM r σ i=false):=Vq.o;go_wp2_with fail;refine LD.o.mono ?_;rintro e w6 ⟨rfl,rfl⟩;go_wp2_with fail;refine HTO.o.mono ?_;rintro e w7 ⟨rfl,wV⟩;have agG:=aj (aaE.o.kept (below_grown wV) (by simp) (by simp));have HO7:ak (aC (λq=>q=it) w3 w7):=HO5.o.trans (aC.of_below wV);clear P9 P_ Qa Qb Qc HTO LD wV HZ5 HW5 HO5 aaE;go_wp2
      go_roundw
      case rel=>exact⟨_,ahk,agG.o,HO7,oJ.o false Vp.o rfl⟩
      case measure=>rw[agG.o.left_eq,HRG.o.left_eq];exact LK.o
     | false=>
      have Vp:ak (fM r σ i=true):=Vq.o;have HV:ak (rv=(jK,4)):=HVL.o (Fp Vp.o);go_wp2_with fail;refine LD.o.mono ?_;rintro e w6 ⟨rfl,rfl⟩;go_wp2_with fail;refine HTO.o.mono ?_;rintro e w7 ⟨rfl,wV⟩;have hZ:=HZ5.o.next wV;have hbw:=HW5.o.trans (wV.mono HW5.o.size);clear P9 P_ Qa Qb Qc;have j0:w7.cell? ⟨w.heap.size+2,0,U⟩=M (.int .i64 0):=ay hZ
      have g0:w7.frozen? ⟨w.heap.size+2,0,U⟩=false:=hZ.frozen _;have j1:w7.cell? ⟨w.heap.size+2,1,U⟩=M (.int .i64 0):=ay hZ
      have g1:w7.frozen? ⟨w.heap.size+2,1,U⟩=false:=hZ.frozen _;have j2:w7.cell? ⟨w.heap.size+2,2,U⟩=M (.int .i64 0):=ay hZ
      have g2:w7.frozen? ⟨w.heap.size+2,2,U⟩=false:=hZ.frozen _;have j3:w7.cell? ⟨w.heap.size+2,3,U⟩=M (.int .i64 0):=ay hZ
      have g3:w7.frozen? ⟨w.heap.size+2,3,U⟩=false:=hZ.frozen _;have j4:w7.cell? ⟨w.heap.size+2,4,U⟩=M (V U 0 0):=ay hZ
      have g4:w7.frozen? ⟨w.heap.size+2,4,U⟩=false:=hZ.frozen _;have d0:=hZ;have d1:=d0.aJ 0 (.int .i64 0);have d2:=d1.aJ 1 (.int .i64 0);have d3:=d2.aJ 2 (.int .i64 0);have d4:=d3.aJ 3 (.int .i64 0);have d5:=d4.aJ 4 (V U 0 0);have x0:=d1.cell 0;have x1:=d2.cell 1;have x2:=d3.cell 2;have x3:=d4.cell 3;have x4:=d5.cell 4;simp only[eY] at x0 x1 x2 x3 x4
      clear d0 d1 d2 d3 d4 d5;have HP:ak (fO jK 4 w (If (.tuple #[exV 0 0 0 0 U 0 0,.int .i64 4])) (cK w7 (w.heap.size+2) 0 0 0 0 0 (V U 0 0))):=
       ⟨bD _ _ _ _ _ hbw ah,U,0,rfl,Jn _,Nat.zero_le _,(b_.nil U _ (by rw[bN];exact hbw.size)).reg⟩
      clear hZ hbw wV;go_wp2;refine bodyPost_ret (v:=.tuple #[exV 0 0 0 0 U 0 0,.int .i64 4]) (by simp[results,results76,go_sem,x0,x1,x2,x3,x4]) rfl ?_;rw[HV.o];exact HP.o
end
end Go.Proofs.YtgfkglhelfkpoaaGreat
