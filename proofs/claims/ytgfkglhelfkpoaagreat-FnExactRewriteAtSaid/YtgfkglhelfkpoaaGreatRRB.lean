/- Parts of the proof. -/
import Derived.Test.YtgfkglhelfkpoaaGreatRRA
set_option maxRecDepth 100000
set_option maxHeartbeats 4000000
open Go.Proofs.Tryz
open Go.Value renaming int→I,slice→V
open Go.IntKind renaming i64→J
open Option renaming some→M,none→U
open Go.Ending renaming returned→If
open Go.Obj renaming cells→Is
open Go renaming World→Iv,Calls→I0,Value→I1,maxLen→I2,Addr→I3
open Go.RowKit renaming Below→Ix
open Nat renaming le_refl→Jn,add_zero→Mm,zero_mul→Mn,zero_add→Mu
open Go.RowKit.Below renaming refl→Jx,heap_setCell→J1
open Bool renaming and_eq_true→Mb
namespace Go.Proofs.YtgfkglhelfkpoaaGreat
section
open Go.RowKit Plain
def O8(B r nn:Nat)(o:Option Sub)(w:Iv)(e:Ending)(w':Iv):Prop:=
 e=If (.bool o.isSome)/\aC (λq=>q=r) w w'/\∀ τ,o=M τ->∃ n,n<=nn/\wL w' B r n τ
def aiS(xs:Es):Prop:=∀ (k n p c:Int) (K:Option I3) (cap:Nat) (k' n' p' c':Int) (es:Es) (K':Option I3) (bB B r nn:Nat) (σ:Sub) (w:Iv),
 bJ w B xs K->xs.len<=cap->cap<=I2->bJ w B es K'->es.len<=bB->bB<=I2->B<=r->xs.size<=1000->es.size+1<=1000000->wL w B r nn σ->nn+xs.size+1<=3000->Lg σ.length ⟨k,n,p,c,xs⟩=true->σ.bd 1000000->σ.length<=1000000 ->
 I0 Tryz.prog 155 #[exV k n p c K xs.len cap,exV k' n' p' c' K' es.len bB,.map (M r)] w (O8 B r (nn+xs.size+1) (jP ⟨k,n,p,c,xs⟩ ⟨k',n',p',c',es⟩ σ) w)
theorem aez(w:Iv):(zeroValue 33).run Tryz.prog w=.ok (exV 0 0 0 0 U 0 0) w:=aL
theorem Yz(n p c:Int)(xs:Es)(K:Option I3)(cap:Nat)(k' n' p' c':Int)(es:Es)(K':Option I3)(bB B r nn:Nat)(σ:Sub)(w:Iv)
  (hc:xs.len<=cap) (hcm:cap<=I2) (hE:bJ w B es K') (hc':es.len<=bB) (fF:bB<=I2) (hBr:B<=r) (hz:es.size+1<=1000000) (hM:wL w B r nn σ) (hnn:nn+1<=3000) (h0:0<=n) (hl:n.toNat<σ.length) (hbd:σ.bd 1000000) (hxl:σ.length<=1000000) :
  I0 Tryz.prog 155 #[exV 2 n p c K xs.len cap,exV k' n' p' c' K' es.len bB,.map (M r)] w (O8 B r (nn+1) (qP n ⟨k',n',p',c',es⟩ σ) w):=by
 have hx1:cap<=9223372036854775807:=by unfold I2 at hcm;omega
 have hx2:bB<=9223372036854775807:=by unfold I2 at fF;omega
 have hx3:xs.len<=9223372036854775807:=ah;have hls:=Es.aF es;have hrw:=hM.lt;obtain⟨W0,aZ⟩:=aD ((w.alloc (Is #[.int .i64 2,.int .i64 n,.int .i64 p,.int .i64 c,V K xs.len cap] 33)).alloc (Is #[.int .i64 k',.int .i64 n',.int .i64 p',.int .i64 c',V K' es.len bB] 33))
 have hb0:Ix w.heap.size w W0:=by rw[aZ];go_grown
 have hs0:W0.heap.size=w.heap.size+2:=by rw[aZ];simp
 have hq1:au W0 w.heap.size 33 [.int .i64 2,.int .i64 n,.int .i64 p,.int .i64 c,V K xs.len cap]:=by
  rw[aZ];exact (au.new w 33 [.int .i64 2,.int .i64 n,.int .i64 p,.int .i64 c,V K xs.len cap]).next aV
 have hq2:au W0 (w.heap.size+1) 33 [.int .i64 k',.int .i64 n',.int .i64 p',.int .i64 c',V K' es.len bB]:=by
  rw[aZ];have:=au.new (w.alloc (Is #[.int .i64 2,.int .i64 n,.int .i64 p,.int .i64 c,V K xs.len cap] 33)) 33 [.int .i64 k',.int .i64 n',.int .i64 p',.int .i64 c',V K' es.len bB];simpa using this
 have q0:W0.cell? ⟨w.heap.size,0,U⟩=M (.int .i64 2):=ay hq1
 have q1:W0.cell? ⟨w.heap.size,1,U⟩=M (.int .i64 n):=ay hq1
 have hwf:=ab9 (x:=n) ah ah;have law:Maps.Keyed Tryz.prog 2:=Maps.int_keyed underlying2;have hkey:keyOf Tryz.prog 2 (.int .i64 n)=M (.int .i64 n):=Maps.keyOf_int_mk underlying2 hwf;obtain⟨D,hown,hD⟩:=hM.below hb0 ah;obtain⟨v,ps,hrun,hv⟩:=hown.look_ok law underlying210 (aez W0) (Hl 0 0 0 0 U 0 0) hkey;have dI:=aj aZ;have HB0:=aj hb0;have Qv:ak (bJ W0 B es K'):=hE.below (hb0.mono ah)
 cases hat:σ.at n with
 | none=>
  have hno:=hD.JI hat;rw[hno] at hrun;rw[Maps.atKey_of_not_has hno] at hv;obtain⟨-,hv2⟩:=uR hv;injection hv2 with hv2 _
  injection hv2 with hv2
  subst hv2;have HV:ak (qP n ⟨k',n',p',c',es⟩ σ=M (σ.set n.toNat (M ⟨k',n',p',c',es⟩))):=by show _=_;unfold qP;rw[hat]
  rw[HV.o];have hw1:W0.heap.size=(W0.alloc (Is #[.int .i64 0,.int .i64 0,.int .i64 0,.int .i64 0,V U 0 0] 33)).heap.size - 1:=by simp
  have fU:Ix W0.heap.size W0 (W0.alloc (Is #[.int .i64 0,.int .i64 0,.int .i64 0,.int .i64 0,V U 0 0] 33)):=aV;have hq3:=hq1.next fU;have hq4:=hq2.next fU;have r1:(W0.alloc (Is #[.int .i64 0,.int .i64 0,.int .i64 0,.int .i64 0,V U 0 0] 33)).cell? ⟨w.heap.size,1,U⟩=M (.int .i64 n):=ay hq3
  have t0:(W0.alloc (Is #[.int .i64 0,.int .i64 0,.int .i64 0,.int .i64 0,V U 0 0] 33)).cell? ⟨w.heap.size+1,0,U⟩=M (.int .i64 k'):=ay hq4
  have t1:(W0.alloc (Is #[.int .i64 0,.int .i64 0,.int .i64 0,.int .i64 0,V U 0 0] 33)).cell? ⟨w.heap.size+1,1,U⟩=M (.int .i64 n'):=ay hq4
  have t2:(W0.alloc (Is #[.int .i64 0,.int .i64 0,.int .i64 0,.int .i64 0,V U 0 0] 33)).cell? ⟨w.heap.size+1,2,U⟩=M (.int .i64 p'):=ay hq4
  have t3:(W0.alloc (Is #[.int .i64 0,.int .i64 0,.int .i64 0,.int .i64 0,V U 0 0] 33)).cell? ⟨w.heap.size+1,3,U⟩=M (.int .i64 c'):=ay hq4
  have t4:(W0.alloc (Is #[.int .i64 0,.int .i64 0,.int .i64 0,.int .i64 0,V U 0 0] 33)).cell? ⟨w.heap.size+1,4,U⟩=M (V K' es.len bB):=ay hq4
  have AP:=hown.alloc (Is #[.int .i64 0,.int .i64 0,.int .i64 0,.int .i64 0,V U 0 0] 33);have JN:nn<I2:=by unfold I2;omega
  have HD:=aj hD;have HAT:=aj hat;have HGA:=aj fU;have gQ:=aj hs0;clear hE aZ hb0 hs0 hq1 hq2 hM hv hown hno hq3 hq4 fU hw1 hD hat;go_enter func155,ntmps155;go_upto_region 1 with fail;rw[<-dI.o];go_wp2_with (at_mapUpdate;refine wpList_mapUpdate_own _ rfl _ _ _ 210 rfl 2 33 law underlying210 _ r nn _ rfl AP JN _ _ _ rfl rfl hkey _ [] (Hl k' n' p' c' K' es.len bB) ?_;intro w1 hown2 afq)
  go_ret;have hO:aC (λq=>q=r) W0 w1:=(aC.of_below HGA.o).trans (qW afq);refine⟨rfl,(aC.of_below HB0.o).trans hO,λτ pK=>?_⟩;injection pK with pK
  subst pK;exact⟨nn+1,Jn _,_,hown2,HD.o.put (hO.below (by have:=HB0.o.size;omega) (λq hq=>by subst hq;exact hBr)) h0 hl HAT.o (y:=⟨k',n',p',c',es⟩) Qv.o hc' fF⟩
 | some z=>
  have aim:=hD.YQ h0 hat;rw[aim] at hrun;obtain⟨Kz,cz,ha,hzr,hzc,hzm⟩:=hD.at_ _ _ (BM hat);rw[show ((n.toNat:Nat):Int)=n by omega] at ha;rw[ha] at hv;obtain⟨-,hv2⟩:=uR hv;injection hv2 with hv2 _
  injection hv2 with hv2
  subst hv2;have hzs:z.ks.size<=1048576:=by
   have:=hbd _ _ (BM hat);unfold Nd.size at this;omega
  have fU:Ix W0.heap.size W0 (W0.alloc (Is #[.int .i64 z.k,.int .i64 z.n,.int .i64 z.p,.int .i64 z.c,V Kz z.ks.len cz] 33)):=aV;have HQ:=aj (SK (z.ks.size+1) z.ks ah z.k z.n z.p z.c Kz cz k' n' p' c' es K' bB B _ (hzr.below (fU.mono ah)) hzc hzm (Qv.o.below (fU.mono ah)) hc' fF (by have:=fU.size;omega) hzs ah);have hq4:=hq2.next fU;have t0:(W0.alloc (Is #[.int .i64 z.k,.int .i64 z.n,.int .i64 z.p,.int .i64 z.c,V Kz z.ks.len cz] 33)).cell? ⟨w.heap.size+1,0,U⟩=M (.int .i64 k'):=ay hq4
  have t1:(W0.alloc (Is #[.int .i64 z.k,.int .i64 z.n,.int .i64 z.p,.int .i64 z.c,V Kz z.ks.len cz] 33)).cell? ⟨w.heap.size+1,1,U⟩=M (.int .i64 n'):=ay hq4
  have t2:(W0.alloc (Is #[.int .i64 z.k,.int .i64 z.n,.int .i64 z.p,.int .i64 z.c,V Kz z.ks.len cz] 33)).cell? ⟨w.heap.size+1,2,U⟩=M (.int .i64 p'):=ay hq4
  have t3:(W0.alloc (Is #[.int .i64 z.k,.int .i64 z.n,.int .i64 z.p,.int .i64 z.c,V Kz z.ks.len cz] 33)).cell? ⟨w.heap.size+1,3,U⟩=M (.int .i64 c'):=ay hq4
  have t4:(W0.alloc (Is #[.int .i64 z.k,.int .i64 z.n,.int .i64 z.p,.int .i64 z.c,V Kz z.ks.len cz] 33)).cell? ⟨w.heap.size+1,4,U⟩=M (V K' es.len bB):=ay hq4
  have HV:ak (qP n ⟨k',n',p',c',es⟩ σ=if z.same ⟨k',n',p',c',es⟩ then M σ else U):=by show _=_;unfold qP;rw[hat]
  have HM:ak (wL W0 B r nn σ):=⟨D,hown,hD⟩
  have HGA:=aj fU;obtain⟨rr,dG⟩:=aD (qP n ⟨k',n',p',c',es⟩ σ)
  rw[<-dG];rw[<-dG] at HV;obtain⟨bb,Fa⟩:=aD (z.same ⟨k',n',p',c',es⟩)
  have y7:ak (I0 Tryz.prog 218 #[exV z.k z.n z.p z.c Kz z.ks.len cz,exV k' n' p' c' K' es.len bB] (W0.alloc (Is #[.int .i64 z.k,.int .i64 z.n,.int .i64 z.p,.int .i64 z.c,V Kz z.ks.len cz] 33)) λe w'=>e=If (.bool bb)/\Ix (W0.alloc (Is #[.int .i64 z.k,.int .i64 z.n,.int .i64 z.p,.int .i64 z.c,V Kz z.ks.len cz] 33)).heap.size (W0.alloc (Is #[.int .i64 z.k,.int .i64 z.n,.int .i64 z.p,.int .i64 z.c,V Kz z.ks.len cz] 33)) w'):=by
   rw[Fa];exact HQ.o
  rw[<-Fa] at HV;have hzl:z.ks.len<=9223372036854775807:=by unfold I2 at hzm;omega
  have amW:cz<=9223372036854775807:=by unfold I2 at hzm;omega
  have abp:ak (W0.heap.size=w.heap.size+2):=hs0;clear hE aZ hb0 hs0 hq1 hq2 hM hv aim hown hD hat hbd hq4 fU HQ ha hzr Fa dG hzs;generalize z.k=zk at *;generalize z.n=zn at *;generalize z.p=zp at *;generalize z.c=zc at *;generalize z.ks.len=zl at *;go_enter func155,ntmps155;go_upto_region 1 with fail;rw[<-dI.o];go_wp2_with fail;refine y7.o.mono ?_;rintro e w1 ⟨rfl,hb1⟩;have hb2:Ix W0.heap.size W0 w1:=HGA.o.trans (hb1.mono HGA.o.size)
  have HB2:=aj hb2;clear hb1 hb2;go_wp2;go_ret;refine⟨?_,(aC.of_below HB0.o).trans (aC.of_below HB2.o),λτ pK=>?_⟩
  ·rw[HV.o];cases bb<;>rfl
  ·rw[HV.o] at pK
   cases bb
   ·cases pK
   ·simp only[if_true,Option.some.injEq] at pK
    subst pK;exact⟨nn,ah,HM.o.below HB2.o (by have:=abp.o;omega)⟩
theorem EX(k n p c:Int)(ks r:Es)(k' n' p' c':Int)(aY r':Es)(σ:Sub) :
  mO (.cons k n p c ks r) (.cons k' n' p' c' aY r') σ=(jP ⟨k,n,p,c,ks⟩ ⟨k',n',p',c',aY⟩ σ).bind (mO r r'):=by
 rw[Rj];cases jP ⟨k,n,p,c,ks⟩ ⟨k',n',p',c',aY⟩ σ<;>rfl
theorem Yy:∀ (m:Nat) (xs:Es),xs.size<m->aiS xs:=by
 intro m
 induction m with
 | zero=>intro es h;omega
 | succ m ih=>
 intro xs hm k n p c K cap k' n' p' c' es K' bB B r nn σ w hX hc hcm hE hc' fF hBr hz1 hz hM hnn Bw hbd hsl
 by_cases hk:k=2
 ·have hv:=B_ Bw hk
  subst hk;have h:=Yz n p c xs K cap k' n' p' c' es K' bB B r nn σ w hc hcm hE hc' fF hBr hz hM ah hv.1 hv.2 hbd hsl;refine Calls.mono h ?_;rintro e w' ⟨h1,h2,h3⟩;have hf:jP ⟨2,n,p,c,xs⟩ ⟨k',n',p',c',es⟩ σ=qP n ⟨k',n',p',c',es⟩ σ:=rfl;exact⟨by rw[hf];exact h1,h2,λτ pK=>by
   obtain⟨n2,h4,h5⟩:=h3 τ (by rw[<-hf];exact pK);exact⟨n2,ah,h5⟩⟩
 have IH:=aj ih;clear ih;have hx1:cap<=9223372036854775807:=by unfold I2 at hcm;omega
 have hx2:bB<=9223372036854775807:=by unfold I2 at fF;omega
 have hls:=Es.aF es;have hlx:=Es.aF xs;have hrw:=hM.lt;have HF:ak (jP ⟨k,n,p,c,xs⟩ ⟨k',n',p',c',es⟩ σ=if k=k'/\n=n'/\xs.len=es.len then mO xs es σ else U):=by
  show _=_;unfold jP;exact if_neg hk
 obtain⟨rr,dG⟩:=aD (jP ⟨k,n,p,c,xs⟩ ⟨k',n',p',c',es⟩ σ)
 rw[<-dG];rw[<-dG] at HF;clear dG;have hk2:(k==2)=false:=beq_eq_false_iff_ne.2 hk;obtain⟨W0,aZ⟩:=aD ((w.alloc (Is #[I J k,I J n,I J p,I J c,V K xs.len cap] 33)).alloc (Is #[I J k',I J n',I J p',I J c',V K' es.len bB] 33))
 have hb0:Ix w.heap.size w W0:=by rw[aZ];go_grown
 have hs0:W0.heap.size=w.heap.size+2:=by rw[aZ];simp
 have hq1:au W0 w.heap.size 33 [I J k,I J n,I J p,I J c,V K xs.len cap]:=by
  rw[aZ];exact (au.new w 33 [I J k,I J n,I J p,I J c,V K xs.len cap]).next aV
 have hq2:au W0 (w.heap.size+1) 33 [I J k',I J n',I J p',I J c',V K' es.len bB]:=by
  rw[aZ];have:=au.new (w.alloc (Is #[I J k,I J n,I J p,I J c,V K xs.len cap] 33)) 33 [I J k',I J n',I J p',I J c',V K' es.len bB];simpa using this
 have q0:W0.cell? ⟨w.heap.size,0,U⟩=M (I J k):=ay hq1
 have q1:W0.cell? ⟨w.heap.size,1,U⟩=M (I J n):=ay hq1
 have q4:W0.cell? ⟨w.heap.size,4,U⟩=M (V K xs.len cap):=ay hq1
 have t0:W0.cell? ⟨w.heap.size+1,0,U⟩=M (I J k'):=ay hq2
 have t1:W0.cell? ⟨w.heap.size+1,1,U⟩=M (I J n'):=ay hq2
 have t4:W0.cell? ⟨w.heap.size+1,4,U⟩=M (V K' es.len bB):=ay hq2
 have dI:=aj aZ;have HB0:=aj hb0
 by_cases e0:k=k'
 case neg=>
  have hn:(k != k')=true:=by simp[e0]
  have HV:ak (rr=U):=by show _=_;rw[HF.o,if_neg (λh=>e0 h.1)]
  clear hX hE hM hb0 hq1 hq2 aZ;go_enter func155,ntmps155;go_upto_region 1 with fail;rw[<-dI.o];go_wp2;go_ret;exact⟨by rw[HV.o];rfl,aC.of_below HB0.o,λτ pK=>by rw[HV.o] at pK;cases pK⟩
 have hn0:(k != k')=false:=by simp[e0]
 by_cases e1:n=n'
 case neg=>
  have hn:(n != n')=true:=by simp[e1]
  have HV:ak (rr=U):=by show _=_;rw[HF.o,if_neg (λh=>e1 h.2.1)]
  clear hX hE hM hb0 hq1 hq2 aZ e0;go_enter func155,ntmps155;go_upto_region 1 with fail;rw[<-dI.o];go_wp2;go_ret;exact⟨by rw[HV.o];rfl,aC.of_below HB0.o,λτ pK=>by rw[HV.o] at pK;cases pK⟩
 have hn1:(n != n')=false:=by simp[e1]
 by_cases e2:xs.len=es.len
 case neg=>
  have hn:((xs.len:Int) != (es.len:Int))=true:=by simp;omega
  have HV:ak (rr=U):=by show _=_;rw[HF.o,if_neg (λh=>e2 h.2.2)]
  clear hX hE hM hb0 hq1 hq2 aZ e0 e1;go_enter func155,ntmps155;go_upto_region 1 with fail;rw[<-dI.o];go_wp2;go_ret;exact⟨by rw[HV.o];rfl,aC.of_below HB0.o,λτ pK=>by rw[HV.o] at pK;cases pK⟩
 have hn2:((xs.len:Int) != (es.len:Int))=false:=by simp;omega
 have Tk:ak (rr=mO xs es σ):=by show _=_;rw[HF.o,if_pos ⟨e0,e1,e2⟩]
 have xL:=aj e2;obtain⟨b',o',hK,hks⟩:=hX;obtain⟨b2,o2,hK2,dS⟩:=hE;have hBw:B<=w.heap.size:=ah;have gI:ak (aI W0 B xs b' o'):=hks.below (hb0.mono hBw);have Vo:ak (aI W0 B es b2 o2):=dS.below (hb0.mono hBw);have DX:=aj (hM.below hb0 hBw);have y7:=aj hq2;have Co:ak (Iz σ.length xs=true):=by
  unfold Lg at Bw;simp only[Mb] at Bw;exact Bw.2
 have yX:ak (σ.bd 1000000/\σ.length<=1000000):=⟨hbd,hsl⟩
 have HZ:ak (xs.size<=1000/\es.size+1<=1000000/\nn+xs.size+1<=3000):=⟨hz1,hz,hnn⟩
 have gQ:=aj hs0;clear hks dS hM hb0 hq1 hq2 aZ e0 e1 e2 HF Bw hbd hs0;go_enter func155,ntmps155;go_upto_region 1 with fail;rw[<-dI.o];go_wp2_with fail;clear q0 q1 q4 t0 t1 t4
 go_loopg [54] (xs.len+1) (λkx s54 wr=>∃ (j:Nat) (x1 e1:Es) (τ:Sub) (n1:Nat),s54=I J (j:Int)/\j+x1.len=xs.len/\ak (e1.len=x1.len)/\xs.len - j<kx/\ak (x1.size<=xs.size/\e1.size<=es.size/\n1+x1.size<=nn+xs.size)/\ak (rr=mO x1 e1 τ)/\ak (Iz τ.length x1=true)/\ak (τ.bd 1000000/\τ.length<=1000000)/\ak (wL wr B r n1 τ)/\ak (aI wr B x1 b' (o'+j*5))/\ak (aI wr B e1 b2 (o2+j*5))/\ak (aC (λq=>q=r) W0 wr))
 case atStart=>
  refine⟨0,xs,es,σ,nn,by first | rfl | go_num,ah,xL.o.symm,ah,⟨Jn _,Jn _,Jn _⟩,Tk,Co,yX,DX, ?_, ?_,aC.refl _ _⟩
  ·show aI _ _ _ _ _;rw[Mn,Mm];exact gI.o
  ·show aI _ _ _ _ _;rw[Mn,Mm];exact Vo.o
 case round=>
  obtain⟨j,x1,e1,τ,n1,rfl,hj,HL,hkx,hsz,HP,IW,Vf,HMr,HE,dz,HO⟩:=hrel;clear gI Vo Tk DX Co yX;have hsw:W0.heap.size<=wr.heap.size:=HO.o.size;cases x1 with
  | nil=>
   simp only[Es.len] at hj;have hjz:¬ (j:Int)<(xs.len:Int):=ah;have HV:ak (rr=M τ):=HP.o;go_wp2;go_ret;refine⟨by rw[HV.o];rfl,(aC.of_below HB0.o).trans HO.o,λρ hρ=>?_⟩;rw[HV.o] at hρ;injection hρ with hρ
   subst hρ;exact⟨n1,by have:=hsz.o;simp only[Es.size] at this;omega,HMr.o⟩
  | cons kk nk pk ck ls rs=>
   cases e1 with
   | nil=>exact absurd HL.o (by simp[Es.len])
   | cons Qd nk' pk' ck' GV Lf=>
   have HL2:ak (Lf.len=rs.len):=by have:=HL.o;simp only[Es.len] at this;show _=_;omega
   simp only[Es.len] at hj;have hjz:(j:Int)<(xs.len:Int):=ah;have hje:(j:Int)<(es.len:Int):=by have:=xL.o;omega
   have hA:=hK ah;subst hA;have hA:=hK2 (by have:=xL.o;omega);subst hA;obtain⟨⟨hb,c0,c1,c2,c3,K1,ER,y1,z1,c4,hcp1,afl,hK1,ah1⟩,hr⟩:=HE.o;obtain⟨⟨hb2,d0,d1,d2,d3,K3,jr,y3,z3,d4,YW,RB,hK3,ah2⟩,hr2⟩:=dz.o;have alM:jr<=9223372036854775807:=by unfold I2 at RB;omega
   have hrs:ak (rs.size<=xs.size/\ls.size<xs.size/\ls.size<=1000/\Lf.size<=es.size/\GV.size+1<=1000000/\n1+ls.size+1<=3000/\n1+ls.size+1+rs.size<=nn+xs.size):=by
    have h1:=hsz.o;have h2:=HZ.o;simp only[Es.size] at h1;exact⟨ah,ah,ah,ah,ah,ah,ah⟩
   have qU:=IW.o;rw[yQ,Mb] at qU;have fU:Ix wr.heap.size wr (wr.alloc (Is #[I J kk,I J nk,I J pk,I J ck,V K1 ls.len ER] 33)).drew:=Below.drew aV;have hBw2:B<=wr.heap.size:=by have:=gQ.o;omega
   have hHC:=IH.o ls (by have:=hrs.o;omega) kk nk pk ck K1 ER Qd nk' pk' ck' GV K3 jr B r n1 τ (wr.alloc (Is #[I J kk,I J nk,I J pk,I J ck,V K1 ls.len ER] 33)).drew
    (bJ.below ⟨y1,z1,hK1,ah1⟩ (fU.mono hBw2)) hcp1 afl (bJ.below ⟨y3,z3,hK3,ah2⟩ (fU.mono hBw2)) YW RB hBr hrs.o.2.2.1 hrs.o.2.2.2.2.1 (HMr.o.below fU hBw2) hrs.o.2.2.2.2.2.1 qU.1 Vf.o.1 Vf.o.2
   have HC:=aj hHC;have HR:ak (aI (wr.alloc (Is #[I J kk,I J nk,I J pk,I J ck,V K1 ls.len ER] 33)).drew B rs b' (o'+j*5+5)):=hr.below (fU.mono hBw2);have sj:ak (aI (wr.alloc (Is #[I J kk,I J nk,I J pk,I J ck,V K1 ls.len ER] 33)).drew B Lf b2 (o2+j*5+5)):=hr2.below (fU.mono hBw2);have rO:ak (aC (λq=>q=r) W0 (wr.alloc (Is #[I J kk,I J nk,I J pk,I J ck,V K1 ls.len ER] 33)).drew):=HO.o.trans (aC.of_below fU)
   have hgb:Ix wr.heap.size wr (wr.alloc (Is #[I J kk,I J nk,I J pk,I J ck,V K1 ls.len ER] 33)):=aV;have hbx:au (wr.alloc (Is #[I J kk,I J nk,I J pk,I J ck,V K1 ls.len ER] 33)) (w.heap.size+1) 33 [I J k',I J n',I J p',I J c',V (M ⟨b2,o2,U⟩) es.len bB]:=au.next ((HO.o.block _ (by have:=gQ.o;omega) (by show ¬ w.heap.size+1=r;omega)).trans y7.o) hgb
   have t4:(wr.alloc (Is #[I J kk,I J nk,I J pk,I J ck,V K1 ls.len ER] 33)).cell? ⟨w.heap.size+1,4,U⟩=M (V (M ⟨b2,o2,U⟩) es.len bB):=ay hbx
   have hkb:=au.new wr 33 [I J kk,I J nk,I J pk,I J ck,V K1 ls.len ER];have P9:(wr.alloc (Is #[I J kk,I J nk,I J pk,I J ck,V K1 ls.len ER] 33)).cell? ⟨wr.heap.size,0,U⟩=M (I J kk):=hkb.cell 0;have P_:(wr.alloc (Is #[I J kk,I J nk,I J pk,I J ck,V K1 ls.len ER] 33)).cell? ⟨wr.heap.size,1,U⟩=M (I J nk):=hkb.cell 1
   have Qa:(wr.alloc (Is #[I J kk,I J nk,I J pk,I J ck,V K1 ls.len ER] 33)).cell? ⟨wr.heap.size,2,U⟩=M (I J pk):=hkb.cell 2;have Qb:(wr.alloc (Is #[I J kk,I J nk,I J pk,I J ck,V K1 ls.len ER] 33)).cell? ⟨wr.heap.size,3,U⟩=M (I J ck):=hkb.cell 3;have Qc:(wr.alloc (Is #[I J kk,I J nk,I J pk,I J ck,V K1 ls.len ER] 33)).cell? ⟨wr.heap.size,4,U⟩=M (V K1 ls.len ER):=hkb.cell 4
   clear hkb;have f0:=aB d0 hgb;have f1:=aB d1 hgb;have f2:=aB d2 hgb;have f3:=aB d3 hgb;have f4:=aB d4 hgb;have QF:ak (Iz τ.length rs=true):=qU.2;have ng:ak (rr=(jP ⟨kk,nk,pk,ck,ls⟩ ⟨Qd,nk',pk',ck',GV⟩ τ).bind (mO rs Lf)):=by show _=_;rw[HP.o,EX]
   have agk:ak (∀ ρ,jP ⟨kk,nk,pk,ck,ls⟩ ⟨Qd,nk',pk',ck',GV⟩ τ=M ρ->ρ.bd 1000000/\ρ.length=τ.length):=λρ h=>⟨xY h Vf.o.1 (by show 1+GV.size<=_;have:=hrs.o;omega),(qo h).1⟩
   have Io:ak (τ.length<=1000000):=Vf.o.2;clear hr hr2 ah1 ah2 HE dz HP qU hHC fU HMr HO IW Vf hK1 hK3 hbx hgb d0 d1 d2 d3 d4;cases ho:jP ⟨kk,nk,pk,ck,ls⟩ ⟨Qd,nk',pk',ck',GV⟩ τ with
   | none=>
    rw[ho] at HC ng;have Bl:ak (rr=U):=ng.o;clear ho ng;go_upto_region 12 with fail;change Code.wp _ _ _ _ (wr.alloc (Is #[I J kk,I J nk,I J pk,I J ck,V K1 ls.len ER] 33));generalize wr.alloc (Is #[I J kk,I J nk,I J pk,I J ck,V K1 ls.len ER] 33)=W1 at *;go_still_tail 7,aL;change wpList _ _ _ _ _ W1.drew;go_wp2_with fail
    refine HC.o.mono ?_;rintro e w1 ⟨rfl,ho1,_⟩;have mK:ak (aC (λq=>q=r) W0 w1):=rO.o.trans ho1;clear ho1;go_wp2;go_ret;exact⟨by rw[Bl.o];rfl,(aC.of_below HB0.o).trans mK.o,λτ pK=>by rw[Bl.o] at pK;cases pK⟩
   | some ρ=>
    rw[ho] at HC ng;have Bl:ak (rr=mO rs Lf ρ):=ng.o;have abb:=agk.o ρ ho;have ajd:ak (ρ.bd 1000000/\ρ.length<=1000000):=⟨abb.1,by rw[abb.2];exact Io.o⟩
    have VF:ak (Iz ρ.length rs=true):=by show _=_;rw[abb.2];exact QF.o
    clear ho ng abb agk QF;go_upto_region 12 with fail;change Code.wp _ _ _ _ (wr.alloc (Is #[I J kk,I J nk,I J pk,I J ck,V K1 ls.len ER] 33));generalize wr.alloc (Is #[I J kk,I J nk,I J pk,I J ck,V K1 ls.len ER] 33)=W1 at *;go_still_tail 7,aL;change wpList _ _ _ _ _ W1.drew;go_wp2_with fail;refine HC.o.mono ?_;rintro e w1 ⟨rfl,ho1,wW⟩
    obtain⟨n2,hn2,hM2⟩:=wW ρ rfl;have Ik:=aj hM2;have mK:ak (aC (λq=>q=r) W0 w1):=rO.o.trans ho1;have hB2:Ix B W1.drew w1:=ho1.below (by have:=rO.o.size;have:=gQ.o;omega) (λq hq=>by subst hq;exact hBr);have gY:ak (aI w1 B rs b' (o'+(j+1)*5)):=by
     have:=HR.o.below hB2
     rwa [show o'+j*5+5=o'+(j+1)*5 by omega] at this
    have fI:ak (aI w1 B Lf b2 (o2+(j+1)*5)):=by
     have:=sj.o.below hB2
     rwa [show o2+j*5+5=o2+(j+1)*5 by omega] at this
    have iD:ak (rs.size<=xs.size/\Lf.size<=es.size/\n2+rs.size<=nn+xs.size):=by have:=hrs.o;exact⟨ah,ah,ah⟩
    clear ho1 wW hM2 hB2 HR sj HC P9 P_ Qa Qb Qc t4 f0 f1 f2 f3 f4 c0 c1 c2 c3 c4 rO hn2;go_wp2
    go_roundg (xs.len - (j+1)+1)
    case measure=>omega
    case rel=>exact⟨j+1,rs,Lf,ρ,n2,by first | rfl | go_num,ah,HL2,ah,iD,Bl,VF,ajd,Ik,gY,fI,mK⟩
structure vF (w wr:Iv) (bx rb Br:Nat) (k n p c:Int) (v:I1) (pre:Es):Prop where
 box:au wr bx 33 [I J k,I J n,I J p,I J c,v]
 box0:au wr rb 33 [I J 0,I J 0,I J 0,I J 0,V U 0 0]
 row:∃ vs,iM wr Br v pre vs
 below:Ix w.heap.size w wr
 b1:w.heap.size<=bx
 b2:w.heap.size<=rb
 b3:bx<Br
 b4:rb<Br
 ne:bx≠rb
variable{w wr:Iv}{bx rb Br:Nat}{k n p c:Int}{v:I1}{pre:Es}
theorem vF.next{w':Iv}(h:vF w wr bx rb Br k n p c v pre)(hb:Ix wr.heap.size wr w'):vF w w' bx rb Br k n p c v pre:=by
 obtain⟨vs,hv⟩:=h.row;exact⟨h.box.next hb,h.box0.next hb,⟨vs,hv.below hb⟩,aH h.below hb,h.b1,h.b2,h.b3,h.b4,h.ne⟩
theorem vF.post{A:Option I3}{cp:Nat}(h:vF w wr bx rb Br k n p c (V A pre.len cp) pre) :
  jH ⟨k,n,p,c,pre⟩ w (If (exV k n p c A pre.len cp)) (cK wr rb 0 k n p c (V A pre.len cp)):=by
 obtain⟨vs,hrow⟩:=h.row;obtain⟨_,h1,h2⟩:=hrow.form';have:=h.b2;have:=h.b4;exact⟨bD _ _ _ _ _ h.below h.b2,A,cp,rfl,h1,h2,(hrow.aey.keep (λq q1 q2=>dN _ _ _ _ _ ah)).wide ah (by rw[bN];exact Jn _)⟩
theorem vF.push{w2:Iv}{G9:Es}{A2:Option I3}{c2:Nat}{vs2:List I1}(h:vF w wr bx rb Br k n p c v pre)(hrow:iM w2 Br (V A2 G9.len c2) G9 vs2)(hb:Ix Br wr w2) :
  vF w (w2.setCell ⟨bx,4,U⟩ (V A2 G9.len c2)) bx rb Br k n p c (V A2 G9.len c2) G9:=by
 have hbx:au w2 bx 33 [I J k,I J n,I J p,I J c,v]:=(hb.block _ h.b3).trans h.box;have hbz:au w2 rb 33 [I J 0,I J 0,I J 0,I J 0,V U 0 0]:=(hb.block _ h.b4).trans h.box0;have b1:=h.b1;have b2:=h.b2;have b3:=h.b3;have b4:=h.b4;have ho:aC (λq=>q=bx) w2 (w2.setCell ⟨bx,4,U⟩ (V A2 G9.len c2)):=⟨rfl,rfl,rfl,by simp[World.setCell],λq _ hq=>J1 _ _ _ _ hq⟩
 refine⟨?_,hbz.far (p:=⟨bx,4,U⟩) (λe=>h.ne e.symm) (V A2 G9.len c2),⟨_,hrow.only ho (λq hq e=>by have e':q=bx:=e;omega)⟩,(h.below.trans (hb.mono ah)).setCell (p:=⟨bx,4,U⟩) b1 (V A2 G9.len c2),b1,b2,b3,b4,h.ne⟩;have:=hbx.aJ 4 (V A2 G9.len c2);simpa using this
def aiO(ks:Es):Prop:=∀ (k n p c:Int) (K:Option I3) (cap B:Nat) (w:Iv),bJ w B ks K->ks.len<=cap->cap<=I2->B<=w.heap.size->ks.size<=1048576 ->
 I0 Tryz.prog 77 #[exV k n p c K ks.len cap] w (jH ⟨k,n,p,c,ks⟩ w)
theorem Cv:∀ (m:Nat) (ks:Es),ks.size<m->aiO ks:=by
 intro m
 induction m with
 | zero=>intro es h;omega
 | succ m ih=>
 intro ks hm k n p c K cap B w hKs hc hcm hB hsz0;obtain⟨i0,hi,hz0,hz1,hz2⟩:=info_parts Tryz.infoE;have IH:=aj ih;clear ih;obtain⟨b',o',hK,hks⟩:=hKs;have gI:=aj hks;clear hks;have fF:cap<=9223372036854775807:=by unfold I2 at hcm;omega
 have hls:=Es.aF ks;obtain⟨W0,aZ⟩:=aD ((w.alloc (Is #[I J k,I J n,I J p,I J c,V K ks.len cap] 33)).alloc (Is #[I J 0,I J 0,I J 0,I J 0,V U 0 0] 33))
 have hb0:Ix w.heap.size w W0:=by rw[aZ];go_grown
 have hs0:W0.heap.size=w.heap.size+2:=by rw[aZ];simp
 have hq1:au W0 w.heap.size 33 [I J k,I J n,I J p,I J c,V K ks.len cap]:=by
  rw[aZ];exact (au.new w 33 [I J k,I J n,I J p,I J c,V K ks.len cap]).next aV
 have hq2:au W0 (w.heap.size+1) 33 [I J 0,I J 0,I J 0,I J 0,V U 0 0]:=by
  rw[aZ];have:=au.new (w.alloc (Is #[I J k,I J n,I J p,I J c,V K ks.len cap] 33)) 33 [I J 0,I J 0,I J 0,I J 0,V U 0 0];simpa using this
 have q4:W0.cell? ⟨w.heap.size,4,U⟩=M (V K ks.len cap):=ay hq1
 have z4:W0.frozen? ⟨w.heap.size,4,U⟩=false:=hq1.frozen _;have dI:=aj aZ;have HST:ak (vF w (W0.setCell ⟨w.heap.size,4,U⟩ (V U 0 0)) w.heap.size (w.heap.size+1) (w.heap.size+2) k n p c (V U 0 0) .nil):=by
  refine⟨?_,hq2.far (p:=⟨w.heap.size,4,U⟩) (by show w.heap.size+1≠w.heap.size;omega) _,⟨[],iM.EA _ _ (by simp[World.setCell];omega)⟩,hb0.setCell (p:=⟨w.heap.size,4,U⟩) (Jn _) _,Jn _,ah,ah,ah,ah⟩;have:=hq1.aJ 4 (V U 0 0);simpa using this
 have Qv:ak (aI (W0.setCell ⟨w.heap.size,4,U⟩ (V U 0 0)) B ks b' o'):=gI.o.below (HST.o.below.mono hB);clear hq1 hq2 hb0 hs0 aZ gI;go_enter func77,ntmps77;go_upto_region 1 with fail;rw[<-dI.o];go_wp2_with fail;generalize W0.setCell ⟨w.heap.size,4,U⟩ (V U 0 0)=W1 at *;clear q4 z4 dI
 go_loopw [11] (λi wr=>∃ (es' pre:Es) (v:I1),i=I J (pre.len:Int)/\pre.len+es'.len=ks.len/\ak (pre.app es'=ks)/\ak (es'.size<=ks.size)/\ak (aI wr B es' b' (o'+pre.len*5))/\ak (vF w wr w.heap.size (w.heap.size+1) (w.heap.size+2) k n p c v pre)) (λi _=>ks.len - (intOf i).toNat)
 case atStart=>
  refine⟨ks,.nil,V U 0 0,by first | rfl | go_num,by simp[Es.len],rfl,Jn _, ?_,HST.o⟩;show aI _ _ _ _ _;simp only[Es.len,Mn,Mm];exact Qv.o
 case round=>
  obtain⟨es',pre,v,rfl,hj,nW,hsz,HE,HO⟩:=hrel;clear HST Qv;cases es' with
  | nil=>
   simp only[Es.len] at hj;obtain rfl:pre=ks:=by have:=nW.o;rwa [Es.oQ] at this
   have hjl:¬ (pre.len:Int)<(pre.len:Int):=ah;obtain⟨vs,hrow⟩:=HO.o.row;obtain⟨A,cp,rfl,_,_⟩:=hrow.form;have y0:wr.cell? ⟨w.heap.size,0,U⟩=M (I J k):=ay HO.o.box
   have y1:wr.cell? ⟨w.heap.size,1,U⟩=M (I J n):=ay HO.o.box
   have y2:wr.cell? ⟨w.heap.size,2,U⟩=M (I J p):=ay HO.o.box
   have y3:wr.cell? ⟨w.heap.size,3,U⟩=M (I J c):=ay HO.o.box
   have y4:wr.cell? ⟨w.heap.size,4,U⟩=M (V A pre.len cp):=ay HO.o.box
   have hZ:=HO.o.box0;have j0:wr.cell? ⟨w.heap.size+1,0,U⟩=M (I J 0):=ay hZ
   have g0:wr.frozen? ⟨w.heap.size+1,0,U⟩=false:=hZ.frozen _;have j1:wr.cell? ⟨w.heap.size+1,1,U⟩=M (I J 0):=ay hZ
   have g1:wr.frozen? ⟨w.heap.size+1,1,U⟩=false:=hZ.frozen _;have j2:wr.cell? ⟨w.heap.size+1,2,U⟩=M (I J 0):=ay hZ
   have g2:wr.frozen? ⟨w.heap.size+1,2,U⟩=false:=hZ.frozen _;have j3:wr.cell? ⟨w.heap.size+1,3,U⟩=M (I J 0):=ay hZ
   have g3:wr.frozen? ⟨w.heap.size+1,3,U⟩=false:=hZ.frozen _;have j4:wr.cell? ⟨w.heap.size+1,4,U⟩=M (V U 0 0):=ay hZ
   have g4:wr.frozen? ⟨w.heap.size+1,4,U⟩=false:=hZ.frozen _;have d0:=hZ;have d1:=d0.aJ 0 (I J k);have d2:=d1.aJ 1 (I J n);have d3:=d2.aJ 2 (I J p);have d4:=d3.aJ 3 (I J c);have d5:=d4.aJ 4 (V A pre.len cp);have x0:=d1.cell 0;have x1:=d2.cell 1;have x2:=d3.cell 2;have x3:=d4.cell 3;have x4:=d5.cell 4;simp only[eY] at x0 x1 x2 x3 x4
   have HP:=aj HO.o.post;clear hrow hZ d0 d1 d2 d3 d4 d5 HO HE;go_wp2;refine bodyPost_ret (v:=exV k n p c A pre.len cp) (by simp[results,results77,go_sem,x0,x1,x2,x3,x4]) rfl ?_;exact HP.o
  | cons kk n' p' c' aY r=>
   simp only[Es.len] at hj;have hK:=hK ah;subst hK;obtain⟨hel,hr⟩:=HE.o;obtain⟨ahF,e0,e1,e2,e3,K2,jN,b2,o2,e4,hc2,hcm2,hK2,dS⟩:=hel;have hrs:ak (r.size<=ks.size/\aY.size<ks.size):=by
    have:=hsz.o;simp only[Es.size] at this;exact⟨ah,ah⟩
   have sP:ak ((pre.snoc kk n' p' c' aY).app r=ks):=by show _=_;rw[Es.mJ];exact nW.o
   have hjl:(pre.len:Int)<(ks.len:Int):=ah;have hjn:pre.len<ks.len:=ah;obtain⟨vs,hrow⟩:=HO.o.row;obtain⟨Av,cp,rfl,_,_⟩:=hrow.form;have hmax:pre.len+1<=1048577:=ah;have fU:Ix wr.heap.size wr (wr.alloc (Is #[I J kk,I J n',I J p',I J c',V K2 aY.len jN] 33)):=aV;have hkb:=au.new wr 33 [I J kk,I J n',I J p',I J c',V K2 aY.len jN]
   go_upto_region 6 with fail;have hbw:B<=wr.heap.size:=by have:=HO.o.below.size;omega
   have Vl:ak (bJ (wr.alloc (Is #[I J kk,I J n',I J p',I J c',V K2 aY.len jN] 33)).drew B aY K2):=⟨b2,o2,hK2,dS.below (fU.drew.mono hbw)⟩
   have yS:ak (aI (wr.alloc (Is #[I J kk,I J n',I J p',I J c',V K2 aY.len jN] 33)).drew B r b' (o'+pre.len*5+5)):=hr.below (fU.drew.mono hbw);have lg:=aj (HO.o.next fU.drew);have oW:=hrow.below fU.drew;have HNB:ak (∀ g,(V Av pre.len cp).ownBlock=M g->g≠wr.heap.size):=λg hg=>by have:=World.ownsRow.lt hrow.own g hg;omega
   have FT:ak (au (wr.alloc (Is #[I J kk,I J n',I J p',I J c',V K2 aY.len jN] 33)).drew wr.heap.size 33 [I J kk,I J n',I J p',I J c',V K2 aY.len jN]):=hkb.drewN 1;obtain⟨kb,NS⟩:=aD wr.heap.size
   rw[<-NS] at FT HNB ⊢;have hkw:ak (kb<(wr.alloc (Is #[I J kk,I J n',I J p',I J c',V K2 aY.len jN] 33)).drew.heap.size/\w.heap.size+2<=kb):=⟨FT.o.lt,by rw[NS];exact hrow.size⟩
   change Code.wp _ _ _ _ (wr.alloc (Is #[I J kk,I J n',I J p',I J c',V K2 aY.len jN] 33));clear hrow hkb fU HO HE dS hr e0 e1 e2 e3 e4 nW hsz NS hbw;generalize wr.alloc (Is #[I J kk,I J n',I J p',I J c',V K2 aY.len jN] 33)=W1 at *;have iE:=aj oW;clear oW;have qM:ak (B<=W1.drew.heap.size/\B<=w.heap.size+2):=⟨by have:=lg.o.below.size;omega,ah⟩
   have hD:ak (W1.drew.cell? ⟨w.heap.size,4,U⟩=M (V Av pre.len cp)/\W1.drew.cell? ⟨kb,0,U⟩=M (I J kk)/\W1.drew.cell? ⟨kb,1,U⟩=M (I J n')/\W1.drew.cell? ⟨kb,2,U⟩=M (I J p')/\W1.drew.cell? ⟨kb,3,U⟩=M (I J c')/\W1.drew.cell? ⟨kb,4,U⟩=M (V K2 aY.len jN)):=
    ⟨by rw[lg.o.box.cell];rfl,by rw[FT.o.cell];rfl,by rw[FT.o.cell];rfl,by rw[FT.o.cell];rfl,by rw[FT.o.cell];rfl,by rw[FT.o.cell];rfl⟩
   obtain⟨Br,hBr⟩:=aD (w.heap.size+2)
   rw[<-hBr] at iE lg qM hkw;have vQ:=aj hBr;clear hBr;have kM:ak (∀ wx:Iv,Ix Br W1.drew wx->wx.cell? ⟨w.heap.size,4,U⟩=M (V Av pre.len cp)):=λwx hx=>(hx.cell (p:=⟨w.heap.size,4,U⟩) lg.o.b3).trans hD.o.1
   refine aO.start (S:=λwx=>wx.cell? ⟨w.heap.size,4,U⟩=M (V Av pre.len cp)/\wx.cell? ⟨kb,0,U⟩=M (I J kk)/\wx.cell? ⟨kb,1,U⟩=M (I J n')/\wx.cell? ⟨kb,2,U⟩=M (I J p')/\wx.cell? ⟨kb,3,U⟩=M (I J c')/\wx.cell? ⟨kb,4,U⟩=M (V K2 aY.len jN)) 7 aL aL ?xQ (λaA hB=>?_)
   case xQ=>((try dsimp only);exact hD.o)
   generalize W1.drew=wd at *
   iterate 3 (refine aO.tk hB aA ?_;try simp only[aP])
   refine aO.bU (i:=3) rfl bM aL (λK hK=>?_);go_simp
   go_at_call 77
   refine (IH.o aY (by have:=hrs.o;omega) kk n' p' c' K2 jN B wd Vl.o hc2 hcm2 qM.o.1 (by have:=hrs.o;omega)).mono ?_;rintro e w1 ⟨hb1,K',c1,rfl,hc1,wW,hT⟩;have HB1:=aj hb1;have HT:=aj hT;clear hT;refine hK.out _ _ (by (try dsimp only);exact⟨aB aA.1 hb1,aB aA.2.1 hb1,aB aA.2.2.1 hb1,aB aA.2.2.2.1 hb1,aB aA.2.2.2.2.1 hb1,aB aA.2.2.2.2.2 hb1⟩) ?_;clear hK K aA;intro aA
   (try simp only[])
   obtain⟨mM,hW1'⟩:=aD (w1.alloc (Is #[I J kk,I J n',I J p',I J c',V K' aY.len c1] 33))
   have hb2:Ix w1.heap.size w1 mM:=by rw[hW1'];go_grown
   have hC2:au mM w1.heap.size 33 [I J kk,I J n',I J p',I J c',V K' aY.len c1]:=by rw[hW1'];exact au.new _ _ _
   refine aO.bU (i:=4) rfl bM aL (λK hK=>?_);go_simp;change K _ (w1.alloc (Is #[I J kk,I J n',I J p',I J c',V K' aY.len c1] 33));rw[<-hW1'];refine hK.out _ _ (by (try dsimp only);exact⟨aB aA.1 hb2,aB aA.2.1 hb2,aB aA.2.2.1 hb2,aB aA.2.2.2.1 hb2,aB aA.2.2.2.2.1 hb2,aB aA.2.2.2.2.2 hb2⟩) ?_;clear hK K aA;intro aA
   (try simp only[aP])
   have dZ:=aj ((iE.o.below HB1.o).below hb2).own;refine aO.bU (i:=5) rfl bM aL (λK hK=>?_);refine gG rfl (.tmp 16) (.tmp 19) 31 rfl Br 33 i0 (exV 0 0 0 0 U 0 0) 5 56 underlying31 hi hz0 hz1 hz2 rfl bM (V Av pre.len cp) pre.len vs (by simp[Act.eval]) dZ.o ⟨w1.heap.size,0,U⟩ 1 1 [I J kk,I J n',I J p',I J c',V K' aY.len c1] (by simp[Act.eval]) rfl ?afH ?afK ?afN ?afV ?af1 ?_
   case afH=>intro j z hz;rw[addr_add,Mu];exact (hC2.cell j).trans hz
   case afK=>intro z hz;simp only[List.mem_cons,List.not_mem_nil,or_false] at hz;rcases hz with rfl | rfl | rfl | rfl | rfl<;>rfl
   case afN=>unfold I2;omega
   case afV=>omega
   case af1=>have:=(iE.o.below HB1.o).size;have:=hb2.size;omega
   intro v2 w2 hown hg hat;have hkg:∀ i,w2.cell? ⟨kb,i,U⟩=mM.cell? ⟨kb,i,U⟩:=λi=>World.cell?_of_block (hg.block kb (by have:=hkw.o.1;have:=HB1.o.size;have:=hb2.size;omega) (λe=>HNB.o kb e.symm rfl))
   obtain⟨hrow2,hbl⟩:=iM.push iE.o HB1.o HT.o hc1 wW hb2 hown hg hat;obtain⟨A2,c2,rfl,_,_⟩:=hrow2.form;have vO:=aj hbl;have mD:=aj hrow2;clear hown hg hat hrow2;refine hK.out _ _ (by (try dsimp only);exact⟨kM.o w2 hbl,(hkg 0).trans aA.2.1,(hkg 1).trans aA.2.2.1,(hkg 2).trans aA.2.2.2.1,(hkg 3).trans aA.2.2.2.2.1,(hkg 4).trans aA.2.2.2.2.2⟩) ?_;clear hK K aA;intro aA
   (try simp only[aP])
   (refine aO.tk hB aA ?_;try simp only[aP])
   have g4:w2.frozen? ⟨w.heap.size,4,U⟩=false:=au.frozen (t:=33) ((vO.o.block _ lg.o.b3).trans lg.o.box) _;have f4:=aA.1;have oK:=aj (lg.o.push mD.o vO.o);have su:ak (aI (w2.setCell ⟨w.heap.size,4,U⟩ (V A2 (pre.snoc kk n' p' c' aY).len c2)) B r b' (o'+(pre.len+1)*5)):=by
    have h1:=yS.o.below (vO.o.mono (by have:=qM.o;omega));have h2:=h1.below (w':=w2.setCell ⟨w.heap.size,4,U⟩ (V A2 (pre.snoc kk n' p' c' aY).len c2)) ((Jx B w2).setCell (p:=⟨w.heap.size,4,U⟩) (by show B<=w.heap.size;have:=lg.o.b1;omega) (V A2 (pre.snoc kk n' p' c' aY).len c2))
    rwa [show o'+pre.len*5+5=o'+(pre.len+1)*5 by omega] at h2
   clear hC2 hb2 dZ;refine aO.gL rfl aL aL (λK hK=>?_);go_simp;refine hK.out _ _ ?_;clear hK K;generalize w2.setCell ⟨w.heap.size,4,U⟩ (V A2 (pre.snoc kk n' p' c' aY).len c2)=W9 at oK su ⊢;clear aA hB g4 f4 hD vO mD iE lg yS HB1 HT hb1 kM;rw[vQ.o] at oK;clear Vl FT qM hkw;go_wp2
   go_roundw
   case rel=>exact⟨r,pre.snoc kk n' p' c' aY,(V A2 (pre.snoc kk n' p' c' aY).len c2),by rw[Es.dD];go_num,by rw[Es.dD];omega,sP,hrs.o.1,by rw[Es.dD];exact su,oK⟩
   case measure=>simp[intOf];omega
def aiQ(ks:Es):Prop:=∀ (k n p c:Int) (K:Option I3) (cap B r nn:Nat) (σ:Sub) (w:Iv),bJ w B ks K->ks.len<=cap->cap<=I2->B<=w.heap.size->ks.size<=1000->wL w B r nn σ->Lg σ.length ⟨k,n,p,c,ks⟩=true->σ.bd 1000000->σ.length<=1000000 ->
 I0 Tryz.prog 157 #[exV k n p c K ks.len cap,.map (M r)] w (jH (iQ σ ⟨k,n,p,c,ks⟩) w)
theorem Nk(n p c:Int)(xs:Es)(K:Option I3)(cap B r nn:Nat)(σ:Sub)(w:Iv)(hc:xs.len<=cap)(hcm:cap<=I2)(hB:B<=w.heap.size)(hM:wL w B r nn σ)(h0:0<=n)(hl:n.toNat<σ.length)(hbd:σ.bd 1000000)(hsl:σ.length<=1000000) :
  I0 Tryz.prog 157 #[exV 2 n p c K xs.len cap,.map (M r)] w (jH (σ.get n) w):=by
 have hx1:cap<=9223372036854775807:=by unfold I2 at hcm;omega
 have hx3:xs.len<=9223372036854775807:=ah;obtain⟨W0,aZ⟩:=aD ((w.alloc (Is #[.int .i64 2,.int .i64 n,.int .i64 p,.int .i64 c,V K xs.len cap] 33)).alloc (Is #[.int .i64 0,.int .i64 0,.int .i64 0,.int .i64 0,V U 0 0] 33))
 have hb0:Ix w.heap.size w W0:=by rw[aZ];go_grown
 have hs0:W0.heap.size=w.heap.size+2:=by rw[aZ];simp
 have hq1:au W0 w.heap.size 33 [.int .i64 2,.int .i64 n,.int .i64 p,.int .i64 c,V K xs.len cap]:=by
  rw[aZ];exact (au.new w 33 [.int .i64 2,.int .i64 n,.int .i64 p,.int .i64 c,V K xs.len cap]).next aV
 have hq2:au W0 (w.heap.size+1) 33 [.int .i64 0,.int .i64 0,.int .i64 0,.int .i64 0,V U 0 0]:=by
  rw[aZ];have:=au.new (w.alloc (Is #[.int .i64 2,.int .i64 n,.int .i64 p,.int .i64 c,V K xs.len cap] 33)) 33 [.int .i64 0,.int .i64 0,.int .i64 0,.int .i64 0,V U 0 0];simpa using this
 have q0:W0.cell? ⟨w.heap.size,0,U⟩=M (.int .i64 2):=ay hq1
 have q1:W0.cell? ⟨w.heap.size,1,U⟩=M (.int .i64 n):=ay hq1
 have hwf:=ab9 (x:=n) ah ah;have law:Maps.Keyed Tryz.prog 2:=Maps.int_keyed underlying2;have hkey:keyOf Tryz.prog 2 (.int .i64 n)=M (.int .i64 n):=Maps.keyOf_int_mk underlying2 hwf;obtain⟨D,hown,hD⟩:=hM.below hb0 hB;obtain⟨v,ps,hrun,hv⟩:=hown.lookup law underlying210 (aez W0) (Hl 0 0 0 0 U 0 0) hkey;have hval:∃ (K':Option I3) (c':Nat),v=exV (σ.get n).k (σ.get n).n (σ.get n).p (σ.get n).c K' (σ.get n).ks.len c'/\bJ W0 B (σ.get n).ks K'/\(σ.get n).ks.len<=c'/\c'<=I2:=by
  cases hat:σ.at n with
  | none=>
   rw[Maps.atKey_of_not_has (hD.JI hat)] at hv;obtain⟨-,hv2⟩:=uR hv;injection hv2 with hv2 _
   injection hv2 with hv2
   subst hv2;have e:σ.get n=jK:=by unfold Sub.get;rw[hat];rfl
   rw[e];exact⟨U,0,rfl,⟨0,0,λh=>absurd h (by simp[jK,Es.len]),trivial⟩,by simp[jK,Es.len],by unfold I2;omega⟩
  | some z=>
   obtain⟨Kz,cz,ha,hzr,hzc,hzm⟩:=hD.at_ _ _ (BM hat);rw[show ((n.toNat:Nat):Int)=n by omega] at ha;rw[ha] at hv;obtain⟨-,hv2⟩:=uR hv;injection hv2 with hv2 _
   injection hv2 with hv2
   subst hv2;have e:σ.get n=z:=by unfold Sub.get;rw[hat];rfl
   rw[e];exact⟨Kz,cz,rfl,hzr,hzc,hzm⟩
 obtain⟨Kx,cx,rfl,hxs,hxc,hxm⟩:=hval;have hxz:=Sub.yh hbd ah n;obtain⟨x,hx⟩:=aD (σ.get n)
 rw[<-hx] at hrun hxs hxc hxz ⊢;obtain⟨xk,xn,xp,xc,O1⟩:=x;simp only at hrun hxs hxc;have hCL:=Cv (O1.size+1) O1 ah xk xn xp xc Kx cx B W0 hxs hxc hxm (by have:=hb0.size;omega) (by unfold Nd.size at hxz;simp only at hxz;omega);have yY:=aj hCL;have dI:=aj aZ;have HB0:=aj hb0;have y7:=aj hq2;have gQ:=aj hs0;clear hCL aZ hb0 hs0 hq1 hq2 hM hown hD hv hx hxs;go_enter func157,ntmps157
 go_upto_region 1 with fail;rw[<-dI.o];go_upto_region 2 with fail;go_wp2_with fail;refine yY.o.mono ?_;rintro e w1 ⟨hb1,K',c1,rfl,hc1,wW,hT⟩;simp only at hc1 hT;have hZ:=y7.o.next hb1;have j0:w1.cell? ⟨w.heap.size+1,0,U⟩=M (.int .i64 0):=ay hZ
 have g0:w1.frozen? ⟨w.heap.size+1,0,U⟩=false:=hZ.frozen _;have j1:w1.cell? ⟨w.heap.size+1,1,U⟩=M (.int .i64 0):=ay hZ
 have g1:w1.frozen? ⟨w.heap.size+1,1,U⟩=false:=hZ.frozen _;have j2:w1.cell? ⟨w.heap.size+1,2,U⟩=M (.int .i64 0):=ay hZ
 have g2:w1.frozen? ⟨w.heap.size+1,2,U⟩=false:=hZ.frozen _;have j3:w1.cell? ⟨w.heap.size+1,3,U⟩=M (.int .i64 0):=ay hZ
 have g3:w1.frozen? ⟨w.heap.size+1,3,U⟩=false:=hZ.frozen _;have j4:w1.cell? ⟨w.heap.size+1,4,U⟩=M (V U 0 0):=ay hZ
 have g4:w1.frozen? ⟨w.heap.size+1,4,U⟩=false:=hZ.frozen _;have d0:=hZ;have d1:=d0.aJ 0 (.int .i64 xk);have d2:=d1.aJ 1 (.int .i64 xn);have d3:=d2.aJ 2 (.int .i64 xp);have d4:=d3.aJ 3 (.int .i64 xc);have d5:=d4.aJ 4 (V K' O1.len c1);have x0:=d1.cell 0;have x1:=d2.cell 1;have x2:=d3.cell 2;have x3:=d4.cell 3;have x4:=d5.cell 4;simp only[eY] at x0 x1 x2 x3 x4
 clear d0 d1 d2 d3 d4 d5;have HP:ak (jH ⟨xk,xn,xp,xc,O1⟩ w (If (exV xk xn xp xc K' O1.len c1)) (cK w1 (w.heap.size+1) 0 xk xn xp xc (V K' O1.len c1))):=
  ⟨bD _ _ _ _ _ (HB0.o.trans (hb1.mono HB0.o.size)) ah,K',c1,rfl,hc1,wW,(hT.keep (λq q1 q2=>dN _ _ _ _ _ (by have:=gQ.o;omega))).wide (by have:=gQ.o;omega) (by rw[bN];exact Jn _)⟩
 clear hT hb1 hZ;go_wp2;refine bodyPost_ret (v:=exV xk xn xp xc K' O1.len c1) (by simp[results,results157,go_sem,x0,x1,x2,x3,x4]) rfl ?_;exact HP.o
theorem Nj:∀ (m:Nat) (ks:Es),ks.size<m->aiQ ks:=by
 intro m
 induction m with
 | zero=>intro es h;omega
 | succ m ih=>
 intro ks hm k n p c K cap B r nn σ w hKs hc hcm hB hsz0 hM Bw hbd hsl
 by_cases hk:k=2
 ·have hv:=B_ Bw hk
  subst hk;exact Nk n p c ks K cap B r nn σ w hc hcm hB hM hv.1 hv.2 hbd hsl
 obtain⟨i0,hi,hz0,hz1,hz2⟩:=info_parts Tryz.infoE;have IH:=aj ih;clear ih;obtain⟨b',o',hK,hks⟩:=hKs;have fF:cap<=9223372036854775807:=by unfold I2 at hcm;omega
 have hls:=Es.aF ks;have hk2:(k==2)=false:=beq_eq_false_iff_ne.2 hk;have HFN:ak (iQ σ ⟨k,n,p,c,ks⟩=⟨k,n,0,0,gV σ ks⟩):=by show _=_;unfold iQ;exact if_neg hk
 rw[HFN.o];have Co:ak (Iz σ.length ks=true):=by
  unfold Lg at Bw;simp only[Mb] at Bw;exact Bw.2
 have yX:ak (σ.bd 1000000/\σ.length<=1000000):=⟨hbd,hsl⟩
 have HM:=aj hM;obtain⟨W0,aZ⟩:=aD ((w.alloc (Is #[I J k,I J n,I J p,I J c,V K ks.len cap] 33)).alloc (Is #[I J 0,I J 0,I J 0,I J 0,V U 0 0] 33))
 have hb0:Ix w.heap.size w W0:=by rw[aZ];go_grown
 have hs0:W0.heap.size=w.heap.size+2:=by rw[aZ];simp
 have hq1:au W0 w.heap.size 33 [I J k,I J n,I J p,I J c,V K ks.len cap]:=by
  rw[aZ];exact (au.new w 33 [I J k,I J n,I J p,I J c,V K ks.len cap]).next aV
 have hq2:au W0 (w.heap.size+1) 33 [I J 0,I J 0,I J 0,I J 0,V U 0 0]:=by
  rw[aZ];have:=au.new (w.alloc (Is #[I J k,I J n,I J p,I J c,V K ks.len cap] 33)) 33 [I J 0,I J 0,I J 0,I J 0,V U 0 0];simpa using this
 have q0:W0.cell? ⟨w.heap.size,0,U⟩=M (I J k):=ay hq1
 have q1:W0.cell? ⟨w.heap.size,1,U⟩=M (I J n):=ay hq1
 have fU:Ix W0.heap.size W0 (W0.alloc (Is #[I J k,I J n,I J 0,I J 0,V U 0 0] 33)):=aV;have q4:(W0.alloc (Is #[I J k,I J n,I J 0,I J 0,V U 0 0] 33)).cell? ⟨w.heap.size,4,U⟩=M (V K ks.len cap):=by rw[(hq1.next fU).cell];rfl
 have HST:ak (vF w (W0.alloc (Is #[I J k,I J n,I J 0,I J 0,V U 0 0] 33)) (w.heap.size+2) (w.heap.size+1) (w.heap.size+3) k n 0 0 (V U 0 0) .nil):=by
  refine⟨?_,hq2.next fU,⟨[],iM.EA _ _ (by simp[hs0])⟩,aH hb0 fU,ah,ah,ah,ah,ah⟩;have:=au.new W0 33 [I J k,I J n,I J 0,I J 0,V U 0 0]
  rwa [hs0] at this
 have Qv:ak (aI (W0.alloc (Is #[I J k,I J n,I J 0,I J 0,V U 0 0] 33)) B ks b' o'):=hks.below (HST.o.below.mono hB);have dI:=aj aZ;have abp:=aj hs0;clear hq1 hq2 hb0 aZ hks hM Bw hbd fU hs0;go_enter func157,ntmps157;go_upto_region 1 with fail;rw[<-dI.o];go_upto_region 4 with fail;rw[abp.o];change Code.wp _ _ _ _ (W0.alloc (Is #[I J k,I J n,I J 0,I J 0,V U 0 0] 33))
 generalize W0.alloc (Is #[I J k,I J n,I J 0,I J 0,V U 0 0] 33)=W1 at *;go_wp2_with fail;clear q0 q1 q4 dI abp
 go_loopw [24] (λi wr=>∃ (es' pre:Es) (v:I1),i=I J (pre.len:Int)/\pre.len+es'.len=ks.len/\ak (pre.app (gV σ es')=gV σ ks)/\ak (es'.size<=ks.size)/\ak (Iz σ.length es'=true)/\ak (aI wr B es' b' (o'+pre.len*5))/\ak (vF w wr (w.heap.size+2) (w.heap.size+1) (w.heap.size+3) k n 0 0 v pre)) (λi _=>ks.len - (intOf i).toNat)
 case atStart=>
  refine⟨ks,.nil,V U 0 0,by first | rfl | go_num,by simp[Es.len],rfl,Jn _,Co, ?_,HST.o⟩;show aI _ _ _ _ _;simp only[Es.len,Mn,Mm];exact Qv.o
 case round=>
  obtain⟨es',pre,v,rfl,hj,nW,hsz,IW,HE,HO⟩:=hrel;clear HST Qv Co;cases es' with
  | nil=>
   simp only[Es.len] at hj;have hpk:pre=gV σ ks:=by have:=nW.o;rwa [gV,Es.oQ] at this
   have hjl:¬ (pre.len:Int)<(ks.len:Int):=ah;have HPK:=aj hpk;clear hpk;obtain⟨vs,hrow⟩:=HO.o.row;obtain⟨A,cp,rfl,_,_⟩:=hrow.form;have y0:wr.cell? ⟨w.heap.size+2,0,U⟩=M (I J k):=ay HO.o.box
   have y1:wr.cell? ⟨w.heap.size+2,1,U⟩=M (I J n):=ay HO.o.box
   have y2:wr.cell? ⟨w.heap.size+2,2,U⟩=M (I J 0):=ay HO.o.box
   have y3:wr.cell? ⟨w.heap.size+2,3,U⟩=M (I J 0):=ay HO.o.box
   have y4:wr.cell? ⟨w.heap.size+2,4,U⟩=M (V A pre.len cp):=ay HO.o.box
   have hZ:=HO.o.box0;have j0:wr.cell? ⟨w.heap.size+1,0,U⟩=M (I J 0):=ay hZ
   have g0:wr.frozen? ⟨w.heap.size+1,0,U⟩=false:=hZ.frozen _;have j1:wr.cell? ⟨w.heap.size+1,1,U⟩=M (I J 0):=ay hZ
   have g1:wr.frozen? ⟨w.heap.size+1,1,U⟩=false:=hZ.frozen _;have j2:wr.cell? ⟨w.heap.size+1,2,U⟩=M (I J 0):=ay hZ
   have g2:wr.frozen? ⟨w.heap.size+1,2,U⟩=false:=hZ.frozen _;have j3:wr.cell? ⟨w.heap.size+1,3,U⟩=M (I J 0):=ay hZ
   have g3:wr.frozen? ⟨w.heap.size+1,3,U⟩=false:=hZ.frozen _;have j4:wr.cell? ⟨w.heap.size+1,4,U⟩=M (V U 0 0):=ay hZ
   have g4:wr.frozen? ⟨w.heap.size+1,4,U⟩=false:=hZ.frozen _;have d0:=hZ;have d1:=d0.aJ 0 (I J k);have d2:=d1.aJ 1 (I J n);have d3:=d2.aJ 2 (I J 0);have d4:=d3.aJ 3 (I J 0);have d5:=d4.aJ 4 (V A pre.len cp);have x0:=d1.cell 0;have x1:=d2.cell 1;have x2:=d3.cell 2;have x3:=d4.cell 3;have x4:=d5.cell 4;simp only[eY] at x0 x1 x2 x3 x4
   have HP:=aj HO.o.post;clear hrow hZ d0 d1 d2 d3 d4 d5 HO HE;go_wp2;refine bodyPost_ret (v:=exV k n 0 0 A pre.len cp) (by simp[results,results157,go_sem,x0,x1,x2,x3,x4]) rfl ?_;rw[<-HPK.o];exact HP.o
  | cons kk n' p' c' aY r=>
   simp only[Es.len] at hj;have hK:=hK ah;subst hK;obtain⟨hel,hr⟩:=HE.o;obtain⟨ahF,e0,e1,e2,e3,K2,jN,b2,o2,e4,hc2,hcm2,hK2,dS⟩:=hel;have hrs:ak (r.size<=ks.size/\aY.size<ks.size):=by
    have:=hsz.o;simp only[Es.size] at this;exact⟨ah,ah⟩
   have qU:=IW.o;rw[yQ,Mb] at qU;have QF:=aj qU.1;have VF:=aj qU.2;have hjl:(pre.len:Int)<(ks.len:Int):=ah;have hjn:pre.len<ks.len:=ah;obtain⟨vs,hrow⟩:=HO.o.row;obtain⟨Av,cp,rfl,_,_⟩:=hrow.form;have hmax:pre.len+1<=1048577:=ah;have fU:Ix wr.heap.size wr (wr.alloc (Is #[I J kk,I J n',I J p',I J c',V K2 aY.len jN] 33)):=aV
   have hkb:=au.new wr 33 [I J kk,I J n',I J p',I J c',V K2 aY.len jN];go_upto_region 7 with fail;have hbw:B<=wr.heap.size:=by have:=HO.o.below.size;omega
   have Vl:ak (bJ (wr.alloc (Is #[I J kk,I J n',I J p',I J c',V K2 aY.len jN] 33)).drew B aY K2):=⟨b2,o2,hK2,dS.below (fU.drew.mono hbw)⟩
   have yS:ak (aI (wr.alloc (Is #[I J kk,I J n',I J p',I J c',V K2 aY.len jN] 33)).drew B r b' (o'+pre.len*5+5)):=hr.below (fU.drew.mono hbw);have Bh:ak (wL (wr.alloc (Is #[I J kk,I J n',I J p',I J c',V K2 aY.len jN] 33)).drew B _ nn σ):=(HM.o.below HO.o.below hB).below fU.drew hbw;have lg:=aj (HO.o.next fU.drew)
   have oW:=hrow.below fU.drew;have HNB:ak (∀ g,(V Av pre.len cp).ownBlock=M g->g≠wr.heap.size):=λg hg=>by have:=World.ownsRow.lt hrow.own g hg;omega
   have FT:ak (au (wr.alloc (Is #[I J kk,I J n',I J p',I J c',V K2 aY.len jN] 33)).drew wr.heap.size 33 [I J kk,I J n',I J p',I J c',V K2 aY.len jN]):=hkb.drewN 1;obtain⟨kb,NS⟩:=aD wr.heap.size
   rw[<-NS] at FT HNB ⊢;have hkw:ak (kb<(wr.alloc (Is #[I J kk,I J n',I J p',I J c',V K2 aY.len jN] 33)).drew.heap.size/\w.heap.size+3<=kb):=⟨FT.o.lt,by rw[NS];exact hrow.size⟩
   change Code.wp _ _ _ _ (wr.alloc (Is #[I J kk,I J n',I J p',I J c',V K2 aY.len jN] 33));have FP:ak (pre.app (gV σ (.cons kk n' p' c' aY r))=gV σ ks):=nW;rw[wP] at FP;obtain⟨x,hx⟩:=aD (iQ σ ⟨kk,n',p',c',aY⟩)
   rw[<-hx] at FP;have HXX:=aj hx;clear hrow hkb fU HO HE dS hr e0 e1 e2 e3 e4 nW hsz NS hbw qU IW hx;obtain⟨fk,fn,fp,fc,fs⟩:=x;have sP:ak ((pre.snoc fk fn fp fc fs).app (gV σ r)=gV σ ks):=by show _=_;rw[Es.mJ];exact FP.o
   clear FP;generalize wr.alloc (Is #[I J kk,I J n',I J p',I J c',V K2 aY.len jN] 33)=W1 at *;have iE:=aj oW;clear oW;have qM:ak (B<=W1.drew.heap.size/\B<=w.heap.size+3):=⟨by have:=lg.o.below.size;omega,ah⟩
   have hD:ak (W1.drew.cell? ⟨w.heap.size+2,4,U⟩=M (V Av pre.len cp)/\W1.drew.cell? ⟨kb,0,U⟩=M (I J kk)/\W1.drew.cell? ⟨kb,1,U⟩=M (I J n')/\W1.drew.cell? ⟨kb,2,U⟩=M (I J p')/\W1.drew.cell? ⟨kb,3,U⟩=M (I J c')/\W1.drew.cell? ⟨kb,4,U⟩=M (V K2 aY.len jN)):=
    ⟨by rw[lg.o.box.cell];rfl,by rw[FT.o.cell];rfl,by rw[FT.o.cell];rfl,by rw[FT.o.cell];rfl,by rw[FT.o.cell];rfl,by rw[FT.o.cell];rfl⟩
   obtain⟨Br,hBr⟩:=aD (w.heap.size+3)
   rw[<-hBr] at iE lg qM hkw;have vQ:=aj hBr;clear hBr;have kM:ak (∀ wx:Iv,Ix Br W1.drew wx->wx.cell? ⟨w.heap.size+2,4,U⟩=M (V Av pre.len cp)):=λwx hx=>(hx.cell (p:=⟨w.heap.size+2,4,U⟩) lg.o.b3).trans hD.o.1
   refine aO.start (S:=λwx=>wx.cell? ⟨w.heap.size+2,4,U⟩=M (V Av pre.len cp)/\wx.cell? ⟨kb,0,U⟩=M (I J kk)/\wx.cell? ⟨kb,1,U⟩=M (I J n')/\wx.cell? ⟨kb,2,U⟩=M (I J p')/\wx.cell? ⟨kb,3,U⟩=M (I J c')/\wx.cell? ⟨kb,4,U⟩=M (V K2 aY.len jN)) 8 aL aL ?xQ (λaA hB=>?_)
   case xQ=>((try dsimp only);exact hD.o)
   generalize W1.drew=wd at *
   iterate 4 (refine aO.tk hB aA ?_;try simp only[aP])
   refine aO.bU (i:=4) rfl bM aL (λK hK=>?_);go_simp
   go_at_call 157
   have CP:=IH.o aY (by have:=hrs.o;omega) kk n' p' c' K2 jN B _ nn σ wd Vl.o hc2 hcm2 qM.o.1 (by have:=hrs.o;omega) Bh.o QF.o yX.o.1 yX.o.2;rw[<-HXX.o] at CP;refine CP.mono ?_;rintro e w1 ⟨hb1,K',c1,rfl,hc1,wW,hT⟩;have HB1:=aj hb1;have HT:=aj hT;clear hT;refine hK.out _ _ (by (try dsimp only);exact⟨aB aA.1 hb1,aB aA.2.1 hb1,aB aA.2.2.1 hb1,aB aA.2.2.2.1 hb1,aB aA.2.2.2.2.1 hb1,aB aA.2.2.2.2.2 hb1⟩) ?_;clear hK K aA;intro aA
   (try simp only[])
   obtain⟨mM,hW1'⟩:=aD (w1.alloc (Is #[I J fk,I J fn,I J fp,I J fc,V K' fs.len c1] 33))
   have hb2:Ix w1.heap.size w1 mM:=by rw[hW1'];go_grown
   have hC2:au mM w1.heap.size 33 [I J fk,I J fn,I J fp,I J fc,V K' fs.len c1]:=by rw[hW1'];exact au.new _ _ _
   refine aO.bU (i:=5) rfl bM aL (λK hK=>?_);go_simp;change K _ (w1.alloc (Is #[I J fk,I J fn,I J fp,I J fc,V K' fs.len c1] 33));rw[<-hW1'];refine hK.out _ _ (by (try dsimp only);exact⟨aB aA.1 hb2,aB aA.2.1 hb2,aB aA.2.2.1 hb2,aB aA.2.2.2.1 hb2,aB aA.2.2.2.2.1 hb2,aB aA.2.2.2.2.2 hb2⟩) ?_;clear hK K aA;intro aA
   (try simp only[aP])
   have dZ:=aj ((iE.o.below HB1.o).below hb2).own;refine aO.bU (i:=6) rfl bM aL (λK hK=>?_);refine gG rfl (.tmp 29) (.tmp 33) 31 rfl Br 33 i0 (exV 0 0 0 0 U 0 0) 5 56 underlying31 hi hz0 hz1 hz2 rfl bM (V Av pre.len cp) pre.len vs (by simp[Act.eval]) dZ.o ⟨w1.heap.size,0,U⟩ 1 1 [I J fk,I J fn,I J fp,I J fc,V K' fs.len c1] (by simp[Act.eval]) rfl ?afH ?afK ?afN ?afV ?af1 ?_
   case afH=>intro j z hz;rw[addr_add,Mu];exact (hC2.cell j).trans hz
   case afK=>intro z hz;simp only[List.mem_cons,List.not_mem_nil,or_false] at hz;rcases hz with rfl | rfl | rfl | rfl | rfl<;>rfl
   case afN=>unfold I2;omega
   case afV=>omega
   case af1=>have:=(iE.o.below HB1.o).size;have:=hb2.size;omega
   intro v2 w2 hown hg hat;have hkg:∀ i,w2.cell? ⟨kb,i,U⟩=mM.cell? ⟨kb,i,U⟩:=λi=>World.cell?_of_block (hg.block kb (by have:=hkw.o.1;have:=HB1.o.size;have:=hb2.size;omega) (λe=>HNB.o kb e.symm rfl))
   obtain⟨hrow2,hbl⟩:=iM.push iE.o HB1.o HT.o hc1 wW hb2 hown hg hat;obtain⟨A2,c2,rfl,_,_⟩:=hrow2.form;have vO:=aj hbl;have mD:=aj hrow2;clear hown hg hat hrow2;refine hK.out _ _ (by (try dsimp only);exact⟨kM.o w2 hbl,(hkg 0).trans aA.2.1,(hkg 1).trans aA.2.2.1,(hkg 2).trans aA.2.2.2.1,(hkg 3).trans aA.2.2.2.2.1,(hkg 4).trans aA.2.2.2.2.2⟩) ?_;clear hK K aA;intro aA
   (try simp only[aP])
   (refine aO.tk hB aA ?_;try simp only[aP])
   have g4:w2.frozen? ⟨w.heap.size+2,4,U⟩=false:=au.frozen (t:=33) ((vO.o.block _ lg.o.b3).trans lg.o.box) _;have f4:=aA.1;have oK:=aj (lg.o.push mD.o vO.o);have su:ak (aI (w2.setCell ⟨w.heap.size+2,4,U⟩ (V A2 (pre.snoc fk fn fp fc fs).len c2)) B r b' (o'+(pre.len+1)*5)):=by
    have h1:=yS.o.below (vO.o.mono (by have:=qM.o;omega));have h2:=h1.below (w':=w2.setCell ⟨w.heap.size+2,4,U⟩ (V A2 (pre.snoc fk fn fp fc fs).len c2)) ((Jx B w2).setCell (p:=⟨w.heap.size+2,4,U⟩) (by show B<=w.heap.size+2;have:=lg.o.b1;omega) (V A2 (pre.snoc fk fn fp fc fs).len c2))
    rwa [show o'+pre.len*5+5=o'+(pre.len+1)*5 by omega] at h2
   clear hC2 hb2 dZ;refine aO.gL rfl aL aL (λK hK=>?_);go_simp;refine hK.out _ _ ?_;clear hK K;generalize w2.setCell ⟨w.heap.size+2,4,U⟩ (V A2 (pre.snoc fk fn fp fc fs).len c2)=W9 at oK su ⊢;clear aA hB g4 f4 hD vO mD iE lg yS HB1 HT hb1 kM;rw[vQ.o] at oK;clear Vl FT qM hkw Bh;go_wp2
   go_roundw
   case rel=>exact⟨r,pre.snoc fk fn fp fc fs,(V A2 (pre.snoc fk fn fp fc fs).len c2),by rw[Es.dD];go_num,by rw[Es.dD];omega,sP,hrs.o.1,VF,by rw[Es.dD];exact su,oK⟩
   case measure=>simp[intOf];omega
end
end Go.Proofs.YtgfkglhelfkpoaaGreat
