/- Parts of the proof. -/
import Derived.Test.YtgfkglhelfkpoaaGreatRRC
set_option maxRecDepth 100000
set_option maxHeartbeats 4000000
open Go.Proofs.Tryz
open Go.Value renaming int→I,slice→V
open Go.IntKind renaming i64→J
open Option renaming some→M,none→U
open Go.Ending renaming returned→If
open Go.Obj renaming cells→Is
open Go renaming World→Iv,Calls→I0,Value→I1,maxLen→I2,Addr→I3
open Go.RowKit renaming Below→Ix
open Nat renaming le_refl→Jn,add_zero→Mm,zero_mul→Mn,le_trans→Mp,zero_add→Mu
open Go.RowKit.Below renaming refl→Jx
open Int renaming toNat_natCast→Mz
namespace Go.Proofs.YtgfkglhelfkpoaaGreat
section
open Go.RowKit Plain
def Es.yL(es:Es)(i:Int)(x:Nd):Es:=if 0<=i then es.put i.toNat x else es
theorem Es.ZR(i:Int)(x:Nd):Es.nil.yL i x=.nil:=by unfold Es.yL;split<;>rfl
theorem Es.Sw(k n p c:Int)(ks r:Es)(x:Nd):(Es.cons k n p c ks r).yL 0 x=.cons x.k x.n x.p x.c x.ks (r.yL (-1) x):=rfl
theorem Es.Ov(k n p c:Int)(ks r:Es)(i:Int)(x:Nd)(h:i≠0):(Es.cons k n p c ks r).yL i x=.cons k n p c ks (r.yL (i - 1) x):=by
 unfold Es.yL
 by_cases h0:0<=i
 ·obtain⟨j,rfl⟩:=Int.eq_ofNat_of_zero_le h0
  cases j with
  | zero=>exact absurd rfl h
  | succ j=>
   rw[if_pos h0,if_pos ah];have e:((((j+1:Nat):Int) - 1).toNat)=j:=ah;rw[e,Mz];rfl
 ·rw[if_neg h0,if_neg ah]
def ag3(path:List Int):Prop:=∀ (k n p c:Int) (ks:Es) (b o:Nat) (A:Option I3) (pc:Nat) (y:Nd) (b2 o2 B:Nat) (z:Nd) (w:Iv),dF w B k n p c ks b o->dF w B y.k y.n y.p y.c y.ks b2 o2->Ints w A path->path.length<=pc->pc<=I2->B<=w.heap.size->ks.size<=1000000->y.size<=1000000->nodeAt ⟨k,n,p,c,ks⟩ path=M z ->
 I0 Tryz.prog 146 #[ptr b o,V A path.length pc,ptr b2 o2] w (jH (fT ⟨k,n,p,c,ks⟩ y path) w)
theorem SA:ag3 []:=by
 intro k n p c ks b o A pc y b2 o2 B z w hE hY hA hpc hpm hB hz hyz hat;obtain⟨yk,yn,yp,yc,ys⟩:=y;have hx1:pc<=9223372036854775807:=by unfold I2 at hpm;omega
 obtain⟨W0,aZ⟩:=aD (w.alloc (Is #[I J 0,I J 0,I J 0,I J 0,V U 0 0] 33))
 have hb0:Ix w.heap.size w W0:=by rw[aZ];go_grown
 have hq0:au W0 w.heap.size 33 [I J 0,I J 0,I J 0,I J 0,V U 0 0]:=by rw[aZ];exact au.new w 33 _
 have yY:=aj (wZ (ys.size+1) ys ah yk yn yp yc b2 o2 B W0 (dF.below hY (hb0.mono hB)) (Mp hB hb0.size) (by unfold Nd.size at hyz;simp only at hyz;omega));have HB0:=aj hb0;have DY:=aj hq0;have dI:=aj aZ;clear hE hY hA hb0 hq0 aZ;show I0 Tryz.prog 146 #[ptr b o,V A 0 pc,ptr b2 o2] w (jH ⟨yk,yn,yp,yc,ys⟩ w);go_enter func146,ntmps146;go_upto_region 1 with fail
 rw[<-dI.o];go_wp2_with fail;refine yY.o.mono ?_;rintro e w1 ⟨hb1,K',c1,rfl,hc1,wW,hT⟩;simp only at hc1 hT;have hZ:=DY.o.next hb1;have j0:w1.cell? ⟨w.heap.size,0,U⟩=M (I J 0):=ay hZ
 have g0:w1.frozen? ⟨w.heap.size,0,U⟩=false:=hZ.frozen _;have j1:w1.cell? ⟨w.heap.size,1,U⟩=M (I J 0):=ay hZ
 have g1:w1.frozen? ⟨w.heap.size,1,U⟩=false:=hZ.frozen _;have j2:w1.cell? ⟨w.heap.size,2,U⟩=M (I J 0):=ay hZ
 have g2:w1.frozen? ⟨w.heap.size,2,U⟩=false:=hZ.frozen _;have j3:w1.cell? ⟨w.heap.size,3,U⟩=M (I J 0):=ay hZ
 have g3:w1.frozen? ⟨w.heap.size,3,U⟩=false:=hZ.frozen _;have j4:w1.cell? ⟨w.heap.size,4,U⟩=M (V U 0 0):=ay hZ
 have g4:w1.frozen? ⟨w.heap.size,4,U⟩=false:=hZ.frozen _;have d0:=hZ;have d1:=d0.aJ 0 (I J yk);have d2:=d1.aJ 1 (I J yn);have d3:=d2.aJ 2 (I J yp);have d4:=d3.aJ 3 (I J yc);have d5:=d4.aJ 4 (V K' ys.len c1);have x0:=d1.cell 0;have x1:=d2.cell 1;have x2:=d3.cell 2;have x3:=d4.cell 3;have x4:=d5.cell 4;simp only[eY] at x0 x1 x2 x3 x4
 clear d0 d1 d2 d3 d4 d5;have HP:ak (jH ⟨yk,yn,yp,yc,ys⟩ w (If (exV yk yn yp yc K' ys.len c1)) (cK w1 w.heap.size 0 yk yn yp yc (V K' ys.len c1))):=
  ⟨bD _ _ _ _ _ (HB0.o.trans (hb1.mono HB0.o.size)) ah,K',c1,rfl,hc1,wW,(hT.keep (λq q1 q2=>dN _ _ _ _ _ (by have:=DY.o.lt;omega))).wide (by have:=HB0.o.size;omega) (by rw[bN];exact Jn _)⟩
 clear hT hb1 hZ;go_wp2;refine bodyPost_ret (v:=exV yk yn yp yc K' ys.len c1) (by simp[results,results146,go_sem,x0,x1,x2,x3,x4]) rfl ?_;exact HP.o
theorem Sz:∀ (path:List Int),path.length<=1000000->ag3 path:=by
 intro path
 induction path with
 | nil=>intro _;exact SA
 | cons i path ih=>
 intro hpl k n p c ks b o A pc y b2 o2 B z w hE hY hA hpc hpm hB hsz0 hyz hat;obtain⟨u,akT,akU,hu,YR⟩:=mG hat;simp only at akU hu;obtain⟨q,rfl⟩:∃ q:Nat,i=(q:Int):=Int.eq_ofNat_of_zero_le akT;rw[Mz] at hu;have hqk:q<ks.len:=ah;have sW:=Es.dY hu;have HRP:ak (fT ⟨k,n,p,c,ks⟩ y ((q:Int) :: path)=⟨k,n,p,c,ks.put q (fT u y path)⟩):=by
  have:=Dt (x:=⟨k,n,p,c,ks⟩) y (path:=path) (k:=(q:Int)) (by rw[Mz];exact hu);rw[Mz] at this;exact this
 rw[HRP.o];obtain⟨i0,hi,hz0,hz1,hz2⟩:=info_parts Tryz.infoE;simp only[List.length_cons] at hpl hpc;have IH:=aj (ih ah);clear ih;obtain⟨lD,h0,h1,h2,h3,K,cap,b',o',h4,hc,hcm,hK,hks⟩:=hE;have gI:=aj hks;clear hks;have HY:=aj hY;clear hY;have fF:cap<=9223372036854775807:=by unfold I2 at hcm;omega
 have hx1:pc<=9223372036854775807:=by unfold I2 at hpm;omega
 have hbw:b<w.heap.size:=ah;have hls:=Es.aF ks;have aia:(((path.length:Nat):Int)+1==0)=false:=by simp;omega
 have hle1:(1:Int)<=(path.length:Int)+1:=ah;have HU:ak (ks.get? q=M u/\nodeAt u path=M z/\u.ks.size<ks.size/\y.size<=1000000):=⟨hu,YR,sW,hyz⟩
 obtain⟨bA,oA,rfl,hbA,Rz⟩:=hA (by simp);have abe:w.cell? ⟨bA,oA,U⟩=M (I J (q:Int)):=by have:=Rz 0 (q:Int) rfl;rwa [Mm] at this
 obtain⟨AA,hAA⟩:∃ AA:Option I3,(if pc=1 then M (⟨bA,oA,U⟩:I3) else M ⟨bA,oA+1,U⟩)=AA:=⟨_,rfl⟩
 have hA3:Ints w AA path:=λhn=>by
  rw[<-hAA,if_neg ah];exact⟨bA,oA+1,rfl,hbA,λj x hx=>by
   have:=Rz (j+1) x (by simpa using hx)
   rwa [show oA+(j+1)=oA+1+j by omega] at this⟩
 have K8:=aj hA3;obtain⟨xx,GN⟩:=aD (fT u y path)
 rw[<-GN];have HXX:=aj GN;clear hu hat YR sW hA Rz hA3 GN hyz;show I0 Tryz.prog 146 #[ptr b o,V (M ⟨bA,oA,U⟩) (path.length+1) pc,ptr b2 o2] w _;go_enter func146,ntmps146;have hg0:Ix w.heap.size w (w.alloc (Is #[I J 0,I J 0,I J 0,I J 0,V U 0 0] 33)):=aV;go_upto_region 3 with fail;have hn0:au (w.alloc (Is #[I J 0,I J 0,I J 0,I J 0,V U 0 0] 33)) w.heap.size 33 [I J 0,I J 0,I J 0,I J 0,V U 0 0]:=au.new _ _ _
 have hs0:(w.alloc (Is #[I J 0,I J 0,I J 0,I J 0,V U 0 0] 33)).heap.size=w.heap.size+1:=by simp
 change Code.wp _ _ _ _ (w.alloc (Is #[I J 0,I J 0,I J 0,I J 0,V U 0 0] 33));generalize w.alloc (Is #[I J 0,I J 0,I J 0,I J 0,V U 0 0] 33)=W1 at *;have HB1:=aj hg0.drew;have Ti:ak (au W1.drew w.heap.size 33 [I J 0,I J 0,I J 0,I J 0,V U 0 0]):=hn0.drewN 1;have eu:ak (W1.drew.heap.size=w.heap.size+1):=hs0
 have hD:ak (W1.drew.cell? ⟨b,o,U⟩=M (I J k)/\W1.drew.cell? ⟨b,o+1,U⟩=M (I J n)/\W1.drew.cell? ⟨b,o+2,U⟩=M (I J p)/\W1.drew.cell? ⟨b,o+3,U⟩=M (I J c)):=
  ⟨aB h0 hg0.drew,aB h1 hg0.drew,aB h2 hg0.drew,aB h3 hg0.drew⟩
 clear hg0 hn0 hs0;refine aO.start (S:=λwx=>wx.cell? ⟨b,o,U⟩=M (I J k)/\wx.cell? ⟨b,o+1,U⟩=M (I J n)/\wx.cell? ⟨b,o+2,U⟩=M (I J p)/\wx.cell? ⟨b,o+3,U⟩=M (I J c)) 18 aL aL ?xQ (λaA hB=>?_)
 case xQ=>((try dsimp only);exact hD.o)
 iterate 17 (refine aO.tk hB aA ?_;try simp only[aP])
 generalize W1.drew=W2 at *;refine aO.bU (i:=17) rfl bM aL (λK hK=>?_);go_simp;have hb2:Ix W2.heap.size W2 (W2.alloc (Is #[I J 0,I J 0,I J 0,I J 0,V U 0 0] 33)):=aV;refine hK.out _ _ (by (try dsimp only);exact⟨aB aA.1 hb2,aB aA.2.1 hb2,aB aA.2.2.1 hb2,aB aA.2.2.2 hb2⟩) ?_;clear hK K aA;intro aA
 (try simp only[aP])
 refine aO.gL rfl aL aL (λK hK=>?_);go_simp;refine hK.out _ _ ?_;clear hK K;rw[eu.o];have hg3:Ix W2.heap.size W2 (W2.alloc (Is #[I J k,I J n,I J p,I J c,V U 0 0] 33)):=aV;have JN:au (W2.alloc (Is #[I J k,I J n,I J p,I J c,V U 0 0] 33)) (w.heap.size+1) 33 [I J k,I J n,I J p,I J c,V U 0 0]:=by have:=au.new W2 33 [I J k,I J n,I J p,I J c,V U 0 0];rwa [eu.o] at this
 have jw:vF w (W2.alloc (Is #[I J k,I J n,I J p,I J c,V U 0 0] 33)) (w.heap.size+1) w.heap.size (w.heap.size+2) k n p c (V U 0 0) .nil:=⟨JN,Ti.o.next hg3,⟨[],iM.EA _ _ (by have:=hg3.size;have:=JN.lt;omega)⟩,aH HB1.o hg3,ah,ah,ah,ah,ah⟩
 change Exit.then _ _ _ _ (W2.alloc (Is #[I J k,I J n,I J p,I J c,V U 0 0] 33));generalize W2.alloc (Is #[I J k,I J n,I J p,I J c,V U 0 0] 33)=W3 at jw ⊢;have HST:=aj jw;clear hg3 JN jw aA hb2 hB HB1 Ti eu hD;go_wp2
 go_loopw [8] (λi wr=>∃ (es' pre:Es) (v:I1),i=I J (pre.len:Int)/\pre.len+es'.len=ks.len/\ak (pre.app (es'.yL ((q:Int) - pre.len) xx)=ks.put q xx)/\ak (∀ j,es'.get? j=ks.get? (pre.len+j))/\ak (es'.size<=ks.size)/\ak (aI wr B es' b' (o'+pre.len*5))/\ak (vF w wr (w.heap.size+1) w.heap.size (w.heap.size+2) k n p c v pre)) (λi _=>ks.len - (intOf i).toNat)
 case atStart=>
  refine⟨ks,.nil,V U 0 0,by first | rfl | go_num,by simp[Es.len], ?_,(λj=>by simp[Es.len]),Jn _, ?_,HST.o⟩
  ·show Es.yL ks ((q:Int) - ((0:Nat):Int)) xx=_
   unfold Es.yL;rw[if_pos ah]
   congr 1
  ·show aI _ _ _ _ _;simp only[Es.len,Mn,Mm];exact gI.o.below (HST.o.below.mono ah)
 case round=>
  obtain⟨es',pre,v,rfl,hj,nW,hget,hsz,HE,HO⟩:=hrel;have hBw:B<=w.heap.size:=by have:=HST.o.b2;omega
  have h4':wr.cell? ⟨b,o+4,U⟩=M (V K ks.len cap):=(HO.o.below.cell (p:=⟨b,_,U⟩) hbw).trans h4;have P7:wr.cell? ⟨bA,oA,U⟩=M (I J (q:Int)):=(HO.o.below.cell (p:=⟨bA,_,U⟩) hbA).trans abe;cases es' with
  | nil=>
   simp only[Es.len] at hj;have hpk:pre=ks.put q xx:=by have:=nW.o;rwa [Es.ZR,Es.oQ] at this
   have hjl:¬ (pre.len:Int)<(ks.len:Int):=ah;have HPK:=aj hpk;clear hpk;obtain⟨vs,hrow⟩:=HO.o.row;obtain⟨A,cp,rfl,_,_⟩:=hrow.form;have y0:wr.cell? ⟨w.heap.size+1,0,U⟩=M (I J k):=ay HO.o.box
   have y1:wr.cell? ⟨w.heap.size+1,1,U⟩=M (I J n):=ay HO.o.box
   have y2:wr.cell? ⟨w.heap.size+1,2,U⟩=M (I J p):=ay HO.o.box
   have y3:wr.cell? ⟨w.heap.size+1,3,U⟩=M (I J c):=ay HO.o.box
   have y4:wr.cell? ⟨w.heap.size+1,4,U⟩=M (V A pre.len cp):=ay HO.o.box
   have hZ:=HO.o.box0;have j0:wr.cell? ⟨w.heap.size,0,U⟩=M (I J 0):=ay hZ
   have g0:wr.frozen? ⟨w.heap.size,0,U⟩=false:=hZ.frozen _;have j1:wr.cell? ⟨w.heap.size,1,U⟩=M (I J 0):=ay hZ
   have g1:wr.frozen? ⟨w.heap.size,1,U⟩=false:=hZ.frozen _;have j2:wr.cell? ⟨w.heap.size,2,U⟩=M (I J 0):=ay hZ
   have g2:wr.frozen? ⟨w.heap.size,2,U⟩=false:=hZ.frozen _;have j3:wr.cell? ⟨w.heap.size,3,U⟩=M (I J 0):=ay hZ
   have g3:wr.frozen? ⟨w.heap.size,3,U⟩=false:=hZ.frozen _;have j4:wr.cell? ⟨w.heap.size,4,U⟩=M (V U 0 0):=ay hZ
   have g4:wr.frozen? ⟨w.heap.size,4,U⟩=false:=hZ.frozen _;have d0:=hZ;have d1:=d0.aJ 0 (I J k);have d2:=d1.aJ 1 (I J n);have d3:=d2.aJ 2 (I J p);have d4:=d3.aJ 3 (I J c);have d5:=d4.aJ 4 (V A pre.len cp);have x0:=d1.cell 0;have x1:=d2.cell 1;have x2:=d3.cell 2;have x3:=d4.cell 3;have x4:=d5.cell 4;simp only[eY] at x0 x1 x2 x3 x4
   have HP:=aj HO.o.post;clear hrow hZ d0 d1 d2 d3 d4 d5 HO HE;go_wp2;refine bodyPost_ret (v:=exV k n p c A pre.len cp) (by simp[results,results146,go_sem,x0,x1,x2,x3,x4]) rfl ?_;rw[<-HPK.o];exact HP.o
  | cons kk n' p' c' aY r=>
   simp only[Es.len] at hj;have hK:=hK ah;subst hK;obtain⟨JM,hr⟩:=HE.o;have hel:dF wr B kk n' p' c' aY b' (o'+pre.len*5):=JM;clear JM;have hrs:ak (r.size<=ks.size/\aY.size<ks.size):=by
    have:=hsz.o;simp only[Es.size] at this;exact⟨ah,ah⟩
   have aei:ak (∀ j,r.get? j=ks.get? (pre.len+1+j)):=λj=>by
    have:=hget.o (j+1);simp only[Es.get?] at this;rw[this];congr 1;omega
   have afo:ks.get? pre.len=M ⟨kk,n',p',c',aY⟩:=by have:=hget.o 0;simp only[Es.get?,Mm] at this;exact this.symm
   have hjl:(pre.len:Int)<(ks.len:Int):=ah;have hjn:pre.len<ks.len:=ah;obtain⟨vs,hrow⟩:=HO.o.row;obtain⟨Av,cp,rfl,_,_⟩:=hrow.form;have hmax:pre.len+1<=1048577:=ah;have Gz:B<=wr.heap.size:=by have:=HO.o.below.size;omega
   have hdw:Ix wr.heap.size wr wr.drew:=(Jx _ _).drew;have lg:=aj (HO.o.next hdw);have oW:=hrow.below hdw;have lH:=aj (dF.below hel (hdw.mono Gz));have yS:ak (aI wr.drew B r b' (o'+pre.len*5+5)):=hr.below (hdw.mono Gz);have hwd:Ix w.heap.size w wr.drew:=aH HO.o.below hdw;have HYd:=aj (dF.below HY.o (hwd.mono hBw));have HAd:=aj (K8.o.below hwd);have iE:=aj oW
   have qM:ak (B<=wr.drew.heap.size/\B<=w.heap.size+2/\b<w.heap.size/\bA<w.heap.size):=⟨Gz,ah,hbw,hbA⟩
   clear hrow oW HO HE hr hel hsz Gz hdw hget hwd
   by_cases hjq:pre.len=q
   case pos=>
    have hq0:((pre.len:Int)==(q:Int))=true:=by simp;omega
    have hue:u=⟨kk,n',p',c',aY⟩:=by have:=HU.o.1;rw[<-hjq,afo] at this;exact (Option.some.inj this).symm
    have JG:ak (pre.app (.cons xx.k xx.n xx.p xx.c xx.ks (r.yL ((q:Int) - ((pre.len+1:Nat):Int)) xx))=ks.put q xx):=by
     have:=nW.o;rw[show (q:Int) - (pre.len:Int)=0 by omega,Es.Sw] at this;rw[show (q:Int) - ((pre.len+1:Nat):Int)=-1 by omega];exact this
    subst hue;obtain⟨fk,fn,fp,fc,fs⟩:=xx;have sP:ak ((pre.snoc fk fn fp fc fs).app (r.yL ((q:Int) - ((pre.len+1:Nat):Int)) ⟨fk,fn,fp,fc,fs⟩)=ks.put q ⟨fk,fn,fp,fc,fs⟩):=by show _=_;rw[Es.mJ];exact JG.o
    clear nW JG hjq afo;go_upto_region 8 with fail;have hD:ak (wr.drew.cell? ⟨w.heap.size+1,4,U⟩=M (V Av pre.len cp)/\wr.drew.cell? ⟨b,o+4,U⟩=M (V (M ⟨b',o',U⟩) ks.len cap)):=⟨by rw[lg.o.box.cell];rfl,h4'⟩
    clear h4' P7;obtain⟨Br,hBr⟩:=aD (w.heap.size+2)
    rw[<-hBr] at iE lg qM;have vQ:=aj hBr;clear hBr;have kM:ak (∀ wx:Iv,Ix Br wr.drew wx->wx.cell? ⟨w.heap.size+1,4,U⟩=M (V Av pre.len cp)/\wx.cell? ⟨b,o+4,U⟩=M (V (M ⟨b',o',U⟩) ks.len cap)):=λwx hx=>⟨(hx.cell (p:=⟨w.heap.size+1,4,U⟩) lg.o.b3).trans hD.o.1,(hx.cell (p:=⟨b,o+4,U⟩) (by show b<Br;have:=vQ.o;omega)).trans hD.o.2⟩
    refine aO.start (S:=λwx=>wx.cell? ⟨w.heap.size+1,4,U⟩=M (V Av pre.len cp)/\wx.cell? ⟨b,o+4,U⟩=M (V (M ⟨b',o',U⟩) ks.len cap)) 15 aL aL ?Sb0 (λaA hB=>?_)
    case Sb0=>((try dsimp only);exact hD.o)
    generalize wr.drew=wd at *
    iterate 11 (refine aO.tk hB aA ?_;try simp only[aP])
    refine aO.bU (i:=11) rfl bM aL (λK hK=>?_);go_simp
    go_at_call 146
    have CP:=IH.o kk n' p' c' aY b' (o'+pre.len*5) AA (pc - 1) y b2 o2 B z wd lH.o HYd.o HAd.o ah ah qM.o.1 (by have:=hrs.o;omega) HU.o.2.2.2 HU.o.2.1;rw[<-HXX.o] at CP;refine CP.mono ?_;rintro e w1 ⟨hb1,K',c1,rfl,hc1,wW,hT⟩;have HB1:=aj hb1;have HT:=aj hT;clear hT;refine hK.out _ _ (by (try dsimp only);exact⟨aB aA.1 hb1,aB aA.2 hb1⟩) ?_;clear hK K aA;intro aA
    (try simp only[])
    obtain⟨mM,hW1'⟩:=aD (w1.alloc (Is #[I J fk,I J fn,I J fp,I J fc,V K' fs.len c1] 33))
    have hb2:Ix w1.heap.size w1 mM:=by rw[hW1'];go_grown
    have hC2:au mM w1.heap.size 33 [I J fk,I J fn,I J fp,I J fc,V K' fs.len c1]:=by rw[hW1'];exact au.new _ _ _
    refine aO.bU (i:=12) rfl bM aL (λK hK=>?_);go_simp;change K _ (w1.alloc (Is #[I J fk,I J fn,I J fp,I J fc,V K' fs.len c1] 33));rw[<-hW1'];refine hK.out _ _ (by (try dsimp only);exact⟨aB aA.1 hb2,aB aA.2 hb2⟩) ?_;clear hK K aA;intro aA
    (try simp only[aP])
    have dZ:=aj ((iE.o.below HB1.o).below hb2).own;refine aO.bU (i:=13) rfl bM aL (λK hK=>?_);refine gG rfl (.tmp 46) (.tmp 57) 31 rfl Br 33 i0 (exV 0 0 0 0 U 0 0) 5 56 underlying31 hi hz0 hz1 hz2 rfl bM (V Av pre.len cp) pre.len vs (by simp[Act.eval]) dZ.o ⟨w1.heap.size,0,U⟩ 1 1 [I J fk,I J fn,I J fp,I J fc,V K' fs.len c1] (by simp[Act.eval]) rfl ?afI ?afL ?afO ?afW ?af2 ?_
    case afI=>intro j z hz;rw[addr_add,Mu];exact (hC2.cell j).trans hz
    case afL=>intro z hz;simp only[List.mem_cons,List.not_mem_nil,or_false] at hz;rcases hz with rfl | rfl | rfl | rfl | rfl<;>rfl
    case afO=>unfold I2;omega
    case afW=>omega
    case af2=>have:=(iE.o.below HB1.o).size;have:=hb2.size;omega
    intro v2 w2 hown hg hat;obtain⟨hrow2,hbl⟩:=iM.push iE.o HB1.o HT.o hc1 wW hb2 hown hg hat;obtain⟨A2,c2,rfl,_,_⟩:=hrow2.form;have vO:=aj hbl;have mD:=aj hrow2;clear hown hg hat hrow2;refine hK.out _ _ (by (try dsimp only);exact kM.o w2 hbl) ?_;clear hK K aA;intro aA
    (try simp only[aP])
    (refine aO.tk hB aA ?_;try simp only[aP])
    have g4:w2.frozen? ⟨w.heap.size+1,4,U⟩=false:=au.frozen (t:=33) ((vO.o.block _ lg.o.b3).trans lg.o.box) _;have f4:=aA.1;have oK:=aj (lg.o.push mD.o vO.o);have su:ak (aI (w2.setCell ⟨w.heap.size+1,4,U⟩ (V A2 (pre.snoc fk fn fp fc fs).len c2)) B r b' (o'+(pre.len+1)*5)):=by
     have h1:=yS.o.below (vO.o.mono (by have:=qM.o;omega));have h2:=h1.below (w':=w2.setCell ⟨w.heap.size+1,4,U⟩ (V A2 (pre.snoc fk fn fp fc fs).len c2)) ((Jx B w2).setCell (p:=⟨w.heap.size+1,4,U⟩) (by show B<=w.heap.size+1;have:=lg.o.b1;omega) (V A2 (pre.snoc fk fn fp fc fs).len c2))
     rwa [show o'+pre.len*5+5=o'+(pre.len+1)*5 by omega] at h2
    clear hC2 hb2 dZ;refine aO.gL rfl aL aL (λK hK=>?_);go_simp;refine hK.out _ _ ?_;clear hK K;generalize w2.setCell ⟨w.heap.size+1,4,U⟩ (V A2 (pre.snoc fk fn fp fc fs).len c2)=W9 at oK su ⊢;clear aA hB g4 f4 hD vO mD iE lg yS HB1 HT hb1 kM;rw[vQ.o] at oK;clear lH qM HYd HAd;go_wp2
    go_roundw
    case rel=>exact⟨r,pre.snoc fk fn fp fc fs,(V A2 (pre.snoc fk fn fp fc fs).len c2),by rw[Es.dD];go_num,by rw[Es.dD];omega,by rw[Es.dD];exact sP,by rw[Es.dD];exact aei,hrs.o.1,by rw[Es.dD];exact su,oK⟩
    case measure=>simp[intOf];omega
   case neg=>
    have hq0:((pre.len:Int)==(q:Int))=false:=beq_eq_false_iff_ne.2 ah;have JG:ak (pre.app (.cons kk n' p' c' aY (r.yL ((q:Int) - ((pre.len+1:Nat):Int)) xx))=ks.put q xx):=by
     have:=nW.o;rw[Es.Ov _ _ _ _ _ _ _ _ ah] at this;rw[show (q:Int) - ((pre.len+1:Nat):Int)=(q:Int) - (pre.len:Int) - 1 by omega];exact this
    have sP:ak ((pre.snoc kk n' p' c' aY).app (r.yL ((q:Int) - ((pre.len+1:Nat):Int)) xx)=ks.put q xx):=by show _=_;rw[Es.mJ];exact JG.o
    clear nW JG hjq afo;go_upto_region 9 with fail;have hD:ak (wr.drew.cell? ⟨w.heap.size+1,4,U⟩=M (V Av pre.len cp)/\wr.drew.cell? ⟨b,o+4,U⟩=M (V (M ⟨b',o',U⟩) ks.len cap)):=⟨by rw[lg.o.box.cell];rfl,h4'⟩
    clear h4' P7;obtain⟨Br,hBr⟩:=aD (w.heap.size+2)
    rw[<-hBr] at iE lg qM;have vQ:=aj hBr;clear hBr;have kM:ak (∀ wx:Iv,Ix Br wr.drew wx->wx.cell? ⟨w.heap.size+1,4,U⟩=M (V Av pre.len cp)/\wx.cell? ⟨b,o+4,U⟩=M (V (M ⟨b',o',U⟩) ks.len cap)):=λwx hx=>⟨(hx.cell (p:=⟨w.heap.size+1,4,U⟩) lg.o.b3).trans hD.o.1,(hx.cell (p:=⟨b,o+4,U⟩) (by show b<Br;have:=vQ.o;omega)).trans hD.o.2⟩
    refine aO.start (S:=λwx=>wx.cell? ⟨w.heap.size+1,4,U⟩=M (V Av pre.len cp)/\wx.cell? ⟨b,o+4,U⟩=M (V (M ⟨b',o',U⟩) ks.len cap)) 12 aL aL ?Sd0 (λaA hB=>?_)
    case Sd0=>((try dsimp only);exact hD.o)
    generalize wr.drew=wd at *
    iterate 8 (refine aO.tk hB aA ?_;try simp only[aP])
    refine aO.bU (i:=8) rfl bM aL (λK hK=>?_);go_simp
    go_at_call 85
    have CP:=wZ (aY.size+1) aY ah kk n' p' c' b' (o'+pre.len*5) B wd lH.o qM.o.1 (by have:=hrs.o;omega);refine CP.mono ?_;rintro e w1 ⟨hb1,K',c1,rfl,hc1,wW,hT⟩;have HB1:=aj hb1;have HT:=aj hT;clear hT;refine hK.out _ _ (by (try dsimp only);exact⟨aB aA.1 hb1,aB aA.2 hb1⟩) ?_;clear hK K aA;intro aA
    (try simp only[])
    obtain⟨mM,hW1'⟩:=aD (w1.alloc (Is #[I J kk,I J n',I J p',I J c',V K' aY.len c1] 33))
    have hb2:Ix w1.heap.size w1 mM:=by rw[hW1'];go_grown
    have hC2:au mM w1.heap.size 33 [I J kk,I J n',I J p',I J c',V K' aY.len c1]:=by rw[hW1'];exact au.new _ _ _
    refine aO.bU (i:=9) rfl bM aL (λK hK=>?_);go_simp;change K _ (w1.alloc (Is #[I J kk,I J n',I J p',I J c',V K' aY.len c1] 33));rw[<-hW1'];refine hK.out _ _ (by (try dsimp only);exact⟨aB aA.1 hb2,aB aA.2 hb2⟩) ?_;clear hK K aA;intro aA
    (try simp only[aP])
    have dZ:=aj ((iE.o.below HB1.o).below hb2).own;refine aO.bU (i:=10) rfl bM aL (λK hK=>?_);refine gG rfl (.tmp 61) (.tmp 69) 31 rfl Br 33 i0 (exV 0 0 0 0 U 0 0) 5 56 underlying31 hi hz0 hz1 hz2 rfl bM (V Av pre.len cp) pre.len vs (by simp[Act.eval]) dZ.o ⟨w1.heap.size,0,U⟩ 1 1 [I J kk,I J n',I J p',I J c',V K' aY.len c1] (by simp[Act.eval]) rfl ?alh ?alj ?alk ?alm ?alo ?_
    case alh=>intro j z hz;rw[addr_add,Mu];exact (hC2.cell j).trans hz
    case alj=>intro z hz;simp only[List.mem_cons,List.not_mem_nil,or_false] at hz;rcases hz with rfl | rfl | rfl | rfl | rfl<;>rfl
    case alk=>unfold I2;omega
    case alm=>omega
    case alo=>have:=(iE.o.below HB1.o).size;have:=hb2.size;omega
    intro v2 w2 hown hg hat;obtain⟨hrow2,hbl⟩:=iM.push iE.o HB1.o HT.o hc1 wW hb2 hown hg hat;obtain⟨A2,c2,rfl,_,_⟩:=hrow2.form;have vO:=aj hbl;have mD:=aj hrow2;clear hown hg hat hrow2;refine hK.out _ _ (by (try dsimp only);exact kM.o w2 hbl) ?_;clear hK K aA;intro aA
    (try simp only[aP])
    (refine aO.tk hB aA ?_;try simp only[aP])
    have g4:w2.frozen? ⟨w.heap.size+1,4,U⟩=false:=au.frozen (t:=33) ((vO.o.block _ lg.o.b3).trans lg.o.box) _;have f4:=aA.1;have oK:=aj (lg.o.push mD.o vO.o);have su:ak (aI (w2.setCell ⟨w.heap.size+1,4,U⟩ (V A2 (pre.snoc kk n' p' c' aY).len c2)) B r b' (o'+(pre.len+1)*5)):=by
     have h1:=yS.o.below (vO.o.mono (by have:=qM.o;omega));have h2:=h1.below (w':=w2.setCell ⟨w.heap.size+1,4,U⟩ (V A2 (pre.snoc kk n' p' c' aY).len c2)) ((Jx B w2).setCell (p:=⟨w.heap.size+1,4,U⟩) (by show B<=w.heap.size+1;have:=lg.o.b1;omega) (V A2 (pre.snoc kk n' p' c' aY).len c2))
     rwa [show o'+pre.len*5+5=o'+(pre.len+1)*5 by omega] at h2
    clear hC2 hb2 dZ;refine aO.gL rfl aL aL (λK hK=>?_);go_simp;refine hK.out _ _ ?_;clear hK K;generalize w2.setCell ⟨w.heap.size+1,4,U⟩ (V A2 (pre.snoc kk n' p' c' aY).len c2)=W9 at oK su ⊢;clear aA hB g4 f4 hD vO mD iE lg yS HB1 HT hb1 kM;rw[vQ.o] at oK;clear lH qM HYd HAd;go_wp2
    go_roundw
    case rel=>exact⟨r,pre.snoc kk n' p' c' aY,(V A2 (pre.snoc kk n' p' c' aY).len c2),by rw[Es.dD];go_num,by rw[Es.dD];omega,by rw[Es.dD];exact sP,by rw[Es.dD];exact aei,hrs.o.1,by rw[Es.dD];exact su,oK⟩
    case measure=>simp[intOf];omega
def QI(B:Nat)(o:Option Nd)(w:Iv)(e:Ending)(w':Iv):Prop:=
 Dr w w'/\(o=U->∃ b' o',e=If (.tuple #[ptr b' o',.bool false]))/\∀ z,o=M z->∃ b' o',e=If (.tuple #[ptr b' o',.bool true])/\dF w B z.k z.n z.p z.c z.ks b' o'
theorem R5(k n p c:Int)(ks:Es)(b o:Nat)(A:Option I3)(pc:Nat)(zs:List Int)(B:Nat)(w:Iv)(hE:dF w B k n p c ks b o)(hB:B<=w.heap.size)(hz:ks.size<=1000000)(hA:Ints w A zs)(hzl:zs.length<=1048576) :
  I0 Tryz.prog 143 #[ptr b o,V A zs.length pc] w (QI B (nodeAt ⟨k,n,p,c,ks⟩ zs) w):=by
 obtain⟨rr,dG⟩:=aD (nodeAt ⟨k,n,p,c,ks⟩ zs)
 rw[<-dG];have HRR:=aj dG;have HE:=aj hE;have HA:=aj hA;have HZ:=aj hz;clear dG hE hA hz;go_enter func143,ntmps143;go_wp2_with fail
 go_loopg [0,6] (zs.length+1) (λkx s0 s6 wr=>∃ (j:Nat) (yk yn yp yc:Int) (ys:Es) (XU oy:Nat),s6=I J (j:Int)/\s0=ptr XU oy/\j<=zs.length/\zs.length - j<kx/\ak (rr=nodeAt ⟨yk,yn,yp,yc,ys⟩ (zs.drop j))/\ak (ys.size<=1000000)/\ak (dF w B yk yn yp yc ys XU oy)/\ak (Dr w wr))
 case atStart=>exact⟨0,k,n,p,c,ks,b,o,by first | rfl | go_num,rfl,ah,ah,by show _=_;rw[HRR.o,List.drop_zero],HZ,HE,Dr.refl w⟩
 case round=>
  obtain⟨j,yk,yn,yp,yc,ys,XU,oy,rfl,rfl,hjn,hkx,HP,hys,HEy,O9⟩:=hrel;clear HRR HE HZ;have Rw:Ix B w wr:=O9.o.below.mono hB;obtain⟨lD,e0,e1,e2,e3,K,cap,bk,ok,e4,hc,hcm,hK,hks⟩:=HEy.o;have fF:cap<=9223372036854775807:=by unfold I2 at hcm;omega
  have hly:=Es.aF ys;have hlz:ys.len<=1000000:=by have:=hys.o;omega
  have c4:wr.cell? ⟨XU,oy+4,U⟩=M (V K ys.len cap):=(Rw.cell (p:=⟨XU,oy+4,U⟩) lD).trans e4;have gI:=aj hks;clear hks e0 e1 e2 e3 e4
  by_cases hlt:j<zs.length
  ·have hjz:(j:Int)<(zs.length:Int):=ah
   obtain⟨z,hzj⟩:∃ z,zs[j]? = M z:=⟨_,List.getElem?_eq_getElem hlt⟩
   obtain⟨bA,oA,rfl,hbA,Rz⟩:=HA.o ah;have hcz:wr.cell? ⟨bA,oA+j,U⟩=M (I J z):=aB (Rz j z hzj) O9.o.below;have HD:ak (zs.drop j=z :: zs.drop (j+1)):=by
    show _=_;rw[List.drop_eq_getElem_cons hlt]
    congr 1
    exact Option.some.inj ((List.getElem?_eq_getElem hlt).symm.trans hzj)
   have oI:=aj (λwx=>gB z 0 ((ys.len:Int) - 1) wx);have hwv:IntKind.i64.wrap ((ys.len:Int) - 1)=(ys.len:Int) - 1:=by rw[IntKind.wrap_i64];omega
   clear Rz hzj Rw;cases hin:fP z 0 ((ys.len:Int) - 1)
   ·rw[hin] at oI
    have HV:ak (rr=U):=by show _=_;rw[HP.o,HD.o];exact Dk hin
    clear hin HP HD;go_wp2_with fail;go_still_tail 10,aL;change wpList _ _ _ _ _ wr.drew;go_wp2_with fail;refine (oI.o _).mono ?_;rintro e w2 ⟨rfl,rfl⟩;have HD2:ak (Dr w wr.drew):=O9.o.trans (Dr.of _ 1);go_wp2;go_ret2;exact⟨HD2.o,(λ_=>⟨XU,oy,rfl⟩),(λz hz=>by rw[HV.o] at hz;cases hz)⟩
   ·rw[hin] at oI
    have hzr:=bH.1 hin;obtain⟨q,rfl⟩:∃ q:Nat,z=(q:Int):=Int.eq_ofNat_of_zero_le hzr.1;have hq:q<ys.len:=ah;have hqz:(q:Int)<(ys.len:Int):=ah;obtain⟨x,hx⟩:=Es.eG hq;have hK:=hK ah;subst hK;have HX:=aj (gI.o.get hx);have hsx:=Es.dY hx;have mU:ak (rr=nodeAt x (zs.drop (j+1))):=by show _=_;rw[HP.o,HD.o];exact AX hin (by rw[Mz];exact hx)
    obtain⟨xk,xn,xp,xc,xs⟩:=x;simp only at hsx HX;have L8:ak (xs.size<=1000000):=by have:=hys.o;show _<=_;omega
    clear hin HP HD hx gI hzr;go_wp2_with fail;go_still_tail 10,aL;change wpList _ _ _ _ _ wr.drew;go_wp2_with fail;refine (oI.o _).mono ?_;rintro e w2 ⟨rfl,rfl⟩;have HD2:ak (Dr w wr.drew):=O9.o.trans (Dr.of _ 1);have c4n:wr.drew.cell? ⟨XU,oy+4,U⟩=M (V (M ⟨bk,ok,U⟩) ys.len cap):=c4;have akF:wr.drew.cell? ⟨bA,oA+j,U⟩=M (I J (q:Int)):=hcz;clear c4 hcz O9;generalize wr.drew=W2 at *
    go_wp2_with fail;go_quiet (fail);have HD3:ak (Dr w (W2.drewN nq)):=HD2.o.trans (Dr.of _ _);clear c4n akF HD2;generalize W2.drewN nq=W3 at *;go_wp2
    go_roundg (zs.length - (j+1)+1)
    case measure=>omega
    case rel=>exact⟨j+1,xk,xn,xp,xc,xs,bk,ok+q*5,by first | rfl | go_num,rfl,ah,ah,mU,L8,HX,HD3⟩
  ·obtain rfl:j=zs.length:=ah
   have hjz:¬ (zs.length:Int)<(zs.length:Int):=ah;have HV:ak (rr=M ⟨yk,yn,yp,yc,ys⟩):=by show _=_;rw[HP.o,List.drop_length];rfl
   clear Rw;go_wp2;go_ret2;refine⟨O9.o,(λh=>by rw[HV.o] at h;cases h),(λz hz=>?_)⟩;rw[HV.o] at hz;injection hz with hz
   subst hz;exact⟨XU,oy,rfl,HEy.o⟩
theorem afZ(v:Int)(l r:Nd)(b o B:Nat)(w:Iv)(hE:pE w B v l r b o)(hB:B<=w.heap.size)(dh:eF v l r=true) :
  I0 Tryz.prog 144 #[ptr b o] w (d9 (jZ v l r) w):=by
 obtain⟨v0,v3,hsl,yU⟩:=jB dh;have Qy:=aj (akl v l r b o B w hE hB v0 v3 hsl yU);have QG:ak (jZ v l r=(decide ((pG v l r).2=0)&&(pG v l r).1.2.isEmpty)):=rfl;obtain⟨sv,hsv⟩:=aD (jZ v l r)
 rw[<-hsv] at QG ⊢;obtain⟨gv,RH⟩:=aD (pG v l r)
 rw[<-RH] at Qy QG;obtain⟨⟨gu,ts⟩,gc⟩:=gv;simp only at QG;clear hE hsv RH dh;go_enter func144,ntmps144;go_wp2_with fail;refine Qy.o.mono ?_;rintro e w2 ⟨⟨hb2,A2,cp2,rfl,vZ⟩,afp⟩;have pW:=aj hb2;clear hb2 vZ afp Qy
 by_cases TF:gc=0
 ·subst TF
  cases ts with
  | nil=>
   have HV:ak (sv=true):=QG.o;go_wp2;go_ret;exact⟨by rw[HV.o];rfl,pW.o.alloc pW.o.size _⟩
  | cons t ts=>
   have HV:ak (sv=false):=QG.o;have hne:(((t :: ts).length:Int)==0)=false:=by simp;omega
   go_wp2;go_ret;exact⟨by rw[HV.o];simp;omega,pW.o.alloc pW.o.size _⟩
 ·have hgb:(gc==0)=false:=beq_eq_false_iff_ne.2 TF
  have HV:ak (sv=false):=by show _=_;rw[QG.o,decide_eq_false TF];rfl
  clear TF;go_wp2;go_ret;exact⟨by rw[HV.o];rfl,pW.o.alloc pW.o.size _⟩
end
end Go.Proofs.YtgfkglhelfkpoaaGreat
