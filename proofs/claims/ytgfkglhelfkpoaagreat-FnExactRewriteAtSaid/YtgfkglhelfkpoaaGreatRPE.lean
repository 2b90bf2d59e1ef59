/- Parts of the proof. -/
import Derived.Test.YtgfkglhelfkpoaaGreatRPD
import Derived.Test.YtgfkglhelfkpoaaGreatRSK
set_option maxRecDepth 100000
set_option maxHeartbeats 2000000
open Go.Proofs.Tryz
open Go.Value renaming int→I,slice→V
open Go.IntKind renaming i64→J
open Option renaming some→M,none→U
open Go.Ending renaming returned→If
open Go.Obj renaming cells→Is
open Go renaming World→Iv,Calls→I0,Value→I1,maxLen→I2,Addr→I3
open Go.RowKit renaming Below→Ix
open Nat renaming le_refl→Jn,add_zero→Mm,zero_mul→Mn
open Go.RowKit.Below renaming refl→Jx,heap_setCell→J1
open And renaming intro→J0
namespace Go.Proofs.YtgfkglhelfkpoaaGreat
section
open Go.RowKit Plain
abbrev iy (u:Int) (bp op:Nat):List I1:=[ptr bp op,I J u]
def eO(S:Nat->Prop)(bv:Nat)(u:Int)(t:TypeId)(hd:List I1)(r:jD (List av))(g:Nat)(w w3:Iv)(A3:Option I3)(n3 jr:Nat):Prop:=
  (w3.cell? ⟨g,0,U⟩=M (I J 0)/\w3.cell? ⟨g,1,U⟩=M (V U 0 0)/\w3.frozen? ⟨g,0,U⟩=false/\w3.frozen? ⟨g,1,U⟩=false) /\
  ((w3.setCell ⟨g,0,U⟩ (I J u)).cell? ⟨g,0,U⟩=M (I J u)/\((w3.setCell ⟨g,0,U⟩ (I J u)).setCell ⟨g,1,U⟩ (V A3 n3 jr)).cell? ⟨g,1,U⟩=M (V A3 n3 jr)) /\
  dM S bv u t hd r w (If (fJ u A3 n3 jr)) ((w3.setCell ⟨g,0,U⟩ (I J u)).setCell ⟨g,1,U⟩ (V A3 n3 jr))
variable{w w1:Iv}{S:Nat->Prop}{bv g:Nat}{u s' c':Int}{A:Option I3}
theorem fq{t:TypeId}{hd:List I1}{r:jD (List av)}{cap:Nat}{ts:List av}(hP:iK w1 (aS S g) A ts)(dh:aQ u ts=true)(hst:au w1 bv t (hd++[I J s',I J c']))(ho:aC (λq=>q=bv) w w1)(hr:gJ r ts s' c')(hg:w.heap.size<=g)(hb:bv<w.heap.size)
  (hq:au w1 g 86 [I J 0,V U 0 0]):eO S bv u t hd r g w w1 A ts.length cap:=by
 have d1:=hq.aJ 0 (I J u);have d2:=d1.aJ 1 (V A ts.length cap);have x0:=d1.cell 0;have x1:=d2.cell 1;simp only[eY] at x0 x1;exact⟨⟨by rw[hq.cell];rfl,by rw[hq.cell];rfl,hq.frozen _,hq.frozen _⟩,⟨x0,x1⟩,dM.box hP dh hst ho hr hg hb _ _⟩
theorem jv(u c0 s c:Int)(S:Nat->Prop)(bv bp op:Nat)(w:Iv)(hst:au w bv 161 (iy u bp op++[I J s,I J c0]))(h0:0<=u)(h1:u<=12) :
  I0 Tryz.prog 197 #[.pointer (M ⟨bv,0,U⟩),I J c] w (dM S bv u 161 (iy u bp op) (.err (oV c0 c)) w):=by
 have al:=hst.lt;obtain⟨W0,aZ⟩:=aD (w.alloc (Is #[I J 0,V U 0 0] 86))
 have hg:Ix w.heap.size w W0:=by rw[aZ];go_grown
 have hq:au W0 w.heap.size 86 [I J 0,V U 0 0]:=by rw[aZ];exact au.new w _ _
 have hS0:=hst.next hg;have a1:W0.cell? ⟨bv,1,U⟩=M (I J u):=ay hS0
 have a3:W0.cell? ⟨bv,3,U⟩=M (I J c0):=ay hS0
 have z3:W0.frozen? ⟨bv,3,U⟩=false:=hS0.frozen _;have dI:=aj aZ
 by_cases hc:c0=0
 ·have hc1:(c0==0)=true:=by simpa using hc
  obtain⟨W1,kK⟩:=aD (W0.setCell ⟨bv,3,U⟩ (I J c))
  have hs1:W1.heap.size=W0.heap.size:=by rw[kK];simp[World.setCell]
  have hc2:au W1 bv 161 (iy u bp op++[I J s,I J c]):=by rw[kK];exact hS0.aJ 3 _
  have hq1:au W1 w.heap.size 86 [I J 0,V U 0 0]:=by rw[kK];exact hq.far (show w.heap.size≠bv by omega) _
  have ho1:aC (λq=>q=bv) W0 W1:=by rw[kK];exact⟨rfl,rfl,rfl,by simp[World.setCell],λq _ hq=>J1 _ _ _ _ hq⟩
  have hE:eO S bv u 161 (iy u bp op) (.err (oV c0 c)) w.heap.size w W1 U 0 0:=fq (ts:=[]) (iK.nil _ _ _) (Ki h0 h1) hc2 ((aC.of_below hg).trans ho1) (by unfold oV;rw[if_pos hc];rfl) (Jn _) al hq1;obtain⟨⟨k0,k1,q0,q1⟩,⟨y0,y1⟩,dz⟩:=hE;have fI:=aj dz;have b1:W1.cell? ⟨bv,1,U⟩=M (I J u):=ay hc2
  have HW1:=aj kK;clear hst hq hS0 hg hc2 hq1 ho1 aZ kK dz hc hs1;go_enter func197,ntmps197;go_upto_region 1 with fail;rw[<-dI.o];go_upto_region 3 with fail;rw[<-HW1.o];go_wp2;refine bodyPost_ret (v:=fJ u U 0 0) (by simp[results,results197,go_sem,y0,y1]) rfl ?_;exact fI.o
 ·have hc1:(c0==0)=false:=by simpa using hc
  have hE:eO S bv u 161 (iy u bp op) (.err (oV c0 c)) w.heap.size w W0 U 0 0:=fq (ts:=[]) (iK.nil _ _ _) (Ki h0 h1) hS0 (aC.of_below hg) (by unfold oV;rw[if_neg hc];rfl) (Jn _) al hq;obtain⟨⟨k0,k1,q0,q1⟩,⟨y0,y1⟩,dz⟩:=hE;have fI:=aj dz;clear hst hq hS0 hg aZ dz hc;go_enter func197,ntmps197;go_upto_region 1 with fail;rw[<-dI.o];go_wp2;refine bodyPost_ret (v:=fJ u U 0 0) (by simp[results,results197,go_sem,y0,y1]) rfl ?_
  exact fI.o
theorem zY(u:Int)(s c0:Int)(S:Nat->Prop)(bv bp op cap:Nat)(A:Option I3)(R:List av)(ok:Bool)(r:jD (List av))(w:Iv)(hst:au w bv 161 (iy u bp op++[I J s,I J c0]))(hT:iK w S A R)(h0:0<=u)(h1:u<=12)(hl:R.length<=1048576)
  (hgood:ok=true->R.length<=120->aQ u R=true/\gJ r R s c0) (hbad:¬ (ok=true/\R.length<=120)->r=.err (oV c0 3)) :
  I0 Tryz.prog 247 #[.pointer (M ⟨bv,0,U⟩),fJ u A R.length cap,.bool ok] w (dM S bv u 161 (iy u bp op) r w):=by
 have al:=hst.lt;obtain⟨W0,aZ⟩:=aD ((w.alloc (Is #[I J u,V A R.length cap] 86)).alloc (Is #[I J 0,V U 0 0] 86))
 have hg:Ix w.heap.size w W0:=by rw[aZ];go_grown
 have hs0:W0.heap.size=w.heap.size+2:=by rw[aZ];simp
 have hb:au W0 w.heap.size 86 [I J u,V A R.length cap]:=by rw[aZ];exact (au.new w 86 _).next aV
 have hq:au W0 (w.heap.size+1) 86 [I J 0,V U 0 0]:=by
  rw[aZ];have:=au.new (w.alloc (Is #[I J u,V A R.length cap] 86)) 86 [I J 0,V U 0 0];simpa using this
 have hS0:=hst.next hg;have p0:W0.cell? ⟨w.heap.size,0,U⟩=M (I J u):=ay hb
 have p1:W0.cell? ⟨w.heap.size,1,U⟩=M (V A R.length cap):=ay hb
 have dI:=aj aZ;have Tx:iK W0 (aS S (w.heap.size+1)) A R:=(hT.fresh (g:=w.heap.size+1) ah).only (aC.of_below hg);cases ok with
 | false=>
  have HB:=aj (hbad (by simp));have HF:=aj (jv u c0 s 3 (aS S (w.heap.size+1)) bv bp op W0 hS0 h0 h1);have HQ:=aj hq;have HG:=aj hg;clear hst hT hq hS0 hg aZ Tx hb hgood hbad;go_enter func247,ntmps247;go_upto_region 1 with fail;rw[<-dI.o];go_wp2_with fail;refine HF.o.mono ?_;rintro e w1 ⟨v,zs,s',c',rfl,⟨A2,c2,rfl,hp2,hk2⟩,h3,h4,h5⟩;rw[<-HB.o] at h5;have hE:eO S bv u 161 (iy u bp op) r (w.heap.size+1) w w1 A2 zs.length c2:=fq hp2 hk2 h3 ((aC.of_below HG.o).trans h4) h5 ah al ((h4.block _ HQ.o.lt ah).trans HQ.o)
  obtain⟨⟨k0,k1,q0,q1⟩,⟨y0,y1⟩,dz⟩:=hE;have fI:=aj dz;clear dz hp2 hk2 h3 h4 h5 HF;go_wp2;refine bodyPost_ret (v:=fJ u A2 zs.length c2) (by simp[results,results247,go_sem,y0,y1]) rfl ?_;exact fI.o
 | true=>
  by_cases hlen:R.length<=120
  ·obtain⟨dh,hres⟩:=hgood rfl hlen
   have hE:eO S bv u 161 (iy u bp op) r (w.heap.size+1) w W0 A R.length cap:=fq Tx dh hS0 (aC.of_below hg) hres ah al hq;obtain⟨⟨k0,k1,q0,q1⟩,⟨y0,y1⟩,dz⟩:=hE;have fI:=aj dz;have hl2:¬ ((R.length:Int) > 120):=ah;clear hst hT hq hS0 hg aZ Tx hb hgood hbad dz dh hres;go_enter func247,ntmps247;go_upto_region 1 with fail;rw[<-dI.o];go_wp2;refine bodyPost_ret (v:=fJ u A R.length cap) (by simp[results,results247,go_sem,y0,y1]) rfl ?_
   exact fI.o
  ·have HB:=aj (hbad (λh=>hlen h.2))
   have HF:=aj (jv u c0 s 3 (aS S (w.heap.size+1)) bv bp op W0 hS0 h0 h1);have HQ:=aj hq;have HG:=aj hg;have hl2:(R.length:Int) > 120:=ah;clear hst hT hq hS0 hg aZ Tx hb hgood hbad hlen;go_enter func247,ntmps247;go_upto_region 1 with fail;rw[<-dI.o];go_wp2_with fail;refine HF.o.mono ?_;rintro e w1 ⟨v,zs,s',c',rfl,⟨A2,c2,rfl,hp2,hk2⟩,h3,h4,h5⟩;rw[<-HB.o] at h5;have hE:eO S bv u 161 (iy u bp op) r (w.heap.size+1) w w1 A2 zs.length c2:=fq hp2 hk2 h3 ((aC.of_below HG.o).trans h4) h5 ah al ((h4.block _ HQ.o.lt ah).trans HQ.o)
   obtain⟨⟨k0,k1,q0,q1⟩,⟨y0,y1⟩,dz⟩:=hE;have fI:=aj dz;clear dz hp2 hk2 h3 h4 h5 HF;go_wp2;refine bodyPost_ret (v:=fJ u A2 zs.length c2) (by simp[results,results247,go_sem,y0,y1]) rfl ?_;exact fI.o
theorem AZ(u c0 s:Int)(bv bp op b o cap:Nat)(A:Option I3)(ts:List av)(w:Iv)(hst:au w bv 161 (iy u bp op++[I J s,I J c0]))(hx1:w.cell? ⟨b,o+1,U⟩=M (V A ts.length cap))(hT:eX w A ts)(dh:aQ u ts=true) :
  I0 Tryz.prog 246 #[.pointer (M ⟨bv,0,U⟩),ptr b o] w λe w'=>∃ n s' c',e=If (I J n)/\au w' bv 161 (iy u bp op++[I J s',I J c'])/\aC (λq=>q=bv) w w'/\wJ ts s c0 n s' c':=by
 have sW:=bC dh;have HD:=aj (sO b o u A cap ts w hx1 hT dh);have hbl:b<w.heap.size:=World.block_lt_of_cell? _ _ hx1
 by_cases hd:0<kZ ts ts.length
 ·have hn:=(Fv dh).2 hd
  have HN:=aj hn;have HF:=aj (jv u c0 s 4 (λ_=>False) bv bp op w hst sW.1 sW.2.1);generalize kZ ts ts.length=dd at *;clear hst hT dh hn sW;go_enter func246,ntmps246;go_wp2_with fail;refine HD.o.mono ?_;rintro e w' ⟨rfl,rfl⟩;go_wp2_with fail;refine HF.o.mono ?_;rintro e w1 ⟨v,zs,s',c',rfl,_,h3,h4,h5⟩;have HR:ak (∃ n s' c',Ending.returned (I J 0)=If (I J n)/\au w1 bv 161 (iy u bp op++[I J s',I J c'])/\aC (λq=>q=bv) w w1/\wJ ts s c0 n s' c'):=⟨0,s',c',rfl,h3,h4,by unfold wJ;rw[HN.o];exact⟨rfl,h5⟩⟩
  clear h3 h4 h5;go_wp2;go_ret;exact HR.o
 ·have hn:=R_ dh hd
  have HST:=aj hst;have hd2:¬ (kZ ts ts.length > 0):=hd;generalize kZ ts ts.length=dd at *;cases ts with
  | nil=>
   have HN:=aj hn;clear hst hT dh hn sW;go_enter func246,ntmps246;go_wp2_with fail;refine HD.o.mono ?_;rintro e w' ⟨rfl,rfl⟩;go_wp2;go_ret;exact⟨0,s,c0,rfl,HST.o,aC.refl _ _,by unfold wJ;exact⟨rfl,rfl,rfl⟩⟩
  | cons t r=>
   obtain⟨bt,ot,rfl,Iu,hc⟩:=hT (by simp);obtain⟨A1,c1,k0,k1,_,_⟩:=hc 0 t rfl;rw[Mn,Mm] at k1;rw[if_neg (by simp),show aR (t :: r) 0=t from rfl] at hn;have hl:0<(t :: r).length:=by simp
   have HN:=aj hn;obtain⟨n,hnn⟩:∃ n,n=(t :: r).length:=⟨_,rfl⟩
   rw[<-hnn] at hx1 hl;have hli:(0:Int)<(n:Int):=ah;have hl0:((n:Int)==0)=false:=by simp;omega
   obtain⟨tc,htc⟩:=aD t.2
   rw[<-htc] at k1 HN;clear hst hT dh hn sW hc k0 hnn htc;go_enter func246,ntmps246;go_wp2_with fail;refine HD.o.mono ?_;rintro e w' ⟨rfl,rfl⟩;go_wp2;go_ret;exact⟨tc,s,c0,rfl,HST.o,aC.refl _ _,by unfold wJ;rw[HN.o];exact⟨rfl,rfl,rfl⟩⟩
theorem J_(n:Nat):(mk n λ_=>(0:Int))=cO n:=by
 unfold mk cO;refine List.ext_getElem (by simp) λi h1 h2=>by simp
theorem M7(u n:Int)(bv bp op:Nat)(s c0:I1)(w:Iv)(hst:au w bv 161 (iy u bp op++[s,c0]))(h0:0<=u)(h1:u<=12)(_n0:0<=n)(_n1:n<=1000002) :
  I0 Tryz.prog 198 #[.pointer (M ⟨bv,0,U⟩),I J n] w (nR u (bY u n) w):=by
 obtain⟨i0,hi,hz0,hz1,hz2⟩:=info_parts Tryz.infoI;obtain⟨j0,hj,hy0,hy1,f_⟩:=info_parts Tryz.infoT;obtain⟨un,rfl⟩:∃ m:Nat,u=m:=⟨u.toNat,ah⟩
 have Zc:un<=12:=ah;have al:=hst.lt;obtain⟨W0,aZ⟩:=aD ((w.alloc (Is #[I J 0,V U 0 0] 86)).alloc (Is #[I J un,V U 0 0] 86))
 have a1:w.cell? ⟨bv,1,U⟩=M (I J un):=ay hst
 have a1':(w.alloc (Is #[I J 0,V U 0 0] 86)).cell? ⟨bv,1,U⟩=M (I J un):=aB a1 aV;have hg:Ix w.heap.size w W0:=by rw[aZ];go_grown
 have hs0:W0.heap.size=w.heap.size+2:=by rw[aZ];simp
 have hq:au W0 w.heap.size 86 [I J 0,V U 0 0]:=by rw[aZ];exact (au.new w 86 _).next aV
 have hb:au W0 (w.heap.size+1) 86 [I J un,V U 0 0]:=by
  rw[aZ];have:=au.new (w.alloc (Is #[I J 0,V U 0 0] 86)) 86 [I J un,V U 0 0];simpa using this
 have b1:W0.cell? ⟨bv,1,U⟩=M (I J un):=aB a1 hg;have p0:W0.cell? ⟨w.heap.size+1,0,U⟩=M (I J un):=ay hb
 have p1:W0.cell? ⟨w.heap.size+1,1,U⟩=M (V U 0 0):=ay hb
 have dI:=aj aZ
 by_cases hn:n=0
 ·have hnb:(n != 0)=false:=by simpa using hn
  have hc:bY (un:Int) n=[]:=by unfold bY;rw[if_pos hn]
  rw[hc];have d1:=hq.aJ 0 (I J un);have d2:=d1.aJ 1 (V U 0 0);have x0:=d1.cell 0;have x1:=d2.cell 1;simp only[eY] at x0 x1;have k0:W0.cell? ⟨w.heap.size,0,U⟩=M (I J 0):=ay hq
  have k1:W0.cell? ⟨w.heap.size,1,U⟩=M (V U 0 0):=ay hq
  have f0:W0.frozen? ⟨w.heap.size,0,U⟩=false:=hq.frozen _;have f1:W0.frozen? ⟨w.heap.size,1,U⟩=false:=hq.frozen _;have HE:ak (nR un [] w (If (fJ un U 0 0)) ((W0.setCell ⟨w.heap.size,0,U⟩ (I J un)).setCell ⟨w.heap.size,1,U⟩ (V U 0 0))):=by
   have Fa:=(hg.setCell (p:=⟨w.heap.size,0,U⟩) (Jn _) (I J (un:Int))).setCell (p:=⟨w.heap.size,1,U⟩) (Jn _) (V U 0 0);exact⟨U,0,rfl,RT.empty _ _ Fa.size _,Fa⟩
  clear d1 d2 hst hg hq hb aZ hn hc;go_enter func198,ntmps198;go_upto_region 2 with fail;rw[<-dI.o];go_wp2;refine bodyPost_ret (v:=fJ un U 0 0) (by simp[results,results198,go_sem,x0,x1]) rfl ?_;exact HE.o
 ·have hnb:(n != 0)=true:=by simpa using hn
  have HC:ak (bY (un:Int) n=[(cO un,n)]):=by show _=_;unfold bY;rw[if_neg hn];rfl
  have HQ:=aj hq;have HB:=aj hb;have HG:=aj hg;have HUP:ak (∀ wx,Ix W0.heap.size W0 wx->wx.cell? ⟨bv,1,U⟩=M (I J un)/\wx.cell? ⟨w.heap.size+1,1,U⟩=M (V U 0 0)/\wx.frozen? ⟨w.heap.size+1,1,U⟩=false/\wx.cell? ⟨w.heap.size+1,0,U⟩=M (I J un)):=λwx hx=>⟨aB b1 hx,aB p1 hx,(hb.next hx).frozen _,aB p0 hx⟩
  have HZ0:=aj hs0;clear hst hg hq hb aZ hn a1 p0 p1 hs0;go_enter func198,ntmps198;go_upto_region 2 with fail;rw[<-dI.o];go_wp2
  go_loopw [6,7] (λo i wr=>∃ (k:Nat) (Av:Option I3) (cp:Nat),k<=un/\i=I J (k:Int)/\o=V Av k cp/\ak (bg wr W0.heap.size (V Av k cp) (mk k λ_=>0))/\ak (Ix W0.heap.size W0 wr)) (λ_ i _=>un - (intOf i).toNat)
  case atStart=>exact⟨0,_,_,ah,bE,rfl,KC W0 _,by show Ix _ _ _;go_grown⟩
  case round=>
   clear b1;obtain⟨k,Av,cp,hk,rfl,rfl,HR,jF⟩:=hrel;obtain⟨b1,b2,b3,b4⟩:=HUP.o wr jF.o;have amj:bv<wr.heap.size:=by have:=jF.o.size;have:=HZ0.o;omega
   by_cases hlt:k<un
   ·have hki:(k:Int)<(un:Int):=ah
    go_wp2_with (at_builtin;refine wpList_append_own _ rfl _ _ 28 rfl W0.heap.size 2 i0 (I J 0) 1 8 underlying28 hi hz0 hz1 hz2 rfl bM _ k _ rfl ((HR.o.afM (iV _ _).symm).alloc _) ⟨wr.heap.size,0,U⟩ 1 1 [I J 0] rfl rfl ?c1 ?c2 ?c3 ?c4 ?c5 ?_)
    try (case c1=>exact cell_one_new _ _ _)
    try (case c2=>first | rfl | (intro u hu;simp at hu;subst hu;rfl))
    case c3=>unfold I2;omega
    case c4=>omega
    case c5=>have:=jF.o.size;simp;try omega
    intro v2 w2 hown TG _;obtain⟨⟨A2,c2,rfl⟩,hr2,hb2⟩:=Qn (F:=λ_=>(0:Int)) HR.o jF.o aV rfl hown TG;have sj:=aj hr2;have HB2:=aj hb2;clear hr2 hb2 hown TG HR jF b1 b2 b3 b4;go_wp2
    go_roundw
    case rel=>exact⟨k+1,A2,c2,ah,bE,rfl,sj.o,HB2.o⟩
    case measure=>simp[intOf];omega
   ·obtain rfl:k=un:=ah
    have hrow:bg wr W0.heap.size (V Av k cp) (cO k):=by have:=HR.o;rwa [J_] at this
    have iE:=aj hrow;have hwl:w.heap.size+1<wr.heap.size:=by have:=jF.o.size;have:=HZ0.o;omega
    have hz2:W0.heap.size<=w.heap.size+2/\w.heap.size+2<=W0.heap.size:=by have:=HZ0.o;omega
    obtain⟨us0,Ir⟩:=gT.EA W0 W0.heap.size;obtain rfl:us0=[]:=List.length_eq_zero_iff.1 Ir.len;have L6:=aj Ir;clear hrow Ir HR;go_wp2_with (at_builtin;refine wpList_append_own _ rfl _ _ 84 rfl W0.heap.size 173 j0 (.agg #[V U 0 0,I J 0]) 2 32 underlying84 hj hy0 hy1 f_ rfl bM _ 0 [] rfl (World.ownsRow_nil _ _ _ _) ⟨wr.heap.size,0,U⟩ 1 1 [V Av k cp,I J n] rfl rfl ?d1 ?d2 ?d3 ?d4 ?d5 ?_)
    try (case d1=>exact sM _ _ _ _)
    try (case d2=>first | rfl | (intro u hu;simp at hu;rcases hu with rfl | rfl<;>rfl))
    case d3=>unfold I2;omega
    case d4=>omega
    case d5=>have:=jF.o.size;simp;try omega
    intro v2 w2 hown TG _;have hba:Ix wr.heap.size wr (wr.alloc (Is #[V Av k cp,I J n] 173)):=aV;obtain⟨hT,hbl⟩:=iF.push (ts:=[]) (us:=[]) (Av:=U) (cp:=0) (t:=(cO k,n)) (u:=V Av k cp) L6.o (Jn _) (jF.o.trans (hba.mono jF.o.size)) (iE.o.alloc _) hown TG;obtain⟨A2,c2,rfl⟩:=hT.form;have hq2:au w2 w.heap.size 86 [I J 0,V U 0 0]:=HQ.o.next hbl
    have hp2:au w2 (w.heap.size+1) 86 [I J k,V U 0 0]:=HB.o.next hbl;obtain⟨W3,jw⟩:=aD (w2.setCell ⟨w.heap.size+1,1,U⟩ (V A2 1 c2))
    have hs3:W3.heap.size=w2.heap.size:=by rw[jw];simp[World.setCell]
    have hp3:au W3 (w.heap.size+1) 86 [I J k,V A2 1 c2]:=by rw[jw];exact hp2.aJ 1 _
    have hq3:au W3 w.heap.size 86 [I J 0,V U 0 0]:=by rw[jw];exact hq2.far (by simp;try omega) _
    have m1:w2.cell? ⟨w.heap.size+1,1,U⟩=M (V U 0 0):=ay hp2
    have mf:w2.frozen? ⟨w.heap.size+1,1,U⟩=false:=hp2.frozen _;have r0:W3.cell? ⟨w.heap.size+1,0,U⟩=M (I J k):=ay hp3
    have r1:W3.cell? ⟨w.heap.size+1,1,U⟩=M (V A2 1 c2):=ay hp3
    have d1:=hq3.aJ 0 (I J k);have d2:=d1.aJ 1 (V A2 1 c2);have x0:=d1.cell 0;have x1:=d2.cell 1;simp only[eY] at x0 x1;have k0:W3.cell? ⟨w.heap.size,0,U⟩=M (I J 0):=ay hq3
    have k1:W3.cell? ⟨w.heap.size,1,U⟩=M (V U 0 0):=ay hq3
    have f0:W3.frozen? ⟨w.heap.size,0,U⟩=false:=hq3.frozen _;have f1:W3.frozen? ⟨w.heap.size,1,U⟩=false:=hq3.frozen _;have HE:ak (nR k (bY k n) w (If (fJ k A2 1 c2)) ((W3.setCell ⟨w.heap.size,0,U⟩ (I J k)).setCell ⟨w.heap.size,1,U⟩ (V A2 1 c2))):=by
     rw[show nR k (bY k n)=nR k [(cO k,n)] by rw[HC.o]];have hO:aC (λq=>q=w.heap.size∨q=w.heap.size+1) w2 ((W3.setCell ⟨w.heap.size,0,U⟩ (I J k)).setCell ⟨w.heap.size,1,U⟩ (V A2 1 c2)):=by
      rw[jw];exact⟨rfl,rfl,rfl,by simp[World.setCell],λq _ hq=>((J1 _ _ _ _ (λe=>hq (.inl e))).trans (J1 _ _ _ _ (λe=>hq (.inl e)))).trans (J1 _ _ _ _ (λe=>hq (.inr e)))⟩
     have hrt:=(hT.only hO (λq hq e=>by rcases e with e | e<;>omega)).rt (cap:=c2) (A:=A2) (by have:=hO.size;have:=hbl.size;omega);have hb2:Ix w.heap.size w w2:=HG.o.trans (hbl.mono ah);have hbf:Ix w.heap.size w ((W3.setCell ⟨w.heap.size,0,U⟩ (I J k)).setCell ⟨w.heap.size,1,U⟩ (V A2 1 c2)):=hb2.trans (hO.below hb2.size (λq hq=>by rcases hq with e | e<;>omega));exact⟨A2,c2,rfl,RT.Di hrt ah ah,hbf⟩
    have HW3:=aj jw;clear d1 d2 hq2 hp2 hq3 hp3 hT hbl hown TG hba jw hs3 iE L6 jF b1 b2 b3 b4;go_upto_region 9 with fail;rw[<-HW3.o];go_wp2;refine bodyPost_ret (v:=fJ k A2 1 c2) (by simp[results,results198,go_sem,x0,x1]) rfl ?_;exact HE.o
structure iP (w:Iv) (B:Nat) (S:Nat->Prop) (u:Int) (P:List Fn) (fn:Int) (x:Nd) (b o:Nat) (A:Option I3) (env:List (List av)) (aW:Nat):Prop where
 node:dF w B x.k x.n x.p x.c x.ks b o
 qj:fK w S u A env
 el:env.length<=aW
 em:aW<=I2
 big:env.length+x.ks.depth<=1000000
 size:x.ks.size<=400
 form:formed P fn env.length x=true
 f0:0<=fn
 f1:fn<=P.length
variable{B b o aW:Nat}{P:List Fn}{fn:Int}{x:Nd}{env:List (List av)}
theorem iP.parts(h:iP w B S u P fn x b o A env aW):∃ K cap bk ok,b<B/\w.cell? ⟨b,o,U⟩=M (I J x.k)/\w.cell? ⟨b,o+1,U⟩=M (I J x.n)/\w.cell? ⟨b,o+2,U⟩=M (I J x.p)/\w.cell? ⟨b,o+3,U⟩=M (I J x.c) /\
  w.cell? ⟨b,o+4,U⟩=M (V K x.ks.len cap)/\cap<=9223372036854775807/\x.ks.len<=cap/\(0<x.ks.len->K=M ⟨bk,ok,U⟩)/\∀ i y,x.ks.get? i=M y->dF w B y.k y.n y.p y.c y.ks bk (ok+i*5):=by
 obtain⟨hb,h0,h1,h2,h3,K,cap,b',o',h4,hc,hm,hK,hk⟩:=h.node;exact⟨K,cap,b',o',hb,h0,h1,h2,h3,h4,by unfold I2 at hm;omega,hc,hK,λi y hy=>hk.get hy⟩
variable{w':Iv}
theorem iP.kid{y:Nd}{bk ok:Nat}{j:Nat}(h:iP w B S u P fn x b o A env aW)(ho:aC S w w')(hg:w.heap.size<=g)
  (hy:x.ks.get? j=M y) (hk:x.k≠9∨j≠1) (hE:dF w' B y.k y.n y.p y.c y.ks bk ok):iP w' B (aS S g) u P fn y bk ok A env aW:=by
 have hf:=kr h.form hy;have GJ:bQ x.k env.length j=env.length:=by
  rcases hk with hk | hk
  ·exact eD hk
  ·exact wY hk
 rw[GJ] at hf;have hd:=Es.iG hy;have hs:=Es.dY hy;exact⟨hE,h.qj.fresh ho hg,h.el,h.em,by have:=h.big;omega,by have:=h.size;omega,hf,h.f0,h.f1⟩
theorem iP.self(h:iP w B S u P fn x b o A env aW)(ho:aC S w w')(hb:Ix B w w')(hg:w.heap.size<=g):iP w' B (aS S g) u P fn x b o A env aW:=
 ⟨h.node.below hb,h.qj.fresh ho hg,h.el,h.em,h.big,h.size,h.form,h.f0,h.f1⟩
def rG(P:List Fn)(u:Int)(f:Nat):Prop:=∀ (x:Nd) (env:List (List av)) (s:Int) (t:Nat) (c0 fn:Int) (b o B:Nat) (S:Nat->Prop) (bv:Nat) (A:Option I3) (aW bp op:Nat) (w:Iv),qd w B bv 1 P bp op->ni w B S bv u->au w bv 161 (iy u bp op++[I J s,I J c0])->(c0=0->s=(t:Int)/\t<=3000/\3001<=t+f) ->
 iP w B S u P fn x b o A env aW ->
 I0 Tryz.prog 123 #[.pointer (M ⟨bv,0,U⟩),ptr b o,V A env.length aW] w (dM S bv u 161 (iy u bp op) (om u P f c0 x env t) w)
theorem CJ(u:Int)(env:List (List av))(s c0:Int)(b o B:Nat)(S:Nat->Prop)(bv:Nat)(A:Option I3)(aW bp op:Nat)(w:Iv)(hS:ni w B S bv u)(hst:au w bv 161 (iy u bp op++[I J s,I J c0]))(hc:c0≠0) :
  I0 Tryz.prog 123 #[.pointer (M ⟨bv,0,U⟩),ptr b o,V A env.length aW] w (dM S bv u 161 (iy u bp op) (.err c0) w):=by
 have al:=hst.lt;obtain⟨W0,aZ⟩:=aD (w.alloc (Is #[I J 0,V U 0 0] 86))
 have hg:Ix w.heap.size w W0:=by rw[aZ];go_grown
 have hq:au W0 w.heap.size 86 [I J 0,V U 0 0]:=by rw[aZ];exact au.new w _ _
 have hS0:=hst.next hg;have a3:W0.cell? ⟨bv,3,U⟩=M (I J c0):=ay hS0
 have hl0:bv<W0.heap.size:=hS0.lt;have hc1:(c0 != 0)=true:=by simpa using hc
 have hF:oV c0 c0=c0:=if_neg hc;have HF:=aj (jv u c0 s c0 (aS S w.heap.size) bv bp op W0 hS0 hS.u0 hS.u1);rw[hF] at HF;have dI:=aj aZ;have HQ:=aj hq;have HG:=aj hg;clear hst hS hq hg hS0 aZ hc hF;go_enter func123,ntmps123;go_upto_region 1 with fail;rw[<-dI.o];go_wp2_with fail;refine HF.o.mono ?_;rintro e w1 ⟨v,zs,s',c',rfl,⟨A2,c2,rfl,hp2,hk2⟩,h3,h4,h5⟩;have hE:eO S bv u 161 (iy u bp op) (.err c0) w.heap.size w w1 A2 zs.length c2:=fq hp2 hk2 h3 ((aC.of_below HG.o).trans h4) h5 (Jn _) al ((h4.block _ HQ.o.lt ah).trans HQ.o)
 clear hp2 hk2 h3 h4 h5 HF;obtain⟨⟨c0,c1,q0,q1⟩,⟨y0,y1⟩,dz⟩:=hE;have fI:=aj dz;clear dz;go_wp2;refine bodyPost_ret (v:=fJ u A2 zs.length c2) (by simp[results,results123,go_sem,y0,y1]) rfl ?_;exact fI.o
theorem Nh(u:Int)(env:List (List av))(b o B:Nat)(S:Nat->Prop)(bv:Nat)(A:Option I3)(aW bp op:Nat)(w:Iv)(hS:ni w B S bv u)(hst:au w bv 161 (iy u bp op++[I J (3000:Nat),I J 0])) :
  I0 Tryz.prog 123 #[.pointer (M ⟨bv,0,U⟩),ptr b o,V A env.length aW] w (dM S bv u 161 (iy u bp op) (.err 7) w):=by
 have al:=hst.lt;obtain⟨W0,aZ⟩:=aD (w.alloc (Is #[I J 0,V U 0 0] 86))
 have hg:Ix w.heap.size w W0:=by rw[aZ];go_grown
 have hq:au W0 w.heap.size 86 [I J 0,V U 0 0]:=by rw[aZ];exact au.new w _ _
 have hS0:=hst.next hg;have a2:W0.cell? ⟨bv,2,U⟩=M (I J 3000):=ay hS0
 have a3:W0.cell? ⟨bv,3,U⟩=M (I J 0):=ay hS0
 have hl0:bv<W0.heap.size:=hS0.lt;have HF:=aj (jv u 0 (3000:Nat) 7 (aS S w.heap.size) bv bp op W0 hS0 hS.u0 hS.u1);have dI:=aj aZ;have HQ:=aj hq;have HG:=aj hg;clear hst hS hq hg hS0 aZ;go_enter func123,ntmps123;go_upto_region 1 with fail;rw[<-dI.o];go_wp2_with fail;refine HF.o.mono ?_;rintro e w1 ⟨v,zs,s',c',rfl,⟨A2,c2,rfl,hp2,hk2⟩,h3,h4,h5⟩;have hE:eO S bv u 161 (iy u bp op) (.err 7) w.heap.size w w1 A2 zs.length c2:=fq hp2 hk2 h3 ((aC.of_below HG.o).trans h4) h5 (Jn _) al ((h4.block _ HQ.o.lt ah).trans HQ.o)
 clear hp2 hk2 h3 h4 h5 HF;obtain⟨⟨c0,c1,q0,q1⟩,⟨y0,y1⟩,dz⟩:=hE;have fI:=aj dz;clear dz;go_wp2;refine bodyPost_ret (v:=fJ u A2 zs.length c2) (by simp[results,results123,go_sem,y0,y1]) rfl ?_;exact fI.o
structure ajZ (w W:Iv) (B:Nat) (S:Nat->Prop) (bv:Nat) (u:Int) (P:List Fn) (bp op s:Nat):Prop where
 ev:qd W B bv 1 P bp op
 si:ni W B (aS S w.heap.size) bv u
 st:au W bv 161 (iy u bp op++[I J ((s+1:Nat):Int),I J 0])
 only:aC (λq=>q=bv) w W
 rb:au W w.heap.size 86 [I J 0,V U 0 0]
 size:W.heap.size=w.heap.size+1
theorem uQ{bp op s:Nat}(hI:qd w B bv 1 P bp op)(hS:ni w B S bv u)(hst:au w bv 161 (iy u bp op++[I J s,I J 0])) :
  ajZ w ((w.alloc (Is #[I J 0,V U 0 0] 86)).setCell ⟨bv,2,U⟩ (I J ((s:Int)+1))) B S bv u P bp op s:=by
 have hl:=hI.lt;have hB:=hI.blow;have hg:Ix w.heap.size w (w.alloc (Is #[I J 0,V U 0 0] 86)):=aV;have hsz:((w.alloc (Is #[I J 0,V U 0 0] 86)).setCell ⟨bv,2,U⟩ (I J ((s:Int)+1))).heap.size=w.heap.size+1:=by simp[World.setCell]
 have ho1:aC (λq=>q=bv) (w.alloc (Is #[I J 0,V U 0 0] 86)) ((w.alloc (Is #[I J 0,V U 0 0] 86)).setCell ⟨bv,2,U⟩ (I J ((s:Int)+1))):=⟨rfl,rfl,rfl,by simp[World.setCell],λq _ hq=>J1 _ _ _ _ hq⟩
 have ho:=(aC.of_below (S:=λq=>q=bv) hg).trans ho1;exact⟨hI.only ho,hS.fresh ah (Jn _) ah ah,(hst.next hg).aJ 2 (I J ((s:Int)+1)),ho,(au.new w 86 _).far (show w.heap.size≠bv by omega) _,hsz⟩
theorem Q9(P:List Fn)(x:Nd)(u:Int)(env:List (List av))(t:Nat)(fn:Int)(b o B:Nat)(S:Nat->Prop)(bv:Nat)(A:Option I3)(aW bp op:Nat)(w:Iv)(hI:qd w B bv 1 P bp op)(hS:ni w B S bv u)(hst:au w bv 161 (iy u bp op++[I J t,I J 0]))(hN:iP w B S u P fn x b o A env aW)(hs:t<3000)(hk:x.k=1)(x0:0<=x.n)(x1:x.n<=1000002) :
  I0 Tryz.prog 123 #[.pointer (M ⟨bv,0,U⟩),ptr b o,V A env.length aW] w (dM S bv u 161 (iy u bp op) (.ok (bY u x.n) (t+1)) w):=by
 have al:=hI.lt;have hB:=hI.blow;have u0:=hS.u0;have u1:=hS.u1;have hQ:=uQ hI hS hst;obtain⟨W0,aZ⟩:=aD (w.alloc (Is #[I J 0,V U 0 0] 86))
 obtain⟨W1,kK⟩:∃ W1,W1=W0.setCell ⟨bv,2,U⟩ (I J ((t:Int)+1)):=⟨_,rfl⟩
 rw[<-aZ,<-kK] at hQ;have hg0:Ix w.heap.size w W0:=by rw[aZ];go_grown
 have hS0:=hst.next hg0;have Nz:bv<W0.heap.size:=hS0.lt;have a2:W0.cell? ⟨bv,2,U⟩=M (I J t):=ay hS0
 have a3:W0.cell? ⟨bv,3,U⟩=M (I J 0):=ay hS0
 have z2:W0.frozen? ⟨bv,2,U⟩=false:=hS0.frozen _;have e1:((t:Int)==3000)=false:=by simp;omega
 obtain⟨K,cap,bk,ok,lD,k0,k1,k2,k3,k4,hcap,hlc,hK,iI⟩:=hN.parts;have hbw:b<w.heap.size:=ah;have hbn:b≠bv:=ah;have j0:W1.cell? ⟨b,o,U⟩=M (I J x.k):=(hQ.only.cell (a:=⟨b,_,U⟩) hbw hbn).trans k0;have j1:W1.cell? ⟨b,o+1,U⟩=M (I J x.n):=(hQ.only.cell (a:=⟨b,_,U⟩) hbw hbn).trans k1;have j4:W1.cell? ⟨b,o+4,U⟩=M (V K x.ks.len cap):=(hQ.only.cell (a:=⟨b,_,U⟩) hbw hbn).trans k4
 have hbW:b<W1.heap.size:=by have:=hQ.only.size;omega
 have dI:=aj aZ;have HW1:=aj kK;have HQ:=aj hQ;have y5:=aj iI;rw[hk] at j0;have HC:=aj (M7 u x.n bv bp op _ _ W1 hQ.st u0 u1 x0 x1);clear hN;clear hI hst aZ kK hQ hg0 hS0 iI k0 k1 k2 k3 k4;go_enter func123,ntmps123;go_upto_region 1 with fail;rw[<-dI.o];go_upto_region 6 with fail;rw[<-HW1.o];go_wp2_with fail;refine HC.o.mono ?_;rintro e w1 ⟨A2,c2,rfl,vZ,hb⟩
 have hE:eO S bv u 161 (iy u bp op) (.ok (bY u x.n) (t+1)) w.heap.size w w1 A2 (bY u x.n).length c2:=fq (iK.of vZ (fG (qh u0 u1 x0 x1)) HQ.o.si.lt) (qh u0 u1 x0 x1) (HQ.o.st.next hb) (HQ.o.only.trans (aC.of_below hb)) ⟨rfl,rfl,rfl⟩ (Jn _) al (HQ.o.rb.next hb);clear vZ hb HC;obtain⟨⟨c0,c1,q0,q1⟩,⟨y0,y1⟩,dz⟩:=hE;have fI:=aj dz;clear dz
 go_wp2;refine bodyPost_ret (v:=fJ u A2 (bY u x.n).length c2) (by simp[results,results123,go_sem,y0,y1]) rfl ?_;exact fI.o
theorem Q_(P:List Fn)(x:Nd)(u:Int)(env:List (List av))(t:Nat)(fn:Int)(b o B:Nat)(S:Nat->Prop)(bv:Nat)(A:Option I3)(aW bp op:Nat)(w:Iv)(hI:qd w B bv 1 P bp op)(hS:ni w B S bv u)(hst:au w bv 161 (iy u bp op++[I J t,I J 0]))(hN:iP w B S u P fn x b o A env aW)(hs:t<3000)(j:Nat)(ts:List av)(hk:x.k=2)(hn:x.n=j)(hz:env[j]? = M ts) :
  I0 Tryz.prog 123 #[.pointer (M ⟨bv,0,U⟩),ptr b o,V A env.length aW] w (dM S bv u 161 (iy u bp op) (.ok ts (t+1)) w):=by
 have al:=hI.lt;have hB:=hI.blow;have u0:=hS.u0;have u1:=hS.u1;have hQ:=uQ hI hS hst;obtain⟨W0,aZ⟩:=aD (w.alloc (Is #[I J 0,V U 0 0] 86))
 obtain⟨W1,kK⟩:∃ W1,W1=W0.setCell ⟨bv,2,U⟩ (I J ((t:Int)+1)):=⟨_,rfl⟩
 rw[<-aZ,<-kK] at hQ;have hg0:Ix w.heap.size w W0:=by rw[aZ];go_grown
 have hS0:=hst.next hg0;have Nz:bv<W0.heap.size:=hS0.lt;have a2:W0.cell? ⟨bv,2,U⟩=M (I J t):=ay hS0
 have a3:W0.cell? ⟨bv,3,U⟩=M (I J 0):=ay hS0
 have z2:W0.frozen? ⟨bv,2,U⟩=false:=hS0.frozen _;have e1:((t:Int)==3000)=false:=by simp;omega
 obtain⟨K,cap,bk,ok,lD,k0,k1,k2,k3,k4,hcap,hlc,hK,iI⟩:=hN.parts;have hbw:b<w.heap.size:=ah;have hbn:b≠bv:=ah;have j0:W1.cell? ⟨b,o,U⟩=M (I J x.k):=(hQ.only.cell (a:=⟨b,_,U⟩) hbw hbn).trans k0;have j1:W1.cell? ⟨b,o+1,U⟩=M (I J x.n):=(hQ.only.cell (a:=⟨b,_,U⟩) hbw hbn).trans k1;have j4:W1.cell? ⟨b,o+4,U⟩=M (V K x.ks.len cap):=(hQ.only.cell (a:=⟨b,_,U⟩) hbw hbn).trans k4
 have hbW:b<W1.heap.size:=by have:=hQ.only.size;omega
 have dI:=aj aZ;have HW1:=aj kK;have HQ:=aj hQ;have y5:=aj iI;rw[hk] at j0;rw[hn] at j1;obtain⟨b1,o1,Aj,cj,rfl,hbl,c0,c1,vY,dh⟩:=(hN.qj.fresh (g:=w.heap.size) (aC.of_below (Jx w.heap.size w)) (Jn _)).ahp (hQ.only.sub λq e=>by rw[e];exact .inl hS.bv) hz;have hPW:=vY.only (hQ.only.sub λq e=>by rw[e];exact .inl hS.bv);have Il:=aj dh;have hs1:dW 1 ts=ts:=yP (dV dh)
 have HC:=aj (l8 1 ah ah b1 (o1+j*2) u Aj cj ts W1 c0 c1 hPW.now dh);rw[hs1] at HC;have hjl:j<env.length:=(List.getElem?_eq_some_iff.1 hz).1;have hjj:(j:Int)<(env.length:Int):=ah;have hel:=hN.el;have hem:aW<=9223372036854775807:=by have:=hN.em;unfold I2 at this;omega
 clear hN vY hPW dh hs1 hz c0 c1;clear hI hst aZ kK hQ hg0 hS0 iI k0 k1 k2 k3 k4;go_enter func123,ntmps123;go_upto_region 1 with fail;rw[<-dI.o];go_upto_region 6 with fail;rw[<-HW1.o];go_wp2_with fail;refine HC.o.mono ?_;rintro e w1 ⟨A2,c2,rfl,E_,hb⟩;have vZ:=E_.rt hb.size;have hE:eO S bv u 161 (iy u bp op) (.ok ts (t+1)) w.heap.size w w1 A2 ts.length c2:=fq (iK.of vZ (fG Il.o) HQ.o.si.lt) Il.o (HQ.o.st.next hb) (HQ.o.only.trans (aC.of_below hb)) ⟨rfl,rfl,rfl⟩ (Jn _) al (HQ.o.rb.next hb)
 clear vZ E_ hb HC;obtain⟨⟨c0,c1,q0,q1⟩,⟨y0,y1⟩,dz⟩:=hE;have fI:=aj dz;clear dz;go_wp2;refine bodyPost_ret (v:=fJ u A2 ts.length c2) (by simp[results,results123,go_sem,y0,y1]) rfl ?_;exact fI.o
variable{f t:Nat}{a:Nd}{zs:List av}
theorem afJ{rr:jD (List av)}(h:gJ (om u P f 0 a env t) zs s' c')(dG:rr=match pv u P f a env t with | .err e=>.err e | .ok z s1=>.ok (dW 1000002 z) s1):gJ rr (dW 1000002 zs) s' c':=by
 unfold om at h;rw[if_pos rfl] at h;rw[dG]
 revert h
 cases pv u P f a env t with
 | err e=>intro h;exact h
 | ok z t=>rintro⟨rfl,h2,h3⟩;exact⟨rfl,h2,h3⟩
theorem abu{n s2 c2:Int}(hres:gJ (om u P f 0 a env t) zs s' c')(nZ:wJ zs s' c' n s2 c2) :
  (c2=0->∃ t1:Nat,s2=t1/\t<t1/\t1<=3000/\iq zs=M n/\pv u P f a env t=.ok zs t1) /\
  (c2≠0->∀ X Y:Nat->jD (List av),(match pv u P f a env t with | .err e=>jD.err e | .ok z s1=>match iq z with | none=>.err 4 | some n=>if n=0 then X s1 else Y s1)=.err c2):=by
 unfold wJ at nZ;cases hz:iq zs with
 | some m=>
  rw[hz] at nZ;obtain⟨rfl,rfl,rfl⟩:=nZ;refine⟨λh=>?_,λh X Y=>?_⟩
  ·obtain⟨_,t1,e1,e2,e3,e4⟩:=iB hres h
   exact⟨t1,e1,e2,e3,rfl,e4⟩
  ·rw[nH hres h rfl]
 | none=>
  rw[hz] at nZ;obtain⟨rfl,hc⟩:=nZ
  by_cases h0:c'=0
  ·rw[if_pos h0] at hc
   obtain⟨_,t1,e1,e2,e3,e4⟩:=iB hres h0;refine⟨λh=>ah,λh X Y=>?_⟩;rw[e4];simp only;rw[hz,hc]
  ·rw[if_neg h0] at hc
   refine⟨λh=>ah,λh X Y=>?_⟩;rw[nH hres h0 rfl,hc]
theorem zB{Az:Option I3}{n cz:Nat}:Ix w1.heap.size w1 (w1.alloc (Is #[I J u,V Az n cz] 86))/\(w1.alloc (Is #[I J u,V Az n cz] 86)).cell? ⟨w1.heap.size,0,U⟩=M (I J u)/\(w1.alloc (Is #[I J u,V Az n cz] 86)).cell? ⟨w1.heap.size,1,U⟩=M (V Az n cz)/\(w1.alloc (Is #[I J u,V Az n cz] 86)).heap.size=w1.heap.size+1:=by
 have h:=au.new w1 86 [I J u,V Az n cz];exact⟨aV,by rw[h.cell];rfl,by rw[h.cell];rfl,by simp⟩
theorem Q8(P:List Fn)(x:Nd)(u:Int)(f:Nat)(IH:rG P u f)(env:List (List av))(t:Nat)(fn:Int)(b o B:Nat)(S:Nat->Prop)(bv:Nat)(A:Option I3)(aW bp op:Nat)(w:Iv)(hI:qd w B bv 1 P bp op)(hS:ni w B S bv u)(hst:au w bv 161 (iy u bp op++[I J t,I J 0]))(hN:iP w B S u P fn x b o A env aW)(hs:t<3000)(hf:3001<=t+(f+1))(hk:x.k=7) :
  I0 Tryz.prog 123 #[.pointer (M ⟨bv,0,U⟩),ptr b o,V A env.length aW] w (dM S bv u 161 (iy u bp op) (pv u P (f+1) x env t) w):=by
 have hl1:=jV (N:=1) hN.form (by rw[hk];exact .inr (.inl ⟨rfl,rfl⟩));obtain⟨a,ha⟩:=Es.eG (show 0<x.ks.len by omega);have iZ:ak (pv u P (f+1) x env t=match pv u P f a env (t+1) with | .err e=>.err e | .ok z s1=>.ok (dW 1000002 z) s1):=by
  show _=_;rw[pv,if_neg ah,if_neg ah,if_neg ah,if_neg ah,if_neg ah];rw[Q5 hl1 ha];simp only[cB];cases pv u P f a env (t+1) with
  | err e=>rfl
  | ok z s1=>simp only;rw[if_neg ah,if_neg ah];unfold xD;rw[if_neg ah,if_neg ah,if_neg ah,if_pos hk];rfl
 obtain⟨rr,dG⟩:=aD (pv u P (f+1) x env t)
 rw[<-dG];have HRR:=aj (dG.trans iZ.o);clear iZ dG;have qK:=aj IH;clear IH;have al:=hI.lt;have hB:=hI.blow;have u0:=hS.u0;have u1:=hS.u1;have hQ:=uQ hI hS hst;obtain⟨W0,aZ⟩:=aD (w.alloc (Is #[I J 0,V U 0 0] 86))
 obtain⟨W1,kK⟩:∃ W1,W1=W0.setCell ⟨bv,2,U⟩ (I J ((t:Int)+1)):=⟨_,rfl⟩
 rw[<-aZ,<-kK] at hQ;have hg0:Ix w.heap.size w W0:=by rw[aZ];go_grown
 have hS0:=hst.next hg0;have Nz:bv<W0.heap.size:=hS0.lt;have a2:W0.cell? ⟨bv,2,U⟩=M (I J t):=ay hS0
 have a3:W0.cell? ⟨bv,3,U⟩=M (I J 0):=ay hS0
 have z2:W0.frozen? ⟨bv,2,U⟩=false:=hS0.frozen _;have e1:((t:Int)==3000)=false:=by simp;omega
 obtain⟨K,cap,bk,ok,lD,k0,k1,k2,k3,k4,hcap,hlc,hK,iI⟩:=hN.parts;have hbw:b<w.heap.size:=ah;have hbn:b≠bv:=ah;have j0:W1.cell? ⟨b,o,U⟩=M (I J x.k):=(hQ.only.cell (a:=⟨b,_,U⟩) hbw hbn).trans k0;have j1:W1.cell? ⟨b,o+1,U⟩=M (I J x.n):=(hQ.only.cell (a:=⟨b,_,U⟩) hbw hbn).trans k1;have j4:W1.cell? ⟨b,o+4,U⟩=M (V K x.ks.len cap):=(hQ.only.cell (a:=⟨b,_,U⟩) hbw hbn).trans k4
 have hbW:b<W1.heap.size:=by have:=hQ.only.size;omega
 have dI:=aj aZ;have HW1:=aj kK;have HQ:=aj hQ;have y5:=aj iI;rw[hk] at j0;have hK:=hK ah;subst hK;have l0:(0:Int)<(x.ks.len:Int):=ah;have l0n:0<x.ks.len:=ah;have Er:=(iI 0 a ha).below (bI hQ.only hB al);rw[Mn,Mm] at Er;have VJ:=aj (hN.kid (hQ.only.sub λq e=>by rw[e];exact hS.bv) (Jn _) ha (.inl ah) Er);clear hN Er;clear hI hst aZ kK hQ hg0 hS0 iI k0 k1 k2 k3 k4
 go_enter func123,ntmps123;go_upto_region 1 with fail;rw[<-dI.o];go_upto_region 6 with fail;rw[<-HW1.o];go_wp2_with fail;refine (qK.o a env ((t+1:Nat):Int) (t+1) 0 fn bk ok B (aS S w.heap.size) bv A aW bp op _ HQ.o.ev HQ.o.si HQ.o.st (λ_=>⟨rfl,ah,ah⟩) VJ.o).mono ?_;rintro e w1 ⟨v,zs,s',c',rfl,⟨Az,cz,rfl,hpz,hkz⟩,hS1,fC,hres⟩;obtain⟨hb1,x0,x1,hs1⟩:=zB (w1:=w1) (u:=u) (Az:=Az) (n:=zs.length) (cz:=cz)
 have HC:=aj (l8 1000002 ah ah w1.heap.size 0 u Az cz zs (w1.alloc (Is #[I J u,V Az zs.length cz] 86)) x0 x1 (hpz.now.below hb1) hkz);have fD:=aj (afJ hres HRR.o);have Il:=aj (gD (k:=1000002) hkz ah ah);have dZ:=aj (fC.trans (aC.of_below hb1));have eu:=aj (hS1.next hb1);have oO:=aj (HQ.o.si.mono (dZ.o.size));clear hpz hkz hS1 fC hres hb1 hs1 VJ
 go_wp2_with fail;refine HC.o.mono ?_;rintro e w2 ⟨A2,c2,rfl,E_,hb⟩;have vZ:=E_.rt hb.size;have hE:eO S bv u 161 (iy u bp op) rr w.heap.size w w2 A2 (dW 1000002 zs).length c2:=fq (iK.of vZ (fG Il.o) oO.o.lt) Il.o (eu.o.next hb) ((HQ.o.only.trans dZ.o).trans (aC.of_below hb)) fD.o (Jn _) al ((aM HQ.o.rb dZ.o ah).next hb);clear vZ E_ hb HC x0 x1
 obtain⟨⟨c0,c1,q0,q1⟩,⟨y0,y1⟩,dz⟩:=hE;have fI:=aj dz;clear dz;go_wp2;refine bodyPost_ret (v:=fJ u A2 (dW 1000002 zs).length c2) (by simp[results,results123,go_sem,y0,y1]) rfl ?_;exact fI.o
theorem aaS(P:List Fn)(x:Nd)(u:Int)(f:Nat)(IH:rG P u f)(env:List (List av))(t:Nat)(fn:Int)(b o B:Nat)(S:Nat->Prop)(bv:Nat)(A:Option I3)(aW bp op:Nat)(w:Iv)(hI:qd w B bv 1 P bp op)(hS:ni w B S bv u)(hst:au w bv 161 (iy u bp op++[I J t,I J 0]))(hN:iP w B S u P fn x b o A env aW)(ht:t<=3000)(hf:3001<=t+f)(hk:x.k=8)(a b2 c2:Nd)(ha:x.ks.get? 0=M a)(hb:x.ks.get? 1=M b2)(hc:x.ks.get? 2=M c2) :
  I0 Tryz.prog 200 #[.pointer (M ⟨bv,0,U⟩),ptr b o,V A env.length aW] w (dM S bv u 161 (iy u bp op) (match pv u P f a env t with | .err e=>jD.err e | .ok z s1=>match iq z with | none=>.err 4 | some n=>if n=0 then pv u P f b2 env s1 else pv u P f c2 env s1) w):=by
 have hl3:=wR hN.form hk;obtain⟨rr,dG⟩:=aD (match pv u P f a env t with | .err e=>jD.err e | .ok z s1=>match iq z with | none=>.err 4 | some n=>if n=0 then pv u P f b2 env s1 else pv u P f c2 env s1)
 rw[<-dG];have HRR:=aj dG;clear dG;have qK:=aj IH;clear IH;have HHA:=aj ha;have Tg:=aj hb;have HHC:=aj hc;have HK:=aj hk;clear ha hb hc;have al:=hI.lt;have hB:=hI.blow;have u0:=hS.u0;have u1:=hS.u1;obtain⟨W0,aZ⟩:=aD (w.alloc (Is #[I J 0,V U 0 0] 86))
 have hg0:Ix w.heap.size w W0:=by rw[aZ];go_grown
 have hs0:W0.heap.size=w.heap.size+1:=by rw[aZ];simp
 have hq:au W0 w.heap.size 86 [I J 0,V U 0 0]:=by rw[aZ];exact au.new w _ _
 have hS0:=hst.next hg0;have YK:ni W0 B (aS S w.heap.size) bv u:=hS.fresh ah (Jn _) ah ah;have hI0:=hI.only (aC.of_below hg0);have mY:aC S w W0:=aC.of_below hg0;obtain⟨K,cap,bk,ok,lD,k0,k1,k2,k3,k4,hcap,hlc,hK,iI⟩:=hN.parts;have hbw:b<w.heap.size:=ah;have hbn:b≠bv:=ah;have j0:W0.cell? ⟨b,o,U⟩=M (I J x.k):=aB k0 hg0;have j4:W0.cell? ⟨b,o+4,U⟩=M (V K x.ks.len cap):=aB k4 hg0
 have hbW:b<W0.heap.size:=ah;have dI:=aj aZ;have y5:=aj iI;have HN:=aj hN;have HI0:=aj hI0;have LZ:=aj YK;have gQ:=aj hS0;have HOS:=aj mY;have HQ:=aj hq;have Qx:=aj hg0;have HZ0:=aj hs0;have hK:=hK ah;subst hK;have l0:(0:Int)<(x.ks.len:Int):=ah;have l1:(1:Int)<(x.ks.len:Int):=ah;have l2:(2:Int)<(x.ks.len:Int):=ah;have l0n:0<x.ks.len:=ah;have l1n:1<x.ks.len:=ah;have l2n:2<x.ks.len:=ah
 have Er:=(iI 0 a HHA.o).below (hg0.mono ah);rw[Mn,Mm] at Er;have VJ:=aj (hN.kid mY (Jn _) HHA.o (.inl ah) Er);have BH:=aj k4;clear Er hk hl3;clear hI hst aZ hg0 hS0 iI k0 k1 k2 k3 k4 hI0 YK mY hq hs0 hN;go_enter func200,ntmps200;go_upto_region 1 with fail;rw[<-dI.o];go_wp2_with fail;refine (qK.o a env (t:Int) t 0 fn bk ok B (aS S w.heap.size) bv A aW bp op W0 HI0.o LZ.o gQ.o (λ_=>⟨rfl,ah,ah⟩) VJ.o).mono ?_;rintro e w1 ⟨v,zs,s',c',rfl,⟨Az,cz,rfl,hpz,hkz⟩,hS1,fC,hres⟩
 obtain⟨hb1,x0,x1,hs1⟩:=zB (w1:=w1) (u:=u) (Az:=Az) (n:=zs.length) (cz:=cz);have Vv:=aj (AZ u c' s' bv bp op w1.heap.size 0 cz Az zs (w1.alloc (Is #[I J u,V Az zs.length cz] 86)) (hS1.next hb1) x1 (hpz.now.below hb1) hkz);have fD:=aj hres;have dZ:=aj (fC.trans (aC.of_below hb1));clear hpz hkz hS1 fC hres hb1 hs1 VJ;go_wp2_with fail;refine Vv.o.mono ?_;rintro e w2 ⟨n,s2,d2,rfl,hS2,hO2,nZ⟩
 have Pb:=aj (abu fD.o nZ);have hOO:=dZ.o.trans hO2;have hOw:aC (λq=>q=bv) w w2:=(aC.of_below Qx.o).trans hOO;have d3:w2.cell? ⟨bv,3,U⟩=M (I J d2):=ay hS2
 have dl:=hS2.lt;have y4:w2.cell? ⟨b,o+4,U⟩=M (V (M ⟨bk,ok,U⟩) x.ks.len cap):=(hOw.cell (a:=⟨b,_,U⟩) hbw hbn).trans BH.o;have hb2:b<w2.heap.size:=by have:=hOw.size;omega
 have Qz:=aj (HI0.o.only hOO);have nQ:=aj (LZ.o.mono hOO.size);have HS2:=aj hS2;have HOO:=aj hOO;have nJ:=aj hOw;have sj:=aj (aM HQ.o hOO ah);have agA:ak (aC S w w2):=hOw.sub λq e=>by rw[e];exact hS.bv
 clear hS2 hO2 nZ Vv fD hOO hOw x0 x1
 by_cases hd:d2=0
 ·have Lb:(d2 != 0)=false:=by simpa using hd
  have agr:=aj (Pb.o.1 hd);subst hd
  by_cases hz:n=0
  ·have z0:(n==0)=true:=by simpa using hz
   have CX:=(y5.o 1 b2 Tg.o).below (bI nJ.o hB al);rw[Nat.one_mul] at CX;have HSb:=aj (HN.o.kid agA.o (Jn _) Tg.o (.inl (by have:=HK.o;omega)) CX);obtain⟨t1,hs2,g2,g3,g4,g5⟩:=agr.o;have HT:=aj (J0 hs2 (J0 g2 g3));have HQQ:ak (om u P f 0 b2 env t1=rr):=by
    show _=_;rw[HRR.o,g5];simp only;rw[g4];simp only;rw[if_pos hz];unfold om;rw[if_pos rfl]
   clear CX hz hs2 g2 g3 g4 g5;go_wp2_with fail;refine (qK.o b2 env s2 t1 0 fn bk (ok+5) B (aS S w.heap.size) bv A aW bp op w2 Qz.o nQ.o HS2.o (λ_=>⟨HT.o.1,HT.o.2.2,by have:=HT.o.2;omega⟩) HSb.o).mono ?_;rintro e w3 ⟨v,wE,s3,c3,rfl,⟨A3,jr,rfl,hp3,qH⟩,mP,hO3,dK⟩;rw[HQQ.o] at dK;have hE:eO S bv u 161 (iy u bp op) rr w.heap.size w w3 A3 wE.length jr:=fq hp3 qH mP (nJ.o.trans hO3) dK (Jn _) al (aM sj.o hO3 ah)
   clear hp3 qH mP hO3 dK;obtain⟨⟨c0,c1,q0,q1⟩,⟨y0,y1⟩,dz⟩:=hE;have fI:=aj dz;clear dz;go_wp2;refine bodyPost_ret (v:=fJ u A3 wE.length jr) (by simp[results,results200,go_sem,y0,y1]) rfl ?_;exact fI.o
  ·have z0:(n==0)=false:=by simpa using hz
   have CX:=(y5.o 2 c2 HHC.o).below (bI nJ.o hB al);rw[show 2*5=10 from rfl] at CX;have HSb:=aj (HN.o.kid agA.o (Jn _) HHC.o (.inl (by have:=HK.o;omega)) CX);obtain⟨t1,hs2,g2,g3,g4,g5⟩:=agr.o;have HT:=aj (J0 hs2 (J0 g2 g3));have HQQ:ak (om u P f 0 c2 env t1=rr):=by
    show _=_;rw[HRR.o,g5];simp only;rw[g4];simp only;rw[if_neg hz];unfold om;rw[if_pos rfl]
   clear CX hz hs2 g2 g3 g4 g5;go_wp2_with fail;refine (qK.o c2 env s2 t1 0 fn bk (ok+10) B (aS S w.heap.size) bv A aW bp op w2 Qz.o nQ.o HS2.o (λ_=>⟨HT.o.1,HT.o.2.2,by have:=HT.o.2;omega⟩) HSb.o).mono ?_;rintro e w3 ⟨v,wE,s3,c3,rfl,⟨A3,jr,rfl,hp3,qH⟩,mP,hO3,dK⟩;rw[HQQ.o] at dK;have hE:eO S bv u 161 (iy u bp op) rr w.heap.size w w3 A3 wE.length jr:=fq hp3 qH mP (nJ.o.trans hO3) dK (Jn _) al (aM sj.o hO3 ah)
   clear hp3 qH mP hO3 dK;obtain⟨⟨c0,c1,q0,q1⟩,⟨y0,y1⟩,dz⟩:=hE;have fI:=aj dz;clear dz;go_wp2;refine bodyPost_ret (v:=fJ u A3 wE.length jr) (by simp[results,results200,go_sem,y0,y1]) rfl ?_;exact fI.o
 ·have Lb:(d2 != 0)=true:=by simpa using hd
  have HB2:=aj (Pb.o.2 hd (λs1=>pv u P f b2 env s1) (λs1=>pv u P f c2 env s1));have HF:=aj (jv u d2 s2 d2 (aS S w.heap.size) bv bp op w2 HS2.o u0 u1);have HFC:ak (oV d2 d2=d2):=if_neg hd;clear hd;go_wp2_with fail;refine HF.o.mono ?_;rintro e w3 ⟨v,wE,s3,c3,rfl,⟨A3,jr,rfl,hp3,qH⟩,mP,hO3,dK⟩;rw[HFC.o,<-(show rr=.err d2 from HRR.o.trans HB2.o)] at dK;have hE:eO S bv u 161 (iy u bp op) rr w.heap.size w w3 A3 wE.length jr:=fq hp3 qH mP (nJ.o.trans hO3) dK (Jn _) al (aM sj.o hO3 ah)
  clear hp3 qH mP hO3 dK HF;obtain⟨⟨c0,c1,q0,q1⟩,⟨y0,y1⟩,dz⟩:=hE;have fI:=aj dz;clear dz;go_wp2;refine bodyPost_ret (v:=fJ u A3 wE.length jr) (by simp[results,results200,go_sem,y0,y1]) rfl ?_;exact fI.o
theorem Yc(P:List Fn)(x:Nd)(u:Int)(f:Nat)(IH:rG P u f)(env:List (List av))(t:Nat)(fn:Int)(b o B:Nat)(S:Nat->Prop)(bv:Nat)(A:Option I3)(aW bp op:Nat)(w:Iv)(hI:qd w B bv 1 P bp op)(hS:ni w B S bv u)(hst:au w bv 161 (iy u bp op++[I J t,I J 0]))(hN:iP w B S u P fn x b o A env aW)(hs:t<3000)(hf:3001<=t+(f+1))(hk:x.k=8) :
  I0 Tryz.prog 123 #[.pointer (M ⟨bv,0,U⟩),ptr b o,V A env.length aW] w (dM S bv u 161 (iy u bp op) (pv u P (f+1) x env t) w):=by
 have hl3:=wR hN.form hk;obtain⟨a,ha⟩:=Es.eG (show 0<x.ks.len by omega);obtain⟨b2,hb⟩:=Es.eG (show 1<x.ks.len by omega);obtain⟨c2,hc⟩:=Es.eG (show 2<x.ks.len by omega);have iZ:ak (pv u P (f+1) x env t=match pv u P f a env (t+1) with | .err e=>.err e | .ok z s1=>match iq z with | none=>.err 4 | some n=>if n=0 then pv u P f b2 env s1 else pv u P f c2 env s1):=by
  show _=_;rw[pv,if_neg ah,if_neg ah,if_neg ah,if_pos hk,ha,hb,hc]
  all_goals rfl
 obtain⟨rr,dG⟩:=aD (pv u P (f+1) x env t)
 rw[<-dG];have HRR:=aj (dG.trans iZ.o);clear iZ dG;have al:=hI.lt;have hB:=hI.blow;have u0:=hS.u0;have u1:=hS.u1;have hQ:=uQ hI hS hst;obtain⟨W0,aZ⟩:=aD (w.alloc (Is #[I J 0,V U 0 0] 86))
 obtain⟨W1,kK⟩:∃ W1,W1=W0.setCell ⟨bv,2,U⟩ (I J ((t:Int)+1)):=⟨_,rfl⟩
 rw[<-aZ,<-kK] at hQ;have hg0:Ix w.heap.size w W0:=by rw[aZ];go_grown
 have hS0:=hst.next hg0;have Nz:bv<W0.heap.size:=hS0.lt;have a2:W0.cell? ⟨bv,2,U⟩=M (I J t):=ay hS0
 have a3:W0.cell? ⟨bv,3,U⟩=M (I J 0):=ay hS0
 have z2:W0.frozen? ⟨bv,2,U⟩=false:=hS0.frozen _;have e1:((t:Int)==3000)=false:=by simp;omega
 obtain⟨K,cap,bk,ok,lD,k0,k1,k2,k3,k4,hcap,hlc,hK,iI⟩:=hN.parts;have hbw:b<w.heap.size:=ah;have hbn:b≠bv:=ah;have j0:W1.cell? ⟨b,o,U⟩=M (I J x.k):=(hQ.only.cell (a:=⟨b,_,U⟩) hbw hbn).trans k0;have j1:W1.cell? ⟨b,o+1,U⟩=M (I J x.n):=(hQ.only.cell (a:=⟨b,_,U⟩) hbw hbn).trans k1;have j4:W1.cell? ⟨b,o+4,U⟩=M (V K x.ks.len cap):=(hQ.only.cell (a:=⟨b,_,U⟩) hbw hbn).trans k4
 have hbW:b<W1.heap.size:=by have:=hQ.only.size;omega
 have dI:=aj aZ;have HW1:=aj kK;have HQ:=aj hQ;have y5:=aj iI;rw[hk] at j0;have vQ:=aj (aaS P x u f IH env (t+1) fn b o B (aS S w.heap.size) bv A aW bp op W1 hQ.ev hQ.si hQ.st (hN.self (hQ.only.sub λq e=>by rw[e];exact hS.bv) (bI hQ.only hB al) (Jn _)) ah ah hk a b2 c2 ha hb hc);rw[<-HRR.o] at vQ;clear hN ha hb hc hl3 IH;clear hI hst aZ kK hQ hg0 hS0 iI k0 k1 k2 k3 k4
 go_enter func123,ntmps123;go_upto_region 1 with fail;rw[<-dI.o];go_upto_region 6 with fail;rw[<-HW1.o];go_wp2_with fail;refine vQ.o.mono ?_;rintro e w3 ⟨v,wE,s3,c3,rfl,⟨A3,jr,rfl,hp3,qH⟩,mP,hO3,dK⟩;have hE:eO S bv u 161 (iy u bp op) rr w.heap.size w w3 A3 wE.length jr:=fq hp3 qH mP (HQ.o.only.trans hO3) dK (Jn _) al (aM HQ.o.rb hO3 ah)
 clear hp3 qH mP hO3 dK vQ;obtain⟨⟨c0,c1,q0,q1⟩,⟨y0,y1⟩,dz⟩:=hE;have fI:=aj dz;clear dz;go_wp2;refine bodyPost_ret (v:=fJ u A3 wE.length jr) (by simp[results,results123,go_sem,y0,y1]) rfl ?_;exact fI.o
end
end Go.Proofs.YtgfkglhelfkpoaaGreat
