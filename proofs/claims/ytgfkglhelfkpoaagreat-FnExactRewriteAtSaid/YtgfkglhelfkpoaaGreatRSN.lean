/- Parts of the proof. -/
import Derived.Test.YtgfkglhelfkpoaaGreatRSL
set_option maxRecDepth 100000
set_option maxHeartbeats 8000000
open Go.Proofs.Tryz
open Go.Value renaming int→I,slice→V
open Go.IntKind renaming i64→J
open Option renaming some→M,none→U
open Go.Ending renaming returned→If
open Go.Obj renaming cells→Is
open Go renaming World→Iv,Calls→I0,Value→I1,maxLen→I2,Addr→I3
open Go.RowKit renaming Below→Ix
open Nat renaming le_refl→Jn,add_zero→Mm,zero_mul→Mn,le_trans→Mp,lt_of_lt_of_le→M1
open Go.RowKit.Below renaming refl→Jx,heap_setCell→J1
open Bool renaming and_eq_true→Mb
open List renaming getD→Up
namespace Go.Proofs.YtgfkglhelfkpoaaGreat
section
open Go.RowKit Plain
def U8(bo:Nat)(l:List Int)(w:Iv)(e:Ending)(w':Iv):Prop:=
 e=If (.bool true)/\(∃ A cap,w'.cell? ⟨bo,0,U⟩=M (V A l.length cap)/\w'.frozen? ⟨bo,0,U⟩=false/\Ints w' A l)/\aC (λq=>q=bo) w w'
def agh(ks:Es):Prop:=∀ (k n p c:Int) (b o B bo:Nat) (acc:List Int) (A:Option I3) (cp:Nat) (vars:Int) (w:Iv),dF w B k n p c ks b o->B<=w.heap.size->ks.size<=1000->B<=bo->bo<w.heap.size->w.cell? ⟨bo,0,U⟩=M (V A acc.length cp)->w.frozen? ⟨bo,0,U⟩=false->Ints w A acc->acc.length+ks.size+1<=400 ->
 jX k=true->dJ ks=true->formed [] 0 vars ⟨k,n,p,c,ks⟩=true->0<=vars->vars<=412 ->
 I0 Tryz.prog 196 #[ptr b o,I J vars,I J vars,ptr bo 0] w (U8 bo (xA k n ks acc) w)
variable{w:Iv}
theorem ints_set{A:Option I3}{l:List Int}{bo n c:Nat}{S:Option I3}(h:Ints w A l)(hc:w.cell? ⟨bo,0,U⟩=M (V S n c))(x:I1):Ints (w.setCell ⟨bo,0,U⟩ x) A l:=λhn=>by
 obtain⟨b,o,e,hb,hcs⟩:=h hn;refine⟨b,o,e,by simpa [World.setCell] using hb,λj y hy=>?_⟩;have h1:=hcs j y hy;rw[World.cell?_setCell_other _ _ _ _ (λe=>?_)]
 ·exact h1
 ·rw[<-e,hc] at h1
  injection h1 with h1;cases h1
theorem H7{a:I3}{v:I1}(h:w.cell? a=M v)(hf:w.frozen? a=false)(x:I1):(w.setCell a x).cell? a=M x/\(w.setCell a x).frozen? a=false:=by
 refine⟨?_, ?_⟩
 ·exact World.cell?_setCell_same' w a x (by rw[h];rfl)
 ·rw[World.frozen?_setCell];exact hf
theorem YC:∀ (m:Nat) (ks:Es),ks.size<m->agh ks:=by
 intro m
 induction m with
 | zero=>intro es h;omega
 | succ m ih=>
 intro ks hm k n p c b o B bo acc A cp vars w hE hB hsz0 akx afh hoc hof hAI hal hpk hpl hfm hv0 hv1;have IH:=aj ih;clear ih;obtain⟨lD,h0,h1,h2,h3,K,cap,b',o',h4,hc,hcm,hK,hks⟩:=hE;have gI:=aj hks;clear hks;have fF:cap<=9223372036854775807:=by unfold I2 at hcm;omega
 have hbw:b<w.heap.size:=ah;have hls:=Es.aF ks;have hk:=lS.1 hpk;have hk9:(k==9)=false:=beq_eq_false_iff_ne.2 ah;have akX:¬ k=9:=ah;have xK:ak (∀ j,bQ k vars j=vars):=λj=>by unfold bQ;rw[if_neg ah]
 unfold formed at hfm;simp only[Mb] at hfm;have hnk:=hfm.1;have HFM:ak (aK [] 0 ks k 0 vars=true):=hfm.2;have kI:ak (dJ ks=true):=hpl;clear hfm hpl hpk
 by_cases hk2:k=2
 ·subst hk2
  have hnb:0<=n/\n<vars/\ks.len=0:=by
   unfold bL at hnk;simp at hnk;have:=bH.1 hnk.2.2;omega
  obtain⟨hn0,hn1,hl0⟩:=hnb;have afu:ks=.nil:=Es.J2 hl0;subst afu;have oI:=aj (λwx=>wh true n 0 (vars - 1) (bH.2 ah) wx);have hwv:IntKind.i64.wrap (vars - 1)=vars - 1:=by rw[IntKind.wrap_i64];omega
  have HPT:ak (I0 Tryz.prog 245 #[V A acc.length cp,I J n] w.drew λe w'=>∃ A2 c2,e=If (V A2 (gH n acc).length c2)/\Ints w' A2 (gH n acc)/\Ix w.heap.size w w'):=by
   refine (ZP A cp acc n w.drew (hAI.below (Jx _ _).drew) ah).mono ?_;rintro e w' ⟨A2,c2,h1,h2,h3⟩;exact⟨A2,c2,h1,Ee.ints h2,⟨h3.os,h3.tape,h3.output,h3.size,h3.block⟩⟩
  have gQ:ak (w.cell? ⟨bo,0,U⟩=M (V A acc.length cp)/\w.cell? ⟨b,o+1,U⟩=M (I J n)):=⟨hoc,h1⟩
  have oJ:ak (bo<w.heap.size/\b<w.heap.size):=⟨afh,hbw⟩
  clear hnk hls gI HFM kI xK IH hAI;go_enter func196,ntmps196;go_wp2_with (go_at_call 106;refine (oI.o _).mono ?_;rintro e w' ⟨rfl,JU⟩;obtain rfl:=JU.symm);refine aO.start (S:=(λwx=>wx.cell? ⟨bo,0,U⟩=M (V A acc.length cp)/\wx.cell? ⟨b,o+1,U⟩=M (I J n))) 10 aL aL ?S0 (λaA hB=>?_)
  case S0=>((try dsimp only);exact gQ.o)
  iterate 8 (refine aO.tk hB aA ?_;try simp only[aP])
  refine aO.step (i:=8) rfl bM aL (λK hK=>?_);go_simp
  go_at_call 245
  with_reducible refine HPT.o.mono ?_
  rintro e w2 ⟨A2,c2,rfl,hi2,hb2⟩;go_wp2_with fail;refine hK.out _ _ (by (try dsimp only);exact⟨aB gQ.o.1 hb2,aB gQ.o.2 hb2⟩) ?_;clear hK K aA;intro aA
  (try simp only[aP])
  (refine aO.tk hB aA ?_;try simp only[aP])
  have z1:=(hb2.cell (p:=⟨bo,0,U⟩) afh).trans hoc;have z2:=(hb2.frozen (p:=⟨bo,0,U⟩) afh).trans hof;refine aO.last rfl aL aL (λK hK=>?_);go_simp;refine hK.out _ _ ?_;clear hK K;have HI3:=aj (ints_set hi2 z1 (V A2 (gH n acc).length c2));have mK:ak (aC (λq=>q=bo) w (w2.setCell ⟨bo,0,U⟩ (V A2 (gH n acc).length c2))):=(aC.of_below hb2).trans ⟨rfl,rfl,rfl,by simp[World.setCell],λq _ hq=>J1 _ _ _ _ hq⟩
  have Vh:ak ((w2.setCell ⟨bo,0,U⟩ (V A2 (gH n acc).length c2)).cell? ⟨bo,0,U⟩=M (V A2 (gH n acc).length c2)/\(w2.setCell ⟨bo,0,U⟩ (V A2 (gH n acc).length c2)).frozen? ⟨bo,0,U⟩=false):=H7 z1 z2 _;have k0:=(hb2.cell (p:=⟨b,o,U⟩) hbw).trans h0;have k4:=(hb2.cell (p:=⟨b,o+4,U⟩) hbw).trans h4;have hbne:b≠bo:=ah;have k0':(w2.setCell ⟨bo,0,U⟩ (V A2 (gH n acc).length c2)).cell? ⟨b,o,U⟩=M (I J 2):=by rw[World.cell?_setCell_other _ _ _ _ (λe=>hbne (congrArg Addr.block e).symm)];exact k0
  have k4':(w2.setCell ⟨bo,0,U⟩ (V A2 (gH n acc).length c2)).cell? ⟨b,o+4,U⟩=M (V K 0 cap):=by rw[World.cell?_setCell_other _ _ _ _ (λe=>hbne (congrArg Addr.block e).symm)];exact k4
  clear aA z1 z2 k0 k4 hi2 hb2;generalize w2.setCell ⟨bo,0,U⟩ (V A2 (gH n acc).length c2)=w3 at *;go_wp2_with fail
  go_loopw [9] (λi wr=>i=I J 0/\w3=wr) (λ_ _=>0)
  case atStart=>exact⟨bE,rfl⟩
  case round=>
   obtain⟨rfl,rfl⟩:=hrel;go_wp2;go_ret;exact⟨rfl,⟨A2,c2,Vh.o.1,Vh.o.2,HI3.o⟩,mK.o⟩
 ·have aft:(k==2)=false:=beq_eq_false_iff_ne.2 hk2
  have O_:ak (xA k n ks acc=nG ks acc):=by show _=_;unfold xA;rw[if_neg hk2]
  rw[O_.o];have HOC:ak (w.cell? ⟨bo,0,U⟩=M (V A acc.length cp)/\w.frozen? ⟨bo,0,U⟩=false):=⟨hoc,hof⟩
  have HAI:=aj hAI;clear hnk hAI hoc hof;go_enter func196,ntmps196;go_wp2
  go_loopw [9] (λi wr=>∃ (j:Nat) (es':Es) (vG:List Int) (A':Option I3) (bB:Nat),i=I J (j:Int)/\j+es'.len=ks.len/\ak (nG ks acc=nG es' vG)/\ak (dJ es'=true)/\ak (aK [] 0 es' k j vars=true)/\ak (vG.length+es'.size<=acc.length+ks.size)/\ak (es'.size<=ks.size)/\ak (aI wr B es' b' (o'+j*5))/\ak (wr.cell? ⟨bo,0,U⟩=M (V A' vG.length bB)/\wr.frozen? ⟨bo,0,U⟩=false)/\ak (Ints wr A' vG)/\ak (aC (λq=>q=bo) w wr)) (λi _=>ks.len - (intOf i).toNat)
  case atStart=>exact⟨0,ks,acc,A,cp,bE,ah,rfl,kI,HFM,Jn _,Jn _,by show aI _ _ _ _ _;rw[Mn,Mm];exact gI.o,HOC,HAI,aC.refl _ _⟩
  case round=>
   obtain⟨j,es',vG,A',bB,rfl,hj,hy,hpl,hfm,hsa,hsz,HE,Vx,aeD,HO⟩:=hrel;clear HOC HAI kI HFM;have afg:Ix B w wr:=HO.o.below hB (λq hq=>ah);have h4':wr.cell? ⟨b,o+4,U⟩=M (V K ks.len cap):=(afg.cell (p:=⟨b,_,U⟩) lD).trans h4;have h0':wr.cell? ⟨b,o,U⟩=M (I J k):=(afg.cell (p:=⟨b,_,U⟩) lD).trans h0;cases es' with
   | nil=>
    simp only[Es.len] at hj;have HV:ak (nG ks acc=vG):=hy.o;go_wp2;go_ret;exact⟨rfl,⟨A',bB,by rw[HV.o];exact Vx.o.1,Vx.o.2,by rw[HV.o];exact aeD.o⟩,HO.o⟩
   | cons kk n' p' c' aY r=>
    simp only[Es.len] at hj;have hK:=hK ah;subst hK;obtain⟨hel,hr⟩:=HE.o;have lH:=aj hel;have HR:=aj hr;have hp:=hpl.o;have hf:=hfm.o;simp only[dJ,Mb] at hp;simp only[aK,Mb] at hf;rw[xK.o] at hf;have mU:ak (dJ r=true):=hp.2;have LJ:ak (aK [] 0 r k (j+1) vars=true):=hf.2;have hrs:ak (r.size<=ks.size/\aY.size<ks.size/\vG.length+(1+aY.size+r.size)<=acc.length+ks.size):=by
     have:=hsz.o;have h2:=hsa.o;simp only[Es.size] at this h2;exact⟨ah,ah,ah⟩
    have hle:=Dl aY (if kk=2 then gH n' vG else vG);have hle2:(if kk=2 then gH n' vG else vG).length<=vG.length+1:=by
     split
     ·exact GQ
     ·omega
    have HAL:ak ((xA kk n' aY vG).length+r.size<=acc.length+ks.size):=by
     have:=hrs.o;show _<=_;unfold xA;omega
    have HC:=aj (IH.o aY (by have:=hrs.o;omega) kk n' p' c' b' (o'+j*5) B bo vG A' bB vars wr lH.o (by have:=HO.o.size;omega) (by have:=hrs.o;omega) akx (by have:=HO.o.size;omega) Vx.o.1 Vx.o.2 aeD.o (by have:=hrs.o;omega) hp.1.1 hp.1.2 (by unfold formed;rw[hf.1.1,hf.1.2];rfl) hv0 hv1);clear hel hr HE hp hf hpl hfm hle hle2 lH;go_wp2_with fail;refine HC.o.mono ?_;rintro e w1 ⟨rfl,⟨A2,jN,hc1,hc2,GH⟩,ho1⟩
    have hb1:Ix B wr w1:=ho1.below (by have:=HO.o.size;omega) (λq hq=>ah);have gY:ak (aI w1 B r b' (o'+(j+1)*5)):=by
     have:=HR.o.below hb1
     rwa [show o'+j*5+5=o'+(j+1)*5 by omega] at this
    have dZ:=aj (HO.o.trans ho1);have ajq:ak (w1.cell? ⟨bo,0,U⟩=M (V A2 (xA kk n' aY vG).length jN)/\w1.frozen? ⟨bo,0,U⟩=false):=⟨hc1,hc2⟩
    have aiU:=aj GH;have jT:ak (nG ks acc=nG r (xA kk n' aY vG)):=hy.o;clear hb1 hc1 hc2 GH ho1 HC HR HO afg h4' h0' Vx aeD hy;go_wp2
    go_roundw
    case rel=>exact⟨j+1,r,_,A2,jN,bE,ah,jT,mU,LJ,HAL,hrs.o.1,gY,ajq,aiU,dZ⟩
    case measure=>simp[intOf];omega
theorem tK(x:Nd)(b o B:Nat)(vars:Int)(w:Iv)(hE:dF w B x.k x.n x.p x.c x.ks b o)(hB:B<=w.heap.size)(hsz:x.ks.size<=39)(hp:x.plain=true)(hf:formed [] 0 vars x=true)(hv0:0<=vars)(hv1:vars<=412) :
  I0 Tryz.prog 121 #[ptr b o,I J vars] w λe w'=>∃ A cap,e=If (V A x.iL.length cap)/\Ints w' A x.iL/\Ix w.heap.size w w':=by
 obtain⟨W0,aZ⟩:=aD ((w.alloc (Is #[] 2)).alloc (Is #[V (M ⟨w.heap.size,0,U⟩) 0 0] 28))
 have hb0:Ix w.heap.size w W0:=by rw[aZ];go_grown
 have hs0:W0.heap.size=w.heap.size+2:=by rw[aZ];simp
 have hq:au W0 (w.heap.size+1) 28 [V (M ⟨w.heap.size,0,U⟩) 0 0]:=by
  rw[aZ];have:=au.new (w.alloc (Is #[] 2)) 28 [V (M ⟨w.heap.size,0,U⟩) 0 0];simpa using this
 have wX:=hp;unfold Nd.plain at wX;simp only[Mb] at wX;have HC:=aj (YC _ x.ks (Nat.lt_succ_self _) x.k x.n x.p x.c b o B (w.heap.size+1) [] (M ⟨w.heap.size,0,U⟩) 0 vars W0 (hE.below (hb0.mono hB)) ah ah ah ah (by rw[hq.cell];rfl) (hq.frozen _) (λh=>by simp at h) (by simp;omega) wX.1 wX.2 hf hv0 hv1);have HB0:=aj hb0;have dI:=aj aZ;have gQ:=aj hs0;clear hE hp wX hf hb0 aZ hs0 hq
 go_enter func121,ntmps121;go_wp2_with fail;rw[<-dI.o];refine HC.o.mono ?_;rintro e w2 ⟨rfl,⟨A,cap,hc1,_,GH⟩,ho⟩;have HI:=aj GH;have HB2:ak (Ix w.heap.size w w2):=HB0.o.trans (ho.below (by have:=gQ.o;omega) (λq hq=>ah));have O_:ak (xA x.k x.n x.ks []=x.iL):=rfl;rw[O_.o] at hc1 HI;clear GH ho;go_wp2;go_ret;exact⟨A,cap,rfl,HI.o,HB2.o⟩
variable{b o B:Nat}
theorem Oq(hb:b<B)(h:w.cell? ⟨b,o,U⟩=M (V U 0 0)):sG w B [] b o:=
 ⟨hb,U,0,h,Jn _,by unfold I2;omega,0,0,λh=>by simp at h,trivial⟩
variable{x:Nd}{v:Int}
theorem KH(h:¬ x.size<=40):dw x v=false:=by unfold dw;simp;intro _ h';exact absurd h' h
theorem H8(h:x.plain=false):dw x v=false:=by unfold dw;simp[h]
theorem KG(h1:x.size<=40)(h2:x.plain=true):dw x v=bT [] x v 0:=by unfold dw;simp[h1,h2]
theorem FL(x:Nd)(b o B:Nat)(v:Int)(w:Iv)(hE:dF w B x.k x.n x.p x.c x.ks b o)(hB:B<=w.heap.size)(hsz:x.ks.size<=1048576) :
  I0 Tryz.prog 120 #[ptr b o,I J v] w λe w'=>e=If (.bool (dw x v))/\Ix w.heap.size w w':=by
 obtain⟨W0,aZ⟩:=aD (w.alloc (Is #[V U 0 0] 51))
 have hb0:Ix w.heap.size w W0:=by rw[aZ];go_grown
 have hs0:W0.heap.size=w.heap.size+1:=by rw[aZ];simp
 have hq:au W0 w.heap.size 51 [V U 0 0]:=by rw[aZ];exact au.new w 51 [V U 0 0]
 have gX:ak (∀ wx,Ix W0.heap.size W0 wx->I0 Tryz.prog 194 #[ptr b o] wx λe w'=>e=If (I J ((x.ks.size+1:Nat):Int))/\Ix wx.heap.size wx w'):=λwx h=>
  JY _ x.ks (Nat.lt_succ_self _) x.k x.n x.p x.c b o B wx ((hE.below (hb0.mono hB)).below (h.mono ah)) (by have:=h.size;omega) hsz
 have fH:ak (∀ wx,Ix W0.heap.size W0 wx->I0 Tryz.prog 195 #[ptr b o] wx λe w'=>e=If (.bool x.plain)/\Ix wx.heap.size wx w'):=λwx h=>
  Oj _ x.ks (Nat.lt_succ_self _) x.k x.n x.p x.c b o B wx ((hE.below (hb0.mono hB)).below (h.mono ah)) (by have:=h.size;omega) hsz
 have Vh:ak (∀ wx,Ix W0.heap.size W0 wx->I0 Tryz.prog 68 #[ptr w.heap.size 0,ptr b o,I J v,I J 0] wx λe w'=>e=If (.bool (bT [] x v 0))/\Ix wx.heap.size wx w'):=λwx h=>
  vk [] x.ks x.k x.n x.p x.c v 0 b o w.heap.size 0 (w.heap.size+1) wx ((((hE.below (hb0.mono hB)).below (h.mono ah))).mono ah) (Oq ah (by rw[(hq.next h).cell];rfl)) (by have:=h.size;omega) hsz
 have HB0:=aj hb0;have dI:=aj aZ;have ak5:((x.ks.size+1:Nat):Int)=(x.size:Int):=by unfold Nd.size;omega
 rw[ak5] at gX;clear hE hb0 hs0 hq aZ
 by_cases h40:x.size<=40
 ·have Gu:(x.size:Int)<=40:=ah
  have YF:decide ((x.size:Int)<=40)=true:=decide_eq_true Gu;cases hpl:x.plain
  ·rw[H8 hpl]
   rw[hpl] at fH;clear hpl;go_enter func120,ntmps120;go_wp2_with fail;rw[<-dI.o];refine (gX.o _ (Jx _ _)).mono ?_;rintro e w1 ⟨rfl,hb1⟩;have H2:=aj (fH.o w1 hb1);have HB1:=aj hb1;clear hb1;go_wp2_with fail;refine H2.o.mono ?_;rintro e w2 ⟨rfl,hb2⟩;have HB2:ak (Ix w.heap.size w w2):=HB0.o.trans ((aH HB1.o hb2).mono HB0.o.size);clear hb2;go_wp2;go_ret;exact⟨rfl,HB2.o⟩
  ·rw[KG h40 hpl]
   rw[hpl] at fH;clear hpl;go_enter func120,ntmps120;go_wp2_with fail;rw[<-dI.o];refine (gX.o _ (Jx _ _)).mono ?_;rintro e w1 ⟨rfl,hb1⟩;have H2:=aj (fH.o w1 hb1);have HB1:=aj hb1;clear hb1;go_wp2_with fail;refine H2.o.mono ?_;rintro e w2 ⟨rfl,hb2⟩;have HB2:=aj (aH HB1.o hb2);have H3:=aj (Vh.o w2 HB2.o);clear hb2;go_wp2_with fail;refine H3.o.mono ?_;rintro e w3 ⟨rfl,hb3⟩
   have HB3:ak (Ix w.heap.size w w3):=HB0.o.trans ((aH HB2.o hb3).mono HB0.o.size);clear hb3;go_wp2;go_ret;exact⟨rfl,HB3.o⟩
 ·rw[KH h40]
  have Gu:¬ (x.size:Int)<=40:=ah;have YF:decide ((x.size:Int)<=40)=false:=decide_eq_false Gu;go_enter func120,ntmps120;go_wp2_with fail;rw[<-dI.o];refine (gX.o _ (Jx _ _)).mono ?_;rintro e w1 ⟨rfl,hb1⟩;have HB1:ak (Ix w.heap.size w w1):=HB0.o.trans (hb1.mono HB0.o.size);clear hb1;go_wp2;go_ret;exact⟨rfl,HB1.o⟩
structure pE (w:Iv) (B:Nat) (v:Int) (l r:Nd) (b o:Nat):Prop where
 vars:w.cell? ⟨b,o,U⟩=M (I J v)
 left:dF w B l.k l.n l.p l.c l.ks b (o+1)
 right:dF w B r.k r.n r.p r.c r.ks b (o+6)
theorem pE.below{w':Iv}{l r:Nd}(h:pE w B v l r b o)(hb:Ix B w w'):pE w' B v l r b o:=
 ⟨(hb.cell (p:=⟨b,o,U⟩) h.left.1).trans h.vars,h.left.below hb,h.right.below hb⟩
theorem cZ(h:dw x v=true):x.ks.size<=39/\x.plain=true/\formed [] 0 v x=true/\0<=v/\v<=412:=by
 unfold dw bT at h;simp only[Mb,decide_eq_true_eq] at h;have h2:=h.1.2;unfold Nd.size at h2;have h3:=bH.1 h.1.1.1.1.1.1;exact⟨ah,h.2,h.1.1.2,h3.1,h3.2⟩
end
end Go.Proofs.YtgfkglhelfkpoaaGreat
open Go.Proofs.Tryz
namespace Go.Proofs.YtgfkglhelfkpoaaGreat
section
open Go.RowKit Plain
theorem SI(v:Int)(l r:Nd)(b o B:Nat)(w:Iv)(hE:pE w B v l r b o)(hB:B<=w.heap.size)(hl:l.ks.size<=1048576)(hr:r.ks.size<=1048576) :
  I0 Tryz.prog 57 #[ptr b o] w λe w'=>e=If (.bool (eF v l r))/\Ix w.heap.size w w':=by
 have IV:=aj hE;have oI:=aj (λwx=>wh (fP v 0 3) v 0 3 rfl wx);have HL:ak (∀ wx,Ix w.heap.size w wx->I0 Tryz.prog 120 #[ptr b (o+1),I J v] wx λe w'=>e=If (.bool (dw l v))/\Ix wx.heap.size wx w'):=λwx h=>
  FL l b (o+1) B v wx (hE.left.below (h.mono hB)) (Mp hB h.size) hl
 have HR:ak (∀ wx,Ix w.heap.size w wx->I0 Tryz.prog 120 #[ptr b (o+6),I J v] wx λe w'=>e=If (.bool (dw r v))/\Ix wx.heap.size wx w'):=λwx h=>
  FL r b (o+6) B v wx (hE.right.below (h.mono hB)) (Mp hB h.size) hr
 have eu:ak (w.cell? ⟨b,o,U⟩=M (I J v)/\w.cell? ⟨b,o+1,U⟩=M (I J l.k)):=⟨hE.vars,hE.left.2.1⟩
 have gQ:ak (w.drew.cell? ⟨b,o,U⟩=M (I J v)/\w.drew.cell? ⟨b,o+1,U⟩=M (I J l.k)):=eu.o;have hbw:b<w.heap.size:=M1 hE.left.1 hB;clear hE;cases hin:fP v 0 3
 case false=>
  have HV:ak (eF v l r=false):=by show _=_;unfold eF;rw[hin];rfl
  rw[HV.o];rw[hin] at oI;clear hin;go_enter func57,ntmps57;go_wp2_with fail;refine aO.start (S:=(λwx=>wx.cell? ⟨b,o,U⟩=M (I J v)/\wx.cell? ⟨b,o+1,U⟩=M (I J l.k))) 35 aL aL ?Sv0 (λaA hB=>?_)
  case Sv0=>((try dsimp only);exact gQ.o)
  iterate 4 (refine aO.tk hB aA ?_;try simp only[aP])
  refine aO.bU (i:=4) rfl bM aL (λK hK=>?_);go_simp
  go_at_call 106
  refine (oI.o _).mono ?_;rintro e w' ⟨rfl,JU⟩;obtain rfl:=JU.symm;go_wp2_with fail;refine hK.out _ _ (by (try dsimp only);exact aA) ?_;clear hK K aA;intro aA
  (try simp only[aP])
  iterate 30 (refine aO.tk hB aA ?_;try simp only[aP])
  refine aO.gL rfl aL aL (λK hK=>?_);go_simp;refine hK.out _ _ ?_;clear hK K;go_wp2;go_ret;exact⟨rfl,(Jx _ _).drew⟩
 case true=>
 rw[hin] at oI;cases hsl:dw l v
 case false=>
  have HV:ak (eF v l r=false):=by show _=_;unfold eF;rw[hin,hsl];rfl
  rw[HV.o];rw[hsl] at HL;clear hin hsl;go_enter func57,ntmps57;go_wp2_with fail;refine aO.start (S:=(λwx=>wx.cell? ⟨b,o,U⟩=M (I J v)/\wx.cell? ⟨b,o+1,U⟩=M (I J l.k))) 35 aL aL ?Sl0 (λaA hB=>?_)
  case Sl0=>((try dsimp only);exact gQ.o)
  iterate 4 (refine aO.tk hB aA ?_;try simp only[aP])
  refine aO.bU (i:=4) rfl bM aL (λK hK=>?_);go_simp
  go_at_call 106
  refine (oI.o _).mono ?_;rintro e w' ⟨rfl,JU⟩;obtain rfl:=JU.symm;go_wp2_with fail;refine hK.out _ _ (by (try dsimp only);exact aA) ?_;clear hK K aA;intro aA
  (try simp only[aP])
  iterate 9 (refine aO.tk hB aA ?_;try simp only[aP])
  refine aO.bU (i:=14) rfl bM aL (λK hK=>?_);go_simp
  go_at_call 120
  refine (HL.o _ (Jx _ _).drew).mono ?_;rintro e wHL ⟨rfl,NG⟩;have rM:=aj (aH (Jx _ _).drew NG);go_wp2_with fail;refine hK.out _ _ (by (try dsimp only);exact⟨aB eu.o.1 rM.o,aB eu.o.2 rM.o⟩) ?_;clear hK K aA;intro aA
  (try simp only[aP])
  iterate 20 (refine aO.tk hB aA ?_;try simp only[aP])
  refine aO.gL rfl aL aL (λK hK=>?_);go_simp;refine hK.out _ _ ?_;clear hK K;go_wp2;go_ret;exact⟨rfl,rM.o⟩
 case true=>
 rw[hsl] at HL;cases yU:dw r v
 case false=>
  have HV:ak (eF v l r=false):=by show _=_;unfold eF;rw[hin,hsl,yU];rfl
  rw[HV.o];rw[yU] at HR;clear hin hsl yU;go_enter func57,ntmps57;go_wp2_with fail;refine aO.start (S:=(λwx=>wx.cell? ⟨b,o,U⟩=M (I J v)/\wx.cell? ⟨b,o+1,U⟩=M (I J l.k))) 35 aL aL ?Sr0 (λaA hB=>?_)
  case Sr0=>((try dsimp only);exact gQ.o)
  iterate 4 (refine aO.tk hB aA ?_;try simp only[aP])
  refine aO.bU (i:=4) rfl bM aL (λK hK=>?_);go_simp
  go_at_call 106
  refine (oI.o _).mono ?_;rintro e w' ⟨rfl,JU⟩;obtain rfl:=JU.symm;go_wp2_with fail;refine hK.out _ _ (by (try dsimp only);exact aA) ?_;clear hK K aA;intro aA
  (try simp only[aP])
  iterate 9 (refine aO.tk hB aA ?_;try simp only[aP])
  refine aO.bU (i:=14) rfl bM aL (λK hK=>?_);go_simp
  go_at_call 120
  refine (HL.o _ (Jx _ _).drew).mono ?_;rintro e wHL ⟨rfl,NG⟩;have rM:=aj (aH (Jx _ _).drew NG);go_wp2_with fail;refine hK.out _ _ (by (try dsimp only);exact⟨aB eu.o.1 rM.o,aB eu.o.2 rM.o⟩) ?_;clear hK K aA;intro aA
  (try simp only[aP])
  iterate 10 (refine aO.tk hB aA ?_;try simp only[aP])
  refine aO.bU (i:=25) rfl bM aL (λK hK=>?_);go_simp
  go_at_call 120
  refine (HR.o _ rM.o).mono ?_;rintro e wHR ⟨rfl,YU⟩;have Cm:=aj (aH rM.o YU);go_wp2_with fail;refine hK.out _ _ (by (try dsimp only);exact⟨aB eu.o.1 Cm.o,aB eu.o.2 Cm.o⟩) ?_;clear hK K aA;intro aA
  (try simp only[aP])
  iterate 9 (refine aO.tk hB aA ?_;try simp only[aP])
  refine aO.gL rfl aL aL (λK hK=>?_);go_simp;refine hK.out _ _ ?_;clear hK K;go_wp2;go_ret;exact⟨rfl,Cm.o⟩
 case true=>
 rw[yU] at HR
 by_cases hk2:l.k=2
 ·have HV:ak (eF v l r=false):=by show _=_;unfold eF;rw[hin,hsl,yU,hk2];rfl
  rw[HV.o];have aft:(l.k==2)=true:=by rw[hk2];rfl
  clear hin hsl yU hk2;go_enter func57,ntmps57;go_wp2_with fail;refine aO.start (S:=(λwx=>wx.cell? ⟨b,o,U⟩=M (I J v)/\wx.cell? ⟨b,o+1,U⟩=M (I J l.k))) 35 aL aL ?Sk0 (λaA hB=>?_)
  case Sk0=>((try dsimp only);exact gQ.o)
  iterate 4 (refine aO.tk hB aA ?_;try simp only[aP])
  refine aO.bU (i:=4) rfl bM aL (λK hK=>?_);go_simp
  go_at_call 106
  refine (oI.o _).mono ?_;rintro e w' ⟨rfl,JU⟩;obtain rfl:=JU.symm;go_wp2_with fail;refine hK.out _ _ (by (try dsimp only);exact aA) ?_;clear hK K aA;intro aA
  (try simp only[aP])
  iterate 9 (refine aO.tk hB aA ?_;try simp only[aP])
  refine aO.bU (i:=14) rfl bM aL (λK hK=>?_);go_simp
  go_at_call 120
  refine (HL.o _ (Jx _ _).drew).mono ?_;rintro e wHL ⟨rfl,NG⟩;have rM:=aj (aH (Jx _ _).drew NG);go_wp2_with fail;refine hK.out _ _ (by (try dsimp only);exact⟨aB eu.o.1 rM.o,aB eu.o.2 rM.o⟩) ?_;clear hK K aA;intro aA
  (try simp only[aP])
  iterate 10 (refine aO.tk hB aA ?_;try simp only[aP])
  refine aO.bU (i:=25) rfl bM aL (λK hK=>?_);go_simp
  go_at_call 120
  refine (HR.o _ rM.o).mono ?_;rintro e wHR ⟨rfl,YU⟩;have Cm:=aj (aH rM.o YU);go_wp2_with fail;refine hK.out _ _ (by (try dsimp only);exact⟨aB eu.o.1 Cm.o,aB eu.o.2 Cm.o⟩) ?_;clear hK K aA;intro aA
  (try simp only[aP])
  iterate 9 (refine aO.tk hB aA ?_;try simp only[aP])
  refine aO.gL rfl aL aL (λK hK=>?_);go_simp;refine hK.out _ _ ?_;clear hK K;go_wp2;go_ret;exact⟨rfl,Cm.o⟩
 ·have HV:ak (eF v l r=r.iL.all (λy=>l.iL.contains y)):=by show _=_;unfold eF;rw[hin,hsl,yU,beq_eq_false_iff_ne.2 hk2];rfl
  rw[HV.o];obtain⟨rr,dG⟩:=aD (r.iL.all (λy=>l.iL.contains y))
  rw[<-dG];have HRR:=aj dG;have aft:(l.k==2)=false:=beq_eq_false_iff_ne.2 hk2;obtain⟨l1,l2,l3,hv0,hv1⟩:=cZ hsl;obtain⟨r1,r2,r3,_,_⟩:=cZ yU;have IQ:ak (∀ wx,Ix w.heap.size w wx->I0 Tryz.prog 121 #[ptr b (o+1),I J v] wx λe w'=>∃ A cap,e=If (V A l.iL.length cap)/\Ints w' A l.iL/\Ix wx.heap.size wx w'):=λwx h=>
   tK l b (o+1) B v wx (IV.o.left.below (h.mono hB)) (Mp hB h.size) l1 l2 l3 hv0 hv1
  have HOR:ak (∀ wx,Ix w.heap.size w wx->I0 Tryz.prog 121 #[ptr b (o+6),I J v] wx λe w'=>∃ A cap,e=If (V A r.iL.length cap)/\Ints w' A r.iL/\Ix wx.heap.size wx w'):=λwx h=>
   tK r b (o+6) B v wx (IV.o.right.below (h.mono hB)) (Mp hB h.size) r1 r2 r3 hv0 hv1
  have hll:l.iL.length<=1000:=by
   have:=Dl l.ks (if l.k=2 then gH l.n [] else []);rw[if_neg hk2] at this;show (nG l.ks (if l.k=2 then gH l.n [] else [])).length<=1000;rw[if_neg hk2];simp at this;omega
  have hrl:r.iL.length<=1000:=by
   have h:=Dl r.ks (if r.k=2 then gH r.n [] else []);have h2:(if r.k=2 then gH r.n [] else []).length<=1:=by
    split
    ·exact GQ
    ·simp
   show (nG r.ks (if r.k=2 then gH r.n [] else [])).length<=1000;omega
  clear hin hsl yU hk2 dG l1 l2 l3 r1 r2 r3 hl hr;go_enter func57,ntmps57;go_wp2_with fail;refine aO.start (S:=(λwx=>wx.cell? ⟨b,o,U⟩=M (I J v)/\wx.cell? ⟨b,o+1,U⟩=M (I J l.k))) 35 aL aL ?So0 (λaA hB=>?_)
  case So0=>((try dsimp only);exact gQ.o)
  iterate 4 (refine aO.tk hB aA ?_;try simp only[aP])
  refine aO.bU (i:=4) rfl bM aL (λK hK=>?_);go_simp
  go_at_call 106
  refine (oI.o _).mono ?_;rintro e w' ⟨rfl,JU⟩;obtain rfl:=JU.symm;go_wp2_with fail;refine hK.out _ _ (by (try dsimp only);exact aA) ?_;clear hK K aA;intro aA
  (try simp only[aP])
  iterate 9 (refine aO.tk hB aA ?_;try simp only[aP])
  refine aO.bU (i:=14) rfl bM aL (λK hK=>?_);go_simp
  go_at_call 120
  refine (HL.o _ (Jx _ _).drew).mono ?_;rintro e wHL ⟨rfl,NG⟩;have rM:=aj (aH (Jx _ _).drew NG);go_wp2_with fail;refine hK.out _ _ (by (try dsimp only);exact⟨aB eu.o.1 rM.o,aB eu.o.2 rM.o⟩) ?_;clear hK K aA;intro aA
  (try simp only[aP])
  iterate 10 (refine aO.tk hB aA ?_;try simp only[aP])
  refine aO.bU (i:=25) rfl bM aL (λK hK=>?_);go_simp
  go_at_call 120
  refine (HR.o _ rM.o).mono ?_;rintro e wHR ⟨rfl,YU⟩;have Cm:=aj (aH rM.o YU);go_wp2_with fail;refine hK.out _ _ (by (try dsimp only);exact⟨aB eu.o.1 Cm.o,aB eu.o.2 Cm.o⟩) ?_;clear hK K aA;intro aA
  (try simp only[aP])
  iterate 9 (refine aO.tk hB aA ?_;try simp only[aP])
  refine aO.gL rfl aL aL (λK hK=>?_);go_simp;refine hK.out _ _ ?_;clear hK K;have hbR:Ix w.heap.size w wHR:=Cm.o;have q0:=aB eu.o.1 hbR;have HBQ:=aj hbR;clear aA hbR;go_wp2_with fail;refine aO.start (S:=(λwx=>wx.cell? ⟨b,o,U⟩=M (I J v))) 8 aL aL ?Sx0 (λaA hB=>?_)
  case Sx0=>((try dsimp only);exact q0)
  iterate 7 (refine aO.tk hB aA ?_;try simp only[aP])
  refine aO.bU (i:=7) rfl bM aL (λK hK=>?_);go_simp
  go_at_call 121
  refine (IQ.o _ (aH HBQ.o (Jx _ _).drew)).mono ?_;rintro e wOL ⟨AOL,ahj,rfl,ahX,ahG⟩;have aaw:=aj (aH (aH HBQ.o (Jx _ _).drew) ahG);go_wp2_with fail;refine hK.out _ _ (by (try dsimp only);exact aB eu.o.1 aaw.o) ?_;clear hK K aA;intro aA
  (try simp only[aP])
  refine aO.gL rfl aL aL (λK hK=>?_);go_simp;refine hK.out _ _ ?_;clear hK K;have HIL:=aj ahX;have q0:=aB eu.o.1 aaw.o;clear aA ahX ahG;go_wp2_with fail;refine aO.start (S:=(λwx=>wx.cell? ⟨b,o,U⟩=M (I J v))) 8 aL aL ?Sy0 (λaA hB=>?_)
  case Sy0=>((try dsimp only);exact q0)
  iterate 7 (refine aO.tk hB aA ?_;try simp only[aP])
  refine aO.bU (i:=7) rfl bM aL (λK hK=>?_);go_simp
  go_at_call 121
  refine (HOR.o _ (aH aaw.o (Jx _ _).drew)).mono ?_;rintro e wOR ⟨AOR,alI,rfl,ahY,afb⟩;have aeG:=aj (aH (aH aaw.o (Jx _ _).drew) afb);go_wp2_with fail;refine hK.out _ _ (by (try dsimp only);exact aB eu.o.1 aeG.o) ?_;clear hK K aA;intro aA
  (try simp only[aP])
  refine aO.gL rfl aL aL (λK hK=>?_);go_simp;refine hK.out _ _ ?_;clear hK K;have ajk:=aj (HIL.o.below (Below.trans (Jx _ _).drew (afb.mono (Jn _))));have QA:=aj ahY;clear aA ahY afb HIL q0;go_wp2_with fail
  go_loopg [5] (r.iL.length+1) (λkx s5 wr=>∃ (i:Nat),s5=I J (i:Int)/\i<=r.iL.length/\r.iL.length - i<kx/\ak (rr=(r.iL.drop i).all (λy=>l.iL.contains y))/\wOR=wr)
  case atStart=>exact⟨0,rfl,ah,ah,by show _=_;rw[List.drop_zero];exact HRR.o,rfl⟩
  case round=>
   obtain⟨i,rfl,hin,hkx,HD,rfl⟩:=hrel
   by_cases hlt:i<r.iL.length
   ·have hiz:(i:Int)<(r.iL.length:Int):=ah
    obtain⟨bq,oq,rfl,_,hc⟩:=QA.o.zC ah;have e0:=hc i hlt;have HX:ak (r.iL.drop i=cf r.iL i :: r.iL.drop (i+1)):=by
     show _=_;rw[List.drop_eq_getElem_cons hlt];congr 1;simp[cf,Up,hlt]
    obtain⟨y,hy⟩:=aD (cf r.iL i)
    rw[<-hy] at e0 HX;have HH:=aj (JH AOL ahj l.iL y wOR ajk.o ah);have HD2:ak (rr=(l.iL.contains y&&(r.iL.drop (i+1)).all (λy=>l.iL.contains y))):=by show _=_;rw[HD.o,HX.o];rfl
    clear hc hy HX HD;cases hcy:l.iL.contains y
    ·rw[hcy] at HH HD2
     have ng:ak (rr=false):=HD2.o;clear hcy;go_wp2_with (go_at_call 122;refine HH.o.mono ?_;rintro e w' ⟨rfl,rfl⟩);go_ret;exact⟨by rw[ng.o];rfl,aeG.o⟩
    ·rw[hcy] at HH HD2
     have ng:ak (rr=(r.iL.drop (i+1)).all (λy=>l.iL.contains y)):=HD2.o;clear hcy;go_wp2_with (go_at_call 122;refine HH.o.mono ?_;rintro e w' ⟨rfl,rfl⟩)
     go_roundg (r.iL.length - (i+1)+1)
     case measure=>omega
     case rel=>exact⟨i+1,by first | rfl | go_num,ah,ah,ng,rfl⟩
   ·obtain rfl:i=r.iL.length:=ah
    have hiz:¬ (r.iL.length:Int)<(r.iL.length:Int):=ah;have ng:ak (rr=true):=by show _=_;rw[HD.o,List.drop_length];rfl
    go_wp2;go_ret;exact⟨by rw[ng.o];rfl,aeG.o⟩
end
end Go.Proofs.YtgfkglhelfkpoaaGreat
