/- Parts of the proof. -/
import Derived.Test.YtgfkglhelfkpoaaGreatRSN
set_option maxRecDepth 100000
set_option maxHeartbeats 4000000
open Go.Proofs.Tryz
open Go.Value renaming int→I,slice→V
open Go.IntKind renaming i64→J
open Option renaming some→M,none→U
open Go.Ending renaming returned→If
open Go.Obj renaming cells→Is
open Go renaming World→Iv,Calls→I0,Value→I1,maxLen→I2,Addr→I3
open Go.RowKit renaming Below→Ix
open Nat renaming le_refl→Jn,add_zero→Mm,zero_mul→Mn,zero_add→Mu
open Go.RowKit.Below renaming refl→Jx
open Bool renaming and_eq_true→Mb
open List renaming length_map→My,mem_cons_self→M3,getD→Up,mem_cons_of_mem→V2
namespace Go.Proofs.YtgfkglhelfkpoaaGreat
section
open Go.RowKit Plain
theorem NY(A:Option I3)(cap:Nat)(l:List Int)(x:Int)(w:Iv)(hA:Ints w A l)(hl:l.length<=1048576) :
  I0 Tryz.prog 208 #[V A l.length cap,I J x] w λe w'=>(∃ v:Int,e=If (I J v)/\decide (0<=v)=l.contains x)/\w=w':=by
 have HA:=aj hA;obtain⟨rr,dG⟩:=aD (l.contains x)
 rw[<-dG];have HRR:=aj dG;clear hA dG;go_enter func208,ntmps208;go_wp2_with fail
 go_loopg [5,8] (l.length+1) (λkx _ s8 wr=>∃ (i:Nat),s8=I J (i:Int)/\i<=l.length/\l.length - i<kx/\ak (rr=(l.drop i).contains x)/\w=wr)
 case atStart=>exact⟨0,by first | rfl | go_num,ah,ah,by show _=_;rw[List.drop_zero];exact HRR.o,rfl⟩
 case round=>
  obtain⟨i,rfl,hin,hkx,HD,rfl⟩:=hrel
  by_cases hlt:i<l.length
  ·have hiz:(i:Int)<(l.length:Int):=ah
   obtain⟨b,o,rfl,hb,hc⟩:=HA.o.zC ah;have e0:=hc i hlt;have HX:ak (l.drop i=cf l i :: l.drop (i+1)):=by
    show _=_;rw[List.drop_eq_getElem_cons hlt];congr 1;simp[cf,Up,hlt]
   obtain⟨y,hy⟩:=aD (cf l i)
   rw[<-hy] at e0 HX;clear hc hy
   by_cases hxy:x=y
   ·subst hxy
    have HV:ak (rr=true):=by show _=_;rw[HD.o,HX.o];simp
    go_wp2;go_ret;exact⟨⟨(i:Int),rfl,by rw[HV.o];simp⟩,rfl⟩
   ·have HV:ak (rr=(l.drop (i+1)).contains x):=by show _=_;rw[HD.o,HX.o];simp[hxy]
    have hxb:(x==y)=false:=beq_eq_false_iff_ne.2 hxy;go_wp2
    go_roundg (l.length - (i+1)+1)
    case measure=>omega
    case rel=>exact⟨i+1,by first | rfl | go_num,ah,ah,HV,rfl⟩
  ·obtain rfl:i=l.length:=ah
   have hiz:¬ (l.length:Int)<(l.length:Int):=ah;have HV:ak (rr=false):=by show _=_;rw[HD.o,List.drop_length];rfl
   go_wp2;go_ret;exact⟨⟨-1,rfl,by rw[HV.o];rfl⟩,rfl⟩
theorem pF(A:Option I3)(cap:Nat)(l:List Int)(x:Int)(w:Iv)(hA:Ints w A l)(hl:l.length<=1048576) :
  I0 Tryz.prog 132 #[V A l.length cap,I J x] w λe w'=>e=If (.bool (l.contains x))/\w=w':=by
 have HI:=aj (NY A cap l x w hA hl);obtain⟨rr,dG⟩:=aD (l.contains x)
 rw[<-dG] at HI ⊢;clear hA dG;go_enter func132,ntmps132;go_wp2_with fail;refine HI.o.mono ?_;rintro e w' ⟨⟨v,rfl,hv⟩,rfl⟩;have HV:=aj hv;clear hv;go_wp2;go_ret;exact⟨aG HV.o,rfl⟩
def rQ(p:Nd->Bool):Es->Bool
 | .nil=>false
 | .cons k n q c ks r=>p ⟨k,n,q,c,ks⟩ || rQ p r
theorem vU(K:Option I3)(cap B:Nat)(es:Es)(w:Iv)(hA:bJ w B es K)(hB:B<=w.heap.size)(hn:es.len<=1048576)
  (f:Nat) (hf:Enters f) (cs:Array I1) (p:Nd->Bool) (hp:ak (∀ i k n q c ks K' cp wx,es.get? i=M ⟨k,n,q,c,ks⟩->Ix w.heap.size w wx->bJ wx B ks K'->ks.len<=cp->cp<=I2->I0 Tryz.prog f (#[exV k n q c K' ks.len cp]++cs) wx λe w'=>e=If (.bool (p ⟨k,n,q,c,ks⟩))/\Ix wx.heap.size wx w')) :
  I0 Tryz.prog 219 #[V K es.len cap,.func (.func f) #[] cs] w λe w'=>e=If (.bool (rQ p es))/\Ix w.heap.size w w':=by
 have HIX:ak (I0 Tryz.prog 258 #[V K es.len cap,.func (.func f) #[] cs] w λe w'=>(∃ v:Int,e=If (I J v)/\decide (0<=v)=rQ p es)/\Ix w.heap.size w w'):=by
  show I0 _ _ _ _ _;obtain⟨b',o',hK,hks⟩:=hA;have gI:=aj hks;clear hks;obtain⟨rr,dG⟩:=aD (rQ p es)
  rw[<-dG];have HRR:=aj dG;clear dG;go_enter func258,ntmps258;go_wp2_with fail
  go_loopg [5,8] (es.len+1) (λkx _ s8 wr=>∃ (j:Nat) (es':Es),s8=I J (j:Int)/\j+es'.len=es.len/\es.len - j<kx/\ak (rr=rQ p es')/\ak (∀ i,es'.get? i=es.get? (j+i))/\ak (aI wr B es' b' (o'+j*5))/\ak (Ix w.heap.size w wr))
  case atStart=>exact⟨0,es,by first | rfl | go_num,ah,ah,HRR,(λi=>by rw[Mu]),by show aI _ _ _ _ _;rw[Mn,Mm];exact gI.o,Jx _ _⟩
  case round=>
   obtain⟨j,es',rfl,hj,hkx,HV,HG,HE,HB⟩:=hrel;cases es' with
   | nil=>
    simp only[Es.len] at hj;have hjz:¬ (j:Int)<(es.len:Int):=ah;have ng:ak (rr=false):=HV.o;go_wp2;go_ret;exact⟨⟨-1,rfl,by rw[ng.o];rfl⟩,HB.o⟩
   | cons kk n' p' c' aY r=>
    simp only[Es.len] at hj;have hjz:(j:Int)<(es.len:Int):=ah;have hK:=hK ah;subst hK;obtain⟨hel,hr⟩:=HE.o;have HR:=aj hr;obtain⟨lD,h0,h1,h2,h3,K',bB,b2,o2,h4,hc2,hcm2,hK2,dS⟩:=hel;have pz:ak (∀ i,r.get? i=es.get? (j+1+i)):=λi=>by
     have:=HG.o (i+1);simp only[Es.get?] at this;rw[this];congr 1;omega
    have HC:=aj (hp.o j kk n' p' c' aY K' bB wr (by rw[<-Mm j,<-HG.o 0];rfl) HB.o ⟨b2,o2,hK2,dS⟩ hc2 hcm2);have ng:ak (rr=(p ⟨kk,n',p',c',aY⟩ || rQ p r)):=HV.o;clear hr HE dS hK2 HG HV;cases yC:p ⟨kk,n',p',c',aY⟩
    ·rw[yC] at HC ng
     have Bl:ak (rr=rQ p r):=ng.o;clear yC;go_wp2_with fail;rw[hf _ _,Oper.upon_enter];refine HC.o.mono ?_;rintro e w1 ⟨rfl,hb1⟩;have gY:ak (aI w1 B r b' (o'+(j+1)*5)):=by
      have:=HR.o.below (hb1.mono (by have:=HB.o.size;omega))
      rwa [show o'+j*5+5=o'+(j+1)*5 by omega] at this
     have HB1:=aj (aH HB.o hb1);clear hb1;go_wp2
     go_roundg (es.len - (j+1)+1)
     case measure=>omega
     case rel=>exact⟨j+1,r,by first | rfl | go_num,ah,ah,Bl,pz,gY,HB1⟩
    ·rw[yC] at HC ng
     have Bl:ak (rr=true):=ng.o;clear yC;go_wp2_with fail;rw[hf _ _,Oper.upon_enter];refine HC.o.mono ?_;rintro e w1 ⟨rfl,hb1⟩;have HB1:=aj (aH HB.o hb1);clear hb1;go_wp2;go_ret;exact⟨⟨(j:Int),rfl,by rw[Bl.o];simp⟩,HB1.o⟩
 obtain⟨rr,dG⟩:=aD (rQ p es)
 rw[<-dG] at HIX ⊢;clear hA dG hp;go_enter func219,ntmps219;go_wp2_with fail;refine HIX.o.mono ?_;rintro e w' ⟨⟨v,rfl,hv⟩,hb⟩;have HV:=aj hv;have HB:=aj hb;clear hv hb;go_wp2;go_ret;exact⟨aG HV.o,HB.o⟩
theorem Sg(es:Es):dJ es=!rQ (λy=>!y.plain) es:=by
 induction es with
 | nil=>rfl
 | cons k n p c ks r _ ih=>
  simp only[dJ,rQ,ih];show (Nd.plain ⟨k,n,p,c,ks⟩&&_)=_;cases Nd.plain ⟨k,n,p,c,ks⟩<;>simp
theorem Bp(k:Int):([1,2,3,4,5,7]:List Int).contains k=jX k:=by
 cases h:jX k
 ·have:¬ (k=1∨k=2∨k=3∨k=4∨k=5∨k=7):=λhh=>by rw[lS.2 hh] at h;cases h
  simp;omega
 ·have:=lS.1 h
  simp;omega
def aeU(ks:Es):Prop:=∀ (k n p c:Int) (K:Option I3) (cap B:Nat) (A:Option I3) (w:Iv),bJ w B ks K->ks.len<=cap->cap<=I2->B<=w.heap.size->ks.size<=1048576->Ints w A [1,2,3,4,5,7] ->
 I0 Tryz.prog 205 #[exV k n p c K ks.len cap,V A 6 6] w λe w'=>e=If (.bool (Nd.plain ⟨k,n,p,c,ks⟩))/\Ix w.heap.size w w'
theorem Gx:∀ (m:Nat) (ks:Es),ks.size<m->aeU ks:=by
 intro m
 induction m with
 | zero=>intro es h;omega
 | succ m ih=>
 intro ks hm k n p c K cap B A w hKs hc hcm hB hsz0 hA;have IH:=aj ih;clear ih;have hls:=Es.aF ks;have fF:cap<=9223372036854775807:=by unfold I2 at hcm;omega
 obtain⟨W0,aZ⟩:=aD ((w.alloc (Is #[I J k,I J n,I J p,I J c,V K ks.len cap] 33)).alloc (Is #[V A 6 6] 28))
 have hb0:Ix w.heap.size w W0:=by rw[aZ];go_grown
 have hs0:W0.heap.size=w.heap.size+2:=by rw[aZ];simp
 have hq1:au W0 w.heap.size 33 [I J k,I J n,I J p,I J c,V K ks.len cap]:=by
  rw[aZ];exact (au.new w 33 [I J k,I J n,I J p,I J c,V K ks.len cap]).next aV
 have hq2:au W0 (w.heap.size+1) 28 [V A 6 6]:=by
  rw[aZ];have:=au.new (w.alloc (Is #[I J k,I J n,I J p,I J c,V K ks.len cap] 33)) 28 [V A 6 6];simpa using this
 have HCI:=aj (pF A 6 [1,2,3,4,5,7] k W0 (hA.below hb0) (by simp));rw[Bp] at HCI;have HCE:ak (I0 Tryz.prog 219 #[V K ks.len cap,.func (.func 250) #[] #[.pointer (M ⟨w.heap.size+1,0,U⟩)]] W0 λe w'=>e=If (.bool (rQ (λy=>!y.plain) ks))/\Ix W0.heap.size W0 w'):=by
  refine vU K cap B ks W0 (hKs.below (hb0.mono hB)) ah ah 250 (λ_ _=>rfl) _ _ ?_;intro i k' n' p' c' aY K' cp wx hget hbx hE2 hc2 hcm2;show I0 Tryz.prog 250 #[exV k' n' p' c' K' aY.len cp,.pointer (M ⟨w.heap.size+1,0,U⟩)] wx _;have hlt:=Es.dY hget;simp only at hlt;have hwx:W0.heap.size<=wx.heap.size:=hbx.size;have zN:cp<=9223372036854775807:=by unfold I2 at hcm2;omega
  have k1:wx.cell? ⟨w.heap.size+1,0,U⟩=M (V A 6 6):=by rw[(hq2.next hbx).cell];rfl
  have k1':(wx.alloc (Is #[I J k',I J n',I J p',I J c',V K' aY.len cp] 33)).cell? ⟨w.heap.size+1,0,U⟩=M (V A 6 6):=aB k1 aV;obtain⟨W1,kK⟩:=aD (wx.alloc (Is #[I J k',I J n',I J p',I J c',V K' aY.len cp] 33))
  have hbn:Ix wx.heap.size wx W1:=by rw[kK];go_grown
  have hIH:=IH.o aY ah k' n' p' c' K' cp B A W1 (hE2.below (hbn.mono ah)) hc2 hcm2 (by have:=hbn.size;omega) ah (((hA.below hb0).below hbx).below hbn);have HI:=aj hIH;have HW1:=aj kK;have HBN:=aj hbn;clear hIH kK hbn hE2 hget IH HCI hKs hA;go_enter func250,ntmps250;go_wp2_with fail;rw[<-HW1.o];refine HI.o.mono ?_;rintro e w2 ⟨rfl,hb2⟩;have HB2:=aj (aH HBN.o hb2);clear hb2
  go_wp2;go_ret;exact⟨rfl,HB2.o⟩
 have dI:=aj aZ;have HB0:=aj hb0;have oN:=aj (Sg ks);have kI:ak (Nd.plain ⟨k,n,p,c,ks⟩=(jX k&&dJ ks)):=rfl;obtain⟨pp,wX⟩:=aD (Nd.plain ⟨k,n,p,c,ks⟩)
 rw[<-wX];rw[<-wX] at kI;have q0:W0.cell? ⟨w.heap.size,0,U⟩=M (I J k):=ay hq1
 have q4:W0.cell? ⟨w.heap.size,4,U⟩=M (V K ks.len cap):=ay hq1
 have q5:W0.cell? ⟨w.heap.size+1,0,U⟩=M (V A 6 6):=ay hq2
 clear hKs hA IH wX aZ hb0 hs0 hq1 hq2;cases hk:jX k
 ·rw[hk] at HCI kI
  have HV:ak (pp=false):=kI.o;clear hk;go_enter func205,ntmps205;go_wp2_with fail;rw[<-dI.o];refine HCI.o.mono ?_;rintro e w' ⟨rfl,rfl⟩;go_wp2;go_ret;exact⟨by rw[HV.o];rfl,HB0.o⟩
 ·rw[hk] at HCI kI
  have HV:ak (pp=!rQ (λy=>!y.plain) ks):=by show _=_;rw[kI.o,oN.o];rfl
  obtain⟨aa,TA⟩:=aD (rQ (λy=>!y.plain) ks)
  rw[<-TA] at HV HCE;clear hk TA;go_enter func205,ntmps205;go_wp2_with fail;rw[<-dI.o];refine HCI.o.mono ?_;rintro e w' ⟨rfl,rfl⟩;go_wp2_with fail;refine HCE.o.mono ?_;rintro e w1 ⟨rfl,hb1⟩;have HB1:ak (Ix w.heap.size w w1):=HB0.o.trans (hb1.mono HB0.o.size);clear hb1;go_wp2;go_ret;exact⟨by rw[HV.o];rfl,HB1.o⟩
def zx(w:Iv)(b n:Nat)(S:List Int):Prop:=
 ∃ D:DataW Unit,w.ownsMap Tryz.prog 2 (plainElem Tryz.prog 4) b n D/\∀ x:Int,(Lit.int .i64 x).wf=true->(Maps.has D (.int .i64 x)=true ↔ x∈S)
variable{w w':Iv}
theorem below_grown(h:Ix w.heap.size w w'):w.grownBy w' U:=⟨h.os,h.tape,h.output,h.size,λk hk _=>h.block k hk⟩
variable{b n:Nat}{S:List Int}
theorem zx.below(h:zx w b n S)(hb:Ix w.heap.size w w'):zx w' b n S:=by
 obtain⟨D,h1,h2⟩:=h;exact⟨D,h1.kept (below_grown hb) (by simp),h2⟩
theorem zx.lt(h:zx w b n S):b<w.heap.size:=by obtain⟨D,h1,_⟩:=h;exact h1.lt
theorem zx.put{D:DataW Unit}(h:w.ownsMap Tryz.prog 2 (plainElem Tryz.prog 4) b n D)(hs:∀ x:Int,(Lit.int .i64 x).wf=true->(Maps.has D (.int .i64 x)=true ↔ x∈S))(x:Int){v:DataW Unit}{m:Nat}
  (hown:w'.ownsMap Tryz.prog 2 (plainElem Tryz.prog 4) b m (D.put (.int .i64 x) v)) (hx:(Lit.int .i64 x).wf=true):zx w' b m (gH x S):=by
 refine⟨_,hown,λy hy=>?_⟩;have hm:Maps.IsMap D:=by obtain⟨es,_,_,_,_,e⟩:=h;exact⟨_,e⟩
 rw[C9]
 by_cases e:y=x
 ·subst e
  rw[Maps.has_put_same hm (by simp[WideAt.IsKeyLit])];simp
 ·rw[Maps.has_put_other (by simpa using e),hs y hy]
  simp[e]
theorem ab9{x:Int}(h0:-9223372036854775808<=x)(h1:x<=9223372036854775807):(Lit.int .i64 x).wf=true:=by
 exact WalkArith.wf_i64 ⟨h0,h1⟩
theorem qW(hg:w.grownBy w' (M b)):aC (λq=>q=b) w w':=⟨hg.os,hg.tape,hg.output,hg.size,λk hk hne=>hg.block k hk (λe=>hne (Option.some.inj e))⟩
def aha(ks:Es):Prop:=∀ (k n p c:Int) (K:Option I3) (cap B b nn:Nat) (S:List Int) (vars:Int) (w:Iv),bJ w B ks K->ks.len<=cap->cap<=I2->B<=b->ks.size<=1000->zx w b nn S->nn+ks.size+1<=3000 ->
 jX k=true->dJ ks=true->formed [] 0 vars ⟨k,n,p,c,ks⟩=true->0<=vars->vars<=412 ->
 I0 Tryz.prog 251 #[exV k n p c K ks.len cap,I J vars,I J vars,.map (M b)] w λe w'=>e=If (.bool true)/\(∃ nn',nn'<=nn+ks.size+1/\zx w' b nn' (xA k n ks S))/\aC (λq=>q=b) w w'
theorem EI:∀ (m:Nat) (ks:Es),ks.size<m->aha ks:=by
 intro m
 induction m with
 | zero=>intro es h;omega
 | succ m ih=>
 intro ks hm k n p c K cap B b nn S vars w hKs hc hcm hBb hsz0 hMS hnn hpk hpl hfm hv0 hv1;have IH:=aj ih;clear ih;have hls:=Es.aF ks;have fF:cap<=9223372036854775807:=by unfold I2 at hcm;omega
 have hk:=lS.1 hpk;have hk9:(k==9)=false:=beq_eq_false_iff_ne.2 ah;have akX:¬ k=9:=ah;have xK:ak (∀ j,bQ k vars j=vars):=λj=>by unfold bQ;rw[if_neg ah]
 unfold formed at hfm;simp only[Mb] at hfm;have hnk:=hfm.1;have HFM:ak (aK [] 0 ks k 0 vars=true):=hfm.2;have kI:ak (dJ ks=true):=hpl;clear hfm hpl hpk;obtain⟨W0,aZ⟩:=aD (w.alloc (Is #[.int .i64 k,.int .i64 n,.int .i64 p,.int .i64 c,V K ks.len cap] 33))
 have hb0:Ix w.heap.size w W0:=by rw[aZ];go_grown
 have hs0:W0.heap.size=w.heap.size+1:=by rw[aZ];simp
 have hbw:=hMS.lt;have hq:au W0 w.heap.size 33 [.int .i64 k,.int .i64 n,.int .i64 p,.int .i64 c,V K ks.len cap]:=by rw[aZ];exact au.new w 33 _
 have dI:=aj aZ;have HB0:=aj hb0;have gQ:=aj hs0;have HQ:=aj hq;have DX:=aj (hMS.below hb0);have gI:ak (bJ W0 B ks K):=hKs.below (hb0.mono ah)
 by_cases hk2:k=2
 ·subst hk2
  have hnb:0<=n/\n<vars/\ks.len=0:=by
   unfold bL at hnk;simp at hnk;have:=bH.1 hnk.2.2;omega
  obtain⟨hn0,hn1,hl0⟩:=hnb;have afu:ks=.nil:=Es.J2 hl0;subst afu;have oI:=aj (λwx=>aT n 0 (vars - 1) wx);rw[show fP n 0 (vars - 1)=true from bH.2 ah] at oI;have hwv:IntKind.i64.wrap (vars - 1)=vars - 1:=by rw[IntKind.wrap_i64];omega
  have hwf:=ab9 (x:=n) ah ah;obtain⟨D,hown,hset⟩:=DX.o;have q0:W0.cell? ⟨w.heap.size,0,U⟩=M (.int .i64 2):=ay hq
  have q1:W0.cell? ⟨w.heap.size,1,U⟩=M (.int .i64 n):=ay hq
  have q4:W0.cell? ⟨w.heap.size,4,U⟩=M (V K 0 cap):=ay hq
  have aaG:=aj hset;have law:Maps.Keyed Tryz.prog 2:=Maps.int_keyed underlying2;have hkey:keyOf Tryz.prog 2 (.int .i64 n)=M (.int .i64 n):=Maps.keyOf_int_mk underlying2 hwf;have JN:nn<I2:=by unfold I2;omega
  clear hnk hls gI HFM kI xK IH hMS hKs hb0 aZ hs0 hq hset;have HW1:ak (W0=w.alloc (Is #[.int .i64 2,.int .i64 n,.int .i64 p,.int .i64 c,V K 0 cap] 33)):=dI.o;show I0 Tryz.prog 251 #[exV 2 n p c K 0 cap,.int .i64 vars,.int .i64 vars,.map (M b)] w _;go_enter func251,ntmps251;go_upto_region 1 with fail;rw[<-HW1.o];go_wp2_with (first
   | (go_at_call 90;refine (oI.o _).mono ?_;rintro e w' ⟨rfl,rfl⟩)
   | (at_mapUpdate;refine wpList_mapUpdate_own _ rfl _ _ _ 283 rfl 2 4 law underlying283 _ b nn _ rfl hown JN _ _ _ rfl rfl hkey _ [] (plainElem_bool underlying4 true) ?_;intro w1 AP NJ;have y0:=NJ.cell q0 (by simp;omega);have y4:=NJ.cell q4 (by simp;omega)))
  refine wp_loop_rounds 1 ?_;rw[rounds_succ];go_wp2;go_ret;exact⟨rfl,⟨nn+1,by simp[Es.size],zx.put hown aaG.o n AP hwf⟩,(aC.of_below HB0.o).trans (qW NJ)⟩
 ·have aft:(k==2)=false:=beq_eq_false_iff_ne.2 hk2
  have O_:ak (xA k n ks S=nG ks S):=by show _=_;unfold xA;rw[if_neg hk2]
  rw[O_.o];obtain⟨b',o',hK,hks⟩:=gI.o;have HKX:=aj hks;have q0:W0.cell? ⟨w.heap.size,0,U⟩=M (.int .i64 k):=ay hq
  have q4:W0.cell? ⟨w.heap.size,4,U⟩=M (V K ks.len cap):=ay hq
  have hBw:B<=w.heap.size:=ah;have hbne:b≠w.heap.size:=ah;clear hnk hMS hKs hb0 aZ hs0 hq hks gI;go_enter func251,ntmps251;go_upto_region 1 with fail;rw[<-dI.o];go_wp2_with fail;clear q0 q4
  go_loopg [40] (ks.len+1) (λkx s40 wr=>∃ (j:Nat) (es':Es) (S':List Int) (nn':Nat),s40=.int .i64 (j:Int)/\j+es'.len=ks.len/\ks.len - j<kx/\ak (nG ks S=nG es' S')/\ak (dJ es'=true)/\ak (aK [] 0 es' k j vars=true)/\ak (nn'+es'.size<=nn+ks.size)/\ak (es'.size<=ks.size)/\ak (aI wr B es' b' (o'+j*5))/\ak (zx wr b nn' S')/\ak (au wr w.heap.size 33 [.int .i64 k,.int .i64 n,.int .i64 p,.int .i64 c,V K ks.len cap])/\ak (aC (λq=>q=b) W0 wr))
  case atStart=>exact⟨0,ks,S,nn,by first | rfl | go_num,ah,ah,rfl,kI,HFM,Jn _,Jn _,by show aI _ _ _ _ _;rw[Mn,Mm];exact HKX.o,DX,HQ,aC.refl _ _⟩
  case round=>
   obtain⟨j,es',S',nn',rfl,hj,hkx,hy,hpl,hfm,hna,hsz,HE,HM,Vy,HO⟩:=hrel;clear kI HFM DX HQ HKX;have r0:wr.cell? ⟨w.heap.size,0,U⟩=M (.int .i64 k):=ay Vy.o
   cases es' with
   | nil=>
    simp only[Es.len] at hj;have hjz:¬ (j:Int)<(ks.len:Int):=ah;have HV:ak (nG ks S=S'):=hy.o;go_wp2;go_ret;exact⟨rfl,⟨nn',by have:=hna.o;simp only[Es.size] at this;omega,by rw[HV.o];exact HM.o⟩,(aC.of_below HB0.o).trans HO.o⟩
   | cons kk n' p' c' aY r=>
    simp only[Es.len] at hj;have hjz:(j:Int)<(ks.len:Int):=ah;have hK:=hK ah;subst hK;obtain⟨hel,hr⟩:=HE.o;have HR:=aj hr;obtain⟨lD,h0,h1,h2,h3,K',bB,b2,o2,h4,hc2,hcm2,hK2,dS⟩:=hel;have alL:bB<=9223372036854775807:=by unfold I2 at hcm2;omega
    have hp:=hpl.o;have hf:=hfm.o;simp only[dJ,Mb] at hp;simp only[aK,Mb] at hf;rw[xK.o] at hf;have mU:ak (dJ r=true):=hp.2;have LJ:ak (aK [] 0 r k (j+1) vars=true):=hf.2;have hrs:ak (r.size<=ks.size/\aY.size<ks.size/\nn'+(1+aY.size+r.size)<=nn+ks.size):=by
     have:=hsz.o;have h2:=hna.o;simp only[Es.size] at this h2;exact⟨ah,ah,ah⟩
    obtain⟨W1,kK⟩:=aD (wr.alloc (Is #[.int .i64 kk,.int .i64 n',.int .i64 p',.int .i64 c',V K' aY.len bB] 33))
    have hb1:Ix wr.heap.size wr W1:=by rw[kK];go_grown
    have IU:ak (au W1 w.heap.size 33 [.int .i64 k,.int .i64 n,.int .i64 p,.int .i64 c,V (M ⟨b',o',U⟩) ks.len cap]):=Vy.o.next hb1;have e0:(wr.alloc (Is #[.int .i64 kk,.int .i64 n',.int .i64 p',.int .i64 c',V K' aY.len bB] 33)).cell? ⟨w.heap.size,0,U⟩=M (.int .i64 k):=aB r0 aV;have hwr:W0.heap.size<=wr.heap.size:=HO.o.size;have amS:=gQ.o;have HC:=aj (IH.o aY (by have:=hrs.o;omega) kk n' p' c' K' bB B b nn' S' vars W1 (bJ.below (w:=wr) ⟨b2,o2,hK2,dS⟩ (hb1.mono ah)) hc2 hcm2 hBb (by have:=hrs.o;omega) (HM.o.below hb1) (by have:=hrs.o;omega) hp.1.1 hp.1.2 (by unfold formed;rw[hf.1.1,hf.1.2];rfl) hv0 hv1)
    have gY:ak (aI W1 B r b' (o'+j*5+5)):=HR.o.below (hb1.mono ah);have HB1:=aj hb1;have HW1:=aj kK;clear hr HE hp hf hpl hfm dS hK2 HR hb1 kK Vy;go_wp2_with fail;rw[<-HW1.o];refine HC.o.mono ?_;rintro e w1 ⟨rfl,⟨nn2,hn2,hm2⟩,ho1⟩;have Ik:=aj hm2;have dz:ak (aI w1 B r b' (o'+(j+1)*5)):=by
     have:=gY.o.below (ho1.below (by have:=HB1.o.size;omega) (λq hq=>ah))
     rwa [show o'+j*5+5=o'+(j+1)*5 by omega] at this
    have y7:ak (au w1 w.heap.size 33 [.int .i64 k,.int .i64 n,.int .i64 p,.int .i64 c,V (M ⟨b',o',U⟩) ks.len cap]):=(ho1.block _ (by have:=HB1.o.size;omega) (λe=>hbne e.symm)).trans IU.o;have rO:ak (aC (λq=>q=b) W0 w1):=(HO.o.trans (aC.of_below HB1.o)).trans ho1;have iD:ak (nn2+r.size<=nn+ks.size):=by have:=hrs.o;show _<=_;omega
    have jT:ak (nG ks S=nG r (xA kk n' aY S')):=hy.o;clear hm2 hn2 ho1 HC gY HB1 IU HO e0 r0;go_wp2
    go_roundg (ks.len - (j+1)+1)
    case measure=>omega
    case rel=>exact⟨j+1,r,_,nn2,by first | rfl | go_num,ah,ah,jT,mU,LJ,iD,hrs.o.1,dz,Ik,y7,rO⟩
theorem Db(x:Nd)(K:Option I3)(cap B:Nat)(v:Int)(w:Iv)(hKs:bJ w B x.ks K)(hc:x.ks.len<=cap)(hcm:cap<=I2)(hB:B<=w.heap.size)(hsz:x.ks.size<=1048576) :
  I0 Tryz.prog 128 #[exV x.k x.n x.p x.c K x.ks.len cap,I J v] w (d9 (dw x v) w):=by
 have hls:=Es.aF x.ks;have fF:cap<=9223372036854775807:=by unfold I2 at hcm;omega
 obtain⟨W0,aZ⟩:=aD (w.alloc (Is #[I J x.k,I J x.n,I J x.p,I J x.c,V K x.ks.len cap] 33))
 have hb0:Ix w.heap.size w W0:=by rw[aZ];go_grown
 have hs0:W0.heap.size=w.heap.size+1:=by rw[aZ];simp
 have hq:au W0 w.heap.size 33 [I J x.k,I J x.n,I J x.p,I J x.c,V K x.ks.len cap]:=by rw[aZ];exact au.new w 33 _
 have gX:=aj (mo [] x.ks x.k x.n x.p x.c K cap B U 0 v 0 W0 (hKs.below (hb0.mono hB)) hc hcm ⟨0,0,λh=>by simp at h,trivial⟩ (by simp) (by unfold I2;omega) ah ah);have fH:ak (∀ wx,Ix W0.heap.size W0 wx->I0 Tryz.prog 151 #[exV x.k x.n x.p x.c K x.ks.len cap] wx λe w'=>e=If (I J (x.size:Int))/\Ix wx.heap.size wx w'):=λwx h=>by
  have:=uU _ x.ks (Nat.lt_succ_self _) x.k x.n x.p x.c K cap B wx ((hKs.below (hb0.mono hB)).below (h.mono ah)) hc hcm (by have:=h.size;omega) ah
  rwa [show ((x.ks.size+1:Nat):Int)=(x.size:Int) by unfold Nd.size;omega] at this
 have Vh:ak (∀ wx A,Ix W0.heap.size W0 wx->Ints wx A [1,2,3,4,5,7]->I0 Tryz.prog 205 #[exV x.k x.n x.p x.c K x.ks.len cap,V A 6 6] wx λe w'=>e=If (.bool x.plain)/\Ix wx.heap.size wx w'):=λwx A h hA=>
  Gx _ x.ks (Nat.lt_succ_self _) x.k x.n x.p x.c K cap B A wx ((hKs.below (hb0.mono hB)).below (h.mono ah)) hc hcm (by have:=h.size;omega) hsz hA
 have q0:W0.cell? ⟨w.heap.size,0,U⟩=M (I J x.k):=ay hq
 have q1:W0.cell? ⟨w.heap.size,1,U⟩=M (I J x.n):=ay hq
 have q2:W0.cell? ⟨w.heap.size,2,U⟩=M (I J x.p):=ay hq
 have q3:W0.cell? ⟨w.heap.size,3,U⟩=M (I J x.c):=ay hq
 have q4:W0.cell? ⟨w.heap.size,4,U⟩=M (V K x.ks.len cap):=ay hq
 have HQ:=aj hq;have HB0:=aj hb0;have dI:=aj aZ;have EL:ak (dw x v=(bT [] x v 0&&(decide (x.size<=40)&&x.plain))):=by show _=_;unfold dw;rw[Bool.and_assoc]
 obtain⟨ss,hss⟩:=aD (dw x v)
 rw[<-hss] at EL ⊢;have hszz:(x.size:Int)<=2000000:=by unfold Nd.size;omega
 clear hKs hb0 aZ hs0 hq hss;cases dh:bT [] x v 0
 ·have kY:ak (I0 Tryz.prog 73 #[rW U 0 0,exV x.k x.n x.p x.c K x.ks.len cap,I J v,I J 0] W0 (d9 false W0)):=by rw[<-dh];exact gX.o
  rw[dh] at EL;have HV:ak (ss=false):=EL.o;clear dh gX;go_enter func128,ntmps128;go_upto_region 1 with fail;rw[<-dI.o];go_wp2_with fail;refine kY.o.mono ?_;rintro e w1 ⟨rfl,hb1⟩;have HB1:ak (Ix w.heap.size w w1):=HB0.o.trans (hb1.mono HB0.o.size);clear hb1;go_wp2;go_ret;exact⟨aG HV.o.symm,HB1.o⟩
 ·have kY:ak (I0 Tryz.prog 73 #[rW U 0 0,exV x.k x.n x.p x.c K x.ks.len cap,I J v,I J 0] W0 (d9 true W0)):=by rw[<-dh];exact gX.o
  rw[dh] at EL;clear dh gX
  by_cases h40:x.size<=40
  ·have Gu:(x.size:Int)<=40:=ah
   have YF:decide ((x.size:Int)<=40)=true:=decide_eq_true Gu;have HV:ak (ss=x.plain):=by show _=_;rw[EL.o,decide_eq_true h40];rfl
   obtain⟨pl,hpl⟩:=aD x.plain
   rw[<-hpl] at Vh HV;obtain⟨sz,C8⟩:∃ sz:Int,sz=(x.size:Int):=⟨_,rfl⟩
   rw[<-C8] at fH Gu YF;clear hpl C8;go_enter func128,ntmps128;go_upto_region 1 with fail;rw[<-dI.o];go_wp2_with fail;refine kY.o.mono ?_;rintro e w1 ⟨rfl,hb1⟩;have HB1:=aj hb1;have IY:=aj (fH.o w1 hb1);have r0:=aB q0 hb1;have r1:=aB q1 hb1;have r2:=aB q2 hb1;have r3:=aB q3 hb1;have r4:=aB q4 hb1;clear hb1 q0 q1 q2 q3 q4;go_wp2_with fail;refine IY.o.mono ?_;rintro e w2 ⟨rfl,hb2⟩
   have s0:=aB r0 hb2;have s1:=aB r1 hb2;have s2:=aB r2 hb2;have s3:=aB r3 hb2;have s4:=aB r4 hb2;have HB2:=aj (aH HB1.o hb2);have hal:Ix w2.heap.size w2 (w2.alloc (Is #[I J 1,I J 2,I J 3,I J 4,I J 5,I J 7] 2)):=aV;have hcn:=au.new w2 2 [I J 1,I J 2,I J 3,I J 4,I J 5,I J 7];have HX3:=aj (Vh.o _ (M ⟨w2.heap.size,0,U⟩) (aH HB2.o hal) (au.afB (B:=0) (zs:=[1,2,3,4,5,7]) hcn (Nat.zero_le _)).ints)
   have HAL:=aj hal;clear hb2 hal hcn r0 r1 r2 r3 r4 IY;go_wp2_with fail;refine HX3.o.mono ?_;rintro e w3 ⟨rfl,hb3⟩;have HB3:ak (Ix w.heap.size w w3):=HB0.o.trans ((aH (aH HB2.o HAL.o) hb3).mono HB0.o.size);clear hb3;go_wp2;go_ret;exact⟨aG HV.o.symm,HB3.o⟩
  ·have Gu:¬ (x.size:Int)<=40:=ah
   have YF:decide ((x.size:Int)<=40)=false:=decide_eq_false Gu;have HV:ak (ss=false):=by show _=_;rw[EL.o,decide_eq_false h40];rfl
   obtain⟨sz,C8⟩:∃ sz:Int,sz=(x.size:Int):=⟨_,rfl⟩
   rw[<-C8] at fH Gu YF;clear C8;go_enter func128,ntmps128;go_upto_region 1 with fail;rw[<-dI.o];go_wp2_with fail;refine kY.o.mono ?_;rintro e w1 ⟨rfl,hb1⟩;have HB1:=aj hb1;have IY:=aj (fH.o w1 hb1);have r0:=aB q0 hb1;have r1:=aB q1 hb1;have r2:=aB q2 hb1;have r3:=aB q3 hb1;have r4:=aB q4 hb1;clear hb1 q0 q1 q2 q3 q4;go_wp2_with fail;refine IY.o.mono ?_;rintro e w2 ⟨rfl,hb2⟩
   have HB3:ak (Ix w.heap.size w w2):=HB0.o.trans ((aH HB1.o hb2).mono HB0.o.size);clear hb2;go_wp2;go_ret;exact⟨aG HV.o.symm,HB3.o⟩
variable{P:Program}
theorem QY{e:TypeId}(he:P.underlying e=M .bool){v:I1}{y:DataW Unit×List MemPlace}(h:plainElem P e v=M y):∃ c,v=.bool c:=by
 unfold plainElem at h;rw[he] at h;cases v<;>simp at h
 exact⟨_,rfl⟩
theorem z_{kt et:TypeId}{ops:Array Oper}{rest:List Oper}{o:Oper}{a:Act}{Q:Exit->Act->Iv->Prop}(hg:o.guard=U)(it:Operand)(hop:o.op=Op.next it false)(K:Maps.Keyed P kt)
  (hk:P.underlying kt=M (.int .i64)) (he:P.underlying et=M .bool) (b r n:Nat) (D:DataW Unit) (left:Lit->Bool) (cnt:Nat) (hit:a.eval it=.pointer (M ⟨r,0,U⟩)) (h:w.ranges P kt (plainElem P et) b r n D left cnt)
  (hDone:cnt=0->(∀ kl,left kl=false)->wpList P ops Q rest (a.put o.dst (.tuple #[.bool false])) w)
  (YI:∀ (x:Int) (v:I1) (w':Iv) (Gg:Nat),(Lit.int .i64 x).wf=true->left (.int .i64 x)=true->Maps.has D (.int .i64 x)=true->w'.ranges P kt (plainElem P et) b r n D (λz=>left z&&!z.sameKey (.int .i64 x)) Gg->Gg<cnt ->
   w.grownBy w' (M r)->w'.heap.size=w.heap.size->(Instr.entry (.pointer (M ⟨r,0,U⟩))).run P w'=.ok (.tuple #[.int .i64 x,v]) w'->wpList P ops Q rest (a.put o.dst (.tuple #[.bool true,.int .i64 x,v])) w') :
  wpList P ops Q (o :: rest) a w:=
 wpList_next_ranges w hg it hop kt K (plainElem P et) (Value.int .i64) Value.bool (λkey kl hkey=>by obtain⟨x,rfl,_⟩:=Maps.keyOf_int_inv hk hkey;exact⟨x,rfl⟩) (λv y hy=>QY he hy) b r n D left cnt hit h hDone
  (λx c kl y w' Gg hkey hlx _ hat Y6 hlt hg1 hs1 hen=>by
   obtain⟨x',ex,rfl,hwx⟩:=Maps.keyOf_int_inv hk hkey;cases ex;exact YI x (.bool c) w' Gg hwx hlx (Maps.has_true_of_atKey hat) Y6 hlt hg1 hs1 hen)
variable{l:List Int}
theorem H9(h:xR l.length l):l.Pairwise (·<=·):=by
 rw[List.pairwise_iff_getElem];intro i j hi hj hij;have:=h i j hij hj
 rwa [<-ji hi,<-ji hj] at this
theorem ED:∀ {l m:List Int},l.Perm m->l.Pairwise (·<=·)->m.Pairwise (·<·)->l=m:=by
 intro l
 induction l with
 | nil=>intro m hp _ _;exact (List.nil_perm.1 hp).symm
 | cons x xs ih=>
  intro m hp hl hm;cases m with
  | nil=>exact absurd hp.length_eq (by simp)
  | cons y ys=>
   obtain⟨l1,l2⟩:=List.pairwise_cons.1 hl;obtain⟨m1,m2⟩:=List.pairwise_cons.1 hm;have hxy:x=y:=by
    have hx:x∈y :: ys:=hp.mem_iff.1 (M3 ..);have hy:y∈x :: xs:=hp.mem_iff.2 (M3 ..)
    rcases List.mem_cons.1 hx with e | hx
    ·exact e
    ·rcases List.mem_cons.1 hy with e | hy
     ·exact e.symm
     ·have:=m1 x hx
      have:=l1 y hy;omega
   subst hxy;rw[ih (List.Perm.cons_inv hp) l2 m2]
theorem J7(h:l.Pairwise (·<·)):l.Nodup:=h.imp λh e=>ah
theorem R9{m:List Int}(hl:l.Nodup)(h:∀ x∈l,x∈m):l.length<=m.length:=by
 induction l generalizing m with
 | nil=>simp
 | cons x xs ih=>
  obtain⟨h1,h2⟩:=List.nodup_cons.1 hl;have hx:=h x (M3 ..);have:=ih (m:=m.erase x) h2 λy hy=>(List.mem_erase_of_ne (λe=>h1 (by rw[<-e];exact hy))).2 (h y (V2 _ hy))
  rw[List.length_erase_of_mem hx] at this;have:=List.length_pos_of_mem hx;simp only[List.length_cons];omega
theorem Eh(b nn:Nat)(S:List Int)(w:Iv)(h:zx w b nn S)(hs:S.Pairwise (·<·))(hl:S.length<=12)(hn:nn<=100000)(hbd:∀ x∈S,(Lit.int .i64 x).wf=true) :
  I0 Tryz.prog 252 #[.map (M b)] w λe w'=>∃ A cap,e=If (V A S.length cap)/\Ints w' A S/\Ix w.heap.size w w':=by
 obtain⟨i0,hi,hz0,hz1,hz2⟩:=info_parts Tryz.infoI;obtain⟨D,hown,hset⟩:=h;have law:Maps.Keyed Tryz.prog 2:=Maps.int_keyed underlying2;have aaG:=aj hset;have HS:=aj hs;have yX:=aj hbd;have hbw:=hown.lt;have AP:=hown.alloc (Is #[] 2);have hsz1:(w.alloc (Is #[] 2)).heap.size=w.heap.size+1:=by simp
 have IV:=aj (zV w);have HB0:ak (Ix w.heap.size w (w.alloc (Is #[] 2))):=by show Ix _ _ _;go_grown
 have qM:ak (Maps.size D<=nn):=by
  obtain⟨es,_,_,_,h1,h2⟩:=hown;show _<=_;rw[h2];show (_:List _).length<=nn;rw[Go.length_sorted,My,Array.length_toList];exact h1
 clear hset hs hbd hown;go_enter func252,ntmps252;go_wp2_with (first
  | (at_range;refine wpList_range_own _ rfl _ 283 rfl 2 4 law underlying283 _ b nn _ rfl AP ?_;intro w0 RL hg0 hs0)
  | go_in)
 go_frame
 generalize (w.alloc (Is #[] 2)).heap.size=r at *;have hr1:w.heap.size+1<=r:=ah;have hr2:r<=w.heap.size+1:=ah;have hsa:(w.alloc (Is #[] 2)).heap.size=w.heap.size+1:=by simp
 clear hsz1
 go_loopw [3,4] (λs3 _ wr=>∃ (left:Lit->Bool) (cnt:Nat) (out:List Int) (cp:Nat) (Av:Option I3),s3=V Av out.length cp/\wr.ranges Tryz.prog 2 (plainElem Tryz.prog 4) b r nn D left cnt/\ak (bg wr w.heap.size (V Av out.length cp) out)/\ak (Ix w.heap.size w wr)/\ak (out.Nodup)/\ak (∀ x∈out,x∈S/\left (.int .i64 x)=false)/\ak (∀ x∈S,left (.int .i64 x)=true∨x∈out)/\out.length+cnt<=nn/\w.heap.size+2<=wr.heap.size) (λ_ _ wr=>wr.rangeLeft b r)
 case atStart=>
  refine⟨Maps.has D,Maps.size D,[],0,M ⟨w.heap.size,0,U⟩,rfl,RL, ?_,HB0.o.trans ⟨hg0.os,hg0.tape,hg0.output,ah,λk hk=>hg0.block k ah (by simp)⟩,List.nodup_nil,(λx hx=>by simp at hx),(λx hx=>.inl ((aaG.o x (yX.o x hx)).2 hx)),by have:=qM.o;simp;omega,ah⟩;exact IV.o.keep λg hg=>hg0.block g (IV.o.lt hg).2 (by simp)
 case round=>
  obtain⟨left,cnt,out,cp,Av,rfl,hrg,HR,HB,HN,HI,HC,hcn,TH⟩:=hrel;have hnb:∀ q,(V Av out.length cp).ownBlock=M q->q≠b/\q≠r:=λq hq=>by
   obtain⟨cs,hcs⟩:=kE HR.o hq;obtain⟨es,clock,since,seen,c0,g1,_,_,_,g2,_⟩:=hrg;exact⟨λe=>(by rw[e,g1] at hcs;cases hcs),λe=>(by rw[e,g2] at hcs;cases hcs)⟩
  have HNB:=aj hnb;clear hnb;have P6:out.length<=nn:=ah;go_wp2_with (first
   | (at_next;refine z_ rfl _ rfl law underlying2 underlying4 b r nn _ _ _ rfl hrg ?_ ?_)
   | go_in)
  ·intro _ hl0
   have hp:out.Perm S:=by
    rw[List.perm_ext_iff_of_nodup HN.o (J7 HS.o)];exact λx=>⟨λhx=>(HI.o x hx).1,λhx=>(HC.o x hx).resolve_left (by rw[hl0];simp)⟩
   have HP:=aj hp;have agu:ak (out.length=S.length):=hp.length_eq;have EL:=aj (SV w.heap.size Av cp out.length out wr HR.o rfl (by have:=agu.o;omega));clear hl0 hp hrg;go_wp2_with (go_at_call 271;refine EL.o.mono ?_;rintro e w1 ⟨rfl,l1,hp1,hs1,hr1,hb1⟩);go_ret;have hl1:l1.length=out.length:=hp1.length_eq;have he:l1=S:=ED (hp1.trans HP.o) (H9 (by rw[hl1];exact hs1)) HS.o
   refine⟨Av,cp,by rw[<-agu.o];rfl, ?_,HB.o.trans hb1⟩;rw[<-he];have hr2:bg w1 w.heap.size (V Av l1.length cp) l1:=by rw[hl1];exact hr1
   exact hr2.JW.ints
  ·intro x v w1 akc hwx hlx hhas Y6 hlt hg1 hs1 hen
   have hxS:x∈S:=(aaG.o x hwx).1 hhas;have hxo:x ∉ out:=λhx=>by have:=(HI.o x hx).2;rw[hlx] at this;cases this
   have qL:ak (bg w1 w.heap.size (V Av out.length cp) out):=HR.o.keep λq hq=>hg1.block q (HR.o.lt hq).2 (λe=>(HNB.o q hq).2 (Option.some.inj e))
   have HB1:ak (Ix w.heap.size w w1):=HB.o.trans ⟨hg1.os,hg1.tape,hg1.output,ah,λk hk=>hg1.block k (by have:=HB.o.size;omega) (λe=>by have:=Option.some.inj e;omega)⟩;have L8:=aj hxS;have HXO:=aj hxo;have amU:w.heap.size+2<=w1.heap.size:=ah;have amL:w1.heap.size<=wr.heap.size:=ah;have Y8:wr.heap.size<=w1.heap.size:=ah;clear hs1;clear hxS hxo hhas;go_wp2_with (first
    | (at_builtin;refine wpList_append_own _ rfl _ _ 28 rfl w.heap.size 2 i0 (.int .i64 0) 1 8 underlying28 hi hz0 hz1 hz2 rfl bM _ out.length _ rfl ((qL.o.afM rfl).alloc _) ⟨w1.heap.size,0,U⟩ 1 1 [.int .i64 x] rfl rfl ?c1 ?c2 ?c3 ?c4 ?c5 ?_)
    | go_in)
   try (case c1=>exact cell_one_new _ _ _)
   try (case c2=>first | rfl | (intro u hu;simp at hu;subst hu;rfl))
   case c3=>unfold I2;omega
   case c4=>omega
   case c5=>simp;omega
   intro v2 w2 hown2 hg2 _;have hal:Ix w1.heap.size w1 (w1.alloc (Is #[.int .i64 x] 2)):=aV;have hr2:bg w2 w.heap.size v2 (out++[x]):=by unfold bg;simpa using hown2
   obtain⟨A2,c2,hv⟩:=hr2.form;subst hv;have aif:=(Y6.alloc (Is #[.int .i64 x] 2)).kept hg2 (λe=>(HNB.o b e.symm).1 rfl) (λe=>(HNB.o _ e.symm).2 rfl);have hb2:Ix w.heap.size w w2:=(HB1.o.alloc ah _).grown hg2 (by simp;omega) (λq hq=>(qL.o.lt hq).1);have hsz2:w.heap.size+2<=w2.heap.size:=by have:=hg2.size;simp at this;omega
   have sj:=aj hr2;have HB2:=aj hb2;have iD:ak ((out++[x]).Nodup):=by
    show List.Nodup _;rw[List.nodup_append];exact⟨HN.o,by simp,λa ha c hc e=>by simp at hc;subst hc;exact HXO.o (e ▸ ha)⟩
   have Qz:ak (∀ y∈out++[x],y∈S/\(left (.int .i64 y)&&!(Lit.int .i64 y).sameKey (.int .i64 x))=false):=λy hy=>by
    rcases List.mem_append.1 hy with hy | hy
    ·exact⟨(HI.o y hy).1,by rw[(HI.o y hy).2];rfl⟩
    ·simp at hy;subst hy
     exact⟨L8.o,by rw[WideAt.sameKey_self (by simp[WideAt.IsKeyLit])];simp⟩
   have fH:ak (∀ y∈S,(left (.int .i64 y)&&!(Lit.int .i64 y).sameKey (.int .i64 x))=true∨y∈out++[x]):=λy hy=>by
    by_cases e:y=x
    ·exact .inr (by simp[e])
    ·rcases HC.o y hy with h | h
     ·refine .inl ?_
      rw[h];cases hsk:(Lit.int .i64 y).sameKey (.int .i64 x)
      ·rfl
      ·have:=(WideAt.sameKey_iff (by simp[WideAt.IsKeyLit])).1 hsk
       injection this with _ this;exact absurd this e
     ·exact .inr (List.mem_append_left _ h)
   clear hown2 hg2 hr2 hb2 hal;go_wp2
   go_roundw
   case rel=>exact⟨_,akc,out++[x],c2,A2,rfl,aif,sj,HB2,iD,Qz,fH,by simp;omega,hsz2⟩
   case measure=>rw[aif.left_eq,hrg.left_eq];exact hlt
end
end Go.Proofs.YtgfkglhelfkpoaaGreat
