/- Parts of the proof. -/
import Derived.Test.YtgfkglhelfkpoaaGreatRC
import Derived.Test.YtgfkglhelfkpoaaGreatRD
set_option maxRecDepth 100000
set_option maxHeartbeats 2000000
open Go.Proofs.Tryz
open Go.Value renaming int→I,slice→V
open Go.IntKind renaming i64→J
open Option renaming some→M,none→U
open Go.Ending renaming returned→If
open Go renaming World→Iv,Calls→I0,Value→I1,maxLen→I2,Addr→I3
open Go.RowKit renaming Below→Ix
open Nat renaming le_refl→Jn,add_zero→Mm,zero_mul→Mn,lt_of_lt_of_le→M1
open Go.RowKit.Below renaming refl→Jx
open Bool renaming and_eq_true→Mb,false_and→Xs,true_and→Ys
namespace Go.Proofs.YtgfkglhelfkpoaaGreat
section
open Go.RowKit Plain
abbrev ptr (b o:Nat):I1:=.pointer (M ⟨b,o,U⟩)
def agR(ks:Es):Prop:=∀ (k n p c:Int) (b o B:Nat) (l:Int) (w:Iv),dF w B k n p c ks b o->B<=w.heap.size->ks.size<=1048576->0<=l->l<=1048576 ->
 I0 Tryz.prog 140 #[ptr b o,I J l] w λe w'=>e=If (I J (g_ ks (l - 1)))/\Ix w.heap.size w w'
theorem yF:∀ (m:Nat) (ks:Es),ks.size<m->agR ks:=by
 intro m
 induction m with
 | zero=>intro es h;omega
 | succ m ih=>
 intro ks hm k n p c b o B l w hE hB hsz0 l0 l1;have IH:=aj ih;clear ih;obtain⟨lD,h0,h1,h2,h3,K,cap,b',o',h4,hc,hcm,hK,hks⟩:=hE;have gI:=aj hks;clear hks;have fF:cap<=9223372036854775807:=by unfold I2 at hcm;omega
 have hbw:b<w.heap.size:=ah;have hls:=Es.aF ks;go_enter func140,ntmps140;go_wp2
 go_loopw [1,5] (λll i wr=>∃ (j:Nat) (es':Es) (y:Int),i=I J (j:Int)/\ll=I J y/\j+es'.len=ks.len/\-1<=y/\y<=l/\ak (g_ es' y=g_ ks (l - 1))/\ak (es'.size<=ks.size)/\ak (aI wr B es' b' (o'+j*5))/\ak (Ix w.heap.size w wr)) (λ_ i _=>ks.len - (intOf i).toNat)
 case atStart=>exact⟨0,ks,l - 1,bE,rfl,ah,ah,ah,rfl,Jn _,by show aI _ _ _ _ _;rw[Mn,Mm];exact gI.o,Jx _ _⟩
 case round=>
  obtain⟨j,es',y,rfl,rfl,hj,y0,y1,hy,hsz,HE,HB⟩:=hrel;have h4':wr.cell? ⟨b,o+4,U⟩=M (V K ks.len cap):=(HB.o.cell (p:=⟨b,_,U⟩) hbw).trans h4;cases es' with
  | nil=>
   simp only[Es.len] at hj;go_wp2;go_ret;exact⟨bR hy.o,HB.o⟩
  | cons kk n' p' c' aY r=>
   simp only[Es.len] at hj
   by_cases hn:y<0
   ·go_wp2
    go_ret;have:=hy.o;rw[Fh _ _ hn] at this;exact⟨bR this,HB.o⟩
   ·have hK:=hK ah
    subst hK;obtain⟨hel,hr⟩:=HE.o;have lH:=aj hel;have HR:=aj hr;have hrs:ak (r.size<=ks.size/\aY.size<ks.size):=by
     have:=hsz.o;simp only[Es.size] at this;exact⟨ah,ah⟩
    clear hel hr HE;go_wp2_with fail;refine (IH.o aY (by have:=hrs.o;omega) kk n' p' c' b' (o'+j*5) B y wr lH.o (by have:=HB.o.size;omega) (by have:=hrs.o;omega) ah ah).mono ?_;rintro e w1 ⟨rfl,hb1⟩;have gY:ak (aI w1 B r b' (o'+(j+1)*5)):=by
     have:=HR.o.below (hb1.mono (by have:=HB.o.size;omega))
     rwa [show o'+j*5+5=o'+(j+1)*5 by omega] at this
    have HB1:=aj (aH HB.o hb1);obtain⟨z,hz⟩:=aD (g_ aY (y - 1))
    rw[<-hz];have hbd:=Zj aY (y - 1) ah;rw[<-hz] at hbd;have HZ:ak (g_ r z=g_ ks (l - 1)):=by
     have:=hy.o;rw[g_,if_neg ah] at this;rw[hz];exact this
    clear hz hb1 HR lH;go_wp2
    go_roundw
    case rel=>exact⟨j+1,r,z,bE,rfl,ah,ah,ah,HZ,hrs.o.1,gY,HB1⟩
    case measure=>simp[intOf];omega
theorem Es.Jh(es:Es):es.depth<=es.size:=by
 induction es with
 | nil=>exact Jn _
 | cons k n p c ks r TI TJ=>simp only[Es.depth,Es.size];omega
theorem J8(a b:Int)(w:Iv):I0 Tryz.prog 212 #[I J a,I J b] w λe w'=>e=If (I J (max a b))/\w=w':=by
 by_cases h:b<a
 ·have hm:max a b=a:=ah
  rw[hm];go_enter func212,ntmps212;go_wp2;go_ret;exact⟨rfl,rfl⟩
 ·have hm:max a b=b:=ah
  rw[hm];go_enter func212,ntmps212;go_wp2;go_ret;exact⟨rfl,rfl⟩
def aeB(ks:Es):Prop:=∀ (k n p c:Int) (b o B:Nat) (w:Iv),dF w B k n p c ks b o->B<=w.heap.size->ks.size<=1048576 ->
 I0 Tryz.prog 141 #[ptr b o] w λe w'=>e=If (I J ((ks.depth+1:Nat):Int))/\Ix w.heap.size w w'
theorem ES:∀ (m:Nat) (ks:Es),ks.size<m->aeB ks:=by
 intro m
 induction m with
 | zero=>intro es h;omega
 | succ m ih=>
 intro ks hm k n p c b o B w hE hB hsz0;have IH:=aj ih;clear ih;obtain⟨lD,h0,h1,h2,h3,K,cap,b',o',h4,hc,hcm,hK,hks⟩:=hE;have gI:=aj hks;clear hks;have fF:cap<=9223372036854775807:=by unfold I2 at hcm;omega
 have hbw:b<w.heap.size:=ah;have hls:=Es.aF ks;have hdp:=Es.Jh ks;go_enter func141,ntmps141;go_wp2
 go_loopw [3,4] (λll i wr=>∃ (j:Nat) (es':Es) (y:Nat),i=I J (j:Int)/\ll=I J (y:Int)/\j+es'.len=ks.len/\y<=ks.depth/\ak (max y es'.depth=ks.depth)/\ak (es'.size<=ks.size)/\ak (aI wr B es' b' (o'+j*5))/\ak (Ix w.heap.size w wr)) (λ_ i _=>ks.len - (intOf i).toNat)
 case atStart=>exact⟨0,ks,0,bE,bE,ah,ah,by show _=_;omega,Jn _,by show aI _ _ _ _ _;rw[Mn,Mm];exact gI.o,Jx _ _⟩
 case round=>
  obtain⟨j,es',y,rfl,rfl,hj,y1,hy,hsz,HE,HB⟩:=hrel;have h4':wr.cell? ⟨b,o+4,U⟩=M (V K ks.len cap):=(HB.o.cell (p:=⟨b,_,U⟩) hbw).trans h4;cases es' with
  | nil=>
   simp only[Es.len] at hj;go_wp2;go_ret;have:=hy.o;simp only[Es.depth] at this;exact⟨bR ah,HB.o⟩
  | cons kk n' p' c' aY r=>
   simp only[Es.len] at hj;have hK:=hK ah;subst hK;obtain⟨hel,hr⟩:=HE.o;have lH:=aj hel;have HR:=aj hr;have hrs:ak (r.size<=ks.size/\aY.size<ks.size):=by
    have:=hsz.o;simp only[Es.size] at this;exact⟨ah,ah⟩
   clear hel hr HE;go_wp2_with fail;refine (IH.o aY (by have:=hrs.o;omega) kk n' p' c' b' (o'+j*5) B wr lH.o (by have:=HB.o.size;omega) (by have:=hrs.o;omega)).mono ?_;rintro e w1 ⟨rfl,hb1⟩;have gY:ak (aI w1 B r b' (o'+(j+1)*5)):=by
    have:=HR.o.below (hb1.mono (by have:=HB.o.size;omega))
    rwa [show o'+j*5+5=o'+(j+1)*5 by omega] at this
   have HB1:=aj (aH HB.o hb1);obtain⟨z,hz⟩:=aD (aY.depth+1)
   rw[<-hz];have HZ:ak (max (max y z) r.depth=ks.depth):=by
    have:=hy.o;simp only[Es.depth] at this;show _=_;omega
   clear hz hb1 HR lH;go_wp2_with fail;refine (J8 _ _ _).mono ?_;rintro e w2 ⟨rfl,rfl⟩;have hmx:(max (y:Int) (z:Int))=((max y z:Nat):Int):=ah;rw[hmx];have hq:max y z<=ks.depth:=by have:=HZ.o;omega
   generalize max y z=q at *;go_wp2
   go_roundw
   case rel=>exact⟨j+1,r,q,bE,rfl,ah,hq,HZ,hrs.o.1,gY,HB1⟩
   case measure=>simp[intOf];omega
variable{w:Iv}{n:Nat}
theorem jm{P:Program}{f:FuncId}{args:Array I1}{a:Nat}{v:I1}
  (h:I0 P f args (w.drewN (a+n)) λe w'=>e=If v/\w'=w.drewN (a+n)) :
  I0 P f args (w.drewN (a+n)) λe w''=>e=If v/\∃ m,w''=w.drewN (a+m):=
 h.mono λ_ _ ⟨he,hm⟩=>⟨he,n,hm⟩
variable{B B' b o:Nat}{f:Fn}
theorem Bg.mono(h:Bg w B f b o)(hb:B<=B'):Bg w B' f b o:=by
 obtain⟨hB,h0,h1,hs,K,cap,h2,hc,hm,hk⟩:=h;exact⟨M1 hB hb,h0,h1,hs,K,cap,h2,hc,hm,hk.mono hb⟩
theorem fA.mono(hb:B<=B'):∀ {fs:List Fn}{b o:Nat},fA w B fs b o->fA w B' fs b o
 | [],_,_,_=>trivial
 | _ :: _,_,_,h=>⟨Bg.mono h.1 hb,fA.mono hb h.2⟩
variable{fs:List Fn}{A:Option I3}
theorem eP.mono(h:eP w B fs A)(hb:B<=B'):eP w B' fs A:=by
 obtain⟨b,o,hA,h⟩:=h;exact⟨b,o,hA,h.mono hb⟩
theorem eP.get(h:eP w B fs A){i:Nat}{f:Fn}(hf:fs[i]? = M f):∃ b o,A=M ⟨b,o,U⟩/\Bg w B f b (o+i*3):=by
 obtain⟨b,o,hA,h⟩:=h;exact⟨b,o,hA (by have:=(List.getElem?_eq_some_iff.1 hf).1;omega),h.get hf⟩
def sG(w:Iv)(B:Nat)(P:List Fn)(b o:Nat):Prop:=
 b<B/\∃ A cap,w.cell? ⟨b,o,U⟩=M (V A P.length cap)/\P.length<=cap/\cap<=I2/\eP w B P A
variable{P:List Fn}
theorem sG.below{w':Iv}(h:sG w B P b o)(hb:Ix B w w'):sG w' B P b o:=by
 obtain⟨h0,A,cap,h1,h2,h3,h4⟩:=h;exact⟨h0,A,cap,(hb.cell (p:=⟨b,_,U⟩) h0).trans h1,h2,h3,h4.below hb⟩
theorem Ey(x:Int)(w:Iv):I0 Tryz.prog 255 #[I J x] w λe w'=>e=If (.bool (fP x 0 1000002))/\w=w':=by
 go_enter func255,ntmps255;go_wp2_with fail;refine (gB _ _ _ _).mono ?_;rintro e w' ⟨rfl,rfl⟩;go_wp2;go_ret;exact⟨rfl,rfl⟩
theorem wh(b:Bool)(n lo hi:Int)(h:fP n lo hi=b)(w:Iv):I0 Tryz.prog 106 #[I J n,I J lo,I J hi] w λe w'=>e=If (.bool b)/\w'=w:=
 (gB n lo hi w).mono λ_ _ ⟨h1,h2⟩=>⟨h ▸ h1,h2.symm⟩
def wm(k:Int):Int:=if k=1∨k=2 then 0 else if k=3∨k=4∨k=5∨k=6∨k=9 then 2 else if k=7 then 1 else if k=8 then 3 else -1
theorem RO(k:Int)(w:Iv):I0 Tryz.prog 254 #[I J k] w λe w'=>e=If (I J (wm k))/\w=w':=by
 go_enter func254,ntmps254;go_wp2
 all_goals
  go_ret;exact⟨bR (by simp_all [wm]),rfl⟩
theorem ku(k:Int)(w:Iv):I0 Tryz.prog 254 #[I J k] w λe w'=>e=If (I J (wm k))/\w'=w:=
 (RO k w).mono λ_ _ ⟨h1,h2⟩=>⟨h1,h2.symm⟩
variable{fn vars p c:Int}{len:Nat}
theorem jk{k n:Int}(hk:k=10∨k=11)(hf:P[n.toNat]? = M f)(hn:fP n 0 (fn - 1)=true) :
  bL P fn vars k n p c len=(decide ((len:Int)=f.params)&&fP p 0 ((f.outs.len:Int) - 1)&&(if k=10 then c==0 else decide ((f.outs.len:Int)=f.params)&&fP c 0 8)):=by
 unfold bL;rw[if_pos hk,hf,hn];rfl
theorem qB{k n:Int}(hk:k=10∨k=11)(hn:fP n 0 (fn - 1)=false):bL P fn vars k n p c len=false:=by
 unfold bL;rw[if_pos hk,hn];rfl
theorem G6{k n:Int}(hk:¬ (k=10∨k=11)):bL P fn vars k n p c len =
  (decide (wm k=len)&&p==0&&c==0&&(if k=1 then fP n 0 1000002 else if k=2 then fP n 0 (vars - 1) else n==0)):=by
 unfold bL wm;rw[if_neg hk];have e (x:Nat):(len==x)=decide ((len:Int)=x):=by rw[Bool.eq_iff_iff];simp;omega
 have e0:=e 0;have e1:=e 1;have e2:=e 2;have e3:=e 3
 by_cases h1:k=1
 ·subst h1;simp[Bool.and_left_comm,Bool.and_assoc,eq_comm,e0]
 by_cases h2:k=2
 ·subst h2;simp[Bool.and_left_comm,Bool.and_assoc,eq_comm,e0]
 by_cases h3:k=3∨k=4∨k=5∨k=6∨k=9
 ·simp[h1,h2,h3,Bool.and_comm,Bool.and_left_comm,Bool.and_assoc,eq_comm,e2]
 by_cases h7:k=7
 ·subst h7;simp[Bool.and_comm,Bool.and_left_comm,Bool.and_assoc,eq_comm,e1]
 by_cases h8:k=8
 ·subst h8;simp[Bool.and_comm,Bool.and_left_comm,Bool.and_assoc,eq_comm,e3]
 simp[h1,h2,h3,h7,h8]
theorem af5(h:(n:Int)<=9223372036854775807):IntKind.i64.wrap ((n:Int) - 1)=(n:Int) - 1:=by rw[IntKind.wrap_i64];omega
def dQ(r:Bool)(w:Iv)(e:Ending)(w':Iv):Prop:=e=If (.bool r)/\Ix w.heap.size w w'
variable{r r':Bool}
theorem dQ.d2{m:Nat}(h:r'=r):dQ r w (If (.bool r')) ((w.drewN n).drewN m):=⟨aG h,(rF.trans ⟨_,rfl⟩ ⟨_,rfl⟩).below _⟩
theorem dQ.d1(h:r'=r):dQ r w (If (.bool r')) (w.drewN n):=⟨aG h,rF.below ⟨_,rfl⟩ _⟩
theorem dQ.d0(h:r'=r):dQ r w (If (.bool r')) w:=⟨aG h,Jx _ _⟩
theorem R8(P:List Fn)(ks:Es)(k n p c vars funcs:Int)(b o bp op B:Nat)(w:Iv)(hE:dF w B k n p c ks b o)(hP:sG w B P bp op)(hf0:0<=funcs)(hf1:funcs<=P.length)(hk:k=10∨k=11) :
  I0 Tryz.prog 213 #[ptr bp op,ptr b o,I J vars,I J funcs] w (dQ (bL P funcs vars k n p c ks.len) w):=by
 obtain⟨lD,h0,h1,h2,h3,K,cap,b',o',h4,hc,hcm,hK,hks⟩:=hE;obtain⟨hbp,A,aU,P7,nV,jL,kJ⟩:=hP;have rX:=aj kJ;clear kJ hks;have fF:cap<=9223372036854775807:=by unfold I2 at hcm;omega
 have wU:aU<=9223372036854775807:=by unfold I2 at jL;omega
 cases hn:fP n 0 (funcs - 1)
 ·have HN:=aj (qB (P:=P) (vars:=vars) (p:=p) (c:=c) (len:=ks.len) hk hn)
  go_enter func213,ntmps213
  rcases hk with rfl | rfl
  all_goals
   go_wp2_with fail;refine (gB _ _ _ _).mono ?_;rintro e w' ⟨rfl,rfl⟩;rw[hn];go_wp2;go_ret;exact dQ.d0 HN.o.symm
 ·obtain⟨n0,n1⟩:=bH.1 hn
  obtain⟨m,rfl⟩:=Int.eq_ofNat_of_zero_le n0;obtain⟨f,hf⟩:∃ f,P[m]? = M f:=⟨P[m]'ah,List.getElem?_eq_getElem _⟩
  have HN:=aj (jk (vars:=vars) (p:=p) (c:=c) (len:=ks.len) hk (show P[(m:Int).toNat]? = M f from hf) hn);obtain⟨bF,oF,rfl,hbF,g0,g1,_,KF,cF,g2,TB,zM,_⟩:=rX.o.get hf;have RA:cF<=9223372036854775807:=by unfold I2 at zM;omega
  have hl4:((f.outs.len:Nat):Int)<=9223372036854775807:=ah;have hl5:((ks.len:Nat):Int)<=9223372036854775807:=ah;have hw:=af5 hl4;have D6:=aj hn;cases hp:fP p 0 ((f.outs.len:Int) - 1)
  ·have HP:=aj hp
   clear hp hn;go_enter func213,ntmps213
   rcases hk with rfl | rfl
   all_goals
    go_wp2_with fail;refine (gB _ _ _ _).mono ?_;rintro e w' ⟨rfl,rfl⟩;rw[D6.o];go_wp2_with fail;go_quiet (fail)
    rename Nat=>nq
    go_wp2_with fail;go_quiet ((go_at_call 106;exact jm (wh false _ _ _ HP.o _)))
    rename Nat=>nq2
    go_wp2
    go_returns
    exact dQ.d2 (by rw[HN.o,HP.o];simp)
  ·have HP:=aj hp
   clear hp hn;cases hl:((ks.len:Int)==f.params)
   ·have hl':(ks.len:Int)≠f.params:=by simpa using hl
    go_enter func213,ntmps213
    rcases hk with rfl | rfl
    all_goals
     go_wp2_with fail;refine (gB _ _ _ _).mono ?_;rintro e w' ⟨rfl,rfl⟩;rw[D6.o];go_wp2_with fail;go_quiet (fail)
     rename Nat=>nq
     go_wp2_with fail;go_quiet ((go_at_call 106;exact jm (wh true _ _ _ HP.o _)))
     rename Nat=>nq2
     go_wp2
     go_returns
     exact dQ.d2 (by rw[HN.o,HP.o];simp[hl'])
   ·have HL:ak ((ks.len:Int)=f.params):=by show _=_;simpa using hl
    have hl2:((ks.len:Int) != f.params)=false:=by simpa using hl
    rcases hk with rfl | rfl
    ·go_enter func213,ntmps213
     go_wp2_with fail;refine (gB _ _ _ _).mono ?_;rintro e w' ⟨rfl,rfl⟩;rw[D6.o];go_wp2_with fail;go_quiet (fail)
     rename Nat=>nq
     go_wp2_with fail;go_quiet ((go_at_call 106;exact jm (wh true _ _ _ HP.o _)))
     rename Nat=>nq2
     go_wp2
     go_returns
     first
      | refine dQ.d1 ?_
      | refine dQ.d2 ?_
     rw[HN.o,HP.o];simp[HL.o]
    ·cases hc8:fP c 0 8
     all_goals
      have HC:=aj hc8;clear hc8;cases ho:((f.outs.len:Int)==f.params)
     all_goals
      have HO:=aj ho;go_enter func213,ntmps213;go_wp2_with fail;refine (gB _ _ _ _).mono ?_;rintro e w' ⟨rfl,rfl⟩;rw[D6.o];go_wp2_with fail;go_quiet (fail)
      rename Nat=>nq
      go_wp2_with fail;go_quiet ((go_at_call 106;exact jm (wh true _ _ _ HP.o _)))
      rename Nat=>nq2
      go_wp2_with fail;go_quiet ((go_at_call 106;exact jm (wh _ _ _ _ HC.o _)))
      rename Nat=>nq3
      go_wp2
      go_returns
      first
       | refine dQ.d1 ?_
       | refine dQ.d2 ?_
      have:=HO.o;rw[HN.o,HP.o,HC.o];simp_all [HL.o]
theorem Oh(P:List Fn)(ks:Es)(k n p c vars funcs:Int)(b o bp op B:Nat)(w:Iv)(hE:dF w B k n p c ks b o)(v0:0<=vars)(v1:vars<=2000000)(hk:¬ (k=10∨k=11)) :
  I0 Tryz.prog 213 #[ptr bp op,ptr b o,I J vars,I J funcs] w (dQ (bL P funcs vars k n p c ks.len) w):=by
 obtain⟨lD,h0,h1,h2,h3,K,cap,b',o',h4,hc,hcm,hK,hks⟩:=hE;clear hks;have fF:cap<=9223372036854775807:=by unfold I2 at hcm;omega
 have HN:=aj (G6 (P:=P) (fn:=funcs) (vars:=vars) (n:=n) (p:=p) (c:=c) (len:=ks.len) hk);have hk1:(k==10)=false:=by simp;omega
 have hk2:(k==11)=false:=by simp;omega
 have hv:IntKind.i64.wrap (vars - 1)=vars - 1:=by rw[IntKind.wrap_i64];omega
 have hl5:((ks.len:Nat):Int)<=9223372036854775807:=ah;clear hk
 by_cases e1:wm k=ks.len
 ·have e1n:(wm k==(ks.len:Int))=true:=by simpa using e1
  have e1m:(wm k != (ks.len:Int))=false:=by simpa using e1
  have E1:=aj e1;clear e1
  by_cases e2:p=0
  ·by_cases e3:c=0
   ·subst e2 e3
    by_cases ek1:k=1
    ·have k1:(k==1)=true:=by simpa using ek1
     have EK:=aj ek1;clear ek1;go_enter func213,ntmps213;go_wp2_with fail;go_quiet ((go_at_call 254;exact Calls.quiet_of_same (ku _ _)))
     rename Nat=>nq
     go_wp2_with fail;refine (Ey _ _).mono ?_;rintro e w' ⟨rfl,rfl⟩;go_wp2
     go_returns
     exact dQ.d1 (by rw[HN.o,decide_eq_true E1.o];simp[EK.o])
    by_cases ek2:k=2
    ·have k1:(k==1)=false:=by simpa using ek1
     have k2:(k==2)=true:=by simpa using ek2
     have EK1:=aj ek1;clear ek1;have EK:=aj ek2;clear ek2;go_enter func213,ntmps213;go_wp2_with fail;go_quiet ((go_at_call 254;exact Calls.quiet_of_same (ku _ _)))
     rename Nat=>nq
     go_wp2_with fail;refine (gB _ _ _ _).mono ?_;rintro e w' ⟨rfl,rfl⟩;go_wp2
     go_returns
     exact dQ.d1 (by rw[HN.o,decide_eq_true E1.o];simp[EK.o])
    have k1:(k==1)=false:=by simpa using ek1
    have k2:(k==2)=false:=by simpa using ek2
    go_enter func213,ntmps213;go_wp2_with fail;go_quiet ((go_at_call 254;exact Calls.quiet_of_same (ku _ _)))
    rename Nat=>nq
    go_wp2
    go_returns
    exact dQ.d1 (by rw[HN.o];simp[E1.o,ek1,ek2])
   ·have k1:(c==0)=false:=by simpa using e3
    have k1':(c != 0)=true:=by simpa using e3
    subst e2;go_enter func213,ntmps213;go_wp2_with fail;go_quiet ((go_at_call 254;exact Calls.quiet_of_same (ku _ _)))
    rename Nat=>nq
    go_wp2
    go_returns
    exact dQ.d1 (by rw[HN.o];simp[e3])
  ·have k1:(p==0)=false:=by simpa using e2
   have k1':(p != 0)=true:=by simpa using e2
   go_enter func213,ntmps213;go_wp2_with fail;go_quiet ((go_at_call 254;exact Calls.quiet_of_same (ku _ _)))
   rename Nat=>nq
   go_wp2
   go_returns
   exact dQ.d1 (by rw[HN.o];simp[e2])
 ·have k1:(wm k==(ks.len:Int))=false:=by simpa using e1
  have k1':(wm k != (ks.len:Int))=true:=by simpa using e1
  go_enter func213,ntmps213;go_wp2_with fail;go_quiet ((go_at_call 254;exact Calls.quiet_of_same (ku _ _)))
  rename Nat=>nq
  go_wp2
  go_returns
  exact dQ.d1 (by rw[HN.o];simp[e1])
theorem Zt(P:List Fn)(ks:Es)(k n p c vars funcs:Int)(b o bp op B:Nat)(w:Iv)(hE:dF w B k n p c ks b o)(hP:sG w B P bp op)(hf0:0<=funcs)(hf1:funcs<=P.length)(v0:0<=vars)(v1:vars<=2000000) :
  I0 Tryz.prog 213 #[ptr bp op,ptr b o,I J vars,I J funcs] w λe w'=>e=If (.bool (bL P funcs vars k n p c ks.len))/\Ix w.heap.size w w':=by
 by_cases hk:k=10∨k=11
 ·exact R8 P ks k n p c vars funcs b o bp op B w hE hP hf0 hf1 hk
 ·exact Oh P ks k n p c vars funcs b o bp op B w hE v0 v1 hk
def gd(i:Nat)(c:UInt8):Bool:=QU c || (decide (0<i)&&decide (48<=c.toNat/\c.toNat<=57))
def CO(s:ByteArray)(k:Nat):Prop:=∀ i (h:i<s.size),i<k->gd i s[i]=true
variable{k:Nat}{s:ByteArray}
theorem vv(h:CO s k)(hk:k<s.size)(hg:gd k s[k]=true):CO s (k+1):=λi hi hik=>by
 by_cases e:i=k
 ·subst e;exact hg
 ·exact h i hi ah
theorem abz(c:UInt8)(r:List UInt8):(QU c&&r.all aaY)=true ↔ ∀ i (h:i<(c :: r).length),gd i (c :: r)[i]=true:=by
 simp only[Mb,List.all_eq_true];constructor
 ·rintro⟨h1,h2⟩ i hi
  cases i with
  | zero=>simp[gd,h1]
  | succ i=>
   have hi':i<r.length:=by simpa using hi
   have:=h2 r[i] (List.getElem_mem _);simpa [gd,aaY] using this
 ·intro h
  refine⟨by have:=h 0 (by simp);simpa [gd] using this,λx hx=>?_⟩;obtain⟨i,hi,rfl⟩:=List.getElem_of_mem hx;have:=h (i+1) (by simpa using hi);simpa [gd,aaY] using this
theorem Rn{l:List UInt8}(hl:s.data.toList=l):(∀ i (h:i<l.length),gd i l[i]=true) ↔ CO s s.size:=by
 subst hl;constructor
 ·intro h i hi _
  exact h i (by simpa using hi)
 ·intro h i hi
  have hi':i<s.size:=by simpa using hi
  exact h i hi' hi'
theorem xu(s:ByteArray):lM s=true ↔ (1<=s.size/\s.size<=12)/\CO s s.size:=by
 unfold lM;rw[Mb,decide_eq_true_iff];refine and_congr_right λhz=>?_
 have hl:s.data.toList.length=s.size:=by simp
 cases hd:s.data.toList with
 | nil=>rw[hd] at hl;simp at hl;omega
 | cons c r=>exact (abz c r).trans (Rn hd)
theorem AV(h1:1<=s.size)(h2:s.size<=12)(h:CO s s.size):lM s=true:=(xu s).2 ⟨⟨h1,h2⟩,h⟩
theorem tF(h:¬ (1<=s.size/\s.size<=12)):lM s=false:=by
 rw[Bool.eq_false_iff];exact λe=>h ((xu s).1 e).1
theorem xq(hk:k<s.size)(h:gd k s[k]=false):lM s=false:=by
 rw[Bool.eq_false_iff];intro e;have:=((xu s).1 e).2 k hk hk;rw[h] at this;cases this
theorem Nw{c:UInt8}(h1:97<=(c.toNat:Int))(h2:(c.toNat:Int)<=122):gd k c=true:=by
 unfold gd QU;rw[Bool.or_eq_true];exact .inl (by simp;omega)
theorem YD{c:UInt8}(h0:0<k)(h1:48<=(c.toNat:Int))(h2:(c.toNat:Int)<=57):gd k c=true:=by
 unfold gd;rw[Bool.or_eq_true];exact .inr (by simp;omega)
theorem PV{c:UInt8}(h1:¬ (97<=(c.toNat:Int)/\(c.toNat:Int)<=122))(h2:¬ (0<k/\48<=(c.toNat:Int)/\(c.toNat:Int)<=57)):gd k c=false:=by
 unfold gd QU;rw[Bool.or_eq_false_iff];refine⟨by simp;omega,by simp;omega⟩
theorem Da(s:ByteArray)(w:Iv)(hs:s.size<=I2) :
  I0 Tryz.prog 148 #[.string s] w λe w'=>e=If (.bool (lM s))/\w=w':=by
 unfold I2 at hs;go_enter func148,ntmps148;go_wp2
 go_loop [3,6] (λ_ i=>∃ k:Nat,k<=s.size/\i=I J (k:Int)/\ak (CO s k)) (λ_ i=>s.size - (intOf i).toNat)
 case atStart=>exact⟨0,Nat.zero_le _,bE,λi _ h=>absurd h ah⟩
 case round=>
  obtain⟨k,hk,rfl,HG⟩:=hrel
  by_cases hlt:k<s.size
  ·by_cases a:97<=(s[k].toNat:Int)/\(s[k].toNat:Int)<=122
   ·have HN:ak (CO s (k+1)):=vv HG.o hlt (Nw a.1 a.2)
    obtain⟨a1,a2⟩:=a;have b1:¬ (s[k].toNat:Int)<97:=ah;have b2:¬ 122<(s[k].toNat:Int):=ah;go_wp2
    go_round
    case rel=>exact⟨k+1,ah,bE,HN⟩
    case measure=>simp[intOf];omega
   ·by_cases d:0<k/\48<=(s[k].toNat:Int)/\(s[k].toNat:Int)<=57
    ·have HN:ak (CO s (k+1)):=vv HG.o hlt (YD d.1 d.2.1 d.2.2)
     obtain⟨d0,d1,d2⟩:=d;have b1:(s[k].toNat:Int)<97:=ah;have b2:¬ (s[k].toNat:Int)<48:=ah;have b3:¬ 57<(s[k].toNat:Int):=ah;have b4:((k:Int)==0)=false:=by simp;omega
     clear a;go_wp2
     go_round
     case rel=>exact⟨k+1,ah,bE,HN⟩
     case measure=>simp[intOf];omega
    ·have HN:=aj (xq hlt (PV a d))
     by_cases b1:(s[k].toNat:Int)<97
     ·by_cases k0:k=0
      ·subst k0
       clear a d;go_wp2;go_ret;exact⟨aG HN.o.symm,rfl⟩
      ·have b4:((k:Int)==0)=false:=by simp;omega
       by_cases b2:(s[k].toNat:Int)<48
       ·clear a d
        go_wp2;go_ret;exact⟨aG HN.o.symm,rfl⟩
       ·have b3:57<(s[k].toNat:Int):=ah
        clear a d;go_wp2;go_ret;exact⟨aG HN.o.symm,rfl⟩
     ·have b2:122<(s[k].toNat:Int):=ah
      have b5:¬ (s[k].toNat:Int)<48:=ah;have b6:57<(s[k].toNat:Int):=ah
      by_cases k0:k=0
      ·subst k0
       clear a d;go_wp2;go_ret;exact⟨aG HN.o.symm,rfl⟩
      ·have b4:((k:Int)==0)=false:=by simp;omega
       clear a d;go_wp2;go_ret;exact⟨aG HN.o.symm,rfl⟩
  ·obtain rfl:k=s.size:=ah
   by_cases h1:1<=s.size
   ·by_cases h2:s.size<=12
    ·have HN:=aj (AV h1 h2 HG.o)
     go_wp2;go_ret;exact⟨aG (by rw[HN.o];first | rfl | (simp;done) | (simp;omega)),rfl⟩
    ·have HN:=aj (tF (s:=s) ah)
     go_wp2;go_ret;exact⟨aG (by rw[HN.o];first | rfl | (simp;done) | (simp;omega)),rfl⟩
   ·have HN:=aj (tF (s:=s) ah)
    go_wp2;go_ret;exact⟨aG HN.o.symm,rfl⟩
theorem oZ(s:ByteArray)(w:Iv)(hs:s.size<=I2) :
  I0 Tryz.prog 211 #[.string s] w λe w'=>e=If (.bool (lM s))/\w=w':=by
 unfold I2 at hs;cases hz:fP s.size 1 12
 ·have HN:ak (lM s=false):=tF (λh=>by rw[bH.2 ah] at hz;cases hz)
  have HZ:=aj hz;clear hz;go_enter func211,ntmps211;go_wp2_with fail;refine (gB _ _ _ _).mono ?_;rintro e w' ⟨rfl,rfl⟩;rw[HZ.o];go_wp2;go_ret;exact⟨aG HN.o.symm,rfl⟩
 ·obtain⟨z1,z2⟩:=bH.1 hz
  have HZ:=aj hz;clear hz;have z3:0<s.size:=ah
  by_cases a:97<=(s[0].toNat:Int)/\(s[0].toNat:Int)<=122
  ·obtain⟨a1,a2⟩:=a
   have b1:¬ (s[0].toNat:Int)<97:=ah;have b2:¬ 122<(s[0].toNat:Int):=ah;have G0:ak (gd 0 s[0]=true):=Nw a1 a2;go_enter func211,ntmps211;go_wp2_with fail;refine (gB _ _ _ _).mono ?_;rintro e w' ⟨rfl,rfl⟩;rw[HZ.o];go_wp2
   go_loop [3] (λi=>∃ k:Nat,k<=s.size/\i=I J (k:Int)/\ak (CO s k)) (λi=>s.size - (intOf i).toNat)
   case atStart=>exact⟨0,Nat.zero_le _,bE,λi _ h=>absurd h ah⟩
   case round=>
    obtain⟨k,hk,rfl,HG⟩:=hrel;clear a1 a2 b1 b2
    by_cases hlt:k<s.size
    ·by_cases a:97<=(s[k].toNat:Int)/\(s[k].toNat:Int)<=122
     ·have HN:ak (CO s (k+1)):=vv HG.o hlt (Nw a.1 a.2)
      obtain⟨a1,a2⟩:=a;have b1:¬ (s[k].toNat:Int)<97:=ah;have b2:¬ 122<(s[k].toNat:Int):=ah;go_wp2
      go_round
      case rel=>exact⟨k+1,ah,bE,HN⟩
      case measure=>simp[intOf];omega
     ·by_cases d:48<=(s[k].toNat:Int)/\(s[k].toNat:Int)<=57
      ·have k0:0<k:=by
        rcases Nat.eq_zero_or_pos k with rfl | h
        ·have:=G0.o;rw[PV a ah] at this;cases this
        ·exact h
       have HN:ak (CO s (k+1)):=vv HG.o hlt (YD k0 d.1 d.2);obtain⟨d1,d2⟩:=d;have b1:(s[k].toNat:Int)<97:=ah;have b2:¬ (s[k].toNat:Int)<48:=ah;have b3:¬ 57<(s[k].toNat:Int):=ah;clear a;go_wp2
       go_round
       case rel=>exact⟨k+1,ah,bE,HN⟩
       case measure=>simp[intOf];omega
      ·have HN:=aj (xq hlt (PV a ah))
       by_cases b1:(s[k].toNat:Int)<97
       ·by_cases b2:(s[k].toNat:Int)<48
        ·clear a d
         go_wp2;go_ret;exact⟨aG HN.o.symm,rfl⟩
        ·have b3:57<(s[k].toNat:Int):=ah
         clear a d;go_wp2;go_ret;exact⟨aG HN.o.symm,rfl⟩
       ·have b2:122<(s[k].toNat:Int):=ah
        have b5:¬ (s[k].toNat:Int)<48:=ah;have b6:57<(s[k].toNat:Int):=ah;clear a d;go_wp2;go_ret;exact⟨aG HN.o.symm,rfl⟩
    ·obtain rfl:k=s.size:=ah
     have HN:=aj (AV ah ah HG.o);go_wp2;go_ret;exact⟨aG HN.o.symm,rfl⟩
  ·have HN:=aj (xq z3 (PV a ah))
   by_cases b1:(s[0].toNat:Int)<97
   ·clear a
    go_enter func211,ntmps211;go_wp2_with fail;refine (gB _ _ _ _).mono ?_;rintro e w' ⟨rfl,rfl⟩;rw[HZ.o];go_wp2;go_ret;exact⟨aG HN.o.symm,rfl⟩
   ·have b2:122<(s[0].toNat:Int):=ah
    clear a;go_enter func211,ntmps211;go_wp2_with fail;refine (gB _ _ _ _).mono ?_;rintro e w' ⟨rfl,rfl⟩;rw[HZ.o];go_wp2;go_ret;exact⟨aG HN.o.symm,rfl⟩
theorem sG.mono(h:sG w B P b o)(hb:B<=B'):sG w B' P b o:=by
 obtain⟨h0,A,cap,h1,h2,h3,h4⟩:=h;exact⟨M1 h0 hb,A,cap,h1,h2,h3,h4.mono hb⟩
theorem N7(k vars:Int)(j:Nat):vars<=bQ k vars j/\bQ k vars j<=vars+1:=by unfold bQ;split<;>omega
def ag9(P:List Fn)(ks:Es):Prop:=∀ (k n p c:Int) (b o bp op B:Nat) (vars funcs:Int) (w:Iv),dF w B k n p c ks b o->sG w B P bp op->B<=w.heap.size->0<=funcs->funcs<=P.length->0<=vars->vars+ks.depth<=2000000->ks.size<=1048576 ->
 I0 Tryz.prog 142 #[ptr bp op,ptr b o,I J vars,I J funcs] w λe w'=>e=If (.bool (bL P funcs vars k n p c ks.len&&aK P funcs ks k 0 vars))/\Ix w.heap.size w w'
theorem aaj(P:List Fn):∀ (m:Nat) (ks:Es),ks.size<m->ag9 P ks:=by
 intro m
 induction m with
 | zero=>intro es h;omega
 | succ m ih=>
 intro ks hm k n p c b o bp op B vars funcs w hE hP hB f0 f1 v0 v1 hsz0;have IH:=aj ih;clear ih;have acQ:=aj (Zt P ks k n p c vars funcs b o bp op B w hE hP f0 f1 v0 ah);have HP:=aj hP;clear hP;obtain⟨lD,h0,h1,h2,h3,K,cap,b',o',h4,hc,hcm,hK,hks⟩:=hE;have gI:=aj hks;clear hks;have fF:cap<=9223372036854775807:=by unfold I2 at hcm;omega
 have hbw:b<w.heap.size:=ah;have hls:=Es.aF ks;cases hn:bL P funcs vars k n p c ks.len
 ·have HN:=aj hn;clear hn
  go_enter func142,ntmps142;go_wp2_with fail;refine acQ.o.mono ?_;rintro e w1 ⟨rfl,hb1⟩;rw[HN.o];go_wp2;go_ret;exact⟨rfl,hb1⟩
 ·have HN:=aj hn;clear hn
  obtain⟨F,hF⟩:=aD (aK P funcs ks k 0 vars)
  have HF:=aj hF;clear hF;rw[Ys,<-HF.o];go_enter func142,ntmps142;go_wp2_with fail;refine acQ.o.mono ?_;rintro e w1 ⟨rfl,hb1⟩;rw[HN.o];have HB1:=aj hb1;clear hb1;go_wp2
  go_loopw [9] (λi wr=>∃ (j:Nat) (es':Es),i=I J (j:Int)/\j+es'.len=ks.len/\ak (aK P funcs es' k j vars=F)/\ak (es'.size<=ks.size/\es'.depth<=ks.depth)/\ak (aI wr B es' b' (o'+j*5))/\ak (Ix w.heap.size w wr)) (λi _=>ks.len - (intOf i).toNat)
  case atStart=>exact⟨0,ks,bE,ah,HF.o.symm,⟨Jn _,Jn _⟩,by show aI _ _ _ _ _;rw[Mn,Mm];exact gI.o.below (HB1.o.mono hB),HB1.o⟩
  case round=>
   obtain⟨j,es',rfl,hj,hy,hsz,HE,HB⟩:=hrel;have h0':wr.cell? ⟨b,o,U⟩=M (I J k):=(HB.o.cell (p:=⟨b,_,U⟩) hbw).trans h0;have h4':wr.cell? ⟨b,o+4,U⟩=M (V K ks.len cap):=(HB.o.cell (p:=⟨b,_,U⟩) hbw).trans h4;cases es' with
   | nil=>
    simp only[Es.len] at hj;go_wp2;go_ret;have:=hy.o;simp only[aK] at this;exact⟨aG this,HB.o⟩
   | cons kk n' p' c' aY r=>
    simp only[Es.len] at hj;have hK:=hK ah;subst hK;obtain⟨hel,hr⟩:=HE.o;have lH:=aj hel;have HR:=aj hr;have hrs:ak ((r.size<=ks.size/\r.depth<=ks.depth)/\aY.size<ks.size/\aY.depth+1<=ks.depth):=by
     have:=hsz.o;simp only[Es.size,Es.depth] at this;exact⟨⟨ah,ah⟩,ah,ah⟩
    clear hel hr HE;have GJ:=N7 k vars j;have f_:=hy.o;simp only[aK] at f_;have hcall:=IH.o aY (by have:=hrs.o;omega) kk n' p' c' b' (o'+j*5) bp op B (bQ k vars j) funcs wr lH.o (HP.o.below (HB.o.mono hB)) (by have:=HB.o.size;omega) f0 f1 ah (by have:=hrs.o;omega) (by have:=hrs.o;omega);generalize (bL P funcs (bQ k vars j) kk n' p' c' aY.len&&aK P funcs aY kk 0 (bQ k vars j))=bb at f_ hcall
    have jT:=aj f_;clear f_;have jh:=aj hcall;clear hcall GJ
    by_cases h9:k=9/\j=1
    ·have e9:(k==9)=true:=by simpa using h9.1
     have e1:((j:Int)==1)=true:=by simp;omega
     have GJ:bQ k vars j=vars+1:=by unfold bQ;rw[if_pos h9]
     rw[GJ] at jh;clear h9 GJ;go_wp2_with fail;refine jh.o.mono ?_;rintro e w2 ⟨rfl,hb2⟩;have gY:ak (aI w2 B r b' (o'+(j+1)*5)):=by
      have:=HR.o.below (hb2.mono (by have:=HB.o.size;omega))
      rwa [show o'+j*5+5=o'+(j+1)*5 by omega] at this
     have HB2:=aj (aH HB.o hb2);clear hb2 HR lH jh;cases bb
     ·have iD:ak (F=false):=by have:=jT.o;rw[Xs] at this;exact this.symm
      go_wp2;go_ret;exact⟨aG iD.o.symm,HB2.o⟩
     ·have iD:ak (aK P funcs r k (j+1) vars=F):=by have:=jT.o;rw[Ys] at this;exact this
      go_wp2
      go_roundw
      case rel=>exact⟨j+1,r,bE,ah,iD,hrs.o.1,gY,HB2⟩
      case measure=>simp[intOf];omega
    ·have GJ:bQ k vars j=vars:=by unfold bQ;rw[if_neg h9]
     rw[GJ] at jh;clear GJ
     by_cases h8:k=9
     ·have e9:(k==9)=true:=by simpa using h8
      have e1:((j:Int)==1)=false:=by simp;omega
      clear h9 h8;go_wp2_with fail;refine jh.o.mono ?_;rintro e w2 ⟨rfl,hb2⟩;have gY:ak (aI w2 B r b' (o'+(j+1)*5)):=by
       have:=HR.o.below (hb2.mono (by have:=HB.o.size;omega))
       rwa [show o'+j*5+5=o'+(j+1)*5 by omega] at this
      have HB2:=aj (aH HB.o hb2);clear hb2 HR lH jh;cases bb
      ·have iD:ak (F=false):=by have:=jT.o;rw[Xs] at this;exact this.symm
       go_wp2;go_ret;exact⟨aG iD.o.symm,HB2.o⟩
      ·have iD:ak (aK P funcs r k (j+1) vars=F):=by have:=jT.o;rw[Ys] at this;exact this
       go_wp2
       go_roundw
       case rel=>exact⟨j+1,r,bE,ah,iD,hrs.o.1,gY,HB2⟩
       case measure=>simp[intOf];omega
     ·have e9:(k==9)=false:=by simpa using h8
      clear h9 h8;go_wp2_with fail;refine jh.o.mono ?_;rintro e w2 ⟨rfl,hb2⟩;have gY:ak (aI w2 B r b' (o'+(j+1)*5)):=by
       have:=HR.o.below (hb2.mono (by have:=HB.o.size;omega))
       rwa [show o'+j*5+5=o'+(j+1)*5 by omega] at this
      have HB2:=aj (aH HB.o hb2);clear hb2 HR lH jh;cases bb
      ·have iD:ak (F=false):=by have:=jT.o;rw[Xs] at this;exact this.symm
       go_wp2;go_ret;exact⟨aG iD.o.symm,HB2.o⟩
      ·have iD:ak (aK P funcs r k (j+1) vars=F):=by have:=jT.o;rw[Ys] at this;exact this
       go_wp2
       go_roundw
       case rel=>exact⟨j+1,r,bE,ah,iD,hrs.o.1,gY,HB2⟩
       case measure=>simp[intOf];omega
theorem uX(x:Int)(w:Iv):I0 Tryz.prog 139 #[I J x] w λe w'=>e=If (.bool (fP x 0 412))/\w=w':=by
 go_enter func139,ntmps139;go_wp2_with fail;refine (gB _ _ _ _).mono ?_;rintro e w' ⟨rfl,rfl⟩;go_wp2;go_ret;exact⟨rfl,rfl⟩
variable{x:Nd}{funcs:Int}
theorem Ar(h:fP vars 0 412=false):bT P x vars funcs=false:=by unfold bT;rw[h];rfl
theorem xW(h:fP funcs 0 P.length=false):bT P x vars funcs=false:=by unfold bT;rw[h];simp
theorem Ap(h:¬ x.ks.size<=399):bT P x vars funcs=false:=by
 have:decide (x.size<=400)=false:=decide_eq_false (by unfold Nd.size;omega);unfold bT;rw[this];simp
theorem xV(h:¬ x.ks.depth<=59):bT P x vars funcs=false:=by
 have:decide (x.depth<=60)=false:=decide_eq_false (by unfold Nd.depth;omega);unfold bT;rw[this];simp
theorem vX(h0:fP vars 0 412=true)(h1:fP funcs 0 P.length=true)(h2:x.ks.size<=399)(h3:x.ks.depth<=59):bT P x vars funcs=formed P funcs vars x:=by
 have e1:decide (x.size<=400)=true:=decide_eq_true (by unfold Nd.size;omega);have e2:decide (x.depth<=60)=true:=decide_eq_true (by unfold Nd.depth;omega);unfold bT;rw[h0,h1,e1,e2];rfl
theorem vk(P:List Fn)(ks:Es)(k n p c vars funcs:Int)(b o bp op B:Nat)(w:Iv)(hE:dF w B k n p c ks b o)(hP:sG w B P bp op)(hB:B<=w.heap.size)(hsz:ks.size<=1048576) :
  I0 Tryz.prog 68 #[ptr bp op,ptr b o,I J vars,I J funcs] w λe w'=>e=If (.bool (bT P ⟨k,n,p,c,ks⟩ vars funcs))/\Ix w.heap.size w w':=by
 have HE:=aj hE;clear hE;have HP:=aj hP;obtain⟨hbp,A,aU,P7,nV,jL,_⟩:=hP;have wU:aU<=9223372036854775807:=by unfold I2 at jL;omega
 cases hv:fP vars 0 412
 ·have HN:=aj (Ar (P:=P) (x:=⟨k,n,p,c,ks⟩) (funcs:=funcs) hv)
  have HV:=aj hv;clear hv;go_enter func68,ntmps68;go_wp2_with fail;refine (uX _ _).mono ?_;rintro e w' ⟨rfl,rfl⟩;rw[HV.o];go_wp2;go_ret;exact⟨aG HN.o.symm,Jx _ _⟩
 have HV:=aj hv;clear hv;cases hf:fP funcs 0 P.length
 ·have HN:=aj (xW (P:=P) (x:=⟨k,n,p,c,ks⟩) (vars:=vars) hf)
  have HF:=aj hf;clear hf;go_enter func68,ntmps68;go_wp2_with fail;refine (uX _ _).mono ?_;rintro e w' ⟨rfl,rfl⟩;rw[HV.o];go_wp2_with fail;refine (gB _ _ _ _).mono ?_;rintro e w' ⟨rfl,rfl⟩;rw[HF.o];go_wp2;go_ret;exact⟨aG HN.o.symm,Jx _ _⟩
 have HF:=aj hf;clear hf
 by_cases hs:ks.size<=399
 ·have hl:ak (0<=g_ ks (400 - 1)):=(Dc ks _ ah).2 ⟨ah,ah⟩
  by_cases hd:ks.depth<=59
  ·obtain⟨v0,v1⟩:=bH.1 HV.o
   obtain⟨f0,f1⟩:=bH.1 HF.o;have HN:ak (bT P ⟨k,n,p,c,ks⟩ vars funcs=(bL P funcs vars k n p c ks.len&&aK P funcs ks k 0 vars)):=vX HV.o HF.o hs hd;rw[HN.o];generalize Fa:(bL P funcs vars k n p c ks.len&&aK P funcs ks k 0 vars)=bb;have Ck:=aj Fa;clear Fa HN;go_enter func68,ntmps68;go_wp2_with fail;refine (uX _ _).mono ?_;rintro e w' ⟨rfl,rfl⟩
   rw[HV.o];go_wp2_with fail;refine (gB _ _ _ _).mono ?_;rintro e w' ⟨rfl,rfl⟩;rw[HF.o];go_wp2_with fail;refine (yF (ks.size+1) ks ah k n p c b o B 400 w HE.o hB hsz ah ah).mono ?_;rintro e w1 ⟨rfl,hb1⟩;have hl:=hl.o;generalize g_ ks (400 - 1)=q at *;go_wp2_with fail;refine (ES (ks.size+1) ks ah k n p c b o B w1 (HE.o.below (hb1.mono hB)) (by have:=hb1.size;omega) hsz).mono ?_;rintro e w2 ⟨rfl,hb2⟩
   have hq:((ks.depth+1:Nat):Int)<=60:=ah;generalize ((ks.depth+1:Nat):Int)=q2 at *;have HB2:=aj (aH hb1 hb2);clear hb1 hb2;go_wp2_with fail;refine (aaj P (ks.size+1) ks ah k n p c b o bp op B vars funcs w2 (HE.o.below (HB2.o.mono hB)) (HP.o.below (HB2.o.mono hB)) (by have:=HB2.o.size;omega) f0 f1 v0 ah hsz).mono ?_;rintro e w3 ⟨rfl,hb3⟩;rw[Ck.o];have HB3:=aj (aH HB2.o hb3)
   clear hb3;go_wp2;go_ret;exact⟨rfl,HB3.o⟩
  ·have HN:=aj (xV (P:=P) (x:=⟨k,n,p,c,ks⟩) (vars:=vars) (funcs:=funcs) hd)
   go_enter func68,ntmps68;go_wp2_with fail;refine (uX _ _).mono ?_;rintro e w' ⟨rfl,rfl⟩;rw[HV.o];go_wp2_with fail;refine (gB _ _ _ _).mono ?_;rintro e w' ⟨rfl,rfl⟩;rw[HF.o];go_wp2_with fail;refine (yF (ks.size+1) ks ah k n p c b o B 400 w HE.o hB hsz ah ah).mono ?_;rintro e w1 ⟨rfl,hb1⟩;have hl:=hl.o;generalize g_ ks (400 - 1)=q at *;go_wp2_with fail;refine (ES (ks.size+1) ks ah k n p c b o B w1 (HE.o.below (hb1.mono hB)) (by have:=hb1.size;omega) hsz).mono ?_;rintro e w2 ⟨rfl,hb2⟩
   have hq:60<((ks.depth+1:Nat):Int):=ah;generalize ((ks.depth+1:Nat):Int)=q2 at *;have HB2:=aj (aH hb1 hb2);clear hb1 hb2;go_wp2;go_ret;exact⟨aG HN.o.symm,HB2.o⟩
 ·have HN:=aj (Ap (P:=P) (x:=⟨k,n,p,c,ks⟩) (vars:=vars) (funcs:=funcs) hs)
  have hl:g_ ks (400 - 1)<0:=by
   have:=Dc ks (400 - 1) ah;omega
  go_enter func68,ntmps68;go_wp2_with fail;refine (uX _ _).mono ?_;rintro e w' ⟨rfl,rfl⟩;rw[HV.o];go_wp2_with fail;refine (gB _ _ _ _).mono ?_;rintro e w' ⟨rfl,rfl⟩;rw[HF.o];go_wp2_with fail;refine (yF (ks.size+1) ks ah k n p c b o B 400 w HE.o hB hsz ah ah).mono ?_;rintro e w1 ⟨rfl,hb1⟩;generalize g_ ks (400 - 1)=q at *;go_wp2;go_ret;exact⟨aG HN.o.symm,hb1⟩
theorem Dy(a b:ByteArray):(a==b)=(a.toList==b.toList):=by
 cases a with
 | mk a=>
 cases b with
 | mk b=>
  rw[ByteArray.toList_eq,ByteArray.toList_eq];show (a==b)=(a.toList==b.toList)
  rw[Bool.eq_iff_iff,beq_iff_eq,beq_iff_eq];exact⟨λh=>by rw[h],λh=>Array.toList_inj.1 h⟩
variable{j:Nat}
theorem aa0(h:∀ i g,i<j->P[i]? = M g->(g.name==f.name)=false):((P.take j).any λg=>g.name==f.name)=false:=by
 rw[List.any_eq_false];intro g hg;obtain⟨i,hi⟩:=List.getElem?_of_mem hg;rw[List.getElem?_take] at hi;split at hi
 ·rw[h i g (by assumption) hi];simp
 ·cases hi
variable{i:Nat}
theorem X7{g:Fn}(hi:i<j)(hg:P[i]? = M g)(h:(g.name==f.name)=true):((P.take j).any λg=>g.name==f.name)=true:=by
 rw[List.any_eq_true];exact⟨g,List.mem_of_getElem? (by rw[List.getElem?_take,if_pos hi];exact hg),h⟩
theorem EZ(h:lM f.name=false):qp P i f=false:=by unfold qp;rw[h];rfl
theorem EY(h:((P.take i).any λg=>g.name==f.name)=true):qp P i f=false:=by unfold qp;rw[h];simp
theorem AJ(h:fP f.params 0 12=false):qp P i f=false:=by unfold qp;rw[h];simp
theorem E5(h:fP f.outs.len 1 12=false):qp P i f=false:=by unfold qp;rw[h];simp
theorem E8(h1:lM f.name=true)(h2:((P.take i).any λg=>g.name==f.name)=false)(h3:fP f.params 0 12=true)(h4:fP f.outs.len 1 12=true):qp P i f=(ny P f.outs f.params i&&decide (f.outs.size<=400)):=by
 unfold qp;rw[h1,h2,h3,h4];simp
def okR(P:List Fn)(es:Es)(vars funcs y:Int):Bool:=ny P es vars funcs&&decide ((es.size:Int)<=y)
variable{y:Int}
theorem Zx{k n:Int}{ks r:Es}:okR P (.cons k n p c ks r) vars funcs y=(bT P ⟨k,n,p,c,ks⟩ vars funcs&&okR P r vars funcs (y - 1 - ks.size)):=by
 have e:decide (((Es.cons k n p c ks r).size:Int)<=y)=decide ((r.size:Int)<=y - 1 - ks.size):=by
  exact decide_eq_decide.2 (by simp only[Es.size];omega)
 unfold okR;rw[e];simp only[ny,Bool.and_assoc]
theorem abB{es:Es}(h:y<0):okR P es vars funcs y=false:=by
 unfold okR;rw[decide_eq_false ah];simp
theorem Rm(P:List Fn)(m:Nat)(f:Fn)(bp op B:Nat)(w:Iv)(hf:P[m]? = M f)(hP:sG w B P bp op)(hB:B<=w.heap.size)(hsz:f.outs.size<=1048576) :
  I0 Tryz.prog 138 #[ptr bp op,I J m] w λe w'=>e=If (.bool (qp P m f))/\Ix w.heap.size w w':=by
 have HP:=aj hP;obtain⟨hbp,A,aU,P7,nV,jL,kJ⟩:=hP;have D7:m<P.length:=(List.getElem?_eq_some_iff.1 hf).1;obtain⟨bF,oF,rfl,hbF,g0,g1,hnm,KF,cF,g2,TB,zM,bk,ok,hKF,hks⟩:=kJ.get hf;have rX:=aj kJ;clear kJ;have gI:=aj hks;clear hks;have wU:aU<=9223372036854775807:=by unfold I2 at jL;omega
 have RA:cF<=9223372036854775807:=by unfold I2 at zM;omega
 have hbw:bF<w.heap.size:=ah;have Ry:bp<w.heap.size:=ah;have hls:=Es.aF f.outs;have HM:=aj hf;clear hf;cases h1:lM f.name
 ·have HN:=aj (EZ (P:=P) (i:=m) h1)
  have H1:=aj h1;clear h1;go_enter func138,ntmps138;go_wp2_with fail;refine (oZ _ _ hnm).mono ?_;rintro e w' ⟨rfl,rfl⟩;rw[H1.o];go_wp2;go_ret;exact⟨aG HN.o.symm,Jx _ _⟩
 have H1:=aj h1;clear h1;cases h2:fP f.params 0 12
 ·have HN:=aj (AJ (P:=P) (i:=m) h2)
  have H2:=aj h2;clear h2;go_enter func138,ntmps138;go_wp2_with fail;refine (oZ _ _ hnm).mono ?_;rintro e w' ⟨rfl,rfl⟩;rw[H1.o];go_wp2_with fail;refine (gB _ _ _ _).mono ?_;rintro e w' ⟨rfl,rfl⟩;rw[H2.o];go_wp2;go_ret;exact⟨aG HN.o.symm,Jx _ _⟩
 have H2:=aj h2;clear h2;cases h3:fP f.outs.len 1 12
 ·have HN:=aj (E5 (P:=P) (i:=m) h3)
  have H3:=aj h3;clear h3;go_enter func138,ntmps138;go_wp2_with fail;refine (oZ _ _ hnm).mono ?_;rintro e w' ⟨rfl,rfl⟩;rw[H1.o];go_wp2_with fail;refine (gB _ _ _ _).mono ?_;rintro e w' ⟨rfl,rfl⟩;rw[H2.o];go_wp2_with fail;refine (gB _ _ _ _).mono ?_;rintro e w' ⟨rfl,rfl⟩;rw[H3.o];go_wp2;go_ret;exact⟨aG HN.o.symm,Jx _ _⟩
 have H3:=aj h3;clear h3;obtain⟨F,hF⟩:=aD (qp P m f)
 rw[<-hF];have HFF:=aj hF;clear hF;go_enter func138,ntmps138;go_wp2_with fail;refine (oZ _ _ hnm).mono ?_;rintro e w' ⟨rfl,rfl⟩;rw[H1.o];go_wp2_with fail;refine (gB _ _ _ _).mono ?_;rintro e w' ⟨rfl,rfl⟩;rw[H2.o];go_wp2_with fail;refine (gB _ _ _ _).mono ?_;rintro e w' ⟨rfl,rfl⟩;rw[H3.o];go_wp2
 go_loopw [6] (λi wr=>∃ (j:Nat),i=I J (j:Int)/\j<=m/\ak (∀ i g,i<j->P[i]? = M g->(g.name==f.name)=false)/\ak (Ix w.heap.size w wr)) (λi _=>m - (intOf i).toNat)
 case atStart=>exact⟨0,bE,ah,λi g h=>absurd h ah,Jx _ _⟩
 case round=>
  obtain⟨j,rfl,hj,HD,HB⟩:=hrel;have abo:wr.cell? ⟨bp,op,U⟩=M (V (M ⟨bF,oF,U⟩) P.length aU):=(HB.o.cell (p:=⟨bp,_,U⟩) Ry).trans P7;have g0':wr.cell? ⟨bF,oF+m*3,U⟩=M (.string f.name):=(HB.o.cell (p:=⟨bF,_,U⟩) hbw).trans g0;have g2':wr.cell? ⟨bF,oF+m*3+2,U⟩=M (V KF f.outs.len cF):=(HB.o.cell (p:=⟨bF,_,U⟩) hbw).trans g2
  by_cases hlt:j<m
  ·obtain⟨g,hg⟩:∃ g,P[j]? = M g:=⟨P[j]'ah,List.getElem?_eq_getElem _⟩
   obtain⟨bG,oG,e0,hbG,q0,_⟩:=rX.o.get hg;obtain⟨rfl,rfl⟩:bF=bG/\oF=oG:=by simpa using e0
   have q0':wr.cell? ⟨bF,oF+j*3,U⟩=M (.string g.name):=(HB.o.cell (p:=⟨bF,_,U⟩) hbw).trans q0;have HG:=aj hg;clear hg e0;cases hq:(g.name.toList==f.name.toList)
   ·have HD2:ak (∀ i g,i<j+1->P[i]? = M g->(g.name==f.name)=false):=λi g' hi hg'=>by
     by_cases e:i=j
     ·subst e
      have:=HG.o;rw[hg'] at this;obtain rfl:g'=g:=by simpa using this
      rw[Dy];exact hq
     ·exact HD.o i g' ah hg'
    go_wp2_with fail;go_quiet (fail)
    rename Nat=>nq
    have HBn:ak (Ix w.heap.size w (wr.drewN nq)):=below_drewN' HB.o nq;go_wp2
    go_roundw
    case rel=>exact⟨j+1,bE,ah,HD2,HBn⟩
    case measure=>simp[intOf];omega
   ·have HN:ak (F=false):=HFF.o.trans (EY (X7 hlt HG.o ((Dy _ _).trans hq)))
    go_wp2_with fail;go_quiet (fail)
    rename Nat=>nq
    have HBn:ak (Ix w.heap.size w (wr.drewN nq)):=below_drewN' HB.o nq;go_wp2;go_ret;exact⟨aG HN.o.symm,HBn.o⟩
  ·obtain rfl:j=m:=ah
   have HF:ak (okR P f.outs f.params j 400=F):=by
    show _=_;rw[HFF.o,E8 H1.o (aa0 HD.o) H2.o H3.o];unfold okR
    congr 1
    rw[Bool.eq_iff_iff];simp only[decide_eq_true_iff];omega
   clear hlt hj HD HFF;have HB0:=HB;clear HB;obtain⟨wo,rfl⟩:∃ wo:Iv,wo=wr:=⟨_,rfl⟩
   go_wp2
   go_loopw [7,8] (λll i wr=>∃ (a:Nat) (es':Es) (y:Int),i=I J (a:Int)/\ll=I J y/\a+es'.len=f.outs.len/\0<=y/\y<=400/\ak (okR P es' f.params j y=F)/\ak (es'.size<=f.outs.size)/\ak (aI wr B es' bk (ok+a*5))/\ak (Ix w.heap.size w wr)) (λ_ i _=>f.outs.len - (intOf i).toNat)
   case atStart=>exact⟨0,f.outs,400,bE,by simp,ah,ah,ah,HF,Jn _,by show aI _ _ _ _ _;rw[Mn,Mm];exact gI.o.below (HB0.o.mono hB),HB0⟩
   case round=>
    clear abo g0' g2';obtain⟨a,es',y,rfl,rfl,ha,y0,y1,hy,hsz2,HE,HB⟩:=hrel;have abo:wr.cell? ⟨bp,op,U⟩=M (V (M ⟨bF,oF,U⟩) P.length aU):=(HB.o.cell (p:=⟨bp,_,U⟩) Ry).trans P7;have g1':wr.cell? ⟨bF,oF+j*3+1,U⟩=M (I J f.params):=(HB.o.cell (p:=⟨bF,_,U⟩) hbw).trans g1;have g2':wr.cell? ⟨bF,oF+j*3+2,U⟩=M (V KF f.outs.len cF):=(HB.o.cell (p:=⟨bF,_,U⟩) hbw).trans g2
    cases es' with
    | nil=>
     simp only[Es.len] at ha;go_wp2;go_ret;have:=hy.o;exact⟨aG (by rw[<-this];unfold okR;rw[decide_eq_true (show ((Es.nil.size:Nat):Int)<=y by simpa [Es.size] using y0)];rfl),HB.o⟩
    | cons kk n' p' c' aY r=>
     simp only[Es.len] at ha;have hK:=hKF ah;subst hK;obtain⟨hel,hr⟩:=HE.o;have lH:=aj hel;have HR:=aj hr;have hrs:ak (r.size<=f.outs.size/\aY.size<f.outs.size):=by
      have:=hsz2.o;simp only[Es.size] at this;exact⟨ah,ah⟩
     clear hel hr HE;have f_:=hy.o;rw[Zx] at f_;go_wp2_with fail;refine (yF (aY.size+1) aY ah kk n' p' c' bk (ok+a*5) B y wr lH.o (by have:=HB.o.size;omega) (by have:=hrs.o;omega) y0 ah).mono ?_;rintro e w2 ⟨rfl,hb2⟩;have HB2:=aj (aH HB.o hb2);have hp2:w2.cell? ⟨bp,op,U⟩=M (V (M ⟨bF,oF,U⟩) P.length aU):=(HB2.o.cell (p:=⟨bp,_,U⟩) Ry).trans P7
     have g12:w2.cell? ⟨bF,oF+j*3+1,U⟩=M (I J f.params):=(HB2.o.cell (p:=⟨bF,_,U⟩) hbw).trans g1;have g22:w2.cell? ⟨bF,oF+j*3+2,U⟩=M (V (M ⟨bk,ok,U⟩) f.outs.len cF):=(HB2.o.cell (p:=⟨bF,_,U⟩) hbw).trans g2
     by_cases hneg:(aY.size:Int)<=y - 1
     ·have hz:g_ aY (y - 1)=y - 1 - aY.size:=yE aY _ hneg
      rw[hz];obtain⟨z,hzz⟩:∃ z,z=y - 1 - (aY.size:Int):=⟨_,rfl⟩
      rw[<-hzz] at f_ ⊢;have z0:0<=z:=ah;have z1:z<=400:=ah;have hdz:decide (z<0)=false:=by simp;omega
      have hcall:=aj (λwx (hx:Ix w2.heap.size w2 wx)=>vk P aY kk n' p' c' f.params j bk (ok+a*5) bp op B wx (dF.below lH.o ((hb2.trans (hx.mono hb2.size)).mono (by have:=HB.o.size;omega))) (HP.o.below ((HB2.o.trans (hx.mono HB2.o.size)).mono hB)) (by have:=HB2.o.size;have:=hx.size;omega) (by have:=hrs.o;omega));have HRR:ak (∀ wx,Ix w2.heap.size w2 wx->aI wx B r bk (ok+(a+1)*5)):=λwx hx=>by
       have:=HR.o.below ((hb2.trans (hx.mono hb2.size)).mono (by have:=HB.o.size;omega))
       rwa [show ok+a*5+5=ok+(a+1)*5 by omega] at this
      generalize bT P ⟨kk,n',p',c',aY⟩ f.params j=bb at f_ hcall;have jT:=aj f_;clear f_ hzz hz hneg hb2 lH HR P7 g0 g1 g2 abo g1' g2' hbw Ry hnm H1 H2 H3 rX gI HM hls HB0 HF HP jL nV hbp hbF hB hsz hsz2 hy HB;go_wp2_with fail;go_still_tail 15,aL;change wpList _ _ _ _ _ w2.drew;go_wp2_with fail;refine (hcall.o _ ((Jx _ _).drew)).mono ?_;rintro e w3 ⟨rfl,hb3⟩;have hb3:=EN hb3
      all_goals
       have hb4:=hb3;have gY:=aj (HRR.o _ hb4);have HB3:=aj (aH HB2.o hb4);clear hb4 hb3 HRR hcall hp2 g12 g22;cases bb
       ·have iD:ak (F=false):=by have:=jT.o;rw[Xs] at this;exact this.symm
        go_wp2;go_ret;exact⟨aG iD.o.symm,HB3.o⟩
       ·have iD:ak (okR P r f.params j z=F):=by have:=jT.o;rw[Ys] at this;exact this
        go_wp2
        go_roundw
        case rel=>exact⟨a+1,r,z,bE,rfl,ah,z0,z1,iD,hrs.o.1,gY,HB3⟩
        case measure=>simp[intOf];omega
     ·have hl:g_ aY (y - 1)<0:=by
       have:=Dc aY (y - 1) ah;omega
      have iD:ak (F=false):=by rw[abB ah,Bool.and_false] at f_;exact f_.symm
      generalize g_ aY (y - 1)=q at *;clear f_ hb2 hneg;go_wp2_with fail;go_quiet (fail)
      rename Nat=>nq
      have HB3:ak (Ix w.heap.size w (w2.drewN nq)):=below_drewN' HB2.o nq;go_wp2;go_ret;exact⟨aG iD.o.symm,HB3.o⟩
theorem abC(P:List Fn)(bp op B:Nat)(w:Iv)(hP:sG w B P bp op)(hB:B<=w.heap.size)(hsz:bK P<=1048576) :
  I0 Tryz.prog 67 #[ptr bp op] w λe w'=>e=If (.bool (gF P))/\Ix w.heap.size w w':=by
 have HP:=aj hP;obtain⟨hbp,A,aU,P7,nV,jL,_⟩:=hP;have wU:aU<=9223372036854775807:=by unfold I2 at jL;omega
 have Ry:bp<w.heap.size:=ah;have qM:=aj hsz;clear hsz
 by_cases hl:P.length<=16
 ·obtain⟨F,hF⟩:=aD (gF P)
  have HF:ak (mX P P 0=F):=by show _=_;rw[hF];unfold gF;rw[decide_eq_true hl];rfl
  rw[<-hF];clear hF;go_enter func67,ntmps67;go_wp2
  go_loopw [3] (λi wr=>∃ (j:Nat) (fs:List Fn),i=I J (j:Int)/\j+fs.length=P.length/\ak (P.drop j=fs)/\ak (mX P fs j=F)/\ak (dU fs<=bK P)/\ak (Ix w.heap.size w wr)) (λi _=>P.length - (intOf i).toNat)
  case atStart=>exact⟨0,P,bE,ah,by show _=_;simp,HF,by show _<=_;unfold bK;omega,Jx _ _⟩
  case round=>
   obtain⟨j,fs,rfl,hj,HD,HY,HS,HB⟩:=hrel;have abo:wr.cell? ⟨bp,op,U⟩=M (V A P.length aU):=(HB.o.cell (p:=⟨bp,_,U⟩) Ry).trans P7;cases fs with
   | nil=>
    simp only[List.length_nil] at hj;go_wp2;go_ret;have:=HY.o;simp only[mX] at this;exact⟨aG this,HB.o⟩
   | cons f r=>
    simp only[List.length_cons] at hj;have hf:P[j]? = M f:=by
     have:=HD.o;have h2:(P.drop j)[0]? = M f:=by rw[this];rfl
     rw[List.getElem?_drop] at h2;simpa using h2
    have hd:ak (P.drop (j+1)=r):=by
     have:=HD.o;show _=_;rw[<-List.drop_drop,this];rfl
    have hrs:ak (dU r<=bK P/\f.outs.size<=1048576):=by
     have:=HS.o;have:=qM.o;simp only[dU,Fn.size] at *;exact⟨ah,ah⟩
    have f_:=HY.o;simp only[mX] at f_;have hcall:=Rm P j f bp op B wr hf (HP.o.below (HB.o.mono hB)) (by have:=HB.o.size;omega) hrs.o.2;generalize qp P j f=bb at f_ hcall;have jT:=aj f_;have jh:=aj hcall;clear hcall f_ hf;go_wp2_with fail;refine jh.o.mono ?_;rintro e w2 ⟨rfl,hb2⟩;have HB2:=aj (aH HB.o hb2);clear hb2 jh;cases bb
    ·have iD:ak (F=false):=by have:=jT.o;rw[Xs] at this;exact this.symm
     go_wp2;go_ret;exact⟨aG iD.o.symm,HB2.o⟩
    ·have iD:ak (mX P r (j+1)=F):=by have:=jT.o;rw[Ys] at this;exact this
     go_wp2
     go_roundw
     case rel=>exact⟨j+1,r,bE,ah,hd,iD,hrs.o.1,HB2⟩
     case measure=>simp[intOf];omega
 ·have HN:ak (gF P=false):=by show _=_;unfold gF;rw[decide_eq_false hl];rfl
  go_enter func67,ntmps67;go_wp2;go_ret;exact⟨aG HN.o.symm,Jx _ _⟩
end
end Go.Proofs.YtgfkglhelfkpoaaGreat
