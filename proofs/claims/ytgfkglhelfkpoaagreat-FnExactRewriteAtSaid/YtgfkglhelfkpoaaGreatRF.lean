/- Parts of the proof. -/
import Derived.Test.YtgfkglhelfkpoaaGreatRE
set_option maxRecDepth 100000
set_option maxHeartbeats 4000000
open Go.Proofs.Tryz
open Go.Value renaming int→I,slice→V
open Go.IntKind renaming i64→J
open Option renaming some→M
open Go.Ending renaming returned→If
open Go renaming World→Iv,Calls→I0,Value→I1,maxLen→I2,Addr→I3
open Go.RowKit renaming Below→Ix
open Nat renaming le_refl→Jn,add_zero→Mm,zero_mul→Mn
open Bool renaming and_eq_true→Mb
namespace Go.Proofs.YtgfkglhelfkpoaaGreat
section
open Go.RowKit Plain
def ag7(ks:Es):Prop:=∀ (k n p c:Int) (K:Option I3) (cap B:Nat) (w:Iv),bJ w B ks K->ks.len<=cap->cap<=I2->B<=w.heap.size->ks.size<=1048576 ->
 I0 Tryz.prog 151 #[exV k n p c K ks.len cap] w λe w'=>e=If (I J ((ks.size+1:Nat):Int))/\Ix w.heap.size w w'
theorem uU:∀ (m:Nat) (ks:Es),ks.size<m->ag7 ks:=by
 intro m
 induction m with
 | zero=>intro es h;omega
 | succ m ih=>
 intro ks hm k n p c K cap B w hKs hc hcm hB hsz0;have IH:=aj ih;clear ih;obtain⟨b',o',hK,hks⟩:=hKs;have gI:=aj hks;clear hks;have fF:cap<=9223372036854775807:=by unfold I2 at hcm;omega
 have hls:=Es.aF ks;go_enter func151,ntmps151;go_wp2
 go_loopw [3,9] (λll i wr=>∃ (j:Nat) (es':Es) (y:Nat),i=I J (j:Int)/\ll=I J (y:Int)/\j+es'.len=ks.len/\y<=ks.size+1/\1<=y/\ak (y+es'.size=ks.size+1)/\ak (aI wr B es' b' (o'+j*5))/\ak (Ix w.heap.size w wr)) (λ_ i _=>ks.len - (intOf i).toNat)
 case atStart=>exact⟨0,ks,1,bE,bE,ah,ah,ah,by show _=_;omega,by show aI _ _ _ _ _;rw[Mn,Mm];exact gI.o.below (by show Ix _ _ _;go_grown),by show Ix _ _ _;go_grown⟩
 case round=>
  obtain⟨j,es',y,rfl,rfl,hj,y1,y2,hy,HE,HB⟩:=hrel;cases es' with
  | nil=>
   simp only[Es.len] at hj;go_wp2;go_ret;have:=hy.o;simp only[Es.size] at this;exact⟨bR ah,HB.o⟩
  | cons kk n' p' c' aY r=>
   simp only[Es.len] at hj;have hK:=hK ah;subst hK;obtain⟨hel,hr⟩:=HE.o;have HR:=aj hr;obtain⟨lD,h0,h1,h2,h3,K',bB,b2,o2,h4,hc2,hcm2,hK2,dS⟩:=hel;have oM:ak (bJ wr B aY K'):=⟨b2,o2,hK2,dS⟩
   have hrs:ak (y+1+aY.size+r.size=ks.size+1):=by
    have:=hy.o;simp only[Es.size] at this;show _=_;omega
   clear hr HE dS hy;go_wp2_with fail;refine (IH.o aY (by have:=hrs.o;omega) kk n' p' c' K' bB B _ (oM.o.below (by have:=HB.o.size;go_grown)) hc2 hcm2 (by have:=HB.o.size;simp;omega) (by have:=hrs.o;omega)).mono ?_;rintro e w1 ⟨rfl,hb1⟩;have hb2:Ix wr.heap.size wr w1:=Below.trans aV (hb1.mono (by simp));have gY:ak (aI w1 B r b' (o'+(j+1)*5)):=by
    have:=HR.o.below (hb2.mono (by have:=HB.o.size;omega))
    rwa [show o'+j*5+5=o'+(j+1)*5 by omega] at this
   have HB1:=aj (aH HB.o hb2);obtain⟨z,hz⟩:=aD (aY.size+1)
   rw[<-hz];have z1:z<=1048576:=by have:=hrs.o;omega
   have HZ:ak (y+z+r.size=ks.size+1):=by have:=hrs.o;show _=_;omega
   have hq:y+z<=ks.size+1:=by have:=HZ.o;omega
   clear hz hb1 hb2 HR;go_wp2
   go_roundw
   case rel=>exact⟨j+1,r,y+z,bE,bE,ah,hq,ah,HZ,gY,HB1⟩
   case measure=>simp[intOf];omega
def aiP(ks:Es):Prop:=∀ (k n p c:Int) (K:Option I3) (cap B:Nat) (w:Iv),bJ w B ks K->ks.len<=cap->cap<=I2->B<=w.heap.size->ks.size<=1048576 ->
 I0 Tryz.prog 153 #[exV k n p c K ks.len cap] w λe w'=>e=If (I J ((ks.depth+1:Nat):Int))/\Ix w.heap.size w w'
theorem PL:∀ (m:Nat) (ks:Es),ks.size<m->aiP ks:=by
 intro m
 induction m with
 | zero=>intro es h;omega
 | succ m ih=>
 intro ks hm k n p c K cap B w hKs hc hcm hB hsz0;have IH:=aj ih;clear ih;obtain⟨b',o',hK,hks⟩:=hKs;have gI:=aj hks;clear hks;have fF:cap<=9223372036854775807:=by unfold I2 at hcm;omega
 have hls:=Es.aF ks;have hdp:=Es.Jh ks;go_enter func153,ntmps153;go_wp2
 go_loopw [3,9] (λll i wr=>∃ (j:Nat) (es':Es) (y:Nat),i=I J (j:Int)/\ll=I J (y:Int)/\j+es'.len=ks.len/\y<=ks.depth/\ak (max y es'.depth=ks.depth)/\ak (es'.size<=ks.size)/\ak (aI wr B es' b' (o'+j*5))/\ak (Ix w.heap.size w wr)) (λ_ i _=>ks.len - (intOf i).toNat)
 case atStart=>exact⟨0,ks,0,bE,bE,ah,ah,by show _=_;omega,Jn _,by show aI _ _ _ _ _;rw[Mn,Mm];exact gI.o.below (by show Ix _ _ _;go_grown),by show Ix _ _ _;go_grown⟩
 case round=>
  obtain⟨j,es',y,rfl,rfl,hj,y1,hy,hsz,HE,HB⟩:=hrel;cases es' with
  | nil=>
   simp only[Es.len] at hj;go_wp2;go_ret;have:=hy.o;simp only[Es.depth] at this;exact⟨bR ah,HB.o⟩
  | cons kk n' p' c' aY r=>
   simp only[Es.len] at hj;have hK:=hK ah;subst hK;obtain⟨hel,hr⟩:=HE.o;have HR:=aj hr;obtain⟨lD,h0,h1,h2,h3,K',bB,b2,o2,h4,hc2,hcm2,hK2,dS⟩:=hel;have oM:ak (bJ wr B aY K'):=⟨b2,o2,hK2,dS⟩
   have hrs:ak (r.size<=ks.size/\aY.size<ks.size):=by
    have:=hsz.o;simp only[Es.size] at this;exact⟨ah,ah⟩
   have hyo:=aj hy.o;clear hr HE dS hy;go_wp2_with fail;refine (IH.o aY (by have:=hrs.o;omega) kk n' p' c' K' bB B _ (oM.o.below (by have:=HB.o.size;go_grown)) hc2 hcm2 (by have:=HB.o.size;simp;omega) (by have:=hrs.o;omega)).mono ?_;rintro e w1 ⟨rfl,hb1⟩;have hb2:Ix wr.heap.size wr w1:=Below.trans aV (hb1.mono (by simp));have gY:ak (aI w1 B r b' (o'+(j+1)*5)):=by
    have:=HR.o.below (hb2.mono (by have:=HB.o.size;omega))
    rwa [show o'+j*5+5=o'+(j+1)*5 by omega] at this
   have HB1:=aj (aH HB.o hb2);obtain⟨z,hz⟩:=aD (aY.depth+1)
   rw[<-hz];have HZ:ak (max (max y z) r.depth=ks.depth):=by
    have:=hyo.o;simp only[Es.depth] at this;show _=_;omega
   have hq:max y z<=ks.depth:=by have:=HZ.o;omega
   have hyz:(y<=z/\max y z=z)∨(z<y/\max y z=y):=ah;clear hz hb1 hb2 HR
   rcases hyz with ⟨hyz,hm2⟩ | ⟨hyz,hm2⟩
   all_goals
    have Ik:=aj hm2;clear hm2;go_wp2
    go_roundw
    case rel=>exact⟨j+1,r,max y z,bE,by rw[Ik.o];congr 1;split<;>omega,ah,hq,HZ,hrs.o.1,gY,HB1⟩
    case measure=>simp[intOf];omega
abbrev Ip (A:Option I3) (len cap:Nat) (funcs:Int):I1:=.agg #[V A len cap,I J funcs]
def d9(r:Bool)(w:Iv)(e:Ending)(w':Iv):Prop:=e=If (.bool r)/\Ix w.heap.size w w'
variable{P:List Fn}{fn vars n p c:Int}{len:Nat}
theorem nD:bL P fn vars 1 n p c len=(p==0&&c==0&&(len==0&&fP n 0 1000002)):=by unfold bL;simp
theorem nE:bL P fn vars 2 n p c len=(p==0&&c==0&&(len==0&&fP n 0 (vars - 1))):=by unfold bL;simp
variable{k:Int}
theorem nL{N:Nat}(h:(k=3∨k=4∨k=5∨k=6∨k=9)/\N=2∨k=7/\N=1∨k=8/\N=3):bL P fn vars k n p c len=(p==0&&c==0&&(n==0&&len==N)):=by
 unfold bL
 rcases h with ⟨h | h | h | h | h,rfl⟩ | ⟨h,rfl⟩ | ⟨h,rfl⟩<;>subst h<;>simp
theorem o7(h:k<1∨11<k):bL P fn vars k n p c len=false:=by
 unfold bL;rw[if_neg ah,if_neg ah,if_neg ah,if_neg ah,if_neg ah,if_neg ah];simp
theorem Ju(P:List Fn)(ks:Es)(k n p c:Int)(K:Option I3)(cap:Nat)(A:Option I3)(aU:Nat)(vars funcs:Int)(w:Iv)(_hc:ks.len<=cap)(hcm:cap<=I2)(v0:0<=vars)(v1:vars<=2000000)(_hsz:ks.len<=1048576)(hk:k=1∨k=2) :
  I0 Tryz.prog 154 #[Ip A P.length aU funcs,exV k n p c K ks.len cap,I J vars] w (d9 (bL P funcs vars k n p c ks.len) w):=by
 have fF:cap<=9223372036854775807:=by unfold I2 at hcm;omega
 have hv:IntKind.i64.wrap (vars - 1)=vars - 1:=by rw[IntKind.wrap_i64];omega
 rcases hk with rfl | rfl
 ·have HN:=aj (nD (P:=P) (fn:=funcs) (vars:=vars) (n:=n) (p:=p) (c:=c) (len:=ks.len))
  go_enter func154,ntmps154;go_wp2_with (go_at_call 172;refine (GU _ _).mono ?_;rintro e w' ⟨rfl,rfl⟩)
  all_goals
   go_ret;exact⟨aG (by rw[HN.o];simp_all),aV⟩
 ·have HN:=aj (nE (P:=P) (fn:=funcs) (vars:=vars) (n:=n) (p:=p) (c:=c) (len:=ks.len))
  go_enter func154,ntmps154;go_wp2_with (go_at_call 90;refine (aT _ _ _ _).mono ?_;rintro e w' ⟨rfl,rfl⟩)
  all_goals
   go_ret;exact⟨aG (by rw[HN.o];simp_all),aV⟩
theorem Jv(P:List Fn)(ks:Es)(k n p c:Int)(K:Option I3)(cap:Nat)(A:Option I3)(aU:Nat)(vars funcs:Int)(w:Iv)(_hc:ks.len<=cap)(hcm:cap<=I2)(_hsz:ks.len<=1048576)(hk:k<1∨11<k) :
  I0 Tryz.prog 154 #[Ip A P.length aU funcs,exV k n p c K ks.len cap,I J vars] w (d9 (bL P funcs vars k n p c ks.len) w):=by
 have fF:cap<=9223372036854775807:=by unfold I2 at hcm;omega
 have HN:=aj (o7 (P:=P) (fn:=funcs) (vars:=vars) (n:=n) (p:=p) (c:=c) (len:=ks.len) hk);have e1:(k==1)=false:=by simp;omega
 have e2:(k==2)=false:=by simp;omega
 have e3:(k==3)=false:=by simp;omega
 have e4:(k==4)=false:=by simp;omega
 have e5:(k==5)=false:=by simp;omega
 have e6:(k==6)=false:=by simp;omega
 have e7:(k==7)=false:=by simp;omega
 have e8:(k==8)=false:=by simp;omega
 have e9:(k==9)=false:=by simp;omega
 have e10:(k==10)=false:=by simp;omega
 have e11:(k==11)=false:=by simp;omega
 by_cases hp:p=0
 ·subst hp
  go_enter func154,ntmps154;go_wp2;go_ret;exact⟨aG HN.o.symm,aV⟩
 ·have hp':(p==0)=false:=by simpa using hp
  go_enter func154,ntmps154;go_wp2;go_ret;exact⟨aG HN.o.symm,aV⟩
def opN(k:Int)(N:Nat):Prop:=(k=3∨k=4∨k=5∨k=6∨k=9)/\N=2∨k=7/\N=1∨k=8/\N=3
theorem Rl(P:List Fn)(ks:Es)(k n p c:Int)(K:Option I3)(cap:Nat)(A:Option I3)(aU:Nat)(vars funcs:Int)(w:Iv)(_hc:ks.len<=cap)(hcm:cap<=I2)(_hsz:ks.len<=1048576)(N:Nat)(hk:opN k N)(hno:¬ (p=0/\c=0/\n=0/\ks.len=N)) :
  I0 Tryz.prog 154 #[Ip A P.length aU funcs,exV k n p c K ks.len cap,I J vars] w (d9 (bL P funcs vars k n p c ks.len) w):=by
 have fF:cap<=9223372036854775807:=by unfold I2 at hcm;omega
 have HN:ak (bL P funcs vars k n p c ks.len=false):=by
  show _=_;rw[nL hk,Bool.eq_false_iff];intro h;simp only[Mb,beq_iff_eq] at h;exact hno ⟨h.1.1,h.1.2,h.2.1,h.2.2⟩
 by_cases hp:p=0
 ·subst hp
  by_cases hc0:c=0
  ·subst hc0
   by_cases hn:n=0
   ·subst hn
    have hl:ks.len≠N:=λh=>hno ⟨rfl,rfl,rfl,h⟩
    clear hno
    rcases hk with ⟨rfl | rfl | rfl | rfl | rfl,rfl⟩ | ⟨rfl,rfl⟩ | ⟨rfl,rfl⟩
    all_goals
     have hl1:((ks.len:Int)==2)=false∨True:=.inr trivial;go_enter func154,ntmps154;go_wp2
     all_goals first
      | (go_ret;exact⟨aG HN.o.symm,aV⟩)
      | (exfalso;simp_all;omega)
      | (exfalso;simp_all)
   ·have hn':(n==0)=false:=by simpa using hn
    have hn2:(n != 0)=true:=by simpa using hn
    clear hno hn
    rcases hk with ⟨rfl | rfl | rfl | rfl | rfl,rfl⟩ | ⟨rfl,rfl⟩ | ⟨rfl,rfl⟩
    all_goals
     go_enter func154,ntmps154;go_wp2;go_ret;exact⟨aG HN.o.symm,aV⟩
  ·have hn':(c==0)=false:=by simpa using hc0
   clear hno hc0
   rcases hk with ⟨rfl | rfl | rfl | rfl | rfl,rfl⟩ | ⟨rfl,rfl⟩ | ⟨rfl,rfl⟩
   all_goals
    go_enter func154,ntmps154;go_wp2;go_ret;exact⟨aG HN.o.symm,aV⟩
 ·have hn':(p==0)=false:=by simpa using hp
  clear hno hp
  rcases hk with ⟨rfl | rfl | rfl | rfl | rfl,rfl⟩ | ⟨rfl,rfl⟩ | ⟨rfl,rfl⟩
  all_goals
   go_enter func154,ntmps154;go_wp2;go_ret;exact⟨aG HN.o.symm,aV⟩
theorem Jr(P:List Fn)(ks:Es)(k n p c:Int)(K:Option I3)(cap B:Nat)(A:Option I3)(aU:Nat)(vars funcs:Int)(w:Iv)(_hc:ks.len<=cap)(hcm:cap<=I2)(kJ:eP w B P A)(nV:P.length<=aU)(jL:aU<=I2)(hB:B<=w.heap.size)(hf0:0<=funcs)(hf1:funcs<=P.length)(hsz:ks.len<=1048576)(hk:k=10∨k=11)(hno:bL P funcs vars k n p c ks.len=false) :
  I0 Tryz.prog 154 #[Ip A P.length aU funcs,exV k n p c K ks.len cap,I J vars] w (d9 false w):=by
 have fF:cap<=9223372036854775807:=by unfold I2 at hcm;omega
 have wU:aU<=9223372036854775807:=by unfold I2 at jL;omega
 have rX:=aj kJ;clear kJ;have key:p=0∨(p==0)=false:=by
  by_cases h:p=0
  ·exact .inl h
  ·exact .inr (by simpa using h)
 rcases key with rfl | P7
 ·cases hn:fP n 0 (funcs - 1)
  ·have HN:=aj hn
   clear hn hno
   rcases hk with rfl | rfl
   all_goals
    go_enter func154,ntmps154;go_wp2_with fail
    all_goals
      refine (aT _ _ _ _).mono ?_;rintro e w' ⟨rfl,rfl⟩;rw[HN.o];go_wp2;go_ret;exact⟨rfl,aV⟩
  ·obtain⟨n0,n1⟩:=bH.1 hn
   obtain⟨m,rfl⟩:=Int.eq_ofNat_of_zero_le n0;obtain⟨f,hf⟩:∃ f,P[m]? = M f:=⟨P[m]'ah,List.getElem?_eq_getElem _⟩
   have HN:=aj ((jk (vars:=vars) (p:=0) (c:=c) (len:=ks.len) hk (show P[(m:Int).toNat]? = M f from hf) hn).symm.trans hno);obtain⟨bF,oF,rfl,hbF,g0,g1,_,KF,cF,g2,TB,zM,_⟩:=rX.o.get hf;have RA:cF<=9223372036854775807:=by unfold I2 at zM;omega
   have hl4:((f.outs.len:Nat):Int)<=9223372036854775807:=ah;have hl5:((ks.len:Nat):Int)<=9223372036854775807:=ah;have D6:=aj hn;have hbw:bF<w.heap.size:=ah;have D7:m<P.length:=(List.getElem?_eq_some_iff.1 hf).1;have CZ:(m:Int)<(P.length:Int):=ah;clear hno hn hf;cases hl:((ks.len:Int)==f.params)
   ·have hl2:((ks.len:Int) != f.params)=true:=by simpa using hl
    rcases hk with rfl | rfl
    all_goals
     go_enter func154,ntmps154;go_wp2_with fail
     all_goals
      refine (aT _ _ _ _).mono ?_;rintro e w' ⟨rfl,rfl⟩;rw[D6.o];go_wp2;go_ret;exact⟨rfl,aV⟩
   ·have hl2:((ks.len:Int) != f.params)=false:=by simpa using hl
    have HL:ak (decide ((ks.len:Int)=f.params)=true):=by show _=_;simpa using hl
    cases hp:fP 0 0 ((f.outs.len:Int) - 1)
    ·have HP:=aj hp
     clear hp
     rcases hk with rfl | rfl
     all_goals
      go_enter func154,ntmps154;go_wp2_with fail
      all_goals
       refine (aT _ _ _ _).mono ?_;rintro e w' ⟨rfl,rfl⟩;rw[D6.o];go_wp2_with fail;refine (aT _ _ _ _).mono ?_;rintro e w' ⟨rfl,rfl⟩;rw[HP.o];go_wp2;go_ret;exact⟨rfl,aV⟩
    ·have HP:=aj hp
     clear hp
     rcases hk with rfl | rfl
     ·have hc0:(c==0)=false:=by
       have:=HN.o;rw[HL.o,HP.o] at this;simpa using this
      have hc1:(c != 0)=true:=by simpa using hc0
      go_enter func154,ntmps154;go_wp2_with fail
      all_goals
       refine (aT _ _ _ _).mono ?_;rintro e w' ⟨rfl,rfl⟩;rw[D6.o];go_wp2_with fail;refine (aT _ _ _ _).mono ?_;rintro e w' ⟨rfl,rfl⟩;rw[HP.o];go_wp2;go_ret;exact⟨rfl,aV⟩
     ·cases ho:((f.outs.len:Int)==f.params)
      ·have ho1:((f.outs.len:Int) != f.params)=true:=by simpa using ho
       go_enter func154,ntmps154;go_wp2_with fail
       all_goals
        refine (aT _ _ _ _).mono ?_;rintro e w' ⟨rfl,rfl⟩;rw[D6.o];go_wp2_with fail;refine (aT _ _ _ _).mono ?_;rintro e w' ⟨rfl,rfl⟩;rw[HP.o];go_wp2;go_ret;exact⟨rfl,aV⟩
      ·have ho1:((f.outs.len:Int) != f.params)=false:=by simpa using ho
       have HO:ak (decide ((f.outs.len:Int)=f.params)=true):=by show _=_;simpa using ho
       have hc8:ak (fP c 0 8=false):=by
        have:=HN.o;rw[HL.o,HP.o,HO.o] at this;show _=_;simpa using this
       go_enter func154,ntmps154;go_wp2_with fail
       all_goals
        refine (aT _ _ _ _).mono ?_;rintro e w' ⟨rfl,rfl⟩;rw[D6.o];go_wp2_with fail;refine (aT _ _ _ _).mono ?_;rintro e w' ⟨rfl,rfl⟩;rw[HP.o];go_wp2_with fail;refine (aT _ _ _ _).mono ?_;rintro e w' ⟨rfl,rfl⟩;rw[hc8.o];go_wp2;go_ret;exact⟨rfl,aV⟩
 ·cases hn:fP n 0 (funcs - 1)
  ·have HN:=aj hn
   clear hn hno
   rcases hk with rfl | rfl
   all_goals
    go_enter func154,ntmps154;go_wp2_with fail
    all_goals
      refine (aT _ _ _ _).mono ?_;rintro e w' ⟨rfl,rfl⟩;rw[HN.o];go_wp2;go_ret;exact⟨rfl,aV⟩
  ·obtain⟨n0,n1⟩:=bH.1 hn
   obtain⟨m,rfl⟩:=Int.eq_ofNat_of_zero_le n0;obtain⟨f,hf⟩:∃ f,P[m]? = M f:=⟨P[m]'ah,List.getElem?_eq_getElem _⟩
   have HN:=aj ((jk (vars:=vars) (p:=p) (c:=c) (len:=ks.len) hk (show P[(m:Int).toNat]? = M f from hf) hn).symm.trans hno);obtain⟨bF,oF,rfl,hbF,g0,g1,_,KF,cF,g2,TB,zM,_⟩:=rX.o.get hf;have RA:cF<=9223372036854775807:=by unfold I2 at zM;omega
   have hl4:((f.outs.len:Nat):Int)<=9223372036854775807:=ah;have hl5:((ks.len:Nat):Int)<=9223372036854775807:=ah;have D6:=aj hn;have hbw:bF<w.heap.size:=ah;have D7:m<P.length:=(List.getElem?_eq_some_iff.1 hf).1;have CZ:(m:Int)<(P.length:Int):=ah;clear hno hn hf;cases hl:((ks.len:Int)==f.params)
   ·have hl2:((ks.len:Int) != f.params)=true:=by simpa using hl
    rcases hk with rfl | rfl
    all_goals
     go_enter func154,ntmps154;go_wp2_with fail
     all_goals
      refine (aT _ _ _ _).mono ?_;rintro e w' ⟨rfl,rfl⟩;rw[D6.o];go_wp2;go_ret;exact⟨rfl,aV⟩
   ·have hl2:((ks.len:Int) != f.params)=false:=by simpa using hl
    have HL:ak (decide ((ks.len:Int)=f.params)=true):=by show _=_;simpa using hl
    cases hp:fP p 0 ((f.outs.len:Int) - 1)
    ·have HP:=aj hp
     clear hp
     rcases hk with rfl | rfl
     all_goals
      go_enter func154,ntmps154;go_wp2_with fail
      all_goals
       refine (aT _ _ _ _).mono ?_;rintro e w' ⟨rfl,rfl⟩;rw[D6.o];go_wp2_with fail;refine (aT _ _ _ _).mono ?_;rintro e w' ⟨rfl,rfl⟩;rw[HP.o];go_wp2;go_ret;exact⟨rfl,aV⟩
    ·have HP:=aj hp
     clear hp
     rcases hk with rfl | rfl
     ·have hc0:(c==0)=false:=by
       have:=HN.o;rw[HL.o,HP.o] at this;simpa using this
      have hc1:(c != 0)=true:=by simpa using hc0
      go_enter func154,ntmps154;go_wp2_with fail
      all_goals
       refine (aT _ _ _ _).mono ?_;rintro e w' ⟨rfl,rfl⟩;rw[D6.o];go_wp2_with fail;refine (aT _ _ _ _).mono ?_;rintro e w' ⟨rfl,rfl⟩;rw[HP.o];go_wp2;go_ret;exact⟨rfl,aV⟩
     ·cases ho:((f.outs.len:Int)==f.params)
      ·have ho1:((f.outs.len:Int) != f.params)=true:=by simpa using ho
       go_enter func154,ntmps154;go_wp2_with fail
       all_goals
        refine (aT _ _ _ _).mono ?_;rintro e w' ⟨rfl,rfl⟩;rw[D6.o];go_wp2_with fail;refine (aT _ _ _ _).mono ?_;rintro e w' ⟨rfl,rfl⟩;rw[HP.o];go_wp2;go_ret;exact⟨rfl,aV⟩
      ·have ho1:((f.outs.len:Int) != f.params)=false:=by simpa using ho
       have HO:ak (decide ((f.outs.len:Int)=f.params)=true):=by show _=_;simpa using ho
       have hc8:ak (fP c 0 8=false):=by
        have:=HN.o;rw[HL.o,HP.o,HO.o] at this;show _=_;simpa using this
       go_enter func154,ntmps154;go_wp2_with fail
       all_goals
        refine (aT _ _ _ _).mono ?_;rintro e w' ⟨rfl,rfl⟩;rw[D6.o];go_wp2_with fail;refine (aT _ _ _ _).mono ?_;rintro e w' ⟨rfl,rfl⟩;rw[HP.o];go_wp2_with fail;refine (aT _ _ _ _).mono ?_;rintro e w' ⟨rfl,rfl⟩;rw[hc8.o];go_wp2;go_ret;exact⟨rfl,aV⟩
end
end Go.Proofs.YtgfkglhelfkpoaaGreat
