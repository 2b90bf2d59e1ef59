/- Parts of the proof. -/
import Derived.Test.YtgfkglhelfkpoaaGreatRF
set_option maxRecDepth 100000
set_option maxHeartbeats 2000000
open Go.Proofs.Tryz
open Go.Value renaming int→I,slice→V
open Go.IntKind renaming i64→J
open Option renaming some→M,none→U
open Go.Ending renaming returned→If
open Go.Obj renaming cells→Is
open Go renaming World→Iv,Calls→I0,Value→I1,maxLen→I2,Addr→I3
open Go.RowKit renaming Below→Ix
open Nat renaming le_refl→Jn,add_zero→Mm,zero_mul→Mn,zero_add→Mu
open Go.RowKit.Below renaming refl→Jx
open Bool renaming and_eq_true→Mb,false_and→Xs,true_and→Ys
namespace Go.Proofs.YtgfkglhelfkpoaaGreat
section
open Go.RowKit Plain
theorem gy(w:Iv)(t1 t2:TypeId)(C1 C2:List I1):au ((w.alloc (Is C1.toArray t1)).alloc (Is C2.toArray t2)) w.heap.size t1 C1/\au ((w.alloc (Is C1.toArray t1)).alloc (Is C2.toArray t2)) (w.heap.size+1) t2 C2 /\
  Ix w.heap.size w ((w.alloc (Is C1.toArray t1)).alloc (Is C2.toArray t2)):=by
 refine⟨(au.new w t1 C1).next aV, ?_,aV⟩;have:=au.new (w.alloc (Is C1.toArray t1)) t2 C2
 rwa [show (w.alloc (Is C1.toArray t1)).heap.size=w.heap.size+1 by simp] at this
variable{k vars:Int}{j:Nat}
theorem eD(h:k≠9):bQ k vars j=vars:=by unfold bQ;rw[if_neg ah]
theorem wY(h:j≠1):bQ k vars j=vars:=by unfold bQ;rw[if_neg ah]
theorem AU:bQ 9 vars 1=vars+1:=rfl
def vN(P:List Fn)(ks:Es):Prop:=∀ (k n p c:Int) (K:Option I3) (cap B:Nat) (A:Option I3) (aU:Nat) (vars funcs:Int) (w:Iv),bJ w B ks K->ks.len<=cap->cap<=I2->eP w B P A->P.length<=aU->aU<=I2->B<=w.heap.size->0<=funcs->funcs<=P.length->0<=vars->vars+ks.depth<=2000000->ks.size<=1048576 ->
 I0 Tryz.prog 154 #[Ip A P.length aU funcs,exV k n p c K ks.len cap,I J vars] w (d9 (bL P funcs vars k n p c ks.len&&aK P funcs ks k 0 vars) w)
theorem Nn(P:List Fn)(m:Nat)(ks:Es)(IH:ak (∀ (ks:Es),ks.size<m->vN P ks))(hm:ks.size<m+1)(K:Option I3)(cap B:Nat)(A:Option I3)(aU:Nat)(vars funcs:Int)(w:Iv)(hKs:bJ w B ks K)(_hc:ks.len<=cap)(hcm:cap<=I2)(kJ:eP w B P A)(nV:P.length<=aU)(jL:aU<=I2)(hB:B<=w.heap.size)(f0:0<=funcs)(f1:funcs<=P.length)(v0:0<=vars)(v1:vars+ks.depth<=2000000)(hsz0:ks.size<=1048576)(hl:ks.len=2) :
  I0 Tryz.prog 154 #[Ip A P.length aU funcs,exV 3 0 0 0 K ks.len cap,I J vars] w (d9 (aK P funcs ks 3 0 vars) w):=by
 have fF:cap<=9223372036854775807:=by unfold I2 at hcm;omega
 have wU:aU<=9223372036854775807:=by unfold I2 at jL;omega
 have hls:=Es.aF ks;obtain⟨b',o',hK,hks⟩:=hKs;have gI:=aj hks;clear hks;have rX:=aj kJ;clear kJ;obtain⟨F,hF⟩:=aD (aK P funcs ks 3 0 vars)
 have HF:=aj hF;rw[<-hF];clear hF;have l1:((ks.len:Int)==2)=true:=by simp;omega
 have l2:((ks.len:Int) != 2)=false:=by simp;omega
 have hkl:ks.len<=2:=ah;have HL:=aj hl;clear hl;go_enter func154,ntmps154;go_wp2
 go_loopw [156] (λi wr=>∃ (j:Nat) (es':Es),i=I J (j:Int)/\j+es'.len=ks.len/\ak (aK P funcs es' 3 j vars=F)/\ak (es'.size<=ks.size/\es'.depth<=ks.depth)/\ak (au wr w.heap.size 209 [V A P.length aU,I J funcs])/\ak (au wr (w.heap.size+1) 33 [I J 3,I J 0,I J 0,I J 0,V K ks.len cap])/\ak (aI wr B es' b' (o'+j*5))/\ak (Ix w.heap.size w wr)) (λi _=>ks.len - (intOf i).toNat)
 case atStart=>
  obtain⟨q1,q2,q3⟩:=gy w 209 33 [V A P.length aU,I J funcs] [I J 3,I J 0,I J 0,I J 0,V K ks.len cap];exact⟨0,ks,bE,ah,HF.o.symm,⟨Jn _,Jn _⟩,q1,q2,by show aI _ _ _ _ _;rw[Mn,Mm];exact gI.o.below (q3.mono hB),q3⟩
 case round=>
  obtain⟨j,es',rfl,hj,hy,hsz,gX,fH,HE,HB⟩:=hrel;cases es' with
  | nil=>
   simp only[Es.len] at hj;go_wp2;go_ret;have:=hy.o;simp only[aK] at this;exact⟨aG this,HB.o⟩
  | cons kk n' p' c' aY r=>
   simp only[Es.len] at hj;have hK:=hK ah;subst hK;obtain⟨hel,hr⟩:=HE.o;have HR:=aj hr;obtain⟨lD,c0,c1,c2,c3,K',bB,b2,o2,c4,hc2,hcm2,hK2,dS⟩:=hel;have oM:ak (bJ wr B aY K'):=⟨b2,o2,hK2,dS⟩
   have hrs:ak ((r.size<=ks.size/\r.depth<=ks.depth)/\aY.size<ks.size/\aY.depth+1<=ks.depth):=by
    have:=hsz.o;simp only[Es.size,Es.depth] at this;exact⟨⟨ah,ah⟩,ah,ah⟩
   have a0:wr.cell? ⟨w.heap.size,0,U⟩=M (V A P.length aU):=ay gX.o
   have a1:wr.cell? ⟨w.heap.size,1,U⟩=M (I J funcs):=ay gX.o
   have a2:wr.cell? ⟨w.heap.size+1,0,U⟩=M (I J 3):=ay fH.o
   have a3:=gX.o.lt;have a4:=fH.o.lt;have hbr:b'<wr.heap.size:=ah;clear hr HE dS;have xK:ak (bQ 3 vars j=vars):=eD ah;go_wp2_with fail;refine (IH.o aY (by have:=hrs.o;omega) kk n' p' c' K' bB B A aU vars funcs _ (oM.o.below (by have:=HB.o.size;go_grown)) hc2 hcm2 (rX.o.below ((HB.o.mono hB).trans (by have:=HB.o.size;go_grown))) nV jL (by have:=HB.o.size;simp;omega) f0 f1 ah (by have:=hrs.o;omega) (by have:=hrs.o;omega)).mono ?_;rintro e w2 ⟨rfl,hb2⟩
   have hb3:Ix wr.heap.size wr w2:=Below.trans aV (hb2.mono (by simp));have gY:ak (aI w2 B r b' (o'+(j+1)*5)):=by
    have:=HR.o.below (hb3.mono (by have:=HB.o.size;omega))
    rwa [show o'+j*5+5=o'+(j+1)*5 by omega] at this
   have HB2:=aj (aH HB.o hb3);have kY:=aj (gX.o.next hb3);have nO:=aj (fH.o.next hb3);have f_:=hy.o;simp only[aK] at f_;rw[xK.o] at f_;generalize (bL P funcs vars kk n' p' c' aY.len&&aK P funcs aY kk 0 vars)=bb at f_ ⊢;have jT:=aj f_;clear hb2 hb3 HR f_ gX fH oM HB a0 a1 a2 a3 a4 c0 c1 c2 c3 c4;cases bb
   ·have iD:ak (F=false):=by have:=jT.o;rw[Xs] at this;exact this.symm
    go_wp2;go_ret;exact⟨aG iD.o.symm,HB2.o⟩
   ·have iD:ak (aK P funcs r 3 (j+1) vars=F):=by have:=jT.o;rw[Ys] at this;exact this
    go_wp2
    go_roundw
    case rel=>exact⟨j+1,r,bE,ah,iD,hrs.o.1,kY,nO,gY,HB2⟩
    case measure=>simp[intOf];omega
theorem Np(P:List Fn)(m:Nat)(ks:Es)(IH:ak (∀ (ks:Es),ks.size<m->vN P ks))(hm:ks.size<m+1)(K:Option I3)(cap B:Nat)(A:Option I3)(aU:Nat)(vars funcs:Int)(w:Iv)(hKs:bJ w B ks K)(_hc:ks.len<=cap)(hcm:cap<=I2)(kJ:eP w B P A)(nV:P.length<=aU)(jL:aU<=I2)(hB:B<=w.heap.size)(f0:0<=funcs)(f1:funcs<=P.length)(v0:0<=vars)(v1:vars+ks.depth<=2000000)(hsz0:ks.size<=1048576)(hl:ks.len=2) :
  I0 Tryz.prog 154 #[Ip A P.length aU funcs,exV 4 0 0 0 K ks.len cap,I J vars] w (d9 (aK P funcs ks 4 0 vars) w):=by
 have fF:cap<=9223372036854775807:=by unfold I2 at hcm;omega
 have wU:aU<=9223372036854775807:=by unfold I2 at jL;omega
 have hls:=Es.aF ks;obtain⟨b',o',hK,hks⟩:=hKs;have gI:=aj hks;clear hks;have rX:=aj kJ;clear kJ;obtain⟨F,hF⟩:=aD (aK P funcs ks 4 0 vars)
 have HF:=aj hF;rw[<-hF];clear hF;have l1:((ks.len:Int)==2)=true:=by simp;omega
 have l2:((ks.len:Int) != 2)=false:=by simp;omega
 have hkl:ks.len<=2:=ah;have HL:=aj hl;clear hl;go_enter func154,ntmps154;go_wp2
 go_loopw [156] (λi wr=>∃ (j:Nat) (es':Es),i=I J (j:Int)/\j+es'.len=ks.len/\ak (aK P funcs es' 4 j vars=F)/\ak (es'.size<=ks.size/\es'.depth<=ks.depth)/\ak (au wr w.heap.size 209 [V A P.length aU,I J funcs])/\ak (au wr (w.heap.size+1) 33 [I J 4,I J 0,I J 0,I J 0,V K ks.len cap])/\ak (aI wr B es' b' (o'+j*5))/\ak (Ix w.heap.size w wr)) (λi _=>ks.len - (intOf i).toNat)
 case atStart=>
  obtain⟨q1,q2,q3⟩:=gy w 209 33 [V A P.length aU,I J funcs] [I J 4,I J 0,I J 0,I J 0,V K ks.len cap];exact⟨0,ks,bE,ah,HF.o.symm,⟨Jn _,Jn _⟩,q1,q2,by show aI _ _ _ _ _;rw[Mn,Mm];exact gI.o.below (q3.mono hB),q3⟩
 case round=>
  obtain⟨j,es',rfl,hj,hy,hsz,gX,fH,HE,HB⟩:=hrel;cases es' with
  | nil=>
   simp only[Es.len] at hj;go_wp2;go_ret;have:=hy.o;simp only[aK] at this;exact⟨aG this,HB.o⟩
  | cons kk n' p' c' aY r=>
   simp only[Es.len] at hj;have hK:=hK ah;subst hK;obtain⟨hel,hr⟩:=HE.o;have HR:=aj hr;obtain⟨lD,c0,c1,c2,c3,K',bB,b2,o2,c4,hc2,hcm2,hK2,dS⟩:=hel;have oM:ak (bJ wr B aY K'):=⟨b2,o2,hK2,dS⟩
   have hrs:ak ((r.size<=ks.size/\r.depth<=ks.depth)/\aY.size<ks.size/\aY.depth+1<=ks.depth):=by
    have:=hsz.o;simp only[Es.size,Es.depth] at this;exact⟨⟨ah,ah⟩,ah,ah⟩
   have a0:wr.cell? ⟨w.heap.size,0,U⟩=M (V A P.length aU):=ay gX.o
   have a1:wr.cell? ⟨w.heap.size,1,U⟩=M (I J funcs):=ay gX.o
   have a2:wr.cell? ⟨w.heap.size+1,0,U⟩=M (I J 4):=ay fH.o
   have a3:=gX.o.lt;have a4:=fH.o.lt;have hbr:b'<wr.heap.size:=ah;clear hr HE dS;have xK:ak (bQ 4 vars j=vars):=eD ah;go_wp2_with fail;refine (IH.o aY (by have:=hrs.o;omega) kk n' p' c' K' bB B A aU vars funcs _ (oM.o.below (by have:=HB.o.size;go_grown)) hc2 hcm2 (rX.o.below ((HB.o.mono hB).trans (by have:=HB.o.size;go_grown))) nV jL (by have:=HB.o.size;simp;omega) f0 f1 ah (by have:=hrs.o;omega) (by have:=hrs.o;omega)).mono ?_;rintro e w2 ⟨rfl,hb2⟩
   have hb3:Ix wr.heap.size wr w2:=Below.trans aV (hb2.mono (by simp));have gY:ak (aI w2 B r b' (o'+(j+1)*5)):=by
    have:=HR.o.below (hb3.mono (by have:=HB.o.size;omega))
    rwa [show o'+j*5+5=o'+(j+1)*5 by omega] at this
   have HB2:=aj (aH HB.o hb3);have kY:=aj (gX.o.next hb3);have nO:=aj (fH.o.next hb3);have f_:=hy.o;simp only[aK] at f_;rw[xK.o] at f_;generalize (bL P funcs vars kk n' p' c' aY.len&&aK P funcs aY kk 0 vars)=bb at f_ ⊢;have jT:=aj f_;clear hb2 hb3 HR f_ gX fH oM HB a0 a1 a2 a3 a4 c0 c1 c2 c3 c4;cases bb
   ·have iD:ak (F=false):=by have:=jT.o;rw[Xs] at this;exact this.symm
    go_wp2;go_ret;exact⟨aG iD.o.symm,HB2.o⟩
   ·have iD:ak (aK P funcs r 4 (j+1) vars=F):=by have:=jT.o;rw[Ys] at this;exact this
    go_wp2
    go_roundw
    case rel=>exact⟨j+1,r,bE,ah,iD,hrs.o.1,kY,nO,gY,HB2⟩
    case measure=>simp[intOf];omega
theorem Nq(P:List Fn)(m:Nat)(ks:Es)(IH:ak (∀ (ks:Es),ks.size<m->vN P ks))(hm:ks.size<m+1)(K:Option I3)(cap B:Nat)(A:Option I3)(aU:Nat)(vars funcs:Int)(w:Iv)(hKs:bJ w B ks K)(_hc:ks.len<=cap)(hcm:cap<=I2)(kJ:eP w B P A)(nV:P.length<=aU)(jL:aU<=I2)(hB:B<=w.heap.size)(f0:0<=funcs)(f1:funcs<=P.length)(v0:0<=vars)(v1:vars+ks.depth<=2000000)(hsz0:ks.size<=1048576)(hl:ks.len=2) :
  I0 Tryz.prog 154 #[Ip A P.length aU funcs,exV 5 0 0 0 K ks.len cap,I J vars] w (d9 (aK P funcs ks 5 0 vars) w):=by
 have fF:cap<=9223372036854775807:=by unfold I2 at hcm;omega
 have wU:aU<=9223372036854775807:=by unfold I2 at jL;omega
 have hls:=Es.aF ks;obtain⟨b',o',hK,hks⟩:=hKs;have gI:=aj hks;clear hks;have rX:=aj kJ;clear kJ;obtain⟨F,hF⟩:=aD (aK P funcs ks 5 0 vars)
 have HF:=aj hF;rw[<-hF];clear hF;have l1:((ks.len:Int)==2)=true:=by simp;omega
 have l2:((ks.len:Int) != 2)=false:=by simp;omega
 have hkl:ks.len<=2:=ah;have HL:=aj hl;clear hl;go_enter func154,ntmps154;go_wp2
 go_loopw [156] (λi wr=>∃ (j:Nat) (es':Es),i=I J (j:Int)/\j+es'.len=ks.len/\ak (aK P funcs es' 5 j vars=F)/\ak (es'.size<=ks.size/\es'.depth<=ks.depth)/\ak (au wr w.heap.size 209 [V A P.length aU,I J funcs])/\ak (au wr (w.heap.size+1) 33 [I J 5,I J 0,I J 0,I J 0,V K ks.len cap])/\ak (aI wr B es' b' (o'+j*5))/\ak (Ix w.heap.size w wr)) (λi _=>ks.len - (intOf i).toNat)
 case atStart=>
  obtain⟨q1,q2,q3⟩:=gy w 209 33 [V A P.length aU,I J funcs] [I J 5,I J 0,I J 0,I J 0,V K ks.len cap];exact⟨0,ks,bE,ah,HF.o.symm,⟨Jn _,Jn _⟩,q1,q2,by show aI _ _ _ _ _;rw[Mn,Mm];exact gI.o.below (q3.mono hB),q3⟩
 case round=>
  obtain⟨j,es',rfl,hj,hy,hsz,gX,fH,HE,HB⟩:=hrel;cases es' with
  | nil=>
   simp only[Es.len] at hj;go_wp2;go_ret;have:=hy.o;simp only[aK] at this;exact⟨aG this,HB.o⟩
  | cons kk n' p' c' aY r=>
   simp only[Es.len] at hj;have hK:=hK ah;subst hK;obtain⟨hel,hr⟩:=HE.o;have HR:=aj hr;obtain⟨lD,c0,c1,c2,c3,K',bB,b2,o2,c4,hc2,hcm2,hK2,dS⟩:=hel;have oM:ak (bJ wr B aY K'):=⟨b2,o2,hK2,dS⟩
   have hrs:ak ((r.size<=ks.size/\r.depth<=ks.depth)/\aY.size<ks.size/\aY.depth+1<=ks.depth):=by
    have:=hsz.o;simp only[Es.size,Es.depth] at this;exact⟨⟨ah,ah⟩,ah,ah⟩
   have a0:wr.cell? ⟨w.heap.size,0,U⟩=M (V A P.length aU):=ay gX.o
   have a1:wr.cell? ⟨w.heap.size,1,U⟩=M (I J funcs):=ay gX.o
   have a2:wr.cell? ⟨w.heap.size+1,0,U⟩=M (I J 5):=ay fH.o
   have a3:=gX.o.lt;have a4:=fH.o.lt;have hbr:b'<wr.heap.size:=ah;clear hr HE dS;have xK:ak (bQ 5 vars j=vars):=eD ah;go_wp2_with fail;refine (IH.o aY (by have:=hrs.o;omega) kk n' p' c' K' bB B A aU vars funcs _ (oM.o.below (by have:=HB.o.size;go_grown)) hc2 hcm2 (rX.o.below ((HB.o.mono hB).trans (by have:=HB.o.size;go_grown))) nV jL (by have:=HB.o.size;simp;omega) f0 f1 ah (by have:=hrs.o;omega) (by have:=hrs.o;omega)).mono ?_;rintro e w2 ⟨rfl,hb2⟩
   have hb3:Ix wr.heap.size wr w2:=Below.trans aV (hb2.mono (by simp));have gY:ak (aI w2 B r b' (o'+(j+1)*5)):=by
    have:=HR.o.below (hb3.mono (by have:=HB.o.size;omega))
    rwa [show o'+j*5+5=o'+(j+1)*5 by omega] at this
   have HB2:=aj (aH HB.o hb3);have kY:=aj (gX.o.next hb3);have nO:=aj (fH.o.next hb3);have f_:=hy.o;simp only[aK] at f_;rw[xK.o] at f_;generalize (bL P funcs vars kk n' p' c' aY.len&&aK P funcs aY kk 0 vars)=bb at f_ ⊢;have jT:=aj f_;clear hb2 hb3 HR f_ gX fH oM HB a0 a1 a2 a3 a4 c0 c1 c2 c3 c4;cases bb
   ·have iD:ak (F=false):=by have:=jT.o;rw[Xs] at this;exact this.symm
    go_wp2;go_ret;exact⟨aG iD.o.symm,HB2.o⟩
   ·have iD:ak (aK P funcs r 5 (j+1) vars=F):=by have:=jT.o;rw[Ys] at this;exact this
    go_wp2
    go_roundw
    case rel=>exact⟨j+1,r,bE,ah,iD,hrs.o.1,kY,nO,gY,HB2⟩
    case measure=>simp[intOf];omega
theorem Nr(P:List Fn)(m:Nat)(ks:Es)(IH:ak (∀ (ks:Es),ks.size<m->vN P ks))(hm:ks.size<m+1)(K:Option I3)(cap B:Nat)(A:Option I3)(aU:Nat)(vars funcs:Int)(w:Iv)(hKs:bJ w B ks K)(_hc:ks.len<=cap)(hcm:cap<=I2)(kJ:eP w B P A)(nV:P.length<=aU)(jL:aU<=I2)(hB:B<=w.heap.size)(f0:0<=funcs)(f1:funcs<=P.length)(v0:0<=vars)(v1:vars+ks.depth<=2000000)(hsz0:ks.size<=1048576)(hl:ks.len=2) :
  I0 Tryz.prog 154 #[Ip A P.length aU funcs,exV 6 0 0 0 K ks.len cap,I J vars] w (d9 (aK P funcs ks 6 0 vars) w):=by
 have fF:cap<=9223372036854775807:=by unfold I2 at hcm;omega
 have wU:aU<=9223372036854775807:=by unfold I2 at jL;omega
 have hls:=Es.aF ks;obtain⟨b',o',hK,hks⟩:=hKs;have gI:=aj hks;clear hks;have rX:=aj kJ;clear kJ;obtain⟨F,hF⟩:=aD (aK P funcs ks 6 0 vars)
 have HF:=aj hF;rw[<-hF];clear hF;have l1:((ks.len:Int)==2)=true:=by simp;omega
 have l2:((ks.len:Int) != 2)=false:=by simp;omega
 have hkl:ks.len<=2:=ah;have HL:=aj hl;clear hl;go_enter func154,ntmps154;go_wp2
 go_loopw [156] (λi wr=>∃ (j:Nat) (es':Es),i=I J (j:Int)/\j+es'.len=ks.len/\ak (aK P funcs es' 6 j vars=F)/\ak (es'.size<=ks.size/\es'.depth<=ks.depth)/\ak (au wr w.heap.size 209 [V A P.length aU,I J funcs])/\ak (au wr (w.heap.size+1) 33 [I J 6,I J 0,I J 0,I J 0,V K ks.len cap])/\ak (aI wr B es' b' (o'+j*5))/\ak (Ix w.heap.size w wr)) (λi _=>ks.len - (intOf i).toNat)
 case atStart=>
  obtain⟨q1,q2,q3⟩:=gy w 209 33 [V A P.length aU,I J funcs] [I J 6,I J 0,I J 0,I J 0,V K ks.len cap];exact⟨0,ks,bE,ah,HF.o.symm,⟨Jn _,Jn _⟩,q1,q2,by show aI _ _ _ _ _;rw[Mn,Mm];exact gI.o.below (q3.mono hB),q3⟩
 case round=>
  obtain⟨j,es',rfl,hj,hy,hsz,gX,fH,HE,HB⟩:=hrel;cases es' with
  | nil=>
   simp only[Es.len] at hj;go_wp2;go_ret;have:=hy.o;simp only[aK] at this;exact⟨aG this,HB.o⟩
  | cons kk n' p' c' aY r=>
   simp only[Es.len] at hj;have hK:=hK ah;subst hK;obtain⟨hel,hr⟩:=HE.o;have HR:=aj hr;obtain⟨lD,c0,c1,c2,c3,K',bB,b2,o2,c4,hc2,hcm2,hK2,dS⟩:=hel;have oM:ak (bJ wr B aY K'):=⟨b2,o2,hK2,dS⟩
   have hrs:ak ((r.size<=ks.size/\r.depth<=ks.depth)/\aY.size<ks.size/\aY.depth+1<=ks.depth):=by
    have:=hsz.o;simp only[Es.size,Es.depth] at this;exact⟨⟨ah,ah⟩,ah,ah⟩
   have a0:wr.cell? ⟨w.heap.size,0,U⟩=M (V A P.length aU):=ay gX.o
   have a1:wr.cell? ⟨w.heap.size,1,U⟩=M (I J funcs):=ay gX.o
   have a2:wr.cell? ⟨w.heap.size+1,0,U⟩=M (I J 6):=ay fH.o
   have a3:=gX.o.lt;have a4:=fH.o.lt;have hbr:b'<wr.heap.size:=ah;clear hr HE dS;have xK:ak (bQ 6 vars j=vars):=eD ah;go_wp2_with fail;refine (IH.o aY (by have:=hrs.o;omega) kk n' p' c' K' bB B A aU vars funcs _ (oM.o.below (by have:=HB.o.size;go_grown)) hc2 hcm2 (rX.o.below ((HB.o.mono hB).trans (by have:=HB.o.size;go_grown))) nV jL (by have:=HB.o.size;simp;omega) f0 f1 ah (by have:=hrs.o;omega) (by have:=hrs.o;omega)).mono ?_;rintro e w2 ⟨rfl,hb2⟩
   have hb3:Ix wr.heap.size wr w2:=Below.trans aV (hb2.mono (by simp));have gY:ak (aI w2 B r b' (o'+(j+1)*5)):=by
    have:=HR.o.below (hb3.mono (by have:=HB.o.size;omega))
    rwa [show o'+j*5+5=o'+(j+1)*5 by omega] at this
   have HB2:=aj (aH HB.o hb3);have kY:=aj (gX.o.next hb3);have nO:=aj (fH.o.next hb3);have f_:=hy.o;simp only[aK] at f_;rw[xK.o] at f_;generalize (bL P funcs vars kk n' p' c' aY.len&&aK P funcs aY kk 0 vars)=bb at f_ ⊢;have jT:=aj f_;clear hb2 hb3 HR f_ gX fH oM HB a0 a1 a2 a3 a4 c0 c1 c2 c3 c4;cases bb
   ·have iD:ak (F=false):=by have:=jT.o;rw[Xs] at this;exact this.symm
    go_wp2;go_ret;exact⟨aG iD.o.symm,HB2.o⟩
   ·have iD:ak (aK P funcs r 6 (j+1) vars=F):=by have:=jT.o;rw[Ys] at this;exact this
    go_wp2
    go_roundw
    case rel=>exact⟨j+1,r,bE,ah,iD,hrs.o.1,kY,nO,gY,HB2⟩
    case measure=>simp[intOf];omega
theorem Ns(P:List Fn)(m:Nat)(ks:Es)(IH:ak (∀ (ks:Es),ks.size<m->vN P ks))(hm:ks.size<m+1)(K:Option I3)(cap B:Nat)(A:Option I3)(aU:Nat)(vars funcs:Int)(w:Iv)(hKs:bJ w B ks K)(_hc:ks.len<=cap)(hcm:cap<=I2)(kJ:eP w B P A)(nV:P.length<=aU)(jL:aU<=I2)(hB:B<=w.heap.size)(f0:0<=funcs)(f1:funcs<=P.length)(v0:0<=vars)(v1:vars+ks.depth<=2000000)(hsz0:ks.size<=1048576)(hl:ks.len=1) :
  I0 Tryz.prog 154 #[Ip A P.length aU funcs,exV 7 0 0 0 K ks.len cap,I J vars] w (d9 (aK P funcs ks 7 0 vars) w):=by
 have fF:cap<=9223372036854775807:=by unfold I2 at hcm;omega
 have wU:aU<=9223372036854775807:=by unfold I2 at jL;omega
 have hls:=Es.aF ks;obtain⟨b',o',hK,hks⟩:=hKs;have gI:=aj hks;clear hks;have rX:=aj kJ;clear kJ;obtain⟨F,hF⟩:=aD (aK P funcs ks 7 0 vars)
 have HF:=aj hF;rw[<-hF];clear hF;have l1:((ks.len:Int)==1)=true:=by simp;omega
 have l2:((ks.len:Int) != 1)=false:=by simp;omega
 have hkl:ks.len<=1:=ah;have HL:=aj hl;clear hl;go_enter func154,ntmps154;go_wp2
 go_loopw [156] (λi wr=>∃ (j:Nat) (es':Es),i=I J (j:Int)/\j+es'.len=ks.len/\ak (aK P funcs es' 7 j vars=F)/\ak (es'.size<=ks.size/\es'.depth<=ks.depth)/\ak (au wr w.heap.size 209 [V A P.length aU,I J funcs])/\ak (au wr (w.heap.size+1) 33 [I J 7,I J 0,I J 0,I J 0,V K ks.len cap])/\ak (aI wr B es' b' (o'+j*5))/\ak (Ix w.heap.size w wr)) (λi _=>ks.len - (intOf i).toNat)
 case atStart=>
  obtain⟨q1,q2,q3⟩:=gy w 209 33 [V A P.length aU,I J funcs] [I J 7,I J 0,I J 0,I J 0,V K ks.len cap];exact⟨0,ks,bE,ah,HF.o.symm,⟨Jn _,Jn _⟩,q1,q2,by show aI _ _ _ _ _;rw[Mn,Mm];exact gI.o.below (q3.mono hB),q3⟩
 case round=>
  obtain⟨j,es',rfl,hj,hy,hsz,gX,fH,HE,HB⟩:=hrel;cases es' with
  | nil=>
   simp only[Es.len] at hj;go_wp2;go_ret;have:=hy.o;simp only[aK] at this;exact⟨aG this,HB.o⟩
  | cons kk n' p' c' aY r=>
   simp only[Es.len] at hj;have hK:=hK ah;subst hK;obtain⟨hel,hr⟩:=HE.o;have HR:=aj hr;obtain⟨lD,c0,c1,c2,c3,K',bB,b2,o2,c4,hc2,hcm2,hK2,dS⟩:=hel;have oM:ak (bJ wr B aY K'):=⟨b2,o2,hK2,dS⟩
   have hrs:ak ((r.size<=ks.size/\r.depth<=ks.depth)/\aY.size<ks.size/\aY.depth+1<=ks.depth):=by
    have:=hsz.o;simp only[Es.size,Es.depth] at this;exact⟨⟨ah,ah⟩,ah,ah⟩
   have a0:wr.cell? ⟨w.heap.size,0,U⟩=M (V A P.length aU):=ay gX.o
   have a1:wr.cell? ⟨w.heap.size,1,U⟩=M (I J funcs):=ay gX.o
   have a2:wr.cell? ⟨w.heap.size+1,0,U⟩=M (I J 7):=ay fH.o
   have a3:=gX.o.lt;have a4:=fH.o.lt;have hbr:b'<wr.heap.size:=ah;clear hr HE dS;have xK:ak (bQ 7 vars j=vars):=eD ah;go_wp2_with fail;refine (IH.o aY (by have:=hrs.o;omega) kk n' p' c' K' bB B A aU vars funcs _ (oM.o.below (by have:=HB.o.size;go_grown)) hc2 hcm2 (rX.o.below ((HB.o.mono hB).trans (by have:=HB.o.size;go_grown))) nV jL (by have:=HB.o.size;simp;omega) f0 f1 ah (by have:=hrs.o;omega) (by have:=hrs.o;omega)).mono ?_;rintro e w2 ⟨rfl,hb2⟩
   have hb3:Ix wr.heap.size wr w2:=Below.trans aV (hb2.mono (by simp));have gY:ak (aI w2 B r b' (o'+(j+1)*5)):=by
    have:=HR.o.below (hb3.mono (by have:=HB.o.size;omega))
    rwa [show o'+j*5+5=o'+(j+1)*5 by omega] at this
   have HB2:=aj (aH HB.o hb3);have kY:=aj (gX.o.next hb3);have nO:=aj (fH.o.next hb3);have f_:=hy.o;simp only[aK] at f_;rw[xK.o] at f_;generalize (bL P funcs vars kk n' p' c' aY.len&&aK P funcs aY kk 0 vars)=bb at f_ ⊢;have jT:=aj f_;clear hb2 hb3 HR f_ gX fH oM HB a0 a1 a2 a3 a4 c0 c1 c2 c3 c4;cases bb
   ·have iD:ak (F=false):=by have:=jT.o;rw[Xs] at this;exact this.symm
    go_wp2;go_ret;exact⟨aG iD.o.symm,HB2.o⟩
   ·have iD:ak (aK P funcs r 7 (j+1) vars=F):=by have:=jT.o;rw[Ys] at this;exact this
    go_wp2
    go_roundw
    case rel=>exact⟨j+1,r,bE,ah,iD,hrs.o.1,kY,nO,gY,HB2⟩
    case measure=>simp[intOf];omega
theorem Nt(P:List Fn)(m:Nat)(ks:Es)(IH:ak (∀ (ks:Es),ks.size<m->vN P ks))(hm:ks.size<m+1)(K:Option I3)(cap B:Nat)(A:Option I3)(aU:Nat)(vars funcs:Int)(w:Iv)(hKs:bJ w B ks K)(_hc:ks.len<=cap)(hcm:cap<=I2)(kJ:eP w B P A)(nV:P.length<=aU)(jL:aU<=I2)(hB:B<=w.heap.size)(f0:0<=funcs)(f1:funcs<=P.length)(v0:0<=vars)(v1:vars+ks.depth<=2000000)(hsz0:ks.size<=1048576)(hl:ks.len=3) :
  I0 Tryz.prog 154 #[Ip A P.length aU funcs,exV 8 0 0 0 K ks.len cap,I J vars] w (d9 (aK P funcs ks 8 0 vars) w):=by
 have fF:cap<=9223372036854775807:=by unfold I2 at hcm;omega
 have wU:aU<=9223372036854775807:=by unfold I2 at jL;omega
 have hls:=Es.aF ks;obtain⟨b',o',hK,hks⟩:=hKs;have gI:=aj hks;clear hks;have rX:=aj kJ;clear kJ;obtain⟨F,hF⟩:=aD (aK P funcs ks 8 0 vars)
 have HF:=aj hF;rw[<-hF];clear hF;have l1:((ks.len:Int)==3)=true:=by simp;omega
 have l2:((ks.len:Int) != 3)=false:=by simp;omega
 have hkl:ks.len<=3:=ah;have HL:=aj hl;clear hl;go_enter func154,ntmps154;go_wp2
 go_loopw [156] (λi wr=>∃ (j:Nat) (es':Es),i=I J (j:Int)/\j+es'.len=ks.len/\ak (aK P funcs es' 8 j vars=F)/\ak (es'.size<=ks.size/\es'.depth<=ks.depth)/\ak (au wr w.heap.size 209 [V A P.length aU,I J funcs])/\ak (au wr (w.heap.size+1) 33 [I J 8,I J 0,I J 0,I J 0,V K ks.len cap])/\ak (aI wr B es' b' (o'+j*5))/\ak (Ix w.heap.size w wr)) (λi _=>ks.len - (intOf i).toNat)
 case atStart=>
  obtain⟨q1,q2,q3⟩:=gy w 209 33 [V A P.length aU,I J funcs] [I J 8,I J 0,I J 0,I J 0,V K ks.len cap];exact⟨0,ks,bE,ah,HF.o.symm,⟨Jn _,Jn _⟩,q1,q2,by show aI _ _ _ _ _;rw[Mn,Mm];exact gI.o.below (q3.mono hB),q3⟩
 case round=>
  obtain⟨j,es',rfl,hj,hy,hsz,gX,fH,HE,HB⟩:=hrel;cases es' with
  | nil=>
   simp only[Es.len] at hj;go_wp2;go_ret;have:=hy.o;simp only[aK] at this;exact⟨aG this,HB.o⟩
  | cons kk n' p' c' aY r=>
   simp only[Es.len] at hj;have hK:=hK ah;subst hK;obtain⟨hel,hr⟩:=HE.o;have HR:=aj hr;obtain⟨lD,c0,c1,c2,c3,K',bB,b2,o2,c4,hc2,hcm2,hK2,dS⟩:=hel;have oM:ak (bJ wr B aY K'):=⟨b2,o2,hK2,dS⟩
   have hrs:ak ((r.size<=ks.size/\r.depth<=ks.depth)/\aY.size<ks.size/\aY.depth+1<=ks.depth):=by
    have:=hsz.o;simp only[Es.size,Es.depth] at this;exact⟨⟨ah,ah⟩,ah,ah⟩
   have a0:wr.cell? ⟨w.heap.size,0,U⟩=M (V A P.length aU):=ay gX.o
   have a1:wr.cell? ⟨w.heap.size,1,U⟩=M (I J funcs):=ay gX.o
   have a2:wr.cell? ⟨w.heap.size+1,0,U⟩=M (I J 8):=ay fH.o
   have a3:=gX.o.lt;have a4:=fH.o.lt;have hbr:b'<wr.heap.size:=ah;clear hr HE dS;have xK:ak (bQ 8 vars j=vars):=eD ah;go_wp2_with fail;refine (IH.o aY (by have:=hrs.o;omega) kk n' p' c' K' bB B A aU vars funcs _ (oM.o.below (by have:=HB.o.size;go_grown)) hc2 hcm2 (rX.o.below ((HB.o.mono hB).trans (by have:=HB.o.size;go_grown))) nV jL (by have:=HB.o.size;simp;omega) f0 f1 ah (by have:=hrs.o;omega) (by have:=hrs.o;omega)).mono ?_;rintro e w2 ⟨rfl,hb2⟩
   have hb3:Ix wr.heap.size wr w2:=Below.trans aV (hb2.mono (by simp));have gY:ak (aI w2 B r b' (o'+(j+1)*5)):=by
    have:=HR.o.below (hb3.mono (by have:=HB.o.size;omega))
    rwa [show o'+j*5+5=o'+(j+1)*5 by omega] at this
   have HB2:=aj (aH HB.o hb3);have kY:=aj (gX.o.next hb3);have nO:=aj (fH.o.next hb3);have f_:=hy.o;simp only[aK] at f_;rw[xK.o] at f_;generalize (bL P funcs vars kk n' p' c' aY.len&&aK P funcs aY kk 0 vars)=bb at f_ ⊢;have jT:=aj f_;clear hb2 hb3 HR f_ gX fH oM HB a0 a1 a2 a3 a4 c0 c1 c2 c3 c4;cases bb
   ·have iD:ak (F=false):=by have:=jT.o;rw[Xs] at this;exact this.symm
    go_wp2;go_ret;exact⟨aG iD.o.symm,HB2.o⟩
   ·have iD:ak (aK P funcs r 8 (j+1) vars=F):=by have:=jT.o;rw[Ys] at this;exact this
    go_wp2
    go_roundw
    case rel=>exact⟨j+1,r,bE,ah,iD,hrs.o.1,kY,nO,gY,HB2⟩
    case measure=>simp[intOf];omega
theorem Nu(P:List Fn)(m:Nat)(ks:Es)(IH:ak (∀ (ks:Es),ks.size<m->vN P ks))(hm:ks.size<m+1)(K:Option I3)(cap B:Nat)(A:Option I3)(aU:Nat)(vars funcs:Int)(w:Iv)(hKs:bJ w B ks K)(_hc:ks.len<=cap)(hcm:cap<=I2)(kJ:eP w B P A)(nV:P.length<=aU)(jL:aU<=I2)(hB:B<=w.heap.size)(f0:0<=funcs)(f1:funcs<=P.length)(v0:0<=vars)(v1:vars+ks.depth<=2000000)(hsz0:ks.size<=1048576)(hl:ks.len=2) :
  I0 Tryz.prog 154 #[Ip A P.length aU funcs,exV 9 0 0 0 K ks.len cap,I J vars] w (d9 (aK P funcs ks 9 0 vars) w):=by
 have fF:cap<=9223372036854775807:=by unfold I2 at hcm;omega
 have wU:aU<=9223372036854775807:=by unfold I2 at jL;omega
 have hls:=Es.aF ks;obtain⟨b',o',hK,hks⟩:=hKs;have gI:=aj hks;clear hks;have rX:=aj kJ;clear kJ;obtain⟨F,hF⟩:=aD (aK P funcs ks 9 0 vars)
 have HF:=aj hF;rw[<-hF];clear hF;have l1:((ks.len:Int)==2)=true:=by simp;omega
 have l2:((ks.len:Int) != 2)=false:=by simp;omega
 have hkl:ks.len<=2:=ah;have HL:=aj hl;clear hl;go_enter func154,ntmps154;go_wp2
 go_loopw [156] (λi wr=>∃ (j:Nat) (es':Es),i=I J (j:Int)/\j+es'.len=ks.len/\ak (aK P funcs es' 9 j vars=F)/\ak (es'.size<=ks.size/\es'.depth<=ks.depth)/\ak (au wr w.heap.size 209 [V A P.length aU,I J funcs])/\ak (au wr (w.heap.size+1) 33 [I J 9,I J 0,I J 0,I J 0,V K ks.len cap])/\ak (aI wr B es' b' (o'+j*5))/\ak (Ix w.heap.size w wr)) (λi _=>ks.len - (intOf i).toNat)
 case atStart=>
  obtain⟨q1,q2,q3⟩:=gy w 209 33 [V A P.length aU,I J funcs] [I J 9,I J 0,I J 0,I J 0,V K ks.len cap];exact⟨0,ks,bE,ah,HF.o.symm,⟨Jn _,Jn _⟩,q1,q2,by show aI _ _ _ _ _;rw[Mn,Mm];exact gI.o.below (q3.mono hB),q3⟩
 case round=>
  obtain⟨j,es',rfl,hj,hy,hsz,gX,fH,HE,HB⟩:=hrel;cases es' with
  | nil=>
   simp only[Es.len] at hj;go_wp2;go_ret;have:=hy.o;simp only[aK] at this;exact⟨aG this,HB.o⟩
  | cons kk n' p' c' aY r=>
   simp only[Es.len] at hj;have hK:=hK ah;subst hK;obtain⟨hel,hr⟩:=HE.o;have HR:=aj hr;obtain⟨lD,c0,c1,c2,c3,K',bB,b2,o2,c4,hc2,hcm2,hK2,dS⟩:=hel;have oM:ak (bJ wr B aY K'):=⟨b2,o2,hK2,dS⟩
   have hrs:ak ((r.size<=ks.size/\r.depth<=ks.depth)/\aY.size<ks.size/\aY.depth+1<=ks.depth):=by
    have:=hsz.o;simp only[Es.size,Es.depth] at this;exact⟨⟨ah,ah⟩,ah,ah⟩
   have a0:wr.cell? ⟨w.heap.size,0,U⟩=M (V A P.length aU):=ay gX.o
   have a1:wr.cell? ⟨w.heap.size,1,U⟩=M (I J funcs):=ay gX.o
   have a2:wr.cell? ⟨w.heap.size+1,0,U⟩=M (I J 9):=ay fH.o
   have a3:=gX.o.lt;have a4:=fH.o.lt;have hbr:b'<wr.heap.size:=ah;clear hr HE dS
   by_cases j1:j=1
   ·have xK:ak (bQ 9 vars j=vars+1):=by subst j1;rfl
    have e1:((j:Int)==1)=true:=by simp;omega
    clear j1;go_wp2_with fail;refine (IH.o aY (by have:=hrs.o;omega) kk n' p' c' K' bB B A aU (vars+1) funcs _ (oM.o.below (by have:=HB.o.size;go_grown)) hc2 hcm2 (rX.o.below ((HB.o.mono hB).trans (by have:=HB.o.size;go_grown))) nV jL (by have:=HB.o.size;simp;omega) f0 f1 ah (by have:=hrs.o;omega) (by have:=hrs.o;omega)).mono ?_;rintro e w2 ⟨rfl,hb2⟩;have hb3:Ix wr.heap.size wr w2:=Below.trans aV (hb2.mono (by simp))
    have gY:ak (aI w2 B r b' (o'+(j+1)*5)):=by
     have:=HR.o.below (hb3.mono (by have:=HB.o.size;omega))
     rwa [show o'+j*5+5=o'+(j+1)*5 by omega] at this
    have HB2:=aj (aH HB.o hb3);have kY:=aj (gX.o.next hb3);have nO:=aj (fH.o.next hb3);have f_:=hy.o;simp only[aK] at f_;rw[xK.o] at f_;generalize (bL P funcs (vars+1) kk n' p' c' aY.len&&aK P funcs aY kk 0 (vars+1))=bb at f_ ⊢;have jT:=aj f_;clear hb2 hb3 HR f_ gX fH oM HB a0 a1 a2 a3 a4 c0 c1 c2 c3 c4;cases bb
    ·have iD:ak (F=false):=by have:=jT.o;rw[Xs] at this;exact this.symm
     go_wp2;go_ret;exact⟨aG iD.o.symm,HB2.o⟩
    ·have iD:ak (aK P funcs r 9 (j+1) vars=F):=by have:=jT.o;rw[Ys] at this;exact this
     go_wp2
     go_roundw
     case rel=>exact⟨j+1,r,bE,ah,iD,hrs.o.1,kY,nO,gY,HB2⟩
     case measure=>simp[intOf];omega
   ·have xK:ak (bQ 9 vars j=vars):=wY j1
    have e1:((j:Int)==1)=false:=by simp;omega
    clear j1;go_wp2_with fail;refine (IH.o aY (by have:=hrs.o;omega) kk n' p' c' K' bB B A aU vars funcs _ (oM.o.below (by have:=HB.o.size;go_grown)) hc2 hcm2 (rX.o.below ((HB.o.mono hB).trans (by have:=HB.o.size;go_grown))) nV jL (by have:=HB.o.size;simp;omega) f0 f1 ah (by have:=hrs.o;omega) (by have:=hrs.o;omega)).mono ?_;rintro e w2 ⟨rfl,hb2⟩;have hb3:Ix wr.heap.size wr w2:=Below.trans aV (hb2.mono (by simp))
    have gY:ak (aI w2 B r b' (o'+(j+1)*5)):=by
     have:=HR.o.below (hb3.mono (by have:=HB.o.size;omega))
     rwa [show o'+j*5+5=o'+(j+1)*5 by omega] at this
    have HB2:=aj (aH HB.o hb3);have kY:=aj (gX.o.next hb3);have nO:=aj (fH.o.next hb3);have f_:=hy.o;simp only[aK] at f_;rw[xK.o] at f_;generalize (bL P funcs vars kk n' p' c' aY.len&&aK P funcs aY kk 0 vars)=bb at f_ ⊢;have jT:=aj f_;clear hb2 hb3 HR f_ gX fH oM HB a0 a1 a2 a3 a4 c0 c1 c2 c3 c4;cases bb
    ·have iD:ak (F=false):=by have:=jT.o;rw[Xs] at this;exact this.symm
     go_wp2;go_ret;exact⟨aG iD.o.symm,HB2.o⟩
    ·have iD:ak (aK P funcs r 9 (j+1) vars=F):=by have:=jT.o;rw[Ys] at this;exact this
     go_wp2
     go_roundw
     case rel=>exact⟨j+1,r,bE,ah,iD,hrs.o.1,kY,nO,gY,HB2⟩
     case measure=>simp[intOf];omega
theorem Js(P:List Fn)(m:Nat)(ks:Es)(IH:ak (∀ (ks:Es),ks.size<m->vN P ks))(hm:ks.size<m+1)(fi:Nat)(p c:Int)(K:Option I3)(cap B:Nat)(A:Option I3)(aU:Nat)(vars funcs:Int)(w:Iv)(hKs:bJ w B ks K)(_hc:ks.len<=cap)(hcm:cap<=I2)(kJ:eP w B P A)(nV:P.length<=aU)(jL:aU<=I2)(hB:B<=w.heap.size)(f0:0<=funcs)(f1:funcs<=P.length)(v0:0<=vars)(v1:vars+ks.depth<=2000000)(hsz0:ks.size<=1048576)(dh:bL P funcs vars 10 fi p c ks.len=true) :
  I0 Tryz.prog 154 #[Ip A P.length aU funcs,exV 10 fi p c K ks.len cap,I J vars] w (d9 (aK P funcs ks 10 0 vars) w):=by
 have fF:cap<=9223372036854775807:=by unfold I2 at hcm;omega
 have wU:aU<=9223372036854775807:=by unfold I2 at jL;omega
 have hls:=Es.aF ks;obtain⟨b',o',hK,hks⟩:=hKs;have gI:=aj hks;clear hks;have rX:=aj kJ;clear kJ;obtain⟨F,hF⟩:=aD (aK P funcs ks 10 0 vars)
 have HF:=aj hF;rw[<-hF];clear hF;have hn:fP fi 0 (funcs - 1)=true:=by
  cases h:fP fi 0 (funcs - 1)
  ·rw[qB ah h] at dh;cases dh
  ·rfl
 obtain⟨n0,n1⟩:=bH.1 hn;obtain⟨f,hf⟩:∃ f,P[fi]? = M f:=⟨P[fi]'ah,List.getElem?_eq_getElem _⟩
 have HN:=aj ((jk (vars:=vars) (p:=p) (c:=c) (len:=ks.len) (k:=10) ah (show P[(fi:Int).toNat]? = M f from hf) hn).symm.trans dh);obtain⟨bF,oF,rfl,hbF,g0,g1,_,KF,cF,g2,TB,zM,_⟩:=rX.o.get hf;have RA:cF<=9223372036854775807:=by unfold I2 at zM;omega
 have hl4:((f.outs.len:Nat):Int)<=9223372036854775807:=ah;have hl5:((ks.len:Nat):Int)<=9223372036854775807:=ah;have D6:=aj hn;have hbw:bF<w.heap.size:=ah;have D7:fi<P.length:=(List.getElem?_eq_some_iff.1 hf).1;have CZ:(fi:Int)<(P.length:Int):=ah;have HPP:ak (fP p 0 ((f.outs.len:Int) - 1)=true):=by
  have:=HN.o;rw[Mb,Mb] at this;exact this.1.2
 have Ij:ak ((ks.len:Int)=f.params):=by
  have:=HN.o;rw[Mb,Mb] at this;show _=_;exact of_decide_eq_true this.1.1
 have l1:((ks.len:Int)==f.params)=true:=by simpa using Ij.o
 have l2:((ks.len:Int) != f.params)=false:=by simpa using Ij.o
 have HC0:ak (c=0):=by
  have:=HN.o;rw[Mb] at this;show _=_;simpa using this.2
 obtain rfl:c=0:=HC0.o;clear dh hn hf;have key:p=0∨(p==0)=false:=by
  by_cases h:p=0
  ·exact .inl h
  ·exact .inr (by simpa using h)
 rcases key with rfl | P7
 ·go_enter func154,ntmps154
  go_wp2_with fail;refine (aT _ _ _ _).mono ?_;rintro e w' ⟨rfl,rfl⟩;rw[D6.o];go_wp2_with fail;refine (aT _ _ _ _).mono ?_;rintro e w' ⟨rfl,rfl⟩;rw[HPP.o];go_wp2;clear g0 g1 g2 l1 l2 D7 CZ hl4 hl5 n0 n1
  go_loopw [156] (λi wr=>∃ (j:Nat) (es':Es),i=I J (j:Int)/\j+es'.len=ks.len/\ak (aK P funcs es' 10 j vars=F)/\ak (es'.size<=ks.size/\es'.depth<=ks.depth)/\ak (au wr w.heap.size 209 [V (M ⟨bF,oF,U⟩) P.length aU,I J funcs])/\ak (au wr (w.heap.size+1) 33 [I J 10,I J fi,I J 0,I J 0,V K ks.len cap])/\ak (aI wr B es' b' (o'+j*5))/\ak (Ix w.heap.size w wr)) (λi _=>ks.len - (intOf i).toNat)
  case atStart=>
   obtain⟨q1,q2,q3⟩:=gy w 209 33 [V (M ⟨bF,oF,U⟩) P.length aU,I J funcs] [I J 10,I J fi,I J 0,I J 0,V K ks.len cap];have q4:Ix w.heap.size w (((w.alloc (Is [V (M ⟨bF,oF,U⟩) P.length aU,I J funcs].toArray 209)).alloc (Is [I J 10,I J fi,I J 0,I J 0,V K ks.len cap].toArray 33)).alloc (Is [Value.string f.name,I J f.params,V KF f.outs.len cF].toArray 146)):=aV
   exact⟨0,ks,bE,ah,HF.o.symm,⟨Jn _,Jn _⟩,q1.next aV,q2.next aV,by show aI _ _ _ _ _;rw[Mn,Mm];exact gI.o.below (q4.mono hB),q4⟩
  case round=>
   obtain⟨j,es',rfl,hj,hy,hsz,gX,fH,HE,HB⟩:=hrel;cases es' with
   | nil=>
    simp only[Es.len] at hj;go_wp2;go_ret;have:=hy.o;simp only[aK] at this;exact⟨aG this,HB.o⟩
   | cons kk n' p' c' aY r=>
    simp only[Es.len] at hj;have hK:=hK ah;subst hK;obtain⟨hel,hr⟩:=HE.o;have HR:=aj hr;obtain⟨lD,c0,c1,c2,c3,K',bB,b2,o2,c4,hc2,hcm2,hK2,dS⟩:=hel;have oM:ak (bJ wr B aY K'):=⟨b2,o2,hK2,dS⟩
    have hrs:ak ((r.size<=ks.size/\r.depth<=ks.depth)/\aY.size<ks.size/\aY.depth+1<=ks.depth):=by
     have:=hsz.o;simp only[Es.size,Es.depth] at this;exact⟨⟨ah,ah⟩,ah,ah⟩
    have a0:wr.cell? ⟨w.heap.size,0,U⟩=M (V (M ⟨bF,oF,U⟩) P.length aU):=ay gX.o
    have a1:wr.cell? ⟨w.heap.size,1,U⟩=M (I J funcs):=ay gX.o
    have a2:wr.cell? ⟨w.heap.size+1,0,U⟩=M (I J 10):=ay fH.o
    have a3:=gX.o.lt;have a4:=fH.o.lt;have hbr:b'<wr.heap.size:=ah;clear hr HE dS;have xK:ak (bQ 10 vars j=vars):=eD ah;go_wp2_with fail;refine (IH.o aY (by have:=hrs.o;omega) kk n' p' c' K' bB B (M ⟨bF,oF,U⟩) aU vars funcs _ (oM.o.below (by have:=HB.o.size;go_grown)) hc2 hcm2 (rX.o.below ((HB.o.mono hB).trans (by have:=HB.o.size;go_grown))) nV jL (by have:=HB.o.size;simp;omega) f0 f1 ah (by have:=hrs.o;omega) (by have:=hrs.o;omega)).mono ?_;rintro e w2 ⟨rfl,hb2⟩
    have hb3:Ix wr.heap.size wr w2:=Below.trans aV (hb2.mono (by simp));have gY:ak (aI w2 B r b' (o'+(j+1)*5)):=by
     have:=HR.o.below (hb3.mono (by have:=HB.o.size;omega))
     rwa [show o'+j*5+5=o'+(j+1)*5 by omega] at this
    have HB2:=aj (aH HB.o hb3);have kY:=aj (gX.o.next hb3);have nO:=aj (fH.o.next hb3);have f_:=hy.o;simp only[aK] at f_;rw[xK.o] at f_;generalize (bL P funcs vars kk n' p' c' aY.len&&aK P funcs aY kk 0 vars)=bb at f_ ⊢;have jT:=aj f_;clear hb2 hb3 HR f_ gX fH oM HB a0 a1 a2 a3 a4 c0 c1 c2 c3 c4;cases bb
    ·have iD:ak (F=false):=by have:=jT.o;rw[Xs] at this;exact this.symm
     go_wp2;go_ret;exact⟨aG iD.o.symm,HB2.o⟩
    ·have iD:ak (aK P funcs r 10 (j+1) vars=F):=by have:=jT.o;rw[Ys] at this;exact this
     go_wp2
     go_roundw
     case rel=>exact⟨j+1,r,bE,ah,iD,hrs.o.1,kY,nO,gY,HB2⟩
     case measure=>simp[intOf];omega
 ·go_enter func154,ntmps154
  go_wp2_with fail;refine (aT _ _ _ _).mono ?_;rintro e w' ⟨rfl,rfl⟩;rw[D6.o];go_wp2_with fail;refine (aT _ _ _ _).mono ?_;rintro e w' ⟨rfl,rfl⟩;rw[HPP.o];go_wp2;clear g0 g1 g2 l1 l2 D7 CZ hl4 hl5 n0 n1
  go_loopw [156] (λi wr=>∃ (j:Nat) (es':Es),i=I J (j:Int)/\j+es'.len=ks.len/\ak (aK P funcs es' 10 j vars=F)/\ak (es'.size<=ks.size/\es'.depth<=ks.depth)/\ak (au wr w.heap.size 209 [V (M ⟨bF,oF,U⟩) P.length aU,I J funcs])/\ak (au wr (w.heap.size+1) 33 [I J 10,I J fi,I J p,I J 0,V K ks.len cap])/\ak (aI wr B es' b' (o'+j*5))/\ak (Ix w.heap.size w wr)) (λi _=>ks.len - (intOf i).toNat)
  case atStart=>
   obtain⟨q1,q2,q3⟩:=gy w 209 33 [V (M ⟨bF,oF,U⟩) P.length aU,I J funcs] [I J 10,I J fi,I J p,I J 0,V K ks.len cap];have q4:Ix w.heap.size w (((w.alloc (Is [V (M ⟨bF,oF,U⟩) P.length aU,I J funcs].toArray 209)).alloc (Is [I J 10,I J fi,I J p,I J 0,V K ks.len cap].toArray 33)).alloc (Is [Value.string f.name,I J f.params,V KF f.outs.len cF].toArray 146)):=aV
   exact⟨0,ks,bE,ah,HF.o.symm,⟨Jn _,Jn _⟩,q1.next aV,q2.next aV,by show aI _ _ _ _ _;rw[Mn,Mm];exact gI.o.below (q4.mono hB),q4⟩
  case round=>
   obtain⟨j,es',rfl,hj,hy,hsz,gX,fH,HE,HB⟩:=hrel;cases es' with
   | nil=>
    simp only[Es.len] at hj;go_wp2;go_ret;have:=hy.o;simp only[aK] at this;exact⟨aG this,HB.o⟩
   | cons kk n' p' c' aY r=>
    simp only[Es.len] at hj;have hK:=hK ah;subst hK;obtain⟨hel,hr⟩:=HE.o;have HR:=aj hr;obtain⟨lD,c0,c1,c2,c3,K',bB,b2,o2,c4,hc2,hcm2,hK2,dS⟩:=hel;have oM:ak (bJ wr B aY K'):=⟨b2,o2,hK2,dS⟩
    have hrs:ak ((r.size<=ks.size/\r.depth<=ks.depth)/\aY.size<ks.size/\aY.depth+1<=ks.depth):=by
     have:=hsz.o;simp only[Es.size,Es.depth] at this;exact⟨⟨ah,ah⟩,ah,ah⟩
    have a0:wr.cell? ⟨w.heap.size,0,U⟩=M (V (M ⟨bF,oF,U⟩) P.length aU):=ay gX.o
    have a1:wr.cell? ⟨w.heap.size,1,U⟩=M (I J funcs):=ay gX.o
    have a2:wr.cell? ⟨w.heap.size+1,0,U⟩=M (I J 10):=ay fH.o
    have a3:=gX.o.lt;have a4:=fH.o.lt;have hbr:b'<wr.heap.size:=ah;clear hr HE dS;have xK:ak (bQ 10 vars j=vars):=eD ah;go_wp2_with fail;refine (IH.o aY (by have:=hrs.o;omega) kk n' p' c' K' bB B (M ⟨bF,oF,U⟩) aU vars funcs _ (oM.o.below (by have:=HB.o.size;go_grown)) hc2 hcm2 (rX.o.below ((HB.o.mono hB).trans (by have:=HB.o.size;go_grown))) nV jL (by have:=HB.o.size;simp;omega) f0 f1 ah (by have:=hrs.o;omega) (by have:=hrs.o;omega)).mono ?_;rintro e w2 ⟨rfl,hb2⟩
    have hb3:Ix wr.heap.size wr w2:=Below.trans aV (hb2.mono (by simp));have gY:ak (aI w2 B r b' (o'+(j+1)*5)):=by
     have:=HR.o.below (hb3.mono (by have:=HB.o.size;omega))
     rwa [show o'+j*5+5=o'+(j+1)*5 by omega] at this
    have HB2:=aj (aH HB.o hb3);have kY:=aj (gX.o.next hb3);have nO:=aj (fH.o.next hb3);have f_:=hy.o;simp only[aK] at f_;rw[xK.o] at f_;generalize (bL P funcs vars kk n' p' c' aY.len&&aK P funcs aY kk 0 vars)=bb at f_ ⊢;have jT:=aj f_;clear hb2 hb3 HR f_ gX fH oM HB a0 a1 a2 a3 a4 c0 c1 c2 c3 c4;cases bb
    ·have iD:ak (F=false):=by have:=jT.o;rw[Xs] at this;exact this.symm
     go_wp2;go_ret;exact⟨aG iD.o.symm,HB2.o⟩
    ·have iD:ak (aK P funcs r 10 (j+1) vars=F):=by have:=jT.o;rw[Ys] at this;exact this
     go_wp2
     go_roundw
     case rel=>exact⟨j+1,r,bE,ah,iD,hrs.o.1,kY,nO,gY,HB2⟩
     case measure=>simp[intOf];omega
theorem Jt(P:List Fn)(m:Nat)(ks:Es)(IH:ak (∀ (ks:Es),ks.size<m->vN P ks))(hm:ks.size<m+1)(fi:Nat)(p c:Int)(K:Option I3)(cap B:Nat)(A:Option I3)(aU:Nat)(vars funcs:Int)(w:Iv)(hKs:bJ w B ks K)(_hc:ks.len<=cap)(hcm:cap<=I2)(kJ:eP w B P A)(nV:P.length<=aU)(jL:aU<=I2)(hB:B<=w.heap.size)(f0:0<=funcs)(f1:funcs<=P.length)(v0:0<=vars)(v1:vars+ks.depth<=2000000)(hsz0:ks.size<=1048576)(dh:bL P funcs vars 11 fi p c ks.len=true) :
  I0 Tryz.prog 154 #[Ip A P.length aU funcs,exV 11 fi p c K ks.len cap,I J vars] w (d9 (aK P funcs ks 11 0 vars) w):=by
 have fF:cap<=9223372036854775807:=by unfold I2 at hcm;omega
 have wU:aU<=9223372036854775807:=by unfold I2 at jL;omega
 have hls:=Es.aF ks;obtain⟨b',o',hK,hks⟩:=hKs;have gI:=aj hks;clear hks;have rX:=aj kJ;clear kJ;obtain⟨F,hF⟩:=aD (aK P funcs ks 11 0 vars)
 have HF:=aj hF;rw[<-hF];clear hF;have hn:fP fi 0 (funcs - 1)=true:=by
  cases h:fP fi 0 (funcs - 1)
  ·rw[qB ah h] at dh;cases dh
  ·rfl
 obtain⟨n0,n1⟩:=bH.1 hn;obtain⟨f,hf⟩:∃ f,P[fi]? = M f:=⟨P[fi]'ah,List.getElem?_eq_getElem _⟩
 have HN:=aj ((jk (vars:=vars) (p:=p) (c:=c) (len:=ks.len) (k:=11) ah (show P[(fi:Int).toNat]? = M f from hf) hn).symm.trans dh);obtain⟨bF,oF,rfl,hbF,g0,g1,_,KF,cF,g2,TB,zM,_⟩:=rX.o.get hf;have RA:cF<=9223372036854775807:=by unfold I2 at zM;omega
 have hl4:((f.outs.len:Nat):Int)<=9223372036854775807:=ah;have hl5:((ks.len:Nat):Int)<=9223372036854775807:=ah;have D6:=aj hn;have hbw:bF<w.heap.size:=ah;have D7:fi<P.length:=(List.getElem?_eq_some_iff.1 hf).1;have CZ:(fi:Int)<(P.length:Int):=ah;have HPP:ak (fP p 0 ((f.outs.len:Int) - 1)=true):=by
  have:=HN.o;rw[Mb,Mb] at this;exact this.1.2
 have Ij:ak ((ks.len:Int)=f.params):=by
  have:=HN.o;rw[Mb,Mb] at this;show _=_;exact of_decide_eq_true this.1.1
 have l1:((ks.len:Int)==f.params)=true:=by simpa using Ij.o
 have l2:((ks.len:Int) != f.params)=false:=by simpa using Ij.o
 have HC8:ak (fP c 0 8=true):=by
  have:=HN.o;rw[Mb] at this;have:=this.2;rw[if_neg ah,Mb] at this;exact this.2
 have HOO:ak ((f.outs.len:Int)=f.params):=by
  have:=HN.o;rw[Mb] at this;have:=this.2;rw[if_neg ah,Mb] at this;show _=_;exact of_decide_eq_true this.1
 have l3:((f.outs.len:Int)==f.params)=true:=by simpa using HOO.o
 have l4:((f.outs.len:Int) != f.params)=false:=by simpa using HOO.o
 clear dh hn hf;have key:p=0∨(p==0)=false:=by
  by_cases h:p=0
  ·exact .inl h
  ·exact .inr (by simpa using h)
 rcases key with rfl | P7
 ·go_enter func154,ntmps154
  go_wp2_with fail;refine (aT _ _ _ _).mono ?_;rintro e w' ⟨rfl,rfl⟩;rw[D6.o];go_wp2_with fail;refine (aT _ _ _ _).mono ?_;rintro e w' ⟨rfl,rfl⟩;rw[HPP.o];go_wp2_with fail;refine (aT _ _ _ _).mono ?_;rintro e w' ⟨rfl,rfl⟩;rw[HC8.o];go_wp2;clear g0 g1 g2 l1 l2 D7 CZ hl4 hl5 n0 n1
  go_loopw [156] (λi wr=>∃ (j:Nat) (es':Es),i=I J (j:Int)/\j+es'.len=ks.len/\ak (aK P funcs es' 11 j vars=F)/\ak (es'.size<=ks.size/\es'.depth<=ks.depth)/\ak (au wr w.heap.size 209 [V (M ⟨bF,oF,U⟩) P.length aU,I J funcs])/\ak (au wr (w.heap.size+1) 33 [I J 11,I J fi,I J 0,I J c,V K ks.len cap])/\ak (aI wr B es' b' (o'+j*5))/\ak (Ix w.heap.size w wr)) (λi _=>ks.len - (intOf i).toNat)
  case atStart=>
   obtain⟨q1,q2,q3⟩:=gy w 209 33 [V (M ⟨bF,oF,U⟩) P.length aU,I J funcs] [I J 11,I J fi,I J 0,I J c,V K ks.len cap];have q4:Ix w.heap.size w (((w.alloc (Is [V (M ⟨bF,oF,U⟩) P.length aU,I J funcs].toArray 209)).alloc (Is [I J 11,I J fi,I J 0,I J c,V K ks.len cap].toArray 33)).alloc (Is [Value.string f.name,I J f.params,V KF f.outs.len cF].toArray 146)):=aV
   exact⟨0,ks,bE,ah,HF.o.symm,⟨Jn _,Jn _⟩,q1.next aV,q2.next aV,by show aI _ _ _ _ _;rw[Mn,Mm];exact gI.o.below (q4.mono hB),q4⟩
  case round=>
   obtain⟨j,es',rfl,hj,hy,hsz,gX,fH,HE,HB⟩:=hrel;cases es' with
   | nil=>
    simp only[Es.len] at hj;go_wp2;go_ret;have:=hy.o;simp only[aK] at this;exact⟨aG this,HB.o⟩
   | cons kk n' p' c' aY r=>
    simp only[Es.len] at hj;have hK:=hK ah;subst hK;obtain⟨hel,hr⟩:=HE.o;have HR:=aj hr;obtain⟨lD,c0,c1,c2,c3,K',bB,b2,o2,c4,hc2,hcm2,hK2,dS⟩:=hel;have oM:ak (bJ wr B aY K'):=⟨b2,o2,hK2,dS⟩
    have hrs:ak ((r.size<=ks.size/\r.depth<=ks.depth)/\aY.size<ks.size/\aY.depth+1<=ks.depth):=by
     have:=hsz.o;simp only[Es.size,Es.depth] at this;exact⟨⟨ah,ah⟩,ah,ah⟩
    have a0:wr.cell? ⟨w.heap.size,0,U⟩=M (V (M ⟨bF,oF,U⟩) P.length aU):=ay gX.o
    have a1:wr.cell? ⟨w.heap.size,1,U⟩=M (I J funcs):=ay gX.o
    have a2:wr.cell? ⟨w.heap.size+1,0,U⟩=M (I J 11):=ay fH.o
    have a3:=gX.o.lt;have a4:=fH.o.lt;have hbr:b'<wr.heap.size:=ah;clear hr HE dS;have xK:ak (bQ 11 vars j=vars):=eD ah;go_wp2_with fail;refine (IH.o aY (by have:=hrs.o;omega) kk n' p' c' K' bB B (M ⟨bF,oF,U⟩) aU vars funcs _ (oM.o.below (by have:=HB.o.size;go_grown)) hc2 hcm2 (rX.o.below ((HB.o.mono hB).trans (by have:=HB.o.size;go_grown))) nV jL (by have:=HB.o.size;simp;omega) f0 f1 ah (by have:=hrs.o;omega) (by have:=hrs.o;omega)).mono ?_;rintro e w2 ⟨rfl,hb2⟩
    have hb3:Ix wr.heap.size wr w2:=Below.trans aV (hb2.mono (by simp));have gY:ak (aI w2 B r b' (o'+(j+1)*5)):=by
     have:=HR.o.below (hb3.mono (by have:=HB.o.size;omega))
     rwa [show o'+j*5+5=o'+(j+1)*5 by omega] at this
    have HB2:=aj (aH HB.o hb3);have kY:=aj (gX.o.next hb3);have nO:=aj (fH.o.next hb3);have f_:=hy.o;simp only[aK] at f_;rw[xK.o] at f_;generalize (bL P funcs vars kk n' p' c' aY.len&&aK P funcs aY kk 0 vars)=bb at f_ ⊢;have jT:=aj f_;clear hb2 hb3 HR f_ gX fH oM HB a0 a1 a2 a3 a4 c0 c1 c2 c3 c4;cases bb
    ·have iD:ak (F=false):=by have:=jT.o;rw[Xs] at this;exact this.symm
     go_wp2;go_ret;exact⟨aG iD.o.symm,HB2.o⟩
    ·have iD:ak (aK P funcs r 11 (j+1) vars=F):=by have:=jT.o;rw[Ys] at this;exact this
     go_wp2
     go_roundw
     case rel=>exact⟨j+1,r,bE,ah,iD,hrs.o.1,kY,nO,gY,HB2⟩
     case measure=>simp[intOf];omega
 ·go_enter func154,ntmps154
  go_wp2_with fail;refine (aT _ _ _ _).mono ?_;rintro e w' ⟨rfl,rfl⟩;rw[D6.o];go_wp2_with fail;refine (aT _ _ _ _).mono ?_;rintro e w' ⟨rfl,rfl⟩;rw[HPP.o];go_wp2_with fail;refine (aT _ _ _ _).mono ?_;rintro e w' ⟨rfl,rfl⟩;rw[HC8.o];go_wp2;clear g0 g1 g2 l1 l2 D7 CZ hl4 hl5 n0 n1
  go_loopw [156] (λi wr=>∃ (j:Nat) (es':Es),i=I J (j:Int)/\j+es'.len=ks.len/\ak (aK P funcs es' 11 j vars=F)/\ak (es'.size<=ks.size/\es'.depth<=ks.depth)/\ak (au wr w.heap.size 209 [V (M ⟨bF,oF,U⟩) P.length aU,I J funcs])/\ak (au wr (w.heap.size+1) 33 [I J 11,I J fi,I J p,I J c,V K ks.len cap])/\ak (aI wr B es' b' (o'+j*5))/\ak (Ix w.heap.size w wr)) (λi _=>ks.len - (intOf i).toNat)
  case atStart=>
   obtain⟨q1,q2,q3⟩:=gy w 209 33 [V (M ⟨bF,oF,U⟩) P.length aU,I J funcs] [I J 11,I J fi,I J p,I J c,V K ks.len cap];have q4:Ix w.heap.size w (((w.alloc (Is [V (M ⟨bF,oF,U⟩) P.length aU,I J funcs].toArray 209)).alloc (Is [I J 11,I J fi,I J p,I J c,V K ks.len cap].toArray 33)).alloc (Is [Value.string f.name,I J f.params,V KF f.outs.len cF].toArray 146)):=aV
   exact⟨0,ks,bE,ah,HF.o.symm,⟨Jn _,Jn _⟩,q1.next aV,q2.next aV,by show aI _ _ _ _ _;rw[Mn,Mm];exact gI.o.below (q4.mono hB),q4⟩
  case round=>
   obtain⟨j,es',rfl,hj,hy,hsz,gX,fH,HE,HB⟩:=hrel;cases es' with
   | nil=>
    simp only[Es.len] at hj;go_wp2;go_ret;have:=hy.o;simp only[aK] at this;exact⟨aG this,HB.o⟩
   | cons kk n' p' c' aY r=>
    simp only[Es.len] at hj;have hK:=hK ah;subst hK;obtain⟨hel,hr⟩:=HE.o;have HR:=aj hr;obtain⟨lD,c0,c1,c2,c3,K',bB,b2,o2,c4,hc2,hcm2,hK2,dS⟩:=hel;have oM:ak (bJ wr B aY K'):=⟨b2,o2,hK2,dS⟩
    have hrs:ak ((r.size<=ks.size/\r.depth<=ks.depth)/\aY.size<ks.size/\aY.depth+1<=ks.depth):=by
     have:=hsz.o;simp only[Es.size,Es.depth] at this;exact⟨⟨ah,ah⟩,ah,ah⟩
    have a0:wr.cell? ⟨w.heap.size,0,U⟩=M (V (M ⟨bF,oF,U⟩) P.length aU):=ay gX.o
    have a1:wr.cell? ⟨w.heap.size,1,U⟩=M (I J funcs):=ay gX.o
    have a2:wr.cell? ⟨w.heap.size+1,0,U⟩=M (I J 11):=ay fH.o
    have a3:=gX.o.lt;have a4:=fH.o.lt;have hbr:b'<wr.heap.size:=ah;clear hr HE dS;have xK:ak (bQ 11 vars j=vars):=eD ah;go_wp2_with fail;refine (IH.o aY (by have:=hrs.o;omega) kk n' p' c' K' bB B (M ⟨bF,oF,U⟩) aU vars funcs _ (oM.o.below (by have:=HB.o.size;go_grown)) hc2 hcm2 (rX.o.below ((HB.o.mono hB).trans (by have:=HB.o.size;go_grown))) nV jL (by have:=HB.o.size;simp;omega) f0 f1 ah (by have:=hrs.o;omega) (by have:=hrs.o;omega)).mono ?_;rintro e w2 ⟨rfl,hb2⟩
    have hb3:Ix wr.heap.size wr w2:=Below.trans aV (hb2.mono (by simp));have gY:ak (aI w2 B r b' (o'+(j+1)*5)):=by
     have:=HR.o.below (hb3.mono (by have:=HB.o.size;omega))
     rwa [show o'+j*5+5=o'+(j+1)*5 by omega] at this
    have HB2:=aj (aH HB.o hb3);have kY:=aj (gX.o.next hb3);have nO:=aj (fH.o.next hb3);have f_:=hy.o;simp only[aK] at f_;rw[xK.o] at f_;generalize (bL P funcs vars kk n' p' c' aY.len&&aK P funcs aY kk 0 vars)=bb at f_ ⊢;have jT:=aj f_;clear hb2 hb3 HR f_ gX fH oM HB a0 a1 a2 a3 a4 c0 c1 c2 c3 c4;cases bb
    ·have iD:ak (F=false):=by have:=jT.o;rw[Xs] at this;exact this.symm
     go_wp2;go_ret;exact⟨aG iD.o.symm,HB2.o⟩
    ·have iD:ak (aK P funcs r 11 (j+1) vars=F):=by have:=jT.o;rw[Ys] at this;exact this
     go_wp2
     go_roundw
     case rel=>exact⟨j+1,r,bE,ah,iD,hrs.o.1,kY,nO,gY,HB2⟩
     case measure=>simp[intOf];omega
theorem Nl(P:List Fn):∀ (m:Nat) (ks:Es),ks.size<m->vN P ks:=by
 intro m
 induction m with
 | zero=>intro es h;omega
 | succ m ih=>
 intro ks hm k n p c K cap B A aU vars funcs w hKs hc hcm kJ nV jL hB f0 f1 v0 v1 hsz0;have hls:=Es.aF ks;have no:bL P funcs vars k n p c ks.len=false->I0 Tryz.prog 154 #[Ip A P.length aU funcs,exV k n p c K ks.len cap,I J vars] w (d9 false w) ->
   I0 Tryz.prog 154 #[Ip A P.length aU funcs,exV k n p c K ks.len cap,I J vars] w (d9 (bL P funcs vars k n p c ks.len&&aK P funcs ks k 0 vars) w):=λh hh=>by rw[h,Xs];exact hh
 have yes:bL P funcs vars k n p c ks.len=true->I0 Tryz.prog 154 #[Ip A P.length aU funcs,exV k n p c K ks.len cap,I J vars] w (d9 (aK P funcs ks k 0 vars) w) ->
   I0 Tryz.prog 154 #[Ip A P.length aU funcs,exV k n p c K ks.len cap,I J vars] w (d9 (bL P funcs vars k n p c ks.len&&aK P funcs ks k 0 vars) w):=λh hh=>by rw[h,Ys];exact hh
 by_cases h12:k=1∨k=2
 ·have h:=Ju P ks k n p c K cap A aU vars funcs w hc hcm v0 ah ah h12
  rcases (show bL P funcs vars k n p c ks.len=false∨bL P funcs vars k n p c ks.len=true by cases bL P funcs vars k n p c ks.len<;>simp) with dh | dh
  ·rw[dh] at h;exact no dh h
  ·have hl:ks.len=0:=by
    rcases h12 with rfl | rfl
    ·rw[nD] at dh;simp only[Mb,beq_iff_eq] at dh;exact dh.2.1
    ·rw[nE] at dh;simp only[Mb,beq_iff_eq] at dh;exact dh.2.1
   have hn:=Es.J2 hl;subst hn;rw[dh] at h;exact yes dh h
 by_cases hr:k<1∨11<k
 ·have h:=Jv P ks k n p c K cap A aU vars funcs w hc hcm ah hr
  rw[o7 hr] at h;exact no (o7 hr) h
 by_cases hcall:k=10∨k=11
 ·rcases (show bL P funcs vars k n p c ks.len=false∨bL P funcs vars k n p c ks.len=true by cases bL P funcs vars k n p c ks.len<;>simp) with dh | dh
  ·exact no dh (Jr P ks k n p c K cap B A aU vars funcs w hc hcm kJ nV jL hB f0 f1 ah hcall dh)
  ·have hn:fP n 0 (funcs - 1)=true:=by
    cases h:fP n 0 (funcs - 1)
    ·rw[qB hcall h] at dh;cases dh
    ·rfl
   obtain⟨i,rfl⟩:=Int.eq_ofNat_of_zero_le (bH.1 hn).1;refine yes dh ?_
   rcases hcall with rfl | rfl
   ·have hc0:c=0:=by
     obtain⟨f,hf⟩:∃ f,P[i]? = M f:=⟨P[i]'(by have:=bH.1 hn;omega),List.getElem?_eq_getElem _⟩
     rw[jk (.inl rfl) (show P[(i:Int).toNat]? = M f from hf) hn,Mb] at dh;simpa using dh.2
    subst hc0;exact Js P m ks ih hm i p 0 K cap B A aU vars funcs w hKs hc hcm kJ nV jL hB f0 f1 v0 v1 hsz0 dh
   ·exact Jt P m ks ih hm i p c K cap B A aU vars funcs w hKs hc hcm kJ nV jL hB f0 f1 v0 v1 hsz0 dh
 obtain⟨N,hN⟩:∃ N,opN k N:=by
  have:(k=3∨k=4∨k=5∨k=6∨k=9)∨k=7∨k=8:=ah
  rcases this with h | h | h
  ·exact⟨2,.inl ⟨h,rfl⟩⟩
  ·exact⟨1,.inr (.inl ⟨h,rfl⟩)⟩
  ·exact⟨3,.inr (.inr ⟨h,rfl⟩)⟩
 by_cases hg:p=0/\c=0/\n=0/\ks.len=N
 ·obtain⟨rfl,rfl,rfl,hl⟩:=hg
  have dh:bL P funcs vars k 0 0 0 ks.len=true:=by rw[nL hN,hl];simp
  refine yes dh ?_
  rcases hN with ⟨rfl | rfl | rfl | rfl | rfl,rfl⟩ | ⟨rfl,rfl⟩ | ⟨rfl,rfl⟩
  ·exact Nn P m ks ih hm K cap B A aU vars funcs w hKs hc hcm kJ nV jL hB f0 f1 v0 v1 hsz0 hl
  ·exact Np P m ks ih hm K cap B A aU vars funcs w hKs hc hcm kJ nV jL hB f0 f1 v0 v1 hsz0 hl
  ·exact Nq P m ks ih hm K cap B A aU vars funcs w hKs hc hcm kJ nV jL hB f0 f1 v0 v1 hsz0 hl
  ·exact Nr P m ks ih hm K cap B A aU vars funcs w hKs hc hcm kJ nV jL hB f0 f1 v0 v1 hsz0 hl
  ·exact Nu P m ks ih hm K cap B A aU vars funcs w hKs hc hcm kJ nV jL hB f0 f1 v0 v1 hsz0 hl
  ·exact Ns P m ks ih hm K cap B A aU vars funcs w hKs hc hcm kJ nV jL hB f0 f1 v0 v1 hsz0 hl
  ·exact Nt P m ks ih hm K cap B A aU vars funcs w hKs hc hcm kJ nV jL hB f0 f1 v0 v1 hsz0 hl
 ·have h:=Rl P ks k n p c K cap A aU vars funcs w hc hcm ah N hN hg
  rcases (show bL P funcs vars k n p c ks.len=false∨bL P funcs vars k n p c ks.len=true by cases bL P funcs vars k n p c ks.len<;>simp) with dh | dh
  ·rw[dh] at h;exact no dh h
  ·exfalso
   rw[nL hN] at dh;simp only[Mb,beq_iff_eq] at dh;exact hg ⟨dh.1.1,dh.1.2,dh.2.1,dh.2.2⟩
theorem ko(x:Int)(w:Iv):I0 Tryz.prog 152 #[I J x] w λe w'=>e=If (.bool (fP x 0 412))/\w=w':=by
 go_enter func152,ntmps152;go_wp2_with fail;refine (aT _ _ _ _).mono ?_;rintro e w' ⟨rfl,rfl⟩;go_wp2;go_ret;exact⟨rfl,rfl⟩
variable{w:Iv}
theorem Gl{w1:Iv}{t1 t2:TypeId}{C1 C2:List I1}(hb:Ix ((w.alloc (Is C1.toArray t1)).alloc (Is C2.toArray t2)).heap.size ((w.alloc (Is C1.toArray t1)).alloc (Is C2.toArray t2)) w1) :
  au w1 w.heap.size t1 C1/\au w1 (w.heap.size+1) t2 C2/\Ix w.heap.size w w1:=by
 obtain⟨q1,q2,q3⟩:=gy w t1 t2 C1 C2;exact⟨q1.next hb,q2.next hb,aH q3 hb⟩
theorem mo(P:List Fn)(ks:Es)(k n p c:Int)(K:Option I3)(cap B:Nat)(A:Option I3)(aU:Nat)(vars funcs:Int)(w:Iv)(hKs:bJ w B ks K)(hc:ks.len<=cap)(hcm:cap<=I2)(kJ:eP w B P A)(nV:P.length<=aU)(jL:aU<=I2)(hB:B<=w.heap.size)(hsz:ks.size<=1048576) :
  I0 Tryz.prog 73 #[rW A P.length aU,exV k n p c K ks.len cap,I J vars,I J funcs] w (d9 (bT P ⟨k,n,p,c,ks⟩ vars funcs) w):=by
 have HK:=aj hKs;clear hKs;have rX:=aj kJ;clear kJ;have fF:cap<=9223372036854775807:=by unfold I2 at hcm;omega
 have wU:aU<=9223372036854775807:=by unfold I2 at jL;omega
 have hg:ak (Ix w.heap.size w ((w.alloc (Is [V A P.length aU].toArray 51)).alloc (Is [I J k,I J n,I J p,I J c,V K ks.len cap].toArray 33))):=(gy w _ _ _ _).2.2;cases hv:fP vars 0 412
 ·have HN:=aj (Ar (P:=P) (x:=⟨k,n,p,c,ks⟩) (funcs:=funcs) hv)
  have HV:=aj hv;clear hv;go_enter func73,ntmps73;go_wp2_with fail;refine (ko _ _).mono ?_;rintro e w' ⟨rfl,rfl⟩;rw[HV.o];go_wp2;go_ret;exact⟨aG HN.o.symm,hg.o⟩
 have HV:=aj hv;clear hv;cases hf:fP funcs 0 P.length
 ·have HN:=aj (xW (P:=P) (x:=⟨k,n,p,c,ks⟩) (vars:=vars) hf)
  have HF:=aj hf;clear hf;go_enter func73,ntmps73;go_wp2_with fail;refine (ko _ _).mono ?_;rintro e w' ⟨rfl,rfl⟩;rw[HV.o];go_wp2_with fail;refine (aT _ _ _ _).mono ?_;rintro e w' ⟨rfl,rfl⟩;rw[HF.o];go_wp2;go_ret;exact⟨aG HN.o.symm,hg.o⟩
 have HF:=aj hf;clear hf
 by_cases hs:ks.size<=399
 ·by_cases hd:ks.depth<=59
  ·obtain⟨v0,v1⟩:=bH.1 HV.o
   obtain⟨f0,f1⟩:=bH.1 HF.o;have HN:ak (bT P ⟨k,n,p,c,ks⟩ vars funcs=(bL P funcs vars k n p c ks.len&&aK P funcs ks k 0 vars)):=vX HV.o HF.o hs hd;rw[HN.o];generalize Fa:(bL P funcs vars k n p c ks.len&&aK P funcs ks k 0 vars)=bb;have Ck:=aj Fa;clear Fa HN;go_enter func73,ntmps73;go_wp2_with fail;refine (ko _ _).mono ?_;rintro e w' ⟨rfl,rfl⟩
   rw[HV.o];go_wp2_with fail;refine (aT _ _ _ _).mono ?_;rintro e w' ⟨rfl,rfl⟩;rw[HF.o];go_wp2_with fail;refine (uU (ks.size+1) ks ah k n p c K cap B _ (HK.o.below (hg.o.mono hB)) hc hcm (by simp;omega) hsz).mono ?_;rintro e w1 ⟨rfl,hb1⟩;have hq:((ks.size+1:Nat):Int)<=400:=ah;generalize ((ks.size+1:Nat):Int)=q at *;obtain⟨q1,q2,q3⟩:=Gl (C1:=[V A P.length aU]) (C2:=[I J k,I J n,I J p,I J c,V K ks.len cap]) hb1
   have a0:w1.cell? ⟨w.heap.size,0,U⟩=M (V A P.length aU):=ay q1
   have b0:w1.cell? ⟨w.heap.size+1,0,U⟩=M (I J k):=ay q2
   have b1:w1.cell? ⟨w.heap.size+1,1,U⟩=M (I J n):=ay q2
   have b2:w1.cell? ⟨w.heap.size+1,2,U⟩=M (I J p):=ay q2
   have b3:w1.cell? ⟨w.heap.size+1,3,U⟩=M (I J c):=ay q2
   have b4:w1.cell? ⟨w.heap.size+1,4,U⟩=M (V K ks.len cap):=ay q2
   have Q1:=aj q1;have Q2:=aj q2;have Q3:=aj q3;clear q1 q2 q3 hb1;go_wp2_with fail;refine (PL (ks.size+1) ks ah k n p c K cap B w1 (HK.o.below (Q3.o.mono hB)) hc hcm (by have:=Q3.o.size;omega) hsz).mono ?_;rintro e w2 ⟨rfl,hb2⟩;have hq2:((ks.depth+1:Nat):Int)<=60:=ah;generalize ((ks.depth+1:Nat):Int)=qq at *;have R3:=aj (aH Q3.o hb2);have r1:=Q1.o.next hb2;have r2:=Q2.o.next hb2
   have c0':w2.cell? ⟨w.heap.size,0,U⟩=M (V A P.length aU):=ay r1
   have d0:w2.cell? ⟨w.heap.size+1,0,U⟩=M (I J k):=ay r2
   have d1:w2.cell? ⟨w.heap.size+1,1,U⟩=M (I J n):=ay r2
   have d2:w2.cell? ⟨w.heap.size+1,2,U⟩=M (I J p):=ay r2
   have d3:w2.cell? ⟨w.heap.size+1,3,U⟩=M (I J c):=ay r2
   have d4:w2.cell? ⟨w.heap.size+1,4,U⟩=M (V K ks.len cap):=ay r2
   clear r1 r2 hb2 a0 b0 b1 b2 b3 b4;go_wp2_with fail;refine (Nl P (ks.size+1) ks ah k n p c K cap B A aU vars funcs w2 (HK.o.below (R3.o.mono hB)) hc hcm (rX.o.below (R3.o.mono hB)) nV jL (by have:=R3.o.size;omega) f0 f1 v0 ah hsz).mono ?_;rintro e w3 ⟨rfl,hb3⟩;rw[Ck.o];have HB3:=aj (aH R3.o hb3);clear hb3;go_wp2;go_ret;exact⟨rfl,HB3.o⟩
  ·have HN:=aj (xV (P:=P) (x:=⟨k,n,p,c,ks⟩) (vars:=vars) (funcs:=funcs) hd)
   go_enter func73,ntmps73;go_wp2_with fail;refine (ko _ _).mono ?_;rintro e w' ⟨rfl,rfl⟩;rw[HV.o];go_wp2_with fail;refine (aT _ _ _ _).mono ?_;rintro e w' ⟨rfl,rfl⟩;rw[HF.o];go_wp2_with fail;refine (uU (ks.size+1) ks ah k n p c K cap B _ (HK.o.below (hg.o.mono hB)) hc hcm (by simp;omega) hsz).mono ?_;rintro e w1 ⟨rfl,hb1⟩;have hq:((ks.size+1:Nat):Int)<=400:=ah
   generalize ((ks.size+1:Nat):Int)=q at *;obtain⟨q1,q2,q3⟩:=Gl (C1:=[V A P.length aU]) (C2:=[I J k,I J n,I J p,I J c,V K ks.len cap]) hb1;have b0:w1.cell? ⟨w.heap.size+1,0,U⟩=M (I J k):=ay q2
   have b1:w1.cell? ⟨w.heap.size+1,1,U⟩=M (I J n):=ay q2
   have b2:w1.cell? ⟨w.heap.size+1,2,U⟩=M (I J p):=ay q2
   have b3:w1.cell? ⟨w.heap.size+1,3,U⟩=M (I J c):=ay q2
   have b4:w1.cell? ⟨w.heap.size+1,4,U⟩=M (V K ks.len cap):=ay q2
   have Q3:=aj q3;clear q1 q2 q3 hb1;go_wp2_with fail;refine (PL (ks.size+1) ks ah k n p c K cap B w1 (HK.o.below (Q3.o.mono hB)) hc hcm (by have:=Q3.o.size;omega) hsz).mono ?_;rintro e w2 ⟨rfl,hb2⟩;have hq2:60<((ks.depth+1:Nat):Int):=ah;generalize ((ks.depth+1:Nat):Int)=qq at *;have R3:=aj (aH Q3.o hb2);clear hb2;go_wp2;go_ret;exact⟨aG HN.o.symm,R3.o⟩
 ·have HN:=aj (Ap (P:=P) (x:=⟨k,n,p,c,ks⟩) (vars:=vars) (funcs:=funcs) hs)
  go_enter func73,ntmps73;go_wp2_with fail;refine (ko _ _).mono ?_;rintro e w' ⟨rfl,rfl⟩;rw[HV.o];go_wp2_with fail;refine (aT _ _ _ _).mono ?_;rintro e w' ⟨rfl,rfl⟩;rw[HF.o];go_wp2_with fail;refine (uU (ks.size+1) ks ah k n p c K cap B _ (HK.o.below (hg.o.mono hB)) hc hcm (by simp;omega) hsz).mono ?_;rintro e w1 ⟨rfl,hb1⟩;have hq:400<((ks.size+1:Nat):Int):=ah
  generalize ((ks.size+1:Nat):Int)=q at *;obtain⟨_,_,q3⟩:=Gl (C1:=[V A P.length aU]) (C2:=[I J k,I J n,I J p,I J c,V K ks.len cap]) hb1;have Q3:=aj q3;clear q3 hb1;go_wp2;go_ret;exact⟨aG HN.o.symm,Q3.o⟩
variable{B:Nat}
theorem fA.take:∀ {fs:List Fn}{b o:Nat}(i:Nat),fA w B fs b o->fA w B (fs.take i) b o
 | [],_,_,_,_=>by simp;trivial
 | _ :: _,_,_,0,_=>trivial
 | _ :: _,_,_,i+1,h=>⟨h.1,fA.take i h.2⟩
theorem eP.take{fs:List Fn}{A:Option I3}(i:Nat)(h:eP w B fs A):eP w B (fs.take i) A:=by
 obtain⟨b,o,hA,h⟩:=h;exact⟨b,o,λhl=>hA (by simp at hl;omega),h.take i⟩
theorem NV(A:Option I3)(cap B:Nat)(fs:List Fn)(w:Iv)(hA:eP w B fs A)(hB:B<=w.heap.size)(hn:fs.length<=4611686018427387904)
  (f:Nat) (hf:Enters f) (cs:Array I1) (p:Fn->Bool) (hp:ak (∀ g K cp wx,Ix w.heap.size w wx->I0 Tryz.prog f (#[Jp g.name g.params K g.outs.len cp]++cs) wx λe w'=>e=If (.bool (p g))/\Ix wx.heap.size wx w')) :
  I0 Tryz.prog 217 #[V A fs.length cap,.func (.func f) #[] cs] w λe w'=>e=If (I J (firstAt p fs 0))/\Ix w.heap.size w w':=by
 have HA:=aj hA;clear hA;go_enter func217,ntmps217;go_wp2
 go_loopw [5,8] (λ_ i wr=>∃ k:Nat,k<=fs.length/\i=I J (k:Int)/\ak (firstAt p fs 0=firstAt p (fs.drop k) k)/\ak (Ix w.heap.size w wr)) (λ_ i _=>fs.length - (intOf i).toNat)
 case atStart=>exact⟨0,ah,bE,rfl,Jx _ _⟩
 case round=>
  obtain⟨k,hk,rfl,HR,HB⟩:=hrel
  by_cases hlt:k<fs.length
  ·obtain⟨g,hg⟩:∃ g,fs[k]? = M g:=⟨fs[k]'hlt,List.getElem?_eq_getElem _⟩
   obtain⟨b,o,rfl,hb,c0,c1,_,K,cp,c2,_,_,_⟩:=(HA.o.below (HB.o.mono hB)).get hg;have hbr:b<wr.heap.size:=by have:=HB.o.size;omega
   have HS:=aj (xX p fs k g hg);clear hg;go_wp2_with fail;rw[hf _ _,Oper.upon_enter];refine (hp.o g K cp _ HB.o).mono ?_;rintro e w' ⟨rfl,hb1⟩;have HB1:=aj (aH HB.o hb1);clear hb1;cases yC:p g
   ·have HP:=aj yC;clear yC
    go_wp2
    go_roundw
    case rel=>exact⟨k+1,ah,bE,by show _=_;rw[HR.o,HS.o,HP.o];rfl,HB1⟩
    case measure=>simp[intOf];omega
   ·have HP:=aj yC;clear yC
    go_wp2;go_ret;exact⟨bR (by rw[HR.o,HS.o,HP.o];rfl),HB1.o⟩
  ·obtain rfl:k=fs.length:=ah
   go_wp2;go_ret;exact⟨bR (by rw[HR.o,AB]),HB.o⟩
theorem Ej(A:Option I3)(cap B:Nat)(fs:List Fn)(w:Iv)(hA:eP w B fs A)(hB:B<=w.heap.size)(hn:fs.length<=4611686018427387904)
  (f:Nat) (hf:Enters f) (cs:Array I1) (p:Fn->Bool) (hp:ak (∀ g K cp wx,Ix w.heap.size w wx->I0 Tryz.prog f (#[Jp g.name g.params K g.outs.len cp]++cs) wx λe w'=>e=If (.bool (p g))/\Ix wx.heap.size wx w')) :
  I0 Tryz.prog 149 #[V A fs.length cap,.func (.func f) #[] cs] w λe w'=>e=If (.bool (fs.any p))/\Ix w.heap.size w w':=by
 have HE:=aj (Ay p fs 0 ah);go_enter func149,ntmps149;go_wp2_with fail;refine (NV A cap B fs w hA hB hn f hf cs p hp).mono ?_;rintro e w' ⟨rfl,hb⟩;go_wp2;go_ret;exact⟨aG HE.o,hb⟩
theorem El(n:Nat)(A:Option I3)(cap B:Nat)(fs:List Fn)(hl:fs.length=n)(w:Iv)(hA:eP w B fs A)(hB:B<=w.heap.size)(hn:n<=4611686018427387904)
  (f:Nat) (hf:Enters f) (cs:Array I1) (p:Fn->Bool) (hp:ak (∀ g K cp wx,Ix w.heap.size w wx->I0 Tryz.prog f (#[Jp g.name g.params K g.outs.len cp]++cs) wx λe w'=>e=If (.bool (p g))/\Ix wx.heap.size wx w')) :
  I0 Tryz.prog 149 #[V A n cap,.func (.func f) #[] cs] w λe w'=>e=If (.bool (fs.any p))/\Ix w.heap.size w w':=by
 subst hl;exact Ej A cap B fs w hA hB hn f hf cs p hp
theorem Hz(g:Fn)(K:Option I3)(cp:Nat)(bf:Nat)(t:TypeId)(f:Fn)(KF:Option I3)(cF:Nat)(wx:Iv)(h:au wx bf t [.string f.name,I J f.params,V KF f.outs.len cF]) :
  I0 Tryz.prog 150 (#[Jp g.name g.params K g.outs.len cp]++#[.pointer (M ⟨bf,0,U⟩)]) wx λe w'=>e=If (.bool (g.name==f.name))/\Ix wx.heap.size wx w':=by
 have a0:wx.cell? ⟨bf,0,U⟩=M (.string f.name):=ay h
 have hl:=h.lt;have HS:=aj (Dy g.name f.name);clear h;show I0 Tryz.prog 150 #[Jp g.name g.params K g.outs.len cp,.pointer (M ⟨bf,0,U⟩)] wx _;go_enter func150,ntmps150;go_wp2;go_ret;exact⟨aG HS.o.symm,aV⟩
def okQ(P:List Fn)(es:Es)(vars funcs:Int)(y:Nat):Bool:=ny P es vars funcs&&decide (y+es.size<=400)
theorem Zw{P:List Fn}{n p c:Int}{ks r:Es}{funcs:Int}{y:Nat}:okQ P (.cons k n p c ks r) vars funcs y=(bT P ⟨k,n,p,c,ks⟩ vars funcs&&okQ P r vars funcs (y+(ks.size+1))):=by
 have e:decide (y+(Es.cons k n p c ks r).size<=400)=decide (y+(ks.size+1)+r.size<=400):=
  decide_eq_decide.2 (by simp only[Es.size];omega)
 unfold okQ;rw[e];simp only[ny,Bool.and_assoc]
theorem z8(P:List Fn)(B:Nat)(A:Option I3)(aU:Nat)(w:Iv)(kJ:eP w B P A)(nV:P.length<=aU)(jL:aU<=I2)(hB:B<=w.heap.size)(hsz:bK P<=1048576) :
  I0 Tryz.prog 72 #[rW A P.length aU] w (d9 (gF P) w):=by
 have rX:=aj kJ;clear kJ;have wU:aU<=9223372036854775807:=by unfold I2 at jL;omega
 have qM:=aj hsz;clear hsz;have hff:Enters 150:=enters func150 aL rfl;have HFF:=aj hff;clear hff
 by_cases hl:P.length<=16
 ·obtain⟨F,hF⟩:=aD (gF P)
  have HF:ak (mX P P 0=F):=by show _=_;rw[hF];unfold gF;rw[decide_eq_true hl];rfl
  rw[<-hF];clear hF;go_enter func72,ntmps72;go_wp2
  go_loopw [15] (λi wr=>∃ (j:Nat) (fs:List Fn),i=I J (j:Int)/\j+fs.length=P.length/\ak (P.drop j=fs)/\ak (mX P fs j=F)/\ak (dU fs<=bK P)/\ak (au wr w.heap.size 51 [V A P.length aU])/\ak (Ix w.heap.size w wr)) (λi _=>P.length - (intOf i).toNat)
  case atStart=>exact⟨0,P,bE,ah,by show _=_;simp,HF,by show _<=_;unfold bK;omega,au.new w _ _,by show Ix _ _ _;go_grown⟩
  case round=>
   obtain⟨j,fs,rfl,hj,HD,HY,HS,HC,HB⟩:=hrel;have a0:wr.cell? ⟨w.heap.size,0,U⟩=M (V A P.length aU):=ay HC.o
   have al:=HC.o.lt;cases fs with
   | nil=>
    simp only[List.length_nil] at hj;go_wp2;go_ret;have:=HY.o;simp only[mX] at this;exact⟨aG this,HB.o⟩
   | cons f r=>
    simp only[List.length_cons] at hj;have hf:P[j]? = M f:=by
     have:=HD.o;have h2:(P.drop j)[0]? = M f:=by rw[this];rfl
     rw[List.getElem?_drop] at h2;simpa using h2
    have hd:ak (P.drop (j+1)=r):=by
     have:=HD.o;show _=_;rw[<-List.drop_drop,this];rfl
    have hrs:ak (dU r<=bK P/\f.outs.size<=1048576):=by
     have:=HS.o;have:=qM.o;simp only[dU,Fn.size] at *;exact⟨ah,ah⟩
    have hjl:j<P.length:=ah;have jT:ak ((qp P j f&&mX P r (j+1))=F):=HY.o;obtain⟨bF,oF,rfl,hbF,g0,g1,hnm,KF,cF,g2,TB,zM,hks⟩:=(rX.o.below (HB.o.mono hB)).get hf;have hbw:bF<wr.heap.size:=by have:=HB.o.size;omega
    have RA:cF<=9223372036854775807:=by unfold I2 at zM;omega
    have gI:=aj hks;clear hks;have hlt:((P.take j).length:Nat)=j:=by simp;omega
    have LK:=aj hlt;clear hlt hf HD HY HS;have HNO:qp P j f=false->F=false:=λh=>by rw[<-jT.o,h];rfl
    have Vt:=aj HNO;clear HNO;cases h1:lM f.name
    ·have HN:=aj (Vt.o (EZ h1))
     have H1:=aj h1;clear h1;go_wp2_with fail;refine (Da _ _ hnm).mono ?_;rintro e w' ⟨rfl,rfl⟩;rw[H1.o];go_wp2;go_ret;exact⟨aG HN.o.symm,by have:=HB.o;go_grown⟩
    have H1:=aj h1;clear h1;go_wp2_with fail;refine (Da _ _ hnm).mono ?_;rintro e w' ⟨rfl,rfl⟩;rw[H1.o];go_wp2_with fail;have Tf:=aj (au.new wr 146 [.string f.name,I J f.params,V KF f.outs.len cF]);refine (El j (M ⟨bF,oF,U⟩) aU B (P.take j) LK.o _ ((rX.o.below ((HB.o.mono hB).trans (by have:=HB.o.size;go_grown))).take j) (by have:=HB.o.size;simp;omega) ah 150 HFF.o _ (λg=>g.name==f.name) (λg K cp wx hx=>Hz g K cp wr.heap.size 146 f KF cF wx (Tf.o.next hx))).mono ?_;rintro e w1 ⟨rfl,hb1⟩
    have Qw:=aj (Tf.o.next hb1);have hb2:Ix wr.heap.size wr w1:=Below.trans aV (hb1.mono (by simp));have gX:=aj (HC.o.next hb2);have HB1:=aj (aH HB.o hb2);have c0:w1.cell? ⟨w.heap.size,0,U⟩=M (V (M ⟨bF,oF,U⟩) P.length aU):=ay gX.o
    have d0:w1.cell? ⟨wr.heap.size,0,U⟩=M (.string f.name):=ay Qw.o
    have d1:w1.cell? ⟨wr.heap.size,1,U⟩=M (I J f.params):=ay Qw.o
    have d2:w1.cell? ⟨wr.heap.size,2,U⟩=M (V KF f.outs.len cF):=ay Qw.o
    have dl:=Qw.o.lt;have cl:=gX.o.lt;have agt:=aj (gI.o.below (hb2.mono (by have:=HB.o.size;omega)));clear hb1 hb2 HC Tf gI HB a0 g0 g1 g2;cases h2:((P.take j).any λg=>g.name==f.name)
    case true=>
     have HN:=aj (Vt.o (EY h2));go_wp2;go_ret;exact⟨aG HN.o.symm,HB1.o⟩
    have H2:=aj h2;clear h2;go_wp2_with fail;refine (aT _ _ _ _).mono ?_;rintro e w' ⟨rfl,rfl⟩;cases h3:fP f.params 0 12
    ·have HN:=aj (Vt.o (AJ h3))
     clear h3;go_wp2;go_ret;exact⟨aG HN.o.symm,HB1.o⟩
    have H3:=aj h3;clear h3;go_wp2_with fail;refine (aT _ _ _ _).mono ?_;rintro e w' ⟨rfl,rfl⟩;cases h4:fP f.outs.len 1 12
    ·have HN:=aj (Vt.o (E5 h4))
     clear h4;go_wp2;go_ret;exact⟨aG HN.o.symm,HB1.o⟩
    have H4:=aj h4;clear h4;obtain⟨G,hG⟩:=aD (qp P j f)
    have HG:ak (okQ P f.outs f.params j 0=G):=by
     show _=_;rw[hG,E8 H1.o H2.o H3.o H4.o];unfold okQ;rw[Mu]
    have HGF:ak ((G&&mX P r (j+1))=F):=by show _=_;rw[hG];exact jT.o
    clear hG Vt H1 H2 H3 H4 jT c0 d0;obtain⟨bk,ok,hKF,hks⟩:=agt.o;have HKE:=aj hks;clear hks agt;obtain⟨wo,rfl⟩:∃ wo:Iv,wo=wr:=⟨_,rfl⟩
    go_wp2
    go_loopw [5,46] (λll i wr=>∃ (a:Nat) (es':Es) (y:Nat),i=I J (a:Int)/\ll=I J (y:Int)/\a+es'.len=f.outs.len/\y<=1048576/\ak (y+es'.size=f.outs.size)/\ak (okQ P es' f.params j y=G)/\ak (aI wr B es' bk (ok+a*5)) /\
     ak (au wr w.heap.size 51 [V (M ⟨bF,oF,U⟩) P.length aU])/\ak (au wr wo.heap.size 146 [.string f.name,I J f.params,V KF f.outs.len cF])/\ak (Ix w.heap.size w wr)) (λ_ i _=>f.outs.len - (intOf i).toNat)
    case atStart=>exact⟨0,f.outs,0,bE,bE,ah,ah,by show _=_;omega,HG,by show aI _ _ _ _ _;rw[Mn,Mm];exact HKE.o,gX,Qw,HB1⟩
    case round=>
     clear d1 d2 dl cl gX Qw HB1 HKE HG;obtain⟨a,es',y,rfl,rfl,ha,y1,hy,hQ,HE,HC,Tf,HB⟩:=hrel;have c0:wr.cell? ⟨w.heap.size,0,U⟩=M (V (M ⟨bF,oF,U⟩) P.length aU):=ay HC.o
     have d1:wr.cell? ⟨wo.heap.size,1,U⟩=M (I J f.params):=ay Tf.o
     have dl:=Tf.o.lt;have cl:=HC.o.lt;cases es' with
     | nil=>
      simp only[Es.len] at ha;have hsz2:=hy.o;simp only[Es.size] at hsz2
      by_cases Rx:y<=400
      ·have mq:ak (mX P r (j+1)=F):=by
        have h:=hQ.o;unfold okQ at h;rw[decide_eq_true (show y+Es.nil.size<=400 by simp only[Es.size];omega)] at h;show _=_;rw[<-HGF.o,<-h];rfl
       go_wp2
       go_roundw
       case rel=>exact⟨j+1,r,bE,ah,hd,mq,hrs.o.1,HC,HB⟩
       case measure=>simp[intOf];omega
      ·have mq:ak (F=false):=by
        have h:=hQ.o;unfold okQ at h;rw[decide_eq_false (show ¬ y+Es.nil.size<=400 by simp only[Es.size];omega),Bool.and_false] at h;show _=_;rw[<-HGF.o,<-h];rfl
       go_wp2;go_ret;exact⟨aG mq.o.symm,HB.o⟩
     | cons kk n' p' c' aY r'=>
      simp only[Es.len] at ha;have hK:=hKF ah;subst hK;obtain⟨hel,hr⟩:=HE.o;have HR:=aj hr;obtain⟨lD,e0,e1,e2,e3,K',bB,b2,o2,e4,hc2,hcm2,hK2,dS⟩:=hel;have oM:ak (bJ wr B aY K'):=⟨b2,o2,hK2,dS⟩
      have Y7:ak (y+(aY.size+1)+r'.size=f.outs.size/\aY.size<=1048576):=by
       have:=hy.o;have:=hrs.o.2;simp only[Es.size] at *;exact⟨ah,ah⟩
      have hbr:bk<wr.heap.size:=by have:=HB.o.size;omega
      have hQ2:=hQ.o;rw[Zw] at hQ2;have y7:=aj hQ2;clear hr HE dS hQ2 hQ hy;go_wp2_with fail;refine (mo P aY kk n' p' c' K' bB B (M ⟨bF,oF,U⟩) aU f.params j _ (oM.o.below (by have:=HB.o.size;go_grown)) hc2 hcm2 (rX.o.below ((HB.o.mono hB).trans (by have:=HB.o.size;go_grown))) nV jL (by have:=HB.o.size;simp;omega) Y7.o.2).mono ?_;rintro e w2 ⟨rfl,hb2⟩
      have HEB:=aj (au.next (au.new wr 33 [I J kk,I J n',I J p',I J c',V K' aY.len bB]) hb2);have hb3:Ix wr.heap.size wr w2:=Below.trans aV (hb2.mono (by simp));have sj:=aj (HR.o.below (hb3.mono (by have:=HB.o.size;omega)));have HK3:=aj (oM.o.below (hb3.mono (by have:=HB.o.size;omega)));have fH:=aj (HC.o.next hb3);have ago:=aj (Tf.o.next hb3)
      have HB2:=aj (aH HB.o hb3);have f0:w2.cell? ⟨wr.heap.size,0,U⟩=M (I J kk):=ay HEB.o
      have f1:w2.cell? ⟨wr.heap.size,1,U⟩=M (I J n'):=ay HEB.o
      have f2:w2.cell? ⟨wr.heap.size,2,U⟩=M (I J p'):=ay HEB.o
      have f3:w2.cell? ⟨wr.heap.size,3,U⟩=M (I J c'):=ay HEB.o
      have f4:w2.cell? ⟨wr.heap.size,4,U⟩=M (V K' aY.len bB):=ay HEB.o
      generalize bT P ⟨kk,n',p',c',aY⟩ f.params j=bb at y7 ⊢;clear hb2 hb3 HR oM HC Tf HB HEB c0 d1 dl cl e0 e1 e2 e3 e4;cases bb
      ·have HN:ak (F=false):=by show _=_;rw[<-HGF.o,<-y7.o];rfl
       go_wp2;go_ret;exact⟨aG HN.o.symm,HB2.o⟩
      ·have DZ:ak (okQ P r' f.params j (y+(aY.size+1))=G):=y7.o
       go_wp2_with fail;refine (uU (aY.size+1) aY ah kk n' p' c' K' bB B w2 HK3.o hc2 hcm2 (by have:=HB2.o.size;omega) Y7.o.2).mono ?_;rintro e w3 ⟨rfl,hb4⟩;have QE:ak (aI w3 B r' bk (ok+(a+1)*5)):=by
        have:=sj.o.below (hb4.mono (by have:=HB2.o.size;omega))
        rwa [show ok+a*5+5=ok+(a+1)*5 by omega] at this
       have Vh:=aj (fH.o.next hb4);have aji:=aj (ago.o.next hb4);have HB3:=aj (aH HB2.o hb4);obtain⟨z,hz⟩:=aD (aY.size+1)
       rw[<-hz] at DZ Y7 ⊢;have zz:y+z<=1048576:=by have:=Y7.o;have:=hrs.o.2;omega
       have z1:z<=1048576:=ah;clear hz hb4 fH ago HB2 sj HK3 f0 f1 f2 f3 f4;go_wp2
       go_roundw
       case rel=>exact⟨a+1,r',y+z,bE,bE,ah,zz,Y7.o.1,DZ,QE,Vh,aji,HB3⟩
       case measure=>simp[intOf];omega
 ·have HN:ak (gF P=false):=by show _=_;unfold gF;rw[decide_eq_false hl];rfl
  go_enter func72,ntmps72;go_wp2;go_ret;exact⟨aG HN.o.symm,aV⟩
end
end Go.Proofs.YtgfkglhelfkpoaaGreat
