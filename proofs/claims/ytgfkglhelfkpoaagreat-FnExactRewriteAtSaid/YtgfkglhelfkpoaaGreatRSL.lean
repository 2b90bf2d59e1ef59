/- Parts of the proof. -/
import Derived.Test.YtgfkglhelfkpoaaGreatRSH
set_option maxRecDepth 100000
set_option maxHeartbeats 4000000
open Go.Proofs.Tryz
open Go.Value renaming int→I,slice→V
open Go.IntKind renaming i64→J
open Option renaming some→M,none→U
open Go.Ending renaming returned→If
open Go renaming World→Iv,Calls→I0,Value→I1,maxLen→I2,Addr→I3
open Go.RowKit renaming Below→Ix
open Nat renaming le_refl→Jn,add_zero→Mm,zero_mul→Mn,zero_add→Mu
open Go.RowKit.Below renaming refl→Jx
open Bool renaming and_eq_true→Mb
open List renaming getD→Up
namespace Go.Proofs.YtgfkglhelfkpoaaGreat
section
open Plain
def xR(i:Nat)(l:List Int):Prop:=∀ p q,p<q->q<i->cf l p<=cf l q
def Bn(i j:Nat)(l:List Int):Prop:=(∀ p q,p<q->q<=i->p≠j->q≠j->cf l p<=cf l q)/\∀ q,j<q->q<=i->cf l j<=cf l q
def S9(l:List Int)(j:Nat):List Int:=(l.set j (cf l (j - 1))).set (j - 1) (cf l j)
theorem PD(l:List Int)(j k:Nat)(x:Int)(hj:j<l.length):cf (l.set j x) k=if k=j then x else cf l k:=by
 unfold cf;simp only[Up]
 by_cases h:k=j
 ·subst h;simp[hj]
 ·rw[if_neg h,List.getElem?_set_ne (Ne.symm h)]
variable{l:List Int}{j:Nat}
theorem ae2{k:Nat}(h0:0<j)(h:j<l.length):cf (S9 l j) k=if k=j then cf l (j - 1) else if k=j - 1 then cf l j else cf l k:=by
 unfold S9;rw[PD _ _ _ _ (by rw[List.length_set];omega),PD _ _ _ _ h]
 by_cases h1:k=j - 1
 ·rw[if_pos h1,if_neg ah,if_pos h1]
 ·rw[if_neg h1]
  by_cases h2:k=j
  ·rw[if_pos h2,if_pos h2]
  ·rw[if_neg h2,if_neg h2,if_neg h1]
theorem aad(_h0:0<j)(h:j<l.length):(S9 l j).Perm l:=by
 have h1:j - 1<l.length:=ah;have:=List.set_set_perm («as»:=l) h h1;unfold S9;have e1:cf l (j - 1)=l[j - 1]:=by simp[cf,Up,h1]
 have e2:cf l j=l[j]:=by simp[cf,Up,h]
 rw[e1,e2];exact this
variable{i:Nat}
theorem Bn.start(h:xR i l):Bn i i l:=⟨λp q hpq hq _ hqj=>h p q hpq ah,λq h1 h2=>ah⟩
theorem Bn.stop(h:Bn i j l)(hj:j<=i)(hs:j=0∨¬ cf l j<cf l (j - 1)):xR (i+1) l:=λp q hpq hq=>by
 by_cases hp:p=j
 ·subst hp;exact h.2 q hpq ah
 ·by_cases hqj:q=j
  ·subst hqj
   rcases hs with hs | hs
   ·omega
   ·by_cases h1:p=q - 1
    ·subst h1;omega
    ·have:=h.1 p (q - 1) ah ah hp ah;omega
  ·exact h.1 p q hpq ah hp hqj
theorem Bn.step{i j:Nat}{l:List Int}(h:Bn i j l)(h0:0<j)(hj:j<=i)(hl:i<l.length)(hlt:cf l j<cf l (j - 1)):Bn i (j - 1) (S9 l j):=by
 have hc:∀ k,cf (S9 l j) k=if k=j then cf l (j - 1) else if k=j - 1 then cf l j else cf l k:=λk=>ae2 h0 ah
 refine⟨λp q hpq hq hp hqj=>?_,λq h1 h2=>?_⟩
 ·rw[hc p,hc q,if_neg hp,if_neg hqj]
  by_cases e1:p=j
  ·subst e1
   rw[if_pos rfl,if_neg ah];exact h.1 (p - 1) q ah hq ah ah
  ·rw[if_neg e1]
   by_cases e2:q=j
   ·subst e2
    rw[if_pos rfl];exact h.1 p (q - 1) ah ah ah ah
   ·rw[if_neg e2]
    exact h.1 p q hpq hq e1 e2
 ·rw[hc (j - 1),hc q,if_neg ah,if_pos rfl]
  by_cases e2:q=j
  ·subst e2;rw[if_pos rfl];omega
  ·rw[if_neg e2,if_neg ah]
   exact h.2 q ah h2
def gH(n:Int):List Int->List Int
 | []=>[n]
 | x :: xs=>if x<n then x :: gH n xs else if x=n then x :: xs else n :: x :: xs
variable{n:Int}
theorem C9{y:Int}:y∈gH n l ↔ y=n∨y∈l:=by
 induction l with
 | nil=>simp[gH]
 | cons x xs ih=>
  unfold gH;split
  ·simp only[List.mem_cons,ih]
   constructor
   ·rintro (h | h | h)<;>simp[h]
   ·rintro (h | h | h)<;>simp[h]
  ·split
   ·rename_i h1 h2
    subst h2;simp only[List.mem_cons];constructor
    ·exact .inr
    ·rintro (h | h)<;>simp[h]
   ·simp[List.mem_cons]
theorem AQ(h:l.Pairwise (·<·)):(gH n l).Pairwise (·<·):=by
 induction l with
 | nil=>simp[gH]
 | cons x xs ih=>
  obtain⟨h1,h2⟩:=List.pairwise_cons.1 h;unfold gH;split
  ·refine List.pairwise_cons.2 ⟨λy hy=>?_,ih h2⟩
   rcases C9.1 hy with rfl | hy
   ·assumption
   ·exact h1 y hy
  ·split
   ·exact h
   ·refine List.pairwise_cons.2 ⟨λy hy=>?_,h⟩
    rcases List.mem_cons.1 hy with rfl | hy
    ·omega
    ·have:=h1 y hy;omega
def jX(k:Int):Bool:=fP k 1 5 || k==7
def dJ:Es->Bool
 | .nil=>true
 | .cons k _ _ _ ks r=>(jX k&&dJ ks)&&dJ r
def Nd.plain(x:Nd):Bool:=jX x.k&&dJ x.ks
theorem lS{k:Int}:jX k=true ↔ (k=1∨k=2∨k=3∨k=4∨k=5∨k=7):=by
 unfold jX;simp only[Bool.or_eq_true,beq_iff_eq];rw[bH];omega
def dw(x:Nd)(vars:Int):Bool:=bT [] x vars 0&&decide (x.size<=40)&&x.plain
def nG:Es->List Int->List Int
 | .nil,acc=>acc
 | .cons k n _ _ ks r,acc=>nG r (nG ks (if k=2 then gH n acc else acc))
def xA(k n:Int)(ks:Es)(acc:List Int):List Int:=nG ks (if k=2 then gH n acc else acc)
def Nd.iL(x:Nd):List Int:=xA x.k x.n x.ks []
theorem Kj(es:Es):∀ {acc:List Int},acc.Pairwise (·<·)->(nG es acc).Pairwise (·<·):=by
 induction es with
 | nil=>intro acc h;exact h
 | cons k n p c ks r TI TJ=>
  intro acc h;refine TJ (TI ?_);split
  ·exact AQ h
  ·exact h
theorem Dm(x:Nd):x.iL.Pairwise (·<·):=by
 unfold Nd.iL xA;refine Kj _ ?_;split
 ·exact AQ List.Pairwise.nil
 ·exact List.Pairwise.nil
theorem abA{vars:Int}(es:Es):∀ {k':Int}{i:Nat}{acc:List Int},aK [] 0 es k' i vars=true->dJ es=true->jX k'=true->(∀ y∈acc,0<=y/\y<vars)->∀ y∈nG es acc,0<=y/\y<vars:=by
 induction es with
 | nil=>intro k' i acc _ _ _ h;exact h
 | cons k n p c ks r TI TJ=>
  intro k' i acc hf hp hk h;simp only[aK,Mb] at hf;simp only[dJ,Mb] at hp;have GJ:bQ k' vars i=vars:=by
   unfold bQ;have:=lS.1 hk;rw[if_neg ah]
  rw[GJ] at hf;refine TJ hf.2 hp.2 hk (TI hf.1.2 hp.1.2 hp.1.1 ?_);split
  ·rename_i h2
   intro y hy
   rcases C9.1 hy with rfl | hy
   ·have hn:=hf.1.1
    unfold bL at hn;subst h2;simp at hn;have:=bH.1 hn.2.2;omega
   ·exact h y hy
  ·exact h
theorem GQ:(gH n l).length<=l.length+1:=by
 induction l with
 | nil=>simp[gH]
 | cons x xs ih=>
  unfold gH;split
  ·simp only[List.length_cons];omega
  ·split
   ·simp
   ·simp
theorem Dl(es:Es):∀ (acc:List Int),(nG es acc).length<=acc.length+es.size:=by
 induction es with
 | nil=>intro acc;simp[nG,Es.size]
 | cons k n p c ks r TI TJ=>
  intro acc;show (nG r (nG ks (if k=2 then gH n acc else acc))).length<=_;have h1:=TJ (nG ks (if k=2 then gH n acc else acc));have h2:=TI (if k=2 then gH n acc else acc);have h3:(if k=2 then gH n acc else acc).length<=acc.length+1:=by
   split
   ·exact GQ
   ·omega
  simp only[Es.size];omega
def eF(v:Int)(l r:Nd):Bool:=fP v 0 3&&dw l v&&dw r v&&!(l.k==2)&&r.iL.all (λy=>l.iL.contains y)
end
section
open Go.RowKit Plain
theorem RP(x y:Int)(w:Iv):I0 Tryz.prog 292 #[I J x,I J y] w λe w'=>e=If (.bool (decide (x<y)))/\w'=w:=by
 go_enter func292,ntmps292;go_wp2;go_ret;exact⟨by simp,rfl⟩
theorem RN(B:Nat)(A:Option I3)(cap n:Nat)(l:List Int)(w:Iv)(h:bg w B (V A n cap) l)(hl:l.length=n)(hn:n<=12) :
  I0 Tryz.prog 286 #[V A n cap,I J 0,I J n] w λe w'=>e=If (.tuple #[])/\∃ l',l'.Perm l/\xR n l'/\bg w' B (V A n cap) l'/\Ix B w w':=by
 have IV:=aj h;have Vp:=aj hl;clear h hl;go_enter func286,ntmps286;go_wp2_with fail
 go_loopg [6] (n+2) (λkx s6 wr=>∃ (i:Nat) (l1:List Int),s6=I J (i:Int)/\1<=i/\i<=n+1/\n+1 - i<kx/\(i<=n∨n=0)/\ak (l1.Perm l)/\ak (xR i l1)/\ak (bg wr B (V A n cap) l1)/\ak (Ix B w wr))
 case atStart=>exact⟨1,l,rfl,ah,ah,ah,ah,List.Perm.refl _,(λp q h1 h2=>ah),IV,Jx _ _⟩
 case round=>
  obtain⟨i,l1,rfl,GH,hin,hkx,hi0,HP,HS,HR,HB⟩:=hrel;obtain⟨wo,rfl⟩:=aD wr
  by_cases hlt:i<n
  ·have hiz:(i:Int)<(n:Int):=ah
   have HJ:ak (Bn i i l1):=Bn.start HS.o;clear HS;go_wp2_with fail
   go_loopg [7] (i+1) (λky s7 wr=>∃ (j:Nat) (l2:List Int),s7=I J (j:Int)/\j<=i/\j<ky/\ak (l2.Perm l)/\ak (Bn i j l2)/\ak (bg wr B (V A n cap) l2)/\ak (Ix B w wr))
   case atStart=>exact⟨i,l1,rfl,ah,ah,HP,HJ,HR,HB⟩
   case round=>
    clear HP HJ HR HB;obtain⟨j,l2,rfl,hji,hky,HP,HJ,HR,HB⟩:=hrel;have hl2:l2.length=n:=by rw[HP.o.length_eq];exact Vp.o
    by_cases hj0:j=0
    ·subst hj0
     have HS2:=aj (Bn.stop HJ.o ah (.inl rfl));have hgt:decide ((0:Int)<((0:Nat):Int))=false:=bM;have hgt2:¬ (0:Int)<((0:Nat):Int):=bM;clear HJ;go_wp2_with fail;go_quiet (fail)
     rename Nat=>nq
     have sj:ak (bg (wr.drewN nq) B (V A n cap) l2):=HR.o;have HB2:ak (Ix B w (wr.drewN nq)):=below_drewN' HB.o nq;clear HR HB;go_wp2
     go_roundg (n+1 - (i+1)+1)
     case measure=>omega
     case rel=>exact⟨i+1,l2,by first | rfl | go_num,ah,ah,ah,ah,HP,HS2,sj,HB2⟩
    ·obtain⟨m,rfl⟩:∃ m,j=m+1:=⟨j - 1,ah⟩
     have hRl:bg wr B (V A l2.length cap) l2:=by rw[hl2];exact HR.o
     obtain⟨g,rfl,hg1,hg2,hg3,hg4⟩:=hRl.at_ (n:=n) (v:=m+1) hl2.symm ah;obtain⟨g',e',_,_,hg5,hg6⟩:=hRl.at_ (n:=n) (v:=m) hl2.symm ah;injection e' with e';injection e' with e';subst e'
     have hmz:(0:Int)<((m+1:Nat):Int):=ah;have hmd:decide ((0:Int)<((m+1:Nat):Int))=true:=decide_eq_true hmz;have hws:IntKind.i64.wrap (((m+1:Nat):Int) - 1)=(m:Int):=by rw[IntKind.wrap_i64];omega
     have hm0:(0:Int)<=((m:Nat):Int):=ah;have hmn:((m:Nat):Int)<(n:Int):=ah;have amC:((m+1:Nat):Int)<(n:Int):=ah;have Eu:(0:Int)<=((m+1:Nat):Int):=ah;have HCX:ak (S9 l2 (m+1)=(l2.set (m+1) (cf l2 m)).set m (cf l2 (m+1))):=rfl;have LX:ak (bg ((wr.setCell ⟨g,m+1,U⟩ (I J (cf l2 m))).setCell ⟨g,m,U⟩ (I J (cf l2 (m+1)))) B (V (M ⟨g,0,U⟩) n cap) (S9 l2 (m+1))):=by
      have h:=(hRl.setAt (m+1) (cf l2 m)).setAt m (cf l2 (m+1));rw[List.length_set,List.length_set,hl2] at h;exact h
     have HJS:ak (cf l2 (m+1)<cf l2 m->Bn i m (S9 l2 (m+1))):=λh=>HJ.o.step ah hji ah h
     have HJE:ak (¬ cf l2 (m+1)<cf l2 m->xR (i+1) l2):=λh=>HJ.o.stop hji (.inr h)
     have r_:ak ((S9 l2 (m+1)).Perm l):=(aad ah ah).trans HP.o;obtain⟨x,hx⟩:=aD (cf l2 (m+1))
     obtain⟨y,hy⟩:=aD (cf l2 m)
     rw[<-hx] at hg3 LX HJS HJE;rw[<-hy] at hg5 LX HJS HJE;have vR:=aj (λwx=>RP x y wx);clear hx hy HJ hRl HCX
     by_cases hxy:x<y
     ·have hd:decide (x<y)=true:=decide_eq_true hxy
      have HJ2:=aj (HJS.o hxy);rw[hd] at vR;clear HJS HJE;go_wp2_with fail;go_quiet (first | (go_at_call 292;exact Calls.quiet_of_same (vR.o _)))
      rename Nat=>nq
      have ajz:ak (bg (((wr.drewN nq).setCell ⟨g,m+1,U⟩ (I J y)).setCell ⟨g,m,U⟩ (I J x)) B (V (M ⟨g,0,U⟩) n cap) (S9 l2 (m+1))):=LX.o;have ajf:ak (Ix B w (((wr.drewN nq).setCell ⟨g,m+1,U⟩ (I J y)).setCell ⟨g,m,U⟩ (I J x))):=((below_drewN' HB.o nq).setCell (p:=⟨g,m+1,U⟩) hg1 _).setCell (p:=⟨g,m,U⟩) hg1 _;have k3:(wr.drewN nq).cell? ⟨g,m+1,U⟩=M (I J x):=hg3
      have k4:(wr.drewN nq).frozen? ⟨g,m+1,U⟩=false:=hg4;have k5:(wr.drewN nq).cell? ⟨g,m,U⟩=M (I J y):=hg5;have k6:(wr.drewN nq).frozen? ⟨g,m,U⟩=false:=hg6;clear hg3 hg4 hg5 hg6 HR HB LX;generalize wr.drewN nq=W2 at *;go_wp2_with fail
      go_region
      all_goals
       have ajA:ak (bg ((W2.setCell ⟨g,m+1,U⟩ (I J y)).setCell ⟨g,m,U⟩ (I J x)).drew B (V (M ⟨g,0,U⟩) n cap) (S9 l2 (m+1))):=ajz.o;have ajg:ak (Ix B w ((W2.setCell ⟨g,m+1,U⟩ (I J y)).setCell ⟨g,m,U⟩ (I J x)).drew):=ajf.o.drew;go_wp2
       go_roundg (m+1)
       case measure=>omega
       case rel=>exact⟨m,S9 l2 (m+1),by first | rfl | go_num,ah,ah,r_,HJ2,ajA,ajg⟩
     ·have hd:decide (x<y)=false:=decide_eq_false hxy
      have HS2:=aj (HJE.o hxy);rw[hd] at vR;clear HJS HJE;go_wp2_with fail;go_quiet (first | (go_at_call 292;exact Calls.quiet_of_same (vR.o _)))
      rename Nat=>nq
      have sj:ak (bg (wr.drewN nq) B (V (M ⟨g,0,U⟩) n cap) l2):=HR.o;have HB2:ak (Ix B w (wr.drewN nq)):=below_drewN' HB.o nq;clear HR HB;go_wp2
      go_roundg (n+1 - (i+1)+1)
      case measure=>omega
      case rel=>exact⟨i+1,l2,by first | rfl | go_num,ah,ah,ah,ah,HP,HS2,sj,HB2⟩
  ·have hiz:¬ (i:Int)<(n:Int):=ah
   have HS2:ak (xR n l1):=λp q h1 h2=>HS.o p q h1 ah
   go_wp2
   first | go_end0 | (refine bodyPost_ret (v:=.tuple #[]) (by simp[results,results286,go_sem]) rfl ?_)
   exact⟨rfl,l1,HP.o,HS2.o,HR.o,HB.o⟩
theorem abF(B:Nat)(A:Option I3)(cap n:Nat)(l:List Int)(lim:Int)(w:Iv)(h:bg w B (V A n cap) l)(hl:l.length=n)(hn:n<=12) :
  I0 Tryz.prog 283 #[V A n cap,I J 0,I J n,I J lim] w λe w'=>e=If (.tuple #[])/\∃ l',l'.Perm l/\xR n l'/\bg w' B (V A n cap) l'/\Ix B w w':=by
 have HI:=aj (RN B A cap n l w h hl hn);have hws:IntKind.i64.wrap ((n:Int) - 0)=(n:Int):=by rw[IntKind.wrap_i64];omega
 have abm:(n:Int)<=12:=ah;clear h hl;go_enter func283,ntmps283;go_wp2_with fail;refine wp_loop_rounds 1 ?_;rw[rounds_succ];go_wp2_with (go_at_call 286;refine HI.o.mono ?_;rintro e w1 ⟨rfl,l1,hp,hs,hr,hb⟩)
 first | go_end0 | go_ret | (refine bodyPost_ret (v:=.tuple #[]) (by simp[results,results283,go_sem]) rfl ?_)
 exact⟨rfl,l1,hp,hs,hr,hb⟩
theorem I7(n:Nat)(w:Iv)(hn:n<=12):I0 Tryz.prog 284 #[.int .u64 n] w λe w'=>(∃ v:Int,e=If (I J v))/\w=w':=by
 have h:n=0∨n=1∨n=2∨n=3∨n=4∨n=5∨n=6∨n=7∨n=8∨n=9∨n=10∨n=11∨n=12:=ah;have h64:∀ wx,I0 Tryz.prog 296 #[.int .u64 n] wx λe w'=>(∃ v:Int,e=If (I J v))/\wx=w':=by
  intro wx
  rcases h with rfl | rfl | rfl | rfl | rfl | rfl | rfl | rfl | rfl | rfl | rfl | rfl | rfl <;>
  ·go_enter func296,ntmps296
   go_wp2;go_ret;exact⟨⟨_,rfl⟩,rfl⟩
 have H64:=aj h64;clear h h64;go_enter func284,ntmps284;go_wp2_with (go_at_call 296;refine (H64.o _).mono ?_;rintro e w' ⟨⟨v,rfl⟩,rfl⟩);go_ret;exact⟨⟨_,rfl⟩,rfl⟩
theorem SV(B:Nat)(A:Option I3)(cap n:Nat)(l:List Int)(w:Iv)(h:bg w B (V A n cap) l)(hl:l.length=n)(hn:n<=12) :
  I0 Tryz.prog 271 #[V A n cap] w λe w'=>e=If (.tuple #[])/\∃ l',l'.Perm l/\xR n l'/\bg w' B (V A n cap) l'/\Ix B w w':=by
 have HI:=aj (λlim=>abF B A cap n l lim w h hl hn);have HL:=aj (λwx=>I7 n wx hn);have hwu:IntKind.u64.wrap (n:Int)=(n:Int):=by unfold IntKind.wrap;simp[IntKind.bits,IntKind.signed];omega
 clear h hl;go_enter func271,ntmps271;go_wp2_with (first
  | (go_at_call 284;refine (HL.o _).mono ?_;rintro e w' ⟨⟨v,rfl⟩,rfl⟩)
  | (go_at_call 283;refine (HI.o _).mono ?_;rintro e w1 ⟨rfl,l1,hp,hs,hr,hb⟩))
 first | go_end0 | go_ret | (refine bodyPost_ret (v:=.tuple #[]) (by simp[results,results271,go_sem]) rfl ?_)
 exact⟨rfl,l1,hp,hs,hr,hb⟩
abbrev vi0 (x:Int):I1:=I J x
def Ee(w:Iv)(base:Nat)(v:I1)(l:List Int):Prop:=w.ownsRow base 2 1 v l.length (l.map vi0)
variable{w:Iv}{base cap:Nat}{A:Option I3}{l:List Int}
theorem Ee.at_(h:Ee w base (V A l.length cap) l){k:Nat}(hk:k<l.length) :
  ∃ g x,A=M ⟨g,0,U⟩/\base<=g/\g<w.heap.size/\l[k]? = M x/\w.cell? ⟨g,k,U⟩=M (vi0 x)/\w.frozen? ⟨g,k,U⟩=false:=by
 obtain⟨g,bB,hv,hb,hlt⟩:=World.ownsRow.form h ah;have hA:A=M ⟨g,0,U⟩:=by injection hv
 have hc:cap=bB:=by injection hv
 subst hA;subst hc;refine⟨g,l[k],rfl,hb,hlt,List.getElem?_eq_getElem hk, ?_,World.ownsRow.frozenAt h k⟩;rw[World.ownsRow.cellAt h k ah];simp[hk]
variable{v:I1}
theorem Ee.push{wr w2:Iv}{B:Nat}{v2:I1}{out:List Int}{x:Int}(o:Obj)(h:Ee wr base v out)
  (hown:w2.ownsRow base 2 1 v2 (out.length+1) (out.map vi0++[vi0 x])) (hg:(wr.alloc o).grownBy w2 v.ownBlock) (hb:Ix B w wr) (hB:B<=base) (hBs:B<=w.heap.size:=by exact Jn _) :
  Ee w2 base v2 (out++[x])/\Ix B w w2:=by
 refine⟨?_, ?_⟩
 ·unfold Ee;simpa using hown
 ·refine (hb.alloc (by have:=hb.size;omega) _).grown hg (by have:=hb.size;simp;omega) (λq hq=>by have:=(World.ownsRow.lt h q hq).1;omega)
theorem Ee.own(h:Ee w base v l):w.ownsRow base 2 1 v l.length (l.map vi0):=h
theorem Ee.ints(h:Ee w base (V A l.length cap) l):Ints w A l:=λhn=>by
 obtain⟨g,x,rfl,_,hl,_,_⟩:=h.at_ hn;refine⟨g,0,rfl,hl,λj x hx=>?_⟩;have hj:j<l.length:=(List.getElem?_eq_some_iff.1 hx).1;obtain⟨g',x',e,_,_,hx',hc,_⟩:=h.at_ hj;obtain rfl:g=g':=by simpa using e
 rw[hx] at hx';obtain rfl:x=x':=by simpa using hx'
 rw[Mu];exact hc
def Cq(l:List Int)(a:Int)(w:Iv)(e:Ending)(w':Iv):Prop:=
 ∃ A cap,e=If (V A (gH a l).length cap)/\Ee w' w.heap.size (V A (gH a l).length cap) (gH a l)/\Ix w.heap.size w w'
theorem ZP(A:Option I3)(cap:Nat)(l:List Int)(a:Int)(w:Iv)(hI:Ints w A l)(hl:l.length<=400) :
  I0 Tryz.prog 245 #[V A l.length cap,I J a] w (Cq l a w):=by
 obtain⟨i0,hi,hz0,hz1,hz2⟩:=info_parts Tryz.infoI;go_enter func245,ntmps245;go_wp2
 go_loopw [5,6,7] (λo dn i wr=>∃ (k:Nat) (Ao:Option I3) (co:Nat) (d:Bool) (out:List Int),k<=l.length/\i=I J (k:Int)/\dn=.bool d/\o=V Ao out.length co/\out.length<=k+d.toNat/\ak (Ee wr w.heap.size (V Ao out.length co) out)/\ak (Ix w.heap.size w wr)/\ak (gH a l=if d then out++l.drop k else out++gH a (l.drop k))) (λ_ _ i _=>(l.length - intOf i).toNat)
 case atStart=>
  have h:=World.ownsRow_made (e:=2) (size:=1) w #[] 0 (Jn _) (by unfold I2;omega) rfl;refine⟨0,M ⟨w.heap.size,0,U⟩,0,false,[],ah,bE,rfl,rfl,by simp, ?_,by show Ix _ _ _;go_grown,by show _=_;simp⟩;show Ee _ _ _ _;unfold Ee;exact h
 case round=>
  obtain⟨k,Ao,co,d,out,hk,rfl,rfl,rfl,P6,HS,HB,HE⟩:=hrel
  by_cases hlt:k<l.length
  ·obtain⟨b,o,x,rfl,hx,hc⟩:=(hI.below HB.o).at_ hlt
   have HX:=aj hx;clear hx;have ak2:out.length<=k+1:=by cases d<;>simp at P6<;>omega
   have HD:ak (l.drop k=x :: l.drop (k+1)):=by
    have hx:=HX.o;rw[List.getElem?_eq_getElem hlt] at hx;show _=_;rw[List.drop_eq_getElem_cons hlt];congr 1;simpa using hx
   cases d
   ·by_cases h1:x<a
    ·have h1':¬ (a<=x):=ah
     go_wp2_with (at_builtin;refine wpList_append_own _ rfl _ _ 28 rfl w.heap.size 2 i0 (I J 0) 1 8 underlying28 hi hz0 hz1 hz2 rfl bM _ out.length _ rfl (HS.o.own.alloc _) ⟨wr.heap.size,0,U⟩ 1 1 [vi0 x] rfl rfl ?ca1 ?ca2 ?ca3 ?ca4 ?ca5 ?_)
     try (case ca1=>exact cell_one_new _ _ _)
     try (case ca2=>first | rfl | (intro u hu;simp at hu;subst hu;rfl))
     case ca3=>unfold I2;omega
     case ca4=>omega
     case ca5=>have:=HB.o.size;simp;try omega
     ·intro v2 w2 hown hg _
      obtain⟨hS2,hB2⟩:=Ee.push _ HS.o hown hg HB.o (Jn _);obtain⟨g2,cp2,rfl,_,_⟩:=World.ownsRow.form hown ah;have HS2:=aj hS2;have HB2:=aj hB2;clear hown hg hS2 hB2 HS HB hc;have H1:=aj h1;clear h1 h1';go_wp2
      go_roundw
      case rel=>exact⟨k+1,M ⟨g2,0,U⟩,cp2,false,out++[x],ah,bE,rfl,by simp,by simp<;>(try simp at P6)<;>omega,by simpa using HS2,HB2,by show _=_;rw[HE.o,HD.o];simp[gH,H1.o]⟩
      case measure=>simp[intOf];omega
    ·by_cases h2:x=a
     ·subst h2
      go_wp2_with (at_builtin;refine wpList_append_own _ rfl _ _ 28 rfl w.heap.size 2 i0 (I J 0) 1 8 underlying28 hi hz0 hz1 hz2 rfl bM _ out.length _ rfl (HS.o.own.alloc _) ⟨wr.heap.size,0,U⟩ 1 1 [vi0 x] rfl rfl ?cb1 ?cb2 ?cb3 ?cb4 ?cb5 ?_)
      try (case cb1=>exact cell_one_new _ _ _)
      try (case cb2=>first | rfl | (intro u hu;simp at hu;subst hu;rfl))
      case cb3=>unfold I2;omega
      case cb4=>omega
      case cb5=>have:=HB.o.size;simp;try omega
      ·intro v2 w2 hown hg _
       obtain⟨hS2,hB2⟩:=Ee.push _ HS.o hown hg HB.o (Jn _);obtain⟨g2,cp2,rfl,_,_⟩:=World.ownsRow.form hown ah;have HS2:=aj hS2;have HB2:=aj hB2;clear hown hg hS2 hB2 HS HB hc;go_wp2
       go_roundw
       case rel=>exact⟨k+1,M ⟨g2,0,U⟩,cp2,true,out++[x],ah,bE,rfl,by simp,by simp<;>(try simp at P6)<;>omega,by simpa using HS2,HB2,by show _=_;rw[HE.o,HD.o];simp[gH]⟩
       case measure=>simp[intOf];omega
     ·have h3:a<x:=ah
      have h4:a<=x:=ah;simp only[Bool.toNat_false,Mm] at P6;have HP:ak (gH a (x :: l.drop (k+1))=a :: x :: l.drop (k+1)):=by show _=_;simp[gH,h1,h2]
      clear h1 h2;go_wp2_with (at_builtin;refine wpList_append_own _ rfl _ _ 28 rfl w.heap.size 2 i0 (I J 0) 1 8 underlying28 hi hz0 hz1 hz2 rfl bM _ out.length _ rfl (HS.o.own.alloc _) ⟨wr.heap.size,0,U⟩ 1 1 [vi0 a] rfl rfl ?cc1 ?K_ ?cc3 ?cc4 ?cc5 ?_)
      try (case cc1=>exact cell_one_new _ _ _)
      try (case K_=>first | rfl | (intro u hu;simp at hu;subst hu;rfl))
      case cc3=>unfold I2;omega
      case cc4=>omega
      case cc5=>have:=HB.o.size;simp;try omega
      ·intro v2 w2 hown hg _
       obtain⟨hS2,hB2⟩:=Ee.push _ HS.o hown hg HB.o (Jn _);obtain⟨g2,cp2,rfl,_,_⟩:=World.ownsRow.form hown ah;obtain⟨bb,oo,xx,ee,GN,hcc⟩:=(hI.below hB2).at_ hlt;obtain⟨rfl,rfl⟩:b=bb/\o=oo:=by simpa using ee
       have hq:=HX.o;rw[GN] at hq;obtain rfl:xx=x:=by simpa using hq
       obtain⟨Sc,ho2,hl2⟩:∃ Sc,Sc=out++[a]/\Sc.length=out.length+1:=⟨_,rfl,by simp⟩
       have rO:=aj ho2;rw[<-ho2] at hS2;rw[<-hl2] at hS2 ⊢;have HL2:=aj hl2;have amG:Sc.length<=k+1:=ah;clear hown hg HS HB hc hq GN ee ho2 hl2;have HS:=aj hS2;have HB:=aj hB2;clear hS2 hB2;go_wp2_with (at_builtin;refine wpList_append_own _ rfl _ _ 28 rfl w.heap.size 2 i0 (I J 0) 1 8 underlying28 hi hz0 hz1 hz2 rfl bM _ Sc.length _ rfl (HS.o.own.alloc _) ⟨w2.heap.size,0,U⟩ 1 1 [vi0 xx] rfl rfl ?cd1 ?cd2 ?cd3 ?cd4 ?cd5 ?_)
       try (case cd1=>exact cell_one_new _ _ _)
       try (case cd2=>first | rfl | (intro u hu;simp at hu;subst hu;rfl))
       case cd3=>unfold I2;omega
       case cd4=>omega
       case cd5=>have:=HB.o.size;simp;try omega
       ·intro v3 w3 hown hg _
        obtain⟨hS2,hB2⟩:=Ee.push _ HS.o hown hg HB.o (Jn _);obtain⟨g2,cp2,rfl,_,_⟩:=World.ownsRow.form hown ah;have HS2:=aj hS2;have HB2:=aj hB2;clear hown hg hS2 hB2 HS HB hcc;go_wp2
        go_roundw
        case rel=>exact⟨k+1,M ⟨g2,0,U⟩,cp2,true,Sc++[xx],ah,bE,rfl,by simp,by simp<;>(try simp at P6)<;>omega,by simpa using HS2,HB2,by show _=_;rw[HE.o,HD.o];rw[HP.o,rO.o];simp⟩
        case measure=>simp[intOf];omega
   ·go_wp2_with (at_builtin;refine wpList_append_own _ rfl _ _ 28 rfl w.heap.size 2 i0 (I J 0) 1 8 underlying28 hi hz0 hz1 hz2 rfl bM _ out.length _ rfl (HS.o.own.alloc _) ⟨wr.heap.size,0,U⟩ 1 1 [vi0 x] rfl rfl ?ce1 ?ce2 ?ce3 ?ce4 ?ce5 ?_)
    try (case ce1=>exact cell_one_new _ _ _)
    try (case ce2=>first | rfl | (intro u hu;simp at hu;subst hu;rfl))
    case ce3=>unfold I2;omega
    case ce4=>omega
    case ce5=>have:=HB.o.size;simp;try omega
    ·intro v2 w2 hown hg _
     obtain⟨hS2,hB2⟩:=Ee.push _ HS.o hown hg HB.o (Jn _);obtain⟨g2,cp2,rfl,_,_⟩:=World.ownsRow.form hown ah;have HS2:=aj hS2;have HB2:=aj hB2;clear hown hg hS2 hB2 HS HB hc;go_wp2
     go_roundw
     case rel=>exact⟨k+1,M ⟨g2,0,U⟩,cp2,true,out++[x],ah,bE,rfl,by simp,by simp<;>(try simp at P6)<;>omega,by simpa using HS2,HB2,by show _=_;rw[HE.o,HD.o];simp⟩
     case measure=>simp[intOf];omega
  ·obtain rfl:k=l.length:=ah
   have ak2:out.length<=l.length+1:=by cases d<;>simp at P6<;>omega
   cases d
   ·go_wp2_with (at_builtin;refine wpList_append_own _ rfl _ _ 28 rfl w.heap.size 2 i0 (I J 0) 1 8 underlying28 hi hz0 hz1 hz2 rfl bM _ out.length _ rfl (HS.o.own.alloc _) ⟨wr.heap.size,0,U⟩ 1 1 [vi0 a] rfl rfl ?cf1 ?cf2 ?cf3 ?cf4 ?cf5 ?_)
    try (case cf1=>exact cell_one_new _ _ _)
    try (case cf2=>first | rfl | (intro u hu;simp at hu;subst hu;rfl))
    case cf3=>unfold I2;omega
    case cf4=>omega
    case cf5=>have:=HB.o.size;simp;try omega
    ·intro v2 w2 hown hg _
     obtain⟨hS2,hB2⟩:=Ee.push _ HS.o hown hg HB.o (Jn _);obtain⟨g2,cp2,rfl,_,_⟩:=World.ownsRow.form hown ah;have HS2:=aj hS2;have HB2:=aj hB2;clear hown hg hS2 hB2 HS HB;go_wp2;go_ret;have hF:gH a l=out++[a]:=by rw[HE.o];simp[gH]
     rw[Cq,hF];have e:(out++[a]).length=out.length+1:=by simp
     rw[e];exact⟨_,_,rfl,HS2.o,HB2.o⟩
   ·go_wp2
    go_ret;have hF:gH a l=out:=by rw[HE.o];simp
    rw[Cq,hF];exact⟨_,_,rfl,HS.o,HB.o⟩
end
section
open Go
section
variable {P:Program}{l:List Oper}{Q:Exit->Act->Iv->Prop}{S:Iv->Prop}{n:Nat}
variable{i fuel:Nat}{oi:Oper}{listed:Array Bool}{a:Act}{w:Iv}
theorem aO.alP{v:I1}(hB:xG l.toArray n=true)(hi:l[i]? = M oi)(hin:i<n)
  (hf:Region.free .any l.toArray listed i=true) (hr:(Region.ready .any l.toArray listed).contains i=true)
  (hQ:∀ c a w,Q (.panic c) (a.put oi.dst v) w->Q (.panic c) a w) (hy:YieldsIf P l.toArray S oi v a) (hS:S w)
  (h:aO P l.toArray Q S n fuel (listed.setIfInBounds i true) (a.put oi.dst v) w):aO P l.toArray Q S n (fuel+1) listed a w:=
 aO.take hB (by rw[List.getElem?_toArray];exact hi) hin hf hr hQ hy hS h
theorem aO.bU(hi:l[i]? = M oi)(hin:i<n)(hr:Region.ready .any l.toArray listed=[i])
  (h:∀ K':Act->Iv->Prop,Shut (∀ a w,S w->(S w->aO P l.toArray Q S n fuel (listed.setIfInBounds i true) a w)->K' a w)->if Region.wanted oi (yielded l.toArray a.tmps)=true then Oper.wp P oi a w K' Q else K' (a.put oi.dst undef) w) :
  aO P l.toArray Q S n (fuel+1) listed a w:=aO.step (by rw[List.getElem?_toArray];exact hi) hin hr h
theorem aO.gL(hi:l[n]? = M oi)(hr:Region.ready .any l.toArray listed=[n])(hd:Region.ready .any l.toArray (listed.setIfInBounds n true)=[])
  (h:∀ K':Act->Iv->Prop,Shut (∀ a w,Q .normal a w->K' a w)->if Region.wanted oi (yielded l.toArray a.tmps)=true then Oper.wp P oi a w K' Q else K' (a.put oi.dst undef) w) :
  aO P l.toArray Q S n (fuel+1) listed a w:=aO.last (by rw[List.getElem?_toArray];exact hi) hr hd h
end
end
section
open Go.RowKit Plain
def aaL(ks:Es):Prop:=∀ (k n p c:Int) (b o B:Nat) (w:Iv),dF w B k n p c ks b o->B<=w.heap.size->ks.size<=1048576 ->
 I0 Tryz.prog 195 #[ptr b o] w λe w'=>e=If (.bool (Nd.plain ⟨k,n,p,c,ks⟩))/\Ix w.heap.size w w'
theorem Oj:∀ (m:Nat) (ks:Es),ks.size<m->aaL ks:=by
 intro m
 induction m with
 | zero=>intro es h;omega
 | succ m ih=>
 intro ks hm k n p c b o B w hE hB hsz0;have IH:=aj ih;clear ih;obtain⟨lD,h0,h1,h2,h3,K,cap,b',o',h4,hc,hcm,hK,hks⟩:=hE;have gI:=aj hks;clear hks;have fF:cap<=9223372036854775807:=by unfold I2 at hcm;omega
 have hbw:b<w.heap.size:=ah;have hls:=Es.aF ks;cases hin:fP k 1 5
 case false=>
  by_cases h7:k=7
  ·subst h7
   have HV:ak (Nd.plain ⟨7,n,p,c,ks⟩=dJ ks):=by show _=_;simp[Nd.plain,jX]
   rw[HV.o];have oI:=aj (λwx=>wh false 7 1 5 hin wx);have h77:((7:Int) != 7)=false:=rfl;clear hin;go_enter func195,ntmps195;go_wp2_with (go_at_call 106;refine (oI.o _).mono ?_;rintro e w' ⟨rfl,JU⟩;obtain rfl:=JU.symm)
   go_loopw [3] (λi wr=>∃ (j:Nat) (es':Es),i=I J (j:Int)/\j+es'.len=ks.len/\ak (dJ ks=dJ es')/\ak (es'.size<=ks.size)/\ak (aI wr B es' b' (o'+j*5))/\ak (Ix w.heap.size w wr)) (λi _=>ks.len - (intOf i).toNat)
   case atStart=>exact⟨0,ks,bE,ah,rfl,Jn _,by show aI _ _ _ _ _;rw[Mn,Mm];exact gI.o,Jx _ _⟩
   case round=>
    obtain⟨j,es',rfl,hj,hy,hsz,HE,HB⟩:=hrel;have h4':wr.cell? ⟨b,o+4,U⟩=M (V K ks.len cap):=(HB.o.cell (p:=⟨b,_,U⟩) hbw).trans h4;cases es' with
    | nil=>
     simp only[Es.len] at hj;go_wp2;go_ret;exact⟨by rw[hy.o];rfl,HB.o⟩
    | cons kk n' p' c' aY r=>
     simp only[Es.len] at hj;have hK:=hK ah;subst hK;obtain⟨hel,hr⟩:=HE.o;have lH:=aj hel;have HR:=aj hr;have hrs:ak (r.size<=ks.size/\aY.size<ks.size):=by
      have:=hsz.o;simp only[Es.size] at this;exact⟨ah,ah⟩
     clear hel hr HE;have HC:=aj (IH.o aY (by have:=hrs.o;omega) kk n' p' c' b' (o'+j*5) B wr lH.o (by have:=HB.o.size;omega) (by have:=hrs.o;omega));have HY:ak (dJ ks=(Nd.plain ⟨kk,n',p',c',aY⟩&&dJ r)):=hy.o;cases hpl:Nd.plain ⟨kk,n',p',c',aY⟩
     ·rw[hpl] at HC HY
      have jT:ak (dJ ks=false):=by show _=_;rw[HY.o];rfl
      clear hpl;go_wp2_with fail;refine HC.o.mono ?_;rintro e w1 ⟨rfl,hb1⟩;have HB1:=aj (aH HB.o hb1);clear hb1;go_wp2;go_ret;exact⟨by rw[jT.o];rfl,HB1.o⟩
     ·rw[hpl] at HC HY
      have jT:ak (dJ ks=dJ r):=by show _=_;rw[HY.o];rfl
      clear hpl;go_wp2_with fail;refine HC.o.mono ?_;rintro e w1 ⟨rfl,hb1⟩;have gY:ak (aI w1 B r b' (o'+(j+1)*5)):=by
       have:=HR.o.below (hb1.mono (by have:=HB.o.size;omega))
       rwa [show o'+j*5+5=o'+(j+1)*5 by omega] at this
      have HB1:=aj (aH HB.o hb1);clear hb1;go_wp2
      go_roundw
      case rel=>exact⟨j+1,r,bE,ah,jT,hrs.o.1,gY,HB1⟩
      case measure=>simp[intOf];omega
  ·have HV:ak (Nd.plain ⟨k,n,p,c,ks⟩=false):=by show _=_;simp[Nd.plain,jX,hin,h7]
   rw[HV.o];have oI:=aj (λwx=>wh false k 1 5 hin wx);have h77:(k != 7)=true:=by simp[h7]
   clear hin;go_enter func195,ntmps195;go_wp2_with (go_at_call 106;refine (oI.o _).mono ?_;rintro e w' ⟨rfl,JU⟩;obtain rfl:=JU.symm);go_ret;exact⟨rfl,Jx _ _⟩
 case true=>
  have HV:ak (Nd.plain ⟨k,n,p,c,ks⟩=dJ ks):=by show _=_;simp[Nd.plain,jX,hin]
  rw[HV.o];have oI:=aj (λwx=>wh true k 1 5 hin wx);clear hin;go_enter func195,ntmps195;go_wp2_with (go_at_call 106;refine (oI.o _).mono ?_;rintro e w' ⟨rfl,JU⟩;obtain rfl:=JU.symm)
  go_loopw [3] (λi wr=>∃ (j:Nat) (es':Es),i=I J (j:Int)/\j+es'.len=ks.len/\ak (dJ ks=dJ es')/\ak (es'.size<=ks.size)/\ak (aI wr B es' b' (o'+j*5))/\ak (Ix w.heap.size w wr)) (λi _=>ks.len - (intOf i).toNat)
  case atStart=>exact⟨0,ks,bE,ah,rfl,Jn _,by show aI _ _ _ _ _;rw[Mn,Mm];exact gI.o,Jx _ _⟩
  case round=>
   obtain⟨j,es',rfl,hj,hy,hsz,HE,HB⟩:=hrel;have h4':wr.cell? ⟨b,o+4,U⟩=M (V K ks.len cap):=(HB.o.cell (p:=⟨b,_,U⟩) hbw).trans h4;cases es' with
   | nil=>
    simp only[Es.len] at hj;go_wp2;go_ret;exact⟨by rw[hy.o];rfl,HB.o⟩
   | cons kk n' p' c' aY r=>
    simp only[Es.len] at hj;have hK:=hK ah;subst hK;obtain⟨hel,hr⟩:=HE.o;have lH:=aj hel;have HR:=aj hr;have hrs:ak (r.size<=ks.size/\aY.size<ks.size):=by
     have:=hsz.o;simp only[Es.size] at this;exact⟨ah,ah⟩
    clear hel hr HE;have HC:=aj (IH.o aY (by have:=hrs.o;omega) kk n' p' c' b' (o'+j*5) B wr lH.o (by have:=HB.o.size;omega) (by have:=hrs.o;omega));have HY:ak (dJ ks=(Nd.plain ⟨kk,n',p',c',aY⟩&&dJ r)):=hy.o;cases hpl:Nd.plain ⟨kk,n',p',c',aY⟩
    ·rw[hpl] at HC HY
     have jT:ak (dJ ks=false):=by show _=_;rw[HY.o];rfl
     clear hpl;go_wp2_with fail;refine HC.o.mono ?_;rintro e w1 ⟨rfl,hb1⟩;have HB1:=aj (aH HB.o hb1);clear hb1;go_wp2;go_ret;exact⟨by rw[jT.o];rfl,HB1.o⟩
    ·rw[hpl] at HC HY
     have jT:ak (dJ ks=dJ r):=by show _=_;rw[HY.o];rfl
     clear hpl;go_wp2_with fail;refine HC.o.mono ?_;rintro e w1 ⟨rfl,hb1⟩;have gY:ak (aI w1 B r b' (o'+(j+1)*5)):=by
      have:=HR.o.below (hb1.mono (by have:=HB.o.size;omega))
      rwa [show o'+j*5+5=o'+(j+1)*5 by omega] at this
     have HB1:=aj (aH HB.o hb1);clear hb1;go_wp2
     go_roundw
     case rel=>exact⟨j+1,r,bE,ah,jT,hrs.o.1,gY,HB1⟩
     case measure=>simp[intOf];omega
theorem JH(A:Option I3)(cap:Nat)(l:List Int)(x:Int)(w:Iv)(hA:Ints w A l)(hl:l.length<=1000000) :
  I0 Tryz.prog 122 #[V A l.length cap,I J x] w λe w'=>e=If (.bool (l.contains x))/\w=w':=by
 have HA:=aj hA;obtain⟨rr,dG⟩:=aD (l.contains x)
 rw[<-dG];have HRR:=aj dG;clear hA dG;go_enter func122,ntmps122;go_wp2_with fail
 go_loopg [5] (l.length+1) (λkx s3 wr=>∃ (i:Nat),s3=I J (i:Int)/\i<=l.length/\l.length - i<kx/\ak (l.contains x=(l.drop i).contains x)/\w=wr)
 case atStart=>exact⟨0,rfl,ah,ah,by show _=_;rw[List.drop_zero],rfl⟩
 case round=>
  obtain⟨i,rfl,hin,hkx,HD,rfl⟩:=hrel
  by_cases hlt:i<l.length
  ·have hiz:(i:Int)<(l.length:Int):=ah
   obtain⟨b,o,rfl,hb,hc⟩:=HA.o.zC ah;have e0:=hc i hlt;have HX:ak (l.drop i=cf l i :: l.drop (i+1)):=by
    show _=_;rw[List.drop_eq_getElem_cons hlt];congr 1;simp[cf,Up,hlt]
   obtain⟨y,hy⟩:=aD (cf l i)
   rw[<-hy] at e0 HX;clear hc hy
   by_cases hxy:y=x
   ·subst hxy
    have HV:ak (l.contains y=true):=by show _=_;rw[HD.o,HX.o];simp
    go_wp2;go_ret;exact⟨by rw[HRR.o.trans HV.o];rfl,rfl⟩
   ·have HV:ak (l.contains x=(l.drop (i+1)).contains x):=by show _=_;rw[HD.o,HX.o];simp[Ne.symm hxy]
    have hxb:(y==x)=false:=beq_eq_false_iff_ne.2 hxy;go_wp2
    go_roundg (l.length - (i+1)+1)
    case measure=>omega
    case rel=>exact⟨i+1,by first | rfl | go_num,ah,ah,HV,rfl⟩
  ·obtain rfl:i=l.length:=ah
   have hiz:¬ (l.length:Int)<(l.length:Int):=ah;have HV:ak (l.contains x=false):=by show _=_;rw[HD.o,List.drop_length];rfl
   go_wp2;go_ret;exact⟨by rw[HRR.o.trans HV.o];rfl,rfl⟩
end
end Go.Proofs.YtgfkglhelfkpoaaGreat
