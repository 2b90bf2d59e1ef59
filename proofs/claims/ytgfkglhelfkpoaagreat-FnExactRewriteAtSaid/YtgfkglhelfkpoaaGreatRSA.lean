/- Parts of the proof. -/
import Derived.Test.YtgfkglhelfkpoaaGreatRZA
import Derived.Shelf.SlSortCmp.KitK
set_option maxRecDepth 100000
set_option maxHeartbeats 4000000
open Go.Proofs.Tryz
open Go.Value renaming int→I,slice→V
open Go.IntKind renaming i64→J
open Option renaming some→M,none→U
open Go.Ending renaming returned→If
open Go.Obj renaming cells→Is
open Go renaming World→Iv,Calls→I0,Value→I1,Addr→I3
open Go.RowKit renaming Below→Ix
open Nat renaming le_refl→Jn,add_zero→Mm
open Bool renaming and_eq_true→Mb
open List renaming mem_cons_self→M3,getD→Up,mem_cons_of_mem→V2
namespace Go.Proofs.YtgfkglhelfkpoaaGreat
section
open Plain
theorem qg(a:List Int):cmpL a a=0:=by
 induction a with
 | nil=>rfl
 | cons x a ih=>simp[cmpL,ih]
variable{a b:List Int}
theorem cmpL_eq(h:cmpL a b=0):a=b:=by
 induction a generalizing b with
 | nil=>cases b with
  | nil=>rfl
  | cons y b=>simp[cmpL] at h
 | cons x a ih=>
  cases b with
  | nil=>simp[cmpL] at h
  | cons y b=>
   simp only[cmpL] at h;split at h
   ·omega
   ·split at h
    ·omega
    ·rw[ih h,show x=y by omega]
theorem nK(a b:List Int):cmpL b a=- cmpL a b:=by
 induction a generalizing b with
 | nil=>cases b<;>simp[cmpL]
 | cons x a ih=>
  cases b with
  | nil=>simp[cmpL]
  | cons y b=>
   simp only[cmpL]
   by_cases h1:x<y
   ·rw[if_pos h1,if_neg ah,if_pos h1];omega
   ·rw[if_neg h1]
    by_cases h2:y<x
    ·rw[if_pos h2,if_neg h1,if_pos h2]
    ·rw[if_neg h2,if_neg h2,if_neg h1,ih]
theorem gZ{c:List Int}(h1:cmpL a b<0)(h2:cmpL b c<0):cmpL a c<0:=by
 induction a generalizing b c with
 | nil=>
  cases b with
  | nil=>simp[cmpL] at h1
  | cons y b=>
   cases c with
   | nil=>simp[cmpL] at h2
   | cons z c=>simp[cmpL]
 | cons x a ih=>
  cases b with
  | nil=>simp[cmpL] at h1
  | cons y b=>
   cases c with
   | nil=>simp[cmpL] at h2
   | cons z c=>
    simp only[cmpL] at h1 h2 ⊢
    by_cases hxy:x<y
    ·by_cases hyz:y<z
     ·rw[if_pos ah];omega
     ·rw[if_neg hyz] at h2
      by_cases hzy:z<y
      ·rw[if_pos hzy] at h2;omega
      ·rw[if_pos ah];omega
    ·rw[if_neg hxy] at h1
     by_cases hyx:y<x
     ·rw[if_pos hyx] at h1;omega
     ·rw[if_neg hyx] at h1
      by_cases hyz:y<z
      ·rw[if_pos ah];omega
      ·rw[if_neg hyz] at h2
       by_cases hzy:z<y
       ·rw[if_pos hzy] at h2;omega
       ·rw[if_neg hzy] at h2
        rw[if_neg ah,if_neg ah];exact ih h1 h2
theorem Ja{c:List Int}(h1:¬ cmpL a b<0)(h2:¬ cmpL b c<0):¬ cmpL a c<0:=by
 intro h;have s1:=nK a b
 rcases BN a b with e | e | e
 ·omega
 ·rw[cmpL_eq e] at h;omega
 ·exact h2 (gZ ah h)
def eH:List av->List Int->Int
 | [],_=>0
 | t :: ts,e=>if t.1=e then pl t.2 (eH ts e) else eH ts e
theorem qN(ts:List av)(e:List Int):0<=eH ts e/\eH ts e<=1000002:=by
 induction ts with
 | nil=>simp[eH]
 | cons t ts ih=>
  unfold eH;split
  ·exact Fx _ _
  ·exact ih
theorem abG(a b c:Int):pl a (pl b c)=pl b (pl a c):=by unfold pl;omega
theorem Sd(a b c:Int):pl (pl a b) c=pl a (pl b c):=by unfold pl;omega
theorem kT{a:Int}(h0:0<=a)(h1:a<=1000002):pl a 0=a:=by unfold pl;omega
theorem qC{a:Int}(h0:0<=a)(h1:a<=1000002):pl 0 a=a:=by unfold pl;omega
theorem eB(a b:List av)(e:List Int):eH (a++b) e=pl (eH a e) (eH b e):=by
 induction a with
 | nil=>exact (qC (qN b e).1 (qN b e).2).symm
 | cons t a ih=>
  simp only[List.cons_append,eH];split
  ·rw[ih,Sd]
  ·exact ih
theorem X4{a b:List av}(h:a.Perm b)(e:List Int):eH a e=eH b e:=by
 induction h with
 | nil=>rfl
 | cons t _ ih=>simp only[eH,ih]
 | swap s t l=>
  simp only[eH];split<;>split<;>first | rfl | exact abG _ _ _
 | trans _ _ h1 h2=>exact h1.trans h2
variable{ts:List av}{e:List Int}
theorem fE(h:∀ t∈ts,t.1≠e):eH ts e=0:=by
 induction ts with
 | nil=>rfl
 | cons t ts ih=>
  unfold eH;rw[if_neg (h t (M3 ..))];exact ih λs hs=>h s (V2 _ hs)
theorem PI(e x:List Int){c:Int}(h0:0<=c)(h1:c<=1000002):eH [(e,c)] x=if e=x then c else 0:=by
 simp only[eH];split
 ·exact kT h0 h1
 ·rfl
structure Canon (ts:List av):Prop where
 Ef:ts.Pairwise (λs t=>cmpL s.1 t.1<0)
 sN:∀ t∈ts,1<=t.2/\t.2<=1000002
theorem Canon.nil:Canon []:=⟨List.Pairwise.nil,λt h=>absurd h (by simp)⟩
variable{t:av}
theorem Canon.tail(h:Canon (t :: ts)):Canon ts:=⟨(List.pairwise_cons.1 h.Ef).2,λs hs=>h.sN s (V2 _ hs)⟩
theorem jR(h:cmpL a b<0):a≠b:=λe=>by rw[e,qg] at h;omega
theorem Canon.head(h:Canon (t :: ts)):eH (t :: ts) t.1=t.2:=by
 have hc:=h.sN t (M3 ..);unfold eH;rw[if_pos rfl,fE λs hs=>(jR ((List.pairwise_cons.1 h.Ef).1 s hs)).symm];exact kT ah hc.2
theorem Canon.unique:∀ {a b:List av},Canon a->Canon b->(∀ e,eH a e=eH b e)->a=b:=by
 intro a
 induction a with
 | nil=>
  intro b _ hb h;cases b with
  | nil=>rfl
  | cons t b=>
   have:=h t.1;rw[hb.head] at this;have:=hb.sN t (M3 ..);have e0:eH [] t.1=0:=rfl;omega
 | cons s a ih=>
  intro b ha hb h;have hs:=ha.sN s (M3 ..);cases b with
  | nil=>
   have:=h s.1;rw[ha.head] at this;have e0:eH [] s.1=0:=rfl;omega
  | cons t b=>
   have ht:=hb.sN t (M3 ..);have hsw:=nK s.1 t.1
   rcases BN s.1 t.1 with e | e | e
   ·have h1:=h s.1
    rw[ha.head,fE (ts:=t :: b) λx hx=>?_] at h1
    ·omega
    ·rcases List.mem_cons.1 hx with rfl | hx
     ·exact (jR ah).symm
     ·exact (jR (gZ ah ((List.pairwise_cons.1 hb.Ef).1 x hx))).symm
   ·have e1:=cmpL_eq e
    have h1:=h s.1;rw[ha.head,e1,hb.head] at h1;obtain rfl:s=t:=Prod.ext e1 h1;rw[ih ha.tail hb.tail λx=>?_]
    by_cases hx:s.1=x
    ·subst hx
     rw[fE λy hy=>(jR ((List.pairwise_cons.1 ha.Ef).1 y hy)).symm,fE λy hy=>(jR ((List.pairwise_cons.1 hb.Ef).1 y hy)).symm]
    ·have:=h x
     simp only[eH,if_neg hx] at this;exact this
   ·have h1:=h t.1
    rw[hb.head,fE (ts:=s :: a) λx hx=>?_] at h1
    ·omega
    ·rcases List.mem_cons.1 hx with rfl | hx
     ·exact (jR ah).symm
     ·exact (jR (gZ ah ((List.pairwise_cons.1 ha.Ef).1 x hx))).symm
def n_(e:List Int)(c:Int):List av:=if c=0 then [] else [(e,c)]
variable{c:Int}
theorem tu(h:t∈n_ e c):t=(e,c)/\c≠0:=by
 unfold n_ at h;split at h
 ·simp at h
 ·simp at h;exact⟨h,by assumption⟩
theorem PG{x:List Int}(h0:0<=c)(h1:c<=1000002):eH (n_ e c) x=if e=x then c else 0:=by
 unfold n_;split
 ·subst c;simp[eH]
 ·exact PI e x h0 h1
variable{P S:List av}
theorem EO(h:Canon (P++S))(hP:∀ p∈P,cmpL p.1 e<0)(hS:∀ s∈S,cmpL e s.1<0)(c0:0<=c)(c1:c<=1000002) :
  Canon (P++n_ e c++S)/\∀ x,eH (P++n_ e c++S) x=if e=x then c else eH (P++S) x:=by
 have ha:=List.pairwise_append.1 h.Ef;refine⟨⟨?_,λt ht=>?_⟩,λx=>?_⟩
 ·rw[List.append_assoc,List.pairwise_append]
  refine⟨ha.1, ?_,λp hp q hq=>?_⟩
  ·rw[List.pairwise_append]
   refine⟨?_,ha.2.1,λm hm s hs=>?_⟩
   ·unfold n_;split
    ·exact List.Pairwise.nil
    ·exact List.pairwise_singleton _ _
   ·rw[(tu hm).1];exact hS s hs
  ·rcases List.mem_append.1 hq with hq | hq
   ·rw[(tu hq).1];exact hP p hp
   ·exact ha.2.2 p hp q hq
 ·rcases List.mem_append.1 ht with ht | ht
  ·rcases List.mem_append.1 ht with ht | ht
   ·exact h.sN t (List.mem_append_left _ ht)
   ·obtain⟨rfl,hc⟩:=tu ht
    exact⟨by show 1<=c;omega,c1⟩
  ·exact h.sN t (List.mem_append_right _ ht)
 ·rw[List.append_assoc,eB,eB,PG c0 c1,eB]
  by_cases hx:e=x
  ·subst hx
   rw[if_pos rfl,if_pos rfl,fE λp hp=>jR (hP p hp),fE λs hs=>(jR (hS s hs)).symm,kT c0 c1,qC c0 c1]
  ·rw[if_neg hx,if_neg hx,qC (qN S x).1 (qN S x).2]
theorem Canon.drop1(h:Canon (P++t :: S)):Canon (P++S):=
 ⟨h.Ef.sublist (List.Sublist.append (List.Sublist.refl _) (List.sublist_cons_self _ _)),λs hs=>h.sN s (by
  rcases List.mem_append.1 hs with hs | hs
  ·exact List.mem_append_left _ hs
  ·exact List.mem_append_right _ (V2 _ hs))⟩
theorem Ow{c0:Int}(h:Canon (P++(e,c0) :: S)) :
  Canon (P++n_ e (pl c c0)++S)/\∀ x,eH (P++n_ e (pl c c0)++S) x=if e=x then pl c (eH (P++(e,c0) :: S) e) else eH (P++(e,c0) :: S) x:=by
 have ha:=List.pairwise_append.1 h.Ef;have hP:∀ p∈P,cmpL p.1 e<0:=λp hp=>ha.2.2 p hp _ (M3 ..)
 have hS:∀ s∈S,cmpL e s.1<0:=λs hs=>(List.pairwise_cons.1 ha.2.1).1 s hs
 have hc:=h.sN (e,c0) (List.mem_append_right _ (M3 ..));obtain⟨m1,m2⟩:=EO (e:=e) (c:=pl c c0) h.drop1 hP hS (Fx _ _).1 (Fx _ _).2;refine⟨m1,λx=>?_⟩;rw[m2]
 by_cases hx:e=x
 ·subst hx
  rw[if_pos rfl,if_pos rfl,eB];simp only[eH,if_pos];rw[fE λp hp=>jR (hP p hp),fE λs hs=>(jR (hS s hs)).symm,kT (by have:=hc.1;simp only at this;omega) hc.2,qC (by have:=hc.1;simp only at this;omega) hc.2]
 ·rw[if_neg hx,if_neg hx,eB,eB]
  simp only[eH,if_neg hx]
theorem BX(h:Canon (P++S))(hP:∀ p∈P,cmpL p.1 e<0)(hS:∀ s∈S,cmpL e s.1<0)(c0:0<=c)(c1:c<=1000002) :
  Canon (P++n_ e c++S)/\∀ x,eH (P++n_ e c++S) x=if e=x then pl c (eH (P++S) e) else eH (P++S) x:=by
 obtain⟨m1,m2⟩:=EO h hP hS c0 c1;refine⟨m1,λx=>?_⟩;rw[m2]
 by_cases hx:e=x
 ·subst hx
  rw[if_pos rfl,if_pos rfl,eB,fE λp hp=>jR (hP p hp),fE λs hs=>(jR (hS s hs)).symm,qC ah ah,kT c0 c1]
 ·rw[if_neg hx,if_neg hx]
variable{us:List av}
theorem PK(h:∀ x,eH us x=if t.1=x then pl t.2 (eH ts t.1) else eH ts x)(x:List Int):eH us x=pl (eH ts x) (eH [t] x):=by
 rw[h];simp only[eH]
 by_cases hx:t.1=x
 ·subst hx;rw[if_pos rfl,if_pos rfl];unfold pl;omega
 ·rw[if_neg hx,if_neg hx,kT (qN ts x).1 (qN ts x).2]
variable{R L:List av}
theorem Canon.KM(h:Canon R)(hc:∀ e,eH R e=eH L e){t:av}(ht:t∈R):∃ u∈L,u.1=t.1:=by
 by_cases hx:∃ u∈L,u.1=t.1
 ·exact hx
 ·exfalso
  have h1:eH L t.1=0:=fE λu hu e=>hx ⟨u,hu,e⟩
  rw[<-hc] at h1;obtain⟨P,S,rfl⟩:=List.append_of_mem ht;have h2:=(Ow (c:=0) (e:=t.1) (c0:=t.2) h).2 t.1;rw[if_pos rfl,eB,eB] at h2;have ha:=List.pairwise_append.1 h.Ef;rw[fE λp hp=>jR (ha.2.2 p hp t (M3 ..)),fE (ts:=S) λs hs=>(jR ((List.pairwise_cons.1 ha.2.1).1 s hs)).symm,PG (Fx _ _).1 (Fx _ _).2,if_pos rfl] at h2;have hb:=h.sN t ht
  have e0:eH (P++t :: S) t.1=0:=h1;have:eH (P++(t.1,t.2) :: S) t.1=0:=e0;rw[this] at h2;unfold pl at h2;omega
theorem Od(h:eH R e≠0):∃ t∈R,t.1=e:=by
 by_cases hx:∃ u∈R,u.1=e
 ·exact hx
 ·exact absurd (fE λu hu he=>hx ⟨u,hu,he⟩) h
variable{k:Nat}
theorem eZ(h:k<ts.length):aR ts k∈ts:=by
 have:aR ts k=ts[k]:=by simp[aR,Up,h]
 rw[this];exact List.getElem_mem h
variable{v:Int}
theorem Sl(ht:∀ t∈ts,dL v t=true)(ha:ts.Pairwise (λs t=>cmpL s.1 t.1<0)):∀ k,k<=ts.length->fu v ts k=true:=by
 intro k
 induction k with
 | zero=>intro _;rfl
 | succ k ih=>
  intro hk;unfold fu;rw[ih ah,ht _ (eZ ah)]
  by_cases h0:k=0
  ·simp[h0]
  ·have h1:cmpL (aR ts (k - 1)).1 (aR ts k).1<0:=by
    have:=List.pairwise_iff_getElem.1 ha (k - 1) k ah ah ah
    rwa [show aR ts (k - 1)=ts[k - 1] by simp[aR,Up,show k - 1<ts.length by omega],show aR ts k=ts[k] by simp[aR,Up,show k<ts.length by omega]]
   simp[h1]
theorem Fy(hv:fP v 0 12=true)(ht:∀ t∈ts,dL v t=true)(ha:ts.Pairwise (λs t=>cmpL s.1 t.1<0)):aQ v ts=decide (ts.length<=120):=by
 unfold aQ;rw[hv,Sl ht ha _ (Jn _)];simp
theorem bZ(h:aQ v ts=true){t:av}(ht:t∈ts):dL v t=true:=by
 obtain⟨k,hk,rfl⟩:=List.getElem_of_mem ht;have:=Km h hk
 rwa [show aR ts k=ts[k] by simp[aR,Up,hk]] at this
theorem QN(h:fu v ts ts.length=true):ts.Pairwise (λs t=>cmpL s.1 t.1<0):=by
 have hc:∀ k,k+1<ts.length->cmpL (aR ts k).1 (aR ts (k+1)).1<0:=λk hk=>by
  have:=Ba h (k+2) ah;simp only[fu,Mb,Bool.or_eq_true,decide_eq_true_eq,Nat.add_sub_cancel] at this
  rcases this.2.2 with h | h
  ·omega
  ·exact h
 have hall:∀ d i,i+d+1<ts.length->cmpL (aR ts i).1 (aR ts (i+d+1)).1<0:=by
  intro d
  induction d with
  | zero=>intro i hi;exact hc i ah
  | succ d ih=>intro i hi;exact gZ (ih i ah) (hc (i+d+1) ah)
 rw[List.pairwise_iff_getElem];intro i j hi hj hij;have:=hall (j - i - 1) i ah
 rwa [show i+(j - i - 1)+1=j by omega,show aR ts i=ts[i] by simp[aR,Up,hi],show aR ts j=ts[j] by simp[aR,Up,hj]] at this
theorem dV(h:aQ v ts=true):Canon ts:=by
 refine⟨?_,λt ht=>?_⟩
 ·unfold aQ at h
  simp only[Mb] at h;exact QN h.2
 ·have:=bV (bZ h ht)
  exact⟨this.2.1,this.2.2.1⟩
def gM:List Int->List Int->List Int:=List.zipWith (·+·)
theorem gU(h:b.length=a.length):(gM a b).length=a.length:=by simp[gM,h]
theorem Gd(h:b.length=a.length)(k:Nat):cf (gM a b) k=cf a k+cf b k:=by
 by_cases hk:k<a.length
 ·simp[cf,Up,gM,List.getElem?_zipWith,List.getElem?_eq_getElem hk,List.getElem?_eq_getElem (show k<b.length by omega)]
 ·rw[wN (by rw[gU h];omega),wN ah,wN ah];rfl
theorem vg(h:b.length=a.length)(k:Nat):fB (gM a b) k=fB a k+fB b k:=by
 induction k with
 | zero=>rfl
 | succ k ih=>simp only[fB];rw[ih,Gd h];omega
theorem zD{c:List Int}(hb:b.length=a.length)(hc:c.length=a.length):cmpL (gM a c) (gM b c)=cmpL a b:=by
 induction a generalizing b c with
 | nil=>
  cases b with
  | nil=>cases c with
   | nil=>rfl
   | cons z c=>simp at hc
  | cons y b=>simp at hb
 | cons x a ih=>
  cases b with
  | nil=>simp at hb
  | cons y b=>
   cases c with
   | nil=>simp at hc
   | cons z c=>
    simp only[gM,List.zipWith_cons_cons,cmpL];have:=ih (b:=b) (c:=c) (by simpa using hb) (by simpa using hc);unfold gM at this;rw[this]
    by_cases h1:x<y
    ·rw[if_pos h1,if_pos ah]
    ·rw[if_neg h1,if_neg ah]
     by_cases h2:y<x
     ·rw[if_pos h2,if_pos ah]
     ·rw[if_neg h2,if_neg ah]
theorem u_(a b:List Int):gM a b=gM b a:=by
 unfold gM;rw[List.zipWith_comm];congr 1;funext x y;omega
theorem Ak{c d:List Int}(hb:b.length=a.length)(hc:c.length=a.length)(hd:d.length=a.length)(h:cmpL a b<0)(h2:c=d∨cmpL c d<0):cmpL (gM a c) (gM b d)<0:=by
 have h3:cmpL (gM a c) (gM b c)<0:=by rw[zD hb hc];exact h
 rcases h2 with rfl | h2
 ·exact h3
 ·refine gZ h3 ?_
  rw[u_ b c,u_ b d,zD ah ah];exact h2
theorem Na(h:a=b)(k:Nat):fB a k=fB b k:=by rw[h]
def fQ(s t:av):av:=(gM s.1 t.1,tm s.2 t.2)
def bX(a b:List av):List av:=a.flatMap λs=>b.map (fQ s)
def dg(t:av):Int:=fB t.1 t.1.length
def Ei(s t:av):Prop:=dg s<dg t∨(dg s=dg t/\cmpL s.1 t.1<0)
variable{s u:av}
theorem MZ(h1:Ei s t)(h2:Ei t u):Ei s u:=by
 rcases h1 with h1 | ⟨h1,h1'⟩<;>rcases h2 with h2 | ⟨h2,h2'⟩
 ·exact .inl ah
 ·exact .inl ah
 ·exact .inl ah
 ·exact .inr ⟨ah,gZ h1' h2'⟩
theorem XT(s t:av)(h:s.1≠t.1):Ei s t∨Ei t s:=by
 unfold Ei;have:=nK s.1 t.1
 rcases BN s.1 t.1 with e | e | e
 ·omega
 ·exact absurd (cmpL_eq e) h
 ·omega
theorem aai{a:List av}(h:a≠[]):∃ t∈a,∀ s∈a,s.1=t.1∨Ei s t:=by
 induction a with
 | nil=>exact absurd rfl h
 | cons x a ih=>
  by_cases ha:a=[]
  ·subst ha
   exact⟨x,M3 ..,λs hs=>by simp at hs;exact .inl (by rw[hs])⟩
  ·obtain⟨t,ht,h1⟩:=ih ha
   by_cases hx:x.1=t.1
   ·exact⟨t,V2 _ ht,λs hs=>by
     rcases List.mem_cons.1 hs with rfl | hs
     ·exact .inl hx
     ·exact h1 s hs⟩
   ·rcases XT x t hx with hb | hb
    ·exact⟨t,V2 _ ht,λs hs=>by
      rcases List.mem_cons.1 hs with rfl | hs
      ·exact .inr hb
      ·exact h1 s hs⟩
    ·exact⟨x,M3 ..,λs hs=>by
      rcases List.mem_cons.1 hs with rfl | hs
      ·exact .inl rfl
      ·rcases h1 s hs with e | e
       ·right
        unfold Ei dg at hb ⊢;rw[e];exact hb
       ·exact .inr (MZ e hb)⟩
theorem qO{b:List av}(h:∀ t∈b,gM s.1 t.1≠e):eH (b.map (fQ s)) e=0:=by
 refine fE λu hu=>?_
 obtain⟨t,ht,rfl⟩:=List.mem_map.1 hu;exact h t ht
theorem Cw(s:av)(a b:List av)(e:List Int):eH (bX (s :: a) b) e=pl (eH (b.map (fQ s)) e) (eH (bX a b) e):=by
 unfold bX;rw[List.flatMap_cons,eB]
theorem G_{x y:Int}(hx:1<=x)(hx':x<=1000002)(hy:1<=y)(hy':y<=1000002):tm x y≠0:=by
 intro h;have h1:=Zf (a:=x) (by unfold rs;omega);have h2:tm (iv x) (tm x y)=0:=by rw[h];unfold tm;simp
 have h3:tm (iv x) (tm x y)=tm (tm x (iv x)) y:=by
  unfold tm;rw[Zr,afG,<-Int.mul_assoc,Int.mul_comm (iv x) x]
 rw[h3,h1] at h2;unfold tm at h2;omega
def jG(n:Nat)(a:List av):Prop:=∀ t∈a,t.1.length=n
theorem aaZ{n:Nat}{a b:List av}(ha:Canon a)(hb:Canon b)(la:jG n a)(lb:jG n b){s t:av}(hs:s∈a)(ht:t∈b)(h1:∀ x∈a,x.1=s.1∨Ei x s)(h2:∀ y∈b,y.1=t.1∨Ei y t) :
  eH (bX a b) (gM s.1 t.1)=tm s.2 t.2:=by
 have only:∀ x∈a,∀ y∈b,gM x.1 y.1=gM s.1 t.1->x.1=s.1/\y.1=t.1:=by
  intro x hx y hy he;have lx:=la x hx;have ly:=lb y hy;have ls:=la s hs;have lt:=lb t ht;have hd:=Na he n;rw[vg ah,vg ah] at hd;have dx:dg x=fB x.1 n:=by unfold dg;rw[lx]
  have dy:dg y=fB y.1 n:=by unfold dg;rw[ly]
  have ds:dg s=fB s.1 n:=by unfold dg;rw[ls]
  have dt:dg t=fB t.1 n:=by unfold dg;rw[lt]
  have q2:=h2 y hy;have q1:=h1 x hx
  by_cases ex:x.1=s.1
  ·refine⟨ex, ?_⟩
   rcases q2 with q2 | q2
   ·exact q2
   ·exfalso
    rcases q2 with q2 | ⟨_,q2⟩
    ·rw[ex] at hd;omega
    ·rw[ex,u_ s.1 y.1,u_ s.1 t.1] at he
     have:=zD (a:=y.1) (b:=t.1) (c:=s.1) ah ah;rw[he,qg] at this;omega
  ·exfalso
   rcases q1 with q1 | q1 | ⟨q1,Le⟩
   ·exact ex q1
   ·rcases q2 with q2 | q2 | ⟨q2,_⟩
    ·rw[q2] at hd;omega
    ·omega
    ·omega
   ·rcases q2 with q2 | q2 | ⟨q2,q2'⟩
    ·have:=Ak (a:=x.1) (b:=s.1) (c:=y.1) (d:=t.1) ah ah ah Le (.inl q2)
     rw[he,qg] at this;omega
    ·omega
    ·have:=Ak (a:=x.1) (b:=s.1) (c:=y.1) (d:=t.1) ah ah ah Le (.inr q2')
     rw[he,qg] at this;omega
 have row:eH (b.map (fQ s)) (gM s.1 t.1)=tm s.2 t.2:=by
  have:∀ (l:List av),l.Pairwise (λs t=>cmpL s.1 t.1<0)->(∀ y∈l,y∈b)->t∈l->eH (l.map (fQ s)) (gM s.1 t.1)=tm s.2 t.2:=by
   intro l
   induction l with
   | nil=>intro _ _ h;simp at h
   | cons y l ih=>
    intro hp hm hmem;have hp':=List.pairwise_cons.1 hp;simp only[List.map_cons,eH]
    by_cases hy:y.1=t.1
    ·have hyt:y=t:=by
      rcases List.mem_cons.1 hmem with e | e
      ·exact e.symm
      ·exact absurd hy (jR (hp'.1 t e))
     subst hyt;rw[if_pos (show (fQ s y).1=gM s.1 y.1 from rfl),qO λz hz he=>?_]
     ·exact kT (wD _ _).1 (wD _ _).2
     ·exact jR (hp'.1 z hz) (only s hs z (hm z (V2 _ hz)) he).2.symm
    ·rw[if_neg (show ¬ (fQ s y).1=gM s.1 t.1 from λhe=>hy (only s hs y (hm y (M3 ..)) he).2)]
     refine ih hp'.2 (λz hz=>hm z (V2 _ hz)) ?_
     rcases List.mem_cons.1 hmem with e | e
     ·exact absurd (by rw[e]) hy
     ·exact e
  exact this b hb.Ef (λy hy=>hy) ht
 have:∀ (l:List av),l.Pairwise (λs t=>cmpL s.1 t.1<0)->(∀ x∈l,x∈a)->(s∈l->eH (bX l b) (gM s.1 t.1)=tm s.2 t.2)/\((∀ x∈l,x.1≠s.1)->eH (bX l b) (gM s.1 t.1)=0):=by
  intro l
  induction l with
  | nil=>intro _ _;exact⟨λh=>by simp at h,λ_=>rfl⟩
  | cons x l ih=>
   intro hp hm;have hp':=List.pairwise_cons.1 hp;obtain⟨i1,i2⟩:=ih hp'.2 (λz hz=>hm z (V2 _ hz));rw[Cw];constructor
   ·intro hmem
    by_cases hx:x.1=s.1
    ·have hxs:x=s:=by
      rcases List.mem_cons.1 hmem with e | e
      ·exact e.symm
      ·exact absurd hx (jR (hp'.1 s e))
     subst hxs;rw[row,i2 λz hz=>(jR (hp'.1 z hz)).symm];exact kT (wD _ _).1 (wD _ _).2
    ·rw[qO λy hy he=>hx (only x (hm x (M3 ..)) y hy he).1,i1 ?_]
     ·exact qC (wD _ _).1 (wD _ _).2
     ·rcases List.mem_cons.1 hmem with e | e
      ·exact absurd (by rw[e]) hx
      ·exact e
   ·intro hne
    rw[qO λy hy he=>hne x (M3 ..) (only x (hm x (M3 ..)) y hy he).1,i2 λz hz=>hne z (V2 _ hz)];rfl
 exact (this a ha.Ef (λx hx=>hx)).1 hs
theorem Ct(h:jI a=true){k n:Nat}(hk:k<n):cf a k<=fB a n:=by
 have h1:=QW h (show k+1<=n from hk);have h2:=xU h k;simp only[fB] at h1;omega
theorem ji(hk:k<a.length):a[k]=cf a k:=by simp[cf,Up,hk]
theorem abI(hs:dL v s=true)(ht:dL v t=true)(hd:dg s+dg t<=12):dL v (fQ s t)=true:=by
 obtain⟨s1,s2,s3,s4,s5⟩:=bV hs;obtain⟨t1,t2,t3,t4,t5⟩:=bV ht;have hl:t.1.length=s.1.length:=ah;have hp:=G_ s2 s3 t2 t3;have hb:=wD s.2 t.2;have hdd:fB (gM s.1 t.1) (gM s.1 t.1).length<=12:=by
  rw[gU hl,vg hl];unfold dg at hd;rw[hl] at hd;exact hd
 have he:jI (gM s.1 t.1)=true:=by
  refine List.all_eq_true.2 λx hx=>?_
  obtain⟨k,hk,rfl⟩:=List.getElem_of_mem hx;have hk':k<s.1.length:=by rw[gU hl] at hk;exact hk
  rw[ji hk,Gd hl];have b1:=iU s4 k;have b2:=iU t4 k;have c1:=Ct s4 hk';have c2:=Ct t4 (show k<t.1.length by omega);unfold dg at hd;exact bH.2 ah
 unfold dL fQ;simp only[Mb,decide_eq_true_eq];exact⟨⟨by rw[gU hl];exact s1,bH.2 ah⟩,he,hdd⟩
theorem Fu{a b:List av}(h:u∈bX a b):∃ s∈a,∃ t∈b,u=fQ s t:=by
 unfold bX at h;obtain⟨s,hs,h⟩:=List.mem_flatMap.1 h;obtain⟨t,ht,rfl⟩:=List.mem_map.1 h;exact⟨s,hs,t,ht,rfl⟩
theorem bS{a:List av}(h:aQ v a=true):jG v.toNat a:=λt ht=>by
 have:=(bV (bZ h ht)).1;omega
theorem kW(h:dL v u=true)(he:t.1=u.1)(h1:1<=t.2)(h2:t.2<=1000002):dL v t=true:=by
 obtain⟨u1,_,_,u4,u5⟩:=bV h;unfold dL;simp only[Mb,decide_eq_true_eq];rw[he];exact⟨⟨u1,bH.2 ah⟩,u4,u5⟩
theorem Gs(hv:fP v 0 12=true)(h:Canon R)(hc:∀ e,eH R e=eH L e)(hL:∀ u∈L,∃ w,dL v w=true/\u.1=w.1):aQ v R=decide (R.length<=120):=by
 refine Fy hv (λt ht=>?_) h.Ef;obtain⟨u,hu,e⟩:=h.KM hc ht;obtain⟨w,hw,e2⟩:=hL u hu;have:=h.sN t ht;exact kW hw (by rw[<-e,e2]) this.1 this.2
theorem YB{a b:List av}(ha:aQ v a=true)(hb:aQ v b=true)(_h:Canon R)(hc:∀ e,eH R e=eH (bX a b) e){s t:av}(hs:s∈a)(ht:t∈b)(hd:12<dg s+dg t):aQ v R=false:=by
 obtain⟨s',hs',h1⟩:=aai (List.ne_nil_of_mem hs);obtain⟨t',ht',h2⟩:=aai (List.ne_nil_of_mem ht);have d1:dg s<=dg s':=by
  rcases h1 s hs with e | e | e
  ·unfold dg;rw[e];omega
  ·omega
  ·omega
 have d2:dg t<=dg t':=by
  rcases h2 t ht with e | e | e
  ·unfold dg;rw[e];omega
  ·omega
  ·omega
 have hct:=aaZ (dV ha) (dV hb) (bS ha) (bS hb) hs' ht' h1 h2;obtain⟨p1,p2,p3,p4,p5⟩:=bV (bZ ha hs');obtain⟨q1,q2,q3,q4,q5⟩:=bV (bZ hb ht');have hne:eH R (gM s'.1 t'.1)≠0:=by rw[hc,hct];exact G_ p2 p3 q2 q3
 obtain⟨u,hu,e⟩:=Od hne;cases dh:aQ v R with
 | false=>rfl
 | true=>
  exfalso;obtain⟨r1,_,_,r4,r5⟩:=bV (bZ dh hu);have hl:t'.1.length=s'.1.length:=ah;rw[e,gU hl,vg hl] at r5;unfold dg at d1 d2 hd;rw[hl] at d2;omega
structure GInv (us:List av) (i:Nat) (out:List av):Prop where
 canon:Canon out
 below:i<us.length->∀ t∈out,cmpL t.1 (aR us i).1<0
 Cx:∀ e,eH out e=eH (us.take i) e
theorem GInv.start(us:List av):GInv us 0 []:=⟨Canon.nil,λ_ t h=>by simp at h,λe=>by simp⟩
def IB(us:List av)(i j:Nat):List av:=(us.take j).drop i
theorem ZX(us:List av)(i:Nat):IB us i i=[]:=by unfold IB;rw[List.drop_eq_nil_iff];simp;omega
variable{i j:Nat}
theorem KD(hij:i<=j)(hj:j<us.length):IB us i (j+1)=IB us i j++[aR us j]:=by
 unfold IB;rw[List.take_add_one,show us[j]? = M (aR us j) by simp[aR,Up,hj]];simp only[Option.toList_some];rw[List.drop_append_of_le_length (by simp;omega)]
theorem aaf(hij:i<=j):us.take j=us.take i++IB us i j:=by
 unfold IB;have h:=List.take_append_drop i (us.take j);rw[List.take_take,Nat.min_eq_left hij] at h;exact h.symm
theorem Gh{E:List Int}(hij:i<=j)(hj:j<us.length)(he:(aR us j).1=E):pl (eH (IB us i j) E) (aR us j).2=eH (IB us i (j+1)) E:=by
 rw[KD hij hj,eB];simp only[eH,he,if_pos];unfold pl;omega
theorem GInv.step{us out:List av}{i j:Nat}(h:GInv us i out)(hs:us.Pairwise (λs t=>¬ cmpL t.1 s.1<0))(hij:i<j)(hj:j<=us.length)(hall:∀ k,i<=k->k<j->(aR us k).1=(aR us i).1)(hne:j<us.length->(aR us j).1≠(aR us i).1) :
  GInv us j (out++n_ (aR us i).1 (eH (IB us i j) (aR us i).1)):=by
 have hb:=qN (IB us i j) (aR us i).1;obtain⟨m1,m2⟩:=BX (S:=[]) (e:=(aR us i).1) (c:=eH (IB us i j) (aR us i).1) (P:=out) (by simpa using h.canon) (λp hp=>h.below ah p hp) (λs hs=>by simp at hs) hb.1 hb.2;rw[List.append_nil] at m1;simp only[List.append_nil] at m2;refine⟨m1,λhj2 t ht=>?_,λe=>?_⟩
 ·have hlt:cmpL (aR us i).1 (aR us j).1<0:=by
   have h1:=List.pairwise_iff_getElem.1 hs i j ah hj2 hij;rw[show us[i]=aR us i by simp[aR,Up,show i<us.length by omega],show us[j]=aR us j by simp[aR,Up,hj2]] at h1;have h2:=nK (aR us i).1 (aR us j).1
   rcases BN (aR us i).1 (aR us j).1 with e | e | e
   ·omega
   ·exact absurd (cmpL_eq e).symm (hne hj2)
   ·omega
  rcases List.mem_append.1 ht with ht | ht
  ·exact gZ (h.below ah t ht) hlt
  ·rw[(tu ht).1];exact hlt
 ·rw[m2,aaf (us:=us) (by omega:i<=j),eB]
  by_cases he:(aR us i).1=e
  ·subst he
   rw[if_pos rfl,<-h.Cx];unfold pl;omega
  ·rw[if_neg he,fE (ts:=IB us i j) λt ht=>?_,<-h.Cx,kT (qN _ _).1 (qN _ _).2]
   unfold IB at ht;obtain⟨k,hk,rfl⟩:=List.getElem_of_mem ht;simp only[List.length_drop,List.length_take] at hk;rw[List.getElem_drop,List.getElem_take];have:=hall (i+k) ah ah;rw[show us[i+k]'ah=aR us (i+k) by simp[aR,Up,show i+k<us.length by omega],this];exact he
end
end Go.Proofs.YtgfkglhelfkpoaaGreat
namespace Go.Proofs.YtgfkglhelfkpoaaGreat.xP
open Go.Sort
variable {α:Type}[Inhabited α] {lt:α->α->Bool}
def KN(f:Nat->α)(a b n t:Nat):α:=if a<=t/\t<a+n then f (t - a+b) else if b<=t/\t<b+n then f (t - b+a) else f t
def gP(f:Nat->α)(a m b t:Nat):α:=if a<=t/\t<a+(b - m) then f (t+(m - a)) else if a+(b - m)<=t/\t<b then f (t - (b - m)) else f t
omit [Inhabited α] in
theorem aac(f:Nat->α)(a b:Nat):KN f a b 0=f:=by
 funext t;unfold KN;rw[if_neg ah,if_neg ah]
omit [Inhabited α] in
theorem FK(f:Nat->α)(m b:Nat):gP f m m b=f:=by
 funext t;unfold gP;split
 ·congr 1;omega
 ·split
  ·exfalso;omega
  ·rfl
omit [Inhabited α] in
theorem Dw(f:Nat->α)(a m:Nat):gP f a m m=f:=by
 funext t;unfold gP;split
 ·exfalso;omega
 ·split
  ·congr 1
   omega
  ·rfl
omit [Inhabited α] in
theorem SC(f:Nat->α)(m i:Nat)(h:i<=m):gP f (m - i) m (m+i)=KN f (m - i) m i:=by
 funext t;unfold gP KN
 repeat' split
 all_goals first | (exfalso;omega) | (congr 1;omega) | rfl
omit [Inhabited α] in
theorem OA(f:Nat->α)(m i j:Nat)(hi:i<=m)(hj:j<i):gP (KN f (m - i) m j) (m - (i - j)) m (m+j)=gP f (m - i) m (m+j):=by
 funext t;unfold gP KN
 repeat' split
 all_goals first | (exfalso;omega) | (congr 1;omega) | rfl
omit [Inhabited α] in
theorem OC(f:Nat->α)(m i j:Nat)(hi:i<=m)(hj:i<j):gP (KN f (m - i) (m+j - i) i) (m - i) m (m+(j - i))=gP f (m - i) m (m+j):=by
 funext t;unfold gP KN
 repeat' split
 all_goals first | (exfalso;omega) | (congr 1;omega) | rfl
theorem Z_{d dk:Array α}{a b i:Nat}(hab:a+i<b)(hb:b+i<d.size)(hs:dk.size=d.size)(h:∀ t,dk[t]! = KN (λt=>d[t]!) a b i t)(t:Nat) :
  (swp dk (a+i) (b+i))[t]! = KN (λt=>d[t]!) a b (i+1) t:=by
 rw[swp_get dk ah ah,h,h,h];unfold KN
 repeat' split
 all_goals first | (exfalso;omega) | (congr 1;omega) | rfl
theorem ab0{d dk:Array α}{a k:Nat}(hak:a<=k)(hk:k+1<d.size)(hs:dk.size=d.size)(h:∀ t,dk[t]! = gP (λt=>d[t]!) a (a+1) (k+1) t)(t:Nat) :
  (swp dk k (k+1))[t]! = gP (λt=>d[t]!) a (a+1) (k+2) t:=by
 rw[swp_get dk ah ah,h,h,h];unfold gP
 repeat' split
 all_goals first | (exfalso;omega) | (congr 1;omega) | rfl
theorem SB{d dk:Array α}{m k:Nat}(hk0:0<k)(hkm:k<=m)(hm:m<d.size)(hs:dk.size=d.size)(h:∀ t,dk[t]! = gP (λt=>d[t]!) k m (m+1) t)(t:Nat) :
  (swp dk k (k - 1))[t]! = gP (λt=>d[t]!) (k - 1) m (m+1) t:=by
 rw[swp_get dk ah ah,h,h,h];unfold gP
 repeat' split
 all_goals first | (exfalso;omega) | (congr 1;omega) | rfl
omit [Inhabited α] in
theorem le_of_lt(hS:SWO lt){x y:α}(h:lt x y=true):lt y x=false:=hS.asymmA h
theorem SortedIn.le{a b:Nat}{d:Array α}(hS:SWO lt)(h:SortedIn lt a b d){i j:Nat}(hi:a<=i)(hij:i<=j)(hj:j<b):lt d[j]! d[i]! = false:=by
 rcases Nat.lt_or_ge i j with hh | hh
 ·exact h i j hi hh hj
 ·obtain rfl:i=j:=ah
  exact hS.irrefl _
theorem KI{a m b:Nat}{d:Array α}(h1:SortedIn lt a m d)(h2:SortedIn lt m b d)(h:∀ p q,a<=p->p<m->m<=q->q<b->lt d[q]! d[p]! = false):SortedIn lt a b d:=by
 intro i j hi hij hj
 rcases Nat.lt_or_ge j m with hjm | hjm
 ·exact h1 i j hi hij hjm
 ·rcases Nat.lt_or_ge i m with him | him
  ·exact h i j hi him hjm hj
  ·exact h2 i j him hij hj
theorem M9{a m b:Nat}{d d1 d2:Array α}(hb:b<=d.size)(_ham:a<=m)(_hmb:m<=b)(h:∀ p q,a<=p->p<m->m<=q->q<b->lt d[q]! d[p]! = false)(h1:PermIn a m d d1)(h2:PermIn m b d1 d2) :
  ∀ p q,a<=p->p<m->m<=q->q<b->lt d2[q]! d2[p]! = false:=by
 have s1:d1.size=d.size:=h1.1;intro p q hp hpm hq Y5;refine permIn_all d1 d2 m b (λy=>lt y d2[p]! = false) ah h2 (λq' hq1 hq2=>?_) q hq Y5;show lt d1[q']! d2[p]! = false;rw[h2.2.1 p (Or.inl hpm),h1.2.1 q' (Or.inr hq1)];exact permIn_all d d1 a m (λx=>lt d[q']! x=false) ah h1 (λp' hp1 hp2=>h p' q' hp1 hp2 hq1 hq2) p hp hpm
theorem Oe(hS:SWO lt){a b i:Nat}{d d':Array α}(hai:a<i)(hib:i<=b)(h2:SortedIn lt (a+1) b d)(hl:a+1<i->lt d[i - 1]! d[a]! = true)(hr:i<b->lt d[i]! d[a]! = false)
  (h:∀ t,d'[t]! = gP (λt=>d[t]!) a (a+1) i t):SortedIn lt a b d':=by
 have g1:∀ t,a<=t->t<i - 1->d'[t]! = d[t+1]!:=λt h1 h2=>by
  rw[h];unfold gP;rw[if_pos ah];congr 1;omega
 have g2:d'[i - 1]! = d[a]!:=by
  rw[h];unfold gP;rw[if_neg ah,if_pos ah];congr 1;omega
 have g3:∀ t,i<=t->d'[t]! = d[t]!:=λt h1=>by
  rw[h];unfold gP;rw[if_neg ah,if_neg ah]
 have low:∀ t,a+1<=t->t<i->lt d[a]! d[t]! = false:=λt h3 h4=>
  hS.ntrans _ _ _ (le_of_lt hS (hl ah)) (SortedIn.le hS h2 h3 ah ah)
 have high:∀ t,i<=t->t<b->lt d[t]! d[a]! = false:=λt h3 h4=>
  hS.ntrans _ _ _ (SortedIn.le hS h2 ah h3 h4) (hr ah)
 intro p q hp hpq hq
 rcases Nat.lt_trichotomy q (i - 1) with hq1 | hq1 | hq1
 ·rw[g1 q ah hq1,g1 p hp ah];exact h2 _ _ ah ah ah
 ·rw[hq1,g2,g1 p hp ah];exact low _ ah ah
 ·rw[g3 q ah]
  rcases Nat.lt_trichotomy p (i - 1) with hp1 | hp1 | hp1
  ·rw[g1 p hp hp1];exact h2 _ _ ah ah hq
  ·rw[hp1,g2];exact high _ ah hq
  ·rw[g3 p ah];exact h2 _ _ ah hpq hq
theorem merge_right(hS:SWO lt){a m i:Nat}{d d':Array α}(hai:a<=i)(him:i<=m)(h1:SortedIn lt a m d)(hl:a<i->lt d[m]! d[i - 1]! = false)(hr:i<m->lt d[m]! d[i]! = true)
  (h:∀ t,d'[t]! = gP (λt=>d[t]!) i m (m+1) t):SortedIn lt a (m+1) d':=by
 have g1:∀ t,t<i->d'[t]! = d[t]!:=λt h1=>by
  rw[h];unfold gP;rw[if_neg ah,if_neg ah]
 have g2:d'[i]! = d[m]!:=by
  rw[h];unfold gP;rw[if_pos ah];congr 1;omega
 have g3:∀ t,i<t->t<=m->d'[t]! = d[t - 1]!:=λt h1 h2=>by
  rw[h];unfold gP;rw[if_neg ah,if_pos ah];congr 1;omega
 have low:∀ t,a<=t->t<i->lt d[m]! d[t]! = false:=λt h3 h4=>
  hS.ntrans _ _ _ (hl ah) (SortedIn.le hS h1 h3 ah ah)
 have high:∀ t,i<=t->t<m->lt d[t]! d[m]! = false:=λt h3 h4=>
  hS.ntrans _ _ _ (SortedIn.le hS h1 hai h3 h4) (le_of_lt hS (hr ah))
 intro p q hp hpq hq
 rcases Nat.lt_trichotomy q i with hq1 | hq1 | hq1
 ·rw[g1 q hq1,g1 p ah];exact h1 _ _ hp hpq ah
 ·rw[hq1,g2,g1 p ah];exact low _ hp ah
 ·rw[g3 q hq1 ah]
  rcases Nat.lt_trichotomy p i with hp1 | hp1 | hp1
  ·rw[g1 p hp1];exact h1 _ _ hp ah ah
  ·rw[hp1,g2];exact high _ ah ah
  ·rw[g3 p hp1 ah];exact h1 _ _ ah ah ah
theorem GZ(hS:SWO lt){a s m e b:Nat}{d d':Array α}(has:a<=s)(hsm:s<=m)(hme:m<=e)(CX:e<=b)(h1:SortedIn lt a m d)(h2:SortedIn lt m b d)
  (hl:a<s->e<b->lt d[e]! d[s - 1]! = false) (hr:m<e->s<m->lt d[s]! d[e - 1]! = false) (h:∀ t,d'[t]! = gP (λt=>d[t]!) s m e t) :
  SortedIn lt a s d'/\SortedIn lt s (s+(e - m)) d'/\SortedIn lt (s+(e - m)) e d'/\SortedIn lt e b d' /\
   ∀ p q,a<=p->p<s+(e - m)->s+(e - m)<=q->q<b->lt d'[q]! d'[p]! = false:=by
 have g1:∀ t,t<s->d'[t]! = d[t]!:=λt h1=>by
  rw[h];unfold gP;rw[if_neg ah,if_neg ah]
 have g2:∀ t,s<=t->t<s+(e - m)->d'[t]! = d[t+(m - s)]!:=λt h1 h2=>by
  rw[h];unfold gP;rw[if_pos ah]
 have g3:∀ t,s+(e - m)<=t->t<e->d'[t]! = d[t - (e - m)]!:=λt h1 h2=>by
  rw[h];unfold gP;rw[if_neg ah,if_pos ah]
 have g4:∀ t,e<=t->d'[t]! = d[t]!:=λt h1=>by
  rw[h];unfold gP;rw[if_neg ah,if_neg ah]
 refine⟨λi j hi hij hj=>?_,λi j hi hij hj=>?_,λi j hi hij hj=>?_,λi j hi hij hj=>?_,λp q hp hpm hq Y5=>?_⟩
 ·rw[g1 i ah,g1 j hj];exact h1 _ _ hi hij ah
 ·rw[g2 i hi ah,g2 j ah hj];exact h2 _ _ ah ah ah
 ·rw[g3 i hi ah,g3 j ah hj];exact h1 _ _ ah ah ah
 ·rw[g4 i hi,g4 j ah];exact h2 _ _ ah hij hj
 ·rcases Nat.lt_or_ge p s with hps | hps
  ·rw[g1 p hps]
   rcases Nat.lt_or_ge q e with hqe | hqe
   ·rw[g3 q hq hqe];exact SortedIn.le hS h1 hp ah ah
   ·rw[g4 q hqe]
    exact hS.ntrans _ _ _ (SortedIn.le hS h2 hme hqe Y5) (hS.ntrans _ _ _ (hl ah ah) (SortedIn.le hS h1 hp ah ah))
  ·rw[g2 p hps hpm]
   rcases Nat.lt_or_ge q e with hqe | hqe
   ·rw[g3 q hq hqe]
    exact hS.ntrans _ _ _ (SortedIn.le hS h1 (by omega:a<=s) ah ah) (hS.ntrans _ _ _ (hr ah ah) (SortedIn.le hS h2 ah ah ah))
   ·rw[g4 q hqe];exact SortedIn.le hS h2 ah ah Y5
inductive sF (lt:α->α->Bool) (bs:Nat) (d:Array α):Nat->Prop
 | zero:sF lt bs d 0
 | step {x:Nat}:sF lt bs d x->SortedIn lt x (x+bs) d->sF lt bs d (x+bs)
inductive wG (lt:α->α->Bool) (bs:Nat) (d:Array α) (n:Nat):Nat->Prop
 | done {a:Nat}:n<=a->wG lt bs d n a
 | last {a:Nat}:n<=a+bs->SortedIn lt a n d->wG lt bs d n a
 | more {a:Nat}:a+bs<n->SortedIn lt a (a+bs) d->wG lt bs d n (a+bs)->wG lt bs d n a
theorem jC{a b:Nat}{d d':Array α}(h:SortedIn lt a b d)(he:∀ i,a<=i->i<b->d'[i]! = d[i]!):SortedIn lt a b d':=λi j hi hij hj=>by
 rw[he i hi ah,he j ah hj];exact h i j hi hij hj
theorem sF.congr{bs x:Nat}{d d':Array α}(h:sF lt bs d x)(he:∀ i,i<x->d'[i]! = d[i]!):sF lt bs d' x:=by
 induction h with
 | zero=>exact .zero
 | step _ hs ih=>exact .step (ih λi hi=>he i ah) (jC hs λi _ hi=>he i hi)
theorem wG.congr{bs n a:Nat}{d d':Array α}(h:wG lt bs d n a)(he:∀ i,a<=i->d'[i]! = d[i]!):wG lt bs d' n a:=by
 induction h with
 | done h=>exact .done h
 | last h hs=>exact .last h (jC hs λi hi _=>he i hi)
 | more h hs _ ih=>exact .more h (jC hs λi hi _=>he i hi) (ih λi hi=>he i ah)
theorem wG.from{bs n x:Nat}{d:Array α}(hl:sF lt bs d x)(h:wG lt bs d n x)(hx:x<=n):wG lt bs d n 0:=by
 induction hl with
 | zero=>exact h
 | @step y hl hs ih=>
  refine ih ?_ ah
  by_cases e:y+bs=n
  ·exact .last ah (by rw[<-e];exact hs)
  ·exact .more ah hs h
theorem wG.two{bs n a:Nat}{d:Array α}(h:wG lt bs d n a)(hb:0<bs)(hn:a+2*bs<=n):SortedIn lt a (a+bs) d/\SortedIn lt (a+bs) (a+2*bs) d/\wG lt bs d n (a+2*bs):=by
 cases h with
 | done h=>omega
 | last h _=>omega
 | more h1 hs h2=>
  refine⟨hs, ?_⟩;cases h2 with
  | done h=>omega
  | last h hs2=>
   have e:n=a+2*bs:=ah;exact⟨by rw[<-e];exact hs2,.done ah⟩
  | more h3 hs3 h4=>rw[show a+bs+bs=a+2*bs by omega] at hs3 h4;exact⟨hs3,h4⟩
theorem wG.one{bs n a:Nat}{d:Array α}(h:wG lt bs d n a)(hn:n<=a+bs):SortedIn lt a n d:=by
 cases h with
 | done h=>intro i j hi hij hj;omega
 | last _ hs=>exact hs
 | more h1 _ _=>omega
theorem wG.half{bs n a:Nat}{d:Array α}(h:wG lt bs d n a)(hn:n<a+2*bs)(hm:a+bs<n):SortedIn lt a (a+bs) d/\SortedIn lt (a+bs) n d:=by
 cases h with
 | done h=>omega
 | last h _=>omega
 | more h1 hs h2=>exact⟨hs,h2.one ah⟩
end Go.Proofs.YtgfkglhelfkpoaaGreat.xP
namespace Go.Proofs.YtgfkglhelfkpoaaGreat
section
open Go.RowKit Plain
open Go.Sort (PermIn SortedIn SWO swp flatK HoldsK putRowK grow)
structure TmE where
 A:Option I3
 cap:Nat
 t:av
def TmE.ok(w:Iv)(blk n:Nat)(x:TmE):Prop:=Ints w x.A x.t.1/\(∀ q,L9 x.t.1.length x.A q->q≠blk)/\x.t.1.length=n
abbrev kN (w:Iv) (blk n:Nat):={x:TmE // x.ok w blk n}
def encS{w:Iv}{blk n:Nat}(x:kN w blk n):List I1:=[V x.1.A x.1.t.1.length x.1.cap,I J x.1.t.2]
def iw{w:Iv}{blk n:Nat}(x y:kN w blk n):Int:=cmpL x.1.t.1 y.1.t.1
variable{w:Iv}{blk n:Nat}
theorem X9(x:kN w blk n):(encS x).length=2:=rfl
theorem X_(x:kN w blk n):∀ v∈encS x,v.oneCell'=true:=λv hv=>by
 simp[encS] at hv;rcases hv with rfl | rfl<;>rfl
theorem aae:SWO (ltOf (iw (w:=w) (blk:=blk) (n:=n))):=by
 refine⟨λx=>?_,λx y z h1 h2=>?_,λx y z h1 h2=>?_⟩
 ·unfold ltOf iw;rw[qg];rfl
 ·unfold ltOf iw at *;exact decide_eq_true (gZ (of_decide_eq_true h1) (of_decide_eq_true h2))
 ·unfold ltOf iw at *;exact decide_eq_false (Ja (of_decide_eq_false h1) (of_decide_eq_false h2))
section
variable {α:Type}[Inhabited α] {enc:α->List I1}{k:Nat}{w0 W:Iv}{blk off:Nat}{dk:Array α}
theorem Qj(h:SWK enc k w0 blk off dk W):aC (λq=>q=blk) w0 W:=by
 obtain⟨m,os,rfl⟩:=h;refine⟨rfl,rfl,rfl,size_sortWorldK_c enc k w0 blk off m dk os,λq hq hne=>?_⟩;unfold sortWorldK Go.Sort.putRowK Go.Sort.grow;have hsz:q<(Go.Sort.putRow id (Go.Sort.ahead w0 m) blk off (flatK enc k dk)).heap.size:=by rw[Go.Sort.size_putRow];exact hq
 show ((Go.Sort.putRow id (Go.Sort.ahead w0 m) blk off (flatK enc k dk)).heap++os)[q]? = _;rw[Array.getElem?_append_left hsz];simp only[Go.Sort.putRow,Go.Sort.mapBlock,Array.getElem?_modify];rw[if_neg (λe=>hne e.symm)];rfl
theorem af0(m:Nat)(os:Array Obj):SWK enc k w0 blk off dk (sortWorldK enc k w0 blk off m dk os):=⟨m,os,rfl⟩
end
theorem RQ(A B:Option I3)(ca cb:Nat)(a b:List Int)(c d:Int)(W:Iv)(hA:Ints W A a)(hB:Ints W B b)(hl:b.length=a.length)(ha:a.length<=9223372036854775807) :
  I0 Tryz.prog 178 #[.agg #[V A a.length ca,I J c],.agg #[V B a.length cb,I J d]] W λe w'=>e=If (I J (cmpL a b))/\∃ q os',w'=grow (W.drewN q) os':=by
 have HC:=aj (λ(w':Iv) (hb:Ix W.heap.size W w')=>Al A B ca cb a b w' (hA.below hb) (hB.below hb) hl ha);have HG:ak (Ix W.heap.size W ((W.alloc (Is #[V A a.length ca,I J c] 173)).alloc (Is #[V B a.length cb,I J d] 173))):=by show Ix _ _ _;go_grown
 clear hA hB hl;generalize cmpL a b=r at *;go_enter func178,ntmps178;go_wp2_with fail;refine (HC.o _ HG.o).mono ?_;rintro e w' ⟨rfl,rfl⟩;go_wp2;go_ret;exact⟨rfl,0,_,by rw[Go.Sort.alloc_eq_grow,Go.Sort.alloc_eq_grow,Go.Sort.grow_grow];rfl⟩
theorem X0[Inhabited (kN w blk n)](off size:Nat)(hn:n<=9223372036854775807):CmpLays Tryz.prog 178 #[] (encS (w:=w) (blk:=blk) (n:=n)) 2 iw blk off size w:=λm os dk _ x y=>by
 have ho:=Qj (af0 (enc:=encS (w:=w) (blk:=blk) (n:=n)) (k:=2) (w0:=w) (blk:=blk) (off:=off) (dk:=dk) m os);have hx:=x.2.1.Zz ho (λq _ hq=>x.2.2.1 q hq);have hy:=y.2.1.Zz ho (λq _ hq=>y.2.2.1 q hq);have hl:y.1.t.1.length=x.1.t.1.length:=by rw[y.2.2.2,x.2.2.2]
 have h:=RQ x.1.A y.1.A x.1.cap y.1.cap x.1.t.1 y.1.t.1 x.1.t.2 y.1.t.2 _ hx hy hl (by rw[x.2.2.2];exact hn);have e:encS y=[V y.1.A x.1.t.1.length y.1.cap,I J y.1.t.2]:=by unfold encS;rw[hl]
 rw[e];exact h
def Gb(w:Iv)(blk off n:Nat)(ts:List av):Prop:=
 ∀ i t,ts[i]? = M t->∃ Ai cap,w.cell? ⟨blk,off+i*2,U⟩=M (V Ai t.1.length cap)/\w.cell? ⟨blk,off+i*2+1,U⟩=M (I J t.2) /\
  w.frozen? ⟨blk,off+i*2,U⟩=false/\w.frozen? ⟨blk,off+i*2+1,U⟩=false/\(TmE.mk Ai cap t).ok w blk n
variable{off:Nat}{ts:List av}
theorem SF[Inhabited (kN w blk n)](h:Gb w blk off n ts) :
  ∃ d:Array (kN w blk n),d.size=ts.length/\HoldsK encS 2 w blk off d/\d.toList.map (·.1.t)=ts:=by
 obtain⟨es,hl,he⟩:=Qe ts.length (λi (x:kN w blk n)=>ts[i]? = M x.1.t/\w.cell? ⟨blk,off+i*2,U⟩=M (V x.1.A x.1.t.1.length x.1.cap)/\w.cell? ⟨blk,off+i*2+1,U⟩=M (I J x.1.t.2)/\w.frozen? ⟨blk,off+i*2,U⟩=false/\w.frozen? ⟨blk,off+i*2+1,U⟩=false) (λi hi=>by
  obtain⟨Ai,cap,h1,h2,h3,h4,h5⟩:=h i _ (List.getElem?_eq_getElem hi);exact⟨⟨⟨Ai,cap,ts[i]⟩,h5⟩,List.getElem?_eq_getElem hi,h1,h2,h3,h4⟩)
 refine⟨es.toArray,by simpa using hl,λj hj=>?_, ?_⟩
 ·have hj':j<es.length*2:=by simpa [flatK] using hj
  have hi:j / 2<es.length:=ah;have hg:es.toArray[j / 2]! = es[j / 2]:=by simp[getElem!_pos,hi]
  obtain⟨_,h1,h2,h3,h4⟩:=he (j / 2) _ (List.getElem?_eq_getElem hi);rw[Go.Sort.get_flatK _ _ _ _ (by simpa using hj'),hg]
  rcases Nat.mod_two_eq_zero_or_one j with e | e
  ·rw[e,show off+j=off+j / 2*2 by omega];exact⟨h1,h3⟩
  ·rw[e,show off+j=off+j / 2*2+1 by omega];exact⟨h2,h4⟩
 ·apply List.ext_getElem?
  intro i;simp only[List.getElem?_map]
  by_cases hi:i<es.length
  ·rw[List.getElem?_eq_getElem hi]
   exact ((he i _ (List.getElem?_eq_getElem hi)).1).symm
  ·rw[List.getElem?_eq_none ah,List.getElem?_eq_none ah];rfl
theorem OG{w':Iv}[Inhabited (kN w blk n)]{d d':Array (kN w blk n)}(hblk:blk<w.heap.size)(hH:HoldsK encS 2 w blk off d)(hts:d.toList.map (·.1.t)=ts)
  (hp:PermIn 0 d.size d d') (hs:SortedIn (ltOf iw) 0 d.size d') (hw:SWK encS 2 w blk off d' w') :
  ∃ yV,yV.Perm ts/\yV.Pairwise (λs t=>¬ cmpL t.1 s.1<0)/\Gb w' blk off n yV/\aC (λq=>q=blk) w w':=by
 have ho:=Qj hw;have hsz:d'.size=d.size:=hp.1;have hH':=hw.holds hblk hH hsz;have hpl:d'.toList.Perm d.toList:=by
  have h3:=hp.2.2;rw[Array.extract_size,<-hsz,Array.extract_size] at h3;exact h3
 refine⟨d'.toList.map (·.1.t), ?_, ?_, ?_,ho⟩
 ·rw[<-hts];exact hpl.map _
 ·rw[List.pairwise_map,List.pairwise_iff_getElem]
  intro i j hi hj hij;have hi':i<d'.size:=by simpa using hi
  have hj':j<d'.size:=by simpa using hj
  have:=hs i j (Nat.zero_le _) hij ah;rw[getElem!_pos d' i hi',getElem!_pos d' j hj'] at this;have:=of_decide_eq_false this;simpa [iw] using this
 ·intro i t ht
  rw[List.getElem?_map] at ht;have hi:i<d'.size:=by
   rcases Nat.lt_or_ge i d'.size with h | h
   ·exact h
   ·rw[List.getElem?_eq_none (by simpa using h)] at ht;simp at ht
  have hx:d'.toList[i]? = M d'[i]!:=by rw[getElem!_pos d' i hi];simp[hi]
  rw[hx] at ht;obtain rfl:(d'[i]!).1.t=t:=by simpa using ht
  have c0:=hH'.cell hi (show 0<2 by omega);have c1:=hH'.cell hi (show 1<2 by omega);rw[Mm] at c0;obtain⟨k1,k2,k3⟩:=(d'[i]!).2;exact⟨_,_,c0.1,c1.1,c0.2,c1.2,k1.Zz ho (λq _ hq=>k2 q hq),k2,k3⟩
end
section
open Go.RowKit Plain xP
open Go.Sort (PermIn SortedIn SWO swp HoldsK grow)
structure qb {w0:Iv}{blk n:Nat}[Inhabited (kN w0 blk n)] (off:Nat) (d0:Array (kN w0 blk n)):Prop where
 hH:HoldsK encS 2 w0 blk off d0
 hblk:blk<w0.heap.size
 sz:d0.size<4611686018427387904
 hn:n<=9223372036854775807
section
variable {w0 W:Iv}{blk n off:Nat}[Inhabited (kN w0 blk n)] {d0 dk:Array (kN w0 blk n)}
abbrev jU (w0:Iv) (blk n off:Nat) [Inhabited (kN w0 blk n)] (dk:Array (kN w0 blk n)) (W:Iv):Prop:=SWK encS 2 w0 blk off dk W
theorem qb.R(H:qb off d0):RowK encS 2 w0 blk off d0:=⟨X9,X_,H.hH,H.hblk⟩
omit [Inhabited (kN w0 blk n)] in
theorem CF(x:kN w0 blk n):encS x=[V x.1.A n x.1.cap,I J x.1.t.2]:=by unfold encS;rw[x.2.2.2]
theorem jU.cells(H:qb off d0)(S:jU w0 blk n off dk W)(hs:dk.size=d0.size)(i:Nat)(hi:i<dk.size) :
  (W.cell? ⟨blk,off+i*2,U⟩=M (.slice (dk[i]!).1.A n (dk[i]!).1.cap)/\W.frozen? ⟨blk,off+i*2,U⟩=false) /\
  (W.cell? ⟨blk,off+i*2+1,U⟩=M (I J (dk[i]!).1.t.2)/\W.frozen? ⟨blk,off+i*2+1,U⟩=false):=by
 have hh:=S.holds H.hblk H.hH hs;have c0:=hh.cell hi (show 0<2 by omega);have c1:=hh.cell hi (show 1<2 by omega);rw[CF] at c0 c1;rw[Mm] at c0;exact⟨c0,c1⟩
structure aj3 (w0:Iv) (blk n off:Nat) (W:Iv) (i j:Nat) (A A':Option I3) (c c':Nat) (v v' z:Int):Prop where
 a0:∀ m os,(grow (W.drewN m) os).cell? ⟨blk,off+i*2,U⟩=M (V A n c)
 a1:∀ m os,(grow (W.drewN m) os).cell? ⟨blk,off+i*2+1,U⟩=M (I J v)
 b0:∀ m os,(grow (W.drewN m) os).cell? ⟨blk,off+j*2,U⟩=M (V A' n c')
 b1:∀ m os,(grow (W.drewN m) os).cell? ⟨blk,off+j*2+1,U⟩=M (I J v')
 call:∀ m os,I0 Tryz.prog 178 #[.agg #[V A n c,I J v],.agg #[V A' n c',I J v']] (grow (W.drewN m) os) λe w'=>e=If (I J z)/\∃ q os',w'=grow ((grow (W.drewN m) os).drewN q) os'
theorem KY(H:qb off d0)(S:jU w0 blk n off dk W)(hs:dk.size=d0.size)(i j:Nat)(hi:i<dk.size)(hj:j<dk.size) :
  ∃ A A' c c' v v' z,aj3 w0 blk n off W i j A A' c c' v v' z/\z=iw dk[i]! dk[j]!:=by
 refine⟨_,_,_,_,_,_,_,⟨λm os=>(jU.cells H (S.grown m os) hs i hi).1.1,λm os=>(jU.cells H (S.grown m os) hs i hi).2.1,λm os=>(jU.cells H (S.grown m os) hs j hj).1.1,λm os=>(jU.cells H (S.grown m os) hs j hj).2.1,λm os=>?_⟩,rfl⟩;have h:=S.cmp (X0 (w:=w0) (blk:=blk) (n:=n) off d0.size H.hn) hs dk[i]! dk[j]! m os;rw[CF,CF] at h;exact h
structure aj7 (w0:Iv) (blk n off:Nat) [Inhabited (kN w0 blk n)] (W:Iv) (i j:Nat) (A A':Option I3) (c c':Nat) (v v':Int) (d2:Array (kN w0 blk n)):Prop where
 a0:W.cell? ⟨blk,off+i*2,U⟩=M (V A n c)
 a1:W.cell? ⟨blk,off+i*2+1,U⟩=M (I J v)
 b0:W.cell? ⟨blk,off+j*2,U⟩=M (V A' n c')
 b1:W.cell? ⟨blk,off+j*2+1,U⟩=M (I J v')
 fr:∀ o,o<2->W.frozen? ⟨blk,off+i*2+o,U⟩=false/\W.frozen? ⟨blk,off+j*2+o,U⟩=false
 s1:(W.setCell ⟨blk,off+i*2,U⟩ (V A' n c')).cell? ⟨blk,off+i*2+1,U⟩=M (I J v)
 s2:((W.setCell ⟨blk,off+i*2,U⟩ (V A' n c')).setCell ⟨blk,off+i*2+1,U⟩ (I J v')).cell? ⟨blk,off+j*2,U⟩=M (V A' n c')
 s3:(((W.setCell ⟨blk,off+i*2,U⟩ (V A' n c')).setCell ⟨blk,off+i*2+1,U⟩ (I J v')).setCell ⟨blk,off+j*2,U⟩ (V A n c)).cell? ⟨blk,off+j*2+1,U⟩=M (I J v')
 sw:jU w0 blk n off d2 (((((W.setCell ⟨blk,off+i*2,U⟩ (V A' n c')).setCell ⟨blk,off+i*2+1,U⟩ (I J v')).setCell ⟨blk,off+j*2,U⟩ (V A n c)).setCell ⟨blk,off+j*2+1,U⟩ (I J v)).drew)
theorem zF{w:Iv}{b i j:Nat}(v:I1)(h:i≠j):(w.setCell ⟨b,j,U⟩ v).cell? ⟨b,i,U⟩=w.cell? ⟨b,i,U⟩:=World.cell?_setCell_other _ _ _ _ (λe=>by injection e with _ h' _;omega)
theorem acb(H:qb off d0)(S:jU w0 blk n off dk W)(hs:dk.size=d0.size)(i j:Nat)(hi:i<dk.size)(hj:j<dk.size)(hij:i≠j) :
  ∃ A A' c c' v v',aj7 w0 blk n off W i j A A' c c' v v' (swp dk i j):=by
 obtain⟨⟨i0,fi0⟩,i1,fi1⟩:=jU.cells H S hs i hi;obtain⟨⟨j0,fj0⟩,j1,fj1⟩:=jU.cells H S hs j hj;have hsw:=S.swapped H.R i j hi hj;rw[CF,CF] at hsw;refine⟨_,_,_,_,_,_,i0,i1,j0,j1,λo ho=>?_, ?_, ?_, ?_,hsw⟩
 ·rcases (by omega:o=0∨o=1) with rfl | rfl
  ·exact⟨fi0,fj0⟩
  ·exact⟨fi1,fj1⟩
 ·rw[zF _ ah];exact i1
 ·rw[zF _ ah,zF _ ah];exact j0
 ·rw[zF _ ah,zF _ ah,zF _ ah];exact j1
end
end
section
open Go.RowKit Plain xP
open Go.Sort (PermIn SortedIn SWO swp swp_permIn permIn_refl permIn_trans permIn_mono size_swp HoldsK grow)
section
variable {w0:Iv}{blk n' off:Nat}[Inhabited (kN w0 blk n')] {d0:Array (kN w0 blk n')}
theorem EF(H:qb off d0)(cap a b n:Nat)(az bz nz:Int)(ha:az=a)(hb:bz=b)(hn:nz=n)(d:Array (kN w0 blk n'))(w:Iv)(hds:d.size=d0.size)(S:jU w0 blk n' off d w)(hab:a+n<=b)(hbn:b+n<=d.size) :
  I0 Tryz.prog 285 #[V (M ⟨blk,off,U⟩) d.size cap,I J az,I J bz,I J nz,.func (.func 178) #[] #[]] w λe w'=>e=If (.tuple #[])/\∃ d',jU w0 blk n' off d' w'/\PermIn a (b+n) d d'/\∀ t,d'[t]! = KN (λt=>d[t]!) a b n t:=by
 subst ha hb hn;have mixed:Tryz.prog.follows .mixedOrders=true:=aL;have hsz:=H.sz;have C8:d.size<4611686018427387904:=ah;have S0:=aj S;have Ea:=aj hds;clear S hds;go_enter func285,ntmps285;go_wp2
 go_loopg [10] n (λkx s wr=>∃ (i:Nat) (dk:Array (kN w0 blk n')),s=I J (i:Int)/\i<=n/\n - i<=kx/\dk.size=d.size/\ak (jU w0 blk n' off dk wr)/\ak (PermIn a (b+n) d dk)/\ak (∀ t,dk[t]! = KN (λt=>d[t]!) a b i t))
 case atStart=>exact⟨0,d,bE,ah,ah,rfl,S0,permIn_refl _ _ _,by show ∀ t,_;rw[aac];intro t;rfl⟩
 case round=>
  clear S0;obtain⟨i,dk,rfl,hin,hkx,hdk,S1,HP,HF⟩:=hrel
  by_cases hlt:i<n
  ·have hltz:(i:Int)<(n:Int):=ah
   go_wp2_with fail;have ea1:((a:Int)+(i:Int)).toNat=a+i:=ah;have pa1:(0:Int)<=(a:Int)+(i:Int):=ah;have ba1:(a:Int)+(i:Int)<(d.size:Int):=ah;have ra1:IntKind.i64.wrap ((a:Int)+(i:Int))=(a:Int)+(i:Int):=by rw[IntKind.wrap_i64];omega
   have ec1:((b:Int)+(i:Int)).toNat=b+i:=ah;have pc1:(0:Int)<=(b:Int)+(i:Int):=ah;have bc1:(b:Int)+(i:Int)<(d.size:Int):=ah;have rc1:IntKind.i64.wrap ((b:Int)+(i:Int))=(b:Int)+(i:Int):=by rw[IntKind.wrap_i64];omega
   obtain⟨A1,A1',c1,c1',v1,v1',X1⟩:=acb H S1.o (by have:=Ea.o;omega) (a+i) (b+i) ah ah ah;have Ie:=X1.a0;have Ig:=X1.a1;have Ih:=X1.b0;have Ii:=X1.b1;have aiH:=(X1.fr 0 ah).1;have alv:=(X1.fr 1 ah).1;have aiJ:=(X1.fr 0 ah).2;have alx:=(X1.fr 1 ah).2;rw[Mm] at aiH aiJ;have alz:=X1.s1;have alB:=X1.s2;have alD:=X1.s3;have S2:=aj X1.sw;clear S1 X1;go_wp2_with fail
   go_region
   clear Ie Ig Ih Ii aiH alv aiJ alx alz alB alD;generalize ((((wr.setCell ⟨blk,off+(a+i)*2,U⟩ (V A1' n' c1')).setCell ⟨blk,off+(a+i)*2+1,U⟩ (I J v1')).setCell ⟨blk,off+(b+i)*2,U⟩ (V A1 n' c1)).setCell ⟨blk,off+(b+i)*2+1,U⟩ (I J v1)).drew=w2 at S2 ⊢;have mU:ak (PermIn a (b+n) d (swp dk (a+i) (b+i))):=permIn_trans _ _ _ _ _ HP.o (swp_permIn _ _ _ _ _ ah ah ah ah ah)
   have LJ:ak (∀ t,(swp dk (a+i) (b+i))[t]! = KN (λt=>d[t]!) a b (i+1) t):=Z_ ah ah hdk HF.o;go_wp2
   go_roundg (n - (i+1))
   case measure=>omega
   case rel=>exact⟨i+1,swp dk (a+i) (b+i),by first | rfl | go_num,ah,ah,by rw[size_swp];exact hdk,S2,mU,LJ⟩
  ·obtain rfl:i=n:=ah
   go_wp2
   go_end0
   exact⟨rfl,dk,S1.o,HP.o,HF.o⟩
end
end
section
open Go.RowKit Plain xP
open Go.Sort (PermIn SortedIn SWO swp swp_permIn permIn_refl permIn_trans permIn_mono size_swp HoldsK grow)
section
variable {w0:Iv}{blk n' off:Nat}[Inhabited (kN w0 blk n')] {d0:Array (kN w0 blk n')}
theorem OD(H:qb off d0)(cap a m b:Nat)(az mz bz:Int)(ha:az=a)(hm:mz=m)(hb:bz=b)(d:Array (kN w0 blk n'))(w:Iv)(hds:d.size=d0.size)(S:jU w0 blk n' off d w)(ham:a<m)(hmb:m<b)(hbn:b<=d.size) :
  I0 Tryz.prog 282 #[V (M ⟨blk,off,U⟩) d.size cap,I J az,I J mz,I J bz,.func (.func 178) #[] #[]] w λe w'=>e=If (.tuple #[])/\∃ d',jU w0 blk n' off d' w'/\PermIn a b d d'/\∀ t,d'[t]! = gP (λt=>d[t]!) a m b t:=by
 subst ha hm hb;have hsz:=H.sz;have C8:d.size<4611686018427387904:=ah;have S0:=aj S;clear S;have HSW:ak (∀ (x y n:Nat) (xz yz nz:Int) (dk:Array (kN w0 blk n')) (wr:Iv),xz=x->yz=y->nz=n->dk.size=d.size->jU w0 blk n' off dk wr->x+n<=y->y+n<=d.size ->
   I0 Tryz.prog 285 #[V (M ⟨blk,off,U⟩) d.size cap,I J xz,I J yz,I J nz,.func (.func 178) #[] #[]] wr λe w'=>e=If (.tuple #[])/\∃ d',jU w0 blk n' off d' w'/\PermIn x (y+n) dk d'/\∀ t,d'[t]! = KN (λt=>dk[t]!) x y n t):=by
  intro x y n xz yz nz dk wr hx hy hn hdk hS h1 h2;rw[<-hdk];exact EF H cap x y n xz yz nz hx hy hn dk wr ah hS h1 ah
 clear hds;go_enter func282,ntmps282;go_wp2
 go_loopg [10,11] (m - a+(b - m)) (λkx Hy s11 wr=>∃ (i j:Nat) (dk:Array (kN w0 blk n')),Hy=I J (i:Int)/\s11=I J (j:Int)/\0<i/\0<j/\a+i<=m/\m+j<=b/\i+j<=kx/\dk.size=d.size/\ak (jU w0 blk n' off dk wr)/\ak (PermIn a b d dk)/\ak (gP (λt=>dk[t]!) (m - i) m (m+j)=gP (λt=>d[t]!) a m b))
 case atStart=>exact⟨m - a,b - m,d,by first | rfl | go_num | (congr 1;omega),by first | rfl | go_num | (congr 1;omega),ah,ah,ah,ah,ah,rfl,S0,permIn_refl _ _ _,by show _=_;rw[show m - (m - a)=a by omega,show m+(b - m)=b by omega]⟩
 case round=>
  clear S0;obtain⟨i,j,dk,rfl,rfl,hi0,hj0,hai,hjb,hkx,hdk,S1,HP,HF⟩:=hrel
  by_cases hij:i=j
  ·have hb:((i:Int)==(j:Int))=true:=by simp[hij]
   have akv:((i:Int) != (j:Int))=false:=by simp[hij]
   have HIJ:=aj hij;clear hij;go_wp2_with fail;refine (HSW.o (m - i) m i _ _ _ dk wr ah rfl rfl hdk S1.o ah (by have:=HIJ.o;omega)).mono ?_;rintro e w2 ⟨rfl,d2,hS2,wT,hF2⟩;have HE:ak (∃ d',jU w0 blk n' off d' w2/\PermIn a b d d'/\∀ t,d'[t]! = gP (λt=>d[t]!) a m b t):=by
    refine⟨d2,hS2,permIn_trans _ _ _ _ _ HP.o (permIn_mono _ _ (m - i) (m+i) _ _ ah (by have:=HIJ.o;omega) ah wT),λt=>?_⟩;have hE:=HIJ.o;rw[hF2 t,<-SC _ _ _ ah,<-HF.o,<-hE]
   clear hS2 wT hF2;go_wp2
   go_end0
   exact⟨rfl,HE.o⟩
  ·have hb:((i:Int)==(j:Int))=false:=by simp;omega
   have akv:((i:Int) != (j:Int))=true:=by simp;omega
   by_cases hgt:j<i
   ·have hgz:(j:Int)<(i:Int):=ah
    go_wp2_with fail;refine (HSW.o (m - i) m j _ _ _ dk wr ah rfl rfl hdk S1.o ah ah).mono ?_;rintro e w2 ⟨rfl,d2,hS2,wT,hF2⟩;have HS2:=aj hS2;have HD2:ak (d2.size=d.size):=wT.1.trans hdk;have mU:ak (PermIn a b d d2):=permIn_trans _ _ _ _ _ HP.o (permIn_mono _ _ (m - i) (m+j) _ _ ah ah ah wT);have LJ:ak (gP (λt=>d2[t]!) (m - (i - j)) m (m+j)=gP (λt=>d[t]!) a m b):=by
     show _=_;rw[<-HF.o,show (λt=>d2[t]!)=KN (λt=>dk[t]!) (m - i) m j from funext hF2];exact OA _ _ _ _ ah hgt
    clear hS2 wT hF2 S1 HP HF;go_wp2
    go_roundg (i - j+j)
    case measure=>omega
    case rel=>exact⟨i - j,j,d2,by first | rfl | go_num | (congr 1;omega),rfl,ah,hj0,ah,hjb,ah,HD2.o,HS2,mU,LJ⟩
   ·have hgz:¬ (j:Int)<(i:Int):=ah
    have amx:(i:Int)<(j:Int):=ah;go_wp2_with fail;refine (HSW.o (m - i) (m+j - i) i _ _ _ dk wr ah ah rfl hdk S1.o ah ah).mono ?_;rintro e w2 ⟨rfl,d2,hS2,wT,hF2⟩;have HS2:=aj hS2;have HD2:ak (d2.size=d.size):=wT.1.trans hdk;have mU:ak (PermIn a b d d2):=permIn_trans _ _ _ _ _ HP.o (permIn_mono _ _ (m - i) (m+j - i+i) _ _ ah ah ah wT);have LJ:ak (gP (λt=>d2[t]!) (m - i) m (m+(j - i))=gP (λt=>d[t]!) a m b):=by
     show _=_;rw[<-HF.o,show (λt=>d2[t]!)=KN (λt=>dk[t]!) (m - i) (m+j - i) i from funext hF2];exact OC _ _ _ _ ah ah
    clear hS2 wT hF2 S1 HP HF;go_wp2
    go_roundg (i+(j - i))
    case measure=>omega
    case rel=>exact⟨i,j - i,d2,rfl,by first | rfl | go_num | (congr 1;omega),hi0,ah,hai,ah,ah,HD2.o,HS2,mU,LJ⟩
end
end
section
open Go.RowKit Plain xP
open Go.Sort (PermIn SortedIn SWO swp swp_permIn permIn_refl permIn_trans permIn_mono size_swp HoldsK grow)
section
variable {w0:Iv}{blk n' off:Nat}[Inhabited (kN w0 blk n')] {d0:Array (kN w0 blk n')}
theorem Ev(H:qb off d0)(cap a b:Nat)(az bz:Int)(ha:az=a)(hb:bz=b)(d:Array (kN w0 blk n'))(w:Iv)(hds:d.size=d0.size)(S:jU w0 blk n' off d w)(hab:a<=b)(hbn:b<=d.size) :
  I0 Tryz.prog 267 #[V (M ⟨blk,off,U⟩) d.size cap,I J az,I J bz,.func (.func 178) #[] #[]] w λe w'=>e=If (.tuple #[])/\∃ d',jU w0 blk n' off d' w'/\PermIn a b d d'/\SortedIn (ltOf iw) a b d':=by
 subst ha hb;have mixed:Tryz.prog.follows .mixedOrders=true:=aL;have hsz:=H.sz;have C8:d.size<4611686018427387904:=ah;have S0:=aj S;have FIN:ak (PermIn a b d (Go.Sort.insertionSort (ltOf iw) d a b)/\SortedIn (ltOf iw) a b (Go.Sort.insertionSort (ltOf iw) d a b)):=Go.Sort.insertionSort_holds aae d a b hab hbn;have Ea:=aj hds;clear S hds;go_enter func267,ntmps267;go_wp2
 go_loopg [8] (b - a) (λg1 vi wr=>∃ (i:Nat) (dk:Array (kN w0 blk n')),vi=I J (i:Int)/\a<i/\i<=b+1/\b+1 - i<=g1+1/\dk.size=d.size/\ak (jU w0 blk n' off dk wr)/\ak (Go.Sort.insOuter (ltOf iw) a b i dk=Go.Sort.insOuter (ltOf iw) a b (a+1) d))
 case atStart=>exact⟨a+1,d,bE,ah,ah,ah,rfl,S0,by show _=_;rfl⟩
 case round=>
  clear S0;obtain⟨i,dk,rfl,hai,hib,hg1,hsk,S1,HO⟩:=hrel
  by_cases hlt:i<b
  ·have hltz:(i:Int)<(b:Int):=ah
   go_wp2
   go_loopg [9] i (λg2 vj wr2=>∃ (j:Nat) (dj:Array (kN w0 blk n')),vj=I J (j:Int)/\a<=j/\j<=i/\j<=g2/\dj.size=d.size/\ak (jU w0 blk n' off dj wr2)/\ak (Go.Sort.insInner (ltOf iw) a j dj=Go.Sort.insInner (ltOf iw) a i dk))
   case atStart=>exact⟨i,dk,rfl,ah,Jn _,Jn _,hsk,S1,by show _=_;rfl⟩
   case round=>
    clear S1;obtain⟨j,dj,rfl,haj,hji,hg2,hsj,S1,HI⟩:=hrel;have OUT:ak ((j<=a∨ltOf iw dj[j]! dj[j - 1]! = false)->Go.Sort.insOuter (ltOf iw) a b (i+1) dj=Go.Sort.insOuter (ltOf iw) a b (a+1) d):=λhs=>by
     rw[<-HO.o,insOuter_go _ _ _ _ _ hlt,<-HI.o,insInner_stop _ _ _ _ hs]
    by_cases hja:a<j
    ·have hjaz:(a:Int)<(j:Int):=ah
     obtain⟨jp,rfl⟩:∃ jp,j=jp+1:=⟨j - 1,ah⟩
     have hwp:IntKind.i64.wrap (jp:Int)=(jp:Int):=by rw[IntKind.wrap_i64];omega
     have hjaz':(a:Int)<(jp:Int)+1:=ah;cases hL:ltOf iw dj[jp+1]! dj[jp]! with
     | true=>
      have ea1:((jp:Int)+1).toNat=jp+1:=ah;have pa1:(0:Int)<=(jp:Int)+1:=ah;have ba1:(jp:Int)+1<(d.size:Int):=ah;have ra1:IntKind.i64.wrap ((jp:Int)+1)=(jp:Int)+1:=by rw[IntKind.wrap_i64];omega
      have ec1:((jp:Int)).toNat=jp:=ah;have pc1:(0:Int)<=(jp:Int):=ah;have bc1:(jp:Int)<(d.size:Int):=ah;have rc1:IntKind.i64.wrap ((jp:Int))=(jp:Int):=by rw[IntKind.wrap_i64];omega
      obtain⟨A1,A1',c1,c1',v1,v1',z1,X1,hz1⟩:=KY H S1.o (by have:=Ea.o;omega) (jp+1) (jp) ah ah;have Ie:=X1.a0;have Ig:=X1.a1;have Ih:=X1.b0;have Ii:=X1.b1;have xc1:=X1.call;have hv1:z1<0:=by rw[hz1];exact of_decide_eq_true hL
      have hd1:decide (z1<0)=true:=decide_eq_true hv1;clear hz1 X1;go_wp2_with fail
      go_quiet_grown (first | (go_at_call 178;refine Calls.grown_of (xc1 _ _)))
      have S2:ak (jU w0 blk n' off dj (grow (wr.drewN nq) osq)):=S1.o.grown nq osq;clear Ie Ig Ih Ii xc1 S1;generalize grow (wr.drewN nq) osq=w2 at S2 ⊢;clear nq osq;go_wp2_with fail;obtain⟨A2,A2',c2,c2',v2,v2',X2⟩:=acb H S2.o (by have:=Ea.o;omega) (jp+1) (jp) ah ah ah;have OW:=X2.a0;have OX:=X2.a1;have OY:=X2.b0;have OZ:=X2.b1;have aiI:=(X2.fr 0 ah).1;have alw:=(X2.fr 1 ah).1
      have aiK:=(X2.fr 0 ah).2;have aly:=(X2.fr 1 ah).2;rw[Mm] at aiI aiK;have alA:=X2.s1;have alC:=X2.s2;have alE:=X2.s3;have S3:=aj X2.sw;clear S2 X2;go_wp2_with fail
      go_region
      clear OW OX OY OZ aiI alw aiK aly alA alC alE;generalize ((((w2.setCell ⟨blk,off+(jp+1)*2,U⟩ (V A2' n' c2')).setCell ⟨blk,off+(jp+1)*2+1,U⟩ (I J v2')).setCell ⟨blk,off+(jp)*2,U⟩ (V A2 n' c2)).setCell ⟨blk,off+(jp)*2+1,U⟩ (I J v2)).drew=w3 at S3 ⊢;go_wp2
      go_roundg jp
      case measure=>omega
      case rel=>
       refine⟨jp,swp dj (jp+1) jp,by first | rfl | go_num | (congr 1;omega),ah,ah,Jn _,by rw[size_swp];exact hsj,S3, ?_⟩;show _=_;have:=insInner_go (ltOf iw) a (jp+1) dj hja (by simp only[Nat.add_sub_cancel];exact hL);simp only[Nat.add_sub_cancel] at this;rw[<-HI.o,this]
     | false=>
      have ea3:((jp:Int)+1).toNat=jp+1:=ah;have pa3:(0:Int)<=(jp:Int)+1:=ah;have ba3:(jp:Int)+1<(d.size:Int):=ah;have ra3:IntKind.i64.wrap ((jp:Int)+1)=(jp:Int)+1:=by rw[IntKind.wrap_i64];omega
      have ec3:((jp:Int)).toNat=jp:=ah;have pc3:(0:Int)<=(jp:Int):=ah;have bc3:(jp:Int)<(d.size:Int):=ah;have rc3:IntKind.i64.wrap ((jp:Int))=(jp:Int):=by rw[IntKind.wrap_i64];omega
      obtain⟨A3,A3',c3,c3',v3,v3',z3,X3,hz3⟩:=KY H S1.o (by have:=Ea.o;omega) (jp+1) (jp) ah ah;have aao:=X3.a0;have aap:=X3.a1;have aaq:=X3.b0;have aar:=X3.b1;have xc3:=X3.call;have hv3:¬ z3<0:=by rw[hz3];exact of_decide_eq_false hL
      have hd3:decide (z3<0)=false:=decide_eq_false hv3;clear hz3 X3;go_wp2_with fail
      go_quiet_grown (first | (go_at_call 178;refine Calls.grown_of (xc3 _ _)))
      have S2:ak (jU w0 blk n' off dj (grow (wr.drewN nq) osq)):=S1.o.grown nq osq;clear aao aap aaq aar xc3 S1;generalize grow (wr.drewN nq) osq=w2 at S2 ⊢;clear nq osq;go_wp2
      go_roundg (b - (i+1))
      case measure=>omega
      case rel=>exact⟨i+1,dj,bE,ah,ah,ah,hsj,S2,OUT.o (Or.inr (by simp only[Nat.add_sub_cancel];exact hL))⟩
    ·have hjaz:decide ((j:Int) > (a:Int))=false:=decide_eq_false ah
     have hjaz':¬ (a:Int)<(j:Int):=ah;have S2:ak (jU w0 blk n' off dj wr.drew):=S1.o.drew;go_wp2_with fail
     go_region
     generalize wr.drew=w2 at *
     all_goals go_wp2
     go_roundg (b - (i+1))
     case measure=>omega
     case rel=>exact⟨i+1,dj,bE,ah,ah,ah,hsj,S2,OUT.o (Or.inl ah)⟩
  ·have hltz:¬ (i:Int)<(b:Int):=ah
   have HE:ak (Go.Sort.insertionSort (ltOf iw) d a b=dk):=by
    show _=_;unfold Go.Sort.insertionSort;rw[<-HO.o,insOuter_stop _ _ _ _ _ hlt]
   go_wp2
   go_end0
   have:=FIN.o;rw[HE.o] at this;exact⟨rfl,dk,S1.o,this⟩
end
end
end Go.Proofs.YtgfkglhelfkpoaaGreat
