/- Texts put together: PGath, PMulP, PSort, WSortE, WSort0, WSort1, WSort1b, WSort1c. -/
import Derived.Test.YtgfkglhelfkpoaaGreatRX
import Derived.Sort.LotA
import Derived.Test.YtgfkglhelfkpoaaGreatRY
import Derived.Test.YtgfkglhelfkpoaaGreatRP
import Derived.Shelf.SlSortCmp.KitK
import Derived.BigRegion
import Derived.BigQuiet
set_option maxRecDepth 100000
set_option maxHeartbeats 4000000
open Go.Lib (hid)
namespace Go.Proofs.YtgfkglhelfkpoaaGreat
section
open Plain
theorem cmpL_refl (a:List Int):cmpL a a=0:=by
 induction a with
 | nil=>rfl
 | cons x a ih=>simp [cmpL,ih]
theorem cmpL_eq {a b:List Int} (h:cmpL a b=0):a=b:=by
 induction a generalizing b with
 | nil=>cases b with
  | nil=>rfl
  | cons y b=>simp [cmpL] at h
 | cons x a ih=>
  cases b with
  | nil=>simp [cmpL] at h
  | cons y b=>
   simp only [cmpL] at h
   split at h
   ·omega
   ·split at h
    ·omega
    ·rw [ih h,show x=y by omega]
theorem cmpL_swap (a b:List Int):cmpL b a=- cmpL a b:=by
 induction a generalizing b with
 | nil=>cases b<;>simp [cmpL]
 | cons x a ih=>
  cases b with
  | nil=>simp [cmpL]
  | cons y b=>
   simp only [cmpL]
   by_cases h1:x<y
   ·rw [if_pos h1,if_neg (by omega),if_pos h1];omega
   ·rw [if_neg h1]
    by_cases h2:y<x
    ·rw [if_pos h2,if_neg h1,if_pos h2]
    ·rw [if_neg h2,if_neg h2,if_neg h1,ih]
theorem cmpL_trans {a b c:List Int} (h1:cmpL a b<0) (h2:cmpL b c<0):cmpL a c<0:=by
 induction a generalizing b c with
 | nil=>
  cases b with
  | nil=>simp [cmpL] at h1
  | cons y b=>
   cases c with
   | nil=>simp [cmpL] at h2
   | cons z c=>simp [cmpL]
 | cons x a ih=>
  cases b with
  | nil=>simp [cmpL] at h1
  | cons y b=>
   cases c with
   | nil=>simp [cmpL] at h2
   | cons z c=>
    simp only [cmpL] at h1 h2 ⊢
    by_cases hxy:x<y
    ·by_cases hyz:y<z
     ·rw [if_pos (by omega)];omega
     ·rw [if_neg hyz] at h2
      by_cases hzy:z<y
      ·rw [if_pos hzy] at h2;omega
      ·rw [if_pos (by omega)];omega
    ·rw [if_neg hxy] at h1
     by_cases hyx:y<x
     ·rw [if_pos hyx] at h1;omega
     ·rw [if_neg hyx] at h1
      by_cases hyz:y<z
      ·rw [if_pos (by omega)];omega
      ·rw [if_neg hyz] at h2
       by_cases hzy:z<y
       ·rw [if_pos hzy] at h2;omega
       ·rw [if_neg hzy] at h2
        rw [if_neg (by omega),if_neg (by omega)]
        exact ih h1 h2
theorem cmpL_ntrans {a b c:List Int} (h1:¬ cmpL a b<0) (h2:¬ cmpL b c<0):¬ cmpL a c<0:=by
 intro h
 have s1:=cmpL_swap a b
 rcases cmpL_bd a b with e | e | e
 ·omega
 ·rw [cmpL_eq e] at h;omega
 ·exact h2 (cmpL_trans (by omega) h)
def cof:List Term'→List Int→Int
 | [],_=>0
 | t :: ts,e=>if t.1=e then pl t.2 (cof ts e) else cof ts e
theorem cof_bd (ts:List Term') (e:List Int):0≤cof ts e∧cof ts e≤1000002:=by
 induction ts with
 | nil=>simp [cof]
 | cons t ts ih=>
  unfold cof
  split
  ·exact pl_bd _ _
  ·exact ih
theorem pl_left (a b c:Int):pl a (pl b c)=pl b (pl a c):=by unfold pl;omega
theorem pl_assoc' (a b c:Int):pl (pl a b) c=pl a (pl b c):=by unfold pl;omega
theorem pl_zeroR {a:Int} (h0:0≤a) (h1:a≤1000002):pl a 0=a:=by unfold pl;omega
theorem pl_zeroL {a:Int} (h0:0≤a) (h1:a≤1000002):pl 0 a=a:=by unfold pl;omega
theorem cof_append (a b:List Term') (e:List Int):cof (a++b) e=pl (cof a e) (cof b e):=by
 induction a with
 | nil=>exact (pl_zeroL (cof_bd b e).1 (cof_bd b e).2).symm
 | cons t a ih=>
  simp only [List.cons_append,cof]
  split
  ·rw [ih,pl_assoc']
  ·exact ih
theorem cof_perm {a b:List Term'} (h:a.Perm b) (e:List Int):cof a e=cof b e:=by
 induction h with
 | nil=>rfl
 | cons t _ ih=>simp only [cof,ih]
 | swap s t l=>
  simp only [cof]
  split<;>split<;>first | rfl | exact pl_left _ _ _
 | trans _ _ h1 h2=>exact h1.trans h2
theorem cof_none {ts:List Term'} {e:List Int} (h:∀ t∈ts,t.1≠e):cof ts e=0:=by
 induction ts with
 | nil=>rfl
 | cons t ts ih=>
  unfold cof
  rw [if_neg (h t (List.mem_cons_self ..))]
  exact ih fun s hs=>h s (List.mem_cons_of_mem _ hs)
theorem cof_one (e x:List Int) {c:Int} (h0:0≤c) (h1:c≤1000002):cof [(e,c)] x=if e=x then c else 0:=by
 simp only [cof]
 split
 ·exact pl_zeroR h0 h1
 ·rfl
structure Canon (ts:List Term'):Prop where
 asc:ts.Pairwise (fun s t=>cmpL s.1 t.1<0)
 coef:∀ t∈ts,1≤t.2∧t.2≤1000002
theorem Canon.nil:Canon []:=⟨List.Pairwise.nil,fun t h=>absurd h (by simp)⟩
theorem Canon.tail {t:Term'} {ts:List Term'} (h:Canon (t :: ts)):Canon ts:=⟨(List.pairwise_cons.1 h.asc).2,fun s hs=>h.coef s (List.mem_cons_of_mem _ hs)⟩
theorem lt_ne {a b:List Int} (h:cmpL a b<0):a≠b:=fun e=>by rw [e,cmpL_refl] at h;omega
theorem Canon.head {t:Term'} {ts:List Term'} (h:Canon (t :: ts)):cof (t :: ts) t.1=t.2:=by
 have hc:=h.coef t (List.mem_cons_self ..)
 unfold cof
 rw [if_pos rfl,cof_none fun s hs=>(lt_ne ((List.pairwise_cons.1 h.asc).1 s hs)).symm]
 exact pl_zeroR (by omega) hc.2
theorem Canon.unique:∀ {a b:List Term'},Canon a→Canon b→(∀ e,cof a e=cof b e)→a=b:=by
 intro a
 induction a with
 | nil=>
  intro b _ hb h
  cases b with
  | nil=>rfl
  | cons t b=>
   have:=h t.1
   rw [hb.head] at this
   have:=hb.coef t (List.mem_cons_self ..)
   have e0:cof [] t.1=0:=rfl
   omega
 | cons s a ih=>
  intro b ha hb h
  have hs:=ha.coef s (List.mem_cons_self ..)
  cases b with
  | nil=>
   have:=h s.1
   rw [ha.head] at this
   have e0:cof [] s.1=0:=rfl
   omega
  | cons t b=>
   have ht:=hb.coef t (List.mem_cons_self ..)
   have hsw:=cmpL_swap s.1 t.1
   rcases cmpL_bd s.1 t.1 with e | e | e
   ·have h1:=h s.1
    rw [ha.head,cof_none (ts:=t :: b) fun x hx=>?_] at h1
    ·omega
    ·rcases List.mem_cons.1 hx with rfl | hx
     ·exact (lt_ne (by omega)).symm
     ·exact (lt_ne (cmpL_trans (by omega) ((List.pairwise_cons.1 hb.asc).1 x hx))).symm
   ·have e1:=cmpL_eq e
    have h1:=h s.1
    rw [ha.head,e1,hb.head] at h1
    obtain rfl:s=t:=Prod.ext e1 h1
    rw [ih ha.tail hb.tail fun x=>?_]
    by_cases hx:s.1=x
    ·subst hx
     rw [cof_none fun y hy=>(lt_ne ((List.pairwise_cons.1 ha.asc).1 y hy)).symm,cof_none fun y hy=>(lt_ne ((List.pairwise_cons.1 hb.asc).1 y hy)).symm]
    ·have:=h x
     simp only [cof,if_neg hx] at this
     exact this
   ·have h1:=h t.1
    rw [hb.head,cof_none (ts:=s :: a) fun x hx=>?_] at h1
    ·omega
    ·rcases List.mem_cons.1 hx with rfl | hx
     ·exact (lt_ne (by omega)).symm
     ·exact (lt_ne (cmpL_trans (by omega) ((List.pairwise_cons.1 ha.asc).1 x hx))).symm
def midT (e:List Int) (c:Int):List Term':=if c=0 then [] else [(e,c)]
theorem midT_mem {e:List Int} {c:Int} {t:Term'} (h:t∈midT e c):t=(e,c)∧c≠0:=by
 unfold midT at h
 split at h
 ·simp at h
 ·simp at h;exact ⟨h,by assumption⟩
theorem cof_mid {e x:List Int} {c:Int} (h0:0≤c) (h1:c≤1000002):cof (midT e c) x=if e=x then c else 0:=by
 unfold midT
 split
 ·subst c;simp [cof]
 ·exact cof_one e x h0 h1
theorem canon_mid {P S:List Term'} {e:List Int} {c:Int} (h:Canon (P++S)) (hP:∀ p∈P,cmpL p.1 e<0) (hS:∀ s∈S,cmpL e s.1<0) (c0:0≤c) (c1:c≤1000002) :
  Canon (P++midT e c++S)∧∀ x,cof (P++midT e c++S) x=if e=x then c else cof (P++S) x:=by
 have ha:=List.pairwise_append.1 h.asc
 refine ⟨⟨?_,fun t ht=>?_⟩,fun x=>?_⟩
 ·rw [List.append_assoc,List.pairwise_append]
  refine ⟨ha.1, ?_,fun p hp q hq=>?_⟩
  ·rw [List.pairwise_append]
   refine ⟨?_,ha.2.1,fun m hm s hs=>?_⟩
   ·unfold midT;split
    ·exact List.Pairwise.nil
    ·exact List.pairwise_singleton _ _
   ·rw [(midT_mem hm).1];exact hS s hs
  ·rcases List.mem_append.1 hq with hq | hq
   ·rw [(midT_mem hq).1];exact hP p hp
   ·exact ha.2.2 p hp q hq
 ·rcases List.mem_append.1 ht with ht | ht
  ·rcases List.mem_append.1 ht with ht | ht
   ·exact h.coef t (List.mem_append_left _ ht)
   ·obtain ⟨rfl,hc⟩:=midT_mem ht
    exact ⟨by show 1≤c;omega,c1⟩
  ·exact h.coef t (List.mem_append_right _ ht)
 ·rw [List.append_assoc,cof_append,cof_append,cof_mid c0 c1,cof_append]
  by_cases hx:e=x
  ·subst hx
   rw [if_pos rfl,if_pos rfl,cof_none fun p hp=>lt_ne (hP p hp),cof_none fun s hs=>(lt_ne (hS s hs)).symm,pl_zeroR c0 c1,pl_zeroL c0 c1]
  ·rw [if_neg hx,if_neg hx,pl_zeroL (cof_bd S x).1 (cof_bd S x).2]
theorem Canon.drop1 {P S:List Term'} {t:Term'} (h:Canon (P++t :: S)):Canon (P++S):=
 ⟨h.asc.sublist (List.Sublist.append (List.Sublist.refl _) (List.sublist_cons_self _ _)),fun s hs=>h.coef s (by
  rcases List.mem_append.1 hs with hs | hs
  ·exact List.mem_append_left _ hs
  ·exact List.mem_append_right _ (List.mem_cons_of_mem _ hs))⟩
theorem put_at {P S:List Term'} {e:List Int} {c c0:Int} (h:Canon (P++(e,c0) :: S)) :
  Canon (P++midT e (pl c c0)++S)∧∀ x,cof (P++midT e (pl c c0)++S) x=if e=x then pl c (cof (P++(e,c0) :: S) e) else cof (P++(e,c0) :: S) x:=by
 have ha:=List.pairwise_append.1 h.asc
 have hP:∀ p∈P,cmpL p.1 e<0:=fun p hp=>ha.2.2 p hp _ (List.mem_cons_self ..)
 have hS:∀ s∈S,cmpL e s.1<0:=fun s hs=>(List.pairwise_cons.1 ha.2.1).1 s hs
 have hc:=h.coef (e,c0) (List.mem_append_right _ (List.mem_cons_self ..))
 obtain ⟨m1,m2⟩:=canon_mid (e:=e) (c:=pl c c0) h.drop1 hP hS (pl_bd _ _).1 (pl_bd _ _).2
 refine ⟨m1,fun x=>?_⟩
 rw [m2]
 by_cases hx:e=x
 ·subst hx
  rw [if_pos rfl,if_pos rfl,cof_append]
  simp only [cof,if_pos]
  rw [cof_none fun p hp=>lt_ne (hP p hp),cof_none fun s hs=>(lt_ne (hS s hs)).symm,pl_zeroR (by have:=hc.1;simp only at this;omega) hc.2,pl_zeroL (by have:=hc.1;simp only at this;omega) hc.2]
 ·rw [if_neg hx,if_neg hx,cof_append,cof_append]
  simp only [cof,if_neg hx]
theorem put_new {P S:List Term'} {e:List Int} {c:Int} (h:Canon (P++S)) (hP:∀ p∈P,cmpL p.1 e<0) (hS:∀ s∈S,cmpL e s.1<0) (c0:0≤c) (c1:c≤1000002) :
  Canon (P++midT e c++S)∧∀ x,cof (P++midT e c++S) x=if e=x then pl c (cof (P++S) e) else cof (P++S) x:=by
 obtain ⟨m1,m2⟩:=canon_mid h hP hS c0 c1
 refine ⟨m1,fun x=>?_⟩
 rw [m2]
 by_cases hx:e=x
 ·subst hx
  rw [if_pos rfl,if_pos rfl,cof_append,cof_none fun p hp=>lt_ne (hP p hp),cof_none fun s hs=>(lt_ne (hS s hs)).symm,pl_zeroL (by omega) (by omega),pl_zeroR c0 c1]
 ·rw [if_neg hx,if_neg hx]
theorem cof_put {ts us:List Term'} {t:Term'} (h:∀ x,cof us x=if t.1=x then pl t.2 (cof ts t.1) else cof ts x) (x:List Int):cof us x=pl (cof ts x) (cof [t] x):=by
 rw [h]
 simp only [cof]
 by_cases hx:t.1=x
 ·subst hx;rw [if_pos rfl,if_pos rfl];unfold pl;omega
 ·rw [if_neg hx,if_neg hx,pl_zeroR (cof_bd ts x).1 (cof_bd ts x).2]
end
section
open Plain
theorem Canon.stems {R L:List Term'} (h:Canon R) (hc:∀ e,cof R e=cof L e) {t:Term'} (ht:t∈R):∃ u∈L,u.1=t.1:=by
 by_cases hx:∃ u∈L,u.1=t.1
 ·exact hx
 ·exfalso
  have h1:cof L t.1=0:=cof_none fun u hu e=>hx ⟨u,hu,e⟩
  rw [←hc] at h1
  obtain ⟨P,S,rfl⟩:=List.append_of_mem ht
  have h2:=(put_at (c:=0) (e:=t.1) (c0:=t.2) h).2 t.1
  rw [if_pos rfl,cof_append,cof_append] at h2
  have ha:=List.pairwise_append.1 h.asc
  rw [cof_none fun p hp=>lt_ne (ha.2.2 p hp t (List.mem_cons_self ..)),cof_none (ts:=S) fun s hs=>(lt_ne ((List.pairwise_cons.1 ha.2.1).1 s hs)).symm,cof_mid (pl_bd _ _).1 (pl_bd _ _).2,if_pos rfl] at h2
  have hb:=h.coef t ht
  have e0:cof (P++t :: S) t.1=0:=h1
  have:cof (P++(t.1,t.2) :: S) t.1=0:=e0
  rw [this] at h2
  unfold pl at h2
  omega
theorem Canon.cof_mem {R:List Term'} (h:Canon R) {t:Term'} (ht:t∈R):cof R t.1=t.2:=by
 obtain ⟨P,S,rfl⟩:=List.append_of_mem ht
 have ha:=List.pairwise_append.1 h.asc
 have hb:=h.coef t ht
 rw [cof_append]
 simp only [cof,if_pos]
 rw [cof_none fun p hp=>lt_ne (ha.2.2 p hp t (List.mem_cons_self ..)),cof_none (ts:=S) fun s hs=>(lt_ne ((List.pairwise_cons.1 ha.2.1).1 s hs)).symm]
 rw [pl_zeroR (by omega) hb.2,pl_zeroL (by omega) hb.2]
theorem mem_of_cof {R:List Term'} {e:List Int} (h:cof R e≠0):∃ t∈R,t.1=e:=by
 by_cases hx:∃ u∈R,u.1=e
 ·exact hx
 ·exact absurd (cof_none fun u hu he=>hx ⟨u,hu,he⟩) h
theorem tmAt_mem {ts:List Term'} {k:Nat} (h:k<ts.length):tmAt ts k∈ts:=by
 have:tmAt ts k=ts[k]:=by simp [tmAt,List.getD,h]
 rw [this];exact List.getElem_mem h
theorem polyUp_of {v:Int} {ts:List Term'} (ht:∀ t∈ts,termOk v t=true) (ha:ts.Pairwise (fun s t=>cmpL s.1 t.1<0)):∀ k,k≤ts.length→polyUp v ts k=true:=by
 intro k
 induction k with
 | zero=>intro _;rfl
 | succ k ih=>
  intro hk
  unfold polyUp
  rw [ih (by omega),ht _ (tmAt_mem (by omega))]
  by_cases h0:k=0
  ·simp [h0]
  ·have h1:cmpL (tmAt ts (k - 1)).1 (tmAt ts k).1<0:=by
    have:=List.pairwise_iff_getElem.1 ha (k - 1) k (by omega) (by omega) (by omega)
    rwa [show tmAt ts (k - 1)=ts[k - 1] by simp [tmAt,List.getD,show k - 1<ts.length by omega],show tmAt ts k=ts[k] by simp [tmAt,List.getD,show k<ts.length by omega]]
   simp [h1]
theorem polyOk_of {v:Int} {ts:List Term'} (hv:inR v 0 12=true) (ht:∀ t∈ts,termOk v t=true) (ha:ts.Pairwise (fun s t=>cmpL s.1 t.1<0)):polyOk v ts=decide (ts.length≤120):=by
 unfold polyOk
 rw [hv,polyUp_of ht ha _ (Nat.le_refl _)]
 simp
theorem polyOk_mem {v:Int} {ts:List Term'} (h:polyOk v ts=true) {t:Term'} (ht:t∈ts):termOk v t=true:=by
 obtain ⟨k,hk,rfl⟩:=List.getElem_of_mem ht
 have:=polyOk_term h hk
 rwa [show tmAt ts k=ts[k] by simp [tmAt,List.getD,hk]] at this
theorem asc_of_up {v:Int} {ts:List Term'} (h:polyUp v ts ts.length=true):ts.Pairwise (fun s t=>cmpL s.1 t.1<0):=by
 have hc:∀ k,k+1<ts.length→cmpL (tmAt ts k).1 (tmAt ts (k+1)).1<0:=fun k hk=>by
  have:=polyUp_true h (k+2) (by omega)
  simp only [polyUp,Bool.and_eq_true,Bool.or_eq_true,decide_eq_true_eq,Nat.add_sub_cancel] at this
  rcases this.2.2 with h | h
  ·omega
  ·exact h
 have hall:∀ d i,i+d+1<ts.length→cmpL (tmAt ts i).1 (tmAt ts (i+d+1)).1<0:=by
  intro d
  induction d with
  | zero=>intro i hi;exact hc i (by omega)
  | succ d ih=>intro i hi;exact cmpL_trans (ih i (by omega)) (hc (i+d+1) (by omega))
 rw [List.pairwise_iff_getElem]
 intro i j hi hj hij
 have:=hall (j - i - 1) i (by omega)
 rwa [show i+(j - i - 1)+1=j by omega,show tmAt ts i=ts[i] by simp [tmAt,List.getD,hi],show tmAt ts j=ts[j] by simp [tmAt,List.getD,hj]] at this
theorem polyOk_canon {v:Int} {ts:List Term'} (h:polyOk v ts=true):Canon ts:=by
 refine ⟨?_,fun t ht=>?_⟩
 ·unfold polyOk at h
  simp only [Bool.and_eq_true] at h
  exact asc_of_up h.2
 ·have:=termOk_parts (polyOk_mem h ht)
  exact ⟨this.2.1,this.2.2.1⟩
def addL:List Int→List Int→List Int:=List.zipWith (·+·)
theorem addL_length {a b:List Int} (h:b.length=a.length):(addL a b).length=a.length:=by simp [addL,h]
theorem cf_addL {a b:List Int} (h:b.length=a.length) (k:Nat):cf (addL a b) k=cf a k+cf b k:=by
 by_cases hk:k<a.length
 ·simp [cf,List.getD,addL,List.getElem?_zipWith,List.getElem?_eq_getElem hk,List.getElem?_eq_getElem (show k<b.length by omega)]
 ·rw [cf_big (by rw [addL_length h];omega),cf_big (by omega),cf_big (by omega)];rfl
theorem degL_addL {a b:List Int} (h:b.length=a.length) (k:Nat):degL (addL a b) k=degL a k+degL b k:=by
 induction k with
 | zero=>rfl
 | succ k ih=>simp only [degL];rw [ih,cf_addL h];omega
theorem cmpL_addR {a b c:List Int} (hb:b.length=a.length) (hc:c.length=a.length):cmpL (addL a c) (addL b c)=cmpL a b:=by
 induction a generalizing b c with
 | nil=>
  cases b with
  | nil=>cases c with
   | nil=>rfl
   | cons z c=>simp at hc
  | cons y b=>simp at hb
 | cons x a ih=>
  cases b with
  | nil=>simp at hb
  | cons y b=>
   cases c with
   | nil=>simp at hc
   | cons z c=>
    simp only [addL,List.zipWith_cons_cons,cmpL]
    have:=ih (b:=b) (c:=c) (by simpa using hb) (by simpa using hc)
    unfold addL at this
    rw [this]
    by_cases h1:x<y
    ·rw [if_pos h1,if_pos (by omega)]
    ·rw [if_neg h1,if_neg (by omega)]
     by_cases h2:y<x
     ·rw [if_pos h2,if_pos (by omega)]
     ·rw [if_neg h2,if_neg (by omega)]
theorem addL_comm (a b:List Int):addL a b=addL b a:=by
 unfold addL;rw [List.zipWith_comm];congr 1;funext x y;omega
theorem cmpL_add_lt {a b c d:List Int} (hb:b.length=a.length) (hc:c.length=a.length) (hd:d.length=a.length) (h:cmpL a b<0) (h2:c=d∨cmpL c d<0):cmpL (addL a c) (addL b d)<0:=by
 have h3:cmpL (addL a c) (addL b c)<0:=by rw [cmpL_addR hb hc];exact h
 rcases h2 with rfl | h2
 ·exact h3
 ·refine cmpL_trans h3 ?_
  rw [addL_comm b c,addL_comm b d,cmpL_addR (by omega) (by omega)];exact h2
theorem degL_congr {a b:List Int} (h:a=b) (k:Nat):degL a k=degL b k:=by rw [h]
def prodT (s t:Term'):Term':=(addL s.1 t.1,tm s.2 t.2)
def prods (a b:List Term'):List Term':=a.flatMap fun s=>b.map (prodT s)
def dg (t:Term'):Int:=degL t.1 t.1.length
def befT (s t:Term'):Prop:=dg s<dg t∨(dg s=dg t∧cmpL s.1 t.1<0)
theorem befT_trans {s t u:Term'} (h1:befT s t) (h2:befT t u):befT s u:=by
 rcases h1 with h1 | ⟨h1,h1'⟩<;>rcases h2 with h2 | ⟨h2,h2'⟩
 ·exact .inl (by omega)
 ·exact .inl (by omega)
 ·exact .inl (by omega)
 ·exact .inr ⟨by omega,cmpL_trans h1' h2'⟩
theorem befT_tot (s t:Term') (h:s.1≠t.1):befT s t∨befT t s:=by
 unfold befT
 have:=cmpL_swap s.1 t.1
 rcases cmpL_bd s.1 t.1 with e | e | e
 ·omega
 ·exact absurd (cmpL_eq e) h
 ·omega
theorem top_ex {a:List Term'} (h:a≠[]):∃ t∈a,∀ s∈a,s.1=t.1∨befT s t:=by
 induction a with
 | nil=>exact absurd rfl h
 | cons x a ih=>
  by_cases ha:a=[]
  ·subst ha
   exact ⟨x,List.mem_cons_self ..,fun s hs=>by simp at hs;exact .inl (by rw [hs])⟩
  ·obtain ⟨t,ht,h1⟩:=ih ha
   by_cases hx:x.1=t.1
   ·exact ⟨t,List.mem_cons_of_mem _ ht,fun s hs=>by
     rcases List.mem_cons.1 hs with rfl | hs
     ·exact .inl hx
     ·exact h1 s hs⟩
   ·rcases befT_tot x t hx with hb | hb
    ·exact ⟨t,List.mem_cons_of_mem _ ht,fun s hs=>by
      rcases List.mem_cons.1 hs with rfl | hs
      ·exact .inr hb
      ·exact h1 s hs⟩
    ·exact ⟨x,List.mem_cons_self ..,fun s hs=>by
      rcases List.mem_cons.1 hs with rfl | hs
      ·exact .inl rfl
      ·rcases h1 s hs with e | e
       ·right
        unfold befT dg at hb ⊢
        rw [e];exact hb
       ·exact .inr (befT_trans e hb)⟩
theorem cof_map_none {b:List Term'} {s:Term'} {e:List Int} (h:∀ t∈b,addL s.1 t.1≠e):cof (b.map (prodT s)) e=0:=by
 refine cof_none fun u hu=>?_
 obtain ⟨t,ht,rfl⟩:=List.mem_map.1 hu
 exact h t ht
theorem cof_prods_cons (s:Term') (a b:List Term') (e:List Int):cof (prods (s :: a) b) e=pl (cof (b.map (prodT s)) e) (cof (prods a b) e):=by
 unfold prods
 rw [List.flatMap_cons,cof_append]
theorem prod_ne {x y:Int} (hx:1≤x) (hx':x≤1000002) (hy:1≤y) (hy':y≤1000002):tm x y≠0:=by
 intro h
 have h1:=iv_mul (a:=x) (by unfold rs;omega)
 have h2:tm (iv x) (tm x y)=0:=by rw [h];unfold tm;simp
 have h3:tm (iv x) (tm x y)=tm (tm x (iv x)) y:=by
  unfold tm
  rw [mulr,mull,←Int.mul_assoc,Int.mul_comm (iv x) x]
 rw [h3,h1] at h2
 unfold tm at h2
 omega
def LenT (n:Nat) (a:List Term'):Prop:=∀ t∈a,t.1.length=n
theorem cof_top {n:Nat} {a b:List Term'} (ha:Canon a) (hb:Canon b) (la:LenT n a) (lb:LenT n b) {s t:Term'} (hs:s∈a) (ht:t∈b) (h1:∀ x∈a,x.1=s.1∨befT x s) (h2:∀ y∈b,y.1=t.1∨befT y t) :
  cof (prods a b) (addL s.1 t.1)=tm s.2 t.2:=by
 have only:∀ x∈a,∀ y∈b,addL x.1 y.1=addL s.1 t.1→x.1=s.1∧y.1=t.1:=by
  intro x hx y hy he
  have lx:=la x hx
  have ly:=lb y hy
  have ls:=la s hs
  have lt:=lb t ht
  have hd:=degL_congr he n
  rw [degL_addL (by omega),degL_addL (by omega)] at hd
  have dx:dg x=degL x.1 n:=by unfold dg;rw [lx]
  have dy:dg y=degL y.1 n:=by unfold dg;rw [ly]
  have ds:dg s=degL s.1 n:=by unfold dg;rw [ls]
  have dt:dg t=degL t.1 n:=by unfold dg;rw [lt]
  have q2:=h2 y hy
  have q1:=h1 x hx
  by_cases ex:x.1=s.1
  ·refine ⟨ex, ?_⟩
   rcases q2 with q2 | q2
   ·exact q2
   ·exfalso
    rcases q2 with q2 | ⟨_,q2⟩
    ·rw [ex] at hd;omega
    ·rw [ex,addL_comm s.1 y.1,addL_comm s.1 t.1] at he
     have:=cmpL_addR (a:=y.1) (b:=t.1) (c:=s.1) (by omega) (by omega)
     rw [he,cmpL_refl] at this
     omega
  ·exfalso
   rcases q1 with q1 | q1 | ⟨q1,q1'⟩
   ·exact ex q1
   ·rcases q2 with q2 | q2 | ⟨q2,_⟩
    ·rw [q2] at hd;omega
    ·omega
    ·omega
   ·rcases q2 with q2 | q2 | ⟨q2,q2'⟩
    ·have:=cmpL_add_lt (a:=x.1) (b:=s.1) (c:=y.1) (d:=t.1) (by omega) (by omega) (by omega) q1' (.inl q2)
     rw [he,cmpL_refl] at this;omega
    ·omega
    ·have:=cmpL_add_lt (a:=x.1) (b:=s.1) (c:=y.1) (d:=t.1) (by omega) (by omega) (by omega) q1' (.inr q2')
     rw [he,cmpL_refl] at this;omega
 have row:cof (b.map (prodT s)) (addL s.1 t.1)=tm s.2 t.2:=by
  have:∀ (l:List Term'),l.Pairwise (fun s t=>cmpL s.1 t.1<0)→(∀ y∈l,y∈b)→t∈l→cof (l.map (prodT s)) (addL s.1 t.1)=tm s.2 t.2:=by
   intro l
   induction l with
   | nil=>intro _ _ h;simp at h
   | cons y l ih=>
    intro hp hm hmem
    have hp':=List.pairwise_cons.1 hp
    simp only [List.map_cons,cof]
    by_cases hy:y.1=t.1
    ·have hyt:y=t:=by
      rcases List.mem_cons.1 hmem with e | e
      ·exact e.symm
      ·exact absurd hy (lt_ne (hp'.1 t e))
     subst hyt
     rw [if_pos (show (prodT s y).1=addL s.1 y.1 from rfl),cof_map_none fun z hz he=>?_]
     ·exact pl_zeroR (tm_bd _ _).1 (tm_bd _ _).2
     ·exact lt_ne (hp'.1 z hz) (only s hs z (hm z (List.mem_cons_of_mem _ hz)) he).2.symm
    ·rw [if_neg (show ¬ (prodT s y).1=addL s.1 t.1 from fun he=>hy (only s hs y (hm y (List.mem_cons_self ..)) he).2)]
     refine ih hp'.2 (fun z hz=>hm z (List.mem_cons_of_mem _ hz)) ?_
     rcases List.mem_cons.1 hmem with e | e
     ·exact absurd (by rw [e]) hy
     ·exact e
  exact this b hb.asc (fun y hy=>hy) ht
 have:∀ (l:List Term'),l.Pairwise (fun s t=>cmpL s.1 t.1<0)→(∀ x∈l,x∈a)→(s∈l→cof (prods l b) (addL s.1 t.1)=tm s.2 t.2)∧((∀ x∈l,x.1≠s.1)→cof (prods l b) (addL s.1 t.1)=0):=by
  intro l
  induction l with
  | nil=>intro _ _;exact ⟨fun h=>by simp at h,fun _=>rfl⟩
  | cons x l ih=>
   intro hp hm
   have hp':=List.pairwise_cons.1 hp
   obtain ⟨i1,i2⟩:=ih hp'.2 (fun z hz=>hm z (List.mem_cons_of_mem _ hz))
   rw [cof_prods_cons]
   constructor
   ·intro hmem
    by_cases hx:x.1=s.1
    ·have hxs:x=s:=by
      rcases List.mem_cons.1 hmem with e | e
      ·exact e.symm
      ·exact absurd hx (lt_ne (hp'.1 s e))
     subst hxs
     rw [row,i2 fun z hz=>(lt_ne (hp'.1 z hz)).symm]
     exact pl_zeroR (tm_bd _ _).1 (tm_bd _ _).2
    ·rw [cof_map_none fun y hy he=>hx (only x (hm x (List.mem_cons_self ..)) y hy he).1,i1 ?_]
     ·exact pl_zeroL (tm_bd _ _).1 (tm_bd _ _).2
     ·rcases List.mem_cons.1 hmem with e | e
      ·exact absurd (by rw [e]) hx
      ·exact e
   ·intro hne
    rw [cof_map_none fun y hy he=>hne x (List.mem_cons_self ..) (only x (hm x (List.mem_cons_self ..)) y hy he).1,i2 fun z hz=>hne z (List.mem_cons_of_mem _ hz)]
    rfl
 exact (this a ha.asc (fun x hx=>hx)).1 hs
theorem cf_le_degL {a:List Int} (h:expsOk a=true) {k n:Nat} (hk:k<n):cf a k≤degL a n:=by
 have h1:=degL_mono h (show k+1≤n from hk)
 have h2:=degL_bd h k
 simp only [degL] at h1
 omega
theorem getElem_cf {a:List Int} {k:Nat} (hk:k<a.length):a[k]=cf a k:=by simp [cf,List.getD,hk]
theorem prod_ok {v:Int} {s t:Term'} (hs:termOk v s=true) (ht:termOk v t=true) (hd:dg s+dg t≤12):termOk v (prodT s t)=true:=by
 obtain ⟨s1,s2,s3,s4,s5⟩:=termOk_parts hs
 obtain ⟨t1,t2,t3,t4,t5⟩:=termOk_parts ht
 have hl:t.1.length=s.1.length:=by omega
 have hp:=prod_ne s2 s3 t2 t3
 have hb:=tm_bd s.2 t.2
 have hdd:degL (addL s.1 t.1) (addL s.1 t.1).length≤12:=by
  rw [addL_length hl,degL_addL hl]
  unfold dg at hd
  rw [hl] at hd;exact hd
 have he:expsOk (addL s.1 t.1)=true:=by
  refine List.all_eq_true.2 fun x hx=>?_
  obtain ⟨k,hk,rfl⟩:=List.getElem_of_mem hx
  have hk':k<s.1.length:=by rw [addL_length hl] at hk;exact hk
  rw [getElem_cf hk,cf_addL hl]
  have b1:=expsOk_bd s4 k
  have b2:=expsOk_bd t4 k
  have c1:=cf_le_degL s4 hk'
  have c2:=cf_le_degL t4 (show k<t.1.length by omega)
  unfold dg at hd
  exact inR_true.2 (by omega)
 unfold termOk prodT
 simp only [Bool.and_eq_true,decide_eq_true_eq]
 exact ⟨⟨by rw [addL_length hl];exact s1,inR_true.2 (by omega)⟩,he,hdd⟩
theorem mem_prods {a b:List Term'} {u:Term'} (h:u∈prods a b):∃ s∈a,∃ t∈b,u=prodT s t:=by
 unfold prods at h
 obtain ⟨s,hs,h⟩:=List.mem_flatMap.1 h
 obtain ⟨t,ht,rfl⟩:=List.mem_map.1 h
 exact ⟨s,hs,t,ht,rfl⟩
theorem polyOk_len' {v:Int} {a:List Term'} (h:polyOk v a=true):LenT v.toNat a:=fun t ht=>by
 have:=(termOk_parts (polyOk_mem h ht)).1
 omega
theorem termOk_of_exps {v:Int} {t u:Term'} (h:termOk v u=true) (he:t.1=u.1) (h1:1≤t.2) (h2:t.2≤1000002):termOk v t=true:=by
 obtain ⟨u1,_,_,u4,u5⟩:=termOk_parts h
 unfold termOk
 simp only [Bool.and_eq_true,decide_eq_true_eq]
 rw [he]
 exact ⟨⟨u1,inR_true.2 (by omega)⟩,u4,u5⟩
theorem form_ok {v:Int} {R L:List Term'} (hv:inR v 0 12=true) (h:Canon R) (hc:∀ e,cof R e=cof L e) (hL:∀ u∈L,∃ w,termOk v w=true∧u.1=w.1):polyOk v R=decide (R.length≤120):=by
 refine polyOk_of hv (fun t ht=>?_) h.asc
 obtain ⟨u,hu,e⟩:=h.stems hc ht
 obtain ⟨w,hw,e2⟩:=hL u hu
 have:=h.coef t ht
 exact termOk_of_exps hw (by rw [←e,e2]) this.1 this.2
theorem form_big {v:Int} {R a b:List Term'} (ha:polyOk v a=true) (hb:polyOk v b=true) (_h:Canon R) (hc:∀ e,cof R e=cof (prods a b) e) {s t:Term'} (hs:s∈a) (ht:t∈b) (hd:12<dg s+dg t):polyOk v R=false:=by
 obtain ⟨s',hs',h1⟩:=top_ex (List.ne_nil_of_mem hs)
 obtain ⟨t',ht',h2⟩:=top_ex (List.ne_nil_of_mem ht)
 have d1:dg s≤dg s':=by
  rcases h1 s hs with e | e | e
  ·unfold dg;rw [e];omega
  ·omega
  ·omega
 have d2:dg t≤dg t':=by
  rcases h2 t ht with e | e | e
  ·unfold dg;rw [e];omega
  ·omega
  ·omega
 have hct:=cof_top (polyOk_canon ha) (polyOk_canon hb) (polyOk_len' ha) (polyOk_len' hb) hs' ht' h1 h2
 obtain ⟨p1,p2,p3,p4,p5⟩:=termOk_parts (polyOk_mem ha hs')
 obtain ⟨q1,q2,q3,q4,q5⟩:=termOk_parts (polyOk_mem hb ht')
 have hne:cof R (addL s'.1 t'.1)≠0:=by rw [hc,hct];exact prod_ne p2 p3 q2 q3
 obtain ⟨u,hu,e⟩:=mem_of_cof hne
 cases hok:polyOk v R with
 | false=>rfl
 | true=>
  exfalso
  obtain ⟨r1,_,_,r4,r5⟩:=termOk_parts (polyOk_mem hok hu)
  have hl:t'.1.length=s'.1.length:=by omega
  rw [e,addL_length hl,degL_addL hl] at r5
  unfold dg at d1 d2 hd
  rw [hl] at d2
  omega
structure GInv (us:List Term') (i:Nat) (out:List Term'):Prop where
 canon:Canon out
 below:i<us.length→∀ t∈out,cmpL t.1 (tmAt us i).1<0
 cofs:∀ e,cof out e=cof (us.take i) e
theorem GInv.start (us:List Term'):GInv us 0 []:=⟨Canon.nil,fun _ t h=>by simp at h,fun e=>by simp⟩
def seg (us:List Term') (i j:Nat):List Term':=(us.take j).drop i
theorem seg_same (us:List Term') (i:Nat):seg us i i=[]:=by unfold seg;rw [List.drop_eq_nil_iff];simp;omega
theorem seg_push {us:List Term'} {i j:Nat} (hij:i≤j) (hj:j<us.length):seg us i (j+1)=seg us i j++[tmAt us j]:=by
 unfold seg
 rw [List.take_add_one,show us[j]? = some (tmAt us j) by simp [tmAt,List.getD,hj]]
 simp only [Option.toList_some]
 rw [List.drop_append_of_le_length (by simp;omega)]
theorem take_seg {us:List Term'} {i j:Nat} (hij:i≤j):us.take j=us.take i++seg us i j:=by
 unfold seg
 have h:=List.take_append_drop i (us.take j)
 rw [List.take_take,Nat.min_eq_left hij] at h
 exact h.symm
theorem cof_seg_push {us:List Term'} {i j:Nat} {E:List Int} (hij:i≤j) (hj:j<us.length) (he:(tmAt us j).1=E):pl (cof (seg us i j) E) (tmAt us j).2=cof (seg us i (j+1)) E:=by
 rw [seg_push hij hj,cof_append]
 simp only [cof,he,if_pos]
 unfold pl;omega
theorem GInv.step {us out:List Term'} {i j:Nat} (h:GInv us i out) (hs:us.Pairwise (fun s t=>¬ cmpL t.1 s.1<0)) (hij:i<j) (hj:j≤us.length) (hall:∀ k,i≤k→k<j→(tmAt us k).1=(tmAt us i).1) (hne:j<us.length→(tmAt us j).1≠(tmAt us i).1) :
  GInv us j (out++midT (tmAt us i).1 (cof (seg us i j) (tmAt us i).1)):=by
 have hb:=cof_bd (seg us i j) (tmAt us i).1
 obtain ⟨m1,m2⟩:=put_new (S:=[]) (e:=(tmAt us i).1) (c:=cof (seg us i j) (tmAt us i).1) (P:=out) (by simpa using h.canon) (fun p hp=>h.below (by omega) p hp) (fun s hs=>by simp at hs) hb.1 hb.2
 rw [List.append_nil] at m1
 simp only [List.append_nil] at m2
 refine ⟨m1,fun hj2 t ht=>?_,fun e=>?_⟩
 ·have hlt:cmpL (tmAt us i).1 (tmAt us j).1<0:=by
   have h1:=List.pairwise_iff_getElem.1 hs i j (by omega) hj2 hij
   rw [show us[i]=tmAt us i by simp [tmAt,List.getD,show i<us.length by omega],show us[j]=tmAt us j by simp [tmAt,List.getD,hj2]] at h1
   have h2:=cmpL_swap (tmAt us i).1 (tmAt us j).1
   rcases cmpL_bd (tmAt us i).1 (tmAt us j).1 with e | e | e
   ·omega
   ·exact absurd (cmpL_eq e).symm (hne hj2)
   ·omega
  rcases List.mem_append.1 ht with ht | ht
  ·exact cmpL_trans (h.below (by omega) t ht) hlt
  ·rw [(midT_mem ht).1];exact hlt
 ·rw [m2,take_seg (us:=us) (by omega:i≤j),cof_append]
  by_cases he:(tmAt us i).1=e
  ·subst he
   rw [if_pos rfl,←h.cofs]
   unfold pl;omega
  ·rw [if_neg he,cof_none (ts:=seg us i j) fun t ht=>?_,←h.cofs,pl_zeroR (cof_bd _ _).1 (cof_bd _ _).2]
   unfold seg at ht
   obtain ⟨k,hk,rfl⟩:=List.getElem_of_mem ht
   simp only [List.length_drop,List.length_take] at hk
   rw [List.getElem_drop,List.getElem_take]
   have:=hall (i+k) (by omega) (by omega)
   rw [show us[i+k]'(by omega)=tmAt us (i+k) by simp [tmAt,List.getD,show i+k<us.length by omega],this]
   exact he
end
end Go.Proofs.YtgfkglhelfkpoaaGreat
namespace Go.Proofs.YtgfkglhelfkpoaaGreat.PSort
open Go.Sort
variable {α:Type} [Inhabited α] {lt:α→α→Bool}
def swF (f:Nat→α) (a b n t:Nat):α:=if a≤t∧t<a+n then f (t - a+b) else if b≤t∧t<b+n then f (t - b+a) else f t
def rotF (f:Nat→α) (a m b t:Nat):α:=if a≤t∧t<a+(b - m) then f (t+(m - a)) else if a+(b - m)≤t∧t<b then f (t - (b - m)) else f t
omit [Inhabited α] in
theorem swF_zero (f:Nat→α) (a b:Nat):swF f a b 0=f:=by
 funext t;unfold swF;rw [if_neg (by omega),if_neg (by omega)]
omit [Inhabited α] in
theorem rotF_left (f:Nat→α) (m b:Nat):rotF f m m b=f:=by
 funext t;unfold rotF
 split
 ·congr 1;omega
 ·split
  ·exfalso;omega
  ·rfl
omit [Inhabited α] in
theorem rotF_right (f:Nat→α) (a m:Nat):rotF f a m m=f:=by
 funext t;unfold rotF
 split
 ·exfalso;omega
 ·split
  ·congr 1
   omega
  ·rfl
omit [Inhabited α] in
theorem rotF_even (f:Nat→α) (m i:Nat) (h:i≤m):rotF f (m - i) m (m+i)=swF f (m - i) m i:=by
 funext t;unfold rotF swF
 repeat' split
 all_goals first | (exfalso;omega) | (congr 1;omega) | rfl
omit [Inhabited α] in
theorem rotF_stepL (f:Nat→α) (m i j:Nat) (hi:i≤m) (hj:j<i):rotF (swF f (m - i) m j) (m - (i - j)) m (m+j)=rotF f (m - i) m (m+j):=by
 funext t;unfold rotF swF
 repeat' split
 all_goals first | (exfalso;omega) | (congr 1;omega) | rfl
omit [Inhabited α] in
theorem rotF_stepR (f:Nat→α) (m i j:Nat) (hi:i≤m) (hj:i<j):rotF (swF f (m - i) (m+j - i) i) (m - i) m (m+(j - i))=rotF f (m - i) m (m+j):=by
 funext t;unfold rotF swF
 repeat' split
 all_goals first | (exfalso;omega) | (congr 1;omega) | rfl
theorem swF_step {d dk:Array α} {a b i:Nat} (hab:a+i<b) (hb:b+i<d.size) (hs:dk.size=d.size) (h:∀ t,dk[t]! = swF (fun t=>d[t]!) a b i t) (t:Nat) :
  (swp dk (a+i) (b+i))[t]! = swF (fun t=>d[t]!) a b (i+1) t:=by
 rw [swp_get dk (by omega) (by omega),h,h,h]
 unfold swF
 repeat' split
 all_goals first | (exfalso;omega) | (congr 1;omega) | rfl
theorem rotF_up {d dk:Array α} {a k:Nat} (hak:a≤k) (hk:k+1<d.size) (hs:dk.size=d.size) (h:∀ t,dk[t]! = rotF (fun t=>d[t]!) a (a+1) (k+1) t) (t:Nat) :
  (swp dk k (k+1))[t]! = rotF (fun t=>d[t]!) a (a+1) (k+2) t:=by
 rw [swp_get dk (by omega) (by omega),h,h,h]
 unfold rotF
 repeat' split
 all_goals first | (exfalso;omega) | (congr 1;omega) | rfl
theorem rotF_down {d dk:Array α} {m k:Nat} (hk0:0<k) (hkm:k≤m) (hm:m<d.size) (hs:dk.size=d.size) (h:∀ t,dk[t]! = rotF (fun t=>d[t]!) k m (m+1) t) (t:Nat) :
  (swp dk k (k - 1))[t]! = rotF (fun t=>d[t]!) (k - 1) m (m+1) t:=by
 rw [swp_get dk (by omega) (by omega),h,h,h]
 unfold rotF
 repeat' split
 all_goals first | (exfalso;omega) | (congr 1;omega) | rfl
omit [Inhabited α] in
theorem le_of_lt (hS:SWO lt) {x y:α} (h:lt x y=true):lt y x=false:=hS.asymmA h
theorem SortedIn.le {a b:Nat} {d:Array α} (hS:SWO lt) (h:SortedIn lt a b d) {i j:Nat} (hi:a≤i) (hij:i≤j) (hj:j<b):lt d[j]! d[i]! = false:=by
 rcases Nat.lt_or_ge i j with hh | hh
 ·exact h i j hi hh hj
 ·obtain rfl:i=j:=by omega
  exact hS.irrefl _
theorem sorted_join {a m b:Nat} {d:Array α} (h1:SortedIn lt a m d) (h2:SortedIn lt m b d) (h:∀ p q,a≤p→p<m→m≤q→q<b→lt d[q]! d[p]! = false):SortedIn lt a b d:=by
 intro i j hi hij hj
 rcases Nat.lt_or_ge j m with hjm | hjm
 ·exact h1 i j hi hij hjm
 ·rcases Nat.lt_or_ge i m with him | him
  ·exact h i j hi him hjm hj
  ·exact h2 i j him hij hj
theorem cross_perm {a m b:Nat} {d d1 d2:Array α} (hb:b≤d.size) (_ham:a≤m) (_hmb:m≤b) (h:∀ p q,a≤p→p<m→m≤q→q<b→lt d[q]! d[p]! = false) (h1:PermIn a m d d1) (h2:PermIn m b d1 d2) :
  ∀ p q,a≤p→p<m→m≤q→q<b→lt d2[q]! d2[p]! = false:=by
 have s1:d1.size=d.size:=h1.1
 intro p q hp hpm hq hqb
 refine permIn_all d1 d2 m b (fun y=>lt y d2[p]! = false) (by omega) h2 (fun q' hq1 hq2=>?_) q hq hqb
 show lt d1[q']! d2[p]! = false
 rw [h2.2.1 p (Or.inl hpm),h1.2.1 q' (Or.inr hq1)]
 exact permIn_all d d1 a m (fun x=>lt d[q']! x=false) (by omega) h1 (fun p' hp1 hp2=>h p' q' hp1 hp2 hq1 hq2) p hp hpm
theorem merge_left (hS:SWO lt) {a b i:Nat} {d d':Array α} (hai:a<i) (hib:i≤b) (h2:SortedIn lt (a+1) b d) (hl:a+1<i→lt d[i - 1]! d[a]! = true) (hr:i<b→lt d[i]! d[a]! = false)
  (h:∀ t,d'[t]! = rotF (fun t=>d[t]!) a (a+1) i t):SortedIn lt a b d':=by
 have g1:∀ t,a≤t→t<i - 1→d'[t]! = d[t+1]!:=fun t h1 h2=>by
  rw [h];unfold rotF;rw [if_pos (by omega)];congr 1;omega
 have g2:d'[i - 1]! = d[a]!:=by
  rw [h];unfold rotF;rw [if_neg (by omega),if_pos (by omega)];congr 1;omega
 have g3:∀ t,i≤t→d'[t]! = d[t]!:=fun t h1=>by
  rw [h];unfold rotF;rw [if_neg (by omega),if_neg (by omega)]
 have low:∀ t,a+1≤t→t<i→lt d[a]! d[t]! = false:=fun t h3 h4=>
  hS.ntrans _ _ _ (le_of_lt hS (hl (by omega))) (SortedIn.le hS h2 h3 (by omega) (by omega))
 have high:∀ t,i≤t→t<b→lt d[t]! d[a]! = false:=fun t h3 h4=>
  hS.ntrans _ _ _ (SortedIn.le hS h2 (by omega) h3 h4) (hr (by omega))
 intro p q hp hpq hq
 rcases Nat.lt_trichotomy q (i - 1) with hq1 | hq1 | hq1
 ·rw [g1 q (by omega) hq1,g1 p hp (by omega)];exact h2 _ _ (by omega) (by omega) (by omega)
 ·rw [hq1,g2,g1 p hp (by omega)];exact low _ (by omega) (by omega)
 ·rw [g3 q (by omega)]
  rcases Nat.lt_trichotomy p (i - 1) with hp1 | hp1 | hp1
  ·rw [g1 p hp hp1];exact h2 _ _ (by omega) (by omega) hq
  ·rw [hp1,g2];exact high _ (by omega) hq
  ·rw [g3 p (by omega)];exact h2 _ _ (by omega) hpq hq
theorem merge_right (hS:SWO lt) {a m i:Nat} {d d':Array α} (hai:a≤i) (him:i≤m) (h1:SortedIn lt a m d) (hl:a<i→lt d[m]! d[i - 1]! = false) (hr:i<m→lt d[m]! d[i]! = true)
  (h:∀ t,d'[t]! = rotF (fun t=>d[t]!) i m (m+1) t):SortedIn lt a (m+1) d':=by
 have g1:∀ t,t<i→d'[t]! = d[t]!:=fun t h1=>by
  rw [h];unfold rotF;rw [if_neg (by omega),if_neg (by omega)]
 have g2:d'[i]! = d[m]!:=by
  rw [h];unfold rotF;rw [if_pos (by omega)];congr 1;omega
 have g3:∀ t,i<t→t≤m→d'[t]! = d[t - 1]!:=fun t h1 h2=>by
  rw [h];unfold rotF;rw [if_neg (by omega),if_pos (by omega)];congr 1;omega
 have low:∀ t,a≤t→t<i→lt d[m]! d[t]! = false:=fun t h3 h4=>
  hS.ntrans _ _ _ (hl (by omega)) (SortedIn.le hS h1 h3 (by omega) (by omega))
 have high:∀ t,i≤t→t<m→lt d[t]! d[m]! = false:=fun t h3 h4=>
  hS.ntrans _ _ _ (SortedIn.le hS h1 hai h3 h4) (le_of_lt hS (hr (by omega)))
 intro p q hp hpq hq
 rcases Nat.lt_trichotomy q i with hq1 | hq1 | hq1
 ·rw [g1 q hq1,g1 p (by omega)];exact h1 _ _ hp hpq (by omega)
 ·rw [hq1,g2,g1 p (by omega)];exact low _ hp (by omega)
 ·rw [g3 q hq1 (by omega)]
  rcases Nat.lt_trichotomy p i with hp1 | hp1 | hp1
  ·rw [g1 p hp1];exact h1 _ _ hp (by omega) (by omega)
  ·rw [hp1,g2];exact high _ (by omega) (by omega)
  ·rw [g3 p hp1 (by omega)];exact h1 _ _ (by omega) (by omega) (by omega)
theorem merge_halves (hS:SWO lt) {a s m e b:Nat} {d d':Array α} (has:a≤s) (hsm:s≤m) (hme:m≤e) (heb:e≤b) (h1:SortedIn lt a m d) (h2:SortedIn lt m b d)
  (hl:a<s→e<b→lt d[e]! d[s - 1]! = false) (hr:m<e→s<m→lt d[s]! d[e - 1]! = false) (h:∀ t,d'[t]! = rotF (fun t=>d[t]!) s m e t) :
  SortedIn lt a s d'∧SortedIn lt s (s+(e - m)) d'∧SortedIn lt (s+(e - m)) e d'∧SortedIn lt e b d' ∧
   ∀ p q,a≤p→p<s+(e - m)→s+(e - m)≤q→q<b→lt d'[q]! d'[p]! = false:=by
 have g1:∀ t,t<s→d'[t]! = d[t]!:=fun t h1=>by
  rw [h];unfold rotF;rw [if_neg (by omega),if_neg (by omega)]
 have g2:∀ t,s≤t→t<s+(e - m)→d'[t]! = d[t+(m - s)]!:=fun t h1 h2=>by
  rw [h];unfold rotF;rw [if_pos (by omega)]
 have g3:∀ t,s+(e - m)≤t→t<e→d'[t]! = d[t - (e - m)]!:=fun t h1 h2=>by
  rw [h];unfold rotF;rw [if_neg (by omega),if_pos (by omega)]
 have g4:∀ t,e≤t→d'[t]! = d[t]!:=fun t h1=>by
  rw [h];unfold rotF;rw [if_neg (by omega),if_neg (by omega)]
 refine ⟨fun i j hi hij hj=>?_,fun i j hi hij hj=>?_,fun i j hi hij hj=>?_,fun i j hi hij hj=>?_,fun p q hp hpm hq hqb=>?_⟩
 ·rw [g1 i (by omega),g1 j hj];exact h1 _ _ hi hij (by omega)
 ·rw [g2 i hi (by omega),g2 j (by omega) hj];exact h2 _ _ (by omega) (by omega) (by omega)
 ·rw [g3 i hi (by omega),g3 j (by omega) hj];exact h1 _ _ (by omega) (by omega) (by omega)
 ·rw [g4 i hi,g4 j (by omega)];exact h2 _ _ (by omega) hij hj
 ·rcases Nat.lt_or_ge p s with hps | hps
  ·rw [g1 p hps]
   rcases Nat.lt_or_ge q e with hqe | hqe
   ·rw [g3 q hq hqe];exact SortedIn.le hS h1 hp (by omega) (by omega)
   ·rw [g4 q hqe]
    exact hS.ntrans _ _ _ (SortedIn.le hS h2 hme hqe hqb) (hS.ntrans _ _ _ (hl (by omega) (by omega)) (SortedIn.le hS h1 hp (by omega) (by omega)))
  ·rw [g2 p hps hpm]
   rcases Nat.lt_or_ge q e with hqe | hqe
   ·rw [g3 q hq hqe]
    exact hS.ntrans _ _ _ (SortedIn.le hS h1 (by omega:a≤s) (by omega) (by omega)) (hS.ntrans _ _ _ (hr (by omega) (by omega)) (SortedIn.le hS h2 (by omega) (by omega) (by omega)))
   ·rw [g4 q hqe];exact SortedIn.le hS h2 (by omega) (by omega) hqb
inductive LBlk (lt:α→α→Bool) (bs:Nat) (d:Array α):Nat→Prop
 | zero:LBlk lt bs d 0
 | step {x:Nat}:LBlk lt bs d x→SortedIn lt x (x+bs) d→LBlk lt bs d (x+bs)
inductive Blk (lt:α→α→Bool) (bs:Nat) (d:Array α) (n:Nat):Nat→Prop
 | done {a:Nat}:n≤a→Blk lt bs d n a
 | last {a:Nat}:n≤a+bs→SortedIn lt a n d→Blk lt bs d n a
 | more {a:Nat}:a+bs<n→SortedIn lt a (a+bs) d→Blk lt bs d n (a+bs)→Blk lt bs d n a
theorem sorted_congr {a b:Nat} {d d':Array α} (h:SortedIn lt a b d) (he:∀ i,a≤i→i<b→d'[i]! = d[i]!):SortedIn lt a b d':=fun i j hi hij hj=>by
 rw [he i hi (by omega),he j (by omega) hj];exact h i j hi hij hj
theorem LBlk.congr {bs x:Nat} {d d':Array α} (h:LBlk lt bs d x) (he:∀ i,i<x→d'[i]! = d[i]!):LBlk lt bs d' x:=by
 induction h with
 | zero=>exact .zero
 | step _ hs ih=>exact .step (ih fun i hi=>he i (by omega)) (sorted_congr hs fun i _ hi=>he i hi)
theorem Blk.congr {bs n a:Nat} {d d':Array α} (h:Blk lt bs d n a) (he:∀ i,a≤i→d'[i]! = d[i]!):Blk lt bs d' n a:=by
 induction h with
 | done h=>exact .done h
 | last h hs=>exact .last h (sorted_congr hs fun i hi _=>he i hi)
 | more h hs _ ih=>exact .more h (sorted_congr hs fun i hi _=>he i hi) (ih fun i hi=>he i (by omega))
theorem Blk.from {bs n x:Nat} {d:Array α} (hl:LBlk lt bs d x) (h:Blk lt bs d n x) (hx:x≤n):Blk lt bs d n 0:=by
 induction hl with
 | zero=>exact h
 | @step y hl hs ih=>
  refine ih ?_ (by omega)
  by_cases e:y+bs=n
  ·exact .last (by omega) (by rw [←e];exact hs)
  ·exact .more (by omega) hs h
theorem Blk.two {bs n a:Nat} {d:Array α} (h:Blk lt bs d n a) (hb:0<bs) (hn:a+2*bs≤n):SortedIn lt a (a+bs) d∧SortedIn lt (a+bs) (a+2*bs) d∧Blk lt bs d n (a+2*bs):=by
 cases h with
 | done h=>omega
 | last h _=>omega
 | more h1 hs h2=>
  refine ⟨hs, ?_⟩
  cases h2 with
  | done h=>omega
  | last h hs2=>
   have e:n=a+2*bs:=by omega
   exact ⟨by rw [←e];exact hs2,.done (by omega)⟩
  | more h3 hs3 h4=>rw [show a+bs+bs=a+2*bs by omega] at hs3 h4;exact ⟨hs3,h4⟩
theorem Blk.one {bs n a:Nat} {d:Array α} (h:Blk lt bs d n a) (hn:n≤a+bs):SortedIn lt a n d:=by
 cases h with
 | done h=>intro i j hi hij hj;omega
 | last _ hs=>exact hs
 | more h1 _ _=>omega
theorem Blk.half {bs n a:Nat} {d:Array α} (h:Blk lt bs d n a) (hn:n<a+2*bs) (hm:a+bs<n):SortedIn lt a (a+bs) d∧SortedIn lt (a+bs) n d:=by
 cases h with
 | done h=>omega
 | last h _=>omega
 | more h1 hs h2=>exact ⟨hs,h2.one (by omega)⟩
end Go.Proofs.YtgfkglhelfkpoaaGreat.PSort
namespace Go.Proofs.YtgfkglhelfkpoaaGreat
section
open Go.RowKit Plain
open Go.Sort (PermIn SortedIn SWO swp flatK HoldsK putRowK grow)
structure TmE where
 A:Option Addr
 cap:Nat
 t:Term'
def TmE.ok (w:World) (blk n:Nat) (x:TmE):Prop:=Ints w x.A x.t.1∧(∀ q,InB x.t.1.length x.A q→q≠blk)∧x.t.1.length=n
abbrev TmS (w:World) (blk n:Nat):={x:TmE // x.ok w blk n}
def encS {w:World} {blk n:Nat} (x:TmS w blk n):List Value:=[.slice x.1.A x.1.t.1.length x.1.cap,.int .i64 x.1.t.2]
def cfS {w:World} {blk n:Nat} (x y:TmS w blk n):Int:=cmpL x.1.t.1 y.1.t.1
theorem encS_len {w:World} {blk n:Nat} (x:TmS w blk n):(encS x).length=2:=rfl
theorem encS_one {w:World} {blk n:Nat} (x:TmS w blk n):∀ v∈encS x,v.oneCell'=true:=fun v hv=>by
 simp [encS] at hv;rcases hv with rfl | rfl<;>rfl
theorem swoS {w:World} {blk n:Nat}:SWO (ltOf (cfS (w:=w) (blk:=blk) (n:=n))):=by
 refine ⟨fun x=>?_,fun x y z h1 h2=>?_,fun x y z h1 h2=>?_⟩
 ·unfold ltOf cfS;rw [cmpL_refl];rfl
 ·unfold ltOf cfS at *;exact decide_eq_true (cmpL_trans (of_decide_eq_true h1) (of_decide_eq_true h2))
 ·unfold ltOf cfS at *;exact decide_eq_false (cmpL_ntrans (of_decide_eq_false h1) (of_decide_eq_false h2))
section
variable {α:Type} [Inhabited α] {enc:α→List Value} {k:Nat} {w0 W:World} {blk off:Nat} {dk:Array α}
theorem only_sw (h:SWK enc k w0 blk off dk W):Only (fun q=>q=blk) w0 W:=by
 obtain ⟨m,os,rfl⟩:=h
 refine ⟨rfl,rfl,rfl,size_sortWorldK_c enc k w0 blk off m dk os,fun q hq hne=>?_⟩
 unfold sortWorldK Go.Sort.putRowK Go.Sort.grow
 have hsz:q<(Go.Sort.putRow id (Go.Sort.ahead w0 m) blk off (flatK enc k dk)).heap.size:=by rw [Go.Sort.size_putRow];exact hq
 show ((Go.Sort.putRow id (Go.Sort.ahead w0 m) blk off (flatK enc k dk)).heap++os)[q]? = _
 rw [Array.getElem?_append_left hsz]
 simp only [Go.Sort.putRow,Go.Sort.mapBlock,Array.getElem?_modify]
 rw [if_neg (fun e=>hne e.symm)]
 rfl
theorem sw_new (m:Nat) (os:Array Obj):SWK enc k w0 blk off dk (sortWorldK enc k w0 blk off m dk os):=⟨m,os,rfl⟩
end
theorem lessT_any (A B:Option Addr) (ca cb:Nat) (a b:List Int) (c d:Int) (W:World) (hA:Ints W A a) (hB:Ints W B b) (hl:b.length=a.length) (ha:a.length≤9223372036854775807) :
  Calls Tryz.prog 178 #[.agg #[.slice A a.length ca,.int .i64 c],.agg #[.slice B a.length cb,.int .i64 d]] W fun e w'=>e=.returned (.int .i64 (cmpL a b))∧∃ q os',w'=grow (W.drewN q) os':=by
 have HC:=hid (fun (w':World) (hb:Below W.heap.size W w')=>compare_any A B ca cb a b w' (hA.below hb) (hB.below hb) hl ha)
 have HG:Hid (Below W.heap.size W ((W.alloc (.cells #[.slice A a.length ca,.int .i64 c] 173)).alloc (.cells #[.slice B a.length cb,.int .i64 d] 173))):=by show Below _ _ _;go_grown
 clear hA hB hl
 generalize cmpL a b=r at *
 go_enter Tryz.func178,Tryz.ntmps178
 go_wp2_with fail
 refine (HC.out _ HG.out).mono ?_
 rintro e w' ⟨rfl,rfl⟩
 go_wp2
 go_ret
 exact ⟨rfl,0,_,by rw [Go.Sort.alloc_eq_grow,Go.Sort.alloc_eq_grow,Go.Sort.grow_grow];rfl⟩
theorem cmpLaysS {w:World} {blk n:Nat} [Inhabited (TmS w blk n)] (off size:Nat) (hn:n≤9223372036854775807):CmpLays Tryz.prog 178 #[] (encS (w:=w) (blk:=blk) (n:=n)) 2 cfS blk off size w:=fun m os dk _ x y=>by
 have ho:=only_sw (sw_new (enc:=encS (w:=w) (blk:=blk) (n:=n)) (k:=2) (w0:=w) (blk:=blk) (off:=off) (dk:=dk) m os)
 have hx:=x.2.1.onlyB ho (fun q _ hq=>x.2.2.1 q hq)
 have hy:=y.2.1.onlyB ho (fun q _ hq=>y.2.2.1 q hq)
 have hl:y.1.t.1.length=x.1.t.1.length:=by rw [y.2.2.2,x.2.2.2]
 have h:=lessT_any x.1.A y.1.A x.1.cap y.1.cap x.1.t.1 y.1.t.1 x.1.t.2 y.1.t.2 _ hx hy hl (by rw [x.2.2.2];exact hn)
 have e:encS y=[.slice y.1.A x.1.t.1.length y.1.cap,.int .i64 y.1.t.2]:=by unfold encS;rw [hl]
 rw [e]
 exact h
def RowT (w:World) (blk off n:Nat) (ts:List Term'):Prop:=
 ∀ i t,ts[i]? = some t→∃ Ai cap,w.cell? ⟨blk,off+i*2,none⟩=some (.slice Ai t.1.length cap)∧w.cell? ⟨blk,off+i*2+1,none⟩=some (.int .i64 t.2) ∧
  w.frozen? ⟨blk,off+i*2,none⟩=false∧w.frozen? ⟨blk,off+i*2+1,none⟩=false∧(TmE.mk Ai cap t).ok w blk n
theorem row_elems {w:World} {blk off n:Nat} {ts:List Term'} [Inhabited (TmS w blk n)] (h:RowT w blk off n ts) :
  ∃ d:Array (TmS w blk n),d.size=ts.length∧HoldsK encS 2 w blk off d∧d.toList.map (·.1.t)=ts:=by
 obtain ⟨es,hl,he⟩:=list_of ts.length (fun i (x:TmS w blk n)=>ts[i]? = some x.1.t∧w.cell? ⟨blk,off+i*2,none⟩=some (.slice x.1.A x.1.t.1.length x.1.cap)∧w.cell? ⟨blk,off+i*2+1,none⟩=some (.int .i64 x.1.t.2)∧w.frozen? ⟨blk,off+i*2,none⟩=false∧w.frozen? ⟨blk,off+i*2+1,none⟩=false) (fun i hi=>by
  obtain ⟨Ai,cap,h1,h2,h3,h4,h5⟩:=h i _ (List.getElem?_eq_getElem hi)
  exact ⟨⟨⟨Ai,cap,ts[i]⟩,h5⟩,List.getElem?_eq_getElem hi,h1,h2,h3,h4⟩)
 refine ⟨es.toArray,by simpa using hl,fun j hj=>?_, ?_⟩
 ·have hj':j<es.length*2:=by simpa [flatK] using hj
  have hi:j / 2<es.length:=by omega
  have hg:es.toArray[j / 2]! = es[j / 2]:=by simp [getElem!_pos,hi]
  obtain ⟨_,h1,h2,h3,h4⟩:=he (j / 2) _ (List.getElem?_eq_getElem hi)
  rw [Go.Sort.get_flatK _ _ _ _ (by simpa using hj'),hg]
  rcases Nat.mod_two_eq_zero_or_one j with e | e
  ·rw [e,show off+j=off+j / 2*2 by omega];exact ⟨h1,h3⟩
  ·rw [e,show off+j=off+j / 2*2+1 by omega];exact ⟨h2,h4⟩
 ·apply List.ext_getElem?
  intro i
  simp only [List.getElem?_map]
  by_cases hi:i<es.length
  ·rw [List.getElem?_eq_getElem hi]
   exact ((he i _ (List.getElem?_eq_getElem hi)).1).symm
  ·rw [List.getElem?_eq_none (by omega),List.getElem?_eq_none (by omega)];rfl
theorem sorted_row {w w':World} {blk off n:Nat} {ts:List Term'} [Inhabited (TmS w blk n)] {d d':Array (TmS w blk n)} (hblk:blk<w.heap.size) (hH:HoldsK encS 2 w blk off d) (hts:d.toList.map (·.1.t)=ts)
  (hp:PermIn 0 d.size d d') (hs:SortedIn (ltOf cfS) 0 d.size d') (hw:SWK encS 2 w blk off d' w') :
  ∃ ts',ts'.Perm ts∧ts'.Pairwise (fun s t=>¬ cmpL t.1 s.1<0)∧RowT w' blk off n ts'∧Only (fun q=>q=blk) w w':=by
 have ho:=only_sw hw
 have hsz:d'.size=d.size:=hp.1
 have hH':=hw.holds hblk hH hsz
 have hpl:d'.toList.Perm d.toList:=by
  have h3:=hp.2.2
  rw [Array.extract_size,←hsz,Array.extract_size] at h3
  exact h3
 refine ⟨d'.toList.map (·.1.t), ?_, ?_, ?_,ho⟩
 ·rw [←hts];exact hpl.map _
 ·rw [List.pairwise_map,List.pairwise_iff_getElem]
  intro i j hi hj hij
  have hi':i<d'.size:=by simpa using hi
  have hj':j<d'.size:=by simpa using hj
  have:=hs i j (Nat.zero_le _) hij (by omega)
  rw [getElem!_pos d' i hi',getElem!_pos d' j hj'] at this
  have:=of_decide_eq_false this
  simpa [cfS] using this
 ·intro i t ht
  rw [List.getElem?_map] at ht
  have hi:i<d'.size:=by
   rcases Nat.lt_or_ge i d'.size with h | h
   ·exact h
   ·rw [List.getElem?_eq_none (by simpa using h)] at ht;simp at ht
  have hx:d'.toList[i]? = some d'[i]!:=by rw [getElem!_pos d' i hi];simp [hi]
  rw [hx] at ht
  obtain rfl:(d'[i]!).1.t=t:=by simpa using ht
  have c0:=hH'.cell hi (show 0<2 by omega)
  have c1:=hH'.cell hi (show 1<2 by omega)
  rw [Nat.add_zero] at c0
  obtain ⟨k1,k2,k3⟩:=(d'[i]!).2
  exact ⟨_,_,c0.1,c1.1,c0.2,c1.2,k1.onlyB ho (fun q _ hq=>k2 q hq),k2,k3⟩
end
section
open Go.RowKit Plain PSort
open Go.Sort (PermIn SortedIn SWO swp HoldsK grow)
structure SortC {w0:World} {blk n:Nat} [Inhabited (TmS w0 blk n)] (off:Nat) (d0:Array (TmS w0 blk n)):Prop where
 hH:HoldsK encS 2 w0 blk off d0
 hblk:blk<w0.heap.size
 sz:d0.size<4611686018427387904
 hn:n≤9223372036854775807
section
variable {w0 W:World} {blk n off:Nat} [Inhabited (TmS w0 blk n)] {d0 dk:Array (TmS w0 blk n)}
abbrev SW2 (w0:World) (blk n off:Nat) [Inhabited (TmS w0 blk n)] (dk:Array (TmS w0 blk n)) (W:World):Prop:=SWK encS 2 w0 blk off dk W
theorem SortC.R (H:SortC off d0):RowK encS 2 w0 blk off d0:=⟨encS_len,encS_one,H.hH,H.hblk⟩
omit [Inhabited (TmS w0 blk n)] in
theorem encS_n (x:TmS w0 blk n):encS x=[.slice x.1.A n x.1.cap,.int .i64 x.1.t.2]:=by unfold encS;rw [x.2.2.2]
theorem SW2.cells (H:SortC off d0) (S:SW2 w0 blk n off dk W) (hs:dk.size=d0.size) (i:Nat) (hi:i<dk.size) :
  (W.cell? ⟨blk,off+i*2,none⟩=some (.slice (dk[i]!).1.A n (dk[i]!).1.cap)∧W.frozen? ⟨blk,off+i*2,none⟩=false) ∧
  (W.cell? ⟨blk,off+i*2+1,none⟩=some (.int .i64 (dk[i]!).1.t.2)∧W.frozen? ⟨blk,off+i*2+1,none⟩=false):=by
 have hh:=S.holds H.hblk H.hH hs
 have c0:=hh.cell hi (show 0<2 by omega)
 have c1:=hh.cell hi (show 1<2 by omega)
 rw [encS_n] at c0 c1
 rw [Nat.add_zero] at c0
 exact ⟨c0,c1⟩
structure TstF (w0:World) (blk n off:Nat) (W:World) (i j:Nat) (A A':Option Addr) (c c':Nat) (v v' z:Int):Prop where
 a0:∀ m os,(grow (W.drewN m) os).cell? ⟨blk,off+i*2,none⟩=some (.slice A n c)
 a1:∀ m os,(grow (W.drewN m) os).cell? ⟨blk,off+i*2+1,none⟩=some (.int .i64 v)
 b0:∀ m os,(grow (W.drewN m) os).cell? ⟨blk,off+j*2,none⟩=some (.slice A' n c')
 b1:∀ m os,(grow (W.drewN m) os).cell? ⟨blk,off+j*2+1,none⟩=some (.int .i64 v')
 call:∀ m os,Calls Tryz.prog 178 #[.agg #[.slice A n c,.int .i64 v],.agg #[.slice A' n c',.int .i64 v']] (grow (W.drewN m) os) fun e w'=>e=.returned (.int .i64 z)∧∃ q os',w'=grow ((grow (W.drewN m) os).drewN q) os'
theorem tstF (H:SortC off d0) (S:SW2 w0 blk n off dk W) (hs:dk.size=d0.size) (i j:Nat) (hi:i<dk.size) (hj:j<dk.size) :
  ∃ A A' c c' v v' z,TstF w0 blk n off W i j A A' c c' v v' z∧z=cfS dk[i]! dk[j]!:=by
 refine ⟨_,_,_,_,_,_,_,⟨fun m os=>(SW2.cells H (S.grown m os) hs i hi).1.1,fun m os=>(SW2.cells H (S.grown m os) hs i hi).2.1,fun m os=>(SW2.cells H (S.grown m os) hs j hj).1.1,fun m os=>(SW2.cells H (S.grown m os) hs j hj).2.1,fun m os=>?_⟩,rfl⟩
 have h:=S.cmp (cmpLaysS (w:=w0) (blk:=blk) (n:=n) off d0.size H.hn) hs dk[i]! dk[j]! m os
 rw [encS_n,encS_n] at h
 exact h
structure XchF (w0:World) (blk n off:Nat) [Inhabited (TmS w0 blk n)] (W:World) (i j:Nat) (A A':Option Addr) (c c':Nat) (v v':Int) (d2:Array (TmS w0 blk n)):Prop where
 a0:W.cell? ⟨blk,off+i*2,none⟩=some (.slice A n c)
 a1:W.cell? ⟨blk,off+i*2+1,none⟩=some (.int .i64 v)
 b0:W.cell? ⟨blk,off+j*2,none⟩=some (.slice A' n c')
 b1:W.cell? ⟨blk,off+j*2+1,none⟩=some (.int .i64 v')
 fr:∀ o,o<2→W.frozen? ⟨blk,off+i*2+o,none⟩=false∧W.frozen? ⟨blk,off+j*2+o,none⟩=false
 s1:(W.setCell ⟨blk,off+i*2,none⟩ (.slice A' n c')).cell? ⟨blk,off+i*2+1,none⟩=some (.int .i64 v)
 s2:((W.setCell ⟨blk,off+i*2,none⟩ (.slice A' n c')).setCell ⟨blk,off+i*2+1,none⟩ (.int .i64 v')).cell? ⟨blk,off+j*2,none⟩=some (.slice A' n c')
 s3:(((W.setCell ⟨blk,off+i*2,none⟩ (.slice A' n c')).setCell ⟨blk,off+i*2+1,none⟩ (.int .i64 v')).setCell ⟨blk,off+j*2,none⟩ (.slice A n c)).cell? ⟨blk,off+j*2+1,none⟩=some (.int .i64 v')
 sw:SW2 w0 blk n off d2 (((((W.setCell ⟨blk,off+i*2,none⟩ (.slice A' n c')).setCell ⟨blk,off+i*2+1,none⟩ (.int .i64 v')).setCell ⟨blk,off+j*2,none⟩ (.slice A n c)).setCell ⟨blk,off+j*2+1,none⟩ (.int .i64 v)).drew)
theorem cs_far {w:World} {b i j:Nat} (v:Value) (h:i≠j):(w.setCell ⟨b,j,none⟩ v).cell? ⟨b,i,none⟩=w.cell? ⟨b,i,none⟩:=World.cell?_setCell_other _ _ _ _ (fun e=>by injection e with _ h' _;omega)
theorem xchF (H:SortC off d0) (S:SW2 w0 blk n off dk W) (hs:dk.size=d0.size) (i j:Nat) (hi:i<dk.size) (hj:j<dk.size) (hij:i≠j) :
  ∃ A A' c c' v v',XchF w0 blk n off W i j A A' c c' v v' (swp dk i j):=by
 obtain ⟨⟨i0,fi0⟩,i1,fi1⟩:=SW2.cells H S hs i hi
 obtain ⟨⟨j0,fj0⟩,j1,fj1⟩:=SW2.cells H S hs j hj
 have hsw:=S.swapped H.R i j hi hj
 rw [encS_n,encS_n] at hsw
 refine ⟨_,_,_,_,_,_,i0,i1,j0,j1,fun o ho=>?_, ?_, ?_, ?_,hsw⟩
 ·rcases (by omega:o=0∨o=1) with rfl | rfl
  ·exact ⟨fi0,fj0⟩
  ·exact ⟨fi1,fj1⟩
 ·rw [cs_far _ (by omega)];exact i1
 ·rw [cs_far _ (by omega),cs_far _ (by omega)];exact j0
 ·rw [cs_far _ (by omega),cs_far _ (by omega),cs_far _ (by omega)];exact j1
end
end
section
open Go.RowKit Plain PSort
open Go.Sort (PermIn SortedIn SWO swp swp_permIn permIn_refl permIn_trans permIn_mono size_swp HoldsK grow)
section
variable {w0:World} {blk n' off:Nat} [Inhabited (TmS w0 blk n')] {d0:Array (TmS w0 blk n')}
theorem swapRange_any (H:SortC off d0) (cap a b n:Nat) (az bz nz:Int) (ha:az=a) (hb:bz=b) (hn:nz=n) (d:Array (TmS w0 blk n')) (w:World) (hds:d.size=d0.size) (S:SW2 w0 blk n' off d w) (hab:a+n≤b) (hbn:b+n≤d.size) :
  Calls Tryz.prog 285 #[.slice (some ⟨blk,off,none⟩) d.size cap,.int .i64 az,.int .i64 bz,.int .i64 nz,.func (.func 178) #[] #[]] w fun e w'=>e=.returned (.tuple #[])∧∃ d',SW2 w0 blk n' off d' w'∧PermIn a (b+n) d d'∧∀ t,d'[t]! = swF (fun t=>d[t]!) a b n t:=by
 subst ha hb hn
 have mixed:Tryz.prog.follows .mixedOrders=true:=by kernel_rfl
 have hsz:=H.sz
 have hsz':d.size<4611686018427387904:=by omega
 have S0:=hid S
 have HDS:=hid hds
 clear S hds
 go_enter Tryz.func285,Tryz.ntmps285
 go_wp2
 go_loopg [10] n (fun kx s wr=>∃ (i:Nat) (dk:Array (TmS w0 blk n')),s=.int .i64 (i:Int)∧i≤n∧n - i≤kx∧dk.size=d.size∧Hid (SW2 w0 blk n' off dk wr)∧Hid (PermIn a (b+n) d dk)∧Hid (∀ t,dk[t]! = swF (fun t=>d[t]!) a b i t))
 case atStart=>exact ⟨0,d,by go_num,by omega,by omega,rfl,S0,permIn_refl _ _ _,by show ∀ t,_;rw [swF_zero];intro t;rfl⟩
 case round=>
  clear S0
  obtain ⟨i,dk,rfl,hin,hkx,hdk,S1,HP,HF⟩:=hrel
  by_cases hlt:i<n
  ·have hltz:(i:Int)<(n:Int):=by omega
   go_wp2_with fail
   have ea1:((a:Int)+(i:Int)).toNat=a+i:=by omega
   have pa1:(0:Int)≤(a:Int)+(i:Int):=by omega
   have ba1:(a:Int)+(i:Int)<(d.size:Int):=by omega
   have ra1:IntKind.i64.wrap ((a:Int)+(i:Int))=(a:Int)+(i:Int):=by rw [IntKind.wrap_i64];omega
   have ec1:((b:Int)+(i:Int)).toNat=b+i:=by omega
   have pc1:(0:Int)≤(b:Int)+(i:Int):=by omega
   have bc1:(b:Int)+(i:Int)<(d.size:Int):=by omega
   have rc1:IntKind.i64.wrap ((b:Int)+(i:Int))=(b:Int)+(i:Int):=by rw [IntKind.wrap_i64];omega
   obtain ⟨A1,A1',c1,c1',v1,v1',X1⟩:=xchF H S1.out (by have:=HDS.out;omega) (a+i) (b+i) (by omega) (by omega) (by omega)
   have xa01:=X1.a0
   have xa11:=X1.a1
   have xb01:=X1.b0
   have xb11:=X1.b1
   have xf01:=(X1.fr 0 (by omega)).1
   have xf11:=(X1.fr 1 (by omega)).1
   have xg01:=(X1.fr 0 (by omega)).2
   have xg11:=(X1.fr 1 (by omega)).2
   rw [Nat.add_zero] at xf01 xg01
   have xs11:=X1.s1
   have xs21:=X1.s2
   have xs31:=X1.s3
   have S2:=hid X1.sw
   clear S1 X1
   go_wp2_with fail
   go_region
   clear xa01 xa11 xb01 xb11 xf01 xf11 xg01 xg11 xs11 xs21 xs31
   generalize ((((wr.setCell ⟨blk,off+(a+i)*2,none⟩ (.slice A1' n' c1')).setCell ⟨blk,off+(a+i)*2+1,none⟩ (.int .i64 v1')).setCell ⟨blk,off+(b+i)*2,none⟩ (.slice A1 n' c1)).setCell ⟨blk,off+(b+i)*2+1,none⟩ (.int .i64 v1)).drew=w2 at S2 ⊢
   have HP2:Hid (PermIn a (b+n) d (swp dk (a+i) (b+i))):=permIn_trans _ _ _ _ _ HP.out (swp_permIn _ _ _ _ _ (by omega) (by omega) (by omega) (by omega) (by omega))
   have HF2:Hid (∀ t,(swp dk (a+i) (b+i))[t]! = swF (fun t=>d[t]!) a b (i+1) t):=swF_step (by omega) (by omega) hdk HF.out
   go_wp2
   go_roundg (n - (i+1))
   case measure=>omega
   case rel=>exact ⟨i+1,swp dk (a+i) (b+i),by first | rfl | go_num,by omega,by omega,by rw [size_swp];exact hdk,S2,HP2,HF2⟩
  ·obtain rfl:i=n:=by omega
   go_wp2
   go_end0
   exact ⟨rfl,dk,S1.out,HP.out,HF.out⟩
end
end
section
open Go.RowKit Plain PSort
open Go.Sort (PermIn SortedIn SWO swp swp_permIn permIn_refl permIn_trans permIn_mono size_swp HoldsK grow)
section
variable {w0:World} {blk n' off:Nat} [Inhabited (TmS w0 blk n')] {d0:Array (TmS w0 blk n')}
theorem rotate_any (H:SortC off d0) (cap a m b:Nat) (az mz bz:Int) (ha:az=a) (hm:mz=m) (hb:bz=b) (d:Array (TmS w0 blk n')) (w:World) (hds:d.size=d0.size) (S:SW2 w0 blk n' off d w) (ham:a<m) (hmb:m<b) (hbn:b≤d.size) :
  Calls Tryz.prog 282 #[.slice (some ⟨blk,off,none⟩) d.size cap,.int .i64 az,.int .i64 mz,.int .i64 bz,.func (.func 178) #[] #[]] w fun e w'=>e=.returned (.tuple #[])∧∃ d',SW2 w0 blk n' off d' w'∧PermIn a b d d'∧∀ t,d'[t]! = rotF (fun t=>d[t]!) a m b t:=by
 subst ha hm hb
 have hsz:=H.sz
 have hsz':d.size<4611686018427387904:=by omega
 have S0:=hid S
 clear S
 have HSW:Hid (∀ (x y n:Nat) (xz yz nz:Int) (dk:Array (TmS w0 blk n')) (wr:World),xz=x→yz=y→nz=n→dk.size=d.size→SW2 w0 blk n' off dk wr→x+n≤y→y+n≤d.size →
   Calls Tryz.prog 285 #[.slice (some ⟨blk,off,none⟩) d.size cap,.int .i64 xz,.int .i64 yz,.int .i64 nz,.func (.func 178) #[] #[]] wr fun e w'=>e=.returned (.tuple #[])∧∃ d',SW2 w0 blk n' off d' w'∧PermIn x (y+n) dk d'∧∀ t,d'[t]! = swF (fun t=>dk[t]!) x y n t):=by
  intro x y n xz yz nz dk wr hx hy hn hdk hS h1 h2
  rw [←hdk]
  exact swapRange_any H cap x y n xz yz nz hx hy hn dk wr (by omega) hS h1 (by omega)
 clear hds
 go_enter Tryz.func282,Tryz.ntmps282
 go_wp2
 go_loopg [10,11] (m - a+(b - m)) (fun kx s10 s11 wr=>∃ (i j:Nat) (dk:Array (TmS w0 blk n')),s10=.int .i64 (i:Int)∧s11=.int .i64 (j:Int)∧0<i∧0<j∧a+i≤m∧m+j≤b∧i+j≤kx∧dk.size=d.size∧Hid (SW2 w0 blk n' off dk wr)∧Hid (PermIn a b d dk)∧Hid (rotF (fun t=>dk[t]!) (m - i) m (m+j)=rotF (fun t=>d[t]!) a m b))
 case atStart=>exact ⟨m - a,b - m,d,by first | rfl | go_num | (congr 1;omega),by first | rfl | go_num | (congr 1;omega),by omega,by omega,by omega,by omega,by omega,rfl,S0,permIn_refl _ _ _,by show _=_;rw [show m - (m - a)=a by omega,show m+(b - m)=b by omega]⟩
 case round=>
  clear S0
  obtain ⟨i,j,dk,rfl,rfl,hi0,hj0,hai,hjb,hkx,hdk,S1,HP,HF⟩:=hrel
  by_cases hij:i=j
  ·have hb:((i:Int)==(j:Int))=true:=by simp [hij]
   have hbn':((i:Int) != (j:Int))=false:=by simp [hij]
   have HIJ:=hid hij
   clear hij
   go_wp2_with fail
   refine (HSW.out (m - i) m i _ _ _ dk wr (by omega) rfl rfl hdk S1.out (by omega) (by have:=HIJ.out;omega)).mono ?_
   rintro e w2 ⟨rfl,d2,hS2,hP2,hF2⟩
   have HE:Hid (∃ d',SW2 w0 blk n' off d' w2∧PermIn a b d d'∧∀ t,d'[t]! = rotF (fun t=>d[t]!) a m b t):=by
    refine ⟨d2,hS2,permIn_trans _ _ _ _ _ HP.out (permIn_mono _ _ (m - i) (m+i) _ _ (by omega) (by have:=HIJ.out;omega) (by omega) hP2),fun t=>?_⟩
    have hE:=HIJ.out
    rw [hF2 t,←rotF_even _ _ _ (by omega),←HF.out,←hE]
   clear hS2 hP2 hF2
   go_wp2
   go_end0
   exact ⟨rfl,HE.out⟩
  ·have hb:((i:Int)==(j:Int))=false:=by simp;omega
   have hbn':((i:Int) != (j:Int))=true:=by simp;omega
   by_cases hgt:j<i
   ·have hgz:(j:Int)<(i:Int):=by omega
    go_wp2_with fail
    refine (HSW.out (m - i) m j _ _ _ dk wr (by omega) rfl rfl hdk S1.out (by omega) (by omega)).mono ?_
    rintro e w2 ⟨rfl,d2,hS2,hP2,hF2⟩
    have HS2:=hid hS2
    have HD2:Hid (d2.size=d.size):=hP2.1.trans hdk
    have HP2:Hid (PermIn a b d d2):=permIn_trans _ _ _ _ _ HP.out (permIn_mono _ _ (m - i) (m+j) _ _ (by omega) (by omega) (by omega) hP2)
    have HF2:Hid (rotF (fun t=>d2[t]!) (m - (i - j)) m (m+j)=rotF (fun t=>d[t]!) a m b):=by
     show _=_
     rw [←HF.out,show (fun t=>d2[t]!)=swF (fun t=>dk[t]!) (m - i) m j from funext hF2]
     exact rotF_stepL _ _ _ _ (by omega) hgt
    clear hS2 hP2 hF2 S1 HP HF
    go_wp2
    go_roundg (i - j+j)
    case measure=>omega
    case rel=>exact ⟨i - j,j,d2,by first | rfl | go_num | (congr 1;omega),rfl,by omega,hj0,by omega,hjb,by omega,HD2.out,HS2,HP2,HF2⟩
   ·have hgz:¬ (j:Int)<(i:Int):=by omega
    have hgz':(i:Int)<(j:Int):=by omega
    go_wp2_with fail
    refine (HSW.out (m - i) (m+j - i) i _ _ _ dk wr (by omega) (by omega) rfl hdk S1.out (by omega) (by omega)).mono ?_
    rintro e w2 ⟨rfl,d2,hS2,hP2,hF2⟩
    have HS2:=hid hS2
    have HD2:Hid (d2.size=d.size):=hP2.1.trans hdk
    have HP2:Hid (PermIn a b d d2):=permIn_trans _ _ _ _ _ HP.out (permIn_mono _ _ (m - i) (m+j - i+i) _ _ (by omega) (by omega) (by omega) hP2)
    have HF2:Hid (rotF (fun t=>d2[t]!) (m - i) m (m+(j - i))=rotF (fun t=>d[t]!) a m b):=by
     show _=_
     rw [←HF.out,show (fun t=>d2[t]!)=swF (fun t=>dk[t]!) (m - i) (m+j - i) i from funext hF2]
     exact rotF_stepR _ _ _ _ (by omega) (by omega)
    clear hS2 hP2 hF2 S1 HP HF
    go_wp2
    go_roundg (i+(j - i))
    case measure=>omega
    case rel=>exact ⟨i,j - i,d2,rfl,by first | rfl | go_num | (congr 1;omega),hi0,by omega,hai,by omega,by omega,HD2.out,HS2,HP2,HF2⟩
end
end
section
open Go.RowKit Plain PSort
open Go.Sort (PermIn SortedIn SWO swp swp_permIn permIn_refl permIn_trans permIn_mono size_swp HoldsK grow)
section
variable {w0:World} {blk n' off:Nat} [Inhabited (TmS w0 blk n')] {d0:Array (TmS w0 blk n')}
theorem insertion_any (H:SortC off d0) (cap a b:Nat) (az bz:Int) (ha:az=a) (hb:bz=b) (d:Array (TmS w0 blk n')) (w:World) (hds:d.size=d0.size) (S:SW2 w0 blk n' off d w) (hab:a≤b) (hbn:b≤d.size) :
  Calls Tryz.prog 267 #[.slice (some ⟨blk,off,none⟩) d.size cap,.int .i64 az,.int .i64 bz,.func (.func 178) #[] #[]] w fun e w'=>e=.returned (.tuple #[])∧∃ d',SW2 w0 blk n' off d' w'∧PermIn a b d d'∧SortedIn (ltOf cfS) a b d':=by
 subst ha hb
 have mixed:Tryz.prog.follows .mixedOrders=true:=by kernel_rfl
 have hsz:=H.sz
 have hsz':d.size<4611686018427387904:=by omega
 have S0:=hid S
 have FIN:Hid (PermIn a b d (Go.Sort.insertionSort (ltOf cfS) d a b)∧SortedIn (ltOf cfS) a b (Go.Sort.insertionSort (ltOf cfS) d a b)):=Go.Sort.insertionSort_holds swoS d a b hab hbn
 have HDS:=hid hds
 clear S hds
 go_enter Tryz.func267,Tryz.ntmps267
 go_wp2
 go_loopg [8] (b - a) (fun g1 vi wr=>∃ (i:Nat) (dk:Array (TmS w0 blk n')),vi=.int .i64 (i:Int)∧a<i∧i≤b+1∧b+1 - i≤g1+1∧dk.size=d.size∧Hid (SW2 w0 blk n' off dk wr)∧Hid (Go.Sort.insOuter (ltOf cfS) a b i dk=Go.Sort.insOuter (ltOf cfS) a b (a+1) d))
 case atStart=>exact ⟨a+1,d,by go_num,by omega,by omega,by omega,rfl,S0,by show _=_;rfl⟩
 case round=>
  clear S0
  obtain ⟨i,dk,rfl,hai,hib,hg1,hsk,S1,HO⟩:=hrel
  by_cases hlt:i<b
  ·have hltz:(i:Int)<(b:Int):=by omega
   go_wp2
   go_loopg [9] i (fun g2 vj wr2=>∃ (j:Nat) (dj:Array (TmS w0 blk n')),vj=.int .i64 (j:Int)∧a≤j∧j≤i∧j≤g2∧dj.size=d.size∧Hid (SW2 w0 blk n' off dj wr2)∧Hid (Go.Sort.insInner (ltOf cfS) a j dj=Go.Sort.insInner (ltOf cfS) a i dk))
   case atStart=>exact ⟨i,dk,rfl,by omega,Nat.le_refl _,Nat.le_refl _,hsk,S1,by show _=_;rfl⟩
   case round=>
    clear S1
    obtain ⟨j,dj,rfl,haj,hji,hg2,hsj,S1,HI⟩:=hrel
    have OUT:Hid ((j≤a∨ltOf cfS dj[j]! dj[j - 1]! = false)→Go.Sort.insOuter (ltOf cfS) a b (i+1) dj=Go.Sort.insOuter (ltOf cfS) a b (a+1) d):=fun hs=>by
     rw [←HO.out,insOuter_go _ _ _ _ _ hlt,←HI.out,insInner_stop _ _ _ _ hs]
    by_cases hja:a<j
    ·have hjaz:(a:Int)<(j:Int):=by omega
     obtain ⟨jp,rfl⟩:∃ jp,j=jp+1:=⟨j - 1,by omega⟩
     have hwp:IntKind.i64.wrap (jp:Int)=(jp:Int):=by rw [IntKind.wrap_i64];omega
     have hjaz':(a:Int)<(jp:Int)+1:=by omega
     cases hL:ltOf cfS dj[jp+1]! dj[jp]! with
     | true=>
      have ea1:((jp:Int)+1).toNat=jp+1:=by omega
      have pa1:(0:Int)≤(jp:Int)+1:=by omega
      have ba1:(jp:Int)+1<(d.size:Int):=by omega
      have ra1:IntKind.i64.wrap ((jp:Int)+1)=(jp:Int)+1:=by rw [IntKind.wrap_i64];omega
      have ec1:((jp:Int)).toNat=jp:=by omega
      have pc1:(0:Int)≤(jp:Int):=by omega
      have bc1:(jp:Int)<(d.size:Int):=by omega
      have rc1:IntKind.i64.wrap ((jp:Int))=(jp:Int):=by rw [IntKind.wrap_i64];omega
      obtain ⟨A1,A1',c1,c1',v1,v1',z1,X1,hz1⟩:=tstF H S1.out (by have:=HDS.out;omega) (jp+1) (jp) (by omega) (by omega)
      have xa01:=X1.a0
      have xa11:=X1.a1
      have xb01:=X1.b0
      have xb11:=X1.b1
      have xc1:=X1.call
      have hv1:z1<0:=by rw [hz1];exact of_decide_eq_true hL
      have hd1:decide (z1<0)=true:=decide_eq_true hv1
      clear hz1 X1
      go_wp2_with fail
      go_quiet_grown (first | (go_at_call 178;refine Calls.grown_of (xc1 _ _)))
      have S2:Hid (SW2 w0 blk n' off dj (grow (wr.drewN nq) osq)):=S1.out.grown nq osq
      clear xa01 xa11 xb01 xb11 xc1 S1
      generalize grow (wr.drewN nq) osq=w2 at S2 ⊢
      clear nq osq
      go_wp2_with fail
      obtain ⟨A2,A2',c2,c2',v2,v2',X2⟩:=xchF H S2.out (by have:=HDS.out;omega) (jp+1) (jp) (by omega) (by omega) (by omega)
      have xa02:=X2.a0
      have xa12:=X2.a1
      have xb02:=X2.b0
      have xb12:=X2.b1
      have xf02:=(X2.fr 0 (by omega)).1
      have xf12:=(X2.fr 1 (by omega)).1
      have xg02:=(X2.fr 0 (by omega)).2
      have xg12:=(X2.fr 1 (by omega)).2
      rw [Nat.add_zero] at xf02 xg02
      have xs12:=X2.s1
      have xs22:=X2.s2
      have xs32:=X2.s3
      have S3:=hid X2.sw
      clear S2 X2
      go_wp2_with fail
      go_region
      clear xa02 xa12 xb02 xb12 xf02 xf12 xg02 xg12 xs12 xs22 xs32
      generalize ((((w2.setCell ⟨blk,off+(jp+1)*2,none⟩ (.slice A2' n' c2')).setCell ⟨blk,off+(jp+1)*2+1,none⟩ (.int .i64 v2')).setCell ⟨blk,off+(jp)*2,none⟩ (.slice A2 n' c2)).setCell ⟨blk,off+(jp)*2+1,none⟩ (.int .i64 v2)).drew=w3 at S3 ⊢
      go_wp2
      go_roundg jp
      case measure=>omega
      case rel=>
       refine ⟨jp,swp dj (jp+1) jp,by first | rfl | go_num | (congr 1;omega),by omega,by omega,Nat.le_refl _,by rw [size_swp];exact hsj,S3, ?_⟩
       show _=_
       have:=insInner_go (ltOf cfS) a (jp+1) dj hja (by simp only [Nat.add_sub_cancel];exact hL)
       simp only [Nat.add_sub_cancel] at this
       rw [←HI.out,this]
     | false=>
      have ea3:((jp:Int)+1).toNat=jp+1:=by omega
      have pa3:(0:Int)≤(jp:Int)+1:=by omega
      have ba3:(jp:Int)+1<(d.size:Int):=by omega
      have ra3:IntKind.i64.wrap ((jp:Int)+1)=(jp:Int)+1:=by rw [IntKind.wrap_i64];omega
      have ec3:((jp:Int)).toNat=jp:=by omega
      have pc3:(0:Int)≤(jp:Int):=by omega
      have bc3:(jp:Int)<(d.size:Int):=by omega
      have rc3:IntKind.i64.wrap ((jp:Int))=(jp:Int):=by rw [IntKind.wrap_i64];omega
      obtain ⟨A3,A3',c3,c3',v3,v3',z3,X3,hz3⟩:=tstF H S1.out (by have:=HDS.out;omega) (jp+1) (jp) (by omega) (by omega)
      have xa03:=X3.a0
      have xa13:=X3.a1
      have xb03:=X3.b0
      have xb13:=X3.b1
      have xc3:=X3.call
      have hv3:¬ z3<0:=by rw [hz3];exact of_decide_eq_false hL
      have hd3:decide (z3<0)=false:=decide_eq_false hv3
      clear hz3 X3
      go_wp2_with fail
      go_quiet_grown (first | (go_at_call 178;refine Calls.grown_of (xc3 _ _)))
      have S2:Hid (SW2 w0 blk n' off dj (grow (wr.drewN nq) osq)):=S1.out.grown nq osq
      clear xa03 xa13 xb03 xb13 xc3 S1
      generalize grow (wr.drewN nq) osq=w2 at S2 ⊢
      clear nq osq
      go_wp2
      go_roundg (b - (i+1))
      case measure=>omega
      case rel=>exact ⟨i+1,dj,by go_num,by omega,by omega,by omega,hsj,S2,OUT.out (Or.inr (by simp only [Nat.add_sub_cancel];exact hL))⟩
    ·have hjaz:decide ((j:Int) > (a:Int))=false:=decide_eq_false (by omega)
     have hjaz':¬ (a:Int)<(j:Int):=by omega
     have S2:Hid (SW2 w0 blk n' off dj wr.drew):=S1.out.drew
     go_wp2_with fail
     go_region
     generalize wr.drew=w2 at *
     all_goals go_wp2
     go_roundg (b - (i+1))
     case measure=>omega
     case rel=>exact ⟨i+1,dj,by go_num,by omega,by omega,by omega,hsj,S2,OUT.out (Or.inl (by omega))⟩
  ·have hltz:¬ (i:Int)<(b:Int):=by omega
   have HE:Hid (Go.Sort.insertionSort (ltOf cfS) d a b=dk):=by
    show _=_
    unfold Go.Sort.insertionSort;rw [←HO.out,insOuter_stop _ _ _ _ _ hlt]
   go_wp2
   go_end0
   have:=FIN.out
   rw [HE.out] at this
   exact ⟨rfl,dk,S1.out,this⟩
end
end
end Go.Proofs.YtgfkglhelfkpoaaGreat
