/- Texts put together: PPv, PPv2, PPv3, PPv4, WPv1, WPv2, WPv3, WPv4, WPv5, WPv6. -/
import Derived.Test.YtgfkglhelfkpoaaGreatRSJ
import Derived.Test.YtgfkglhelfkpoaaGreatRSH
import Derived.Test.YtgfkglhelfkpoaaGreatRA
import Derived.Test.YtgfkglhelfkpoaaGreatRSI
import Derived.Test.YtgfkglhelfkpoaaGreatRI
import Derived.Test.YtgfkglhelfkpoaaGreatRSL
set_option maxRecDepth 100000
set_option maxHeartbeats 2000000
open Go.Lib (hid)
namespace Go.Proofs.YtgfkglhelfkpoaaGreat
section
open Plain
def zeroE (n:Nat):List Int:=List.replicate n 0
def constT (u n:Int):List Term':=if n=0 then [] else [(zeroE u.toNat,n)]
def numT:List Term'→Option Int
 | []=>some 0
 | [t]=>if dg t=0 then some t.2 else none
 | _=>none
def limT (u:Int) (R:List Term') (s:Nat):Res (List Term'):=if polyOk u R=true then .ok R s else .err 3
def pvAll (ev:Nd→List (List Term')→Nat→Res (List Term')) (env:List (List Term')):Es→Nat→Res (List (List Term'))
 | .nil,s=>.ok [] s
 | .cons k n p c ks r,s=>match ev ⟨k,n,p,c,ks⟩ env s with
  | .err e=>.err e
  | .ok z s1=>match pvAll ev env r s1 with
   | .err e=>.err e
   | .ok zs s2=>.ok (z :: zs) s2
def pvLoop (ev:Nd→List (List Term')→Nat→Res (List Term')) (outs:Es):Nat→List (List Term')→Nat→Res (List (List Term'))
 | 0,zs,s=>.ok zs s
 | c+1,zs,s=>match pvAll ev zs outs s with
  | .err e=>.err e
  | .ok zs' s'=>pvLoop ev outs c zs' s'
noncomputable def pvOp (u k:Int) (a b:List Term') (s:Nat):Res (List Term'):=
 if k=3 then limT u (nfT (a++b)) s
 else if k=4 then limT u (nfT (a++sclT 1000002 b)) s
 else if k=5 then limT u (nfT (prods a b)) s
 else if k=7 then .ok (sclT 1000002 a) s
 else match numT b with
  | none=>.err 4
  | some n=>if n=0 then .err 6 else .ok (sclT (iv n) a) s
noncomputable def pv (u:Int) (P:List Fn):Nat→Nd→List (List Term')→Nat→Res (List Term')
 | 0,_,_,_=>.err 7
 | f+1,x,env,s=>
  if 3000≤s then .err 7
  else if x.k=1 then .ok (constT u x.n) (s+1)
  else if x.k=2 then .ok (env.getD x.n.toNat []) (s+1)
  else if x.k=8 then match x.ks.get? 0,x.ks.get? 1,x.ks.get? 2 with
   | some a,some b,some c=>match pv u P f a env (s+1) with
    | .err e=>.err e
    | .ok z s1=>match numT z with
     | none=>.err 4
     | some n=>if n=0 then pv u P f b env s1 else pv u P f c env s1
   | _,_,_=>.err 7
  else if x.k=9 then match x.ks.get? 0,x.ks.get? 1 with
   | some a,some b=>match pv u P f a env (s+1) with
    | .err e=>.err e
    | .ok z s1=>pv u P f b (env++[z]) s1
   | _,_=>.err 7
  else match pvAll (pv u P f) env x.ks (s+1) with
   | .err e=>.err e
   | .ok zs s1=>
    if x.k=10 then match P[x.n.toNat]? with
     | none=>.err 7
     | some g=>match g.outs.get? x.p.toNat with
      | none=>.err 7
      | some y=>pv u P f y zs s1
    else if x.k=11 then match P[x.n.toNat]? with
     | none=>.err 7
     | some g=>match pvLoop (pv u P f) g.outs x.c.toNat zs s1 with
      | .err e=>.err e
      | .ok ws s2=>.ok (ws.getD x.p.toNat []) s2
    else pvOp u x.k (zs.getD 0 []) (zs.getD 1 []) s1
end
section
open Plain
theorem zip_zero:∀ (a:List Int) (n:Nat),a.length=n→List.zipWith (fun x y:Int=>x+y) a (List.replicate n 0)=a
 | [],0,_=>rfl
 | x :: a,n+1,h=>by
  rw [List.replicate_succ,List.zipWith_cons_cons,Int.add_zero,zip_zero a n (by simpa using h)]
theorem constT_one {u k:Int} (h:1≤k):constT u k=[(zeroE u.toNat,k)]:=by unfold constT;rw [if_neg (by omega)]
theorem prods_one {n:Nat} {k:Int} {a:List Term'} (h:LenT n a):prods a [(zeroE n,k)]=sclT k a:=by
 induction a with
 | nil=>rfl
 | cons s a ih=>
  have e:prodT s (zeroE n,k)=(s.1,tm s.2 k):=by
   unfold prodT zeroE
   rw [show (Go.Proofs.YtgfkglhelfkpoaaGreat.addL s.1 (List.replicate n 0))=s.1 from zip_zero s.1 n (h s (List.mem_cons_self ..))]
  have ih':=ih fun t ht=>h t (List.mem_cons_of_mem _ ht)
  unfold prods at ih' ⊢
  rw [List.flatMap_cons,ih']
  unfold sclT
  rw [List.map_cons,List.map_cons,List.map_nil,e]
  rfl
theorem prods_const {u k:Int} {a:List Term'} (h:polyOk u a=true) (k1:1≤k) (k2:k≤1000002):nfT (prods a (constT u k))=sclT k a:=by
 rw [constT_one k1,prods_one (polyOk_len' h)]
 exact nfT_self ((polyOk_canon h).scl k1 k2)
theorem degL_nonneg {l:List Int} (h:∀ x∈l,0≤x):∀ k,0≤degL l k:=by
 intro k
 induction k with
 | zero=>exact Int.le_refl _
 | succ k ih=>
  simp only [degL]
  have:0≤cf l k:=by
   by_cases hk:k<l.length
   ·have e:cf l k=l[k]:=by simp [cf,List.getD,hk]
    rw [e];exact h _ (List.getElem_mem hk)
   ·rw [cf_big (by omega)];exact Int.le_refl _
  omega
theorem degL_zero {l:List Int} (h:∀ x∈l,0≤x):∀ k,degL l k=0→∀ i,i<k→cf l i=0:=by
 intro k
 induction k with
 | zero=>intro _ i hi;omega
 | succ k ih=>
  intro hd i hi
  simp only [degL] at hd
  have h0:=degL_nonneg h k
  have h1:0≤cf l k:=by
   by_cases hk:k<l.length
   ·have e:cf l k=l[k]:=by simp [cf,List.getD,hk]
    rw [e];exact h _ (List.getElem_mem hk)
   ·rw [cf_big (by omega)];exact Int.le_refl _
  by_cases e:i=k
  ·subst e;omega
  ·exact ih (by omega) i (by omega)
theorem exps_nonneg {u:Int} {t:Term'} (h:termOk u t=true):∀ x∈t.1,0≤x:=fun x hx=>by
 have:=(termOk_parts h).2.2.2
 unfold termOk expsOk at h
 simp only [Bool.and_eq_true] at h
 have h2:=List.all_eq_true.1 h.2.1 x hx
 exact (inR_true.1 h2).1
theorem dg_zero {u:Int} {t:Term'} (h:termOk u t=true) (hd:dg t=0):t.1=zeroE u.toNat:=by
 have hl:=(termOk_parts h).1
 unfold zeroE
 refine List.ext_getElem (by rw [List.length_replicate];omega) fun i h1 h2=>?_
 have:=degL_zero (exps_nonneg h) _ hd i h1
 have e:cf t.1 i=t.1[i]:=by simp [cf,List.getD,h1]
 rw [List.getElem_replicate,←e,this]
theorem numT_none {u:Int} {ts:List Term'} (h:polyOk u ts=true):numT ts=none ↔ 0<mdgL ts ts.length:=by
 cases ts with
 | nil=>simp [numT,mdgL]
 | cons t r=>
  have ht:=polyOk_mem h (List.mem_cons_self ..)
  have hnn:∀ i,i<(t :: r).length→0≤dg (tmAt (t :: r) i):=fun i hi=>(dg_bd h hi).1
  cases r with
  | nil=>
   have h0:=mdgL_le [t] 1 0 (by omega)
   obtain ⟨i,hi,e⟩:=mdgL_ex [t] 1 (by omega) hnn
   obtain rfl:i=0:=by omega
   have e':tmAt [t] 0=t:=rfl
   rw [e'] at e h0
   simp only [numT,List.length_cons,List.length_nil,Nat.zero_add]
   have hd:=hnn 0 (by simp)
   rw [e'] at hd
   constructor
   ·intro hn
    split at hn
    ·cases hn
    ·omega
   ·intro hp
    rw [if_neg (by omega)]
  | cons t2 r=>
   refine ⟨fun _=>?_,fun _=>rfl⟩
   have ht2:=polyOk_mem h (List.mem_cons_of_mem _ (List.mem_cons_self ..))
   have h0:=mdgL_le (t :: t2 :: r) (t :: t2 :: r).length 0 (by simp)
   have h1:=mdgL_le (t :: t2 :: r) (t :: t2 :: r).length 1 (by simp)
   rw [show tmAt (t :: t2 :: r) 0=t from rfl] at h0
   rw [show tmAt (t :: t2 :: r) 1=t2 from rfl] at h1
   have d0:=hnn 0 (by simp)
   have d1:=hnn 1 (by simp)
   rw [show tmAt (t :: t2 :: r) 0=t from rfl] at d0
   rw [show tmAt (t :: t2 :: r) 1=t2 from rfl] at d1
   refine Decidable.byContradiction fun hn=>?_
   have e0:=dg_zero ht (by omega)
   have e1:=dg_zero ht2 (by omega)
   have:=(List.pairwise_cons.1 (polyOk_canon h).asc).1 t2 (List.mem_cons_self ..)
   exact lt_ne this (by rw [e0,e1])
theorem numT_some {u:Int} {ts:List Term'} (h:polyOk u ts=true) (hd:¬ 0<mdgL ts ts.length):numT ts=some (if ts.length=0 then 0 else (tmAt ts 0).2):=by
 cases hn:numT ts with
 | none=>exact absurd ((numT_none h).1 hn) hd
 | some m=>
  cases ts with
  | nil=>simp [numT] at hn;simp [hn]
  | cons t r=>
   cases r with
   | nil=>
    simp only [numT] at hn
    split at hn
    ·injection hn with hn;subst hn;rfl
    ·cases hn
   | cons t2 r=>simp [numT] at hn
theorem numT_bd {u:Int} {ts:List Term'} (h:polyOk u ts=true) {m:Int} (hn:numT ts=some m):0≤m∧m≤1000002:=by
 cases ts with
 | nil=>simp [numT] at hn;omega
 | cons t r=>
  cases r with
  | nil=>
   simp only [numT] at hn
   have hc:=(polyOk_canon h).coef t (List.mem_cons_self ..)
   split at hn
   ·injection hn with hn;omega
   ·cases hn
  | cons t2 r=>simp [numT] at hn
theorem limT_scl {u k:Int} {a:List Term'} {s:Nat} (h:polyOk u a=true) (k1:1≤k) (k2:k≤1000002):limT u (sclT k a) s=.ok (sclT k a) s:=by unfold limT;rw [if_pos (polyOk_scl h k1 k2)]
theorem zeroE_ok {u:Int} (h0:0≤u) (h1:u≤12):polyOk u (constT u 1000002)=true:=by
 have hz:∀ k,cf (zeroE u.toNat) k=0:=fun k=>by
  unfold zeroE cf
  by_cases hk:k<u.toNat
  ·simp [List.getD,hk]
  ·simp [List.getD,hk]
 have hd:∀ k,degL (zeroE u.toNat) k=0:=by
  intro k
  induction k with
  | zero=>rfl
  | succ k ih=>simp only [degL];rw [ih,hz];rfl
 rw [constT_one (by omega)]
 unfold polyOk
 simp only [List.length_cons,List.length_nil,polyUp,Bool.and_eq_true,decide_eq_true_eq]
 refine ⟨⟨inR_yes h0 h1,by omega⟩,trivial, ?_,by simp⟩
 show termOk u (zeroE u.toNat,1000002)=true
 unfold termOk
 simp only [Bool.and_eq_true,decide_eq_true_eq]
 refine ⟨⟨by unfold zeroE;simp;omega,inR_yes (by omega) (by omega)⟩,List.all_eq_true.2 fun y hy=>?_,by rw [hd];omega⟩
 unfold zeroE at hy
 rw [List.eq_of_mem_replicate hy];exact inR_yes (by omega) (by omega)
theorem iv_bd1 {n:Int} (h0:0≤n) (h1:n≤1000002) (hn:n≠0):1≤iv n∧iv n≤1000002:=by
 have hb:=iv_bd n
 have hr:rs n≠0:=by unfold rs;omega
 have hm:=iv_mul hr
 refine ⟨?_,hb.2⟩
 refine Decidable.byContradiction fun hz=>?_
 have e:iv n=0:=by omega
 rw [e] at hm
 unfold tm at hm
 simp at hm
end
section
open Plain
def unkE (n i:Nat):List Int:=(zeroE n).set i 1
def unkT (u:Int) (i:Nat):List Term':=[(unkE u.toNat i,1)]
def unkL (u:Int) (k:Nat):List (List Term'):=(List.range k).map (unkT u)
theorem unkE_length (n i:Nat):(unkE n i).length=n:=by unfold unkE zeroE;simp
theorem unkL_length (u:Int) (k:Nat):(unkL u k).length=k:=by unfold unkL;simp
theorem unkL_succ (u:Int) (k:Nat):unkL u (k+1)=unkL u k++[unkT u k]:=by unfold unkL;rw [List.range_succ,List.map_append];rfl
theorem unkE_mem {n i:Nat} {x:Int} (h:x∈unkE n i):x=0∨x=1:=by
 unfold unkE zeroE at h
 rcases List.mem_or_eq_of_mem_set h with h | h
 ·exact .inl (List.eq_of_mem_replicate h)
 ·exact .inr h
theorem unkE_deg (n i:Nat):∀ k,degL (unkE n i) k≤1∧(k≤i→degL (unkE n i) k=0):=by
 have hc:∀ k,k≠i→cf (unkE n i) k=0:=fun k hk=>by
  unfold unkE zeroE cf
  by_cases hl:k<n
  ·simp [List.getD,hl,Ne.symm hk]
  ·simp [List.getD,hl]
 have h1:cf (unkE n i) i≤1:=by
  by_cases hl:i<n
  ·unfold unkE zeroE cf;simp [List.getD,hl]
  ·rw [cf_big (by rw [unkE_length];omega)];omega
 intro k
 induction k with
 | zero=>exact ⟨by show (0:Int)≤1;omega,fun _=>rfl⟩
 | succ k ih=>
  simp only [degL]
  refine ⟨?_,fun hk=>?_⟩
  ·by_cases e:k=i
   ·subst e;rw [ih.2 (Nat.le_refl _)];omega
   ·rw [hc k e];have:=ih.1;omega
  ·rw [hc k (by omega),ih.2 (by omega)];rfl
theorem unkT_ok {u:Int} {i:Nat} (h0:0≤u) (h1:u≤12):polyOk u (unkT u i)=true:=by
 unfold polyOk unkT
 simp only [List.length_cons,List.length_nil,polyUp,Bool.and_eq_true,decide_eq_true_eq]
 refine ⟨⟨inR_yes h0 h1,by omega⟩,trivial, ?_,by simp⟩
 show termOk u (unkE u.toNat i,1)=true
 unfold termOk
 simp only [Bool.and_eq_true,decide_eq_true_eq]
 refine ⟨⟨by rw [unkE_length];omega,inR_yes (by omega) (by omega)⟩,List.all_eq_true.2 fun y hy=>?_,by have:=(unkE_deg u.toNat i u.toNat).1;rw [unkE_length];omega⟩
 rcases unkE_mem hy with h | h<;>rw [h]<;>exact inR_yes (by omega) (by omega)
end
section
open Plain
end
section
open Go.RowKit Plain
structure OnlyH (S:Nat→Prop) (w w':World):Prop where
 size:w.heap.size≤w'.heap.size
 block:∀ q,q<w.heap.size→¬ S q→w'.heap[q]? = w.heap[q]?
theorem Only.h {S:Nat→Prop} {w w':World} (h:Only S w w'):OnlyH S w w':=⟨h.size,h.block⟩
theorem OnlyH.refl (S:Nat→Prop) (w:World):OnlyH S w w:=⟨Nat.le_refl _,fun _ _ _=>rfl⟩
theorem OnlyH.trans {S:Nat→Prop} {a b c:World} (h:OnlyH S a b) (k:OnlyH S b c):OnlyH S a c:=⟨Nat.le_trans h.size k.size,fun q hq hn=>(k.block q (Nat.lt_of_lt_of_le hq h.size) hn).trans (h.block q hq hn)⟩
theorem OnlyH.sub {S T:Nat→Prop} {w w':World} (h:OnlyH S w w') (hs:∀ q,S q→T q):OnlyH T w w':=⟨h.size,fun k hk hn=>h.block k hk fun e=>hn (hs k e)⟩
def PAt (w:World) (S:Nat→Prop) (A:Option Addr) (ts:List Term'):Prop:=∀ w',OnlyH S w w'→TmsAt w' A ts
theorem PAt.only {w w':World} {S:Nat→Prop} {A:Option Addr} {ts:List Term'} (h:PAt w S A ts) (ho:Only S w w'):PAt w' S A ts:=fun w2 h2=>h w2 (ho.h.trans h2)
theorem PAt.now {w:World} {S:Nat→Prop} {A:Option Addr} {ts:List Term'} (h:PAt w S A ts):TmsAt w A ts:=h w (OnlyH.refl _ w)
theorem PAt.nil (w:World) (S:Nat→Prop) (A:Option Addr):PAt w S A []:=fun w' _=>TmsAt.nil w' A
theorem Only.sub {S T:Nat→Prop} {w w':World} (h:Only S w w') (hs:∀ q,S q→T q):Only T w w':=⟨h.os,h.tape,h.output,h.size,fun k hk hn=>h.block k hk fun e=>hn (hs k e)⟩
theorem PAt.sub {w:World} {S T:Nat→Prop} {A:Option Addr} {ts:List Term'} (h:PAt w T A ts) (hs:∀ q,S q→T q):PAt w S A ts:=fun w' ho=>h w' (ho.sub hs)
def privS (S:Nat→Prop) (g:Nat):Nat→Prop:=fun q=>S q∨q=g
theorem OnlyH.fresh {S:Nat→Prop} {w wa w':World} {g:Nat} (ho:OnlyH S w wa) (hg:w.heap.size≤g) (h2:OnlyH (privS S g) wa w'):OnlyH S w w':=
 ⟨Nat.le_trans ho.size h2.size,fun k hk hn=>(h2.block k (Nat.lt_of_lt_of_le hk ho.size) (fun e=>e.elim hn (fun e=>by omega))).trans (ho.block k hk hn)⟩
theorem PAt.fresh {w:World} {S:Nat→Prop} {A:Option Addr} {ts:List Term'} {g:Nat} (h:PAt w S A ts) (hg:w.heap.size≤g):PAt w (privS S g) A ts:=fun w' h2=>h w' ((OnlyH.refl S w).fresh hg h2)
def PolV (w:World) (S:Nat→Prop) (u:Int) (v:Value) (ts:List Term'):Prop:=∃ A cap,v=poV u A ts.length cap∧PAt w S A ts∧polyOk u ts=true
theorem polyOk_totT {u:Int} {ts:List Term'} (h:polyOk u ts=true):totT ts≤9223372036854775807:=by have:=(totT_valid h).2;omega
theorem PAt.of {w':World} {S:Nat→Prop} {lo hi:Nat} {A:Option Addr} {R:List Term'} (h:RT w' lo hi A R) (hm:totT R≤9223372036854775807) (hb:∀ q,S q→q<lo):PAt w' S A R:=fun w2 ho=>regTms ⟨h.le,Nat.le_trans h.size ho.size,h.keep _ _ h.now (fun q q1 q2=>ho.block q (Nat.lt_of_lt_of_le q2 h.size) fun e=>by have:=hb q e;omega),h.keep⟩ hm
theorem nilOk {u:Int} (h0:0≤u) (h1:u≤12):polyOk u []=true:=by
 unfold polyOk
 rw [inR_yes h0 h1]
 rfl
def PEnvR (w:World) (u:Int) (b o:Nat) (f:Nat→Option Addr×Nat) (env:List (List Term')):Prop:=
 0<env.length→b<w.heap.size∧∀ j ts,env[j]? = some ts→w.cell? ⟨b,o+j*2,none⟩=some (.int .i64 u)∧w.cell? ⟨b,o+j*2+1,none⟩=some (.slice (f j).1 ts.length (f j).2)∧TmsAt w (f j).1 ts
def PEnv (w:World) (S:Nat→Prop) (u:Int) (A:Option Addr) (env:List (List Term')):Prop:=(∀ ts∈env,polyOk u ts=true)∧∃ b o f,(0<env.length→A=some ⟨b,o,none⟩)∧∀ w',OnlyH S w w'→PEnvR w' u b o f env
theorem PEnv.only {w w':World} {S:Nat→Prop} {u:Int} {A:Option Addr} {env:List (List Term')} (h:PEnv w S u A env) (ho:Only S w w'):PEnv w' S u A env:=by
 obtain ⟨h1,b,o,f,hA,hf⟩:=h
 exact ⟨h1,b,o,f,hA,fun w2 h2=>hf w2 (ho.h.trans h2)⟩
theorem PEnv.sub {w:World} {S T:Nat→Prop} {u:Int} {A:Option Addr} {env:List (List Term')} (h:PEnv w T u A env) (hs:∀ q,S q→T q):PEnv w S u A env:=by
 obtain ⟨h1,b,o,f,hA,hf⟩:=h
 exact ⟨h1,b,o,f,hA,fun w2 h2=>hf w2 (h2.sub hs)⟩
theorem PEnv.fresh {w wa:World} {S:Nat→Prop} {u:Int} {A:Option Addr} {env:List (List Term')} {g:Nat} (h:PEnv w S u A env) (ho:Only S w wa) (hg:w.heap.size≤g):PEnv wa (privS S g) u A env:=by
 obtain ⟨h1,b,o,f,hA,hf⟩:=h
 exact ⟨h1,b,o,f,hA,fun w2 h2=>hf w2 (ho.h.fresh hg h2)⟩
theorem PEnv.get {w:World} {S:Nat→Prop} {u:Int} {A:Option Addr} {env:List (List Term')} (h:PEnv w S u A env) {j:Nat} {ts:List Term'} (hz:env[j]? = some ts) :
  ∃ b o Aj cj,A=some ⟨b,o,none⟩∧b<w.heap.size∧w.cell? ⟨b,o+j*2,none⟩=some (.int .i64 u)∧w.cell? ⟨b,o+j*2+1,none⟩=some (.slice Aj ts.length cj)∧PAt w S Aj ts∧polyOk u ts=true:=by
 obtain ⟨h1,b,o,f,hA,hf⟩:=h
 have h0:0<env.length:=by have:=(List.getElem?_eq_some_iff.1 hz).1;omega
 obtain ⟨hb,hc⟩:=hf w (OnlyH.refl _ _) h0
 exact ⟨b,o,(f j).1,(f j).2,hA h0,hb,(hc j ts hz).1,(hc j ts hz).2.1,fun w' ho=>((hf w' ho h0).2 j ts hz).2.2,h1 ts (List.mem_of_getElem? hz)⟩
theorem PEnv.get2 {w w1:World} {S:Nat→Prop} {u:Int} {A:Option Addr} {env:List (List Term')} (h:PEnv w S u A env) (ho:Only S w w1) {j:Nat} {ts:List Term'} (hz:env[j]? = some ts) :
  ∃ b o Aj cj,A=some ⟨b,o,none⟩∧b<w1.heap.size∧w1.cell? ⟨b,o+j*2,none⟩=some (.int .i64 u)∧w1.cell? ⟨b,o+j*2+1,none⟩=some (.slice Aj ts.length cj)∧PAt w S Aj ts∧polyOk u ts=true:=by
 obtain ⟨h1,b,o,f,hA,hf⟩:=h
 have h0:0<env.length:=by have:=(List.getElem?_eq_some_iff.1 hz).1;omega
 obtain ⟨hb,hc⟩:=hf w1 ho.h h0
 exact ⟨b,o,(f j).1,(f j).2,hA h0,hb,(hc j ts hz).1,(hc j ts hz).2.1,fun w' ho=>((hf w' ho h0).2 j ts hz).2.2,h1 ts (List.mem_of_getElem? hz)⟩
def PPost (S:Nat→Prop) (bv:Nat) (u:Int) (t:TypeId) (hd:List Value) (r:Res (List Term')) (w:World) (e:Ending) (w':World):Prop:=
 ∃ v ts s' c',e=.returned v∧PolV w' S u v ts∧Cells w' bv t (hd++[.int .i64 s',.int .i64 c'])∧Only (fun q=>q=bv) w w'∧ResIs r ts s' c'
def PsPost (S:Nat→Prop) (bv:Nat) (u:Int) (len:Nat) (t:TypeId) (hd:List Value) (r:Res (List (List Term'))) (w:World) (e:Ending) (w':World):Prop:=
 ∃ A cp tss s' c',e=.returned (.slice A len cp)∧tss.length=len∧len≤cp∧cp≤maxLen∧PEnv w' S u A tss∧Cells w' bv t (hd++[.int .i64 s',.int .i64 c'])∧Only (fun q=>q=bv) w w'∧ResIs r tss s' c'
noncomputable def pvC (u:Int) (P:List Fn) (f:Nat) (c0:Int) (x:Nd) (env:List (List Term')) (s:Nat):Res (List Term'):=if c0=0 then pv u P f x env s else .err c0
noncomputable def pvAC (u:Int) (P:List Fn) (f:Nat) (c0:Int) (es:Es) (env:List (List Term')) (s:Nat):Res (List (List Term')):=if c0=0 then pvAll (pv u P f) env es s else .err c0
abbrev hdP (u:Int) (P:List Fn) (PA:Option Addr) (pcap:Nat):List Value:=[.slice PA P.length pcap,.int .i64 u]
theorem PPost.box {w w1:World} {S:Nat→Prop} {bv g:Nat} {u:Int} {t:TypeId} {hd:List Value} {r:Res (List Term')} {A:Option Addr} {cap:Nat} {ts:List Term'} {s' c':Int} (hP:PAt w1 (privS S g) A ts) (hok:polyOk u ts=true) (hst:Cells w1 bv t (hd++[.int .i64 s',.int .i64 c'])) (ho:Only (fun q=>q=bv) w w1) (hr:ResIs r ts s' c') (hg:w.heap.size≤g) (hb:bv<w.heap.size) (x y:Value) :
  PPost S bv u t hd r w (.returned (poV u A ts.length cap)) ((w1.setCell ⟨g,0,none⟩ x).setCell ⟨g,1,none⟩ y):=by
 have ho2:Only (fun q=>q=g) w1 ((w1.setCell ⟨g,0,none⟩ x).setCell ⟨g,1,none⟩ y):=⟨rfl,rfl,rfl,by simp [World.setCell],fun q _ hq=>(Below.heap_setCell _ _ _ _ hq).trans (Below.heap_setCell _ _ _ _ hq)⟩
 have h1:PAt ((w1.setCell ⟨g,0,none⟩ x).setCell ⟨g,1,none⟩ y) (privS S g) A ts:=hP.only (ho2.sub fun q e=>.inr e)
 exact ⟨_,ts,s',c',rfl,⟨A,cap,rfl,h1.sub (fun q e=>.inl e),hok⟩,(ho2.block bv (Nat.lt_of_lt_of_le hb ho.size) (by omega)).trans hst,ho.chain ho2 (fun q hq e=>by omega),hr⟩
theorem failI_any (P:List Fn) (u c0 s c:Int) (S:Nat→Prop) (bv pcap:Nat) (PA:Option Addr) (w:World) (hst:Cells w bv 168 (hdP u P PA pcap++[.int .i64 s,.int .i64 c0])) (h0:0≤u) (h1:u≤12) :
  Calls Tryz.prog 232 #[.pointer (some ⟨bv,0,none⟩),.int .i64 c] w (PPost S bv u 168 (hdP u P PA pcap) (.err (if c0=0 then c else c0)) w):=by
 have al:=hst.lt
 have a1:w.cell? ⟨bv,1,none⟩=some (.int .i64 u):=by rw [hst.cell];rfl
 have a3:w.cell? ⟨bv,3,none⟩=some (.int .i64 c0):=by rw [hst.cell];rfl
 have z3:w.frozen? ⟨bv,3,none⟩=false:=hst.frozen _
 have HST:=hid hst
 have HN:=hid (nilOk h0 h1)
 clear hst
 by_cases hc:c0=0
 ·have hc1:(c0==0)=true:=by simpa using hc
  have hc2:Hid (Cells (w.setCell ⟨bv,3,none⟩ (.int .i64 c)) bv 168 (hdP u P PA pcap++[.int .i64 s,.int .i64 c])):=HST.out.set_ 3 (.int .i64 c)
  rw [if_pos hc]
  clear hc
  go_enter Tryz.func232,Tryz.ntmps232
  go_wp2
  refine bodyPost_ret (v:=poV u none 0 0) (by simp [results,Tryz.results232,go_sem]) rfl ?_
  have hg:Below (w.setCell ⟨bv,3,none⟩ (.int .i64 c)).heap.size (w.setCell ⟨bv,3,none⟩ (.int .i64 c)) ((w.setCell ⟨bv,3,none⟩ (.int .i64 c)).alloc (.cells #[.int .i64 u,.slice none 0 0] 86)):=by go_grown
  have ho:Only (fun q=>q=bv) w (w.setCell ⟨bv,3,none⟩ (.int .i64 c)):=⟨rfl,rfl,rfl,by simp [World.setCell],fun q _ hq=>Below.heap_setCell _ _ _ _ hq⟩
  exact ⟨_,[],s,c,rfl,⟨none,0,rfl,PAt.nil _ _ _,HN.out⟩,hc2.out.next hg,ho.trans (Only.of_below hg),rfl⟩
 ·have hc1:(c0==0)=false:=by simpa using hc
  rw [if_neg hc]
  clear hc
  go_enter Tryz.func232,Tryz.ntmps232
  go_wp2
  refine bodyPost_ret (v:=poV u none 0 0) (by simp [results,Tryz.results232,go_sem]) rfl ?_
  have hg:Below w.heap.size w (w.alloc (.cells #[.int .i64 u,.slice none 0 0] 86)):=by go_grown
  exact ⟨_,[],s,c0,rfl,⟨none,0,rfl,PAt.nil _ _ _,HN.out⟩,HST.out.next hg,Only.of_below hg,rfl⟩
def CoPost (ts:List Term') (w:World) (e:Ending) (w':World):Prop:=e=.returned (.tuple #[.int .i64 ((numT ts).getD 0),.bool (numT ts).isSome])∧Below w.heap.size w w'
theorem polyOk_l120 {u:Int} {ts:List Term'} (h:polyOk u ts=true):ts.length≤120:=(polyOk_size h).2.2
theorem co_cells {w w1:World} {u:Int} {b o cap:Nat} {tc:Int} (_hb:b<w.heap.size) (h1:w.cell? ⟨b,o+1,none⟩=some (.int .i64 tc)) (hb1:Below (w.alloc (.cells #[.int .i64 u,.slice (some ⟨b,o,none⟩) 1 cap] 86)).heap.size (w.alloc (.cells #[.int .i64 u,.slice (some ⟨b,o,none⟩) 1 cap] 86)) w1) :
  w1.cell? ⟨w.heap.size,0,none⟩=some (.int .i64 u)∧w1.cell? ⟨w.heap.size,1,none⟩=some (.slice (some ⟨b,o,none⟩) 1 cap)∧w1.cell? ⟨b,o+1,none⟩=some (.int .i64 tc):=by
 have hq:=(Cells.new w 86 [.int .i64 u,.slice (some ⟨b,o,none⟩) 1 cap]).next hb1
 have hbb:Below w.heap.size w w1:=Below.trans (by go_grown) (hb1.mono (by simp))
 exact ⟨by rw [hq.cell];rfl,by rw [hq.cell];rfl,keepC h1 hbb⟩
theorem constI'_any (u:Int) (A:Option Addr) (cap:Nat) (ts:List Term') (w:World) (hT:TmsAt w A ts) (hok:polyOk u ts=true) :
  Calls Tryz.prog 265 #[poV u A ts.length cap] w (CoPost ts w):=by
 have hlen:=polyOk_l120 hok
 cases ts with
 | nil=>
  go_enter Tryz.func265,Tryz.ntmps265
  go_wp2
  go_ret2
  exact ⟨rfl,by go_grown⟩
 | cons t r=>
  cases r with
  | nil=>
   obtain ⟨b,o,rfl,hb,hc⟩:=hT (by simp)
   obtain ⟨A1,c1,h0,h1,hI,hl⟩:=hc 0 t rfl
   have hto:=termOk_parts (polyOk_mem hok (List.mem_cons_self ..))
   have hus:=polyOk_size hok
   rw [Nat.zero_mul,Nat.add_zero] at h0 h1
   have HD:Hid (∀ wx,Below w.heap.size w wx→Calls Tryz.prog 280 #[.agg #[.slice A1 t.1.length c1,.int .i64 t.2]] wx fun e w'=>e=.returned (.int .i64 (dg t))∧Below wx.heap.size wx w'):=fun wx hbx=>degree_any A1 c1 t.1 t.2 wx (hI.below hbx) (by omega) hto.2.2.2.1
   obtain ⟨tl,htl⟩:∃ tl,tl=t.1.length:=⟨_,rfl⟩
   rw [←htl] at h0 HD
   obtain ⟨tc,htc⟩:∃ tc,tc=t.2:=⟨_,rfl⟩
   rw [←htc] at h1 HD
   have HTC:=hid htc
   clear htl htc hc hI hl hto hT
   by_cases hd:dg t=0
   ·have hdb:(dg t==0)=true:=by simpa using hd
    have HN:Hid (numT [t]=some tc):=by show _=_;simp only [numT];rw [if_pos hd,HTC.out]
    clear hd
    go_enter Tryz.func265,Tryz.ntmps265
    go_wp2_with fail
    refine (HD.out _ (by go_grown)).mono ?_;rintro e w1 ⟨rfl,hb1⟩
    obtain ⟨hq1,hq2,hq3⟩:=co_cells (b:=b) (o:=o) hb h1 hb1
    have HBB:Hid (Below w.heap.size w w1):=Below.trans (by go_grown) (hb1.mono (by simp))
    clear hb1
    go_wp2
    go_ret2
    exact ⟨by rw [HN.out];rfl,HBB.out⟩
   ·have hdb:(dg t==0)=false:=by simpa using hd
    have HN:Hid (numT [t]=none):=by show _=_;simp only [numT];rw [if_neg hd]
    clear hd
    go_enter Tryz.func265,Tryz.ntmps265
    go_wp2_with fail
    refine (HD.out _ (by go_grown)).mono ?_;rintro e w1 ⟨rfl,hb1⟩
    obtain ⟨hq1,hq2,hq3⟩:=co_cells (b:=b) (o:=o) hb h1 hb1
    have HBB:Hid (Below w.heap.size w w1):=Below.trans (by go_grown) (hb1.mono (by simp))
    clear hb1
    go_wp2
    go_ret2
    exact ⟨by rw [HN.out];rfl,HBB.out⟩
  | cons t2 r=>
   have HN:Hid (numT (t :: t2 :: r)=none):=rfl
   obtain ⟨N,hN⟩:∃ N,N=(t :: t2 :: r).length:=⟨_,rfl⟩
   rw [←hN] at hlen ⊢
   have hN2:2≤N:=by simp at hN;omega
   have z0:((N:Int)==0)=false:=by simp;omega
   have z1:((N:Int)==1)=false:=by simp;omega
   clear hN hT
   go_enter Tryz.func265,Tryz.ntmps265
   go_wp2
   go_ret2
   exact ⟨by rw [HN.out];rfl,by go_grown⟩
end
section
open Go.RowKit Plain
def NuPost (bv:Nat) (ts:List Term') (t:TypeId) (hd:List Value) (s c0:Int) (w:World) (e:Ending) (w':World):Prop:=
 ∃ n s' c',e=.returned (.int .i64 n)∧Cells w' bv t (hd++[.int .i64 s',.int .i64 c'])∧Only (fun q=>q=bv) w w'∧(match numT ts with | some m=>n=m∧s'=s∧c'=c0 | none=>n=0∧c'=if c0=0 then 4 else c0)
theorem numberI_any (P:List Fn) (u c0 s:Int) (S:Nat→Prop) (bv pcap cap:Nat) (PA A:Option Addr) (ts:List Term') (w:World) (hst:Cells w bv 168 (hdP u P PA pcap++[.int .i64 s,.int .i64 c0])) (hT:PAt w S A ts) (hok:polyOk u ts=true) :
  Calls Tryz.prog 233 #[.pointer (some ⟨bv,0,none⟩),poV u A ts.length cap] w (NuPost bv ts 168 (hdP u P PA pcap) s c0 w):=by
 have hus:=polyOk_size hok
 have hg:Below w.heap.size w (w.alloc (.cells #[.int .i64 u,.slice A ts.length cap] 86)):=by go_grown
 have HC:=hid (constI'_any u A cap ts (w.alloc (.cells #[.int .i64 u,.slice A ts.length cap] 86)) (hT.now.below hg) hok)
 have HST:=hid (hst.next hg)
 have HG:=hid hg
 clear hst hT hok hg
 go_enter Tryz.func233,Tryz.ntmps233
 go_wp2_with fail
 refine HC.out.mono ?_;rintro e w1 ⟨rfl,hb1⟩
 have HST1:=hid (HST.out.next hb1)
 have HO1:Hid (Only (fun q=>q=bv) w w1):=(Only.of_below HG.out).trans (Only.of_below hb1)
 clear hb1 HC
 cases hn:numT ts with
 | some m=>
  have HR:Hid (NuPost bv ts 168 (hdP u P PA pcap) s c0 w (.returned (.int .i64 m)) w1):=⟨m,s,c0,rfl,HST1.out,HO1.out,by rw [hn];exact ⟨rfl,rfl,rfl⟩⟩
  clear hn
  go_wp2
  go_ret
  exact HR.out
 | none=>
  have HF:=hid (failI_any P u c0 s 4 S bv pcap PA w1 HST1.out hus.1 hus.2.1)
  have HN:=hid hn
  clear hn
  go_wp2_with fail
  refine HF.out.mono ?_;rintro e w2 ⟨v,zs,s',c',rfl,_,h3,h4,h5⟩
  have HR:Hid (NuPost bv ts 168 (hdP u P PA pcap) s c0 w (.returned (.int .i64 0)) w2):=⟨0,s',c',rfl,h3,HO1.out.trans h4,by rw [HN.out];exact ⟨rfl,h5⟩⟩
  clear h3 h4 h5 HF
  go_wp2
  go_ret
  exact HR.out
theorem validI_any (P:List Fn) (u:Int) (s:Nat) (S:Nat→Prop) (bv pcap cap:Nat) (PA A:Option Addr) (R:List Term') (w:World) (hst:Cells w bv 168 (hdP u P PA pcap++[.int .i64 s,.int .i64 0])) (hT:PAt w S A R) (h0:0≤u) (h1:u≤12) (hl:R.length≤1048576) (ht:totT R≤1048576) :
  Calls Tryz.prog 235 #[.pointer (some ⟨bv,0,none⟩),poV u A R.length cap] w (PPost S bv u 168 (hdP u P PA pcap) (limT u R s) w):=by
 obtain ⟨W0,hW0⟩:∃ W0,W0=(w.alloc (.cells #[.int .i64 u,.slice A R.length cap] 86)).alloc (.cells #[.int .i64 0,.slice none 0 0] 86):=⟨_,rfl⟩
 have hg:Below w.heap.size w W0:=by rw [hW0];go_grown
 have hq1:Cells W0 w.heap.size 86 [.int .i64 u,.slice A R.length cap]:=by rw [hW0];exact (Cells.new w 86 _).next (by go_grown)
 have hq2:Cells W0 (w.heap.size+1) 86 [.int .i64 0,.slice none 0 0]:=by
  rw [hW0]
  have:=Cells.new (w.alloc (.cells #[.int .i64 u,.slice A R.length cap] 86)) 86 [.int .i64 0,.slice none 0 0]
  simpa using this
 have HC:=hid (polyI_any u A cap R W0 (hT.now.below hg) hl ht)
 have HST:=hid (hst.next hg)
 have HP:=hid ((hT.fresh (g:=w.heap.size+1) (by omega)).only (Only.of_below hg))
 have HG:=hid hg
 have HQ1:=hid hq1
 have HQ2:=hid hq2
 have HW0:=hid hW0
 have al:=hst.lt
 clear hst hT hg hq1 hq2 hW0
 go_enter Tryz.func235,Tryz.ntmps235
 go_wp2_with fail
 rw [←HW0.out]
 refine HC.out.mono ?_;rintro e w1 ⟨rfl,hb1⟩
 have HST1:=hid (HST.out.next hb1)
 have HP1:=hid (HP.out.only (Only.of_below hb1))
 have HG1:Hid (Below w.heap.size w w1):=HG.out.trans (hb1.mono HG.out.size)
 have HQ1':=hid (HQ1.out.next hb1)
 have HQ2':=hid (HQ2.out.next hb1)
 clear hb1 HC
 cases hv:polyOk u R with
 | true=>
  have HV:=hid hv
  clear hv
  have j0:w1.cell? ⟨w.heap.size,0,none⟩=some (.int .i64 u):=by rw [HQ1'.out.cell];rfl
  have j1:w1.cell? ⟨w.heap.size,1,none⟩=some (.slice A R.length cap):=by rw [HQ1'.out.cell];rfl
  have k0:w1.cell? ⟨w.heap.size+1,0,none⟩=some (.int .i64 0):=by rw [HQ2'.out.cell];rfl
  have k1:w1.cell? ⟨w.heap.size+1,1,none⟩=some (.slice none 0 0):=by rw [HQ2'.out.cell];rfl
  have f0:w1.frozen? ⟨w.heap.size+1,0,none⟩=false:=HQ2'.out.frozen _
  have f1:w1.frozen? ⟨w.heap.size+1,1,none⟩=false:=HQ2'.out.frozen _
  have d1:=HQ2'.out.set_ 0 (.int .i64 u)
  have d2:=d1.set_ 1 (.slice A R.length cap)
  have x0:=d1.cell 0
  have x1:=d2.cell 1
  simp only [List.set_cons_zero,List.set_cons_succ,List.getElem?_cons_zero,List.getElem?_cons_succ] at x0 x1
  have HE:Hid (PPost S bv u 168 (hdP u P PA pcap) (limT u R s) w (.returned (poV u A R.length cap)) ((w1.setCell ⟨w.heap.size+1,0,none⟩ (.int .i64 u)).setCell ⟨w.heap.size+1,1,none⟩ (.slice A R.length cap))):=
   PPost.box HP1.out HV.out HST1.out (Only.of_below HG1.out) (by unfold limT;rw [if_pos HV.out];exact ⟨rfl,rfl,rfl⟩) (by omega) al _ _
  clear d1 d2
  go_wp2
  refine bodyPost_ret (v:=poV u A R.length cap) (by simp [results,Tryz.results235,go_sem,x0,x1]) rfl ?_
  exact HE.out
 | false=>
  have HV:=hid hv
  clear hv
  have HF:=hid (failI_any P u 0 s 3 (privS S (w.heap.size+1)) bv pcap PA w1 HST1.out h0 h1)
  go_wp2_with fail
  refine HF.out.mono ?_;rintro e w2 ⟨v,zs,s',c',rfl,⟨A2,c2,rfl,hp2,hk2⟩,h3,h4,h5⟩
  have hq2:Cells w2 (w.heap.size+1) 86 [.int .i64 0,.slice none 0 0]:=(h4.block _ HQ2'.out.lt (by omega)).trans HQ2'.out
  have k0:w2.cell? ⟨w.heap.size+1,0,none⟩=some (.int .i64 0):=by rw [hq2.cell];rfl
  have k1:w2.cell? ⟨w.heap.size+1,1,none⟩=some (.slice none 0 0):=by rw [hq2.cell];rfl
  have f0:w2.frozen? ⟨w.heap.size+1,0,none⟩=false:=hq2.frozen _
  have f1:w2.frozen? ⟨w.heap.size+1,1,none⟩=false:=hq2.frozen _
  have d1:=hq2.set_ 0 (.int .i64 u)
  have d2:=d1.set_ 1 (.slice A2 zs.length c2)
  have x0:=d1.cell 0
  have x1:=d2.cell 1
  simp only [List.set_cons_zero,List.set_cons_succ,List.getElem?_cons_zero,List.getElem?_cons_succ] at x0 x1
  have HE:Hid (PPost S bv u 168 (hdP u P PA pcap) (limT u R s) w (.returned (poV u A2 zs.length c2)) ((w2.setCell ⟨w.heap.size+1,0,none⟩ (.int .i64 u)).setCell ⟨w.heap.size+1,1,none⟩ (.slice A2 zs.length c2))):=
   PPost.box hp2 hk2 h3 ((Only.of_below HG1.out).trans h4) (by unfold limT;rw [if_neg (by rw [HV.out];simp)];exact h5) (by omega) al _ _
  clear d1 d2 hq2 hp2 h3 h4 h5
  go_wp2
  refine bodyPost_ret (v:=poV u A2 zs.length c2) (by simp [results,Tryz.results235,go_sem,x0,x1]) rfl ?_
  exact HE.out
end
section
open Go.RowKit Plain
theorem zeroE_map (n:Nat):(zeroE n).map (Value.int .i64)=List.replicate n (.int .i64 0):=by unfold zeroE;rw [List.map_replicate]
theorem inB_at {n g q:Nat} (h:InB n (some ⟨g,0,none⟩) q):q=g:=by
 obtain ⟨_,o,e⟩:=h
 injection e with e
 injection e with e
 exact e.symm
theorem const_nf (u n:Int) (n0:0≤n) (n1:n≤1000002):nfT [(zeroE u.toNat,n)]=constT u n:=by
 refine (nfT_eq ?_ fun e=>?_).symm
 ·unfold constT
  split
  ·exact Canon.nil
  ·exact ⟨List.pairwise_singleton _ _,fun t ht=>by rw [List.mem_singleton.1 ht];exact ⟨by show 1≤n;omega,n1⟩⟩
 ·unfold constT
  split
  ·rename_i h;subst h;rw [cof_one _ _ (by omega) (by omega)];simp [cof]
  ·rfl
theorem constantPoly_any (u n:Int) (w:World) (h0:0≤u) (h1:u≤12) (n0:0≤n) (n1:n≤1000002) :
  Calls Tryz.prog 135 #[.int .i64 u,.int .i64 n] w (PolyR u (constT u n) w):=by
 obtain ⟨un,rfl⟩:∃ m:Nat,u=m:=⟨u.toNat,by omega⟩
 have hun:un≤12:=by omega
 have hmk:=run_make_row' (P:=Tryz.prog) 28 2 (.int .i64 0) 8 Tryz.underlying28 Tryz.infoI rfl .i64 .i64 un (by omega) (by omega)
 obtain ⟨Z,hZ⟩:∃ Z,Z=madeCells #[Value.int .i64 0] un:=⟨_,rfl⟩
 rw [←hZ] at hmk
 have HZ:Hid (Z=((zeroE un).map (Value.int .i64)).toArray):=by show _=_;rw [hZ,madeCells_one,zeroE_map]
 clear hZ
 obtain ⟨W3,hW3⟩:∃ W3,W3=((w.alloc (.cells #[.int .i64 0,.slice none 0 0] 86)).alloc (.cells Z 2)).alloc (.cells #[.slice (some ⟨w.heap.size+1,0,none⟩) un un,.int .i64 n] 173):=⟨_,rfl⟩
 have hb3:Below w.heap.size w W3:=by rw [hW3];go_grown
 have hs3:W3.heap.size=w.heap.size+3:=by rw [hW3];simp
 have hq0:Cells W3 w.heap.size 86 [.int .i64 0,.slice none 0 0]:=by rw [hW3];exact (Cells.new w 86 _).next (by go_grown)
 have hq1:Cells W3 (w.heap.size+1) 2 ((zeroE un).map (Value.int .i64)):=by
  rw [hW3,HZ.out]
  have:=(Cells.new (w.alloc (.cells #[.int .i64 0,.slice none 0 0] 86)) 2 ((zeroE un).map (Value.int .i64))).next (w':=(((w.alloc (.cells #[.int .i64 0,.slice none 0 0] 86)).alloc (.cells ((zeroE un).map (Value.int .i64)).toArray 2)).alloc (.cells #[.slice (some ⟨w.heap.size+1,0,none⟩) un un,.int .i64 n] 173))) (by go_grown)
  simpa using this
 have hq2:Cells W3 (w.heap.size+2) 173 [.slice (some ⟨w.heap.size+1,0,none⟩) un un,.int .i64 n]:=by
  rw [hW3]
  have:=Cells.new ((w.alloc (.cells #[.int .i64 0,.slice none 0 0] 86)).alloc (.cells Z 2)) 173 [.slice (some ⟨w.heap.size+1,0,none⟩) un un,.int .i64 n]
  simpa using this
 have hlen:(zeroE un).length=un:=List.length_replicate
 have hrow:RowO W3 W3.heap.size (some ⟨w.heap.size+2,0,none⟩) un [(zeroE un,n)]:=fun _=>by
  refine ⟨w.heap.size+2,rfl,by omega,fun i t ht=>?_⟩
  cases i with
  | zero=>
   simp only [List.getElem?_cons_zero,Option.some.injEq] at ht
   subst ht
   refine ⟨some ⟨w.heap.size+1,0,none⟩,un,by rw [hq2.cell];simp [hlen],by rw [hq2.cell];rfl,hq2.frozen _,hq2.frozen _,⟨fun _=>⟨w.heap.size+1,0,rfl,by omega,fun j x hx=>?_⟩,fun q hq=>?_,hlen⟩⟩
   ·rw [Nat.zero_add,hq1.cell,List.getElem?_map,hx];rfl
   ·have:=inB_at hq
    omega
  | succ i=>simp at ht
 have HG:=hid (gathered_any un (some ⟨w.heap.size+2,0,none⟩) 1 un [(zeroE un,n)] W3 (by simp) (by omega) hrow)
 have HB3:=hid hb3
 have HQ0:=hid hq0
 have HW3:=hid hW3
 have HS3:=hid hs3
 clear hq0 hq1 hq2 hrow hb3 hW3 hs3
 go_enter Tryz.func135,Tryz.ntmps135
 go_wp2_with fail
 rw [←HW3.out]
 refine HG.out.mono ?_;rintro e w4 ⟨A',cap',ts',rfl,hRT,hcan,hcof,_,_,hO⟩
 have hbo:Below w.heap.size W3 w4:=hO.below (by have:=HS3.out;omega) (fun k hk=>by have:=inB_at hk;omega)
 have hq4:Cells w4 w.heap.size 86 [.int .i64 0,.slice none 0 0]:=(hO.block _ HQ0.out.lt (fun hk=>by have:=inB_at hk;omega)).trans HQ0.out
 have hs4:=hO.size
 obtain rfl:ts'=constT un n:=by rw [nfT_eq hcan hcof];exact const_nf un n n0 n1
 have k0:w4.cell? ⟨w.heap.size,0,none⟩=some (.int .i64 0):=by rw [hq4.cell];rfl
 have k1:w4.cell? ⟨w.heap.size,1,none⟩=some (.slice none 0 0):=by rw [hq4.cell];rfl
 have f0:w4.frozen? ⟨w.heap.size,0,none⟩=false:=hq4.frozen _
 have f1:w4.frozen? ⟨w.heap.size,1,none⟩=false:=hq4.frozen _
 have d1:=hq4.set_ 0 (.int .i64 un)
 have d2:=d1.set_ 1 (.slice A' (constT un n).length cap')
 have x0:=d1.cell 0
 have x1:=d2.cell 1
 simp only [List.set_cons_zero,List.set_cons_succ,List.getElem?_cons_zero,List.getElem?_cons_succ] at x0 x1
 have HE:Hid (PolyR un (constT un n) w (.returned (poV un A' (constT un n).length cap')) ((w4.setCell ⟨w.heap.size,0,none⟩ (.int .i64 un)).setCell ⟨w.heap.size,1,none⟩ (.slice A' (constT un n).length cap'))):=by
  have hO2:Only (fun q=>q=w.heap.size) w4 ((w4.setCell ⟨w.heap.size,0,none⟩ (.int .i64 un)).setCell ⟨w.heap.size,1,none⟩ (.slice A' (constT un n).length cap')):=⟨rfl,rfl,rfl,by simp [World.setCell],fun q _ hq=>(Below.heap_setCell _ _ _ _ hq).trans (Below.heap_setCell _ _ _ _ hq)⟩
  have h2:=hRT.only hO2 (fun q hq _ e=>by have e':q=w.heap.size:=e;have:=HS3.out;omega)
  have hsz:((w4.setCell ⟨w.heap.size,0,none⟩ (.int .i64 un)).setCell ⟨w.heap.size,1,none⟩ (.slice A' (constT un n).length cap')).heap.size=w4.heap.size:=by simp [World.setCell]
  refine ⟨A',cap',rfl,RT.lowerR h2 (by have:=HS3.out;omega) (by rw [hsz];exact Nat.le_refl _),((HB3.out.trans hbo).setCell (p:=⟨w.heap.size,0,none⟩) (Nat.le_refl _) _).setCell (p:=⟨w.heap.size,1,none⟩) (Nat.le_refl _) _⟩
 clear d1 d2 hq4 hRT hcan hcof hO hbo
 go_wp2
 refine bodyPost_ret (v:=poV un A' (constT un n).length cap') (by simp [results,Tryz.results135,go_sem,x0,x1]) rfl ?_
 exact HE.out
end
section
open Go.RowKit Plain
structure NdInP (w:World) (B:Nat) (S:Nat→Prop) (u:Int) (P:List Fn) (fn:Int) (x:Nd) (K:Option Addr) (cap:Nat) (A:Option Addr) (env:List (List Term')) (ecap:Nat):Prop where
 kids:ExSl w B x.ks K
 kl:x.ks.len≤cap
 km:cap≤maxLen
 envA:PEnv w S u A env
 el:env.length≤ecap
 em:ecap≤maxLen
 big:env.length+x.ks.depth≤1000000
 size:x.ks.size≤400
 form:formed P fn env.length x=true
 f0:0≤fn
 f1:fn≤P.length
structure SIn (w:World) (B:Nat) (S:Nat→Prop) (bv:Nat) (u:Int):Prop where
 bv:S bv
 lt:∀ q,S q→q<w.heap.size
 ge:True
 u0:0≤u
 u1:u≤12
theorem SIn.fresh {w wa:World} {B:Nat} {S:Nat→Prop} {bv g:Nat} {u:Int} (h:SIn w B S bv u) (hs:w.heap.size≤wa.heap.size) (_hg:w.heap.size≤g) (hg2:g<wa.heap.size) (_hB:B≤w.heap.size):SIn wa B (privS S g) bv u:=
 ⟨.inl h.bv,fun q e=>e.elim (fun e=>Nat.lt_of_lt_of_le (h.lt q e) hs) (fun e=>by omega),trivial,h.u0,h.u1⟩
def PolyC (P:List Fn) (u:Int) (f:Nat):Prop:=∀ (x:Nd) (env:List (List Term')) (s:Int) (t:Nat) (c0 fn:Int) (K:Option Addr) (cap B:Nat) (S:Nat→Prop) (bv:Nat) (A PA:Option Addr) (ecap pcap:Nat) (w:World),EvIn w B bv 1 P PA pcap→SIn w B S bv u→Cells w bv 168 (hdP u P PA pcap++[.int .i64 s,.int .i64 c0])→(c0=0→s=(t:Int)∧t≤3000∧3001≤t+f) →
 NdInP w B S u P fn x K cap A env ecap →
 Calls Tryz.prog 176 #[.pointer (some ⟨bv,0,none⟩),exV x.k x.n x.p x.c K x.ks.len cap,.slice A env.length ecap] w (PPost S bv u 168 (hdP u P PA pcap) (pvC u P f c0 x env t) w)
theorem polyEnd {w w1:World} {S:Nat→Prop} {bv:Nat} {u:Int} {hd:List Value} {r:Res (List Term')} {A:Option Addr} {cap:Nat} {ts:List Term'} {s' c':Int} (hP:PAt w1 (privS S (w.heap.size+1)) A ts) (hok:polyOk u ts=true) (hst:Cells w1 bv 168 (hd++[.int .i64 s',.int .i64 c'])) (ho:Only (fun q=>q=bv) w w1) (hr:ResIs r ts s' c') (hb:bv<w.heap.size)
  (hq:Cells w1 (w.heap.size+1) 86 [.int .i64 0,.slice none 0 0]) :
  (w1.cell? ⟨w.heap.size+1,0,none⟩=some (.int .i64 0)∧w1.cell? ⟨w.heap.size+1,1,none⟩=some (.slice none 0 0)∧w1.frozen? ⟨w.heap.size+1,0,none⟩=false∧w1.frozen? ⟨w.heap.size+1,1,none⟩=false) ∧
  ((w1.setCell ⟨w.heap.size+1,0,none⟩ (.int .i64 u)).cell? ⟨w.heap.size+1,0,none⟩=some (.int .i64 u)∧((w1.setCell ⟨w.heap.size+1,0,none⟩ (.int .i64 u)).setCell ⟨w.heap.size+1,1,none⟩ (.slice A ts.length cap)).cell? ⟨w.heap.size+1,1,none⟩=some (.slice A ts.length cap)) ∧
  PPost S bv u 168 hd r w (.returned (poV u A ts.length cap)) ((w1.setCell ⟨w.heap.size+1,0,none⟩ (.int .i64 u)).setCell ⟨w.heap.size+1,1,none⟩ (.slice A ts.length cap)):=by
 have d1:=hq.set_ 0 (.int .i64 u)
 have d2:=d1.set_ 1 (.slice A ts.length cap)
 have x0:=d1.cell 0
 have x1:=d2.cell 1
 simp only [List.set_cons_zero,List.set_cons_succ,List.getElem?_cons_zero,List.getElem?_cons_succ] at x0 x1
 exact ⟨⟨by rw [hq.cell];rfl,by rw [hq.cell];rfl,hq.frozen _,hq.frozen _⟩,⟨x0,x1⟩,PPost.box hP hok hst ho hr (by omega) hb _ _⟩
theorem poly_dead (P:List Fn) (x:Nd) (env:List (List Term')) (s c0 u:Int) (K:Option Addr) (cap B bv:Nat) (S:Nat→Prop) (A PA:Option Addr) (ecap pcap:Nat) (w:World) (hI:EvIn w B bv 1 P PA pcap) (hS:SIn w B S bv u) (hst:Cells w bv 168 (hdP u P PA pcap++[.int .i64 s,.int .i64 c0])) (hc:c0≠0) :
  Calls Tryz.prog 176 #[.pointer (some ⟨bv,0,none⟩),exV x.k x.n x.p x.c K x.ks.len cap,.slice A env.length ecap] w (PPost S bv u 168 (hdP u P PA pcap) (.err c0) w):=by
 have al:=hI.lt
 have a1:w.cell? ⟨bv,1,none⟩=some (.int .i64 u):=by rw [hst.cell];rfl
 have a3:w.cell? ⟨bv,3,none⟩=some (.int .i64 c0):=by rw [hst.cell];rfl
 have hc1:(c0 != 0)=true:=by simpa using hc
 have HST:=hid hst
 have HK:=hid (nilOk hS.u0 hS.u1)
 clear hI hst hc hS
 go_enter Tryz.func176,Tryz.ntmps176
 go_wp2
 refine bodyPost_ret (v:=poV u none 0 0) (by simp [results,Tryz.results176,go_sem]) rfl ?_
 have hg:Below w.heap.size w ((w.alloc (.cells #[.int .i64 x.k,.int .i64 x.n,.int .i64 x.p,.int .i64 x.c,.slice K x.ks.len cap] 33)).alloc (.cells #[.int .i64 u,.slice none 0 0] 86)):=by go_grown
 exact ⟨_,[],s,c0,rfl,⟨none,0,rfl,PAt.nil _ _ _,HK.out⟩,HST.out.next hg,Only.of_below hg,rfl⟩
abbrev pvW (w:World) (bv s:Nat) (k n p c:Int) (K:Option Addr) (len cap:Nat):World:=
 ((w.setCell ⟨bv,2,none⟩ (.int .i64 ((s:Int)+1))).alloc (.cells #[.int .i64 k,.int .i64 n,.int .i64 p,.int .i64 c,.slice K len cap] 33)).alloc (.cells #[.int .i64 0,.slice none 0 0] 86)
structure PvSt (w W:World) (B:Nat) (S:Nat→Prop) (bv:Nat) (u:Int) (P:List Fn) (PA:Option Addr) (pcap s:Nat) (k n p c:Int) (K:Option Addr) (len cap:Nat):Prop where
 ev:EvIn W B bv 1 P PA pcap
 si:SIn W B (privS S (w.heap.size+1)) bv u
 st:Cells W bv 168 (hdP u P PA pcap++[.int .i64 ((s+1:Nat):Int),.int .i64 0])
 only:Only (fun q=>q=bv) w W
 bx:Cells W w.heap.size 33 [.int .i64 k,.int .i64 n,.int .i64 p,.int .i64 c,.slice K len cap]
 rb:Cells W (w.heap.size+1) 86 [.int .i64 0,.slice none 0 0]
 size:W.heap.size=w.heap.size+2
theorem pvStep {w:World} {B bv:Nat} {S:Nat→Prop} {u:Int} {P:List Fn} {PA:Option Addr} {pcap s:Nat} (hI:EvIn w B bv 1 P PA pcap) (hS:SIn w B S bv u) (hst:Cells w bv 168 (hdP u P PA pcap++[.int .i64 s,.int .i64 0])) (k n p c:Int) (K:Option Addr) (len cap:Nat) :
  PvSt w (pvW w bv s k n p c K len cap) B S bv u P PA pcap s k n p c K len cap:=by
 have hl:=hI.lt
 have hB:=hI.blow
 have hsz:(w.setCell ⟨bv,2,none⟩ (.int .i64 ((s:Int)+1))).heap.size=w.heap.size:=by simp [World.setCell]
 have ho1:Only (fun q=>q=bv) w (w.setCell ⟨bv,2,none⟩ (.int .i64 ((s:Int)+1))):=⟨rfl,rfl,rfl,by rw [hsz];exact Nat.le_refl _,fun q _ hq=>Below.heap_setCell _ _ _ _ hq⟩
 have hc2:Cells (w.setCell ⟨bv,2,none⟩ (.int .i64 ((s:Int)+1))) bv 168 (hdP u P PA pcap++[.int .i64 ((s+1:Nat):Int),.int .i64 0]):=hst.set_ 2 (.int .i64 ((s:Int)+1))
 have hg:Below (w.setCell ⟨bv,2,none⟩ (.int .i64 ((s:Int)+1))).heap.size (w.setCell ⟨bv,2,none⟩ (.int .i64 ((s:Int)+1))) (pvW w bv s k n p c K len cap):=by go_grown
 have ho:Only (fun q=>q=bv) w (pvW w bv s k n p c K len cap):=ho1.trans (Only.of_below hg)
 have hW:(pvW w bv s k n p c K len cap).heap.size=w.heap.size+2:=by simp [pvW,World.setCell]
 refine ⟨hI.only ho,hS.fresh (by omega) (by omega) (by omega) (by omega),hc2.next hg,ho, ?_, ?_,hW⟩
 ·have:=(Cells.new (w.setCell ⟨bv,2,none⟩ (.int .i64 ((s:Int)+1))) 33 [.int .i64 k,.int .i64 n,.int .i64 p,.int .i64 c,.slice K len cap]).next (w':=pvW w bv s k n p c K len cap) (by go_grown)
  rwa [hsz] at this
 ·have:=Cells.new ((w.setCell ⟨bv,2,none⟩ (.int .i64 ((s:Int)+1))).alloc (.cells #[.int .i64 k,.int .i64 n,.int .i64 p,.int .i64 c,.slice K len cap] 33)) 86 [.int .i64 0,.slice none 0 0]
  have e:((w.setCell ⟨bv,2,none⟩ (.int .i64 ((s:Int)+1))).alloc (.cells #[.int .i64 k,.int .i64 n,.int .i64 p,.int .i64 c,.slice K len cap] 33)).heap.size=w.heap.size+1:=by simp [World.setCell]
  rwa [e] at this
theorem constT_ok {u n:Int} (h0:0≤u) (h1:u≤12) (n0:0≤n) (n1:n≤1000002):polyOk u (constT u n)=true:=by
 rw [←const_nf u n n0 n1]
 have hz:∀ k,cf (zeroE u.toNat) k=0:=fun k=>by
  unfold zeroE cf
  by_cases hk:k<u.toNat
  ·simp [List.getD,hk]
  ·simp [List.getD,hk]
 have hd:∀ k,degL (zeroE u.toNat) k=0:=by
  intro k
  induction k with
  | zero=>rfl
  | succ k ih=>simp only [degL];rw [ih,hz];rfl
 have:=form_ok (v:=u) (inR_yes h0 h1) (nfT_canon [(zeroE u.toNat,n)]) (nfT_cof _) (fun x hx=>⟨(zeroE u.toNat,1),by
  unfold termOk
  simp only [Bool.and_eq_true,decide_eq_true_eq]
  refine ⟨⟨by unfold zeroE;simp;omega,inR_yes (by omega) (by omega)⟩,List.all_eq_true.2 fun y hy=>?_,by rw [hd];omega⟩
  unfold zeroE at hy
  rw [List.eq_of_mem_replicate hy];exact inR_yes (by omega) (by omega),by rw [List.mem_singleton.1 hx]⟩)
 rw [this,const_nf u n n0 n1]
 unfold constT
 split<;>simp
theorem poly_num (P:List Fn) (x:Nd) (env:List (List Term')) (s:Nat) (u:Int) (K:Option Addr) (cap B bv:Nat) (S:Nat→Prop) (A PA:Option Addr) (ecap pcap:Nat) (w:World) (hI:EvIn w B bv 1 P PA pcap) (hS:SIn w B S bv u) (hst:Cells w bv 168 (hdP u P PA pcap++[.int .i64 s,.int .i64 0])) (hk:x.k=1) (hs:s<3000) (x0:0≤x.n) (x1:x.n≤1000002) :
  Calls Tryz.prog 176 #[.pointer (some ⟨bv,0,none⟩),exV x.k x.n x.p x.c K x.ks.len cap,.slice A env.length ecap] w (PPost S bv u 168 (hdP u P PA pcap) (.ok (constT u x.n) (s+1)) w):=by
 have al:=hI.lt
 have u0:=hS.u0
 have u1:=hS.u1
 have hBw:=hI.blow
 have a1:w.cell? ⟨bv,1,none⟩=some (.int .i64 u):=by rw [hst.cell];rfl
 have a2:w.cell? ⟨bv,2,none⟩=some (.int .i64 s):=by rw [hst.cell];rfl
 have a3:w.cell? ⟨bv,3,none⟩=some (.int .i64 0):=by rw [hst.cell];rfl
 have z2:w.frozen? ⟨bv,2,none⟩=false:=hst.frozen _
 have e1:((s:Int)==3000)=false:=by simp;omega
 have HE:=hid (pvStep hI hS hst 1 x.n x.p x.c K x.ks.len cap)
 clear hI hst hS
 rw [hk]
 clear hk
 go_enter Tryz.func176,Tryz.ntmps176
 go_upto_region 8 with fail
 change Code.wp _ _ _ _ (pvW w bv s 1 x.n x.p x.c K x.ks.len cap)
 generalize pvW w bv s 1 x.n x.p x.c K x.ks.len cap=W at *
 have hD:Hid (W.drew.cell? ⟨bv,1,none⟩=some (.int .i64 u)∧W.drew.cell? ⟨w.heap.size,1,none⟩=some (.int .i64 x.n)):=⟨(by rw [HE.out.st.cell];rfl:W.cell? ⟨bv,1,none⟩=some (.int .i64 u)),(by rw [HE.out.bx.cell];rfl:W.cell? ⟨w.heap.size,1,none⟩=some (.int .i64 x.n))⟩
 refine RegE.start (S:=fun wx=>wx.cell? ⟨bv,1,none⟩=some (.int .i64 u)∧wx.cell? ⟨w.heap.size,1,none⟩=some (.int .i64 x.n)) 7 (by kernel_rfl) (by kernel_rfl) ?Sa0 (fun hHeld hB=>?_)
 case Sa0=>((try dsimp only);exact hD.out)
 refine RegE.takeL (S:=fun wx=>wx.cell? ⟨bv,1,none⟩=some (.int .i64 u)∧wx.cell? ⟨w.heap.size,1,none⟩=some (.int .i64 x.n)) (i:=0) (v:=?va0) hB rfl (by decide) (by kernel_rfl) (by kernel_rfl) (fun _ _ _ h=>h) (Or.inl ⟨by rfl, ?ya0⟩) hHeld ?ra0
 case ya0=>((intro w hSw;(try dsimp only at hSw);go_simp)<;>with_reducible rfl)
 (try simp only [Act.put,List.setIfInBounds_toArray,List.set_cons_zero,List.set_cons_succ])
 refine RegE.takeL (S:=fun wx=>wx.cell? ⟨bv,1,none⟩=some (.int .i64 u)∧wx.cell? ⟨w.heap.size,1,none⟩=some (.int .i64 x.n)) (i:=1) (v:=?va1) hB rfl (by decide) (by kernel_rfl) (by kernel_rfl) (fun _ _ _ h=>h) (Or.inl ⟨by rfl, ?ya1⟩) hHeld ?ra1
 case ya1=>((intro w hSw;(try dsimp only at hSw);go_simp)<;>with_reducible rfl)
 (try simp only [Act.put,List.setIfInBounds_toArray,List.set_cons_zero,List.set_cons_succ])
 refine RegE.takeL (S:=fun wx=>wx.cell? ⟨bv,1,none⟩=some (.int .i64 u)∧wx.cell? ⟨w.heap.size,1,none⟩=some (.int .i64 x.n)) (i:=2) (v:=?va2) hB rfl (by decide) (by kernel_rfl) (by kernel_rfl) (fun _ _ _ h=>h) (Or.inl ⟨by rfl, ?ya2⟩) hHeld ?ra2
 case ya2=>((intro w hSw;(try dsimp only at hSw);go_simp)<;>with_reducible rfl)
 (try simp only [Act.put,List.setIfInBounds_toArray,List.set_cons_zero,List.set_cons_succ])
 refine RegE.takeL (S:=fun wx=>wx.cell? ⟨bv,1,none⟩=some (.int .i64 u)∧wx.cell? ⟨w.heap.size,1,none⟩=some (.int .i64 x.n)) (i:=3) (v:=?va3) hB rfl (by decide) (by kernel_rfl) (by kernel_rfl) (fun _ _ _ h=>h) (Or.inl ⟨by rfl, ?ya3⟩) hHeld ?ra3
 case ya3=>((intro w hSw;(try dsimp only at hSw);go_simp)<;>with_reducible rfl)
 (try simp only [Act.put,List.setIfInBounds_toArray,List.set_cons_zero,List.set_cons_succ])
 refine RegE.takeL (S:=fun wx=>wx.cell? ⟨bv,1,none⟩=some (.int .i64 u)∧wx.cell? ⟨w.heap.size,1,none⟩=some (.int .i64 x.n)) (i:=4) (v:=?va4) hB rfl (by decide) (by kernel_rfl) (by kernel_rfl) (fun _ _ _ h=>h) (Or.inl ⟨by rfl, ?ya4⟩) hHeld ?ra4
 case ya4=>((intro w hSw;(try dsimp only at hSw);go_simp)<;>with_reducible rfl)
 (try simp only [Act.put,List.setIfInBounds_toArray,List.set_cons_zero,List.set_cons_succ])
 refine RegE.takeL (S:=fun wx=>wx.cell? ⟨bv,1,none⟩=some (.int .i64 u)∧wx.cell? ⟨w.heap.size,1,none⟩=some (.int .i64 x.n)) (i:=5) (v:=?va5) hB rfl (by decide) (by kernel_rfl) (by kernel_rfl) (fun _ _ _ h=>h) (Or.inl ⟨by rfl, ?ya5⟩) hHeld ?ra5
 case ya5=>((intro w hSw;(try dsimp only at hSw);go_simp)<;>with_reducible rfl)
 (try simp only [Act.put,List.setIfInBounds_toArray,List.set_cons_zero,List.set_cons_succ])
 refine RegE.stepL (i:=6) rfl (by decide) (by kernel_rfl) (fun K hK=>?_)
 go_simp
 go_at_call 135
 refine (constantPoly_any u x.n W.drew u0 u1 x0 x1).mono ?_
 rintro e w1 h
 obtain ⟨A1,c1,rfl,hRT,hb1⟩:=h
 have hb1':Below W.heap.size W w1:=Below.trans (Below.refl _ _).drew (hb1.mono (Nat.le_refl _))
 have HQ:=hid (polyEnd (w:=w) (w1:=w1) (cap:=c1) (r:=.ok (constT u x.n) (s+1)) (PAt.of hRT (polyOk_totT (constT_ok u0 u1 x0 x1)) HE.out.si.lt) (constT_ok u0 u1 x0 x1) (HE.out.st.next hb1') (HE.out.only.trans (Only.of_below hb1')) ⟨rfl,rfl,rfl⟩ al (HE.out.rb.next hb1'))
 have HB1:=hid hb1
 clear hRT hb1 hb1'
 refine hK.out _ _ ?Sa6 (fun hHeldN=>?_)
 case Sa6=>((try dsimp only);exact ⟨keepC hD.out.1 (HB1.out),keepC hD.out.2 HB1.out⟩)
 clear hK K hHeld
 have hHeld:=hHeldN
 clear hHeldN
 (try simp only [Act.put,List.setIfInBounds_toArray,List.set_cons_zero,List.set_cons_succ])
 obtain ⟨⟨k0,k1,q0,q1⟩,⟨y0,y1⟩,HE2⟩:=HQ.out
 refine RegE.lastL rfl (by kernel_rfl) (by kernel_rfl) (fun K hK=>?_)
 go_simp
 refine hK.out _ _ ?_
 clear hK K
 have HE3:=hid HE2
 clear HE2 HQ
 go_wp2
 refine bodyPost_ret (v:=poV u A1 (constT u x.n).length c1) (by simp [results,Tryz.results176,go_sem,y0,y1]) rfl ?_
 exact HE3.out
theorem poly_var (P:List Fn) (x:Nd) (env:List (List Term')) (s:Nat) (u:Int) (K:Option Addr) (cap B bv:Nat) (S:Nat→Prop) (A PA:Option Addr) (ecap pcap:Nat) (w:World) (hI:EvIn w B bv 1 P PA pcap) (hS:SIn w B S bv u) (hst:Cells w bv 168 (hdP u P PA pcap++[.int .i64 s,.int .i64 0])) (henv:PEnv w S u A env) (_hel:env.length≤9223372036854775807) (j:Nat) (ts:List Term') (hk:x.k=2) (hn:x.n=j) (hs:s<3000) (hz:env[j]? = some ts) :
  Calls Tryz.prog 176 #[.pointer (some ⟨bv,0,none⟩),exV x.k x.n x.p x.c K x.ks.len cap,.slice A env.length ecap] w (PPost S bv u 168 (hdP u P PA pcap) (.ok ts (s+1)) w):=by
 have al:=hI.lt
 have u0:=hS.u0
 have u1:=hS.u1
 have hBw:=hI.blow
 have a1:w.cell? ⟨bv,1,none⟩=some (.int .i64 u):=by rw [hst.cell];rfl
 have a2:w.cell? ⟨bv,2,none⟩=some (.int .i64 s):=by rw [hst.cell];rfl
 have a3:w.cell? ⟨bv,3,none⟩=some (.int .i64 0):=by rw [hst.cell];rfl
 have z2:w.frozen? ⟨bv,2,none⟩=false:=hst.frozen _
 have e1:((s:Int)==3000)=false:=by simp;omega
 have HE:=hid (pvStep hI hS hst 2 (j:Int) x.p x.c K x.ks.len cap)
 have hjl:j<env.length:=(List.getElem?_eq_some_iff.1 hz).1
 obtain ⟨b,o,Aj,cj,rfl,hbl,c0,c1,hPA,hok⟩:=henv.get2 (HE.out.only.sub fun q e=>by rw [e];exact hS.bv) hz
 have hE:PPost S bv u 168 (hdP u P PA pcap) (.ok ts (s+1)) w (.returned (poV u Aj ts.length cj)) (((w.setCell ⟨bv,2,none⟩ (.int .i64 ((s:Int)+1))).alloc (.cells #[.int .i64 2,.int .i64 j,.int .i64 x.p,.int .i64 x.c,.slice K x.ks.len cap] 33)).alloc (.cells #[.int .i64 u,.slice Aj ts.length cj] 86)):=by
  have hg:Below (w.setCell ⟨bv,2,none⟩ (.int .i64 ((s:Int)+1))).heap.size (w.setCell ⟨bv,2,none⟩ (.int .i64 ((s:Int)+1))) (((w.setCell ⟨bv,2,none⟩ (.int .i64 ((s:Int)+1))).alloc (.cells #[.int .i64 2,.int .i64 j,.int .i64 x.p,.int .i64 x.c,.slice K x.ks.len cap] 33)).alloc (.cells #[.int .i64 u,.slice Aj ts.length cj] 86)):=by go_grown
  have ho1:Only (fun q=>q=bv) w (w.setCell ⟨bv,2,none⟩ (.int .i64 ((s:Int)+1))):=⟨rfl,rfl,rfl,by simp [World.setCell],fun q _ hq=>Below.heap_setCell _ _ _ _ hq⟩
  have hc2:Cells (w.setCell ⟨bv,2,none⟩ (.int .i64 ((s:Int)+1))) bv 168 (hdP u P PA pcap++[.int .i64 ((s+1:Nat):Int),.int .i64 0]):=hst.set_ 2 (.int .i64 ((s:Int)+1))
  have ho:=ho1.trans (Only.of_below hg)
  exact ⟨_,ts,((s+1:Nat):Int),0,rfl,⟨Aj,cj,rfl,hPA.only (ho.sub fun q e=>by rw [e];exact hS.bv),hok⟩,hc2.next hg,ho,rfl,rfl,rfl⟩
 have HE3:=hid hE
 have hjj:(j:Int)<(env.length:Int):=by omega
 clear hI hst hS henv hPA hok hz HE hE
 rw [hk,hn]
 clear hk hn
 go_enter Tryz.func176,Tryz.ntmps176
 go_wp2
 refine bodyPost_ret (v:=poV u Aj ts.length cj) (by simp [results,Tryz.results176,go_sem]) rfl ?_
 exact HE3.out
theorem poly_full (P:List Fn) (x:Nd) (env:List (List Term')) (u:Int) (K:Option Addr) (cap B bv:Nat) (S:Nat→Prop) (A PA:Option Addr) (ecap pcap:Nat) (w:World) (hI:EvIn w B bv 1 P PA pcap) (hS:SIn w B S bv u) (hst:Cells w bv 168 (hdP u P PA pcap++[.int .i64 (3000:Nat),.int .i64 0])) :
  Calls Tryz.prog 176 #[.pointer (some ⟨bv,0,none⟩),exV x.k x.n x.p x.c K x.ks.len cap,.slice A env.length ecap] w (PPost S bv u 168 (hdP u P PA pcap) (.err 7) w):=by
 have al:=hI.lt
 have a2:w.cell? ⟨bv,2,none⟩=some (.int .i64 3000):=by rw [hst.cell];rfl
 have a3:w.cell? ⟨bv,3,none⟩=some (.int .i64 0):=by rw [hst.cell];rfl
 obtain ⟨W0,hW0⟩:∃ W0,W0=(w.alloc (.cells #[.int .i64 x.k,.int .i64 x.n,.int .i64 x.p,.int .i64 x.c,.slice K x.ks.len cap] 33)).alloc (.cells #[.int .i64 0,.slice none 0 0] 86):=⟨_,rfl⟩
 have hg:Below w.heap.size w W0:=by rw [hW0];go_grown
 have hq:Cells W0 (w.heap.size+1) 86 [.int .i64 0,.slice none 0 0]:=by
  rw [hW0]
  have:=Cells.new (w.alloc (.cells #[.int .i64 x.k,.int .i64 x.n,.int .i64 x.p,.int .i64 x.c,.slice K x.ks.len cap] 33)) 86 [.int .i64 0,.slice none 0 0]
  simpa using this
 have HF:=hid (failI_any P u 0 (3000:Nat) 7 (privS S (w.heap.size+1)) bv pcap PA W0 (hst.next hg) hS.u0 hS.u1)
 have HQ0:=hid hq
 have HG:=hid hg
 have HW0:=hid hW0
 clear hI hS hst hg hq hW0
 go_enter Tryz.func176,Tryz.ntmps176
 go_wp2_with fail
 rw [←HW0.out]
 refine HF.out.mono ?_;rintro e w2 ⟨v,zs,s',c',rfl,⟨A2,c2,rfl,hp2,hk2⟩,h3,h4,h5⟩
 have HQ:=hid (polyEnd (w:=w) (w1:=w2) (cap:=c2) (r:=.err 7) hp2 hk2 h3 ((Only.of_below HG.out).trans h4) h5 al ((h4.block _ HQ0.out.lt (by omega)).trans HQ0.out))
 obtain ⟨⟨k0,k1,q0,q1⟩,⟨y0,y1⟩,HE2⟩:=HQ.out
 have HE3:=hid HE2
 clear HE2 HQ hp2 hk2 h3 h4 h5 HF
 go_wp2
 refine bodyPost_ret (v:=poV u A2 zs.length c2) (by simp [results,Tryz.results176,go_sem,y0,y1]) rfl ?_
 exact HE3.out
end
section
open Go.RowKit Plain
theorem limT_good {u:Int} {R:List Term'} {s t:Nat} (h:t≤3000) (h2:s<t):Good s (limT u R t):=by
 unfold limT
 split
 ·exact ⟨h2,h⟩
 ·show (3:Int)≠0;decide
theorem pvOp_good {u k:Int} {a b:List Term'} {s t:Nat} (h:t≤3000) (h2:s<t):Good s (pvOp u k a b t):=by
 unfold pvOp
 split
 ·exact limT_good h h2
 split
 ·exact limT_good h h2
 split
 ·exact limT_good h h2
 split
 ·exact ⟨h2,h⟩
 cases numT b with
 | none=>show (4:Int)≠0;decide
 | some m=>
  simp only
  split
  ·show (6:Int)≠0;decide
  ·exact ⟨h2,h⟩
theorem pvAll_good {g:Nd→List (List Term')→Nat→Res (List Term')} (hg:∀ x env s,Good s (g x env s)):∀ (es:Es) (env:List (List Term')) (s:Nat),GoodA s (pvAll g env es s):=by
 intro es
 induction es with
 | nil=>intro env s;exact ⟨Nat.le_refl _,id⟩
 | cons k n' p c ks r _ ihr=>
  intro env s
  simp only [pvAll]
  have a:=hg ⟨k,n',p,c,ks⟩ env s
  revert a
  cases g ⟨k,n',p,c,ks⟩ env s with
  | err c=>intro a;exact a
  | ok z s1=>
   intro a
   have b:=ihr env s1
   simp only
   revert b
   cases pvAll g env r s1 with
   | err c=>intro b;exact b
   | ok zs s2=>intro b;exact ⟨by have:=a.1;have:=b.1;omega,fun h=>b.2 a.2⟩
theorem pvLoop_good {g:Nd→List (List Term')→Nat→Res (List Term')} (hg:∀ x env s,Good s (g x env s)) (outs:Es):∀ (c:Nat) (zs:List (List Term')) (s:Nat),GoodA s (pvLoop g outs c zs s):=by
 intro c
 induction c with
 | zero=>intro zs s;exact ⟨Nat.le_refl _,id⟩
 | succ c ihc=>
  intro zs s
  simp only [pvLoop]
  have a:=pvAll_good hg outs zs s
  revert a
  cases pvAll g zs outs s with
  | err c=>intro a;exact a
  | ok zs' s1=>
   intro a
   have b:=ihc zs' s1
   simp only
   revert b
   cases pvLoop g outs c zs' s1 with
   | err c=>intro b;exact b
   | ok ws s2=>intro b;exact ⟨by have:=a.1;have:=b.1;omega,fun h=>b.2 (a.2 h)⟩
theorem pv_good {u:Int} {P:List Fn}:∀ (f:Nat) (x:Nd) (env:List (List Term')) (s:Nat),Good s (pv u P f x env s):=by
 intro f
 induction f with
 | zero=>intro x env s;show (7:Int)≠0;decide
 | succ f ih=>
  intro x env s
  have e7:Good (α:=List Term') s (.err 7):=by show (7:Int)≠0;decide
  have e4:Good (α:=List Term') s (.err 4):=by show (4:Int)≠0;decide
  simp only [pv]
  by_cases hs:3000≤s
  ·rw [if_pos hs];exact e7
  rw [if_neg hs]
  by_cases h1:x.k=1
  ·rw [if_pos h1];exact ⟨by omega,by omega⟩
  rw [if_neg h1]
  by_cases h2:x.k=2
  ·rw [if_pos h2];exact ⟨by omega,by omega⟩
  rw [if_neg h2]
  have up:∀ (y:Nd) (env:List (List Term')) (t:Nat),s≤t→Good s (pv u P f y env t):=fun y env t ht=>by
   have b:=ih y env t
   revert b
   cases pv u P f y env t with
   | err c=>intro b;exact b
   | ok z t2=>intro b;exact ⟨by have:=b.1;omega,b.2⟩
  by_cases h8:x.k=8
  ·rw [if_pos h8]
   cases x.ks.get? 0 with
   | none=>exact e7
   | some a=>
   cases x.ks.get? 1 with
   | none=>exact e7
   | some b=>
   cases x.ks.get? 2 with
   | none=>exact e7
   | some c=>
    have g:=ih a env (s+1)
    simp only
    revert g
    cases pv u P f a env (s+1) with
    | err c=>intro g;exact g
    | ok z s1=>
     intro g
     simp only
     have:=g.1
     cases numT z with
     | none=>exact e4
     | some m=>
      simp only
      split
      ·exact up _ _ _ (by omega)
      ·exact up _ _ _ (by omega)
  rw [if_neg h8]
  by_cases h9:x.k=9
  ·rw [if_pos h9]
   cases x.ks.get? 0 with
   | none=>exact e7
   | some a=>
   cases x.ks.get? 1 with
   | none=>exact e7
   | some b=>
    have g:=ih a env (s+1)
    simp only
    revert g
    cases pv u P f a env (s+1) with
    | err c=>intro g;exact g
    | ok z s1=>
     intro g
     have:=g.1
     exact up _ _ _ (by omega)
  rw [if_neg h9]
  have g:=pvAll_good ih x.ks env (s+1)
  revert g
  cases pvAll (pv u P f) env x.ks (s+1) with
  | err c=>intro g;exact g
  | ok zs s1=>
   intro g
   have g1:=g.1
   have g2:=g.2 (by omega)
   simp only
   by_cases h10:x.k=10
   ·rw [if_pos h10]
    cases P[x.n.toNat]? with
    | none=>exact e7
    | some q=>
     simp only
     cases q.outs.get? x.p.toNat with
     | none=>exact e7
     | some y=>exact up _ _ _ (by omega)
   rw [if_neg h10]
   by_cases h11:x.k=11
   ·rw [if_pos h11]
    cases P[x.n.toNat]? with
    | none=>exact e7
    | some q=>
     simp only
     have b:=pvLoop_good ih q.outs x.c.toNat zs s1
     revert b
     cases pvLoop (pv u P f) q.outs x.c.toNat zs s1 with
     | err c=>intro b;exact b
     | ok ws s2=>intro b;exact ⟨by have:=b.1;omega,b.2 g2⟩
   rw [if_neg h11]
   exact pvOp_good g2 (by omega)
theorem pvC_next {u:Int} {f:Nat} {P:List Fn} {c0:Int} {x:Nd} {env:List (List Term')} {s:Nat} {z:List Term'} {s' c':Int} (h:ResIs (pvC u P f c0 x env s) z s' c') (hc:c'=0):c0=0∧∃ t:Nat,s'=t∧s<t∧t≤3000∧pv u P f x env s=.ok z t:=by
 unfold pvC at h
 by_cases h0:c0=0
 ·rw [if_pos h0] at h
  have g:=pv_good (u:=u) (P:=P) f x env s
  revert h g
  cases pv u P f x env s with
  | err e=>
   intro h g
   exact absurd (hc.symm.trans h).symm g
  | ok z0 t=>
   rintro ⟨rfl,rfl,_⟩ g
   exact ⟨h0,t,rfl,g.1,g.2,rfl⟩
 ·rw [if_neg h0] at h
  exact absurd (hc.symm.trans h).symm h0
theorem pvC_bad {u:Int} {f:Nat} {P:List Fn} {c0:Int} {x:Nd} {env:List (List Term')} {s:Nat} {z:List Term'} {s' c':Int} (h:ResIs (pvC u P f c0 x env s) z s' c') (hc:c'≠0) (h0:c0=0):pv u P f x env s=.err c':=by
 unfold pvC at h
 rw [if_pos h0] at h
 revert h
 cases pv u P f x env s with
 | err e=>intro h;exact congrArg _ h.symm
 | ok z0 t=>
  rintro ⟨rfl,rfl,h⟩
  exact absurd h hc
theorem pvAC_next {u:Int} {f:Nat} {P:List Fn} {c0:Int} {es:Es} {env:List (List Term')} {s:Nat} {z:List (List Term')} {s' c':Int} (h:ResIs (pvAC u P f c0 es env s) z s' c') (hc:c'=0):c0=0∧∃ t:Nat,s'=t∧s≤t∧(s≤3000→t≤3000)∧pvAll (pv u P f) env es s=.ok z t:=by
 unfold pvAC at h
 by_cases h0:c0=0
 ·rw [if_pos h0] at h
  have g:=pvAll_good (pv_good (u:=u) (P:=P) f) es env s
  revert h g
  cases pvAll (pv u P f) env es s with
  | err e=>
   intro h g
   exact absurd (hc.symm.trans h).symm g
  | ok z0 t=>
   rintro ⟨rfl,rfl,_⟩ g
   exact ⟨h0,t,rfl,g.1,g.2,rfl⟩
 ·rw [if_neg h0] at h
  exact absurd (hc.symm.trans h).symm h0
theorem pvAC_bad {u:Int} {f:Nat} {P:List Fn} {c0:Int} {es:Es} {env:List (List Term')} {s:Nat} {z:List (List Term')} {s' c':Int} (h:ResIs (pvAC u P f c0 es env s) z s' c') (hc:c'≠0) (h0:c0=0):pvAll (pv u P f) env es s=.err c':=by
 unfold pvAC at h
 rw [if_pos h0] at h
 revert h
 cases pvAll (pv u P f) env es s with
 | err e=>intro h;exact congrArg _ h.symm
 | ok z0 t=>
  rintro ⟨rfl,rfl,h⟩
  exact absurd h hc
theorem NdInP.kid {w w':World} {B g:Nat} {S:Nat→Prop} {u:Int} {P:List Fn} {fn:Int} {x y:Nd} {K K':Option Addr} {cap cap':Nat} {A:Option Addr} {env:List (List Term')} {ecap j:Nat} (h:NdInP w B S u P fn x K cap A env ecap) (ho:Only S w w') (hg:w.heap.size≤g)
  (hy:x.ks.get? j=some y) (hk:x.k≠9∨j≠1) (hK':ExSl w' B y.ks K') (hc:y.ks.len≤cap') (hm:cap'≤maxLen):NdInP w' B (privS S g) u P fn y K' cap' A env ecap:=by
 have hf:=formed_kids h.form hy
 have hkv:kidVars x.k env.length j=env.length:=by
  rcases hk with hk | hk
  ·exact kidVars_ne hk
  ·exact kidVars_no hk
 rw [hkv] at hf
 have hd:=Es.get?_depth hy
 have hs:=Es.get?_size hy
 exact ⟨hK',hc,hm,h.envA.fresh ho hg,h.el,h.em,by have:=h.big;omega,by have:=h.size;omega,hf,h.f0,h.f1⟩
end
section
open Go.RowKit Plain
def NumR (zs:List Term') (s' c' n s2 c2:Int):Prop:=match numT zs with | some m=>n=m∧s2=s'∧c2=c' | none=>n=0∧c2=if c'=0 then 4 else c'
theorem ifNext {u:Int} {f t:Nat} {P:List Fn} {a:Nd} {env:List (List Term')} {zs:List Term'} {s' c' n s2 c2:Int} (hres:ResIs (pvC u P f 0 a env (t+1)) zs s' c') (hnum:NumR zs s' c' n s2 c2) :
  (c2=0→∃ t1:Nat,s2=t1∧t+1<t1∧t1≤3000∧numT zs=some n∧pv u P f a env (t+1)=.ok zs t1) ∧
  (c2≠0→∀ X Y:Nat→Res (List Term'),(match pv u P f a env (t+1) with | .err e=>Res.err e | .ok z s1=>match numT z with | none=>.err 4 | some n=>if n=0 then X s1 else Y s1)=.err c2):=by
 unfold NumR at hnum
 cases hz:numT zs with
 | some m=>
  rw [hz] at hnum
  obtain ⟨rfl,rfl,rfl⟩:=hnum
  refine ⟨fun h=>?_,fun h X Y=>?_⟩
  ·obtain ⟨_,t1,e1,e2,e3,e4⟩:=pvC_next hres h
   exact ⟨t1,e1,e2,e3,rfl,e4⟩
  ·rw [pvC_bad hres h rfl]
 | none=>
  rw [hz] at hnum
  obtain ⟨rfl,hc⟩:=hnum
  by_cases h0:c'=0
  ·rw [if_pos h0] at hc
   obtain ⟨_,t1,e1,e2,e3,e4⟩:=pvC_next hres h0
   refine ⟨fun h=>by omega,fun h X Y=>?_⟩
   rw [e4]
   simp only
   rw [hz,hc]
  ·rw [if_neg h0] at hc
   refine ⟨fun h=>by omega,fun h X Y=>?_⟩
   rw [pvC_bad hres h0 rfl,hc]
theorem poly_if (P:List Fn) (x:Nd) (u:Int) (f:Nat) (IH:PolyC P u f) (env:List (List Term')) (t:Nat) (fn:Int) (K:Option Addr) (cap B:Nat) (S:Nat→Prop) (bv:Nat) (A PA:Option Addr) (ecap pcap:Nat) (w:World) (hI:EvIn w B bv 1 P PA pcap) (hS:SIn w B S bv u) (hst:Cells w bv 168 (hdP u P PA pcap++[.int .i64 t,.int .i64 0])) (hN:NdInP w B S u P fn x K cap A env ecap) (hk:x.k=8) (hs:t<3000) (hf:3001≤t+(f+1)) :
  Calls Tryz.prog 176 #[.pointer (some ⟨bv,0,none⟩),exV x.k x.n x.p x.c K x.ks.len cap,.slice A env.length ecap] w (PPost S bv u 168 (hdP u P PA pcap) (pv u P (f+1) x env t) w):=by
 have hl3:=formed_op8 hN.form hk
 obtain ⟨a,ha⟩:=Es.get?_some (show 0<x.ks.len by omega)
 obtain ⟨b,hb⟩:=Es.get?_some (show 1<x.ks.len by omega)
 obtain ⟨c,hc⟩:=Es.get?_some (show 2<x.ks.len by omega)
 have HEV:Hid (pv u P (f+1) x env t=match pv u P f a env (t+1) with | .err e=>.err e | .ok z s1=>match numT z with | none=>.err 4 | some n=>if n=0 then pv u P f b env s1 else pv u P f c env s1):=by
  show _=_
  rw [pv,if_neg (by omega),if_neg (by omega),if_neg (by omega),if_pos hk,ha,hb,hc]
  all_goals rfl
 obtain ⟨rr,hrr⟩:∃ rr,rr=pv u P (f+1) x env t:=⟨_,rfl⟩
 rw [←hrr]
 have HRR:=hid (hrr.trans HEV.out)
 clear HEV hrr
 have HIH:=hid IH;clear IH
 have al:=hI.lt
 have hB:=hI.blow
 have a1:w.cell? ⟨bv,1,none⟩=some (.int .i64 u):=by rw [hst.cell];rfl
 have a2:w.cell? ⟨bv,2,none⟩=some (.int .i64 t):=by rw [hst.cell];rfl
 have a3:w.cell? ⟨bv,3,none⟩=some (.int .i64 0):=by rw [hst.cell];rfl
 have z2:w.frozen? ⟨bv,2,none⟩=false:=hst.frozen _
 have e1:((t:Int)==3000)=false:=by simp;omega
 have hE:=pvStep hI hS hst 8 x.n x.p x.c K x.ks.len cap
 obtain ⟨bk,ok,rfl,hea⟩:=hN.kids.get ha
 obtain ⟨bk1,ok1,e0,heb⟩:=hN.kids.get hb
 obtain ⟨rfl,rfl⟩:bk=bk1∧ok=ok1:=by simpa using e0
 obtain ⟨bk1,ok1,e0',hec⟩:=hN.kids.get hc
 obtain ⟨rfl,rfl⟩:bk=bk1∧ok=ok1:=by simpa using e0'
 have hb0:=only_below hE.only hB al
 obtain ⟨Ka,capa,hkB,k0,k1,k2,k3,k4,kc,km,kk⟩:=(hea.below hb0).cells
 simp only [Nat.zero_mul,Nat.add_zero] at k0 k1 k2 k3 k4
 have hkl:bk<w.heap.size:=by omega
 have l0:(0:Int)<(x.ks.len:Int):=by omega
 have l1:(1:Int)<(x.ks.len:Int):=by omega
 have l2:(2:Int)<(x.ks.len:Int):=by omega
 have hoS:Only S w (pvW w bv t 8 x.n x.p x.c (some ⟨bk,ok,none⟩) x.ks.len cap):=hE.only.sub fun q e=>by rw [e];exact hS.bv
 have HNa:=hid (hN.kid hoS (g:=w.heap.size+1) (by omega) ha (.inl (by omega)) kk kc km)
 have HOS:=hid hoS
 have HSI:=hid hS
 have HEb:=hid heb
 have HEc:=hid hec
 have HE:=hid hE
 have HN:=hid hN
 have HA:=hid ha
 have HB:=hid hb
 have HC:=hid hc
 have HK:=hid hk
 clear hI hst hea heb hec hE hN ha hb hc hb0 kk e0 e0' hl3 hS hoS
 rw [hk]
 clear hk
 go_enter Tryz.func176,Tryz.ntmps176
 go_wp2_with fail
 refine (HIH.out a env ((t+1:Nat):Int) (t+1) 0 fn Ka capa B (privS S (w.heap.size+1)) bv A PA ecap pcap _ HE.out.ev HE.out.si HE.out.st (fun _=>⟨rfl,by omega,by omega⟩) HNa.out).mono ?_;rintro e w1 ⟨v,zs,s',c',rfl,⟨Az,cz,rfl,hpz,hkz⟩,hS1,hO1,hres⟩
 have HPZ:=hid hpz
 have HNU:=hid (numberI_any P u c' s' (privS S (w.heap.size+1)) bv pcap cz PA Az zs w1 hS1 hpz hkz)
 have HO1:=hid (HE.out.only.trans hO1)
 have HX1:=hid (only_cells HE.out.bx hO1 (by omega))
 have HR1:=hid (only_cells HE.out.rb hO1 (by omega))
 have HRES:=hid hres
 have HEV1:=hid (HE.out.ev.only hO1)
 have hsz1:w.heap.size+2≤w1.heap.size:=by have:=hO1.size;have:=HE.out.size;omega
 clear hpz hkz hS1 hO1 hres
 go_wp2_with fail
 refine HNU.out.mono ?_;rintro e w2 ⟨n,s2,c2,rfl,hS2,hO2,hnum⟩
 have HIF:=hid (ifNext HRES.out (show NumR zs s' c' n s2 c2 from hnum))
 have HS2:=hid hS2
 have HO2:=hid (HO1.out.trans hO2)
 have HX2:=hid (only_cells HX1.out hO2 (by omega))
 have HR2:=hid (only_cells HR1.out hO2 (by omega))
 have HEV2:=hid (HEV1.out.only hO2)
 have hsz2:w.heap.size+2≤w2.heap.size:=by have:=hO2.size;omega
 have HSI2:Hid (SIn w2 B (privS S (w.heap.size+1)) bv u):=HSI.out.fresh (by omega) (by omega) (by omega) (by omega)
 have HOS2:Hid (Only S w w2):=HO2.out.sub fun q e=>by rw [e];exact HSI.out.bv
 have hb2:=only_below HO2.out hB al
 have y4:w2.cell? ⟨w.heap.size,4,none⟩=some (.slice (some ⟨bk,ok,none⟩) x.ks.len cap):=by rw [HX2.out.cell];rfl
 have hkl2:bk<w2.heap.size:=by omega
 clear hS2 hO2 hnum HNU HRES HPZ HX1 HR1 HEV1 HO1 HNa
 by_cases hz:n=0
 ·have z0:(n==0)=true:=by simpa using hz
  have HZ:=hid hz
  obtain ⟨Kb,capb,_,k0,k1,k2,k3,k4,kc,km,kk⟩:=(HEb.out.below hb2).cells
  have HNb:=hid (HN.out.kid HOS2.out (g:=w.heap.size+1) (by omega) HB.out (.inl (by have:=HK.out;omega)) kk kc km)
  have HQQ:Hid (pvC u P f c2 b env s2.toNat=rr):=by
   show _=_
   rw [HRR.out]
   by_cases hc0:c2=0
   ·obtain ⟨t1,rfl,g1,g2,g3,g4⟩:=HIF.out.1 hc0
    rw [g4]
    simp only
    rw [g3]
    simp only
    rw [if_pos HZ.out]
    unfold pvC
    rw [if_pos hc0]
    simp only [Int.toNat_natCast]
   ·rw [HIF.out.2 hc0]
    unfold pvC
    rw [if_neg hc0]
  clear kk hb2 hz
  go_wp2_with fail
  refine (HIH.out b env s2 s2.toNat c2 fn Kb capb B (privS S (w.heap.size+1)) bv A PA ecap pcap w2 HEV2.out HSI2.out HS2.out (fun h=>by
   obtain ⟨t1,rfl,h1,h2,_⟩:=HIF.out.1 h
   exact ⟨by simp,by simp;omega,by simp;omega⟩) HNb.out).mono ?_;rintro e w3 ⟨v,ts3,s3,c3,rfl,⟨A3,cp3,rfl,hp3,hk3⟩,hS3,hO3,hres3⟩
  rw [HQQ.out] at hres3
  have HQ:=hid (polyEnd (w:=w) (w1:=w3) (cap:=cp3) (r:=rr) hp3 hk3 hS3 (HO2.out.trans hO3) hres3 al (only_cells HR2.out hO3 (by omega)))
  clear hp3 hk3 hS3 hO3 hres3
  obtain ⟨⟨k0,k1,q0,q1⟩,⟨y0,y1⟩,HE2⟩:=HQ.out
  have HE3:=hid HE2
  clear HE2 HQ
  go_wp2
  refine bodyPost_ret (v:=poV u A3 ts3.length cp3) (by simp [results,Tryz.results176,go_sem,y0,y1]) rfl ?_
  exact HE3.out
 ·have z0:(n==0)=false:=by simpa using hz
  have HZ:=hid hz
  obtain ⟨Kb,capb,_,k0,k1,k2,k3,k4,kc,km,kk⟩:=(HEc.out.below hb2).cells
  have HNb:=hid (HN.out.kid HOS2.out (g:=w.heap.size+1) (by omega) HC.out (.inl (by have:=HK.out;omega)) kk kc km)
  have HQQ:Hid (pvC u P f c2 c env s2.toNat=rr):=by
   show _=_
   rw [HRR.out]
   by_cases hc0:c2=0
   ·obtain ⟨t1,rfl,g1,g2,g3,g4⟩:=HIF.out.1 hc0
    rw [g4]
    simp only
    rw [g3]
    simp only
    rw [if_neg HZ.out]
    unfold pvC
    rw [if_pos hc0]
    simp only [Int.toNat_natCast]
   ·rw [HIF.out.2 hc0]
    unfold pvC
    rw [if_neg hc0]
  clear kk hb2 hz
  go_wp2_with fail
  refine (HIH.out c env s2 s2.toNat c2 fn Kb capb B (privS S (w.heap.size+1)) bv A PA ecap pcap w2 HEV2.out HSI2.out HS2.out (fun h=>by
   obtain ⟨t1,rfl,h1,h2,_⟩:=HIF.out.1 h
   exact ⟨by simp,by simp;omega,by simp;omega⟩) HNb.out).mono ?_;rintro e w3 ⟨v,ts3,s3,c3,rfl,⟨A3,cp3,rfl,hp3,hk3⟩,hS3,hO3,hres3⟩
  rw [HQQ.out] at hres3
  have HQ:=hid (polyEnd (w:=w) (w1:=w3) (cap:=cp3) (r:=rr) hp3 hk3 hS3 (HO2.out.trans hO3) hres3 al (only_cells HR2.out hO3 (by omega)))
  clear hp3 hk3 hS3 hO3 hres3
  obtain ⟨⟨k0,k1,q0,q1⟩,⟨y0,y1⟩,HE2⟩:=HQ.out
  have HE3:=hid HE2
  clear HE2 HQ
  go_wp2
  refine bodyPost_ret (v:=poV u A3 ts3.length cp3) (by simp [results,Tryz.results176,go_sem,y0,y1]) rfl ?_
  exact HE3.out
end
end Go.Proofs.YtgfkglhelfkpoaaGreat
