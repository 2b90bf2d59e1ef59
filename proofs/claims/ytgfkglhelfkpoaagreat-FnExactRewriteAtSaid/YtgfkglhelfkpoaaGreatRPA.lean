/- Parts of the proof. -/
import Derived.Test.YtgfkglhelfkpoaaGreatRSJ
import Derived.Test.YtgfkglhelfkpoaaGreatRSI
import Derived.Test.YtgfkglhelfkpoaaGreatRSL
set_option maxRecDepth 100000
set_option maxHeartbeats 2000000
open Go.Proofs.Tryz
open Go.Value renaming int→I,slice→V
open Go.IntKind renaming i64→J
open Option renaming some→M,none→U
open Go.Ending renaming returned→If
open Go.Obj renaming cells→Is
open Go renaming World→Iv,Calls→I0,Value→I1,maxLen→I2,Addr→I3
open Go.RowKit renaming Below→Ix
open Nat renaming le_refl→Jn,add_zero→Mm,zero_mul→Mn,le_trans→Mp,zero_add→Mu,lt_of_lt_of_le→M1
open Go.RowKit.Below renaming refl→Jx,heap_setCell→J1
open Bool renaming and_eq_true→Mb
open Int renaming toNat_natCast→Mz
open List renaming mem_cons_self→M3,getD→Up,mem_cons_of_mem→V2
namespace Go.Proofs.YtgfkglhelfkpoaaGreat
section
open Plain
def cO(n:Nat):List Int:=List.replicate n 0
def bY(u n:Int):List av:=if n=0 then [] else [(cO u.toNat,n)]
def iq:List av->Option Int
 | []=>M 0
 | [t]=>if dg t=0 then M t.2 else U
 | _=>U
def kR(u:Int)(R:List av)(s:Nat):jD (List av):=if aQ u R=true then .ok R s else .err 3
def cB(ev:Nd->List (List av)->Nat->jD (List av))(env:List (List av)):Es->Nat->jD (List (List av))
 | .nil,s=>.ok [] s
 | .cons k n p c ks r,s=>match ev ⟨k,n,p,c,ks⟩ env s with
  | .err e=>.err e
  | .ok z s1=>match cB ev env r s1 with
   | .err e=>.err e
   | .ok zs s2=>.ok (z :: zs) s2
def iJ(ev:Nd->List (List av)->Nat->jD (List av))(outs:Es):Nat->List (List av)->Nat->jD (List (List av))
 | 0,zs,s=>.ok zs s
 | c+1,zs,s=>match cB ev zs outs s with
  | .err e=>.err e
  | .ok TK s'=>iJ ev outs c TK s'
noncomputable def xD (u k:Int) (a b:List av) (s:Nat):jD (List av):=
 if k=3 then kR u (kD (a++b)) s
 else if k=4 then kR u (kD (a++dW 1000002 b)) s
 else if k=5 then kR u (kD (bX a b)) s
 else if k=7 then .ok (dW 1000002 a) s
 else match iq b with
  | none=>.err 4
  | some n=>if n=0 then .err 6 else .ok (dW (iv n) a) s
noncomputable def pv (u:Int) (P:List Fn):Nat->Nd->List (List av)->Nat->jD (List av)
 | 0,_,_,_=>.err 7
 | f+1,x,env,s=>
  if 3000<=s then .err 7
  else if x.k=1 then .ok (bY u x.n) (s+1)
  else if x.k=2 then .ok (env.getD x.n.toNat []) (s+1)
  else if x.k=8 then match x.ks.get? 0,x.ks.get? 1,x.ks.get? 2 with
   | some a,M b,M c=>match pv u P f a env (s+1) with
    | .err e=>.err e
    | .ok z s1=>match iq z with
     | none=>.err 4
     | some n=>if n=0 then pv u P f b env s1 else pv u P f c env s1
   | _,_,_=>.err 7
  else if x.k=9 then match x.ks.get? 0,x.ks.get? 1 with
   | some a,M b=>match pv u P f a env (s+1) with
    | .err e=>.err e
    | .ok z s1=>pv u P f b (env++[z]) s1
   | _,_=>.err 7
  else match cB (pv u P f) env x.ks (s+1) with
   | .err e=>.err e
   | .ok zs s1=>
    if x.k=10 then match P[x.n.toNat]? with
     | none=>.err 7
     | some g=>match g.outs.get? x.p.toNat with
      | none=>.err 7
      | some y=>pv u P f y zs s1
    else if x.k=11 then match P[x.n.toNat]? with
     | none=>.err 7
     | some g=>match iJ (pv u P f) g.outs x.c.toNat zs s1 with
      | .err e=>.err e
      | .ok ws s2=>.ok (ws.getD x.p.toNat []) s2
    else xD u x.k (zs.getD 0 []) (zs.getD 1 []) s1
theorem K4:∀ (a:List Int) (n:Nat),a.length=n->List.zipWith (λx y:Int=>x+y) a (List.replicate n 0)=a
 | [],0,_=>rfl
 | x :: a,n+1,h=>by
  rw[List.replicate_succ,List.zipWith_cons_cons,Int.add_zero,K4 a n (by simpa using h)]
variable{u k:Int}
theorem lJ(h:1<=k):bY u k=[(cO u.toNat,k)]:=by unfold bY;rw[if_neg ah]
variable{n:Nat}{a:List av}
theorem Sv(h:jG n a):bX a [(cO n,k)]=dW k a:=by
 induction a with
 | nil=>rfl
 | cons s a ih=>
  have e:fQ s (cO n,k)=(s.1,tm s.2 k):=by
   unfold fQ cO;rw[show (Go.Proofs.YtgfkglhelfkpoaaGreat.gM s.1 (List.replicate n 0))=s.1 from K4 s.1 n (h s (M3 ..))]
  have ih':=ih λt ht=>h t (V2 _ ht)
  unfold bX at ih' ⊢;rw[List.flatMap_cons,ih'];unfold dW;rw[List.map_cons,List.map_cons,List.map_nil,e];rfl
theorem Ko(h:aQ u a=true)(k1:1<=k)(k2:k<=1000002):kD (bX a (bY u k))=dW k a:=by
 rw[lJ k1,Sv (bS h)];exact Dj ((dV h).scl k1 k2)
variable{l:List Int}
theorem Jg(h:∀ x∈l,0<=x):∀ k,0<=fB l k:=by
 intro k
 induction k with
 | zero=>exact Int.le_refl _
 | succ k ih=>
  simp only[fB];have:0<=cf l k:=by
   by_cases hk:k<l.length
   ·have e:cf l k=l[k]:=by simp[cf,Up,hk]
    rw[e];exact h _ (List.getElem_mem hk)
   ·rw[wN ah];exact Int.le_refl _
  omega
theorem QX(h:∀ x∈l,0<=x):∀ k,fB l k=0->∀ i,i<k->cf l i=0:=by
 intro k
 induction k with
 | zero=>intro _ i hi;omega
 | succ k ih=>
  intro hd i hi;simp only[fB] at hd;have h0:=Jg h k;have h1:0<=cf l k:=by
   by_cases hk:k<l.length
   ·have e:cf l k=l[k]:=by simp[cf,Up,hk]
    rw[e];exact h _ (List.getElem_mem hk)
   ·rw[wN ah];exact Int.le_refl _
  by_cases e:i=k
  ·subst e;omega
  ·exact ih ah i ah
variable{t:av}
theorem Jl(h:dL u t=true):∀ x∈t.1,0<=x:=λx hx=>by
 have:=(bV h).2.2.2;unfold dL jI at h;simp only[Mb] at h;have h2:=List.all_eq_true.1 h.2.1 x hx;exact (bH.1 h2).1
theorem PO(h:dL u t=true)(hd:dg t=0):t.1=cO u.toNat:=by
 have hl:=(bV h).1;unfold cO;refine List.ext_getElem (by rw[List.length_replicate];omega) λi h1 h2=>?_
 have:=QX (Jl h) _ hd i h1;have e:cf t.1 i=t.1[i]:=by simp[cf,Up,h1]
 rw[List.getElem_replicate,<-e,this]
variable{ts:List av}
theorem Fv(h:aQ u ts=true):iq ts=U ↔ 0<kZ ts ts.length:=by
 cases ts with
 | nil=>simp[iq,kZ]
 | cons t r=>
  have ht:=bZ h (M3 ..);have hnn:∀ i,i<(t :: r).length->0<=dg (aR (t :: r) i):=λi hi=>(PN h hi).1
  cases r with
  | nil=>
   have h0:=yG [t] 1 0 ah;obtain⟨i,hi,e⟩:=GY [t] 1 ah hnn;obtain rfl:i=0:=ah;have e':aR [t] 0=t:=rfl;rw[e'] at e h0;simp only[iq,List.length_cons,List.length_nil,Mu];have hd:=hnn 0 (by simp);rw[e'] at hd;constructor
   ·intro hn
    split at hn
    ·cases hn
    ·omega
   ·intro hp
    rw[if_neg ah]
  | cons t2 r=>
   refine⟨λ_=>?_,λ_=>rfl⟩;have ht2:=bZ h (V2 _ (M3 ..));have h0:=yG (t :: t2 :: r) (t :: t2 :: r).length 0 (by simp);have h1:=yG (t :: t2 :: r) (t :: t2 :: r).length 1 (by simp);rw[show aR (t :: t2 :: r) 0=t from rfl] at h0;rw[show aR (t :: t2 :: r) 1=t2 from rfl] at h1;have d0:=hnn 0 (by simp);have d1:=hnn 1 (by simp);rw[show aR (t :: t2 :: r) 0=t from rfl] at d0
   rw[show aR (t :: t2 :: r) 1=t2 from rfl] at d1;refine Decidable.byContradiction λhn=>?_
   have e0:=PO ht ah;have e1:=PO ht2 ah;have:=(List.pairwise_cons.1 (dV h).Ef).1 t2 (M3 ..);exact jR this (by rw[e0,e1])
theorem R_(h:aQ u ts=true)(hd:¬ 0<kZ ts ts.length):iq ts=M (if ts.length=0 then 0 else (aR ts 0).2):=by
 cases hn:iq ts with
 | none=>exact absurd ((Fv h).1 hn) hd
 | some m=>
  cases ts with
  | nil=>simp[iq] at hn;simp[hn]
  | cons t r=>
   cases r with
   | nil=>
    simp only[iq] at hn;split at hn
    ·injection hn with hn;subst hn;rfl
    ·cases hn
   | cons t2 r=>simp[iq] at hn
theorem Qi(h:aQ u ts=true){m:Int}(hn:iq ts=M m):0<=m/\m<=1000002:=by
 cases ts with
 | nil=>simp[iq] at hn;omega
 | cons t r=>
  cases r with
  | nil=>
   simp only[iq] at hn;have hc:=(dV h).sN t (M3 ..);split at hn
   ·injection hn with hn;omega
   ·cases hn
  | cons t2 r=>simp[iq] at hn
theorem J4{s:Nat}(h:aQ u a=true)(k1:1<=k)(k2:k<=1000002):kR u (dW k a) s=.ok (dW k a) s:=by unfold kR;rw[if_pos (gD h k1 k2)]
theorem yR(h0:0<=u)(h1:u<=12):aQ u (bY u 1000002)=true:=by
 have hz:∀ k,cf (cO u.toNat) k=0:=λk=>by
  unfold cO cf
  by_cases hk:k<u.toNat
  ·simp[Up,hk]
  ·simp[Up,hk]
 have hd:∀ k,fB (cO u.toNat) k=0:=by
  intro k
  induction k with
  | zero=>rfl
  | succ k ih=>simp only[fB];rw[ih,hz];rfl
 rw[lJ ah];unfold aQ;simp only[List.length_cons,List.length_nil,fu,Mb,decide_eq_true_eq];refine⟨⟨kQ h0 h1,ah⟩,trivial, ?_,by simp⟩;show dL u (cO u.toNat,1000002)=true;unfold dL;simp only[Mb,decide_eq_true_eq];refine⟨⟨by unfold cO;simp;omega,kQ ah ah⟩,List.all_eq_true.2 λy hy=>?_,by rw[hd];omega⟩;unfold cO at hy
 rw[List.eq_of_mem_replicate hy];exact kQ ah ah
theorem Ze{n:Int}(h0:0<=n)(h1:n<=1000002)(hn:n≠0):1<=iv n/\iv n<=1000002:=by
 have hb:=aiu n;have hr:rs n≠0:=by unfold rs;omega
 have hm:=Zf hr;refine⟨?_,hb.2⟩;refine Decidable.byContradiction λhz=>?_
 have e:iv n=0:=ah;rw[e] at hm;unfold tm at hm;simp at hm
def qD(n i:Nat):List Int:=(cO n).set i 1
def oL(u:Int)(i:Nat):List av:=[(qD u.toNat i,1)]
def kX(u:Int)(k:Nat):List (List av):=(List.range k).map (oL u)
theorem kH(n i:Nat):(qD n i).length=n:=by unfold qD cO;simp
theorem dH(u:Int)(k:Nat):(kX u k).length=k:=by unfold kX;simp
theorem FM(u:Int)(k:Nat):kX u (k+1)=kX u k++[oL u k]:=by unfold kX;rw[List.range_succ,List.map_append];rfl
variable{i:Nat}
theorem aal{x:Int}(h:x∈qD n i):x=0∨x=1:=by
 unfold qD cO at h
 rcases List.mem_or_eq_of_mem_set h with h | h
 ·exact .inl (List.eq_of_mem_replicate h)
 ·exact .inr h
theorem aak(n i:Nat):∀ k,fB (qD n i) k<=1/\(k<=i->fB (qD n i) k=0):=by
 have hc:∀ k,k≠i->cf (qD n i) k=0:=λk hk=>by
  unfold qD cO cf
  by_cases hl:k<n
  ·simp[Up,hl,Ne.symm hk]
  ·simp[Up,hl]
 have h1:cf (qD n i) i<=1:=by
  by_cases hl:i<n
  ·unfold qD cO cf;simp[Up,hl]
  ·rw[wN (by rw[kH];omega)];omega
 intro k
 induction k with
 | zero=>exact⟨by show (0:Int)<=1;omega,λ_=>rfl⟩
 | succ k ih=>
  simp only[fB];refine⟨?_,λhk=>?_⟩
  ·by_cases e:k=i
   ·subst e;rw[ih.2 (Jn _)];omega
   ·rw[hc k e];have:=ih.1;omega
  ·rw[hc k ah,ih.2 ah];rfl
theorem Qs(h0:0<=u)(h1:u<=12):aQ u (oL u i)=true:=by
 unfold aQ oL;simp only[List.length_cons,List.length_nil,fu,Mb,decide_eq_true_eq];refine⟨⟨kQ h0 h1,ah⟩,trivial, ?_,by simp⟩;show dL u (qD u.toNat i,1)=true;unfold dL;simp only[Mb,decide_eq_true_eq];refine⟨⟨by rw[kH];omega,kQ ah ah⟩,List.all_eq_true.2 λy hy=>?_,by have:=(aak u.toNat i u.toNat).1;rw[kH];omega⟩
 rcases aal hy with h | h<;>rw[h]<;>exact kQ ah ah
end
section
open Go.RowKit Plain
structure eU (S:Nat->Prop) (w w':Iv):Prop where
 size:w.heap.size<=w'.heap.size
 block:∀ q,q<w.heap.size->¬ S q->w'.heap[q]? = w.heap[q]?
variable{S:Nat->Prop}{w w':Iv}
theorem aC.h(h:aC S w w'):eU S w w':=⟨h.size,h.block⟩
theorem eU.refl(S:Nat->Prop)(w:Iv):eU S w w:=⟨Jn _,λ_ _ _=>rfl⟩
theorem eU.trans{a b c:Iv}(h:eU S a b)(k:eU S b c):eU S a c:=⟨Mp h.size k.size,λq hq hn=>(k.block q (M1 hq h.size) hn).trans (h.block q hq hn)⟩
variable{T:Nat->Prop}
theorem eU.sub(h:eU S w w')(hs:∀ q,S q->T q):eU T w w':=⟨h.size,λk hk hn=>h.block k hk λe=>hn (hs k e)⟩
def iK(w:Iv)(S:Nat->Prop)(A:Option I3)(ts:List av):Prop:=∀ w',eU S w w'->eX w' A ts
variable{A:Option I3}{ts:List av}
theorem iK.only(h:iK w S A ts)(ho:aC S w w'):iK w' S A ts:=λw2 h2=>h w2 (ho.h.trans h2)
theorem iK.now(h:iK w S A ts):eX w A ts:=h w (eU.refl _ w)
theorem iK.nil(w:Iv)(S:Nat->Prop)(A:Option I3):iK w S A []:=λw' _=>eX.nil w' A
theorem aC.sub(h:aC S w w')(hs:∀ q,S q->T q):aC T w w':=⟨h.os,h.tape,h.output,h.size,λk hk hn=>h.block k hk λe=>hn (hs k e)⟩
theorem iK.sub(h:iK w T A ts)(hs:∀ q,S q->T q):iK w S A ts:=λw' ho=>h w' (ho.sub hs)
def aS(S:Nat->Prop)(g:Nat):Nat->Prop:=λq=>S q∨q=g
variable{wa:Iv}{g:Nat}
theorem eU.fresh(ho:eU S w wa)(hg:w.heap.size<=g)(h2:eU (aS S g) wa w'):eU S w w':=
 ⟨Mp ho.size h2.size,λk hk hn=>(h2.block k (M1 hk ho.size) (λe=>e.elim hn (λe=>ah))).trans (ho.block k hk hn)⟩
theorem iK.fresh(h:iK w S A ts)(hg:w.heap.size<=g):iK w (aS S g) A ts:=λw' h2=>h w' ((eU.refl S w).fresh hg h2)
def ajY(w:Iv)(S:Nat->Prop)(u:Int)(v:I1)(ts:List av):Prop:=∃ A cap,v=fJ u A ts.length cap/\iK w S A ts/\aQ u ts=true
variable{u:Int}
theorem fG(h:aQ u ts=true):rE ts<=9223372036854775807:=by have:=(xH h).2;omega
variable{R:List av}
theorem iK.of{lo hi:Nat}(h:RT w' lo hi A R)(hm:rE R<=9223372036854775807)(hb:∀ q,S q->q<lo):iK w' S A R:=λw2 ho=>Hr ⟨h.le,Mp h.size ho.size,h.keep _ _ h.now (λq q1 q2=>ho.block q (M1 q2 h.size) λe=>by have:=hb q e;omega),h.keep⟩ hm
theorem Ki(h0:0<=u)(h1:u<=12):aQ u []=true:=by
 unfold aQ;rw[kQ h0 h1];rfl
def agV(w:Iv)(u:Int)(b o:Nat)(f:Nat->Option I3×Nat)(env:List (List av)):Prop:=
 0<env.length->b<w.heap.size/\∀ j ts,env[j]? = M ts->w.cell? ⟨b,o+j*2,U⟩=M (I J u)/\w.cell? ⟨b,o+j*2+1,U⟩=M (.slice (f j).1 ts.length (f j).2)/\eX w (f j).1 ts
def fK(w:Iv)(S:Nat->Prop)(u:Int)(A:Option I3)(env:List (List av)):Prop:=(∀ ts∈env,aQ u ts=true)/\∃ b o f,(0<env.length->A=M ⟨b,o,U⟩)/\∀ w',eU S w w'->agV w' u b o f env
variable{env:List (List av)}
theorem fK.only(h:fK w S u A env)(ho:aC S w w'):fK w' S u A env:=by
 obtain⟨h1,b,o,f,hA,hf⟩:=h;exact⟨h1,b,o,f,hA,λw2 h2=>hf w2 (ho.h.trans h2)⟩
theorem fK.sub(h:fK w T u A env)(hs:∀ q,S q->T q):fK w S u A env:=by
 obtain⟨h1,b,o,f,hA,hf⟩:=h;exact⟨h1,b,o,f,hA,λw2 h2=>hf w2 (h2.sub hs)⟩
theorem fK.fresh(h:fK w S u A env)(ho:aC S w wa)(hg:w.heap.size<=g):fK wa (aS S g) u A env:=by
 obtain⟨h1,b,o,f,hA,hf⟩:=h;exact⟨h1,b,o,f,hA,λw2 h2=>hf w2 (ho.h.fresh hg h2)⟩
theorem fK.get(h:fK w S u A env){j:Nat}{ts:List av}(hz:env[j]? = M ts) :
  ∃ b o Aj cj,A=M ⟨b,o,U⟩/\b<w.heap.size/\w.cell? ⟨b,o+j*2,U⟩=M (I J u)/\w.cell? ⟨b,o+j*2+1,U⟩=M (V Aj ts.length cj)/\iK w S Aj ts/\aQ u ts=true:=by
 obtain⟨h1,b,o,f,hA,hf⟩:=h;have h0:0<env.length:=by have:=(List.getElem?_eq_some_iff.1 hz).1;omega
 obtain⟨hb,hc⟩:=hf w (eU.refl _ _) h0;exact⟨b,o,(f j).1,(f j).2,hA h0,hb,(hc j ts hz).1,(hc j ts hz).2.1,λw' ho=>((hf w' ho h0).2 j ts hz).2.2,h1 ts (List.mem_of_getElem? hz)⟩
variable{w1:Iv}
theorem fK.ahp(h:fK w S u A env)(ho:aC S w w1){j:Nat}{ts:List av}(hz:env[j]? = M ts) :
  ∃ b o Aj cj,A=M ⟨b,o,U⟩/\b<w1.heap.size/\w1.cell? ⟨b,o+j*2,U⟩=M (I J u)/\w1.cell? ⟨b,o+j*2+1,U⟩=M (V Aj ts.length cj)/\iK w S Aj ts/\aQ u ts=true:=by
 obtain⟨h1,b,o,f,hA,hf⟩:=h;have h0:0<env.length:=by have:=(List.getElem?_eq_some_iff.1 hz).1;omega
 obtain⟨hb,hc⟩:=hf w1 ho.h h0;exact⟨b,o,(f j).1,(f j).2,hA h0,hb,(hc j ts hz).1,(hc j ts hz).2.1,λw' ho=>((hf w' ho h0).2 j ts hz).2.2,h1 ts (List.mem_of_getElem? hz)⟩
def dM(S:Nat->Prop)(bv:Nat)(u:Int)(t:TypeId)(hd:List I1)(r:jD (List av))(w:Iv)(e:Ending)(w':Iv):Prop:=
 ∃ v ts s' c',e=If v/\ajY w' S u v ts/\au w' bv t (hd++[I J s',I J c'])/\aC (λq=>q=bv) w w'/\gJ r ts s' c'
def wK(S:Nat->Prop)(bv:Nat)(u:Int)(len:Nat)(t:TypeId)(hd:List I1)(r:jD (List (List av)))(w:Iv)(e:Ending)(w':Iv):Prop:=
 ∃ A cp dP s' c',e=If (V A len cp)/\dP.length=len/\len<=cp/\cp<=I2/\fK w' S u A dP/\au w' bv t (hd++[I J s',I J c'])/\aC (λq=>q=bv) w w'/\gJ r dP s' c'
noncomputable def om (u:Int) (P:List Fn) (f:Nat) (c0:Int) (x:Nd) (env:List (List av)) (s:Nat):jD (List av):=if c0=0 then pv u P f x env s else .err c0
noncomputable def mI (u:Int) (P:List Fn) (f:Nat) (c0:Int) (es:Es) (env:List (List av)) (s:Nat):jD (List (List av)):=if c0=0 then cB (pv u P f) env es s else .err c0
abbrev jQ (u:Int) (P:List Fn) (PA:Option I3) (aX:Nat):List I1:=[V PA P.length aX,I J u]
variable{bv cap:Nat}{hd:List I1}{r:jD (List av)}{s' c':Int}
theorem dM.box{t:TypeId}(hP:iK w1 (aS S g) A ts)(dh:aQ u ts=true)(hst:au w1 bv t (hd++[I J s',I J c']))(ho:aC (λq=>q=bv) w w1)(hr:gJ r ts s' c')(hg:w.heap.size<=g)(hb:bv<w.heap.size)(x y:I1) :
  dM S bv u t hd r w (If (fJ u A ts.length cap)) ((w1.setCell ⟨g,0,U⟩ x).setCell ⟨g,1,U⟩ y):=by
 have ho2:aC (λq=>q=g) w1 ((w1.setCell ⟨g,0,U⟩ x).setCell ⟨g,1,U⟩ y):=⟨rfl,rfl,rfl,by simp[World.setCell],λq _ hq=>(J1 _ _ _ _ hq).trans (J1 _ _ _ _ hq)⟩
 have h1:iK ((w1.setCell ⟨g,0,U⟩ x).setCell ⟨g,1,U⟩ y) (aS S g) A ts:=hP.only (ho2.sub λq e=>.inr e);exact⟨_,ts,s',c',rfl,⟨A,cap,rfl,h1.sub (λq e=>.inl e),dh⟩,(ho2.block bv (M1 hb ho.size) ah).trans hst,ho.chain ho2 (λq hq e=>ah),hr⟩
theorem vo(P:List Fn)(u c0 s c:Int)(S:Nat->Prop)(bv aX:Nat)(PA:Option I3)(w:Iv)(hst:au w bv 168 (jQ u P PA aX++[I J s,I J c0]))(h0:0<=u)(h1:u<=12) :
  I0 Tryz.prog 232 #[.pointer (M ⟨bv,0,U⟩),I J c] w (dM S bv u 168 (jQ u P PA aX) (.err (if c0=0 then c else c0)) w):=by
 have al:=hst.lt;have a1:w.cell? ⟨bv,1,U⟩=M (I J u):=ay hst
 have a3:w.cell? ⟨bv,3,U⟩=M (I J c0):=ay hst
 have z3:w.frozen? ⟨bv,3,U⟩=false:=hst.frozen _;have HST:=aj hst;have HN:=aj (Ki h0 h1);clear hst
 by_cases hc:c0=0
 ·have hc1:(c0==0)=true:=by simpa using hc
  have hc2:ak (au (w.setCell ⟨bv,3,U⟩ (I J c)) bv 168 (jQ u P PA aX++[I J s,I J c])):=HST.o.aJ 3 (I J c);rw[if_pos hc];clear hc;go_enter func232,ntmps232;go_wp2;refine bodyPost_ret (v:=fJ u U 0 0) (by simp[results,results232,go_sem]) rfl ?_;have hg:Ix (w.setCell ⟨bv,3,U⟩ (I J c)).heap.size (w.setCell ⟨bv,3,U⟩ (I J c)) ((w.setCell ⟨bv,3,U⟩ (I J c)).alloc (Is #[I J u,V U 0 0] 86)):=aV
  have ho:aC (λq=>q=bv) w (w.setCell ⟨bv,3,U⟩ (I J c)):=⟨rfl,rfl,rfl,by simp[World.setCell],λq _ hq=>J1 _ _ _ _ hq⟩
  exact⟨_,[],s,c,rfl,⟨U,0,rfl,iK.nil _ _ _,HN.o⟩,hc2.o.next hg,ho.trans (aC.of_below hg),rfl⟩
 ·have hc1:(c0==0)=false:=by simpa using hc
  rw[if_neg hc];clear hc;go_enter func232,ntmps232;go_wp2;refine bodyPost_ret (v:=fJ u U 0 0) (by simp[results,results232,go_sem]) rfl ?_;have hg:Ix w.heap.size w (w.alloc (Is #[I J u,V U 0 0] 86)):=aV;exact⟨_,[],s,c0,rfl,⟨U,0,rfl,iK.nil _ _ _,HN.o⟩,HST.o.next hg,aC.of_below hg,rfl⟩
def aeA(ts:List av)(w:Iv)(e:Ending)(w':Iv):Prop:=e=If (.tuple #[I J ((iq ts).getD 0),.bool (iq ts).isSome])/\Ix w.heap.size w w'
theorem Kl(h:aQ u ts=true):ts.length<=120:=(bC h).2.2
theorem Jc{b o:Nat}{tc:Int}(_hb:b<w.heap.size)(h1:w.cell? ⟨b,o+1,U⟩=M (I J tc))(hb1:Ix (w.alloc (Is #[I J u,V (M ⟨b,o,U⟩) 1 cap] 86)).heap.size (w.alloc (Is #[I J u,V (M ⟨b,o,U⟩) 1 cap] 86)) w1) :
  w1.cell? ⟨w.heap.size,0,U⟩=M (I J u)/\w1.cell? ⟨w.heap.size,1,U⟩=M (V (M ⟨b,o,U⟩) 1 cap)/\w1.cell? ⟨b,o+1,U⟩=M (I J tc):=by
 have hq:=(au.new w 86 [I J u,V (M ⟨b,o,U⟩) 1 cap]).next hb1;have Fa:Ix w.heap.size w w1:=Below.trans aV (hb1.mono (by simp));exact⟨by rw[hq.cell];rfl,by rw[hq.cell];rfl,aB h1 Fa⟩
theorem Jf(u:Int)(A:Option I3)(cap:Nat)(ts:List av)(w:Iv)(hT:eX w A ts)(dh:aQ u ts=true) :
  I0 Tryz.prog 265 #[fJ u A ts.length cap] w (aeA ts w):=by
 have hlen:=Kl dh;cases ts with
 | nil=>
  go_enter func265,ntmps265;go_wp2;go_ret2;exact⟨rfl,aV⟩
 | cons t r=>
  cases r with
  | nil=>
   obtain⟨b,o,rfl,hb,hc⟩:=hT (by simp);obtain⟨A1,c1,h0,h1,hI,hl⟩:=hc 0 t rfl;have hto:=bV (bZ dh (M3 ..));have sW:=bC dh;rw[Mn,Mm] at h0 h1;have HD:ak (∀ wx,Ix w.heap.size w wx->I0 Tryz.prog 280 #[.agg #[V A1 t.1.length c1,I J t.2]] wx λe w'=>e=If (I J (dg t))/\Ix wx.heap.size wx w'):=λwx hbx=>CB A1 c1 t.1 t.2 wx (hI.below hbx) ah hto.2.2.2.1
   obtain⟨tl,htl⟩:=aD t.1.length
   rw[<-htl] at h0 HD;obtain⟨tc,htc⟩:=aD t.2
   rw[<-htc] at h1 HD;have HTC:=aj htc;clear htl htc hc hI hl hto hT
   by_cases hd:dg t=0
   ·have Lb:(dg t==0)=true:=by simpa using hd
    have HN:ak (iq [t]=M tc):=by show _=_;simp only[iq];rw[if_pos hd,HTC.o]
    clear hd;go_enter func265,ntmps265;go_wp2_with fail;refine (HD.o _ aV).mono ?_;rintro e w1 ⟨rfl,hb1⟩;obtain⟨hq1,hq2,hq3⟩:=Jc (b:=b) (o:=o) hb h1 hb1;have Ck:ak (Ix w.heap.size w w1):=Below.trans aV (hb1.mono (by simp));clear hb1;go_wp2;go_ret2;exact⟨by rw[HN.o];rfl,Ck.o⟩
   ·have Lb:(dg t==0)=false:=by simpa using hd
    have HN:ak (iq [t]=U):=by show _=_;simp only[iq];rw[if_neg hd]
    clear hd;go_enter func265,ntmps265;go_wp2_with fail;refine (HD.o _ aV).mono ?_;rintro e w1 ⟨rfl,hb1⟩;obtain⟨hq1,hq2,hq3⟩:=Jc (b:=b) (o:=o) hb h1 hb1;have Ck:ak (Ix w.heap.size w w1):=Below.trans aV (hb1.mono (by simp));clear hb1;go_wp2;go_ret2;exact⟨by rw[HN.o];rfl,Ck.o⟩
  | cons t2 r=>
   have HN:ak (iq (t :: t2 :: r)=U):=rfl;obtain⟨N,hN⟩:∃ N,N=(t :: t2 :: r).length:=⟨_,rfl⟩
   rw[<-hN] at hlen ⊢;have hN2:2<=N:=by simp at hN;omega
   have z0:((N:Int)==0)=false:=by simp;omega
   have z1:((N:Int)==1)=false:=by simp;omega
   clear hN hT;go_enter func265,ntmps265;go_wp2;go_ret2;exact⟨by rw[HN.o];rfl,aV⟩
def Me(bv:Nat)(ts:List av)(t:TypeId)(hd:List I1)(s c0:Int)(w:Iv)(e:Ending)(w':Iv):Prop:=
 ∃ n s' c',e=If (I J n)/\au w' bv t (hd++[I J s',I J c'])/\aC (λq=>q=bv) w w'/\(match iq ts with | some m=>n=m/\s'=s/\c'=c0 | none=>n=0/\c'=if c0=0 then 4 else c0)
theorem AY(P:List Fn)(u c0 s:Int)(S:Nat->Prop)(bv aX cap:Nat)(PA A:Option I3)(ts:List av)(w:Iv)(hst:au w bv 168 (jQ u P PA aX++[I J s,I J c0]))(hT:iK w S A ts)(dh:aQ u ts=true) :
  I0 Tryz.prog 233 #[.pointer (M ⟨bv,0,U⟩),fJ u A ts.length cap] w (Me bv ts 168 (jQ u P PA aX) s c0 w):=by
 have sW:=bC dh;have hg:Ix w.heap.size w (w.alloc (Is #[I J u,V A ts.length cap] 86)):=aV;have HC:=aj (Jf u A cap ts (w.alloc (Is #[I J u,V A ts.length cap] 86)) (hT.now.below hg) dh);have HST:=aj (hst.next hg);have HG:=aj hg;clear hst hT dh hg;go_enter func233,ntmps233;go_wp2_with fail;refine HC.o.mono ?_;rintro e w1 ⟨rfl,hb1⟩
 have VI:=aj (HST.o.next hb1);have dZ:ak (aC (λq=>q=bv) w w1):=(aC.of_below HG.o).trans (aC.of_below hb1);clear hb1 HC;cases hn:iq ts with
 | some m=>
  have HR:ak (Me bv ts 168 (jQ u P PA aX) s c0 w (If (I J m)) w1):=⟨m,s,c0,rfl,VI.o,dZ.o,by rw[hn];exact⟨rfl,rfl,rfl⟩⟩
  clear hn;go_wp2;go_ret;exact HR.o
 | none=>
  have HF:=aj (vo P u c0 s 4 S bv aX PA w1 VI.o sW.1 sW.2.1);have HN:=aj hn;clear hn;go_wp2_with fail;refine HF.o.mono ?_;rintro e w2 ⟨v,zs,s',c',rfl,_,h3,h4,h5⟩;have HR:ak (Me bv ts 168 (jQ u P PA aX) s c0 w (If (I J 0)) w2):=⟨0,s',c',rfl,h3,dZ.o.trans h4,by rw[HN.o];exact⟨rfl,h5⟩⟩
  clear h3 h4 h5 HF;go_wp2;go_ret;exact HR.o
theorem OV(P:List Fn)(u:Int)(s:Nat)(S:Nat->Prop)(bv aX cap:Nat)(PA A:Option I3)(R:List av)(w:Iv)(hst:au w bv 168 (jQ u P PA aX++[I J s,I J 0]))(hT:iK w S A R)(h0:0<=u)(h1:u<=12)(hl:R.length<=1048576)(ht:rE R<=1048576) :
  I0 Tryz.prog 235 #[.pointer (M ⟨bv,0,U⟩),fJ u A R.length cap] w (dM S bv u 168 (jQ u P PA aX) (kR u R s) w):=by
 obtain⟨W0,aZ⟩:=aD ((w.alloc (Is #[I J u,V A R.length cap] 86)).alloc (Is #[I J 0,V U 0 0] 86))
 have hg:Ix w.heap.size w W0:=by rw[aZ];go_grown
 have hq1:au W0 w.heap.size 86 [I J u,V A R.length cap]:=by rw[aZ];exact (au.new w 86 _).next aV
 have hq2:au W0 (w.heap.size+1) 86 [I J 0,V U 0 0]:=by
  rw[aZ];have:=au.new (w.alloc (Is #[I J u,V A R.length cap] 86)) 86 [I J 0,V U 0 0];simpa using this
 have HC:=aj (Sj u A cap R W0 (hT.now.below hg) hl ht);have HST:=aj (hst.next hg);have HP:=aj ((hT.fresh (g:=w.heap.size+1) ah).only (aC.of_below hg));have HG:=aj hg;have IU:=aj hq1;have y7:=aj hq2;have dI:=aj aZ;have al:=hst.lt;clear hst hT hg hq1 hq2 aZ;go_enter func235,ntmps235;go_wp2_with fail;rw[<-dI.o];refine HC.o.mono ?_;rintro e w1 ⟨rfl,hb1⟩;have VI:=aj (HST.o.next hb1)
 have HP1:=aj (HP.o.only (aC.of_below hb1));have mq:ak (Ix w.heap.size w w1):=HG.o.trans (hb1.mono HG.o.size);have agD:=aj (IU.o.next hb1);have LU:=aj (y7.o.next hb1);clear hb1 HC;cases hv:aQ u R with
 | true=>
  have HV:=aj hv;clear hv;have j0:w1.cell? ⟨w.heap.size,0,U⟩=M (I J u):=ay agD.o
  have j1:w1.cell? ⟨w.heap.size,1,U⟩=M (V A R.length cap):=ay agD.o
  have k0:w1.cell? ⟨w.heap.size+1,0,U⟩=M (I J 0):=ay LU.o
  have k1:w1.cell? ⟨w.heap.size+1,1,U⟩=M (V U 0 0):=ay LU.o
  have f0:w1.frozen? ⟨w.heap.size+1,0,U⟩=false:=LU.o.frozen _;have f1:w1.frozen? ⟨w.heap.size+1,1,U⟩=false:=LU.o.frozen _;have d1:=LU.o.aJ 0 (I J u);have d2:=d1.aJ 1 (V A R.length cap);have x0:=d1.cell 0;have x1:=d2.cell 1;simp only[eY] at x0 x1;have HE:ak (dM S bv u 168 (jQ u P PA aX) (kR u R s) w (If (fJ u A R.length cap)) ((w1.setCell ⟨w.heap.size+1,0,U⟩ (I J u)).setCell ⟨w.heap.size+1,1,U⟩ (V A R.length cap))):=
   dM.box HP1.o HV.o VI.o (aC.of_below mq.o) (by unfold kR;rw[if_pos HV.o];exact⟨rfl,rfl,rfl⟩) ah al _ _
  clear d1 d2;go_wp2;refine bodyPost_ret (v:=fJ u A R.length cap) (by simp[results,results235,go_sem,x0,x1]) rfl ?_;exact HE.o
 | false=>
  have HV:=aj hv;clear hv;have HF:=aj (vo P u 0 s 3 (aS S (w.heap.size+1)) bv aX PA w1 VI.o h0 h1);go_wp2_with fail;refine HF.o.mono ?_;rintro e w2 ⟨v,zs,s',c',rfl,⟨A2,c2,rfl,hp2,hk2⟩,h3,h4,h5⟩;have hq2:au w2 (w.heap.size+1) 86 [I J 0,V U 0 0]:=(h4.block _ LU.o.lt ah).trans LU.o;have k0:w2.cell? ⟨w.heap.size+1,0,U⟩=M (I J 0):=ay hq2
  have k1:w2.cell? ⟨w.heap.size+1,1,U⟩=M (V U 0 0):=ay hq2
  have f0:w2.frozen? ⟨w.heap.size+1,0,U⟩=false:=hq2.frozen _;have f1:w2.frozen? ⟨w.heap.size+1,1,U⟩=false:=hq2.frozen _;have d1:=hq2.aJ 0 (I J u);have d2:=d1.aJ 1 (V A2 zs.length c2);have x0:=d1.cell 0;have x1:=d2.cell 1;simp only[eY] at x0 x1;have HE:ak (dM S bv u 168 (jQ u P PA aX) (kR u R s) w (If (fJ u A2 zs.length c2)) ((w2.setCell ⟨w.heap.size+1,0,U⟩ (I J u)).setCell ⟨w.heap.size+1,1,U⟩ (V A2 zs.length c2))):=
   dM.box hp2 hk2 h3 ((aC.of_below mq.o).trans h4) (by unfold kR;rw[if_neg (by rw[HV.o];simp)];exact h5) ah al _ _
  clear d1 d2 hq2 hp2 h3 h4 h5;go_wp2;refine bodyPost_ret (v:=fJ u A2 zs.length c2) (by simp[results,results235,go_sem,x0,x1]) rfl ?_;exact HE.o
theorem FN(n:Nat):(cO n).map (I J)=List.replicate n (I J 0):=by unfold cO;rw[List.map_replicate]
theorem NU{n q:Nat}(h:L9 n (M ⟨g,0,U⟩) q):q=g:=by
 obtain⟨_,o,e⟩:=h;injection e with e
 injection e with e
 exact e.symm
theorem Cy(u n:Int)(n0:0<=n)(n1:n<=1000002):kD [(cO u.toNat,n)]=bY u n:=by
 refine (pO ?_ λe=>?_).symm
 ·unfold bY
  split
  ·exact Canon.nil
  ·exact⟨List.pairwise_singleton _ _,λt ht=>by rw[List.mem_singleton.1 ht];exact⟨by show 1<=n;omega,n1⟩⟩
 ·unfold bY
  split
  ·rename_i h;subst h;rw[PI _ _ ah ah];simp[eH]
  ·rfl
theorem lK(u n:Int)(w:Iv)(h0:0<=u)(h1:u<=12)(n0:0<=n)(n1:n<=1000002) :
  I0 Tryz.prog 135 #[I J u,I J n] w (nR u (bY u n) w):=by
 obtain⟨un,rfl⟩:∃ m:Nat,u=m:=⟨u.toNat,ah⟩
 have Zc:un<=12:=ah;have hmk:=run_make_row' (P:=Tryz.prog) 28 2 (I J 0) 8 underlying28 Tryz.infoI rfl .i64 .i64 un ah ah;obtain⟨Z,hZ⟩:=aD (madeCells #[I J 0] un)
 rw[<-hZ] at hmk;have HZ:ak (Z=((cO un).map (I J)).toArray):=by show _=_;rw[hZ,l9,FN]
 clear hZ;obtain⟨W3,jw⟩:=aD (((w.alloc (Is #[I J 0,V U 0 0] 86)).alloc (Is Z 2)).alloc (Is #[V (M ⟨w.heap.size+1,0,U⟩) un un,I J n] 173))
 have hb3:Ix w.heap.size w W3:=by rw[jw];go_grown
 have hs3:W3.heap.size=w.heap.size+3:=by rw[jw];simp
 have hq0:au W3 w.heap.size 86 [I J 0,V U 0 0]:=by rw[jw];exact (au.new w 86 _).next aV
 have hq1:au W3 (w.heap.size+1) 2 ((cO un).map (I J)):=by
  rw[jw,HZ.o];have:=(au.new (w.alloc (Is #[I J 0,V U 0 0] 86)) 2 ((cO un).map (I J))).next (w':=(((w.alloc (Is #[I J 0,V U 0 0] 86)).alloc (Is ((cO un).map (I J)).toArray 2)).alloc (Is #[V (M ⟨w.heap.size+1,0,U⟩) un un,I J n] 173))) aV;simpa using this
 have hq2:au W3 (w.heap.size+2) 173 [V (M ⟨w.heap.size+1,0,U⟩) un un,I J n]:=by
  rw[jw];have:=au.new ((w.alloc (Is #[I J 0,V U 0 0] 86)).alloc (Is Z 2)) 173 [V (M ⟨w.heap.size+1,0,U⟩) un un,I J n];simpa using this
 have hlen:(cO un).length=un:=List.length_replicate;have hrow:IZ W3 W3.heap.size (M ⟨w.heap.size+2,0,U⟩) un [(cO un,n)]:=λ_=>by
  refine⟨w.heap.size+2,rfl,ah,λi t ht=>?_⟩;cases i with
  | zero=>
   simp only[List.getElem?_cons_zero,Option.some.injEq] at ht;subst ht;refine⟨M ⟨w.heap.size+1,0,U⟩,un,by rw[hq2.cell];simp[hlen],by rw[hq2.cell];rfl,hq2.frozen _,hq2.frozen _,⟨λ_=>⟨w.heap.size+1,0,rfl,ah,λj x hx=>?_⟩,λq hq=>?_,hlen⟩⟩
   ·rw[Mu,hq1.cell,List.getElem?_map,hx];rfl
   ·have:=NU hq
    omega
  | succ i=>simp at ht
 have HG:=aj (qQ un (M ⟨w.heap.size+2,0,U⟩) 1 un [(cO un,n)] W3 (by simp) ah hrow);have HB3:=aj hb3;have DY:=aj hq0;have HW3:=aj jw;have EJ:=aj hs3;clear hq0 hq1 hq2 hrow hb3 jw hs3;go_enter func135,ntmps135;go_wp2_with fail;rw[<-HW3.o];refine HG.o.mono ?_;rintro e w4 ⟨A',bB,yV,rfl,vZ,hcan,Eo,_,_,hO⟩;have hbo:Ix w.heap.size W3 w4:=hO.below (by have:=EJ.o;omega) (λk hk=>by have:=NU hk;omega)
 have hq4:au w4 w.heap.size 86 [I J 0,V U 0 0]:=(hO.block _ DY.o.lt (λhk=>by have:=NU hk;omega)).trans DY.o;have hs4:=hO.size;obtain rfl:yV=bY un n:=by rw[pO hcan Eo];exact Cy un n n0 n1
 have k0:w4.cell? ⟨w.heap.size,0,U⟩=M (I J 0):=ay hq4
 have k1:w4.cell? ⟨w.heap.size,1,U⟩=M (V U 0 0):=ay hq4
 have f0:w4.frozen? ⟨w.heap.size,0,U⟩=false:=hq4.frozen _;have f1:w4.frozen? ⟨w.heap.size,1,U⟩=false:=hq4.frozen _;have d1:=hq4.aJ 0 (I J un);have d2:=d1.aJ 1 (V A' (bY un n).length bB);have x0:=d1.cell 0;have x1:=d2.cell 1;simp only[eY] at x0 x1;have HE:ak (nR un (bY un n) w (If (fJ un A' (bY un n).length bB)) ((w4.setCell ⟨w.heap.size,0,U⟩ (I J un)).setCell ⟨w.heap.size,1,U⟩ (V A' (bY un n).length bB))):=by
  have hO2:aC (λq=>q=w.heap.size) w4 ((w4.setCell ⟨w.heap.size,0,U⟩ (I J un)).setCell ⟨w.heap.size,1,U⟩ (V A' (bY un n).length bB)):=⟨rfl,rfl,rfl,by simp[World.setCell],λq _ hq=>(J1 _ _ _ _ hq).trans (J1 _ _ _ _ hq)⟩
  have h2:=vZ.only hO2 (λq hq _ e=>by have e':q=w.heap.size:=e;have:=EJ.o;omega);have hsz:((w4.setCell ⟨w.heap.size,0,U⟩ (I J un)).setCell ⟨w.heap.size,1,U⟩ (V A' (bY un n).length bB)).heap.size=w4.heap.size:=by simp[World.setCell]
  refine⟨A',bB,rfl,RT.Di h2 (by have:=EJ.o;omega) (by rw[hsz];exact Jn _),((HB3.o.trans hbo).setCell (p:=⟨w.heap.size,0,U⟩) (Jn _) _).setCell (p:=⟨w.heap.size,1,U⟩) (Jn _) _⟩
 clear d1 d2 hq4 vZ hcan Eo hO hbo;go_wp2;refine bodyPost_ret (v:=fJ un A' (bY un n).length bB) (by simp[results,results135,go_sem,x0,x1]) rfl ?_;exact HE.o
structure lu (w:Iv) (B:Nat) (S:Nat->Prop) (u:Int) (P:List Fn) (fn:Int) (x:Nd) (K:Option I3) (cap:Nat) (A:Option I3) (env:List (List av)) (aW:Nat):Prop where
 kids:bJ w B x.ks K
 kl:x.ks.len<=cap
 km:cap<=I2
 qj:fK w S u A env
 el:env.length<=aW
 em:aW<=I2
 big:env.length+x.ks.depth<=1000000
 size:x.ks.size<=400
 form:formed P fn env.length x=true
 f0:0<=fn
 f1:fn<=P.length
structure ni (w:Iv) (B:Nat) (S:Nat->Prop) (bv:Nat) (u:Int):Prop where
 bv:S bv
 lt:∀ q,S q->q<w.heap.size
 ge:True
 u0:0<=u
 u1:u<=12
variable{B:Nat}
theorem ni.fresh(h:ni w B S bv u)(hs:w.heap.size<=wa.heap.size)(_hg:w.heap.size<=g)(hg2:g<wa.heap.size)(_hB:B<=w.heap.size):ni wa B (aS S g) bv u:=
 ⟨.inl h.bv,λq e=>e.elim (λe=>M1 (h.lt q e) hs) (λe=>ah),trivial,h.u0,h.u1⟩
def rH(P:List Fn)(u:Int)(f:Nat):Prop:=∀ (x:Nd) (env:List (List av)) (s:Int) (t:Nat) (c0 fn:Int) (K:Option I3) (cap B:Nat) (S:Nat->Prop) (bv:Nat) (A PA:Option I3) (aW aX:Nat) (w:Iv),nN w B bv 1 P PA aX->ni w B S bv u->au w bv 168 (jQ u P PA aX++[I J s,I J c0])->(c0=0->s=(t:Int)/\t<=3000/\3001<=t+f) ->
 lu w B S u P fn x K cap A env aW ->
 I0 Tryz.prog 176 #[.pointer (M ⟨bv,0,U⟩),exV x.k x.n x.p x.c K x.ks.len cap,V A env.length aW] w (dM S bv u 168 (jQ u P PA aX) (om u P f c0 x env t) w)
theorem mg(hP:iK w1 (aS S (w.heap.size+1)) A ts)(dh:aQ u ts=true)(hst:au w1 bv 168 (hd++[I J s',I J c']))(ho:aC (λq=>q=bv) w w1)(hr:gJ r ts s' c')(hb:bv<w.heap.size)
  (hq:au w1 (w.heap.size+1) 86 [I J 0,V U 0 0]) :
  (w1.cell? ⟨w.heap.size+1,0,U⟩=M (I J 0)/\w1.cell? ⟨w.heap.size+1,1,U⟩=M (V U 0 0)/\w1.frozen? ⟨w.heap.size+1,0,U⟩=false/\w1.frozen? ⟨w.heap.size+1,1,U⟩=false) /\
  ((w1.setCell ⟨w.heap.size+1,0,U⟩ (I J u)).cell? ⟨w.heap.size+1,0,U⟩=M (I J u)/\((w1.setCell ⟨w.heap.size+1,0,U⟩ (I J u)).setCell ⟨w.heap.size+1,1,U⟩ (V A ts.length cap)).cell? ⟨w.heap.size+1,1,U⟩=M (V A ts.length cap)) /\
  dM S bv u 168 hd r w (If (fJ u A ts.length cap)) ((w1.setCell ⟨w.heap.size+1,0,U⟩ (I J u)).setCell ⟨w.heap.size+1,1,U⟩ (V A ts.length cap)):=by
 have d1:=hq.aJ 0 (I J u);have d2:=d1.aJ 1 (V A ts.length cap);have x0:=d1.cell 0;have x1:=d2.cell 1;simp only[eY] at x0 x1;exact⟨⟨by rw[hq.cell];rfl,by rw[hq.cell];rfl,hq.frozen _,hq.frozen _⟩,⟨x0,x1⟩,dM.box hP dh hst ho hr ah hb _ _⟩
theorem Fz(P:List Fn)(x:Nd)(env:List (List av))(s c0 u:Int)(K:Option I3)(cap B bv:Nat)(S:Nat->Prop)(A PA:Option I3)(aW aX:Nat)(w:Iv)(hI:nN w B bv 1 P PA aX)(hS:ni w B S bv u)(hst:au w bv 168 (jQ u P PA aX++[I J s,I J c0]))(hc:c0≠0) :
  I0 Tryz.prog 176 #[.pointer (M ⟨bv,0,U⟩),exV x.k x.n x.p x.c K x.ks.len cap,V A env.length aW] w (dM S bv u 168 (jQ u P PA aX) (.err c0) w):=by
 have al:=hI.lt;have a1:w.cell? ⟨bv,1,U⟩=M (I J u):=ay hst
 have a3:w.cell? ⟨bv,3,U⟩=M (I J c0):=ay hst
 have hc1:(c0 != 0)=true:=by simpa using hc
 have HST:=aj hst;have HK:=aj (Ki hS.u0 hS.u1);clear hI hst hc hS;go_enter func176,ntmps176;go_wp2;refine bodyPost_ret (v:=fJ u U 0 0) (by simp[results,results176,go_sem]) rfl ?_;have hg:Ix w.heap.size w ((w.alloc (Is #[I J x.k,I J x.n,I J x.p,I J x.c,V K x.ks.len cap] 33)).alloc (Is #[I J u,V U 0 0] 86)):=aV;exact⟨_,[],s,c0,rfl,⟨U,0,rfl,iK.nil _ _ _,HK.o⟩,HST.o.next hg,aC.of_below hg,rfl⟩
abbrev FB (w:Iv) (bv s:Nat) (k n p c:Int) (K:Option I3) (len cap:Nat):Iv:=
 ((w.setCell ⟨bv,2,U⟩ (I J ((s:Int)+1))).alloc (Is #[I J k,I J n,I J p,I J c,V K len cap] 33)).alloc (Is #[I J 0,V U 0 0] 86)
structure agX (w W:Iv) (B:Nat) (S:Nat->Prop) (bv:Nat) (u:Int) (P:List Fn) (PA:Option I3) (aX s:Nat) (k n p c:Int) (K:Option I3) (len cap:Nat):Prop where
 ev:nN W B bv 1 P PA aX
 si:ni W B (aS S (w.heap.size+1)) bv u
 st:au W bv 168 (jQ u P PA aX++[I J ((s+1:Nat):Int),I J 0])
 only:aC (λq=>q=bv) w W
 bx:au W w.heap.size 33 [I J k,I J n,I J p,I J c,V K len cap]
 rb:au W (w.heap.size+1) 86 [I J 0,V U 0 0]
 size:W.heap.size=w.heap.size+2
variable{P:List Fn}{s:Nat}
theorem ow{PA:Option I3}{aX:Nat}(hI:nN w B bv 1 P PA aX)(hS:ni w B S bv u)(hst:au w bv 168 (jQ u P PA aX++[I J s,I J 0]))(k n p c:Int)(K:Option I3)(len cap:Nat) :
  agX w (FB w bv s k n p c K len cap) B S bv u P PA aX s k n p c K len cap:=by
 have hl:=hI.lt;have hB:=hI.blow;have hsz:(w.setCell ⟨bv,2,U⟩ (I J ((s:Int)+1))).heap.size=w.heap.size:=by simp[World.setCell]
 have ho1:aC (λq=>q=bv) w (w.setCell ⟨bv,2,U⟩ (I J ((s:Int)+1))):=⟨rfl,rfl,rfl,by rw[hsz];exact Jn _,λq _ hq=>J1 _ _ _ _ hq⟩
 have hc2:au (w.setCell ⟨bv,2,U⟩ (I J ((s:Int)+1))) bv 168 (jQ u P PA aX++[I J ((s+1:Nat):Int),I J 0]):=hst.aJ 2 (I J ((s:Int)+1));have hg:Ix (w.setCell ⟨bv,2,U⟩ (I J ((s:Int)+1))).heap.size (w.setCell ⟨bv,2,U⟩ (I J ((s:Int)+1))) (FB w bv s k n p c K len cap):=aV;have ho:aC (λq=>q=bv) w (FB w bv s k n p c K len cap):=ho1.trans (aC.of_below hg)
 have hW:(FB w bv s k n p c K len cap).heap.size=w.heap.size+2:=by simp[FB,World.setCell]
 refine⟨hI.only ho,hS.fresh ah ah ah ah,hc2.next hg,ho, ?_, ?_,hW⟩
 ·have:=(au.new (w.setCell ⟨bv,2,U⟩ (I J ((s:Int)+1))) 33 [I J k,I J n,I J p,I J c,V K len cap]).next (w':=FB w bv s k n p c K len cap) aV
  rwa [hsz] at this
 ·have:=au.new ((w.setCell ⟨bv,2,U⟩ (I J ((s:Int)+1))).alloc (Is #[I J k,I J n,I J p,I J c,V K len cap] 33)) 86 [I J 0,V U 0 0]
  have e:((w.setCell ⟨bv,2,U⟩ (I J ((s:Int)+1))).alloc (Is #[I J k,I J n,I J p,I J c,V K len cap] 33)).heap.size=w.heap.size+1:=by simp[World.setCell]
  rwa [e] at this
variable{n:Int}
theorem qh(h0:0<=u)(h1:u<=12)(n0:0<=n)(n1:n<=1000002):aQ u (bY u n)=true:=by
 rw[<-Cy u n n0 n1];have hz:∀ k,cf (cO u.toNat) k=0:=λk=>by
  unfold cO cf
  by_cases hk:k<u.toNat
  ·simp[Up,hk]
  ·simp[Up,hk]
 have hd:∀ k,fB (cO u.toNat) k=0:=by
  intro k
  induction k with
  | zero=>rfl
  | succ k ih=>simp only[fB];rw[ih,hz];rfl
 have:=Gs (v:=u) (kQ h0 h1) (lN [(cO u.toNat,n)]) (yI _) (λx hx=>⟨(cO u.toNat,1),by
  unfold dL;simp only[Mb,decide_eq_true_eq];refine⟨⟨by unfold cO;simp;omega,kQ ah ah⟩,List.all_eq_true.2 λy hy=>?_,by rw[hd];omega⟩;unfold cO at hy;rw[List.eq_of_mem_replicate hy];exact kQ ah ah,by rw[List.mem_singleton.1 hx]⟩)
 rw[this,Cy u n n0 n1];unfold bY;split<;>simp
theorem ZG(P:List Fn)(x:Nd)(env:List (List av))(s:Nat)(u:Int)(K:Option I3)(cap B bv:Nat)(S:Nat->Prop)(A PA:Option I3)(aW aX:Nat)(w:Iv)(hI:nN w B bv 1 P PA aX)(hS:ni w B S bv u)(hst:au w bv 168 (jQ u P PA aX++[I J s,I J 0]))(hk:x.k=1)(hs:s<3000)(x0:0<=x.n)(x1:x.n<=1000002) :
  I0 Tryz.prog 176 #[.pointer (M ⟨bv,0,U⟩),exV x.k x.n x.p x.c K x.ks.len cap,V A env.length aW] w (dM S bv u 168 (jQ u P PA aX) (.ok (bY u x.n) (s+1)) w):=by
 have al:=hI.lt;have u0:=hS.u0;have u1:=hS.u1;have hBw:=hI.blow;have a1:w.cell? ⟨bv,1,U⟩=M (I J u):=ay hst
 have a2:w.cell? ⟨bv,2,U⟩=M (I J s):=ay hst
 have a3:w.cell? ⟨bv,3,U⟩=M (I J 0):=ay hst
 have z2:w.frozen? ⟨bv,2,U⟩=false:=hst.frozen _;have e1:((s:Int)==3000)=false:=by simp;omega
 have HE:=aj (ow hI hS hst 1 x.n x.p x.c K x.ks.len cap);clear hI hst hS;rw[hk];clear hk;go_enter func176,ntmps176;go_upto_region 8 with fail;change Code.wp _ _ _ _ (FB w bv s 1 x.n x.p x.c K x.ks.len cap);generalize FB w bv s 1 x.n x.p x.c K x.ks.len cap=W at *;have hD:ak (W.drew.cell? ⟨bv,1,U⟩=M (I J u)/\W.drew.cell? ⟨w.heap.size,1,U⟩=M (I J x.n)):=⟨(by rw[HE.o.st.cell];rfl:W.cell? ⟨bv,1,U⟩=M (I J u)),(by rw[HE.o.bx.cell];rfl:W.cell? ⟨w.heap.size,1,U⟩=M (I J x.n))⟩
 refine aO.start (S:=λwx=>wx.cell? ⟨bv,1,U⟩=M (I J u)/\wx.cell? ⟨w.heap.size,1,U⟩=M (I J x.n)) 7 aL aL ?xQ (λaA hB=>?_)
 case xQ=>((try dsimp only);exact hD.o)
 iterate 6 (refine aO.tk hB aA ?_;try simp only[aP])
 refine aO.bU (i:=6) rfl bM aL (λK hK=>?_);go_simp
 go_at_call 135
 refine (lK u x.n W.drew u0 u1 x0 x1).mono ?_;rintro e w1 h;obtain⟨A1,c1,rfl,vZ,hb1⟩:=h;have hb1':Ix W.heap.size W w1:=Below.trans (Jx _ _).drew (hb1.mono (Jn _));have HQ:=aj (mg (w:=w) (w1:=w1) (cap:=c1) (r:=.ok (bY u x.n) (s+1)) (iK.of vZ (fG (qh u0 u1 x0 x1)) HE.o.si.lt) (qh u0 u1 x0 x1) (HE.o.st.next hb1') (HE.o.only.trans (aC.of_below hb1')) ⟨rfl,rfl,rfl⟩ al (HE.o.rb.next hb1'))
 have HB1:=aj hb1;clear vZ hb1 hb1';refine hK.out _ _ (by (try dsimp only);exact⟨aB hD.o.1 (HB1.o),aB hD.o.2 HB1.o⟩) ?_;clear hK K aA;intro aA
 (try simp only[aP])
 obtain⟨⟨k0,k1,q0,q1⟩,⟨y0,y1⟩,dz⟩:=HQ.o;refine aO.gL rfl aL aL (λK hK=>?_);go_simp;refine hK.out _ _ ?_;clear hK K;have fI:=aj dz;clear dz HQ;go_wp2;refine bodyPost_ret (v:=fJ u A1 (bY u x.n).length c1) (by simp[results,results176,go_sem,y0,y1]) rfl ?_;exact fI.o
theorem ZM(P:List Fn)(x:Nd)(env:List (List av))(s:Nat)(u:Int)(K:Option I3)(cap B bv:Nat)(S:Nat->Prop)(A PA:Option I3)(aW aX:Nat)(w:Iv)(hI:nN w B bv 1 P PA aX)(hS:ni w B S bv u)(hst:au w bv 168 (jQ u P PA aX++[I J s,I J 0]))(ahO:fK w S u A env)(_hel:env.length<=9223372036854775807)(j:Nat)(ts:List av)(hk:x.k=2)(hn:x.n=j)(hs:s<3000)(hz:env[j]? = M ts) :
  I0 Tryz.prog 176 #[.pointer (M ⟨bv,0,U⟩),exV x.k x.n x.p x.c K x.ks.len cap,V A env.length aW] w (dM S bv u 168 (jQ u P PA aX) (.ok ts (s+1)) w):=by
 have al:=hI.lt;have u0:=hS.u0;have u1:=hS.u1;have hBw:=hI.blow;have a1:w.cell? ⟨bv,1,U⟩=M (I J u):=ay hst
 have a2:w.cell? ⟨bv,2,U⟩=M (I J s):=ay hst
 have a3:w.cell? ⟨bv,3,U⟩=M (I J 0):=ay hst
 have z2:w.frozen? ⟨bv,2,U⟩=false:=hst.frozen _;have e1:((s:Int)==3000)=false:=by simp;omega
 have HE:=aj (ow hI hS hst 2 (j:Int) x.p x.c K x.ks.len cap);have hjl:j<env.length:=(List.getElem?_eq_some_iff.1 hz).1;obtain⟨b,o,Aj,cj,rfl,hbl,c0,c1,vY,dh⟩:=ahO.ahp (HE.o.only.sub λq e=>by rw[e];exact hS.bv) hz;have hE:dM S bv u 168 (jQ u P PA aX) (.ok ts (s+1)) w (If (fJ u Aj ts.length cj)) (((w.setCell ⟨bv,2,U⟩ (I J ((s:Int)+1))).alloc (Is #[I J 2,I J j,I J x.p,I J x.c,V K x.ks.len cap] 33)).alloc (Is #[I J u,V Aj ts.length cj] 86)):=by
  have hg:Ix (w.setCell ⟨bv,2,U⟩ (I J ((s:Int)+1))).heap.size (w.setCell ⟨bv,2,U⟩ (I J ((s:Int)+1))) (((w.setCell ⟨bv,2,U⟩ (I J ((s:Int)+1))).alloc (Is #[I J 2,I J j,I J x.p,I J x.c,V K x.ks.len cap] 33)).alloc (Is #[I J u,V Aj ts.length cj] 86)):=aV;have ho1:aC (λq=>q=bv) w (w.setCell ⟨bv,2,U⟩ (I J ((s:Int)+1))):=⟨rfl,rfl,rfl,by simp[World.setCell],λq _ hq=>J1 _ _ _ _ hq⟩
  have hc2:au (w.setCell ⟨bv,2,U⟩ (I J ((s:Int)+1))) bv 168 (jQ u P PA aX++[I J ((s+1:Nat):Int),I J 0]):=hst.aJ 2 (I J ((s:Int)+1));have ho:=ho1.trans (aC.of_below hg);exact⟨_,ts,((s+1:Nat):Int),0,rfl,⟨Aj,cj,rfl,vY.only (ho.sub λq e=>by rw[e];exact hS.bv),dh⟩,hc2.next hg,ho,rfl,rfl,rfl⟩
 have fI:=aj hE;have hjj:(j:Int)<(env.length:Int):=ah;clear hI hst hS ahO vY dh hz HE hE;rw[hk,hn];clear hk hn;go_enter func176,ntmps176;go_wp2;refine bodyPost_ret (v:=fJ u Aj ts.length cj) (by simp[results,results176,go_sem]) rfl ?_;exact fI.o
theorem Sn(P:List Fn)(x:Nd)(env:List (List av))(u:Int)(K:Option I3)(cap B bv:Nat)(S:Nat->Prop)(A PA:Option I3)(aW aX:Nat)(w:Iv)(hI:nN w B bv 1 P PA aX)(hS:ni w B S bv u)(hst:au w bv 168 (jQ u P PA aX++[I J (3000:Nat),I J 0])) :
  I0 Tryz.prog 176 #[.pointer (M ⟨bv,0,U⟩),exV x.k x.n x.p x.c K x.ks.len cap,V A env.length aW] w (dM S bv u 168 (jQ u P PA aX) (.err 7) w):=by
 have al:=hI.lt;have a2:w.cell? ⟨bv,2,U⟩=M (I J 3000):=ay hst
 have a3:w.cell? ⟨bv,3,U⟩=M (I J 0):=ay hst
 obtain⟨W0,aZ⟩:=aD ((w.alloc (Is #[I J x.k,I J x.n,I J x.p,I J x.c,V K x.ks.len cap] 33)).alloc (Is #[I J 0,V U 0 0] 86))
 have hg:Ix w.heap.size w W0:=by rw[aZ];go_grown
 have hq:au W0 (w.heap.size+1) 86 [I J 0,V U 0 0]:=by
  rw[aZ];have:=au.new (w.alloc (Is #[I J x.k,I J x.n,I J x.p,I J x.c,V K x.ks.len cap] 33)) 86 [I J 0,V U 0 0];simpa using this
 have HF:=aj (vo P u 0 (3000:Nat) 7 (aS S (w.heap.size+1)) bv aX PA W0 (hst.next hg) hS.u0 hS.u1);have DY:=aj hq;have HG:=aj hg;have dI:=aj aZ;clear hI hS hst hg hq aZ;go_enter func176,ntmps176;go_wp2_with fail;rw[<-dI.o];refine HF.o.mono ?_;rintro e w2 ⟨v,zs,s',c',rfl,⟨A2,c2,rfl,hp2,hk2⟩,h3,h4,h5⟩;have HQ:=aj (mg (w:=w) (w1:=w2) (cap:=c2) (r:=.err 7) hp2 hk2 h3 ((aC.of_below HG.o).trans h4) h5 al ((h4.block _ DY.o.lt ah).trans DY.o))
 obtain⟨⟨k0,k1,q0,q1⟩,⟨y0,y1⟩,dz⟩:=HQ.o;have fI:=aj dz;clear dz HQ hp2 hk2 h3 h4 h5 HF;go_wp2;refine bodyPost_ret (v:=fJ u A2 zs.length c2) (by simp[results,results176,go_sem,y0,y1]) rfl ?_;exact fI.o
variable{t:Nat}
theorem zQ(h:t<=3000)(h2:s<t):Good s (kR u R t):=by
 unfold kR;split
 ·exact⟨h2,h⟩
 ·show (3:Int)≠0;decide
theorem Sy{k:Int}{a b:List av}(h:t<=3000)(h2:s<t):Good s (xD u k a b t):=by
 unfold xD;split
 ·exact zQ h h2
 split
 ·exact zQ h h2
 split
 ·exact zQ h h2
 split
 ·exact⟨h2,h⟩
 cases iq b with
 | none=>show (4:Int)≠0;decide
 | some m=>
  simp only;split
  ·show (6:Int)≠0;decide
  ·exact⟨h2,h⟩
theorem oh{g:Nd->List (List av)->Nat->jD (List av)}(hg:∀ x env s,Good s (g x env s)):∀ (es:Es) (env:List (List av)) (s:Nat),acP s (cB g env es s):=by
 intro es
 induction es with
 | nil=>intro env s;exact⟨Jn _,id⟩
 | cons k n' p c ks r _ qz=>
  intro env s;simp only[cB];have a:=hg ⟨k,n',p,c,ks⟩ env s
  revert a
  cases g ⟨k,n',p,c,ks⟩ env s with
  | err c=>intro a;exact a
  | ok z s1=>
   intro a;have b:=qz env s1;simp only
   revert b
   cases cB g env r s1 with
   | err c=>intro b;exact b
   | ok zs s2=>intro b;exact⟨by have:=a.1;have:=b.1;omega,λh=>b.2 a.2⟩
theorem Kt{g:Nd->List (List av)->Nat->jD (List av)}(hg:∀ x env s,Good s (g x env s))(outs:Es):∀ (c:Nat) (zs:List (List av)) (s:Nat),acP s (iJ g outs c zs s):=by
 intro c
 induction c with
 | zero=>intro zs s;exact⟨Jn _,id⟩
 | succ c ihc=>
  intro zs s;simp only[iJ];have a:=oh hg outs zs s
  revert a
  cases cB g zs outs s with
  | err c=>intro a;exact a
  | ok TK s1=>
   intro a;have b:=ihc TK s1;simp only
   revert b
   cases iJ g outs c TK s1 with
   | err c=>intro b;exact b
   | ok ws s2=>intro b;exact⟨by have:=a.1;have:=b.1;omega,λh=>b.2 (a.2 h)⟩
theorem BZ:∀ (f:Nat) (x:Nd) (env:List (List av)) (s:Nat),Good s (pv u P f x env s):=by
 intro f
 induction f with
 | zero=>intro x env s;show (7:Int)≠0;decide
 | succ f ih=>
  intro x env s;have e7:Good (α:=List av) s (.err 7):=by show (7:Int)≠0;decide
  have e4:Good (α:=List av) s (.err 4):=by show (4:Int)≠0;decide
  simp only[pv]
  by_cases hs:3000<=s
  ·rw[if_pos hs];exact e7
  rw[if_neg hs]
  by_cases h1:x.k=1
  ·rw[if_pos h1];exact⟨ah,ah⟩
  rw[if_neg h1]
  by_cases h2:x.k=2
  ·rw[if_pos h2];exact⟨ah,ah⟩
  rw[if_neg h2];have up:∀ (y:Nd) (env:List (List av)) (t:Nat),s<=t->Good s (pv u P f y env t):=λy env t ht=>by
   have b:=ih y env t
   revert b
   cases pv u P f y env t with
   | err c=>intro b;exact b
   | ok z t2=>intro b;exact⟨by have:=b.1;omega,b.2⟩
  by_cases h8:x.k=8
  ·rw[if_pos h8]
   cases x.ks.get? 0 with
   | none=>exact e7
   | some a=>
   cases x.ks.get? 1 with
   | none=>exact e7
   | some b=>
   cases x.ks.get? 2 with
   | none=>exact e7
   | some c=>
    have g:=ih a env (s+1);simp only
    revert g
    cases pv u P f a env (s+1) with
    | err c=>intro g;exact g
    | ok z s1=>
     intro g;simp only;have:=g.1;cases iq z with
     | none=>exact e4
     | some m=>
      simp only;split
      ·exact up _ _ _ ah
      ·exact up _ _ _ ah
  rw[if_neg h8]
  by_cases h9:x.k=9
  ·rw[if_pos h9]
   cases x.ks.get? 0 with
   | none=>exact e7
   | some a=>
   cases x.ks.get? 1 with
   | none=>exact e7
   | some b=>
    have g:=ih a env (s+1);simp only
    revert g
    cases pv u P f a env (s+1) with
    | err c=>intro g;exact g
    | ok z s1=>
     intro g;have:=g.1;exact up _ _ _ ah
  rw[if_neg h9];have g:=oh ih x.ks env (s+1)
  revert g
  cases cB (pv u P f) env x.ks (s+1) with
  | err c=>intro g;exact g
  | ok zs s1=>
   intro g;have g1:=g.1;have g2:=g.2 ah;simp only
   by_cases h10:x.k=10
   ·rw[if_pos h10]
    cases P[x.n.toNat]? with
    | none=>exact e7
    | some q=>
     simp only;cases q.outs.get? x.p.toNat with
     | none=>exact e7
     | some y=>exact up _ _ _ ah
   rw[if_neg h10]
   by_cases h11:x.k=11
   ·rw[if_pos h11]
    cases P[x.n.toNat]? with
    | none=>exact e7
    | some q=>
     simp only;have b:=Kt ih q.outs x.c.toNat zs s1
     revert b
     cases iJ (pv u P f) q.outs x.c.toNat zs s1 with
     | err c=>intro b;exact b
     | ok ws s2=>intro b;exact⟨by have:=b.1;omega,b.2 g2⟩
   rw[if_neg h11];exact Sy g2 ah
variable{f:Nat}{c0:Int}{x:Nd}{z:List av}
theorem iB(h:gJ (om u P f c0 x env s) z s' c')(hc:c'=0):c0=0/\∃ t:Nat,s'=t/\s<t/\t<=3000/\pv u P f x env s=.ok z t:=by
 unfold om at h
 by_cases h0:c0=0
 ·rw[if_pos h0] at h
  have g:=BZ (u:=u) (P:=P) f x env s
  revert h g
  cases pv u P f x env s with
  | err e=>
   intro h g;exact absurd (hc.symm.trans h).symm g
  | ok z0 t=>
   rintro⟨rfl,rfl,_⟩ g;exact⟨h0,t,rfl,g.1,g.2,rfl⟩
 ·rw[if_neg h0] at h
  exact absurd (hc.symm.trans h).symm h0
theorem nH(h:gJ (om u P f c0 x env s) z s' c')(hc:c'≠0)(h0:c0=0):pv u P f x env s=.err c':=by
 unfold om at h;rw[if_pos h0] at h
 revert h
 cases pv u P f x env s with
 | err e=>intro h;exact congrArg _ h.symm
 | ok z0 t=>
  rintro⟨rfl,rfl,h⟩;exact absurd h hc
variable{es:Es}
theorem iY{z:List (List av)}(h:gJ (mI u P f c0 es env s) z s' c')(hc:c'=0):c0=0/\∃ t:Nat,s'=t/\s<=t/\(s<=3000->t<=3000)/\cB (pv u P f) env es s=.ok z t:=by
 unfold mI at h
 by_cases h0:c0=0
 ·rw[if_pos h0] at h
  have g:=oh (BZ (u:=u) (P:=P) f) es env s
  revert h g
  cases cB (pv u P f) env es s with
  | err e=>
   intro h g;exact absurd (hc.symm.trans h).symm g
  | ok z0 t=>
   rintro⟨rfl,rfl,_⟩ g;exact⟨h0,t,rfl,g.1,g.2,rfl⟩
 ·rw[if_neg h0] at h
  exact absurd (hc.symm.trans h).symm h0
theorem jS{z:List (List av)}(h:gJ (mI u P f c0 es env s) z s' c')(hc:c'≠0)(h0:c0=0):cB (pv u P f) env es s=.err c':=by
 unfold mI at h;rw[if_pos h0] at h
 revert h
 cases cB (pv u P f) env es s with
 | err e=>intro h;exact congrArg _ h.symm
 | ok z0 t=>
  rintro⟨rfl,rfl,h⟩;exact absurd h hc
theorem lu.kid{fn:Int}{y:Nd}{K K':Option I3}{bB:Nat}{aW j:Nat}(h:lu w B S u P fn x K cap A env aW)(ho:aC S w w')(hg:w.heap.size<=g)
  (hy:x.ks.get? j=M y) (hk:x.k≠9∨j≠1) (Gv:bJ w' B y.ks K') (hc:y.ks.len<=bB) (hm:bB<=I2):lu w' B (aS S g) u P fn y K' bB A env aW:=by
 have hf:=kr h.form hy;have GJ:bQ x.k env.length j=env.length:=by
  rcases hk with hk | hk
  ·exact eD hk
  ·exact wY hk
 rw[GJ] at hf;have hd:=Es.iG hy;have hs:=Es.dY hy;exact⟨Gv,hc,hm,h.qj.fresh ho hg,h.el,h.em,by have:=h.big;omega,by have:=h.size;omega,hf,h.f0,h.f1⟩
def wJ(zs:List av)(s' c' n s2 c2:Int):Prop:=match iq zs with | some m=>n=m/\s2=s'/\c2=c' | none=>n=0/\c2=if c'=0 then 4 else c'
theorem afA{a:Nd}{zs:List av}{s2 c2:Int}(hres:gJ (om u P f 0 a env (t+1)) zs s' c')(nZ:wJ zs s' c' n s2 c2) :
  (c2=0->∃ t1:Nat,s2=t1/\t+1<t1/\t1<=3000/\iq zs=M n/\pv u P f a env (t+1)=.ok zs t1) /\
  (c2≠0->∀ X Y:Nat->jD (List av),(match pv u P f a env (t+1) with | .err e=>jD.err e | .ok z s1=>match iq z with | none=>.err 4 | some n=>if n=0 then X s1 else Y s1)=.err c2):=by
 unfold wJ at nZ;cases hz:iq zs with
 | some m=>
  rw[hz] at nZ;obtain⟨rfl,rfl,rfl⟩:=nZ;refine⟨λh=>?_,λh X Y=>?_⟩
  ·obtain⟨_,t1,e1,e2,e3,e4⟩:=iB hres h
   exact⟨t1,e1,e2,e3,rfl,e4⟩
  ·rw[nH hres h rfl]
 | none=>
  rw[hz] at nZ;obtain⟨rfl,hc⟩:=nZ
  by_cases h0:c'=0
  ·rw[if_pos h0] at hc
   obtain⟨_,t1,e1,e2,e3,e4⟩:=iB hres h0;refine⟨λh=>ah,λh X Y=>?_⟩;rw[e4];simp only;rw[hz,hc]
  ·rw[if_neg h0] at hc
   refine⟨λh=>ah,λh X Y=>?_⟩;rw[nH hres h0 rfl,hc]
theorem abH(P:List Fn)(x:Nd)(u:Int)(f:Nat)(IH:rH P u f)(env:List (List av))(t:Nat)(fn:Int)(K:Option I3)(cap B:Nat)(S:Nat->Prop)(bv:Nat)(A PA:Option I3)(aW aX:Nat)(w:Iv)(hI:nN w B bv 1 P PA aX)(hS:ni w B S bv u)(hst:au w bv 168 (jQ u P PA aX++[I J t,I J 0]))(hN:lu w B S u P fn x K cap A env aW)(hk:x.k=8)(hs:t<3000)(hf:3001<=t+(f+1)) :
  I0 Tryz.prog 176 #[.pointer (M ⟨bv,0,U⟩),exV x.k x.n x.p x.c K x.ks.len cap,V A env.length aW] w (dM S bv u 168 (jQ u P PA aX) (pv u P (f+1) x env t) w):=by
 have hl3:=wR hN.form hk;obtain⟨a,ha⟩:=Es.eG (show 0<x.ks.len by omega);obtain⟨b,hb⟩:=Es.eG (show 1<x.ks.len by omega);obtain⟨c,hc⟩:=Es.eG (show 2<x.ks.len by omega);have iZ:ak (pv u P (f+1) x env t=match pv u P f a env (t+1) with | .err e=>.err e | .ok z s1=>match iq z with | none=>.err 4 | some n=>if n=0 then pv u P f b env s1 else pv u P f c env s1):=by
  show _=_;rw[pv,if_neg ah,if_neg ah,if_neg ah,if_pos hk,ha,hb,hc]
  all_goals rfl
 obtain⟨rr,dG⟩:=aD (pv u P (f+1) x env t)
 rw[<-dG];have HRR:=aj (dG.trans iZ.o);clear iZ dG;have qK:=aj IH;clear IH;have al:=hI.lt;have hB:=hI.blow;have a1:w.cell? ⟨bv,1,U⟩=M (I J u):=ay hst
 have a2:w.cell? ⟨bv,2,U⟩=M (I J t):=ay hst
 have a3:w.cell? ⟨bv,3,U⟩=M (I J 0):=ay hst
 have z2:w.frozen? ⟨bv,2,U⟩=false:=hst.frozen _;have e1:((t:Int)==3000)=false:=by simp;omega
 have hE:=ow hI hS hst 8 x.n x.p x.c K x.ks.len cap;obtain⟨bk,ok,rfl,Er⟩:=hN.kids.get ha;obtain⟨bk1,ok1,e0,CX⟩:=hN.kids.get hb;obtain⟨rfl,rfl⟩:bk=bk1/\ok=ok1:=by simpa using e0
 obtain⟨bk1,ok1,e0',hec⟩:=hN.kids.get hc;obtain⟨rfl,rfl⟩:bk=bk1/\ok=ok1:=by simpa using e0'
 have hb0:=bI hE.only hB al;obtain⟨Ka,QT,hkB,k0,k1,k2,k3,k4,kc,km,kk⟩:=(Er.below hb0).cells;simp only[Mn,Mm] at k0 k1 k2 k3 k4;have hkl:bk<w.heap.size:=ah;have l0:(0:Int)<(x.ks.len:Int):=ah;have l1:(1:Int)<(x.ks.len:Int):=ah;have l2:(2:Int)<(x.ks.len:Int):=ah;have mY:aC S w (FB w bv t 8 x.n x.p x.c (M ⟨bk,ok,U⟩) x.ks.len cap):=hE.only.sub λq e=>by rw[e];exact hS.bv
 have LP:=aj (hN.kid mY (g:=w.heap.size+1) ah ha (.inl ah) kk kc km);have HOS:=aj mY;have oO:=aj hS;have HEb:=aj CX;have HEc:=aj hec;have HE:=aj hE;have HN:=aj hN;have HA:=aj ha;have HB:=aj hb;have HC:=aj hc;have HK:=aj hk;clear hI hst Er CX hec hE hN ha hb hc hb0 kk e0 e0' hl3 hS mY;rw[hk];clear hk;go_enter func176,ntmps176;go_wp2_with fail;refine (qK.o a env ((t+1:Nat):Int) (t+1) 0 fn Ka QT B (aS S (w.heap.size+1)) bv A PA aW aX _ HE.o.ev HE.o.si HE.o.st (λ_=>⟨rfl,ah,ah⟩) LP.o).mono ?_;rintro e w1 ⟨v,zs,s',c',rfl,⟨Az,cz,rfl,hpz,hkz⟩,hS1,fC,hres⟩
 have xI:=aj hpz;have Vv:=aj (AY P u c' s' (aS S (w.heap.size+1)) bv aX cz PA Az zs w1 hS1 hpz hkz);have dZ:=aj (HE.o.only.trans fC);have Pn:=aj (aM HE.o.bx fC ah);have qL:=aj (aM HE.o.rb fC ah);have fD:=aj hres;have agm:=aj (HE.o.ev.only fC);have hsz1:w.heap.size+2<=w1.heap.size:=by have:=fC.size;have:=HE.o.size;omega
 clear hpz hkz hS1 fC hres;go_wp2_with fail;refine Vv.o.mono ?_;rintro e w2 ⟨n,s2,c2,rfl,hS2,hO2,nZ⟩;have Pb:=aj (afA fD.o (show wJ zs s' c' n s2 c2 from nZ));have HS2:=aj hS2;have rO:=aj (dZ.o.trans hO2);have IY:=aj (aM Pn.o hO2 ah);have sj:=aj (aM qL.o hO2 ah);have agn:=aj (agm.o.only hO2);have hsz2:w.heap.size+2<=w2.heap.size:=by have:=hO2.size;omega
 have nQ:ak (ni w2 B (aS S (w.heap.size+1)) bv u):=oO.o.fresh ah ah ah ah;have agz:ak (aC S w w2):=rO.o.sub λq e=>by rw[e];exact oO.o.bv
 have hb2:=bI rO.o hB al;have y4:w2.cell? ⟨w.heap.size,4,U⟩=M (V (M ⟨bk,ok,U⟩) x.ks.len cap):=ay IY.o
 have amA:bk<w2.heap.size:=ah;clear hS2 hO2 nZ Vv fD xI Pn qL agm dZ LP
 by_cases hz:n=0
 ·have z0:(n==0)=true:=by simpa using hz
  have HZ:=aj hz;obtain⟨Kb,I9,_,k0,k1,k2,k3,k4,kc,km,kk⟩:=(HEb.o.below hb2).cells;have HNb:=aj (HN.o.kid agz.o (g:=w.heap.size+1) ah HB.o (.inl (by have:=HK.o;omega)) kk kc km);have HQQ:ak (om u P f c2 b env s2.toNat=rr):=by
   show _=_;rw[HRR.o]
   by_cases hc0:c2=0
   ·obtain⟨t1,rfl,g1,g2,g3,g4⟩:=Pb.o.1 hc0
    rw[g4];simp only;rw[g3];simp only;rw[if_pos HZ.o];unfold om;rw[if_pos hc0];simp only[Mz]
   ·rw[Pb.o.2 hc0]
    unfold om;rw[if_neg hc0]
  clear kk hb2 hz;go_wp2_with fail;refine (qK.o b env s2 s2.toNat c2 fn Kb I9 B (aS S (w.heap.size+1)) bv A PA aW aX w2 agn.o nQ.o HS2.o (λh=>by
   obtain⟨t1,rfl,h1,h2,_⟩:=Pb.o.1 h;exact⟨by simp,by simp;omega,by simp;omega⟩) HNb.o).mono ?_;rintro e w3 ⟨v,wE,s3,c3,rfl,⟨A3,jr,rfl,hp3,qH⟩,mP,hO3,dK⟩
  rw[HQQ.o] at dK;have HQ:=aj (mg (w:=w) (w1:=w3) (cap:=jr) (r:=rr) hp3 qH mP (rO.o.trans hO3) dK al (aM sj.o hO3 ah));clear hp3 qH mP hO3 dK;obtain⟨⟨k0,k1,q0,q1⟩,⟨y0,y1⟩,dz⟩:=HQ.o;have fI:=aj dz;clear dz HQ;go_wp2;refine bodyPost_ret (v:=fJ u A3 wE.length jr) (by simp[results,results176,go_sem,y0,y1]) rfl ?_;exact fI.o
 ·have z0:(n==0)=false:=by simpa using hz
  have HZ:=aj hz;obtain⟨Kb,I9,_,k0,k1,k2,k3,k4,kc,km,kk⟩:=(HEc.o.below hb2).cells;have HNb:=aj (HN.o.kid agz.o (g:=w.heap.size+1) ah HC.o (.inl (by have:=HK.o;omega)) kk kc km);have HQQ:ak (om u P f c2 c env s2.toNat=rr):=by
   show _=_;rw[HRR.o]
   by_cases hc0:c2=0
   ·obtain⟨t1,rfl,g1,g2,g3,g4⟩:=Pb.o.1 hc0
    rw[g4];simp only;rw[g3];simp only;rw[if_neg HZ.o];unfold om;rw[if_pos hc0];simp only[Mz]
   ·rw[Pb.o.2 hc0]
    unfold om;rw[if_neg hc0]
  clear kk hb2 hz;go_wp2_with fail;refine (qK.o c env s2 s2.toNat c2 fn Kb I9 B (aS S (w.heap.size+1)) bv A PA aW aX w2 agn.o nQ.o HS2.o (λh=>by
   obtain⟨t1,rfl,h1,h2,_⟩:=Pb.o.1 h;exact⟨by simp,by simp;omega,by simp;omega⟩) HNb.o).mono ?_;rintro e w3 ⟨v,wE,s3,c3,rfl,⟨A3,jr,rfl,hp3,qH⟩,mP,hO3,dK⟩
  rw[HQQ.o] at dK;have HQ:=aj (mg (w:=w) (w1:=w3) (cap:=jr) (r:=rr) hp3 qH mP (rO.o.trans hO3) dK al (aM sj.o hO3 ah));clear hp3 qH mP hO3 dK;obtain⟨⟨k0,k1,q0,q1⟩,⟨y0,y1⟩,dz⟩:=HQ.o;have fI:=aj dz;clear dz HQ;go_wp2;refine bodyPost_ret (v:=fJ u A3 wE.length jr) (by simp[results,results176,go_sem,y0,y1]) rfl ?_;exact fI.o
end
end Go.Proofs.YtgfkglhelfkpoaaGreat
