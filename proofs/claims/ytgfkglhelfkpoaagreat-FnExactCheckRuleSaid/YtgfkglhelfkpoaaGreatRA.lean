/- Texts put together: PField, PSeries, PChoose, PEs, PEsOk, PEvRel, PSeriesLaw, PExp, PConv, PEvOps. -/
set_option maxRecDepth 100000
set_option maxHeartbeats 1000000
namespace Go.Proofs.YtgfkglhelfkpoaaGreat.Plain
def sumN (f:Nat→Int):Nat→Int
 | 0=>0
 | n+1=>sumN f n+f n
theorem sumN_congr {f g:Nat→Int} (n:Nat) (h:∀ k,k<n→f k=g k):sumN f n=sumN g n:=by
 induction n with
 | zero=>rfl
 | succ n ih=>simp only [sumN];rw [ih fun k hk=>h k (by omega),h n (by omega)]
theorem sumN_head (f:Nat→Int) (n:Nat):sumN f (n+1)=f 0+sumN (fun k=>f (k+1)) n:=by
 induction n with
 | zero=>simp [sumN]
 | succ n ih=>rw [sumN,ih];simp only [sumN];omega
theorem sumN_add (f g:Nat→Int) (n:Nat):sumN (fun k=>f k+g k) n=sumN f n+sumN g n:=by
 induction n with
 | zero=>rfl
 | succ n ih=>simp only [sumN];rw [ih];omega
theorem sumN_mul (c:Int) (f:Nat→Int) (n:Nat):sumN (fun k=>c*f k) n=c*sumN f n:=by
 induction n with
 | zero=>simp [sumN]
 | succ n ih=>simp only [sumN];rw [ih,Int.mul_add]
theorem sumN_zero (n:Nat):sumN (fun _=>0) n=0:=by
 induction n with
 | zero=>rfl
 | succ n ih=>simp only [sumN];rw [ih];rfl
def chooseN:Nat→Nat→Nat
 | _,0=>1
 | 0,_+1=>0
 | n+1,k+1=>chooseN n k+chooseN n (k+1)
theorem chooseN_big:∀ (n k:Nat),n<k→chooseN n k=0:=by
 intro n
 induction n with
 | zero=>intro k h;cases k with
  | zero=>omega
  | succ k=>rfl
 | succ n ih=>intro k h;cases k with
  | zero=>omega
  | succ k=>simp only [chooseN];rw [ih k (by omega),ih (k+1) (by omega)]
theorem chooseN_self:∀ (n:Nat),chooseN n n=1:=by
 intro n
 induction n with
 | zero=>rfl
 | succ n ih=>simp only [chooseN];rw [ih,chooseN_big n (n+1) (by omega)]
theorem chooseN_absorb:∀ (n k:Nat),(k+1)*chooseN (n+1) (k+1)=(n+1)*chooseN n k:=by
 intro n
 induction n with
 | zero=>
  intro k
  cases k with
  | zero=>rfl
  | succ k=>simp [chooseN]
 | succ m ih=>
  intro k
  cases k with
  | zero=>
   have h:=ih 0
   simp only [chooseN] at h ⊢
   omega
  | succ j=>
   have h1:=ih j
   have h2:=ih (j+1)
   have e:chooseN (m+1+1) (j+1+1)=chooseN (m+1) (j+1)+chooseN (m+1) (j+1+1):=rfl
   have e2:chooseN (m+1) (j+1)=chooseN m j+chooseN m (j+1):=rfl
   rw [e,Nat.mul_add,h2]
   have h3:(j+1+1)*chooseN (m+1) (j+1)=(m+1)*chooseN m j+chooseN (m+1) (j+1):=by rw [←h1,Nat.add_mul _ 1,Nat.one_mul]
   rw [h3]
   have h4:(m+1+1)*chooseN (m+1) (j+1)=(m+1)*(chooseN m j+chooseN m (j+1))+chooseN (m+1) (j+1):=by rw [Nat.add_mul (m+1) 1,Nat.one_mul,e2]
   rw [h4,Nat.mul_add];omega
theorem binom (a:Int):∀ n:Nat,(a+1) ^ n=sumN (fun k=>(chooseN n k:Int)*a ^ k) (n+1):=by
 intro n
 induction n with
 | zero=>simp [sumN,chooseN]
 | succ n ih=>
  rw [Int.pow_succ,ih,Int.mul_add,Int.mul_one]
  have e1:sumN (fun k=>(chooseN (n+1) k:Int)*a ^ k) (n+1+1)=1+sumN (fun k=>(chooseN n k:Int)*a ^ k*a+(chooseN n (k+1):Int)*a ^ (k+1)) (n+1):=by
   rw [sumN_head]
   have:(chooseN (n+1) 0:Int)*a ^ 0=1:=by simp [chooseN]
   rw [this]
   congr 1
   refine sumN_congr _ fun k _=>?_
   show ((chooseN n k+chooseN n (k+1):Nat):Int)*a ^ (k+1)=_
   rw [Int.natCast_add,Int.add_mul,Int.pow_succ,Int.mul_assoc]
  have e2:sumN (fun k=>(chooseN n k:Int)*a ^ k) (n+1+1)=sumN (fun k=>(chooseN n k:Int)*a ^ k) (n+1):=by
   show sumN _ (n+1)+(chooseN n (n+1):Int)*a ^ (n+1)=_
   rw [chooseN_big n (n+1) (by omega)];simp
  rw [sumN_head] at e2
  have e3:(chooseN n 0:Int)*a ^ 0=1:=by cases n<;>simp [chooseN]
  rw [e3] at e2
  rw [e1,sumN_add,←e2]
  have e4:sumN (fun k=>(chooseN n k:Int)*a ^ k*a) (n+1)=a*sumN (fun k=>(chooseN n k:Int)*a ^ k) (n+1):=by
   rw [←sumN_mul]
   exact sumN_congr _ fun k _=>by rw [Int.mul_comm]
  rw [e4,←e2,Int.mul_comm];omega
def Pr (p:Nat):Prop:=1<p∧∀ k,0<k→k<p→Nat.Coprime k p
theorem choose_dvd {p:Nat} (hp:Pr p) {k:Nat} (h0:0<k) (h1:k<p):p ∣ chooseN p k:=by
 obtain ⟨k',rfl⟩:∃ k',k=k'+1:=⟨k - 1,by omega⟩
 obtain ⟨p',rfl⟩:∃ p',p=p'+1:=⟨p - 1,by omega⟩
 have h:=chooseN_absorb p' k'
 have hd:(p'+1) ∣ (k'+1)*chooseN (p'+1) (k'+1):=by rw [h];exact Nat.dvd_mul_right _ _
 exact (Nat.Coprime.symm (hp.2 (k'+1) (by omega) h1)).dvd_of_dvd_mul_left hd
theorem sumN_dvd {p:Nat} (f:Nat→Int) (n:Nat) (h:∀ k,k<n→(p:Int) ∣ f k):(p:Int) ∣ sumN f n:=by
 induction n with
 | zero=>exact Int.dvd_zero _
 | succ n ih=>simp only [sumN];exact Int.dvd_add (ih fun k hk=>h k (by omega)) (h n (by omega))
theorem dream {p:Nat} (hp:Pr p) (a:Int):(p:Int) ∣ (a+1) ^ p - (a ^ p+1):=by
 obtain ⟨p',rfl⟩:∃ p',p=p'+1:=⟨p - 1,by have:=hp.1;omega⟩
 rw [binom]
 show _ ∣ sumN _ (p'+1)+(chooseN (p'+1) (p'+1):Int)*a ^ (p'+1) - _
 rw [sumN_head,chooseN_self]
 have e:(chooseN (p'+1) 0:Int)*a ^ 0=1:=by simp [chooseN]
 rw [e]
 have hd:((p'+1:Nat):Int) ∣ sumN (fun k=>(chooseN (p'+1) (k+1):Int)*a ^ (k+1)) p':=by
  refine sumN_dvd _ _ fun k hk=>?_
  exact Int.dvd_trans (Int.natCast_dvd_natCast.2 (choose_dvd hp (by omega) (by omega))) (Int.dvd_mul_right _ _)
 have e2:(1+sumN (fun k=>(chooseN (p'+1) (k+1):Int)*a ^ (k+1)) p'+((1:Nat):Int)*a ^ (p'+1) - (a ^ (p'+1)+1))=sumN (fun k=>(chooseN (p'+1) (k+1):Int)*a ^ (k+1)) p':=by
  generalize a ^ (p'+1)=x
  omega
 rw [e2];exact hd
theorem fermatN {p:Nat} (hp:Pr p) (a:Nat):(p:Int) ∣ (a:Int) ^ p - (a:Int):=by
 induction a with
 | zero=>
  obtain ⟨p',rfl⟩:∃ p',p=p'+1:=⟨p - 1,by have:=hp.1;omega⟩
  rw [Int.pow_succ];simp
 | succ a ih=>
  have h:=dream hp (a:Int)
  have e:((a+1:Nat):Int)=(a:Int)+1:=by omega
  rw [e]
  have:=Int.dvd_add h ih
  have e2:((a:Int)+1) ^ p - ((a:Int) ^ p+1)+((a:Int) ^ p - (a:Int))=((a:Int)+1) ^ p - ((a:Int)+1):=by omega
  rwa [e2] at this
theorem fermat1 {p:Nat} (hp:Pr p) (a:Nat) (h0:0<a) (h1:a<p):(p:Int) ∣ (a:Int) ^ (p - 1) - 1:=by
 have h:=fermatN hp a
 obtain ⟨p',rfl⟩:∃ p',p=p'+1:=⟨p - 1,by omega⟩
 rw [Int.pow_succ] at h
 have e:(a:Int) ^ p'*(a:Int) - (a:Int)=(a:Int)*((a:Int) ^ p' - 1):=by rw [Int.mul_sub,Int.mul_one,Int.mul_comm]
 rw [e] at h
 have hc:Nat.Coprime (p'+1) a:=Nat.Coprime.symm (hp.2 a h0 h1)
 have h':(p'+1) ∣ ((a:Int)*((a:Int) ^ p' - 1)).natAbs:=Int.ofNat_dvd_left.1 h
 rw [Int.natAbs_mul,Int.natAbs_natCast] at h'
 have h2:=hc.dvd_of_dvd_mul_left h'
 exact Int.ofNat_dvd_left.2 h2
def PP:Nat:=1000003
theorem PP_eq:PP=1000003:=rfl
theorem noDiv:∀ d,d<1001→2≤d→1000003 % d≠0:=by decide +kernel
theorem PP_pr:Pr PP:=by
 refine ⟨by rw [PP_eq];omega,fun k h0 h1=>?_⟩
 unfold Nat.Coprime
 have hg1:Nat.gcd k PP ∣ PP:=Nat.gcd_dvd_right _ _
 have hg2:Nat.gcd k PP≤k:=Nat.gcd_le_left _ h0
 have hg3:0<Nat.gcd k PP:=Nat.gcd_pos_of_pos_left _ h0
 generalize Nat.gcd k PP=g at *
 obtain ⟨q,hq⟩:=hg1
 rw [PP_eq] at hq h1
 rcases Nat.lt_or_ge g 2 with hg | hg
 ·omega
 ·exfalso
  rcases Nat.lt_or_ge g 1001 with hlt | hge
  ·exact noDiv g hlt hg (by rw [hq];simp)
  ·have hq2:2≤q:=by
    rcases Nat.lt_or_ge q 2 with h | h
    ·rcases (show q=0∨q=1 by omega) with rfl | rfl<;>omega
    ·exact h
   have hq3:q<1001:=by
    rcases Nat.lt_or_ge q 1001 with h | h
    ·exact h
    ·exfalso
     have:=Nat.mul_le_mul hge h
     omega
   exact noDiv q hq3 hq2 (by rw [hq];simp)
def rs (n:Int):Int:=n % 1000003
def pl (a b:Int):Int:=(a+b) % 1000003
def tm (a b:Int):Int:=(a*b) % 1000003
def pw (a:Int) (n:Nat):Int:=a ^ n % 1000003
def iv (a:Int):Int:=pw a (PP - 2)
theorem rs_bd (n:Int):0≤rs n∧rs n≤1000002:=by unfold rs;omega
theorem pl_bd (a b:Int):0≤pl a b∧pl a b≤1000002:=by unfold pl;omega
theorem tm_bd (a b:Int):0≤tm a b∧tm a b≤1000002:=by unfold tm;omega
theorem pw_bd (a:Int) (n:Nat):0≤pw a n∧pw a n≤1000002:=by unfold pw;omega
theorem iv_bd (a:Int):0≤iv a∧iv a≤1000002:=pw_bd _ _
theorem mulr (a b:Int):(a*(b % 1000003)) % 1000003=(a*b) % 1000003:=by rw [Int.mul_emod,Int.emod_emod,←Int.mul_emod]
theorem mull (a b:Int):((a % 1000003)*b) % 1000003=(a*b) % 1000003:=by rw [Int.mul_emod,Int.emod_emod,←Int.mul_emod]
theorem pl_rs (a b:Int):pl (rs a) (rs b)=pl a b:=by unfold pl rs;omega
theorem tm_rs (a b:Int):tm (rs a) (rs b)=tm a b:=by unfold tm rs;rw [mulr,mull]
theorem powr (a:Int) (n:Nat):(a % 1000003) ^ n % 1000003=a ^ n % 1000003:=by
 induction n with
 | zero=>rw [Int.pow_zero,Int.pow_zero]
 | succ n ih=>rw [Int.pow_succ,Int.pow_succ,Int.mul_emod,ih,Int.emod_emod,←Int.mul_emod]
theorem pw_rs (a:Int) (n:Nat):pw (rs a) n=pw a n:=powr a n
theorem pw_two_even (a:Int) (n:Nat):pw (a*a % 1000003) n=pw a (2*n):=by
 unfold pw
 rw [powr,Int.pow_mul]
 congr 2
 rw [Int.pow_succ,Int.pow_succ,Int.pow_zero,Int.one_mul]
theorem iv_mul {a:Int} (h:rs a≠0):tm a (iv a)=1:=by
 have hb:=rs_bd a
 obtain ⟨b,hb'⟩:=Int.eq_ofNat_of_zero_le hb.1
 have hlt:b<PP:=by rw [PP_eq];omega
 have h1:=fermat1 PP_pr b (by omega) hlt
 have e:tm a (iv a)=(b:Int) ^ (PP - 1) % 1000003:=by
  unfold iv
  rw [←tm_rs a,←pw_rs a,hb']
  unfold tm pw rs
  rw [Int.emod_emod,mulr]
  rw [show PP - 1=PP - 2+1 by rw [PP_eq]]
  rw [Int.pow_succ,Int.mul_comm]
 rw [e]
 have hP:(PP:Int)=1000003:=rfl
 rw [hP] at h1
 generalize (b:Int) ^ (PP - 1)=x at *
 omega
end Go.Proofs.YtgfkglhelfkpoaaGreat.Plain
namespace Go.Proofs.YtgfkglhelfkpoaaGreat.Plain
def cf (a:List Int) (k:Nat):Int:=a.getD k 0
theorem cf_some {a:List Int} {k:Nat} (h:k<a.length):a[k]? = some (cf a k):=by simp [cf,List.getD,h]
theorem cf_big {a:List Int} {k:Nat} (h:a.length≤k):cf a k=0:=by simp [cf,List.getD,h]
def mk (n:Nat) (f:Nat→Int):List Int:=(List.range n).map f
theorem mk_length (n:Nat) (f:Nat→Int):(mk n f).length=n:=by simp [mk]
theorem cf_mk {n:Nat} {f:Nat→Int} {k:Nat} (h:k<n):cf (mk n f) k=f k:=by simp [cf,List.getD,mk,h]
theorem mk_congr {n:Nat} {f g:Nat→Int} (h:∀ k,k<n→f k=g k):mk n f=mk n g:=by
 unfold mk;exact List.map_congr_left fun k hk=>h k (by simpa using hk)
theorem mk_cf (a:List Int):mk a.length (cf a)=a:=by
 apply List.ext_getElem
 ·simp [mk]
 ·intro i h1 h2
  simp [mk,cf,List.getD,h2]
theorem list_ext {a b:List Int} (hl:a.length=b.length) (h:∀ k,k<a.length→cf a k=cf b k):a=b:=by
 rw [←mk_cf a,←mk_cf b,hl]
 exact mk_congr fun k hk=>h k (by omega)
def addL (a b:List Int):List Int:=mk a.length fun k=>pl (cf a k) (cf b k)
def mulT (a b:List Int) (k i:Nat):Int:=sumN (fun i=>cf a i*cf b (k - i)) i
def mulL (a b:List Int):List Int:=mk a.length fun k=>rs (mulT a b k (k+1))
def divT (a b:List Int):Nat→List Int
 | 0=>[]
 | k+1=>divT a b k++[tm (rs (cf a k - sumN (fun i=>cf (divT a b k) i*cf b (k - i)) k)) (iv (cf b 0))]
def divL (a b:List Int):List Int:=divT a b a.length
theorem addL_length (a b:List Int):(addL a b).length=a.length:=mk_length _ _
end Go.Proofs.YtgfkglhelfkpoaaGreat.Plain
namespace Go.Proofs.YtgfkglhelfkpoaaGreat.Plain
def inR (n lo hi:Int):Bool:=decide (lo≤n)&&decide (n≤hi)
theorem inR_true {n lo hi:Int}:inR n lo hi=true ↔ lo≤n∧n≤hi:=by simp [inR]
theorem inR_false {n lo hi:Int}:inR n lo hi=false ↔ ¬ (lo≤n∧n≤hi):=by
 rw [←inR_true];cases inR n lo hi<;>simp
theorem inR_yes {n lo hi:Int} (h:lo≤n) (h':n≤hi):inR n lo hi=true:=inR_true.2 ⟨h,h'⟩
end Go.Proofs.YtgfkglhelfkpoaaGreat.Plain
namespace Go.Proofs.YtgfkglhelfkpoaaGreat
section
open Plain
inductive Es where
 | nil:Es
 | cons (k n p c:Int) (ks rest:Es):Es
structure Nd where
 k:Int
 n:Int
 p:Int
 c:Int
 ks:Es
namespace Es
def len:Es→Nat
 | .nil=>0
 | .cons _ _ _ _ _ r=>r.len+1
def size:Es→Nat
 | .nil=>0
 | .cons _ _ _ _ ks r=>1+ks.size+r.size
def depth:Es→Nat
 | .nil=>0
 | .cons _ _ _ _ ks r=>max (ks.depth+1) r.depth
def get? : Es→Nat→Option Nd
 | .nil,_=>none
 | .cons k n p c ks _,0=>some ⟨k,n,p,c,ks⟩
 | .cons _ _ _ _ _ r,i+1=>r.get? i
theorem len_le_size (es:Es):es.len≤es.size:=by
 induction es with
 | nil=>simp [len,size]
 | cons k n p c ks r _ ih=>simp only [len,size];omega
theorem get?_lt {es:Es} {i:Nat} {x:Nd} (h:es.get? i=some x):i<es.len:=by
 induction es generalizing i with
 | nil=>simp [get?] at h
 | cons k n p c ks r _ ih=>
  cases i with
  | zero=>simp [len]
  | succ i=>simp only [get?] at h;have:=ih h;simp only [len];omega
theorem get?_some {es:Es} {i:Nat} (h:i<es.len):∃ x,es.get? i=some x:=by
 induction es generalizing i with
 | nil=>simp [len] at h
 | cons k n p c ks r _ ih=>
  cases i with
  | zero=>exact ⟨_,rfl⟩
  | succ i=>simp only [len] at h;exact ih (by omega)
theorem get?_size {es:Es} {i:Nat} {x:Nd} (h:es.get? i=some x):x.ks.size<es.size:=by
 induction es generalizing i with
 | nil=>simp [get?] at h
 | cons k n p c ks r _ ih=>
  cases i with
  | zero=>simp only [get?,Option.some.injEq] at h;subst h;simp only [size];omega
  | succ i=>simp only [get?] at h;have:=ih h;simp only [size];omega
theorem len0 {es:Es} (h:es.len=0):es=.nil:=by cases es<;>simp_all [len]
end Es
structure Fn where
 name:ByteArray
 params:Int
 outs:Es
def nodeOk (P:List Fn) (fn vars k n p c:Int) (len:Nat):Bool:=
 if k=10∨k=11 then
  inR n 0 (fn - 1)&&(match P[n.toNat]? with
   | none=>false
   | some f=>decide ((len:Int)=f.params)&&inR p 0 ((f.outs.len:Int) - 1)&&(if k=10 then c==0 else decide ((f.outs.len:Int)=f.params)&&inR c 0 8))
 else p==0&&c==0 &&
  (if k=1 then len==0&&inR n 0 1000002
     else if k=2 then len==0&&inR n 0 (vars - 1)
     else if k=3∨k=4∨k=5∨k=6∨k=9 then n==0&&len==2
     else if k=7 then n==0&&len==1
     else if k=8 then n==0&&len==3
     else false)
def kidVars (k vars:Int) (i:Nat):Int:=if k=9∧i=1 then vars+1 else vars
def formedL (P:List Fn) (fn:Int):Es→Int→Nat→Int→Bool
 | .nil,_,_,_=>true
 | .cons k n p c ks r,k',i,vars=>nodeOk P fn (kidVars k' vars i) k n p c ks.len&&formedL P fn ks k 0 (kidVars k' vars i)&&formedL P fn r k' (i+1) vars
def formed (P:List Fn) (fn vars:Int) (x:Nd):Bool:=nodeOk P fn vars x.k x.n x.p x.c x.ks.len&&formedL P fn x.ks x.k 0 vars
def Nd.size (x:Nd):Nat:=1+x.ks.size
def Nd.depth (x:Nd):Nat:=x.ks.depth+1
def exprOk (P:List Fn) (x:Nd) (vars funcs:Int):Bool:=
 inR vars 0 412&&inR funcs 0 P.length&&decide (x.size≤400)&&decide (x.depth≤60)&&formed P funcs vars x
theorem formedL_get {P:List Fn} {fn:Int} {es:Es} {k' vars:Int} {i j:Nat} {x:Nd} (h:formedL P fn es k' i vars=true) (hx:es.get? j=some x):formed P fn (kidVars k' vars (i+j)) x=true:=by
 induction es generalizing i j with
 | nil=>simp [Es.get?] at hx
 | cons k n p c ks r _ ih=>
  simp only [formedL,Bool.and_eq_true] at h
  cases j with
  | zero=>simp only [Es.get?,Option.some.injEq] at hx;subst hx;simp [formed,h]
  | succ j=>simp only [Es.get?] at hx;have:=ih h.2 hx;rwa [show i+(j+1)=i+1+j by omega]
inductive Res (α:Type) where
 | err (c:Int):Res α
 | ok (v:α) (s:Nat):Res α
def evAll (ev:Nd→List (List Int)→Nat→Res (List Int)) (env:List (List Int)):Es→Nat→Res (List (List Int))
 | .nil,s=>.ok [] s
 | .cons k n p c ks r,s=>match ev ⟨k,n,p,c,ks⟩ env s with
  | .err e=>.err e
  | .ok z s1=>match evAll ev env r s1 with
   | .err e=>.err e
   | .ok zs s2=>.ok (z :: zs) s2
def evLoop (ev:Nd→List (List Int)→Nat→Res (List Int)) (outs:Es):Nat→List (List Int)→Nat→Res (List (List Int))
 | 0,zs,s=>.ok zs s
 | c+1,zs,s=>match evAll ev zs outs s with
  | .err e=>.err e
  | .ok zs' s'=>evLoop ev outs c zs' s'
structure Ops where
 num:Int→List Int
 add:List Int→List Int→List Int
 sub:List Int→List Int→List Int
 mul:List Int→List Int→List Int
 div:List Int→List Int→List Int
 neg:List Int→List Int
def ops (n:Nat):Ops where
 num x:=mk n fun k=>if k=0 then x else 0
 add:=addL
 sub a b:=mk a.length fun k=>rs (cf a k - cf b k)
 mul:=mulL
 div:=divL
 neg a:=mk a.length fun k=>tm (cf a k) 1000002
def ev (O:Ops) (P:List Fn):Nat→Nd→List (List Int)→Nat→Res (List Int)
 | 0,_,_,_=>.err 7
 | f+1,x,env,s=>
  if 3000≤s then .err 7
  else if x.k=1 then .ok (O.num x.n) (s+1)
  else if x.k=2 then .ok (env.getD x.n.toNat []) (s+1)
  else if x.k=8 then match x.ks.get? 0,x.ks.get? 1,x.ks.get? 2 with
   | some a,some b,some c=>match ev O P f a env (s+1) with
    | .err e=>.err e
    | .ok z s1=>if cf z 0=0 then ev O P f b env s1 else ev O P f c env s1
   | _,_,_=>.err 7
  else if x.k=9 then match x.ks.get? 0,x.ks.get? 1 with
   | some a,some b=>match ev O P f a env (s+1) with
    | .err e=>.err e
    | .ok z s1=>ev O P f b (env++[z]) s1
   | _,_=>.err 7
  else match evAll (ev O P f) env x.ks (s+1) with
   | .err e=>.err e
   | .ok zs s1=>
    if x.k=10 then match P[x.n.toNat]? with
     | none=>.err 7
     | some g=>match g.outs.get? x.p.toNat with
      | none=>.err 7
      | some y=>ev O P f y zs s1
    else if x.k=11 then match P[x.n.toNat]? with
     | none=>.err 7
     | some g=>match evLoop (ev O P f) g.outs x.c.toNat zs s1 with
      | .err e=>.err e
      | .ok ws s2=>.ok (ws.getD x.p.toNat []) s2
    else if x.k=3 then .ok (O.add (zs.getD 0 []) (zs.getD 1 [])) s1
    else if x.k=4 then .ok (O.sub (zs.getD 0 []) (zs.getD 1 [])) s1
    else if x.k=5 then .ok (O.mul (zs.getD 0 []) (zs.getD 1 [])) s1
    else if x.k=7 then .ok (O.neg (zs.getD 0 [])) s1
    else if cf (zs.getD 1 []) 0=0 then .err 6
    else .ok (O.div (zs.getD 0 []) (zs.getD 1 [])) s1
end
section
open Plain
def leftL:Es→Int→Int
 | .nil,l=>l
 | .cons _ _ _ _ ks r,l=>if l<0 then l else leftL r (leftL ks (l - 1))
theorem leftL_neg (es:Es) (l:Int) (h:l<0):leftL es l=l:=by
 cases es with
 | nil=>rfl
 | cons=>simp [leftL,h]
theorem leftL_ge (es:Es):∀ l:Int,(es.size:Int)≤l→leftL es l=l - es.size:=by
 induction es with
 | nil=>intro l _;simp [leftL,Es.size]
 | cons k n p c ks r ihk ihr=>
  intro l h
  simp only [Es.size] at h ⊢
  rw [leftL,if_neg (by omega),ihk _ (by omega),ihr _ (by omega)]
  omega
theorem leftL_lt (es:Es):∀ l:Int,-1≤l→l<es.size→leftL es l=-1:=by
 induction es with
 | nil=>intro l h h';simp [Es.size] at h';simp [leftL];omega
 | cons k n p c ks r ihk ihr=>
  intro l h h'
  simp only [Es.size] at h'
  rw [leftL]
  split
  ·omega
  ·by_cases hk:l - 1<ks.size
   ·rw [ihk _ (by omega) hk]
    exact leftL_neg _ _ (by omega)
   ·rw [leftL_ge ks (l - 1) (by omega)]
    exact ihr _ (by omega) (by omega)
theorem leftL_bd (es:Es) (l:Int) (h:-1≤l):-1≤leftL es l∧leftL es l≤l:=by
 by_cases h':l<es.size
 ·rw [leftL_lt es l h h'];omega
 ·rw [leftL_ge es l (by omega)];omega
theorem leftL_ok (es:Es) (l:Int) (h:-1≤l):0≤leftL es l ↔ (es.size:Int)≤l∧0≤l:=by
 by_cases h':l<es.size
 ·rw [leftL_lt es l h h'];omega
 ·rw [leftL_ge es l (by omega)];omega
def exprsOk (P:List Fn):Es→Int→Int→Bool
 | .nil,_,_=>true
 | .cons k n p c ks r,vars,funcs=>exprOk P ⟨k,n,p,c,ks⟩ vars funcs&&exprsOk P r vars funcs
def chr1 (c:UInt8):Bool:=decide (97≤c.toNat∧c.toNat≤122)
def chr2 (c:UInt8):Bool:=chr1 c || decide (48≤c.toNat∧c.toNat≤57)
def nameOk (s:ByteArray):Bool:=decide (1≤s.size∧s.size≤12)&&(match s.data.toList with | []=>false | c :: r=>chr1 c&&r.all chr2)
def fnOk (P:List Fn) (i:Nat) (f:Fn):Bool:=
 nameOk f.name&&!((P.take i).any fun g=>g.name==f.name)&&inR f.params 0 12&&inR f.outs.len 1 12&&exprsOk P f.outs f.params i&&decide (f.outs.size≤400)
def fnsOk (P:List Fn):List Fn→Nat→Bool
 | [],_=>true
 | f :: fs,i=>fnOk P i f&&fnsOk P fs (i+1)
def progOk (P:List Fn):Bool:=decide (P.length≤16)&&fnsOk P P 0
theorem exprsOk_get {P:List Fn} {es:Es} {vars funcs:Int} {i:Nat} {x:Nd} (h:exprsOk P es vars funcs=true) (hx:es.get? i=some x):exprOk P x vars funcs=true:=by
 induction es generalizing i with
 | nil=>simp [Es.get?] at hx
 | cons k n p c ks r _ ih=>
  simp only [exprsOk,Bool.and_eq_true] at h
  cases i with
  | zero=>simp only [Es.get?,Option.some.injEq] at hx;subst hx;exact h.1
  | succ i=>exact ih h.2 hx
theorem fnsOk_get {P:List Fn}:∀ {fs:List Fn} {j i:Nat} {f:Fn},fnsOk P fs j=true→fs[i]? = some f→fnOk P (j+i) f=true
 | [],_,_,_,_,h=>by simp at h
 | g :: fs,j,0,f,h,hf=>by simp only [fnsOk,Bool.and_eq_true] at h;simp at hf;subst hf;exact h.1
 | g :: fs,j,i+1,f,h,hf=>by
  simp only [fnsOk,Bool.and_eq_true] at h
  simp at hf
  have:=fnsOk_get h.2 hf
  rwa [show j+(i+1)=j+1+i by omega]
theorem progOk_get {P:List Fn} {i:Nat} {f:Fn} (h:progOk P=true) (hf:P[i]? = some f):fnOk P i f=true:=by
 simp only [progOk,Bool.and_eq_true] at h
 have:=fnsOk_get h.2 hf
 rwa [Nat.zero_add] at this
end
section
open Plain
section
variable {R:List Int→List Int→Prop}
end
end
end Go.Proofs.YtgfkglhelfkpoaaGreat
namespace Go.Proofs.YtgfkglhelfkpoaaGreat.Plain
end Go.Proofs.YtgfkglhelfkpoaaGreat.Plain
namespace Go.Proofs.YtgfkglhelfkpoaaGreat.Plain
end Go.Proofs.YtgfkglhelfkpoaaGreat.Plain
namespace Go.Proofs.YtgfkglhelfkpoaaGreat.Plain
def conv (f g:Nat→Int) (k:Nat):Int:=sumN (fun i=>f i*g (k - i)) (k+1)
end Go.Proofs.YtgfkglhelfkpoaaGreat.Plain
namespace Go.Proofs.YtgfkglhelfkpoaaGreat
section
open Plain
end
end Go.Proofs.YtgfkglhelfkpoaaGreat
