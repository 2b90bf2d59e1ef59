/- Parts of the proof. -/
set_option maxRecDepth 100000
set_option maxHeartbeats 1000000
open Option renaming some→M,none→U
open Bool renaming and_eq_true→Mb
open Nat renaming zero_add→Mu
open List renaming getD→Up
namespace Go.Proofs.YtgfkglhelfkpoaaGreat
theorem ah{p:Prop}(h:p:=by omega):p:=h
theorem bM{p:Prop}(h:p:=by decide):p:=h
end Go.Proofs.YtgfkglhelfkpoaaGreat
namespace Go.Proofs.YtgfkglhelfkpoaaGreat.Plain
def jg(f:Nat->Int):Nat->Int
 | 0=>0
 | n+1=>jg f n+f n
theorem DJ{f g:Nat->Int}(n:Nat)(h:∀ k,k<n->f k=g k):jg f n=jg g n:=by
 induction n with
 | zero=>rfl
 | succ n ih=>simp only[jg];rw[ih λk hk=>h k ah,h n ah]
theorem zX(f:Nat->Int)(n:Nat):jg f (n+1)=f 0+jg (λk=>f (k+1)) n:=by
 induction n with
 | zero=>simp[jg]
 | succ n ih=>rw[jg,ih];simp only[jg];omega
theorem Z7(f g:Nat->Int)(n:Nat):jg (λk=>f k+g k) n=jg f n+jg g n:=by
 induction n with
 | zero=>rfl
 | succ n ih=>simp only[jg];rw[ih];omega
theorem Z9(c:Int)(f:Nat->Int)(n:Nat):jg (λk=>c*f k) n=c*jg f n:=by
 induction n with
 | zero=>simp[jg]
 | succ n ih=>simp only[jg];rw[ih,Int.mul_add]
def bO:Nat->Nat->Nat
 | _,0=>1
 | 0,_+1=>0
 | n+1,k+1=>bO n k+bO n (k+1)
theorem Ah:∀ (n k:Nat),n<k->bO n k=0:=by
 intro n
 induction n with
 | zero=>intro k h;cases k with
  | zero=>omega
  | succ k=>rfl
 | succ n ih=>intro k h;cases k with
  | zero=>omega
  | succ k=>simp only[bO];rw[ih k ah,ih (k+1) ah]
theorem Gf:∀ (n:Nat),bO n n=1:=by
 intro n
 induction n with
 | zero=>rfl
 | succ n ih=>simp only[bO];rw[ih,Ah n (n+1) ah]
theorem Cu:∀ (n k:Nat),(k+1)*bO (n+1) (k+1)=(n+1)*bO n k:=by
 intro n
 induction n with
 | zero=>
  intro k;cases k with
  | zero=>rfl
  | succ k=>simp[bO]
 | succ m ih=>
  intro k;cases k with
  | zero=>
   have h:=ih 0;simp only[bO] at h ⊢;omega
  | succ j=>
   have h1:=ih j;have h2:=ih (j+1);have e:bO (m+1+1) (j+1+1)=bO (m+1) (j+1)+bO (m+1) (j+1+1):=rfl;have e2:bO (m+1) (j+1)=bO m j+bO m (j+1):=rfl;rw[e,Nat.mul_add,h2];have h3:(j+1+1)*bO (m+1) (j+1)=(m+1)*bO m j+bO (m+1) (j+1):=by rw[<-h1,Nat.add_mul _ 1,Nat.one_mul]
   rw[h3];have h4:(m+1+1)*bO (m+1) (j+1)=(m+1)*(bO m j+bO m (j+1))+bO (m+1) (j+1):=by rw[Nat.add_mul (m+1) 1,Nat.one_mul,e2]
   rw[h4,Nat.mul_add];omega
theorem ahi(a:Int):∀ n:Nat,(a+1) ^ n=jg (λk=>(bO n k:Int)*a ^ k) (n+1):=by
 intro n
 induction n with
 | zero=>simp[jg,bO]
 | succ n ih=>
  rw[Int.pow_succ,ih,Int.mul_add,Int.mul_one];have e1:jg (λk=>(bO (n+1) k:Int)*a ^ k) (n+1+1)=1+jg (λk=>(bO n k:Int)*a ^ k*a+(bO n (k+1):Int)*a ^ (k+1)) (n+1):=by
   rw[zX];have:(bO (n+1) 0:Int)*a ^ 0=1:=by simp[bO]
   rw[this]
   congr 1
   refine DJ _ λk _=>?_
   show ((bO n k+bO n (k+1):Nat):Int)*a ^ (k+1)=_;rw[Int.natCast_add,Int.add_mul,Int.pow_succ,Int.mul_assoc]
  have e2:jg (λk=>(bO n k:Int)*a ^ k) (n+1+1)=jg (λk=>(bO n k:Int)*a ^ k) (n+1):=by
   show jg _ (n+1)+(bO n (n+1):Int)*a ^ (n+1)=_;rw[Ah n (n+1) ah];simp
  rw[zX] at e2;have e3:(bO n 0:Int)*a ^ 0=1:=by cases n<;>simp[bO]
  rw[e3] at e2;rw[e1,Z7,<-e2];have e4:jg (λk=>(bO n k:Int)*a ^ k*a) (n+1)=a*jg (λk=>(bO n k:Int)*a ^ k) (n+1):=by
   rw[<-Z9];exact DJ _ λk _=>by rw[Int.mul_comm]
  rw[e4,<-e2,Int.mul_comm];omega
def Pr(p:Nat):Prop:=1<p/\∀ k,0<k->k<p->Nat.Coprime k p
theorem M4{p:Nat}(hp:Pr p){k:Nat}(h0:0<k)(h1:k<p):p ∣ bO p k:=by
 obtain⟨k',rfl⟩:∃ k',k=k'+1:=⟨k - 1,ah⟩
 obtain⟨p',rfl⟩:∃ p',p=p'+1:=⟨p - 1,ah⟩
 have h:=Cu p' k';have hd:(p'+1) ∣ (k'+1)*bO (p'+1) (k'+1):=by rw[h];exact Nat.dvd_mul_right _ _
 exact (Nat.Coprime.symm (hp.2 (k'+1) ah h1)).dvd_of_dvd_mul_left hd
theorem Z8{p:Nat}(f:Nat->Int)(n:Nat)(h:∀ k,k<n->(p:Int) ∣ f k):(p:Int) ∣ jg f n:=by
 induction n with
 | zero=>exact Int.dvd_zero _
 | succ n ih=>simp only[jg];exact Int.dvd_add (ih λk hk=>h k ah) (h n ah)
theorem ahl{p:Nat}(hp:Pr p)(a:Int):(p:Int) ∣ (a+1) ^ p - (a ^ p+1):=by
 obtain⟨p',rfl⟩:∃ p',p=p'+1:=⟨p - 1,by have:=hp.1;omega⟩
 rw[ahi];show _ ∣ jg _ (p'+1)+(bO (p'+1) (p'+1):Int)*a ^ (p'+1) - _;rw[zX,Gf];have e:(bO (p'+1) 0:Int)*a ^ 0=1:=by simp[bO]
 rw[e];have hd:((p'+1:Nat):Int) ∣ jg (λk=>(bO (p'+1) (k+1):Int)*a ^ (k+1)) p':=by
  refine Z8 _ _ λk hk=>?_
  exact Int.dvd_trans (Int.natCast_dvd_natCast.2 (M4 hp ah ah)) (Int.dvd_mul_right _ _)
 have e2:(1+jg (λk=>(bO (p'+1) (k+1):Int)*a ^ (k+1)) p'+((1:Nat):Int)*a ^ (p'+1) - (a ^ (p'+1)+1))=jg (λk=>(bO (p'+1) (k+1):Int)*a ^ (k+1)) p':=by
  generalize a ^ (p'+1)=x;omega
 rw[e2];exact hd
theorem aa5{p:Nat}(hp:Pr p)(a:Nat):(p:Int) ∣ (a:Int) ^ p - (a:Int):=by
 induction a with
 | zero=>
  obtain⟨p',rfl⟩:∃ p',p=p'+1:=⟨p - 1,by have:=hp.1;omega⟩
  rw[Int.pow_succ];simp
 | succ a ih=>
  have h:=ahl hp (a:Int);have e:((a+1:Nat):Int)=(a:Int)+1:=ah;rw[e];have:=Int.dvd_add h ih;have e2:((a:Int)+1) ^ p - ((a:Int) ^ p+1)+((a:Int) ^ p - (a:Int))=((a:Int)+1) ^ p - ((a:Int)+1):=ah
  rwa [e2] at this
theorem aa4{p:Nat}(hp:Pr p)(a:Nat)(h0:0<a)(h1:a<p):(p:Int) ∣ (a:Int) ^ (p - 1) - 1:=by
 have h:=aa5 hp a;obtain⟨p',rfl⟩:∃ p',p=p'+1:=⟨p - 1,ah⟩
 rw[Int.pow_succ] at h;have e:(a:Int) ^ p'*(a:Int) - (a:Int)=(a:Int)*((a:Int) ^ p' - 1):=by rw[Int.mul_sub,Int.mul_one,Int.mul_comm]
 rw[e] at h;have hc:Nat.Coprime (p'+1) a:=Nat.Coprime.symm (hp.2 a h0 h1);have h':(p'+1) ∣ ((a:Int)*((a:Int) ^ p' - 1)).natAbs:=Int.ofNat_dvd_left.1 h;rw[Int.natAbs_mul,Int.natAbs_natCast] at h';have h2:=hc.dvd_of_dvd_mul_left h';exact Int.ofNat_dvd_left.2 h2
def PP:Nat:=1000003
theorem Pp:PP=1000003:=rfl
theorem aes:∀ d,d<1001->2<=d->1000003 % d≠0:=by decide +kernel
theorem agW:Pr PP:=by
 refine⟨by rw[Pp];omega,λk h0 h1=>?_⟩;unfold Nat.Coprime;have hg1:Nat.gcd k PP ∣ PP:=Nat.gcd_dvd_right _ _;have hg2:Nat.gcd k PP<=k:=Nat.gcd_le_left _ h0;have hg3:0<Nat.gcd k PP:=Nat.gcd_pos_of_pos_left _ h0;generalize Nat.gcd k PP=g at *;obtain⟨q,hq⟩:=hg1;rw[Pp] at hq h1
 rcases Nat.lt_or_ge g 2 with hg | hg
 ·omega
 ·exfalso
  rcases Nat.lt_or_ge g 1001 with hlt | hge
  ·exact aes g hlt hg (by rw[hq];simp)
  ·have hq2:2<=q:=by
    rcases Nat.lt_or_ge q 2 with h | h
    ·rcases (show q=0∨q=1 by omega) with rfl | rfl<;>omega
    ·exact h
   have hq3:q<1001:=by
    rcases Nat.lt_or_ge q 1001 with h | h
    ·exact h
    ·exfalso
     have:=Nat.mul_le_mul hge h;omega
   exact aes q hq3 hq2 (by rw[hq];simp)
def rs(n:Int):Int:=n % 1000003
def pl(a b:Int):Int:=(a+b) % 1000003
def tm(a b:Int):Int:=(a*b) % 1000003
def pw(a:Int)(n:Nat):Int:=a ^ n % 1000003
def iv(a:Int):Int:=pw a (PP - 2)
theorem uT(n:Int):0<=rs n/\rs n<=1000002:=by unfold rs;omega
theorem Fx(a b:Int):0<=pl a b/\pl a b<=1000002:=by unfold pl;omega
theorem wD(a b:Int):0<=tm a b/\tm a b<=1000002:=by unfold tm;omega
theorem aiD(a:Int)(n:Nat):0<=pw a n/\pw a n<=1000002:=by unfold pw;omega
theorem aiu(a:Int):0<=iv a/\iv a<=1000002:=aiD _ _
theorem Zr(a b:Int):(a*(b % 1000003)) % 1000003=(a*b) % 1000003:=by rw[Int.mul_emod,Int.emod_emod,<-Int.mul_emod]
theorem afG(a b:Int):((a % 1000003)*b) % 1000003=(a*b) % 1000003:=by rw[Int.mul_emod,Int.emod_emod,<-Int.mul_emod]
theorem aeu(a b:Int):pl (rs a) (rs b)=pl a b:=by unfold pl rs;omega
theorem aex(a b:Int):tm (rs a) (rs b)=tm a b:=by unfold tm rs;rw[Zr,afG]
theorem aiC(a:Int)(n:Nat):(a % 1000003) ^ n % 1000003=a ^ n % 1000003:=by
 induction n with
 | zero=>rw[Int.pow_zero,Int.pow_zero]
 | succ n ih=>rw[Int.pow_succ,Int.pow_succ,Int.mul_emod,ih,Int.emod_emod,<-Int.mul_emod]
theorem ZT(a:Int)(n:Nat):pw (rs a) n=pw a n:=aiC a n
theorem Bc(a:Int)(n:Nat):pw (a*a % 1000003) n=pw a (2*n):=by
 unfold pw;rw[aiC,Int.pow_mul]
 congr 2
 rw[Int.pow_succ,Int.pow_succ,Int.pow_zero,Int.one_mul]
theorem Zf{a:Int}(h:rs a≠0):tm a (iv a)=1:=by
 have hb:=uT a;obtain⟨b,hb'⟩:=Int.eq_ofNat_of_zero_le hb.1;have hlt:b<PP:=by rw[Pp];omega
 have h1:=aa4 agW b ah hlt;have e:tm a (iv a)=(b:Int) ^ (PP - 1) % 1000003:=by
  unfold iv;rw[<-aex a,<-ZT a,hb'];unfold tm pw rs;rw[Int.emod_emod,Zr];rw[show PP - 1=PP - 2+1 by rw[Pp]];rw[Int.pow_succ,Int.mul_comm]
 rw[e];have hP:(PP:Int)=1000003:=rfl;rw[hP] at h1;generalize (b:Int) ^ (PP - 1)=x at *;omega
end Go.Proofs.YtgfkglhelfkpoaaGreat.Plain
namespace Go.Proofs.YtgfkglhelfkpoaaGreat.Plain
def cf(a:List Int)(k:Nat):Int:=a.getD k 0
theorem aaX{a:List Int}{k:Nat}(h:k<a.length):a[k]? = M (cf a k):=by simp[cf,Up,h]
theorem wN{a:List Int}{k:Nat}(h:a.length<=k):cf a k=0:=by simp[cf,Up,h]
def mk(n:Nat)(f:Nat->Int):List Int:=(List.range n).map f
theorem iV(n:Nat)(f:Nat->Int):(mk n f).length=n:=by simp[mk]
theorem Pz{n:Nat}{f:Nat->Int}{k:Nat}(h:k<n):cf (mk n f) k=f k:=by simp[cf,Up,mk,h]
theorem mk_congr{n:Nat}{f g:Nat->Int}(h:∀ k,k<n->f k=g k):mk n f=mk n g:=by
 unfold mk;exact List.map_congr_left λk hk=>h k (by simpa using hk)
def gM(a b:List Int):List Int:=mk a.length λk=>pl (cf a k) (cf b k)
def alg(a b:List Int)(k i:Nat):Int:=jg (λi=>cf a i*cf b (k - i)) i
def mulL(a b:List Int):List Int:=mk a.length λk=>rs (alg a b k (k+1))
def ae3(a b:List Int):Nat->List Int
 | 0=>[]
 | k+1=>ae3 a b k++[tm (rs (cf a k - jg (λi=>cf (ae3 a b k) i*cf b (k - i)) k)) (iv (cf b 0))]
def akd(a b:List Int):List Int:=ae3 a b a.length
theorem gU(a b:List Int):(gM a b).length=a.length:=iV _ _
end Go.Proofs.YtgfkglhelfkpoaaGreat.Plain
namespace Go.Proofs.YtgfkglhelfkpoaaGreat.Plain
def fP(n lo hi:Int):Bool:=decide (lo<=n)&&decide (n<=hi)
theorem bH{n lo hi:Int}:fP n lo hi=true ↔ lo<=n/\n<=hi:=by simp[fP]
theorem Fg{n lo hi:Int}:fP n lo hi=false ↔ ¬ (lo<=n/\n<=hi):=by
 rw[<-bH];cases fP n lo hi<;>simp
theorem kQ{n lo hi:Int}(h:lo<=n)(h':n<=hi):fP n lo hi=true:=bH.2 ⟨h,h'⟩
end Go.Proofs.YtgfkglhelfkpoaaGreat.Plain
namespace Go.Proofs.YtgfkglhelfkpoaaGreat
section
open Plain
inductive Es where
 | nil:Es
 | cons (k n p c:Int) (ks rest:Es):Es
structure Nd where
 k:Int
 n:Int
 p:Int
 c:Int
 ks:Es
namespace Es
def len:Es->Nat
 | .nil=>0
 | .cons _ _ _ _ _ r=>r.len+1
def size:Es->Nat
 | .nil=>0
 | .cons _ _ _ _ ks r=>1+ks.size+r.size
def depth:Es->Nat
 | .nil=>0
 | .cons _ _ _ _ ks r=>max (ks.depth+1) r.depth
def get? : Es->Nat->Option Nd
 | .nil,_=>U
 | .cons k n p c ks _,0=>M ⟨k,n,p,c,ks⟩
 | .cons _ _ _ _ _ r,i+1=>r.get? i
theorem aF(es:Es):es.len<=es.size:=by
 induction es with
 | nil=>simp[len,size]
 | cons k n p c ks r _ ih=>simp only[len,size];omega
variable{es:Es}{i:Nat}{x:Nd}
theorem yg(h:es.get? i=M x):i<es.len:=by
 induction es generalizing i with
 | nil=>simp[get?] at h
 | cons k n p c ks r _ ih=>
  cases i with
  | zero=>simp[len]
  | succ i=>simp only[get?] at h;have:=ih h;simp only[len];omega
theorem eG(h:i<es.len):∃ x,es.get? i=M x:=by
 induction es generalizing i with
 | nil=>simp[len] at h
 | cons k n p c ks r _ ih=>
  cases i with
  | zero=>exact⟨_,rfl⟩
  | succ i=>simp only[len] at h;exact ih ah
theorem dY(h:es.get? i=M x):x.ks.size<es.size:=by
 induction es generalizing i with
 | nil=>simp[get?] at h
 | cons k n p c ks r _ ih=>
  cases i with
  | zero=>simp only[get?,Option.some.injEq] at h;subst h;simp only[size];omega
  | succ i=>simp only[get?] at h;have:=ih h;simp only[size];omega
theorem J2(h:es.len=0):es=.nil:=by cases es<;>simp_all [len]
end Es
structure Fn where
 name:ByteArray
 params:Int
 outs:Es
def bL(P:List Fn)(fn vars k n p c:Int)(len:Nat):Bool:=
 if k=10∨k=11 then
  fP n 0 (fn - 1)&&(match P[n.toNat]? with
   | none=>false
   | some f=>decide ((len:Int)=f.params)&&fP p 0 ((f.outs.len:Int) - 1)&&(if k=10 then c==0 else decide ((f.outs.len:Int)=f.params)&&fP c 0 8))
 else p==0&&c==0 &&
  (if k=1 then len==0&&fP n 0 1000002
     else if k=2 then len==0&&fP n 0 (vars - 1)
     else if k=3∨k=4∨k=5∨k=6∨k=9 then n==0&&len==2
     else if k=7 then n==0&&len==1
     else if k=8 then n==0&&len==3
     else false)
def bQ(k vars:Int)(i:Nat):Int:=if k=9/\i=1 then vars+1 else vars
def aK(P:List Fn)(fn:Int):Es->Int->Nat->Int->Bool
 | .nil,_,_,_=>true
 | .cons k n p c ks r,k',i,vars=>bL P fn (bQ k' vars i) k n p c ks.len&&aK P fn ks k 0 (bQ k' vars i)&&aK P fn r k' (i+1) vars
def formed(P:List Fn)(fn vars:Int)(x:Nd):Bool:=bL P fn vars x.k x.n x.p x.c x.ks.len&&aK P fn x.ks x.k 0 vars
def Nd.size(x:Nd):Nat:=1+x.ks.size
def Nd.depth(x:Nd):Nat:=x.ks.depth+1
def bT(P:List Fn)(x:Nd)(vars funcs:Int):Bool:=
 fP vars 0 412&&fP funcs 0 P.length&&decide (x.size<=400)&&decide (x.depth<=60)&&formed P funcs vars x
theorem Jq{P:List Fn}{fn:Int}{es:Es}{k' vars:Int}{i j:Nat}{x:Nd}(h:aK P fn es k' i vars=true)(hx:es.get? j=M x):formed P fn (bQ k' vars (i+j)) x=true:=by
 induction es generalizing i j with
 | nil=>simp[Es.get?] at hx
 | cons k n p c ks r _ ih=>
  simp only[aK,Mb] at h;cases j with
  | zero=>simp only[Es.get?,Option.some.injEq] at hx;subst hx;simp[formed,h]
  | succ j=>simp only[Es.get?] at hx;have:=ih h.2 hx;rwa [show i+(j+1)=i+1+j by omega]
inductive jD (α:Type) where
 | err (c:Int):jD α
 | ok (v:α) (s:Nat):jD α
def Ya(ev:Nd->List (List Int)->Nat->jD (List Int))(env:List (List Int)):Es->Nat->jD (List (List Int))
 | .nil,s=>.ok [] s
 | .cons k n p c ks r,s=>match ev ⟨k,n,p,c,ks⟩ env s with
  | .err e=>.err e
  | .ok z s1=>match Ya ev env r s1 with
   | .err e=>.err e
   | .ok zs s2=>.ok (z :: zs) s2
def Yb(ev:Nd->List (List Int)->Nat->jD (List Int))(outs:Es):Nat->List (List Int)->Nat->jD (List (List Int))
 | 0,zs,s=>.ok zs s
 | c+1,zs,s=>match Ya ev zs outs s with
  | .err e=>.err e
  | .ok TK s'=>Yb ev outs c TK s'
structure Ops where
 num:Int->List Int
 add:List Int->List Int->List Int
 sub:List Int->List Int->List Int
 mul:List Int->List Int->List Int
 div:List Int->List Int->List Int
 neg:List Int->List Int
def ops(n:Nat):Ops where
 num x:=mk n λk=>if k=0 then x else 0
 add:=gM
 sub a b:=mk a.length λk=>rs (cf a k - cf b k)
 mul:=mulL
 div:=akd
 neg a:=mk a.length λk=>tm (cf a k) 1000002
def ev(O:Ops)(P:List Fn):Nat->Nd->List (List Int)->Nat->jD (List Int)
 | 0,_,_,_=>.err 7
 | f+1,x,env,s=>
  if 3000<=s then .err 7
  else if x.k=1 then .ok (O.num x.n) (s+1)
  else if x.k=2 then .ok (env.getD x.n.toNat []) (s+1)
  else if x.k=8 then match x.ks.get? 0,x.ks.get? 1,x.ks.get? 2 with
   | some a,M b,M c=>match ev O P f a env (s+1) with
    | .err e=>.err e
    | .ok z s1=>if cf z 0=0 then ev O P f b env s1 else ev O P f c env s1
   | _,_,_=>.err 7
  else if x.k=9 then match x.ks.get? 0,x.ks.get? 1 with
   | some a,M b=>match ev O P f a env (s+1) with
    | .err e=>.err e
    | .ok z s1=>ev O P f b (env++[z]) s1
   | _,_=>.err 7
  else match Ya (ev O P f) env x.ks (s+1) with
   | .err e=>.err e
   | .ok zs s1=>
    if x.k=10 then match P[x.n.toNat]? with
     | none=>.err 7
     | some g=>match g.outs.get? x.p.toNat with
      | none=>.err 7
      | some y=>ev O P f y zs s1
    else if x.k=11 then match P[x.n.toNat]? with
     | none=>.err 7
     | some g=>match Yb (ev O P f) g.outs x.c.toNat zs s1 with
      | .err e=>.err e
      | .ok ws s2=>.ok (ws.getD x.p.toNat []) s2
    else if x.k=3 then .ok (O.add (zs.getD 0 []) (zs.getD 1 [])) s1
    else if x.k=4 then .ok (O.sub (zs.getD 0 []) (zs.getD 1 [])) s1
    else if x.k=5 then .ok (O.mul (zs.getD 0 []) (zs.getD 1 [])) s1
    else if x.k=7 then .ok (O.neg (zs.getD 0 [])) s1
    else if cf (zs.getD 1 []) 0=0 then .err 6
    else .ok (O.div (zs.getD 0 []) (zs.getD 1 [])) s1
def g_:Es->Int->Int
 | .nil,l=>l
 | .cons _ _ _ _ ks r,l=>if l<0 then l else g_ r (g_ ks (l - 1))
theorem Fh(es:Es)(l:Int)(h:l<0):g_ es l=l:=by
 cases es with
 | nil=>rfl
 | cons=>simp[g_,h]
theorem yE(es:Es):∀ l:Int,(es.size:Int)<=l->g_ es l=l - es.size:=by
 induction es with
 | nil=>intro l _;simp[g_,Es.size]
 | cons k n p c ks r BR qz=>
  intro l h;simp only[Es.size] at h ⊢;rw[g_,if_neg ah,BR _ ah,qz _ ah];omega
theorem JZ(es:Es):∀ l:Int,-1<=l->l<es.size->g_ es l=-1:=by
 induction es with
 | nil=>intro l h h';simp[Es.size] at h';simp[g_];omega
 | cons k n p c ks r BR qz=>
  intro l h h';simp only[Es.size] at h';rw[g_];split
  ·omega
  ·by_cases hk:l - 1<ks.size
   ·rw[BR _ ah hk]
    exact Fh _ _ ah
   ·rw[yE ks (l - 1) ah]
    exact qz _ ah ah
theorem Zj(es:Es)(l:Int)(h:-1<=l):-1<=g_ es l/\g_ es l<=l:=by
 by_cases h':l<es.size
 ·rw[JZ es l h h'];omega
 ·rw[yE es l ah];omega
theorem Dc(es:Es)(l:Int)(h:-1<=l):0<=g_ es l ↔ (es.size:Int)<=l/\0<=l:=by
 by_cases h':l<es.size
 ·rw[JZ es l h h'];omega
 ·rw[yE es l ah];omega
def ny(P:List Fn):Es->Int->Int->Bool
 | .nil,_,_=>true
 | .cons k n p c ks r,vars,funcs=>bT P ⟨k,n,p,c,ks⟩ vars funcs&&ny P r vars funcs
def QU(c:UInt8):Bool:=decide (97<=c.toNat/\c.toNat<=122)
def aaY(c:UInt8):Bool:=QU c || decide (48<=c.toNat/\c.toNat<=57)
def lM(s:ByteArray):Bool:=decide (1<=s.size/\s.size<=12)&&(match s.data.toList with | []=>false | c :: r=>QU c&&r.all aaY)
def qp(P:List Fn)(i:Nat)(f:Fn):Bool:=
 lM f.name&&!((P.take i).any λg=>g.name==f.name)&&fP f.params 0 12&&fP f.outs.len 1 12&&ny P f.outs f.params i&&decide (f.outs.size<=400)
def mX(P:List Fn):List Fn->Nat->Bool
 | [],_=>true
 | f :: fs,i=>qp P i f&&mX P fs (i+1)
def gF(P:List Fn):Bool:=decide (P.length<=16)&&mX P P 0
theorem Jk{P:List Fn}{es:Es}{vars funcs:Int}{i:Nat}{x:Nd}(h:ny P es vars funcs=true)(hx:es.get? i=M x):bT P x vars funcs=true:=by
 induction es generalizing i with
 | nil=>simp[Es.get?] at hx
 | cons k n p c ks r _ ih=>
  simp only[ny,Mb] at h;cases i with
  | zero=>simp only[Es.get?,Option.some.injEq] at hx;subst hx;exact h.1
  | succ i=>exact ih h.2 hx
theorem E9{P:List Fn}:∀ {fs:List Fn}{j i:Nat}{f:Fn},mX P fs j=true->fs[i]? = M f->qp P (j+i) f=true
 | [],_,_,_,_,h=>by simp at h
 | g :: fs,j,0,f,h,hf=>by simp only[mX,Mb] at h;simp at hf;subst hf;exact h.1
 | g :: fs,j,i+1,f,h,hf=>by
  simp only[mX,Mb] at h;simp at hf;have:=E9 h.2 hf
  rwa [show j+(i+1)=j+1+i by omega]
theorem Ou{P:List Fn}{i:Nat}{f:Fn}(h:gF P=true)(hf:P[i]? = M f):qp P i f=true:=by
 simp only[gF,Mb] at h;have:=E9 h.2 hf
 rwa [Mu] at this
section
variable {R:List Int->List Int->Prop}
end
end
end Go.Proofs.YtgfkglhelfkpoaaGreat
namespace Go.Proofs.YtgfkglhelfkpoaaGreat.Plain
end Go.Proofs.YtgfkglhelfkpoaaGreat.Plain
namespace Go.Proofs.YtgfkglhelfkpoaaGreat.Plain
end Go.Proofs.YtgfkglhelfkpoaaGreat.Plain
namespace Go.Proofs.YtgfkglhelfkpoaaGreat.Plain
end Go.Proofs.YtgfkglhelfkpoaaGreat.Plain
namespace Go.Proofs.YtgfkglhelfkpoaaGreat
section
open Plain
end
end Go.Proofs.YtgfkglhelfkpoaaGreat
