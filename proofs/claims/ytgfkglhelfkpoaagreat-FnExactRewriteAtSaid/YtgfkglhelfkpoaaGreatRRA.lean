/- Parts of the proof. -/
import Derived.Test.YtgfkglhelfkpoaaGreatRQA
set_option maxRecDepth 100000
set_option maxHeartbeats 4000000
open Go.Proofs.Tryz
open Go.Value renaming int→I,slice→V
open Go.IntKind renaming i64→J
open Option renaming some→M,none→U
open Go.Ending renaming returned→If
open Go.Obj renaming cells→Is
open Go renaming World→Iv,Calls→I0,Value→I1,maxLen→I2,Addr→I3
open Go.RowKit renaming Below→Ix
open Nat renaming le_refl→Jn,add_zero→Mm,zero_mul→Mn
open Go.RowKit.Below renaming refl→Jx
open Bool renaming and_eq_true→Mb
open Int renaming toNat_natCast→Mz
open List renaming getD→Up
namespace Go.Proofs.YtgfkglhelfkpoaaGreat
section
open Plain
def lF:Es->Es->Bool
 | .nil,.nil=>true
 | .cons k n p c ks r,.cons k' n' p' c' aY r'=>(k==k'&&n==n'&&p==p'&&c==c')&&lF ks aY&&lF r r'
 | _,_=>false
def Nd.same(x y:Nd):Bool:=(x.k==y.k&&x.n==y.n&&x.p==y.p&&x.c==y.c)&&lF x.ks y.ks
abbrev Sub:=List (Option Nd)
def Sub.at(σ:Sub)(n:Int):Option Nd:=σ.getD n.toNat U
def qP(n:Int)(y:Nd)(σ:Sub):Option Sub:=
 match σ.at n with
 | some z=>if z.same y then M σ else U
 | none=>M (σ.set n.toNat (M y))
def mO:Es->Es->Sub->Option Sub
 | .nil,_,σ=>M σ
 | .cons _ _ _ _ _ _,.nil,_=>U
 | .cons k n _ _ ks r,.cons k' n' p' c' aY r',σ=>
  match (if k=2 then qP n ⟨k',n',p',c',aY⟩ σ else if k=k'/\n=n'/\ks.len=aY.len then mO ks aY σ else U) with
  | none=>U
  | some σ'=>mO r r' σ'
def jP(x y:Nd)(σ:Sub):Option Sub:=if x.k=2 then qP x.n y σ else if x.k=y.k/\x.n=y.n/\x.ks.len=y.ks.len then mO x.ks y.ks σ else U
theorem Rj(k n p c:Int)(ks r:Es)(k' n' p' c':Int)(aY r':Es)(σ:Sub) :
  mO (.cons k n p c ks r) (.cons k' n' p' c' aY r') σ=match jP ⟨k,n,p,c,ks⟩ ⟨k',n',p',c',aY⟩ σ with | none=>none | some σ'=>mO r r' σ':=rfl
def jK:Nd:=⟨0,0,0,0,.nil⟩
def Sub.get(σ:Sub)(n:Int):Nd:=(σ.at n).getD jK
def gV(σ:Sub):Es->Es
 | .nil=>.nil
 | .cons k n _ _ ks r=>if k=2 then .cons (σ.get n).k (σ.get n).n (σ.get n).p (σ.get n).c (σ.get n).ks (gV σ r) else .cons k n 0 0 (gV σ ks) (gV σ r)
def iQ(σ:Sub)(x:Nd):Nd:=if x.k=2 then σ.get x.n else ⟨x.k,x.n,0,0,gV σ x.ks⟩
theorem wP(σ:Sub)(k n p c:Int)(ks r:Es):gV σ (.cons k n p c ks r)=.cons (iQ σ ⟨k,n,p,c,ks⟩).k (iQ σ ⟨k,n,p,c,ks⟩).n (iQ σ ⟨k,n,p,c,ks⟩).p (iQ σ ⟨k,n,p,c,ks⟩).c (iQ σ ⟨k,n,p,c,ks⟩).ks (gV σ r):=by
 simp only[gV,iQ];split<;>rfl
theorem Ra(σ:Sub):∀ es:Es,(gV σ es).len=es.len
 | .nil=>rfl
 | .cons k n p c ks r=>by rw[wP];simp only[Es.len];rw[Ra σ r]
def oC:Es->Bool
 | .nil=>true
 | .cons k _ _ _ ks r=>(k != 6&&k != 10&&k != 11)&&oC ks&&oC r
def Nd.total(x:Nd):Bool:=(x.k != 6&&x.k != 10&&x.k != 11)&&oC x.ks
variable{n:Int}{y:Nd}{σ τ:Sub}
theorem Jo(h:qP n y σ=M τ):τ.length=σ.length/\∀ (i:Nat) z,σ[i]? = M (M z)->τ[i]? = M (M z):=by
 unfold qP at h;split at h
 ·split at h
  ·injection h with h;subst h;exact⟨rfl,λ_ _ h=>h⟩
  ·cases h
 ·rename_i hn
  injection h with h
  subst h;refine⟨List.length_set ..,λi z hz=>?_⟩;rw[List.getElem?_set];split
  ·rename_i e
   subst e;simp[Sub.at,Up,hz] at hn
  ·exact hz
theorem Rk:∀ {x y:Es}{σ τ:Sub},mO x y σ=M τ->τ.length=σ.length/\∀ (i:Nat) z,σ[i]? = M (M z)->τ[i]? = M (M z):=by
 intro x
 induction x with
 | nil=>intro y σ τ h;simp only[mO,Option.some.injEq] at h;subst h;exact⟨rfl,λ_ _ h=>h⟩
 | cons k n p c ks r TI TJ=>
  intro y σ τ h;cases y with
  | nil=>simp[mO] at h
  | cons k' n' p' c' aY r'=>
   simp only[mO] at h;split at h
   ·cases h
   ·rename_i ρ hρ
    have h2:=TJ h;have h1:ρ.length=σ.length/\∀ (i:Nat) z,σ[i]? = M (M z)->ρ[i]? = M (M z):=by
     split at hρ
     ·exact Jo hρ
     ·split at hρ
      ·exact TI hρ
      ·cases hρ
    exact⟨h2.1.trans h1.1,λi z hz=>h2.2 i z (h1.2 i z hz)⟩
variable{x:Nd}
theorem qo(h:jP x y σ=M τ):τ.length=σ.length/\∀ (i:Nat) z,σ[i]? = M (M z)->τ[i]? = M (M z):=by
 unfold jP at h;split at h
 ·exact Jo h
 ·split at h
  ·exact Rk h
  ·cases h
def h_(vars:Int):Sub:=List.replicate vars.toNat U
def fM(r:Nd)(σ:Sub)(i:Nat):Bool:=
 match σ.getD i U with
 | none=>false
 | some y=>!r.iL.contains (i:Int)&&!y.total
def Df(r:Nd)(σ:Sub):Nat->Bool
 | 0=>false
 | n+1=>Df r σ n || fM r σ n
def lost(r:Nd)(σ:Sub):Bool:=Df r σ σ.length
variable{r:Nd}
theorem xg:∀ {n:Nat},Df r σ n=true ↔ ∃ i,i<n/\fM r σ i=true
 | 0=>by simp[Df]
 | n+1=>by
  simp only[Df,Bool.or_eq_true,xg (n:=n)];constructor
  ·rintro (⟨i,h1,h2⟩ | h)
   ·exact⟨i,ah,h2⟩
   ·exact⟨n,ah,h⟩
  ·rintro⟨i,h1,h2⟩
   by_cases e:i=n
   ·subst e;exact .inr h2
   ·exact .inl ⟨i,ah,h2⟩
variable{i:Nat}
theorem Fj(h:σ.length<=i):fM r σ i=false:=by
 unfold fM;rw[show σ.getD i U=U by rw[List.getD_eq_getElem?_getD,List.getElem?_eq_none h];rfl]
theorem Fp(h:fM r σ i=true):lost r σ=true:=by
 refine xg.2 ⟨i, ?_,h⟩
 by_cases hi:i<σ.length
 ·exact hi
 ·rw[Fj ah] at h;cases h
theorem Dh(h:∀ i,fM r σ i=false):lost r σ=false:=by
 cases hb:lost r σ
 ·rfl
 ·obtain⟨i,_,hi⟩:=xg.1 hb
  rw[h i] at hi;cases hi
def jY(vars:Int)(l r x:Nd):Nd×Int:=
 match jP l x (h_ vars) with
 | none=>(jK,9)
 | some σ=>if lost r σ=true then (jK,4) else (iQ σ r,0)
variable{vars:Int}{l:Nd}
theorem FI(h:jP l x (h_ vars)=U):jY vars l r x=(jK,9):=by unfold jY;rw[h]
theorem FH(h:jP l x (h_ vars)=M σ)(hl:lost r σ=true):jY vars l r x=(jK,4):=by unfold jY;rw[h];exact if_pos hl
theorem Qm(h:jP l x (h_ vars)=M σ)(hl:lost r σ=false):jY vars l r x=(iQ σ r,0):=by
 unfold jY;rw[h];exact if_neg (by rw[hl];simp)
def Iz(m:Nat):Es->Bool
 | .nil=>true
 | .cons k n _ _ ks r=>(k != 2 || (decide (0<=n)&&decide (n.toNat<m)))&&Iz m ks&&Iz m r
def Lg(m:Nat)(x:Nd):Bool:=(x.k != 2 || (decide (0<=x.n)&&decide (x.n.toNat<m)))&&Iz m x.ks
theorem yQ(m:Nat)(k n p c:Int)(ks r:Es):Iz m (.cons k n p c ks r)=(Lg m ⟨k,n,p,c,ks⟩&&Iz m r):=rfl
variable{m:Nat}{k p c:Int}
theorem B_{ks:Es}(h:Lg m ⟨k,n,p,c,ks⟩=true)(hk:k=2):0<=n/\n.toNat<m:=by
 unfold Lg at h;subst hk;simp at h;omega
variable{P:List Fn}
theorem Qh{fn:Int}{l:Nat}(h:bL P fn vars k n p c l=true)(hk:k=2):0<=n/\n<vars/\l=0:=by
 subst hk;unfold bL at h;simp at h;have:=bH.1 h.2.2;omega
theorem afX(es:Es):∀ {k':Int}{i:Nat},aK [] 0 es k' i vars=true->dJ es=true->jX k'=true->Iz vars.toNat es=true:=by
 induction es with
 | nil=>intro k' i _ _ _;rfl
 | cons k n p c ks r TI TJ=>
  intro k' i hf hp hk;simp only[aK,Mb] at hf;simp only[dJ,Mb] at hp;have GJ:bQ k' vars i=vars:=by
   unfold bQ;have:=lS.1 hk;rw[if_neg ah]
  rw[GJ] at hf;simp only[Iz,Mb];refine⟨⟨?_,TI hf.1.2 hp.1.2 hp.1.1⟩,TJ hf.2 hp.2 hk⟩
  by_cases h2:k=2
  ·have:=Qh hf.1.1 h2
   simp;omega
  ·simp[h2]
theorem H6(h:dw x vars=true):Lg vars.toNat x=true:=by
 unfold dw bT formed Nd.plain at h;simp only[Mb,decide_eq_true_eq] at h;obtain⟨⟨h1,_⟩,h3,h4⟩:=h;obtain⟨_,h5,h6⟩:=h1;unfold Lg;simp only[Mb];refine⟨?_,afX x.ks h6 h4 h3⟩
 by_cases h2:x.k=2
 ·have:=Qh h5 h2
  simp;omega
 ·simp[h2]
def Sub.bd(σ:Sub)(m:Nat):Prop:=∀ (i:Nat) z,σ[i]? = M (M z)->z.size<=m
theorem uV(v:Int)(m:Nat):(h_ v).bd m:=λi z h=>by
 unfold h_ at h;rw[List.getElem?_replicate] at h;split at h<;>simp at h
theorem PU(h:qP n y σ=M τ)(hb:σ.bd m)(hy:y.size<=m):τ.bd m:=by
 unfold qP at h;split at h
 ·split at h
  ·injection h with h;subst h;exact hb
  ·cases h
 ·injection h with h
  subst h;intro i z hz;rw[List.getElem?_set] at hz;split at hz
  ·split at hz
   ·injection hz with hz;injection hz with hz;subst hz;exact hy
   ·cases hz
  ·exact hb i z hz
theorem aa6:∀ {x y:Es}{σ τ:Sub}{m:Nat},mO x y σ=M τ->σ.bd m->y.size<=m->τ.bd m:=by
 intro x
 induction x with
 | nil=>intro y σ τ m h hb _;simp only[mO,Option.some.injEq] at h;subst h;exact hb
 | cons k n p c ks r TI TJ=>
  intro y σ τ m h hb hy;cases y with
  | nil=>simp[mO] at h
  | cons k' n' p' c' aY r'=>
   simp only[Es.size] at hy;simp only[mO] at h;split at h
   ·cases h
   ·rename_i ρ hρ
    refine TJ h ?_ ah;split at hρ
    ·exact PU hρ hb (by simp only[Nd.size];omega)
    ·split at hρ
     ·exact TI hρ hb ah
     ·cases hρ
theorem xY(h:jP x y σ=M τ)(hb:σ.bd m)(hy:y.size<=m):τ.bd m:=by
 unfold jP at h;split at h
 ·exact PU h hb hy
 ·split at h
  ·exact aa6 h hb (by unfold Nd.size at hy;omega)
  ·cases h
theorem Sub.yh(hb:σ.bd m)(hm:1<=m)(n:Int):(σ.get n).size<=m:=by
 unfold Sub.get Sub.at;cases h:σ.getD n.toNat U with
 | none=>simpa [jK,Nd.size,Es.size] using hm
 | some z=>
  refine hb n.toNat z ?_;rw[List.getD_eq_getElem?_getD] at h;cases h2:σ[n.toNat]? with
  | none=>rw[h2] at h;cases h
  | some y=>rw[h2] at h;simp at h;rw[h]
theorem wQ(hb:σ.bd m)(hm:1<=m):∀ x:Es,(gV σ x).size<=x.size*m
 | .nil=>by simp[gV,Es.size]
 | .cons k n p c ks r=>by
  rw[gV];have h2:=wQ hb hm r;split
  ·have h1:=Sub.yh hb hm n
   simp only[Es.size,Nat.add_mul];unfold Nd.size at h1;omega
  ·have h1:=wQ hb hm ks
   simp only[Es.size,Nat.add_mul];omega
theorem Ni(hb:σ.bd m)(hm:1<=m)(x:Nd):(iQ σ x).size<=x.size*m:=by
 unfold iQ;split
 ·have h1:=Sub.yh hb hm x.n
  simp only[Nd.size,Nat.add_mul] at *;omega
 ·have h1:=wQ hb hm x.ks
  simp only[Nd.size,Nat.add_mul];omega
theorem FJ:(jY vars l r x).1.size<=r.size*x.size+1:=by
 unfold jY;split
 ·simp[jK,Nd.size,Es.size]
 ·rename_i σ h
  split
  ·simp[jK,Nd.size,Es.size]
  ·have:=Ni (xY h (uV vars x.size) (Jn _)) (by unfold Nd.size;omega) r
   show (iQ σ r).size<=_;omega
def Es.put:Es->Nat->Nd->Es
 | .nil,_,_=>.nil
 | .cons _ _ _ _ _ r,0,y=>.cons y.k y.n y.p y.c y.ks r
 | .cons k n p c ks r,i+1,y=>.cons k n p c ks (r.put i y)
theorem Es.Hf:∀ (es:Es) (i:Nat) (y:Nd),(es.put i y).len=es.len
 | .nil,_,_=>rfl
 | .cons _ _ _ _ _ r,0,y=>rfl
 | .cons k n p c ks r,i+1,y=>by simp only[Es.put,Es.len,Es.Hf r i y]
theorem Es.Kr:∀ {es:Es}{i:Nat}{z:Nd}(y:Nd),es.get? i=M z->(es.put i y).size+z.size=es.size+y.size
 | .nil,_,_,_,h=>by simp[Es.get?] at h
 | .cons k n p c ks r,0,z,y,h=>by
  simp only[Es.get?,Option.some.injEq] at h;subst h;simp only[Es.put,Es.size,Nd.size];omega
 | .cons k n p c ks r,i+1,z,y,h=>by
  simp only[Es.get?] at h;have:=Es.Kr y h;simp only[Es.put,Es.size];omega
def nodeAt(x:Nd):List Int->Option Nd
 | []=>M x
 | k :: path=>if fP k 0 ((x.ks.len:Int) - 1)=true then (match x.ks.get? k.toNat with | none=>none | some y=>nodeAt y path) else U
def fT(x:Nd)(XU:Nd):List Int->Nd
 | []=>XU
 | k :: path=>match x.ks.get? k.toNat with
  | none=>x
  | some y=>⟨x.k,x.n,x.p,x.c,x.ks.put k.toNat (fT y XU path)⟩
variable{path:List Int}
theorem AX(h:fP k 0 ((x.ks.len:Int) - 1)=true)(hy:x.ks.get? k.toNat=M y):nodeAt x (k :: path)=nodeAt y path:=by
 rw[nodeAt,if_pos h,hy]
theorem Dk(h:fP k 0 ((x.ks.len:Int) - 1)=false):nodeAt x (k :: path)=U:=by
 rw[nodeAt,if_neg (by rw[h];simp)]
theorem mG{z:Nd}(h:nodeAt x (k :: path)=M z):∃ y,0<=k/\k<x.ks.len/\x.ks.get? k.toNat=M y/\nodeAt y path=M z:=by
 rw[nodeAt] at h;split at h
 ·rename_i hk
  have hk:=bH.1 hk;split at h
  ·cases h
  ·rename_i y hy
   exact⟨y,hk.1,ah,hy,h⟩
 ·cases h
theorem tH:∀ {path:List Int}{x z:Nd},nodeAt x path=M z->z.size<=x.size
 | [],x,z,h=>by simp only[nodeAt,Option.some.injEq] at h;subst h;exact Jn _
 | k :: path,x,z,h=>by
  obtain⟨y,_,_,h1,h2⟩:=mG h;have:=tH h2;have:=Es.dY h1;unfold Nd.size at *;omega
theorem xE:∀ {path:List Int}{x z:Nd}(y:Nd),nodeAt x path=M z->(fT x y path).size+z.size=x.size+y.size
 | [],x,z,y,h=>by simp only[nodeAt,Option.some.injEq] at h;subst h;simp only[fT];omega
 | k :: path,x,z,y,h=>by
  obtain⟨u,_,_,h1,h2⟩:=mG h;have e:=xE y h2;have e2:=Es.Kr (fT u y path) h1;rw[fT,h1];simp only[Nd.size] at *;omega
theorem Dt{u:Nd}(y:Nd){path:List Int}(h:x.ks.get? k.toNat=M u):fT x y (k :: path)=⟨x.k,x.n,x.p,x.c,x.ks.put k.toNat (fT u y path)⟩:=by
 rw[fT,h]
noncomputable def jZ (v:Int) (l r:Nd):Bool:=decide ((pG v l r).2=0)&&(pG v l r).1.2.isEmpty
noncomputable def iC (P:List Fn) (x:Nd) (vars funcs v:Int) (l r:Nd) (path:List Int):Nd×Int:=
 match nodeAt x path with
 | none=>(jK,2)
 | some y=>if jZ v l r=true then (if (jY v l r y).2=0 then (if bT P (fT x (jY v l r y).1 path) vars funcs=true then (fT x (jY v l r y).1 path,0) else (jK,3)) else (jK,(jY v l r y).2)) else (jK,8)
variable{funcs v:Int}
theorem Dv(h:nodeAt x path=U):iC P x vars funcs v l r path=(jK,2):=by unfold iC;rw[h]
theorem FD(h:nodeAt x path=M y)(hs:jZ v l r=false):iC P x vars funcs v l r path=(jK,8):=by
 unfold iC;rw[h];exact if_neg (by rw[hs];simp)
theorem Du(h:nodeAt x path=M y)(hs:jZ v l r=true)(hc:(jY v l r y).2≠0):iC P x vars funcs v l r path=(jK,(jY v l r y).2):=by
 unfold iC;rw[h];simp only[];rw[if_pos hs,if_neg hc]
theorem FE(h:nodeAt x path=M y)(hs:jZ v l r=true)(hc:(jY v l r y).2=0)(he:bT P (fT x (jY v l r y).1 path) vars funcs=false):iC P x vars funcs v l r path=(jK,3):=by
 unfold iC;rw[h];simp only[];rw[if_pos hs,if_pos hc,if_neg (by rw[he];simp)]
theorem Kw(h:nodeAt x path=M y)(hs:jZ v l r=true)(hc:(jY v l r y).2=0)(he:bT P (fT x (jY v l r y).1 path) vars funcs=true):iC P x vars funcs v l r path=(fT x (jY v l r y).1 path,0):=by
 unfold iC;rw[h];simp only[];rw[if_pos hs,if_pos hc,if_pos he]
noncomputable def jJ (P:List Fn) (x:Nd) (vars funcs v:Int) (l r:Nd) (path:List Int):Nd×Int:=
 if gF P=true/\bT P x vars funcs=true/\eF v l r=true then iC P x vars funcs v l r path else (jK,1)
theorem lY(h:¬ (gF P=true/\bT P x vars funcs=true/\eF v l r=true)):jJ P x vars funcs v l r path=(jK,1):=if_neg h
theorem FC(h1:gF P=true)(h2:bT P x vars funcs=true)(h3:eF v l r=true):jJ P x vars funcs v l r path=iC P x vars funcs v l r path:=if_pos ⟨h1,h2,h3⟩
theorem xw:∀ {path:List Int}{x z:Nd},nodeAt x path=M z->path.length+z.size<=x.size
 | [],x,z,h=>by simp only[nodeAt,Option.some.injEq] at h;subst h;simp
 | k :: path,x,z,h=>by
  obtain⟨y,_,_,h1,h2⟩:=mG h;have:=xw h2;have:=Es.dY h1;simp only[List.length_cons];unfold Nd.size at *;omega
theorem zG(h:bT P x vars funcs=true):x.size<=400:=by
 unfold bT at h;simp only[Mb,decide_eq_true_eq] at h;exact h.1.1.2
end
section
open Go.RowKit Plain
theorem OU(es:Es):oC es=!rQ (λy=>!y.total) es:=by
 induction es with
 | nil=>rfl
 | cons k n p c ks r _ ih=>
  simp only[oC,rQ,ih];show (Nd.total ⟨k,n,p,c,ks⟩&&_)=_;cases Nd.total ⟨k,n,p,c,ks⟩<;>simp
def aj1(ks:Es):Prop:=∀ (k n p c:Int) (K:Option I3) (cap B:Nat) (w:Iv),bJ w B ks K->ks.len<=cap->cap<=I2->B<=w.heap.size->ks.size<=1048576 ->
 I0 Tryz.prog 156 #[exV k n p c K ks.len cap] w λe w'=>e=If (.bool (Nd.total ⟨k,n,p,c,ks⟩))/\Ix w.heap.size w w'
theorem Ta:∀ (m:Nat) (ks:Es),ks.size<m->aj1 ks:=by
 intro m
 induction m with
 | zero=>intro es h;omega
 | succ m ih=>
 intro ks hm k n p c K cap B w hKs hc hcm hB hsz0;have IH:=aj ih;clear ih;have hls:=Es.aF ks;have fF:cap<=9223372036854775807:=by unfold I2 at hcm;omega
 obtain⟨W0,aZ⟩:=aD (w.alloc (Is #[I J k,I J n,I J p,I J c,V K ks.len cap] 33))
 have hb0:Ix w.heap.size w W0:=by rw[aZ];go_grown
 have hs0:W0.heap.size=w.heap.size+1:=by rw[aZ];simp
 have hq1:au W0 w.heap.size 33 [I J k,I J n,I J p,I J c,V K ks.len cap]:=by rw[aZ];exact au.new w 33 _
 have HCE:ak (I0 Tryz.prog 219 #[V K ks.len cap,.func (.func 220) #[] #[]] W0 λe w'=>e=If (.bool (rQ (λy=>!y.total) ks))/\Ix W0.heap.size W0 w'):=by
  refine vU K cap B ks W0 (hKs.below (hb0.mono hB)) ah ah 220 (λ_ _=>rfl) #[] _ ?_;intro i k' n' p' c' aY K' cp wx hget hbx hE2 hc2 hcm2;show I0 Tryz.prog 220 #[exV k' n' p' c' K' aY.len cp] wx _;have hlt:=Es.dY hget;simp only at hlt;have hwx:W0.heap.size<=wx.heap.size:=hbx.size;have zN:cp<=9223372036854775807:=by unfold I2 at hcm2;omega
  obtain⟨W1,kK⟩:=aD (wx.alloc (Is #[I J k',I J n',I J p',I J c',V K' aY.len cp] 33))
  have hbn:Ix wx.heap.size wx W1:=by rw[kK];go_grown
  have hIH:=IH.o aY ah k' n' p' c' K' cp B W1 (hE2.below (hbn.mono ah)) hc2 hcm2 (by have:=hbn.size;omega) ah;have HI:=aj hIH;have HW1:=aj kK;have HBN:=aj hbn;clear hIH kK hbn hE2 hget IH hKs;go_enter func220,ntmps220;go_wp2_with fail;rw[<-HW1.o];refine HI.o.mono ?_;rintro e w2 ⟨rfl,hb2⟩;have HB2:=aj (aH HBN.o hb2);clear hb2;go_wp2;go_ret;exact⟨rfl,HB2.o⟩
 have dI:=aj aZ;have HB0:=aj hb0;have oN:=aj (OU ks);have kI:ak (Nd.total ⟨k,n,p,c,ks⟩=((k != 6&&k != 10&&k != 11)&&oC ks)):=rfl;obtain⟨pp,wX⟩:=aD (Nd.total ⟨k,n,p,c,ks⟩)
 rw[<-wX];rw[<-wX] at kI;have q0:W0.cell? ⟨w.heap.size,0,U⟩=M (I J k):=ay hq1
 have q4:W0.cell? ⟨w.heap.size,4,U⟩=M (V K ks.len cap):=ay hq1
 clear hKs IH wX aZ hb0 hs0 hq1
 by_cases hk:k=6∨k=10∨k=11
 ·have HV:ak (pp=false):=by
   show _=_;rw[kI.o]
   rcases hk with rfl | rfl | rfl<;>rfl
  rcases hk with rfl | rfl | rfl <;>
  ·go_enter func156,ntmps156
   go_upto_region 1 with fail;rw[<-dI.o];go_wp2;go_ret;exact⟨by rw[HV.o];rfl,HB0.o⟩
 ·have n6:(k != 6)=true:=by simp;omega
  have n10:(k != 10)=true:=by simp;omega
  have n11:(k != 11)=true:=by simp;omega
  have HV:ak (pp=!rQ (λy=>!y.total) ks):=by show _=_;rw[kI.o,oN.o,n6,n10,n11];rfl
  obtain⟨aa,TA⟩:=aD (rQ (λy=>!y.total) ks)
  rw[<-TA] at HV HCE;clear hk TA;go_enter func156,ntmps156;go_upto_region 1 with fail;rw[<-dI.o];go_wp2_with fail;refine HCE.o.mono ?_;rintro e w1 ⟨rfl,hb1⟩;have HB1:ak (Ix w.heap.size w w1):=HB0.o.trans (hb1.mono HB0.o.size);clear hb1;go_wp2;go_ret;exact⟨by rw[HV.o];rfl,HB1.o⟩
def aj2(ks:Es):Prop:=∀ (k n p c:Int) (b o B:Nat) (w:Iv),dF w B k n p c ks b o->ks.size<=1048576 ->
 I0 Tryz.prog 215 #[ptr b o] w λe w'=>e=If (.bool (Nd.total ⟨k,n,p,c,ks⟩))/\w=w'
theorem OT:∀ (m:Nat) (ks:Es),ks.size<m->aj2 ks:=by
 intro m
 induction m with
 | zero=>intro es h;omega
 | succ m ih=>
 intro ks hm k n p c b o B w hE hsz0;have IH:=aj ih;clear ih;have hls:=Es.aF ks;obtain⟨lD,h0,h1,h2,h3,K,cap,b',o',h4,hc,hcm,hK,hks⟩:=hE;have gI:=aj hks;clear hks;have fF:cap<=9223372036854775807:=by unfold I2 at hcm;omega
 have kI:ak (Nd.total ⟨k,n,p,c,ks⟩=((k != 6&&k != 10&&k != 11)&&oC ks)):=rfl;obtain⟨pp,wX⟩:=aD (Nd.total ⟨k,n,p,c,ks⟩)
 rw[<-wX];rw[<-wX] at kI;clear wX
 by_cases hk:k=6∨k=10∨k=11
 ·have HV:ak (pp=false):=by
   show _=_;rw[kI.o]
   rcases hk with rfl | rfl | rfl<;>rfl
  rcases hk with rfl | rfl | rfl <;>
  ·go_enter func215,ntmps215
   go_wp2;go_ret;exact⟨by rw[HV.o];rfl,rfl⟩
 ·have n6:(k==6)=false:=beq_eq_false_iff_ne.2 ah
  have n10:(k==10)=false:=beq_eq_false_iff_ne.2 ah;have n11:(k==11)=false:=beq_eq_false_iff_ne.2 ah;have HV:ak (pp=oC ks):=by show _=_;rw[kI.o,bne,bne,bne,n6,n10,n11];rfl
  clear hk kI;go_enter func215,ntmps215;go_wp2
  go_loopg [3] (ks.len+1) (λkx s3 wr=>∃ (j:Nat) (es':Es),s3=I J (j:Int)/\j+es'.len=ks.len/\ks.len - j<kx/\ak (es'.size<=ks.size)/\ak (pp=oC es')/\ak (aI w B es' b' (o'+j*5))/\w=wr)
  case atStart=>exact⟨0,ks,by first | rfl | go_num,ah,ah,Jn _,HV,by show aI _ _ _ _ _;rw[Mn,Mm];exact gI.o,rfl⟩
  case round=>
   obtain⟨j,es',rfl,hj,hkx,hsz,HP,HE,rfl⟩:=hrel;clear HV gI;cases es' with
   | nil=>
    simp only[Es.len] at hj;have hjz:¬ (j:Int)<(ks.len:Int):=ah;have ng:ak (pp=true):=HP.o;go_wp2;go_ret;exact⟨by rw[ng.o];rfl,rfl⟩
   | cons kk n' p' c' aY r=>
    simp only[Es.len] at hj;have hjz:(j:Int)<(ks.len:Int):=ah;have hK:=hK ah;subst hK;obtain⟨hel,hr⟩:=HE.o;have HR:=aj hr;have hrs:ak (r.size<=ks.size/\aY.size<ks.size):=by
     have:=hsz.o;simp only[Es.size] at this;exact⟨ah,ah⟩
    have HC:=aj (IH.o aY (by have:=hrs.o;omega) kk n' p' c' b' (o'+j*5) B w hel (by have:=hrs.o;omega));have ng:ak (pp=(Nd.total ⟨kk,n',p',c',aY⟩&&oC r)):=HP.o;clear hr HE hel HP;cases yC:Nd.total ⟨kk,n',p',c',aY⟩
    ·rw[yC] at HC ng
     have Bl:ak (pp=false):=ng.o;clear yC;go_wp2_with fail;refine HC.o.mono ?_;rintro e w' ⟨rfl,rfl⟩;go_wp2;go_ret;exact⟨by rw[Bl.o];rfl,rfl⟩
    ·rw[yC] at HC ng
     have Bl:ak (pp=oC r):=ng.o;clear yC;go_wp2_with fail;refine HC.o.mono ?_;rintro e w' ⟨rfl,rfl⟩;have gY:ak (aI w B r b' (o'+(j+1)*5)):=by
      have:=HR.o
      rwa [show o'+j*5+5=o'+(j+1)*5 by omega] at this
     go_wp2
     go_roundg (ks.len - (j+1)+1)
     case measure=>omega
     case rel=>exact⟨j+1,r,by first | rfl | go_num,ah,ah,hrs.o.1,Bl,gY,rfl⟩
theorem zW:∀ {a b:Es},a.len≠b.len->lF a b=false
 | .nil,.nil,h=>absurd rfl h
 | .nil,.cons ..,_=>rfl
 | .cons ..,.nil,_=>rfl
 | .cons _ _ _ _ _ r,.cons _ _ _ _ _ r',h=>by
  simp only[Es.len] at h;rw[lF,zW (a:=r) (b:=r') ah,Bool.and_false]
def adg(ks:Es):Prop:=∀ (k n p c:Int) (K:Option I3) (cap:Nat) (k' n' p' c':Int) (aY:Es) (K':Option I3) (bB B:Nat) (w:Iv),bJ w B ks K->ks.len<=cap->cap<=I2->bJ w B aY K'->aY.len<=bB->bB<=I2->B<=w.heap.size->ks.size<=1048576->aY.size<=1048576 ->
 I0 Tryz.prog 218 #[exV k n p c K ks.len cap,exV k' n' p' c' K' aY.len bB] w λe w'=>e=If (.bool (Nd.same ⟨k,n,p,c,ks⟩ ⟨k',n',p',c',aY⟩))/\Ix w.heap.size w w'
theorem Nf(m:Nat)(H:∀ ks:Es,ks.size<m->adg ks)(es es':Es)(A A':Option I3)(cap bB B:Nat)(w:Iv)(hA:bJ w B es A)(hA':bJ w B es' A')(hB:B<=w.heap.size)(hm:es.size<=m)(hz:es.size<=1048576)(hz':es'.size<=1048576) :
  I0 Tryz.prog 257 #[V A es.len cap,V A' es'.len bB,.func (.func 218) #[] #[]] w λe w'=>e=If (.bool (lF es es'))/\Ix w.heap.size w w':=by
 have hls:=Es.aF es;have ah4:=Es.aF es';have HH:=aj H;clear H;obtain⟨rr,dG⟩:=aD (lF es es')
 rw[<-dG]
 by_cases hne:es.len=es'.len
 ·have HRR:=aj dG
  clear dG;obtain⟨b,o,hA1,hA2⟩:=hA;obtain⟨b',o',YG,JA⟩:=hA';have HA:=aj hA2;clear hA2;have HA':=aj JA;clear JA;have HZ:ak (es.size<=m/\es.size<=1048576/\es'.size<=1048576):=⟨hm,hz,hz'⟩
  have hnb:((es.len:Int) != (es'.len:Int))=false:=by rw[hne];simp
  have xL:=aj hne;clear hne;go_enter func257,ntmps257;go_wp2_with fail
  go_loopg [17] (es.len+1) (λkx s17 wr=>∃ (j:Nat) (e1 e2:Es),s17=I J (j:Int)/\j+e1.len=es.len/\ak (e2.len=e1.len)/\es.len - j<kx/\ak (e1.size<=es.size/\e2.size<=es'.size)/\ak (rr=lF e1 e2)/\ak (aI wr B e1 b (o+j*5))/\ak (aI wr B e2 b' (o'+j*5))/\ak (Ix w.heap.size w wr))
  case atStart=>
   refine⟨0,es,es',by first | rfl | go_num,ah,xL.o.symm,ah,⟨Jn _,Jn _⟩,HRR, ?_, ?_,Jx _ _⟩
   ·show aI _ _ _ _ _;rw[Mn,Mm];exact HA.o
   ·show aI _ _ _ _ _;rw[Mn,Mm];exact HA'.o
  case round=>
   obtain⟨j,e1,e2,rfl,hj,HL,hkx,hsz,HP,HE,Vk,HB⟩:=hrel;clear HA HA' HRR;cases e1 with
   | nil=>
    simp only[Es.len] at hj;have he2:e2=.nil:=Es.J2 (by have:=HL.o;simp only[Es.len] at this;exact this);subst he2;have hjz:¬ (j:Int)<(es.len:Int):=ah;have HV:ak (rr=true):=HP.o;go_wp2;go_ret;exact⟨by rw[HV.o];rfl,HB.o⟩
   | cons k n p c ks r=>
    cases e2 with
    | nil=>exact absurd HL.o (by simp[Es.len])
    | cons k' n' p' c' aY r'=>
    have HL2:ak (r'.len=r.len):=by have:=HL.o;simp only[Es.len] at this;show _=_;omega
    simp only[Es.len] at hj;have hjz:(j:Int)<(es.len:Int):=ah;have hje:(j:Int)<(es'.len:Int):=by have:=xL.o;omega
    have hA:=hA1 ah;subst hA;have hA:=YG (by have:=xL.o;omega);subst hA;obtain⟨⟨hb,c0,c1,c2,c3,K,cp,x,y,c4,zN,hcm,hK,hks⟩,hr⟩:=HE.o;obtain⟨⟨hb',c0',c1',c2',c3',K',cp',x',y',I8,afn,fF,Gv,yB⟩,hr'⟩:=Vk.o;have HR:=aj hr;have Vz:=aj hr';have hrs:ak (r.size<=es.size/\ks.size<m/\ks.size<=1048576/\r'.size<=es'.size/\aY.size<=1048576):=by
     have h1:=hsz.o;have h2:=HZ.o;simp only[Es.size] at h1;exact⟨ah,ah,ah,ah,ah⟩
    have HQ:ak (∀ wx,Ix wr.heap.size wr wx->I0 Tryz.prog 218 #[exV k n p c K ks.len cp,exV k' n' p' c' K' aY.len cp'] wx λe w'=>e=If (.bool (Nd.same ⟨k,n,p,c,ks⟩ ⟨k',n',p',c',aY⟩))/\Ix wx.heap.size wx w'):=λwx hx=>by
     have z0:=HB.o.size;have z1:=hx.size;exact HH.o ks hrs.o.2.1 k n p c K cp k' n' p' c' aY K' cp' B wx (bJ.below ⟨x,y,hK,hks⟩ (hx.mono ah)) zN hcm (bJ.below ⟨x',y',Gv,yB⟩ (hx.mono ah)) afn fF ah hrs.o.2.2.1 hrs.o.2.2.2.2
    have ng:ak (rr=(Nd.same ⟨k,n,p,c,ks⟩ ⟨k',n',p',c',aY⟩&&lF r r')):=HP.o;have c0w:=c0';have akA:b'<wr.heap.size:=World.block_lt_of_cell? _ _ c0';have fU:Ix wr.heap.size wr (wr.alloc (Is #[I J k,I J n,I J p,I J c,V K ks.len cp] 33)):=aV;have d0:=aB c0' fU;have d1:=aB c1' fU;have d2:=aB c2' fU;have d3:=aB c3' fU;have d4:=aB I8 fU
    clear hr hks HE hr' yB Vk HP hK Gv c0w;cases yC:Nd.same ⟨k,n,p,c,ks⟩ ⟨k',n',p',c',aY⟩
    ·rw[yC] at HQ ng
     have Bl:ak (rr=false):=ng.o;clear yC;go_wp2_with fail;refine (HQ.o _ aV).mono ?_;rintro e w1 ⟨rfl,hb1⟩;have HB1:ak (Ix w.heap.size w w1):=HB.o.trans ((Below.trans aV (hb1.mono (by simp;omega))).mono HB.o.size);clear hb1;go_wp2;go_ret;exact⟨by rw[Bl.o];rfl,HB1.o⟩
    ·rw[yC] at HQ ng
     have Bl:ak (rr=lF r r'):=ng.o;clear yC;go_wp2_with fail;refine (HQ.o _ aV).mono ?_;rintro e w1 ⟨rfl,hb1⟩;have hb2:Ix wr.heap.size wr w1:=Below.trans aV (hb1.mono (by simp;omega));have hB2:Ix B wr w1:=hb2.mono (by have:=HB.o.size;omega);have gY:ak (aI w1 B r b (o+(j+1)*5)):=by
      have:=HR.o.below hB2
      rwa [show o+j*5+5=o+(j+1)*5 by omega] at this
     have LH:ak (aI w1 B r' b' (o'+(j+1)*5)):=by
      have:=Vz.o.below hB2
      rwa [show o'+j*5+5=o'+(j+1)*5 by omega] at this
     have HB1:=aj (aH HB.o hb2);clear hb1 hb2 hB2 HR Vz d0 d1 d2 d3 d4 c0 c1 c2 c3 c4 c0' c1' c2' c3' I8 HB HQ;go_wp2
     go_roundg (es.len - (j+1)+1)
     case measure=>omega
     case rel=>exact⟨j+1,r,r',by first | rfl | go_num,ah,HL2,ah,⟨hrs.o.1,hrs.o.2.2.2.1⟩,Bl,gY,LH,HB1⟩
 ·have HV:ak (rr=false):=by show _=_;rw[dG];exact zW hne
  have hnb:((es.len:Int) != (es'.len:Int))=true:=by simp;omega
  clear dG;go_enter func257,ntmps257;go_wp2;go_ret;exact⟨by rw[HV.o];rfl,Jx _ _⟩
theorem SK:∀ (m:Nat) (ks:Es),ks.size<m->adg ks:=by
 intro m
 induction m with
 | zero=>intro es h;omega
 | succ m ih=>
 intro ks hm k n p c K cap k' n' p' c' aY K' bB B w hKs hc hcm aht hc' fF hB hz hz';have hls:=Es.aF ks;have ah4:=Es.aF aY;have hx1:cap<=9223372036854775807:=by unfold I2 at hcm;omega
 have hx2:bB<=9223372036854775807:=by unfold I2 at fF;omega
 obtain⟨W0,aZ⟩:=aD ((w.alloc (Is #[I J k,I J n,I J p,I J c,V K ks.len cap] 33)).alloc (Is #[I J k',I J n',I J p',I J c',V K' aY.len bB] 33))
 have hb0:Ix w.heap.size w W0:=by rw[aZ];go_grown
 have hq1:au W0 w.heap.size 33 [I J k,I J n,I J p,I J c,V K ks.len cap]:=by
  rw[aZ];exact (au.new w 33 [I J k,I J n,I J p,I J c,V K ks.len cap]).next aV
 have hq2:au W0 (w.heap.size+1) 33 [I J k',I J n',I J p',I J c',V K' aY.len bB]:=by
  rw[aZ];have:=au.new (w.alloc (Is #[I J k,I J n,I J p,I J c,V K ks.len cap] 33)) 33 [I J k',I J n',I J p',I J c',V K' aY.len bB];simpa using this
 have HCE:=aj (Nf m ih ks aY K K' cap bB B W0 (hKs.below (hb0.mono hB)) (aht.below (hb0.mono hB)) (by have:=hb0.size;omega) ah hz hz');have dI:=aj aZ;have HB0:=aj hb0;have kI:ak (Nd.same ⟨k,n,p,c,ks⟩ ⟨k',n',p',c',aY⟩=((k==k'&&n==n'&&p==p'&&c==c')&&lF ks aY)):=rfl;obtain⟨pp,wX⟩:=aD (Nd.same ⟨k,n,p,c,ks⟩ ⟨k',n',p',c',aY⟩)
 rw[<-wX];rw[<-wX] at kI;have q0:W0.cell? ⟨w.heap.size,0,U⟩=M (I J k):=ay hq1
 have q1:W0.cell? ⟨w.heap.size,1,U⟩=M (I J n):=ay hq1
 have q2:W0.cell? ⟨w.heap.size,2,U⟩=M (I J p):=ay hq1
 have q3:W0.cell? ⟨w.heap.size,3,U⟩=M (I J c):=ay hq1
 have q4:W0.cell? ⟨w.heap.size,4,U⟩=M (V K ks.len cap):=ay hq1
 have r0:W0.cell? ⟨w.heap.size+1,0,U⟩=M (I J k'):=ay hq2
 have r1:W0.cell? ⟨w.heap.size+1,1,U⟩=M (I J n'):=ay hq2
 have r2:W0.cell? ⟨w.heap.size+1,2,U⟩=M (I J p'):=ay hq2
 have r3:W0.cell? ⟨w.heap.size+1,3,U⟩=M (I J c'):=ay hq2
 have r4:W0.cell? ⟨w.heap.size+1,4,U⟩=M (V K' aY.len bB):=ay hq2
 clear hKs aht ih wX aZ hb0 hq1 hq2;obtain⟨g0,hg0⟩:∃ g,(k==k')=g:=⟨_,rfl⟩
 obtain⟨g1,hg1⟩:∃ g,(n==n')=g:=⟨_,rfl⟩
 obtain⟨g2,hg2⟩:∃ g,(p==p')=g:=⟨_,rfl⟩
 obtain⟨g3,hg3⟩:∃ g,(c==c')=g:=⟨_,rfl⟩
 rw[hg0,hg1,hg2,hg3] at kI;cases g0 with
 | false=>
  have HV:ak (pp=false):=kI.o;go_enter func218,ntmps218;go_upto_region 1 with fail;rw[<-dI.o];go_wp2;go_ret;exact⟨by rw[HV.o];rfl,HB0.o⟩
 | true=>
 cases g1 with
 | false=>
  have HV:ak (pp=false):=kI.o;go_enter func218,ntmps218;go_upto_region 1 with fail;rw[<-dI.o];go_wp2;go_ret;exact⟨by rw[HV.o];rfl,HB0.o⟩
 | true=>
 cases g2 with
 | false=>
  have HV:ak (pp=false):=kI.o;go_enter func218,ntmps218;go_upto_region 1 with fail;rw[<-dI.o];go_wp2;go_ret;exact⟨by rw[HV.o];rfl,HB0.o⟩
 | true=>
 cases g3 with
 | false=>
  have HV:ak (pp=false):=kI.o;go_enter func218,ntmps218;go_upto_region 1 with fail;rw[<-dI.o];go_wp2;go_ret;exact⟨by rw[HV.o];rfl,HB0.o⟩
 | true=>
  have HV:ak (pp=lF ks aY):=kI.o;obtain⟨aa,TA⟩:=aD (lF ks aY)
  rw[<-TA] at HV HCE;clear TA kI;go_enter func218,ntmps218;go_upto_region 1 with fail;rw[<-dI.o];go_wp2_with fail;refine HCE.o.mono ?_;rintro e w1 ⟨rfl,hb1⟩;have HB1:ak (Ix w.heap.size w w1):=HB0.o.trans (hb1.mono HB0.o.size);clear hb1;go_wp2;go_ret;exact⟨by rw[HV.o];rfl,HB1.o⟩
def Dr(w w':Iv):Prop:=∃ q,w'=w.drewN q
theorem Dr.refl(w:Iv):Dr w w:=⟨0,rfl⟩
variable{a b:Iv}
theorem Dr.trans{c:Iv}(h:Dr a b)(k:Dr b c):Dr a c:=by
 obtain⟨q,rfl⟩:=h;obtain⟨r,rfl⟩:=k;exact⟨q+r,by rw[World.drewN_drewN]⟩
theorem Dr.of(w:Iv)(n:Nat):Dr w (w.drewN n):=⟨n,rfl⟩
theorem Dr.below(h:Dr a b):Ix a.heap.size a b:=by
 obtain⟨q,rfl⟩:=h;exact below_drewN' (Jx _ _) q
def ag6(ks:Es):Prop:=∀ (k n p c:Int) (b o:Nat) (k' n' p' c':Int) (aY:Es) (b2 o2 B:Nat) (w:Iv),dF w B k n p c ks b o->dF w B k' n' p' c' aY b2 o2->B<=w.heap.size->ks.size<=1048576->aY.size<=1048576 ->
 I0 Tryz.prog 256 #[ptr b o,ptr b2 o2] w λe w'=>e=If (.bool (Nd.same ⟨k,n,p,c,ks⟩ ⟨k',n',p',c',aY⟩))/\∃ q,w'=w.drewN q
theorem SL:∀ (m:Nat) (ks:Es),ks.size<m->ag6 ks:=by
 intro m
 induction m with
 | zero=>intro es h;omega
 | succ m ih=>
 intro ks hm k n p c b o k' n' p' c' aY b2 o2 B w hE hE' hB hz hz';have IH:=aj ih;clear ih;have hls:=Es.aF ks;have ah4:=Es.aF aY;have Qv:=aj hE;have alQ:=aj hE';obtain⟨lD,h0,h1,h2,h3,K,cap,x,y,h4,hc,hcm,hK,hks⟩:=hE;obtain⟨ahE,h0',h1',h2',h3',K',bB,x',y',h4',hc',fF,Gv,yB⟩:=hE';have gI:=aj hks;clear hks;have Vn:=aj yB;clear yB;have afl:cap<=9223372036854775807:=by unfold I2 at hcm;omega
 have hcm2:bB<=9223372036854775807:=by unfold I2 at fF;omega
 have kI:ak (Nd.same ⟨k,n,p,c,ks⟩ ⟨k',n',p',c',aY⟩=((k==k'&&n==n'&&p==p'&&c==c')&&lF ks aY)):=rfl;obtain⟨pp,wX⟩:=aD (Nd.same ⟨k,n,p,c,ks⟩ ⟨k',n',p',c',aY⟩)
 rw[<-wX];rw[<-wX] at kI;clear wX
 by_cases e0:k=k'
 case neg=>
  have hn:(k != k')=true:=by simp[e0]
  have HV:ak (pp=false):=by show _=_;rw[kI.o,beq_eq_false_iff_ne.2 e0];rfl
  go_enter func256,ntmps256;go_wp2_with fail;go_quiet (fail);go_wp2;go_ret;exact⟨by rw[HV.o];rfl,⟨_,rfl⟩⟩
 have hn0:(k != k')=false:=by simp[e0]
 by_cases e1:n=n'
 case neg=>
  have hn:(n != n')=true:=by simp[e1]
  have HV:ak (pp=false):=by show _=_;rw[kI.o,beq_eq_false_iff_ne.2 e1];simp
  clear e0;go_enter func256,ntmps256;go_wp2_with fail;go_quiet (fail);go_wp2;go_ret;exact⟨by rw[HV.o];rfl,⟨_,rfl⟩⟩
 have hn1:(n != n')=false:=by simp[e1]
 by_cases e2:p=p'
 case neg=>
  have hn:(p != p')=true:=by simp[e2]
  have HV:ak (pp=false):=by show _=_;rw[kI.o,beq_eq_false_iff_ne.2 e2];simp
  clear e0 e1;go_enter func256,ntmps256;go_wp2_with fail;go_quiet (fail);go_wp2;go_ret;exact⟨by rw[HV.o];rfl,⟨_,rfl⟩⟩
 have hn2:(p != p')=false:=by simp[e2]
 by_cases e3:c=c'
 case neg=>
  have hn:(c != c')=true:=by simp[e3]
  have HV:ak (pp=false):=by show _=_;rw[kI.o,beq_eq_false_iff_ne.2 e3];simp
  clear e0 e1 e2;go_enter func256,ntmps256;go_wp2_with fail;go_quiet (fail);go_wp2;go_ret;exact⟨by rw[HV.o];rfl,⟨_,rfl⟩⟩
 have JN:(c != c')=false:=by simp[e3]
 have Tk:ak (pp=lF ks aY):=by show _=_;rw[kI.o,e0,e1,e2,e3];simp
 clear e0 e1 e2 e3 kI
 by_cases e4:ks.len=aY.len
 case neg=>
  have hn:((ks.len:Int) != (aY.len:Int))=true:=by simp;omega
  have HV:ak (pp=false):=by show _=_;rw[Tk.o];exact zW e4
  clear Tk;go_enter func256,ntmps256;go_wp2_with fail;go_quiet (fail);go_wp2;go_ret;exact⟨by rw[HV.o];rfl,⟨_,rfl⟩⟩
 have hn4:((ks.len:Int) != (aY.len:Int))=false:=by simp;omega
 have xL:=aj e4;clear e4;go_enter func256,ntmps256;go_wp2_with fail;go_quiet (fail);have HD:ak (Dr w (w.drewN nq)):=Dr.of _ _;generalize w.drewN nq=W at *;have H4:=aj h4;have H4':=aj h4';clear h0 h1 h2 h3 h4 h0' h1' h2' h3' h4';go_wp2_with fail
 go_loopg [5] (ks.len+1) (λkx s5 wr=>∃ (j:Nat) (e1 e2:Es),s5=.int .i64 (j:Int)/\j+e1.len=ks.len/\ak (e2.len=e1.len)/\ks.len - j<kx/\ak (e1.size<=ks.size/\e2.size<=aY.size)/\ak (pp=lF e1 e2)/\ak (aI wr B e1 x (y+j*5))/\ak (aI wr B e2 x' (y'+j*5))/\ak (Dr w wr))
 case atStart=>
  have hbw:Ix B w W:=HD.o.below.mono hB;refine⟨0,ks,aY,by first | rfl | go_num,ah,xL.o.symm,ah,⟨Jn _,Jn _⟩,Tk, ?_, ?_,HD⟩
  ·show aI _ _ _ _ _;rw[Mn,Mm];exact gI.o.below hbw
  ·show aI _ _ _ _ _;rw[Mn,Mm];exact Vn.o.below hbw
 case round=>
  obtain⟨j,e1,e2,rfl,hj,HL,hkx,hsz,HP,HE,Vk,O9⟩:=hrel;clear gI Vn Tk HD;have c4:=aB H4.o O9.o.below;have I8:=aB H4'.o O9.o.below;cases e1 with
  | nil=>
   simp only[Es.len] at hj;have he2:e2=.nil:=Es.J2 (by have:=HL.o;simp only[Es.len] at this;exact this);subst he2;have hjz:¬ (j:Int)<(ks.len:Int):=ah;have HV:ak (pp=true):=HP.o;go_wp2;go_ret;exact⟨by rw[HV.o];rfl,O9.o⟩
  | cons kk n1 p1 q1 ls r=>
   cases e2 with
   | nil=>exact absurd HL.o (by simp[Es.len])
   | cons Qd n1' p1' Le GV r'=>
   have HL2:ak (r'.len=r.len):=by have:=HL.o;simp only[Es.len] at this;show _=_;omega
   simp only[Es.len] at hj;have hjz:(j:Int)<(ks.len:Int):=ah;have hje:(j:Int)<(aY.len:Int):=by have:=xL.o;omega
   have hA:=hK ah;subst hA;have hA:=Gv (by have:=xL.o;omega);subst hA;obtain⟨hel,hr⟩:=HE.o;obtain⟨Y0,hr'⟩:=Vk.o;have HR:=aj hr;have Vz:=aj hr';have hrs:ak (r.size<=ks.size/\ls.size<m/\ls.size<=1048576/\r'.size<=aY.size/\GV.size<=1048576):=by
    have h1:=hsz.o;simp only[Es.size] at h1;exact⟨ah,ah,ah,ah,ah⟩
   have TH:B<=wr.heap.size:=by have:=O9.o.below.size;omega
   have HQ:ak (∀ m,I0 Tryz.prog 256 #[ptr x (y+j*5),ptr x' (y'+j*5)] (wr.drewN m) λe w'=>e=If (.bool (Nd.same ⟨kk,n1,p1,q1,ls⟩ ⟨Qd,n1',p1',Le,GV⟩))/\∃ q,w'=(wr.drewN m).drewN q):=λm'=>
    IH.o ls hrs.o.2.1 kk n1 p1 q1 x (y+j*5) Qd n1' p1' Le GV x' (y'+j*5) B _ (dF.below hel (below_drewN' (Jx _ _) _)) (dF.below Y0 (below_drewN' (Jx _ _) _)) (by show B<=wr.heap.size;exact TH) hrs.o.2.2.1 hrs.o.2.2.2.2
   have ng:ak (pp=(Nd.same ⟨kk,n1,p1,q1,ls⟩ ⟨Qd,n1',p1',Le,GV⟩&&lF r r')):=HP.o;clear hr hr' hel Y0 HE Vk HP;cases yC:Nd.same ⟨kk,n1,p1,q1,ls⟩ ⟨Qd,n1',p1',Le,GV⟩
   ·rw[yC] at HQ ng
    have Bl:ak (pp=false):=ng.o;clear yC;go_wp2_with fail;go_quiet (first | (go_at_call 256;exact Calls.quiet_of (HQ.o _)));have HD2:ak (Dr w (wr.drewN nq)):=O9.o.trans (Dr.of _ _);go_wp2;go_ret;exact⟨by rw[Bl.o];rfl,HD2.o⟩
   ·rw[yC] at HQ ng
    have Bl:ak (pp=lF r r'):=ng.o;clear yC;go_wp2_with fail;go_quiet (first | (go_at_call 256;exact Calls.quiet_of (HQ.o _)));have HD2:ak (Dr w (wr.drewN nq)):=O9.o.trans (Dr.of _ _);have hB2:Ix B wr (wr.drewN nq):=(below_drewN' (Jx _ _) nq).mono TH;have gY:ak (aI (wr.drewN nq) B r x (y+(j+1)*5)):=by
     have:=HR.o.below hB2
     rwa [show y+j*5+5=y+(j+1)*5 by omega] at this
    have LH:ak (aI (wr.drewN nq) B r' x' (y'+(j+1)*5)):=by
     have:=Vz.o.below hB2
     rwa [show y'+j*5+5=y'+(j+1)*5 by omega] at this
    clear hB2 HR Vz c4 I8 HQ O9;generalize wr.drewN nq=W2 at *;go_wp2
    go_roundg (ks.len - (j+1)+1)
    case measure=>omega
    case rel=>exact⟨j+1,r,r',by first | rfl | go_num,ah,HL2,ah,⟨hrs.o.1,hrs.o.2.2.2.1⟩,Bl,gY,LH,HD2⟩
end
section
open Go.RowKit Plain
open Classical in
noncomputable def Hg (v:I1):Option (DataW I1×List MemPlace):=if ∃ (k n p c:Int) (K:Option I3) (l cap:Nat),v=exV k n p c K l cap then M (.held v,[]) else U
theorem Hl(k n p c:Int)(K:Option I3)(l cap:Nat):Hg (exV k n p c K l cap)=M (.held (exV k n p c K l cap),[]):=if_pos ⟨k,n,p,c,K,l,cap,rfl⟩
theorem uR{v:I1}{y:DataW I1×List MemPlace}(h:Hg v=M y):(∃ (k n p c:Int) (K:Option I3) (l cap:Nat),v=exV k n p c K l cap)/\y=(.held v,[]):=by
 unfold Hg at h;split at h
 ·rename_i hx
  exact⟨hx,(Option.some.inj h).symm⟩
 ·cases h
structure zA (w:Iv) (B:Nat) (D:DataW I1) (σ:Sub):Prop where
 isMap:Maps.IsMap D
 at_:∀ (i:Nat) (x:Nd),σ[i]? = M (M x)->∃ K cap,(∀ zd,D.atKey (.int .i64 (i:Int)) zd=.held (exV x.k x.n x.p x.c K x.ks.len cap))/\bJ w B x.ks K/\x.ks.len<=cap/\cap<=I2
 keys:∀ kl,Maps.has D kl=true->∃ (i:Nat) (x:Nd),σ[i]? = M (M x)/\kl=.int .i64 (i:Int)
def wL(w:Iv)(B r n:Nat)(σ:Sub):Prop:=∃ D:DataW I1,w.ownsMap Tryz.prog 2 Hg r n D/\zA w B D σ
variable{w w':Iv}{B:Nat}{D:DataW I1}{σ:Sub}
theorem zA.below(h:zA w B D σ)(hb:Ix B w w'):zA w' B D σ:=
 ⟨h.isMap,λi x hx=>by obtain⟨K,cap,h1,h2,h3⟩:=h.at_ i x hx;exact⟨K,cap,h1,h2.below hb,h3⟩,h.keys⟩
variable{r n:Nat}
theorem wL.below(h:wL w B r n σ)(hb:Ix w.heap.size w w')(hB:B<=w.heap.size):wL w' B r n σ:=by
 obtain⟨D,h1,h2⟩:=h;exact⟨D,h1.kept (below_grown hb) (by simp),h2.below (hb.mono hB)⟩
theorem wL.lt(h:wL w B r n σ):r<w.heap.size:=by obtain⟨D,h1,_⟩:=h;exact h1.lt
theorem BM{n:Int}{x:Nd}(h:σ.at n=M x):σ[n.toNat]? = M (M x):=by
 unfold Sub.at at h;rw[List.getD_eq_getElem?_getD] at h;cases h2:σ[n.toNat]? with
 | none=>rw[h2] at h;cases h
 | some y=>rw[h2] at h;simp at h;rw[h]
theorem zA.YQ(h:zA w B D σ){n:Int}(hn:0<=n){x:Nd}(hx:σ.at n=M x):Maps.has D (.int .i64 n)=true:=by
 obtain⟨K,cap,h1,_⟩:=h.at_ _ _ (BM hx);rw[show n=((n.toNat:Nat):Int) by omega];exact Maps.has_true_of_atKey h1
theorem zA.JI(h:zA w B D σ){n:Int}(hx:σ.at n=U):Maps.has D (.int .i64 n)=false:=by
 cases hb:Maps.has D (.int .i64 n)
 ·rfl
 ·obtain⟨i,x,h1,h2⟩:=h.keys _ hb
  injection h2 with _ h2
  subst h2;unfold Sub.at at hx;rw[Mz,List.getD_eq_getElem?_getD,h1] at hx;cases hx
theorem zA.put(h:zA w B D σ)(hw:Ix B w w'){n:Int}(hn:0<=n)(hl:n.toNat<σ.length)(hx:σ.at n=U){y:Nd}{K:Option I3}{cap:Nat}(hy:bJ w B y.ks K)(hc:y.ks.len<=cap)(hm:cap<=I2) :
  zA w' B (D.put (.int .i64 n) (.held (exV y.k y.n y.p y.c K y.ks.len cap))) (σ.set n.toNat (M y)):=by
 refine⟨?_,λi x hix=>?_,λkl hk=>?_⟩
 ·obtain⟨es,rfl⟩:=h.isMap
  exact⟨_,rfl⟩
 ·rw[List.getElem?_set] at hix
  split at hix
  ·rename_i e
   subst e;injection hix with hix
   injection hix with hix
   subst hix;refine⟨K,cap,λzd=>?_,hy.below hw,hc,hm⟩;rw[show ((n.toNat:Nat):Int)=n by omega];exact Maps.atKey_put_same h.isMap (by simp[WideAt.IsKeyLit]) _ _
  ·rename_i e
   obtain⟨K',c',h1,h2,h3⟩:=h.at_ i x hix;refine⟨K',c',λzd=>?_,h2.below hw,h3⟩;rw[Maps.atKey_put_other (λe2=>by injection e2 with _ e2;omega)];exact h1 zd
 ·by_cases e:kl=.int .i64 n
  ·subst e
   exact⟨n.toNat,y,by rw[List.getElem?_set_self hl],by rw[show ((n.toNat:Nat):Int)=n by omega]⟩
  ·rw[Maps.has_put_other e] at hk
   obtain⟨i,x,h1,h2⟩:=h.keys kl hk;refine⟨i,x, ?_,h2⟩;rw[List.getElem?_set_ne]
   ·exact h1
   ·intro e2
    subst e2;unfold Sub.at at hx;rw[List.getD_eq_getElem?_getD,h1] at hx;cases hx
end
end Go.Proofs.YtgfkglhelfkpoaaGreat
