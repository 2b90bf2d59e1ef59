/- Parts of the proof. -/
import Derived.Test.YtgfkglhelfkpoaaGreatRG
import Derived.Deep.RegionHeld3
import Derived.Deep.RegionLawGrows
set_option maxRecDepth 100000
set_option maxHeartbeats 1000000
open Go.Proofs.Tryz
open Go.Value renaming int→I,slice→V
open Go.IntKind renaming i64→J
open Option renaming some→M,none→U
open Go.Ending renaming returned→If
open Go.Obj renaming cells→Is
open Go renaming World→Iv,Calls→I0,Value→I1,maxLen→I2,Addr→I3
open Go.RowKit renaming Below→Ix
open Nat renaming le_refl→Jn,le_trans→Mp,zero_add→Mu,lt_of_lt_of_le→M1
open Bool renaming and_eq_true→Mb
open List renaming getD→Up
namespace Go.Proofs.YtgfkglhelfkpoaaGreat
section
open Go.RowKit Plain
theorem kU(a:Int)(w:Iv):I0 Tryz.prog 204 #[I J a] w λe w'=>e=If (I J (rs a))/\w=w':=by
 obtain⟨h1,h2,h3⟩:=Qq a;have H4:ak (a.tmod 1000003<0->a.tmod 1000003+1000003=rs a):=λh=>ah
 have H5:ak (0<=a.tmod 1000003->a.tmod 1000003=rs a):=λh=>ah
 clear h3;go_enter func204,ntmps204;go_wp2
 all_goals
  go_ret
  first
   | exact⟨bR (H4.o ah),rfl⟩
   | exact⟨bR (H5.o ah),rfl⟩
theorem Si(a b:Int)(w:Iv):I0 Tryz.prog 127 #[I J a,I J b] w λe w'=>e=If (I J (pl a b))/\w=w':=by
 have ha:=uT a;have hb:=uT b;have H:=aj (aeu a b);go_enter func127,ntmps127;go_wp2_with fail;refine (kU a _).mono ?_;rintro e w' ⟨rfl,rfl⟩;go_wp2_with fail;refine (kU b _).mono ?_;rintro e w' ⟨rfl,rfl⟩;generalize rs a=x at *;generalize rs b=y at *;go_wp2;go_ret;exact⟨bR H.o,rfl⟩
theorem l6(a b:Int)(w:Iv):I0 Tryz.prog 125 #[I J a,I J b] w λe w'=>e=If (I J (tm a b))/\w=w':=by
 have ha:=uT a;have hb:=uT b;have hm:=zS ha.1 ha.2 hb.1 hb.2;have H:=aj (aex a b);go_enter func125,ntmps125;go_wp2_with fail;refine (kU a _).mono ?_;rintro e w' ⟨rfl,rfl⟩;go_wp2_with fail;refine (kU b _).mono ?_;rintro e w' ⟨rfl,rfl⟩;generalize rs a=x at *;generalize rs b=y at *;go_wp2;go_ret;exact⟨bR H.o,rfl⟩
theorem Oo(a:Int)(n:Nat)(w:Iv)(hn:n<=4611686018427387904):I0 Tryz.prog 126 #[I J a,I J n] w λe w'=>e=If (I J (pw a n))/\w=w':=by
 have ha:=uT a;have HP:=aj (ZT a n);go_enter func126,ntmps126;go_wp2_with fail;refine (kU a _).mono ?_;rintro e w' ⟨rfl,rfl⟩;generalize rs a=x at *;go_wp2_with fail
 go_loop [1,5,6] (λnn o b=>∃ (k:Nat) (oo bb:Int),k<=n/\nn=I J (k:Int)/\o=I J oo/\b=I J bb/\0<=oo/\oo<=1000002/\0<=bb/\bb<=1000002/\ak (pw x n=tm oo (pw bb k))) (λnn _ _=>(intOf nn).toNat)
 case atStart=>exact⟨n,1,x,ah,rfl,rfl,rfl,ah,ah,ha.1,ha.2,by show _=_;unfold tm pw;rw[Int.one_mul,Int.emod_emod]⟩
 case round=>
  obtain⟨k,oo,bb,hk,rfl,rfl,rfl,o0,o1,b0,b1,HE⟩:=hrel;have m1:=zS o0 o1 b0 b1;have m2:=zS b0 b1 b0 b1
  by_cases hlt:0<k
  ·by_cases h2:k % 2=1
   ·have hd:((k:Int) % 2==1)=true:=by simp;omega
    have HS:=aj (Bb (o:=oo) (b:=bb) h2);go_wp2_with fail;refine (l6 oo bb _).mono ?_;rintro e w' ⟨rfl,rfl⟩;go_wp2_with fail;refine (l6 bb bb _).mono ?_;rintro e w' ⟨rfl,rfl⟩;go_wp2
    go_round
    case rel=>exact⟨k / 2,oo*bb % 1000003,bb*bb % 1000003,ah,bE,rfl,rfl,ah,ah,ah,ah,by show _=_;rw[HE.o,HS.o]⟩
    case measure=>simp[intOf];omega
   ·have hd:((k:Int) % 2==1)=false:=by simp;omega
    have HS:=aj (yM (o:=oo) (b:=bb) (show k % 2=0 by omega));go_wp2_with fail;refine (l6 bb bb _).mono ?_;rintro e w' ⟨rfl,rfl⟩;go_wp2
    go_round
    case rel=>exact⟨k / 2,oo,bb*bb % 1000003,ah,bE,rfl,rfl,ah,ah,ah,ah,by show _=_;rw[HE.o,HS.o]⟩
    case measure=>simp[intOf];omega
  ·obtain rfl:k=0:=ah
   have HF:=aj (aag o0 o1 bb);go_wp2;go_ret;exact⟨bR (by rw[<-HP.o,HE.o,HF.o]),rfl⟩
theorem Zd(a:Int)(w:Iv):I0 Tryz.prog 224 #[I J a] w λe w'=>e=If (I J (iv a))/\w=w':=by
 go_enter func224,ntmps224;go_wp2_with fail;refine (Oo a 1000001 _ ah).mono ?_;rintro e w' ⟨rfl,rfl⟩;go_wp2;go_ret;exact⟨rfl,rfl⟩
def Po(w:Iv)(B:Nat)(A:Option I3)(zs:List Int):Prop:=
 0<zs.length->∃ b o,A=M ⟨b,o,U⟩/\B<=b/\b<w.heap.size/\Typed w b 2/\∀ j x,zs[j]? = M x->w.cell? ⟨b,o+j,U⟩=M (I J x)/\w.frozen? ⟨b,o+j,U⟩=false
variable{w:Iv}{B:Nat}{zs:List Int}
theorem Po.m{A:Option I3}(h:Po w B A zs):vS w B A zs:=λhn=>by
 obtain⟨b,o,e,h1,h2,_,h3⟩:=h hn;exact⟨b,o,e,h1,h2,h3⟩
theorem au.aen{g:Nat}(h:au w g 2 (zs.map (I J)))(hB:B<=g):Po w B (M ⟨g,0,U⟩) zs:=
 λ_=>⟨g,0,rfl,hB,h.lt,h.typed,λj x hx=>⟨by rw[h.cell,Mu];simp[hx],h.frozen _⟩⟩
def ag5(zs:List Int)(w:Iv)(e:Ending)(w':Iv):Prop:=
 ∃ A cp,e=If (V A zs.length cp)/\Po w' w.heap.size A zs/\Ix w.heap.size w w'
theorem bg.alloc{base:Nat}{v:I1}{l:List Int}(h:bg w base v l)(o:Obj):bg (w.alloc o) base v l:=World.ownsRow.alloc h o
theorem aby(k:Nat)(F:Nat->Int):mk (k+1) F=mk k F++[F k]:=by unfold mk;rw[List.range_succ,List.map_append];rfl
theorem Qn{wr W w2:Iv}{k cp:Nat}{Av:Option I3}{F:Nat->Int}{x:Int}{v2:I1}(hr:bg wr w.heap.size (V Av k cp) (mk k F))(hb:Ix w.heap.size w wr)(hW:Ix wr.heap.size wr W)(hx:x=F k)
  (hown:w2.ownsRow w.heap.size 2 1 v2 (k+1) ((mk k F).map (I J)++[I J x])) (hg:W.grownBy w2 (V Av k cp).ownBlock) :
  (∃ A2 c2,v2=V A2 (k+1) c2)/\bg w2 w.heap.size v2 (mk (k+1) F)/\Ix w.heap.size w w2:=by
 have h1:bg w2 w.heap.size v2 (mk k F++[x]):=bg.push (iV _ _).symm hown;rw[hx,<-aby] at h1;obtain⟨A2,c2,hv⟩:=h1.form;have hbW:=aH hb hW;exact⟨⟨A2,c2,by rw[hv,iV]⟩,h1,hbW.grown hg hbW.size (λq hq=>(hr.lt hq).1)⟩
theorem KC(w:Iv)(F:Nat->Int):bg (w.alloc (Is #[] 2)) w.heap.size (V (M ⟨w.heap.size,0,U⟩) 0 0) (mk 0 F):=
 World.ownsRow_lit w #[] 0 (Jn _) (by unfold I2;omega) (by rfl)
theorem M8(x:Int)(n:Nat)(w:Iv)(h0:0<n)(hn:n<=1000000) :
  I0 Tryz.prog 59 #[I J x,I J n] w (ag5 ((ops n).num x) w):=by
 have hmk:=run_make_row' (P:=Tryz.prog) 28 2 (I J 0) 8 underlying28 Tryz.infoI rfl .i64 .i64 n ah ah;rw[l9,SE,Tc (f:=λk=>if k=0 then x else 0)] at hmk;have h1:(0:Int)<(n:Int):=ah;have HC:=aj (au.new w 2 (pR n (Ib (λk=>if k=0 then x else 0) 0 0)));have g3:=XW HC.o h0;have z3:=HC.o.frozen 0;have HN:ak (au (w.alloc (Is ((pR n (Ib (λk=>if k=0 then x else 0) 0 0)).set 0 (I J x)).toArray 2)) w.heap.size 2 (((ops n).num x).map (I J))):=by
  have e:(pR n (Ib (λk=>if k=0 then x else 0) 0 0)).set 0 (I J x)=((ops n).num x).map (I J):=by
   rw[aan];unfold ops;show _=(mk n _).map _;unfold pR;rw[mk_congr (g:=λk=>if k=0 then x else 0)];intro k _;unfold Ib
   by_cases hk:k=0
   ·subst hk;simp
   ·simp[hk]
  rw[<-e];exact au.new w _ _
 go_enter func59,ntmps59;go_wp2;go_ret;refine⟨M ⟨w.heap.size,0,U⟩,n, ?_,HN.o.aen (Jn _),aV⟩;have e:((ops n).num x).length=n:=by simp only[ops,iV]
 rw[e];rfl
end
end Go.Proofs.YtgfkglhelfkpoaaGreat
namespace Go.Proofs.YtgfkglhelfkpoaaGreat
section
open Go.RowKit Plain
def gJ{α:Type}(r:jD α)(z:α)(s c:Int):Prop:=
 match r with
 | .ok z0 t=>z=z0/\s=(t:Int)/\c=0
 | .err e=>c=e
structure nN (w:Iv) (B bv n:Nat) (P:List Fn) (PA:Option I3) (aX:Nat):Prop where
 prog:eP w B P PA
 pl:P.length<=aX
 pm:aX<=I2
 blow:B<=bv
 lt:bv<w.heap.size
 ok:gF P=true
 n0:1<=n
 n1:n<=13
variable{w w':Iv}{B bv:Nat}{P:List Fn}
theorem nN.only{n:Nat}{PA:Option I3}{aX:Nat}(h:nN w B bv n P PA aX)(ho:aC (λq=>q=bv) w w'):nN w' B bv n P PA aX:=
 ⟨h.prog.below (ho.below (by have:=h.lt;have:=h.blow;omega) (λk hk=>by have:=h.blow;omega)),h.pl,h.pm,h.blow,M1 h.lt ho.size,h.ok,h.n0,h.n1⟩
theorem bI(ho:aC (λq=>q=bv) w w')(h:B<=bv)(hl:bv<w.heap.size):Ix B w w':=ho.below ah (λk hk=>ah)
def Good{α:Type}(s:Nat):jD α->Prop
 | .ok _ t=>s<t/\t<=3000
 | .err e=>e≠0
def acP{α:Type}(s:Nat):jD α->Prop
 | .ok _ t=>s<=t/\(s<=3000->t<=3000)
 | .err e=>e≠0
variable{es:Es}
theorem bJ.get{K:Option I3}(h:bJ w B es K){i:Nat}{y:Nd}(hy:es.get? i=M y):∃ b o,K=M ⟨b,o,U⟩/\dF w B y.k y.n y.p y.c y.ks b (o+i*5):=by
 obtain⟨b,o,hK,he⟩:=h;exact⟨b,o,hK (by have:=Es.yg hy;omega),he.get hy⟩
variable{x:Nd}
theorem Es.iG{i:Nat}(h:es.get? i=M x):x.ks.depth+1<=es.depth:=by
 induction es generalizing i with
 | nil=>simp[Es.get?] at h
 | cons k n p c ks r _ ih=>
  cases i with
  | zero=>simp only[Es.get?,Option.some.injEq] at h;subst h;simp only[Es.depth];omega
  | succ i=>simp only[Es.get?] at h;have:=ih h;simp only[Es.depth];omega
variable{fn vars:Int}
theorem kr{y:Nd}{j:Nat}(h:formed P fn vars x=true)(hy:x.ks.get? j=M y):formed P fn (bQ x.k vars j) y=true:=by
 unfold formed at h;rw[Mb] at h;have:=Jq h.2 hy
 rwa [Mu] at this
theorem aM{g:Nat}{t:TypeId}{C:List I1}(h:au w g t C)(ho:aC (λq=>q=bv) w w')(hne:g≠bv):au w' g t C:=(ho.block g h.lt hne).trans h
theorem dF.cells{k n p c:Int}{ks:Es}{b o:Nat}(h:dF w B k n p c ks b o):∃ K cap,b<B/\w.cell? ⟨b,o,U⟩=M (I J k)/\w.cell? ⟨b,o+1,U⟩=M (I J n)/\w.cell? ⟨b,o+2,U⟩=M (I J p)/\w.cell? ⟨b,o+3,U⟩=M (I J c) /\
  w.cell? ⟨b,o+4,U⟩=M (V K ks.len cap)/\ks.len<=cap/\cap<=I2/\bJ w B ks K:=by
 obtain⟨hb,h0,h1,h2,h3,K,cap,b',o',h4,hc,hm,hK,hk⟩:=h;exact⟨K,cap,hb,h0,h1,h2,h3,h4,hc,hm,b',o',hK,hk⟩
theorem wR(h:formed P fn vars x=true)(hk:x.k=8):x.ks.len=3:=by
 unfold formed at h;rw[Mb,hk,nL (N:=3) (.inr (.inr ⟨rfl,rfl⟩))] at h;simp only[Mb,beq_iff_eq] at h;exact h.1.2.2
end
end Go.Proofs.YtgfkglhelfkpoaaGreat
namespace Go.Proofs.YtgfkglhelfkpoaaGreat
section
open Go.RowKit Plain
variable{w:Iv}
theorem BS{w':Iv}{bv g bk o0 o1:Nat}{v4 a0 a1 a2 a3 a4 b0 b1 b2 b3 b4:I1}(h:w.cell? ⟨g,4,U⟩=M v4/\w.cell? ⟨bk,o0,U⟩=M a0/\w.cell? ⟨bk,o0+1,U⟩=M a1/\w.cell? ⟨bk,o0+2,U⟩=M a2/\w.cell? ⟨bk,o0+3,U⟩=M a3/\w.cell? ⟨bk,o0+4,U⟩=M a4 /\
   w.cell? ⟨bk,o1,U⟩=M b0/\w.cell? ⟨bk,o1+1,U⟩=M b1/\w.cell? ⟨bk,o1+2,U⟩=M b2/\w.cell? ⟨bk,o1+3,U⟩=M b3/\w.cell? ⟨bk,o1+4,U⟩=M b4)
  (ho:aC (λq=>q=bv) w w') (hg:g<w.heap.size) (hgn:g≠bv) (hk:bk<w.heap.size) (hkn:bk≠bv) :
  w'.cell? ⟨g,4,U⟩=M v4/\w'.cell? ⟨bk,o0,U⟩=M a0/\w'.cell? ⟨bk,o0+1,U⟩=M a1/\w'.cell? ⟨bk,o0+2,U⟩=M a2/\w'.cell? ⟨bk,o0+3,U⟩=M a3/\w'.cell? ⟨bk,o0+4,U⟩=M a4 /\
   w'.cell? ⟨bk,o1,U⟩=M b0/\w'.cell? ⟨bk,o1+1,U⟩=M b1/\w'.cell? ⟨bk,o1+2,U⟩=M b2/\w'.cell? ⟨bk,o1+3,U⟩=M b3/\w'.cell? ⟨bk,o1+4,U⟩=M b4:=by
 obtain⟨h0,h1,h2,h3,h4,h5,h6,h7,h8,h9,h10⟩:=h;exact⟨(ho.cell (a:=⟨g,_,U⟩) hg hgn).trans h0,(ho.cell (a:=⟨bk,_,U⟩) hk hkn).trans h1,(ho.cell (a:=⟨bk,_,U⟩) hk hkn).trans h2,(ho.cell (a:=⟨bk,_,U⟩) hk hkn).trans h3,(ho.cell (a:=⟨bk,_,U⟩) hk hkn).trans h4,(ho.cell (a:=⟨bk,_,U⟩) hk hkn).trans h5,
  (ho.cell (a:=⟨bk,_,U⟩) hk hkn).trans h6,(ho.cell (a:=⟨bk,_,U⟩) hk hkn).trans h7,(ho.cell (a:=⟨bk,_,U⟩) hk hkn).trans h8,(ho.cell (a:=⟨bk,_,U⟩) hk hkn).trans h9,(ho.cell (a:=⟨bk,_,U⟩) hk hkn).trans h10⟩
variable{P:List Fn}{fn vars:Int}{x:Nd}
theorem CK(h:formed P fn vars x=true)(hk:x.k=9):x.ks.len=2:=by
 unfold formed at h;rw[Mb,hk,nL (N:=2) (.inl ⟨.inr (.inr (.inr (.inr rfl))),rfl⟩)] at h;simp only[Mb,beq_iff_eq] at h;exact h.1.2.2
theorem jV{N:Nat}(h:formed P fn vars x=true)(hN:opN x.k N):x.ks.len=N:=by
 unfold formed at h;rw[Mb,nL hN] at h;simp only[Mb,beq_iff_eq] at h;exact h.1.2.2
structure wH (P:List Fn) (m pi:Nat) (c:Int) (ks:Es) (k:Int) (f:Fn) (y:Nd):Prop where
 fn:P[m]? = M f
 par:(ks.len:Int)=f.params
 o:f.outs.get? pi=M y
 p12:ks.len<=12
 o12:f.outs.len<=12
 size:f.outs.size<=400
 each:∀ j z,f.outs.get? j=M z->formed P m ks.len z=true/\z.ks.size<=399/\z.ks.depth<=59
 dep:f.outs.depth<=60
 loop:k=11->0<=c/\c<=8/\f.outs.len=ks.len
 one:k=10->c=0
theorem X6{es:Es}{d:Nat}(h:∀ j z,es.get? j=M z->z.ks.depth+1<=d):es.depth<=d:=by
 induction es with
 | nil=>exact Nat.zero_le _
 | cons k n p c ks r _ ih=>
  simp only[Es.depth];have h1:=h 0 ⟨k,n,p,c,ks⟩ rfl;have h2:=ih λj z hz=>h (j+1) z hz
  simp only at h1;omega
theorem XV{k n p c:Int}{ks:Es}(dh:gF P=true)(h:formed P fn vars ⟨k,n,p,c,ks⟩=true)(hk:k=10∨k=11)(hfn:fn<=P.length):∃ (m pi:Nat) (f:Fn) (y:Nd),n=m/\p=pi/\(m:Int)<fn/\wH P m pi c ks k f y:=by
 unfold formed at h;rw[Mb] at h;have h1:=h.1;simp only at h1;have hn:fP n 0 (fn - 1)=true:=by
  cases hh:fP n 0 (fn - 1)
  ·rw[qB hk hh] at h1;cases h1
  ·rfl
 obtain⟨n0,n1⟩:=bH.1 hn;obtain⟨m,rfl⟩:=Int.eq_ofNat_of_zero_le n0;obtain⟨f,hf⟩:∃ f,P[m]? = M f:=⟨P[m]'ah,List.getElem?_eq_getElem _⟩
 rw[jk hk (show P[(m:Int).toNat]? = M f from hf) hn] at h1;rw[Mb,Mb] at h1;have ah8:(ks.len:Int)=f.params:=of_decide_eq_true h1.1.1;obtain⟨p0,p1⟩:=bH.1 h1.1.2;obtain⟨pi,rfl⟩:=Int.eq_ofNat_of_zero_le p0;obtain⟨y,hy⟩:=Es.eG (show pi<f.outs.len by omega);have hfo:=Ou dh hf;unfold qp at hfo;simp only[Mb,decide_eq_true_eq] at hfo
 obtain⟨⟨⟨⟨⟨_,_⟩,h12⟩,ho⟩,hex⟩,hsz⟩:=hfo;have q1:=bH.1 h12;have q2:=bH.1 ho;have aeh:∀ j z,f.outs.get? j=M z->formed P m ks.len z=true/\z.ks.size<=399/\z.ks.depth<=59:=λj z hz=>by
  have:=Jk hex hz;unfold bT at this;simp only[Mb,decide_eq_true_eq] at this;rw[ah8];have a:=this.1.1.2;have b:=this.1.2;unfold Nd.size at a;unfold Nd.depth at b;exact⟨this.2,ah,ah⟩
 refine⟨m,pi,f,y,rfl,rfl,ah,hf,ah8,hy,ah,ah,hsz,aeh,X6 λj z hz=>by have:=(aeh j z hz).2.2;omega, ?_, ?_⟩
 ·rintro rfl
  have h2:=h1.2;rw[if_neg ah,Mb] at h2;have q3:=bH.1 h2.2;have q4:(f.outs.len:Int)=f.params:=of_decide_eq_true h2.1;exact⟨q3.1,q3.2,ah⟩
 ·rintro rfl
  have h2:=h1.2;simpa using h2
theorem aet{B:Nat}{PA:Option I3}{m pi:Nat}{f:Fn}{y:Nd}(h:eP w B P PA)(hf:P[m]? = M f)(hy:f.outs.get? pi=M y) :
  ∃ bP oP KF cF bk ok,PA=M ⟨bP,oP,U⟩/\bP<B/\w.cell? ⟨bP,oP+m*3+2,U⟩=M (V KF f.outs.len cF)/\f.outs.len<=cF/\cF<=I2/\KF=M ⟨bk,ok,U⟩/\bJ w B f.outs KF/\dF w B y.k y.n y.p y.c y.ks bk (ok+pi*5):=by
 obtain⟨bP,oP,rfl,hb,_,_,_,KF,cF,g2,hc,hm,hk⟩:=h.get hf;obtain⟨bk,ok,rfl,he⟩:=hk.get hy;exact⟨bP,oP,_,cF,bk,ok,rfl,hb,g2,hc,hm,rfl,hk,he⟩
theorem xZ(h:formed P fn vars x=true):1<=x.k/\x.k<=11:=by
 unfold formed at h;rw[Mb] at h
 by_cases hr:x.k<1∨11<x.k
 ·rw[o7 hr] at h;cases h.1
 ·omega
end
end Go.Proofs.YtgfkglhelfkpoaaGreat
namespace Go.Proofs.YtgfkglhelfkpoaaGreat
section
open Go.RowKit Plain
structure qd (w:Iv) (B bv n:Nat) (P:List Fn) (bp op:Nat):Prop where
 prog:sG w B P bp op
 blow:B<=bv
 lt:bv<w.heap.size
 ok:gF P=true
 n0:1<=n
 n1:n<=13
theorem qd.only{w w':Iv}{B bv n:Nat}{P:List Fn}{bp op:Nat}(h:qd w B bv n P bp op)(ho:aC (λq=>q=bv) w w'):qd w' B bv n P bp op:=
 ⟨h.prog.below (bI ho h.blow h.lt),h.blow,M1 h.lt ho.size,h.ok,h.n0,h.n1⟩
abbrev hdS (n bp op:Nat):List I1:=[ptr bp op,I J n]
def oV(c0 code:Int):Int:=if c0=0 then code else c0
variable{ks:Es}{a:Nd}
theorem Q5(hl:ks.len=1)(ha:ks.get? 0=M a):ks=.cons a.k a.n a.p a.c a.ks .nil:=by
 cases ks with
 | nil=>simp[Es.len] at hl
 | cons k n p c aY r=>
  simp only[Es.len] at hl;have:=Es.J2 (es:=r) ah;subst this;simp only[Es.get?,Option.some.injEq] at ha;subst ha;rfl
theorem Zi{b:Nd}(hl:ks.len=2)(ha:ks.get? 0=M a)(hb:ks.get? 1=M b):ks=.cons a.k a.n a.p a.c a.ks (.cons b.k b.n b.p b.c b.ks .nil):=by
 cases ks with
 | nil=>simp[Es.len] at hl
 | cons k n p c aY r=>
  simp only[Es.len] at hl;simp only[Es.get?,Option.some.injEq] at ha;subst ha;cases r with
  | nil=>simp[Es.len] at hl
  | cons k2 n2 p2 c2 ks2 r2=>
   simp only[Es.len] at hl;have:=Es.J2 (es:=r2) ah;subst this;simp only[Es.get?,Option.some.injEq] at hb;subst hb;rfl
end
end Go.Proofs.YtgfkglhelfkpoaaGreat
namespace Go.Proofs.YtgfkglhelfkpoaaGreat
section
open Go.RowKit Plain
theorem ahm{w:Iv}{B:Nat}{P:List Fn}{bp op m:Nat}{g:Fn}(h:sG w B P bp op)(hf:P[m]? = M g):∃ bP oP aX KF cF,bp<B/\w.cell? ⟨bp,op,U⟩=M (V (M ⟨bP,oP,U⟩) P.length aX)/\bP<B/\w.cell? ⟨bP,oP+m*3+2,U⟩=M (V KF g.outs.len cF)/\g.outs.len<=cF/\cF<=I2/\bJ w B g.outs KF/\aX<=9223372036854775807:=by
 obtain⟨h0,A,cap,h1,h2,h3,h4⟩:=h;obtain⟨bP,oP,rfl,hb,_,_,_,KF,cF,g2,hc,hm,hk⟩:=h4.get hf;exact⟨bP,oP,cap,KF,cF,h0,h1,hb,g2,hc,hm,hk,by unfold I2 at h3;omega⟩
end
end Go.Proofs.YtgfkglhelfkpoaaGreat
namespace Go.Proofs.YtgfkglhelfkpoaaGreat
section
open Go.RowKit Plain
def ones(zs:List Int):List (List Int):=zs.map λx=>[x]
end
end Go.Proofs.YtgfkglhelfkpoaaGreat
namespace Go.Proofs.YtgfkglhelfkpoaaGreat
section
open Go.RowKit Plain
structure jd (w:Iv) (lo hi:Nat) (Φ:Iv->Prop):Prop where
 le:lo<=hi
 size:hi<=w.heap.size
 now:Φ w
 keep:∀ w1 w2:Iv,Φ w1->(∀ q,lo<=q->q<hi->w2.heap[q]? = w1.heap[q]?)->Φ w2
variable{w w':Iv}{lo hi:Nat}{Φ:Iv->Prop}
theorem jd.only{S:Nat->Prop}(h:jd w lo hi Φ)(ho:aC S w w')(hS:∀ q,lo<=q->q<hi->¬ S q):jd w' lo hi Φ:=
 ⟨h.le,Mp h.size ho.size,h.keep w w' h.now (λq q1 q2=>ho.block q (by have:=h.size;omega) (hS q q1 q2)),h.keep⟩
theorem jd.below(h:jd w lo hi Φ)(hb:Ix w.heap.size w w'):jd w' lo hi Φ:=
 h.only (aC.of_below (S:=λ_=>False) hb) (λ_ _ _ h=>h)
variable{a b:Nat}
theorem jd.apart(h:jd w lo hi Φ)(ho:aC (λq=>a<=q/\q<b) w w')(hd:hi<=a∨b<=lo):jd w' lo hi Φ:=
 h.only ho (λq _ _ hs=>ah)
theorem mE{w0:Iv}(h:Ix w0.heap.size w0 w)(ho:aC (λq=>a<=q/\q<b) w w')(ha:w0.heap.size<=a):Ix w0.heap.size w0 w':=
 h.trans (ho.below h.size (λk hk=>ah))
def pX(lo hi:Nat)(A:Option I3)(zs:List Int)(w:Iv):Prop:=
 0<zs.length->∃ b o,A=M ⟨b,o,U⟩/\lo<=b/\b<hi/\∀ j x,zs[j]? = M x->w.cell? ⟨b,o+j,U⟩=M (I J x)/\w.frozen? ⟨b,o+j,U⟩=false
variable{A:Option I3}{zs:List Int}
theorem pX.keep{w1 w2:Iv}(h:pX lo hi A zs w1)(hb:∀ q,lo<=q->q<hi->w2.heap[q]? = w1.heap[q]?):pX lo hi A zs w2:=λhn=>by
 obtain⟨b,o,e,h1,h2,hc⟩:=h hn;have:=hb b h1 h2;exact⟨b,o,e,h1,h2,λj x hx=>⟨(World.cell?_of_block (a:=⟨b,_,U⟩) this).trans (hc j x hx).1,(World.frozen?_of_block (a:=⟨b,_,U⟩) this).trans (hc j x hx).2⟩⟩
theorem vS.reg{B:Nat}(h:vS w B A zs)(hB:B<=w.heap.size):jd w B w.heap.size (pX B w.heap.size A zs):=
 ⟨hB,Jn _,λhn=>by obtain⟨b,o,e,h1,h2,hc⟩:=h hn;exact⟨b,o,e,h1,h2,hc⟩,λ_ _ h hb=>h.keep hb⟩
theorem Kv(h:jd w lo hi (pX lo hi A zs)):vS w lo A zs:=λhn=>by
 obtain⟨b,o,e,h1,h2,hc⟩:=h.now hn;exact⟨b,o,e,h1,M1 h2 h.size,hc⟩
theorem yN(h:jd w lo hi (pX lo hi A zs)):Ints w A zs:=(Kv h).ints
theorem aiw(cap:Nat){zs:List Int}{k:Int}{w:Iv}(h:jd w lo hi (pX lo hi A zs))(hn:zs.length<=4194304)(k0:0<=k)(k1:k<=1000000000000) :
  I0 Tryz.prog 17 #[V A zs.length cap,I J k] w λe w'=>
   e=If (I J (k+zs.length))/\jd w' lo hi (pX lo hi A (Fq zs.length k))/\aC (λq=>lo<=q/\q<hi) w w':=
 (Zm lo A cap zs k w (Kv h) hn k0 k1).mono λe w' ⟨he,hM,hO⟩=>by
  have hin:∀ q,L9 zs.length A q->lo<=q/\q<hi:=λq ⟨hq,o,e'⟩=>by
   obtain⟨b,o',e,h1,h2,_⟩:=h.now hq;rw[e] at e';obtain⟨rfl,rfl⟩:b=q/\o'=o:=by simpa using e'
   exact⟨h1,h2⟩
  refine⟨he,⟨h.le,Mp h.size hO.size,λhn'=>?_,λ_ _ h hb=>h.keep hb⟩,⟨hO.os,hO.tape,hO.output,hO.size,λq hq hs=>hO.block q hq (λhi=>hs (hin q hi))⟩⟩;obtain⟨b,o,e',h1,_,hc⟩:=hM hn';have:=hin b ⟨by rw[qV] at hn';exact hn',o,e'⟩;exact⟨b,o,e',h1,this.2,hc⟩
theorem toR(A:Option I3)(cap:Nat)(zs:List Int)(w:Iv)(hA:Ints w A zs)(hn:zs.length<=1048576) :
  I0 Tryz.prog 24 #[V A zs.length cap] w λe w'=>
   e=If (V (M ⟨w.heap.size,0,U⟩) zs.length zs.length)/\jd w' w.heap.size w'.heap.size (pX w.heap.size w'.heap.size (M ⟨w.heap.size,0,U⟩) zs)/\Ix w.heap.size w w':=
 (af4 A cap zs w hA hn).mono λe w' ⟨he,hw⟩=>by
  subst hw;have hb:Ix w.heap.size w (w.alloc (GR 2 zs)):=aV;have hc:au (w.alloc (GR 2 zs)) w.heap.size 2 (zs.map (I J)):=au.new w _ _;exact⟨he,((hc.aen (Jn _)).m).reg hb.size,hb⟩
theorem eqR{A':Option I3}(cap bB:Nat){zs:List Int}{w:Iv}(h:Ints w A zs)(h':Ints w A' zs)(hn:zs.length<=4611686018427387904) :
  I0 Tryz.prog 14 #[V A zs.length cap,V A' zs.length bB] w λe w'=>e=If (.bool true)/\Ix w.heap.size w w':=
 (ae4 A A' cap bB zs w h h' hn).mono λ_ _ ⟨he,hd⟩=>⟨he,hd.below _⟩
def sH(g hi:Nat)(P:List Fn)(w:Iv):Prop:=iO w P (g+1) hi g 0
variable{g:Nat}{P:List Fn}
theorem abZ(h:iO w P (g+1) w.heap.size g 0):jd w g w.heap.size (sH g w.heap.size P):=
 ⟨by have:=h.le;omega,Jn _,h,λw1 w2 h1 hb=>h1.keep (aN.of_block (hb g (Jn _) (by have:=iO.le h1;omega)) _ _) (λq q1 q2=>hb q ah q2)⟩
theorem Cb(hz:bK P<=1048576){A:Option I3}(cap:Nat){B:Nat}{w:Iv}(hA:eP w B P A)(hB:B<=w.heap.size) :
  I0 Tryz.prog 22 #[rW A P.length cap] w λe w'=>∃ g,w.heap.size<=g/\e=If (rW (M ⟨g,0,U⟩) P.length P.length)/\jd w' g w'.heap.size (sH g w'.heap.size P)/\Ix w.heap.size w w':=
 (EG P hz A cap B w hA hB).mono λ_e _w' ⟨g,h1,_h2,he,hM,hb⟩=>⟨g,h1,he,abZ hM,hb⟩
theorem aa2{g' hi':Nat}(cap bB:Nat){w:Iv}(h:jd w g hi (sH g hi P))(h':jd w g' hi' (sH g' hi' P))(hz:bK P<=1048576) :
  I0 Tryz.prog 27 #[rW (M ⟨g,0,U⟩) P.length cap,rW (M ⟨g',0,U⟩) P.length bB] w λe w'=>e=If (.bool true)/\Ix w.heap.size w w':=by
 have e1:eP w w.heap.size P (M ⟨g,0,U⟩):=by
  have h1:=h.now;have:=iO.le h1;exact⟨g,0,λ_=>rfl,iO.fns h1 h.size (by have:=h.size;omega)⟩
 have e2:eP w w.heap.size P (M ⟨g',0,U⟩):=by
  have h1:=h'.now;have:=iO.le h1;exact⟨g',0,λ_=>rfl,iO.fns h1 h'.size (by have:=h'.size;omega)⟩
 exact Em P _ _ cap bB _ w e1 e2 (Jn _) hz
theorem RZ(cap:Nat){k:Int}{w:Iv}(h:jd w g hi (sH g hi P))(hz:bK P<=1048576)(k0:0<=k)(k1:k<=1000000000) :
  I0 Tryz.prog 28 #[rW (M ⟨g,0,U⟩) P.length cap,I J k] w λe w'=>∃ k',e=If (I J k')/\k<=k'/\k'<=k+4*bK P/\aC (λq=>g<=q/\q<hi) w w':=by
 have hle:=iO.le h.now;exact (BA P _ cap g (g+1) hi k w (λ_=>rfl) h.now ah h.size hz k0 k1).mono λe w' ⟨k',he,h1,h2,hO⟩=>
  ⟨k',he,h1,h2,⟨hO.os,hO.tape,hO.output,hO.size,λq hq hs=>hO.block q hq (λhi=>hs ah)⟩⟩
def Lj:List (List Int)->Nat
 | []=>0
 | zs :: r=>zs.length+Lj r
theorem DN(a b:List (List Int)):Lj (a++b)=Lj a+Lj b:=by
 induction a with
 | nil=>simp[Lj]
 | cons x a ih=>simp only[List.cons_append,Lj,ih];omega
variable{DW:List (List Int)}{k:Nat}
theorem EH(h:DW[k]? = M zs):Lj (DW.take (k+1))=Lj (DW.take k)+zs.length:=by
 rw[DL DW k zs h,DN];simp[Lj]
theorem KX(DW:List (List Int))(k:Nat):Lj (DW.take k)<=Lj DW:=by
 have:=DN (DW.take k) (DW.drop k);rw[List.take_append_drop] at this;omega
theorem N9(h:DW[k]? = M zs):zs.length<=Lj DW:=by
 have h1:=EH h;have h2:=KX DW (k+1);omega
end
section
open Go.ChangeShapes Go.WideShapes Go.ChangeAt Go.RowKit Plain
end
section
open Go.RowKit Plain
structure Mj (w:Iv) (P:List Fn) (A:Option I3) (cap:Nat):Prop where
 fns:eP w w.heap.size P A
 pl:P.length<=cap
 pm:cap<=I2
 sz:bK P<=1048576
variable{w:Iv}
theorem Ox{g hi:Nat}{P:List Fn}(h:jd w g hi (sH g hi P))(hz:bK P<=1048576):Mj w P (M ⟨g,0,U⟩) P.length:=by
 have h1:=h.now;have:=iO.le h1;have:=h.size;exact⟨⟨g,0,λ_=>rfl,iO.fns h1 ah ah⟩,Jn _,by unfold bK at hz;unfold I2;omega,hz⟩
theorem rC{b:Nat}{t:TypeId}{C:List I1}(h:au w b t C):jd w b (b+1) (λw'=>au w' b t C):=
 ⟨ah,h.lt,h,λw1 w2 h1 hb=>(hb b (Jn _) ah).trans h1⟩
variable{w':Iv}{p:I3}{u:I1}
theorem aB(h:w.cell? p=M u)(hb:Ix w.heap.size w w'):w'.cell? p=M u:=
 (hb.cell (World.block_lt_of_cell? _ _ h)).trans h
theorem aeo{q:I3}{v:I1}(h:w.cell? p=M u/\w.cell? q=M v)(hb:Ix w.heap.size w w'):w'.cell? p=M u/\w'.cell? q=M v:=
 ⟨aB h.1 hb,aB h.2 hb⟩
end
end Go.Proofs.YtgfkglhelfkpoaaGreat
open Go.Proofs.Tryz
namespace Go.Proofs.YtgfkglhelfkpoaaGreat
section
open Plain
def cmpL:List Int->List Int->Int
 | [],[]=>0
 | [],_ :: _=>-1
 | _ :: _,[]=>1
 | x :: a,y :: b=>if x<y then -1 else if y<x then 1 else cmpL a b
variable{a:List Int}{k:Nat}
theorem EP{b:List Int}(hk:k<a.length)(hb:k<b.length):cmpL (a.drop k) (b.drop k)=if cf a k<cf b k then -1 else if cf b k<cf a k then 1 else cmpL (a.drop (k+1)) (b.drop (k+1)):=by
 rw[List.drop_eq_getElem_cons hk,List.drop_eq_getElem_cons hb];simp only[cmpL];have e1:cf a k=a[k]:=by simp[cf,Up,hk]
 have e2:cf b k=b[k]:=by simp[cf,Up,hb]
 rw[e1,e2]
theorem BN(a b:List Int):cmpL a b=-1∨cmpL a b=0∨cmpL a b=1:=by
 induction a generalizing b with
 | nil=>cases b<;>simp[cmpL]
 | cons x a ih=>
  cases b with
  | nil=>simp[cmpL]
  | cons y b=>
   simp only[cmpL];split
   ·simp
   ·split
    ·simp
    ·exact ih b
abbrev av:=List Int×Int
def fB(a:List Int):Nat->Int
 | 0=>0
 | k+1=>fB a k+cf a k
def jI(a:List Int):Bool:=a.all λn=>fP n 0 12
def dL(v:Int)(t:av):Bool:=decide ((t.1.length:Int)=v)&&fP t.2 1 1000002&&(jI t.1&&decide (fB t.1 t.1.length<=12))
def aR(ts:List av)(i:Nat):av:=ts.getD i ([],0)
def fu(v:Int)(ts:List av):Nat->Bool
 | 0=>true
 | k+1=>fu v ts k&&(dL v (aR ts k)&&(decide (k=0) || decide (cmpL (aR ts (k - 1)).1 (aR ts k).1<0)))
def aQ(v:Int)(ts:List av):Bool:=fP v 0 12&&decide (ts.length<=120)&&fu v ts ts.length
variable{v:Int}{ts:List av}
theorem qX(h:fu v ts k=false):∀ n,k<=n->fu v ts n=false:=by
 intro n
 induction n with
 | zero=>intro hn;obtain rfl:k=0:=ah
         exact h
 | succ n ih=>
  intro hn
  by_cases hk:k=n+1
  ·rw[<-hk];exact h
  ·unfold fu;rw[ih ah];rfl
theorem Ba{n:Nat}(h:fu v ts n=true):∀ k,k<=n->fu v ts k=true:=λk hk=>by
 cases hp:fu v ts k
 ·rw[qX hp n hk] at h;exact h
 ·rfl
theorem iU(h:jI a=true)(k:Nat):0<=cf a k/\cf a k<=12:=by
 by_cases hk:k<a.length
 ·have:=bH.1 (List.all_eq_true.1 h a[k] (List.getElem_mem hk))
  rwa [show cf a k=a[k] by simp[cf,Up,hk]]
 ·rw[wN ah];omega
theorem xU(h:jI a=true)(k:Nat):0<=fB a k/\fB a k<=12*k:=by
 induction k with
 | zero=>simp[fB]
 | succ k ih=>
  have:=iU h k;simp only[fB];omega
theorem QW(h:jI a=true){i k:Nat}(hik:i<=k):fB a i<=fB a k:=by
 induction k with
 | zero=>obtain rfl:i=0:=ah
         exact Int.le_refl _
 | succ k ih=>
  by_cases hi:i=k+1
  ·rw[hi];exact Int.le_refl _
  ·have:=ih ah
   have:=iU h k;simp only[fB];omega
theorem bV{t:av}(h:dL v t=true):(t.1.length:Int)=v/\1<=t.2/\t.2<=1000002/\jI t.1=true/\fB t.1 t.1.length<=12:=by
 unfold dL at h;simp only[Mb,decide_eq_true_eq] at h;have:=bH.1 h.1.2;exact⟨h.1.1,this.1,this.2,h.2.1,h.2.2⟩
theorem Km(h:aQ v ts=true){k:Nat}(hk:k<ts.length):dL v (aR ts k)=true:=by
 unfold aQ at h;simp only[Mb] at h;have:=Ba h.2 (k+1) ah;simp only[fu,Mb] at this;exact this.2.1
theorem bC(h:aQ v ts=true):0<=v/\v<=12/\ts.length<=120:=by
 unfold aQ at h;simp only[Mb,decide_eq_true_eq] at h;have:=bH.1 h.1.1;omega
end
section
open Go.ChangeShapes Go.WideShapes Go.ChangeAt Go.RowKit Plain
abbrev fJ (v:Int) (A:Option I3) (n cap:Nat):I1:=.agg #[I J v,V A n cap]
def eX(w:Iv)(A:Option I3)(ts:List av):Prop:=
 0<ts.length->∃ b o,A=M ⟨b,o,U⟩/\b<w.heap.size/\∀ i t,ts[i]? = M t->∃ Ai cap,w.cell? ⟨b,o+i*2,U⟩=M (V Ai t.1.length cap)/\w.cell? ⟨b,o+i*2+1,U⟩=M (I J t.2)/\Ints w Ai t.1/\t.1.length<=9223372036854775807
theorem eX.nil(w:Iv)(A:Option I3):eX w A []:=λh=>absurd h (by simp)
variable{w:Iv}{A:Option I3}{ts:List av}
theorem eX.below{w':Iv}(h:eX w A ts)(hb:Ix w.heap.size w w'):eX w' A ts:=λhn=>by
 obtain⟨b,o,e,hl,hc⟩:=h hn;refine⟨b,o,e,M1 hl hb.size,λi t ht=>?_⟩;obtain⟨Ai,cap,h1,h2,h3,h4⟩:=hc i t ht;exact⟨Ai,cap,(hb.cell (p:=⟨b,_,U⟩) hl).trans h1,(hb.cell (p:=⟨b,_,U⟩) hl).trans h2,h3.below hb,h4⟩
variable{k:Nat}
theorem l7(h:k<ts.length):ts[k]? = M (aR ts k):=by simp[aR,Up,h]
theorem eX.at_(h:eX w A ts){k:Nat}(hk:k<ts.length) :
  ∃ b o Ai cap,A=M ⟨b,o,U⟩/\b<w.heap.size/\w.cell? ⟨b,o+k*2,U⟩=M (V Ai (aR ts k).1.length cap)/\w.cell? ⟨b,o+k*2+1,U⟩=M (I J (aR ts k).2)/\Ints w Ai (aR ts k).1/\(aR ts k).1.length<=9223372036854775807:=by
 obtain⟨b,o,e,hl,hc⟩:=h ah;obtain⟨Ai,cap,h1,h2,h3,h4⟩:=hc k _ (l7 hk);exact⟨b,o,Ai,cap,e,hl,h1,h2,h3,h4⟩
def rE(ts:List av):Nat:=Lj (ts.map (·.1))
theorem Aw(h:k<ts.length):(aR ts k).1.length<=rE ts:=by
 have h1:(ts.map (·.1))[k]? = M (aR ts k).1:=by rw[List.getElem?_map,l7 h];rfl
 exact N9 h1
end
section
open Go.RowKit Plain
abbrev Qp (A:Option I3) (n cap:Nat) (c:Int):I1:=.agg #[V A n cap,I J c]
def Mq(lo hi:Nat)(A:Option I3)(ts:List av)(w:Iv):Prop:=
 0<ts.length->∃ (b o:Nat) (g:Nat->Nat),A=M ⟨b,o,U⟩/\lo<=b/\b<hi /\
  (∀ i t,ts[i]? = M t->∃ Ai cap,w.cell? ⟨b,o+i*2,U⟩=M (V Ai t.1.length cap)/\w.cell? ⟨b,o+i*2+1,U⟩=M (I J t.2)/\w.frozen? ⟨b,o+i*2+1,U⟩=false /\
   (0<t.1.length->∃ oi,Ai=M ⟨g i,oi,U⟩/\lo<=g i/\g i<hi/\g i≠b/\∀ j x,t.1[j]? = M x->w.cell? ⟨g i,oi+j,U⟩=M (I J x)/\w.frozen? ⟨g i,oi+j,U⟩=false)) /\
  ∀ i j ti tj,i<j->ts[i]? = M ti->ts[j]? = M tj->0<ti.1.length->0<tj.1.length->g i≠g j
variable{lo hi:Nat}{A:Option I3}{ts:List av}
theorem Mq.keep{w1 w2:Iv}(h:Mq lo hi A ts w1)(hb:∀ q,lo<=q->q<hi->w2.heap[q]? = w1.heap[q]?):Mq lo hi A ts w2:=λhn=>by
 obtain⟨b,o,g,e,h1,h2,hc,hd⟩:=h hn;refine⟨b,o,g,e,h1,h2,λi t ht=>?_,hd⟩;obtain⟨Ai,cap,c1,c2,c3,c4⟩:=hc i t ht;refine⟨Ai,cap,(World.cell?_of_block (a:=⟨b,_,U⟩) (hb b h1 h2)).trans c1,(World.cell?_of_block (a:=⟨b,_,U⟩) (hb b h1 h2)).trans c2,(World.frozen?_of_block (a:=⟨b,_,U⟩) (hb b h1 h2)).trans c3,λh0=>?_⟩;obtain⟨oi,e1,e2,e3,e4,e5⟩:=c4 h0;exact⟨oi,e1,e2,e3,e4,λj x hx=>⟨(World.cell?_of_block (a:=⟨g i,_,U⟩) (hb _ e2 e3)).trans (e5 j x hx).1,(World.frozen?_of_block (a:=⟨g i,_,U⟩) (hb _ e2 e3)).trans (e5 j x hx).2⟩⟩
theorem Mq.nil(lo hi:Nat)(A:Option I3)(w:Iv):Mq lo hi A [] w:=λh=>absurd h (by simp)
abbrev RT (w:Iv) (lo hi:Nat) (A:Option I3) (ts:List av):Prop:=jd w lo hi (Mq lo hi A ts)
theorem Hr{w:Iv}(h:RT w lo hi A ts)(hm:rE ts<=9223372036854775807):eX w A ts:=λhn=>by
 obtain⟨b,o,g,e,h1,h2,hc,_⟩:=h.now hn;refine⟨b,o,e,M1 h2 h.size,λi t ht=>?_⟩;obtain⟨Ai,cap,c1,c2,_,c4⟩:=hc i t ht;have hi:i<ts.length:=(List.getElem?_eq_some_iff.1 ht).1;have hti:aR ts i=t:=by have:=l7 hi;rw[ht] at this;simpa using this.symm
 refine⟨Ai,cap,c1,c2,λh0=>?_,by have:=Aw hi;rw[hti] at this;omega⟩;obtain⟨oi,e1,e2,e3,e4,e5⟩:=c4 h0;exact⟨g i,oi,e1,M1 e3 h.size,λj x hx=>(e5 j x hx).1⟩
theorem Tryz.infoT:(Tryz.prog.info? 173).map (λi=>(i.zero,i.size,i.bytes))=M (M (Qp U 0 0 0),2,32):=aL
variable{v:Int}{t:av}
theorem OO(h:¬ (t.1.length:Int)=v):dL v t=false:=by unfold dL;simp[h]
theorem KT(h:fP t.2 1 1000002=false):dL v t=false:=by unfold dL;simp[h]
theorem Jb(A B:Option I3)(ca cb:Nat)(a b:List Int)(w:Iv)(hA:Ints w A a)(hB:Ints w B b)(hl:b.length=a.length)(ha:a.length<=9223372036854775807) :
  I0 Tryz.prog 249 #[V A a.length ca,V B a.length cb] w λe w'=>e=If (I J (cmpL a b))/\rF w w':=by
 have HA:=aj hA;clear hA;have HB:=aj hB;clear hB;have HL:=aj hl;clear hl;go_enter func249,ntmps249;go_wp2
 go_loopw [5] (λi wr=>∃ (k d:Nat),k<=a.length/\i=I J (k:Int)/\wr=w.drewN d/\ak (cmpL (a.drop k) (b.drop k)=cmpL a b)) (λi _=>a.length - (intOf i).toNat)
 case atStart=>exact⟨0,0,ah,bE,rfl,rfl⟩
 case round=>
  obtain⟨k,d,hk,rfl,rfl,HR⟩:=hrel
  by_cases hlt:k<a.length
  ·obtain⟨ba,oa,rfl,_,TD⟩:=HA.o.zC ah
   obtain⟨bb,ob,rfl,_,hcb⟩:=HB.o.zC (by have:=HL.o;omega);have GD:=TD k hlt;have aml:=hcb k (by have:=HL.o;omega);have hc1:(w.drewN d).cell? ⟨ba,oa+k,U⟩=M (I J (cf a k)):=TD k hlt;have hc2:(w.drewN d).cell? ⟨bb,ob+k,U⟩=M (I J (cf b k)):=hcb k (by have:=HL.o;omega);have HS:=aj (EP hlt (by have:=HL.o;omega:k<b.length));have hkl:(k:Int)<(a.length:Int):=ah
   clear TD hcb;generalize cf a k=x at *;generalize cf b k=y at *
   by_cases h1:x<y
   ·have HV:ak (cmpL a b=-1):=by show _=_;rw[<-HR.o,HS.o,if_pos h1]
    clear HS HR;go_wp2;go_quiet (fail);go_wp2;go_ret;exact⟨bR HV.o.symm,_,by first | rfl | exact World.drewN_drewN _ _ _⟩
   ·have hd1:decide (x<y)=false:=by simpa using h1
    by_cases h2:y<x
    ·have HV:ak (cmpL a b=1):=by show _=_;rw[<-HR.o,HS.o,if_neg h1,if_pos h2]
     clear HS HR;go_wp2;go_quiet (fail);go_wp2;go_quiet (fail);go_wp2;go_ret;exact⟨bR HV.o.symm,_,by first | rfl | (simp only[World.drewN_drewN];rfl)⟩
    ·have HV:ak (cmpL (a.drop (k+1)) (b.drop (k+1))=cmpL a b):=by show _=_;rw[<-HR.o,HS.o,if_neg h1,if_neg h2]
     have hd2:decide (y<x)=false:=by simpa using h2
     clear HS HR;go_wp2;go_quiet (fail);go_wp2;go_quiet (fail);go_wp2
     go_roundw
     case rel=>exact⟨k+1,_,ah,bE,by first | rfl | (simp only[World.drewN_drewN];rfl),HV.o⟩
     case measure=>simp[intOf];omega
  ·obtain rfl:k=a.length:=ah
   have HV:ak (cmpL a b=0):=by
    show _=_;rw[<-HR.o,List.drop_length,<-HL.o,List.drop_length];rfl
   clear HR;go_wp2;go_ret;exact⟨bR HV.o.symm,_,rfl⟩
theorem Kn(h:fP v 0 12=false):aQ v ts=false:=by unfold aQ;simp[h]
theorem Ol(h:¬ ts.length<=120):aQ v ts=false:=by unfold aQ;simp[h]
theorem Sk(h:fP v 0 12=true)(h2:ts.length<=120):aQ v ts=fu v ts ts.length:=by unfold aQ;simp[h,h2]
variable{k:Nat}
theorem kF(h:dL v (aR ts k)=false)(hk:k<ts.length):fu v ts ts.length=false:=qX (k:=k+1) (by unfold fu;rw[h];simp) _ ah
theorem Om(hk0:0<k)(h:¬ cmpL (aR ts (k - 1)).1 (aR ts k).1<0)(hk:k<ts.length):fu v ts ts.length=false:=qX (k:=k+1) (by
 unfold fu;rw[show decide (k=0)=false by simp;omega];simp[h]) _ ah
theorem A_(h0:fu v ts k=true)(h1:dL v (aR ts k)=true)(h2:k=0∨cmpL (aR ts (k - 1)).1 (aR ts k).1<0):fu v ts (k+1)=true:=by
 unfold fu;rw[h0,h1]
 rcases h2 with h2 | h2<;>simp[h2]
end
end Go.Proofs.YtgfkglhelfkpoaaGreat
