/- Parts of the proof. -/
import Derived.Test.YtgfkglhelfkpoaaGreatRows
import Derived.Lib.Hide
import Derived.Deep.AppendLies
import Derived.Deep.OwnRows
import Derived.BigQuiet
import Derived.WalkSpells
import Derived.WalkLawsBesides
import Derived.Handy
import Derived.Deep.DeepCutAuto
import Derived.Test.YtgfkglhelfkpoaaGreatRA
import Derived.Deep.RegionLaw
set_option maxRecDepth 100000
set_option maxHeartbeats 1000000
open Go.Proofs.Tryz
open Go.Value renaming int→I,slice→V
open Go.IntKind renaming i64→J
open Option renaming some→M,none→U
open Go.Ending renaming returned→If
open Go.Obj renaming cells→Is
open Go renaming World→Iv,Calls→I0,Value→I1,maxLen→I2,Addr→I3
open Go.RowKit renaming Below→Ix
open Nat renaming le_refl→Jn,le_trans→Mp,zero_add→Mu,lt_of_lt_of_le→M1
open Go.RowKit.Below renaming refl→Jx,heap_setCell→J1
open Int renaming toNat_natCast→Mz
open List renaming getD→Up
namespace Go.Proofs.YtgfkglhelfkpoaaGreat
theorem aV{p:Prop}(h:p:=by go_grown):p:=h
theorem aL{p:Prop}(h:p:=by kernel_rfl):p:=h
theorem bE{p:Prop}(h:p:=by go_num):p:=h
end Go.Proofs.YtgfkglhelfkpoaaGreat
namespace Go.Proofs.YtgfkglhelfkpoaaGreat
def ak(p:Prop):Prop:=p
theorem ak.o{p:Prop}(h:ak p):p:=h
theorem aj{p:Prop}(h:p):ak p:=h
theorem aD{α:Sort _}(a:α):∃ x,x=a:=⟨a,rfl⟩
theorem eY{α:Type}:(∀ (x:α) (l:List α) (v:α),(x::l).set 0 v=v::l)/\(∀ (x:α) (l:List α) (i:Nat) (v:α),(x::l).set (i+1) v=x::l.set i v)/\(∀ (x:α) (l:List α),(x::l)[0]? =M x)/\∀ (x:α) (l:List α) (i:Nat),(x::l)[i+1]? =l[i]?:=⟨λ_ _ _=>rfl,λ_ _ _ _=>rfl,λ_ _=>by simp,λ_ _ _=>by simp⟩
section
open Go.RowKit
theorem bR{k:IntKind}{a b:Int}(h:a=b):Ending.returned (.int k a)=If (.int k b):=by rw[h]
theorem aG{a b:Bool}(h:a=b):Ending.returned (.bool a)=If (.bool b):=by rw[h]
def Ints(w:Iv)(A:Option I3)(zs:List Int):Prop:=
 0<zs.length->∃ b o,A=M ⟨b,o,U⟩/\b<w.heap.size/\∀ j x,zs[j]? = M x->w.cell? ⟨b,o+j,U⟩=M (I J x)
variable{w:Iv}{A:Option I3}{zs:List Int}
theorem Ints.at_{k:Nat}(h:Ints w A zs)(hk:k<zs.length) :
  ∃ b o x,A=M ⟨b,o,U⟩/\zs[k]? = M x/\w.cell? ⟨b,o+k,U⟩=M (I J x):=by
 obtain⟨b,o,e,_,hc⟩:=h ah;exact⟨b,o,zs[k],e,List.getElem?_eq_getElem hk,hc k _ (List.getElem?_eq_getElem hk)⟩
variable{w':Iv}
theorem Ints.below(h:Ints w A zs)(hb:Ix w.heap.size w w'):Ints w' A zs:=by
 intro hn;obtain⟨b,o,e,hl,hc⟩:=h hn;exact⟨b,o,e,M1 hl hb.size,λj x hx=>(hb.cell (p:=⟨b,o+j,U⟩) hl).trans (hc j x hx)⟩
theorem Ints.nil(w:Iv)(A:Option I3):Ints w A []:=λh=>absurd h (by simp)
def GR(t:TypeId)(zs:List Int):Obj:=Is (zs.map (I J)).toArray t
variable{α:Type}
theorem DL(l:List α)(k:Nat)(x:α)(h:l[k]? = M x):l.take (k+1)=l.take k++[x]:=by
 rw[List.take_add_one,h];rfl
theorem l9(z:I1)(n:Nat):madeCells #[z] n=(List.replicate n z).toArray:=by
 apply Array.ext
 ·simp[madeCells]
 ·intro i h1 h2
  simp[madeCells,Nat.mod_one]
def rF(w w':Iv):Prop:=∃ n,w'=w.drewN n
variable{a b:Iv}
theorem rF.trans{c:Iv}(h:rF a b)(k:rF b c):rF a c:=by
 obtain⟨n,rfl⟩:=h;obtain⟨m,rfl⟩:=k;exact⟨n+m,by rw[World.drewN_drewN]⟩
theorem below_drewN'{B:Nat}(h:Ix B a w)(n:Nat):Ix B a (w.drewN n):=⟨h.os,h.tape,h.output,h.size,h.block⟩
theorem rF.below(h:rF w w')(B:Nat):Ix B w w':=by
 obtain⟨n,rfl⟩:=h;exact below_drewN' (Jx _ _) n
def Enters(f:Nat):Prop:=∀ (args:Array I1) (w:Iv),(callFunc f args).run Tryz.prog w=.ok (.enter f args) w
theorem enters{f:Nat}{fn:Func}{c:Code}(hf : Tryz.prog.funcs[f]? = M fn)(ah6 : (fn.name == "runtime.NumGoroutine") = false)(hb : fn.body = M c) : Enters f := by
 intro args w;have h1 : fn.name ≠ "runtime.NumGoroutine" := by simpa using ah6
 simp[callFunc,hf,h1,hb]
theorem aH(h:Ix w.heap.size w a)(k:Ix a.heap.size a b):Ix w.heap.size w b:=h.trans (k.mono h.size)
theorem Ew{x:I3}{len cap:Nat}{z:List Int}(hl:len<=cap)(hz:z.length=cap)
  (hc:∀ i,i<z.length->w.cell? (x.add i)=M (I J (z.getD i 0))):∃ zs:List Int,zs.length=len/\Ints w (M x) zs:=by
 refine⟨z.take len,by simp;omega,λhn=>?_⟩;have h0:0<z.length:=by simp at hn;omega
 obtain⟨b,off,rfl,hc'⟩:=ints_at hc h0;refine⟨b,off,rfl,World.block_lt_of_cell? _ _ (by simpa using hc' 0 h0),λj y hj=>?_⟩;have hj':j<z.length:=by
  have:=(List.getElem?_eq_some_iff.1 hj).1;simp at this;omega
 rw[hc' j hj'];rw[List.getElem?_take] at hj;split at hj
 ·simp[Up,hj]
 ·simp at hj
def au(w:Iv)(g:Nat)(t:TypeId)(C:List I1):Prop:=w.heap[g]? = M (Is C.toArray t (0,0))
section
variable {w w':Iv}{g:Nat}{t:TypeId}{C:List I1}
theorem au.lt(h:au w g t C):g<w.heap.size:=(Array.getElem?_eq_some_iff.1 h).1
theorem au.cell(h:au w g t C)(i:Nat):w.cell? ⟨g,i,U⟩=C[i]?:=by
 rw[cell_of_row w g i _ t (0,0) h];simp
theorem ay{w:Iv}{b:Nat}{t:TypeId}{l:List I1}(h:au w b t l){i:Nat}{v:I1}(e:l[i]? =M v:=by rfl):w.cell? ⟨b,i,U⟩=M v:=(h.cell i).trans e
theorem au.frozen(h:au w g t C)(i:Nat):w.frozen? ⟨g,i,U⟩=false:=by
 unfold au at h;simp[World.frozen?,h]
theorem au.new(w:Iv)(t:TypeId)(C:List I1):au (w.alloc (Is C.toArray t)) w.heap.size t C:=heap_alloc_new w _
theorem au.below{B:Nat}(h:au w g t C)(hb:Ix B w w')(hg:g<B):au w' g t C:=(hb.block g hg).trans h
theorem au.next(h:au w g t C)(hb:Ix w.heap.size w w'):au w' g t C:=h.below hb h.lt
theorem au.aJ(h:au w g t C)(i:Nat)(u:I1):au (w.setCell ⟨g,i,U⟩ u) g t (C.set i u):=by
 unfold au at h ⊢;simp[World.setCell,Array.getElem?_modify,h]
theorem au.far(h:au w g t C){p:I3}(hp:g≠p.block)(u:I1):au (w.setCell p u) g t C:=(J1 w p u g hp).trans h
theorem au.drewN(h:au w g t C)(n:Nat):au (w.drewN n) g t C:=h
end
variable{w1:Iv}
theorem EN(h:Ix w.drew.heap.size w.drew w1):Ix w.heap.size w w1:=((Jx _ _).drew).trans h
theorem MX{n:Nat}(h:Ix (w.drewN n).heap.size (w.drewN n) w1):Ix w.heap.size w w1:=(below_drewN' (Jx _ _) n).trans h
theorem Qe(m:Nat)(Q:Nat->α->Prop)(h:∀ i,i<m->∃ x,Q i x):∃ l:List α,l.length=m/\∀ j x,l[j]? = M x->Q j x:=by
 induction m with
 | zero=>exact⟨[],rfl,λj x hx=>by simp at hx⟩
 | succ m ih=>
  obtain⟨l,hl,hq⟩:=ih λi hi=>h i ah
  obtain⟨x,hx⟩:=h m ah;refine⟨l++[x],by simp[hl],λj y hy=>?_⟩
  by_cases hj:j<l.length
  ·rw[List.getElem?_append_left hj] at hy
   exact hq j y hy
  ·have hlt:j<(l++[x]).length:=(List.getElem?_eq_some_iff.1 hy).1
   simp at hlt;have hjm:j=m:=ah;subst hjm;rw[List.getElem?_append_right ah] at hy;simp[hl] at hy;subst hy;exact hx
theorem addr_add(b o j:Nat):(Addr.mk b o U).add j=⟨b,o+j,U⟩:=by
 unfold Addr.add
 by_cases h:j=0<;>simp[h]
end
section
open Go.RowKit
def CG{κ:Type}(enc:κ->I1):Nat->List (κ×I1)->List MapEntry
 | _,[]=>[]
 | i,p :: l=>{ key:=enc p.1,val:=p.2,born:=i } :: CG enc (i+1) l
def MapAt{κ:Type}(enc:κ->I1)(w:Iv)(r:Nat)(m:List (κ×I1)):Prop:=w.heap[r]? = M (.map (CG enc 0 m).toArray m.length)
def aef{κ:Type}[DecidableEq κ](k:κ):List (κ×I1)->Nat->Option (Nat×I1)
 | [],_=>U
 | p :: l,i=>if k=p.1 then M (i,p.2) else aef k l (i+1)
structure agN (kt:TypeId) {κ:Type}[DecidableEq κ] (enc:κ->I1):Prop where
 check:∀ (em:Bool) (k:κ) (w:Iv),(Instr.checkKey em 10000 kt (enc k)).run Tryz.prog w=.ok () w
 find:∀ (k:κ) (m:List (κ×I1)) (w:Iv),(Instr.findKey kt (enc k) (CG enc 0 m)).run Tryz.prog w=.ok (aef k m 0) w
 stays:∀ (k:κ) (w:Iv),(Instr.keyThatStays (enc k) (enc k)).run Tryz.prog w=.ok (enc k) w
section
variable {κ:Type}[DecidableEq κ] {enc:κ->I1}{kt T et:TypeId}(K:agN kt enc) (hT:Tryz.prog.underlying T=M (.map kt et)) {z:I1}(hz:∀ w:Iv,(zeroValue et).run Tryz.prog w=.ok z w)
 {w:Iv}{r:Nat}{m:List (κ×I1)}(hm:MapAt enc w r m)
include K hT hz hm
end
section
variable {κ:Type}[DecidableEq κ] {enc:κ->I1}{kt T et:TypeId}(K:agN kt enc) (hT:Tryz.prog.underlying T=M (.map kt et)) {z:I1}(hz:∀ w:Iv,(zeroValue et).run Tryz.prog w=.ok z w)
 {w:Iv}{r:Nat}{m:List (κ×I1)}(hm:MapAt enc w r m)
include K hT hm
include hz in
omit K hT [DecidableEq κ]
end
instance:DecidableEq (Int×Int×Int):=inferInstance
end
section
open Go.RowKit
structure aC (S:Nat->Prop) (w w':Iv):Prop where
 os:w'.os=w.os
 tape:w'.tape=w.tape
 output:w'.output=w.output
 size:w.heap.size<=w'.heap.size
 block:∀ k,k<w.heap.size->¬ S k->w'.heap[k]? = w.heap[k]?
theorem aC.refl(S:Nat->Prop)(w:Iv):aC S w w:=⟨rfl,rfl,rfl,Jn _,λ_ _ _=>rfl⟩
variable{S:Nat->Prop}{a c:Iv}
theorem aC.trans{b:Iv}(h:aC S a b)(k:aC S b c):aC S a c:=
 ⟨k.os.trans h.os,k.tape.trans h.tape,k.output.trans h.output,Mp h.size k.size,λi hi hs=>(k.block i (M1 hi h.size) hs).trans (h.block i hi hs)⟩
theorem aC.chain{T:Nat->Prop}{b:Iv}(h:aC S a b)(k:aC T b c)(hT:∀ q,q<a.heap.size->T q->S q):aC S a c:=
 ⟨k.os.trans h.os,k.tape.trans h.tape,k.output.trans h.output,Mp h.size k.size,λi hi hs=>(k.block i (M1 hi h.size) (λht=>hs (hT i hi ht))).trans (h.block i hi hs)⟩
variable{w w':Iv}
theorem aC.of_below(h:Ix w.heap.size w w'):aC S w w':=⟨h.os,h.tape,h.output,h.size,λk hk _=>h.block k hk⟩
theorem aC.drewN(h:aC S a w)(n:Nat):aC S a (w.drewN n):=⟨h.os,h.tape,h.output,h.size,h.block⟩
theorem aC.cell(h:aC S w w'){a:I3}(ha:a.block<w.heap.size)(hs:¬ S a.block):w'.cell? a=w.cell? a:=
 World.cell?_of_block (h.block a.block ha hs)
theorem aC.below{B:Nat}(h:aC S w w')(hB:B<=w.heap.size)(hS:∀ k,S k->B<=k):Ix B w w':=
 ⟨h.os,h.tape,h.output,h.size,λk hk=>h.block k ah (λhs=>by have:=hS k hs;omega)⟩
variable{zs:List Int}
theorem Ints.only{A:Option I3}(h:Ints w A zs)(ho:aC S w w')(hS:∀ k,S k->∀ i,w.cell? ⟨k,i,U⟩=U):Ints w' A zs:=by
 intro hn;obtain⟨b,o,e,hl,hc⟩:=h hn;have hb:¬ S b:=λhs=>by
  have h1:=hS b hs (o+0);have h2:=hc 0 zs[0] (List.getElem?_eq_getElem hn);rw[h1] at h2;cases h2
 exact⟨b,o,e,M1 hl ho.size,λj x hx=>(ho.cell (a:=⟨b,o+j,U⟩) hl hb).trans (hc j x hx)⟩
def Typed(w:Iv)(b:Nat)(t:TypeId):Prop:=∃ cs,w.heap[b]? = M (Is cs t (0,0))
variable{b:Nat}{t:TypeId}
theorem Typed.lt(h:Typed w b t):b<w.heap.size:=by
 obtain⟨cs,h⟩:=h;exact (Array.getElem?_eq_some_iff.1 h).1
theorem Typed.ne{b':Nat}{t':TypeId}(h:Typed w b t)(h':Typed w b' t')(hne:t≠t'):b≠b':=by
 rintro rfl;obtain⟨cs,h⟩:=h;obtain⟨X5,h'⟩:=h';rw[h] at h';simp at h';exact hne h'.2
variable{C:List I1}
theorem au.typed(h:au w b t C):Typed w b t:=⟨_,h⟩
theorem kE{base e n:Nat}{v:I1}{xs:List I1}(h:w.ownsRow base e 1 v n xs){g:Nat}(hg:v.ownBlock=M g):Typed w g e:=by
 rcases h.2 with ⟨rfl,_⟩ | ⟨g',cap,cur,rfl,_,hh,_⟩
 ·simp[Value.ownBlock] at hg
 ·simp[Value.ownBlock] at hg;subst hg;exact⟨cur,hh⟩
theorem Tryz.infoI:(Tryz.prog.info? 2).map (λi=>(i.zero,i.size,i.bytes))=M (M (I J 0),1,8):=aL
theorem Ri{k:Nat}{x:Int}(hx:zs[k]? = M x)(hl:C.length=zs.length)(h:∀ j y,j<k->zs[j]? = M y->C[j]? = M (I J y)) :
  (C.set k (I J x)).length=zs.length/\∀ j y,j<k+1->zs[j]? = M y->(C.set k (I J x))[j]? = M (I J y):=by
 refine⟨by simpa using hl,λj y hj hy=>?_⟩
 by_cases e:j=k
 ·subst e
  rw[hx] at hy;obtain rfl:x=y:=by simpa using hy
  have hk:j<C.length:=by rw[hl];exact (List.getElem?_eq_some_iff.1 hx).1
  rw[List.getElem?_set_self hk]
 ·rw[List.getElem?_set_ne ah]
  exact h j y ah hy
theorem Rh(hl:C.length=zs.length)(h:∀ j y,j<zs.length->zs[j]? = M y->C[j]? = M (I J y)):C=zs.map (I J):=by
 apply List.ext_getElem?;intro j
 by_cases hj:j<zs.length
 ·rw[h j zs[j] hj (List.getElem?_eq_getElem hj)]
  simp[hj]
 ·rw[List.getElem?_eq_none ah,List.getElem?_eq_none (by simpa using hj)]
theorem af4(A:Option I3)(cap:Nat)(zs:List Int)(w:Iv)(hA:Ints w A zs)(hn:zs.length<=1048576) :
  I0 Tryz.prog 24 #[V A zs.length cap] w λe w'=>
   e=If (V (M ⟨w.heap.size,0,U⟩) zs.length zs.length)/\w.alloc (GR 2 zs)=w':=by
 have hmk:=run_make_row' (P:=Tryz.prog) 28 2 (I J 0) 8 underlying28 Tryz.infoI rfl .i64 .i64 zs.length ah ah;go_enter func24,ntmps24;go_wp2
 go_loopw [4] (λi wr=>∃ (k:Nat) (C:List I1),k<=zs.length/\i=I J (k:Int)/\wr=w.alloc (Is C.toArray 2)/\C.length=zs.length/\∀ j y,j<k->zs[j]? = M y->C[j]? = M (I J y))
  (λi _=>zs.length - (intOf i).toNat)
 case atStart=>exact⟨0,List.replicate zs.length (I J 0),ah,bE,by rw[l9],by simp,λj y hj=>absurd hj ah⟩
 case round=>
  obtain⟨k,C,hk,rfl,rfl,hC,hD⟩:=hrel
  by_cases hlt:k<zs.length
  ·obtain⟨b,o,x,rfl,hx,hc⟩:=hA.at_ hlt
   have hb:b<w.heap.size:=World.block_lt_of_cell? _ _ hc;have hcell:(w.alloc (Is C.toArray 2)).cell? ⟨b,o+k,U⟩=M (I J x):=by rw[World.cell?_alloc_lt _ _ _ hb];exact hc
   obtain⟨c,amo⟩:∃ c,(w.alloc (Is C.toArray 2)).cell? ⟨w.heap.size,k,U⟩=M c:=⟨C[k],by
    rw[cell_of_row _ _ _ _ _ _ (heap_alloc_new w _)];simp⟩
   have hS:=Ri hx hC hD;clear hD hc;have HS:=aj hS;clear hS;have HC:=aj hC;clear hC;go_wp2
   go_roundw
   case rel=>exact⟨k+1,C.set k (I J x),ah,bE,by simp,HS.o.1,HS.o.2⟩
   case measure=>simp[intOf];omega
  ·obtain rfl:k=zs.length:=ah
   have HE:=aj (Rh hC hD);clear hD hC;go_wp2;go_ret;exact⟨rfl,by rw[HE.o];rfl⟩
theorem ae4(A B:Option I3)(cap bB:Nat)(zs:List Int)(w:Iv)(hA:Ints w A zs)(hB:Ints w B zs)(hn:zs.length<=4611686018427387904) :
  I0 Tryz.prog 14 #[V A zs.length cap,V B zs.length bB] w λe w'=>e=If (.bool true)/\rF w w':=by
 go_enter func14,ntmps14;go_wp2
 go_loopw [5] (λi wr=>∃ (k d:Nat),k<=zs.length/\i=I J (k:Int)/\wr=w.drewN d) (λi _=>zs.length - (intOf i).toNat)
 case atStart=>exact⟨0,0,ah,bE,rfl⟩
 case round=>
  obtain⟨k,d,hk,rfl,rfl⟩:=hrel
  by_cases hlt:k<zs.length
  ·obtain⟨b,o,x,rfl,hx,hc⟩:=hA.at_ hlt
   obtain⟨b',o',x',rfl,hx',hc'⟩:=hB.at_ hlt;obtain rfl:x'=x:=by rw[hx] at hx';simpa using hx'.symm
   have hc1:(w.drewN d).cell? ⟨b,o+k,U⟩=M (I J x'):=hc;have hc2:(w.drewN d).cell? ⟨b',o'+k,U⟩=M (I J x'):=hc';clear hx hx';go_wp2;go_quiet (fail);go_wp2
   go_roundw
   case rel=>exact⟨k+1,_,ah,bE,by first | rfl | rw[World.drewN_drewN]⟩
   case measure=>simp[intOf];omega
  ·go_wp2
   go_ret;exact⟨rfl,d,rfl⟩
def firstAt{α:Type}(p:α->Bool):List α->Int->Int
 | [],_=>-1
 | x :: l,k=>if p x then k else firstAt p l (k+1)
variable{α:Type}
theorem Ay(p:α->Bool)(l:List α)(k:Int)(hk:0<=k):decide (0<=firstAt p l k)=l.any p:=by
 induction l generalizing k with
 | nil=>simp[firstAt]
 | cons x l ih=>
  unfold firstAt;cases hp:p x
  ·simp[hp,ih (k+1) ah]
  ·simp[hp,hk]
theorem xX(p:α->Bool)(l:List α)(k:Nat)(x:α)(h:l[k]? = M x):firstAt p (l.drop k) k=if p x then (k:Int) else firstAt p (l.drop (k+1)) (k+1:Nat):=by
 have hk:k<l.length:=(List.getElem?_eq_some_iff.1 h).1;rw[List.drop_eq_getElem_cons hk];have:l[k]=x:=by rw[List.getElem?_eq_getElem hk] at h;simpa using h
 simp[firstAt,this]
theorem AB(p:α->Bool)(l:List α)(k:Int):firstAt p (l.drop l.length) k=-1:=by simp[firstAt]
theorem NW(A:Option I3)(cap:Nat)(zs:List Int)(w:Iv)(hA:Ints w A zs)(hn:zs.length<=4611686018427387904)
  (f:Nat) (hf:Enters f) (cs:Array I1) (p:Int->Bool) (hp:ak (∀ x,I0 Tryz.prog f (#[I J x]++cs) w λe w'=>e=If (.bool (p x))/\w=w')) :
  I0 Tryz.prog 207 #[V A zs.length cap,.func (.func f) #[] cs] w λe w'=>e=If (I J (firstAt p zs 0))/\w=w':=by
 go_enter func207,ntmps207;go_wp2
 go_loop [5,8] (λ_ i=>∃ k:Nat,k<=zs.length/\i=I J (k:Int)/\ak (firstAt p zs 0=firstAt p (zs.drop k) k)) (λ_ i=>zs.length - (intOf i).toNat)
 case atStart=>exact⟨0,ah,bE,rfl⟩
 case round=>
  obtain⟨k,hk,rfl,HR⟩:=hrel
  by_cases hlt:k<zs.length
  ·obtain⟨b,o,x,rfl,hx,hc⟩:=hA.at_ hlt
   have HS:=aj (xX p zs k x hx);clear hx;go_wp2_with fail;rw[hf _ _,Oper.upon_enter];refine (hp.o x).mono ?_;rintro e w' ⟨rfl,rfl⟩;cases yC:p x
   ·have HP:=aj yC;clear yC
    go_wp2
    go_round
    case rel=>exact⟨k+1,ah,bE,by show _=_;rw[HR.o,HS.o,HP.o];rfl⟩
    case measure=>simp[intOf];omega
   ·have HP:=aj yC;clear yC
    go_wp2;go_ret;exact⟨bR (by rw[HR.o,HS.o,HP.o];rfl),rfl⟩
  ·obtain rfl:k=zs.length:=ah
   go_wp2;go_ret;exact⟨bR (by rw[HR.o,AB]),rfl⟩
theorem vV(A:Option I3)(cap:Nat)(zs:List Int)(w:Iv)(hA:Ints w A zs)(hn:zs.length<=4611686018427387904)
  (f:Nat) (hf:Enters f) (cs:Array I1) (p:Int->Bool) (hp:ak (∀ x,I0 Tryz.prog f (#[I J x]++cs) w λe w'=>e=If (.bool (p x))/\w=w')) :
  I0 Tryz.prog 130 #[V A zs.length cap,.func (.func f) #[] cs] w λe w'=>e=If (.bool (zs.any p))/\w=w':=by
 have HE:=aj (Ay p zs 0 ah);go_enter func130,ntmps130;go_wp2_with fail;refine (NW A cap zs w hA hn f hf cs p hp).mono ?_;rintro e w' ⟨rfl,rfl⟩;go_wp2;go_ret;exact⟨aG HE.o,rfl⟩
end
section
open Go.RowKit Plain
theorem gB(n lo hi:Int)(w:Iv) :
  I0 Tryz.prog 106 #[I J n,I J lo,I J hi] w λe w'=>e=If (.bool (fP n lo hi))/\w=w':=by
 by_cases h1:lo<=n
 ·go_enter func106,ntmps106
  go_wp2
  all_goals (go_ret;exact⟨by simp[fP, *],rfl⟩)
 ·go_enter func106,ntmps106
  go_wp2
  all_goals (go_ret;exact⟨by rw[show fP n lo hi=false from Fg.2 ah];rfl,rfl⟩)
theorem aT(n lo hi:Int)(w:Iv) :
  I0 Tryz.prog 90 #[I J n,I J lo,I J hi] w λe w'=>e=If (.bool (fP n lo hi))/\w=w':=by
 by_cases h1:lo<=n
 ·go_enter func90,ntmps90
  go_wp2
  all_goals (go_ret;exact⟨by simp[fP, *],rfl⟩)
 ·go_enter func90,ntmps90
  go_wp2
  all_goals (go_ret;exact⟨by rw[show fP n lo hi=false from Fg.2 ah];rfl,rfl⟩)
theorem wC{P:Program}(t e:TypeId)(z:I1)(size bytes:Nat)(ht:P.underlying t=M (.slice e))(hinfo:(P.info? e).map (λi=>(i.zero,i.size,i.bytes))=M (M z,size,bytes))
  (kl kc:IntKind) (n:Nat) (GA:bytes*n<=281474976710656) (h63:n<=9223372036854775807) (w:Iv) :
  (Instr.makeSlice t (.int kl (n:Int)) (.int kc (n:Int))).run P w=.ok (V (M ⟨w.heap.size,0,U⟩) n n) (w.alloc (Is (madeCells z.cells (n*size)) e)):=by
 obtain⟨i,hi,hzz⟩:=Option.map_eq_some_iff.1 hinfo;simp only[Prod.mk.injEq] at hzz;obtain⟨hz,hs,hb⟩:=hzz;have hb':(i.bytes:Int)*(n:Int)<=281474976710656:=by
  have h:((i.bytes*n:Nat):Int)<=281474976710656:=by rw[hb];omega
  rwa [Int.natCast_mul] at h
 have hr:=run_make (P:=P) w t e i z ht hi hz kl kc n n ah (Int.le_refl _) hb' ah;simp only[Mz,hs] at hr;exact hr
theorem Qq(a:Int):-1000002<=a.tmod 1000003/\a.tmod 1000003<=1000002/\(a.tmod 1000003+1000003) % 1000003=rs a:=by
 have h:=Int.tmod_eq_emod (a:=a) (b:=1000003);unfold rs;rw[h];split
 ·have h1:=Int.emod_nonneg a (b:=1000003) ah
  have h2:=Int.emod_lt_of_pos a (b:=1000003) ah;omega
 ·rename_i hn
  have h1:=Int.emod_nonneg a (b:=1000003) ah;have h2:=Int.emod_lt_of_pos a (b:=1000003) ah;have h3:a % 1000003≠0:=λe=>hn (.inr (Int.dvd_of_emod_eq_zero e))
  have h4:((1000003:Int).natAbs:Int)=1000003:=rfl;rw[h4];omega
theorem uS(a:Int)(w:Iv):I0 Tryz.prog 210 #[I J a] w λe w'=>e=If (I J (rs a))/\w=w':=by
 obtain⟨h1,h2,h3⟩:=Qq a;have H3:=aj h3;clear h3;go_enter func210,ntmps210;go_wp2;go_ret;exact⟨bR H3.o,rfl⟩
variable{b:Int}
theorem zS{a:Int}(ha:0<=a)(ha':a<=1000002)(hb:0<=b)(hb':b<=1000002):0<=a*b/\a*b<=1000004000004:=by
 have h1:=Int.mul_nonneg ha hb;have h2:a*b<=1000002*1000002:=Int.mul_le_mul ha' hb' hb ah;omega
theorem ZB(a b:Int)(w:Iv):I0 Tryz.prog 181 #[I J a,I J b] w λe w'=>e=If (I J (pl a b))/\w=w':=by
 have ha:=uT a;have hb:=uT b;have H:=aj (aeu a b);go_enter func181,ntmps181;go_wp2_with fail;refine (uS a _).mono ?_;rintro e w' ⟨rfl,rfl⟩;go_wp2_with fail;refine (uS b _).mono ?_;rintro e w' ⟨rfl,rfl⟩;generalize rs a=x at *;generalize rs b=y at *;go_wp2;go_ret;exact⟨bR H.o,rfl⟩
variable{o:Int}{k:Nat}
theorem Bb(hk:k % 2=1):tm o (pw b k)=tm (o*b % 1000003) (pw (b*b % 1000003) (k / 2)):=by
 rw[Bc];unfold tm pw;rw[Zr,afG,Zr]
 congr 1
 have e:k=2*(k / 2)+1:=ah;rw[Int.mul_assoc,<-Int.pow_succ',<-e]
theorem yM(hk:k % 2=0):tm o (pw b k)=tm o (pw (b*b % 1000003) (k / 2)):=by
 rw[Bc];have e:k=2*(k / 2):=ah;rw[<-e]
theorem aag(h:0<=o)(h':o<=1000002)(b:Int):tm o (pw b 0)=o:=by
 unfold tm pw;simp;omega
theorem Sr(a:Int)(n:Nat)(w:Iv)(hn:n<=4611686018427387904):I0 Tryz.prog 136 #[I J a,I J n] w λe w'=>e=If (I J (pw a n))/\w=w':=by
 have ha:=uT a;have HP:=aj (ZT a n);go_enter func136,ntmps136;go_wp2_with fail;refine (uS a _).mono ?_;rintro e w' ⟨rfl,rfl⟩;generalize rs a=x at *;go_wp2_with fail
 go_loop [1,5,6] (λnn o b=>∃ (k:Nat) (oo bb:Int),k<=n/\nn=I J (k:Int)/\o=I J oo/\b=I J bb/\0<=oo/\oo<=1000002/\0<=bb/\bb<=1000002/\ak (pw x n=tm oo (pw bb k))) (λnn _ _=>(intOf nn).toNat)
 case atStart=>exact⟨n,1,x,ah,rfl,rfl,rfl,ah,ah,ha.1,ha.2,by show _=_;unfold tm pw;rw[Int.one_mul,Int.emod_emod]⟩
 case round=>
  obtain⟨k,oo,bb,hk,rfl,rfl,rfl,o0,o1,b0,b1,HE⟩:=hrel;have m1:=zS o0 o1 b0 b1;have m2:=zS b0 b1 b0 b1
  by_cases hlt:0<k
  ·by_cases h2:k % 2=1
   ·have hd:((k:Int) % 2==1)=true:=by simp;omega
    have HS:=aj (Bb (o:=oo) (b:=bb) h2);go_wp2
    go_round
    case rel=>exact⟨k / 2,oo*bb % 1000003,bb*bb % 1000003,ah,bE,rfl,rfl,ah,ah,ah,ah,by show _=_;rw[HE.o,HS.o]⟩
    case measure=>simp[intOf];omega
   ·have hd:((k:Int) % 2==1)=false:=by simp;omega
    have HS:=aj (yM (o:=oo) (b:=bb) (show k % 2=0 by omega));go_wp2
    go_round
    case rel=>exact⟨k / 2,oo,bb*bb % 1000003,ah,bE,rfl,rfl,ah,ah,ah,ah,by show _=_;rw[HE.o,HS.o]⟩
    case measure=>simp[intOf];omega
  ·obtain rfl:k=0:=ah
   have HF:=aj (aag o0 o1 bb);go_wp2;go_ret;exact⟨bR (by rw[<-HP.o,HE.o,HF.o]),rfl⟩
theorem JX(a:Int)(w:Iv):I0 Tryz.prog 236 #[I J a] w λe w'=>e=If (I J (iv a))/\w=w':=by
 go_enter func236,ntmps236;go_wp2_with fail;refine (Sr a 1000001 _ ah).mono ?_;rintro e w' ⟨rfl,rfl⟩;go_wp2;go_ret;exact⟨rfl,rfl⟩
end
section
open Go.RowKit
def vS(w:Iv)(B:Nat)(A:Option I3)(zs:List Int):Prop:=
 0<zs.length->∃ b o,A=M ⟨b,o,U⟩/\B<=b/\b<w.heap.size/\∀ j x,zs[j]? = M x->w.cell? ⟨b,o+j,U⟩=M (I J x)/\w.frozen? ⟨b,o+j,U⟩=false
variable{w:Iv}{A:Option I3}{zs:List Int}
theorem vS.ints{B:Nat}(h:vS w B A zs):Ints w A zs:=λhn=>by
 obtain⟨b,o,e,_,hl,hc⟩:=h hn;exact⟨b,o,e,hl,λj x hx=>(hc j x hx).1⟩
def agM(A:Option I3)(q:Nat):Prop:=∃ o,A=M ⟨q,o,U⟩
def L9(n:Nat)(A:Option I3)(q:Nat):Prop:=0<n/\agM A q
variable{w':Iv}
theorem Ints.Zz{S:Nat->Prop}(h:Ints w A zs)(ho:aC S w w')(hS:∀ q,q<w.heap.size->L9 zs.length A q->¬ S q):Ints w' A zs:=λhn=>by
 obtain⟨b,o,e,hl,hc⟩:=h hn;exact⟨b,o,e,M1 hl ho.size,λj x hx=>(ho.cell (a:=⟨b,o+j,U⟩) hl (hS b hl ⟨hn,o,e⟩)).trans (hc j x hx)⟩
def Fq(n:Nat)(k:Int):List Int:=(List.range n).map (λi:Nat=>k+(i:Int))
theorem qV(n:Nat)(k:Int):(Fq n k).length=n:=by simp[Fq]
variable{n:Nat}
theorem RY{k:Int}{i:Nat}(h:i<n):(Fq n k)[i]? = M (k+i):=by simp[Fq,h]
theorem Zm(B:Nat)(A:Option I3)(cap:Nat)(zs:List Int)(k:Int)(w:Iv)(h:vS w B A zs)(hn:zs.length<=4194304)(k0:0<=k)(k1:k<=1000000000000) :
  I0 Tryz.prog 17 #[V A zs.length cap,I J k] w λe w'=>
   e=If (I J (k+zs.length))/\vS w' B A (Fq zs.length k)/\aC (L9 zs.length A) w w':=by
 have HM:=aj h;clear h;go_enter func17,ntmps17;go_wp2
 go_loopw [1,5] (λkk i wr=>∃ j:Nat,j<=zs.length/\i=I J (j:Int)/\kk=I J (k+(j:Int))/\ak (aC (L9 zs.length A) w wr) /\
   ak (∀ b o,A=M ⟨b,o,U⟩->0<zs.length->∀ i,i<zs.length->(∃ x,wr.cell? ⟨b,o+i,U⟩=M (I J x))/\wr.frozen? ⟨b,o+i,U⟩=false/\(i<j->wr.cell? ⟨b,o+i,U⟩=M (I J (k+(i:Int)))))) (λ_ i _=>zs.length - (intOf i).toNat)
 case atStart=>
  refine⟨0,ah,bE,by simp,aC.refl _ _, ?_⟩;intro b o e hz i hi;obtain⟨b',o',e',_,_,hc⟩:=HM.o hz;rw[e] at e';obtain⟨rfl,rfl⟩:b=b'/\o=o':=by simpa using e'
  have:=hc i zs[i] (List.getElem?_eq_getElem hi);exact⟨⟨_,this.1⟩,this.2,λh=>ah⟩
 case round=>
  obtain⟨j,hj,rfl,rfl,HO,HR⟩:=hrel
  by_cases hlt:j<zs.length
  ·obtain⟨b,o,rfl,hB,hl,hc⟩:=HM.o ah
   obtain⟨⟨x,hx⟩,hf,_⟩:=HR.o b o rfl ah j hlt;have HS:ak (aC (L9 zs.length (M ⟨b,o,U⟩)) w (wr.setCell ⟨b,o+j,U⟩ (I J (k+(j:Int))))):=
    HO.o.trans ⟨rfl,rfl,rfl,by simp[World.setCell],λq _ hq=>J1 _ _ _ _ (λe=>hq ⟨ah,o,by rw[e]⟩)⟩
   have sj:ak (∀ b' o',M (⟨b,o,U⟩:I3)=M ⟨b',o',U⟩->0<zs.length->∀ i,i<zs.length->(∃ x,(wr.setCell ⟨b,o+j,U⟩ (I J (k+(j:Int)))).cell? ⟨b',o'+i,U⟩=M (I J x))/\(wr.setCell ⟨b,o+j,U⟩ (I J (k+(j:Int)))).frozen? ⟨b',o'+i,U⟩=false/\(i<j+1->(wr.setCell ⟨b,o+j,U⟩ (I J (k+(j:Int)))).cell? ⟨b',o'+i,U⟩=M (I J (k+(i:Int))))):=by
    intro b' o' e hz i hi;obtain⟨rfl,rfl⟩:b=b'/\o=o':=by simpa using e
    obtain⟨⟨y,hy⟩,hf',hd⟩:=HR.o b o rfl hz i hi
    by_cases he:i=j
    ·subst he
     have hs:(wr.setCell ⟨b,o+i,U⟩ (I J (k+(i:Int)))).cell? ⟨b,o+i,U⟩=M (I J (k+(i:Int))):=World.cell?_setCell_same _ _ _ hx;exact⟨⟨_,hs⟩,by rw[World.frozen?_setCell];exact hf',λ_=>hs⟩
    ·have hs:(wr.setCell ⟨b,o+j,U⟩ (I J (k+(j:Int)))).cell? ⟨b,o+i,U⟩=wr.cell? ⟨b,o+i,U⟩:=World.cell?_setCell_other _ _ _ _ (λe=>by injection e with _ h _;omega)
     exact⟨⟨y,hs.trans hy⟩,by rw[World.frozen?_setCell];exact hf',λh=>hs.trans (hd ah)⟩
   clear HR HO hc;go_wp2
   go_roundw
   case rel=>exact⟨j+1,ah,bE,bE,HS,sj⟩
   case measure=>simp[intOf];omega
  ·obtain rfl:j=zs.length:=ah
   go_wp2;go_ret;refine⟨rfl, ?_,HO.o⟩;intro hn';rw[qV] at hn';obtain⟨b,o,rfl,hB,hl,hc⟩:=HM.o hn';refine⟨b,o,rfl,hB,M1 hl HO.o.size,λi x hx=>?_⟩;have hi:i<zs.length:=by have:=(List.getElem?_eq_some_iff.1 hx).1;rwa [qV] at this
   rw[RY hi] at hx;obtain rfl:k+(i:Int)=x:=by simpa using hx
   obtain⟨_,hf,hd⟩:=HR.o b o rfl hn' i hi;exact⟨hd hi,hf⟩
theorem mR{P:Program}{ops:Array Oper}{o:Oper}{a:Act}{K:Act->Iv->Prop}{Q:Exit->Act->Iv->Prop}{E:Prop}(hgd:o.guard=U)(s x:Operand)(t:TypeId)
  (ho:o.op=.call { callee:=.builtin .append,args:=#[s,x],argTypes:=#[t,t] })
  (base:Nat) (e:TypeId) (i:TypeInfo) (z:I1) (size bytes:Nat) (ht:P.underlying t=M (.slice e)) (hi:P.info? e=M i) (hz:i.zero=M z)
  (hsize:i.size=size) (hby:i.bytes=bytes) (hzs:z.cells.size=size) (hsz:0<size)
  (v:I1) (n:Nat) (xs:List I1) (hs:a.eval s=v) (hown:w.ownsRow base e size v n xs)
  (ad:I3) (m c:Nat) (news:List I1) (hx:a.eval x=V (M ad) m c) (hl:news.length=m*size) (hnews:∀ j u,news[j]? = M u->w.cell? (ad.add j)=M u) (h1:∀ u∈news,u.oneCell'=true)
  (h63:n+m<=I2) (GA:(n+m)*bytes<=140737488355328) (YV:base<=w.heap.size)
  (h:∀ v' w',w'.ownsRow base e size v' (n+m) (xs++news)->w.grownBy w' v.ownBlock->K (a.put o.dst v') w') :
  if Region.wanted o (yielded ops a.tmps)=true then Oper.wp P o a w K Q else E:=by
 have hw:Region.wanted o (yielded ops a.tmps)=true:=by simp[Region.wanted,hgd]
 rw[if_pos hw];exact wp_append_own w s x t ho base e i z size bytes ht hi hz hsize hby hzs hsz v n xs hs hown ad m c news hx hl hnews h1 h63 GA YV λv' w' h2 h3 _=>h v' w' h2 h3
def bg(w:Iv)(base:Nat)(v:I1)(l:List Int):Prop:=w.ownsRow base 2 1 v l.length (l.map (I J))
variable{base:Nat}{v:I1}{l:List Int}
theorem bg.keep(h:bg w base v l)(hb:∀ g,v.ownBlock=M g->w'.heap[g]? = w.heap[g]?):bg w' base v l:=by
 refine⟨h.1, ?_⟩
 rcases h.2 with hn | ⟨g,cap,cur,rfl,hb',BP,rest⟩
 ·exact .inl hn
 ·exact .inr ⟨g,cap,cur,rfl,hb',by rw[hb g rfl];exact BP,rest⟩
theorem bg.lt(h:bg w base v l){q:Nat}(hq:v.ownBlock=M q):base<=q/\q<w.heap.size:=World.ownsRow.lt h q hq
theorem bg.form(h:bg w base v l):∃ A cap,v=V A l.length cap:=by
 rcases h.2 with ⟨hv,h0⟩ | ⟨g,cap,_,hv,_⟩
 ·exact⟨U,0,by rw[hv,h0]⟩
 ·exact⟨_,_,hv⟩
theorem bg.JW{cap:Nat}(h:bg w base (V A l.length cap) l):vS w base A l:=λhn=>by
 obtain⟨g,bB,hv,hb,hlt⟩:=World.ownsRow.form h ah;have hA:A=M ⟨g,0,U⟩:=by injection hv
 have hc:cap=bB:=by injection hv
 subst hA;subst hc;refine⟨g,0,rfl,hb,hlt,λj x hx=>?_⟩;have hj:j<l.length:=(List.getElem?_eq_some_iff.1 hx).1;refine⟨?_,World.ownsRow.frozenAt h _⟩;rw[Mu,World.ownsRow.cellAt h j ah];simp[hx]
theorem bg.push{w2:Iv}{v2:I1}{x:Int}(hn:n=l.length)(hown:w2.ownsRow base 2 1 v2 (n+1) (l.map (I J)++[I J x])):bg w2 base v2 (l++[x]):=by
 unfold bg;rw[List.map_append,List.length_append,<-hn];exact hown
theorem bg.afM(h:bg w base v l){n:Nat}(hn:n=l.length):w.ownsRow base 2 1 v n (l.map (I J)):=by rw[hn];exact h
end
end Go.Proofs.YtgfkglhelfkpoaaGreat
