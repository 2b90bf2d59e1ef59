/- Texts put together: B0, WMaps, B2, WInts, WChoose, WReach, WActs, WField, WMark, WStep, WIntRow. -/
import Derived.Test.YtgfkglhelfkpoaaGreatRows
import Derived.WalkKit
import Derived.ProofKit
import Derived.OpenShut
import Derived.Lib.Hide
import Derived.Below
import Derived.Laws.OwnMore
import Derived.Laws.Rows
import Derived.Deep.AppendLies
import Derived.Deep.Draws
import Derived.Deep.OwnRows
import Derived.Deep.LoopGhost
import Derived.Deep.QuietTactic
import Derived.BigQuiet
import Derived.Outline
import Derived.WalkSpells
import Derived.WalkLawsBesides
import Derived.Handy
import Derived.Deep.RegionWith
import Derived.Deep.DeepFit
import Derived.Deep.DeepCutAuto
import Derived.Maps.Keyed
import Derived.MapKept
import Derived.Test.YtgfkglhelfkpoaaGreatRA
import Derived.Deep.RegionLaw
set_option maxRecDepth 100000
set_option maxHeartbeats 1000000
open Go.Lib (hid)
namespace Go.Proofs.YtgfkglhelfkpoaaGreat
section
open Go.RowKit
theorem ret_int {k:IntKind} {a b:Int} (h:a=b):Ending.returned (.int k a)=.returned (.int k b):=by rw [h]
theorem ret_bool {a b:Bool} (h:a=b):Ending.returned (.bool a)=.returned (.bool b):=by rw [h]
def Ints (w:World) (A:Option Addr) (zs:List Int):Prop:=
 0<zs.length→∃ b o,A=some ⟨b,o,none⟩∧b<w.heap.size∧∀ j x,zs[j]? = some x→w.cell? ⟨b,o+j,none⟩=some (.int .i64 x)
theorem Ints.at_ {w:World} {A:Option Addr} {zs:List Int} {k:Nat} (h:Ints w A zs) (hk:k<zs.length) :
  ∃ b o x,A=some ⟨b,o,none⟩∧zs[k]? = some x∧w.cell? ⟨b,o+k,none⟩=some (.int .i64 x):=by
 obtain ⟨b,o,e,_,hc⟩:=h (by omega)
 exact ⟨b,o,zs[k],e,List.getElem?_eq_getElem hk,hc k _ (List.getElem?_eq_getElem hk)⟩
theorem Ints.below {w w':World} {A:Option Addr} {zs:List Int} (h:Ints w A zs) (hb:Below w.heap.size w w'):Ints w' A zs:=by
 intro hn
 obtain ⟨b,o,e,hl,hc⟩:=h hn
 exact ⟨b,o,e,Nat.lt_of_lt_of_le hl hb.size,fun j x hx=>(hb.cell (p:=⟨b,o+j,none⟩) hl).trans (hc j x hx)⟩
theorem take_snoc' {α:Type} (l:List α) (k:Nat) (x:α) (h:l[k]? = some x):l.take (k+1)=l.take k++[x]:=by
 rw [List.take_add_one,h];rfl
theorem madeCells_one (z:Value) (n:Nat):madeCells #[z] n=(List.replicate n z).toArray:=by
 apply Array.ext
 ·simp [madeCells]
 ·intro i h1 h2
  simp [madeCells,Nat.mod_one]
def Drawn (w w':World):Prop:=∃ n,w'=w.drewN n
theorem Drawn.trans {a b c:World} (h:Drawn a b) (k:Drawn b c):Drawn a c:=by
 obtain ⟨n,rfl⟩:=h
 obtain ⟨m,rfl⟩:=k
 exact ⟨n+m,by rw [World.drewN_drewN]⟩
theorem below_drewN' {B:Nat} {a w:World} (h:Below B a w) (n:Nat):Below B a (w.drewN n):=⟨h.os,h.tape,h.output,h.size,h.block⟩
theorem Drawn.below {w w':World} (h:Drawn w w') (B:Nat):Below B w w':=by
 obtain ⟨n,rfl⟩:=h
 exact below_drewN' (Below.refl _ _) n
def Enters (f:Nat):Prop:=∀ (args:Array Value) (w:World),(callFunc f args).run Tryz.prog w=.ok (.enter f args) w
theorem enters {f : Nat} {fn : Func} {c : Code} (hf : Tryz.prog.funcs[f]? = some fn) (hname : (fn.name == "runtime.NumGoroutine") = false) (hb : fn.body = some c) : Enters f := by
 intro args w
 have h1 : fn.name ≠ "runtime.NumGoroutine" := by simpa using hname
 simp [callFunc,hf,h1,hb]
theorem bnext {w a b:World} (h:Below w.heap.size w a) (k:Below a.heap.size a b):Below w.heap.size w b:=h.trans (k.mono h.size)
def Cells (w:World) (g:Nat) (t:TypeId) (C:List Value):Prop:=w.heap[g]? = some (.cells C.toArray t (0,0))
section
variable {w w':World} {g:Nat} {t:TypeId} {C:List Value}
theorem Cells.lt (h:Cells w g t C):g<w.heap.size:=(Array.getElem?_eq_some_iff.1 h).1
theorem Cells.cell (h:Cells w g t C) (i:Nat):w.cell? ⟨g,i,none⟩=C[i]?:=by
 rw [cell_of_row w g i _ t (0,0) h];simp
theorem Cells.frozen (h:Cells w g t C) (i:Nat):w.frozen? ⟨g,i,none⟩=false:=by
 unfold Cells at h;simp [World.frozen?,h]
theorem Cells.new (w:World) (t:TypeId) (C:List Value):Cells (w.alloc (.cells C.toArray t)) w.heap.size t C:=heap_alloc_new w _
theorem Cells.below {B:Nat} (h:Cells w g t C) (hb:Below B w w') (hg:g<B):Cells w' g t C:=(hb.block g hg).trans h
theorem Cells.next (h:Cells w g t C) (hb:Below w.heap.size w w'):Cells w' g t C:=h.below hb h.lt
theorem Cells.set_ (h:Cells w g t C) (i:Nat) (u:Value):Cells (w.setCell ⟨g,i,none⟩ u) g t (C.set i u):=by
 unfold Cells at h ⊢
 simp [World.setCell,Array.getElem?_modify,h]
theorem Cells.far (h:Cells w g t C) {p:Addr} (hp:g≠p.block) (u:Value):Cells (w.setCell p u) g t C:=(Below.heap_setCell w p u g hp).trans h
theorem Cells.drewN (h:Cells w g t C) (n:Nat):Cells (w.drewN n) g t C:=h
end
theorem bdrew {w w1:World} (h:Below w.drew.heap.size w.drew w1):Below w.heap.size w w1:=((Below.refl _ _).drew).trans h
theorem bdrewN {w w1:World} {n:Nat} (h:Below (w.drewN n).heap.size (w.drewN n) w1):Below w.heap.size w w1:=(below_drewN' (Below.refl _ _) n).trans h
theorem list_of {α:Type} (m:Nat) (Q:Nat→α→Prop) (h:∀ i,i<m→∃ x,Q i x):∃ l:List α,l.length=m∧∀ j x,l[j]? = some x→Q j x:=by
 induction m with
 | zero=>exact ⟨[],rfl,fun j x hx=>by simp at hx⟩
 | succ m ih=>
  obtain ⟨l,hl,hq⟩:=ih fun i hi=>h i (by omega)
  obtain ⟨x,hx⟩:=h m (by omega)
  refine ⟨l++[x],by simp [hl],fun j y hy=>?_⟩
  by_cases hj:j<l.length
  ·rw [List.getElem?_append_left hj] at hy
   exact hq j y hy
  ·have hlt:j<(l++[x]).length:=(List.getElem?_eq_some_iff.1 hy).1
   simp at hlt
   have hjm:j=m:=by omega
   subst hjm
   rw [List.getElem?_append_right (by omega)] at hy
   simp [hl] at hy
   subst hy
   exact hx
theorem addr_add (b o j:Nat):(Addr.mk b o none).add j=⟨b,o+j,none⟩:=by
 unfold Addr.add
 by_cases h:j=0<;>simp [h]
end
section
open Go.RowKit
def entsFrom {κ:Type} (enc:κ→Value):Nat→List (κ×Value)→List MapEntry
 | _,[]=>[]
 | i,p :: l=>{ key:=enc p.1,val:=p.2,born:=i } :: entsFrom enc (i+1) l
def MapAt {κ:Type} (enc:κ→Value) (w:World) (r:Nat) (m:List (κ×Value)):Prop:=w.heap[r]? = some (.map (entsFrom enc 0 m).toArray m.length)
def findE {κ:Type} [DecidableEq κ] (k:κ):List (κ×Value)→Nat→Option (Nat×Value)
 | [],_=>none
 | p :: l,i=>if k=p.1 then some (i,p.2) else findE k l (i+1)
structure KLaw (kt:TypeId) {κ:Type} [DecidableEq κ] (enc:κ→Value):Prop where
 check:∀ (em:Bool) (k:κ) (w:World),(Instr.checkKey em 10000 kt (enc k)).run Tryz.prog w=.ok () w
 find:∀ (k:κ) (m:List (κ×Value)) (w:World),(Instr.findKey kt (enc k) (entsFrom enc 0 m)).run Tryz.prog w=.ok (findE k m 0) w
 stays:∀ (k:κ) (w:World),(Instr.keyThatStays (enc k) (enc k)).run Tryz.prog w=.ok (enc k) w
section
variable {κ:Type} [DecidableEq κ] {enc:κ→Value} {kt T et:TypeId} (K:KLaw kt enc) (hT:Tryz.prog.underlying T=some (.map kt et)) {z:Value} (hz:∀ w:World,(zeroValue et).run Tryz.prog w=.ok z w)
 {w:World} {r:Nat} {m:List (κ×Value)} (hm:MapAt enc w r m)
include K hT hz hm
end
section
variable {κ:Type} [DecidableEq κ] {enc:κ→Value} {kt T et:TypeId} (K:KLaw kt enc) (hT:Tryz.prog.underlying T=some (.map kt et)) {z:Value} (hz:∀ w:World,(zeroValue et).run Tryz.prog w=.ok z w)
 {w:World} {r:Nat} {m:List (κ×Value)} (hm:MapAt enc w r m)
include K hT hm
include hz in
omit K hT [DecidableEq κ]
end
instance:DecidableEq (Int×Int×Int):=inferInstance
end
section
open Go.RowKit
structure Only (S:Nat→Prop) (w w':World):Prop where
 os:w'.os=w.os
 tape:w'.tape=w.tape
 output:w'.output=w.output
 size:w.heap.size≤w'.heap.size
 block:∀ k,k<w.heap.size→¬ S k→w'.heap[k]? = w.heap[k]?
theorem Only.refl (S:Nat→Prop) (w:World):Only S w w:=⟨rfl,rfl,rfl,Nat.le_refl _,fun _ _ _=>rfl⟩
theorem Only.trans {S:Nat→Prop} {a b c:World} (h:Only S a b) (k:Only S b c):Only S a c:=
 ⟨k.os.trans h.os,k.tape.trans h.tape,k.output.trans h.output,Nat.le_trans h.size k.size,fun i hi hs=>(k.block i (Nat.lt_of_lt_of_le hi h.size) hs).trans (h.block i hi hs)⟩
theorem Only.chain {S T:Nat→Prop} {a b c:World} (h:Only S a b) (k:Only T b c) (hT:∀ q,q<a.heap.size→T q→S q):Only S a c:=
 ⟨k.os.trans h.os,k.tape.trans h.tape,k.output.trans h.output,Nat.le_trans h.size k.size,fun i hi hs=>(k.block i (Nat.lt_of_lt_of_le hi h.size) (fun ht=>hs (hT i hi ht))).trans (h.block i hi hs)⟩
theorem Only.of_below {S:Nat→Prop} {w w':World} (h:Below w.heap.size w w'):Only S w w':=⟨h.os,h.tape,h.output,h.size,fun k hk _=>h.block k hk⟩
theorem Only.drewN {S:Nat→Prop} {a w:World} (h:Only S a w) (n:Nat):Only S a (w.drewN n):=⟨h.os,h.tape,h.output,h.size,h.block⟩
theorem Only.cell {S:Nat→Prop} {w w':World} (h:Only S w w') {a:Addr} (ha:a.block<w.heap.size) (hs:¬ S a.block):w'.cell? a=w.cell? a:=
 World.cell?_of_block (h.block a.block ha hs)
theorem Only.below {S:Nat→Prop} {B:Nat} {w w':World} (h:Only S w w') (hB:B≤w.heap.size) (hS:∀ k,S k→B≤k):Below B w w':=
 ⟨h.os,h.tape,h.output,h.size,fun k hk=>h.block k (by omega) (fun hs=>by have:=hS k hs;omega)⟩
def Typed (w:World) (b:Nat) (t:TypeId):Prop:=∃ cs,w.heap[b]? = some (.cells cs t (0,0))
theorem Typed.ne {w:World} {b b':Nat} {t t':TypeId} (h:Typed w b t) (h':Typed w b' t') (hne:t≠t'):b≠b':=by
 rintro rfl
 obtain ⟨cs,h⟩:=h
 obtain ⟨cs',h'⟩:=h'
 rw [h] at h';simp at h';exact hne h'.2
theorem Cells.typed {w:World} {b:Nat} {t:TypeId} {C:List Value} (h:Cells w b t C):Typed w b t:=⟨_,h⟩
theorem own_typed {w:World} {base e n:Nat} {v:Value} {xs:List Value} (h:w.ownsRow base e 1 v n xs) {g:Nat} (hg:v.ownBlock=some g):Typed w g e:=by
 rcases h.2 with ⟨rfl,_⟩ | ⟨g',cap,cur,rfl,_,hh,_⟩
 ·simp [Value.ownBlock] at hg
 ·simp [Value.ownBlock] at hg;subst hg;exact ⟨cur,hh⟩
end
section
open Go.RowKit
theorem Tryz.infoI:(Tryz.prog.info? 2).map (fun i=>(i.zero,i.size,i.bytes))=some (some (.int .i64 0),1,8):=by kernel_rfl
theorem eqInts (A B:Option Addr) (cap cap':Nat) (zs:List Int) (w:World) (hA:Ints w A zs) (hB:Ints w B zs) (hn:zs.length≤4611686018427387904) :
  Calls Tryz.prog 14 #[.slice A zs.length cap,.slice B zs.length cap'] w fun e w'=>e=.returned (.bool true)∧Drawn w w':=by
 go_enter Tryz.func14,Tryz.ntmps14
 go_wp2
 go_loopw [5] (fun i wr=>∃ (k d:Nat),k≤zs.length∧i=.int .i64 (k:Int)∧wr=w.drewN d) (fun i _=>zs.length - (intOf i).toNat)
 case atStart=>exact ⟨0,0,by omega,by go_num,rfl⟩
 case round=>
  obtain ⟨k,d,hk,rfl,rfl⟩:=hrel
  by_cases hlt:k<zs.length
  ·obtain ⟨b,o,x,rfl,hx,hc⟩:=hA.at_ hlt
   obtain ⟨b',o',x',rfl,hx',hc'⟩:=hB.at_ hlt
   obtain rfl:x'=x:=by rw [hx] at hx';simpa using hx'.symm
   have hc1:(w.drewN d).cell? ⟨b,o+k,none⟩=some (.int .i64 x'):=hc
   have hc2:(w.drewN d).cell? ⟨b',o'+k,none⟩=some (.int .i64 x'):=hc'
   clear hx hx'
   go_wp2
   go_quiet (fail)
   go_wp2
   go_roundw
   case rel=>exact ⟨k+1,_,by omega,by go_num,by first | rfl | rw [World.drewN_drewN]⟩
   case measure=>simp [intOf];omega
  ·go_wp2
   go_ret
   exact ⟨rfl,d,rfl⟩
def firstAt {α:Type} (p:α→Bool):List α→Int→Int
 | [],_=>-1
 | x :: l,k=>if p x then k else firstAt p l (k+1)
theorem firstAt_any {α:Type} (p:α→Bool) (l:List α) (k:Int) (hk:0≤k):decide (0≤firstAt p l k)=l.any p:=by
 induction l generalizing k with
 | nil=>simp [firstAt]
 | cons x l ih=>
  unfold firstAt
  cases hp:p x
  ·simp [hp,ih (k+1) (by omega)]
  ·simp [hp,hk]
theorem firstAt_drop {α:Type} (p:α→Bool) (l:List α) (k:Nat) (x:α) (h:l[k]? = some x):firstAt p (l.drop k) k=if p x then (k:Int) else firstAt p (l.drop (k+1)) (k+1:Nat):=by
 have hk:k<l.length:=(List.getElem?_eq_some_iff.1 h).1
 rw [List.drop_eq_getElem_cons hk]
 have:l[k]=x:=by rw [List.getElem?_eq_getElem hk] at h;simpa using h
 simp [firstAt,this]
theorem firstAt_end {α:Type} (p:α→Bool) (l:List α) (k:Int):firstAt p (l.drop l.length) k=-1:=by simp [firstAt]
theorem indexFuncI (A:Option Addr) (cap:Nat) (zs:List Int) (w:World) (hA:Ints w A zs) (hn:zs.length≤4611686018427387904)
  (f:Nat) (hf:Enters f) (cs:Array Value) (p:Int→Bool) (hp:Hid (∀ x,Calls Tryz.prog f (#[.int .i64 x]++cs) w fun e w'=>e=.returned (.bool (p x))∧w=w')) :
  Calls Tryz.prog 207 #[.slice A zs.length cap,.func (.func f) #[] cs] w fun e w'=>e=.returned (.int .i64 (firstAt p zs 0))∧w=w':=by
 go_enter Tryz.func207,Tryz.ntmps207
 go_wp2
 go_loop [5,8] (fun _ i=>∃ k:Nat,k≤zs.length∧i=.int .i64 (k:Int)∧Hid (firstAt p zs 0=firstAt p (zs.drop k) k)) (fun _ i=>zs.length - (intOf i).toNat)
 case atStart=>exact ⟨0,by omega,by go_num,rfl⟩
 case round=>
  obtain ⟨k,hk,rfl,HR⟩:=hrel
  by_cases hlt:k<zs.length
  ·obtain ⟨b,o,x,rfl,hx,hc⟩:=hA.at_ hlt
   have HS:=hid (firstAt_drop p zs k x hx)
   clear hx
   go_wp2_with fail
   rw [hf _ _,Oper.upon_enter]
   refine (hp.out x).mono ?_;rintro e w' ⟨rfl,rfl⟩
   cases hpx:p x
   ·have HP:=hid hpx;clear hpx
    go_wp2
    go_round
    case rel=>exact ⟨k+1,by omega,by go_num,by show _=_;rw [HR.out,HS.out,HP.out];rfl⟩
    case measure=>simp [intOf];omega
   ·have HP:=hid hpx;clear hpx
    go_wp2
    go_ret
    exact ⟨ret_int (by rw [HR.out,HS.out,HP.out];rfl),rfl⟩
  ·obtain rfl:k=zs.length:=by omega
   go_wp2
   go_ret
   exact ⟨ret_int (by rw [HR.out,firstAt_end]),rfl⟩
theorem containsFuncI (A:Option Addr) (cap:Nat) (zs:List Int) (w:World) (hA:Ints w A zs) (hn:zs.length≤4611686018427387904)
  (f:Nat) (hf:Enters f) (cs:Array Value) (p:Int→Bool) (hp:Hid (∀ x,Calls Tryz.prog f (#[.int .i64 x]++cs) w fun e w'=>e=.returned (.bool (p x))∧w=w')) :
  Calls Tryz.prog 130 #[.slice A zs.length cap,.func (.func f) #[] cs] w fun e w'=>e=.returned (.bool (zs.any p))∧w=w':=by
 have HE:=hid (firstAt_any p zs 0 (by omega))
 go_enter Tryz.func130,Tryz.ntmps130
 go_wp2_with fail
 refine (indexFuncI A cap zs w hA hn f hf cs p hp).mono ?_;rintro e w' ⟨rfl,rfl⟩
 go_wp2
 go_ret
 exact ⟨ret_bool HE.out,rfl⟩
end
section
open Go.RowKit Plain
theorem in_any (n lo hi:Int) (w:World) :
  Calls Tryz.prog 106 #[.int .i64 n,.int .i64 lo,.int .i64 hi] w fun e w'=>e=.returned (.bool (inR n lo hi))∧w=w':=by
 by_cases h1:lo≤n
 ·go_enter Tryz.func106,Tryz.ntmps106
  go_wp2
  all_goals (go_ret;exact ⟨by simp [inR, *],rfl⟩)
 ·go_enter Tryz.func106,Tryz.ntmps106
  go_wp2
  all_goals (go_ret;exact ⟨by rw [show inR n lo hi=false from inR_false.2 (by omega)];rfl,rfl⟩)
theorem within_any (n lo hi:Int) (w:World) :
  Calls Tryz.prog 90 #[.int .i64 n,.int .i64 lo,.int .i64 hi] w fun e w'=>e=.returned (.bool (inR n lo hi))∧w=w':=by
 by_cases h1:lo≤n
 ·go_enter Tryz.func90,Tryz.ntmps90
  go_wp2
  all_goals (go_ret;exact ⟨by simp [inR, *],rfl⟩)
 ·go_enter Tryz.func90,Tryz.ntmps90
  go_wp2
  all_goals (go_ret;exact ⟨by rw [show inR n lo hi=false from inR_false.2 (by omega)];rfl,rfl⟩)
end
section
open Go.RowKit Plain
end
section
open Go.RowKit Plain
theorem run_make_many {P:Program} (t e:TypeId) (z:Value) (size bytes:Nat) (ht:P.underlying t=some (.slice e)) (hinfo:(P.info? e).map (fun i=>(i.zero,i.size,i.bytes))=some (some z,size,bytes))
  (kl kc:IntKind) (n:Nat) (hbytes:bytes*n≤281474976710656) (h63:n≤9223372036854775807) (w:World) :
  (Instr.makeSlice t (.int kl (n:Int)) (.int kc (n:Int))).run P w=.ok (.slice (some ⟨w.heap.size,0,none⟩) n n) (w.alloc (.cells (madeCells z.cells (n*size)) e)):=by
 obtain ⟨i,hi,hzz⟩:=Option.map_eq_some_iff.1 hinfo
 simp only [Prod.mk.injEq] at hzz
 obtain ⟨hz,hs,hb⟩:=hzz
 have hb':(i.bytes:Int)*(n:Int)≤281474976710656:=by
  have h:((i.bytes*n:Nat):Int)≤281474976710656:=by rw [hb];omega
  rwa [Int.natCast_mul] at h
 have hr:=run_make (P:=P) w t e i z ht hi hz kl kc n n (by omega) (Int.le_refl _) hb' (by omega)
 simp only [Int.toNat_natCast,hs] at hr
 exact hr
end
section
open Go.RowKit Plain
theorem tmod_bd (a:Int):-1000002≤a.tmod 1000003∧a.tmod 1000003≤1000002∧(a.tmod 1000003+1000003) % 1000003=rs a:=by
 have h:=Int.tmod_eq_emod (a:=a) (b:=1000003)
 unfold rs
 rw [h]
 split
 ·have h1:=Int.emod_nonneg a (b:=1000003) (by omega)
  have h2:=Int.emod_lt_of_pos a (b:=1000003) (by omega)
  omega
 ·rename_i hn
  have h1:=Int.emod_nonneg a (b:=1000003) (by omega)
  have h2:=Int.emod_lt_of_pos a (b:=1000003) (by omega)
  have h3:a % 1000003≠0:=fun e=>hn (.inr (Int.dvd_of_emod_eq_zero e))
  have h4:((1000003:Int).natAbs:Int)=1000003:=rfl
  rw [h4]
  omega
theorem residue_any (a:Int) (w:World):Calls Tryz.prog 210 #[.int .i64 a] w fun e w'=>e=.returned (.int .i64 (rs a))∧w=w':=by
 obtain ⟨h1,h2,h3⟩:=tmod_bd a
 have H3:=hid h3;clear h3
 go_enter Tryz.func210,Tryz.ntmps210
 go_wp2
 go_ret
 exact ⟨ret_int H3.out,rfl⟩
theorem mul_bd {a b:Int} (ha:0≤a) (ha':a≤1000002) (hb:0≤b) (hb':b≤1000002):0≤a*b∧a*b≤1000004000004:=by
 have h1:=Int.mul_nonneg ha hb
 have h2:a*b≤1000002*1000002:=Int.mul_le_mul ha' hb' hb (by omega)
 omega
theorem plus_any (a b:Int) (w:World):Calls Tryz.prog 181 #[.int .i64 a,.int .i64 b] w fun e w'=>e=.returned (.int .i64 (pl a b))∧w=w':=by
 have ha:=rs_bd a
 have hb:=rs_bd b
 have H:=hid (pl_rs a b)
 go_enter Tryz.func181,Tryz.ntmps181
 go_wp2_with fail
 refine (residue_any a _).mono ?_;rintro e w' ⟨rfl,rfl⟩
 go_wp2_with fail
 refine (residue_any b _).mono ?_;rintro e w' ⟨rfl,rfl⟩
 generalize rs a=x at *
 generalize rs b=y at *
 go_wp2
 go_ret
 exact ⟨ret_int H.out,rfl⟩
theorem pw_half_odd {o b:Int} {k:Nat} (hk:k % 2=1):tm o (pw b k)=tm (o*b % 1000003) (pw (b*b % 1000003) (k / 2)):=by
 rw [pw_two_even]
 unfold tm pw
 rw [mulr,mull,mulr]
 congr 1
 have e:k=2*(k / 2)+1:=by omega
 rw [Int.mul_assoc,←Int.pow_succ',←e]
theorem pw_half_even {o b:Int} {k:Nat} (hk:k % 2=0):tm o (pw b k)=tm o (pw (b*b % 1000003) (k / 2)):=by
 rw [pw_two_even]
 have e:k=2*(k / 2):=by omega
 rw [←e]
theorem tm_one {o:Int} (h:0≤o) (h':o≤1000002) (b:Int):tm o (pw b 0)=o:=by
 unfold tm pw;simp;omega
theorem power_any (a:Int) (n:Nat) (w:World) (hn:n≤4611686018427387904):Calls Tryz.prog 136 #[.int .i64 a,.int .i64 n] w fun e w'=>e=.returned (.int .i64 (pw a n))∧w=w':=by
 have ha:=rs_bd a
 have HP:=hid (pw_rs a n)
 go_enter Tryz.func136,Tryz.ntmps136
 go_wp2_with fail
 refine (residue_any a _).mono ?_;rintro e w' ⟨rfl,rfl⟩
 generalize rs a=x at *
 go_wp2_with fail
 go_loop [1,5,6] (fun nn o b=>∃ (k:Nat) (oo bb:Int),k≤n∧nn=.int .i64 (k:Int)∧o=.int .i64 oo∧b=.int .i64 bb∧0≤oo∧oo≤1000002∧0≤bb∧bb≤1000002∧Hid (pw x n=tm oo (pw bb k))) (fun nn _ _=>(intOf nn).toNat)
 case atStart=>exact ⟨n,1,x,by omega,rfl,rfl,rfl,by omega,by omega,ha.1,ha.2,by show _=_;unfold tm pw;rw [Int.one_mul,Int.emod_emod]⟩
 case round=>
  obtain ⟨k,oo,bb,hk,rfl,rfl,rfl,o0,o1,b0,b1,HE⟩:=hrel
  have m1:=mul_bd o0 o1 b0 b1
  have m2:=mul_bd b0 b1 b0 b1
  by_cases hlt:0<k
  ·by_cases h2:k % 2=1
   ·have hd:((k:Int) % 2==1)=true:=by simp;omega
    have HS:=hid (pw_half_odd (o:=oo) (b:=bb) h2)
    go_wp2
    go_round
    case rel=>exact ⟨k / 2,oo*bb % 1000003,bb*bb % 1000003,by omega,by go_num,rfl,rfl,by omega,by omega,by omega,by omega,by show _=_;rw [HE.out,HS.out]⟩
    case measure=>simp [intOf];omega
   ·have hd:((k:Int) % 2==1)=false:=by simp;omega
    have HS:=hid (pw_half_even (o:=oo) (b:=bb) (show k % 2=0 by omega))
    go_wp2
    go_round
    case rel=>exact ⟨k / 2,oo,bb*bb % 1000003,by omega,by go_num,rfl,rfl,by omega,by omega,by omega,by omega,by show _=_;rw [HE.out,HS.out]⟩
    case measure=>simp [intOf];omega
  ·obtain rfl:k=0:=by omega
   have HF:=hid (tm_one o0 o1 bb)
   go_wp2
   go_ret
   exact ⟨ret_int (by rw [←HP.out,HE.out,HF.out]),rfl⟩
theorem inverse_any (a:Int) (w:World):Calls Tryz.prog 236 #[.int .i64 a] w fun e w'=>e=.returned (.int .i64 (iv a))∧w=w':=by
 go_enter Tryz.func236,Tryz.ntmps236
 go_wp2_with fail
 refine (power_any a 1000001 _ (by omega)).mono ?_;rintro e w' ⟨rfl,rfl⟩
 go_wp2
 go_ret
 exact ⟨rfl,rfl⟩
end
section
open Go.RowKit
def IntsM (w:World) (B:Nat) (A:Option Addr) (zs:List Int):Prop:=
 0<zs.length→∃ b o,A=some ⟨b,o,none⟩∧B≤b∧b<w.heap.size∧∀ j x,zs[j]? = some x→w.cell? ⟨b,o+j,none⟩=some (.int .i64 x)∧w.frozen? ⟨b,o+j,none⟩=false
theorem IntsM.ints {w:World} {B:Nat} {A:Option Addr} {zs:List Int} (h:IntsM w B A zs):Ints w A zs:=fun hn=>by
 obtain ⟨b,o,e,_,hl,hc⟩:=h hn
 exact ⟨b,o,e,hl,fun j x hx=>(hc j x hx).1⟩
theorem IntsM.nil (w:World) (B:Nat) (A:Option Addr):IntsM w B A []:=fun h=>absurd h (by simp)
def InBlk (A:Option Addr) (q:Nat):Prop:=∃ o,A=some ⟨q,o,none⟩
def InB (n:Nat) (A:Option Addr) (q:Nat):Prop:=0<n∧InBlk A q
theorem Ints.onlyB {w w':World} {S:Nat→Prop} {A:Option Addr} {zs:List Int} (h:Ints w A zs) (ho:Only S w w') (hS:∀ q,q<w.heap.size→InB zs.length A q→¬ S q):Ints w' A zs:=fun hn=>by
 obtain ⟨b,o,e,hl,hc⟩:=h hn
 exact ⟨b,o,e,Nat.lt_of_lt_of_le hl ho.size,fun j x hx=>(ho.cell (a:=⟨b,o+j,none⟩) hl (hS b hl ⟨hn,o,e⟩)).trans (hc j x hx)⟩
def markL (n:Nat) (k:Int):List Int:=(List.range n).map (fun i:Nat=>k+(i:Int))
theorem markL_length (n:Nat) (k:Int):(markL n k).length=n:=by simp [markL]
theorem markL_get {n:Nat} {k:Int} {i:Nat} (h:i<n):(markL n k)[i]? = some (k+i):=by simp [markL,h]
theorem mark_any (B:Nat) (A:Option Addr) (cap:Nat) (zs:List Int) (k:Int) (w:World) (h:IntsM w B A zs) (hn:zs.length≤4194304) (k0:0≤k) (k1:k≤1000000000000) :
  Calls Tryz.prog 17 #[.slice A zs.length cap,.int .i64 k] w fun e w'=>
   e=.returned (.int .i64 (k+zs.length))∧IntsM w' B A (markL zs.length k)∧Only (InB zs.length A) w w':=by
 have HM:=hid h;clear h
 go_enter Tryz.func17,Tryz.ntmps17
 go_wp2
 go_loopw [1,5] (fun kk i wr=>∃ j:Nat,j≤zs.length∧i=.int .i64 (j:Int)∧kk=.int .i64 (k+(j:Int))∧Hid (Only (InB zs.length A) w wr) ∧
   Hid (∀ b o,A=some ⟨b,o,none⟩→0<zs.length→∀ i,i<zs.length→(∃ x,wr.cell? ⟨b,o+i,none⟩=some (.int .i64 x))∧wr.frozen? ⟨b,o+i,none⟩=false∧(i<j→wr.cell? ⟨b,o+i,none⟩=some (.int .i64 (k+(i:Int)))))) (fun _ i _=>zs.length - (intOf i).toNat)
 case atStart=>
  refine ⟨0,by omega,by go_num,by simp,Only.refl _ _, ?_⟩
  intro b o e hz i hi
  obtain ⟨b',o',e',_,_,hc⟩:=HM.out hz
  rw [e] at e'
  obtain ⟨rfl,rfl⟩:b=b'∧o=o':=by simpa using e'
  have:=hc i zs[i] (List.getElem?_eq_getElem hi)
  exact ⟨⟨_,this.1⟩,this.2,fun h=>by omega⟩
 case round=>
  obtain ⟨j,hj,rfl,rfl,HO,HR⟩:=hrel
  by_cases hlt:j<zs.length
  ·obtain ⟨b,o,rfl,hB,hl,hc⟩:=HM.out (by omega)
   obtain ⟨⟨x,hx⟩,hf,_⟩:=HR.out b o rfl (by omega) j hlt
   have HS:Hid (Only (InB zs.length (some ⟨b,o,none⟩)) w (wr.setCell ⟨b,o+j,none⟩ (.int .i64 (k+(j:Int))))):=
    HO.out.trans ⟨rfl,rfl,rfl,by simp [World.setCell],fun q _ hq=>Below.heap_setCell _ _ _ _ (fun e=>hq ⟨by omega,o,by rw [e]⟩)⟩
   have HR2:Hid (∀ b' o',some (⟨b,o,none⟩:Addr)=some ⟨b',o',none⟩→0<zs.length→∀ i,i<zs.length→(∃ x,(wr.setCell ⟨b,o+j,none⟩ (.int .i64 (k+(j:Int)))).cell? ⟨b',o'+i,none⟩=some (.int .i64 x))∧(wr.setCell ⟨b,o+j,none⟩ (.int .i64 (k+(j:Int)))).frozen? ⟨b',o'+i,none⟩=false∧(i<j+1→(wr.setCell ⟨b,o+j,none⟩ (.int .i64 (k+(j:Int)))).cell? ⟨b',o'+i,none⟩=some (.int .i64 (k+(i:Int))))):=by
    intro b' o' e hz i hi
    obtain ⟨rfl,rfl⟩:b=b'∧o=o':=by simpa using e
    obtain ⟨⟨y,hy⟩,hf',hd⟩:=HR.out b o rfl hz i hi
    by_cases he:i=j
    ·subst he
     have hs:(wr.setCell ⟨b,o+i,none⟩ (.int .i64 (k+(i:Int)))).cell? ⟨b,o+i,none⟩=some (.int .i64 (k+(i:Int))):=World.cell?_setCell_same _ _ _ hx
     exact ⟨⟨_,hs⟩,by rw [World.frozen?_setCell];exact hf',fun _=>hs⟩
    ·have hs:(wr.setCell ⟨b,o+j,none⟩ (.int .i64 (k+(j:Int)))).cell? ⟨b,o+i,none⟩=wr.cell? ⟨b,o+i,none⟩:=World.cell?_setCell_other _ _ _ _ (fun e=>by injection e with _ h _;omega)
     exact ⟨⟨y,hs.trans hy⟩,by rw [World.frozen?_setCell];exact hf',fun h=>hs.trans (hd (by omega))⟩
   clear HR HO hc
   go_wp2
   go_roundw
   case rel=>exact ⟨j+1,by omega,by go_num,by go_num,HS,HR2⟩
   case measure=>simp [intOf];omega
  ·obtain rfl:j=zs.length:=by omega
   go_wp2
   go_ret
   refine ⟨rfl, ?_,HO.out⟩
   intro hn'
   rw [markL_length] at hn'
   obtain ⟨b,o,rfl,hB,hl,hc⟩:=HM.out hn'
   refine ⟨b,o,rfl,hB,Nat.lt_of_lt_of_le hl HO.out.size,fun i x hx=>?_⟩
   have hi:i<zs.length:=by have:=(List.getElem?_eq_some_iff.1 hx).1;rwa [markL_length] at this
   rw [markL_get hi] at hx
   obtain rfl:k+(i:Int)=x:=by simpa using hx
   obtain ⟨_,hf,hd⟩:=HR.out b o rfl hn' i hi
   exact ⟨hd hi,hf⟩
theorem held_any (A:Option Addr) (cap n:Nat) (k:Int) (w:World) (h:Ints w A (markL n k)) (hn:n≤4194304) (k0:0≤k) (k1:k≤1000000000000) :
  Calls Tryz.prog 18 #[.slice A n cap,.int .i64 k] w fun e w'=>e=.returned (.int .i64 (k+n))∧w=w':=by
 have HM:=hid h;clear h
 go_enter Tryz.func18,Tryz.ntmps18
 go_wp2
 go_loop [1,5] (fun kk i=>∃ j:Nat,j≤n∧i=.int .i64 (j:Int)∧kk=.int .i64 (k+(j:Int))) (fun _ i=>n - (intOf i).toNat)
 case atStart=>exact ⟨0,by omega,by go_num,by simp⟩
 case round=>
  obtain ⟨j,hj,rfl,rfl⟩:=hrel
  by_cases hlt:j<n
  ·obtain ⟨b,o,rfl,hl,hc⟩:=HM.out (by rw [markL_length];omega)
   have hx:=hc j _ (markL_get hlt)
   clear hc
   go_wp2
   go_round
   case rel=>exact ⟨j+1,by omega,by go_num,by go_num⟩
   case measure=>simp [intOf];omega
  ·obtain rfl:j=n:=by omega
   go_wp2
   go_ret
   exact ⟨rfl,rfl⟩
end
section
open Go.RowKit
theorem step_append_own {P:Program} {w:World} {ops:Array Oper} {o:Oper} {a:Act} {K:Act→World→Prop} {Q:Exit→Act→World→Prop} {E:Prop} (hgd:o.guard=none) (s x:Operand) (t:TypeId)
  (ho:o.op=.call { callee:=.builtin .append,args:=#[s,x],argTypes:=#[t,t] })
  (base:Nat) (e:TypeId) (i:TypeInfo) (z:Value) (size bytes:Nat) (ht:P.underlying t=some (.slice e)) (hi:P.info? e=some i) (hz:i.zero=some z)
  (hsize:i.size=size) (hby:i.bytes=bytes) (hzs:z.cells.size=size) (hsz:0<size)
  (v:Value) (n:Nat) (xs:List Value) (hs:a.eval s=v) (hown:w.ownsRow base e size v n xs)
  (ad:Addr) (m c:Nat) (news:List Value) (hx:a.eval x=.slice (some ad) m c) (hl:news.length=m*size) (hnews:∀ j u,news[j]? = some u→w.cell? (ad.add j)=some u) (h1:∀ u∈news,u.oneCell'=true)
  (h63:n+m≤maxLen) (hbytes:(n+m)*bytes≤140737488355328) (hbase:base≤w.heap.size)
  (h:∀ v' w',w'.ownsRow base e size v' (n+m) (xs++news)→w.grownBy w' v.ownBlock→K (a.put o.dst v') w') :
  if Region.wanted o (yielded ops a.tmps)=true then Oper.wp P o a w K Q else E:=by
 have hw:Region.wanted o (yielded ops a.tmps)=true:=by simp [Region.wanted,hgd]
 rw [if_pos hw]
 exact wp_append_own w s x t ho base e i z size bytes ht hi hz hsize hby hzs hsz v n xs hs hown ad m c news hx hl hnews h1 h63 hbytes hbase fun v' w' h2 h3 _=>h v' w' h2 h3
end
section
open Go.RowKit
def IntRow (w:World) (base:Nat) (v:Value) (l:List Int):Prop:=w.ownsRow base 2 1 v l.length (l.map (Value.int .i64))
theorem IntRow.keep {w w':World} {base:Nat} {v:Value} {l:List Int} (h:IntRow w base v l) (hb:∀ g,v.ownBlock=some g→w'.heap[g]? = w.heap[g]?):IntRow w' base v l:=by
 refine ⟨h.1, ?_⟩
 rcases h.2 with hn | ⟨g,cap,cur,rfl,hb',hgg,rest⟩
 ·exact .inl hn
 ·exact .inr ⟨g,cap,cur,rfl,hb',by rw [hb g rfl];exact hgg,rest⟩
theorem IntRow.lt {w:World} {base:Nat} {v:Value} {l:List Int} (h:IntRow w base v l) {q:Nat} (hq:v.ownBlock=some q):base≤q∧q<w.heap.size:=World.ownsRow.lt h q hq
theorem IntRow.form {w:World} {base:Nat} {v:Value} {l:List Int} (h:IntRow w base v l):∃ A cap,v=.slice A l.length cap:=by
 rcases h.2 with ⟨hv,h0⟩ | ⟨g,cap,_,hv,_⟩
 ·exact ⟨none,0,by rw [hv,h0]⟩
 ·exact ⟨_,_,hv⟩
theorem IntRow.intsM {w:World} {base cap:Nat} {A:Option Addr} {l:List Int} (h:IntRow w base (.slice A l.length cap) l):IntsM w base A l:=fun hn=>by
 obtain ⟨g,cap',hv,hb,hlt⟩:=World.ownsRow.form h (by omega)
 have hA:A=some ⟨g,0,none⟩:=by injection hv
 have hc:cap=cap':=by injection hv
 subst hA
 subst hc
 refine ⟨g,0,rfl,hb,hlt,fun j x hx=>?_⟩
 have hj:j<l.length:=(List.getElem?_eq_some_iff.1 hx).1
 refine ⟨?_,World.ownsRow.frozenAt h _⟩
 rw [Nat.zero_add,World.ownsRow.cellAt h j (by omega)]
 simp [hx]
theorem IntRow.push {w2:World} {base:Nat} {v2:Value} {l:List Int} {x:Int} {n:Nat} (hn:n=l.length) (hown:w2.ownsRow base 2 1 v2 (n+1) (l.map (Value.int .i64)++[.int .i64 x])):IntRow w2 base v2 (l++[x]):=by
 unfold IntRow
 rw [List.map_append,List.length_append,←hn]
 exact hown
theorem IntRow.ownN {w:World} {base:Nat} {v:Value} {l:List Int} (h:IntRow w base v l) {n:Nat} (hn:n=l.length):w.ownsRow base 2 1 v n (l.map (Value.int .i64)):=by rw [hn];exact h
end
end Go.Proofs.YtgfkglhelfkpoaaGreat
