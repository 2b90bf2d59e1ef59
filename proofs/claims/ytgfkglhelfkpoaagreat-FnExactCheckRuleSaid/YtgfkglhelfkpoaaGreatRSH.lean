/- Texts put together: PTwo, PScl, WTwo, WConcat, WPlus, WSink, WScl. -/
import Derived.Test.YtgfkglhelfkpoaaGreatRSG
import Derived.Test.YtgfkglhelfkpoaaGreatRSE
import Derived.Lib.AppendZerosOnto
import Derived.StillTailTactics
import Derived.Deep.RegionHeld
import Derived.Test.YtgfkglhelfkpoaaGreatRSF
set_option maxRecDepth 100000
set_option maxHeartbeats 4000000
open Go.Lib (hid)
namespace Go.Proofs.YtgfkglhelfkpoaaGreat
section
open Plain
theorem totT_valid {u:Int} {R:List Term'} (h:polyOk u R=true):R.length≤120∧totT R≤1440:=by
 have h1:=polyOk_size h
 have h2:=totT_le_mul (polyOk_len' h)
 have h3:R.length*u.toNat≤120*12:=Nat.mul_le_mul h1.2.2 (by omega)
 exact ⟨h1.2.2,by omega⟩
theorem bdAdd {u:Int} {ts us:List Term'} (h1:polyOk u ts=true) (h2:polyOk u us=true):(nfT (ts++us)).length≤240∧totT (nfT (ts++us))≤1048576:=by
 obtain ⟨s1,s2⟩:=nfT_spec (ts++us)
 rw [List.length_append] at s2
 have z1:=polyOk_size h1
 have z2:=polyOk_size h2
 have hl:LenT u.toNat (nfT (ts++us)):=fun t ht=>by
  obtain ⟨s,hs,e⟩:=s1 t ht
  rw [←e]
  rcases List.mem_append.1 hs with hs | hs
  ·exact polyOk_len' h1 s hs
  ·exact polyOk_len' h2 s hs
 have h4:=totT_le_mul hl
 have h5:(nfT (ts++us)).length*u.toNat≤240*12:=Nat.mul_le_mul (by omega) (by omega)
 exact ⟨by omega,by omega⟩
end
section
open Plain
def sclT (k:Int) (ts:List Term'):List Term':=ts.map fun t=>(t.1,tm t.2 k)
theorem sclT_length (k:Int) (ts:List Term'):(sclT k ts).length=ts.length:=by unfold sclT;exact List.length_map _
theorem sclT_at {k:Int} {ts:List Term'} {i:Nat} (h:i<ts.length):tmAt (sclT k ts) i=((tmAt ts i).1,tm (tmAt ts i).2 k):=by
 unfold tmAt sclT
 simp [List.getD,h]
theorem tm_bd1 {a b:Int} (h0:1≤a) (h1:a≤1000002) (k0:1≤b) (k1:b≤1000002):1≤tm a b∧tm a b≤1000002:=by
 have h:=tm_bd a b
 have:=prod_ne h0 h1 k0 k1
 omega
theorem Canon.scl {ts:List Term'} (h:Canon ts) {k:Int} (k0:1≤k) (k1:k≤1000002):Canon (sclT k ts):=by
 refine ⟨?_,fun t ht=>?_⟩
 ·unfold sclT
  exact List.pairwise_map.2 (h.asc.imp fun h=>h)
 ·unfold sclT at ht
  obtain ⟨s,hs,rfl⟩:=List.mem_map.1 ht
  have:=h.coef s hs
  exact tm_bd1 this.1 this.2 k0 k1
theorem tm_oneR {c:Int} (h0:1≤c) (h1:c≤1000002):tm c 1=c:=by unfold tm;omega
theorem sclT_one {ts:List Term'} (h:Canon ts):sclT 1 ts=ts:=by
 unfold sclT
 have:∀ t∈ts,(t.1,tm t.2 1)=t:=fun t ht=>by
  have:=h.coef t ht
  rw [tm_oneR this.1 this.2]
 rw [List.map_congr_left this,List.map_id']
theorem polyOk_scl {u k:Int} {ts:List Term'} (h:polyOk u ts=true) (k0:1≤k) (k1:k≤1000002):polyOk u (sclT k ts)=true:=by
 have hc:=(polyOk_canon h).scl k0 k1
 have hv:inR u 0 12=true:=by
  unfold polyOk at h
  simp only [Bool.and_eq_true] at h
  exact h.1.1
 rw [polyOk_of hv (fun t ht=>?_) hc.asc]
 ·rw [sclT_length]
  have:=(polyOk_size h).2.2
  simpa using this
 ·have hc2:=hc.coef t ht
  unfold sclT at ht
  obtain ⟨s,hs,rfl⟩:=List.mem_map.1 ht
  exact termOk_of_exps (polyOk_mem h hs) rfl hc2.1 hc2.2
theorem split_lt (ts:List Term') (e:List Int):∃ P S,ts=P++S∧(∀ p∈P,cmpL p.1 e<0)∧∀ s S',S=s :: S'→¬ cmpL s.1 e<0:=by
 induction ts with
 | nil=>exact ⟨[],[],rfl,fun p h=>by simp at h,fun s S' h=>by simp at h⟩
 | cons t ts ih=>
  by_cases h:cmpL t.1 e<0
  ·obtain ⟨P,S,h1,h2,h3⟩:=ih
   refine ⟨t :: P,S,by rw [h1];rfl,fun p hp=>?_,h3⟩
   rcases List.mem_cons.1 hp with rfl | hp
   ·exact h
   ·exact h2 p hp
  ·exact ⟨[],t :: ts,rfl,fun p h=>by simp at h,fun s S' hs=>by injection hs with h1 h2;subst h1;exact h⟩
theorem put_ex {R:List Term'} (h:Canon R) (e:List Int) {c:Int} (c0:0≤c) (c1:c≤1000002):∃ R',Canon R'∧∀ x,cof R' x=if e=x then pl c (cof R e) else cof R x:=by
 obtain ⟨P,S,hR,hP,hS⟩:=split_lt R e
 subst hR
 cases S with
 | nil=>exact ⟨_,put_new h hP (fun s hs=>by simp at hs) c0 c1⟩
 | cons s S'=>
  have h1:=hS s S' rfl
  by_cases h2:cmpL s.1 e=0
  ·have he:=cmpL_eq h2
   obtain ⟨s1,s2⟩:=s
   simp only at he
   subst he
   exact ⟨_,put_at h⟩
  ·have h3:cmpL e s.1<0:=by have:=cmpL_swap s.1 e;omega
   refine ⟨_,put_new h hP (fun x hx=>?_) c0 c1⟩
   rcases List.mem_cons.1 hx with rfl | hx
   ·exact h3
   ·exact cmpL_trans h3 ((List.pairwise_cons.1 (List.pairwise_append.1 h.asc).2.1).1 x hx)
theorem nf_ex (L:List Term'):∃ R,Canon R∧∀ e,cof R e=cof L e:=by
 induction L with
 | nil=>exact ⟨[],Canon.nil,fun _=>rfl⟩
 | cons t L ih=>
  obtain ⟨R,h1,h2⟩:=ih
  obtain ⟨R',h3,h4⟩:=put_ex h1 t.1 (rs_bd t.2).1 (rs_bd t.2).2
  refine ⟨R',h3,fun x=>?_⟩
  rw [h4]
  show _=if t.1=x then pl t.2 (cof L x) else cof L x
  by_cases hx:t.1=x
  ·rw [if_pos hx,if_pos hx,h2,hx];unfold pl rs;omega
  ·rw [if_neg hx,if_neg hx,h2]
theorem nfT_canon (L:List Term'):Canon (nfT L):=by
 obtain ⟨R,h1,h2⟩:=nf_ex L
 rw [←nfT_eq h1 h2];exact h1
theorem nfT_cof (L:List Term') (e:List Int):cof (nfT L) e=cof L e:=by
 obtain ⟨R,h1,h2⟩:=nf_ex L
 rw [←nfT_eq h1 h2];exact h2 e
theorem nfT_self {L:List Term'} (h:Canon L):nfT L=L:=(nfT_eq h fun _=>rfl).symm
end
section
open Go.RowKit Plain
theorem boxes3 {w W0:World} {u v:Int} {A1 A2:Option Addr} {n1 n2 c1 c2:Nat} (hW0:W0=((w.alloc (.cells #[.int .i64 u,.slice A1 n1 c1] 86)).alloc (.cells #[.int .i64 v,.slice A2 n2 c2] 86)).alloc (.cells #[.int .i64 0,.slice none 0 0] 86)) :
  Below w.heap.size w W0∧Cells W0 w.heap.size 86 [.int .i64 u,.slice A1 n1 c1]∧Cells W0 (w.heap.size+1) 86 [.int .i64 v,.slice A2 n2 c2]∧Cells W0 (w.heap.size+2) 86 [.int .i64 0,.slice none 0 0]:=by
 subst hW0
 refine ⟨by go_grown,(Cells.new w 86 [.int .i64 u,.slice A1 n1 c1]).next (by go_grown), ?_, ?_⟩
 ·have:=(Cells.new (w.alloc (.cells #[.int .i64 u,.slice A1 n1 c1] 86)) 86 [.int .i64 v,.slice A2 n2 c2]).next (w':=((w.alloc (.cells #[.int .i64 u,.slice A1 n1 c1] 86)).alloc (.cells #[.int .i64 v,.slice A2 n2 c2] 86)).alloc (.cells #[.int .i64 0,.slice none 0 0] 86)) (by go_grown)
  simpa using this
 ·have:=Cells.new ((w.alloc (.cells #[.int .i64 u,.slice A1 n1 c1] 86)).alloc (.cells #[.int .i64 v,.slice A2 n2 c2] 86)) 86 [.int .i64 0,.slice none 0 0]
  simpa using this
end
section
open Go.RowKit Plain
structure TmC (w:World) (A:Option Addr) (ts:List Term') (us:List (Value×Int)):Prop where
 len:us.length=ts.length
 cells:0<ts.length→∃ b o,A=some ⟨b,o,none⟩∧b<w.heap.size∧∀ j u,(cellsT us)[j]? = some u→w.cell? ⟨b,o+j,none⟩=some u
 row:∀ (i:Nat) (x:Value×Int) (t:Term'),us[i]? = some x→ts[i]? = some t→x.2=t.2∧∃ Ai cap,x.1=.slice Ai t.1.length cap∧Ints w Ai t.1
theorem TmsAt.cellsC {w:World} {A:Option Addr} {ts:List Term'} (h:TmsAt w A ts):∃ us,TmC w A ts us:=by
 by_cases h0:0<ts.length
 ·obtain ⟨b,o,rfl,hb,hc⟩:=h h0
  have hu:∀ i x,((List.range ts.length).map fun i=>((w.cell? ⟨b,o+i*2,none⟩).getD (.int .i64 0),(tmAt ts i).2))[i]? = some x→i<ts.length∧x=((w.cell? ⟨b,o+i*2,none⟩).getD (.int .i64 0),(tmAt ts i).2):=by
   intro i x hx
   rw [List.getElem?_map] at hx
   obtain ⟨k,hk,rfl⟩:=Option.map_eq_some_iff.1 hx
   have hk2:=List.getElem?_eq_some_iff.1 hk
   obtain ⟨h1,h2⟩:=hk2
   simp at h1 h2
   subst h2
   exact ⟨h1,rfl⟩
  refine ⟨(List.range ts.length).map fun i=>((w.cell? ⟨b,o+i*2,none⟩).getD (.int .i64 0),(tmAt ts i).2),by simp,fun _=>⟨b,o,rfl,hb,fun j u hj=>?_⟩,fun i x t hx ht=>?_⟩
  ·have hjl:=(List.getElem?_eq_some_iff.1 hj).1
   rw [cellsT_length] at hjl
   simp at hjl
   have hi:j / 2<ts.length:=by omega
   have hx:((List.range ts.length).map fun i=>((w.cell? ⟨b,o+i*2,none⟩).getD (.int .i64 0),(tmAt ts i).2))[j / 2]? = some ((w.cell? ⟨b,o+j / 2*2,none⟩).getD (.int .i64 0),(tmAt ts (j / 2)).2):=by
    rw [List.getElem?_map,List.getElem?_range hi];rfl
   obtain ⟨g1,g2⟩:=cellsT_get hx
   obtain ⟨Ai,cap,c1,c2,_,_⟩:=hc (j / 2) _ (tm_get hi)
   rcases Nat.mod_two_eq_zero_or_one j with e | e
   ·rw [show j=j / 2*2 by omega] at hj
    rw [g1] at hj
    injection hj with hj
    rw [c1] at hj
    rw [←hj,show o+j=o+j / 2*2 by omega,c1];rfl
   ·rw [show j=j / 2*2+1 by omega] at hj
    rw [g2] at hj
    injection hj with hj
    rw [←hj,show o+j=o+j / 2*2+1 by omega,c2]
  ·obtain ⟨hi,rfl⟩:=hu i x hx
   obtain ⟨Ai,cap,c1,c2,c3,_⟩:=hc i t ht
   have e:t=tmAt ts i:=by rw [tm_get hi] at ht;injection ht with ht;exact ht.symm
   exact ⟨by rw [e],Ai,cap,by rw [c1];rfl,c3⟩
 ·obtain rfl:ts=[]:=List.length_eq_zero_iff.1 (by omega)
  exact ⟨[],rfl,fun h=>absurd h h0,fun i x t hx _=>by simp at hx⟩
theorem TmC.one {w:World} {A:Option Addr} {ts:List Term'} {us:List (Value×Int)} (h:TmC w A ts us):∀ u∈cellsT us,u.oneCell'=true:=cellsT_one fun x hx=>by
 obtain ⟨i,hi,rfl⟩:=List.getElem_of_mem hx
 obtain ⟨_,Ai,cap,e,_⟩:=h.row i _ (ts[i]'(by rw [←h.len];exact hi)) (List.getElem?_eq_getElem hi) (List.getElem?_eq_getElem _)
 rw [e];rfl
theorem TmC.below {w w':World} {A:Option Addr} {ts:List Term'} {us:List (Value×Int)} (h:TmC w A ts us) (hb:Below w.heap.size w w'):TmC w' A ts us:=
 ⟨h.len,fun h0=>by
  obtain ⟨b,o,e,hl,hc⟩:=h.cells h0
  exact ⟨b,o,e,Nat.lt_of_lt_of_le hl hb.size,fun j u hj=>(hb.cell (p:=⟨b,_,none⟩) hl).trans (hc j u hj)⟩,
 fun i x t hx ht=>by
  obtain ⟨h1,Ai,cap,h2,h3⟩:=h.row i x t hx ht
  exact ⟨h1,Ai,cap,h2,h3.below hb⟩⟩
theorem growT_any (n:Nat) (w:World) (hn:n≤1000000) :
  Calls Tryz.prog 253 #[.slice none 0 0,.int .i64 n] w fun e w'=>∃ A c,e=.returned (.slice A 0 c)∧w'.ownsRow w.heap.size 173 2 (.slice A 0 c) 0 []∧Below w.heap.size w w':=by
 obtain ⟨i0,hi,hz0,hz1,hz2⟩:=info_parts Tryz.infoT
 by_cases h0:0<n
 ·have hhold:(Builtin.firstCells i0.size 0 (.slice none 0 0)).run Tryz.prog w.drew=.ok ([]:List Value).toArray w.drew:=run_firstCells_none w.drew i0.size 0 0 0
  have hrz:Hid (∀ ty,(Builtin.append_ #[84,3] ty #[.slice none 0 0,.int .i64 (n:Int)]).run Tryz.prog w=_):=fun ty=>Lib.run_append_grow_zeros w 84 3 ty 173 i0 (tmV none 0 0 0) .i64 .i64 Tryz.underlying84 Tryz.underlying3 hi hz0 none 0 0 [] hhold n h0 (by rw [hz1];omega) (by omega) (by omega) (by rw [hz2];omega) (growslice_fits (by omega) (by rw [hz2];omega))
  have hG1:0+n≤grownCap w (0+n) 0 173:=grownCap_ge w _ _ _
  have hG2:=grownCap_le_maxLen w (0+n) 0 173 (by unfold maxLen;omega)
  obtain ⟨G,hG⟩:∃ G,G=grownCap w (0+n) 0 173:=⟨_,rfl⟩
  rw [←hG] at hrz hG1 hG2
  have hGz:G≤9223372036854775807:=by unfold maxLen at hG2;omega
  obtain ⟨W2,hW2⟩:∃ W2,W2=w.drew.alloc (.cells (([]:List Value).toArray++Builtin.zeroCells (tmV none 0 0 0).cells n++Builtin.zeroCells (tmV none 0 0 0).cells (G - (0+n))) 173):=⟨_,rfl⟩
  rw [←hW2] at hrz
  have HP:Hid (W2.ownsRow w.heap.size 173 2 (.slice (some ⟨w.heap.size,0,none⟩) 0 G) 0 []∧Below w.heap.size w W2):=by
   show _∧_
   rw [hW2]
   refine ⟨⟨rfl,.inr ⟨w.heap.size,G,_,rfl,Nat.le_refl _,by have:=heap_alloc_new w.drew (.cells (([]:List Value).toArray++Builtin.zeroCells (tmV none 0 0 0).cells n++Builtin.zeroCells (tmV none 0 0 0).cells (G - (0+n))) 173);simpa using this,by omega,hG2, ?_,by simp⟩⟩,by go_grown⟩
   simp only [Array.size_append,size_zeroCells]
   have hz:(tmV none 0 0 0).cells.size=2:=rfl
   rw [hz];omega
  have h1:¬ ((n:Int)<0):=by omega
  have h2:(0:Int)<(n:Int):=by omega
  clear hW2 hG hhold hG2
  go_enter Tryz.func253,Tryz.ntmps253
  go_wp2_with (at_builtin;refine Lib.wpList_append_run _ rfl _ _ _ _ rfl _ _ rfl rfl _ _ (hrz.out _) ?_)
  all_goals (go_ret;exact ⟨_,_,rfl,HP.out.1,HP.out.2⟩)
 ·obtain rfl:n=0:=by omega
  go_enter Tryz.func253,Tryz.ntmps253
  go_wp2
  go_ret
  exact ⟨none,0,rfl,⟨rfl,.inl ⟨rfl,rfl⟩⟩,Below.refl _ _⟩
theorem wpList_append_tm {w w0:World} {ops:Array Oper} {rest:List Oper} {o:Oper} {a:Act} {Q:Exit→Act→World→Prop} (hgd:o.guard=none) (s x:Operand)
  (ho:o.op=.call { callee:=.builtin .append,args:=#[s,x],argTypes:=#[84,84] }) (B m:Nat) (Av:Option Addr) (cp:Nat) (xs:List Value) (hs:a.eval s=.slice Av m cp)
  (hown:w.ownsRow B 173 2 (.slice Av m cp) m xs) (A:Option Addr) (cap:Nat) (ts:List Term') (us:List (Value×Int)) (hx:a.eval x=.slice A ts.length cap) (hC:TmC w A ts us)
  (hm:m≤1000000) (ht:ts.length≤1000000) (hB:B≤w.heap.size) (hb:Below B w0 w)
  (h:∀ A' c' w',w'.ownsRow B 173 2 (.slice A' (m+ts.length) c') (m+ts.length) (xs++cellsT us)→Below B w0 w'→w.heap.size≤w'.heap.size→wpList Tryz.prog ops Q rest (a.put o.dst (.slice A' (m+ts.length) c')) w') :
  wpList Tryz.prog ops Q (o :: rest) a w:=by
 obtain ⟨i0,hi,hz0,hz1,hz2⟩:=info_parts Tryz.infoT
 by_cases h0:0<ts.length
 ·obtain ⟨b,of,rfl,hl,hc⟩:=hC.cells h0
  refine wpList_append_own w hgd s x 84 ho B 173 i0 (tmV none 0 0 0) 2 32 Tryz.underlying84 hi hz0 hz1 hz2 rfl (by decide) _ m xs hs hown ⟨b,of,none⟩ ts.length cap (cellsT us) hx (by rw [cellsT_length,hC.len]) (fun j u hj=>by rw [addr_add];exact hc j u hj) hC.one (by unfold maxLen;omega) (by omega) hB ?_
  intro v' w' h1 h2 h3
  have h4:Below B w0 w':=hb.grown h2 hB (fun q hq=>(World.ownsRow.lt hown q hq).1)
  rcases h1.2 with ⟨_,hz⟩ | ⟨g,cap',cur,hv,_⟩
  ·omega
  ·subst hv
   exact h _ _ _ h1 h4 h2.size
 ·obtain rfl:ts=[]:=List.length_eq_zero_iff.1 (by omega)
  have hus:us=[]:=List.length_eq_zero_iff.1 (by rw [hC.len];rfl)
  subst hus
  have hle:m≤cp:=by
   rcases hown.2 with ⟨hv,hz⟩ | ⟨g,cap',cur,hv,_,_,hle,_⟩
   ·omega
   ·injection hv with _ _ e;rw [e];exact hle
  have hS:Src Tryz.prog i0.size 84 (.slice A 0 cap) 0 [] w:=by
   cases A with
   | none=>exact Src.ofNil w Tryz.underlying84 cap
   | some a=>exact Src.ofSlice w Tryz.underlying84 a 0 cap [] (by simp) (by simp) (by simp)
  exact wpList_append_zero hgd s x 84 ho 173 i0 Tryz.underlying84 hi _ m cp hle hs _ hx hS (h Av cp w (by simpa [cellsT] using hown) hb (Nat.le_refl _))
def ConcatPost (n:Nat) (ts:List Term') (w:World) (e:Ending) (w':World):Prop:=
 ∃ A c,e=.returned (.slice A ts.length c)∧RowO w' w'.heap.size A n ts∧Below w.heap.size w w'∧∀ q,InB ts.length A q→w.heap.size≤q
theorem concat_post {w w':World} {A A1 A2:Option Addr} {c n:Nat} {ts us:List Term'} {xs ys:List (Value×Int)} (h1:TmC w A1 ts xs) (h2:TmC w A2 us ys) (n1:LenT n ts) (n2:LenT n us)
  (hown:w'.ownsRow w.heap.size 173 2 (.slice A (ts++us).length c) (ts++us).length (cellsT xs++cellsT ys)) (hb:Below w.heap.size w w'):ConcatPost n (ts++us) w (.returned (.slice A (ts++us).length c)) w':=by
 refine ⟨A,c,rfl,fun h0=>?_,hb,fun q hq=>?_⟩
 ·obtain ⟨g,c',hv,hg1,hg2⟩:=World.ownsRow.form hown h0
  have hA:A=some ⟨g,0,none⟩:=by injection hv
  subst hA
  refine ⟨g,rfl,hg2,fun i t ht=>?_⟩
  have hi:i<(ts++us).length:=(List.getElem?_eq_some_iff.1 ht).1
  have hlen:(xs++ys).length=(ts++us).length:=by simp [h1.len,h2.len]
  obtain ⟨x,hx⟩:∃ x,(xs++ys)[i]? = some x:=⟨_,List.getElem?_eq_getElem (by omega)⟩
  have hcg:=cellsT_get (l:=xs++ys) (i:=i) (u:=x.1) (c:=x.2) hx
  rw [cellsT_append] at hcg
  have hr:x.2=t.2∧(∃ Ai cap,x.1=.slice Ai t.1.length cap∧Ints w Ai t.1)∧t.1.length=n:=by
   by_cases hi1:i<ts.length
   ·rw [List.getElem?_append_left hi1] at ht
    rw [List.getElem?_append_left (by rw [h1.len];exact hi1)] at hx
    obtain ⟨e1,e2⟩:=h1.row i x t hx ht
    exact ⟨e1,e2,n1 t (List.mem_of_getElem? ht)⟩
   ·rw [List.getElem?_append_right (by omega)] at ht
    rw [List.getElem?_append_right (by rw [h1.len];omega),h1.len] at hx
    obtain ⟨e1,e2⟩:=h2.row _ x t hx ht
    exact ⟨e1,e2,n2 t (List.mem_of_getElem? ht)⟩
  obtain ⟨e1,⟨Ai,cap,e2,e3⟩,e4⟩:=hr
  have c0:=(World.ownsRow.cellAt hown (i*2) (by omega)).trans hcg.1
  have c1:=(World.ownsRow.cellAt hown (i*2+1) (by omega)).trans hcg.2
  rw [e2] at c0
  rw [e1] at c1
  refine ⟨Ai,cap,by rw [Nat.zero_add];exact c0,by rw [Nat.zero_add];exact c1,World.ownsRow.frozenAt hown _,World.ownsRow.frozenAt hown _,e3.below hb,fun q hq=>?_,e4⟩
  obtain ⟨hq0,oq,e⟩:=hq
  obtain ⟨b',o',e',hb',_⟩:=e3 hq0
  have e5:Ai=some ⟨q,oq,none⟩:=e
  rw [e'] at e5
  injection e5 with e5
  have:b'=q:=congrArg Addr.block e5
  omega
 ·obtain ⟨h0,oq,e⟩:=hq
  exact (World.ownsRow.lt hown q (by rw [e];rfl)).1
theorem concatT_any (b o:Nat) (A1 A2:Option Addr) (c1 c2 n:Nat) (ts us:List Term') (w:World) (h0:w.cell? ⟨b,o,none⟩=some (.slice A1 ts.length c1)) (h1:w.cell? ⟨b,o+1,none⟩=some (.slice A2 us.length c2))
  (hT:TmsAt w A1 ts) (hU:TmsAt w A2 us) (ht:ts.length≤1000) (hu:us.length≤1000) (nT:LenT n ts) (nU:LenT n us) :
  Calls Tryz.prog 209 #[.slice (some ⟨b,o,none⟩) 2 2] w (ConcatPost n (ts++us) w):=by
 obtain ⟨xs,hX⟩:=hT.cellsC
 obtain ⟨ys,hY⟩:=hU.cellsC
 have HX:=hid hX
 have HY:=hid hY
 have HP:Hid (∀ A c w',w'.ownsRow w.heap.size 173 2 (.slice A (ts++us).length c) (ts++us).length (cellsT xs++cellsT ys)→Below w.heap.size w w'→ConcatPost n (ts++us) w (.returned (.slice A (ts++us).length c)) w'):=fun A c w' h1 h2=>concat_post hX hY nT nU h1 h2
 have HG:=hid (growT_any (ts.length+us.length) w (by omega))
 have HZ:Hid (w.cell? ⟨b,o,none⟩=some (.slice A1 ts.length c1)∧w.cell? ⟨b,o+1,none⟩=some (.slice A2 us.length c2)):=⟨h0,h1⟩
 have HL:Hid ((ts++us).length=ts.length+us.length):=List.length_append
 obtain ⟨N,hN⟩:∃ N,N=ts.length+us.length:=⟨_,rfl⟩
 have hNz:(N:Int)=(ts.length:Int)+(us.length:Int):=by omega
 rw [←hN] at HG HL
 have HN:=hid hN
 have HNz:=hid hNz
 have w1:IntKind.i64.wrap ((0:Int)+(ts.length:Int))=(ts.length:Int):=by rw [IntKind.wrap_i64];omega
 have w2:IntKind.i64.wrap ((ts.length:Int)+(us.length:Int))=(N:Int):=by rw [IntKind.wrap_i64];omega
 have n1:¬ ((ts.length:Int)<0):=by omega
 have n2:¬ ((N:Int)<0):=by omega
 clear hX hY hT hU nT nU hN hNz
 go_enter Tryz.func209,Tryz.ntmps209
 go_wp2
 go_loopg [3,11] 3 (fun kx s3 s11 wr=>w=wr∧((s3=.int .i64 0∧s11=.int .i64 0∧2<kx)∨(s3=.int .i64 (ts.length:Int)∧s11=.int .i64 1∧1<kx)∨(s3=.int .i64 (N:Int)∧s11=.int .i64 2∧0<kx)))
 case atStart=>exact ⟨rfl,.inl ⟨rfl,rfl,by omega⟩⟩
 case round=>
  obtain ⟨rfl,⟨rfl,rfl,hk⟩ | ⟨rfl,rfl,hk⟩ | ⟨rfl,rfl,hk⟩⟩:=hrel
  ·go_wp2
   go_roundg 2
   case measure=>omega
   case rel=>exact ⟨rfl,.inr (.inl ⟨by first | rfl | go_num,by first | rfl | go_num,by omega⟩)⟩
  ·go_wp2
   go_roundg 1
   case measure=>omega
   case rel=>exact ⟨rfl,.inr (.inr ⟨by first | rfl | go_num,by first | rfl | go_num,by omega⟩)⟩
  ·go_wp2_with fail
   refine HG.out.mono ?_
   rintro e w3 ⟨Ag,cg,rfl,hown,hb3⟩
   have HO:=hid hown
   have HB:=hid hb3
   clear hown hb3
   go_wp2
   go_loopg [6,27] 3 (fun kx s6 s27 wr=>∃ (k m:Nat) (A:Option Addr) (c:Nat) (cs:List Value),s6=.slice A m c∧s27=.int .i64 (k:Int)∧2 - k<kx∧Hid (wr.ownsRow w.heap.size 173 2 (.slice A m c) m cs)∧Hid (Below w.heap.size w wr)∧Hid ((k=0∧m=0∧cs=[])∨(k=1∧m=ts.length∧cs=cellsT xs)∨(k=2∧N=m∧cs=cellsT xs++cellsT ys)))
   case atStart=>exact ⟨0,0,Ag,cg,[],rfl,by first | rfl | go_num,by omega,HO,HB,by show _∨_;exact .inl ⟨rfl,rfl,rfl⟩⟩
   case round=>
    clear HO HB
    obtain ⟨k,m,A,c,cs,rfl,rfl,hkx,HO,HB,HK⟩:=hrel
    rcases HK.out with ⟨rfl,rfl,rfl⟩ | ⟨rfl,rfl,rfl⟩ | ⟨rfl,rfl,rfl⟩
    ·have HC:=hid (HX.out.below HB.out)
     have q0:=keepC HZ.out.1 HB.out
     go_wp2_with (at_builtin;refine wpList_append_tm (w0:=w) rfl _ _ rfl w.heap.size 0 A c [] rfl HO.out A1 c1 ts xs rfl HC.out (by omega) (by omega) HB.out.size HB.out ?_)
     intro A' c' w' hown hb _
     have HO2:Hid (w'.ownsRow w.heap.size 173 2 (.slice A' ts.length c') ts.length (cellsT xs)):=hown
     have HB2:=hid hb
     have hz:0+ts.length=ts.length:=by omega
     clear hown hb
     go_wp2
     go_roundg 2
     case measure=>omega
     case rel=>exact ⟨1,ts.length,A',c',_,by first | rfl | (simp),by first | rfl | go_num,by omega,HO2,HB2,by show _∨_;exact .inr (.inl ⟨rfl,rfl,rfl⟩)⟩
    ·have HC:=hid (HY.out.below HB.out)
     have q1:=keepC HZ.out.2 HB.out
     go_wp2_with (at_builtin;refine wpList_append_tm (w0:=w) rfl _ _ rfl w.heap.size ts.length A c (cellsT xs) rfl HO.out A2 c2 us ys rfl HC.out (by omega) (by omega) HB.out.size HB.out ?_)
     intro A' c' w' hown hb _
     have hz:=HN.out.symm
     rw [hz] at hown
     have HO2:=hid hown
     have HB2:=hid hb
     clear hown hb
     rw [hz]
     clear hz
     go_wp2
     go_roundg 1
     case measure=>omega
     case rel=>exact ⟨2,N,A',c',_,by first | rfl | (simp),by first | rfl | go_num,by omega,HO2,HB2,by show _∨_;exact .inr (.inr ⟨rfl,rfl,rfl⟩)⟩
    ·have HE:Hid (ConcatPost n (ts++us) w (.returned (.slice A N c)) wr):=by
      have h:=HO.out
      rw [←HL.out] at h
      have:=HP.out A c wr h HB.out
      rw [HL.out] at this
      exact this
     go_wp2
     go_ret
     exact HE.out
end
section
open Go.RowKit Plain
theorem PolyR.of {u:Int} {R:List Term'} {A:Option Addr} {cp lo:Nat} {w w1:World} (hb:Below w.heap.size w w1) (h:RT w1 lo w1.heap.size A R) (hlo:w.heap.size+2<lo) (x y:Value) :
  PolyR u R w (.returned (poV u A R.length cp)) ((w1.setCell ⟨w.heap.size+2,0,none⟩ x).setCell ⟨w.heap.size+2,1,none⟩ y):=by
 have hO2:Only (fun q=>q=w.heap.size+2) w1 ((w1.setCell ⟨w.heap.size+2,0,none⟩ x).setCell ⟨w.heap.size+2,1,none⟩ y):=
  ⟨rfl,rfl,rfl,by simp [World.setCell],fun q _ hq=>(Below.heap_setCell _ _ _ _ hq).trans (Below.heap_setCell _ _ _ _ hq)⟩
 have h2:=h.only hO2 (fun q hq _ e=>by have e':q=w.heap.size+2:=e;omega)
 have hs:((w1.setCell ⟨w.heap.size+2,0,none⟩ x).setCell ⟨w.heap.size+2,1,none⟩ y).heap.size=w1.heap.size:=by simp [World.setCell]
 exact ⟨A,cp,rfl,RT.lowerR h2 (by omega) (by rw [hs];exact Nat.le_refl _),(hb.setCell (p:=⟨w.heap.size+2,0,none⟩) (by simp) _).setCell (p:=⟨w.heap.size+2,1,none⟩) (by simp) _⟩
theorem polyPlus_any (u v:Int) (A1 A2:Option Addr) (c1 c2 n:Nat) (ts us:List Term') (w:World) (hT:TmsAt w A1 ts) (hU:TmsAt w A2 us) (ht:ts.length≤1000) (hu:us.length≤1000) (nT:LenT n ts) (nU:LenT n us) (hn:n≤1000) :
  Calls Tryz.prog 133 #[poV u A1 ts.length c1,poV v A2 us.length c2] w (PolyR u (nfT (ts++us)) w):=by
 obtain ⟨W0,hW0⟩:∃ W0,W0=((w.alloc (.cells #[.int .i64 u,.slice A1 ts.length c1] 86)).alloc (.cells #[.int .i64 v,.slice A2 us.length c2] 86)).alloc (.cells #[.int .i64 0,.slice none 0 0] 86):=⟨_,rfl⟩
 have HB0:Hid (Below w.heap.size w W0):=by show Below _ _ _;rw [hW0];go_grown
 have HS0:Hid (W0.heap.size=w.heap.size+3):=by show _=_;rw [hW0];simp
 have HQ1:Hid (Cells W0 w.heap.size 86 [.int .i64 u,.slice A1 ts.length c1]):=by
  show Cells _ _ _ _
  rw [hW0];exact (Cells.new w 86 [.int .i64 u,.slice A1 ts.length c1]).next (by go_grown)
 have HQ2:Hid (Cells W0 (w.heap.size+1) 86 [.int .i64 v,.slice A2 us.length c2]):=by
  show Cells _ _ _ _
  rw [hW0]
  have:=(Cells.new (w.alloc (.cells #[.int .i64 u,.slice A1 ts.length c1] 86)) 86 [.int .i64 v,.slice A2 us.length c2]).next (w':=((w.alloc (.cells #[.int .i64 u,.slice A1 ts.length c1] 86)).alloc (.cells #[.int .i64 v,.slice A2 us.length c2] 86)).alloc (.cells #[.int .i64 0,.slice none 0 0] 86)) (by go_grown)
  simpa using this
 have HQ3:Hid (Cells W0 (w.heap.size+2) 86 [.int .i64 0,.slice none 0 0]):=by
  show Cells _ _ _ _
  rw [hW0]
  have:=Cells.new ((w.alloc (.cells #[.int .i64 u,.slice A1 ts.length c1] 86)).alloc (.cells #[.int .i64 v,.slice A2 us.length c2] 86)) 86 [.int .i64 0,.slice none 0 0]
  simpa using this
 obtain ⟨L,hL⟩:∃ L,L=ts++us:=⟨_,rfl⟩
 have hLl:L.length≤2000:=by rw [hL,List.length_append];omega
 have hbc:Below W0.heap.size W0 (W0.alloc (.cells #[.slice A1 ts.length c1,.slice A2 us.length c2] 84)).drew:=by go_grown
 have HCC:Hid (Calls Tryz.prog 209 #[.slice (some ⟨W0.heap.size,0,none⟩) 2 2] (W0.alloc (.cells #[.slice A1 ts.length c1,.slice A2 us.length c2] 84)).drew fun e w'=>∃ A c,e=.returned (.slice A L.length c)∧RowO w' w'.heap.size A n L∧Below W0.heap.size W0 w'∧∀ q,InB L.length A q→W0.heap.size≤q):=by
  have hb':Below w.heap.size w (W0.alloc (.cells #[.slice A1 ts.length c1,.slice A2 us.length c2] 84)).drew:=HB0.out.trans (hbc.mono HB0.out.size)
  have hc:=Cells.new W0 84 [.slice A1 ts.length c1,.slice A2 us.length c2]
  refine (concatT_any W0.heap.size 0 A1 A2 c1 c2 n ts us _ (by have:=hc.cell 0;exact this) (by have:=hc.cell 1;exact this) (hT.below hb') (hU.below hb') ht hu nT nU).mono ?_
  rintro e w' ⟨A,c,rfl,h2,h3,h4⟩
  rw [←hL] at h2 h4 ⊢
  exact ⟨A,c,rfl,h2,hbc.trans (h3.mono hbc.size),fun q hq=>Nat.le_trans hbc.size (h4 q hq)⟩
 have HGA:Hid (∀ A c wx,RowO wx wx.heap.size A n L→Calls Tryz.prog 111 #[.int .i64 u,.slice A L.length c] wx (GathPost u A n L wx)):=fun A c wx h=>gathered_any u A c n L wx (by omega) (by omega) h
 rw [←hL]
 have p1:W0.cell? ⟨w.heap.size,0,none⟩=some (.int .i64 u):=by rw [HQ1.out.cell];rfl
 have p2:W0.cell? ⟨w.heap.size,1,none⟩=some (.slice A1 ts.length c1):=by rw [HQ1.out.cell];rfl
 have p3:W0.cell? ⟨w.heap.size+1,1,none⟩=some (.slice A2 us.length c2):=by rw [HQ2.out.cell];rfl
 have hz0:=HS0.out
 have p1':(W0.alloc (.cells #[.slice A1 ts.length c1,.slice A2 us.length c2] 84)).cell? ⟨w.heap.size,0,none⟩=some (.int .i64 u):=keepC p1 (by go_grown)
 have HW0:=hid hW0
 have HNF:Hid (∀ R,Canon R→(∀ e,cof R e=cof L e)→R=nfT L):=fun R h1 h2=>nfT_eq h1 h2
 clear hT hU nT nU hL hW0 hz0 hbc
 go_enter Tryz.func133,Tryz.ntmps133
 go_wp2_with fail
 rw [←HW0.out]
 go_region_law (first
  | (go_simp;go_at_call 209;refine HCC.out.mono ?_;rintro e w4 ⟨A4,c4,rfl,hR4,hb4,hq4⟩;have y1:=keepC p1 hb4;have HG4:=hid (HGA.out A4 c4 w4 hR4);have HB4:=hid hb4;have HQ4:=hid hq4;clear hR4 hb4 hq4)
  | (go_simp;go_at_call 111;refine HG4.out.mono ?_;rintro e w5 ⟨A5,c5,R,rfl,hRT,hcan,hcof,_,_,hO⟩;have hblk:w5.heap[w.heap.size+2]? = w4.heap[w.heap.size+2]?:=(hO.block _ (by have:=HB4.out.size;have:=HS0.out;omega) (fun h=>by have:=HQ4.out _ h;have:=HS0.out;omega));have hr:Cells w5 (w.heap.size+2) 86 [.int .i64 0,.slice none 0 0]:=hblk.trans (HQ3.out.next HB4.out);
       have y3:w5.cell? ⟨w.heap.size+2,0,none⟩=some (.int .i64 0):=(by rw [hr.cell];rfl);have y4:w5.cell? ⟨w.heap.size+2,1,none⟩=some (.slice none 0 0):=(by rw [hr.cell];rfl);have f3:w5.frozen? ⟨w.heap.size+2,0,none⟩=false:=hr.frozen _;have f4:w5.frozen? ⟨w.heap.size+2,1,none⟩=false:=hr.frozen _;have HRR:=hid (HNF.out R hcan hcof);have HRT:=hid hRT;have HO:=hid hO;have HR:=hid hr;clear hRT hcan hcof hO hblk hr))
 all_goals
  have hr:=HR.out
  have hD1:=hr.set_ 0 (.int .i64 u)
  have hD2:=hD1.set_ 1 (.slice A5 R.length c5)
  have z0:=hD1.cell 0
  have z1:=hD2.cell 1
  simp only [List.set_cons_zero,List.set_cons_succ,List.getElem?_cons_zero,List.getElem?_cons_succ] at z0 z1
  clear hr hD1 hD2
  have HE:Hid (PolyR u (nfT L) w (.returned (poV u A5 R.length c5)) ((w5.setCell ⟨w.heap.size+2,0,none⟩ (.int .i64 u)).setCell ⟨w.heap.size+2,1,none⟩ (.slice A5 R.length c5))):=by
   show PolyR _ _ _ _ _
   rw [←HRR.out]
   have hs:=HS0.out
   have hs4:=HB4.out.size
   have hb4:Below w.heap.size w w4:=HB0.out.trans (HB4.out.mono HB0.out.size)
   exact PolyR.of (hb4.trans (HO.out.below (by omega) (fun q hq=>by have:=HQ4.out q hq;omega))) HRT.out (by omega) _ _
  go_wp2
  refine bodyPost_ret (v:=poV u A5 R.length c5) (by simp [results,Tryz.results133,go_sem,z0,z1]) rfl ?_
  exact HE.out
end
section
open Go
theorem cell_al {w:World} {a:Addr} {v:Value} {o:Obj} (h:w.cell? a=some v):(w.alloc o).cell? a=some v:=(World.cell?_alloc_some w a o (by rw [h];rfl)).trans h
section
variable {P:Program} {ops:Array Oper} {Q:Exit→Act→World→Prop} {md:Region.Mode} {S:World→Prop} {n:Nat}
def wpAnyE (P:Program) (md:Region.Mode) (ops:Array Oper) (Q:Exit→Act→World→Prop) (S:World→Prop) (n:Nat):Nat→Array Bool→Act→World→Prop
 | 0,listed,a,w=>Region.ready md ops listed=[]∧Q .normal a w
 | fuel+1,listed,a,w=>
  (Region.ready md ops listed=[]→Q .normal a w) ∧
  ∀ i∈Region.ready md ops listed,wpOp P ops Q i (fun a' w'=>(i=n∨S w')∧wpAnyE P md ops Q S n fuel (listed.setIfInBounds i true) a' w') a w
theorem wpAny_of_E:∀ (fuel:Nat) (listed:Array Bool) (a:Act) (w:World),wpAnyE P md ops Q S n fuel listed a w→wpAny P md ops Q fuel listed a w
 | 0,_,_,_,h=>h
 | fuel+1,_,_,_,h=>⟨h.1,fun i hi=>wpOp_mono (fun a' w' h'=>wpAny_of_E fuel _ a' w' h'.2) (h.2 i hi)⟩
theorem wpAnyE_first {i:Nat} {oi:Oper} {v:Value} (hi:ops[i]? = some oi) (hsel:∀ (j:Nat) (o:Oper) cs b,ops[j]? = some o→o.op≠.select cs b)
  (hQ:∀ c a w,Q (.panic c) (a.put oi.dst v) w→Q (.panic c) a w) (hs:Region.sinkB md ops n=true) (hc:Region.chainB md ops n=true) (hn:n<ops.size) (hin:i<n) :
  ∀ (fuel:Nat) (listed:Array Bool) (a:Act) (w:World),HeadInv md ops n listed →
   (∀ j oj,ops[j]? = some oj→j≠i→listed.getD j true=false→(∀ e∈oj.after,Region.binds md e=true→e.on≠i)→oi.apart ops oj=true) →
   i∈Region.ready md ops listed→YieldsIf P ops S oi v a→S w →
   wpAnyE P md ops Q S n fuel (listed.setIfInBounds i true) (a.put oi.dst v) w→wpAnyE P md ops Q S n (fuel+1) listed a w:=by
 intro fuel
 induction fuel with
 | zero=>
  intro listed a w inv _ hr hy hS H
  refine ⟨fun h=>(by rw [h] at hr;cases hr),fun j hj=>?_⟩
  by_cases hji:j=i
  ·subst hji;exact hy.wpOp hi hS ⟨.inr hS,H⟩
  ·have:=ready_mono hj hji
   rw [H.1] at this
   cases this
 | succ fuel ih=>
  intro listed a w inv hfree hr hy hS H
  have hun:=(mem_ready.1 hr).1
  refine ⟨fun h=>(by rw [h] at hr;cases hr),fun j hj=>?_⟩
  by_cases hji:j=i
  ·subst hji;exact hy.wpOp hi hS ⟨.inr hS,H⟩
  ·have hjn:j<n:=by
    rcases Nat.lt_or_ge j n with h | h
    ·exact h
    ·exact absurd hj (tail_waits hs hc hn inv _ i rfl hin hun j h)
   have h1:=H.2 j (ready_mono hj hji)
   obtain ⟨hjun,oj,hoj,hall⟩:=mem_ready.1 hj
   have hnot:∀ e∈oj.after,Region.binds md e=true→e.on≠i:=fun e he hb heq=>by
    have h1:=hall e he hb
    rw [heq,getD_both hun] at h1
    cases h1
   have h2:=wpOp_putIf hoj (hfree j oj hoj hji hjun hnot) (fun cs b=>hsel i oi cs b hi) (fun cs b=>hsel j oj cs b hoj) hQ hy h1
   have hfree':∀ k ok,ops[k]? = some ok→k≠i→(listed.setIfInBounds j true).getD k true=false →
     (∀ e∈ok.after,Region.binds md e=true→e.on≠i)→oi.apart ops ok=true:=fun k ok hk hki hun hno=>by
    refine hfree k ok hk hki ?_ hno
    by_cases hjk:j=k
    ·subst hjk;exact hjun
    ·rw [getD_set_ne true hjk] at hun;exact hun
   refine wpOp_mono (fun a' w' h3=>?_) h2
   have hS':S w':=h3.2.1.resolve_left (by omega)
   refine ⟨.inr hS',ih (listed.setIfInBounds j true) a' w' (inv.set hj hjn) hfree' (ready_mono hr (Ne.symm hji)) h3.1 hS' ?_⟩
   rw [Array.setIfInBounds_comm _ _ hji]
   exact h3.2.2
def RegE (P:Program) (ops:Array Oper) (Q:Exit→Act→World→Prop) (S:World→Prop) (n:Nat) (fuel:Nat) (listed:Array Bool) (a:Act) (w:World):Prop:=
 HeadInv .any ops n listed→wpAnyE P .any ops Q S n fuel listed a w
def sinkOk (ops:Array Oper) (n:Nat):Bool:=Region.noSelect ops&&decide (n+1=ops.size)&&Region.sinkB .any ops n&&Region.chainB .any ops n
theorem RegE.start {id:Nat} {a:Act} {w:World} (n:Nat) (hm:P.follows .mixedOrders=true) (hB:sinkOk ops n=true) (hS:S w.drew) (h:S w.drew→sinkOk ops n=true→RegE P ops Q S n ops.size (Array.replicate ops.size false) a w.drew) :
  (Code.region id ops true).wp P Q a w:=by
 have hB':=hB
 simp only [sinkOk,Bool.and_eq_true,decide_eq_true_eq] at hB
 have inv0:HeadInv .any ops n (Array.replicate ops.size false):=
  ⟨by simp,fun j oj _ hl=>(by rw [getD_replicate_false] at hl;cases hl),fun t _ ht=>getD_in (by simpa using ht) (getD_replicate_false _ _)⟩
 exact wp_region_any hm (wpAny_of_E _ _ _ _ (h hS hB' inv0))
theorem RegE.take {i:Nat} {oi:Oper} {v:Value} {fuel:Nat} {listed:Array Bool} {a:Act} {w:World} (hB:sinkOk ops n=true) (hi:ops[i]? = some oi) (hin:i<n)
  (hf:Region.free .any ops listed i=true) (hr:(Region.ready .any ops listed).contains i=true)
  (hQ:∀ c a w,Q (.panic c) (a.put oi.dst v) w→Q (.panic c) a w) (hy:YieldsIf P ops S oi v a) (hS:S w)
  (h:RegE P ops Q S n fuel (listed.setIfInBounds i true) (a.put oi.dst v) w):RegE P ops Q S n (fuel+1) listed a w:=fun inv=>by
 simp only [sinkOk,Bool.and_eq_true,decide_eq_true_eq] at hB
 have hr':i∈Region.ready .any ops listed:=by simpa using hr
 exact wpAnyE_first hi (Region.noSelect_spec hB.1.1.1) hQ hB.1.2 hB.2 (by omega) hin fuel listed a w inv (Region.free_spec hi hf) hr' hy hS (h (inv.set hr' hin))
theorem RegE.step {i:Nat} {oi:Oper} {fuel:Nat} {listed:Array Bool} {a:Act} {w:World} (hi:ops[i]? = some oi) (hin:i<n) (hr:Region.ready .any ops listed=[i])
  (h:∀ K':Act→World→Prop,Shut (∀ a w,S w→(S w→RegE P ops Q S n fuel (listed.setIfInBounds i true) a w)→K' a w)→if Region.wanted oi (yielded ops a.tmps)=true then Oper.wp P oi a w K' Q else K' (a.put oi.dst undef) w) :
  RegE P ops Q S n (fuel+1) listed a w:=fun inv=>by
 have hi':i∈Region.ready .any ops listed:=by rw [hr];simp
 refine ⟨fun h0=>(by rw [hr] at h0;cases h0),fun j hj=>?_⟩
 rw [hr] at hj
 have hji:j=i:=by simpa using hj
 subst hji
 exact wpOp_step hi (fun K' hK=>h K' (fun a w hS hW=>hK a w ⟨.inr hS,hW hS (inv.set hi' hin)⟩))
theorem RegE.last {oi:Oper} {fuel:Nat} {listed:Array Bool} {a:Act} {w:World} (hi:ops[n]? = some oi) (hr:Region.ready .any ops listed=[n]) (hd:Region.ready .any ops (listed.setIfInBounds n true)=[])
  (h:∀ K':Act→World→Prop,Shut (∀ a w,Q .normal a w→K' a w)→if Region.wanted oi (yielded ops a.tmps)=true then Oper.wp P oi a w K' Q else K' (a.put oi.dst undef) w) :
  RegE P ops Q S n (fuel+1) listed a w:=fun _=>by
 refine ⟨fun h0=>(by rw [hr] at h0;cases h0),fun j hj=>?_⟩
 rw [hr] at hj
 have hji:j=n:=by simpa using hj
 subst hji
 refine wpOp_step hi (fun K' hK=>h K' (fun a w hq=>hK a w ⟨.inl rfl, ?_⟩))
 cases fuel with
 | zero=>exact ⟨hd,hq⟩
 | succ f=>exact ⟨fun _=>hq,by rw [hd];simp⟩
end
end
section
open Go.RowKit Plain
theorem GInv.takeC {ts:List Term'} (h:Canon ts) (i:Nat):GInv ts i (ts.take i):=by
 refine ⟨⟨h.asc.sublist (List.take_sublist _ _),fun t ht=>h.coef t (List.mem_of_mem_take ht)⟩,fun hi t ht=>?_,fun e=>rfl⟩
 have h1:=List.pairwise_append.1 ((List.take_append_drop i ts).symm ▸ h.asc)
 refine h1.2.2 t ht _ ?_
 rw [List.drop_eq_getElem_cons hi]
 have:tmAt ts i=ts[i]:=by simp [tmAt,List.getD,hi]
 rw [this];exact List.mem_cons_self ..
theorem take_tm {ts:List Term'} {i:Nat} (h:i<ts.length):ts.take (i+1)=ts.take i++[((tmAt ts i).1,(tmAt ts i).2)]:=by
 rw [List.take_add_one,tm_get h];rfl
theorem keep4b {w w':World} {B b1 b2 b3 o1 o2 o3 o4:Nat} {x1 x2 x3 x4:Value} (h:w.cell? ⟨b1,o1,none⟩=some x1∧w.cell? ⟨b2,o2,none⟩=some x2∧w.cell? ⟨b3,o3,none⟩=some x3∧w.cell? ⟨b3,o4,none⟩=some x4) (hl:b1<B∧b2<B∧b3<B) (hb:Below B w w') :
  w'.cell? ⟨b1,o1,none⟩=some x1∧w'.cell? ⟨b2,o2,none⟩=some x2∧w'.cell? ⟨b3,o3,none⟩=some x3∧w'.cell? ⟨b3,o4,none⟩=some x4:=
 ⟨(hb.cell (p:=⟨b1,o1,none⟩) hl.1).trans h.1,(hb.cell (p:=⟨b2,o2,none⟩) hl.2.1).trans h.2.1,(hb.cell (p:=⟨b3,o3,none⟩) hl.2.2).trans h.2.2.1,(hb.cell (p:=⟨b3,o4,none⟩) hl.2.2).trans h.2.2.2⟩
def OwnR (u:Int) (R:List Term') (w:World) (e:Ending) (w':World):Prop:=
 ∃ A' cp,e=.returned (poV u A' R.length cp)∧TRow w' w.heap.size (.slice A' R.length cp) R∧Below w.heap.size w w'
theorem l05Scaled_any (k:Int) (hk0:1≤k) (hk1:k≤1000002) (b o:Nat) (u:Int) (A:Option Addr) (cap:Nat) (ts:List Term') (w:World) (h0:w.cell? ⟨b,o,none⟩=some (.int .i64 u)) (h1:w.cell? ⟨b,o+1,none⟩=some (.slice A ts.length cap)) (hT:TmsAt w A ts) (hok:polyOk u ts=true) :
  Calls Tryz.prog 199 #[ptr b o,.int .i64 k] w (OwnR u (sclT k ts) w):=by
 obtain ⟨i0,hi,hz0,hz1,hz2⟩:=info_parts Tryz.infoT
 have hsz:=polyOk_size hok
 have hl120:=hsz.2.2
 have hu12:u.toNat≤12:=by omega
 clear hsz
 have hbw:b<w.heap.size:=World.block_lt_of_cell? _ _ h0
 have HOK:=hid hok
 have HT:=hid hT
 have HQ:Hid (w.cell? ⟨b,o,none⟩=some (.int .i64 u)∧w.cell? ⟨b,o+1,none⟩=some (.slice A ts.length cap)):=⟨h0,h1⟩
 obtain ⟨n,hn⟩:∃ n,n=u.toNat:=⟨_,rfl⟩
 have HLT:Hid (LenT n ts):=by rw [hn];exact polyOk_len' hok
 have HCN:Hid (Canon (sclT k ts)):=(polyOk_canon hok).scl hk0 hk1
 obtain ⟨us,hus⟩:∃ us,us=sclT k ts:=⟨_,rfl⟩
 have HUL:Hid (us.length=ts.length):=by rw [hus];exact sclT_length k ts
 have HUS:=hid hus
 rw [←hus] at HCN
 rw [←hus]
 have hkn:¬ k=0:=by omega
 have hkb:(k != 0)=true:=by simp;omega
 clear hus
 rw [←hn] at hu12
 clear hn hok hT h1
 go_enter Tryz.func199,Tryz.ntmps199
 go_wp2_with fail
 obtain ⟨W0,hW0⟩:∃ W0,W0=(w.alloc (.cells #[.int .i64 0,.slice none 0 0] 86)).alloc (.cells #[.int .i64 u,.slice none 0 0] 86):=⟨_,rfl⟩
 have hb1:Below w.heap.size w (w.alloc (.cells #[.int .i64 0,.slice none 0 0] 86)):=by go_grown
 have hW0s:W0.heap.size=w.heap.size+1+1:=by rw [hW0];simp
 have HB0:Hid (Below w.heap.size w W0):=by show Below _ _ _;rw [hW0];go_grown
 have HBX:Hid (Cells W0 w.heap.size 86 [.int .i64 0,.slice none 0 0]):=by
  show Cells _ _ _ _
  rw [hW0]
  exact (Cells.new w 86 [.int .i64 0,.slice none 0 0]).next (by go_grown)
 have HST:Hid (GSt W0 (w.heap.size+1) (w.heap.size+1+1) u us (us.take 0) 0 0 0 none W0):=by
  refine ⟨?_,rfl,TRow.nilv _ _,GInv.takeC HCN.out 0,Only.refl _ _,by omega,hW0s.symm⟩
  rw [hW0]
  have:=Cells.new (w.alloc (.cells #[.int .i64 0,.slice none 0 0] 86)) 86 [.int .i64 u,.slice none 0 0]
  simpa using this
 rw [←hW0]
 have HWS:=hid hW0s
 clear hW0 hW0s hb1 h0
 go_loopg [6] (ts.length+1) (fun kx s6 wr=>∃ (i cp:Nat) (A':Option Addr),s6=.int .i64 (i:Int)∧i≤ts.length∧ts.length - i<kx∧Hid (GSt W0 (w.heap.size+1) (w.heap.size+1+1) u us (us.take i) i i cp A' wr))
 case atStart=>exact ⟨0,0,none,by first | rfl | go_num,by omega,by omega,HST⟩
 case round=>
  clear HST
  obtain ⟨i,cp,A',rfl,hin,hkx,HG⟩:=hrel
  obtain ⟨wo,rfl⟩:∃ x,x=wr:=⟨_,rfl⟩
  have HBW:Hid (Below w.heap.size w wo):=HB0.out.trans (HG.out.only.below (by have:=HWS.out;omega) (fun k hk=>by omega))
  have q0:wo.cell? ⟨b,o,none⟩=some (.int .i64 u):=keepC HQ.out.1 HBW.out
  have q1:wo.cell? ⟨b,o+1,none⟩=some (.slice A ts.length cap):=keepC HQ.out.2 HBW.out
  by_cases hlt:i<ts.length
  ·have hiz:(i:Int)<(ts.length:Int):=by omega
   obtain ⟨bt,ot,Ai,ci,rfl,hbt,t0',t1',tI',_⟩:=HT.out.at_ hlt
   have t0:=keepC t0' HBW.out
   have t1:=keepC t1' HBW.out
   have tI:=tI'.below HBW.out
   clear t0' t1' tI'
   have hlen:(tmAt ts i).1.length=n:=HLT.out _ (tmAt_mem hlt)
   have hok1:=termOk_parts (polyOk_mem HOK.out (tmAt_mem hlt))
   rw [hlen] at t0
   have HTI:=hid tI
   obtain ⟨c,hc⟩:∃ c,c=(tmAt ts i).2:=⟨_,rfl⟩
   obtain ⟨E,hE⟩:∃ E,E=(tmAt ts i).1:=⟨_,rfl⟩
   rw [←hc] at t1
   obtain ⟨d,hd⟩:∃ d,d=tm c k:=⟨_,rfl⟩
   rw [←hE] at hlen HTI
   have HLN:=hid hlen
   have HTK:Hid (us.take (i+1)=us.take i++[(E,d)]):=by show _=_;rw [hE,hd,hc,take_tm (by rw [HUL.out];exact hlt),HUS.out,sclT_at hlt]
   have HTM:Hid (∀ wx,Calls Tryz.prog 125 #[.int .i64 c,.int .i64 k] wx fun e w'=>e=.returned (.int .i64 d)∧wx=w'):=fun wx=>by
    rw [hd];exact timesS_any c k wx
   clear hok1 hc hE hlen tI hd
   have hp1:wo.cell? ⟨w.heap.size+1,1,none⟩=some (.slice A' i cp):=by rw [HG.out.box.cell];rfl
   have hpf:wo.frozen? ⟨w.heap.size+1,1,none⟩=false:=HG.out.box.frozen _
   have hpl:w.heap.size+1<wo.heap.size:=HG.out.box.lt
   obtain ⟨L,hTP⟩:=HG.out.row
   have hlenL:=HG.out.len
   have HTP:=hid hTP
   have HCL:Hid (Calls Tryz.prog 244 #[.slice Ai n ci] wo.drew fun e w'=>∃ A c,e=.returned (.slice A n c)∧IntRow w' wo.heap.size (.slice A E.length c) E∧Below wo.heap.size wo w'):=by
    have h:=ownR_any Ai ci E wo.drew (HTI.out.below (Below.refl _ _).drew) (by rw [HLN.out];omega)
    rw [HLN.out] at h
    exact h.mono fun e w' ⟨A,c,h1,h2,h3⟩=>⟨A,c,by rw [HLN.out] at h1;exact h1,h2,⟨h3.os,h3.tape,h3.output,h3.size,h3.block⟩⟩
   have HPU:Hid (∀ (uu v2:Value) (w2 w3:World),IntRow w2 wo.heap.size uu E→Below wo.heap.size wo w2→w3.ownsRow (w.heap.size+1+1) 173 2 v2 (i+1) (cellsT L++[uu,.int .i64 d])→w2.grownBy w3 (Value.slice A' i cp).ownBlock →
     ∃ A2 c2,v2=.slice A2 (i+1) c2∧Below (w.heap.size+1+1) wo w3∧GSt W0 (w.heap.size+1) (w.heap.size+1+1) u us (us.take (i+1)) (i+1) (i+1) c2 A2 (w3.setCell ⟨w.heap.size+1,1,none⟩ (.slice A2 (i+1) c2))):=by
    intro uu v2 w2 w3 hu hb hown hg
    have h:=HG.out.push (j:=i+1) HTP.out hb hu hown hg (by rw [←HTK.out];exact GInv.takeC HCN.out _)
    rwa [←HTK.out] at h
   have HKS:Hid (wo.cell? ⟨w.heap.size+1,1,none⟩=some (.slice A' i cp)∧wo.cell? ⟨b,o+1,none⟩=some (.slice (some ⟨bt,ot,none⟩) ts.length cap)∧wo.cell? ⟨bt,ot+i*2+1,none⟩=some (.int .i64 c)):=⟨hp1,q1,t1⟩
   have HOW:Hid (∀ w2,Below wo.heap.size wo w2→w2.ownsRow (w.heap.size+1+1) 173 2 (.slice A' i cp) i (cellsT L)):=fun w2 hb=>by
    have h:=ownsRow_keep2 HTP.out.own (w':=w2) fun g' hg'=>hb.block g' (World.ownsRow.lt HTP.out.own g' hg').2
    rwa [hlenL] at h
   have HMX:Hid (i+1≤maxLen∧(i+1)*32≤140737488355328):=⟨by unfold maxLen;omega,by omega⟩
   have HSZ:Hid (w.heap.size+1+1≤wo.heap.size):=by show _≤_;omega
   have HEL:Hid (E.length=n):=HLN.out
   clear hTP hlenL HTP HTI HTK HG HLN
   go_wp2_with fail
   have HS0:Hid (wo.cell? ⟨w.heap.size+1,1,none⟩=some (.slice A' i cp)∧wo.cell? ⟨b,o+1,none⟩=some (.slice (some ⟨bt,ot,none⟩) ts.length cap)∧wo.cell? ⟨bt,ot+i*2,none⟩=some (.slice Ai n ci)∧wo.cell? ⟨bt,ot+i*2+1,none⟩=some (.int .i64 c)):=⟨hp1,q1,t0,t1⟩
   have HLT3:Hid (w.heap.size+1<w.heap.size+1+1∧b<w.heap.size+1+1∧bt<w.heap.size+1+1):=⟨by omega,by omega,by omega⟩
   refine RegE.start (S:=(fun wx=>wx.cell? ⟨w.heap.size+1,1,none⟩=some (.slice A' i cp)∧wx.cell? ⟨b,o+1,none⟩=some (.slice (some ⟨bt,ot,none⟩) ts.length cap)∧wx.cell? ⟨bt,ot+i*2,none⟩=some (.slice Ai n ci)∧wx.cell? ⟨bt,ot+i*2+1,none⟩=some (.int .i64 c))) 25 (by kernel_rfl) (by kernel_rfl) ?S0 (fun hHeld hB=>?_)
   case S0=>((try dsimp only);exact HS0.out)
   refine RegE.take (i:=0) (v:=?v0) hB rfl (by decide) (by kernel_rfl) (by kernel_rfl) (fun _ _ _ h=>h) (Or.inl ⟨by rfl, ?y0⟩) hHeld ?r0
   case y0=>((intro w hSw;(try dsimp only at hSw);go_simp)<;>with_reducible rfl)
   (try simp only [Act.put,List.setIfInBounds_toArray])
   refine RegE.take (i:=1) (v:=?v1) hB rfl (by decide) (by kernel_rfl) (by kernel_rfl) (fun _ _ _ h=>h) (Or.inl ⟨by rfl, ?y1⟩) hHeld ?r1
   case y1=>((intro w hSw;(try dsimp only at hSw);go_simp)<;>with_reducible rfl)
   (try simp only [Act.put])
   refine RegE.take (i:=2) (v:=?v2) hB rfl (by decide) (by kernel_rfl) (by kernel_rfl) (fun _ _ _ h=>h) (Or.inl ⟨by rfl, ?y2⟩) hHeld ?r2
   case y2=>((intro w hSw;(try dsimp only at hSw);go_simp)<;>with_reducible rfl)
   (try simp only [Act.put])
   refine RegE.take (i:=3) (v:=?v3) hB rfl (by decide) (by kernel_rfl) (by kernel_rfl) (fun _ _ _ h=>h) (Or.inl ⟨by rfl, ?y3⟩) hHeld ?r3
   case y3=>((intro w hSw;(try dsimp only at hSw);go_simp)<;>with_reducible rfl)
   (try simp only [Act.put])
   refine RegE.take (i:=4) (v:=?v4) hB rfl (by decide) (by kernel_rfl) (by kernel_rfl) (fun _ _ _ h=>h) (Or.inl ⟨by rfl, ?y4⟩) hHeld ?r4
   case y4=>((intro w hSw;(try dsimp only at hSw);go_simp)<;>with_reducible rfl)
   (try simp only [Act.put])
   refine RegE.take (i:=5) (v:=?v5) hB rfl (by decide) (by kernel_rfl) (by kernel_rfl) (fun _ _ _ h=>h) (Or.inl ⟨by rfl, ?y5⟩) hHeld ?r5
   case y5=>((intro w hSw;(try dsimp only at hSw);go_simp)<;>with_reducible rfl)
   (try simp only [Act.put])
   refine RegE.take (i:=6) (v:=?v6) hB rfl (by decide) (by kernel_rfl) (by kernel_rfl) (fun _ _ _ h=>h) (Or.inl ⟨by rfl, ?y6⟩) hHeld ?r6
   case y6=>((intro w hSw;(try dsimp only at hSw);go_simp)<;>with_reducible rfl)
   (try simp only [Act.put])
   refine RegE.take (i:=7) (v:=?v7) hB rfl (by decide) (by kernel_rfl) (by kernel_rfl) (fun _ _ _ h=>h) (Or.inl ⟨by rfl, ?y7⟩) hHeld ?r7
   case y7=>((intro w hSw;(try dsimp only at hSw);go_simp)<;>with_reducible rfl)
   (try simp only [Act.put])
   refine RegE.take (i:=8) (v:=?v8) hB rfl (by decide) (by kernel_rfl) (by kernel_rfl) (fun _ _ _ h=>h) (Or.inl ⟨by rfl, ?y8⟩) hHeld ?r8
   case y8=>((intro w hSw;(try dsimp only at hSw);go_simp)<;>with_reducible rfl)
   (try simp only [Act.put])
   refine RegE.take (i:=9) (v:=?v9) hB rfl (by decide) (by kernel_rfl) (by kernel_rfl) (fun _ _ _ h=>h) (Or.inl ⟨by rfl, ?y9⟩) hHeld ?r9
   case y9=>((intro w hSw;(try dsimp only at hSw);go_simp)<;>with_reducible rfl)
   (try simp only [Act.put])
   refine RegE.take (i:=11) (v:=?v11) hB rfl (by decide) (by kernel_rfl) (by kernel_rfl) (fun _ _ _ h=>h) (Or.inl ⟨by rfl, ?y11⟩) hHeld ?r11
   case y11=>((intro w hSw;(try dsimp only at hSw);go_simp)<;>with_reducible rfl)
   (try simp only [Act.put])
   refine RegE.take (i:=12) (v:=?v12) hB rfl (by decide) (by kernel_rfl) (by kernel_rfl) (fun _ _ _ h=>h) (Or.inl ⟨by rfl, ?y12⟩) hHeld ?r12
   case y12=>((intro w hSw;(try dsimp only at hSw);go_simp)<;>with_reducible rfl)
   (try simp only [Act.put])
   refine RegE.take (i:=13) (v:=?v13) hB rfl (by decide) (by kernel_rfl) (by kernel_rfl) (fun _ _ _ h=>h) (Or.inl ⟨by rfl, ?y13⟩) hHeld ?r13
   case y13=>((intro w hSw;(try dsimp only at hSw);go_simp)<;>with_reducible rfl)
   (try simp only [Act.put])
   refine RegE.take (i:=14) (v:=?v14) hB rfl (by decide) (by kernel_rfl) (by kernel_rfl) (fun _ _ _ h=>h) (Or.inl ⟨by rfl, ?y14⟩) hHeld ?r14
   case y14=>((intro w hSw;(try dsimp only at hSw);go_simp)<;>with_reducible rfl)
   (try simp only [Act.put])
   refine RegE.take (i:=15) (v:=?v15) hB rfl (by decide) (by kernel_rfl) (by kernel_rfl) (fun _ _ _ h=>h) (Or.inl ⟨by rfl, ?y15⟩) hHeld ?r15
   case y15=>((intro w hSw;(try dsimp only at hSw);go_simp)<;>with_reducible rfl)
   (try simp only [Act.put])
   refine RegE.take (i:=16) (v:=?v16) hB rfl (by decide) (by kernel_rfl) (by kernel_rfl) (fun _ _ _ h=>h) (Or.inl ⟨by rfl, ?y16⟩) hHeld ?r16
   case y16=>((intro w hSw;(try dsimp only at hSw);go_simp)<;>with_reducible rfl)
   (try simp only [Act.put])
   refine RegE.take (i:=17) (v:=?v17) hB rfl (by decide) (by kernel_rfl) (by kernel_rfl) (fun _ _ _ h=>h) (Or.inl ⟨by rfl, ?y17⟩) hHeld ?r17
   case y17=>((intro w hSw;(try dsimp only at hSw);go_simp)<;>with_reducible rfl)
   (try simp only [Act.put])
   refine RegE.take (i:=18) (v:=?v18) hB rfl (by decide) (by kernel_rfl) (by kernel_rfl) (fun _ _ _ h=>h) (Or.inl ⟨by rfl, ?y18⟩) hHeld ?r18
   case y18=>((intro w hSw;(try dsimp only at hSw);go_simp)<;>with_reducible rfl)
   (try simp only [Act.put])
   refine RegE.take (i:=19) (v:=?v19) hB rfl (by decide) (by kernel_rfl) (by kernel_rfl) (fun _ _ _ h=>h) (Or.inl ⟨by rfl, ?y19⟩) hHeld ?r19
   case y19=>((intro w hSw;(try dsimp only at hSw);go_simp)<;>with_reducible rfl)
   (try simp only [Act.put])
   refine RegE.step (i:=10) rfl (by decide) (by kernel_rfl) (fun K hK=>?_)
   go_simp
   go_at_call 244
   with_reducible refine HCL.out.mono ?_
   rintro e w2 ⟨Au,cu,rfl,hu,hb1⟩
   go_wp2_with fail
   refine hK.out _ _ ?S10 (fun hHeldN=>?_)
   case S10=>((try dsimp only);exact keep4b HS0.out HLT3.out (hb1.mono HSZ.out))
   clear hK K hHeld
   have hHeld:=hHeldN
   clear hHeldN
   (try simp only [Act.put,List.setIfInBounds_toArray,List.set_cons_zero,List.set_cons_succ])
   refine RegE.step (i:=20) rfl (by decide) (by kernel_rfl) (fun K hK=>?_)
   go_simp
   go_at_call 125
   refine (HTM.out _).mono ?_
   rintro e w' ⟨rfl,rfl⟩
   go_wp2_with fail
   refine hK.out _ _ ?S20 (fun hHeldN=>?_)
   case S20=>((try dsimp only);exact hHeld)
   clear hK K hHeld
   have hHeld:=hHeldN
   clear hHeldN
   (try simp only [Act.put,List.setIfInBounds_toArray,List.set_cons_zero,List.set_cons_succ])
   refine RegE.take (i:=21) (v:=?v21) hB rfl (by decide) (by kernel_rfl) (by kernel_rfl) (fun _ _ _ h=>h) (Or.inl ⟨by rfl, ?y21⟩) hHeld ?r21
   case y21=>((intro w hSw;(try dsimp only at hSw);go_simp)<;>with_reducible rfl)
   (try simp only [Act.put,List.setIfInBounds_toArray])
   refine RegE.step (i:=22) rfl (by decide) (by kernel_rfl) (fun K hK=>?_)
   go_simp
   refine hK.out _ _ ?S22 (fun hHeldN=>?_)
   case S22=>((try dsimp only);exact ⟨cell_al hHeld.1,cell_al hHeld.2.1,cell_al hHeld.2.2.1,cell_al hHeld.2.2.2⟩)
   clear hK K hHeld
   have hHeld:=hHeldN
   clear hHeldN
   (try simp only [Act.put,List.setIfInBounds_toArray,List.set_cons_zero,List.set_cons_succ])
   refine RegE.step (i:=23) rfl (by decide) (by kernel_rfl) (fun K hK=>?_)
   refine step_append_own rfl (.tmp 24) (.tmp 45) 84 rfl (w.heap.size+1+1) 173 i0 (tmV none 0 0 0) 2 32 Tryz.underlying84 hi hz0 hz1 hz2 rfl (by decide) (.slice A' i cp) i (cellsT L) (by simp [Act.eval]) ((HOW.out w2 hb1).alloc _) ⟨w2.heap.size,0,none⟩ 1 1 [.slice Au n cu,.int .i64 d] (by simp [Act.eval]) rfl (cell_tm_new _ _ _ _) (one_tm _) HMX.out.1 HMX.out.2 (by have:=hb1.size;have:=HSZ.out;simp at *;omega) ?_
   intro v2 w3 hown hg3
   obtain ⟨A2,c2,rfl,hb3,hG3⟩:=HPU.out _ _ _ _ (hu.alloc _) (hb1.alloc hb1.size _) (by rw [HEL.out];exact hown) hg3
   refine hK.out _ _ ?S23 (fun hHeldN=>?_)
   case S23=>((try dsimp only);exact keep4b HS0.out HLT3.out hb3)
   clear hK K hHeld
   have hHeld:=hHeldN
   clear hHeldN
   (try simp only [Act.put,List.setIfInBounds_toArray])
   have z1:=(hb3.cell (p:=⟨w.heap.size+1,1,none⟩) (Nat.lt_succ_self _)).trans HKS.out.1
   have z2:=(hb3.frozen (p:=⟨w.heap.size+1,1,none⟩) (Nat.lt_succ_self _)).trans hpf
   refine RegE.take (i:=24) (v:=?v24) hB rfl (by decide) (by kernel_rfl) (by kernel_rfl) (fun _ _ _ h=>h) (Or.inl ⟨by rfl, ?y24⟩) hHeld ?r24
   case y24=>((intro w hSw;(try dsimp only at hSw);go_simp)<;>with_reducible rfl)
   (try simp only [Act.put])
   refine RegE.last rfl (by kernel_rfl) (by kernel_rfl) (fun K hK=>?_)
   go_simp
   refine hK.out _ _ ?_
   clear hK K
   all_goals
    have HG3:=hid hG3
    clear hG3 hb3 hown hg3 hu hb1
    go_wp2
    go_roundg (ts.length - (i+1)+1)
    case measure=>omega
    case rel=>exact ⟨i+1,c2,A2,by first | rfl | go_num,by omega,by omega,HG3⟩
  ·obtain rfl:i=ts.length:=by omega
   have hb:=HG.out.box
   have x0:wo.cell? ⟨w.heap.size+1,0,none⟩=some (.int .i64 u):=by rw [hb.cell];rfl
   have x1:wo.cell? ⟨w.heap.size+1,1,none⟩=some (.slice A' ts.length cp):=by rw [hb.cell];rfl
   have hC:Cells wo w.heap.size 86 [.int .i64 0,.slice none 0 0]:=(HG.out.only.block w.heap.size (by have:=HWS.out;omega) (by omega)).trans HBX.out
   have y0:wo.cell? ⟨w.heap.size,0,none⟩=some (.int .i64 0):=by rw [hC.cell];rfl
   have y1:wo.cell? ⟨w.heap.size,1,none⟩=some (.slice none 0 0):=by rw [hC.cell];rfl
   have f0:wo.frozen? ⟨w.heap.size,0,none⟩=false:=hC.frozen _
   have f1:wo.frozen? ⟨w.heap.size,1,none⟩=false:=hC.frozen _
   have hD1:=hC.set_ 0 (.int .i64 u)
   have hD2:=hD1.set_ 1 (.slice A' ts.length cp)
   have z0:=hD1.cell 0
   have z1:=hD2.cell 1
   simp only [List.set_cons_zero,List.set_cons_succ,List.getElem?_cons_zero,List.getElem?_cons_succ] at z0 z1
   have HE:Hid (OwnR u us w (.returned (poV u A' ts.length cp)) ((wo.setCell ⟨w.heap.size,0,none⟩ (.int .i64 u)).setCell ⟨w.heap.size,1,none⟩ (.slice A' ts.length cp))):=by
    have hO2:Only (fun q=>q=w.heap.size) wo ((wo.setCell ⟨w.heap.size,0,none⟩ (.int .i64 u)).setCell ⟨w.heap.size,1,none⟩ (.slice A' ts.length cp)):=
     ⟨rfl,rfl,rfl,by simp [World.setCell],fun q _ hq=>(Below.heap_setCell _ _ _ _ hq).trans (Below.heap_setCell _ _ _ _ hq)⟩
    have hrow0:=HG.out.row
    rw [List.take_of_length_le (Nat.le_of_eq HUL.out)] at hrow0
    have hrow:=hrow0.only hO2 (fun q hq e=>by have e':q=w.heap.size:=e;omega)
    exact ⟨A',cp,by rw [HUL.out],by rw [HUL.out];exact hrow.lower (by omega),(HBW.out.setCell (p:=⟨w.heap.size,0,none⟩) (Nat.le_refl _) _).setCell (p:=⟨w.heap.size,1,none⟩) (Nat.le_refl _) _⟩
   have hz:¬ (ts.length:Int)<(ts.length:Int):=by omega
   clear hb hC hD1 hD2 HG
   go_wp2
   refine bodyPost_ret (v:=poV u A' ts.length cp) (by simp [results,Tryz.results199,go_sem,z0,z1]) rfl ?_
   exact HE.out
end
end Go.Proofs.YtgfkglhelfkpoaaGreat
