/- Texts put together: WEs, WEsSz, WEsTo, WEsTo2, WEsEq, WEsMark. -/
import Derived.Test.YtgfkglhelfkpoaaGreatRA
import Derived.Test.YtgfkglhelfkpoaaGreatRB
import Derived.Deep.Slices
import Derived.Deep.Fields
import Derived.Laws.BytesArg
set_option maxRecDepth 100000
set_option maxHeartbeats 2000000
open Go.Lib (hid)
namespace Go.Proofs.YtgfkglhelfkpoaaGreat
section
open Go.RowKit Go.Deep Plain
abbrev exV (k n p c:Int) (K:Option Addr) (len cap:Nat):Value:=.agg #[.int .i64 k,.int .i64 n,.int .i64 p,.int .i64 c,.slice K len cap]
abbrev prV (K:Option Addr) (len cap:Nat):Value:=.agg #[.slice K len cap]
def ExsAt (w:World) (B:Nat):Es→Nat→Nat→Prop
 | .nil,_,_=>True
 | .cons k n p c ks r,b,o=>(b<B∧w.cell? ⟨b,o,none⟩=some (.int .i64 k)∧w.cell? ⟨b,o+1,none⟩=some (.int .i64 n)∧w.cell? ⟨b,o+2,none⟩=some (.int .i64 p)∧w.cell? ⟨b,o+3,none⟩=some (.int .i64 c) ∧
   ∃ (K:Option Addr) (cap b' o':Nat),w.cell? ⟨b,o+4,none⟩=some (.slice K ks.len cap)∧ks.len≤cap∧cap≤maxLen∧(0<ks.len→K=some ⟨b',o',none⟩)∧ExsAt w B ks b' o')∧ExsAt w B r b (o+5)
def ElAt (w:World) (B:Nat) (k n p c:Int) (ks:Es) (b o:Nat):Prop:=
 b<B∧w.cell? ⟨b,o,none⟩=some (.int .i64 k)∧w.cell? ⟨b,o+1,none⟩=some (.int .i64 n)∧w.cell? ⟨b,o+2,none⟩=some (.int .i64 p)∧w.cell? ⟨b,o+3,none⟩=some (.int .i64 c) ∧
   ∃ (K:Option Addr) (cap b' o':Nat),w.cell? ⟨b,o+4,none⟩=some (.slice K ks.len cap)∧ks.len≤cap∧cap≤maxLen∧(0<ks.len→K=some ⟨b',o',none⟩)∧ExsAt w B ks b' o'
def ExSl (w:World) (B:Nat) (es:Es) (A:Option Addr):Prop:=∃ b o,(0<es.len→A=some ⟨b,o,none⟩)∧ExsAt w B es b o
theorem ExsAt.below {w w':World} {B:Nat} (hb:Below B w w'):∀ {es:Es} {b o:Nat},ExsAt w B es b o→ExsAt w' B es b o:=by
 intro es
 induction es with
 | nil=>intro b o _;trivial
 | cons k n p c ks r ihk ihr=>
  rintro b o ⟨⟨hB,h0,h1,h2,h3,K,cap,b',o',h4,hc,hm,hK,hk⟩,hr⟩
  exact ⟨⟨hB,(hb.cell (p:=⟨b,_,none⟩) hB).trans h0,(hb.cell (p:=⟨b,_,none⟩) hB).trans h1,(hb.cell (p:=⟨b,_,none⟩) hB).trans h2,(hb.cell (p:=⟨b,_,none⟩) hB).trans h3,
   K,cap,b',o',(hb.cell (p:=⟨b,_,none⟩) hB).trans h4,hc,hm,hK,ihk hk⟩,ihr hr⟩
theorem ExsAt.mono {w:World} {B B':Nat} (hb:B≤B'):∀ {es:Es} {b o:Nat},ExsAt w B es b o→ExsAt w B' es b o:=by
 intro es
 induction es with
 | nil=>intro b o _;trivial
 | cons k n p c ks r ihk ihr=>
  rintro b o ⟨⟨hB,h0,h1,h2,h3,K,cap,b',o',h4,hc,hm,hK,hk⟩,hr⟩
  exact ⟨⟨Nat.lt_of_lt_of_le hB hb,h0,h1,h2,h3,K,cap,b',o',h4,hc,hm,hK,ihk hk⟩,ihr hr⟩
theorem ElAt.below {w w':World} {B:Nat} {k n p c:Int} {ks:Es} {b o:Nat} (h:ElAt w B k n p c ks b o) (hb:Below B w w'):ElAt w' B k n p c ks b o:=
 (ExsAt.below hb (es:=.cons k n p c ks .nil) ⟨h,trivial⟩).1
theorem ElAt.mono {w:World} {B B':Nat} {k n p c:Int} {ks:Es} {b o:Nat} (h:ElAt w B k n p c ks b o) (hb:B≤B'):ElAt w B' k n p c ks b o:=
 (ExsAt.mono hb (es:=.cons k n p c ks .nil) ⟨h,trivial⟩).1
theorem ExSl.below {w w':World} {B:Nat} {es:Es} {A:Option Addr} (h:ExSl w B es A) (hb:Below B w w'):ExSl w' B es A:=by
 obtain ⟨b,o,hA,h⟩:=h
 exact ⟨b,o,hA,h.below hb⟩
theorem ExSl.mono {w:World} {B B':Nat} {es:Es} {A:Option Addr} (h:ExSl w B es A) (hb:B≤B'):ExSl w B' es A:=by
 obtain ⟨b,o,hA,h⟩:=h
 exact ⟨b,o,hA,h.mono hb⟩
theorem ExsAt.get {w:World} {B:Nat} {es:Es} {b o i:Nat} {x:Nd} (h:ExsAt w B es b o) (hx:es.get? i=some x):ElAt w B x.k x.n x.p x.c x.ks b (o+i*5):=by
 induction es generalizing o i with
 | nil=>simp [Es.get?] at hx
 | cons k n p c ks r _ ih=>
  cases i with
  | zero=>simp only [Es.get?,Option.some.injEq] at hx;subst hx;rw [Nat.zero_mul,Nat.add_zero];exact h.1
  | succ i=>simp only [Es.get?] at hx;have:=ih h.2 hx;rwa [show o+(i+1)*5=o+5+i*5 by omega]
theorem exs_of {w:World} {B b:Nat}:∀ (m o:Nat),(∀ i,i<m→∃ k n p c ks,ElAt w B k n p c ks b (o+i*5))→∃ es:Es,es.len=m∧ExsAt w B es b o
 | 0,_,_=>⟨.nil,rfl,trivial⟩
 | m+1,o,h=>by
  obtain ⟨es,hl,he⟩:=exs_of m (o+5) fun i hi=>by
   obtain ⟨k,n,p,c,ks,hx⟩:=h (i+1) (by omega)
   exact ⟨k,n,p,c,ks,by rwa [show o+5+i*5=o+(i+1)*5 by omega]⟩
  obtain ⟨k,n,p,c,ks,hx⟩:=h 0 (by omega)
  rw [Nat.zero_mul,Nat.add_zero] at hx
  exact ⟨.cons k n p c ks es,by simp [Es.len,hl],hx,he⟩
def FnsAt (w:World) (B:Nat):List Fn→Nat→Nat→Prop
 | [],_,_=>True
 | f :: fs,b,o=>(b<B∧w.cell? ⟨b,o,none⟩=some (.string f.name)∧w.cell? ⟨b,o+1,none⟩=some (.int .i64 f.params) ∧
   f.name.size≤maxLen∧∃ (K:Option Addr) (cap:Nat),w.cell? ⟨b,o+2,none⟩=some (.slice K f.outs.len cap)∧f.outs.len≤cap∧cap≤maxLen∧ExSl w B f.outs K)∧FnsAt w B fs b (o+3)
def FnSl (w:World) (B:Nat) (fs:List Fn) (A:Option Addr):Prop:=∃ b o,(0<fs.length→A=some ⟨b,o,none⟩)∧FnsAt w B fs b o
def FlAt (w:World) (B:Nat) (f:Fn) (b o:Nat):Prop:=
 b<B∧w.cell? ⟨b,o,none⟩=some (.string f.name)∧w.cell? ⟨b,o+1,none⟩=some (.int .i64 f.params) ∧
   f.name.size≤maxLen∧∃ (K:Option Addr) (cap:Nat),w.cell? ⟨b,o+2,none⟩=some (.slice K f.outs.len cap)∧f.outs.len≤cap∧cap≤maxLen∧ExSl w B f.outs K
theorem FlAt.below {w w':World} {B:Nat} {f:Fn} {b o:Nat} (h:FlAt w B f b o) (hb:Below B w w'):FlAt w' B f b o:=by
 obtain ⟨hB,h0,h1,hs,K,cap,h2,hc,hm,hk⟩:=h
 exact ⟨hB,(hb.cell (p:=⟨b,_,none⟩) hB).trans h0,(hb.cell (p:=⟨b,_,none⟩) hB).trans h1,hs,K,cap,(hb.cell (p:=⟨b,_,none⟩) hB).trans h2,hc,hm,hk.below hb⟩
theorem FnsAt.below {w w':World} {B:Nat} (hb:Below B w w'):∀ {fs:List Fn} {b o:Nat},FnsAt w B fs b o→FnsAt w' B fs b o
 | [],_,_,_=>trivial
 | _ :: _,_,_,h=>⟨FlAt.below h.1 hb,FnsAt.below hb h.2⟩
theorem FnsAt.get {w:World} {B:Nat}:∀ {fs:List Fn} {b o i:Nat} {f:Fn},FnsAt w B fs b o→fs[i]? = some f→FlAt w B f b (o+i*3)
 | [],_,_,_,_,_,h=>by simp at h
 | g :: fs,b,o,0,f,h,hf=>by simp at hf;subst hf;rw [Nat.zero_mul,Nat.add_zero];exact h.1
 | g :: fs,b,o,i+1,f,h,hf=>by
  simp at hf
  have:=FnsAt.get h.2 hf
  rwa [show o+(i+1)*3=o+3+i*3 by omega]
theorem FnSl.below {w w':World} {B:Nat} {fs:List Fn} {A:Option Addr} (h:FnSl w B fs A) (hb:Below B w w'):FnSl w' B fs A:=by
 obtain ⟨b,o,hA,h⟩:=h
 exact ⟨b,o,hA,h.below hb⟩
theorem Tryz.cellsLE:Tryz.prog.cellsOf 24=5:=by kernel_rfl
theorem Tryz.cellsI:Tryz.prog.cellsOf 2=1:=by kernel_rfl
theorem Tryz.cellsES:Tryz.prog.cellsOf 22=1:=by kernel_rfl
theorem open_sl {H:Type} {enc:TypeId×Value→H} {P:Program} {w:World} {base:Nat} {sp:Nat→Bool} {hd:Bool} {t e:TypeId} {fuel:Nat} {cs:List Value} {x:DataW H×List MemPlace} (ht:P.underlying t=some (.slice e))
  (h:DataW.trod enc P w base sp hd fuel t cs=some x) :
  cs=[.slice none 0 0]∨∃ (a:Addr) (len cap n:Nat),fuel=n+1∧cs=[.slice (some a) len cap]∧len≤cap∧cap≤maxLen ∧
   ∀ i,i<len→∃ cs' y,w.cells? base (a.add (i*P.cellsOf e)) (P.cellsOf e)=some cs'∧DataW.trod enc P w base sp hd n e cs'=some y:=by
 rcases DataW.trod_slice ht h with ⟨h0,_⟩ | ⟨a,len,cap,elems,rest,n,hn,hcs,_,_,hl,hm,hlen,hel,_⟩
 ·exact .inl h0
 ·refine .inr ⟨a,len,cap,n,hn,hcs,hl,hm,fun i hi=>?_⟩
  have key:=hel i hi
  rw [List.getElem?_eq_getElem (by omega)] at key
  obtain ⟨cs',h1,h2⟩:=Option.bind_eq_some_iff.1 key
  exact ⟨cs',_,h1,h2⟩
theorem open_exprs {H:Type} {enc:TypeId×Value→H} {w:World}:∀ (fuel:Nat) (cs:List Value) (x:DataW H×List MemPlace),DataW.trod enc Tryz.prog w 0 (fun _=>true) true fuel 22 cs=some x →
  ∃ (A:Option Addr) (cap:Nat) (es:Es),cs=[.slice A es.len cap]∧es.len≤cap∧cap≤maxLen∧ExSl w w.heap.size es A:=by
 intro fuel
 induction fuel using Nat.strongRecOn with
 | _ fuel ih=>
 intro cs x h
 rcases open_sl Tryz.underlying22 h with h0 | ⟨a,len,cap,n,rfl,rfl,hl,hm,hi⟩
 ·exact ⟨none,0,.nil,h0,Nat.le_refl _,Nat.zero_le _,0,0,fun h=>absurd h (by simp [Es.len]),trivial⟩
 ·rw [Tryz.cellsLE] at hi
  by_cases h0:len=0
  ·subst h0
   exact ⟨some a,cap,.nil,rfl,Nat.zero_le _,hm,0,0,fun h=>absurd h (by simp [Es.len]),trivial⟩
  ·have hspot:a.spot=none:=by
    obtain ⟨cs',y,hc,_⟩:=hi 0 (by omega)
    obtain ⟨_,hcl,hat⟩:=World.cells?_some hc
    have g0:=hat 0 (by omega)
    rw [List.getElem?_eq_getElem (by omega)] at g0
    simpa [Addr.add] using World.cell?_spot g0
   obtain ⟨b,o,spot⟩:=a
   simp only at hspot
   subst hspot
   have each:∀ i,i<len→∃ k n p c ks,ElAt w w.heap.size k n p c ks b (o+i*5):=by
    intro i him
    obtain ⟨cs',y,hc,ht⟩:=hi i him
    obtain ⟨ys,n',hn',_,_,hlen,hf⟩:=DataW.trod_struct Tryz.underlying24 ht
    obtain ⟨_,hcl,hat⟩:=World.cells?_some hc
    match cs',hcl,ys,hlen with
    | [c0,c1,c2,c3,c4],_,[y0,y1,y2,y3,y4],_=>
     have h0:DataW.trod enc Tryz.prog w 0 (fun _=>true) true n' 2 (([c0,c1,c2,c3,c4].drop 0).take (Tryz.prog.cellsOf 2))=some y0:=hf 0 _ rfl
     have h1:DataW.trod enc Tryz.prog w 0 (fun _=>true) true n' 2 (([c0,c1,c2,c3,c4].drop 1).take (Tryz.prog.cellsOf 2))=some y1:=hf 1 _ rfl
     have h2:DataW.trod enc Tryz.prog w 0 (fun _=>true) true n' 2 (([c0,c1,c2,c3,c4].drop 2).take (Tryz.prog.cellsOf 2))=some y2:=hf 2 _ rfl
     have h3:DataW.trod enc Tryz.prog w 0 (fun _=>true) true n' 2 (([c0,c1,c2,c3,c4].drop 3).take (Tryz.prog.cellsOf 2))=some y3:=hf 3 _ rfl
     have h4:DataW.trod enc Tryz.prog w 0 (fun _=>true) true n' 22 (([c0,c1,c2,c3,c4].drop 4).take (Tryz.prog.cellsOf 22))=some y4:=hf 4 _ rfl
     rw [Tryz.cellsI] at h0 h1 h2 h3
     rw [Tryz.cellsES] at h4
     obtain ⟨n0,e0,_⟩:=DataW.trod_int Tryz.underlying2 (x:=y0) h0
     obtain ⟨n1,e1,_⟩:=DataW.trod_int Tryz.underlying2 (x:=y1) h1
     obtain ⟨n2,e2,_⟩:=DataW.trod_int Tryz.underlying2 (x:=y2) h2
     obtain ⟨n3,e3,_⟩:=DataW.trod_int Tryz.underlying2 (x:=y3) h3
     obtain ⟨A,cap',es,e4,hcap,hmx,hsl⟩:=ih n' (by omega) _ _ h4
     simp at e0 e1 e2 e3 e4
     subst e0 e1 e2 e3 e4
     have a0:=hat 0 (by omega)
     have a1:=hat 1 (by omega)
     have a2:=hat 2 (by omega)
     have a3:=hat 3 (by omega)
     have a4:=hat 4 (by omega)
     rw [addr_add,addr_add] at a0 a1 a2 a3 a4
     obtain ⟨b',o',hA,hex⟩:=hsl
     exact ⟨n0,n1,n2,n3,es,World.block_lt_of_cell? _ _ a0,a0,a1,a2,a3,A,cap',b',o',a4,hcap,hmx,hA,hex⟩
   obtain ⟨es,hes,hex⟩:=exs_of len o each
   subst hes
   exact ⟨_,cap,es,rfl,hl,hm,b,o,fun _=>rfl,hex⟩
end
section
open Go.RowKit Plain
def Es.inner:Es→Nat
 | .nil=>0
 | .cons _ _ _ _ ks r=>ks.size+r.inner
theorem Es.size_inner (es:Es):es.size=es.len+es.inner:=by
 induction es with
 | nil=>rfl
 | cons k n p c ks r _ ih=>simp only [Es.size,Es.len,Es.inner,ih];omega
def szV (n:Nat) (l:Int):Int:=if (n:Int)≤l then l - n else -1
theorem szV_yes {n:Nat} {l:Int} (h:(n:Int)≤l):szV n l=l - n:=if_pos h
theorem szV_no {n:Nat} {l:Int} (h:¬ (n:Int)≤l):szV n l=-1:=if_neg h
def SzC (es:Es):Prop:=∀ (A:Option Addr) (cap B:Nat) (l:Int) (w:World),ExSl w B es A→B≤w.heap.size→es.len≤9223372036854775807→0≤l→l≤1048576 →
 Calls Tryz.prog 66 #[.slice A es.len cap,.int .i64 l] w fun e w'=>e=.returned (.int .i64 (szV es.size l))∧Below w.heap.size w w'
theorem szExpr_of {ks:Es} (h:SzC ks) (k n p c:Int) (K:Option Addr) (cap B:Nat) (l:Int) (w:World) (hK:ExSl w B ks K) (hB:B≤w.heap.size) (hm:ks.len≤9223372036854775807) (l0:0≤l) (l1:l≤1048576) :
  Calls Tryz.prog 20 #[exV k n p c K ks.len cap,.int .i64 l] w fun e w'=>e=.returned (.int .i64 (szV ks.size l))∧Below w.heap.size w w':=by
 go_enter Tryz.func20,Tryz.ntmps20
 go_wp2_with fail
 refine (h K cap B l _ (hK.below (by go_grown)) (by simp;omega) hm l0 l1).mono ?_;rintro e w' ⟨rfl,hb⟩
 have hr:szV ks.size l=-1∨0≤szV ks.size l:=by unfold szV;split<;>omega
 have h1:szV ks.size l≤l:=by unfold szV;split<;>omega
 generalize hz:szV ks.size l=y at hr h1 ⊢
 have HZ:=hid hz;clear hz
 rcases hr with rfl | hr
 ·go_wp2
  go_ret
  exact ⟨ret_int HZ.out.symm,((Below.refl _ _).alloc (Nat.le_refl _) _).trans (hb.mono (by simp))⟩
 ·go_wp2
  go_ret
  exact ⟨ret_int HZ.out.symm,((Below.refl _ _).alloc (Nat.le_refl _) _).trans (hb.mono (by simp))⟩
theorem szExprS_any:∀ (m:Nat) (es:Es),es.size≤m→SzC es:=by
 intro m
 induction m with
 | zero=>
  intro es hm A cap B l w _ _ _ l0 l1
  have h0:es.len=0:=by have:=Es.len_le_size es;omega
  have h1:es.size=0:=by omega
  go_enter Tryz.func66,Tryz.ntmps66
  rw [h0,h1]
  go_wp2
  go_loopw [1,5] (fun ll i wr=>ll=.int .i64 l∧i=.int .i64 0∧wr=w) (fun _ _ _=>0)
  case atStart=>exact ⟨by simp,rfl,rfl⟩
  case round=>
   obtain ⟨rfl,rfl,rfl⟩:=hrel
   go_wp2
   go_ret
   exact ⟨ret_int (by rw [szV_yes (by omega)];simp),Below.refl _ _⟩
 | succ m ih=>
 intro es hm A cap B l w hA hB hl l0 l1
 have hsi:=hid es.size_inner
 have IH:=hid ih;clear ih
 obtain ⟨b,o,hA1,hA2⟩:=hA
 have HA:=hid hA2;clear hA2
 go_enter Tryz.func66,Tryz.ntmps66
 by_cases h0:l - (es.len:Int)<0
 ·go_wp2
  go_ret
  exact ⟨ret_int (by have:=hsi.out;rw [szV_no (by omega)]),by go_grown⟩
 ·go_wp2
  go_loopw [1,5] (fun ll i wr=>∃ (j:Nat) (es':Es) (y:Int),i=.int .i64 (j:Int)∧ll=.int .i64 y∧j+es'.len=es.len∧0≤y∧y≤l∧Hid (y - es'.inner=l - es.size)∧Hid (es'.size≤es.size)∧Hid (ExsAt wr B es' b (o+j*5))∧Hid (Below w.heap.size w wr)) (fun _ i _=>es.len - (intOf i).toNat)
  case atStart=>exact ⟨0,es,l - es.len,by go_num,rfl,by omega,by omega,by omega,by have:=hsi.out;show _=_;omega,Nat.le_refl _,by show ExsAt _ _ _ _ _;rw [Nat.zero_mul,Nat.add_zero];exact HA.out,by show Below _ _ _;go_grown⟩
  case round=>
   obtain ⟨j,es',y,rfl,rfl,hj,y0,y1,hy,hsz,HE,HB⟩:=hrel
   cases es' with
   | nil=>
    simp only [Es.len] at hj
    go_wp2
    go_ret
    have:=hy.out
    simp only [Es.inner] at this
    exact ⟨ret_int (by rw [szV_yes (by omega)];omega),HB.out⟩
   | cons k n p c ks r=>
    simp only [Es.len] at hj
    have hA:=hA1 (by omega)
    subst hA
    obtain ⟨⟨hb,c0,c1,c2,c3,K,cp,b',o',c4,hcp,hcm,hK,hks⟩,hr⟩:=HE.out
    have HK:Hid (ExSl wr B ks K):=⟨b',o',hK,hks⟩
    have HR:=hid hr
    clear hr hks HE
    have hrs:Hid (r.size≤es.size∧ks.size<es.size∧ks.len≤ks.size):=by
     have:=hsz.out
     simp only [Es.size] at this
     exact ⟨by omega,by omega,Es.len_le_size ks⟩
    go_wp2_with fail
    refine (szExpr_of (IH.out ks (by have:=hrs.out;omega)) k n p c K cp B y wr HK.out (by have:=HB.out.size;omega) (by unfold maxLen at hcm;omega) y0 (by omega)).mono ?_;rintro e w1 ⟨rfl,hb1⟩
    have hB2:Below B wr w1:=hb1.mono (by have:=HB.out.size;omega)
    have HE1:Hid (ExsAt w1 B r b (o+(j+1)*5)):=by
     have:=HR.out.below hB2
     rwa [show o+j*5+5=o+(j+1)*5 by omega] at this
    have HB1:=hid (bnext HB.out hb1)
    have hyo:=hy.out
    simp only [Es.inner] at hyo
    by_cases hs:(ks.size:Int)≤y
    ·rw [szV_yes hs]
     obtain ⟨z,hz⟩:∃ z,z=y - (ks.size:Int):=⟨_,rfl⟩
     rw [←hz]
     have z0:0≤z:=by omega
     have z1:z≤l:=by omega
     have HZ:Hid (z - r.inner=l - es.size):=by show _=_;omega
     clear hyo hz hs hy
     go_wp2
     go_roundw
     case rel=>exact ⟨j+1,r,z,by go_num,rfl,by omega,z0,z1,HZ,hrs.out.1,HE1,HB1⟩
     case measure=>simp [intOf];omega
    ·rw [szV_no hs]
     have HN:Hid (¬ (es.size:Int)≤l):=by show ¬ _;omega
     clear hyo hs hy
     go_wp2
     go_ret
     exact ⟨ret_int (by rw [szV_no (by have:=HN.out;omega)]),HB1.out⟩
theorem szExprS_all (es:Es):SzC es:=szExprS_any es.size es (Nat.le_refl _)
end
section
open Go.RowKit Plain
def ExM (w:World) (b o:Nat) (k n p c:Int) (v:Value):Prop:=
 (w.cell? ⟨b,o,none⟩=some (.int .i64 k)∧w.cell? ⟨b,o+1,none⟩=some (.int .i64 n)∧w.cell? ⟨b,o+2,none⟩=some (.int .i64 p)∧w.cell? ⟨b,o+3,none⟩=some (.int .i64 c)∧w.cell? ⟨b,o+4,none⟩=some v) ∧
 ∀ i,i<5→w.frozen? ⟨b,o+i,none⟩=false
def ExsM (w:World):Es→Nat→Nat→Nat→Nat→Prop
 | .nil,lo,hi,_,_=>lo≤hi
 | .cons k n p c ks r,lo,hi,b,o=>∃ (K:Option Addr) (cap b' mid:Nat),ExM w b o k n p c (.slice K ks.len cap)∧ks.len≤cap∧cap≤maxLen∧(0<ks.len→K=some ⟨b',0,none⟩)∧lo≤b'∧b'<mid ∧
   ExsM w ks (b'+1) mid b' 0∧ExsM w r mid hi b (o+5)
def SameCells (w w':World) (b i j:Nat):Prop:=∀ x,i≤x→x<j→w'.cell? ⟨b,x,none⟩=w.cell? ⟨b,x,none⟩∧w'.frozen? ⟨b,x,none⟩=w.frozen? ⟨b,x,none⟩
theorem SameCells.of_block {w w':World} {b:Nat} (h:w'.heap[b]? = w.heap[b]?) (i j:Nat):SameCells w w' b i j:=fun _ _ _=>⟨World.cell?_of_block (a:=⟨b,_,none⟩) h,World.frozen?_of_block (a:=⟨b,_,none⟩) h⟩
theorem SameCells.set_ {w:World} {b p i j:Nat} {u:Value} (h:p<i∨j≤p):SameCells w (w.setCell ⟨b,p,none⟩ u) b i j:=fun x hx hx'=>
 ⟨World.cell?_setCell_other _ _ _ _ (fun e=>by injection e with _ h' _;omega),World.frozen?_setCell _ _ _ _⟩
theorem SameCells.trans {w w' w'':World} {b i j:Nat} (h:SameCells w w' b i j) (h':SameCells w' w'' b i j):SameCells w w'' b i j:=fun x hx hx'=>
 ⟨(h' x hx hx').1.trans (h x hx hx').1,(h' x hx hx').2.trans (h x hx hx').2⟩
theorem SameCells.sub {w w':World} {b i j i' j':Nat} (h:SameCells w w' b i j) (hi:i≤i') (hj:j'≤j):SameCells w w' b i' j':=fun x hx hx'=>h x (by omega) (by omega)
theorem ExM.keep {w w':World} {b o:Nat} {k n p c:Int} {v:Value} (h:ExM w b o k n p c v) (hc:SameCells w w' b o (o+5)):ExM w' b o k n p c v:=by
 obtain ⟨⟨h0,h1,h2,h3,h4⟩,hf⟩:=h
 exact ⟨⟨(hc o (by omega) (by omega)).1.trans h0,(hc (o+1) (by omega) (by omega)).1.trans h1,(hc (o+2) (by omega) (by omega)).1.trans h2,(hc (o+3) (by omega) (by omega)).1.trans h3,(hc (o+4) (by omega) (by omega)).1.trans h4⟩,
  fun i hi=>(hc (o+i) (by omega) (by omega)).2.trans (hf i hi)⟩
theorem ExsM.le {w:World}:∀ {es:Es} {lo hi b o:Nat},ExsM w es lo hi b o→lo≤hi
 | .nil,_,_,_,_,h=>h
 | .cons _ _ _ _ _ r,lo,hi,b,o,⟨_,_,b',mid,_,_,_,_,h1,h2,_,hr⟩=>by have:=ExsM.le hr;omega
theorem ExsM.keep {w w':World}:∀ {es:Es} {lo hi b o:Nat},ExsM w es lo hi b o→SameCells w w' b o (o+es.len*5)→(∀ q,lo≤q→q<hi→w'.heap[q]? = w.heap[q]?)→ExsM w' es lo hi b o:=by
 intro es
 induction es with
 | nil=>intro lo hi b o h _ _;exact h
 | cons k n p c ks r ihk ihr=>
  rintro lo hi b o ⟨K,cap,b',mid,h0,hc,hm,hK,h1,h2,hk,hr⟩ hs hb
  simp only [Es.len] at hs
  have hle:=hr.le
  exact ⟨K,cap,b',mid,h0.keep (hs.sub (Nat.le_refl _) (by omega)),hc,hm,hK,h1,h2,ihk hk (SameCells.of_block (hb b' h1 (by omega)) _ _) (fun q hq hq'=>hb q (by omega) (by omega)),
   ihr hr (hs.sub (by omega) (by omega)) (fun q hq hq'=>hb q (by omega) hq')⟩
theorem ExsM.exs {w:World} {B:Nat}:∀ {es:Es} {lo hi b o:Nat},ExsM w es lo hi b o→hi≤B→b<B→ExsAt w B es b o:=by
 intro es
 induction es with
 | nil=>intro lo hi b o _ _ _;trivial
 | cons k n p c ks r ihk ihr=>
  rintro lo hi b o ⟨K,cap,b',mid,⟨⟨h0,h1,h2,h3,h4⟩,_⟩,hc,hm,hK,l1,l2,hk,hr⟩ hB hb
  have hle:=hr.le
  exact ⟨⟨hb,h0,h1,h2,h3,K,cap,b',0,h4,hc,hm,hK,ihk hk (by omega) (by omega)⟩,ihr hr hB hb⟩
namespace Es
def snoc:Es→Int→Int→Int→Int→Es→Es
 | .nil,k,n,p,c,ks=>.cons k n p c ks .nil
 | .cons k' n' p' c' ks' r,k,n,p,c,ks=>.cons k' n' p' c' ks' (r.snoc k n p c ks)
theorem snoc_len (es:Es) (k n p c:Int) (ks:Es):(es.snoc k n p c ks).len=es.len+1:=by
 induction es with
 | nil=>rfl
 | cons _ _ _ _ _ r _ ih=>simp only [snoc,len,ih]
def app:Es→Es→Es
 | .nil,b=>b
 | .cons k n p c ks r,b=>.cons k n p c ks (r.app b)
theorem app_nil (es:Es):es.app .nil=es:=by
 induction es with
 | nil=>rfl
 | cons _ _ _ _ _ r _ ih=>simp only [app,ih]
theorem snoc_app (es:Es) (k n p c:Int) (ks r:Es):(es.snoc k n p c ks).app r=es.app (.cons k n p c ks r):=by
 induction es with
 | nil=>rfl
 | cons _ _ _ _ _ r _ ih=>simp only [snoc,app,ih]
end Es
theorem ExsM.snoc {w:World}:∀ {es:Es} {lo mid hi b o:Nat} {k n p c:Int} {ks:Es} {K:Option Addr} {cap b':Nat},ExsM w es lo mid b o→ExM w b (o+es.len*5) k n p c (.slice K ks.len cap)→ks.len≤cap→cap≤maxLen →
  (0<ks.len→K=some ⟨b',0,none⟩)→mid≤b'→b'<hi→ExsM w ks (b'+1) hi b' 0→ExsM w (es.snoc k n p c ks) lo hi b o:=by
 intro es
 induction es with
 | nil=>
  intro lo mid hi b o k n p c ks K cap b' h hx hc hm hK h1 h2 hk
  simp only [Es.len,Nat.zero_mul,Nat.add_zero] at hx
  have hl:lo≤mid:=h
  exact ⟨K,cap,b',hi,hx,hc,hm,hK,by omega,h2,hk,Nat.le_refl _⟩
 | cons k' n' p' c' ks' r _ ihr=>
  rintro lo mid hi b o k n p c ks K cap b' ⟨K0,cap0,b0,m0,g0,gc,gm,gK,g1,g2,gk,gr⟩ hx hc hm hK h1 h2 hk
  simp only [Es.len] at hx
  rw [show o+(r.len+1)*5=o+5+r.len*5 by omega] at hx
  exact ⟨K0,cap0,b0,m0,g0,gc,gm,gK,g1,g2,gk,ihr gr hx hc hm hK h1 h2 hk⟩
def ToC (es:Es):Prop:=∀ (A:Option Addr) (cap B:Nat) (w:World),ExSl w B es A→B≤w.heap.size →
 Calls Tryz.prog 71 #[.slice A es.len cap] w fun e w'=>e=.returned (.slice (some ⟨w.heap.size,0,none⟩) es.len es.len)∧ExsM w' es (w.heap.size+1) w'.heap.size w.heap.size 0∧Below w.heap.size w w'
theorem Tryz.infoE:(Tryz.prog.info? 33).map (fun i=>(i.zero,i.size,i.bytes))=some (some (exV 0 0 0 0 none 0 0),5,56):=by kernel_rfl
theorem allocs2 (w:World) (o1:Obj) (t2:TypeId) (C2:List Value):((w.alloc o1).alloc (.cells C2.toArray t2)).heap.size=w.heap.size+2∧Cells ((w.alloc o1).alloc (.cells C2.toArray t2)) (w.heap.size+1) t2 C2∧Below w.heap.size w ((w.alloc o1).alloc (.cells C2.toArray t2)):=by
 refine ⟨by simp, ?_,by go_grown⟩
 have:=Cells.new (w.alloc o1) t2 C2
 rwa [show (w.alloc o1).heap.size=w.heap.size+1 by simp] at this
theorem allocs3 (w:World) (o1:Obj) (t2 t3:TypeId) (C2 C3:List Value):(((w.alloc o1).alloc (.cells C2.toArray t2)).alloc (.cells C3.toArray t3)).heap.size=w.heap.size+3∧Cells (((w.alloc o1).alloc (.cells C2.toArray t2)).alloc (.cells C3.toArray t3)) (w.heap.size+1) t2 C2 ∧
  Cells (((w.alloc o1).alloc (.cells C2.toArray t2)).alloc (.cells C3.toArray t3)) (w.heap.size+2) t3 C3∧Below w.heap.size w (((w.alloc o1).alloc (.cells C2.toArray t2)).alloc (.cells C3.toArray t3)):=by
 obtain ⟨h1,h2,h3⟩:=allocs2 w o1 t2 C2
 refine ⟨by simp, ?_, ?_,by go_grown⟩
 ·exact h2.next (by go_grown)
 ·have:=Cells.new ((w.alloc o1).alloc (.cells C2.toArray t2)) t3 C3
  rwa [h1] at this
theorem toExpr_of {ks:Es} (h:ToC ks) (k n p c:Int) (K:Option Addr) (cap B:Nat) (w:World) (hK:ExSl w B ks K) (hB:B≤w.heap.size) :
  Calls Tryz.prog 23 #[exV k n p c K ks.len cap] w fun e w'=>∃ g,w.heap.size≤g∧g<w'.heap.size∧e=.returned (exV k n p c (some ⟨g,0,none⟩) ks.len ks.len)∧ExsM w' ks (g+1) w'.heap.size g 0∧Below w.heap.size w w':=by
 go_enter Tryz.func23,Tryz.ntmps23
 go_wp2_with fail
 obtain ⟨hsz,hC1,hC2,hb0⟩:=allocs3 w (.cells #[.int .i64 k,.int .i64 n,.int .i64 p,.int .i64 c,.slice K ks.len cap] 24) 33 33 [.int .i64 0,.int .i64 0,.int .i64 0,.int .i64 0,.slice none 0 0] [.int .i64 k,.int .i64 n,.int .i64 p,.int .i64 c,.slice none 0 0]
 generalize (((w.alloc (.cells #[.int .i64 k,.int .i64 n,.int .i64 p,.int .i64 c,.slice K ks.len cap] 24)).alloc (.cells #[.int .i64 0,.int .i64 0,.int .i64 0,.int .i64 0,.slice none 0 0] 33)).alloc (.cells #[.int .i64 k,.int .i64 n,.int .i64 p,.int .i64 c,.slice none 0 0] 33))=W3 at hsz hb0 hC1 hC2 ⊢
 refine (h K cap B W3 (hK.below (hb0.mono hB)) (by omega)).mono ?_;rintro e w1 ⟨rfl,hM,hb⟩
 rw [hsz] at hM hb ⊢
 have hE1:=hC1.below hb (by omega)
 have hE2:=hC2.below hb (by omega)
 have HM:=hid hM
 have HB:=hid hb
 have z1:=hb.size
 have z2:=hid hb0
 have k0:w1.cell? ⟨w.heap.size+1+1,0,none⟩=some (.int .i64 k):=by rw [hE2.cell];rfl
 have k1:w1.cell? ⟨w.heap.size+1+1,1,none⟩=some (.int .i64 n):=by rw [hE2.cell];rfl
 have k2:w1.cell? ⟨w.heap.size+1+1,2,none⟩=some (.int .i64 p):=by rw [hE2.cell];rfl
 have k3:w1.cell? ⟨w.heap.size+1+1,3,none⟩=some (.int .i64 c):=by rw [hE2.cell];rfl
 have k4:w1.cell? ⟨w.heap.size+1+1,4,none⟩=some (.slice none 0 0):=by rw [hE2.cell];rfl
 have f4:w1.frozen? ⟨w.heap.size+1+1,4,none⟩=false:=hE2.frozen _
 have j0:w1.cell? ⟨w.heap.size+1,0,none⟩=some (.int .i64 0):=by rw [hE1.cell];rfl
 have j1:w1.cell? ⟨w.heap.size+1,1,none⟩=some (.int .i64 0):=by rw [hE1.cell];rfl
 have j2:w1.cell? ⟨w.heap.size+1,2,none⟩=some (.int .i64 0):=by rw [hE1.cell];rfl
 have j3:w1.cell? ⟨w.heap.size+1,3,none⟩=some (.int .i64 0):=by rw [hE1.cell];rfl
 have j4:w1.cell? ⟨w.heap.size+1,4,none⟩=some (.slice none 0 0):=by rw [hE1.cell];rfl
 have g0:w1.frozen? ⟨w.heap.size+1,0,none⟩=false:=hE1.frozen _
 have g1:w1.frozen? ⟨w.heap.size+1,1,none⟩=false:=hE1.frozen _
 have g2:w1.frozen? ⟨w.heap.size+1,2,none⟩=false:=hE1.frozen _
 have g3:w1.frozen? ⟨w.heap.size+1,3,none⟩=false:=hE1.frozen _
 have g4:w1.frozen? ⟨w.heap.size+1,4,none⟩=false:=hE1.frozen _
 have hD0:=hE1.far (p:=⟨w.heap.size+1+1,4,none⟩) (by simp) (.slice (some ⟨w.heap.size+3,0,none⟩) ks.len ks.len)
 have hD1:=hD0.set_ 0 (.int .i64 k)
 have hD2:=hD1.set_ 1 (.int .i64 n)
 have hD3:=hD2.set_ 2 (.int .i64 p)
 have hD4:=hD3.set_ 3 (.int .i64 c)
 have hD5:=hD4.set_ 4 (.slice (some ⟨w.heap.size+3,0,none⟩) ks.len ks.len)
 have x0:=hD1.cell 0
 have x1:=hD2.cell 1
 have x2:=hD3.cell 2
 have x3:=hD4.cell 3
 have x4:=hD5.cell 4
 simp only [List.set_cons_zero,List.set_cons_succ,List.getElem?_cons_zero,List.getElem?_cons_succ] at x0 x1 x2 x3 x4
 clear hM hb hC1 hC2 hE1 hE2 hb0 hD0 hD1 hD2 hD3 hD4 hD5
 go_wp2
 refine bodyPost_ret (v:=exV k n p c (some ⟨w.heap.size+3,0,none⟩) ks.len ks.len) (by simp [results,Tryz.results23,go_sem,x0,x1,x2,x3,x4]) rfl ?_
 have hl:=HM.out.le
 have hb6:=(((((((z2.out.trans (HB.out.mono (by omega))).setCell (p:=⟨w.heap.size+1+1,4,none⟩) (by simp;omega) (.slice (some ⟨w.heap.size+3,0,none⟩) ks.len ks.len)).setCell (p:=⟨w.heap.size+1,0,none⟩) (by simp) (.int .i64 k)).setCell (p:=⟨w.heap.size+1,1,none⟩) (by simp) (.int .i64 n)).setCell (p:=⟨w.heap.size+1,2,none⟩) (by simp) (.int .i64 p)).setCell (p:=⟨w.heap.size+1,3,none⟩) (by simp) (.int .i64 c)).setCell (p:=⟨w.heap.size+1,4,none⟩) (by simp) (.slice (some ⟨w.heap.size+3,0,none⟩) ks.len ks.len))
 refine ⟨w.heap.size+3,by omega,by simp [World.setCell];omega,rfl, ?_,hb6⟩
 have hq:∀ q,w.heap.size+3≤q→_:=fun q hq=>
  (Below.heap_setCell _ ⟨w.heap.size+1,4,none⟩ (.slice (some ⟨w.heap.size+3,0,none⟩) ks.len ks.len) q (by simp;omega)).trans ((Below.heap_setCell _ ⟨w.heap.size+1,3,none⟩ (.int .i64 c) q (by simp;omega)).trans ((Below.heap_setCell _ ⟨w.heap.size+1,2,none⟩ (.int .i64 p) q (by simp;omega)).trans
   ((Below.heap_setCell _ ⟨w.heap.size+1,1,none⟩ (.int .i64 n) q (by simp;omega)).trans ((Below.heap_setCell _ ⟨w.heap.size+1,0,none⟩ (.int .i64 k) q (by simp;omega)).trans (Below.heap_setCell w1 ⟨w.heap.size+1+1,4,none⟩ (.slice (some ⟨w.heap.size+3,0,none⟩) ks.len ks.len) q (by simp;omega))))))
 have e6:(((((((w1.setCell ⟨w.heap.size+1+1,4,none⟩ (.slice (some ⟨w.heap.size+3,0,none⟩) ks.len ks.len)).setCell ⟨w.heap.size+1,0,none⟩ (.int .i64 k)).setCell ⟨w.heap.size+1,1,none⟩ (.int .i64 n)).setCell ⟨w.heap.size+1,2,none⟩ (.int .i64 p)).setCell ⟨w.heap.size+1,3,none⟩ (.int .i64 c)).setCell ⟨w.heap.size+1,4,none⟩ (.slice (some ⟨w.heap.size+3,0,none⟩) ks.len ks.len))).heap.size=w1.heap.size:=by simp [World.setCell]
 rw [e6]
 exact HM.out.keep (SameCells.of_block (hq _ (by omega)) _ _) (fun q h1 _=>hq q (by omega))
def set5 (w:World) (g o:Nat) (k n p c:Int) (v:Value):World:=
 ((((w.setCell ⟨g,o,none⟩ (.int .i64 k)).setCell ⟨g,o+1,none⟩ (.int .i64 n)).setCell ⟨g,o+2,none⟩ (.int .i64 p)).setCell ⟨g,o+3,none⟩ (.int .i64 c)).setCell ⟨g,o+4,none⟩ v
theorem set5_cells {w:World} {g o:Nat} {t:TypeId} {C:List Value} (h:Cells w g t C) (k n p c:Int) (v:Value):Cells (set5 w g o k n p c v) g t (((((C.set o (.int .i64 k)).set (o+1) (.int .i64 n)).set (o+2) (.int .i64 p)).set (o+3) (.int .i64 c)).set (o+4) v):=
 ((((h.set_ _ _).set_ _ _).set_ _ _).set_ _ _).set_ _ _
theorem set5_exM {w:World} {g o:Nat} {t:TypeId} {C:List Value} (h:Cells w g t C) (hl:o+5≤C.length) (k n p c:Int) (v:Value):ExM (set5 w g o k n p c v) g o k n p c v:=by
 have h5:=set5_cells (o:=o) h k n p c v
 refine ⟨⟨?_, ?_, ?_, ?_, ?_⟩,fun i _=>h5.frozen _⟩<;>rw [h5.cell]
 ·rw [List.getElem?_set_ne (by omega),List.getElem?_set_ne (by omega),List.getElem?_set_ne (by omega),List.getElem?_set_ne (by omega),List.getElem?_set_self (by first | omega | (simp;omega))]
 ·rw [List.getElem?_set_ne (by omega),List.getElem?_set_ne (by omega),List.getElem?_set_ne (by omega),List.getElem?_set_self (by first | omega | (simp;omega))]
 ·rw [List.getElem?_set_ne (by omega),List.getElem?_set_ne (by omega),List.getElem?_set_self (by first | omega | (simp;omega))]
 ·rw [List.getElem?_set_ne (by omega),List.getElem?_set_self (by first | omega | (simp;omega))]
 ·rw [List.getElem?_set_self (by first | omega | (simp;omega))]
theorem set5_same {w:World} {g o:Nat} (k n p c:Int) (v:Value):SameCells w (set5 w g o k n p c v) g 0 o:=
 ((((SameCells.set_ (.inr (Nat.le_refl _))).trans (SameCells.set_ (.inr (by omega)))).trans (SameCells.set_ (.inr (by omega)))).trans (SameCells.set_ (.inr (by omega)))).trans (SameCells.set_ (.inr (by omega)))
theorem set5_block {w:World} {g o:Nat} (k n p c:Int) (v:Value) {q:Nat} (hq:q≠g):(set5 w g o k n p c v).heap[q]? = w.heap[q]?:=
 (Below.heap_setCell _ _ _ _ hq).trans ((Below.heap_setCell _ _ _ _ hq).trans ((Below.heap_setCell _ _ _ _ hq).trans ((Below.heap_setCell _ _ _ _ hq).trans (Below.heap_setCell _ _ _ _ hq))))
theorem set5_size {w:World} {g o:Nat} (k n p c:Int) (v:Value):(set5 w g o k n p c v).heap.size=w.heap.size:=by simp [set5,World.setCell]
theorem set5_below {w0 w:World} {B g o:Nat} (k n p c:Int) (v:Value) (h:Below B w0 w) (hg:B≤g):Below B w0 (set5 w g o k n p c v):=
 ((((h.setCell (p:=⟨g,_,none⟩) hg _).setCell (p:=⟨g,_,none⟩) hg _).setCell (p:=⟨g,_,none⟩) hg _).setCell (p:=⟨g,_,none⟩) hg _).setCell (p:=⟨g,_,none⟩) hg _
theorem toStep {wr w1:World} {g0 j g:Nat} {t:TypeId} {C:List Value} {pre ks:Es} {k n p c:Int} (hp:pre.len=j) (HM:ExsM wr pre (g0+1) wr.heap.size g0 0) (hb1:Below wr.heap.size wr w1) (hC1:Cells w1 g0 t C) (hM1:ExsM w1 ks (g+1) w1.heap.size g 0)
  (hgl:g0<wr.heap.size) (hg1:wr.heap.size≤g) (hg2:g<w1.heap.size) (hcl:j*5+5≤C.length) (hk:ks.len≤1048576) :
  ExsM (set5 w1 g0 (j*5) k n p c (.slice (some ⟨g,0,none⟩) ks.len ks.len)) (pre.snoc k n p c ks) (g0+1) (set5 w1 g0 (j*5) k n p c (.slice (some ⟨g,0,none⟩) ks.len ks.len)).heap.size g0 0:=by
 have hs:=set5_size (w:=w1) (g:=g0) (o:=j*5) k n p c (.slice (some ⟨g,0,none⟩) ks.len ks.len)
 have hbk:=fun q (hq:q≠g0)=>set5_block (w:=w1) (g:=g0) (o:=j*5) k n p c (.slice (some ⟨g,0,none⟩) ks.len ks.len) hq
 have hsm:=set5_same (w:=w1) (g:=g0) (o:=j*5) k n p c (.slice (some ⟨g,0,none⟩) ks.len ks.len)
 have hx:=set5_exM hC1 hcl k n p c (.slice (some ⟨g,0,none⟩) ks.len ks.len)
 generalize set5 w1 g0 (j*5) k n p c (.slice (some ⟨g,0,none⟩) ks.len ks.len)=W at hs hbk hsm hx ⊢
 rw [hs]
 refine ExsM.snoc (mid:=wr.heap.size) (K:=some ⟨g,0,none⟩) (cap:=ks.len) (b':=g) ?_ ?_ (Nat.le_refl _) (by unfold maxLen;omega) (fun _=>rfl) hg1 hg2 ?_
 ·refine HM.keep ?_ ?_
  ·refine (SameCells.of_block (hb1.block _ hgl) _ _).trans ?_
   rwa [←hp,←Nat.zero_add (pre.len*5)] at hsm
  ·intro q l1 l2
   exact (hbk q (by omega)).trans (hb1.block q l2)
 ·rw [Nat.zero_add,hp]
  exact hx
 ·exact hM1.keep (SameCells.of_block (hbk g (by omega)) _ _) (fun q l1 _=>hbk q (by omega))
theorem exsNext {w1 W:World} {B b o j:Nat} {r:Es} (h:Below B w1 W) (hr:ExsAt w1 B r b (o+j*5+5)):ExsAt W B r b (o+(j+1)*5):=by
 have:=hr.below h
 rwa [show o+j*5+5=o+(j+1)*5 by omega] at this
theorem madeCells_size' (z:Array Value) (n:Nat):(madeCells z n).size=n:=size_madeCells _ _
theorem toExprS_any:∀ (m:Nat) (es:Es),es.size<m→es.size≤1048576→ToC es:=by
 intro m
 induction m with
 | zero=>intro es h;omega
 | succ m ih=>
 intro es hm hz A cap B w hA hB
 have IH:=hid ih;clear ih
 have hls:=Es.len_le_size es
 obtain ⟨b,o,hA1,hA2⟩:=hA
 have HA:=hid hA2;clear hA2
 have hmk:=run_make_many (P:=Tryz.prog) 31 33 (exV 0 0 0 0 none 0 0) 5 56 Tryz.underlying31 Tryz.infoE .i64 .i64 es.len (by omega) (by omega)
 obtain ⟨C0,hC0⟩:∃ C0:List Value,madeCells (exV 0 0 0 0 none 0 0).cells (es.len*5)=C0.toArray∧C0.length=es.len*5:=⟨(madeCells (exV 0 0 0 0 none 0 0).cells (es.len*5)).toList,by simp,by simp [madeCells_size']⟩
 rw [hC0.1] at hmk
 go_enter Tryz.func71,Tryz.ntmps71
 go_wp2
 go_loopw [4] (fun i wr=>∃ (j:Nat) (pre suf:Es) (C:List Value),i=.int .i64 (j:Int)∧pre.len=j∧j+suf.len=es.len∧Hid (es=pre.app suf)∧Hid (suf.size≤es.size)∧Hid (Cells wr w.heap.size 33 C)∧C.length=es.len*5 ∧
  Hid (ExsM wr pre (w.heap.size+1) wr.heap.size w.heap.size 0)∧Hid (ExsAt wr B suf b (o+j*5))∧Hid (Below w.heap.size w wr)) (fun i _=>es.len - (intOf i).toNat)
 case atStart=>
  have hg:Below w.heap.size w (w.alloc (.cells C0.toArray 33)):=by go_grown
  refine ⟨0,.nil,es,C0,by go_num,rfl,by omega,rfl,Nat.le_refl _,Cells.new _ _ _,hC0.2, ?_, ?_,hg⟩
  ·show _≤_;simp
  ·show ExsAt _ _ _ _ _;rw [Nat.zero_mul,Nat.add_zero];exact HA.out.below (hg.mono hB)
 case round=>
  obtain ⟨j,pre,suf,C,rfl,hp,hj,hes,hsz,HC,hcl,HM,HE,HB⟩:=hrel
  cases suf with
  | nil=>
   simp only [Es.len] at hj
   go_wp2
   go_ret
   have he:=hes.out
   rw [Es.app_nil] at he
   subst he
   exact ⟨rfl,HM.out,HB.out⟩
  | cons k n p c ks r=>
   simp only [Es.len] at hj
   have hA:=hA1 (by omega)
   subst hA
   obtain ⟨⟨hb,c0,c1,c2,c3,K,cp,b',o',c4,hcp,hcm,hK,hks⟩,hr⟩:=HE.out
   have HK:Hid (ExSl wr B ks K):=⟨b',o',hK,hks⟩
   have HR:=hid hr
   have hrs:Hid (r.size≤es.size∧ks.size<es.size):=by
    have:=hsz.out
    simp only [Es.size] at this
    exact ⟨by omega,by omega⟩
   clear hr hks HE
   go_wp2_with fail
   refine (toExpr_of (IH.out ks (by have:=hrs.out;omega) (by have:=hrs.out;omega)) k n p c K cp B wr HK.out (by have:=HB.out.size;omega)).mono ?_;rintro e w1 ⟨g,hg1,hg2,rfl,hM1,hb1⟩
   have hC1:=HC.out.next hb1
   have hgl:=HC.out.lt
   have z0:=HB.out.size
   have q0:∃ u,w1.cell? ⟨w.heap.size,j*5,none⟩=some u:=⟨C[j*5],by rw [hC1.cell];simp⟩
   have q1:∃ u,w1.cell? ⟨w.heap.size,j*5+1,none⟩=some u:=⟨C[j*5+1],by rw [hC1.cell];simp⟩
   have q2:∃ u,w1.cell? ⟨w.heap.size,j*5+2,none⟩=some u:=⟨C[j*5+2],by rw [hC1.cell];simp⟩
   have q3:∃ u,w1.cell? ⟨w.heap.size,j*5+3,none⟩=some u:=⟨C[j*5+3],by rw [hC1.cell];simp⟩
   have q4:∃ u,w1.cell? ⟨w.heap.size,j*5+4,none⟩=some u:=⟨C[j*5+4],by rw [hC1.cell];simp⟩
   obtain ⟨u0,h0⟩:=q0
   obtain ⟨u1,h1⟩:=q1
   obtain ⟨u2,h2⟩:=q2
   obtain ⟨u3,h3⟩:=q3
   obtain ⟨u4,h4⟩:=q4
   have f0:w1.frozen? ⟨w.heap.size,j*5,none⟩=false:=hC1.frozen _
   have f1:w1.frozen? ⟨w.heap.size,j*5+1,none⟩=false:=hC1.frozen _
   have f2:w1.frozen? ⟨w.heap.size,j*5+2,none⟩=false:=hC1.frozen _
   have f3:w1.frozen? ⟨w.heap.size,j*5+3,none⟩=false:=hC1.frozen _
   have f4:w1.frozen? ⟨w.heap.size,j*5+4,none⟩=false:=hC1.frozen _
   have HB5:Hid (Below w.heap.size w (set5 w1 w.heap.size (j*5) k n p c (.slice (some ⟨g,0,none⟩) ks.len ks.len))):=set5_below _ _ _ _ _ (bnext HB.out hb1) (Nat.le_refl _)
   have HC5:=hid (set5_cells (o:=j*5) hC1 k n p c (.slice (some ⟨g,0,none⟩) ks.len ks.len))
   have HM5:=hid (toStep hp HM.out hb1 hC1 hM1 hgl hg1 hg2 (by omega) (by have:=Es.len_le_size ks;have:=hrs.out;omega) (k:=k) (n:=n) (p:=p) (c:=c))
   have HE5:Hid (ExsAt (set5 w1 w.heap.size (j*5) k n p c (.slice (some ⟨g,0,none⟩) ks.len ks.len)) B r b (o+(j+1)*5)):=
    exsNext (w1:=wr) (set5_below _ _ _ _ _ (hb1.mono (by omega)) (by omega)) HR.out
   clear hC1 hM1 hb1 HM HC HR HK c0 c1 c2 c3 c4
   go_wp2
   go_roundw
   case rel=>exact ⟨j+1,pre.snoc k n p c ks,r,_,by go_num,by rw [Es.snoc_len,hp],by omega,by show _=_;rw [Es.snoc_app];exact hes.out,hrs.out.1,HC5,by simp [hcl],HM5,HE5,HB5⟩
   case measure=>simp [intOf];omega
theorem toExprS_all (es:Es) (h:es.size≤1048576):ToC es:=toExprS_any (es.size+1) es (by omega) h
end
section
open Go.RowKit Plain
section
variable {w:World} {g o:Nat} {t:TypeId} {C:List Value} (s:ByteArray) (n:Int) (v:Value)
end
end
section
open Go.RowKit Plain
def EqC (es:Es):Prop:=∀ (A A':Option Addr) (cap cap' B:Nat) (w:World),ExSl w B es A→ExSl w B es A'→B≤w.heap.size→es.size≤1048576 →
 Calls Tryz.prog 79 #[.slice A es.len cap,.slice A' es.len cap'] w fun e w'=>e=.returned (.bool true)∧Below w.heap.size w w'
theorem eqExpr_of {ks:Es} (h:EqC ks) (k n p c:Int) (K K':Option Addr) (cap cap' B:Nat) (w:World) (hK:ExSl w B ks K) (hK':ExSl w B ks K') (hB:B≤w.heap.size) (hl:ks.size≤1048576) :
  Calls Tryz.prog 26 #[exV k n p c K ks.len cap,exV k n p c K' ks.len cap'] w fun e w'=>e=.returned (.bool true)∧Below w.heap.size w w':=by
 go_enter Tryz.func26,Tryz.ntmps26
 go_wp2_with fail
 refine (h K K' cap cap' B _ (hK.below (by go_grown)) (hK'.below (by go_grown)) (by simp;omega) hl).mono ?_;rintro e w' ⟨rfl,hb⟩
 go_wp2
 go_ret
 exact ⟨rfl,(((Below.refl _ _).alloc (Nat.le_refl _) _).alloc (by simp) _).trans (hb.mono (by simp;omega))⟩
theorem eqExprS_any:∀ (m:Nat) (es:Es),es.size<m→EqC es:=by
 intro m
 induction m with
 | zero=>intro es h;omega
 | succ m ih=>
 intro es hm A A' cap cap' B w hA hA' hB hl
 have hls:=Es.len_le_size es
 have IH:=hid ih;clear ih
 obtain ⟨b,o,hA1,hA2⟩:=hA
 obtain ⟨b',o',hA1',hA2'⟩:=hA'
 have HA:=hid hA2;clear hA2
 have HA':=hid hA2';clear hA2'
 go_enter Tryz.func79,Tryz.ntmps79
 go_wp2
 go_loopw [5] (fun i wr=>∃ (j:Nat) (es':Es),i=.int .i64 (j:Int)∧j+es'.len=es.len∧Hid (es'.size≤es.size)∧Hid (ExsAt wr B es' b (o+j*5))∧Hid (ExsAt wr B es' b' (o'+j*5))∧Hid (Below w.heap.size w wr)) (fun i _=>es.len - (intOf i).toNat)
 case atStart=>
  refine ⟨0,es,by go_num,by omega,Nat.le_refl _, ?_, ?_,Below.refl _ _⟩
  ·show ExsAt _ _ _ _ _;rw [Nat.zero_mul,Nat.add_zero];exact HA.out
  ·show ExsAt _ _ _ _ _;rw [Nat.zero_mul,Nat.add_zero];exact HA'.out
 case round=>
  obtain ⟨j,es',rfl,hj,hsz,HE,HE',HB⟩:=hrel
  cases es' with
  | nil=>
   simp only [Es.len] at hj
   go_wp2
   go_ret
   exact ⟨rfl,HB.out⟩
  | cons k n p c ks r=>
   simp only [Es.len] at hj
   have hA:=hA1 (by omega)
   subst hA
   have hA:=hA1' (by omega)
   subst hA
   obtain ⟨⟨hb,c0,c1,c2,c3,K,cp,x,y,c4,hcp,hcm,hK,hks⟩,hr⟩:=HE.out
   obtain ⟨⟨hb',c0',c1',c2',c3',K',cp',x',y',c4',hcp',hcm',hK',hks'⟩,hr'⟩:=HE'.out
   have HK:Hid (ExSl wr B ks K):=⟨x,y,hK,hks⟩
   have HK':Hid (ExSl wr B ks K'):=⟨x',y',hK',hks'⟩
   have HR:=hid hr
   have HR':=hid hr'
   have hrs:Hid (r.size≤es.size∧ks.size<es.size∧ks.len≤ks.size):=by
    have:=hsz.out
    simp only [Es.size] at this
    exact ⟨by omega,by omega,Es.len_le_size ks⟩
   clear hr hks HE hr' hks' HE'
   have hkl:ks.size≤1048576:=by have:=hrs.out;omega
   have HQ:Hid (∀ wx,Below wr.heap.size wr wx→Calls Tryz.prog 26 #[exV k n p c K ks.len cp,exV k n p c K' ks.len cp'] wx fun e w'=>e=.returned (.bool true)∧Below wx.heap.size wx w'):=fun wx hx=>by
    have z0:=HB.out.size
    have z1:=hx.size
    exact eqExpr_of (IH.out ks (by have:=hrs.out;omega)) k n p c K K' cp cp' B wx (HK.out.below (hx.mono (by omega))) (HK'.out.below (hx.mono (by omega))) (by omega) hkl
   clear HK HK'
   go_wp2
   go_region_with (go_at_call 26;refine (HQ.out _ (by first | exact (Below.refl _ _).drew | exact below_drewN' (Below.refl _ _) _)).mono ?_;rintro e w1 ⟨rfl,hb1⟩)
   all_goals
    have hb2:=bdrew hb1
    have hB2:Below B wr w1:=hb2.mono (by have:=HB.out.size;omega)
    have HE1:Hid (ExsAt w1 B r b (o+(j+1)*5)):=exsNext hB2 HR.out
    have HE1':Hid (ExsAt w1 B r b' (o'+(j+1)*5)):=exsNext hB2 HR'.out
    have HB1:=hid (bnext HB.out hb2)
    clear HR HR' c0 c1 c2 c3 c4 c0' c1' c2' c3' c4' hb1 hB2 HB HQ hb2
    go_wp2
    go_roundw
    case rel=>exact ⟨j+1,r,by go_num,by omega,hrs.out.1,HE1,HE1',HB1⟩
    case measure=>simp [intOf];omega
end
section
open Go.RowKit Plain
def mk4 (w:World) (b o:Nat) (y:Int):World:=
 (((w.setCell ⟨b,o,none⟩ (.int .i64 y)).setCell ⟨b,o+1,none⟩ (.int .i64 (y+1))).setCell ⟨b,o+2,none⟩ (.int .i64 (y+1+1))).setCell ⟨b,o+3,none⟩ (.int .i64 (y+1+1+1))
theorem mk4_block {w:World} {b o:Nat} (y:Int) {q:Nat} (hq:q≠b):(mk4 w b o y).heap[q]? = w.heap[q]?:=
 (Below.heap_setCell _ _ _ _ hq).trans ((Below.heap_setCell _ _ _ _ hq).trans ((Below.heap_setCell _ _ _ _ hq).trans (Below.heap_setCell _ _ _ _ hq)))
theorem mk4_same {w:World} {b o:Nat} (y:Int) (j:Nat):SameCells w (mk4 w b o y) b (o+4) j:=
 (((SameCells.set_ (.inl (by omega))).trans (SameCells.set_ (.inl (by omega)))).trans (SameCells.set_ (.inl (by omega)))).trans (SameCells.set_ (.inl (by omega)))
theorem mk4_only {w:World} {b o:Nat} (y:Int):Only (fun q=>q=b) w (mk4 w b o y):=
 ⟨rfl,rfl,rfl,by simp [mk4,World.setCell],fun _ _ hq=>mk4_block y hq⟩
def MkC (es:Es):Prop:=∀ (A:Option Addr) (cap b lo hi:Nat) (k:Int) (w:World),(0<es.len→A=some ⟨b,0,none⟩)→ExsM w es lo hi b 0→b<lo→hi≤w.heap.size→es.size≤1048576→0≤k→k+4*es.size≤1000000000000 →
 Calls Tryz.prog 82 #[.slice A es.len cap,.int .i64 k] w fun e w'=>e=.returned (.int .i64 (k+4*es.size))∧Only (fun q=>(0<es.len∧q=b)∨(lo≤q∧q<hi)) w w'
theorem markExprS_any:∀ (m:Nat) (es:Es),es.size<m→MkC es:=by
 intro m
 induction m with
 | zero=>intro es h;omega
 | succ m ih=>
 intro es hm A cap b lo hi k w hA hM hbl hhi hz k0 k1
 have IH:=hid ih;clear ih
 have hls:=Es.len_le_size es
 have HM:=hid hM;clear hM
 go_enter Tryz.func82,Tryz.ntmps82
 go_wp2
 go_loopw [1,5] (fun kk i wr=>∃ (j:Nat) (es':Es) (y:Int) (lo':Nat),i=.int .i64 (j:Int)∧kk=.int .i64 y∧j+es'.len=es.len∧Hid (y+4*es'.size=k+4*es.size)∧0≤y∧y≤1000000000000∧Hid (es'.size≤es.size)∧lo≤lo'∧Hid (ExsM wr es' lo' hi b (j*5)) ∧
   Hid (Only (fun q=>(0<es.len∧q=b)∨(lo≤q∧q<hi)) w wr)) (fun _ i _=>es.len - (intOf i).toNat)
 case atStart=>
  refine ⟨0,es,k,lo,by go_num,by simp,by omega,rfl,k0,by omega,Nat.le_refl _,Nat.le_refl _, ?_,Only.refl _ _⟩
  show ExsM _ _ _ _ _ _;rw [Nat.zero_mul];exact HM.out
 case round=>
  obtain ⟨j,es',y,lo',rfl,rfl,hj,hy,y0,y1,hsz,hlo,HE,HO⟩:=hrel
  cases es' with
  | nil=>
   simp only [Es.len] at hj
   go_wp2
   go_ret
   have:=hy.out
   simp only [Es.size] at this
   exact ⟨ret_int (by omega),HO.out⟩
  | cons kk n p c ks r=>
   simp only [Es.len] at hj
   have hA:=hA (by omega)
   subst hA
   obtain ⟨K,cp,b',mid,⟨⟨h0,h1,h2,h3,h4⟩,hf⟩,hc,hcm,hK,l1,l2,hks,hr⟩:=HE.out
   have hle:=hr.le
   have f0:=hf 0 (by omega)
   have f1:=hf 1 (by omega)
   have f2:=hf 2 (by omega)
   have f3:=hf 3 (by omega)
   rw [Nat.add_zero] at f0
   have hrs:Hid (r.size≤es.size∧ks.size<es.size∧y+4+4*ks.size+4*r.size=k+4*es.size):=by
    have:=hsz.out
    have h2:=hy.out
    simp only [Es.size] at this h2
    exact ⟨by omega,by omega,by omega⟩
   have HK4:Hid (ExsM (mk4 wr b (j*5) y) ks (b'+1) mid b' 0):=hks.keep (SameCells.of_block (mk4_block y (by omega)) _ _) (fun q q1 _=>mk4_block y (by omega))
   have HR4:Hid (ExsM (mk4 wr b (j*5) y) r mid hi b (j*5+5)):=hr.keep ((mk4_same y _).sub (by omega) (Nat.le_refl _)) (fun q q1 _=>mk4_block y (by omega))
   have x4:(mk4 wr b (j*5) y).cell? ⟨b,j*5+4,none⟩=some (.slice K ks.len cp):=((mk4_same y (j*5+5)) _ (Nat.le_refl _) (by omega)).1.trans h4
   have HO4:=hid (HO.out.chain (mk4_only y (b:=b) (o:=j*5)) (fun q _ e=>.inl ⟨by omega,e⟩))
   have hsz4:mid≤(mk4 wr b (j*5) y).heap.size:=by
    have:=HO4.out.size
    omega
   have HC4:=hid (IH.out ks (by have:=hrs.out;omega) K cp b' (b'+1) mid (y+1+1+1+1) (mk4 wr b (j*5) y) hK HK4.out (by omega) hsz4 (by have:=hrs.out;omega) (by omega) (by have:=hrs.out;omega))
   clear hks hr HK4 HE IH hsz4
   unfold mk4 at x4 HC4
   go_wp2_with fail
   refine HC4.out.mono ?_;rintro e w1 ⟨rfl,hO1⟩
   have HR1:Hid (ExsM w1 r mid hi b ((j+1)*5)):=by
    have:=HR4.out.keep (w':=w1) (SameCells.of_block (hO1.block b (by have:=HO4.out.size;unfold mk4 at this;omega) (by intro h;omega)) _ _) (fun q q1 q2=>hO1.block q (by have:=HO4.out.size;unfold mk4 at this;omega) (by intro h;omega))
    rwa [show j*5+5=(j+1)*5 by omega] at this
   have HO1:Hid (Only (fun q=>(0<es.len∧q=b)∨(lo≤q∧q<hi)) w w1):=HO4.out.chain hO1 (fun q _ h=>by omega)
   obtain ⟨z,hzz⟩:∃ z,z=y+1+1+1+1+4*(ks.size:Int):=⟨_,rfl⟩
   rw [←hzz]
   have z0:0≤z:=by omega
   have z1:z≤1000000000000:=by have:=hrs.out;omega
   have HZ:Hid (z+4*r.size=k+4*es.size):=by have:=hrs.out;show _=_;omega
   clear hO1 HO4 HR4 x4 hzz HC4 HO
   go_wp2
   go_roundw
   case rel=>exact ⟨j+1,r,z,mid,by go_num,rfl,by omega,HZ,z0,z1,hrs.out.1,by omega,HR1,HO1⟩
   case measure=>simp [intOf];omega
end
end Go.Proofs.YtgfkglhelfkpoaaGreat
