/- Texts put together: WEv1, WEv2, WEv3, WEv4. -/
import Derived.Test.YtgfkglhelfkpoaaGreatRH
import Derived.Test.YtgfkglhelfkpoaaGreatRA
set_option maxRecDepth 100000
set_option maxHeartbeats 1000000
namespace Go.Proofs.YtgfkglhelfkpoaaGreat
section
open Go.RowKit Plain
def ResIs {α:Type} (r:Res α) (z:α) (s c:Int):Prop:=
 match r with
 | .ok z0 t=>z=z0∧s=(t:Int)∧c=0
 | .err e=>c=e
structure EvIn (w:World) (B bv n:Nat) (P:List Fn) (PA:Option Addr) (pcap:Nat):Prop where
 prog:FnSl w B P PA
 pl:P.length≤pcap
 pm:pcap≤maxLen
 blow:B≤bv
 lt:bv<w.heap.size
 ok:progOk P=true
 n0:1≤n
 n1:n≤13
theorem EvIn.only {w w':World} {B bv n:Nat} {P:List Fn} {PA:Option Addr} {pcap:Nat} (h:EvIn w B bv n P PA pcap) (ho:Only (fun q=>q=bv) w w'):EvIn w' B bv n P PA pcap:=
 ⟨h.prog.below (ho.below (by have:=h.lt;have:=h.blow;omega) (fun k hk=>by have:=h.blow;omega)),h.pl,h.pm,h.blow,Nat.lt_of_lt_of_le h.lt ho.size,h.ok,h.n0,h.n1⟩
theorem only_below {w w':World} {B bv:Nat} (ho:Only (fun q=>q=bv) w w') (h:B≤bv) (hl:bv<w.heap.size):Below B w w':=ho.below (by omega) (fun k hk=>by omega)
end
section
open Go.RowKit Plain
def Good {α:Type} (s:Nat):Res α→Prop
 | .ok _ t=>s<t∧t≤3000
 | .err e=>e≠0
def GoodA {α:Type} (s:Nat):Res α→Prop
 | .ok _ t=>s≤t∧(s≤3000→t≤3000)
 | .err e=>e≠0
theorem ExSl.get {w:World} {B:Nat} {es:Es} {K:Option Addr} (h:ExSl w B es K) {i:Nat} {y:Nd} (hy:es.get? i=some y):∃ b o,K=some ⟨b,o,none⟩∧ElAt w B y.k y.n y.p y.c y.ks b (o+i*5):=by
 obtain ⟨b,o,hK,he⟩:=h
 exact ⟨b,o,hK (by have:=Es.get?_lt hy;omega),he.get hy⟩
theorem Es.get?_depth {es:Es} {i:Nat} {x:Nd} (h:es.get? i=some x):x.ks.depth+1≤es.depth:=by
 induction es generalizing i with
 | nil=>simp [Es.get?] at h
 | cons k n p c ks r _ ih=>
  cases i with
  | zero=>simp only [Es.get?,Option.some.injEq] at h;subst h;simp only [Es.depth];omega
  | succ i=>simp only [Es.get?] at h;have:=ih h;simp only [Es.depth];omega
theorem formed_kids {P:List Fn} {fn vars:Int} {x y:Nd} {j:Nat} (h:formed P fn vars x=true) (hy:x.ks.get? j=some y):formed P fn (kidVars x.k vars j) y=true:=by
 unfold formed at h
 rw [Bool.and_eq_true] at h
 have:=formedL_get h.2 hy
 rwa [Nat.zero_add] at this
end
section
open Go.RowKit Plain
theorem only_cells {w w':World} {g bv:Nat} {t:TypeId} {C:List Value} (h:Cells w g t C) (ho:Only (fun q=>q=bv) w w') (hne:g≠bv):Cells w' g t C:=(ho.block g h.lt hne).trans h
theorem ElAt.cells {w:World} {B:Nat} {k n p c:Int} {ks:Es} {b o:Nat} (h:ElAt w B k n p c ks b o):∃ K cap,b<B∧w.cell? ⟨b,o,none⟩=some (.int .i64 k)∧w.cell? ⟨b,o+1,none⟩=some (.int .i64 n)∧w.cell? ⟨b,o+2,none⟩=some (.int .i64 p)∧w.cell? ⟨b,o+3,none⟩=some (.int .i64 c) ∧
  w.cell? ⟨b,o+4,none⟩=some (.slice K ks.len cap)∧ks.len≤cap∧cap≤maxLen∧ExSl w B ks K:=by
 obtain ⟨hb,h0,h1,h2,h3,K,cap,b',o',h4,hc,hm,hK,hk⟩:=h
 exact ⟨K,cap,hb,h0,h1,h2,h3,h4,hc,hm,b',o',hK,hk⟩
theorem formed_op8 {P:List Fn} {fn vars:Int} {x:Nd} (h:formed P fn vars x=true) (hk:x.k=8):x.ks.len=3:=by
 unfold formed at h
 rw [Bool.and_eq_true,hk,nodeOk_op (N:=3) (.inr (.inr ⟨rfl,rfl⟩))] at h
 simp only [Bool.and_eq_true,beq_iff_eq] at h
 exact h.1.2.2
end
section
open Go.RowKit Plain
end
end Go.Proofs.YtgfkglhelfkpoaaGreat
