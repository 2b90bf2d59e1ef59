/- Texts put together: WSv1, WSv2, WSv3. -/
import Derived.Test.YtgfkglhelfkpoaaGreatRJ
import Derived.Deep.RegionHeld3
set_option maxRecDepth 100000
set_option maxHeartbeats 1000000
namespace Go.Proofs.YtgfkglhelfkpoaaGreat
section
open Go.RowKit Plain
structure SvIn (w:World) (B bv n:Nat) (P:List Fn) (bp op:Nat):Prop where
 prog:PrAt w B P bp op
 blow:B≤bv
 lt:bv<w.heap.size
 ok:progOk P=true
 n0:1≤n
 n1:n≤13
theorem SvIn.only {w w':World} {B bv n:Nat} {P:List Fn} {bp op:Nat} (h:SvIn w B bv n P bp op) (ho:Only (fun q=>q=bv) w w'):SvIn w' B bv n P bp op:=
 ⟨h.prog.below (only_below ho h.blow h.lt),h.blow,Nat.lt_of_lt_of_le h.lt ho.size,h.ok,h.n0,h.n1⟩
abbrev hdS (n bp op:Nat):List Value:=[ptr bp op,.int .i64 n]
def failC (c0 code:Int):Int:=if c0=0 then code else c0
end
section
open Go.RowKit Plain
theorem evAll_one {ks:Es} {a:Nd} (hl:ks.len=1) (ha:ks.get? 0=some a):ks=.cons a.k a.n a.p a.c a.ks .nil:=by
 cases ks with
 | nil=>simp [Es.len] at hl
 | cons k n p c ks' r=>
  simp only [Es.len] at hl
  have:=Es.len0 (es:=r) (by omega)
  subst this
  simp only [Es.get?,Option.some.injEq] at ha
  subst ha
  rfl
theorem kids_two {ks:Es} {a b:Nd} (hl:ks.len=2) (ha:ks.get? 0=some a) (hb:ks.get? 1=some b):ks=.cons a.k a.n a.p a.c a.ks (.cons b.k b.n b.p b.c b.ks .nil):=by
 cases ks with
 | nil=>simp [Es.len] at hl
 | cons k n p c ks' r=>
  simp only [Es.len] at hl
  simp only [Es.get?,Option.some.injEq] at ha
  subst ha
  cases r with
  | nil=>simp [Es.len] at hl
  | cons k2 n2 p2 c2 ks2 r2=>
   simp only [Es.len] at hl
   have:=Es.len0 (es:=r2) (by omega)
   subst this
   simp only [Es.get?,Option.some.injEq] at hb
   subst hb
   rfl
end
section
open Go.RowKit Plain
end
end Go.Proofs.YtgfkglhelfkpoaaGreat
