/- Texts put together: WEsG, PPolyE, WPolyE1, WPolyE2. -/
import Derived.Test.YtgfkglhelfkpoaaGreatRC
import Derived.Test.YtgfkglhelfkpoaaGreatRX
import Derived.Test.YtgfkglhelfkpoaaGreatRA
import Derived.Test.YtgfkglhelfkpoaaGreatRE

/- Trees in blocks of a call's own, in any order; marks of them. -/
namespace Go.Proofs.YtgfkglhelfkpoaaGreat
open Go.RowKit Plain

/-- expressions at ⟨b, o⟩ that may be written; the blocks of their kids lie apart from b and from each other's, from lo on, below hi -/
def ExsG (w : World) : Es → Nat → Nat → Nat → Nat → Prop
  | .nil, lo, hi, _, _ => lo ≤ hi
  | .cons k n p c ks r, lo, hi, b, o => ∃ (K : Option Addr) (cap b' l h : Nat), ExM w b o k n p c (.slice K ks.len cap) ∧ ks.len ≤ cap ∧ cap ≤ maxLen ∧ (0 < ks.len → K = some ⟨b', 0, none⟩ ∧ l ≤ b' ∧ b' < h) ∧ lo ≤ l ∧ (b < l ∨ h ≤ b) ∧
      ExsG w ks l h b' 0 ∧ ExsG w r h hi b (o + 5)
end Go.Proofs.YtgfkglhelfkpoaaGreat

/- Polynomials as expressions, plainly. No program here. -/
namespace Go.Proofs.YtgfkglhelfkpoaaGreat
open Plain

def numN (n : Int) : Nd := ⟨1, n, 0, 0, .nil⟩
def varN (n : Int) : Nd := ⟨2, n, 0, 0, .nil⟩
def twoEs (x y : Nd) : Es := .cons x.k x.n x.p x.c x.ks (.cons y.k y.n y.p y.c y.ks .nil)
def opXN (k : Int) (x y : Nd) : Nd := ⟨k, 0, 0, 0, twoEs x y⟩
/-- times a power of a variable -/
def powN (x : Nd) (v : Int) : Nat → Nd
  | 0 => x
  | n + 1 => opXN 5 (powN x v n) (varN v)
/-- a term, its first k variables -/
def prodN (c : Int) (es : List Int) : Nat → Nd
  | 0 => numN c
  | k + 1 => powN (prodN c es k) k (cf es k).toNat
/-- the first k terms -/
def sumN (ts : List Term') : Nat → Nd
  | 0 => numN 0
  | k + 1 => if k = 0 then prodN (tmAt ts k).2 (tmAt ts k).1 (tmAt ts k).1.length else opXN 3 (sumN ts k) (prodN (tmAt ts k).2 (tmAt ts k).1 (tmAt ts k).1.length)
end Go.Proofs.YtgfkglhelfkpoaaGreat

/- Walks: nodes made, both sides; trees of two kids. -/
namespace Go.Proofs.YtgfkglhelfkpoaaGreat
open Go.RowKit Plain

end Go.Proofs.YtgfkglhelfkpoaaGreat

/- Walks: terms as expressions, in the spec. -/
namespace Go.Proofs.YtgfkglhelfkpoaaGreat
open Go.RowKit Plain

end Go.Proofs.YtgfkglhelfkpoaaGreat
