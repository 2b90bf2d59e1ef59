/- Texts put together: WEsG, PPolyE, WPolyE1, WPolyE2. -/
import Derived.Test.YtgfkglhelfkpoaaGreatRC
import Derived.Test.YtgfkglhelfkpoaaGreatRX
import Derived.Test.YtgfkglhelfkpoaaGreatRA
import Derived.Test.YtgfkglhelfkpoaaGreatRE
set_option maxRecDepth 100000
set_option maxHeartbeats 1000000
namespace Go.Proofs.YtgfkglhelfkpoaaGreat
section
open Go.RowKit Plain
end
section
open Plain
def numN (n:Int):Nd:=⟨1,n,0,0,.nil⟩
def varN (n:Int):Nd:=⟨2,n,0,0,.nil⟩
def twoEs (x y:Nd):Es:=.cons x.k x.n x.p x.c x.ks (.cons y.k y.n y.p y.c y.ks .nil)
def opXN (k:Int) (x y:Nd):Nd:=⟨k,0,0,0,twoEs x y⟩
def powN (x:Nd) (v:Int):Nat→Nd
 | 0=>x
 | n+1=>opXN 5 (powN x v n) (varN v)
def prodN (c:Int) (es:List Int):Nat→Nd
 | 0=>numN c
 | k+1=>powN (prodN c es k) k (cf es k).toNat
def sumN (ts:List Term'):Nat→Nd
 | 0=>numN 0
 | k+1=>if k=0 then prodN (tmAt ts k).2 (tmAt ts k).1 (tmAt ts k).1.length else opXN 3 (sumN ts k) (prodN (tmAt ts k).2 (tmAt ts k).1 (tmAt ts k).1.length)
end
section
open Go.RowKit Plain
end
section
open Go.RowKit Plain
end
end Go.Proofs.YtgfkglhelfkpoaaGreat
