/- Texts put together: PISort, PRule, WISort, WIns, WSinkL, WRuleS1. -/
import Derived.Test.YtgfkglhelfkpoaaGreatRA
import Derived.Test.YtgfkglhelfkpoaaGreatRSF
import Derived.Test.YtgfkglhelfkpoaaGreatRSH
import Derived.Test.YtgfkglhelfkpoaaGreatRG

/- Plain: sorting a list of integers by insertion. -/
namespace Go.Proofs.YtgfkglhelfkpoaaGreat
open Plain

end Go.Proofs.YtgfkglhelfkpoaaGreat

/- Plain: rules: sides, the variables that occur. No program here. -/
namespace Go.Proofs.YtgfkglhelfkpoaaGreat
open Plain

end Go.Proofs.YtgfkglhelfkpoaaGreat

/- Walks: slices.Sort at up to twelve numbers. -/
namespace Go.Proofs.YtgfkglhelfkpoaaGreat
open Go.RowKit Plain

end Go.Proofs.YtgfkglhelfkpoaaGreat

/- Walks: l00Put of the reference: a number put into a list in order. -/
namespace Go.Proofs.YtgfkglhelfkpoaaGreat
open Go.RowKit Plain

end Go.Proofs.YtgfkglhelfkpoaaGreat

/- The laws of XWSink with the region's operations as a list: the operation is handed over written out. -/
namespace Go.Proofs.YtgfkglhelfkpoaaGreat
open Go

section
variable {P : Program} {l : List Oper} {Q : Exit → Act → World → Prop} {S : World → Prop} {n : Nat}
theorem RegE.takeL {i : Nat} {oi : Oper} {v : Value} {fuel : Nat} {listed : Array Bool} {a : Act} {w : World} (hB : sinkOk l.toArray n = true) (hi : l[i]? = some oi) (hin : i < n)
    (hf : Region.free .any l.toArray listed i = true) (hr : (Region.ready .any l.toArray listed).contains i = true)
    (hQ : ∀ c a w, Q (.panic c) (a.put oi.dst v) w → Q (.panic c) a w) (hy : YieldsIf P l.toArray S oi v a) (hS : S w)
    (h : RegE P l.toArray Q S n fuel (listed.setIfInBounds i true) (a.put oi.dst v) w) : RegE P l.toArray Q S n (fuel + 1) listed a w :=
  RegE.take hB (by rw [List.getElem?_toArray]; exact hi) hin hf hr hQ hy hS h
theorem RegE.stepL {i : Nat} {oi : Oper} {fuel : Nat} {listed : Array Bool} {a : Act} {w : World} (hi : l[i]? = some oi) (hin : i < n) (hr : Region.ready .any l.toArray listed = [i])
    (h : ∀ K' : Act → World → Prop, Shut (∀ a w, S w → (S w → RegE P l.toArray Q S n fuel (listed.setIfInBounds i true) a w) → K' a w) → if Region.wanted oi (yielded l.toArray a.tmps) = true then Oper.wp P oi a w K' Q else K' (a.put oi.dst undef) w) :
    RegE P l.toArray Q S n (fuel + 1) listed a w := RegE.step (by rw [List.getElem?_toArray]; exact hi) hin hr h
theorem RegE.lastL {oi : Oper} {fuel : Nat} {listed : Array Bool} {a : Act} {w : World} (hi : l[n]? = some oi) (hr : Region.ready .any l.toArray listed = [n]) (hd : Region.ready .any l.toArray (listed.setIfInBounds n true) = [])
    (h : ∀ K' : Act → World → Prop, Shut (∀ a w, Q .normal a w → K' a w) → if Region.wanted oi (yielded l.toArray a.tmps) = true then Oper.wp P oi a w K' Q else K' (a.put oi.dst undef) w) :
    RegE P l.toArray Q S n (fuel + 1) listed a w := RegE.last (by rw [List.getElem?_toArray]; exact hi) hr hd h
end

end Go.Proofs.YtgfkglhelfkpoaaGreat

/- Walks of the reference's looks at rules: l05Plain, l05Has, l05Side. -/
namespace Go.Proofs.YtgfkglhelfkpoaaGreat
open Go.RowKit Plain

end Go.Proofs.YtgfkglhelfkpoaaGreat
