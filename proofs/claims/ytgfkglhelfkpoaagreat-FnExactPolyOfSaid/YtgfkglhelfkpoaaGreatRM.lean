/- Texts put together: WSv4, WSv5, WSv6, WSv7. -/
import Derived.Test.YtgfkglhelfkpoaaGreatRK

/- Walks of the reference's evaluator: all outputs of a function, calls and loops. -/
namespace Go.Proofs.YtgfkglhelfkpoaaGreat
open Go.RowKit Plain

end Go.Proofs.YtgfkglhelfkpoaaGreat

/- Walks of the reference's evaluator: calls and loops. -/
namespace Go.Proofs.YtgfkglhelfkpoaaGreat
open Go.RowKit Plain

/-- a function's place in memory -/
theorem fnAt {w : World} {B : Nat} {P : List Fn} {bp op m : Nat} {g : Fn} (h : PrAt w B P bp op) (hf : P[m]? = some g) : ∃ bP oP pcap KF cF, bp < B ∧ w.cell? ⟨bp, op, none⟩ = some (.slice (some ⟨bP, oP, none⟩) P.length pcap) ∧ bP < B ∧ w.cell? ⟨bP, oP + m * 3 + 2, none⟩ = some (.slice KF g.outs.len cF) ∧ g.outs.len ≤ cF ∧ cF ≤ maxLen ∧ ExSl w B g.outs KF ∧ pcap ≤ 9223372036854775807 := by
  obtain ⟨h0, A, cap, h1, h2, h3, h4⟩ := h
  obtain ⟨bP, oP, rfl, hb, _, _, _, KF, cF, g2, hc, hm, hk⟩ := h4.get hf
  exact ⟨bP, oP, cap, KF, cF, h0, h1, hb, g2, hc, hm, hk, by unfold maxLen at h3; omega⟩

end Go.Proofs.YtgfkglhelfkpoaaGreat

/- Walks of the reference's evaluator: loops. -/
namespace Go.Proofs.YtgfkglhelfkpoaaGreat
open Go.RowKit Plain

end Go.Proofs.YtgfkglhelfkpoaaGreat

/- The reference's evaluator, whole. -/
namespace Go.Proofs.YtgfkglhelfkpoaaGreat
open Go.RowKit Plain

end Go.Proofs.YtgfkglhelfkpoaaGreat
