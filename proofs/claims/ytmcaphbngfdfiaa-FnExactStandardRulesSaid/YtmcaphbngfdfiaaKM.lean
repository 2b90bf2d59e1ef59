/- Texts put together: WSv4, WSv5, WSv6, WSv7. -/
import Derived.Test.YtmcaphbngfdfiaaKK

/- Walks of the reference's evaluator: all outputs of a function, calls and loops. -/
namespace Go.Proofs.Ytmcaphbngfdfiaa
open Go.RowKit Plain

theorem elNext {w w' : World} {B bv n : Nat} {P : List Fn} {fn : Int} {es : Es} {K : Option Addr} {cap : Nat} {A : Option Addr} {env : List (List Int)} {ecap j b o : Nat} {x : Nd} (h : LsIn w B bv n P fn es K cap A env ecap) (ho : Only (fun q => q = bv) w w') (hx : es.get? j = some x) (he : ElAt w' B x.k x.n x.p x.c x.ks b o) : SdIn w' B bv n P fn x b o A env ecap :=
  ⟨he, h.envA.only ho, h.el, h.em, by have := h.big; have := Es.get?_depth hx; omega, by have := h.size; have := Es.get?_size hx; omega, h.form j _ hx, h.f0, h.f1⟩
end Go.Proofs.Ytmcaphbngfdfiaa

/- Walks of the reference's evaluator: calls and loops. -/
namespace Go.Proofs.Ytmcaphbngfdfiaa
open Go.RowKit Plain

theorem LoopR.step2 {n : Nat} {P : List Fn} {f : Nat} {outs : Es} {R : Res (List (List Int))} {q : Nat} {zs zs' : List (List Int)} {s s' c c' : Int} (h : LoopR n P f outs R (q + 1) zs s c) (hr : ResIs (evAC n P f c outs zs s.toNat) zs' s' c') : LoopR n P f outs R q zs' s' c' := by
  by_cases hc : c = 0
  · subst hc
    exact h.step hr
  · unfold evAC at hr
    rw [if_neg hc] at hr
    have : c' = c := hr
    subst this
    exact ⟨fun h0 => absurd h0 hc, fun _ => h.2 hc⟩
/-- a function's place in memory -/
theorem fnAt {w : World} {B : Nat} {P : List Fn} {bp op m : Nat} {g : Fn} (h : PrAt w B P bp op) (hf : P[m]? = some g) : ∃ bP oP pcap KF cF, bp < B ∧ w.cell? ⟨bp, op, none⟩ = some (.slice (some ⟨bP, oP, none⟩) P.length pcap) ∧ bP < B ∧ w.cell? ⟨bP, oP + m * 3 + 2, none⟩ = some (.slice KF g.outs.len cF) ∧ g.outs.len ≤ cF ∧ cF ≤ maxLen ∧ ExSl w B g.outs KF ∧ pcap ≤ 9223372036854775807 := by
  obtain ⟨h0, A, cap, h1, h2, h3, h4⟩ := h
  obtain ⟨bP, oP, rfl, hb, _, _, _, KF, cF, g2, hc, hm, hk⟩ := h4.get hf
  exact ⟨bP, oP, cap, KF, cF, h0, h1, hb, g2, hc, hm, hk, by unfold maxLen at h3; omega⟩

end Go.Proofs.Ytmcaphbngfdfiaa

/- Walks of the reference's evaluator: loops. -/
namespace Go.Proofs.Ytmcaphbngfdfiaa
open Go.RowKit Plain

end Go.Proofs.Ytmcaphbngfdfiaa

/- The reference's evaluator, whole. -/
namespace Go.Proofs.Ytmcaphbngfdfiaa
open Go.RowKit Plain

end Go.Proofs.Ytmcaphbngfdfiaa
