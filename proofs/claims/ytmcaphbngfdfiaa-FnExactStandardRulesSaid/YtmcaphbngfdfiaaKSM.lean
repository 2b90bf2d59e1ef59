/- Texts put together: WRuleS2, WRuleS3. -/
import Derived.Test.YtmcaphbngfdfiaaKSL
import Derived.Test.YtmcaphbngfdfiaaKSH
import Derived.Test.YtmcaphbngfdfiaaKZ1

/- Walks of the reference's variables of a side: l02Free, l05Occurs. -/
namespace Go.Proofs.Ytmcaphbngfdfiaa
open Go.RowKit Plain

def FreePost (bo : Nat) (l : List Int) (w : World) (e : Ending) (w' : World) : Prop :=
  e = .returned (.bool true) ∧ (∃ A cap, w'.cell? ⟨bo, 0, none⟩ = some (.slice A l.length cap) ∧ w'.frozen? ⟨bo, 0, none⟩ = false ∧ Ints w' A l) ∧ Only (fun q => q = bo) w w'
theorem ints_set {w : World} {A : Option Addr} {l : List Int} {bo n c : Nat} {S : Option Addr} (h : Ints w A l) (hc : w.cell? ⟨bo, 0, none⟩ = some (.slice S n c)) (x : Value) : Ints (w.setCell ⟨bo, 0, none⟩ x) A l := fun hn => by
  obtain ⟨b, o, e, hb, hcs⟩ := h hn
  refine ⟨b, o, e, by simpa [World.setCell] using hb, fun j y hy => ?_⟩
  have h1 := hcs j y hy
  rw [World.cell?_setCell_other _ _ _ _ (fun e => ?_)]
  · exact h1
  · rw [← e, hc] at h1
    injection h1 with h1; cases h1
theorem setCell_self {w : World} {a : Addr} {v : Value} (h : w.cell? a = some v) (hf : w.frozen? a = false) (x : Value) : (w.setCell a x).cell? a = some x ∧ (w.setCell a x).frozen? a = false := by
  refine ⟨?_, ?_⟩
  · exact World.cell?_setCell_same' w a x (by rw [h]; rfl)
  · rw [World.frozen?_setCell]; exact hf

end Go.Proofs.Ytmcaphbngfdfiaa

/- Walks of the reference's looks at rules: l05Side, l05RuleOk. -/
namespace Go.Proofs.Ytmcaphbngfdfiaa
open Go.RowKit Plain

theorem prAt_empty {w : World} {b o B : Nat} (hb : b < B) (h : w.cell? ⟨b, o, none⟩ = some (.slice none 0 0)) : PrAt w B [] b o :=
  ⟨hb, none, 0, h, Nat.le_refl _, by unfold maxLen; omega, 0, 0, fun h => by simp at h, trivial⟩
theorem sideOk_size {x : Nd} {v : Int} (h : ¬ x.size ≤ 40) : sideOk x v = false := by unfold sideOk; simp; intro _ h'; exact absurd h' h
theorem sideOk_plain {x : Nd} {v : Int} (h : x.plain = false) : sideOk x v = false := by unfold sideOk; simp [h]
theorem sideOk_rest {x : Nd} {v : Int} (h1 : x.size ≤ 40) (h2 : x.plain = true) : sideOk x v = exprOk [] x v 0 := by unfold sideOk; simp [h1, h2]

/-- a rule in memory: its variables, its sides -/
structure RuleAt (w : World) (B : Nat) (v : Int) (l r : Nd) (b o : Nat) : Prop where
  vars : w.cell? ⟨b, o, none⟩ = some (.int .i64 v)
  left : ElAt w B l.k l.n l.p l.c l.ks b (o + 1)
  right : ElAt w B r.k r.n r.p r.c r.ks b (o + 6)
theorem RuleAt.below {w w' : World} {B : Nat} {v : Int} {l r : Nd} {b o : Nat} (h : RuleAt w B v l r b o) (hb : Below B w w') : RuleAt w' B v l r b o :=
  ⟨(hb.cell (p := ⟨b, o, none⟩) h.left.1).trans h.vars, h.left.below hb, h.right.below hb⟩
theorem RuleAt.mono {w : World} {B B' : Nat} {v : Int} {l r : Nd} {b o : Nat} (h : RuleAt w B v l r b o) (hb : B ≤ B') : RuleAt w B' v l r b o := ⟨h.vars, h.left.mono hb, h.right.mono hb⟩
theorem sideOk_parts {x : Nd} {v : Int} (h : sideOk x v = true) : x.ks.size ≤ 39 ∧ x.plain = true ∧ formed [] 0 v x = true ∧ 0 ≤ v ∧ v ≤ 412 := by
  unfold sideOk exprOk at h
  simp only [Bool.and_eq_true, decide_eq_true_eq] at h
  have h2 := h.1.2
  unfold Nd.size at h2
  have h3 := inR_true.1 h.1.1.1.1.1.1
  exact ⟨by omega, h.2, h.1.1.2, h3.1, h3.2⟩

end Go.Proofs.Ytmcaphbngfdfiaa
