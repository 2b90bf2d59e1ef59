/- The program's plan, whole; the ground of the reference's plan. -/
import Derived.Test.YtdhicgdcjfcomaaWPlan3
import Derived.Test.YtdhicgdcjfcomaaWCost2
namespace Go.Proofs.Ytdhicgdcjfcomaa
open Go.RowKit Plain

section
variable (p : Nat) (A : Option Addr) (cap : Nat) (ws : List Int) (S : Nat) (rc rs base : Nat)

theorem planL_one (ws : List Int) (S f a b c : Nat) (held : Bool) (h : b = a + 1) : planL ws S (f + 1) a b c held = [(4, 0)] := by
  subst h
  simp only [planL]
  rw [if_neg (by omega), if_pos trivial]

end

theorem TabRd.below {w w' : World} {g C n : Nat} {lb lc : Nat → Nat} {rb : Nat → Nat → Nat} {V : Nat → Nat → Nat → Int} (h : TabRd w g C n lb lc rb V) (hb : Below w.heap.size w w') : TabRd w' g C n lb lc rb V :=
  ⟨fun i hi => (hb.cell (p := ⟨g, i, none⟩) (World.block_lt_of_cell? _ _ (h.c0 i hi))).trans (h.c0 i hi),
   fun i x hi hx => (hb.cell (p := ⟨lb i, x, none⟩) (World.block_lt_of_cell? _ _ (h.c1 i x hi hx))).trans (h.c1 i x hi hx),
   fun i x y hi hx hy => (hb.cell (p := ⟨rb i x, y, none⟩) (World.block_lt_of_cell? _ _ (h.c2 i x y hi hx hy))).trans (h.c2 i x y hi hx hy)⟩

theorem flatA_one {l : List (Int × Int)} : ∀ u ∈ flatA l, u.oneCell' = true := by
  induction l with
  | nil => intro u hu; cases hu
  | cons x l ih =>
    intro u hu
    simp only [flatA, List.mem_cons] at hu
    rcases hu with rfl | rfl | hu
    · rfl
    · rfl
    · exact ih u hu
theorem ActRow.news {w : World} {base cap : Nat} {A : Option Addr} {l : List (Int × Int)} (h : ActRow w base (.slice A l.length cap) l) (hn : 0 < l.length) :
    ∃ g, A = some ⟨g, 0, none⟩ ∧ ∀ j u, (flatA l)[j]? = some u → w.cell? ((Addr.mk g 0 none).add j) = some u := by
  obtain ⟨g, cap', hv, hb, hlt⟩ := World.ownsRow.form h hn
  have hA : A = some ⟨g, 0, none⟩ := by injection hv
  subst hA
  refine ⟨g, rfl, fun j u hj => ?_⟩
  have hj' : j < l.length * 2 := by
    have := (List.getElem?_eq_some_iff.1 hj).1
    rwa [flatA_length] at this
  rw [addr_add, Nat.zero_add, World.ownsRow.cellAt h j hj']
  exact hj
theorem ActRow.pushL {w2 : World} {base : Nat} {v2 : Value} {out l : List (Int × Int)} {n m : Nat} (hn : n = out.length) (hm : m = l.length)
    (hown : w2.ownsRow base 61 2 v2 (n + m) (flatA out ++ flatA l)) : ActRow w2 base v2 (out ++ l) := by
  unfold ActRow
  rw [flatA_append, List.length_append, ← hn, ← hm]
  exact hown
theorem ActRow.grownB {wr w2 : World} {base : Nat} {v : Value} {out : List (Int × Int)} {W : World} (hb : Below base W wr) (hR : ActRow wr base v out) (hB : base ≤ wr.heap.size) (o : Obj) (hg : (wr.alloc o).grownBy w2 v.ownBlock) : Below base W w2 :=
  (hb.alloc hB o).grown hg (by simp; omega) (fun q hq => (hR.lt hq).1)
theorem ActRow.grownB' {wr w2 : World} {base : Nat} {v : Value} {out : List (Int × Int)} {W : World} (hb : Below base W wr) (hR : ActRow wr base v out) (hB : base ≤ wr.heap.size) (hg : wr.grownBy w2 v.ownBlock) : Below base W w2 :=
  hb.grown hg hB (fun q hq => (hR.lt hq).1)

/-- what a call that makes a list of actions comes to -/
def RowPost (l : List (Int × Int)) (w : World) (e : Ending) (w' : World) : Prop :=
  ∃ Av cp, e = .returned (.slice Av l.length cp) ∧ ActRow w' w.heap.size (.slice Av l.length cp) l ∧ Below w.heap.size w w'

theorem planL_pos {ws : List Int} {S f a b c : Nat} {held : Bool} (h : a < b) (hf : b - a ≤ f) : 0 < (planL ws S f a b c held).length := by
  cases f with
  | zero => omega
  | succ f =>
    simp only [planL]
    rw [if_neg (by omega)]
    split
    · simp
    · cases held <;> simp <;> omega

end Go.Proofs.Ytdhicgdcjfcomaa
