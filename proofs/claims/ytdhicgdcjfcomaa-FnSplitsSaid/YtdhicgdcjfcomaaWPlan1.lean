/- Ground of plan: the planner beside rows of a call's own; what an append of one action leaves. -/
import Derived.Test.YtdhicgdcjfcomaaWPlan0
namespace Go.Proofs.Ytdhicgdcjfcomaa
open Go.RowKit Plain

theorem PlanAt.high {w w' : World} {p base : Nat} {A : Option Addr} {cap : Nat} {ws : List Int} {slots : Int} {rc rs : Nat} {mc ms : List ((Int × Int × Int) × Value)}
    (h : PlanAt w p A cap ws slots rc rs mc ms) (hb : ∀ k, k < base → k < w.heap.size → w'.heap[k]? = w.heap[k]?) (hsz : w.heap.size ≤ w'.heap.size) (hp : p < base) (hc : rc < base) (hs : rs < base)
    (hA : ∀ q, InB ws.length A q → q < base) : PlanAt w' p A cap ws slots rc rs mc ms := by
  have hlt : p < w.heap.size := World.block_lt_of_cell? _ _ h.f0
  have cl : ∀ i, w'.cell? ⟨p, i, none⟩ = w.cell? ⟨p, i, none⟩ := fun i => World.cell?_of_block (w := w) (a := ⟨p, i, none⟩) (hb p hp hlt)
  refine ⟨(cl 0).trans h.f0, (cl 1).trans h.f1, (cl 2).trans h.f2, (cl 3).trans h.f3, h.ne, ?_, (hb _ hc h.mapc.lt).trans h.mapc, (hb _ hs h.maps.lt).trans h.maps, h.memo⟩
  intro hn
  obtain ⟨b, o, e, hl, hcs⟩ := h.ints hn
  exact ⟨b, o, e, Nat.lt_of_lt_of_le hl hsz, fun j x hx => (World.cell?_of_block (w := w) (a := ⟨b, o + j, none⟩) (hb b (hA b ⟨hn, o, e⟩) hl)).trans (hcs j x hx)⟩

theorem Only.of_grown {wr w2 : World} {v : Value} (h : wr.grownBy w2 v.ownBlock) : Only (fun q => v.ownBlock = some q) wr w2 :=
  ⟨h.os, h.tape, h.output, h.size, fun k hk hs => h.block k hk (fun e => hs e.symm)⟩

/-- behind an append of one action -/
theorem ActRow.ownN {w : World} {base : Nat} {v : Value} {l : List (Int × Int)} (h : ActRow w base v l) {n : Nat} (hn : n = l.length) : w.ownsRow base 61 2 v n (flatA l) := by rw [hn]; exact h
theorem ActRow.push {wr w2 : World} {base : Nat} {v v2 : Value} {out : List (Int × Int)} {k a : Int} (o : Obj) {n : Nat} (hn : n = out.length)
    (hown : w2.ownsRow base 61 2 v2 (n + 1) (flatA out ++ [.int .i64 k, .int .i64 a])) (hg : (wr.alloc o).grownBy w2 v.ownBlock) :
    ActRow w2 base v2 (out ++ [(k, a)]) ∧ Only (fun q => v.ownBlock = some q) wr w2 := by
  refine ⟨?_, ?_⟩
  · unfold ActRow
    rw [flatA_append, List.length_append, ← hn]
    exact hown
  · exact (Only.of_below ((Below.refl _ _).alloc (Nat.le_refl _) o)).trans (Only.of_grown hg)

/-- the two maps' blocks, and those from base on -/
def TwoB (rc rs base k : Nat) : Prop := Two rc rs k ∨ base ≤ k
theorem Only.of_two {rc rs base : Nat} {w w' : World} (h : Only (Two rc rs) w w') : Only (TwoB rc rs base) w w' := (Only.refl _ w).chain h (fun _ _ hq => .inl hq)
theorem Only.pushed {rc rs base : Nat} {w0 w w2 : World} {v : Value} {out : List (Int × Int)} (h : Only (TwoB rc rs base) w0 w) (hR : ActRow w base v out) (hO : Only (fun q => v.ownBlock = some q) w w2) : Only (TwoB rc rs base) w0 w2 :=
  h.chain hO (fun _ _ hq => .inr (hR.lt hq).1)
theorem PlanAt.pushed {w w2 : World} {p base : Nat} {A : Option Addr} {cap : Nat} {ws : List Int} {slots : Int} {rc rs : Nat} {mc ms : List ((Int × Int × Int) × Value)} {v : Value} {out : List (Int × Int)}
    (h : PlanAt w p A cap ws slots rc rs mc ms) (hR : ActRow w base v out) (hO : Only (fun q => v.ownBlock = some q) w w2) (hp : p < base) (hc : rc < base) (hs : rs < base)
    (hA : ∀ q, InB ws.length A q → q < base) : PlanAt w2 p A cap ws slots rc rs mc ms :=
  h.high (fun k hk hkl => hO.block k hkl (fun hq => by have := (hR.lt hq).1; omega)) hO.size hp hc hs hA

/-- what plan comes to -/
def PlanPost (p : Nat) (A : Option Addr) (cap : Nat) (ws : List Int) (S : Int) (rc rs base : Nat) (l : List (Int × Int)) (w : World) (e : Ending) (w' : World) : Prop :=
  ∃ Av c', e = .returned (.slice Av l.length c') ∧ ActRow w' base (.slice Av l.length c') l ∧ (∃ mc ms, PlanAt w' p A cap ws S rc rs mc ms) ∧ Only (TwoB rc rs base) w w'

end Go.Proofs.Ytdhicgdcjfcomaa
