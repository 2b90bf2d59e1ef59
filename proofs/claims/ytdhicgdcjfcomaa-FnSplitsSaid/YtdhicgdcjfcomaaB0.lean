/- Ground: lists of integers in memory, and small lemmas on worlds. No program is walked here. -/
import Derived.Test.YtdhicgdcjfcomaaRows
import Derived.WalkKit
import Derived.ProofKit
import Derived.OpenShut
import Derived.Lib.Hide
import Derived.Below
import Derived.Laws.OwnMore
import Derived.Laws.Rows
import Derived.Deep.AppendLies
import Derived.Deep.Draws
import Derived.Deep.OwnRows
import Derived.Deep.LoopGhost
import Derived.Deep.QuietTactic
import Derived.BigQuiet
import Derived.Outline
import Derived.WalkSpells
import Derived.WalkLawsBesides
import Derived.Handy
import Derived.Deep.RegionWith
import Derived.Deep.DeepFit
import Derived.Deep.DeepCutAuto
namespace Go.Proofs.Ytdhicgdcjfcomaa
open Go.RowKit

theorem ret_int {k : IntKind} {a b : Int} (h : a = b) : Ending.returned (.int k a) = .returned (.int k b) := by rw [h]
theorem ret_bool {a b : Bool} (h : a = b) : Ending.returned (.bool a) = .returned (.bool b) := by rw [h]

/-- the slice at A reads as the integers zs -/
def Ints (w : World) (A : Option Addr) (zs : List Int) : Prop :=
  0 < zs.length → ∃ b o, A = some ⟨b, o, none⟩ ∧ b < w.heap.size ∧ ∀ j x, zs[j]? = some x → w.cell? ⟨b, o + j, none⟩ = some (.int .i64 x)

theorem Ints.at_ {w : World} {A : Option Addr} {zs : List Int} {k : Nat} (h : Ints w A zs) (hk : k < zs.length) :
    ∃ b o x, A = some ⟨b, o, none⟩ ∧ zs[k]? = some x ∧ w.cell? ⟨b, o + k, none⟩ = some (.int .i64 x) := by
  obtain ⟨b, o, e, _, hc⟩ := h (by omega)
  exact ⟨b, o, zs[k], e, List.getElem?_eq_getElem hk, hc k _ (List.getElem?_eq_getElem hk)⟩
theorem Ints.below {w w' : World} {A : Option Addr} {zs : List Int} (h : Ints w A zs) (hb : Below w.heap.size w w') : Ints w' A zs := by
  intro hn
  obtain ⟨b, o, e, hl, hc⟩ := h hn
  exact ⟨b, o, e, Nat.lt_of_lt_of_le hl hb.size, fun j x hx => (hb.cell (p := ⟨b, o + j, none⟩) hl).trans (hc j x hx)⟩
theorem Ints.alloc {w : World} {A : Option Addr} {zs : List Int} (h : Ints w A zs) (o : Obj) : Ints (w.alloc o) A zs :=
  h.below ((Below.refl _ _).alloc (Nat.le_refl _) o)
theorem Ints.drewN {w : World} {A : Option Addr} {zs : List Int} (h : Ints w A zs) (n : Nat) : Ints (w.drewN n) A zs := h
theorem Ints.nil (w : World) (A : Option Addr) : Ints w A [] := fun h => absurd h (by simp)

/-- the block of a slice of integers that a call has made -/
def intsObj (t : TypeId) (zs : List Int) : Obj := .cells (zs.map (Value.int .i64)).toArray t

theorem Ints.new (w : World) (t : TypeId) (zs : List Int) : Ints (w.alloc (intsObj t zs)) (some ⟨w.heap.size, 0, none⟩) zs := by
  intro _
  refine ⟨_, _, rfl, by simp, fun j x hx => ?_⟩
  have hb : (w.alloc (intsObj t zs)).heap[w.heap.size]? = some (intsObj t zs) := heap_alloc_new w _
  rw [cell_of_row _ _ _ _ _ _ hb]
  simp [hx]

theorem take_snoc' {α : Type} (l : List α) (k : Nat) (x : α) (h : l[k]? = some x) : l.take (k + 1) = l.take k ++ [x] := by
  rw [List.take_add_one, h]; rfl

theorem madeCells_one (z : Value) (n : Nat) : madeCells #[z] n = (List.replicate n z).toArray := by
  apply Array.ext
  · simp [madeCells]
  · intro i h1 h2
    simp [madeCells, Nat.mod_one]

/-- w' is w but for draws -/
def Drawn (w w' : World) : Prop := ∃ n, w' = w.drewN n
theorem Drawn.refl (w : World) : Drawn w w := ⟨0, rfl⟩
theorem Drawn.trans {a b c : World} (h : Drawn a b) (k : Drawn b c) : Drawn a c := by
  obtain ⟨n, rfl⟩ := h
  obtain ⟨m, rfl⟩ := k
  exact ⟨n + m, by rw [World.drewN_drewN]⟩
theorem below_drewN' {B : Nat} {a w : World} (h : Below B a w) (n : Nat) : Below B a (w.drewN n) := ⟨h.os, h.tape, h.output, h.size, h.block⟩
theorem Drawn.below {w w' : World} (h : Drawn w w') (B : Nat) : Below B w w' := by
  obtain ⟨n, rfl⟩ := h
  exact below_drewN' (Below.refl _ _) n
theorem Drawn.of_eq {w w' : World} (h : w = w') : Drawn w w' := h ▸ Drawn.refl w

/-- a call of function f enters it -/
def Enters (f : Nat) : Prop := ∀ (args : Array Value) (w : World), (callFunc f args).run Try.prog w = .ok (.enter f args) w
theorem enters {f : Nat} {fn : Func} {c : Code} (hf : Try.prog.funcs[f]? = some fn) (hname : (fn.name == "runtime.NumGoroutine") = false) (hb : fn.body = some c) : Enters f := by
  intro args w
  have h1 : fn.name ≠ "runtime.NumGoroutine" := by simpa using hname
  simp [callFunc, hf, h1, hb]

theorem bnext {w a b : World} (h : Below w.heap.size w a) (k : Below a.heap.size a b) : Below w.heap.size w b := h.trans (k.mono h.size)

/-- out of the reading of an argument: a list of integers -/
theorem ints_of_cells {w : World} {x : Addr} {len cap : Nat} {z : List Int} (hl : len ≤ cap) (hz : z.length = cap)
    (hc : ∀ i, i < z.length → w.cell? (x.add i) = some (.int .i64 (z.getD i 0))) : ∃ zs : List Int, zs.length = len ∧ Ints w (some x) zs := by
  refine ⟨z.take len, by simp; omega, fun hn => ?_⟩
  have h0 : 0 < z.length := by simp at hn; omega
  obtain ⟨b, off, rfl, hc'⟩ := ints_at hc h0
  refine ⟨b, off, rfl, World.block_lt_of_cell? _ _ (by simpa using hc' 0 h0), fun j y hj => ?_⟩
  have hj' : j < z.length := by
    have := (List.getElem?_eq_some_iff.1 hj).1
    simp at this; omega
  rw [hc' j hj']
  rw [List.getElem?_take] at hj
  split at hj
  · simp [List.getD, hj]
  · simp at hj

/-- block g is just these cells, none frozen -/
def Cells (w : World) (g : Nat) (t : TypeId) (C : List Value) : Prop := w.heap[g]? = some (.cells C.toArray t (0, 0))
section
variable {w w' : World} {g : Nat} {t : TypeId} {C : List Value}
theorem Cells.lt (h : Cells w g t C) : g < w.heap.size := (Array.getElem?_eq_some_iff.1 h).1
theorem Cells.cell (h : Cells w g t C) (i : Nat) : w.cell? ⟨g, i, none⟩ = C[i]? := by
  rw [cell_of_row w g i _ t (0, 0) h]; simp
theorem Cells.frozen (h : Cells w g t C) (i : Nat) : w.frozen? ⟨g, i, none⟩ = false := by
  unfold Cells at h; simp [World.frozen?, h]
theorem Cells.new (w : World) (t : TypeId) (C : List Value) : Cells (w.alloc (.cells C.toArray t)) w.heap.size t C := heap_alloc_new w _
theorem Cells.below {B : Nat} (h : Cells w g t C) (hb : Below B w w') (hg : g < B) : Cells w' g t C := (hb.block g hg).trans h
theorem Cells.next (h : Cells w g t C) (hb : Below w.heap.size w w') : Cells w' g t C := h.below hb h.lt
theorem Cells.set_ (h : Cells w g t C) (i : Nat) (u : Value) : Cells (w.setCell ⟨g, i, none⟩ u) g t (C.set i u) := by
  unfold Cells at h ⊢
  simp [World.setCell, Array.getElem?_modify, h]
theorem Cells.far (h : Cells w g t C) {p : Addr} (hp : g ≠ p.block) (u : Value) : Cells (w.setCell p u) g t C := (Below.heap_setCell w p u g hp).trans h
theorem Cells.drewN (h : Cells w g t C) (n : Nat) : Cells (w.drewN n) g t C := h
end

theorem bdrew {w w1 : World} (h : Below w.drew.heap.size w.drew w1) : Below w.heap.size w w1 := ((Below.refl _ _).drew).trans h
theorem bdrewN {w w1 : World} {n : Nat} (h : Below (w.drewN n).heap.size (w.drewN n) w1) : Below w.heap.size w w1 := (below_drewN' (Below.refl _ _) n).trans h

theorem list_of {α : Type} (m : Nat) (Q : Nat → α → Prop) (h : ∀ i, i < m → ∃ x, Q i x) : ∃ l : List α, l.length = m ∧ ∀ j x, l[j]? = some x → Q j x := by
  induction m with
  | zero => exact ⟨[], rfl, fun j x hx => by simp at hx⟩
  | succ m ih =>
    obtain ⟨l, hl, hq⟩ := ih fun i hi => h i (by omega)
    obtain ⟨x, hx⟩ := h m (by omega)
    refine ⟨l ++ [x], by simp [hl], fun j y hy => ?_⟩
    by_cases hj : j < l.length
    · rw [List.getElem?_append_left hj] at hy
      exact hq j y hy
    · have hlt : j < (l ++ [x]).length := (List.getElem?_eq_some_iff.1 hy).1
      simp at hlt
      have hjm : j = m := by omega
      subst hjm
      rw [List.getElem?_append_right (by omega)] at hy
      simp [hl] at hy
      subst hy
      exact hx

theorem addr_add (b o j : Nat) : (Addr.mk b o none).add j = ⟨b, o + j, none⟩ := by
  unfold Addr.add
  by_cases h : j = 0 <;> simp [h]

end Go.Proofs.Ytdhicgdcjfcomaa
