/- Texts put together: B0, WMaps, B2, WInts, WChoose, WReach, WActs, WField, WMark, WStep, WIntRow. -/
import Derived.Test.YtmcaphbngfdfiaaRows
import Derived.WalkKit
import Derived.ProofKit
import Derived.OpenShut
import Derived.Lib.Hide
import Derived.Below
import Derived.Laws.OwnMore
import Derived.Laws.Rows
import Derived.Deep.AppendLies
import Derived.Deep.Draws
import Derived.Deep.OwnRows
import Derived.Deep.LoopGhost
import Derived.Deep.QuietTactic
import Derived.BigQuiet
import Derived.Outline
import Derived.WalkSpells
import Derived.WalkLawsBesides
import Derived.Handy
import Derived.Deep.RegionWith
import Derived.Deep.DeepFit
import Derived.Deep.DeepCutAuto
import Derived.Maps.Keyed
import Derived.MapKept
import Derived.Test.YtmcaphbngfdfiaaKA
import Derived.Deep.RegionLaw

/- Ground: lists of integers in memory, and small lemmas on worlds. No program is walked here. -/
namespace Go.Proofs.Ytmcaphbngfdfiaa
open Go.RowKit

theorem ret_int {k : IntKind} {a b : Int} (h : a = b) : Ending.returned (.int k a) = .returned (.int k b) := by rw [h]
theorem ret_bool {a b : Bool} (h : a = b) : Ending.returned (.bool a) = .returned (.bool b) := by rw [h]

/-- the slice at A reads as the integers zs -/
def Ints (w : World) (A : Option Addr) (zs : List Int) : Prop :=
  0 < zs.length → ∃ b o, A = some ⟨b, o, none⟩ ∧ b < w.heap.size ∧ ∀ j x, zs[j]? = some x → w.cell? ⟨b, o + j, none⟩ = some (.int .i64 x)

theorem Ints.at_ {w : World} {A : Option Addr} {zs : List Int} {k : Nat} (h : Ints w A zs) (hk : k < zs.length) :
    ∃ b o x, A = some ⟨b, o, none⟩ ∧ zs[k]? = some x ∧ w.cell? ⟨b, o + k, none⟩ = some (.int .i64 x) := by
  obtain ⟨b, o, e, _, hc⟩ := h (by omega)
  exact ⟨b, o, zs[k], e, List.getElem?_eq_getElem hk, hc k _ (List.getElem?_eq_getElem hk)⟩
theorem Ints.below {w w' : World} {A : Option Addr} {zs : List Int} (h : Ints w A zs) (hb : Below w.heap.size w w') : Ints w' A zs := by
  intro hn
  obtain ⟨b, o, e, hl, hc⟩ := h hn
  exact ⟨b, o, e, Nat.lt_of_lt_of_le hl hb.size, fun j x hx => (hb.cell (p := ⟨b, o + j, none⟩) hl).trans (hc j x hx)⟩
theorem Ints.alloc {w : World} {A : Option Addr} {zs : List Int} (h : Ints w A zs) (o : Obj) : Ints (w.alloc o) A zs :=
  h.below ((Below.refl _ _).alloc (Nat.le_refl _) o)
theorem Ints.drewN {w : World} {A : Option Addr} {zs : List Int} (h : Ints w A zs) (n : Nat) : Ints (w.drewN n) A zs := h
theorem Ints.nil (w : World) (A : Option Addr) : Ints w A [] := fun h => absurd h (by simp)

/-- the block of a slice of integers that a call has made -/
def intsObj (t : TypeId) (zs : List Int) : Obj := .cells (zs.map (Value.int .i64)).toArray t

theorem Ints.new (w : World) (t : TypeId) (zs : List Int) : Ints (w.alloc (intsObj t zs)) (some ⟨w.heap.size, 0, none⟩) zs := by
  intro _
  refine ⟨_, _, rfl, by simp, fun j x hx => ?_⟩
  have hb : (w.alloc (intsObj t zs)).heap[w.heap.size]? = some (intsObj t zs) := heap_alloc_new w _
  rw [cell_of_row _ _ _ _ _ _ hb]
  simp [hx]

theorem take_snoc' {α : Type} (l : List α) (k : Nat) (x : α) (h : l[k]? = some x) : l.take (k + 1) = l.take k ++ [x] := by
  rw [List.take_add_one, h]; rfl

theorem madeCells_one (z : Value) (n : Nat) : madeCells #[z] n = (List.replicate n z).toArray := by
  apply Array.ext
  · simp [madeCells]
  · intro i h1 h2
    simp [madeCells, Nat.mod_one]

/-- w' is w but for draws -/
def Drawn (w w' : World) : Prop := ∃ n, w' = w.drewN n
theorem Drawn.refl (w : World) : Drawn w w := ⟨0, rfl⟩
theorem Drawn.trans {a b c : World} (h : Drawn a b) (k : Drawn b c) : Drawn a c := by
  obtain ⟨n, rfl⟩ := h
  obtain ⟨m, rfl⟩ := k
  exact ⟨n + m, by rw [World.drewN_drewN]⟩
theorem below_drewN' {B : Nat} {a w : World} (h : Below B a w) (n : Nat) : Below B a (w.drewN n) := ⟨h.os, h.tape, h.output, h.size, h.block⟩
theorem Drawn.below {w w' : World} (h : Drawn w w') (B : Nat) : Below B w w' := by
  obtain ⟨n, rfl⟩ := h
  exact below_drewN' (Below.refl _ _) n
theorem Drawn.of_eq {w w' : World} (h : w = w') : Drawn w w' := h ▸ Drawn.refl w

/-- a call of function f enters it -/
def Enters (f : Nat) : Prop := ∀ (args : Array Value) (w : World), (callFunc f args).run Try.prog w = .ok (.enter f args) w
theorem enters {f : Nat} {fn : Func} {c : Code} (hf : Try.prog.funcs[f]? = some fn) (hname : (fn.name == "runtime.NumGoroutine") = false) (hb : fn.body = some c) : Enters f := by
  intro args w
  have h1 : fn.name ≠ "runtime.NumGoroutine" := by simpa using hname
  simp [callFunc, hf, h1, hb]

theorem bnext {w a b : World} (h : Below w.heap.size w a) (k : Below a.heap.size a b) : Below w.heap.size w b := h.trans (k.mono h.size)

/-- out of the reading of an argument: a list of integers -/
theorem ints_of_cells {w : World} {x : Addr} {len cap : Nat} {z : List Int} (hl : len ≤ cap) (hz : z.length = cap)
    (hc : ∀ i, i < z.length → w.cell? (x.add i) = some (.int .i64 (z.getD i 0))) : ∃ zs : List Int, zs.length = len ∧ Ints w (some x) zs := by
  refine ⟨z.take len, by simp; omega, fun hn => ?_⟩
  have h0 : 0 < z.length := by simp at hn; omega
  obtain ⟨b, off, rfl, hc'⟩ := ints_at hc h0
  refine ⟨b, off, rfl, World.block_lt_of_cell? _ _ (by simpa using hc' 0 h0), fun j y hj => ?_⟩
  have hj' : j < z.length := by
    have := (List.getElem?_eq_some_iff.1 hj).1
    simp at this; omega
  rw [hc' j hj']
  rw [List.getElem?_take] at hj
  split at hj
  · simp [List.getD, hj]
  · simp at hj

/-- block g is just these cells, none frozen -/
def Cells (w : World) (g : Nat) (t : TypeId) (C : List Value) : Prop := w.heap[g]? = some (.cells C.toArray t (0, 0))
section
variable {w w' : World} {g : Nat} {t : TypeId} {C : List Value}
theorem Cells.lt (h : Cells w g t C) : g < w.heap.size := (Array.getElem?_eq_some_iff.1 h).1
theorem Cells.cell (h : Cells w g t C) (i : Nat) : w.cell? ⟨g, i, none⟩ = C[i]? := by
  rw [cell_of_row w g i _ t (0, 0) h]; simp
theorem Cells.frozen (h : Cells w g t C) (i : Nat) : w.frozen? ⟨g, i, none⟩ = false := by
  unfold Cells at h; simp [World.frozen?, h]
theorem Cells.new (w : World) (t : TypeId) (C : List Value) : Cells (w.alloc (.cells C.toArray t)) w.heap.size t C := heap_alloc_new w _
theorem Cells.below {B : Nat} (h : Cells w g t C) (hb : Below B w w') (hg : g < B) : Cells w' g t C := (hb.block g hg).trans h
theorem Cells.next (h : Cells w g t C) (hb : Below w.heap.size w w') : Cells w' g t C := h.below hb h.lt
theorem Cells.set_ (h : Cells w g t C) (i : Nat) (u : Value) : Cells (w.setCell ⟨g, i, none⟩ u) g t (C.set i u) := by
  unfold Cells at h ⊢
  simp [World.setCell, Array.getElem?_modify, h]
theorem Cells.far (h : Cells w g t C) {p : Addr} (hp : g ≠ p.block) (u : Value) : Cells (w.setCell p u) g t C := (Below.heap_setCell w p u g hp).trans h
theorem Cells.drewN (h : Cells w g t C) (n : Nat) : Cells (w.drewN n) g t C := h
end

theorem bdrew {w w1 : World} (h : Below w.drew.heap.size w.drew w1) : Below w.heap.size w w1 := ((Below.refl _ _).drew).trans h
theorem bdrewN {w w1 : World} {n : Nat} (h : Below (w.drewN n).heap.size (w.drewN n) w1) : Below w.heap.size w w1 := (below_drewN' (Below.refl _ _) n).trans h

theorem list_of {α : Type} (m : Nat) (Q : Nat → α → Prop) (h : ∀ i, i < m → ∃ x, Q i x) : ∃ l : List α, l.length = m ∧ ∀ j x, l[j]? = some x → Q j x := by
  induction m with
  | zero => exact ⟨[], rfl, fun j x hx => by simp at hx⟩
  | succ m ih =>
    obtain ⟨l, hl, hq⟩ := ih fun i hi => h i (by omega)
    obtain ⟨x, hx⟩ := h m (by omega)
    refine ⟨l ++ [x], by simp [hl], fun j y hy => ?_⟩
    by_cases hj : j < l.length
    · rw [List.getElem?_append_left hj] at hy
      exact hq j y hy
    · have hlt : j < (l ++ [x]).length := (List.getElem?_eq_some_iff.1 hy).1
      simp at hlt
      have hjm : j = m := by omega
      subst hjm
      rw [List.getElem?_append_right (by omega)] at hy
      simp [hl] at hy
      subst hy
      exact hx

theorem addr_add (b o j : Nat) : (Addr.mk b o none).add j = ⟨b, o + j, none⟩ := by
  unfold Addr.add
  by_cases h : j = 0 <;> simp [h]

end Go.Proofs.Ytmcaphbngfdfiaa

/- Maps in memory as lists of pairs; keys that are integers, or three integers. -/
namespace Go.Proofs.Ytmcaphbngfdfiaa
open Go.RowKit

abbrev key3 (a b c : Int) : Value := .agg #[.int .i64 a, .int .i64 b, .int .i64 c]

theorem eqI (d : Nat) (a b : Int) (w : World) : (Op.equalIn (d + 1) 2 (.int .i64 a) (.int .i64 b)).run Try.prog w = .ok (a == b) w := by
  simp [Op.equalIn, run_underlying Try.underlying2]

/-- the entries of a map in the order in which they came -/
def entsFrom {κ : Type} (enc : κ → Value) : Nat → List (κ × Value) → List MapEntry
  | _, [] => []
  | i, p :: l => { key := enc p.1, val := p.2, born := i } :: entsFrom enc (i + 1) l

theorem entsFrom_get {κ : Type} (enc : κ → Value) (l : List (κ × Value)) (i j : Nat) : (entsFrom enc i l)[j]? = (l[j]?).map fun p => { key := enc p.1, val := p.2, born := i + j } := by
  induction l generalizing i j with
  | nil => simp [entsFrom]
  | cons p l ih =>
    cases j with
    | zero => simp [entsFrom]
    | succ j => simp [entsFrom, ih]; cases l[j]? <;> simp; omega
theorem entsFrom_length {κ : Type} (enc : κ → Value) (l : List (κ × Value)) (i : Nat) : (entsFrom enc i l).length = l.length := by
  induction l generalizing i with
  | nil => rfl
  | cons p l ih => simp [entsFrom, ih]

/-- block r is a map with these entries -/
def MapAt {κ : Type} (enc : κ → Value) (w : World) (r : Nat) (m : List (κ × Value)) : Prop := w.heap[r]? = some (.map (entsFrom enc 0 m).toArray m.length)

/-- where a key stands, and its value -/
def findE {κ : Type} [DecidableEq κ] (k : κ) : List (κ × Value) → Nat → Option (Nat × Value)
  | [], _ => none
  | p :: l, i => if k = p.1 then some (i, p.2) else findE k l (i + 1)

/-- what a key of this kind does -/
structure KLaw (kt : TypeId) {κ : Type} [DecidableEq κ] (enc : κ → Value) : Prop where
  check : ∀ (em : Bool) (k : κ) (w : World), (Instr.checkKey em 10000 kt (enc k)).run Try.prog w = .ok () w
  find : ∀ (k : κ) (m : List (κ × Value)) (w : World), (Instr.findKey kt (enc k) (entsFrom enc 0 m)).run Try.prog w = .ok (findE k m 0) w
  stays : ∀ (k : κ) (w : World), (Instr.keyThatStays (enc k) (enc k)).run Try.prog w = .ok (enc k) w

theorem findE_spec {κ : Type} [DecidableEq κ] (k : κ) (m : List (κ × Value)) (i : Nat) :
    (findE k m i = none ∧ ∀ p ∈ m, p.1 ≠ k) ∨ ∃ j v, findE k m i = some (i + j, v) ∧ m[j]? = some (k, v) := by
  induction m generalizing i with
  | nil => exact .inl ⟨rfl, fun p hp => by cases hp⟩
  | cons p l ih =>
    unfold findE
    by_cases h : k = p.1
    · rw [if_pos h]
      exact .inr ⟨0, p.2, rfl, by simp [h]⟩
    · rw [if_neg h]
      rcases ih (i + 1) with ⟨h1, h2⟩ | ⟨j, v, h1, h2⟩
      · exact .inl ⟨h1, fun q hq => by rcases List.mem_cons.1 hq with rfl | hq; exact fun e => h e.symm; exact h2 q hq⟩
      · exact .inr ⟨j + 1, v, by rw [h1]; congr 2; omega, by simpa using h2⟩

/-- the value at a key -/
def getE {κ : Type} [DecidableEq κ] (k : κ) (m : List (κ × Value)) : Option Value := (findE k m 0).map (·.2)

/-- a map with a key's value put -/
def putE {κ : Type} [DecidableEq κ] (k : κ) (v : Value) (m : List (κ × Value)) : List (κ × Value) :=
  match findE k m 0 with
  | some (i, _) => m.set i (k, v)
  | none => m ++ [(k, v)]

theorem findE_append_self {κ : Type} [DecidableEq κ] (k : κ) (v : Value) (m : List (κ × Value)) (i : Nat) (h : ∀ p ∈ m, p.1 ≠ k) : findE k (m ++ [(k, v)]) i = some (i + m.length, v) := by
  induction m generalizing i with
  | nil => simp [findE]
  | cons p l ih =>
    have := h p List.mem_cons_self
    simp only [List.cons_append, findE, if_neg (Ne.symm this)]
    rw [ih (i + 1) fun q hq => h q (List.mem_cons_of_mem _ hq)]
    simp; omega
theorem findE_append_other {κ : Type} [DecidableEq κ] (k k' : κ) (v : Value) (m : List (κ × Value)) (i : Nat) (h : k' ≠ k) : findE k' (m ++ [(k, v)]) i = findE k' m i := by
  induction m generalizing i with
  | nil => simp [findE, h]
  | cons p l ih => simp only [List.cons_append, findE, ih]
theorem findE_set_self {κ : Type} [DecidableEq κ] (k : κ) (v v0 : Value) (m : List (κ × Value)) (i j : Nat) (h : findE k m i = some (i + j, v0)) : findE k (m.set j (k, v)) i = some (i + j, v) := by
  induction m generalizing i j with
  | nil => simp [findE] at h
  | cons p l ih =>
    unfold findE at h
    by_cases hk : k = p.1
    · rw [if_pos hk] at h
      have : j = 0 := by simp at h; omega
      subst this
      simp [findE]
    · rw [if_neg hk] at h
      cases j with
      | zero =>
        rcases findE_spec k l (i + 1) with ⟨h1, _⟩ | ⟨j, v', h1, _⟩
        · rw [h1] at h; cases h
        · rw [h1] at h; simp at h; omega
      | succ j =>
        simp only [List.set_cons_succ, findE, if_neg hk]
        rw [ih (i + 1) j (by rw [h]; congr 2; omega)]
        congr 2; omega
theorem findE_set_other {κ : Type} [DecidableEq κ] (k k' : κ) (v v0 : Value) (m : List (κ × Value)) (i j : Nat) (h : m[j]? = some (k, v0)) (hk : k' ≠ k) : findE k' (m.set j (k, v)) i = findE k' m i := by
  induction m generalizing i j with
  | nil => simp
  | cons p l ih =>
    cases j with
    | zero =>
      have : p = (k, v0) := by simpa using h
      subst this
      simp [findE, hk]
    | succ j => simp only [List.set_cons_succ, findE]; rw [ih (i + 1) j (by simpa using h)]

theorem getE_put_self {κ : Type} [DecidableEq κ] (k : κ) (v : Value) (m : List (κ × Value)) : getE k (putE k v m) = some v := by
  unfold putE getE
  rcases findE_spec k m 0 with ⟨h1, h2⟩ | ⟨j, v0, h1, h2⟩
  · rw [h1]; simp only []; rw [findE_append_self k v m 0 h2]; rfl
  · rw [h1]; simp only []
    rw [show 0 + j = j by omega]
    rw [findE_set_self k v v0 m 0 j (by rw [h1])]; rfl
theorem getE_put_other {κ : Type} [DecidableEq κ] (k k' : κ) (v : Value) (m : List (κ × Value)) (h : k' ≠ k) : getE k' (putE k v m) = getE k' m := by
  unfold putE getE
  rcases findE_spec k m 0 with ⟨h1, h2⟩ | ⟨j, v0, h1, h2⟩
  · rw [h1]; simp only []; rw [findE_append_other k k' v m 0 h]
  · rw [h1]; simp only []
    rw [show 0 + j = j by omega, findE_set_other k k' v v0 m 0 j h2 h]

/-- a world with a map's block set -/
def setM {κ : Type} (enc : κ → Value) (w : World) (r : Nat) (m : List (κ × Value)) : World := { w with heap := w.heap.setIfInBounds r (.map (entsFrom enc 0 m).toArray m.length) }

theorem setM_at {κ : Type} {enc : κ → Value} {w : World} {r : Nat} (m : List (κ × Value)) (h : r < w.heap.size) : MapAt enc (setM enc w r m) r m := by
  simp [MapAt, setM, h]
theorem setM_other {κ : Type} {enc : κ → Value} {w : World} {r : Nat} (m : List (κ × Value)) {k : Nat} (h : k ≠ r) : (setM enc w r m).heap[k]? = w.heap[k]? := by
  simp [setM, Ne.symm h]
theorem setM_cell {κ : Type} {enc : κ → Value} {w : World} {r : Nat} (m : List (κ × Value)) {a : Addr} (h : a.block ≠ r) : (setM enc w r m).cell? a = w.cell? a :=
  World.cell?_of_block (setM_other m h)
theorem setM_size {κ : Type} {enc : κ → Value} {w : World} {r : Nat} (m : List (κ × Value)) : (setM enc w r m).heap.size = w.heap.size := by simp [setM]
theorem setM_setM {κ : Type} {enc : κ → Value} {w : World} {r : Nat} (m m' : List (κ × Value)) : setM enc (setM enc w r m) r m' = setM enc w r m' := by
  simp [setM]
theorem MapAt.lt {κ : Type} {enc : κ → Value} {w : World} {r : Nat} {m : List (κ × Value)} (h : MapAt enc w r m) : r < w.heap.size := (Array.getElem?_eq_some_iff.1 h).1

section
variable {κ : Type} [DecidableEq κ] {enc : κ → Value} {kt T et : TypeId} (K : KLaw kt enc) (hT : Try.prog.underlying T = some (.map kt et)) {z : Value} (hz : ∀ w : World, (zeroValue et).run Try.prog w = .ok z w)
  {w : World} {r : Nat} {m : List (κ × Value)} (hm : MapAt enc w r m)
include K hT hz hm

theorem run_lookup_ok (k : κ) : (Instr.lookup T (.map (some r)) (enc k) true).run Try.prog w = .ok (.tuple #[(getE k m).getD z, .bool (getE k m).isSome]) w := by
  unfold MapAt at hm
  unfold getE
  cases hf : findE k m 0 <;>
    simp [Instr.lookup, run_underlying hT, MapKept.run_getObj_map hm, K.check, K.find, hf, hz, Result.andThen]
theorem run_lookup_plain (k : κ) : (Instr.lookup T (.map (some r)) (enc k) false).run Try.prog w = .ok ((getE k m).getD z) w := by
  unfold MapAt at hm
  unfold getE
  cases hf : findE k m 0 <;>
    simp [Instr.lookup, run_underlying hT, MapKept.run_getObj_map hm, K.check, K.find, hf, hz, Result.andThen]
end

theorem mset_modify {κ : Type} {enc : κ → Value} {m : List (κ × Value)} {j : Nat} {k : κ} {v0 : Value} (v : Value) (h : m[j]? = some (k, v0)) (f : MapEntry → MapEntry) (hf : f { key := enc k, val := v0, born := j } = { key := enc k, val := v, born := j }) :
    (entsFrom enc 0 m).modify j f = entsFrom enc 0 (m.set j (k, v)) := by
  apply List.ext_getElem?
  intro i
  rw [List.getElem?_modify]
  simp only [entsFrom_get]
  by_cases e : j = i
  · subst e
    have hj : j < m.length := (List.getElem?_eq_some_iff.1 h).1
    rw [h, List.getElem?_set_self hj]
    simp [hf]
  · rw [List.getElem?_set_ne e]
    cases m[i]? <;> simp [e]

theorem ents_push {κ : Type} (enc : κ → Value) (m : List (κ × Value)) (k : κ) (v : Value) (i : Nat) : (entsFrom enc i m).toArray.push { key := enc k, val := v, born := i + m.length } = (entsFrom enc i (m ++ [(k, v)])).toArray := by
  apply Array.ext_getElem?
  intro j
  simp only [Array.getElem?_push, List.getElem?_toArray, entsFrom_get, List.size_toArray, entsFrom_length]
  by_cases e : j = m.length
  · subst e; simp
  · rw [if_neg e]
    by_cases hj : j < m.length
    · rw [List.getElem?_append_left hj]
    · rw [List.getElem?_eq_none (by omega), List.getElem?_eq_none (by simp; omega)]

section
variable {κ : Type} [DecidableEq κ] {enc : κ → Value} {kt T et : TypeId} (K : KLaw kt enc) (hT : Try.prog.underlying T = some (.map kt et)) {z : Value} (hz : ∀ w : World, (zeroValue et).run Try.prog w = .ok z w)
  {w : World} {r : Nat} {m : List (κ × Value)} (hm : MapAt enc w r m)
include K hT hm

theorem run_mapUpdate (k : κ) (v : Value) : (Instr.mapUpdate T (.map (some r)) (enc k) v).run Try.prog w = .ok () (setM enc w r (putE k v m)) := by
  have hm' := hm
  unfold MapAt at hm'
  rcases findE_spec k m 0 with ⟨h1, h2⟩ | ⟨j, v0, h1, h2⟩
  · simp [Instr.mapUpdate, run_underlying hT, MapKept.run_getObj_map hm', K.check, K.find, h1, MapKept.run_setObj_map _ hm', Result.andThen, setM, putE]
    rw [← ents_push enc m k v 0]; simp
  · have e : (entsFrom enc 0 m)[j]? = some { key := enc k, val := v0, born := j } := by rw [entsFrom_get, h2]; simp
    rw [show 0 + j = j by omega] at h1
    simp [Instr.mapUpdate, run_underlying hT, MapKept.run_getObj_map hm', K.check, K.find, h1, e, K.stays, MapKept.run_setObj_map _ hm', Result.andThen, setM, putE]
    rw [mset_modify v h2 _ rfl]

include hz in
/-- an entry is asked for: it is there, or it is made -/
theorem run_mapEntry (k : κ) : ∃ (v0 : Value) (i : Nat) (m1 : List (κ × Value)), (Instr.mapEntry T (.map (some r)) (enc k)).run Try.prog w = .ok (.tuple #[v0, .int .i64 i]) (setM enc w r m1) ∧
    m1[i]? = some (k, v0) ∧ ∀ v, m1.set i (k, v) = putE k v m := by
  have hm' := hm
  unfold MapAt at hm'
  rcases findE_spec k m 0 with ⟨h1, h2⟩ | ⟨j, v0, h1, h2⟩
  · refine ⟨z, m.length, m ++ [(k, z)], ?_, by simp, fun v => by simp [putE, h1]⟩
    simp [Instr.mapEntry, run_underlying hT, MapKept.run_getObj_map hm', K.check, K.find, h1, hz, MapKept.run_setObj_map _ hm', Result.andThen, setM, goInt]
    rw [← ents_push enc m k z 0]; simp
  · have e : (entsFrom enc 0 m)[j]? = some { key := enc k, val := v0, born := j } := by rw [entsFrom_get, h2]; simp
    rw [show 0 + j = j by omega] at h1
    refine ⟨v0, j, m, ?_, h2, fun v => by simp [putE, h1]⟩
    simp [Instr.mapEntry, run_underlying hT, MapKept.run_getObj_map hm', K.check, K.find, h1, e, K.stays, MapKept.run_setObj_map _ hm', Result.andThen, setM, goInt]
    have hself : m.set j (k, v0) = m := by
      apply List.ext_getElem?
      intro i
      by_cases e : j = i
      · subst e; rw [List.getElem?_set_self (List.getElem?_eq_some_iff.1 h2).1, h2]
      · rw [List.getElem?_set_ne e]
    rw [mset_modify v0 h2 _ rfl, hself]

omit K hT [DecidableEq κ]
/-- an entry that is there is stored into -/
theorem run_entryStore (i : Nat) (k : κ) (v v0 : Value) (h : m[i]? = some (k, v0)) : (Instr.entryStore T (.map (some r)) (.int .i64 i) v).run Try.prog w = .ok () (setM enc w r (m.set i (k, v))) := by
  have hm' := hm
  unfold MapAt at hm'
  have hf : ((entsFrom enc 0 m).toArray.findIdx? fun e => (e.born : Int) == (i : Int)) = some i := by
    rw [List.findIdx?_toArray]
    rw [List.findIdx?_eq_some_iff_getElem]
    have hi : i < m.length := (List.getElem?_eq_some_iff.1 h).1
    have hg : ∀ j (hj : j < (entsFrom enc 0 m).length), (entsFrom enc 0 m)[j].born = j := by
      intro j hj
      have e := entsFrom_get enc m 0 j
      rw [List.getElem?_eq_getElem hj] at e
      have hj' : j < m.length := by simpa [entsFrom_length] using hj
      rw [List.getElem?_eq_getElem hj'] at e
      simp at e
      rw [e]
    refine ⟨by simpa [entsFrom_length] using hi, by rw [hg]; simp, fun j hj => by rw [hg]; simp; omega⟩
  simp [Instr.entryStore, MapKept.run_getObj_map hm', hf, asInt, asIntOf, MapKept.run_setObj_map _ hm', Result.andThen, setM]
  rw [mset_modify v h _ rfl]
end

instance : DecidableEq (Int × Int × Int) := inferInstance
/-- keys of three integers -/
def enc3 (k : Int × Int × Int) : Value := key3 k.1 k.2.1 k.2.2
end Go.Proofs.Ytmcaphbngfdfiaa

/- Ground: worlds that differ in some blocks alone; the element type of a block. -/
namespace Go.Proofs.Ytmcaphbngfdfiaa
open Go.RowKit

/-- w' is w but for new blocks and the blocks of S -/
structure Only (S : Nat → Prop) (w w' : World) : Prop where
  os : w'.os = w.os
  tape : w'.tape = w.tape
  output : w'.output = w.output
  size : w.heap.size ≤ w'.heap.size
  block : ∀ k, k < w.heap.size → ¬ S k → w'.heap[k]? = w.heap[k]?
theorem Only.refl (S : Nat → Prop) (w : World) : Only S w w := ⟨rfl, rfl, rfl, Nat.le_refl _, fun _ _ _ => rfl⟩
theorem Only.trans {S : Nat → Prop} {a b c : World} (h : Only S a b) (k : Only S b c) : Only S a c :=
  ⟨k.os.trans h.os, k.tape.trans h.tape, k.output.trans h.output, Nat.le_trans h.size k.size, fun i hi hs => (k.block i (Nat.lt_of_lt_of_le hi h.size) hs).trans (h.block i hi hs)⟩
/-- blocks that a chain of steps may touch, from a world of this size on -/
theorem Only.chain {S T : Nat → Prop} {a b c : World} (h : Only S a b) (k : Only T b c) (hT : ∀ q, q < a.heap.size → T q → S q) : Only S a c :=
  ⟨k.os.trans h.os, k.tape.trans h.tape, k.output.trans h.output, Nat.le_trans h.size k.size, fun i hi hs => (k.block i (Nat.lt_of_lt_of_le hi h.size) (fun ht => hs (hT i hi ht))).trans (h.block i hi hs)⟩
theorem Only.of_below {S : Nat → Prop} {w w' : World} (h : Below w.heap.size w w') : Only S w w' := ⟨h.os, h.tape, h.output, h.size, fun k hk _ => h.block k hk⟩
theorem Only.drewN {S : Nat → Prop} {a w : World} (h : Only S a w) (n : Nat) : Only S a (w.drewN n) := ⟨h.os, h.tape, h.output, h.size, h.block⟩
theorem Only.setM {S : Nat → Prop} {a w : World} (h : Only S a w) {κ : Type} (enc : κ → Value) {r : Nat} (hr : S r) (m : List (κ × Value)) : Only S a (setM enc w r m) :=
  ⟨h.os, h.tape, h.output, by rw [setM_size]; exact h.size, fun k hk hs => (setM_other m (fun e => hs (by rw [e]; exact hr))).trans (h.block k hk hs)⟩
theorem Only.cell {S : Nat → Prop} {w w' : World} (h : Only S w w') {a : Addr} (ha : a.block < w.heap.size) (hs : ¬ S a.block) : w'.cell? a = w.cell? a :=
  World.cell?_of_block (h.block a.block ha hs)
theorem Only.below {S : Nat → Prop} {B : Nat} {w w' : World} (h : Only S w w') (hB : B ≤ w.heap.size) (hS : ∀ k, S k → B ≤ k) : Below B w w' :=
  ⟨h.os, h.tape, h.output, h.size, fun k hk => h.block k (by omega) (fun hs => by have := hS k hs; omega)⟩
theorem Ints.only {S : Nat → Prop} {w w' : World} {A : Option Addr} {zs : List Int} (h : Ints w A zs) (ho : Only S w w') (hS : ∀ k, S k → ∀ i, w.cell? ⟨k, i, none⟩ = none) : Ints w' A zs := by
  intro hn
  obtain ⟨b, o, e, hl, hc⟩ := h hn
  have hb : ¬ S b := fun hs => by
    have h1 := hS b hs (o + 0)
    have h2 := hc 0 zs[0] (List.getElem?_eq_getElem hn)
    rw [h1] at h2; cases h2
  exact ⟨b, o, e, Nat.lt_of_lt_of_le hl ho.size, fun j x hx => (ho.cell (a := ⟨b, o + j, none⟩) hl hb).trans (hc j x hx)⟩

theorem MapAt.nocell {κ : Type} {enc : κ → Value} {w : World} {r : Nat} {m : List (κ × Value)} (h : MapAt enc w r m) (i : Nat) : w.cell? ⟨r, i, none⟩ = none := by
  unfold MapAt at h
  simp [World.cell?, h]

/-- block b's elements are of type t -/
def Typed (w : World) (b : Nat) (t : TypeId) : Prop := ∃ cs, w.heap[b]? = some (.cells cs t (0, 0))
theorem Typed.lt {w : World} {b : Nat} {t : TypeId} (h : Typed w b t) : b < w.heap.size := by
  obtain ⟨cs, h⟩ := h; exact (Array.getElem?_eq_some_iff.1 h).1
theorem Typed.ne {w : World} {b b' : Nat} {t t' : TypeId} (h : Typed w b t) (h' : Typed w b' t') (hne : t ≠ t') : b ≠ b' := by
  rintro rfl
  obtain ⟨cs, h⟩ := h
  obtain ⟨cs', h'⟩ := h'
  rw [h] at h'; simp at h'; exact hne h'.2
theorem Cells.typed {w : World} {b : Nat} {t : TypeId} {C : List Value} (h : Cells w b t C) : Typed w b t := ⟨_, h⟩
theorem own_typed {w : World} {base e n : Nat} {v : Value} {xs : List Value} (h : w.ownsRow base e 1 v n xs) {g : Nat} (hg : v.ownBlock = some g) : Typed w g e := by
  rcases h.2 with ⟨rfl, _⟩ | ⟨g', cap, cur, rfl, _, hh, _⟩
  · simp [Value.ownBlock] at hg
  · simp [Value.ownBlock] at hg; subst hg; exact ⟨cur, hh⟩
theorem own_ne {w : World} {base e n : Nat} {v : Value} {xs : List Value} (h : w.ownsRow base e 1 v n xs) {b : Nat} {t : TypeId} (hb : Typed w b t) (hne : e ≠ t) : some b ≠ v.ownBlock := by
  intro he
  exact (own_typed h he.symm).ne hb hne rfl

end Go.Proofs.Ytmcaphbngfdfiaa

/- Walks of the helpers on lists of integers: toInt64S, eqInt64S, slices.IndexFunc, slices.ContainsFunc. -/
namespace Go.Proofs.Ytmcaphbngfdfiaa
open Go.RowKit

theorem Try.infoI : (Try.prog.info? 2).map (fun i => (i.zero, i.size, i.bytes)) = some (some (.int .i64 0), 1, 8) := by kernel_rfl

theorem fill_step {zs : List Int} {C : List Value} {k : Nat} {x : Int} (hx : zs[k]? = some x) (hl : C.length = zs.length) (h : ∀ j y, j < k → zs[j]? = some y → C[j]? = some (.int .i64 y)) :
    (C.set k (.int .i64 x)).length = zs.length ∧ ∀ j y, j < k + 1 → zs[j]? = some y → (C.set k (.int .i64 x))[j]? = some (.int .i64 y) := by
  refine ⟨by simpa using hl, fun j y hj hy => ?_⟩
  by_cases e : j = k
  · subst e
    rw [hx] at hy
    obtain rfl : x = y := by simpa using hy
    have hk : j < C.length := by rw [hl]; exact (List.getElem?_eq_some_iff.1 hx).1
    rw [List.getElem?_set_self hk]
  · rw [List.getElem?_set_ne (by omega)]
    exact h j y (by omega) hy

theorem fill_done {zs : List Int} {C : List Value} (hl : C.length = zs.length) (h : ∀ j y, j < zs.length → zs[j]? = some y → C[j]? = some (.int .i64 y)) : C = zs.map (Value.int .i64) := by
  apply List.ext_getElem?
  intro j
  by_cases hj : j < zs.length
  · rw [h j zs[j] hj (List.getElem?_eq_getElem hj)]
    simp [hj]
  · rw [List.getElem?_eq_none (by omega), List.getElem?_eq_none (by simpa using hj)]

/-- the index of the first element with p, from k on -/
def firstAt {α : Type} (p : α → Bool) : List α → Int → Int
  | [], _ => -1
  | x :: l, k => if p x then k else firstAt p l (k + 1)
theorem firstAt_any {α : Type} (p : α → Bool) (l : List α) (k : Int) (hk : 0 ≤ k) : decide (0 ≤ firstAt p l k) = l.any p := by
  induction l generalizing k with
  | nil => simp [firstAt]
  | cons x l ih =>
    unfold firstAt
    cases hp : p x
    · simp [hp, ih (k + 1) (by omega)]
    · simp [hp, hk]
theorem firstAt_drop {α : Type} (p : α → Bool) (l : List α) (k : Nat) (x : α) (h : l[k]? = some x) : firstAt p (l.drop k) k = if p x then (k : Int) else firstAt p (l.drop (k + 1)) (k + 1 : Nat) := by
  have hk : k < l.length := (List.getElem?_eq_some_iff.1 h).1
  rw [List.drop_eq_getElem_cons hk]
  have : l[k] = x := by rw [List.getElem?_eq_getElem hk] at h; simpa using h
  simp [firstAt, this]
theorem firstAt_end {α : Type} (p : α → Bool) (l : List α) (k : Int) : firstAt p (l.drop l.length) k = -1 := by simp [firstAt]

end Go.Proofs.Ytmcaphbngfdfiaa

/- Walks of within, l00In, ways, l06Choose: what these small functions return. -/
namespace Go.Proofs.Ytmcaphbngfdfiaa
open Go.RowKit Plain

end Go.Proofs.Ytmcaphbngfdfiaa

/- Walks of ChainReach, RepeatsNeeded and FormulaCost, of the program and of the reference. -/
namespace Go.Proofs.Ytmcaphbngfdfiaa
open Go.RowKit Plain

/-- what ChainReach returns -/
def reachV (s r : Int) : Int := if inR s 0 8 && inR r 0 40 then chooseS (s + r) s else 0
def reachC (s r : Int) : Int := if inR s 0 8 && inR r 0 40 then 0 else 2

end Go.Proofs.Ytmcaphbngfdfiaa

/- Walks of the helpers on lists of actions: toActionS, eqActionS, isAction, l06Action, ValidSchedule. -/
namespace Go.Proofs.Ytmcaphbngfdfiaa
open Go.RowKit Plain

/-- the slice at A reads as these actions (kind, argument) -/
def Acts (w : World) (A : Option Addr) (l : List (Int × Int)) : Prop :=
  0 < l.length → ∃ b o, A = some ⟨b, o, none⟩ ∧ b < w.heap.size ∧ ∀ j x, l[j]? = some x → w.cell? ⟨b, o + j * 2, none⟩ = some (.int .i64 x.1) ∧ w.cell? ⟨b, o + j * 2 + 1, none⟩ = some (.int .i64 x.2)

theorem Acts.at_ {w : World} {A : Option Addr} {l : List (Int × Int)} {k : Nat} (h : Acts w A l) (hk : k < l.length) :
    ∃ b o x y, A = some ⟨b, o, none⟩ ∧ l[k]? = some (x, y) ∧ w.cell? ⟨b, o + k * 2, none⟩ = some (.int .i64 x) ∧ w.cell? ⟨b, o + k * 2 + 1, none⟩ = some (.int .i64 y) := by
  obtain ⟨b, o, e, _, hc⟩ := h (by omega)
  have hx : l[k]? = some (l[k].1, l[k].2) := List.getElem?_eq_getElem hk
  exact ⟨b, o, l[k].1, l[k].2, e, hx, hc k _ hx⟩
theorem Acts.below {w w' : World} {A : Option Addr} {l : List (Int × Int)} (h : Acts w A l) (hb : Below w.heap.size w w') : Acts w' A l := by
  intro hn
  obtain ⟨b, o, e, hl, hc⟩ := h hn
  exact ⟨b, o, e, Nat.lt_of_lt_of_le hl hb.size, fun j x hx => ⟨(hb.cell (p := ⟨b, _, none⟩) hl).trans (hc j x hx).1, (hb.cell (p := ⟨b, _, none⟩) hl).trans (hc j x hx).2⟩⟩
theorem Acts.nil (w : World) (A : Option Addr) : Acts w A [] := fun h => absurd h (by simp)
theorem Acts.drewN {w : World} {A : Option Addr} {l : List (Int × Int)} (h : Acts w A l) (n : Nat) : Acts (w.drewN n) A l := h

abbrev act (k a : Int) : Value := .agg #[.int .i64 k, .int .i64 a]

/-- is this an action of the form? -/
def isAct (k a : Int) : Bool := if k = 1 then inR a 1 40 else if k = 2 ∨ k = 3 then inR a 0 7 else if k = 4 then a == 0 else false

/-- make of n elements of several cells -/
theorem run_make_many {P : Program} (t e : TypeId) (z : Value) (size bytes : Nat) (ht : P.underlying t = some (.slice e)) (hinfo : (P.info? e).map (fun i => (i.zero, i.size, i.bytes)) = some (some z, size, bytes))
    (kl kc : IntKind) (n : Nat) (hbytes : bytes * n ≤ 281474976710656) (h63 : n ≤ 9223372036854775807) (w : World) :
    (Instr.makeSlice t (.int kl (n : Int)) (.int kc (n : Int))).run P w = .ok (.slice (some ⟨w.heap.size, 0, none⟩) n n) (w.alloc (.cells (madeCells z.cells (n * size)) e)) := by
  obtain ⟨i, hi, hzz⟩ := Option.map_eq_some_iff.1 hinfo
  simp only [Prod.mk.injEq] at hzz
  obtain ⟨hz, hs, hb⟩ := hzz
  have hb' : (i.bytes : Int) * (n : Int) ≤ 281474976710656 := by
    have h : ((i.bytes * n : Nat) : Int) ≤ 281474976710656 := by rw [hb]; omega
    rwa [Int.natCast_mul] at h
  have hr := run_make (P := P) w t e i z ht hi hz kl kc n n (by omega) (Int.le_refl _) hb' (by omega)
  simp only [Int.toNat_natCast, hs] at hr
  exact hr

/-- the cells hold the first k of these actions -/
def ActFill (l : List (Int × Int)) (k : Nat) (C : List Value) : Prop :=
  C.length = l.length * 2 ∧ ∀ j x, j < k → l[j]? = some x → C[j * 2]? = some (.int .i64 x.1) ∧ C[j * 2 + 1]? = some (.int .i64 x.2)
theorem ActFill.step {l : List (Int × Int)} {k : Nat} {C : List Value} (h : ActFill l k C) {x y : Int} (hx : l[k]? = some (x, y)) :
    ActFill l (k + 1) ((C.set (k * 2) (.int .i64 x)).set (k * 2 + 1) (.int .i64 y)) := by
  have hk : k < l.length := (List.getElem?_eq_some_iff.1 hx).1
  refine ⟨by simpa using h.1, fun j z hj hz => ?_⟩
  by_cases e : j = k
  · subst e
    rw [hx] at hz
    obtain rfl : (x, y) = z := by simpa using hz
    have := h.1
    constructor
    · rw [List.getElem?_set_ne (by omega), List.getElem?_set_self (by omega)]
    · rw [List.getElem?_set_self (by simp; omega)]
  · have := h.2 j z (by omega) hz
    rw [List.getElem?_set_ne (by omega), List.getElem?_set_ne (by omega), List.getElem?_set_ne (by omega), List.getElem?_set_ne (by omega)]
    exact this
theorem ActFill.acts {l : List (Int × Int)} {C : List Value} {w : World} {g : Nat} {t : TypeId} (h : ActFill l l.length C) (hc : Cells w g t C) : Acts w (some ⟨g, 0, none⟩) l := by
  intro _
  refine ⟨g, 0, rfl, hc.lt, fun j x hx => ?_⟩
  have hj : j < l.length := (List.getElem?_eq_some_iff.1 hx).1
  rw [hc.cell, hc.cell]
  simpa using h.2 j x hj hx

theorem madeCells_act (n : Nat) : madeCells #[Value.int .i64 0, Value.int .i64 0] (n * 2) = (List.replicate (n * 2) (Value.int .i64 0)).toArray := by
  apply Array.ext
  · simp [madeCells]
  · intro i h1 h2
    rcases Nat.mod_two_eq_zero_or_one i with h | h <;> simp [madeCells, h]

end Go.Proofs.Ytmcaphbngfdfiaa

/- Walks of the program's arithmetic of residues. -/
namespace Go.Proofs.Ytmcaphbngfdfiaa
open Go.RowKit Plain

theorem tmod_bd (a : Int) : -1000002 ≤ a.tmod 1000003 ∧ a.tmod 1000003 ≤ 1000002 ∧ (a.tmod 1000003 + 1000003) % 1000003 = rs a := by
  have h := Int.tmod_eq_emod (a := a) (b := 1000003)
  unfold rs
  rw [h]
  split
  · have h1 := Int.emod_nonneg a (b := 1000003) (by omega)
    have h2 := Int.emod_lt_of_pos a (b := 1000003) (by omega)
    omega
  · rename_i hn
    have h1 := Int.emod_nonneg a (b := 1000003) (by omega)
    have h2 := Int.emod_lt_of_pos a (b := 1000003) (by omega)
    have h3 : a % 1000003 ≠ 0 := fun e => hn (.inr (Int.dvd_of_emod_eq_zero e))
    have h4 : ((1000003 : Int).natAbs : Int) = 1000003 := rfl
    rw [h4]
    omega

theorem mul_bd {a b : Int} (ha : 0 ≤ a) (ha' : a ≤ 1000002) (hb : 0 ≤ b) (hb' : b ≤ 1000002) : 0 ≤ a * b ∧ a * b ≤ 1000004000004 := by
  have h1 := Int.mul_nonneg ha hb
  have h2 : a * b ≤ 1000002 * 1000002 := Int.mul_le_mul ha' hb' hb (by omega)
  omega

theorem pw_half_odd {o b : Int} {k : Nat} (hk : k % 2 = 1) : tm o (pw b k) = tm (o * b % 1000003) (pw (b * b % 1000003) (k / 2)) := by
  rw [pw_two_even]
  unfold tm pw
  rw [mulr, mull, mulr]
  congr 1
  have e : k = 2 * (k / 2) + 1 := by omega
  rw [Int.mul_assoc, ← Int.pow_succ', ← e]
theorem pw_half_even {o b : Int} {k : Nat} (hk : k % 2 = 0) : tm o (pw b k) = tm o (pw (b * b % 1000003) (k / 2)) := by
  rw [pw_two_even]
  have e : k = 2 * (k / 2) := by omega
  rw [← e]
theorem tm_one {o : Int} (h : 0 ≤ o) (h' : o ≤ 1000002) (b : Int) : tm o (pw b 0) = o := by
  unfold tm pw; simp; omega

end Go.Proofs.Ytmcaphbngfdfiaa

/- Walks of the laws' marks: markInt64S, heldInt64S, markActionS, heldActionS: lists in memory that may be written. -/
namespace Go.Proofs.Ytmcaphbngfdfiaa
open Go.RowKit

/-- the slice at A reads as zs, in a block from B on that may be written -/
def IntsM (w : World) (B : Nat) (A : Option Addr) (zs : List Int) : Prop :=
  0 < zs.length → ∃ b o, A = some ⟨b, o, none⟩ ∧ B ≤ b ∧ b < w.heap.size ∧ ∀ j x, zs[j]? = some x → w.cell? ⟨b, o + j, none⟩ = some (.int .i64 x) ∧ w.frozen? ⟨b, o + j, none⟩ = false
theorem IntsM.ints {w : World} {B : Nat} {A : Option Addr} {zs : List Int} (h : IntsM w B A zs) : Ints w A zs := fun hn => by
  obtain ⟨b, o, e, _, hl, hc⟩ := h hn
  exact ⟨b, o, e, hl, fun j x hx => (hc j x hx).1⟩
theorem IntsM.nil (w : World) (B : Nat) (A : Option Addr) : IntsM w B A [] := fun h => absurd h (by simp)
/-- the block of a slice -/
def InBlk (A : Option Addr) (q : Nat) : Prop := ∃ o, A = some ⟨q, o, none⟩
/-- the block of a slice of n parts, if n > 0 -/
def InB (n : Nat) (A : Option Addr) (q : Nat) : Prop := 0 < n ∧ InBlk A q
theorem IntsM.only {w w' : World} {S : Nat → Prop} {B : Nat} {A : Option Addr} {zs : List Int} (h : IntsM w B A zs) (ho : Only S w w') (hS : ∀ q, q < w.heap.size → InB zs.length A q → ¬ S q) : IntsM w' B A zs := fun hn => by
  obtain ⟨b, o, e, hB, hl, hc⟩ := h hn
  have hb := hS b hl ⟨hn, o, e⟩
  refine ⟨b, o, e, hB, Nat.lt_of_lt_of_le hl ho.size, fun j x hx => ⟨(ho.cell (a := ⟨b, o + j, none⟩) hl hb).trans (hc j x hx).1, ?_⟩⟩
  rw [← (hc j x hx).2]
  exact World.frozen?_of_block (w := w) (w' := w') (a := ⟨b, o + j, none⟩) (ho.block b hl hb)
theorem IntsM.below {w w' : World} {B : Nat} {A : Option Addr} {zs : List Int} (h : IntsM w B A zs) (hb : Below w.heap.size w w') : IntsM w' B A zs :=
  h.only (S := fun _ => False) (Only.of_below hb) (fun _ _ _ h => h)
theorem IntsM.blk {w : World} {B : Nat} {A : Option Addr} {zs : List Int} (h : IntsM w B A zs) {q : Nat} (hq' : InB zs.length A q) : B ≤ q ∧ q < w.heap.size := by
  obtain ⟨hn, hq⟩ := hq'
  obtain ⟨b, o, e, hB, hl, _⟩ := h hn
  obtain ⟨o', e'⟩ := hq
  rw [e] at e'
  obtain ⟨rfl, rfl⟩ : b = q ∧ o = o' := by simpa using e'
  exact ⟨hB, hl⟩
theorem Ints.onlyB {w w' : World} {S : Nat → Prop} {A : Option Addr} {zs : List Int} (h : Ints w A zs) (ho : Only S w w') (hS : ∀ q, q < w.heap.size → InB zs.length A q → ¬ S q) : Ints w' A zs := fun hn => by
  obtain ⟨b, o, e, hl, hc⟩ := h hn
  exact ⟨b, o, e, Nat.lt_of_lt_of_le hl ho.size, fun j x hx => (ho.cell (a := ⟨b, o + j, none⟩) hl (hS b hl ⟨hn, o, e⟩)).trans (hc j x hx)⟩

/-- the marks k, k + 1, .. -/
def markL (n : Nat) (k : Int) : List Int := (List.range n).map (fun i : Nat => k + (i : Int))
theorem markL_length (n : Nat) (k : Int) : (markL n k).length = n := by simp [markL]
theorem markL_get {n : Nat} {k : Int} {i : Nat} (h : i < n) : (markL n k)[i]? = some (k + i) := by simp [markL, h]

/-- the slice at A reads as these actions, in a block from B on that may be written -/
def ActsM (w : World) (B : Nat) (A : Option Addr) (l : List (Int × Int)) : Prop :=
  0 < l.length → ∃ b o, A = some ⟨b, o, none⟩ ∧ B ≤ b ∧ b < w.heap.size ∧ ∀ j x, l[j]? = some x →
    (w.cell? ⟨b, o + j * 2, none⟩ = some (.int .i64 x.1) ∧ w.cell? ⟨b, o + j * 2 + 1, none⟩ = some (.int .i64 x.2)) ∧ w.frozen? ⟨b, o + j * 2, none⟩ = false ∧ w.frozen? ⟨b, o + j * 2 + 1, none⟩ = false
theorem ActsM.acts {w : World} {B : Nat} {A : Option Addr} {l : List (Int × Int)} (h : ActsM w B A l) : Acts w A l := fun hn => by
  obtain ⟨b, o, e, _, hl, hc⟩ := h hn
  exact ⟨b, o, e, hl, fun j x hx => (hc j x hx).1⟩
theorem ActsM.nil (w : World) (B : Nat) (A : Option Addr) : ActsM w B A [] := fun h => absurd h (by simp)
theorem ActsM.only {w w' : World} {S : Nat → Prop} {B : Nat} {A : Option Addr} {l : List (Int × Int)} (h : ActsM w B A l) (ho : Only S w w') (hS : ∀ q, q < w.heap.size → InB l.length A q → ¬ S q) : ActsM w' B A l := fun hn => by
  obtain ⟨b, o, e, hB, hl, hc⟩ := h hn
  have hb := hS b hl ⟨hn, o, e⟩
  have hbl := ho.block b hl hb
  refine ⟨b, o, e, hB, Nat.lt_of_lt_of_le hl ho.size, fun j x hx => ?_⟩
  obtain ⟨⟨h1, h2⟩, h3, h4⟩ := hc j x hx
  exact ⟨⟨(World.cell?_of_block (w := w) (a := ⟨b, _, none⟩) hbl).trans h1, (World.cell?_of_block (w := w) (a := ⟨b, _, none⟩) hbl).trans h2⟩,
    (World.frozen?_of_block (w := w) (a := ⟨b, _, none⟩) hbl).trans h3, (World.frozen?_of_block (w := w) (a := ⟨b, _, none⟩) hbl).trans h4⟩
theorem ActsM.below {w w' : World} {B : Nat} {A : Option Addr} {l : List (Int × Int)} (h : ActsM w B A l) (hb : Below w.heap.size w w') : ActsM w' B A l :=
  h.only (S := fun _ => False) (Only.of_below hb) (fun _ _ _ h => h)
theorem ActsM.blk {w : World} {B : Nat} {A : Option Addr} {l : List (Int × Int)} (h : ActsM w B A l) {q : Nat} (hq' : InB l.length A q) : B ≤ q ∧ q < w.heap.size := by
  obtain ⟨hn, hq⟩ := hq'
  obtain ⟨b, o, e, hB, hl, _⟩ := h hn
  obtain ⟨o', e'⟩ := hq
  rw [e] at e'
  obtain ⟨rfl, rfl⟩ : b = q ∧ o = o' := by simpa using e'
  exact ⟨hB, hl⟩
theorem Acts.onlyB {w w' : World} {S : Nat → Prop} {A : Option Addr} {l : List (Int × Int)} (h : Acts w A l) (ho : Only S w w') (hS : ∀ q, q < w.heap.size → InB l.length A q → ¬ S q) : Acts w' A l := fun hn => by
  obtain ⟨b, o, e, hl, hc⟩ := h hn
  have hbl := ho.block b hl (hS b hl ⟨hn, o, e⟩)
  exact ⟨b, o, e, Nat.lt_of_lt_of_le hl ho.size, fun j x hx => ⟨(World.cell?_of_block (w := w) (a := ⟨b, _, none⟩) hbl).trans (hc j x hx).1, (World.cell?_of_block (w := w) (a := ⟨b, _, none⟩) hbl).trans (hc j x hx).2⟩⟩
theorem ActFill.actsM {l : List (Int × Int)} {C : List Value} {w : World} {g : Nat} {t : TypeId} (h : ActFill l l.length C) (hc : Cells w g t C) : ActsM w g (some ⟨g, 0, none⟩) l := fun hn => by
  obtain ⟨b, o, e, hl, hx⟩ := h.acts hc hn
  obtain ⟨rfl, rfl⟩ : g = b ∧ 0 = o := by simpa using e
  exact ⟨g, 0, rfl, Nat.le_refl _, hl, fun j x hj => ⟨hx j x hj, hc.frozen _, hc.frozen _⟩⟩

/-- actions that are marked -/
def markA (n : Nat) (k : Int) : List (Int × Int) := (List.range n).map (fun i : Nat => (k + 2 * (i : Int), k + 2 * (i : Int) + 1))
theorem markA_length (n : Nat) (k : Int) : (markA n k).length = n := by simp [markA]
theorem markA_get {n : Nat} {k : Int} {i : Nat} (h : i < n) : (markA n k)[i]? = some (k + 2 * (i : Int), k + 2 * (i : Int) + 1) := by simp [markA, h]

/-- what the marking of actions has done behind j of them -/
def MarkedTo (w : World) (A : Option Addr) (n : Nat) (k : Int) (j : Nat) : Prop :=
  ∀ b o, A = some ⟨b, o, none⟩ → 0 < n → ∀ i, i < n → (∃ x y, w.cell? ⟨b, o + i * 2, none⟩ = some (.int .i64 x) ∧ w.cell? ⟨b, o + i * 2 + 1, none⟩ = some (.int .i64 y)) ∧ w.frozen? ⟨b, o + i * 2, none⟩ = false ∧ w.frozen? ⟨b, o + i * 2 + 1, none⟩ = false ∧
    (i < j → w.cell? ⟨b, o + i * 2, none⟩ = some (.int .i64 (k + 2 * (i : Int))) ∧ w.cell? ⟨b, o + i * 2 + 1, none⟩ = some (.int .i64 (k + 2 * (i : Int) + 1)))
theorem MarkedTo.step {w : World} {b o n j : Nat} {k : Int} (h : MarkedTo w (some ⟨b, o, none⟩) n k j) (hj : j < n) :
    MarkedTo ((w.setCell ⟨b, o + j * 2, none⟩ (.int .i64 (k + 2 * (j : Int)))).setCell ⟨b, o + j * 2 + 1, none⟩ (.int .i64 (k + 2 * (j : Int) + 1))) (some ⟨b, o, none⟩) n k (j + 1) := by
  intro b' o' e hz i hi
  obtain ⟨rfl, rfl⟩ : b = b' ∧ o = o' := by simpa using e
  obtain ⟨⟨x, y, hx, hy⟩, hf1, hf2, hd⟩ := h b o rfl hz i hi
  have fr : ∀ a, ((w.setCell ⟨b, o + j * 2, none⟩ (.int .i64 (k + 2 * (j : Int)))).setCell ⟨b, o + j * 2 + 1, none⟩ (.int .i64 (k + 2 * (j : Int) + 1))).frozen? a = w.frozen? a := fun a => by rw [World.frozen?_setCell, World.frozen?_setCell]
  by_cases he : i = j
  · subst he
    have h1 : ((w.setCell ⟨b, o + i * 2, none⟩ (.int .i64 (k + 2 * (i : Int)))).setCell ⟨b, o + i * 2 + 1, none⟩ (.int .i64 (k + 2 * (i : Int) + 1))).cell? ⟨b, o + i * 2, none⟩ = some (.int .i64 (k + 2 * (i : Int))) :=
      (World.cell?_setCell_other _ _ _ _ (fun e => by injection e with _ h _; omega)).trans (World.cell?_setCell_same _ _ _ hx)
    have h2 : ((w.setCell ⟨b, o + i * 2, none⟩ (.int .i64 (k + 2 * (i : Int)))).setCell ⟨b, o + i * 2 + 1, none⟩ (.int .i64 (k + 2 * (i : Int) + 1))).cell? ⟨b, o + i * 2 + 1, none⟩ = some (.int .i64 (k + 2 * (i : Int) + 1)) :=
      World.cell?_setCell_same _ _ _ ((World.cell?_setCell_other _ _ _ _ (fun e => by injection e with _ h _; omega)).trans hy)
    exact ⟨⟨_, _, h1, h2⟩, by rw [fr]; exact hf1, by rw [fr]; exact hf2, fun _ => ⟨h1, h2⟩⟩
  · have h1 : ((w.setCell ⟨b, o + j * 2, none⟩ (.int .i64 (k + 2 * (j : Int)))).setCell ⟨b, o + j * 2 + 1, none⟩ (.int .i64 (k + 2 * (j : Int) + 1))).cell? ⟨b, o + i * 2, none⟩ = w.cell? ⟨b, o + i * 2, none⟩ :=
      (World.cell?_setCell_other _ _ _ _ (fun e => by injection e with _ h _; omega)).trans (World.cell?_setCell_other _ _ _ _ (fun e => by injection e with _ h _; omega))
    have h2 : ((w.setCell ⟨b, o + j * 2, none⟩ (.int .i64 (k + 2 * (j : Int)))).setCell ⟨b, o + j * 2 + 1, none⟩ (.int .i64 (k + 2 * (j : Int) + 1))).cell? ⟨b, o + i * 2 + 1, none⟩ = w.cell? ⟨b, o + i * 2 + 1, none⟩ :=
      (World.cell?_setCell_other _ _ _ _ (fun e => by injection e with _ h _; omega)).trans (World.cell?_setCell_other _ _ _ _ (fun e => by injection e with _ h _; omega))
    exact ⟨⟨x, y, h1.trans hx, h2.trans hy⟩, by rw [fr]; exact hf1, by rw [fr]; exact hf2, fun hh => ⟨h1.trans (hd (by omega)).1, h2.trans (hd (by omega)).2⟩⟩

end Go.Proofs.Ytmcaphbngfdfiaa

/- Ground: appends as steps of regions that draw. -/
namespace Go.Proofs.Ytmcaphbngfdfiaa
open Go.RowKit

/-- append to an own row, as a step of a region that draws -/
theorem step_append_own {P : Program} {w : World} {ops : Array Oper} {o : Oper} {a : Act} {K : Act → World → Prop} {Q : Exit → Act → World → Prop} {E : Prop} (hgd : o.guard = none) (s x : Operand) (t : TypeId)
    (ho : o.op = .call { callee := .builtin .append, args := #[s, x], argTypes := #[t, t] })
    (base : Nat) (e : TypeId) (i : TypeInfo) (z : Value) (size bytes : Nat) (ht : P.underlying t = some (.slice e)) (hi : P.info? e = some i) (hz : i.zero = some z)
    (hsize : i.size = size) (hby : i.bytes = bytes) (hzs : z.cells.size = size) (hsz : 0 < size)
    (v : Value) (n : Nat) (xs : List Value) (hs : a.eval s = v) (hown : w.ownsRow base e size v n xs)
    (ad : Addr) (m c : Nat) (news : List Value) (hx : a.eval x = .slice (some ad) m c) (hl : news.length = m * size) (hnews : ∀ j u, news[j]? = some u → w.cell? (ad.add j) = some u) (h1 : ∀ u ∈ news, u.oneCell' = true)
    (h63 : n + m ≤ maxLen) (hbytes : (n + m) * bytes ≤ 140737488355328) (hbase : base ≤ w.heap.size)
    (h : ∀ v' w', w'.ownsRow base e size v' (n + m) (xs ++ news) → w.grownBy w' v.ownBlock → K (a.put o.dst v') w') :
    if Region.wanted o (yielded ops a.tmps) = true then Oper.wp P o a w K Q else E := by
  have hw : Region.wanted o (yielded ops a.tmps) = true := by simp [Region.wanted, hgd]
  rw [if_pos hw]
  exact wp_append_own w s x t ho base e i z size bytes ht hi hz hsize hby hzs hsz v n xs hs hown ad m c news hx hl hnews h1 h63 hbytes hbase fun v' w' h2 h3 _ => h v' w' h2 h3

end Go.Proofs.Ytmcaphbngfdfiaa

/- Ground: own rows of integers. -/
namespace Go.Proofs.Ytmcaphbngfdfiaa
open Go.RowKit

/-- an own row of integers -/
def IntRow (w : World) (base : Nat) (v : Value) (l : List Int) : Prop := w.ownsRow base 2 1 v l.length (l.map (Value.int .i64))
theorem IntRow.keep {w w' : World} {base : Nat} {v : Value} {l : List Int} (h : IntRow w base v l) (hb : ∀ g, v.ownBlock = some g → w'.heap[g]? = w.heap[g]?) : IntRow w' base v l := by
  refine ⟨h.1, ?_⟩
  rcases h.2 with hn | ⟨g, cap, cur, rfl, hb', hgg, rest⟩
  · exact .inl hn
  · exact .inr ⟨g, cap, cur, rfl, hb', by rw [hb g rfl]; exact hgg, rest⟩
theorem IntRow.lt {w : World} {base : Nat} {v : Value} {l : List Int} (h : IntRow w base v l) {q : Nat} (hq : v.ownBlock = some q) : base ≤ q ∧ q < w.heap.size := World.ownsRow.lt h q hq
theorem IntRow.form {w : World} {base : Nat} {v : Value} {l : List Int} (h : IntRow w base v l) : ∃ A cap, v = .slice A l.length cap := by
  rcases h.2 with ⟨hv, h0⟩ | ⟨g, cap, _, hv, _⟩
  · exact ⟨none, 0, by rw [hv, h0]⟩
  · exact ⟨_, _, hv⟩
theorem IntRow.intsM {w : World} {base cap : Nat} {A : Option Addr} {l : List Int} (h : IntRow w base (.slice A l.length cap) l) : IntsM w base A l := fun hn => by
  obtain ⟨g, cap', hv, hb, hlt⟩ := World.ownsRow.form h (by omega)
  have hA : A = some ⟨g, 0, none⟩ := by injection hv
  have hc : cap = cap' := by injection hv
  subst hA
  subst hc
  refine ⟨g, 0, rfl, hb, hlt, fun j x hx => ?_⟩
  have hj : j < l.length := (List.getElem?_eq_some_iff.1 hx).1
  refine ⟨?_, World.ownsRow.frozenAt h _⟩
  rw [Nat.zero_add, World.ownsRow.cellAt h j (by omega)]
  simp [hx]
theorem IntRow.push {w2 : World} {base : Nat} {v2 : Value} {l : List Int} {x : Int} {n : Nat} (hn : n = l.length) (hown : w2.ownsRow base 2 1 v2 (n + 1) (l.map (Value.int .i64) ++ [.int .i64 x])) : IntRow w2 base v2 (l ++ [x]) := by
  unfold IntRow
  rw [List.map_append, List.length_append, ← hn]
  exact hown
theorem IntRow.ownN {w : World} {base : Nat} {v : Value} {l : List Int} (h : IntRow w base v l) {n : Nat} (hn : n = l.length) : w.ownsRow base 2 1 v n (l.map (Value.int .i64)) := by rw [hn]; exact h

end Go.Proofs.Ytmcaphbngfdfiaa
