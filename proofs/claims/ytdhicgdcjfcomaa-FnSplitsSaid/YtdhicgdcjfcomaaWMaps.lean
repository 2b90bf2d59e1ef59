/- Maps in memory as lists of pairs; keys that are integers, or three integers. -/
import Derived.Test.YtdhicgdcjfcomaaB0
import Derived.Maps.Keyed
import Derived.MapKept
namespace Go.Proofs.Ytdhicgdcjfcomaa
open Go.RowKit

abbrev key3 (a b c : Int) : Value := .agg #[.int .i64 a, .int .i64 b, .int .i64 c]

theorem eqI (d : Nat) (a b : Int) (w : World) : (Op.equalIn (d + 1) 2 (.int .i64 a) (.int .i64 b)).run Try.prog w = .ok (a == b) w := by
  simp [Op.equalIn, run_underlying Try.underlying2]

theorem eq3 (a b c a' b' c' : Int) (w : World) : (Op.equal 46 (key3 a b c) (key3 a' b' c')).run Try.prog w = .ok (a == a' && b == b' && c == c') w := by
  have h : ∀ d, (Op.equalIn (d + 2) 46 (key3 a b c) (key3 a' b' c')).run Try.prog w = .ok (a == a' && b == b' && c == c') w := by
    intro d
    unfold Op.equalIn
    have p0 : ∀ (x y z : Int) (w : World), (part 2 #[.int .i64 x, .int .i64 y, .int .i64 z] 0).run Try.prog w = .ok (.int .i64 x) w := fun x y z w => by kernel_rfl
    have p1 : ∀ (x y z : Int) (w : World), (part 2 #[.int .i64 x, .int .i64 y, .int .i64 z] 1).run Try.prog w = .ok (.int .i64 y) w := fun x y z w => by kernel_rfl
    have p2 : ∀ (x y z : Int) (w : World), (part 2 #[.int .i64 x, .int .i64 y, .int .i64 z] 2).run Try.prog w = .ok (.int .i64 z) w := fun x y z w => by kernel_rfl
    simp [run_underlying Try.underlying46]
    rw [show List.range' 0 3 = [0, 1, 2] from rfl]
    cases h1 : (a == a') <;> cases h2 : (b == b') <;> cases h3 : (c == c') <;> simp [p0, p1, p2, eqI, h1, h2, h3]
  exact h 9998

/-- the entries of a map in the order in which they came -/
def entsFrom {κ : Type} (enc : κ → Value) : Nat → List (κ × Value) → List MapEntry
  | _, [] => []
  | i, p :: l => { key := enc p.1, val := p.2, born := i } :: entsFrom enc (i + 1) l

theorem entsFrom_get {κ : Type} (enc : κ → Value) (l : List (κ × Value)) (i j : Nat) : (entsFrom enc i l)[j]? = (l[j]?).map fun p => { key := enc p.1, val := p.2, born := i + j } := by
  induction l generalizing i j with
  | nil => simp [entsFrom]
  | cons p l ih =>
    cases j with
    | zero => simp [entsFrom]
    | succ j => simp [entsFrom, ih]; cases l[j]? <;> simp; omega
theorem entsFrom_length {κ : Type} (enc : κ → Value) (l : List (κ × Value)) (i : Nat) : (entsFrom enc i l).length = l.length := by
  induction l generalizing i with
  | nil => rfl
  | cons p l ih => simp [entsFrom, ih]

/-- block r is a map with these entries -/
def MapAt {κ : Type} (enc : κ → Value) (w : World) (r : Nat) (m : List (κ × Value)) : Prop := w.heap[r]? = some (.map (entsFrom enc 0 m).toArray m.length)

/-- where a key stands, and its value -/
def findE {κ : Type} [DecidableEq κ] (k : κ) : List (κ × Value) → Nat → Option (Nat × Value)
  | [], _ => none
  | p :: l, i => if k = p.1 then some (i, p.2) else findE k l (i + 1)

/-- what a key of this kind does -/
structure KLaw (kt : TypeId) {κ : Type} [DecidableEq κ] (enc : κ → Value) : Prop where
  check : ∀ (em : Bool) (k : κ) (w : World), (Instr.checkKey em 10000 kt (enc k)).run Try.prog w = .ok () w
  find : ∀ (k : κ) (m : List (κ × Value)) (w : World), (Instr.findKey kt (enc k) (entsFrom enc 0 m)).run Try.prog w = .ok (findE k m 0) w
  stays : ∀ (k : κ) (w : World), (Instr.keyThatStays (enc k) (enc k)).run Try.prog w = .ok (enc k) w

theorem findE_spec {κ : Type} [DecidableEq κ] (k : κ) (m : List (κ × Value)) (i : Nat) :
    (findE k m i = none ∧ ∀ p ∈ m, p.1 ≠ k) ∨ ∃ j v, findE k m i = some (i + j, v) ∧ m[j]? = some (k, v) := by
  induction m generalizing i with
  | nil => exact .inl ⟨rfl, fun p hp => by cases hp⟩
  | cons p l ih =>
    unfold findE
    by_cases h : k = p.1
    · rw [if_pos h]
      exact .inr ⟨0, p.2, rfl, by simp [h]⟩
    · rw [if_neg h]
      rcases ih (i + 1) with ⟨h1, h2⟩ | ⟨j, v, h1, h2⟩
      · exact .inl ⟨h1, fun q hq => by rcases List.mem_cons.1 hq with rfl | hq; exact fun e => h e.symm; exact h2 q hq⟩
      · exact .inr ⟨j + 1, v, by rw [h1]; congr 2; omega, by simpa using h2⟩

/-- the value at a key -/
def getE {κ : Type} [DecidableEq κ] (k : κ) (m : List (κ × Value)) : Option Value := (findE k m 0).map (·.2)

/-- a map with a key's value put -/
def putE {κ : Type} [DecidableEq κ] (k : κ) (v : Value) (m : List (κ × Value)) : List (κ × Value) :=
  match findE k m 0 with
  | some (i, _) => m.set i (k, v)
  | none => m ++ [(k, v)]

theorem findE_append_self {κ : Type} [DecidableEq κ] (k : κ) (v : Value) (m : List (κ × Value)) (i : Nat) (h : ∀ p ∈ m, p.1 ≠ k) : findE k (m ++ [(k, v)]) i = some (i + m.length, v) := by
  induction m generalizing i with
  | nil => simp [findE]
  | cons p l ih =>
    have := h p List.mem_cons_self
    simp only [List.cons_append, findE, if_neg (Ne.symm this)]
    rw [ih (i + 1) fun q hq => h q (List.mem_cons_of_mem _ hq)]
    simp; omega
theorem findE_append_other {κ : Type} [DecidableEq κ] (k k' : κ) (v : Value) (m : List (κ × Value)) (i : Nat) (h : k' ≠ k) : findE k' (m ++ [(k, v)]) i = findE k' m i := by
  induction m generalizing i with
  | nil => simp [findE, h]
  | cons p l ih => simp only [List.cons_append, findE, ih]
theorem findE_set_self {κ : Type} [DecidableEq κ] (k : κ) (v v0 : Value) (m : List (κ × Value)) (i j : Nat) (h : findE k m i = some (i + j, v0)) : findE k (m.set j (k, v)) i = some (i + j, v) := by
  induction m generalizing i j with
  | nil => simp [findE] at h
  | cons p l ih =>
    unfold findE at h
    by_cases hk : k = p.1
    · rw [if_pos hk] at h
      have : j = 0 := by simp at h; omega
      subst this
      simp [findE]
    · rw [if_neg hk] at h
      cases j with
      | zero =>
        rcases findE_spec k l (i + 1) with ⟨h1, _⟩ | ⟨j, v', h1, _⟩
        · rw [h1] at h; cases h
        · rw [h1] at h; simp at h; omega
      | succ j =>
        simp only [List.set_cons_succ, findE, if_neg hk]
        rw [ih (i + 1) j (by rw [h]; congr 2; omega)]
        congr 2; omega
theorem findE_set_other {κ : Type} [DecidableEq κ] (k k' : κ) (v v0 : Value) (m : List (κ × Value)) (i j : Nat) (h : m[j]? = some (k, v0)) (hk : k' ≠ k) : findE k' (m.set j (k, v)) i = findE k' m i := by
  induction m generalizing i j with
  | nil => simp
  | cons p l ih =>
    cases j with
    | zero =>
      have : p = (k, v0) := by simpa using h
      subst this
      simp [findE, hk]
    | succ j => simp only [List.set_cons_succ, findE]; rw [ih (i + 1) j (by simpa using h)]

theorem getE_put_self {κ : Type} [DecidableEq κ] (k : κ) (v : Value) (m : List (κ × Value)) : getE k (putE k v m) = some v := by
  unfold putE getE
  rcases findE_spec k m 0 with ⟨h1, h2⟩ | ⟨j, v0, h1, h2⟩
  · rw [h1]; simp only []; rw [findE_append_self k v m 0 h2]; rfl
  · rw [h1]; simp only []
    rw [show 0 + j = j by omega]
    rw [findE_set_self k v v0 m 0 j (by rw [h1])]; rfl
theorem getE_put_other {κ : Type} [DecidableEq κ] (k k' : κ) (v : Value) (m : List (κ × Value)) (h : k' ≠ k) : getE k' (putE k v m) = getE k' m := by
  unfold putE getE
  rcases findE_spec k m 0 with ⟨h1, h2⟩ | ⟨j, v0, h1, h2⟩
  · rw [h1]; simp only []; rw [findE_append_other k k' v m 0 h]
  · rw [h1]; simp only []
    rw [show 0 + j = j by omega, findE_set_other k k' v v0 m 0 j h2 h]

/-- a world with a map's block set -/
def setM {κ : Type} (enc : κ → Value) (w : World) (r : Nat) (m : List (κ × Value)) : World := { w with heap := w.heap.setIfInBounds r (.map (entsFrom enc 0 m).toArray m.length) }

theorem setM_at {κ : Type} {enc : κ → Value} {w : World} {r : Nat} (m : List (κ × Value)) (h : r < w.heap.size) : MapAt enc (setM enc w r m) r m := by
  simp [MapAt, setM, h]
theorem setM_other {κ : Type} {enc : κ → Value} {w : World} {r : Nat} (m : List (κ × Value)) {k : Nat} (h : k ≠ r) : (setM enc w r m).heap[k]? = w.heap[k]? := by
  simp [setM, Ne.symm h]
theorem setM_cell {κ : Type} {enc : κ → Value} {w : World} {r : Nat} (m : List (κ × Value)) {a : Addr} (h : a.block ≠ r) : (setM enc w r m).cell? a = w.cell? a :=
  World.cell?_of_block (setM_other m h)
theorem setM_size {κ : Type} {enc : κ → Value} {w : World} {r : Nat} (m : List (κ × Value)) : (setM enc w r m).heap.size = w.heap.size := by simp [setM]
theorem setM_setM {κ : Type} {enc : κ → Value} {w : World} {r : Nat} (m m' : List (κ × Value)) : setM enc (setM enc w r m) r m' = setM enc w r m' := by
  simp [setM]
theorem MapAt.lt {κ : Type} {enc : κ → Value} {w : World} {r : Nat} {m : List (κ × Value)} (h : MapAt enc w r m) : r < w.heap.size := (Array.getElem?_eq_some_iff.1 h).1

section
variable {κ : Type} [DecidableEq κ] {enc : κ → Value} {kt T et : TypeId} (K : KLaw kt enc) (hT : Try.prog.underlying T = some (.map kt et)) {z : Value} (hz : ∀ w : World, (zeroValue et).run Try.prog w = .ok z w)
  {w : World} {r : Nat} {m : List (κ × Value)} (hm : MapAt enc w r m)
include K hT hz hm

theorem run_lookup_ok (k : κ) : (Instr.lookup T (.map (some r)) (enc k) true).run Try.prog w = .ok (.tuple #[(getE k m).getD z, .bool (getE k m).isSome]) w := by
  unfold MapAt at hm
  unfold getE
  cases hf : findE k m 0 <;>
    simp [Instr.lookup, run_underlying hT, MapKept.run_getObj_map hm, K.check, K.find, hf, hz, Result.andThen]
theorem run_lookup_plain (k : κ) : (Instr.lookup T (.map (some r)) (enc k) false).run Try.prog w = .ok ((getE k m).getD z) w := by
  unfold MapAt at hm
  unfold getE
  cases hf : findE k m 0 <;>
    simp [Instr.lookup, run_underlying hT, MapKept.run_getObj_map hm, K.check, K.find, hf, hz, Result.andThen]
end

theorem mset_modify {κ : Type} {enc : κ → Value} {m : List (κ × Value)} {j : Nat} {k : κ} {v0 : Value} (v : Value) (h : m[j]? = some (k, v0)) (f : MapEntry → MapEntry) (hf : f { key := enc k, val := v0, born := j } = { key := enc k, val := v, born := j }) :
    (entsFrom enc 0 m).modify j f = entsFrom enc 0 (m.set j (k, v)) := by
  apply List.ext_getElem?
  intro i
  rw [List.getElem?_modify]
  simp only [entsFrom_get]
  by_cases e : j = i
  · subst e
    have hj : j < m.length := (List.getElem?_eq_some_iff.1 h).1
    rw [h, List.getElem?_set_self hj]
    simp [hf]
  · rw [List.getElem?_set_ne e]
    cases m[i]? <;> simp [e]

theorem ents_push {κ : Type} (enc : κ → Value) (m : List (κ × Value)) (k : κ) (v : Value) (i : Nat) : (entsFrom enc i m).toArray.push { key := enc k, val := v, born := i + m.length } = (entsFrom enc i (m ++ [(k, v)])).toArray := by
  apply Array.ext_getElem?
  intro j
  simp only [Array.getElem?_push, List.getElem?_toArray, entsFrom_get, List.size_toArray, entsFrom_length]
  by_cases e : j = m.length
  · subst e; simp
  · rw [if_neg e]
    by_cases hj : j < m.length
    · rw [List.getElem?_append_left hj]
    · rw [List.getElem?_eq_none (by omega), List.getElem?_eq_none (by simp; omega)]

section
variable {κ : Type} [DecidableEq κ] {enc : κ → Value} {kt T et : TypeId} (K : KLaw kt enc) (hT : Try.prog.underlying T = some (.map kt et)) {z : Value} (hz : ∀ w : World, (zeroValue et).run Try.prog w = .ok z w)
  {w : World} {r : Nat} {m : List (κ × Value)} (hm : MapAt enc w r m)
include K hT hm

theorem run_mapUpdate (k : κ) (v : Value) : (Instr.mapUpdate T (.map (some r)) (enc k) v).run Try.prog w = .ok () (setM enc w r (putE k v m)) := by
  have hm' := hm
  unfold MapAt at hm'
  rcases findE_spec k m 0 with ⟨h1, h2⟩ | ⟨j, v0, h1, h2⟩
  · simp [Instr.mapUpdate, run_underlying hT, MapKept.run_getObj_map hm', K.check, K.find, h1, MapKept.run_setObj_map _ hm', Result.andThen, setM, putE]
    rw [← ents_push enc m k v 0]; simp
  · have e : (entsFrom enc 0 m)[j]? = some { key := enc k, val := v0, born := j } := by rw [entsFrom_get, h2]; simp
    rw [show 0 + j = j by omega] at h1
    simp [Instr.mapUpdate, run_underlying hT, MapKept.run_getObj_map hm', K.check, K.find, h1, e, K.stays, MapKept.run_setObj_map _ hm', Result.andThen, setM, putE]
    rw [mset_modify v h2 _ rfl]

include hz in
/-- an entry is asked for: it is there, or it is made -/
theorem run_mapEntry (k : κ) : ∃ (v0 : Value) (i : Nat) (m1 : List (κ × Value)), (Instr.mapEntry T (.map (some r)) (enc k)).run Try.prog w = .ok (.tuple #[v0, .int .i64 i]) (setM enc w r m1) ∧
    m1[i]? = some (k, v0) ∧ ∀ v, m1.set i (k, v) = putE k v m := by
  have hm' := hm
  unfold MapAt at hm'
  rcases findE_spec k m 0 with ⟨h1, h2⟩ | ⟨j, v0, h1, h2⟩
  · refine ⟨z, m.length, m ++ [(k, z)], ?_, by simp, fun v => by simp [putE, h1]⟩
    simp [Instr.mapEntry, run_underlying hT, MapKept.run_getObj_map hm', K.check, K.find, h1, hz, MapKept.run_setObj_map _ hm', Result.andThen, setM, goInt]
    rw [← ents_push enc m k z 0]; simp
  · have e : (entsFrom enc 0 m)[j]? = some { key := enc k, val := v0, born := j } := by rw [entsFrom_get, h2]; simp
    rw [show 0 + j = j by omega] at h1
    refine ⟨v0, j, m, ?_, h2, fun v => by simp [putE, h1]⟩
    simp [Instr.mapEntry, run_underlying hT, MapKept.run_getObj_map hm', K.check, K.find, h1, e, K.stays, MapKept.run_setObj_map _ hm', Result.andThen, setM, goInt]
    have hself : m.set j (k, v0) = m := by
      apply List.ext_getElem?
      intro i
      by_cases e : j = i
      · subst e; rw [List.getElem?_set_self (List.getElem?_eq_some_iff.1 h2).1, h2]
      · rw [List.getElem?_set_ne e]
    rw [mset_modify v0 h2 _ rfl, hself]

omit K hT [DecidableEq κ]
/-- an entry that is there is stored into -/
theorem run_entryStore (i : Nat) (k : κ) (v v0 : Value) (h : m[i]? = some (k, v0)) : (Instr.entryStore T (.map (some r)) (.int .i64 i) v).run Try.prog w = .ok () (setM enc w r (m.set i (k, v))) := by
  have hm' := hm
  unfold MapAt at hm'
  have hf : ((entsFrom enc 0 m).toArray.findIdx? fun e => (e.born : Int) == (i : Int)) = some i := by
    rw [List.findIdx?_toArray]
    rw [List.findIdx?_eq_some_iff_getElem]
    have hi : i < m.length := (List.getElem?_eq_some_iff.1 h).1
    have hg : ∀ j (hj : j < (entsFrom enc 0 m).length), (entsFrom enc 0 m)[j].born = j := by
      intro j hj
      have e := entsFrom_get enc m 0 j
      rw [List.getElem?_eq_getElem hj] at e
      have hj' : j < m.length := by simpa [entsFrom_length] using hj
      rw [List.getElem?_eq_getElem hj'] at e
      simp at e
      rw [e]
    refine ⟨by simpa [entsFrom_length] using hi, by rw [hg]; simp, fun j hj => by rw [hg]; simp; omega⟩
  simp [Instr.entryStore, MapKept.run_getObj_map hm', hf, asInt, asIntOf, MapKept.run_setObj_map _ hm', Result.andThen, setM]
  rw [mset_modify v h _ rfl]
end

instance : DecidableEq (Int × Int × Int) := inferInstance
/-- keys of three integers -/
def enc3 (k : Int × Int × Int) : Value := key3 k.1 k.2.1 k.2.2
theorem check3 (em : Bool) (a b c : Int) (w : World) : (Instr.checkKey em 10000 46 (key3 a b c)).run Try.prog w = .ok () w := by
  have h1 : ∀ d (x : Int) (w : World), (Instr.checkKey em (d + 1) 2 (.int .i64 x)).run Try.prog w = .ok () w := by
    intro d x w
    unfold Instr.checkKey
    simp [run_underlying Try.underlying2]
  have h : ∀ d, (Instr.checkKey em (d + 2) 46 (key3 a b c)).run Try.prog w = .ok () w := by
    intro d
    unfold Instr.checkKey
    have p0 : ∀ (x y z : Int) (w : World), (part 2 #[.int .i64 x, .int .i64 y, .int .i64 z] 0).run Try.prog w = .ok (.int .i64 x) w := fun x y z w => by kernel_rfl
    have p1 : ∀ (x y z : Int) (w : World), (part 2 #[.int .i64 x, .int .i64 y, .int .i64 z] 1).run Try.prog w = .ok (.int .i64 y) w := fun x y z w => by kernel_rfl
    have p2 : ∀ (x y z : Int) (w : World), (part 2 #[.int .i64 x, .int .i64 y, .int .i64 z] 2).run Try.prog w = .ok (.int .i64 z) w := fun x y z w => by kernel_rfl
    have s1 : ∀ (w : World), (sizeOf 2).run Try.prog w = .ok 1 w := fun w => by kernel_rfl
    simp [run_underlying Try.underlying46]
    rw [show List.range' 0 3 = [0, 1, 2] from rfl]
    simp [p0, p1, p2, s1, h1]
  exact h 9998

theorem asking3 (k : Int × Int × Int) (m : List ((Int × Int × Int) × Value)) (w : World) : ∀ i, (Instr.findAsking 46 (enc3 k) (entsFrom enc3 i m) i).run Try.prog w = .ok (findE k m i) w := by
  induction m with
  | nil => intro i; simp [entsFrom, Instr.findAsking, findE]
  | cons p l ih =>
    intro i
    obtain ⟨⟨a', b', c'⟩, v⟩ := p
    obtain ⟨a, b, c⟩ := k
    have e := eq3 a b c a' b' c' w
    by_cases h : a = a' ∧ b = b' ∧ c = c'
    · have hb : (a == a' && b == b' && c == c') = true := by simp [h]
      rw [hb] at e
      obtain ⟨rfl, rfl, rfl⟩ := h
      simp [entsFrom, Instr.findAsking, findE, enc3, e, Result.andThen]
    · have hb : (a == a' && b == b' && c == c') = false := by
        rw [Bool.eq_false_iff]; intro hh; simp at hh; exact h ⟨hh.1.1, hh.1.2, hh.2⟩
      rw [hb] at e
      have hne : ¬ (a, b, c) = (a', b', c') := by simpa using h
      simp only [entsFrom, Instr.findAsking, findE, enc3, Sem.run_bind, e, Result.andThen]
      rw [if_neg hne]
      simpa [enc3] using ih (i + 1)

theorem law3 : KLaw 46 enc3 where
  check em k w := check3 em _ _ _ w
  find k m w := by
    cases m with
    | nil => simp [Instr.findKey, run_underlying Try.underlying46, entsFrom, Instr.findNow, findE]
    | cons p l =>
      have h := asking3 k (p :: l) w 0
      simp only [Instr.findKey, Sem.run_bind, run_underlying Try.underlying46, Result.andThen]
      rw [show Instr.findNow (.array 3 2) (enc3 k) (entsFrom enc3 0 (p :: l)) 0 = none from rfl]
      exact h
  stays k w := by
    have h : Instr.sameBits (9999 + 1) (enc3 k) (enc3 k) = true := by simp [enc3, Instr.sameBits]
    have h' : Instr.sameBits 10000 (enc3 k) (enc3 k) = true := h
    simp [Instr.keyThatStays, h']

end Go.Proofs.Ytdhicgdcjfcomaa
