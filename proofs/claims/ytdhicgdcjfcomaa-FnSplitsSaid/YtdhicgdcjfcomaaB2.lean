/- Ground: worlds that differ in some blocks alone; the element type of a block. -/
import Derived.Test.YtdhicgdcjfcomaaWMaps
namespace Go.Proofs.Ytdhicgdcjfcomaa
open Go.RowKit

/-- w' is w but for new blocks and the blocks of S -/
structure Only (S : Nat → Prop) (w w' : World) : Prop where
  os : w'.os = w.os
  tape : w'.tape = w.tape
  output : w'.output = w.output
  size : w.heap.size ≤ w'.heap.size
  block : ∀ k, k < w.heap.size → ¬ S k → w'.heap[k]? = w.heap[k]?
theorem Only.refl (S : Nat → Prop) (w : World) : Only S w w := ⟨rfl, rfl, rfl, Nat.le_refl _, fun _ _ _ => rfl⟩
theorem Only.trans {S : Nat → Prop} {a b c : World} (h : Only S a b) (k : Only S b c) : Only S a c :=
  ⟨k.os.trans h.os, k.tape.trans h.tape, k.output.trans h.output, Nat.le_trans h.size k.size, fun i hi hs => (k.block i (Nat.lt_of_lt_of_le hi h.size) hs).trans (h.block i hi hs)⟩
/-- blocks that a chain of steps may touch, from a world of this size on -/
theorem Only.chain {S T : Nat → Prop} {a b c : World} (h : Only S a b) (k : Only T b c) (hT : ∀ q, q < a.heap.size → T q → S q) : Only S a c :=
  ⟨k.os.trans h.os, k.tape.trans h.tape, k.output.trans h.output, Nat.le_trans h.size k.size, fun i hi hs => (k.block i (Nat.lt_of_lt_of_le hi h.size) (fun ht => hs (hT i hi ht))).trans (h.block i hi hs)⟩
theorem Only.of_below {S : Nat → Prop} {w w' : World} (h : Below w.heap.size w w') : Only S w w' := ⟨h.os, h.tape, h.output, h.size, fun k hk _ => h.block k hk⟩
theorem Only.drewN {S : Nat → Prop} {a w : World} (h : Only S a w) (n : Nat) : Only S a (w.drewN n) := ⟨h.os, h.tape, h.output, h.size, h.block⟩
theorem Only.setM {S : Nat → Prop} {a w : World} (h : Only S a w) {κ : Type} (enc : κ → Value) {r : Nat} (hr : S r) (m : List (κ × Value)) : Only S a (setM enc w r m) :=
  ⟨h.os, h.tape, h.output, by rw [setM_size]; exact h.size, fun k hk hs => (setM_other m (fun e => hs (by rw [e]; exact hr))).trans (h.block k hk hs)⟩
theorem Only.cell {S : Nat → Prop} {w w' : World} (h : Only S w w') {a : Addr} (ha : a.block < w.heap.size) (hs : ¬ S a.block) : w'.cell? a = w.cell? a :=
  World.cell?_of_block (h.block a.block ha hs)
theorem Only.below {S : Nat → Prop} {B : Nat} {w w' : World} (h : Only S w w') (hB : B ≤ w.heap.size) (hS : ∀ k, S k → B ≤ k) : Below B w w' :=
  ⟨h.os, h.tape, h.output, h.size, fun k hk => h.block k (by omega) (fun hs => by have := hS k hs; omega)⟩
theorem Ints.only {S : Nat → Prop} {w w' : World} {A : Option Addr} {zs : List Int} (h : Ints w A zs) (ho : Only S w w') (hS : ∀ k, S k → ∀ i, w.cell? ⟨k, i, none⟩ = none) : Ints w' A zs := by
  intro hn
  obtain ⟨b, o, e, hl, hc⟩ := h hn
  have hb : ¬ S b := fun hs => by
    have h1 := hS b hs (o + 0)
    have h2 := hc 0 zs[0] (List.getElem?_eq_getElem hn)
    rw [h1] at h2; cases h2
  exact ⟨b, o, e, Nat.lt_of_lt_of_le hl ho.size, fun j x hx => (ho.cell (a := ⟨b, o + j, none⟩) hl hb).trans (hc j x hx)⟩

theorem MapAt.nocell {κ : Type} {enc : κ → Value} {w : World} {r : Nat} {m : List (κ × Value)} (h : MapAt enc w r m) (i : Nat) : w.cell? ⟨r, i, none⟩ = none := by
  unfold MapAt at h
  simp [World.cell?, h]

/-- block b's elements are of type t -/
def Typed (w : World) (b : Nat) (t : TypeId) : Prop := ∃ cs, w.heap[b]? = some (.cells cs t (0, 0))
theorem Typed.lt {w : World} {b : Nat} {t : TypeId} (h : Typed w b t) : b < w.heap.size := by
  obtain ⟨cs, h⟩ := h; exact (Array.getElem?_eq_some_iff.1 h).1
theorem Typed.ne {w : World} {b b' : Nat} {t t' : TypeId} (h : Typed w b t) (h' : Typed w b' t') (hne : t ≠ t') : b ≠ b' := by
  rintro rfl
  obtain ⟨cs, h⟩ := h
  obtain ⟨cs', h'⟩ := h'
  rw [h] at h'; simp at h'; exact hne h'.2
theorem Cells.typed {w : World} {b : Nat} {t : TypeId} {C : List Value} (h : Cells w b t C) : Typed w b t := ⟨_, h⟩
theorem own_typed {w : World} {base e n : Nat} {v : Value} {xs : List Value} (h : w.ownsRow base e 1 v n xs) {g : Nat} (hg : v.ownBlock = some g) : Typed w g e := by
  rcases h.2 with ⟨rfl, _⟩ | ⟨g', cap, cur, rfl, _, hh, _⟩
  · simp [Value.ownBlock] at hg
  · simp [Value.ownBlock] at hg; subst hg; exact ⟨cur, hh⟩
theorem own_ne {w : World} {base e n : Nat} {v : Value} {xs : List Value} (h : w.ownsRow base e 1 v n xs) {b : Nat} {t : TypeId} (hb : Typed w b t) (hne : e ≠ t) : some b ≠ v.ownBlock := by
  intro he
  exact (own_typed h he.symm).ne hb hne rfl

end Go.Proofs.Ytdhicgdcjfcomaa
