/- Walks of the laws' marks: markInt64S, heldInt64S, markActionS, heldActionS: lists in memory that may be written. -/
import Derived.Test.YtdhicgdcjfcomaaWActs
import Derived.Test.YtdhicgdcjfcomaaB2
namespace Go.Proofs.Ytdhicgdcjfcomaa
open Go.RowKit

/-- the slice at A reads as zs, in a block from B on that may be written -/
def IntsM (w : World) (B : Nat) (A : Option Addr) (zs : List Int) : Prop :=
  0 < zs.length → ∃ b o, A = some ⟨b, o, none⟩ ∧ B ≤ b ∧ b < w.heap.size ∧ ∀ j x, zs[j]? = some x → w.cell? ⟨b, o + j, none⟩ = some (.int .i64 x) ∧ w.frozen? ⟨b, o + j, none⟩ = false
theorem IntsM.ints {w : World} {B : Nat} {A : Option Addr} {zs : List Int} (h : IntsM w B A zs) : Ints w A zs := fun hn => by
  obtain ⟨b, o, e, _, hl, hc⟩ := h hn
  exact ⟨b, o, e, hl, fun j x hx => (hc j x hx).1⟩
theorem IntsM.nil (w : World) (B : Nat) (A : Option Addr) : IntsM w B A [] := fun h => absurd h (by simp)
/-- the block of a slice -/
def InBlk (A : Option Addr) (q : Nat) : Prop := ∃ o, A = some ⟨q, o, none⟩
/-- the block of a slice of n parts, if n > 0 -/
def InB (n : Nat) (A : Option Addr) (q : Nat) : Prop := 0 < n ∧ InBlk A q
theorem IntsM.only {w w' : World} {S : Nat → Prop} {B : Nat} {A : Option Addr} {zs : List Int} (h : IntsM w B A zs) (ho : Only S w w') (hS : ∀ q, q < w.heap.size → InB zs.length A q → ¬ S q) : IntsM w' B A zs := fun hn => by
  obtain ⟨b, o, e, hB, hl, hc⟩ := h hn
  have hb := hS b hl ⟨hn, o, e⟩
  refine ⟨b, o, e, hB, Nat.lt_of_lt_of_le hl ho.size, fun j x hx => ⟨(ho.cell (a := ⟨b, o + j, none⟩) hl hb).trans (hc j x hx).1, ?_⟩⟩
  rw [← (hc j x hx).2]
  exact World.frozen?_of_block (w := w) (w' := w') (a := ⟨b, o + j, none⟩) (ho.block b hl hb)
theorem IntsM.below {w w' : World} {B : Nat} {A : Option Addr} {zs : List Int} (h : IntsM w B A zs) (hb : Below w.heap.size w w') : IntsM w' B A zs :=
  h.only (S := fun _ => False) (Only.of_below hb) (fun _ _ _ h => h)
theorem IntsM.blk {w : World} {B : Nat} {A : Option Addr} {zs : List Int} (h : IntsM w B A zs) {q : Nat} (hq' : InB zs.length A q) : B ≤ q ∧ q < w.heap.size := by
  obtain ⟨hn, hq⟩ := hq'
  obtain ⟨b, o, e, hB, hl, _⟩ := h hn
  obtain ⟨o', e'⟩ := hq
  rw [e] at e'
  obtain ⟨rfl, rfl⟩ : b = q ∧ o = o' := by simpa using e'
  exact ⟨hB, hl⟩
theorem Ints.onlyB {w w' : World} {S : Nat → Prop} {A : Option Addr} {zs : List Int} (h : Ints w A zs) (ho : Only S w w') (hS : ∀ q, q < w.heap.size → InB zs.length A q → ¬ S q) : Ints w' A zs := fun hn => by
  obtain ⟨b, o, e, hl, hc⟩ := h hn
  exact ⟨b, o, e, Nat.lt_of_lt_of_le hl ho.size, fun j x hx => (ho.cell (a := ⟨b, o + j, none⟩) hl (hS b hl ⟨hn, o, e⟩)).trans (hc j x hx)⟩

/-- the marks k, k + 1, .. -/
def markL (n : Nat) (k : Int) : List Int := (List.range n).map (fun i : Nat => k + (i : Int))
theorem markL_length (n : Nat) (k : Int) : (markL n k).length = n := by simp [markL]
theorem markL_get {n : Nat} {k : Int} {i : Nat} (h : i < n) : (markL n k)[i]? = some (k + i) := by simp [markL, h]

/-- the slice at A reads as these actions, in a block from B on that may be written -/
def ActsM (w : World) (B : Nat) (A : Option Addr) (l : List (Int × Int)) : Prop :=
  0 < l.length → ∃ b o, A = some ⟨b, o, none⟩ ∧ B ≤ b ∧ b < w.heap.size ∧ ∀ j x, l[j]? = some x →
    (w.cell? ⟨b, o + j * 2, none⟩ = some (.int .i64 x.1) ∧ w.cell? ⟨b, o + j * 2 + 1, none⟩ = some (.int .i64 x.2)) ∧ w.frozen? ⟨b, o + j * 2, none⟩ = false ∧ w.frozen? ⟨b, o + j * 2 + 1, none⟩ = false
theorem ActsM.acts {w : World} {B : Nat} {A : Option Addr} {l : List (Int × Int)} (h : ActsM w B A l) : Acts w A l := fun hn => by
  obtain ⟨b, o, e, _, hl, hc⟩ := h hn
  exact ⟨b, o, e, hl, fun j x hx => (hc j x hx).1⟩
theorem ActsM.nil (w : World) (B : Nat) (A : Option Addr) : ActsM w B A [] := fun h => absurd h (by simp)
theorem ActsM.only {w w' : World} {S : Nat → Prop} {B : Nat} {A : Option Addr} {l : List (Int × Int)} (h : ActsM w B A l) (ho : Only S w w') (hS : ∀ q, q < w.heap.size → InB l.length A q → ¬ S q) : ActsM w' B A l := fun hn => by
  obtain ⟨b, o, e, hB, hl, hc⟩ := h hn
  have hb := hS b hl ⟨hn, o, e⟩
  have hbl := ho.block b hl hb
  refine ⟨b, o, e, hB, Nat.lt_of_lt_of_le hl ho.size, fun j x hx => ?_⟩
  obtain ⟨⟨h1, h2⟩, h3, h4⟩ := hc j x hx
  exact ⟨⟨(World.cell?_of_block (w := w) (a := ⟨b, _, none⟩) hbl).trans h1, (World.cell?_of_block (w := w) (a := ⟨b, _, none⟩) hbl).trans h2⟩,
    (World.frozen?_of_block (w := w) (a := ⟨b, _, none⟩) hbl).trans h3, (World.frozen?_of_block (w := w) (a := ⟨b, _, none⟩) hbl).trans h4⟩
theorem ActsM.below {w w' : World} {B : Nat} {A : Option Addr} {l : List (Int × Int)} (h : ActsM w B A l) (hb : Below w.heap.size w w') : ActsM w' B A l :=
  h.only (S := fun _ => False) (Only.of_below hb) (fun _ _ _ h => h)
theorem ActsM.blk {w : World} {B : Nat} {A : Option Addr} {l : List (Int × Int)} (h : ActsM w B A l) {q : Nat} (hq' : InB l.length A q) : B ≤ q ∧ q < w.heap.size := by
  obtain ⟨hn, hq⟩ := hq'
  obtain ⟨b, o, e, hB, hl, _⟩ := h hn
  obtain ⟨o', e'⟩ := hq
  rw [e] at e'
  obtain ⟨rfl, rfl⟩ : b = q ∧ o = o' := by simpa using e'
  exact ⟨hB, hl⟩
theorem Acts.onlyB {w w' : World} {S : Nat → Prop} {A : Option Addr} {l : List (Int × Int)} (h : Acts w A l) (ho : Only S w w') (hS : ∀ q, q < w.heap.size → InB l.length A q → ¬ S q) : Acts w' A l := fun hn => by
  obtain ⟨b, o, e, hl, hc⟩ := h hn
  have hbl := ho.block b hl (hS b hl ⟨hn, o, e⟩)
  exact ⟨b, o, e, Nat.lt_of_lt_of_le hl ho.size, fun j x hx => ⟨(World.cell?_of_block (w := w) (a := ⟨b, _, none⟩) hbl).trans (hc j x hx).1, (World.cell?_of_block (w := w) (a := ⟨b, _, none⟩) hbl).trans (hc j x hx).2⟩⟩
theorem ActFill.actsM {l : List (Int × Int)} {C : List Value} {w : World} {g : Nat} {t : TypeId} (h : ActFill l l.length C) (hc : Cells w g t C) : ActsM w g (some ⟨g, 0, none⟩) l := fun hn => by
  obtain ⟨b, o, e, hl, hx⟩ := h.acts hc hn
  obtain ⟨rfl, rfl⟩ : g = b ∧ 0 = o := by simpa using e
  exact ⟨g, 0, rfl, Nat.le_refl _, hl, fun j x hj => ⟨hx j x hj, hc.frozen _, hc.frozen _⟩⟩

/-- actions that are marked -/
def markA (n : Nat) (k : Int) : List (Int × Int) := (List.range n).map (fun i : Nat => (k + 2 * (i : Int), k + 2 * (i : Int) + 1))
theorem markA_length (n : Nat) (k : Int) : (markA n k).length = n := by simp [markA]
theorem markA_get {n : Nat} {k : Int} {i : Nat} (h : i < n) : (markA n k)[i]? = some (k + 2 * (i : Int), k + 2 * (i : Int) + 1) := by simp [markA, h]

/-- what the marking of actions has done behind j of them -/
def MarkedTo (w : World) (A : Option Addr) (n : Nat) (k : Int) (j : Nat) : Prop :=
  ∀ b o, A = some ⟨b, o, none⟩ → 0 < n → ∀ i, i < n → (∃ x y, w.cell? ⟨b, o + i * 2, none⟩ = some (.int .i64 x) ∧ w.cell? ⟨b, o + i * 2 + 1, none⟩ = some (.int .i64 y)) ∧ w.frozen? ⟨b, o + i * 2, none⟩ = false ∧ w.frozen? ⟨b, o + i * 2 + 1, none⟩ = false ∧
    (i < j → w.cell? ⟨b, o + i * 2, none⟩ = some (.int .i64 (k + 2 * (i : Int))) ∧ w.cell? ⟨b, o + i * 2 + 1, none⟩ = some (.int .i64 (k + 2 * (i : Int) + 1)))
theorem MarkedTo.step {w : World} {b o n j : Nat} {k : Int} (h : MarkedTo w (some ⟨b, o, none⟩) n k j) (hj : j < n) :
    MarkedTo ((w.setCell ⟨b, o + j * 2, none⟩ (.int .i64 (k + 2 * (j : Int)))).setCell ⟨b, o + j * 2 + 1, none⟩ (.int .i64 (k + 2 * (j : Int) + 1))) (some ⟨b, o, none⟩) n k (j + 1) := by
  intro b' o' e hz i hi
  obtain ⟨rfl, rfl⟩ : b = b' ∧ o = o' := by simpa using e
  obtain ⟨⟨x, y, hx, hy⟩, hf1, hf2, hd⟩ := h b o rfl hz i hi
  have fr : ∀ a, ((w.setCell ⟨b, o + j * 2, none⟩ (.int .i64 (k + 2 * (j : Int)))).setCell ⟨b, o + j * 2 + 1, none⟩ (.int .i64 (k + 2 * (j : Int) + 1))).frozen? a = w.frozen? a := fun a => by rw [World.frozen?_setCell, World.frozen?_setCell]
  by_cases he : i = j
  · subst he
    have h1 : ((w.setCell ⟨b, o + i * 2, none⟩ (.int .i64 (k + 2 * (i : Int)))).setCell ⟨b, o + i * 2 + 1, none⟩ (.int .i64 (k + 2 * (i : Int) + 1))).cell? ⟨b, o + i * 2, none⟩ = some (.int .i64 (k + 2 * (i : Int))) :=
      (World.cell?_setCell_other _ _ _ _ (fun e => by injection e with _ h _; omega)).trans (World.cell?_setCell_same _ _ _ hx)
    have h2 : ((w.setCell ⟨b, o + i * 2, none⟩ (.int .i64 (k + 2 * (i : Int)))).setCell ⟨b, o + i * 2 + 1, none⟩ (.int .i64 (k + 2 * (i : Int) + 1))).cell? ⟨b, o + i * 2 + 1, none⟩ = some (.int .i64 (k + 2 * (i : Int) + 1)) :=
      World.cell?_setCell_same _ _ _ ((World.cell?_setCell_other _ _ _ _ (fun e => by injection e with _ h _; omega)).trans hy)
    exact ⟨⟨_, _, h1, h2⟩, by rw [fr]; exact hf1, by rw [fr]; exact hf2, fun _ => ⟨h1, h2⟩⟩
  · have h1 : ((w.setCell ⟨b, o + j * 2, none⟩ (.int .i64 (k + 2 * (j : Int)))).setCell ⟨b, o + j * 2 + 1, none⟩ (.int .i64 (k + 2 * (j : Int) + 1))).cell? ⟨b, o + i * 2, none⟩ = w.cell? ⟨b, o + i * 2, none⟩ :=
      (World.cell?_setCell_other _ _ _ _ (fun e => by injection e with _ h _; omega)).trans (World.cell?_setCell_other _ _ _ _ (fun e => by injection e with _ h _; omega))
    have h2 : ((w.setCell ⟨b, o + j * 2, none⟩ (.int .i64 (k + 2 * (j : Int)))).setCell ⟨b, o + j * 2 + 1, none⟩ (.int .i64 (k + 2 * (j : Int) + 1))).cell? ⟨b, o + i * 2 + 1, none⟩ = w.cell? ⟨b, o + i * 2 + 1, none⟩ :=
      (World.cell?_setCell_other _ _ _ _ (fun e => by injection e with _ h _; omega)).trans (World.cell?_setCell_other _ _ _ _ (fun e => by injection e with _ h _; omega))
    exact ⟨⟨x, y, h1.trans hx, h2.trans hy⟩, by rw [fr]; exact hf1, by rw [fr]; exact hf2, fun hh => ⟨h1.trans (hd (by omega)).1, h2.trans (hd (by omega)).2⟩⟩

end Go.Proofs.Ytdhicgdcjfcomaa
