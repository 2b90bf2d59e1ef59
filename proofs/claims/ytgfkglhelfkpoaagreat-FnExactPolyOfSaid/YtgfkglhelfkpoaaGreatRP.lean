/- Texts put together: WReg, WSS, WSS2, WSS3, B3, LawEx. -/
import Derived.Test.YtgfkglhelfkpoaaGreatRO
import Derived.Test.YtgfkglhelfkpoaaGreatRC

/- Facts on memory that rest on some blocks alone; lists, lists of lists and programs in blocks of a law's own. -/
namespace Go.Proofs.YtgfkglhelfkpoaaGreat
open Go.RowKit Plain

/-- a fact that rests on the blocks from lo on, below hi -/
structure Reg (w : World) (lo hi : Nat) (Φ : World → Prop) : Prop where
  le : lo ≤ hi
  size : hi ≤ w.heap.size
  now : Φ w
  keep : ∀ w1 w2 : World, Φ w1 → (∀ q, lo ≤ q → q < hi → w2.heap[q]? = w1.heap[q]?) → Φ w2
theorem Reg.only {w w' : World} {lo hi : Nat} {Φ : World → Prop} {S : Nat → Prop} (h : Reg w lo hi Φ) (ho : Only S w w') (hS : ∀ q, lo ≤ q → q < hi → ¬ S q) : Reg w' lo hi Φ :=
  ⟨h.le, Nat.le_trans h.size ho.size, h.keep w w' h.now (fun q q1 q2 => ho.block q (by have := h.size; omega) (hS q q1 q2)), h.keep⟩
theorem Reg.below {w w' : World} {lo hi : Nat} {Φ : World → Prop} (h : Reg w lo hi Φ) (hb : Below w.heap.size w w') : Reg w' lo hi Φ :=
  h.only (Only.of_below (S := fun _ => False) hb) (fun _ _ _ h => h)
/-- the blocks of another region are written -/
theorem Reg.apart {w w' : World} {lo hi a b : Nat} {Φ : World → Prop} (h : Reg w lo hi Φ) (ho : Only (fun q => a ≤ q ∧ q < b) w w') (hd : hi ≤ a ∨ b ≤ lo) : Reg w' lo hi Φ :=
  h.only ho (fun q _ _ hs => by omega)
theorem belowRegion {w0 w w' : World} {a b : Nat} (h : Below w0.heap.size w0 w) (ho : Only (fun q => a ≤ q ∧ q < b) w w') (ha : w0.heap.size ≤ a) : Below w0.heap.size w0 w' :=
  h.trans (ho.below h.size (fun k hk => by omega))

theorem eqR {A A' : Option Addr} (cap cap' : Nat) {zs : List Int} {w : World} (h : Ints w A zs) (h' : Ints w A' zs) (hn : zs.length ≤ 4611686018427387904) :
    Calls Tryz.prog 14 #[.slice A zs.length cap, .slice A' zs.length cap'] w fun e w' => e = .returned (.bool true) ∧ Below w.heap.size w w' :=
  (eqInts A A' cap cap' zs w h h' hn).mono fun _ _ ⟨he, hd⟩ => ⟨he, hd.below _⟩

/-- a program in the blocks g .. hi - 1, that may be written -/
def ProgR (g hi : Nat) (P : List Fn) (w : World) : Prop := FnsM w P (g + 1) hi g 0
theorem regProg {w : World} {g : Nat} {P : List Fn} (h : FnsM w P (g + 1) w.heap.size g 0) : Reg w g w.heap.size (ProgR g w.heap.size P) :=
  ⟨by have := h.le; omega, Nat.le_refl _, h, fun w1 w2 h1 hb => h1.keep (SameCells.of_block (hb g (Nat.le_refl _) (by have := FnsM.le h1; omega)) _ _) (fun q q1 q2 => hb q (by omega) q2)⟩
theorem toProgR {P : List Fn} (hz : fnSize P ≤ 1048576) {A : Option Addr} (cap : Nat) {B : Nat} {w : World} (hA : FnSl w B P A) (hB : B ≤ w.heap.size) :
    Calls Tryz.prog 22 #[prV A P.length cap] w fun e w' => ∃ g, w.heap.size ≤ g ∧ e = .returned (prV (some ⟨g, 0, none⟩) P.length P.length) ∧ Reg w' g w'.heap.size (ProgR g w'.heap.size P) ∧ Below w.heap.size w w' :=
  (toProgram_any P hz A cap B w hA hB).mono fun _e _w' ⟨g, h1, _h2, he, hM, hb⟩ => ⟨g, h1, he, regProg hM, hb⟩
theorem eqProgR {P : List Fn} {g hi g' hi' : Nat} (cap cap' : Nat) {w : World} (h : Reg w g hi (ProgR g hi P)) (h' : Reg w g' hi' (ProgR g' hi' P)) (hz : fnSize P ≤ 1048576) :
    Calls Tryz.prog 27 #[prV (some ⟨g, 0, none⟩) P.length cap, prV (some ⟨g', 0, none⟩) P.length cap'] w fun e w' => e = .returned (.bool true) ∧ Below w.heap.size w w' := by
  have e1 : FnSl w w.heap.size P (some ⟨g, 0, none⟩) := by
    have h1 := h.now
    have := FnsM.le h1
    exact ⟨g, 0, fun _ => rfl, FnsM.fns h1 h.size (by have := h.size; omega)⟩
  have e2 : FnSl w w.heap.size P (some ⟨g', 0, none⟩) := by
    have h1 := h'.now
    have := FnsM.le h1
    exact ⟨g', 0, fun _ => rfl, FnsM.fns h1 h'.size (by have := h'.size; omega)⟩
  exact eqProgram_any P _ _ cap cap' _ w e1 e2 (Nat.le_refl _) hz
theorem markProgR {P : List Fn} {g hi : Nat} (cap : Nat) {k : Int} {w : World} (h : Reg w g hi (ProgR g hi P)) (hz : fnSize P ≤ 1048576) (k0 : 0 ≤ k) (k1 : k ≤ 1000000000) :
    Calls Tryz.prog 28 #[prV (some ⟨g, 0, none⟩) P.length cap, .int .i64 k] w fun e w' => ∃ k', e = .returned (.int .i64 k') ∧ k ≤ k' ∧ k' ≤ k + 4 * fnSize P ∧ Only (fun q => g ≤ q ∧ q < hi) w w' := by
  have hle := FnsM.le h.now
  exact (markProgram_any P _ cap g (g + 1) hi k w (fun _ => rfl) h.now (by omega) h.size hz k0 k1).mono fun e w' ⟨k', he, h1, h2, hO⟩ =>
    ⟨k', he, h1, h2, ⟨hO.os, hO.tape, hO.output, hO.size, fun q hq hs => hO.block q hq (fun hi => hs (by omega))⟩⟩

end Go.Proofs.YtgfkglhelfkpoaaGreat

/- Walks of the laws' helpers on lists of lists of integers: szInt64SS, toInt64SS, eqInt64SS, markInt64SS, heldInt64SS. -/
namespace Go.Proofs.YtgfkglhelfkpoaaGreat
open Go.RowKit Plain

/-- how many numbers there are in all -/
def tot : List (List Int) → Nat
  | [] => 0
  | zs :: r => zs.length + tot r
theorem tot_append (a b : List (List Int)) : tot (a ++ b) = tot a + tot b := by
  induction a with
  | nil => simp [tot]
  | cons x a ih => simp only [List.cons_append, tot, ih]; omega
theorem tot_take_succ {zss : List (List Int)} {k : Nat} {zs : List Int} (h : zss[k]? = some zs) : tot (zss.take (k + 1)) = tot (zss.take k) + zs.length := by
  rw [take_snoc' zss k zs h, tot_append]; simp [tot]
theorem tot_take_le (zss : List (List Int)) (k : Nat) : tot (zss.take k) ≤ tot zss := by
  have := tot_append (zss.take k) (zss.drop k)
  rw [List.take_append_drop] at this
  omega
theorem len_le_tot {zss : List (List Int)} {k : Nat} {zs : List Int} (h : zss[k]? = some zs) : zs.length ≤ tot zss := by
  have h1 := tot_take_succ h
  have h2 := tot_take_le zss (k + 1)
  omega
end Go.Proofs.YtgfkglhelfkpoaaGreat

/- Walks of the laws' helpers on lists of lists of integers: toInt64SS, markInt64SS, heldInt64SS. -/
namespace Go.Proofs.YtgfkglhelfkpoaaGreat
open Go.RowKit Plain

end Go.Proofs.YtgfkglhelfkpoaaGreat

/- Walks of the laws' helpers on lists of lists of integers: toInt64SS. -/
namespace Go.Proofs.YtgfkglhelfkpoaaGreat
open Go.RowKit Plain

end Go.Proofs.YtgfkglhelfkpoaaGreat

/- Arguments of laws: lists of lists of integers. -/
namespace Go.Proofs.YtgfkglhelfkpoaaGreat
open Go.ChangeShapes Go.WideShapes Go.ChangeAt Go.RowKit Plain

end Go.Proofs.YtgfkglhelfkpoaaGreat

/- What the walks of the laws on programs share: arguments as contracts want them, and ends. -/
namespace Go.Proofs.YtgfkglhelfkpoaaGreat
open Go.RowKit Plain

/-- a program as an argument -/
structure ProgIn (w : World) (P : List Fn) (A : Option Addr) (cap : Nat) : Prop where
  fns : FnSl w w.heap.size P A
  pl : P.length ≤ cap
  pm : cap ≤ maxLen
  sz : fnSize P ≤ 1048576
theorem regPIn {w : World} {g hi : Nat} {P : List Fn} (h : Reg w g hi (ProgR g hi P)) (hz : fnSize P ≤ 1048576) : ProgIn w P (some ⟨g, 0, none⟩) P.length := by
  have h1 := h.now
  have := FnsM.le h1
  have := h.size
  exact ⟨⟨g, 0, fun _ => rfl, FnsM.fns h1 (by omega) (by omega)⟩, Nat.le_refl _, by unfold fnSize at hz; unfold maxLen; omega, hz⟩
theorem regBox {w : World} {b : Nat} {t : TypeId} {C : List Value} (h : Cells w b t C) : Reg w b (b + 1) (fun w' => Cells w' b t C) :=
  ⟨by omega, h.lt, h, fun w1 w2 h1 hb => (hb b (Nat.le_refl _) (by omega)).trans h1⟩
theorem keepC {w w' : World} {p : Addr} {u : Value} (h : w.cell? p = some u) (hb : Below w.heap.size w w') : w'.cell? p = some u :=
  (hb.cell (World.block_lt_of_cell? _ _ h)).trans h
theorem keep2 {w w' : World} {p q : Addr} {u v : Value} (h : w.cell? p = some u ∧ w.cell? q = some v) (hb : Below w.heap.size w w') : w'.cell? p = some u ∧ w'.cell? q = some v :=
  ⟨keepC h.1 hb, keepC h.2 hb⟩

end Go.Proofs.YtgfkglhelfkpoaaGreat
