/- Texts put together: WSer, WSer2, WSer3. -/
import Derived.Test.YtmcaphbngfdfiaaKB
import Derived.Test.YtmcaphbngfdfiaaKA
import Derived.StillTailTactics
import Derived.BigRegion
import Derived.Lib.SliceRun

/- Walks of the program's series: sums and products. -/
namespace Go.Proofs.Ytmcaphbngfdfiaa
open Go.RowKit Plain

/-- a row of values -/
def rowF (n : Nat) (f : Nat → Int) : List Value := (mk n f).map (Value.int .i64)
theorem rowF_get {n : Nat} {f : Nat → Int} {k : Nat} (h : k < n) : (rowF n f)[k]? = some (.int .i64 (f k)) := by simp [rowF, mk, h]
theorem rowF_set {n k : Nat} {f : Nat → Int} (y : Int) : (rowF n f).set k (.int .i64 y) = rowF n fun j => if j = k then y else f j := by
  apply List.ext_getElem?
  intro i
  by_cases hi : i < n
  · rw [rowF_get hi]
    by_cases e : k = i
    · subst e; rw [List.getElem?_set_self (by simp [rowF, mk, hi])]; simp
    · rw [List.getElem?_set_ne e, rowF_get hi, if_neg (fun h => e h.symm)]
  · rw [List.getElem?_eq_none (by simp [rowF, mk]; omega), List.getElem?_eq_none (by simp [rowF, mk]; omega)]
theorem rowF_congr {n : Nat} {f g : Nat → Int} (h : ∀ k, k < n → f k = g k) : rowF n f = rowF n g := by unfold rowF; rw [mk_congr h]
theorem rowF_zero (n : Nat) : (List.replicate n (Value.int .i64 0)) = rowF n fun _ => 0 := by
  apply List.ext_getElem?
  intro i
  by_cases hi : i < n
  · rw [rowF_get hi]; simp [hi]
  · rw [List.getElem?_eq_none (by simp; omega), List.getElem?_eq_none (by simp [rowF, mk]; omega)]
/-- the values up to k, then x, then zeros -/
def upTo (f : Nat → Int) (k : Nat) (x : Int) : Nat → Int := fun j => if j < k then f j else if j = k then x else 0
theorem upTo_set {n k : Nat} {f : Nat → Int} {x : Int} (y : Int) : (rowF n (upTo f k x)).set k (.int .i64 y) = rowF n (upTo f k y) := by
  rw [rowF_set]
  refine rowF_congr fun j _ => ?_
  unfold upTo
  by_cases h : j = k
  · subst h; simp
  · simp [h]
theorem upTo_next {n k : Nat} {f : Nat → Int} : rowF n (upTo f k (f k)) = rowF n (upTo f (k + 1) 0) := by
  refine rowF_congr fun j _ => ?_
  unfold upTo
  rcases Nat.lt_trichotomy j k with h | rfl | h
  · rw [if_pos h, if_pos (by omega)]
  · rw [if_neg (by omega), if_pos rfl, if_pos (by omega)]
  · rw [if_neg (by omega), if_neg (by omega), if_neg (by omega)]; split <;> rfl
theorem upTo_zero {n : Nat} {f : Nat → Int} : rowF n (fun _ => 0) = rowF n (upTo f 0 0) := by
  refine rowF_congr fun j _ => ?_
  unfold upTo; rw [if_neg (by omega)]; split <;> rfl
theorem upTo_end {n : Nat} {f : Nat → Int} : rowF n (upTo f n 0) = (mk n f).map (Value.int .i64) := rowF_congr fun j h => by unfold upTo; rw [if_pos h]

theorem cell_row {w : World} {g n k : Nat} {t : TypeId} {f : Nat → Int} (h : Cells w g t (rowF n f)) (hk : k < n) : w.cell? ⟨g, k, none⟩ = some (.int .i64 (f k)) := by
  rw [h.cell, rowF_get hk]
theorem Ints.cfAt {w : World} {A : Option Addr} {a : List Int} (h : Ints w A a) (h0 : 0 < a.length) : ∃ b o, A = some ⟨b, o, none⟩ ∧ b < w.heap.size ∧ ∀ k, k < a.length → w.cell? ⟨b, o + k, none⟩ = some (.int .i64 (cf a k)) := by
  obtain ⟨b, o, e, hl, hc⟩ := h h0
  exact ⟨b, o, e, hl, fun k hk => hc k _ (cf_some hk)⟩

/-- what a call that makes a series comes to -/
def SerPost (zs : List Int) (w : World) (e : Ending) (w' : World) : Prop :=
  e = .returned (.slice (some ⟨w.heap.size, 0, none⟩) zs.length zs.length) ∧ Cells w' w.heap.size 2 (zs.map (Value.int .i64)) ∧ Below w.heap.size w w'
theorem Cells.intsM' {w : World} {g B : Nat} {t : TypeId} {zs : List Int} (h : Cells w g t (zs.map (Value.int .i64))) (hB : B ≤ g) : IntsM w B (some ⟨g, 0, none⟩) zs :=
  fun _ => ⟨g, 0, rfl, hB, h.lt, fun j x hx => ⟨by rw [h.cell, Nat.zero_add]; simp [hx], h.frozen _⟩⟩

theorem mulT_step (a b : List Int) (k i : Nat) : (rs (mulT a b k i) + cf a i * cf b (k - i)) % 1000003 = rs (mulT a b k (i + 1)) := by
  have : mulT a b k (i + 1) = mulT a b k i + cf a i * cf b (k - i) := rfl
  rw [this]; unfold rs; omega

end Go.Proofs.Ytmcaphbngfdfiaa

/- Walk of the program's quotient of series. -/
namespace Go.Proofs.Ytmcaphbngfdfiaa
open Go.RowKit Plain

/-- the products that a quotient's coefficient takes away -/
def divS (a b : List Int) (k j : Nat) : Int := sumN (fun i => cf (divL a b) i * cf b (k - i)) j
theorem divL_cf (a b : List Int) {k : Nat} (h : k < a.length) : cf (divL a b) k = tm (rs (cf a k - divS a b k k)) (iv (cf b 0)) := by
  unfold divL
  rw [divT_cf' a b (k + 1) a.length k (by omega) (by omega), divT_last]
  unfold divS
  congr 3
  exact sumN_congr _ fun i hi => by unfold divL; rw [divT_cf' a b k a.length i hi (by omega)]

end Go.Proofs.Ytmcaphbngfdfiaa

/- Walks: ValidSeries, areSeries, AddSeries, MulSeries, DivSeries of the program. -/
namespace Go.Proofs.Ytmcaphbngfdfiaa
open Go.RowKit Plain

/-- are all of them numbers? -/
def nums' (zs : List Int) : Bool := zs.all fun x => inR x 0 1000002
/-- is it a series? -/
def serB (zs : List Int) : Bool := inR zs.length 1 13 && nums' zs
theorem any_notN {zs : List Int} : zs.any (fun x => !inR x 0 1000002) = !nums' zs := by
  unfold nums'
  induction zs with
  | nil => rfl
  | cons x l ih => simp only [List.any_cons, List.all_cons, ih, Bool.not_and]

theorem serB_isS {zs : List Int} (h : serB zs = true) : 0 < zs.length ∧ zs.length ≤ 13 ∧ IsS zs := by
  unfold serB at h
  rw [Bool.and_eq_true] at h
  have h1 := inR_true.1 h.1
  refine ⟨by omega, by omega, fun k => ?_⟩
  by_cases hk : k < zs.length
  · have := List.all_eq_true.1 h.2 (cf zs k) (List.mem_of_getElem? (cf_some hk))
    exact inR_true.1 this
  · rw [cf_big (by omega)]; omega
theorem serB_of {zs : List Int} (h0 : 0 < zs.length) (h1 : zs.length ≤ 13) (h : IsS zs) : serB zs = true := by
  unfold serB nums'
  rw [Bool.and_eq_true, List.all_eq_true]
  refine ⟨inR_true.2 (by omega), fun x hx => ?_⟩
  obtain ⟨k, hk, rfl⟩ := List.getElem_of_mem hx
  have := h k
  rw [cf_get (List.getElem?_eq_getElem hk)] at this
  exact inR_true.2 this

/-- what an operation of two series comes to -/
def SerPost2 (zs : List Int) (code : Int) (w : World) (e : Ending) (w' : World) : Prop :=
  ∃ g, e = .returned (.tuple #[.slice (some ⟨g, 0, none⟩) zs.length zs.length, .int .i64 code]) ∧ IntsM w' w.heap.size (some ⟨g, 0, none⟩) zs ∧ Below w.heap.size w w'
theorem IntsM.mono {w : World} {B B' : Nat} {A : Option Addr} {zs : List Int} (h : IntsM w B A zs) (hB : B' ≤ B) : IntsM w B' A zs := fun hn => by
  obtain ⟨b, o, e, h1, h2, h3⟩ := h hn
  exact ⟨b, o, e, by omega, h2, h3⟩

end Go.Proofs.Ytmcaphbngfdfiaa
