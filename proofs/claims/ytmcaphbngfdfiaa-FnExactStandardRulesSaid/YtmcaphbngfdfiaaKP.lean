/- Texts put together: WReg, WSS, WSS2, WSS3, B3, LawEx. -/
import Derived.Test.YtmcaphbngfdfiaaKO
import Derived.Test.YtmcaphbngfdfiaaKC

/- Facts on memory that rest on some blocks alone; lists, lists of lists and programs in blocks of a law's own. -/
namespace Go.Proofs.Ytmcaphbngfdfiaa
open Go.RowKit Plain

/-- a fact that rests on the blocks from lo on, below hi -/
structure Reg (w : World) (lo hi : Nat) (Φ : World → Prop) : Prop where
  le : lo ≤ hi
  size : hi ≤ w.heap.size
  now : Φ w
  keep : ∀ w1 w2 : World, Φ w1 → (∀ q, lo ≤ q → q < hi → w2.heap[q]? = w1.heap[q]?) → Φ w2
theorem Reg.only {w w' : World} {lo hi : Nat} {Φ : World → Prop} {S : Nat → Prop} (h : Reg w lo hi Φ) (ho : Only S w w') (hS : ∀ q, lo ≤ q → q < hi → ¬ S q) : Reg w' lo hi Φ :=
  ⟨h.le, Nat.le_trans h.size ho.size, h.keep w w' h.now (fun q q1 q2 => ho.block q (by have := h.size; omega) (hS q q1 q2)), h.keep⟩
theorem Reg.below {w w' : World} {lo hi : Nat} {Φ : World → Prop} (h : Reg w lo hi Φ) (hb : Below w.heap.size w w') : Reg w' lo hi Φ :=
  h.only (Only.of_below (S := fun _ => False) hb) (fun _ _ _ h => h)
/-- the blocks of another region are written -/
theorem Reg.apart {w w' : World} {lo hi a b : Nat} {Φ : World → Prop} (h : Reg w lo hi Φ) (ho : Only (fun q => a ≤ q ∧ q < b) w w') (hd : hi ≤ a ∨ b ≤ lo) : Reg w' lo hi Φ :=
  h.only ho (fun q _ _ hs => by omega)
theorem belowRegion {w0 w w' : World} {a b : Nat} (h : Below w0.heap.size w0 w) (ho : Only (fun q => a ≤ q ∧ q < b) w w') (ha : w0.heap.size ≤ a) : Below w0.heap.size w0 w' :=
  h.trans (ho.below h.size (fun k hk => by omega))

/-- a list in the blocks lo .. hi - 1, that may be written -/
def IntsR (lo hi : Nat) (A : Option Addr) (zs : List Int) (w : World) : Prop :=
  0 < zs.length → ∃ b o, A = some ⟨b, o, none⟩ ∧ lo ≤ b ∧ b < hi ∧ ∀ j x, zs[j]? = some x → w.cell? ⟨b, o + j, none⟩ = some (.int .i64 x) ∧ w.frozen? ⟨b, o + j, none⟩ = false
theorem IntsR.keep {lo hi : Nat} {A : Option Addr} {zs : List Int} {w1 w2 : World} (h : IntsR lo hi A zs w1) (hb : ∀ q, lo ≤ q → q < hi → w2.heap[q]? = w1.heap[q]?) : IntsR lo hi A zs w2 := fun hn => by
  obtain ⟨b, o, e, h1, h2, hc⟩ := h hn
  have := hb b h1 h2
  exact ⟨b, o, e, h1, h2, fun j x hx => ⟨(World.cell?_of_block (a := ⟨b, _, none⟩) this).trans (hc j x hx).1, (World.frozen?_of_block (a := ⟨b, _, none⟩) this).trans (hc j x hx).2⟩⟩
theorem IntsM.reg {w : World} {B : Nat} {A : Option Addr} {zs : List Int} (h : IntsM w B A zs) (hB : B ≤ w.heap.size) : Reg w B w.heap.size (IntsR B w.heap.size A zs) :=
  ⟨hB, Nat.le_refl _, fun hn => by obtain ⟨b, o, e, h1, h2, hc⟩ := h hn; exact ⟨b, o, e, h1, h2, hc⟩, fun _ _ h hb => h.keep hb⟩
theorem regIntsM {w : World} {lo hi : Nat} {A : Option Addr} {zs : List Int} (h : Reg w lo hi (IntsR lo hi A zs)) : IntsM w lo A zs := fun hn => by
  obtain ⟨b, o, e, h1, h2, hc⟩ := h.now hn
  exact ⟨b, o, e, h1, Nat.lt_of_lt_of_le h2 h.size, hc⟩
theorem regInts {w : World} {lo hi : Nat} {A : Option Addr} {zs : List Int} (h : Reg w lo hi (IntsR lo hi A zs)) : Ints w A zs := (regIntsM h).ints

/-- a program in the blocks g .. hi - 1, that may be written -/
def ProgR (g hi : Nat) (P : List Fn) (w : World) : Prop := FnsM w P (g + 1) hi g 0
theorem regProg {w : World} {g : Nat} {P : List Fn} (h : FnsM w P (g + 1) w.heap.size g 0) : Reg w g w.heap.size (ProgR g w.heap.size P) :=
  ⟨by have := h.le; omega, Nat.le_refl _, h, fun w1 w2 h1 hb => h1.keep (SameCells.of_block (hb g (Nat.le_refl _) (by have := FnsM.le h1; omega)) _ _) (fun q q1 q2 => hb q (by omega) q2)⟩
theorem regFns {w : World} {g hi : Nat} {P : List Fn} (h : Reg w g hi (ProgR g hi P)) : FnSl w hi P (some ⟨g, 0, none⟩) := by
  have h1 := h.now
  have := FnsM.le h1
  exact ⟨g, 0, fun _ => rfl, FnsM.fns h1 (Nat.le_refl _) (by omega)⟩
end Go.Proofs.Ytmcaphbngfdfiaa

/- Walks of the laws' helpers on lists of lists of integers: szInt64SS, toInt64SS, eqInt64SS, markInt64SS, heldInt64SS. -/
namespace Go.Proofs.Ytmcaphbngfdfiaa
open Go.RowKit Plain

/-- the slice at A holds slices that read as these lists -/
def RowsAt (w : World) (A : Option Addr) (zss : List (List Int)) : Prop :=
  0 < zss.length → ∃ b o, A = some ⟨b, o, none⟩ ∧ b < w.heap.size ∧ ∀ i zs, zss[i]? = some zs → ∃ Ai cap, w.cell? ⟨b, o + i, none⟩ = some (.slice Ai zs.length cap) ∧ Ints w Ai zs ∧ zs.length ≤ 9223372036854775807
theorem RowsAt.below {w w' : World} {A : Option Addr} {zss : List (List Int)} (h : RowsAt w A zss) (hb : Below w.heap.size w w') : RowsAt w' A zss := fun hn => by
  obtain ⟨b, o, e, hl, hc⟩ := h hn
  refine ⟨b, o, e, Nat.lt_of_lt_of_le hl hb.size, fun i zs hz => ?_⟩
  obtain ⟨Ai, cap, h1, h2, h3⟩ := hc i zs hz
  exact ⟨Ai, cap, (hb.cell (p := ⟨b, _, none⟩) hl).trans h1, h2.below hb, h3⟩
theorem RowsAt.at_ {w : World} {A : Option Addr} {zss : List (List Int)} (h : RowsAt w A zss) {k : Nat} (hk : k < zss.length) :
    ∃ b o zs Ai cap, A = some ⟨b, o, none⟩ ∧ b < w.heap.size ∧ zss[k]? = some zs ∧ w.cell? ⟨b, o + k, none⟩ = some (.slice Ai zs.length cap) ∧ Ints w Ai zs ∧ zs.length ≤ 9223372036854775807 := by
  obtain ⟨b, o, e, hl, hc⟩ := h (by omega)
  obtain ⟨Ai, cap, h1, h2, h3⟩ := hc k _ (List.getElem?_eq_getElem hk)
  exact ⟨b, o, zss[k], Ai, cap, e, hl, List.getElem?_eq_getElem hk, h1, h2, h3⟩

/-- how many numbers there are in all -/
def tot : List (List Int) → Nat
  | [] => 0
  | zs :: r => zs.length + tot r
theorem tot_append (a b : List (List Int)) : tot (a ++ b) = tot a + tot b := by
  induction a with
  | nil => simp [tot]
  | cons x a ih => simp only [List.cons_append, tot, ih]; omega
theorem tot_take_succ {zss : List (List Int)} {k : Nat} {zs : List Int} (h : zss[k]? = some zs) : tot (zss.take (k + 1)) = tot (zss.take k) + zs.length := by
  rw [take_snoc' zss k zs h, tot_append]; simp [tot]
theorem tot_take_le (zss : List (List Int)) (k : Nat) : tot (zss.take k) ≤ tot zss := by
  have := tot_append (zss.take k) (zss.drop k)
  rw [List.take_append_drop] at this
  omega
theorem len_le_tot {zss : List (List Int)} {k : Nat} {zs : List Int} (h : zss[k]? = some zs) : zs.length ≤ tot zss := by
  have h1 := tot_take_succ h
  have h2 := tot_take_le zss (k + 1)
  omega
/-- what a list of lists takes -/
def ssSize (zss : List (List Int)) : Nat := zss.length + tot zss

end Go.Proofs.Ytmcaphbngfdfiaa

/- Walks of the laws' helpers on lists of lists of integers: toInt64SS, markInt64SS, heldInt64SS. -/
namespace Go.Proofs.Ytmcaphbngfdfiaa
open Go.RowKit Plain

/-- lists in the blocks lo .. hi - 1, no two in one block, that may be written -/
def RowsR (lo hi : Nat) (A : Option Addr) (zss : List (List Int)) (w : World) : Prop :=
  0 < zss.length → ∃ (b o : Nat) (g : Nat → Nat), A = some ⟨b, o, none⟩ ∧ lo ≤ b ∧ b < hi ∧
    (∀ i zs, zss[i]? = some zs → ∃ Ai cap, w.cell? ⟨b, o + i, none⟩ = some (.slice Ai zs.length cap) ∧
      (0 < zs.length → ∃ oi, Ai = some ⟨g i, oi, none⟩ ∧ lo ≤ g i ∧ g i < hi ∧ g i ≠ b ∧ ∀ j x, zs[j]? = some x → w.cell? ⟨g i, oi + j, none⟩ = some (.int .i64 x) ∧ w.frozen? ⟨g i, oi + j, none⟩ = false)) ∧
    ∀ i j zi zj, i < j → zss[i]? = some zi → zss[j]? = some zj → 0 < zi.length → 0 < zj.length → g i ≠ g j
theorem RowsR.keep {lo hi : Nat} {A : Option Addr} {zss : List (List Int)} {w1 w2 : World} (h : RowsR lo hi A zss w1) (hb : ∀ q, lo ≤ q → q < hi → w2.heap[q]? = w1.heap[q]?) : RowsR lo hi A zss w2 := fun hn => by
  obtain ⟨b, o, g, e, h1, h2, hc, hd⟩ := h hn
  refine ⟨b, o, g, e, h1, h2, fun i zs hz => ?_, hd⟩
  obtain ⟨Ai, cap, c1, c2⟩ := hc i zs hz
  refine ⟨Ai, cap, (World.cell?_of_block (a := ⟨b, _, none⟩) (hb b h1 h2)).trans c1, fun h0 => ?_⟩
  obtain ⟨oi, e1, e2, e3, e4, e5⟩ := c2 h0
  exact ⟨oi, e1, e2, e3, e4, fun j x hx => ⟨(World.cell?_of_block (a := ⟨g i, _, none⟩) (hb _ e2 e3)).trans (e5 j x hx).1, (World.frozen?_of_block (a := ⟨g i, _, none⟩) (hb _ e2 e3)).trans (e5 j x hx).2⟩⟩
theorem RowsR.nil (lo hi : Nat) (A : Option Addr) (w : World) : RowsR lo hi A [] w := fun h => absurd h (by simp)
theorem regRows {w : World} {lo hi : Nat} {A : Option Addr} {zss : List (List Int)} (h : Reg w lo hi (RowsR lo hi A zss)) (hm : tot zss ≤ 9223372036854775807) : RowsAt w A zss := fun hn => by
  obtain ⟨b, o, g, e, h1, h2, hc, _⟩ := h.now hn
  refine ⟨b, o, e, Nat.lt_of_lt_of_le h2 h.size, fun i zs hz => ?_⟩
  obtain ⟨Ai, cap, c1, c2⟩ := hc i zs hz
  refine ⟨Ai, cap, c1, fun h0 => ?_, Nat.le_trans (len_le_tot hz) hm⟩
  obtain ⟨oi, e1, e2, e3, e4, e5⟩ := c2 h0
  exact ⟨g i, oi, e1, Nat.lt_of_lt_of_le e3 h.size, fun j x hx => (e5 j x hx).1⟩
/-- one list, and what becomes of them all where it is written -/
theorem RowsR.row {lo hi j : Nat} {A : Option Addr} {zss : List (List Int)} {w : World} {zs : List Int} (h : RowsR lo hi A zss w) (hj : zss[j]? = some zs) (hw : hi ≤ w.heap.size) :
    ∃ b o Aj cap, A = some ⟨b, o, none⟩ ∧ lo ≤ b ∧ b < hi ∧ w.cell? ⟨b, o + j, none⟩ = some (.slice Aj zs.length cap) ∧ IntsM w lo Aj zs ∧ (∀ q, InB zs.length Aj q → lo ≤ q ∧ q < hi) ∧
      ∀ (w' : World) (zs' : List Int), zs'.length = zs.length → Only (InB zs.length Aj) w w' → IntsM w' lo Aj zs' → RowsR lo hi A (zss.set j zs') w' := by
  have hjl : j < zss.length := (List.getElem?_eq_some_iff.1 hj).1
  obtain ⟨b, o, g, e, h1, h2, hc, hd⟩ := h (by omega)
  obtain ⟨Aj, cap, c1, c2⟩ := hc j zs hj
  have hin : ∀ q, InB zs.length Aj q → q = g j ∧ 0 < zs.length ∧ lo ≤ q ∧ q < hi := fun q ⟨h0, o', e'⟩ => by
    obtain ⟨oi, e1, e2, e3, _, _⟩ := c2 h0
    rw [e1] at e'
    obtain ⟨rfl, _⟩ : g j = q ∧ oi = o' := by simpa using e'
    exact ⟨rfl, h0, e2, e3⟩
  refine ⟨b, o, Aj, cap, e, h1, h2, c1, fun h0 => ?_, fun q hq => ⟨(hin q hq).2.2.1, (hin q hq).2.2.2⟩, fun w' zs' hl hO hM hn => ?_⟩
  · obtain ⟨oi, e1, e2, e3, e4, e5⟩ := c2 h0
    exact ⟨g j, oi, e1, e2, Nat.lt_of_lt_of_le e3 hw, e5⟩
  · have hbs : ∀ q, q < hi → (0 < zs.length → q ≠ g j) → w'.heap[q]? = w.heap[q]? := fun q hq hne => hO.block q (by omega) (fun hi' => hne (hin q hi').2.1 (hin q hi').1)
    refine ⟨b, o, g, e, h1, h2, fun i zi hz => ?_, fun i i' zi zi' hlt hz hz' l0 l0' => ?_⟩
    · by_cases hij : i = j
      · subst hij
        rw [List.getElem?_set_self hjl] at hz
        obtain rfl : zs' = zi := by simpa using hz
        refine ⟨Aj, cap, ?_, fun h0 => ?_⟩
        · rw [hl]
          exact (World.cell?_of_block (a := ⟨b, _, none⟩) (hbs b h2 (fun h0 => by obtain ⟨_, _, _, _, e4, _⟩ := c2 h0; exact fun h => e4 h.symm))).trans c1
        · obtain ⟨oi, e1, e2, e3, e4, _⟩ := c2 (by omega)
          obtain ⟨b', o', e', _, _, hx⟩ := hM h0
          rw [e1] at e'
          obtain ⟨rfl, rfl⟩ : g i = b' ∧ oi = o' := by simpa using e'
          exact ⟨oi, e1, e2, e3, e4, hx⟩
      · rw [List.getElem?_set_ne (fun h => hij h.symm)] at hz
        obtain ⟨Ai, cap', d1, d2⟩ := hc i zi hz
        refine ⟨Ai, cap', (World.cell?_of_block (a := ⟨b, _, none⟩) (hbs b h2 (fun h0 => by obtain ⟨_, _, _, _, e4, _⟩ := c2 h0; exact fun h => e4 h.symm))).trans d1, fun h0 => ?_⟩
        obtain ⟨oi, e1, e2, e3, e4, e5⟩ := d2 h0
        have hne : 0 < zs.length → g i ≠ g j := fun hz0 => by
          rcases Nat.lt_or_gt_of_ne hij with hlt | hlt
          · exact hd i j zi zs hlt hz hj h0 hz0
          · exact fun h => hd j i zs zi hlt hj hz hz0 h0 h.symm
        have hk := hbs (g i) e3 hne
        exact ⟨oi, e1, e2, e3, e4, fun k x hx => ⟨(World.cell?_of_block (a := ⟨g i, _, none⟩) hk).trans (e5 k x hx).1, (World.frozen?_of_block (a := ⟨g i, _, none⟩) hk).trans (e5 k x hx).2⟩⟩
    · have back : ∀ (m : Nat) (z : List Int), (zss.set j zs')[m]? = some z → 0 < z.length → ∃ z0 : List Int, zss[m]? = some z0 ∧ 0 < z0.length := fun m z hm h0 => by
        by_cases hmj : m = j
        · subst hmj
          rw [List.getElem?_set_self hjl] at hm
          obtain rfl : zs' = z := by simpa using hm
          exact ⟨zs, hj, by omega⟩
        · rw [List.getElem?_set_ne (fun h => hmj h.symm)] at hm
          exact ⟨z, hm, h0⟩
      obtain ⟨y, hy, hy0⟩ := back i zi hz l0
      obtain ⟨y', hy', hy0'⟩ := back i' zi' hz' l0'
      exact hd i i' y y' hlt hy hy' hy0 hy0'

/-- the marks of lists, from k on -/
def markLL : List (List Int) → Int → List (List Int)
  | [], _ => []
  | zs :: r, k => markL zs.length k :: markLL r (k + zs.length)
theorem markLL_length (zss : List (List Int)) (k : Int) : (markLL zss k).length = zss.length := by
  induction zss generalizing k with
  | nil => rfl
  | cons zs r ih => simp [markLL, ih]
theorem markLL_get {zss : List (List Int)} {k : Int} {i : Nat} {zs : List Int} (h : zss[i]? = some zs) : (markLL zss k)[i]? = some (markL zs.length (k + tot (zss.take i))) := by
  induction zss generalizing k i with
  | nil => simp at h
  | cons y r ih =>
    cases i with
    | zero => simp at h; subst h; simp [markLL, tot]
    | succ i =>
      simp at h
      simp only [markLL, List.getElem?_cons_succ, List.take_succ_cons, tot]
      rw [ih h]
      congr 2
      omega
theorem tot_markLL (zss : List (List Int)) (k : Int) : tot (markLL zss k) = tot zss := by
  induction zss generalizing k with
  | nil => rfl
  | cons zs r ih => simp [markLL, tot, markL_length, ih]
/-- the first j lists marked -/
theorem mixed_next {zss L : List (List Int)} {k : Int} {j : Nat} {zs : List Int} (hl : L.length = zss.length) (hz : zss[j]? = some zs) (h1 : ∀ i, i < j → L[i]? = (markLL zss k)[i]?) (h2 : ∀ i, j ≤ i → L[i]? = zss[i]?) :
    (L.set j (markL zs.length (k + tot (zss.take j)))).length = zss.length ∧ (∀ i, i < j + 1 → (L.set j (markL zs.length (k + tot (zss.take j))))[i]? = (markLL zss k)[i]?) ∧ ∀ i, j + 1 ≤ i → (L.set j (markL zs.length (k + tot (zss.take j))))[i]? = zss[i]? := by
  have hj : j < zss.length := (List.getElem?_eq_some_iff.1 hz).1
  refine ⟨by simpa using hl, fun i hi => ?_, fun i hi => ?_⟩
  · by_cases e : i = j
    · subst e
      rw [List.getElem?_set_self (by omega), markLL_get hz]
    · rw [List.getElem?_set_ne (fun h => e h.symm)]
      exact h1 i (by omega)
  · rw [List.getElem?_set_ne (by omega)]
    exact h2 i (by omega)
theorem mixed_end {zss L : List (List Int)} {k : Int} (hl : L.length = zss.length) (h1 : ∀ i, i < zss.length → L[i]? = (markLL zss k)[i]?) : L = markLL zss k := by
  apply List.ext_getElem?
  intro i
  by_cases h : i < zss.length
  · exact h1 i h
  · rw [List.getElem?_eq_none (by omega), List.getElem?_eq_none (by rw [markLL_length]; omega)]

end Go.Proofs.Ytmcaphbngfdfiaa

/- Walks of the laws' helpers on lists of lists of integers: toInt64SS. -/
namespace Go.Proofs.Ytmcaphbngfdfiaa
open Go.RowKit Plain

/-- so many lists have been copied -/
structure RowFill (w : World) (g0 : Nat) (zss : List (List Int)) (k : Nat) (C : List Value) (gs : List Nat) : Prop where
  box : Cells w g0 65 C
  len : C.length = zss.length
  gl : gs.length = k
  up : gs.Pairwise (· < ·)
  blk : ∀ b ∈ gs, g0 < b ∧ b < w.heap.size
  row : ∀ (i : Nat) (zs : List Int) (b : Nat), zss[i]? = some zs → gs[i]? = some b → C[i]? = some (Value.slice (some ⟨b, 0, none⟩) zs.length zs.length) ∧ Cells w b 2 (zs.map (Value.int .i64))
theorem RowFill.next {w : World} {g0 k : Nat} {zss : List (List Int)} {C : List Value} {gs : List Nat} {zs : List Int} (h : RowFill w g0 zss k C gs) (hz : zss[k]? = some zs) :
    RowFill ((w.alloc (intsObj 2 zs)).setCell ⟨g0, k, none⟩ (.slice (some ⟨w.heap.size, 0, none⟩) zs.length zs.length)) g0 zss (k + 1) (C.set k (.slice (some ⟨w.heap.size, 0, none⟩) zs.length zs.length)) (gs ++ [w.heap.size]) := by
  have hk : k < zss.length := (List.getElem?_eq_some_iff.1 hz).1
  have hg : Below w.heap.size w (w.alloc (intsObj 2 zs)) := by go_grown
  have h0 := h.box.lt
  have hc : Cells (w.alloc (intsObj 2 zs)) w.heap.size 2 (zs.map (Value.int .i64)) := Cells.new w _ _
  have hs : ((w.alloc (intsObj 2 zs)).setCell ⟨g0, k, none⟩ (.slice (some ⟨w.heap.size, 0, none⟩) zs.length zs.length)).heap.size = w.heap.size + 1 := by simp [World.setCell]
  refine ⟨(h.box.next hg).set_ _ _, by simp [h.len], by simp [h.gl], ?_, ?_, ?_⟩
  · rw [List.pairwise_append]
    exact ⟨h.up, List.pairwise_singleton _ _, fun a ha b hb => by simp at hb; subst hb; exact (h.blk a ha).2⟩
  · intro b hb
    rw [hs]
    rcases List.mem_append.1 hb with h1 | h1
    · have := h.blk b h1; omega
    · simp at h1; subst h1; omega
  · intro i zi b hi hb
    have hlt := (List.getElem?_eq_some_iff.1 hb).1
    simp [h.gl] at hlt
    by_cases e : i = k
    · subst e
      rw [hz] at hi
      obtain rfl : zs = zi := by simpa using hi
      rw [List.getElem?_append_right (by rw [h.gl]; omega), h.gl] at hb
      simp at hb
      subst hb
      exact ⟨List.getElem?_set_self (by rw [h.len]; omega), hc.far (by simp; omega) _⟩
    · rw [List.getElem?_append_left (by rw [h.gl]; omega)] at hb
      obtain ⟨r1, r2⟩ := h.row i zi b hi hb
      have := h.blk b (List.mem_of_getElem? hb)
      exact ⟨by rw [List.getElem?_set_ne (fun h => e h.symm)]; exact r1, (r2.next hg).far (by simp; omega) _⟩
theorem RowFill.get {w : World} {g0 : Nat} {zss : List (List Int)} {C : List Value} {gs : List Nat} (h : RowFill w g0 zss zss.length C gs) {i : Nat} {zs : List Int} (hz : zss[i]? = some zs) :
    ∃ b, gs[i]? = some b ∧ g0 < b ∧ b < w.heap.size ∧ w.cell? ⟨g0, i, none⟩ = some (.slice (some ⟨b, 0, none⟩) zs.length zs.length) ∧ Cells w b 2 (zs.map (Value.int .i64)) := by
  have hi : i < gs.length := by rw [h.gl]; exact (List.getElem?_eq_some_iff.1 hz).1
  have hb := List.getElem?_eq_getElem hi
  obtain ⟨r1, r2⟩ := h.row i zs _ hz hb
  exact ⟨gs[i], hb, (h.blk _ (List.getElem_mem hi)).1, (h.blk _ (List.getElem_mem hi)).2, by rw [h.box.cell]; exact r1, r2⟩
theorem RowFill.rows {w : World} {g0 : Nat} {zss : List (List Int)} {C : List Value} {gs : List Nat} (h : RowFill w g0 zss zss.length C gs) : Reg w g0 w.heap.size (RowsR g0 w.heap.size (some ⟨g0, 0, none⟩) zss) := by
  have h0 := h.box.lt
  refine ⟨Nat.le_of_lt h0, Nat.le_refl _, fun _ => ⟨g0, 0, fun i => gs.getD i 0, rfl, Nat.le_refl _, h0, fun i zs hz => ?_, fun i j zi zj hlt hi hj _ _ => ?_⟩, fun _ _ h hb => h.keep hb⟩
  · obtain ⟨b, hb, b1, b2, c1, c2⟩ := h.get hz
    refine ⟨_, _, by rw [Nat.zero_add]; exact c1, fun _ => ⟨0, ?_, ?_⟩⟩
    · simp [List.getD, hb]
    · simp only [List.getD, hb, Option.getD_some]
      refine ⟨by omega, b2, by omega, fun j x hx => ⟨?_, c2.frozen _⟩⟩
      rw [Nat.zero_add, c2.cell]
      simp [hx]
  · obtain ⟨b, hb, _⟩ := h.get hi
    obtain ⟨b', hb', _⟩ := h.get hj
    simp only [List.getD, hb, hb', Option.getD_some]
    have h1 := List.getElem?_eq_some_iff.1 hb
    have h2 := List.getElem?_eq_some_iff.1 hb'
    have := List.pairwise_iff_getElem.1 h.up i j h1.1 h2.1 hlt
    rw [h1.2, h2.2] at this
    omega
theorem RowFill.env {w : World} {g0 bv n : Nat} {zss : List (List Int)} {C : List Value} {gs : List Nat} (h : RowFill w g0 zss zss.length C gs) (hv : w.heap.size ≤ bv) (hz : ∀ zs ∈ zss, zs.length = n ∧ IsS zs) : EnvAt w bv n (some ⟨g0, 0, none⟩) zss := fun _ => by
  have hb0 := h.box.lt
  refine ⟨g0, 0, rfl, hb0, by omega, fun i zs hi => ?_⟩
  obtain ⟨b, hb, b1, b2, c1, c2⟩ := h.get hi
  obtain ⟨hl, hs⟩ := hz zs (List.mem_of_getElem? hi)
  exact ⟨_, by rw [Nat.zero_add]; exact c1, some ⟨b, 0, none⟩, zs.length, by rw [hl], hl, fun _ => ⟨b, 0, rfl, b2, by omega, c2.typed, fun j x hx => by rw [Nat.zero_add, c2.cell]; simp [hx]⟩, hs⟩

theorem Try.infoISS : (Try.prog.info? 65).map (fun i => (i.zero, i.size, i.bytes)) = some (some (.slice none 0 0), 1, 24) := by kernel_rfl

end Go.Proofs.Ytmcaphbngfdfiaa

/- Arguments of laws: lists of lists of integers. -/
namespace Go.Proofs.Ytmcaphbngfdfiaa
open Go.ChangeShapes Go.WideShapes Go.ChangeAt Go.RowKit Plain

theorem Try.cellsI64 : Try.prog.cellsOf 2 = 1 := by kernel_rfl
theorem Try.cellsIS : Try.prog.cellsOf 65 = 1 := by kernel_rfl

theorem open_list {H : Type} {enc : TypeId × Value → H} {w : World} {fuel : Nat} {cs : List Value} {x : DataW H × List MemPlace} (h : DataW.trod enc Try.prog w 0 (fun _ => true) true fuel 65 cs = some x) :
    ∃ (A : Option Addr) (cap : Nat) (zs : List Int), cs = [.slice A zs.length cap] ∧ zs.length ≤ 9223372036854775807 ∧ Ints w A zs := by
  rcases open_ints Try.underlying65 Try.underlying2 (by kernel_rfl) h with ⟨hcs, _⟩ | ⟨a, l, c, zs, hcs, _, hl, hm, hz, _, hcell, _⟩
  · exact ⟨none, 0, [], hcs, by simp, Ints.nil _ _⟩
  · obtain ⟨zs', e, hI⟩ := ints_of_cells hl (by simpa using hz) hcell
    subst e
    exact ⟨some a, c, zs', hcs, by unfold maxLen at hm; omega, hI⟩
end Go.Proofs.Ytmcaphbngfdfiaa

/- What the walks of the laws on programs share: arguments as contracts want them, and ends. -/
namespace Go.Proofs.Ytmcaphbngfdfiaa
open Go.RowKit Plain

/-- a program as an argument -/
structure ProgIn (w : World) (P : List Fn) (A : Option Addr) (cap : Nat) : Prop where
  fns : FnSl w w.heap.size P A
  pl : P.length ≤ cap
  pm : cap ≤ maxLen
  sz : fnSize P ≤ 1048576
theorem ProgIn.below {w wx : World} {P : List Fn} {A : Option Addr} {cap : Nat} (h : ProgIn w P A cap) (hb : Below w.heap.size w wx) : ProgIn wx P A cap :=
  ⟨(h.fns.below hb).mono hb.size, h.pl, h.pm, h.sz⟩
theorem regPIn {w : World} {g hi : Nat} {P : List Fn} (h : Reg w g hi (ProgR g hi P)) (hz : fnSize P ≤ 1048576) : ProgIn w P (some ⟨g, 0, none⟩) P.length := by
  have h1 := h.now
  have := FnsM.le h1
  have := h.size
  exact ⟨⟨g, 0, fun _ => rfl, FnsM.fns h1 (by omega) (by omega)⟩, Nat.le_refl _, by unfold fnSize at hz; unfold maxLen; omega, hz⟩
/-- lists of numbers as an argument -/
structure RowsIn (w : World) (A : Option Addr) (zss : List (List Int)) : Prop where
  rows : RowsAt w A zss
  env : ∀ n bv, w.heap.size ≤ bv → (∀ zs ∈ zss, zs.length = n ∧ IsS zs) → EnvAt w bv n A zss
  sz : ssSize zss ≤ 1048576
theorem RowFill.rowsIn {w : World} {g0 : Nat} {zss : List (List Int)} {C : List Value} {gs : List Nat} (h : RowFill w g0 zss zss.length C gs) (hz : ssSize zss ≤ 1048576) : RowsIn w (some ⟨g0, 0, none⟩) zss :=
  ⟨regRows h.rows (by unfold ssSize at hz; omega), fun n bv hv ha => h.env hv ha, hz⟩
/-- lists in a region, or lists of lists -/
abbrev RI (w : World) (lo hi : Nat) (A : Option Addr) (zs : List Int) : Prop := Reg w lo hi (IntsR lo hi A zs)
abbrev RS (w : World) (lo hi : Nat) (A : Option Addr) (zss : List (List Int)) : Prop := Reg w lo hi (RowsR lo hi A zss)

def RetIii (a : List Int) (b c : Int) (w : World) (e : Ending) (w' : World) : Prop :=
  Below w.heap.size w w' ∧ ∃ A cp, e = .returned (.tuple #[.slice A a.length cp, .int .i64 b, .int .i64 c]) ∧ RI w' w.heap.size w'.heap.size A a
def RetIi (a : List Int) (b : Int) (w : World) (e : Ending) (w' : World) : Prop :=
  Below w.heap.size w w' ∧ ∃ A cp, e = .returned (.tuple #[.slice A a.length cp, .int .i64 b]) ∧ RI w' w.heap.size w'.heap.size A a
def RetSi (a : List (List Int)) (b : Int) (w : World) (e : Ending) (w' : World) : Prop :=
  Below w.heap.size w w' ∧ ∃ A cp, e = .returned (.tuple #[.slice A a.length cp, .int .i64 b]) ∧ RS w' w.heap.size w'.heap.size A a
def RetIIi (a b : List Int) (c : Int) (w : World) (e : Ending) (w' : World) : Prop :=
  Below w.heap.size w w' ∧ ∃ A cp A' cp' l h l' h', e = .returned (.tuple #[.slice A a.length cp, .slice A' b.length cp', .int .i64 c]) ∧ RI w' l h A a ∧ RI w' l' h' A' b ∧ w.heap.size ≤ l ∧ l ≤ h ∧ h ≤ w'.heap.size ∧ w.heap.size ≤ l' ∧ l' ≤ h' ∧ h' ≤ w'.heap.size ∧ (h ≤ l' ∨ h' ≤ l)
def Retii (a b : Int) (w : World) (e : Ending) (w' : World) : Prop :=
  Below w.heap.size w w' ∧ e = .returned (.tuple #[.int .i64 a, .int .i64 b])

def Retb (a : Bool) (w : World) (e : Ending) (w' : World) : Prop :=
  Below w.heap.size w w' ∧ e = .returned (.bool a)

theorem regBox {w : World} {b : Nat} {t : TypeId} {C : List Value} (h : Cells w b t C) : Reg w b (b + 1) (fun w' => Cells w' b t C) :=
  ⟨by omega, h.lt, h, fun w1 w2 h1 hb => (hb b (Nat.le_refl _) (by omega)).trans h1⟩
theorem keepC {w w' : World} {p : Addr} {u : Value} (h : w.cell? p = some u) (hb : Below w.heap.size w w') : w'.cell? p = some u :=
  (hb.cell (World.block_lt_of_cell? _ _ h)).trans h
theorem keep2 {w w' : World} {p q : Addr} {u v : Value} (h : w.cell? p = some u ∧ w.cell? q = some v) (hb : Below w.heap.size w w') : w'.cell? p = some u ∧ w'.cell? q = some v :=
  ⟨keepC h.1 hb, keepC h.2 hb⟩

end Go.Proofs.Ytmcaphbngfdfiaa
