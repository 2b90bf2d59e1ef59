/- Texts put together: WPolyM, WSort3, WTRow, WGath1, WPut, WRetQ, PDer. -/
import Derived.Test.YtmcaphbngfdfiaaKX
import Derived.Test.YtmcaphbngfdfiaaKP
import Derived.Test.YtmcaphbngfdfiaaKSC
import Derived.Test.YtmcaphbngfdfiaaKB
import Derived.Laws.OwnMore
import Derived.Deep.Onto
import Derived.WalkSpells
import Derived.Deep.AppendLies
import Derived.Deep.Upon
import Derived.Test.YtmcaphbngfdfiaaKSA
import Derived.Test.YtmcaphbngfdfiaaKH
import Derived.Deep.CutBlock
import Derived.Deep.LoopGhost

/- Walks: marks of polynomials: markTermS, heldTermS, markPoly, heldPoly: what they hold afterwards. -/
namespace Go.Proofs.Ytmcaphbngfdfiaa
open Go.RowKit Plain

theorem cell_set_ne {w : World} {b i j : Nat} (v : Value) (h : i ≠ j) : (w.setCell ⟨b, j, none⟩ v).cell? ⟨b, i, none⟩ = w.cell? ⟨b, i, none⟩ := World.cell?_setCell_other _ _ _ _ (fun e => by injection e with _ h' _; omega)
/-- one term, and what becomes of them all where it is written -/
theorem TmsR.row {lo hi j : Nat} {A : Option Addr} {ts : List Term'} {w : World} {t : Term'} (h : TmsR lo hi A ts w) (hj : ts[j]? = some t) (hw : hi ≤ w.heap.size) :
    ∃ b o Aj cap, A = some ⟨b, o, none⟩ ∧ lo ≤ b ∧ b < hi ∧ w.cell? ⟨b, o + j * 2, none⟩ = some (.slice Aj t.1.length cap) ∧ (∃ u, w.cell? ⟨b, o + j * 2 + 1, none⟩ = some u) ∧ w.frozen? ⟨b, o + j * 2 + 1, none⟩ = false ∧ IntsM w lo Aj t.1 ∧ (∀ q, InB t.1.length Aj q → lo ≤ q ∧ q < hi ∧ q ≠ b) ∧
      ∀ (w' : World) (zs' : List Int) (c' : Int), zs'.length = t.1.length → Only (InB t.1.length Aj) w w' → IntsM w' lo Aj zs' → TmsR lo hi A (ts.set j (zs', c')) (w'.setCell ⟨b, o + j * 2 + 1, none⟩ (.int .i64 c')) := by
  have hjl : j < ts.length := (List.getElem?_eq_some_iff.1 hj).1
  obtain ⟨b, o, g, e, h1, h2, hc, hd⟩ := h (by omega)
  obtain ⟨Aj, cap, c1, cu, cf, c2⟩ := hc j t hj
  have hin : ∀ q, InB t.1.length Aj q → q = g j ∧ 0 < t.1.length ∧ lo ≤ q ∧ q < hi ∧ q ≠ b := fun q ⟨h0, o', e'⟩ => by
    obtain ⟨oi, e1, e2, e3, e4, _⟩ := c2 h0
    rw [e1] at e'
    obtain ⟨rfl, _⟩ : g j = q ∧ oi = o' := by simpa using e'
    exact ⟨rfl, h0, e2, e3, e4⟩
  refine ⟨b, o, Aj, cap, e, h1, h2, c1, ⟨_, cu⟩, cf, fun h0 => ?_, fun q hq => (hin q hq).2.2, fun w' zs' c' hl hO hM hn => ?_⟩
  · obtain ⟨oi, e1, e2, e3, e4, e5⟩ := c2 h0
    exact ⟨g j, oi, e1, e2, Nat.lt_of_lt_of_le e3 hw, e5⟩
  · have hbs : ∀ q, q < hi → (0 < t.1.length → q ≠ g j) → w'.heap[q]? = w.heap[q]? := fun q hq hne => hO.block q (by omega) (fun hi' => hne (hin q hi').2.1 (hin q hi').1)
    have hbb : w'.heap[b]? = w.heap[b]? := hbs b h2 (fun h0 => by obtain ⟨_, _, _, _, e4, _⟩ := c2 h0; exact fun h => e4 h.symm)
    have hfar : ∀ q, q ≠ b → (w'.setCell ⟨b, o + j * 2 + 1, none⟩ (.int .i64 c')).heap[q]? = w'.heap[q]? := fun q hq => Below.heap_setCell _ _ _ _ hq
    refine ⟨b, o, g, e, h1, h2, fun i ti hti => ?_, fun i i' zi zi' hlt hz hz' l0 l0' => ?_⟩
    · by_cases hij : i = j
      · subst hij
        rw [List.getElem?_set_self hjl] at hti
        obtain rfl : (zs', c') = ti := by simpa using hti
        refine ⟨Aj, cap, ?_, ?_, ?_, fun h0 => ?_⟩
        · show _ = some (Value.slice Aj zs'.length cap)
          rw [hl, cell_set_ne _ (by omega)]
          exact (World.cell?_of_block (a := ⟨b, _, none⟩) hbb).trans c1
        · exact World.cell?_setCell_same _ _ _ ((World.cell?_of_block (a := ⟨b, _, none⟩) hbb).trans cu)
        · exact (World.frozen?_setCell _ _ _ _).trans ((World.frozen?_of_block (a := ⟨b, _, none⟩) hbb).trans cf)
        · have h0' : 0 < zs'.length := h0
          obtain ⟨oi, e1, e2, e3, e4, _⟩ := c2 (by omega)
          obtain ⟨b', o', e', _, _, hx⟩ := hM h0'
          rw [e1] at e'
          obtain ⟨rfl, rfl⟩ : g i = b' ∧ oi = o' := by simpa using e'
          exact ⟨oi, e1, e2, e3, e4, fun k x hx' => ⟨(World.cell?_of_block (a := ⟨g i, _, none⟩) (hfar _ e4)).trans (hx k x hx').1, (World.frozen?_of_block (a := ⟨g i, _, none⟩) (hfar _ e4)).trans (hx k x hx').2⟩⟩
      · rw [List.getElem?_set_ne (fun h => hij h.symm)] at hti
        obtain ⟨Ai, cap', d1, du, df, d2⟩ := hc i ti hti
        refine ⟨Ai, cap', ?_, ?_, ?_, fun h0 => ?_⟩
        · rw [cell_set_ne _ (by omega)]; exact (World.cell?_of_block (a := ⟨b, _, none⟩) hbb).trans d1
        · rw [cell_set_ne _ (by omega)]; exact (World.cell?_of_block (a := ⟨b, _, none⟩) hbb).trans du
        · exact (World.frozen?_setCell _ _ _ _).trans ((World.frozen?_of_block (a := ⟨b, _, none⟩) hbb).trans df)
        · obtain ⟨oi, e1, e2, e3, e4, e5⟩ := d2 h0
          have hne : 0 < t.1.length → g i ≠ g j := fun hz0 => by
            rcases Nat.lt_or_gt_of_ne hij with hlt | hlt
            · exact hd i j ti t hlt hti hj h0 hz0
            · exact fun h => hd j i t ti hlt hj hti hz0 h0 h.symm
          have hk := (hfar _ e4).trans (hbs (g i) e3 hne)
          exact ⟨oi, e1, e2, e3, e4, fun k x hx => ⟨(World.cell?_of_block (a := ⟨g i, _, none⟩) hk).trans (e5 k x hx).1, (World.frozen?_of_block (a := ⟨g i, _, none⟩) hk).trans (e5 k x hx).2⟩⟩
    · have back : ∀ (m : Nat) (z : Term'), (ts.set j (zs', c'))[m]? = some z → 0 < z.1.length → ∃ z0 : Term', ts[m]? = some z0 ∧ 0 < z0.1.length := fun m z hm h0 => by
        by_cases hmj : m = j
        · subst hmj
          rw [List.getElem?_set_self hjl] at hm
          obtain rfl : (zs', c') = z := by simpa using hm
          have h0' : 0 < zs'.length := h0
          exact ⟨t, hj, by omega⟩
        · rw [List.getElem?_set_ne (fun h => hmj h.symm)] at hm
          exact ⟨z, hm, h0⟩
      obtain ⟨y, hy, hy0⟩ := back i zi hz l0
      obtain ⟨y', hy', hy0'⟩ := back i' zi' hz' l0'
      exact hd i i' y y' hlt hy hy' hy0 hy0'

/-- the marks of terms, from k on -/
def mkTs : List Term' → Int → List Term'
  | [], _ => []
  | t :: r, k => (markL t.1.length k, k + t.1.length) :: mkTs r (k + t.1.length + 1)
theorem mkTs_length (ts : List Term') (k : Int) : (mkTs ts k).length = ts.length := by
  induction ts generalizing k with
  | nil => rfl
  | cons t r ih => simp [mkTs, ih]
theorem totT_cons (t : Term') (r : List Term') : totT (t :: r) = t.1.length + totT r := by simp [totT, tot]
theorem mkTs_get {ts : List Term'} {k : Int} {i : Nat} {t : Term'} (h : ts[i]? = some t) : (mkTs ts k)[i]? = some (markL t.1.length (k + i + totT (ts.take i)), k + i + totT (ts.take i) + t.1.length) := by
  induction ts generalizing k i with
  | nil => simp at h
  | cons y r ih =>
    cases i with
    | zero => simp at h; subst h; simp [mkTs, totT, tot]
    | succ i =>
      simp at h
      simp only [mkTs, List.getElem?_cons_succ, List.take_succ_cons]
      rw [ih h, totT_cons]
      have e : k + (y.1.length : Int) + 1 + (i : Int) + (totT (r.take i) : Int) = k + ((i + 1 : Nat) : Int) + ((y.1.length + totT (r.take i) : Nat) : Int) := by omega
      rw [e]
theorem totT_mkTs (ts : List Term') (k : Int) : totT (mkTs ts k) = totT ts := by
  induction ts generalizing k with
  | nil => rfl
  | cons t r ih => simp only [mkTs]; rw [totT_cons, totT_cons, ih]; simp [markL_length]
/-- the first j terms marked -/
theorem mixT_next {ts L : List Term'} {k : Int} {j : Nat} {t : Term'} (hl : L.length = ts.length) (hz : ts[j]? = some t) (h1 : ∀ i, i < j → L[i]? = (mkTs ts k)[i]?) (h2 : ∀ i, j ≤ i → L[i]? = ts[i]?) {y : Int} (hy : y = k + j + totT (ts.take j)) :
    (L.set j (markL t.1.length y, y + t.1.length)).length = ts.length ∧ (∀ i, i < j + 1 → (L.set j (markL t.1.length y, y + t.1.length))[i]? = (mkTs ts k)[i]?) ∧ ∀ i, j + 1 ≤ i → (L.set j (markL t.1.length y, y + t.1.length))[i]? = ts[i]? := by
  have hj : j < ts.length := (List.getElem?_eq_some_iff.1 hz).1
  refine ⟨by simpa using hl, fun i hi => ?_, fun i hi => ?_⟩
  · by_cases e : i = j
    · subst e
      rw [List.getElem?_set_self (by omega), mkTs_get hz, hy]
    · rw [List.getElem?_set_ne (fun h => e h.symm)]
      exact h1 i (by omega)
  · rw [List.getElem?_set_ne (by omega)]
    exact h2 i (by omega)
theorem mixT_end {ts L : List Term'} {k : Int} (hl : L.length = ts.length) (h1 : ∀ i, i < ts.length → L[i]? = (mkTs ts k)[i]?) : L = mkTs ts k := by
  apply List.ext_getElem?
  intro i
  by_cases h : i < ts.length
  · exact h1 i h
  · rw [List.getElem?_eq_none (by omega), List.getElem?_eq_none (by rw [mkTs_length]; omega)]

end Go.Proofs.Ytmcaphbngfdfiaa

/- Walks: slices.SortStableFunc at terms: a permutation of the row, ascending. Printed by gen_sort.py. -/
namespace Go.Proofs.Ytmcaphbngfdfiaa
open Go.RowKit Plain PSort
open Go.Sort (PermIn SortedIn SWO swp swp_permIn permIn_refl permIn_trans permIn_mono size_swp HoldsK grow)

section
variable {w0 : World} {blk n' off : Nat} [Inhabited (TmS w0 blk n')] {d0 : Array (TmS w0 blk n')}

end

end Go.Proofs.Ytmcaphbngfdfiaa

/- Terms in an own row, their exponents each in an own row: started, kept, appended to, read. -/
namespace Go.Proofs.Ytmcaphbngfdfiaa
open Go.RowKit Plain

/-- the cells of terms, the slices of their exponents given -/
def cellsT : List (Value × Int) → List Value
  | [] => []
  | (u, c) :: r => u :: .int .i64 c :: cellsT r
theorem cellsT_length (l : List (Value × Int)) : (cellsT l).length = l.length * 2 := by
  induction l with
  | nil => rfl
  | cons x r ih => obtain ⟨u, c⟩ := x; simp only [cellsT, List.length_cons, ih]; omega
theorem cellsT_append (l m : List (Value × Int)) : cellsT (l ++ m) = cellsT l ++ cellsT m := by
  induction l with
  | nil => rfl
  | cons x r ih => obtain ⟨u, c⟩ := x; simp [cellsT, ih]
theorem cellsT_get {l : List (Value × Int)} {i : Nat} {u : Value} {c : Int} (h : l[i]? = some (u, c)) : (cellsT l)[i * 2]? = some u ∧ (cellsT l)[i * 2 + 1]? = some (.int .i64 c) := by
  induction l generalizing i with
  | nil => simp at h
  | cons x r ih =>
    obtain ⟨u', c'⟩ := x
    cases i with
    | zero => simp at h; simp [cellsT, h]
    | succ i =>
      simp at h
      have := ih h
      rw [show (i + 1) * 2 = i * 2 + 1 + 1 by omega]
      simp only [cellsT, List.getElem?_cons_succ]
      exact this
theorem cellsT_one {l : List (Value × Int)} (h : ∀ x ∈ l, x.1.oneCell' = true) : ∀ u ∈ cellsT l, u.oneCell' = true := by
  induction l with
  | nil => intro u hu; simp [cellsT] at hu
  | cons x r ih =>
    obtain ⟨u', c'⟩ := x
    intro u hu
    simp only [cellsT, List.mem_cons] at hu
    rcases hu with rfl | rfl | hu
    · exact h (u, c') (List.mem_cons_self ..)
    · rfl
    · exact ih (fun y hy => h y (List.mem_cons_of_mem _ hy)) u hu

theorem own2_typed {w : World} {base e n : Nat} {v : Value} {xs : List Value} (h : w.ownsRow base e 2 v n xs) {g : Nat} (hg : v.ownBlock = some g) : Typed w g e := by
  rcases h.2 with ⟨rfl, _⟩ | ⟨g', cap, cur, rfl, _, hh, _⟩
  · simp [Value.ownBlock] at hg
  · simp [Value.ownBlock] at hg; subst hg; exact ⟨cur, hh⟩
theorem ownsRow_keep2 {w w' : World} {base e n : Nat} {v : Value} {xs : List Value} (h : w.ownsRow base e 2 v n xs) (hb : ∀ g, v.ownBlock = some g → w'.heap[g]? = w.heap[g]?) : w'.ownsRow base e 2 v n xs := by
  refine ⟨h.1, ?_⟩
  rcases h.2 with hn | ⟨g, cap, cur, rfl, hb', hgg, rest⟩
  · exact .inl hn
  · exact .inr ⟨g, cap, cur, rfl, hb', by rw [hb g rfl]; exact hgg, rest⟩
theorem typed_keep {w w' : World} {b : Nat} {t : TypeId} (h : Typed w b t) (hb : w'.heap[b]? = w.heap[b]?) : Typed w' b t := by
  obtain ⟨cs, hc⟩ := h
  exact ⟨cs, hb.trans hc⟩

/-- the parts of an own row of terms: the row itself; the exponents; no two in one block -/
structure TParts (w : World) (B : Nat) (v : Value) (ts : List Term') (us : List (Value × Int)) : Prop where
  len : us.length = ts.length
  own : w.ownsRow B 67 2 v ts.length (cellsT us)
  row : ∀ (i : Nat) (u : Value × Int) (t : Term'), us[i]? = some u → ts[i]? = some t → u.2 = t.2 ∧ IntRow w B u.1 t.1
  dist : ∀ (i j : Nat) (u u' : Value × Int) (q : Nat), i < j → us[i]? = some u → us[j]? = some u' → u.1.ownBlock = some q → u'.1.ownBlock ≠ some q
def TRow (w : World) (B : Nat) (v : Value) (ts : List Term') : Prop := ∃ us, TParts w B v ts us
theorem TParts.keep {w w' : World} {B : Nat} {v : Value} {ts : List Term'} {us : List (Value × Int)} (h : TParts w B v ts us) (hb : ∀ q, B ≤ q → q < w.heap.size → w'.heap[q]? = w.heap[q]?) : TParts w' B v ts us := by
  refine ⟨h.len, ownsRow_keep2 h.own fun g hg => ?_, fun i u t hu ht => ?_, h.dist⟩
  · have := World.ownsRow.lt h.own g hg; exact hb g this.1 this.2
  · obtain ⟨h1, h2⟩ := h.row i u t hu ht
    exact ⟨h1, h2.keep fun g hg => by have := h2.lt hg; exact hb g this.1 this.2⟩
theorem TRow.keep {w w' : World} {B : Nat} {v : Value} {ts : List Term'} (h : TRow w B v ts) (hb : ∀ q, B ≤ q → q < w.heap.size → w'.heap[q]? = w.heap[q]?) : TRow w' B v ts := by
  obtain ⟨us, h⟩ := h; exact ⟨us, h.keep hb⟩
theorem TRow.below {w w' : World} {B : Nat} {v : Value} {ts : List Term'} (h : TRow w B v ts) (hb : Below w.heap.size w w') : TRow w' B v ts := h.keep fun q _ hq => hb.block q hq
theorem TRow.only {w w' : World} {B : Nat} {v : Value} {ts : List Term'} {S : Nat → Prop} (h : TRow w B v ts) (ho : Only S w w') (hS : ∀ q, B ≤ q → ¬ S q) : TRow w' B v ts := h.keep fun q hq hs => ho.block q hs (hS q hq)
theorem TRow.form {w : World} {B : Nat} {v : Value} {ts : List Term'} (h : TRow w B v ts) : ∃ A cap, v = .slice A ts.length cap := by
  obtain ⟨us, h⟩ := h
  rcases h.own.2 with ⟨hv, h0⟩ | ⟨g, cap, _, hv, _⟩
  · exact ⟨none, 0, by rw [hv, h0]⟩
  · exact ⟨_, _, hv⟩
theorem TRow.nilv (w : World) (B : Nat) : TRow w B (.slice none 0 0) [] := ⟨[], rfl, ⟨rfl, .inl ⟨rfl, rfl⟩⟩, fun i u t h => by simp at h, fun i j u u' q _ h => by simp at h⟩
theorem TRow.start (w : World) : TRow (w.alloc (.cells #[] 67)) w.heap.size (.slice (some ⟨w.heap.size, 0, none⟩) 0 0) [] :=
  ⟨[], rfl, World.ownsRow_lit w #[] 0 (Nat.le_refl _) (by unfold maxLen; omega) (by rfl), fun i u t h => by simp at h, fun i j u u' q _ h => by simp at h⟩
theorem TRow.lower {w : World} {B B' : Nat} {v : Value} {ts : List Term'} (h : TRow w B v ts) (hB : B' ≤ B) : TRow w B' v ts := by
  obtain ⟨us, h⟩ := h
  exact ⟨us, h.len, h.own.mono hB, fun i u t hu ht => ⟨(h.row i u t hu ht).1, World.ownsRow.mono (h.row i u t hu ht).2 hB⟩, h.dist⟩
/-- one term more: its exponents have been laid at wr, the row is grown behind -/
theorem TParts.push {wr w1 w2 : World} {B cp : Nat} {Av : Option Addr} {v2 u : Value} {ts : List Term'} {us : List (Value × Int)} {t : Term'} (h : TParts wr B (.slice Av ts.length cp) ts us) (hB : B ≤ wr.heap.size)
    (hb : Below wr.heap.size wr w1) (hu : IntRow w1 wr.heap.size u t.1) (hown : w2.ownsRow B 67 2 v2 (ts.length + 1) (cellsT us ++ [u, .int .i64 t.2])) (hg : w1.grownBy w2 (Value.slice Av ts.length cp).ownBlock) :
    TRow w2 B v2 (ts ++ [t]) ∧ Below B wr w2 := by
  have hlen := h.len
  have hty : ∀ q, (Value.slice Av ts.length cp).ownBlock = some q → Typed w1 q 67 := fun q hq => typed_keep (own2_typed h.own hq) (hb.block q (World.ownsRow.lt h.own q hq).2)
  have hkeep : ∀ b, b < w1.heap.size → Typed w1 b 2 → w2.heap[b]? = w1.heap[b]? := fun b hbl ht =>
    hg.block b hbl fun e => ht.ne (hty b e.symm) (by decide) rfl
  refine ⟨⟨us ++ [(u, t.2)], by simp [hlen], ?_, fun i x s hx hs => ?_, fun i j x x' q hij hx hx' hq => ?_⟩, ?_⟩
  · rw [cellsT_append]
    simpa [cellsT] using hown
  · by_cases hi : i < ts.length
    · rw [List.getElem?_append_left (by omega)] at hx hs
      obtain ⟨h1, h2⟩ := h.row i x s hx hs
      have h3 : IntRow w1 B x.1 s.1 := h2.keep fun g hg' => hb.block g (h2.lt hg').2
      exact ⟨h1, h3.keep fun g hg' => hkeep g (h3.lt hg').2 (own_typed h3 hg')⟩
    · have hil := (List.getElem?_eq_some_iff.1 hs).1
      simp at hil
      obtain rfl : i = ts.length := by omega
      rw [List.getElem?_append_right (by omega)] at hx hs
      rw [← hlen] at hx
      simp at hx hs
      subst hx; subst hs
      have h3 : IntRow w1 B u t.1 := World.ownsRow.mono hu hB
      exact ⟨rfl, h3.keep fun g hg' => hkeep g (h3.lt hg').2 (own_typed h3 hg')⟩
  · by_cases hj : j < ts.length
    · rw [List.getElem?_append_left (by omega)] at hx hx'
      exact h.dist i j x x' q hij hx hx' hq
    · have hjl := (List.getElem?_eq_some_iff.1 hx').1
      simp at hjl
      obtain rfl : j = us.length := by omega
      rw [List.getElem?_append_left (by omega)] at hx
      simp at hx'
      subst hx'
      obtain ⟨s, hs⟩ : ∃ s, ts[i]? = some s := ⟨_, List.getElem?_eq_getElem (by omega)⟩
      have h2 := ((h.row i x s hx hs).2.lt hq).2
      intro e
      have := (hu.lt e).1
      omega
  · have hs := hg.size
    have hs2 := hb.size
    exact ⟨hg.os.trans hb.os, hg.tape.trans hb.tape, hg.output.trans hb.output, by omega, fun i hi => (hg.block i (by omega) fun e => by have := (World.ownsRow.lt h.own i e.symm).1; omega).trans (hb.block i (by omega))⟩
/-- the row read: as terms that may be written -/
theorem TRow.rt {w : World} {B cap : Nat} {A : Option Addr} {ts : List Term'} (h : TRow w B (.slice A ts.length cap) ts) (hB : B ≤ w.heap.size) : RT w B w.heap.size A ts := by
  obtain ⟨us, h⟩ := h
  refine ⟨hB, Nat.le_refl _, fun hn => ?_, fun _ _ h hb => h.keep hb⟩
  obtain ⟨g, c, hv, hg1, hg2⟩ := World.ownsRow.form h.own hn
  have hA : A = some ⟨g, 0, none⟩ := by injection hv
  have hc : cap = c := by injection hv
  subst hA; subst hc
  have hgt := own2_typed h.own (g := g) rfl
  refine ⟨g, 0, fun i => ((us[i]?.getD (.slice none 0 0, 0)).1.ownBlock).getD 0, rfl, hg1, hg2, fun i t ht => ?_, fun i j ti tj hij hi hj l1 l2 => ?_⟩
  · have hi : i < ts.length := (List.getElem?_eq_some_iff.1 ht).1
    obtain ⟨x, hx⟩ : ∃ x, us[i]? = some x := ⟨us[i]'(by rw [h.len]; exact hi), List.getElem?_eq_getElem (by rw [h.len]; exact hi)⟩
    obtain ⟨h1, h2⟩ := h.row i x t hx ht
    obtain ⟨Ai, ca, hu⟩ := h2.form
    have hgt2 := cellsT_get (l := us) (i := i) (u := x.1) (c := x.2) hx
    have c0 := (World.ownsRow.cellAt h.own (i * 2) (by omega)).trans hgt2.1
    have c1 := (World.ownsRow.cellAt h.own (i * 2 + 1) (by omega)).trans hgt2.2
    refine ⟨Ai, ca, by rw [Nat.zero_add, c0, hu], by rw [Nat.zero_add, c1, h1], World.ownsRow.frozenAt h.own _, fun h0 => ?_⟩
    rw [hu] at h2
    obtain ⟨q, oq, e1, e2, e3, e4⟩ := h2.intsM h0
    subst e1
    have hq : (Value.slice (some ⟨q, oq, none⟩) t.1.length ca).ownBlock = some q := rfl
    have hqt := own_typed h2 hq
    have hgi : ((us[i]?.getD (.slice none 0 0, 0)).1.ownBlock).getD 0 = q := by rw [hx]; simp [hu, Value.ownBlock]
    simp only [hgi]
    exact ⟨oq, rfl, e2, e3, hqt.ne hgt (by decide), e4⟩
  · have hil : i < ts.length := (List.getElem?_eq_some_iff.1 hi).1
    have hjl : j < ts.length := (List.getElem?_eq_some_iff.1 hj).1
    obtain ⟨x, hx⟩ : ∃ x, us[i]? = some x := ⟨us[i]'(by rw [h.len]; exact hil), List.getElem?_eq_getElem (by rw [h.len]; exact hil)⟩
    obtain ⟨y, hy⟩ : ∃ x, us[j]? = some x := ⟨us[j]'(by rw [h.len]; exact hjl), List.getElem?_eq_getElem (by rw [h.len]; exact hjl)⟩
    obtain ⟨_, h2⟩ := h.row i x ti hx hi
    obtain ⟨_, h3⟩ := h.row j y tj hy hj
    obtain ⟨q, _, hu, _⟩ := World.ownsRow.form h2 l1
    obtain ⟨q', _, hu', _⟩ := World.ownsRow.form h3 l2
    simp only [hx, hy, Option.getD_some, hu, hu', Value.ownBlock]
    intro e
    have := h.dist i j x y q hij hx hy (by rw [hu]; rfl)
    rw [hu'] at this
    exact this (by rw [e]; rfl)

/-- one term more, its exponents in an own row that none of the others has -/
theorem TParts.push2 {wr w1 w2 : World} {B cp : Nat} {Av : Option Addr} {v2 u : Value} {ts : List Term'} {us : List (Value × Int)} {t : Term'} (h : TParts wr B (.slice Av ts.length cp) ts us) (_hB : B ≤ wr.heap.size)
    (hb : Below wr.heap.size wr w1) (hu : IntRow w1 B u t.1) (hd : ∀ x ∈ us, ∀ q, x.1.ownBlock = some q → u.ownBlock ≠ some q) (hown : w2.ownsRow B 67 2 v2 (ts.length + 1) (cellsT us ++ [u, .int .i64 t.2])) (hg : w1.grownBy w2 (Value.slice Av ts.length cp).ownBlock) :
    TParts w2 B v2 (ts ++ [t]) (us ++ [(u, t.2)]) ∧ ∀ q, q < w1.heap.size → Typed w1 q 2 → w2.heap[q]? = w1.heap[q]? := by
  have hlen := h.len
  have hty : ∀ q, (Value.slice Av ts.length cp).ownBlock = some q → Typed w1 q 67 := fun q hq => typed_keep (own2_typed h.own hq) (hb.block q (World.ownsRow.lt h.own q hq).2)
  have hkeep : ∀ b, b < w1.heap.size → Typed w1 b 2 → w2.heap[b]? = w1.heap[b]? := fun b hbl ht =>
    hg.block b hbl fun e => ht.ne (hty b e.symm) (by decide) rfl
  refine ⟨⟨by simp [hlen], ?_, fun i x s hx hs => ?_, fun i j x x' q hij hx hx' hq => ?_⟩, hkeep⟩
  · rw [cellsT_append]
    simpa [cellsT] using hown
  · by_cases hi : i < ts.length
    · rw [List.getElem?_append_left (by omega)] at hx hs
      obtain ⟨h1, h2⟩ := h.row i x s hx hs
      have h3 : IntRow w1 B x.1 s.1 := h2.keep fun g hg' => hb.block g (h2.lt hg').2
      exact ⟨h1, h3.keep fun g hg' => hkeep g (h3.lt hg').2 (own_typed h3 hg')⟩
    · have hil := (List.getElem?_eq_some_iff.1 hs).1
      simp at hil
      obtain rfl : i = ts.length := by omega
      rw [List.getElem?_append_right (by omega)] at hx hs
      rw [← hlen] at hx
      simp at hx hs
      subst hx; subst hs
      exact ⟨rfl, hu.keep fun g hg' => hkeep g (hu.lt hg').2 (own_typed hu hg')⟩
  · by_cases hj : j < ts.length
    · rw [List.getElem?_append_left (by omega)] at hx hx'
      exact h.dist i j x x' q hij hx hx' hq
    · have hjl := (List.getElem?_eq_some_iff.1 hx').1
      simp at hjl
      obtain rfl : j = us.length := by omega
      rw [List.getElem?_append_left (by omega)] at hx
      simp at hx'
      subst hx'
      exact hd x (List.mem_of_getElem? hx) q hq

end Go.Proofs.Ytmcaphbngfdfiaa

/- Walks: copies of exponents in own rows (slices.Clone, l00Own), slices.Equal, the sort of nothing. -/
namespace Go.Proofs.Ytmcaphbngfdfiaa
open Go.RowKit Plain

theorem wpList_append_zero {P : Program} {w : World} {ops : Array Oper} {rest : List Oper} {o : Oper} {a : Act} {Q : Exit → Act → World → Prop} (hgd : o.guard = none) (s x : Operand) (t : TypeId)
    (ho : o.op = .call { callee := .builtin .append, args := #[s, x], argTypes := #[t, t] }) (e : TypeId) (i : TypeInfo) (ht : P.underlying t = some (.slice e)) (hi : P.info? e = some i)
    (base : Option Addr) (sLen sCap : Nat) (hle : sLen ≤ sCap) (hs : a.eval s = .slice base sLen sCap) (xv : Value) (hx : a.eval x = xv) (hsrc : Src P i.size t xv 0 [] w)
    (h : wpList P ops Q rest (a.put o.dst (.slice base sLen sCap)) w) : wpList P ops Q (o :: rest) a w := by
  refine wpList_plain hgd fun K hK => ?_
  have hr := run_append_nothing (P := P) w t t o.type e i ht hi base sLen sCap hle xv hsrc
  unfold Oper.wp
  simp [execOp, ho, resolve, invoke, builtin, hs, hx, hr, Result.andThen]
  exact hK _ _ h
/-- a copy in an own row -/
def CopyPost (zs : List Int) (w : World) (e : Ending) (w' : World) : Prop := ∃ A c, e = .returned (.slice A zs.length c) ∧ IntRow w' w.heap.size (.slice A zs.length c) zs ∧ Below w.heap.size w w'
theorem rowStartI (w : World) : IntRow (w.alloc (.cells #[] 2)) w.heap.size (.slice (some ⟨w.heap.size, 0, none⟩) 0 0) [] := World.ownsRow_lit w #[] 0 (Nat.le_refl _) (by unfold maxLen; omega) (by rfl)

/-! ### the sort of nothing -/
end Go.Proofs.Ytmcaphbngfdfiaa

/- Walks: l05Put: a term is put among ascending ones. -/
namespace Go.Proofs.Ytmcaphbngfdfiaa
open Go.RowKit Plain

/-- terms that are copied behind one another: each is one of the old ones, or its exponents are new -/
structure PSt (w : World) (B : Nat) (ts : List Term') (us : List (Value × Int)) (i : Nat) (out : List Term') (L : List (Value × Int)) (A : Option Addr) (m cp : Nat) (wr : World) : Prop where
  own : wr.ownsRow w.heap.size 67 2 (.slice A m cp) m (cellsT L)
  parts : TParts wr B (.slice A m cp) out L
  len : out.length = m
  old : ∀ x ∈ L, (∃ k, k < i ∧ us[k]? = some x) ∨ (∀ q, x.1.ownBlock = some q → w.heap.size ≤ q)
  below : Below w.heap.size w wr
theorem PSt.next {w wr w1 : World} {B i m cp : Nat} {ts out : List Term'} {us L : List (Value × Int)} {A : Option Addr} (h : PSt w B ts us i out L A m cp wr) (hb : Below wr.heap.size wr w1) : PSt w B ts us i out L A m cp w1 :=
  ⟨ownsRow_keep2 h.own fun g hg => hb.block g (World.ownsRow.lt h.own g hg).2, h.parts.keep fun q _ hq => hb.block q hq, h.len, h.old, bnext h.below hb⟩
theorem PSt.start (w : World) (B : Nat) (hB : B ≤ w.heap.size) (ts : List Term') (us : List (Value × Int)) : PSt w B ts us 0 [] [] (some ⟨w.heap.size, 0, none⟩) 0 0 (w.alloc (.cells #[] 67)) := by
  have h : (w.alloc (.cells #[] 67)).ownsRow w.heap.size 67 2 (.slice (some ⟨w.heap.size, 0, none⟩) 0 0) 0 (cellsT []) := World.ownsRow_lit w #[] 0 (Nat.le_refl _) (by unfold maxLen; omega) (by rfl)
  exact ⟨h, ⟨rfl, World.ownsRow.mono h hB, fun i u t h => by simp at h, fun i j u u' q _ h => by simp at h⟩, rfl, fun x hx => by simp at hx, by go_grown⟩
/-- something is appended to what was made since w -/
theorem own_below {w wr w2 : World} {m cp : Nat} {A : Option Addr} {L : List (Value × Int)} {o : Obj} (h : wr.ownsRow w.heap.size 67 2 (.slice A m cp) m (cellsT L)) (hb : Below w.heap.size w wr) (hg : (wr.alloc o).grownBy w2 (Value.slice A m cp).ownBlock) : Below w.heap.size w w2 := by
  have hs := hg.size
  have hs2 := hb.size
  simp at hs
  have hga : Below wr.heap.size wr (wr.alloc o) := (Below.refl _ _).alloc (Nat.le_refl _) o
  exact ⟨hg.os.trans (hga.os.trans hb.os), hg.tape.trans (hga.tape.trans hb.tape), hg.output.trans (hga.output.trans hb.output), by omega, fun k hk => (hg.block k (by simp; omega) fun e => by have := (World.ownsRow.lt h k e.symm).1; omega).trans ((hga.block k (by omega)).trans (hb.block k hk))⟩
/-- an old term is copied -/
theorem PSt.copy {w wr w2 : World} {B i m cp : Nat} {ts out : List Term'} {us L : List (Value × Int)} {A : Option Addr} {v v2 : Value} {o : Obj} {x : Value × Int} (h : PSt w B ts us i out L A m cp wr) (h0 : TParts w B v ts us) (hB : B ≤ w.heap.size) (hi : i < ts.length) (hx : us[i]? = some x)
    (hown : w2.ownsRow w.heap.size 67 2 v2 (m + 1) (cellsT L ++ [x.1, .int .i64 x.2])) (hg : (wr.alloc o).grownBy w2 (Value.slice A m cp).ownBlock) :
    ∃ A2 c2, v2 = .slice A2 (m + 1) c2 ∧ PSt w B ts us (i + 1) (out ++ [tmAt ts i]) (L ++ [x]) A2 (m + 1) c2 w2 := by
  have hl := h.len
  subst hl
  obtain ⟨r1, r2⟩ := h0.row i x _ hx (tm_get hi)
  have hga : Below wr.heap.size wr (wr.alloc o) := (Below.refl _ _).alloc (Nat.le_refl _) o
  have hba : Below w.heap.size w (wr.alloc o) := bnext h.below hga
  have hu : IntRow (wr.alloc o) B x.1 (tmAt ts i).1 := r2.keep fun g hg => hba.block g (r2.lt hg).2
  obtain ⟨A2, c2, hv, _⟩ := World.ownsRow.form hown (by omega)
  subst hv
  rw [r1] at hown
  obtain ⟨p1, _⟩ := TParts.push2 (t := tmAt ts i) h.parts (Nat.le_trans hB h.below.size) hga hu (fun y hy q hq e => by
    rcases h.old y hy with ⟨k, hk, hyk⟩ | hf
    · exact h0.dist k i y x q hk hyk hx hq e
    · have := hf q hq
      have := (r2.lt e).2
      omega) (World.ownsRow.mono hown hB) hg
  refine ⟨some ⟨A2, 0, none⟩, c2, rfl, ?_, ?_, by simp, fun y hy => ?_, own_below h.own h.below hg⟩
  · rw [cellsT_append]; simpa [cellsT, ← r1] using hown
  · rw [← r1] at p1; exact p1
  · rcases List.mem_append.1 hy with hy | hy
    · rcases h.old y hy with ⟨k, hk, hyk⟩ | hf
      · exact .inl ⟨k, by omega, hyk⟩
      · exact .inr hf
    · simp at hy; subst hy
      exact .inl ⟨i, by omega, hx⟩
/-- a new term is appended -/
theorem PSt.more {w wr w1 w2 : World} {B i m cp : Nat} {ts out : List Term'} {us L : List (Value × Int)} {A : Option Addr} {v2 u : Value} {o : Obj} {t : Term'} (h : PSt w B ts us i out L A m cp wr) (hB : B ≤ w.heap.size) (hb : Below wr.heap.size wr w1) (hu : IntRow w1 wr.heap.size u t.1)
    (hown : w2.ownsRow w.heap.size 67 2 v2 (m + 1) (cellsT L ++ [u, .int .i64 t.2])) (hg : (w1.alloc o).grownBy w2 (Value.slice A m cp).ownBlock) :
    ∃ A2 c2, v2 = .slice A2 (m + 1) c2 ∧ PSt w B ts us i (out ++ [t]) (L ++ [(u, t.2)]) A2 (m + 1) c2 w2 := by
  have hl := h.len
  subst hl
  have h1 := h.next hb
  have hga : Below w1.heap.size w1 (w1.alloc o) := (Below.refl _ _).alloc (Nat.le_refl _) o
  have hu2 : IntRow (w1.alloc o) wr.heap.size u t.1 := hu.keep fun g hg => hga.block g (hu.lt hg).2
  obtain ⟨A2, c2, hv, _⟩ := World.ownsRow.form hown (by omega)
  subst hv
  obtain ⟨p1, _⟩ := TParts.push2 (t := t) h1.parts (Nat.le_trans hB h1.below.size) hga (World.ownsRow.mono hu2 (Nat.le_trans hB h.below.size)) (fun y hy q hq e => by
    obtain ⟨k, hk, hyk⟩ := List.getElem_of_mem hy
    have hyk' : L[k]? = some y := by rw [List.getElem?_eq_getElem hk, hyk]
    obtain ⟨s, hs⟩ : ∃ s, out[k]? = some s := ⟨out[k]'(by rw [← h.parts.len]; exact hk), List.getElem?_eq_getElem _⟩
    have := ((h.parts.row k y s hyk' hs).2.lt hq).2
    have := (hu.lt e).1
    omega) (World.ownsRow.mono hown hB) hg
  refine ⟨some ⟨A2, 0, none⟩, c2, rfl, ?_, p1, by simp, fun y hy => ?_, own_below h1.own h1.below hg⟩
  · rw [cellsT_append]; simpa [cellsT] using hown
  · rcases List.mem_append.1 hy with hy | hy
    · exact h.old y hy
    · simp at hy; subst hy
      exact .inr fun q hq => by have := (hu.lt hq).1; have := h.below.size; omega
theorem PSt.skip {w wr : World} {B i j m cp : Nat} {ts out : List Term'} {us L : List (Value × Int)} {A : Option Addr} (h : PSt w B ts us i out L A m cp wr) (hij : i ≤ j) : PSt w B ts us j out L A m cp wr :=
  ⟨h.own, h.parts, h.len, fun x hx => (h.old x hx).imp (fun ⟨k, hk, h⟩ => ⟨k, by omega, h⟩) id, h.below⟩

/-- what is put together of the parts -/
def PutF (ts : List Term') (E : List Int) (c : Int) (a : Nat) (c' : Int) (a' : Nat) : Prop :=
  Canon (ts.take a ++ midT E c' ++ ts.drop a') ∧ ∀ x, cof (ts.take a ++ midT E c' ++ ts.drop a') x = if E = x then pl c (cof ts E) else cof ts x
theorem putF_at {ts : List Term'} {E : List Int} {c : Int} {a : Nat} (h : Canon ts) (ha : a < ts.length) (he : (tmAt ts a).1 = E) : PutF ts E c a (pl c (tmAt ts a).2) (a + 1) := by
  have hs : ts = ts.take a ++ (E, (tmAt ts a).2) :: ts.drop (a + 1) := by
    have h1 : ts.drop a = tmAt ts a :: ts.drop (a + 1) := by
      rw [List.drop_eq_getElem_cons ha, show ts[a] = tmAt ts a by simp [tmAt, List.getD, ha]]
    have h2 := List.take_append_drop a ts
    rw [h1] at h2
    have h3 : tmAt ts a = (E, (tmAt ts a).2) := Prod.ext he rfl
    rw [h3] at h2
    exact h2.symm
  have h2 := h
  rw [hs] at h2
  have h3 := put_at (c := c) h2
  rw [← hs] at h3
  exact h3
theorem putF_new {ts : List Term'} {E : List Int} {c : Int} {a : Nat} (h : Canon ts) (hlo : ∀ k, k < a → cmpL (tmAt ts k).1 E < 0) (hal : a ≤ ts.length) (hhi : a < ts.length → 0 < cmpL (tmAt ts a).1 E) (c0 : 0 ≤ c) (c1 : c ≤ 1000002) : PutF ts E c a c a := by
  have hs := List.take_append_drop a ts
  have h3 := put_new (P := ts.take a) (S := ts.drop a) (e := E) (c := c) (by rw [hs]; exact h) (fun p hp => ?_) (fun s hs' => ?_) c0 c1
  · rw [hs] at h3; exact h3
  · obtain ⟨k, hk, rfl⟩ := List.getElem_of_mem hp
    simp only [List.length_take] at hk
    rw [List.getElem_take]
    have := hlo k (by omega)
    rwa [show tmAt ts k = ts[k] by simp [tmAt, List.getD, show k < ts.length by omega]] at this
  · obtain ⟨k, hk, rfl⟩ := List.getElem_of_mem hs'
    simp only [List.length_drop] at hk
    rw [List.getElem_drop]
    have h1 := hhi (by omega)
    have h2 := cmpL_swap (tmAt ts a).1 E
    have h4 : cmpL E (tmAt ts a).1 < 0 := by omega
    rw [show tmAt ts a = ts[a] by simp [tmAt, List.getD, show a < ts.length by omega]] at h4
    by_cases hk0 : k = 0
    · subst hk0; exact h4
    · exact cmpL_trans h4 (List.pairwise_iff_getElem.1 h.asc a (a + k) (by omega) (by omega) (by omega))
theorem cell_tmn (w : World) (u : Value) (c : Int) (t : TypeId) (j : Nat) (x : Value) (h : [u, Value.int .i64 c][j]? = some x) : (w.alloc (.cells #[u, .int .i64 c] t)).cell? ((Addr.mk w.heap.size 0 none).add j) = some x := by
  have hc := (Cells.new w t [u, .int .i64 c]).cell j
  rw [addr_add, Nat.zero_add]
  exact hc.trans h
def PutPost (B : Nat) (ts : List Term') (E : List Int) (c : Int) (w : World) (e : Ending) (w' : World) : Prop :=
  ∃ (A' : Option Addr) (c' : Nat) (ts' : List Term'), e = .returned (.slice A' ts'.length c') ∧ TRow w' B (.slice A' ts'.length c') ts' ∧ Canon ts' ∧ (∀ x, cof ts' x = if E = x then pl c (cof ts E) else cof ts x) ∧ LenT E.length ts' ∧ ts'.length ≤ ts.length + 1 ∧ Below w.heap.size w w'

end Go.Proofs.Ytmcaphbngfdfiaa

/- Polynomials as results: posts; own rows as rows to be sorted. -/
namespace Go.Proofs.Ytmcaphbngfdfiaa
open Go.RowKit Plain

def RetQi (a : Int × List Term') (b : Int) (w : World) (e : Ending) (w' : World) : Prop :=
  Below w.heap.size w w' ∧ ∃ A cp, e = .returned (.tuple #[poV a.1 A a.2.length cp, .int .i64 b]) ∧ RT w' w.heap.size w'.heap.size A a.2
/-- what a polynomial that is put together term by term is -/
structure DSt (W0 : World) (p B : Nat) (vars : Int) (L : List Term') (n : Nat) (out : List Term') (m cp : Nat) (A : Option Addr) (wr : World) : Prop where
  box : Cells wr p 64 [.int .i64 vars, .slice A m cp]
  len : out.length = m
  row : TRow wr B (.slice A m cp) out
  canon : Canon out
  cofs : ∀ e, cof out e = cof L e
  lenT : LenT n out
  only : Only (fun q => q = p) W0 wr
  pB : p < B
  B0 : B = W0.heap.size
theorem DSt.next {W0 wr w1 : World} {p B n : Nat} {vars : Int} {L out : List Term'} {m cp : Nat} {A : Option Addr} (h : DSt W0 p B vars L n out m cp A wr) (hb : Below wr.heap.size wr w1) : DSt W0 p B vars L n out m cp A w1 :=
  ⟨h.box.next hb, h.len, h.row.below hb, h.canon, h.cofs, h.lenT, h.only.trans (Only.of_below hb), h.pB, h.B0⟩
theorem DSt.size {W0 wr : World} {p B n : Nat} {vars : Int} {L out : List Term'} {m cp : Nat} {A : Option Addr} (h : DSt W0 p B vars L n out m cp A wr) : B ≤ wr.heap.size := by rw [h.B0]; exact h.only.size
theorem DSt.row' {W0 wr : World} {p B n : Nat} {vars : Int} {L out : List Term'} {m cp : Nat} {A : Option Addr} (h : DSt W0 p B vars L n out m cp A wr) : TRow wr B (.slice A out.length cp) out := by rw [h.len]; exact h.row
/-- a term has been put: the box is set -/
theorem DSt.put {W0 w3 w4 : World} {p B n m cp c4 : Nat} {vars c : Int} {L out ts4 : List Term'} {A A4 : Option Addr} {E : List Int} (h : DSt W0 p B vars L n out m cp A w3) (hn : E.length = n) (hr : TRow w4 B (.slice A4 ts4.length c4) ts4) (hc : Canon ts4)
    (hco : ∀ x, cof ts4 x = if E = x then pl c (cof out E) else cof out x) (hl : LenT E.length ts4) (hb : Below w3.heap.size w3 w4) : DSt W0 p B vars (L ++ [(E, c)]) n ts4 ts4.length c4 A4 (w4.setCell ⟨p, 1, none⟩ (.slice A4 ts4.length c4)) := by
  have hB := h.B0
  have hpB := h.pB
  refine ⟨?_, rfl, ?_, hc, fun e => ?_, hn ▸ hl, ?_, h.pB, h.B0⟩
  · have := (h.box.next hb).set_ 1 (.slice A4 ts4.length c4)
    simpa using this
  · exact hr.keep fun q hq _ => Below.heap_setCell _ _ _ _ (fun e => by simp only at e; omega)
  · rw [cof_append, ← h.cofs]
    exact cof_put (t := (E, c)) hco e
  · exact (h.only.trans (Only.of_below hb)).chain (T := fun q => q = p) ⟨rfl, rfl, rfl, by simp [World.setCell], fun q _ hq => Below.heap_setCell _ _ _ _ hq⟩ (fun q _ h => h)
theorem DSt.same {W0 wr : World} {p B n : Nat} {vars : Int} {L L' out : List Term'} {m cp : Nat} {A : Option Addr} (h : DSt W0 p B vars L n out m cp A wr) (e : L = L') : DSt W0 p B vars L' n out m cp A wr := e ▸ h

end Go.Proofs.Ytmcaphbngfdfiaa

/- Plain: the one form of a list of terms; derivatives of polynomials. No program here. -/
namespace Go.Proofs.Ytmcaphbngfdfiaa
open Plain

open Classical in
/-- the one form of a list of terms -/
noncomputable def nfT (L : List Term') : List Term' := if h : ∃ R, Canon R ∧ ∀ e, cof R e = cof L e then Classical.choose h else []
theorem nfT_eq {R L : List Term'} (h : Canon R) (hc : ∀ e, cof R e = cof L e) : R = nfT L := by
  have hx : ∃ R, Canon R ∧ ∀ e, cof R e = cof L e := ⟨R, h, hc⟩
  unfold nfT
  rw [dif_pos hx]
  obtain ⟨h1, h2⟩ := Classical.choose_spec hx
  exact h.unique h1 fun e => by rw [hc, h2]
/-- the term of a derivative -/
def derT (v : Nat) (t : Term') : Term' := (t.1.set v (cf t.1 v - 1), tm t.2 (cf t.1 v))
def derL (ts : List Term') (v : Nat) : List Term' := (ts.filter fun t => decide (0 < cf t.1 v)).map (derT v)
theorem tmAt_get {ts : List Term'} {i : Nat} (hi : i < ts.length) : ts[i]? = some (tmAt ts i) := by simp [tmAt, List.getD, hi]
theorem derL_yes {ts : List Term'} {v i : Nat} (hi : i < ts.length) (h : 0 < cf (tmAt ts i).1 v) : derL (ts.take (i + 1)) v = derL (ts.take i) v ++ [derT v (tmAt ts i)] := by
  unfold derL
  rw [List.take_add_one, tmAt_get hi]
  simp [List.filter_append, h]
theorem derL_no {ts : List Term'} {v i : Nat} (hi : i < ts.length) (h : ¬ 0 < cf (tmAt ts i).1 v) : derL (ts.take (i + 1)) v = derL (ts.take i) v := by
  unfold derL
  rw [List.take_add_one, tmAt_get hi]
  simp [List.filter_append, h]
theorem derL_length (ts : List Term') (v : Nat) : (derL ts v).length ≤ ts.length := by
  unfold derL; rw [List.length_map]; exact List.length_filter_le _ _
theorem derL_len {ts : List Term'} {v n : Nat} (h : LenT n ts) : LenT n (derL ts v) := fun t ht => by
  unfold derL at ht
  obtain ⟨s, hs, rfl⟩ := List.mem_map.1 ht
  have := h s (List.mem_filter.1 hs).1
  simpa [derT] using this
/-- the derivative, or why there is none -/
noncomputable def derV (u : Int) (ts : List Term') (a : Int) : (Int × List Term') × Int :=
  if polyOk u ts = true then (if inR a 0 (u - 1) = true then ((u, nfT (derL ts a.toNat)), 0) else ((0, []), 2)) else ((0, []), 1)
theorem derV_bad {u : Int} {ts : List Term'} {a : Int} (h : polyOk u ts = false) : derV u ts a = ((0, []), 1) := by unfold derV; rw [if_neg (by rw [h]; simp)]
theorem derV_range {u : Int} {ts : List Term'} {a : Int} (h : polyOk u ts = true) (h2 : inR a 0 (u - 1) = false) : derV u ts a = ((0, []), 2) := by unfold derV; rw [if_pos h, if_neg (by rw [h2]; simp)]
theorem derV_ok {u : Int} {ts : List Term'} {a : Int} (h : polyOk u ts = true) (h2 : inR a 0 (u - 1) = true) : derV u ts a = ((u, nfT (derL ts a.toNat)), 0) := by unfold derV; rw [if_pos h, if_pos h2]

end Go.Proofs.Ytmcaphbngfdfiaa
