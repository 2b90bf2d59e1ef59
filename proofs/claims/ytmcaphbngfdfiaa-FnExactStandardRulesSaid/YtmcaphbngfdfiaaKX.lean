/- Texts put together: PPoly, WPoly, WPoly2, WPoly3, WPoly4. -/
import Derived.Test.YtmcaphbngfdfiaaKA
import Derived.Test.YtmcaphbngfdfiaaKP
import Derived.Test.YtmcaphbngfdfiaaKC
import Derived.Test.YtmcaphbngfdfiaaKE

/- Polynomials, plainly: terms, their order, forms, values. No program here. -/
namespace Go.Proofs.Ytmcaphbngfdfiaa
open Plain

/-- the order of lists -/
def cmpL : List Int → List Int → Int
  | [], [] => 0
  | [], _ :: _ => -1
  | _ :: _, [] => 1
  | x :: a, y :: b => if x < y then -1 else if y < x then 1 else cmpL a b
theorem cmpL_step {a b : List Int} {k : Nat} (hk : k < a.length) (hb : k < b.length) : cmpL (a.drop k) (b.drop k) = if cf a k < cf b k then -1 else if cf b k < cf a k then 1 else cmpL (a.drop (k + 1)) (b.drop (k + 1)) := by
  rw [List.drop_eq_getElem_cons hk, List.drop_eq_getElem_cons hb]
  simp only [cmpL]
  have e1 : cf a k = a[k] := by simp [cf, List.getD, hk]
  have e2 : cf b k = b[k] := by simp [cf, List.getD, hb]
  rw [e1, e2]
theorem cmpL_bd (a b : List Int) : cmpL a b = -1 ∨ cmpL a b = 0 ∨ cmpL a b = 1 := by
  induction a generalizing b with
  | nil => cases b <;> simp [cmpL]
  | cons x a ih =>
    cases b with
    | nil => simp [cmpL]
    | cons y b =>
      simp only [cmpL]
      split
      · simp
      · split
        · simp
        · exact ih b
/-- a term: exponents and a coefficient -/
abbrev Term' := List Int × Int
/-- the sum of the first k exponents -/
def degL (a : List Int) : Nat → Int
  | 0 => 0
  | k + 1 => degL a k + cf a k
/-- are the exponents in range? -/
def expsOk (a : List Int) : Bool := a.all fun n => inR n 0 12
def termOk (v : Int) (t : Term') : Bool := decide ((t.1.length : Int) = v) && inR t.2 1 1000002 && (expsOk t.1 && decide (degL t.1 t.1.length ≤ 12))
def tmAt (ts : List Term') (i : Nat) : Term' := ts.getD i ([], 0)
/-- are the first k terms right? -/
def polyUp (v : Int) (ts : List Term') : Nat → Bool
  | 0 => true
  | k + 1 => polyUp v ts k && (termOk v (tmAt ts k) && (decide (k = 0) || decide (cmpL (tmAt ts (k - 1)).1 (tmAt ts k).1 < 0)))
def polyOk (v : Int) (ts : List Term') : Bool := inR v 0 12 && decide (ts.length ≤ 120) && polyUp v ts ts.length
theorem polyUp_false {v : Int} {ts : List Term'} {k : Nat} (h : polyUp v ts k = false) : ∀ n, k ≤ n → polyUp v ts n = false := by
  intro n
  induction n with
  | zero => intro hn; obtain rfl : k = 0 := by omega
            exact h
  | succ n ih =>
    intro hn
    by_cases hk : k = n + 1
    · rw [← hk]; exact h
    · unfold polyUp; rw [ih (by omega)]; rfl
theorem polyUp_true {v : Int} {ts : List Term'} {n : Nat} (h : polyUp v ts n = true) : ∀ k, k ≤ n → polyUp v ts k = true := fun k hk => by
  cases hp : polyUp v ts k
  · rw [polyUp_false hp n hk] at h; exact h
  · rfl
theorem expsOk_bd {a : List Int} (h : expsOk a = true) (k : Nat) : 0 ≤ cf a k ∧ cf a k ≤ 12 := by
  by_cases hk : k < a.length
  · have := inR_true.1 (List.all_eq_true.1 h a[k] (List.getElem_mem hk))
    rwa [show cf a k = a[k] by simp [cf, List.getD, hk]]
  · rw [cf_big (by omega)]; omega
theorem degL_bd {a : List Int} (h : expsOk a = true) (k : Nat) : 0 ≤ degL a k ∧ degL a k ≤ 12 * k := by
  induction k with
  | zero => simp [degL]
  | succ k ih =>
    have := expsOk_bd h k
    simp only [degL]
    omega
theorem degL_mono {a : List Int} (h : expsOk a = true) {i k : Nat} (hik : i ≤ k) : degL a i ≤ degL a k := by
  induction k with
  | zero => obtain rfl : i = 0 := by omega
            exact Int.le_refl _
  | succ k ih =>
    by_cases hi : i = k + 1
    · rw [hi]; exact Int.le_refl _
    · have := ih (by omega)
      have := expsOk_bd h k
      simp only [degL]
      omega
/-- the exponents, each within what is left of 12 -/
def leftUp (a : List Int) : Nat → Bool
  | 0 => true
  | k + 1 => leftUp a k && inR (cf a k) 0 (12 - degL a k)
theorem leftUp_bd {a : List Int} {k : Nat} (h : leftUp a k = true) : 0 ≤ degL a k ∧ degL a k ≤ 12 ∧ ∀ i, i < k → 0 ≤ cf a i ∧ cf a i ≤ 12 := by
  induction k with
  | zero => exact ⟨by simp [degL], by simp [degL], fun i hi => by omega⟩
  | succ k ih =>
    simp only [leftUp, Bool.and_eq_true] at h
    obtain ⟨h1, h2⟩ := h
    have h3 := inR_true.1 h2
    obtain ⟨i1, i2, i3⟩ := ih h1
    simp only [degL]
    refine ⟨by omega, by omega, fun i hi => ?_⟩
    by_cases hik : i = k
    · subst hik; omega
    · exact i3 i (by omega)
theorem leftUp_eq (a : List Int) : leftUp a a.length = (expsOk a && decide (degL a a.length ≤ 12)) := by
  rw [Bool.eq_iff_iff, Bool.and_eq_true, decide_eq_true_eq]
  constructor
  · intro h
    obtain ⟨_, h2, h3⟩ := leftUp_bd h
    refine ⟨List.all_eq_true.2 fun x hx => ?_, h2⟩
    obtain ⟨i, hi, rfl⟩ := List.getElem_of_mem hx
    have := h3 i hi
    rw [show cf a i = a[i] by simp [cf, List.getD, hi]] at this
    exact inR_true.2 this
  · rintro ⟨h1, h2⟩
    have : ∀ k, k ≤ a.length → leftUp a k = true := by
      intro k
      induction k with
      | zero => intro _; rfl
      | succ k ih =>
        intro hk
        have h3 := degL_mono h1 hk
        have h4 := expsOk_bd h1 k
        simp only [degL] at h3
        simp only [leftUp, ih (by omega), Bool.true_and]
        exact inR_true.2 (by omega)
    exact this _ (Nat.le_refl _)
theorem leftUp_false {a : List Int} {k : Nat} (h : leftUp a k = false) : ∀ n, k ≤ n → leftUp a n = false := by
  intro n
  induction n with
  | zero => intro hn; obtain rfl : k = 0 := by omega
            exact h
  | succ n ih =>
    intro hn
    by_cases hk : k = n + 1
    · rw [← hk]; exact h
    · unfold leftUp; rw [ih (by omega)]; rfl

/-- the value of a term: the coefficient times the first k powers -/
def tvL (c : Int) (e zs : List Int) : Nat → Int
  | 0 => c
  | k + 1 => tm (tvL c e zs k) (pw (cf zs k) (cf e k).toNat)
/-- the value of the first k terms -/
def pvL (ts : List Term') (zs : List Int) : Nat → Int
  | 0 => 0
  | k + 1 => pl (pvL ts zs k) (tvL (tmAt ts k).2 (tmAt ts k).1 zs (tmAt ts k).1.length)
theorem tvL_bd {c : Int} (h0 : 0 ≤ c) (h1 : c ≤ 1000002) (e zs : List Int) (k : Nat) : 0 ≤ tvL c e zs k ∧ tvL c e zs k ≤ 1000002 := by
  cases k with
  | zero => exact ⟨h0, h1⟩
  | succ k => unfold tvL tm; omega
theorem pvL_bd (ts : List Term') (zs : List Int) (k : Nat) : 0 ≤ pvL ts zs k ∧ pvL ts zs k ≤ 1000002 := by
  cases k with
  | zero => simp [pvL]
  | succ k => unfold pvL pl; omega
theorem termOk_parts {v : Int} {t : Term'} (h : termOk v t = true) : (t.1.length : Int) = v ∧ 1 ≤ t.2 ∧ t.2 ≤ 1000002 ∧ expsOk t.1 = true ∧ degL t.1 t.1.length ≤ 12 := by
  unfold termOk at h
  simp only [Bool.and_eq_true, decide_eq_true_eq] at h
  have := inR_true.1 h.1.2
  exact ⟨h.1.1, this.1, this.2, h.2.1, h.2.2⟩
theorem polyOk_term {v : Int} {ts : List Term'} (h : polyOk v ts = true) {k : Nat} (hk : k < ts.length) : termOk v (tmAt ts k) = true := by
  unfold polyOk at h
  simp only [Bool.and_eq_true] at h
  have := polyUp_true h.2 (k + 1) (by omega)
  simp only [polyUp, Bool.and_eq_true] at this
  exact this.2.1
theorem polyOk_size {v : Int} {ts : List Term'} (h : polyOk v ts = true) : 0 ≤ v ∧ v ≤ 12 ∧ ts.length ≤ 120 := by
  unfold polyOk at h
  simp only [Bool.and_eq_true, decide_eq_true_eq] at h
  have := inR_true.1 h.1.1
  omega
end Go.Proofs.Ytmcaphbngfdfiaa

/- Polynomials in memory: terms read, terms in blocks of a law's own; arguments of laws. -/
namespace Go.Proofs.Ytmcaphbngfdfiaa
open Go.ChangeShapes Go.WideShapes Go.ChangeAt Go.RowKit Plain

/-- a polynomial as a value -/
abbrev poV (v : Int) (A : Option Addr) (n cap : Nat) : Value := .agg #[.int .i64 v, .slice A n cap]
/-- the terms at A read as ts -/
def TmsAt (w : World) (A : Option Addr) (ts : List Term') : Prop :=
  0 < ts.length → ∃ b o, A = some ⟨b, o, none⟩ ∧ b < w.heap.size ∧ ∀ i t, ts[i]? = some t → ∃ Ai cap, w.cell? ⟨b, o + i * 2, none⟩ = some (.slice Ai t.1.length cap) ∧ w.cell? ⟨b, o + i * 2 + 1, none⟩ = some (.int .i64 t.2) ∧ Ints w Ai t.1 ∧ t.1.length ≤ 9223372036854775807
theorem TmsAt.nil (w : World) (A : Option Addr) : TmsAt w A [] := fun h => absurd h (by simp)
theorem TmsAt.below {w w' : World} {A : Option Addr} {ts : List Term'} (h : TmsAt w A ts) (hb : Below w.heap.size w w') : TmsAt w' A ts := fun hn => by
  obtain ⟨b, o, e, hl, hc⟩ := h hn
  refine ⟨b, o, e, Nat.lt_of_lt_of_le hl hb.size, fun i t ht => ?_⟩
  obtain ⟨Ai, cap, h1, h2, h3, h4⟩ := hc i t ht
  exact ⟨Ai, cap, (hb.cell (p := ⟨b, _, none⟩) hl).trans h1, (hb.cell (p := ⟨b, _, none⟩) hl).trans h2, h3.below hb, h4⟩
theorem tm_get {ts : List Term'} {k : Nat} (h : k < ts.length) : ts[k]? = some (tmAt ts k) := by simp [tmAt, List.getD, h]
theorem TmsAt.at_ {w : World} {A : Option Addr} {ts : List Term'} (h : TmsAt w A ts) {k : Nat} (hk : k < ts.length) :
    ∃ b o Ai cap, A = some ⟨b, o, none⟩ ∧ b < w.heap.size ∧ w.cell? ⟨b, o + k * 2, none⟩ = some (.slice Ai (tmAt ts k).1.length cap) ∧ w.cell? ⟨b, o + k * 2 + 1, none⟩ = some (.int .i64 (tmAt ts k).2) ∧ Ints w Ai (tmAt ts k).1 ∧ (tmAt ts k).1.length ≤ 9223372036854775807 := by
  obtain ⟨b, o, e, hl, hc⟩ := h (by omega)
  obtain ⟨Ai, cap, h1, h2, h3, h4⟩ := hc k _ (tm_get hk)
  exact ⟨b, o, Ai, cap, e, hl, h1, h2, h3, h4⟩
/-- how many exponents there are in all -/
def totT (ts : List Term') : Nat := tot (ts.map (·.1))
def tmSize (ts : List Term') : Nat := ts.length + totT ts
theorem totT_succ {ts : List Term'} {k : Nat} (h : k < ts.length) : totT (ts.take (k + 1)) = totT (ts.take k) + (tmAt ts k).1.length := by
  unfold totT
  have h1 : (ts.map (·.1))[k]? = some (tmAt ts k).1 := by rw [List.getElem?_map, tm_get h]; rfl
  rw [List.map_take, List.map_take]
  exact tot_take_succ h1
theorem totT_le (ts : List Term') (k : Nat) : totT (ts.take k) ≤ totT ts := by
  unfold totT
  rw [List.map_take]
  exact tot_take_le _ _
theorem exps_le_tot {ts : List Term'} {k : Nat} (h : k < ts.length) : (tmAt ts k).1.length ≤ totT ts := by
  have h1 : (ts.map (·.1))[k]? = some (tmAt ts k).1 := by rw [List.getElem?_map, tm_get h]; rfl
  exact len_le_tot h1

end Go.Proofs.Ytmcaphbngfdfiaa

/- Walks of the laws' helpers on polynomials: szPoly, eqPoly, toPoly. -/
namespace Go.Proofs.Ytmcaphbngfdfiaa
open Go.RowKit Plain

abbrev tmV (A : Option Addr) (n cap : Nat) (c : Int) : Value := .agg #[.slice A n cap, .int .i64 c]

theorem allocs2' (w : World) (t1 t2 : TypeId) (C1 C2 : List Value) : ((w.alloc (.cells C1.toArray t1)).alloc (.cells C2.toArray t2)).heap.size = w.heap.size + 2 ∧ Cells ((w.alloc (.cells C1.toArray t1)).alloc (.cells C2.toArray t2)) w.heap.size t1 C1 ∧ Cells ((w.alloc (.cells C1.toArray t1)).alloc (.cells C2.toArray t2)) (w.heap.size + 1) t2 C2 ∧ Below w.heap.size w ((w.alloc (.cells C1.toArray t1)).alloc (.cells C2.toArray t2)) := by
  refine ⟨by simp, ?_, ?_, by go_grown⟩
  · exact (Cells.new w t1 C1).next (by go_grown)
  · have := Cells.new (w.alloc (.cells C1.toArray t1)) t2 C2
    rwa [show (w.alloc (.cells C1.toArray t1)).heap.size = w.heap.size + 1 by simp] at this

/-- a term's copy: the exponents in a block of their own -/
def NewTm (w : World) (b : Nat) (t : Term') (w' : World) : Prop := w.heap.size ≤ b ∧ b < w'.heap.size ∧ Cells w' b 2 (t.1.map (Value.int .i64))

/-- so many terms have been copied -/
structure TmFill (w : World) (g0 : Nat) (ts : List Term') (k : Nat) (C : List Value) (gs : List Nat) : Prop where
  box : Cells w g0 67 C
  len : C.length = ts.length * 2
  gl : gs.length = k
  up : gs.Pairwise (· < ·)
  blk : ∀ b ∈ gs, g0 < b ∧ b < w.heap.size
  row : ∀ (i : Nat) (t : Term') (b : Nat), ts[i]? = some t → gs[i]? = some b → C[i * 2]? = some (Value.slice (some ⟨b, 0, none⟩) t.1.length t.1.length) ∧ C[i * 2 + 1]? = some (.int .i64 t.2) ∧ Cells w b 2 (t.1.map (Value.int .i64))
theorem TmFill.next {w w1 : World} {g0 k b : Nat} {ts : List Term'} {C : List Value} {gs : List Nat} (h : TmFill w g0 ts k C gs) (hk : k < ts.length) (hg : Below w.heap.size w w1) (hb : NewTm w b (tmAt ts k) w1) :
    TmFill ((w1.setCell ⟨g0, k * 2, none⟩ (.slice (some ⟨b, 0, none⟩) (tmAt ts k).1.length (tmAt ts k).1.length)).setCell ⟨g0, k * 2 + 1, none⟩ (.int .i64 (tmAt ts k).2)) g0 ts (k + 1) ((C.set (k * 2) (.slice (some ⟨b, 0, none⟩) (tmAt ts k).1.length (tmAt ts k).1.length)).set (k * 2 + 1) (.int .i64 (tmAt ts k).2)) (gs ++ [b]) := by
  have h0 := h.box.lt
  obtain ⟨b1, b2, hc⟩ := hb
  have hs : ((w1.setCell ⟨g0, k * 2, none⟩ (.slice (some ⟨b, 0, none⟩) (tmAt ts k).1.length (tmAt ts k).1.length)).setCell ⟨g0, k * 2 + 1, none⟩ (.int .i64 (tmAt ts k).2)).heap.size = w1.heap.size := by simp [World.setCell]
  refine ⟨((h.box.next hg).set_ _ _).set_ _ _, by simp [h.len], by simp [h.gl], ?_, ?_, ?_⟩
  · rw [List.pairwise_append]
    exact ⟨h.up, List.pairwise_singleton _ _, fun a ha c hc => by simp at hc; subst hc; have := (h.blk a ha).2; omega⟩
  · intro c hc
    rw [hs]
    rcases List.mem_append.1 hc with h1 | h1
    · have := h.blk c h1; have := hg.size; omega
    · simp at h1; subst h1; omega
  · intro i t c hi hci
    have hlt := (List.getElem?_eq_some_iff.1 hci).1
    simp [h.gl] at hlt
    have hl := h.len
    by_cases e : i = k
    · subst e
      rw [tm_get hk] at hi
      obtain rfl : tmAt ts i = t := by simpa using hi
      rw [List.getElem?_append_right (by rw [h.gl]; omega), h.gl] at hci
      simp at hci
      subst hci
      exact ⟨by rw [List.getElem?_set_ne (by omega), List.getElem?_set_self (by omega)], by rw [List.getElem?_set_self (by simp; omega)], (hc.far (by simp; omega) _).far (by simp; omega) _⟩
    · rw [List.getElem?_append_left (by rw [h.gl]; omega)] at hci
      obtain ⟨r1, r2, r3⟩ := h.row i t c hi hci
      have := h.blk c (List.mem_of_getElem? hci)
      exact ⟨by rw [List.getElem?_set_ne (by omega), List.getElem?_set_ne (by omega)]; exact r1, by rw [List.getElem?_set_ne (by omega), List.getElem?_set_ne (by omega)]; exact r2, ((r3.next hg).far (by simp; omega) _).far (by simp; omega) _⟩
theorem TmFill.get {w : World} {g0 : Nat} {ts : List Term'} {C : List Value} {gs : List Nat} (h : TmFill w g0 ts ts.length C gs) {i : Nat} {t : Term'} (ht : ts[i]? = some t) :
    ∃ b, gs[i]? = some b ∧ g0 < b ∧ b < w.heap.size ∧ w.cell? ⟨g0, i * 2, none⟩ = some (.slice (some ⟨b, 0, none⟩) t.1.length t.1.length) ∧ w.cell? ⟨g0, i * 2 + 1, none⟩ = some (.int .i64 t.2) ∧ Cells w b 2 (t.1.map (Value.int .i64)) := by
  have hi : i < gs.length := by rw [h.gl]; exact (List.getElem?_eq_some_iff.1 ht).1
  obtain ⟨r1, r2, r3⟩ := h.row i t gs[i] ht (List.getElem?_eq_getElem hi)
  have hb := h.blk gs[i] (List.getElem_mem hi)
  exact ⟨gs[i], List.getElem?_eq_getElem hi, hb.1, hb.2, by rw [h.box.cell]; exact r1, by rw [h.box.cell]; exact r2, r3⟩

/-- terms in the blocks lo .. hi - 1, no two lists in one block, that may be written -/
def TmsR (lo hi : Nat) (A : Option Addr) (ts : List Term') (w : World) : Prop :=
  0 < ts.length → ∃ (b o : Nat) (g : Nat → Nat), A = some ⟨b, o, none⟩ ∧ lo ≤ b ∧ b < hi ∧
    (∀ i t, ts[i]? = some t → ∃ Ai cap, w.cell? ⟨b, o + i * 2, none⟩ = some (.slice Ai t.1.length cap) ∧ w.cell? ⟨b, o + i * 2 + 1, none⟩ = some (.int .i64 t.2) ∧ w.frozen? ⟨b, o + i * 2 + 1, none⟩ = false ∧
      (0 < t.1.length → ∃ oi, Ai = some ⟨g i, oi, none⟩ ∧ lo ≤ g i ∧ g i < hi ∧ g i ≠ b ∧ ∀ j x, t.1[j]? = some x → w.cell? ⟨g i, oi + j, none⟩ = some (.int .i64 x) ∧ w.frozen? ⟨g i, oi + j, none⟩ = false)) ∧
    ∀ i j ti tj, i < j → ts[i]? = some ti → ts[j]? = some tj → 0 < ti.1.length → 0 < tj.1.length → g i ≠ g j
theorem TmsR.keep {lo hi : Nat} {A : Option Addr} {ts : List Term'} {w1 w2 : World} (h : TmsR lo hi A ts w1) (hb : ∀ q, lo ≤ q → q < hi → w2.heap[q]? = w1.heap[q]?) : TmsR lo hi A ts w2 := fun hn => by
  obtain ⟨b, o, g, e, h1, h2, hc, hd⟩ := h hn
  refine ⟨b, o, g, e, h1, h2, fun i t ht => ?_, hd⟩
  obtain ⟨Ai, cap, c1, c2, c3, c4⟩ := hc i t ht
  refine ⟨Ai, cap, (World.cell?_of_block (a := ⟨b, _, none⟩) (hb b h1 h2)).trans c1, (World.cell?_of_block (a := ⟨b, _, none⟩) (hb b h1 h2)).trans c2, (World.frozen?_of_block (a := ⟨b, _, none⟩) (hb b h1 h2)).trans c3, fun h0 => ?_⟩
  obtain ⟨oi, e1, e2, e3, e4, e5⟩ := c4 h0
  exact ⟨oi, e1, e2, e3, e4, fun j x hx => ⟨(World.cell?_of_block (a := ⟨g i, _, none⟩) (hb _ e2 e3)).trans (e5 j x hx).1, (World.frozen?_of_block (a := ⟨g i, _, none⟩) (hb _ e2 e3)).trans (e5 j x hx).2⟩⟩
theorem TmsR.nil (lo hi : Nat) (A : Option Addr) (w : World) : TmsR lo hi A [] w := fun h => absurd h (by simp)
abbrev RT (w : World) (lo hi : Nat) (A : Option Addr) (ts : List Term') : Prop := Reg w lo hi (TmsR lo hi A ts)
theorem regTms {w : World} {lo hi : Nat} {A : Option Addr} {ts : List Term'} (h : RT w lo hi A ts) (hm : totT ts ≤ 9223372036854775807) : TmsAt w A ts := fun hn => by
  obtain ⟨b, o, g, e, h1, h2, hc, _⟩ := h.now hn
  refine ⟨b, o, e, Nat.lt_of_lt_of_le h2 h.size, fun i t ht => ?_⟩
  obtain ⟨Ai, cap, c1, c2, _, c4⟩ := hc i t ht
  have hi : i < ts.length := (List.getElem?_eq_some_iff.1 ht).1
  have hti : tmAt ts i = t := by have := tm_get hi; rw [ht] at this; simpa using this.symm
  refine ⟨Ai, cap, c1, c2, fun h0 => ?_, by have := exps_le_tot hi; rw [hti] at this; omega⟩
  obtain ⟨oi, e1, e2, e3, e4, e5⟩ := c4 h0
  exact ⟨g i, oi, e1, Nat.lt_of_lt_of_le e3 h.size, fun j x hx => (e5 j x hx).1⟩
theorem TmFill.tms {w : World} {g0 : Nat} {ts : List Term'} {C : List Value} {gs : List Nat} (h : TmFill w g0 ts ts.length C gs) : RT w g0 w.heap.size (some ⟨g0, 0, none⟩) ts := by
  have h0 := h.box.lt
  refine ⟨by omega, Nat.le_refl _, fun _ => ⟨g0, 0, fun i => gs.getD i 0, rfl, Nat.le_refl _, h0, fun i t ht => ?_, fun i j ti tj hij hi hj _ _ => ?_⟩, fun _ _ h hb => h.keep hb⟩
  · obtain ⟨b, hb, b1, b2, c1, c2, c3⟩ := h.get ht
    have e : gs.getD i 0 = b := by simp [List.getD, hb]
    refine ⟨some ⟨b, 0, none⟩, _, by rw [Nat.zero_add]; exact c1, by rw [Nat.zero_add]; exact c2, h.box.frozen _, fun _ => ⟨0, by show some (Addr.mk b 0 none) = some ⟨gs.getD i 0, 0, none⟩; rw [e], by show g0 ≤ gs.getD i 0; rw [e]; omega, by show gs.getD i 0 < _; rw [e]; exact b2, by show gs.getD i 0 ≠ g0; rw [e]; omega, fun j x hx => ?_⟩⟩
    show w.cell? ⟨gs.getD i 0, 0 + j, none⟩ = _ ∧ w.frozen? ⟨gs.getD i 0, 0 + j, none⟩ = _
    rw [e, Nat.zero_add]
    exact ⟨by rw [c3.cell]; simp [hx], c3.frozen _⟩
  · have hjl : j < gs.length := by rw [h.gl]; exact (List.getElem?_eq_some_iff.1 hj).1
    show gs.getD i 0 ≠ gs.getD j 0
    have hil : i < gs.length := by omega
    have := List.pairwise_iff_getElem.1 h.up i j hil hjl hij
    simp only [List.getD, List.getElem?_eq_getElem hil, List.getElem?_eq_getElem hjl, Option.getD_some]
    omega

theorem Try.infoT : (Try.prog.info? 67).map (fun i => (i.zero, i.size, i.bytes)) = some (some (tmV none 0 0 0), 2, 32) := by kernel_rfl

theorem keep4q {w w' : World} {p q r s : Addr} {a b c d : Value} (h : w.cell? p = some a ∧ w.cell? q = some b ∧ w.cell? r = some c ∧ w.cell? s = some d) (hb : Below w.heap.size w w') : w'.cell? p = some a ∧ w'.cell? q = some b ∧ w'.cell? r = some c ∧ w'.cell? s = some d :=
  ⟨keepC h.1 hb, keepC h.2.1 hb, keepC h.2.2.1 hb, keepC h.2.2.2 hb⟩

end Go.Proofs.Ytmcaphbngfdfiaa

/- Walks: the order of exponents and the validity of polynomials, in the spec. -/
namespace Go.Proofs.Ytmcaphbngfdfiaa
open Go.RowKit Plain

theorem termOk_len {v : Int} {t : Term'} (h : ¬ (t.1.length : Int) = v) : termOk v t = false := by unfold termOk; simp [h]
theorem termOk_coef {v : Int} {t : Term'} (h : inR t.2 1 1000002 = false) : termOk v t = false := by unfold termOk; simp [h]
theorem termOk_rest {v : Int} {t : Term'} (h : (t.1.length : Int) = v) (h2 : inR t.2 1 1000002 = true) : termOk v t = leftUp t.1 t.1.length := by unfold termOk; rw [leftUp_eq]; simp [h, h2]

end Go.Proofs.Ytmcaphbngfdfiaa

/- Walks: the validity of polynomials, in the spec. -/
namespace Go.Proofs.Ytmcaphbngfdfiaa
open Go.RowKit Plain

theorem polyOk_vars {v : Int} {ts : List Term'} (h : inR v 0 12 = false) : polyOk v ts = false := by unfold polyOk; simp [h]
theorem polyOk_len {v : Int} {ts : List Term'} (h : ¬ ts.length ≤ 120) : polyOk v ts = false := by unfold polyOk; simp [h]
theorem polyOk_up {v : Int} {ts : List Term'} (h : inR v 0 12 = true) (h2 : ts.length ≤ 120) : polyOk v ts = polyUp v ts ts.length := by unfold polyOk; simp [h, h2]
theorem polyUp_term {v : Int} {ts : List Term'} {k : Nat} (h : termOk v (tmAt ts k) = false) (hk : k < ts.length) : polyUp v ts ts.length = false := polyUp_false (k := k + 1) (by unfold polyUp; rw [h]; simp) _ (by omega)
theorem polyUp_ord {v : Int} {ts : List Term'} {k : Nat} (hk0 : 0 < k) (h : ¬ cmpL (tmAt ts (k - 1)).1 (tmAt ts k).1 < 0) (hk : k < ts.length) : polyUp v ts ts.length = false := polyUp_false (k := k + 1) (by
  unfold polyUp
  rw [show decide (k = 0) = false by simp; omega]
  simp [h]) _ (by omega)
theorem polyUp_next {v : Int} {ts : List Term'} {k : Nat} (h0 : polyUp v ts k = true) (h1 : termOk v (tmAt ts k) = true) (h2 : k = 0 ∨ cmpL (tmAt ts (k - 1)).1 (tmAt ts k).1 < 0) : polyUp v ts (k + 1) = true := by
  unfold polyUp
  rw [h0, h1]
  rcases h2 with h2 | h2 <;> simp [h2]

end Go.Proofs.Ytmcaphbngfdfiaa
