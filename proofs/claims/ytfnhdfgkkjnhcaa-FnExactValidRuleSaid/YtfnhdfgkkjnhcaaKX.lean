/- Texts put together: PPoly, WPoly, WPoly2, WPoly3, WPoly4. -/
import Derived.Test.YtfnhdfgkkjnhcaaKA
import Derived.Test.YtfnhdfgkkjnhcaaKP
import Derived.Test.YtfnhdfgkkjnhcaaKC
import Derived.Test.YtfnhdfgkkjnhcaaKE

/- Polynomials, plainly: terms, their order, forms, values. No program here. -/
namespace Go.Proofs.Ytfnhdfgkkjnhcaa
open Plain

/-- the order of lists -/
def cmpL : List Int → List Int → Int
  | [], [] => 0
  | [], _ :: _ => -1
  | _ :: _, [] => 1
  | x :: a, y :: b => if x < y then -1 else if y < x then 1 else cmpL a b
theorem cmpL_step {a b : List Int} {k : Nat} (hk : k < a.length) (hb : k < b.length) : cmpL (a.drop k) (b.drop k) = if cf a k < cf b k then -1 else if cf b k < cf a k then 1 else cmpL (a.drop (k + 1)) (b.drop (k + 1)) := by
  rw [List.drop_eq_getElem_cons hk, List.drop_eq_getElem_cons hb]
  simp only [cmpL]
  have e1 : cf a k = a[k] := by simp [cf, List.getD, hk]
  have e2 : cf b k = b[k] := by simp [cf, List.getD, hb]
  rw [e1, e2]
theorem cmpL_bd (a b : List Int) : cmpL a b = -1 ∨ cmpL a b = 0 ∨ cmpL a b = 1 := by
  induction a generalizing b with
  | nil => cases b <;> simp [cmpL]
  | cons x a ih =>
    cases b with
    | nil => simp [cmpL]
    | cons y b =>
      simp only [cmpL]
      split
      · simp
      · split
        · simp
        · exact ih b
/-- a term: exponents and a coefficient -/
abbrev Term' := List Int × Int
/-- the sum of the first k exponents -/
def degL (a : List Int) : Nat → Int
  | 0 => 0
  | k + 1 => degL a k + cf a k
/-- are the exponents in range? -/
def expsOk (a : List Int) : Bool := a.all fun n => inR n 0 12
def termOk (v : Int) (t : Term') : Bool := decide ((t.1.length : Int) = v) && inR t.2 1 1000002 && (expsOk t.1 && decide (degL t.1 t.1.length ≤ 12))
def tmAt (ts : List Term') (i : Nat) : Term' := ts.getD i ([], 0)
/-- are the first k terms right? -/
def polyUp (v : Int) (ts : List Term') : Nat → Bool
  | 0 => true
  | k + 1 => polyUp v ts k && (termOk v (tmAt ts k) && (decide (k = 0) || decide (cmpL (tmAt ts (k - 1)).1 (tmAt ts k).1 < 0)))
def polyOk (v : Int) (ts : List Term') : Bool := inR v 0 12 && decide (ts.length ≤ 120) && polyUp v ts ts.length
theorem polyUp_false {v : Int} {ts : List Term'} {k : Nat} (h : polyUp v ts k = false) : ∀ n, k ≤ n → polyUp v ts n = false := by
  intro n
  induction n with
  | zero => intro hn; obtain rfl : k = 0 := by omega
            exact h
  | succ n ih =>
    intro hn
    by_cases hk : k = n + 1
    · rw [← hk]; exact h
    · unfold polyUp; rw [ih (by omega)]; rfl
theorem polyUp_true {v : Int} {ts : List Term'} {n : Nat} (h : polyUp v ts n = true) : ∀ k, k ≤ n → polyUp v ts k = true := fun k hk => by
  cases hp : polyUp v ts k
  · rw [polyUp_false hp n hk] at h; exact h
  · rfl
theorem expsOk_bd {a : List Int} (h : expsOk a = true) (k : Nat) : 0 ≤ cf a k ∧ cf a k ≤ 12 := by
  by_cases hk : k < a.length
  · have := inR_true.1 (List.all_eq_true.1 h a[k] (List.getElem_mem hk))
    rwa [show cf a k = a[k] by simp [cf, List.getD, hk]]
  · rw [cf_big (by omega)]; omega
theorem degL_bd {a : List Int} (h : expsOk a = true) (k : Nat) : 0 ≤ degL a k ∧ degL a k ≤ 12 * k := by
  induction k with
  | zero => simp [degL]
  | succ k ih =>
    have := expsOk_bd h k
    simp only [degL]
    omega
theorem degL_mono {a : List Int} (h : expsOk a = true) {i k : Nat} (hik : i ≤ k) : degL a i ≤ degL a k := by
  induction k with
  | zero => obtain rfl : i = 0 := by omega
            exact Int.le_refl _
  | succ k ih =>
    by_cases hi : i = k + 1
    · rw [hi]; exact Int.le_refl _
    · have := ih (by omega)
      have := expsOk_bd h k
      simp only [degL]
      omega
/-- the exponents, each within what is left of 12 -/
def leftUp (a : List Int) : Nat → Bool
  | 0 => true
  | k + 1 => leftUp a k && inR (cf a k) 0 (12 - degL a k)
theorem leftUp_bd {a : List Int} {k : Nat} (h : leftUp a k = true) : 0 ≤ degL a k ∧ degL a k ≤ 12 ∧ ∀ i, i < k → 0 ≤ cf a i ∧ cf a i ≤ 12 := by
  induction k with
  | zero => exact ⟨by simp [degL], by simp [degL], fun i hi => by omega⟩
  | succ k ih =>
    simp only [leftUp, Bool.and_eq_true] at h
    obtain ⟨h1, h2⟩ := h
    have h3 := inR_true.1 h2
    obtain ⟨i1, i2, i3⟩ := ih h1
    simp only [degL]
    refine ⟨by omega, by omega, fun i hi => ?_⟩
    by_cases hik : i = k
    · subst hik; omega
    · exact i3 i (by omega)
theorem leftUp_eq (a : List Int) : leftUp a a.length = (expsOk a && decide (degL a a.length ≤ 12)) := by
  rw [Bool.eq_iff_iff, Bool.and_eq_true, decide_eq_true_eq]
  constructor
  · intro h
    obtain ⟨_, h2, h3⟩ := leftUp_bd h
    refine ⟨List.all_eq_true.2 fun x hx => ?_, h2⟩
    obtain ⟨i, hi, rfl⟩ := List.getElem_of_mem hx
    have := h3 i hi
    rw [show cf a i = a[i] by simp [cf, List.getD, hi]] at this
    exact inR_true.2 this
  · rintro ⟨h1, h2⟩
    have : ∀ k, k ≤ a.length → leftUp a k = true := by
      intro k
      induction k with
      | zero => intro _; rfl
      | succ k ih =>
        intro hk
        have h3 := degL_mono h1 hk
        have h4 := expsOk_bd h1 k
        simp only [degL] at h3
        simp only [leftUp, ih (by omega), Bool.true_and]
        exact inR_true.2 (by omega)
    exact this _ (Nat.le_refl _)
theorem leftUp_false {a : List Int} {k : Nat} (h : leftUp a k = false) : ∀ n, k ≤ n → leftUp a n = false := by
  intro n
  induction n with
  | zero => intro hn; obtain rfl : k = 0 := by omega
            exact h
  | succ n ih =>
    intro hn
    by_cases hk : k = n + 1
    · rw [← hk]; exact h
    · unfold leftUp; rw [ih (by omega)]; rfl

/-- the value of a term: the coefficient times the first k powers -/
def tvL (c : Int) (e zs : List Int) : Nat → Int
  | 0 => c
  | k + 1 => tm (tvL c e zs k) (pw (cf zs k) (cf e k).toNat)
/-- the value of the first k terms -/
def pvL (ts : List Term') (zs : List Int) : Nat → Int
  | 0 => 0
  | k + 1 => pl (pvL ts zs k) (tvL (tmAt ts k).2 (tmAt ts k).1 zs (tmAt ts k).1.length)
theorem tvL_bd {c : Int} (h0 : 0 ≤ c) (h1 : c ≤ 1000002) (e zs : List Int) (k : Nat) : 0 ≤ tvL c e zs k ∧ tvL c e zs k ≤ 1000002 := by
  cases k with
  | zero => exact ⟨h0, h1⟩
  | succ k => unfold tvL tm; omega
theorem pvL_bd (ts : List Term') (zs : List Int) (k : Nat) : 0 ≤ pvL ts zs k ∧ pvL ts zs k ≤ 1000002 := by
  cases k with
  | zero => simp [pvL]
  | succ k => unfold pvL pl; omega
theorem termOk_parts {v : Int} {t : Term'} (h : termOk v t = true) : (t.1.length : Int) = v ∧ 1 ≤ t.2 ∧ t.2 ≤ 1000002 ∧ expsOk t.1 = true ∧ degL t.1 t.1.length ≤ 12 := by
  unfold termOk at h
  simp only [Bool.and_eq_true, decide_eq_true_eq] at h
  have := inR_true.1 h.1.2
  exact ⟨h.1.1, this.1, this.2, h.2.1, h.2.2⟩
theorem polyOk_term {v : Int} {ts : List Term'} (h : polyOk v ts = true) {k : Nat} (hk : k < ts.length) : termOk v (tmAt ts k) = true := by
  unfold polyOk at h
  simp only [Bool.and_eq_true] at h
  have := polyUp_true h.2 (k + 1) (by omega)
  simp only [polyUp, Bool.and_eq_true] at this
  exact this.2.1
theorem polyOk_size {v : Int} {ts : List Term'} (h : polyOk v ts = true) : 0 ≤ v ∧ v ≤ 12 ∧ ts.length ≤ 120 := by
  unfold polyOk at h
  simp only [Bool.and_eq_true, decide_eq_true_eq] at h
  have := inR_true.1 h.1.1
  omega
end Go.Proofs.Ytfnhdfgkkjnhcaa

/- Polynomials in memory: terms read, terms in blocks of a law's own; arguments of laws. -/
namespace Go.Proofs.Ytfnhdfgkkjnhcaa
open Go.ChangeShapes Go.WideShapes Go.ChangeAt Go.RowKit Plain

/-- a polynomial as a value -/
abbrev poV (v : Int) (A : Option Addr) (n cap : Nat) : Value := .agg #[.int .i64 v, .slice A n cap]
/-- the terms at A read as ts -/
def TmsAt (w : World) (A : Option Addr) (ts : List Term') : Prop :=
  0 < ts.length → ∃ b o, A = some ⟨b, o, none⟩ ∧ b < w.heap.size ∧ ∀ i t, ts[i]? = some t → ∃ Ai cap, w.cell? ⟨b, o + i * 2, none⟩ = some (.slice Ai t.1.length cap) ∧ w.cell? ⟨b, o + i * 2 + 1, none⟩ = some (.int .i64 t.2) ∧ Ints w Ai t.1 ∧ t.1.length ≤ 9223372036854775807
theorem TmsAt.nil (w : World) (A : Option Addr) : TmsAt w A [] := fun h => absurd h (by simp)
theorem TmsAt.below {w w' : World} {A : Option Addr} {ts : List Term'} (h : TmsAt w A ts) (hb : Below w.heap.size w w') : TmsAt w' A ts := fun hn => by
  obtain ⟨b, o, e, hl, hc⟩ := h hn
  refine ⟨b, o, e, Nat.lt_of_lt_of_le hl hb.size, fun i t ht => ?_⟩
  obtain ⟨Ai, cap, h1, h2, h3, h4⟩ := hc i t ht
  exact ⟨Ai, cap, (hb.cell (p := ⟨b, _, none⟩) hl).trans h1, (hb.cell (p := ⟨b, _, none⟩) hl).trans h2, h3.below hb, h4⟩
theorem tm_get {ts : List Term'} {k : Nat} (h : k < ts.length) : ts[k]? = some (tmAt ts k) := by simp [tmAt, List.getD, h]
theorem TmsAt.at_ {w : World} {A : Option Addr} {ts : List Term'} (h : TmsAt w A ts) {k : Nat} (hk : k < ts.length) :
    ∃ b o Ai cap, A = some ⟨b, o, none⟩ ∧ b < w.heap.size ∧ w.cell? ⟨b, o + k * 2, none⟩ = some (.slice Ai (tmAt ts k).1.length cap) ∧ w.cell? ⟨b, o + k * 2 + 1, none⟩ = some (.int .i64 (tmAt ts k).2) ∧ Ints w Ai (tmAt ts k).1 ∧ (tmAt ts k).1.length ≤ 9223372036854775807 := by
  obtain ⟨b, o, e, hl, hc⟩ := h (by omega)
  obtain ⟨Ai, cap, h1, h2, h3, h4⟩ := hc k _ (tm_get hk)
  exact ⟨b, o, Ai, cap, e, hl, h1, h2, h3, h4⟩
/-- how many exponents there are in all -/
def totT (ts : List Term') : Nat := tot (ts.map (·.1))
def tmSize (ts : List Term') : Nat := ts.length + totT ts
theorem totT_succ {ts : List Term'} {k : Nat} (h : k < ts.length) : totT (ts.take (k + 1)) = totT (ts.take k) + (tmAt ts k).1.length := by
  unfold totT
  have h1 : (ts.map (·.1))[k]? = some (tmAt ts k).1 := by rw [List.getElem?_map, tm_get h]; rfl
  rw [List.map_take, List.map_take]
  exact tot_take_succ h1
theorem totT_le (ts : List Term') (k : Nat) : totT (ts.take k) ≤ totT ts := by
  unfold totT
  rw [List.map_take]
  exact tot_take_le _ _
theorem exps_le_tot {ts : List Term'} {k : Nat} (h : k < ts.length) : (tmAt ts k).1.length ≤ totT ts := by
  have h1 : (ts.map (·.1))[k]? = some (tmAt ts k).1 := by rw [List.getElem?_map, tm_get h]; rfl
  exact len_le_tot h1

theorem Try.cellsLT : Try.prog.cellsOf 96 = 2 := by kernel_rfl
theorem Try.cellsLTS : Try.prog.cellsOf 22 = 1 := by kernel_rfl
theorem Try.cellsLPo : Try.prog.cellsOf 24 = 2 := by kernel_rfl

set_option maxRecDepth 100000 in
theorem open_terms {H : Type} {enc : TypeId × Value → H} {w : World} {fuel : Nat} {cs : List Value} {x : DataW H × List MemPlace} (h : DataW.trod enc Try.prog w 0 (fun _ => true) true fuel 22 cs = some x) :
    ∃ (A : Option Addr) (cap : Nat) (ts : List Term'), cs = [.slice A ts.length cap] ∧ ts.length ≤ 9223372036854775807 ∧ TmsAt w A ts := by
  rcases open_sl Try.underlying22 h with h0 | ⟨a, len, cap, n, rfl, rfl, hl, hm, hi⟩
  · exact ⟨none, 0, [], h0, by simp, TmsAt.nil _ _⟩
  · rw [Try.cellsLT] at hi
    by_cases h0 : len = 0
    · subst h0
      exact ⟨some a, cap, [], rfl, by simp, TmsAt.nil _ _⟩
    · have hspot : a.spot = none := by
        obtain ⟨cs', y, hc, _⟩ := hi 0 (by omega)
        obtain ⟨_, hcl, hat⟩ := World.cells?_some hc
        have g0 := hat 0 (by omega)
        rw [List.getElem?_eq_getElem (by omega)] at g0
        simpa [Addr.add] using World.cell?_spot g0
      obtain ⟨b, o, spot⟩ := a
      simp only at hspot
      subst hspot
      obtain ⟨ts, hzl, hz⟩ := list_of len (fun i (t : Term') => ∃ Ai cap, w.cell? ⟨b, o + i * 2, none⟩ = some (.slice Ai t.1.length cap) ∧ w.cell? ⟨b, o + i * 2 + 1, none⟩ = some (.int .i64 t.2) ∧ Ints w Ai t.1 ∧ t.1.length ≤ 9223372036854775807) (fun i him => by
        obtain ⟨cs', y, hc, ht⟩ := hi i him
        obtain ⟨ys, n', hn', _, _, hlen, hf⟩ := DataW.trod_struct Try.underlying96 ht
        obtain ⟨_, hcl, hat⟩ := World.cells?_some hc
        match cs', hcl, ys, hlen with
        | [c0, c1], _, [y0, y1], _ =>
          have h0 : DataW.trod enc Try.prog w 0 (fun _ => true) true n' 64 (([c0, c1].drop 0).take (Try.prog.cellsOf 64)) = some y0 := hf 0 _ rfl
          have h1 : DataW.trod enc Try.prog w 0 (fun _ => true) true n' 2 (([c0, c1].drop 1).take (Try.prog.cellsOf 2)) = some y1 := hf 1 _ rfl
          rw [Try.cellsIS] at h0
          rw [Try.cellsI64] at h1
          obtain ⟨A', cap', zs, e0, hzm, hI⟩ := open_list h0
          obtain ⟨n1, e1, _⟩ := DataW.trod_int Try.underlying2 (x := y1) h1
          simp at e0 e1
          subst e0 e1
          have a0 := hat 0 (by omega)
          have a1 := hat 1 (by omega)
          rw [addr_add, addr_add, Nat.add_zero] at a0
          rw [addr_add, addr_add] at a1
          exact ⟨(zs, n1), A', cap', a0, a1, hI, hzm⟩)
      subst hzl
      refine ⟨_, cap, ts, rfl, by unfold maxLen at hm; omega, fun hn => ⟨b, o, rfl, ?_, hz⟩⟩
      obtain ⟨Ai, ca, h1, _⟩ := hz 0 _ (List.getElem?_eq_getElem hn)
      exact World.block_lt_of_cell? _ _ h1
set_option maxRecDepth 100000 in
theorem open_poly {H : Type} {enc : TypeId × Value → H} {w : World} {fuel : Nat} {cs : List Value} {x : DataW H × List MemPlace} (h : DataW.trod enc Try.prog w 0 (fun _ => true) true fuel 24 cs = some x) :
    ∃ (v : Int) (A : Option Addr) (cap : Nat) (ts : List Term'), cs = [.int .i64 v, .slice A ts.length cap] ∧ ts.length ≤ 9223372036854775807 ∧ TmsAt w A ts := by
  obtain ⟨ys, n', _, _, hcl, hlen, hf⟩ := DataW.trod_struct Try.underlying24 h
  rw [Try.cellsLPo] at hcl
  match cs, hcl, ys, hlen with
  | [c0, c1], _, [y0, y1], _ =>
  have h0 : DataW.trod enc Try.prog w 0 (fun _ => true) true n' 2 (([c0, c1].drop 0).take (Try.prog.cellsOf 2)) = some y0 := hf 0 _ rfl
  have h1 : DataW.trod enc Try.prog w 0 (fun _ => true) true n' 22 (([c0, c1].drop 1).take (Try.prog.cellsOf 22)) = some y1 := hf 1 _ rfl
  rw [Try.cellsI64] at h0
  rw [Try.cellsLTS] at h1
  obtain ⟨n0, e0, _⟩ := DataW.trod_int Try.underlying2 (x := y0) h0
  obtain ⟨A, cap, ts, e1, hts, hT⟩ := open_terms h1
  simp at e0 e1
  subst e0 e1
  exact ⟨n0, A, cap, ts, rfl, hts, hT⟩

end Go.Proofs.Ytfnhdfgkkjnhcaa

/- Walks of the laws' helpers on polynomials: szPoly, eqPoly, toPoly. -/
namespace Go.Proofs.Ytfnhdfgkkjnhcaa
open Go.RowKit Plain

abbrev tmV (A : Option Addr) (n cap : Nat) (c : Int) : Value := .agg #[.slice A n cap, .int .i64 c]

set_option maxHeartbeats 400000 in
theorem szTerm_any (A : Option Addr) (n cap : Nat) (c l : Int) (w : World) (hn : n ≤ 9223372036854775807) (l0 : 0 ≤ l) (l1 : l ≤ 1048576) :
    Calls Try.prog 67 #[tmV A n cap c, .int .i64 l] w fun e w' => e = .returned (.int .i64 (szV n l)) ∧ Below w.heap.size w w' := by
  have hg : Below w.heap.size w (w.alloc (.cells #[.slice A n cap, .int .i64 c] 96)) := by go_grown
  by_cases h : (n : Int) ≤ l
  · have HN : Hid (szV n l = l - n) := szV_yes h
    obtain ⟨z, hz⟩ : ∃ z, z = l - (n : Int) := ⟨_, rfl⟩
    rw [HN.out, ← hz]
    have hz0 : 0 ≤ z := by omega
    have HS : Hid (Calls Try.prog 104 #[.slice A n cap, .int .i64 l] (w.alloc (.cells #[.slice A n cap, .int .i64 c] 96)) fun e w' => e = .returned (.int .i64 z) ∧ (w.alloc (.cells #[.slice A n cap, .int .i64 c] 96)) = w') := by
      have h2 := szInts_any A n cap l (w.alloc (.cells #[.slice A n cap, .int .i64 c] 96)) hn l0 l1
      rw [HN.out, ← hz] at h2
      exact h2
    have HG := Lib.hid hg
    clear hz hg h
    go_enter Try.func67, Try.ntmps67
    go_wp2_with fail
    refine HS.out.mono ?_; rintro e w' ⟨rfl, rfl⟩
    go_wp2
    go_ret
    exact ⟨rfl, HG.out⟩
  · have HN : Hid (szV n l = -1) := szV_no h
    rw [HN.out]
    have HS : Hid (Calls Try.prog 104 #[.slice A n cap, .int .i64 l] (w.alloc (.cells #[.slice A n cap, .int .i64 c] 96)) fun e w' => e = .returned (.int .i64 (-1)) ∧ (w.alloc (.cells #[.slice A n cap, .int .i64 c] 96)) = w') := by
      have h2 := szInts_any A n cap l (w.alloc (.cells #[.slice A n cap, .int .i64 c] 96)) hn l0 l1
      rw [HN.out] at h2
      exact h2
    have HG := Lib.hid hg
    clear hg h
    go_enter Try.func67, Try.ntmps67
    go_wp2_with fail
    refine HS.out.mono ?_; rintro e w' ⟨rfl, rfl⟩
    go_wp2
    go_ret
    exact ⟨rfl, HG.out⟩

set_option maxHeartbeats 1000000 in
theorem szTermS_any (A : Option Addr) (cap : Nat) (ts : List Term') (l : Int) (w : World) (hA : TmsAt w A ts) (hl : ts.length ≤ 9223372036854775807) (l0 : 0 ≤ l) (l1 : l ≤ 1048576) :
    Calls Try.prog 29 #[.slice A ts.length cap, .int .i64 l] w fun e w' => e = .returned (.int .i64 (szV (tmSize ts) l)) ∧ Below w.heap.size w w' := by
  have hsi : Hid (tmSize ts = ts.length + totT ts) := rfl
  have HA := Lib.hid hA; clear hA
  go_enter Try.func29, Try.ntmps29
  by_cases h0 : l - (ts.length : Int) < 0
  · go_wp2
    go_ret
    exact ⟨ret_int (by have := hsi.out; rw [szV_no (by omega)]), Below.refl _ _⟩
  · go_wp2
    go_loopw [1, 5] (fun ll i wr => ∃ (j : Nat) (y : Int), j ≤ ts.length ∧ i = .int .i64 (j : Int) ∧ ll = .int .i64 y ∧ 0 ≤ y ∧ y ≤ l ∧ Hid (y + totT (ts.take j) = l - ts.length) ∧ Hid (Below w.heap.size w wr)) (fun _ i _ => ts.length - (intOf i).toNat)
    case atStart => exact ⟨0, l - ts.length, by omega, by go_num, rfl, by omega, by omega, by show _ = _; simp [totT, tot], Below.refl _ _⟩
    case round =>
      obtain ⟨j, y, hj, rfl, rfl, y0, y1, hy, HB⟩ := hrel
      by_cases hlt : j < ts.length
      · obtain ⟨b, o, Ai, ca, rfl, hb, hc, hc2, _, hm⟩ := (HA.out.below HB.out).at_ hlt
        have HT : Hid (totT (ts.take (j + 1)) = totT (ts.take j) + (tmAt ts j).1.length ∧ totT (ts.take (j + 1)) ≤ totT ts) := ⟨totT_succ hlt, totT_le _ _⟩
        have hjl : (j : Int) < (ts.length : Int) := by omega
        generalize (tmAt ts j).1.length = n at *
        generalize (tmAt ts j).2 = c at *
        by_cases hs : (n : Int) ≤ y
        · have HV : Hid (szV n y = y - n) := szV_yes hs
          go_wp2_with fail
          refine (szTerm_any Ai n ca c y _ hm y0 (by omega)).mono ?_; rintro e w1 ⟨rfl, hb1⟩
          rw [HV.out]
          have HB1 := Lib.hid (bnext HB.out hb1)
          obtain ⟨z, hz⟩ : ∃ z, z = y - (n : Int) := ⟨_, rfl⟩
          rw [← hz]
          have z0 : 0 ≤ z := by omega
          have z1 : z ≤ l := by omega
          have HZ : Hid (z + totT (ts.take (j + 1)) = l - ts.length) := by
            show _ = _
            have := hy.out
            have := HT.out.1
            omega
          clear hz hs hy HV HT hb1
          go_wp2
          go_roundw
          case rel => exact ⟨j + 1, z, by omega, by go_num, rfl, z0, z1, HZ, HB1⟩
          case measure => simp [intOf]; omega
        · have HV : Hid (szV n y = -1) := szV_no hs
          have HN : Hid (l < (tmSize ts : Int)) := by
            show _ < _
            have := hy.out
            have := HT.out
            have := hsi.out
            omega
          go_wp2_with fail
          refine (szTerm_any Ai n ca c y _ hm y0 (by omega)).mono ?_; rintro e w1 ⟨rfl, hb1⟩
          rw [HV.out]
          have HB1 := Lib.hid (bnext HB.out hb1)
          clear hs hy HV HT hb1
          go_wp2
          go_ret
          exact ⟨ret_int (szV_no (by have := HN.out; omega)).symm, HB1.out⟩
      · obtain rfl : j = ts.length := by omega
        have HN : Hid (y = szV (tmSize ts) l) := by
          have h1 := hy.out
          rw [List.take_length] at h1
          show _ = _
          have := hsi.out
          rw [szV_yes (by omega)]
          omega
        clear hy
        go_wp2
        go_ret
        exact ⟨ret_int HN.out, HB.out⟩

set_option maxHeartbeats 400000 in
theorem szPoly_any (v : Int) (A : Option Addr) (cap : Nat) (ts : List Term') (l : Int) (w : World) (hA : TmsAt w A ts) (hl : ts.length ≤ 9223372036854775807) (l0 : 0 ≤ l) (l1 : l ≤ 1048576) :
    Calls Try.prog 8 #[poV v A ts.length cap, .int .i64 l] w fun e w' => e = .returned (.int .i64 (szV (tmSize ts) l)) ∧ Below w.heap.size w w' := by
  have hg : Below w.heap.size w (w.alloc (.cells #[.int .i64 v, .slice A ts.length cap] 24)) := by go_grown
  have HS := Lib.hid (szTermS_any A cap ts l _ (hA.below hg) hl l0 l1)
  have HG := Lib.hid hg
  have hz : szV (tmSize ts) l = -1 ∨ 0 ≤ szV (tmSize ts) l := by
    by_cases h : (tmSize ts : Int) ≤ l
    · rw [szV_yes h]; omega
    · rw [szV_no h]; omega
  generalize szV (tmSize ts) l = z at *
  clear hA hg
  rcases hz with rfl | hz0
  all_goals
    go_enter Try.func8, Try.ntmps8
    go_wp2_with fail
    refine HS.out.mono ?_; rintro e w1 ⟨rfl, hb1⟩
    go_wp2
    go_ret
    exact ⟨rfl, HG.out.trans (hb1.mono HG.out.size)⟩

theorem allocs2' (w : World) (t1 t2 : TypeId) (C1 C2 : List Value) : ((w.alloc (.cells C1.toArray t1)).alloc (.cells C2.toArray t2)).heap.size = w.heap.size + 2 ∧ Cells ((w.alloc (.cells C1.toArray t1)).alloc (.cells C2.toArray t2)) w.heap.size t1 C1 ∧ Cells ((w.alloc (.cells C1.toArray t1)).alloc (.cells C2.toArray t2)) (w.heap.size + 1) t2 C2 ∧ Below w.heap.size w ((w.alloc (.cells C1.toArray t1)).alloc (.cells C2.toArray t2)) := by
  refine ⟨by simp, ?_, ?_, by go_grown⟩
  · exact (Cells.new w t1 C1).next (by go_grown)
  · have := Cells.new (w.alloc (.cells C1.toArray t1)) t2 C2
    rwa [show (w.alloc (.cells C1.toArray t1)).heap.size = w.heap.size + 1 by simp] at this

set_option maxHeartbeats 1000000 in
theorem eqTerm_any (A A' : Option Addr) (cap cap' : Nat) (t : Term') (w : World) (h : Ints w A t.1) (h' : Ints w A' t.1) (hn : t.1.length ≤ 4611686018427387904) :
    Calls Try.prog 81 #[tmV A t.1.length cap t.2, tmV A' t.1.length cap' t.2] w fun e w' => e = .returned (.bool true) ∧ Below w.heap.size w w' := by
  obtain ⟨W, hW⟩ : ∃ W, W = (w.alloc (.cells #[.slice A t.1.length cap, .int .i64 t.2] 66)).alloc (.cells #[.slice A' t.1.length cap', .int .i64 t.2] 66) := ⟨_, rfl⟩
  obtain ⟨hs, hC1, hC2, hb⟩ := allocs2' w 66 66 [.slice A t.1.length cap, .int .i64 t.2] [.slice A' t.1.length cap', .int .i64 t.2]
  rw [← hW] at hs hC1 hC2 hb
  have HE := Lib.hid (eqR cap cap' (h.below hb) (h'.below hb) hn)
  have HB := Lib.hid hb
  have HC := Lib.hid (And.intro hC1 hC2)
  have HW := Lib.hid hW
  have q0 : W.cell? ⟨w.heap.size, 0, none⟩ = some (.slice A t.1.length cap) := by rw [hC1.cell]; rfl
  have q1 : W.cell? ⟨w.heap.size + 1, 0, none⟩ = some (.slice A' t.1.length cap') := by rw [hC2.cell]; rfl
  clear h h' hb hC1 hC2 hW hs
  generalize t.1.length = n at *
  generalize t.2 = c at *
  go_enter Try.func81, Try.ntmps81
  go_wp2_with fail
  rw [← HW.out]
  refine HE.out.mono ?_; rintro e w1 ⟨rfl, hb1⟩
  have hC1 := HC.out.1.next hb1
  have hC2 := HC.out.2.next hb1
  have r0 : w1.cell? ⟨w.heap.size, 1, none⟩ = some (.int .i64 c) := by rw [hC1.cell]; rfl
  have r1 : w1.cell? ⟨w.heap.size + 1, 1, none⟩ = some (.int .i64 c) := by rw [hC2.cell]; rfl
  have HB2 := Lib.hid (bnext HB.out hb1)
  clear hC1 hC2 hb1 q0 q1
  go_wp2
  go_ret
  exact ⟨rfl, HB2.out⟩

set_option maxHeartbeats 1000000 in
theorem eqTermS_any (A A' : Option Addr) (cap cap' : Nat) (ts : List Term') (w : World) (hA : TmsAt w A ts) (hA' : TmsAt w A' ts) (hl : ts.length ≤ 4611686018427387904) (ht : totT ts ≤ 4611686018427387904) :
    Calls Try.prog 38 #[.slice A ts.length cap, .slice A' ts.length cap'] w fun e w' => e = .returned (.bool true) ∧ Below w.heap.size w w' := by
  have HA := Lib.hid hA; clear hA
  have HA' := Lib.hid hA'; clear hA'
  go_enter Try.func38, Try.ntmps38
  go_wp2
  go_loopw [5] (fun i wr => ∃ (j : Nat), j ≤ ts.length ∧ i = .int .i64 (j : Int) ∧ Hid (Below w.heap.size w wr)) (fun i _ => ts.length - (intOf i).toNat)
  case atStart => exact ⟨0, by omega, by go_num, Below.refl _ _⟩
  case round =>
    obtain ⟨j, hj, rfl, HB⟩ := hrel
    by_cases hlt : j < ts.length
    · obtain ⟨b, o, Ai, ca, rfl, hb, hc, hc2, hi, hm⟩ := (HA.out.below HB.out).at_ hlt
      obtain ⟨b', o', Ai', ca', rfl, hb', hc', hc2', hi', _⟩ := (HA'.out.below HB.out).at_ hlt
      have hzl : (tmAt ts j).1.length ≤ 4611686018427387904 := Nat.le_trans (exps_le_tot hlt) ht
      have hjl : (j : Int) < (ts.length : Int) := by omega
      have HQ : Hid (∀ wx, Below wr.heap.size wr wx → Calls Try.prog 81 #[tmV Ai (tmAt ts j).1.length ca (tmAt ts j).2, tmV Ai' (tmAt ts j).1.length ca' (tmAt ts j).2] wx fun e w' => e = .returned (.bool true) ∧ Below wx.heap.size wx w') := fun wx hx =>
        eqTerm_any Ai Ai' ca ca' (tmAt ts j) wx (hi.below hx) (hi'.below hx) hzl
      generalize (tmAt ts j).1.length = n at *
      generalize (tmAt ts j).2 = c at *
      clear hi hi' hm hzl
      go_wp2
      go_region_with (go_at_call 81; refine (HQ.out _ (by first | exact (Below.refl _ _).drew | exact below_drewN' (Below.refl _ _) _)).mono ?_; rintro e w1 ⟨rfl, hb1⟩)
      all_goals
        have HB1 := Lib.hid (bnext HB.out (bdrew hb1))
        clear hb1 HB HQ hc hc' hc2 hc2'
        go_wp2
        go_roundw
        case rel => exact ⟨j + 1, by omega, by go_num, HB1.out⟩
        case measure => simp [intOf]; omega
    · obtain rfl : j = ts.length := by omega
      go_wp2
      go_ret
      exact ⟨rfl, HB.out⟩

set_option maxHeartbeats 1000000 in
theorem eqPoly_any (v : Int) (A A' : Option Addr) (cap cap' : Nat) (ts : List Term') (w : World) (hA : TmsAt w A ts) (hA' : TmsAt w A' ts) (hl : ts.length ≤ 4611686018427387904) (ht : totT ts ≤ 4611686018427387904) :
    Calls Try.prog 12 #[poV v A ts.length cap, poV v A' ts.length cap'] w fun e w' => e = .returned (.bool true) ∧ Below w.heap.size w w' := by
  obtain ⟨W, hW⟩ : ∃ W, W = (w.alloc (.cells #[.int .i64 v, .slice A ts.length cap] 28)).alloc (.cells #[.int .i64 v, .slice A' ts.length cap'] 28) := ⟨_, rfl⟩
  obtain ⟨hs, hC1, hC2, hb⟩ := allocs2' w 28 28 [.int .i64 v, .slice A ts.length cap] [.int .i64 v, .slice A' ts.length cap']
  rw [← hW] at hs hC1 hC2 hb
  have HE := Lib.hid (eqTermS_any A A' cap cap' ts W (hA.below hb) (hA'.below hb) hl ht)
  have HB := Lib.hid hb
  have HW := Lib.hid hW
  clear hA hA' hb hC1 hC2 hW hs
  go_enter Try.func12, Try.ntmps12
  go_wp2_with fail
  rw [← HW.out]
  refine HE.out.mono ?_; rintro e w1 ⟨rfl, hb1⟩
  go_wp2
  go_ret
  exact ⟨rfl, bnext HB.out hb1⟩

/-- a term's copy: the exponents in a block of their own -/
def NewTm (w : World) (b : Nat) (t : Term') (w' : World) : Prop := w.heap.size ≤ b ∧ b < w'.heap.size ∧ Cells w' b 2 (t.1.map (Value.int .i64))

set_option maxHeartbeats 1000000 in
theorem toTerm_any (A : Option Addr) (cap : Nat) (t : Term') (w : World) (h : Ints w A t.1) (hn : t.1.length ≤ 1048576) :
    Calls Try.prog 73 #[tmV A t.1.length cap t.2] w fun e w' => ∃ b, e = .returned (tmV (some ⟨b, 0, none⟩) t.1.length t.1.length t.2) ∧ NewTm w b t w' ∧ Below w.heap.size w w' := by
  obtain ⟨hsz, hC1, hC2, hb0⟩ := allocs3 w (.cells #[.slice A t.1.length cap, .int .i64 t.2] 96) 66 66 [.slice none 0 0, .int .i64 0] [.slice none 0 0, .int .i64 0]
  obtain ⟨e, zs, he, hzs⟩ : ∃ c zs, c = t.2 ∧ zs = t.1 := ⟨_, _, rfl, rfl⟩
  rw [← hzs] at h hn hsz hC1 hC2 hb0 ⊢
  rw [← he] at hsz hC1 hC2 hb0 ⊢
  have HZS := Lib.hid hzs
  clear he hzs
  go_enter Try.func73, Try.ntmps73
  go_wp2_with fail
  have hC0 : Cells (((w.alloc (.cells #[.slice A zs.length cap, .int .i64 e] 96)).alloc (.cells #[.slice none 0 0, .int .i64 0] 66)).alloc (.cells #[.slice none 0 0, .int .i64 0] 66)) w.heap.size 96 [.slice A zs.length cap, .int .i64 e] :=
    (Cells.new w 96 [.slice A zs.length cap, .int .i64 e]).next (by go_grown)
  generalize (((w.alloc (.cells #[.slice A zs.length cap, .int .i64 e] 96)).alloc (.cells #[.slice none 0 0, .int .i64 0] 66)).alloc (.cells #[.slice none 0 0, .int .i64 0] 66)) = W3 at hsz hb0 hC0 hC1 hC2 ⊢
  refine (toInts A cap zs W3 (h.below hb0) hn).mono ?_; rintro e' w1 ⟨rfl, hw1⟩
  have hg1 : Below W3.heap.size W3 w1 := by rw [← hw1]; go_grown
  have hN : Cells w1 W3.heap.size 2 (zs.map (Value.int .i64)) := by rw [← hw1]; exact Cells.new W3 _ _
  have hsz1 : w1.heap.size = w.heap.size + 4 := by rw [← hw1]; simp [hsz]
  rw [hsz] at hN ⊢
  have hE0 := hC0.next hg1
  have hE1 := hC1.next hg1
  have hE2 := hC2.next hg1
  have k1 : w1.cell? ⟨w.heap.size, 1, none⟩ = some (.int .i64 e) := by rw [hE0.cell]; rfl
  have k2 : w1.cell? ⟨w.heap.size + 1 + 1, 0, none⟩ = some (.slice none 0 0) := by rw [hE2.cell]; rfl
  have k3 : w1.cell? ⟨w.heap.size + 1 + 1, 1, none⟩ = some (.int .i64 0) := by rw [hE2.cell]; rfl
  have f2 : w1.frozen? ⟨w.heap.size + 1 + 1, 0, none⟩ = false := hE2.frozen _
  have f3 : w1.frozen? ⟨w.heap.size + 1 + 1, 1, none⟩ = false := hE2.frozen _
  have j0 : w1.cell? ⟨w.heap.size + 1, 0, none⟩ = some (.slice none 0 0) := by rw [hE1.cell]; rfl
  have j1 : w1.cell? ⟨w.heap.size + 1, 1, none⟩ = some (.int .i64 0) := by rw [hE1.cell]; rfl
  have g0 : w1.frozen? ⟨w.heap.size + 1, 0, none⟩ = false := hE1.frozen _
  have g1 : w1.frozen? ⟨w.heap.size + 1, 1, none⟩ = false := hE1.frozen _
  have z1 : w.heap.size + 4 ≤ w1.heap.size := by omega
  have HB0 := Lib.hid (hb0.trans (hg1.mono hb0.size))
  have HN := Lib.hid hN
  have hD0 := (hE1.far (p := ⟨w.heap.size + 1 + 1, 0, none⟩) (by simp) (.slice (some ⟨w.heap.size + 3, 0, none⟩) zs.length zs.length)).far (p := ⟨w.heap.size + 1 + 1, 1, none⟩) (by simp) (.int .i64 e)
  have hD1 := hD0.set_ 0 (.slice (some ⟨w.heap.size + 3, 0, none⟩) zs.length zs.length)
  have hD2 := hD1.set_ 1 (.int .i64 e)
  have x0 := hD1.cell 0
  have x1 := hD2.cell 1
  simp only [List.set_cons_zero, List.set_cons_succ, List.getElem?_cons_zero, List.getElem?_cons_succ] at x0 x1
  clear hg1 hN hE0 hE1 hE2 hC0 hC1 hC2 hb0 hD0 hD1 hD2 hw1 h
  go_wp2
  refine bodyPost_ret (v := tmV (some ⟨w.heap.size + 3, 0, none⟩) zs.length zs.length e) (by simp [results, Try.results73, go_sem, x0, x1]) rfl ?_
  refine ⟨w.heap.size + 3, rfl, ⟨by omega, by simp [World.setCell]; omega, ?_⟩, ?_⟩
  · rw [← HZS.out]
    exact (((HN.out.far (by simp) _).far (by simp) _).far (by simp) _).far (by simp) _
  · exact (((HB0.out.setCell (p := ⟨w.heap.size + 1 + 1, 0, none⟩) (by simp; omega) _).setCell (p := ⟨w.heap.size + 1 + 1, 1, none⟩) (by simp; omega) _).setCell (p := ⟨w.heap.size + 1, 0, none⟩) (by simp) _).setCell (p := ⟨w.heap.size + 1, 1, none⟩) (by simp) _

/-- so many terms have been copied -/
structure TmFill (w : World) (g0 : Nat) (ts : List Term') (k : Nat) (C : List Value) (gs : List Nat) : Prop where
  box : Cells w g0 66 C
  len : C.length = ts.length * 2
  gl : gs.length = k
  up : gs.Pairwise (· < ·)
  blk : ∀ b ∈ gs, g0 < b ∧ b < w.heap.size
  row : ∀ (i : Nat) (t : Term') (b : Nat), ts[i]? = some t → gs[i]? = some b → C[i * 2]? = some (Value.slice (some ⟨b, 0, none⟩) t.1.length t.1.length) ∧ C[i * 2 + 1]? = some (.int .i64 t.2) ∧ Cells w b 2 (t.1.map (Value.int .i64))
theorem TmFill.next {w w1 : World} {g0 k b : Nat} {ts : List Term'} {C : List Value} {gs : List Nat} (h : TmFill w g0 ts k C gs) (hk : k < ts.length) (hg : Below w.heap.size w w1) (hb : NewTm w b (tmAt ts k) w1) :
    TmFill ((w1.setCell ⟨g0, k * 2, none⟩ (.slice (some ⟨b, 0, none⟩) (tmAt ts k).1.length (tmAt ts k).1.length)).setCell ⟨g0, k * 2 + 1, none⟩ (.int .i64 (tmAt ts k).2)) g0 ts (k + 1) ((C.set (k * 2) (.slice (some ⟨b, 0, none⟩) (tmAt ts k).1.length (tmAt ts k).1.length)).set (k * 2 + 1) (.int .i64 (tmAt ts k).2)) (gs ++ [b]) := by
  have h0 := h.box.lt
  obtain ⟨b1, b2, hc⟩ := hb
  have hs : ((w1.setCell ⟨g0, k * 2, none⟩ (.slice (some ⟨b, 0, none⟩) (tmAt ts k).1.length (tmAt ts k).1.length)).setCell ⟨g0, k * 2 + 1, none⟩ (.int .i64 (tmAt ts k).2)).heap.size = w1.heap.size := by simp [World.setCell]
  refine ⟨((h.box.next hg).set_ _ _).set_ _ _, by simp [h.len], by simp [h.gl], ?_, ?_, ?_⟩
  · rw [List.pairwise_append]
    exact ⟨h.up, List.pairwise_singleton _ _, fun a ha c hc => by simp at hc; subst hc; have := (h.blk a ha).2; omega⟩
  · intro c hc
    rw [hs]
    rcases List.mem_append.1 hc with h1 | h1
    · have := h.blk c h1; have := hg.size; omega
    · simp at h1; subst h1; omega
  · intro i t c hi hci
    have hlt := (List.getElem?_eq_some_iff.1 hci).1
    simp [h.gl] at hlt
    have hl := h.len
    by_cases e : i = k
    · subst e
      rw [tm_get hk] at hi
      obtain rfl : tmAt ts i = t := by simpa using hi
      rw [List.getElem?_append_right (by rw [h.gl]; omega), h.gl] at hci
      simp at hci
      subst hci
      exact ⟨by rw [List.getElem?_set_ne (by omega), List.getElem?_set_self (by omega)], by rw [List.getElem?_set_self (by simp; omega)], (hc.far (by simp; omega) _).far (by simp; omega) _⟩
    · rw [List.getElem?_append_left (by rw [h.gl]; omega)] at hci
      obtain ⟨r1, r2, r3⟩ := h.row i t c hi hci
      have := h.blk c (List.mem_of_getElem? hci)
      exact ⟨by rw [List.getElem?_set_ne (by omega), List.getElem?_set_ne (by omega)]; exact r1, by rw [List.getElem?_set_ne (by omega), List.getElem?_set_ne (by omega)]; exact r2, ((r3.next hg).far (by simp; omega) _).far (by simp; omega) _⟩
theorem TmFill.get {w : World} {g0 : Nat} {ts : List Term'} {C : List Value} {gs : List Nat} (h : TmFill w g0 ts ts.length C gs) {i : Nat} {t : Term'} (ht : ts[i]? = some t) :
    ∃ b, gs[i]? = some b ∧ g0 < b ∧ b < w.heap.size ∧ w.cell? ⟨g0, i * 2, none⟩ = some (.slice (some ⟨b, 0, none⟩) t.1.length t.1.length) ∧ w.cell? ⟨g0, i * 2 + 1, none⟩ = some (.int .i64 t.2) ∧ Cells w b 2 (t.1.map (Value.int .i64)) := by
  have hi : i < gs.length := by rw [h.gl]; exact (List.getElem?_eq_some_iff.1 ht).1
  obtain ⟨r1, r2, r3⟩ := h.row i t gs[i] ht (List.getElem?_eq_getElem hi)
  have hb := h.blk gs[i] (List.getElem_mem hi)
  exact ⟨gs[i], List.getElem?_eq_getElem hi, hb.1, hb.2, by rw [h.box.cell]; exact r1, by rw [h.box.cell]; exact r2, r3⟩

/-- terms in the blocks lo .. hi - 1, no two lists in one block, that may be written -/
def TmsR (lo hi : Nat) (A : Option Addr) (ts : List Term') (w : World) : Prop :=
  0 < ts.length → ∃ (b o : Nat) (g : Nat → Nat), A = some ⟨b, o, none⟩ ∧ lo ≤ b ∧ b < hi ∧
    (∀ i t, ts[i]? = some t → ∃ Ai cap, w.cell? ⟨b, o + i * 2, none⟩ = some (.slice Ai t.1.length cap) ∧ w.cell? ⟨b, o + i * 2 + 1, none⟩ = some (.int .i64 t.2) ∧ w.frozen? ⟨b, o + i * 2 + 1, none⟩ = false ∧
      (0 < t.1.length → ∃ oi, Ai = some ⟨g i, oi, none⟩ ∧ lo ≤ g i ∧ g i < hi ∧ g i ≠ b ∧ ∀ j x, t.1[j]? = some x → w.cell? ⟨g i, oi + j, none⟩ = some (.int .i64 x) ∧ w.frozen? ⟨g i, oi + j, none⟩ = false)) ∧
    ∀ i j ti tj, i < j → ts[i]? = some ti → ts[j]? = some tj → 0 < ti.1.length → 0 < tj.1.length → g i ≠ g j
theorem TmsR.keep {lo hi : Nat} {A : Option Addr} {ts : List Term'} {w1 w2 : World} (h : TmsR lo hi A ts w1) (hb : ∀ q, lo ≤ q → q < hi → w2.heap[q]? = w1.heap[q]?) : TmsR lo hi A ts w2 := fun hn => by
  obtain ⟨b, o, g, e, h1, h2, hc, hd⟩ := h hn
  refine ⟨b, o, g, e, h1, h2, fun i t ht => ?_, hd⟩
  obtain ⟨Ai, cap, c1, c2, c3, c4⟩ := hc i t ht
  refine ⟨Ai, cap, (World.cell?_of_block (a := ⟨b, _, none⟩) (hb b h1 h2)).trans c1, (World.cell?_of_block (a := ⟨b, _, none⟩) (hb b h1 h2)).trans c2, (World.frozen?_of_block (a := ⟨b, _, none⟩) (hb b h1 h2)).trans c3, fun h0 => ?_⟩
  obtain ⟨oi, e1, e2, e3, e4, e5⟩ := c4 h0
  exact ⟨oi, e1, e2, e3, e4, fun j x hx => ⟨(World.cell?_of_block (a := ⟨g i, _, none⟩) (hb _ e2 e3)).trans (e5 j x hx).1, (World.frozen?_of_block (a := ⟨g i, _, none⟩) (hb _ e2 e3)).trans (e5 j x hx).2⟩⟩
theorem TmsR.nil (lo hi : Nat) (A : Option Addr) (w : World) : TmsR lo hi A [] w := fun h => absurd h (by simp)
abbrev RT (w : World) (lo hi : Nat) (A : Option Addr) (ts : List Term') : Prop := Reg w lo hi (TmsR lo hi A ts)
theorem regTms {w : World} {lo hi : Nat} {A : Option Addr} {ts : List Term'} (h : RT w lo hi A ts) (hm : totT ts ≤ 9223372036854775807) : TmsAt w A ts := fun hn => by
  obtain ⟨b, o, g, e, h1, h2, hc, _⟩ := h.now hn
  refine ⟨b, o, e, Nat.lt_of_lt_of_le h2 h.size, fun i t ht => ?_⟩
  obtain ⟨Ai, cap, c1, c2, _, c4⟩ := hc i t ht
  have hi : i < ts.length := (List.getElem?_eq_some_iff.1 ht).1
  have hti : tmAt ts i = t := by have := tm_get hi; rw [ht] at this; simpa using this.symm
  refine ⟨Ai, cap, c1, c2, fun h0 => ?_, by have := exps_le_tot hi; rw [hti] at this; omega⟩
  obtain ⟨oi, e1, e2, e3, e4, e5⟩ := c4 h0
  exact ⟨g i, oi, e1, Nat.lt_of_lt_of_le e3 h.size, fun j x hx => (e5 j x hx).1⟩
theorem TmFill.tms {w : World} {g0 : Nat} {ts : List Term'} {C : List Value} {gs : List Nat} (h : TmFill w g0 ts ts.length C gs) : RT w g0 w.heap.size (some ⟨g0, 0, none⟩) ts := by
  have h0 := h.box.lt
  refine ⟨by omega, Nat.le_refl _, fun _ => ⟨g0, 0, fun i => gs.getD i 0, rfl, Nat.le_refl _, h0, fun i t ht => ?_, fun i j ti tj hij hi hj _ _ => ?_⟩, fun _ _ h hb => h.keep hb⟩
  · obtain ⟨b, hb, b1, b2, c1, c2, c3⟩ := h.get ht
    have e : gs.getD i 0 = b := by simp [List.getD, hb]
    refine ⟨some ⟨b, 0, none⟩, _, by rw [Nat.zero_add]; exact c1, by rw [Nat.zero_add]; exact c2, h.box.frozen _, fun _ => ⟨0, by show some (Addr.mk b 0 none) = some ⟨gs.getD i 0, 0, none⟩; rw [e], by show g0 ≤ gs.getD i 0; rw [e]; omega, by show gs.getD i 0 < _; rw [e]; exact b2, by show gs.getD i 0 ≠ g0; rw [e]; omega, fun j x hx => ?_⟩⟩
    show w.cell? ⟨gs.getD i 0, 0 + j, none⟩ = _ ∧ w.frozen? ⟨gs.getD i 0, 0 + j, none⟩ = _
    rw [e, Nat.zero_add]
    exact ⟨by rw [c3.cell]; simp [hx], c3.frozen _⟩
  · have hjl : j < gs.length := by rw [h.gl]; exact (List.getElem?_eq_some_iff.1 hj).1
    show gs.getD i 0 ≠ gs.getD j 0
    have hil : i < gs.length := by omega
    have := List.pairwise_iff_getElem.1 h.up i j hil hjl hij
    simp only [List.getD, List.getElem?_eq_getElem hil, List.getElem?_eq_getElem hjl, Option.getD_some]
    omega

theorem Try.infoT : (Try.prog.info? 66).map (fun i => (i.zero, i.size, i.bytes)) = some (some (tmV none 0 0 0), 2, 32) := by kernel_rfl

set_option maxHeartbeats 1000000 in
theorem toTermS_any (A : Option Addr) (cap : Nat) (ts : List Term') (w : World) (hA : TmsAt w A ts) (hl : ts.length ≤ 1048576) (ht : totT ts ≤ 1048576) :
    Calls Try.prog 33 #[.slice A ts.length cap] w fun e w' => ∃ C gs, e = .returned (.slice (some ⟨w.heap.size, 0, none⟩) ts.length ts.length) ∧ TmFill w' w.heap.size ts ts.length C gs ∧ Below w.heap.size w w' := by
  have hmk := run_make_many (P := Try.prog) 26 66 (tmV none 0 0 0) 2 32 Try.underlying26 Try.infoT .i64 .i64 ts.length (by omega) (by omega)
  obtain ⟨C0, hC0⟩ : ∃ C0 : List Value, madeCells (tmV none 0 0 0).cells (ts.length * 2) = C0.toArray ∧ C0.length = ts.length * 2 := ⟨(madeCells (tmV none 0 0 0).cells (ts.length * 2)).toList, by simp, by simp [madeCells_size']⟩
  rw [hC0.1] at hmk
  have HA := Lib.hid hA; clear hA
  have HT := Lib.hid ht; clear ht
  go_enter Try.func33, Try.ntmps33
  go_wp2
  go_loopw [4] (fun i wr => ∃ (k : Nat) (C : List Value) (gs : List Nat), k ≤ ts.length ∧ i = .int .i64 (k : Int) ∧ Hid (TmFill wr w.heap.size ts k C gs) ∧ Hid (Below w.heap.size w wr)) (fun i _ => ts.length - (intOf i).toNat)
  case atStart =>
    refine ⟨0, C0, [], by omega, by go_num, ?_, ?_⟩
    · exact ⟨Cells.new w _ _, hC0.2, rfl, List.Pairwise.nil, fun b hb => by simp at hb, fun i t b _ hb => by simp at hb⟩
    · show Below _ _ _; go_grown
  case round =>
    obtain ⟨k, C, gs, hk, rfl, HF, HB⟩ := hrel
    by_cases hlt : k < ts.length
    · obtain ⟨b, o, Ai, ca, rfl, hb, hc, hc2, hi, hm⟩ := (HA.out.below HB.out).at_ hlt
      have hzl : (tmAt ts k).1.length ≤ 1048576 := Nat.le_trans (exps_le_tot hlt) HT.out
      have hjl : (k : Int) < (ts.length : Int) := by omega
      have HC := Lib.hid (toTerm_any Ai ca (tmAt ts k) wr hi hzl)
      have hw0 := HF.out.box.lt
      have HNX : Hid (∀ w1 b, Below wr.heap.size wr w1 → NewTm wr b (tmAt ts k) w1 → _) := fun w1 b hg hb => HF.out.next (b := b) hlt hg hb
      have HCL := Lib.hid HF.out.len
      clear hi hm hzl
      obtain ⟨e, hee⟩ : ∃ e, e = (tmAt ts k).2 := ⟨_, rfl⟩
      obtain ⟨n, hnn⟩ : ∃ n, n = (tmAt ts k).1.length := ⟨_, rfl⟩
      rw [← hee, ← hnn] at HC
      rw [← hee] at hc2
      rw [← hnn] at hc
      have HE := Lib.hid hee
      have HN := Lib.hid hnn
      clear hee hnn
      go_wp2_with fail
      refine HC.out.mono ?_; rintro e' w1 ⟨bn, rfl, hN, hg⟩
      have hbx := HF.out.box.next hg
      have u0 : ∃ u, w1.cell? ⟨w.heap.size, k * 2, none⟩ = some u := ⟨C[k * 2]'(by rw [HCL.out]; omega), by rw [hbx.cell]; simp⟩
      have u1 : ∃ u, w1.cell? ⟨w.heap.size, k * 2 + 1, none⟩ = some u := ⟨C[k * 2 + 1]'(by rw [HCL.out]; omega), by rw [hbx.cell]; simp⟩
      obtain ⟨x0, hx0⟩ := u0
      obtain ⟨x1, hx1⟩ := u1
      have f0 : w1.frozen? ⟨w.heap.size, k * 2, none⟩ = false := hbx.frozen _
      have f1 : w1.frozen? ⟨w.heap.size, k * 2 + 1, none⟩ = false := hbx.frozen _
      have HF2 := Lib.hid (HNX.out w1 bn hg hN)
      have HB2 := Lib.hid (((bnext HB.out hg).setCell (p := ⟨w.heap.size, k * 2, none⟩) (Nat.le_refl _) (.slice (some ⟨bn, 0, none⟩) n n)).setCell (p := ⟨w.heap.size, k * 2 + 1, none⟩) (Nat.le_refl _) (.int .i64 e))
      rw [← HE.out, ← HN.out] at HF2
      clear hbx hg hN HNX HF HC
      go_wp2
      go_roundw
      case rel => exact ⟨k + 1, _, _, by omega, by go_num, HF2.out, HB2.out⟩
      case measure => simp [intOf]; omega
    · obtain rfl : k = ts.length := by omega
      go_wp2
      go_ret
      exact ⟨C, gs, rfl, HF.out, HB.out⟩

set_option maxHeartbeats 1000000 in
theorem toPolyR (v : Int) (A : Option Addr) (cap : Nat) (ts : List Term') (w : World) (hA : TmsAt w A ts) (hl : ts.length ≤ 1048576) (ht : totT ts ≤ 1048576) :
    Calls Try.prog 10 #[poV v A ts.length cap] w fun e w' => ∃ g, w.heap.size ≤ g ∧ e = .returned (poV v (some ⟨g, 0, none⟩) ts.length ts.length) ∧ RT w' g w'.heap.size (some ⟨g, 0, none⟩) ts ∧ Below w.heap.size w w' := by
  obtain ⟨hsz, hC1, hC2, hb0⟩ := allocs3 w (.cells #[.int .i64 v, .slice A ts.length cap] 24) 28 28 [.int .i64 0, .slice none 0 0] [.int .i64 v, .slice none 0 0]
  go_enter Try.func10, Try.ntmps10
  go_wp2_with fail
  generalize (((w.alloc (.cells #[.int .i64 v, .slice A ts.length cap] 24)).alloc (.cells #[.int .i64 0, .slice none 0 0] 28)).alloc (.cells #[.int .i64 v, .slice none 0 0] 28)) = W3 at hsz hb0 hC1 hC2 ⊢
  refine (toTermS_any A cap ts W3 (hA.below hb0) hl ht).mono ?_; rintro e w1 ⟨C, gs, rfl, hF, hb⟩
  rw [hsz] at hF ⊢
  have hE1 := hC1.below hb (by omega)
  have hE2 := hC2.below hb (by omega)
  have k0 : w1.cell? ⟨w.heap.size + 1 + 1, 0, none⟩ = some (.int .i64 v) := by rw [hE2.cell]; rfl
  have k1 : w1.cell? ⟨w.heap.size + 1 + 1, 1, none⟩ = some (.slice none 0 0) := by rw [hE2.cell]; rfl
  have f1 : w1.frozen? ⟨w.heap.size + 1 + 1, 1, none⟩ = false := hE2.frozen _
  have j0 : w1.cell? ⟨w.heap.size + 1, 0, none⟩ = some (.int .i64 0) := by rw [hE1.cell]; rfl
  have j1 : w1.cell? ⟨w.heap.size + 1, 1, none⟩ = some (.slice none 0 0) := by rw [hE1.cell]; rfl
  have g0 : w1.frozen? ⟨w.heap.size + 1, 0, none⟩ = false := hE1.frozen _
  have g1 : w1.frozen? ⟨w.heap.size + 1, 1, none⟩ = false := hE1.frozen _
  have hD0 := hE1.far (p := ⟨w.heap.size + 1 + 1, 1, none⟩) (by simp) (.slice (some ⟨w.heap.size + 3, 0, none⟩) ts.length ts.length)
  have hD1 := hD0.set_ 0 (.int .i64 v)
  have hD2 := hD1.set_ 1 (.slice (some ⟨w.heap.size + 3, 0, none⟩) ts.length ts.length)
  have x0 := hD1.cell 0
  have x1 := hD2.cell 1
  simp only [List.set_cons_zero, List.set_cons_succ, List.getElem?_cons_zero, List.getElem?_cons_succ] at x0 x1
  have HF := Lib.hid hF.tms
  have hzz := hb.size
  rw [hsz] at hzz
  have HB0 := Lib.hid (hb0.trans (hb.mono hb0.size))
  clear hE1 hE2 hC1 hC2 hb0 hD0 hD1 hD2 hF hb hA
  go_wp2
  refine bodyPost_ret (v := poV v (some ⟨w.heap.size + 3, 0, none⟩) ts.length ts.length) (by simp [results, Try.results10, go_sem, x0, x1]) rfl ?_
  have hO : Only (fun q => q < w.heap.size + 3) w1 (((w1.setCell ⟨w.heap.size + 1 + 1, 1, none⟩ (.slice (some ⟨w.heap.size + 3, 0, none⟩) ts.length ts.length)).setCell ⟨w.heap.size + 1, 0, none⟩ (.int .i64 v)).setCell ⟨w.heap.size + 1, 1, none⟩ (.slice (some ⟨w.heap.size + 3, 0, none⟩) ts.length ts.length)) :=
    ⟨rfl, rfl, rfl, by simp [World.setCell], fun q _ hq => (Below.heap_setCell _ _ _ _ (by intro h; simp only at h; omega)).trans ((Below.heap_setCell _ _ _ _ (by intro h; simp only at h; omega)).trans (Below.heap_setCell _ _ _ _ (by intro h; simp only at h; omega)))⟩
  refine ⟨w.heap.size + 3, by omega, rfl, ?_, ?_⟩
  · have := HF.out.only hO (fun q h1 _ h => by omega)
    simpa [World.setCell] using this
  · exact ((HB0.out.setCell (p := ⟨w.heap.size + 1 + 1, 1, none⟩) (by simp; omega) _).setCell (p := ⟨w.heap.size + 1, 0, none⟩) (by simp) _).setCell (p := ⟨w.heap.size + 1, 1, none⟩) (by simp) _
theorem keep4q {w w' : World} {p q r s : Addr} {a b c d : Value} (h : w.cell? p = some a ∧ w.cell? q = some b ∧ w.cell? r = some c ∧ w.cell? s = some d) (hb : Below w.heap.size w w') : w'.cell? p = some a ∧ w'.cell? q = some b ∧ w'.cell? r = some c ∧ w'.cell? s = some d :=
  ⟨keepC h.1 hb, keepC h.2.1 hb, keepC h.2.2.1 hb, keepC h.2.2.2 hb⟩

end Go.Proofs.Ytfnhdfgkkjnhcaa

/- Walks: the order of exponents and the validity of polynomials, in the spec. -/
namespace Go.Proofs.Ytfnhdfgkkjnhcaa
open Go.RowKit Plain

theorem termOk_len {v : Int} {t : Term'} (h : ¬ (t.1.length : Int) = v) : termOk v t = false := by unfold termOk; simp [h]
theorem termOk_coef {v : Int} {t : Term'} (h : inR t.2 1 1000002 = false) : termOk v t = false := by unfold termOk; simp [h]
theorem termOk_rest {v : Int} {t : Term'} (h : (t.1.length : Int) = v) (h2 : inR t.2 1 1000002 = true) : termOk v t = leftUp t.1 t.1.length := by unfold termOk; rw [leftUp_eq]; simp [h, h2]

set_option maxHeartbeats 1000000 in
theorem cmpS_any (A B : Option Addr) (ca cb : Nat) (a b : List Int) (w : World) (hA : Ints w A a) (hB : Ints w B b) (hl : b.length = a.length) (ha : a.length ≤ 9223372036854775807) :
    Calls Try.prog 69 #[.slice A a.length ca, .slice B a.length cb] w fun e w' => e = .returned (.int .i64 (cmpL a b)) ∧ Drawn w w' := by
  have HA := Lib.hid hA; clear hA
  have HB := Lib.hid hB; clear hB
  have HL := Lib.hid hl; clear hl
  go_enter Try.func69, Try.ntmps69
  go_wp2
  go_loopw [5] (fun i wr => ∃ (k d : Nat), k ≤ a.length ∧ i = .int .i64 (k : Int) ∧ wr = w.drewN d ∧ Hid (cmpL (a.drop k) (b.drop k) = cmpL a b)) (fun i _ => a.length - (intOf i).toNat)
  case atStart => exact ⟨0, 0, by omega, by go_num, rfl, rfl⟩
  case round =>
    obtain ⟨k, d, hk, rfl, rfl, HR⟩ := hrel
    by_cases hlt : k < a.length
    · obtain ⟨ba, oa, rfl, _, hca⟩ := HA.out.cfAt (by omega)
      obtain ⟨bb, ob, rfl, _, hcb⟩ := HB.out.cfAt (by have := HL.out; omega)
      have hc10 := hca k hlt
      have hc20 := hcb k (by have := HL.out; omega)
      have hc1 : (w.drewN d).cell? ⟨ba, oa + k, none⟩ = some (.int .i64 (cf a k)) := hca k hlt
      have hc2 : (w.drewN d).cell? ⟨bb, ob + k, none⟩ = some (.int .i64 (cf b k)) := hcb k (by have := HL.out; omega)
      have HS := Lib.hid (cmpL_step hlt (by have := HL.out; omega : k < b.length))
      have hkl : (k : Int) < (a.length : Int) := by omega
      clear hca hcb
      generalize cf a k = x at *
      generalize cf b k = y at *
      by_cases h1 : x < y
      · have HV : Hid (cmpL a b = -1) := by show _ = _; rw [← HR.out, HS.out, if_pos h1]
        clear HS HR
        go_wp2
        go_quiet (fail)
        go_wp2
        go_ret
        exact ⟨ret_int HV.out.symm, _, by first | rfl | exact World.drewN_drewN _ _ _⟩
      · have hd1 : decide (x < y) = false := by simpa using h1
        by_cases h2 : y < x
        · have HV : Hid (cmpL a b = 1) := by show _ = _; rw [← HR.out, HS.out, if_neg h1, if_pos h2]
          clear HS HR
          go_wp2
          go_quiet (fail)
          go_wp2
          go_quiet (fail)
          go_wp2
          go_ret
          exact ⟨ret_int HV.out.symm, _, by first | rfl | (simp only [World.drewN_drewN]; rfl)⟩
        · have HV : Hid (cmpL (a.drop (k + 1)) (b.drop (k + 1)) = cmpL a b) := by show _ = _; rw [← HR.out, HS.out, if_neg h1, if_neg h2]
          have hd2 : decide (y < x) = false := by simpa using h2
          clear HS HR
          go_wp2
          go_quiet (fail)
          go_wp2
          go_quiet (fail)
          go_wp2
          go_roundw
          case rel => exact ⟨k + 1, _, by omega, by go_num, by first | rfl | (simp only [World.drewN_drewN]; rfl), HV.out⟩
          case measure => simp [intOf]; omega
    · obtain rfl : k = a.length := by omega
      have HV : Hid (cmpL a b = 0) := by
        show _ = _
        rw [← HR.out, List.drop_length, ← HL.out, List.drop_length]; rfl
      clear HR
      go_wp2
      go_ret
      exact ⟨ret_int HV.out.symm, _, rfl⟩

set_option maxHeartbeats 1000000 in
theorem termS_any (b o : Nat) (t : Term') (Ai : Option Addr) (cap : Nat) (v : Int) (w : World) (h0 : w.cell? ⟨b, o, none⟩ = some (.slice Ai t.1.length cap)) (h1 : w.cell? ⟨b, o + 1, none⟩ = some (.int .i64 t.2)) (hI : Ints w Ai t.1) (hm : t.1.length ≤ 2000000) :
    Calls Try.prog 68 #[ptr b o, .int .i64 v] w fun e w' => e = .returned (.bool (termOk v t)) ∧ w = w' := by
  by_cases hl : (t.1.length : Int) = v
  case neg =>
    have HE := Lib.hid (termOk_len hl)
    rw [HE.out]
    clear HE
    have hd : ((t.1.length : Int) != v) = true := by simpa using hl
    clear hl
    generalize t.1.length = n at *
    go_enter Try.func68, Try.ntmps68
    go_wp2
    go_ret
    exact ⟨rfl, rfl⟩
  have hd : ((t.1.length : Int) != v) = false := by simpa using hl
  cases hc : inR t.2 1 1000002
  · have HE := Lib.hid (termOk_coef (v := v) hc)
    rw [HE.out]
    clear HE
    have HN := Lib.hid (isNumberS_any t.2 w)
    have hz : inR t.2 0 1000002 = true → t.2 = 0 := fun h => by
      have := inR_true.1 h
      by_cases h0 : t.2 = 0
      · exact h0
      · rw [inR_true.2 ⟨by omega, this.2⟩] at hc; cases hc
    cases hr : inR t.2 0 1000002
    · rw [hr] at HN
      clear hz hc hr hl
      generalize t.1.length = n at *
      generalize t.2 = c at *
      go_enter Try.func68, Try.ntmps68
      go_wp2_with (go_at_call 105; refine HN.out.mono ?_; rintro e w' ⟨rfl, rfl⟩)
      go_ret
      exact ⟨rfl, rfl⟩
    · rw [hr] at HN
      have hz := hz hr
      rw [hz] at HN h1
      clear hc hr hl
      generalize t.1.length = n at *
      go_enter Try.func68, Try.ntmps68
      go_wp2_with (go_at_call 105; refine HN.out.mono ?_; rintro e w' ⟨rfl, rfl⟩)
      go_ret
      exact ⟨rfl, rfl⟩
  · have HE := Lib.hid (termOk_rest hl hc)
    rw [HE.out]
    have hcb := inR_true.1 hc
    have HN : Hid (Calls Try.prog 105 #[.int .i64 t.2] w fun e w' => e = .returned (.bool true) ∧ w = w') := by
      have := isNumberS_any t.2 w
      rwa [inR_true.2 ⟨by omega, hcb.2⟩] at this
    have hc0 : (t.2 == (0 : Int)) = false := by simp; omega
    have HI := Lib.hid hI
    obtain ⟨zs, hzs⟩ : ∃ zs, zs = t.1 := ⟨_, rfl⟩
    rw [← hzs] at h0 hm hd HI ⊢
    clear hI hl hc HE hzs
    generalize t.2 = c at *
    go_enter Try.func68, Try.ntmps68
    go_wp2_with (go_at_call 105; refine HN.out.mono ?_; rintro e w' ⟨rfl, rfl⟩)
    go_loop [5, 6] (fun l i => ∃ k : Nat, k ≤ zs.length ∧ i = .int .i64 (k : Int) ∧ l = .int .i64 (12 - degL zs k) ∧ Hid (leftUp zs k = true)) (fun _ i => zs.length - (intOf i).toNat)
    case atStart => exact ⟨0, by omega, by go_num, rfl, rfl⟩
    case round =>
      obtain ⟨k, hk, rfl, rfl, HR⟩ := hrel
      have hbd := leftUp_bd HR.out
      have hd0 := hbd.1
      have hd1 := hbd.2.1
      by_cases hlt : k < zs.length
      · obtain ⟨ba, oa, rfl, _, hca⟩ := HI.out.cfAt (by omega)
        have hc1 := hca k hlt
        have hkl : (k : Int) < (zs.length : Int) := by omega
        obtain ⟨d, hdd⟩ : ∃ d, d = degL zs k := ⟨_, rfl⟩
        obtain ⟨x, hx⟩ : ∃ x, x = cf zs k := ⟨_, rfl⟩
        have HU : Hid (leftUp zs (k + 1) = (leftUp zs k && inR x 0 (12 - d)) ∧ degL zs (k + 1) = d + x) := by rw [hx, hdd]; exact ⟨rfl, rfl⟩
        rw [← hdd] at hd0 hd1 ⊢
        rw [← hx] at hc1
        have HG : Hid (∀ n, k + 1 ≤ n → leftUp zs (k + 1) = false → leftUp zs n = false) := fun n hn h => leftUp_false h n hn
        clear hca hx hdd hbd
        obtain ⟨q, hq⟩ : ∃ q, q = inR x 0 (12 - d) := ⟨_, rfl⟩
        have HIN := Lib.hid (in_bq q x 0 (12 - d) hq.symm w)
        have HQ := Lib.hid hq
        clear hq
        cases q
        · go_wp2_with (go_at_call 31; refine HIN.out.mono ?_; rintro e w' ⟨rfl, rfl⟩)
          go_ret
          exact ⟨ret_bool (HG.out _ (by omega) (by rw [HU.out.1, ← HQ.out]; simp)).symm, rfl⟩
        · have hxb := inR_true.1 HQ.out.symm
          have hx0 := hxb.1
          have hx1 := hxb.2
          clear hxb
          go_wp2_with (go_at_call 31; refine HIN.out.mono ?_; rintro e w' ⟨rfl, rfl⟩)
          go_round
          case rel => exact ⟨k + 1, by omega, by go_num, by rw [HU.out.2]; congr 1; omega, by show _ = _; rw [HU.out.1, HR.out, ← HQ.out]; rfl⟩
          case measure => simp [intOf]; omega
      · obtain rfl : k = zs.length := by omega
        clear hbd
        generalize degL zs zs.length = d at *
        go_wp2
        go_ret
        exact ⟨ret_bool HR.out.symm, rfl⟩

end Go.Proofs.Ytfnhdfgkkjnhcaa

/- Walks: the validity of polynomials, in the spec. -/
namespace Go.Proofs.Ytfnhdfgkkjnhcaa
open Go.RowKit Plain

theorem polyOk_vars {v : Int} {ts : List Term'} (h : inR v 0 12 = false) : polyOk v ts = false := by unfold polyOk; simp [h]
theorem polyOk_len {v : Int} {ts : List Term'} (h : ¬ ts.length ≤ 120) : polyOk v ts = false := by unfold polyOk; simp [h]
theorem polyOk_up {v : Int} {ts : List Term'} (h : inR v 0 12 = true) (h2 : ts.length ≤ 120) : polyOk v ts = polyUp v ts ts.length := by unfold polyOk; simp [h, h2]
theorem polyUp_term {v : Int} {ts : List Term'} {k : Nat} (h : termOk v (tmAt ts k) = false) (hk : k < ts.length) : polyUp v ts ts.length = false := polyUp_false (k := k + 1) (by unfold polyUp; rw [h]; simp) _ (by omega)
theorem polyUp_ord {v : Int} {ts : List Term'} {k : Nat} (hk0 : 0 < k) (h : ¬ cmpL (tmAt ts (k - 1)).1 (tmAt ts k).1 < 0) (hk : k < ts.length) : polyUp v ts ts.length = false := polyUp_false (k := k + 1) (by
  unfold polyUp
  rw [show decide (k = 0) = false by simp; omega]
  simp [h]) _ (by omega)
theorem polyUp_next {v : Int} {ts : List Term'} {k : Nat} (h0 : polyUp v ts k = true) (h1 : termOk v (tmAt ts k) = true) (h2 : k = 0 ∨ cmpL (tmAt ts (k - 1)).1 (tmAt ts k).1 < 0) : polyUp v ts (k + 1) = true := by
  unfold polyUp
  rw [h0, h1]
  rcases h2 with h2 | h2 <;> simp [h2]

set_option maxRecDepth 100000 in
set_option maxHeartbeats 1000000 in
theorem polyS_any (b o : Nat) (v : Int) (A : Option Addr) (cap : Nat) (ts : List Term') (w : World) (h0 : w.cell? ⟨b, o, none⟩ = some (.int .i64 v)) (h1 : w.cell? ⟨b, o + 1, none⟩ = some (.slice A ts.length cap)) (hT : TmsAt w A ts) (hm : ts.length ≤ 1048576) (ht : totT ts ≤ 1048576) :
    Calls Try.prog 30 #[ptr b o] w fun e w' => e = .returned (.bool (polyOk v ts)) ∧ Below w.heap.size w w' := by
  have HT := Lib.hid hT; clear hT
  have HTT := Lib.hid ht; clear ht
  have hbl := World.block_lt_of_cell? _ _ h0
  simp only at hbl
  cases hv : inR v 0 12
  · have HE := Lib.hid (polyOk_vars (ts := ts) hv)
    rw [HE.out]
    have HI := Lib.hid ((in_bq false v 0 12 hv w).mono fun e w' (h : e = .returned (.bool false) ∧ w' = w) => And.intro h.1 h.2.symm)
    clear hv HE
    go_enter Try.func30, Try.ntmps30
    go_wp2_with (go_at_call 31; refine HI.out.mono ?_; rintro e w' ⟨rfl, rfl⟩)
    go_ret
    exact ⟨rfl, Below.refl _ _⟩
  have HI := Lib.hid ((in_bq true v 0 12 hv w).mono fun e w' (h : e = .returned (.bool true) ∧ w' = w) => And.intro h.1 h.2.symm)
  by_cases hl : ts.length ≤ 120
  case neg =>
    have HE := Lib.hid (polyOk_len (v := v) hl)
    rw [HE.out]
    clear hv HE
    go_enter Try.func30, Try.ntmps30
    go_wp2_with (go_at_call 31; refine HI.out.mono ?_; rintro e w' ⟨rfl, rfl⟩)
    go_ret
    exact ⟨rfl, Below.refl _ _⟩
  have HE := Lib.hid (polyOk_up hv hl)
  rw [HE.out]
  clear hv HE
  go_enter Try.func30, Try.ntmps30
  go_wp2_with (go_at_call 31; refine HI.out.mono ?_; rintro e w' ⟨rfl, rfl⟩)
  go_loopw [3] (fun i wr => ∃ k : Nat, k ≤ ts.length ∧ i = .int .i64 (k : Int) ∧ Hid (polyUp v ts k = true) ∧ Hid (Below w.heap.size w wr)) (fun i _ => ts.length - (intOf i).toNat)
  case atStart => exact ⟨0, by omega, by go_num, rfl, Below.refl _ _⟩
  case round =>
    obtain ⟨k, hk, rfl, HU, HB⟩ := hrel
    have h0' : wr.cell? ⟨b, o, none⟩ = some (.int .i64 v) := (HB.out.cell (p := ⟨b, _, none⟩) hbl).trans h0
    have h1' : wr.cell? ⟨b, o + 1, none⟩ = some (.slice A ts.length cap) := (HB.out.cell (p := ⟨b, _, none⟩) hbl).trans h1
    by_cases hlt : k < ts.length
    · obtain ⟨bt, ot, Ai, ca, rfl, hbt, hc, hc2, hi, _⟩ := (HT.out.below HB.out).at_ hlt
      have hzl : (tmAt ts k).1.length ≤ 1048576 := Nat.le_trans (exps_le_tot hlt) HTT.out
      have hkl : (k : Int) < (ts.length : Int) := by omega
      obtain ⟨q, hq⟩ : ∃ q, q = termOk v (tmAt ts k) := ⟨_, rfl⟩
      have HTS : Hid (∀ n, Calls Try.prog 68 #[ptr bt (ot + k * 2), .int .i64 v] (wr.drewN n) fun e w' => e = .returned (.bool q) ∧ w' = wr.drewN n) := fun n =>
        (termS_any bt (ot + k * 2) (tmAt ts k) Ai ca v (wr.drewN n) hc hc2 hi (by omega)).mono fun e w' ⟨h1, h2⟩ => ⟨by rw [h1, hq], h2.symm⟩
      have HQ := Lib.hid hq
      clear hq
      cases q
      · clear hi hzl hc hc2
        rcases Nat.eq_zero_or_pos k with hk0 | hk0
        · subst hk0
          rw [Nat.zero_mul, Nat.add_zero] at HTS
          go_wp2
          go_quiet (first | (go_at_call 68; exact Calls.quiet_of_same (HTS.out _)))
          go_wp2
          go_ret
          exact ⟨ret_bool (polyUp_term HQ.out.symm hlt).symm, below_drewN' HB.out _⟩
        · go_wp2
          go_quiet (first | (go_at_call 68; exact Calls.quiet_of_same (HTS.out _)))
          go_wp2
          go_ret
          exact ⟨ret_bool (polyUp_term HQ.out.symm hlt).symm, below_drewN' HB.out _⟩
      · rcases Nat.eq_zero_or_pos k with hk0 | hk0
        · subst hk0
          have HN := Lib.hid (polyUp_next HU.out HQ.out.symm (Or.inl rfl))
          rw [Nat.zero_mul, Nat.add_zero] at HTS
          clear hi hzl hc hc2
          go_wp2
          go_quiet (first | (go_at_call 68; exact Calls.quiet_of_same (HTS.out _)))
          go_wp2
          go_roundw
          case rel => exact ⟨1, by omega, by go_num, HN.out, below_drewN' HB.out _⟩
          case measure => simp [intOf]; omega
        · obtain ⟨bt', ot', Aj, cj, hAe, hbt', hd, hd2, hj, _⟩ := (HT.out.below HB.out).at_ (show k - 1 < ts.length by omega)
          obtain ⟨rfl, rfl⟩ : bt = bt' ∧ ot = ot' := by simpa using hAe
          have hp := polyUp_true HU.out k (Nat.le_refl _)
          have hpk : termOk v (tmAt ts (k - 1)) = true := by
            have h3 := HU.out
            obtain ⟨j, rfl⟩ : ∃ j, k = j + 1 := ⟨k - 1, by omega⟩
            simp only [polyUp, Bool.and_eq_true] at h3
            exact h3.2.1
          have hle : (tmAt ts k).1.length = (tmAt ts (k - 1)).1.length := by
            have a1 := (termOk_parts hpk).1
            have a2 := (termOk_parts HQ.out.symm).1
            omega
          have HC : Hid (∀ n, Calls Try.prog 69 #[.slice Aj (tmAt ts (k - 1)).1.length cj, .slice Ai (tmAt ts (k - 1)).1.length ca] (wr.drewN n) fun e w' => e = .returned (.int .i64 (cmpL (tmAt ts (k - 1)).1 (tmAt ts k).1)) ∧ ∃ m, w' = (wr.drewN n).drewN m) := fun n =>
            cmpS_any Aj Ai cj ca _ _ (wr.drewN n) hj hi hle (by omega)
          obtain ⟨z, hz⟩ : ∃ z, z = cmpL (tmAt ts (k - 1)).1 (tmAt ts k).1 := ⟨_, rfl⟩
          rw [← hz] at HC
          have HZ := Lib.hid hz
          have HLE := Lib.hid hle
          have hk1 : 0 < (k : Int) := by omega
          rw [hle] at hc
          obtain ⟨i, hi1, hi2, hi3⟩ : ∃ i : Nat, ((k : Int) - 1 = i) ∧ i = k - 1 ∧ i < ts.length := ⟨k - 1, by omega, rfl, by omega⟩
          have hd' : wr.cell? ⟨bt, ot + i * 2, none⟩ = some (.slice Aj (tmAt ts (k - 1)).1.length cj) := by rw [hi2]; exact hd
          have hkw : IntKind.i64.wrap ((k : Int) - 1) = i := by rw [IntKind.wrap_i64]; omega
          generalize (tmAt ts (k - 1)).1.length = n at *
          clear hi hj hz hle hp hpk hzl hd hd2 hc2 hi2 hi1
          by_cases hz0 : z < 0
          · have HN := Lib.hid (polyUp_next HU.out HQ.out.symm (Or.inr (by rw [← HZ.out]; exact hz0)))
            have hzd : decide (0 ≤ z) = false := by simp; omega
            clear HU HQ HZ
            go_wp2
            go_quiet (first | (go_at_call 68; exact Calls.quiet_of_same (HTS.out _)) | (go_at_call 69; exact Calls.quiet_of (HC.out _)))
            go_wp2
            go_roundw
            case rel => exact ⟨k + 1, by omega, by go_num, HN.out, below_drewN' HB.out _⟩
            case measure => simp [intOf]; omega
          · have HN := Lib.hid (polyUp_ord (v := v) hk0 (by rw [← HZ.out]; exact hz0) hlt)
            have hzd : decide (0 ≤ z) = true := by simp; omega
            clear HU HQ HZ
            go_wp2
            go_quiet (first | (go_at_call 68; exact Calls.quiet_of_same (HTS.out _)) | (go_at_call 69; exact Calls.quiet_of (HC.out _)))
            go_wp2
            go_ret
            exact ⟨ret_bool HN.out.symm, below_drewN' HB.out _⟩
    · obtain rfl : k = ts.length := by omega
      go_wp2
      go_ret
      exact ⟨ret_bool HU.out.symm, HB.out⟩

end Go.Proofs.Ytfnhdfgkkjnhcaa
