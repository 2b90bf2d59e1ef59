/- Texts put together: PISort, PRule, WISort, WIns, WSinkL, WRuleS1. -/
import Derived.Test.YtmcaphbngfdfiaaKA
import Derived.Test.YtmcaphbngfdfiaaKSF
import Derived.Test.YtmcaphbngfdfiaaKSH
import Derived.Test.YtmcaphbngfdfiaaKG

/- Plain: sorting a list of integers by insertion. -/
namespace Go.Proofs.Ytmcaphbngfdfiaa
open Plain

/-- the first i are ascending -/
def SrtTo (i : Nat) (l : List Int) : Prop := ∀ p q, p < q → q < i → cf l p ≤ cf l q
/-- the first i + 1 are ascending but for the one at j, which is no more than those behind it -/
def SrtJ (i j : Nat) (l : List Int) : Prop := (∀ p q, p < q → q ≤ i → p ≠ j → q ≠ j → cf l p ≤ cf l q) ∧ ∀ q, j < q → q ≤ i → cf l j ≤ cf l q
/-- two neighbours exchanged -/
def swL (l : List Int) (j : Nat) : List Int := (l.set j (cf l (j - 1))).set (j - 1) (cf l j)
theorem swL_length (l : List Int) (j : Nat) : (swL l j).length = l.length := by unfold swL; simp
theorem cf_set' (l : List Int) (j k : Nat) (x : Int) (hj : j < l.length) : cf (l.set j x) k = if k = j then x else cf l k := by
  unfold cf
  simp only [List.getD]
  by_cases h : k = j
  · subst h; simp [hj]
  · rw [if_neg h, List.getElem?_set_ne (Ne.symm h)]
theorem cf_swL {l : List Int} {j k : Nat} (h0 : 0 < j) (h : j < l.length) : cf (swL l j) k = if k = j then cf l (j - 1) else if k = j - 1 then cf l j else cf l k := by
  unfold swL
  rw [cf_set' _ _ _ _ (by rw [List.length_set]; omega), cf_set' _ _ _ _ h]
  by_cases h1 : k = j - 1
  · rw [if_pos h1, if_neg (by omega), if_pos h1]
  · rw [if_neg h1]
    by_cases h2 : k = j
    · rw [if_pos h2, if_pos h2]
    · rw [if_neg h2, if_neg h2, if_neg h1]
theorem swL_perm {l : List Int} {j : Nat} (_h0 : 0 < j) (h : j < l.length) : (swL l j).Perm l := by
  have h1 : j - 1 < l.length := by omega
  have := List.set_set_perm («as» := l) h h1
  unfold swL
  have e1 : cf l (j - 1) = l[j - 1] := by simp [cf, List.getD, h1]
  have e2 : cf l j = l[j] := by simp [cf, List.getD, h]
  rw [e1, e2]
  exact this
theorem SrtJ.start {i : Nat} {l : List Int} (h : SrtTo i l) : SrtJ i i l := ⟨fun p q hpq hq _ hqj => h p q hpq (by omega), fun q h1 h2 => by omega⟩
theorem SrtJ.stop {i j : Nat} {l : List Int} (h : SrtJ i j l) (hj : j ≤ i) (hs : j = 0 ∨ ¬ cf l j < cf l (j - 1)) : SrtTo (i + 1) l := fun p q hpq hq => by
  by_cases hp : p = j
  · subst hp; exact h.2 q hpq (by omega)
  · by_cases hqj : q = j
    · subst hqj
      rcases hs with hs | hs
      · omega
      · by_cases h1 : p = q - 1
        · subst h1; omega
        · have := h.1 p (q - 1) (by omega) (by omega) hp (by omega); omega
    · exact h.1 p q hpq (by omega) hp hqj
theorem SrtJ.step {i j : Nat} {l : List Int} (h : SrtJ i j l) (h0 : 0 < j) (hj : j ≤ i) (hl : i < l.length) (hlt : cf l j < cf l (j - 1)) : SrtJ i (j - 1) (swL l j) := by
  have hc : ∀ k, cf (swL l j) k = if k = j then cf l (j - 1) else if k = j - 1 then cf l j else cf l k := fun k => cf_swL h0 (by omega)
  refine ⟨fun p q hpq hq hp hqj => ?_, fun q h1 h2 => ?_⟩
  · rw [hc p, hc q, if_neg hp, if_neg hqj]
    by_cases e1 : p = j
    · subst e1
      rw [if_pos rfl, if_neg (by omega)]
      exact h.1 (p - 1) q (by omega) hq (by omega) (by omega)
    · rw [if_neg e1]
      by_cases e2 : q = j
      · subst e2
        rw [if_pos rfl]
        exact h.1 p (q - 1) (by omega) (by omega) (by omega) (by omega)
      · rw [if_neg e2]
        exact h.1 p q hpq hq e1 e2
  · rw [hc (j - 1), hc q, if_neg (by omega), if_pos rfl]
    by_cases e2 : q = j
    · subst e2; rw [if_pos rfl]; omega
    · rw [if_neg e2, if_neg (by omega)]
      exact h.2 q (by omega) h2

end Go.Proofs.Ytmcaphbngfdfiaa

/- Plain: rules: sides, the variables that occur. No program here. -/
namespace Go.Proofs.Ytmcaphbngfdfiaa
open Plain

/-- an integer put into a list in order -/
def insS (n : Int) : List Int → List Int
  | [] => [n]
  | x :: xs => if x < n then x :: insS n xs else if x = n then x :: xs else n :: x :: xs
theorem insS_mem {n y : Int} {l : List Int} : y ∈ insS n l ↔ y = n ∨ y ∈ l := by
  induction l with
  | nil => simp [insS]
  | cons x xs ih =>
    unfold insS
    split
    · simp only [List.mem_cons, ih]
      constructor
      · rintro (h | h | h) <;> simp [h]
      · rintro (h | h | h) <;> simp [h]
    · split
      · rename_i h1 h2
        subst h2
        simp only [List.mem_cons]
        constructor
        · exact .inr
        · rintro (h | h) <;> simp [h]
      · simp [List.mem_cons]
theorem insS_sorted {n : Int} {l : List Int} (h : l.Pairwise (· < ·)) : (insS n l).Pairwise (· < ·) := by
  induction l with
  | nil => simp [insS]
  | cons x xs ih =>
    obtain ⟨h1, h2⟩ := List.pairwise_cons.1 h
    unfold insS
    split
    · refine List.pairwise_cons.2 ⟨fun y hy => ?_, ih h2⟩
      rcases insS_mem.1 hy with rfl | hy
      · assumption
      · exact h1 y hy
    · split
      · exact h
      · refine List.pairwise_cons.2 ⟨fun y hy => ?_, h⟩
        rcases List.mem_cons.1 hy with rfl | hy
        · omega
        · have := h1 y hy; omega
theorem insS_len {n : Int} {l : List Int} (h : l.Pairwise (· < ·)) : (insS n l).length = if n ∈ l then l.length else l.length + 1 := by
  induction l with
  | nil => simp [insS]
  | cons x xs ih =>
    obtain ⟨h1, h2⟩ := List.pairwise_cons.1 h
    unfold insS
    split
    · rename_i hlt
      have hne : n ≠ x := by omega
      simp only [List.length_cons, ih h2, List.mem_cons, hne, false_or]
      split <;> rfl
    · split
      · rename_i _ e
        rw [if_pos (by rw [e]; exact List.mem_cons_self ..)]
      · rename_i hlt hne
        rw [if_neg]
        · rfl
        · intro hm
          rcases List.mem_cons.1 hm with e | hm
          · exact hne e.symm
          · have := h1 n hm; omega


/-- the kinds of rules -/
def plainK (k : Int) : Bool := inR k 1 5 || k == 7
def plainL : Es → Bool
  | .nil => true
  | .cons k _ _ _ ks r => (plainK k && plainL ks) && plainL r
def Nd.plain (x : Nd) : Bool := plainK x.k && plainL x.ks
theorem plainL_get {es : Es} {i : Nat} {x : Nd} (h : plainL es = true) (hx : es.get? i = some x) : x.plain = true := by
  induction es generalizing i with
  | nil => simp [Es.get?] at hx
  | cons k n p c ks r _ ih =>
    simp only [plainL, Bool.and_eq_true] at h
    cases i with
    | zero => simp only [Es.get?, Option.some.injEq] at hx; subst hx; simp [Nd.plain, h.1]
    | succ i => simp only [Es.get?] at hx; exact ih h.2 hx
theorem plainK_iff {k : Int} : plainK k = true ↔ (k = 1 ∨ k = 2 ∨ k = 3 ∨ k = 4 ∨ k = 5 ∨ k = 7) := by
  unfold plainK
  simp only [Bool.or_eq_true, beq_iff_eq]
  rw [inR_true]
  omega
/-- may an expression be a side of a rule? -/
def sideOk (x : Nd) (vars : Int) : Bool := exprOk [] x vars 0 && decide (x.size ≤ 40) && x.plain
/-- the variables of a list of expressions, put onto others -/
def occL : Es → List Int → List Int
  | .nil, acc => acc
  | .cons k n _ _ ks r, acc => occL r (occL ks (if k = 2 then insS n acc else acc))
def occN (k n : Int) (ks : Es) (acc : List Int) : List Int := occL ks (if k = 2 then insS n acc else acc)
def Nd.occ (x : Nd) : List Int := occN x.k x.n x.ks []
theorem occL_cons (k n p c : Int) (ks r : Es) (acc : List Int) : occL (.cons k n p c ks r) acc = occL r (occN k n ks acc) := rfl
theorem occL_sorted (es : Es) : ∀ {acc : List Int}, acc.Pairwise (· < ·) → (occL es acc).Pairwise (· < ·) := by
  induction es with
  | nil => intro acc h; exact h
  | cons k n p c ks r ih1 ih2 =>
    intro acc h
    refine ih2 (ih1 ?_)
    split
    · exact insS_sorted h
    · exact h
theorem occ_sorted (x : Nd) : x.occ.Pairwise (· < ·) := by
  unfold Nd.occ occN
  refine occL_sorted _ ?_
  split
  · exact insS_sorted List.Pairwise.nil
  · exact List.Pairwise.nil
/-- all that occurs is a variable that is there -/
theorem occL_bd {vars : Int} (es : Es) : ∀ {k' : Int} {i : Nat} {acc : List Int}, formedL [] 0 es k' i vars = true → plainL es = true → plainK k' = true → (∀ y ∈ acc, 0 ≤ y ∧ y < vars) → ∀ y ∈ occL es acc, 0 ≤ y ∧ y < vars := by
  induction es with
  | nil => intro k' i acc _ _ _ h; exact h
  | cons k n p c ks r ih1 ih2 =>
    intro k' i acc hf hp hk h
    simp only [formedL, Bool.and_eq_true] at hf
    simp only [plainL, Bool.and_eq_true] at hp
    have hkv : kidVars k' vars i = vars := by
      unfold kidVars
      have := plainK_iff.1 hk
      rw [if_neg (by omega)]
    rw [hkv] at hf
    refine ih2 hf.2 hp.2 hk (ih1 hf.1.2 hp.1.2 hp.1.1 ?_)
    split
    · rename_i h2
      intro y hy
      rcases insS_mem.1 hy with rfl | hy
      · have hn := hf.1.1
        unfold nodeOk at hn
        subst h2
        simp at hn
        have := inR_true.1 hn.2.2
        omega
      · exact h y hy
    · exact h
theorem insS_le {n : Int} {l : List Int} : (insS n l).length ≤ l.length + 1 := by
  induction l with
  | nil => simp [insS]
  | cons x xs ih =>
    unfold insS
    split
    · simp only [List.length_cons]; omega
    · split
      · simp
      · simp
theorem occL_len (es : Es) : ∀ (acc : List Int), (occL es acc).length ≤ acc.length + es.size := by
  induction es with
  | nil => intro acc; simp [occL, Es.size]
  | cons k n p c ks r ih1 ih2 =>
    intro acc
    show (occL r (occL ks (if k = 2 then insS n acc else acc))).length ≤ _
    have h1 := ih2 (occL ks (if k = 2 then insS n acc else acc))
    have h2 := ih1 (if k = 2 then insS n acc else acc)
    have h3 : (if k = 2 then insS n acc else acc).length ≤ acc.length + 1 := by
      split
      · exact insS_le
      · omega
    simp only [Es.size]
    omega
/-- is a rule valid? -/
def ruleOk (v : Int) (l r : Nd) : Bool := inR v 0 3 && sideOk l v && sideOk r v && !(l.k == 2) && r.occ.all (fun y => l.occ.contains y)

end Go.Proofs.Ytmcaphbngfdfiaa

/- Walks: slices.Sort at up to twelve numbers. -/
namespace Go.Proofs.Ytmcaphbngfdfiaa
open Go.RowKit Plain

end Go.Proofs.Ytmcaphbngfdfiaa

/- Walks: l00Put of the reference: a number put into a list in order. -/
namespace Go.Proofs.Ytmcaphbngfdfiaa
open Go.RowKit Plain

abbrev vi0 (x : Int) : Value := .int .i64 x

/-- the slice value v reads as slots, in memory of the call's own from base on -/
def SlO (w : World) (base : Nat) (v : Value) (l : List Int) : Prop := w.ownsRow base 2 1 v l.length (l.map vi0)

theorem SlO.form {w : World} {base : Nat} {v : Value} {l : List Int} (h : SlO w base v l) : ∃ A cap, v = .slice A l.length cap := by
  rcases h.2 with ⟨hv, h0⟩ | ⟨g, cap, _, hv, _⟩
  · exact ⟨none, 0, by rw [hv, h0]⟩
  · exact ⟨_, _, hv⟩
theorem SlO.at_ {w : World} {base cap : Nat} {A : Option Addr} {l : List Int} (h : SlO w base (.slice A l.length cap) l) {k : Nat} (hk : k < l.length) :
    ∃ g x, A = some ⟨g, 0, none⟩ ∧ base ≤ g ∧ g < w.heap.size ∧ l[k]? = some x ∧ w.cell? ⟨g, k, none⟩ = some (vi0 x) ∧ w.frozen? ⟨g, k, none⟩ = false := by
  obtain ⟨g, cap', hv, hb, hlt⟩ := World.ownsRow.form h (by omega)
  have hA : A = some ⟨g, 0, none⟩ := by injection hv
  have hc : cap = cap' := by injection hv
  subst hA
  subst hc
  refine ⟨g, l[k], rfl, hb, hlt, List.getElem?_eq_getElem hk, ?_, World.ownsRow.frozenAt h k⟩
  rw [World.ownsRow.cellAt h k (by omega)]
  simp [hk]
theorem SlO.keep {w w' : World} {base : Nat} {v : Value} {l : List Int} (h : SlO w base v l) (hb : ∀ g, v.ownBlock = some g → w'.heap[g]? = w.heap[g]?) : SlO w' base v l := by
  refine ⟨h.1, ?_⟩
  rcases h.2 with hn | ⟨g, cap, cur, rfl, hb', hgg, rest⟩
  · exact .inl hn
  · exact .inr ⟨g, cap, cur, rfl, hb', by rw [hb g rfl]; exact hgg, rest⟩
theorem SlO.next {w w' : World} {base : Nat} {v : Value} {l : List Int} (h : SlO w base v l) (hb : Below w.heap.size w w') : SlO w' base v l :=
  h.keep fun g hg => hb.block g (World.ownsRow.lt h g hg).2
theorem SlO.store {w : World} {base g cap : Nat} {l : List Int} (h : SlO w base (.slice (some ⟨g, 0, none⟩) l.length cap) l) (k : Nat) (x : Int) :
    SlO (w.setCell ⟨g, k, none⟩ (vi0 x)) base (.slice (some ⟨g, 0, none⟩) l.length cap) (l.set k x) := by
  rcases h with ⟨h1, ⟨hv, _⟩ | ⟨g', cap', cur, hv, hb, hgg, hnc, hm, hcs, hcur⟩⟩
  · cases hv
  · obtain rfl : g = g' := by injection hv with h; injection h with h; injection h
    obtain rfl : cap = cap' := by injection hv
    refine ⟨by simp, .inr ⟨g, cap, cur.setIfInBounds k (vi0 x), by simp, hb, ?_, by simpa using hnc, hm, by simpa using hcs, ?_⟩⟩
    · simp [World.setCell, Array.getElem?_modify, hgg]
    · simp only [Nat.mul_one, List.length_set, Array.toList_setIfInBounds]
      rw [List.take_set]
      simp only [Nat.mul_one] at hcur
      rw [hcur, List.map_set]

theorem SlO.push {wr w2 w : World} {base B : Nat} {v v2 : Value} {out : List Int} {x : Int} (o : Obj) (h : SlO wr base v out)
    (hown : w2.ownsRow base 2 1 v2 (out.length + 1) (out.map vi0 ++ [vi0 x])) (hg : (wr.alloc o).grownBy w2 v.ownBlock) (hb : Below B w wr) (hB : B ≤ base) (hBs : B ≤ w.heap.size := by exact Nat.le_refl _) :
    SlO w2 base v2 (out ++ [x]) ∧ Below B w w2 := by
  refine ⟨?_, ?_⟩
  · unfold SlO; simpa using hown
  · refine (hb.alloc (by have := hb.size; omega) _).grown hg (by have := hb.size; simp; omega) (fun q hq => by have := (World.ownsRow.lt h q hq).1; omega)
theorem SlO.own {w : World} {base : Nat} {v : Value} {l : List Int} (h : SlO w base v l) : w.ownsRow base 2 1 v l.length (l.map vi0) := h
theorem SlO.mono {w : World} {base base' : Nat} {v : Value} {l : List Int} (h : SlO w base v l) (hb : base' ≤ base) : SlO w base' v l := by
  refine ⟨h.1, ?_⟩
  rcases h.2 with hn | ⟨g, cap, cur, hv, hb', rest⟩
  · exact .inl hn
  · exact .inr ⟨g, cap, cur, hv, by omega, rest⟩
theorem SlO.ints {w : World} {base cap : Nat} {A : Option Addr} {l : List Int} (h : SlO w base (.slice A l.length cap) l) : Ints w A l := fun hn => by
  obtain ⟨g, x, rfl, _, hl, _, _⟩ := h.at_ hn
  refine ⟨g, 0, rfl, hl, fun j x hx => ?_⟩
  have hj : j < l.length := (List.getElem?_eq_some_iff.1 hx).1
  obtain ⟨g', x', e, _, _, hx', hc, _⟩ := h.at_ hj
  obtain rfl : g = g' := by simpa using e
  rw [hx] at hx'
  obtain rfl : x = x' := by simpa using hx'
  rw [Nat.zero_add]; exact hc

def Put0Post (l : List Int) (a : Int) (w : World) (e : Ending) (w' : World) : Prop :=
  ∃ A cap, e = .returned (.slice A (insS a l).length cap) ∧ SlO w' w.heap.size (.slice A (insS a l).length cap) (insS a l) ∧ Below w.heap.size w w'

end Go.Proofs.Ytmcaphbngfdfiaa

/- The laws of XWSink with the region's operations as a list: the operation is handed over written out. -/
namespace Go.Proofs.Ytmcaphbngfdfiaa
open Go

section
variable {P : Program} {l : List Oper} {Q : Exit → Act → World → Prop} {S : World → Prop} {n : Nat}
theorem RegE.takeL {i : Nat} {oi : Oper} {v : Value} {fuel : Nat} {listed : Array Bool} {a : Act} {w : World} (hB : sinkOk l.toArray n = true) (hi : l[i]? = some oi) (hin : i < n)
    (hf : Region.free .any l.toArray listed i = true) (hr : (Region.ready .any l.toArray listed).contains i = true)
    (hQ : ∀ c a w, Q (.panic c) (a.put oi.dst v) w → Q (.panic c) a w) (hy : YieldsIf P l.toArray S oi v a) (hS : S w)
    (h : RegE P l.toArray Q S n fuel (listed.setIfInBounds i true) (a.put oi.dst v) w) : RegE P l.toArray Q S n (fuel + 1) listed a w :=
  RegE.take hB (by rw [List.getElem?_toArray]; exact hi) hin hf hr hQ hy hS h
theorem RegE.stepL {i : Nat} {oi : Oper} {fuel : Nat} {listed : Array Bool} {a : Act} {w : World} (hi : l[i]? = some oi) (hin : i < n) (hr : Region.ready .any l.toArray listed = [i])
    (h : ∀ K' : Act → World → Prop, Shut (∀ a w, S w → (S w → RegE P l.toArray Q S n fuel (listed.setIfInBounds i true) a w) → K' a w) → if Region.wanted oi (yielded l.toArray a.tmps) = true then Oper.wp P oi a w K' Q else K' (a.put oi.dst undef) w) :
    RegE P l.toArray Q S n (fuel + 1) listed a w := RegE.step (by rw [List.getElem?_toArray]; exact hi) hin hr h
theorem RegE.lastL {oi : Oper} {fuel : Nat} {listed : Array Bool} {a : Act} {w : World} (hi : l[n]? = some oi) (hr : Region.ready .any l.toArray listed = [n]) (hd : Region.ready .any l.toArray (listed.setIfInBounds n true) = [])
    (h : ∀ K' : Act → World → Prop, Shut (∀ a w, Q .normal a w → K' a w) → if Region.wanted oi (yielded l.toArray a.tmps) = true then Oper.wp P oi a w K' Q else K' (a.put oi.dst undef) w) :
    RegE P l.toArray Q S n (fuel + 1) listed a w := RegE.last (by rw [List.getElem?_toArray]; exact hi) hr hd h
end

end Go.Proofs.Ytmcaphbngfdfiaa

/- Walks of the reference's looks at rules: l05Plain, l05Has, l05Side. -/
namespace Go.Proofs.Ytmcaphbngfdfiaa
open Go.RowKit Plain

end Go.Proofs.Ytmcaphbngfdfiaa
