/- Plain: series of residues as lists. No program is named here. -/
import Derived.Test.YtbgjbppjnmolfaaPField
namespace Go.Proofs.Ytbgjbppjnmolfaa.Plain

/-- a coefficient -/
def cf (a : List Int) (k : Nat) : Int := a.getD k 0
theorem cf_get {a : List Int} {k : Nat} {x : Int} (h : a[k]? = some x) : cf a k = x := by simp [cf, List.getD, h]
theorem cf_some {a : List Int} {k : Nat} (h : k < a.length) : a[k]? = some (cf a k) := by simp [cf, List.getD, h]
theorem cf_big {a : List Int} {k : Nat} (h : a.length ≤ k) : cf a k = 0 := by simp [cf, List.getD, h]
/-- a list of so many values -/
def mk (n : Nat) (f : Nat → Int) : List Int := (List.range n).map f
theorem mk_length (n : Nat) (f : Nat → Int) : (mk n f).length = n := by simp [mk]
theorem cf_mk {n : Nat} {f : Nat → Int} {k : Nat} (h : k < n) : cf (mk n f) k = f k := by simp [cf, List.getD, mk, h]
theorem mk_congr {n : Nat} {f g : Nat → Int} (h : ∀ k, k < n → f k = g k) : mk n f = mk n g := by
  unfold mk; exact List.map_congr_left fun k hk => h k (by simpa using hk)
theorem mk_cf (a : List Int) : mk a.length (cf a) = a := by
  apply List.ext_getElem
  · simp [mk]
  · intro i h1 h2
    simp [mk, cf, List.getD, h2]
theorem list_ext {a b : List Int} (hl : a.length = b.length) (h : ∀ k, k < a.length → cf a k = cf b k) : a = b := by
  rw [← mk_cf a, ← mk_cf b, hl]
  exact mk_congr fun k hk => h k (by omega)

/-- all are residues -/
def IsS (a : List Int) : Prop := ∀ k, 0 ≤ cf a k ∧ cf a k ≤ 1000002
theorem IsS.rs_ {a : List Int} (h : IsS a) (k : Nat) : rs (cf a k) = cf a k := by have := h k; unfold rs; omega
theorem IsS.mk_ {n : Nat} {f : Nat → Int} (h : ∀ k, 0 ≤ f k ∧ f k ≤ 1000002) : IsS (mk n f) := fun k => by
  by_cases hk : k < n
  · rw [cf_mk hk]; exact h k
  · rw [cf_big (by rw [mk_length]; omega)]; omega

/-- the sum -/
def addL (a b : List Int) : List Int := mk a.length fun k => pl (cf a k) (cf b k)
/-- the partial sums of a product's coefficient -/
def mulT (a b : List Int) (k i : Nat) : Int := sumN (fun i => cf a i * cf b (k - i)) i
/-- the product -/
def mulL (a b : List Int) : List Int := mk a.length fun k => rs (mulT a b k (k + 1))
/-- the quotient's coefficients -/
def divT (a b : List Int) : Nat → List Int
  | 0 => []
  | k + 1 => divT a b k ++ [tm (rs (cf a k - sumN (fun i => cf (divT a b k) i * cf b (k - i)) k)) (iv (cf b 0))]
/-- the quotient -/
def divL (a b : List Int) : List Int := divT a b a.length

theorem addL_length (a b : List Int) : (addL a b).length = a.length := mk_length _ _
theorem mulL_length (a b : List Int) : (mulL a b).length = a.length := mk_length _ _
theorem divT_length (a b : List Int) (k : Nat) : (divT a b k).length = k := by
  induction k with
  | zero => rfl
  | succ k ih => simp [divT, ih]
theorem divL_length (a b : List Int) : (divL a b).length = a.length := divT_length _ _ _
theorem divT_cf (a b : List Int) (k j : Nat) (h : j < k) : cf (divT a b (k + 1)) j = cf (divT a b k) j := by
  have hl := divT_length a b k
  simp only [cf, List.getD, divT]
  rw [List.getElem?_append_left (by omega)]
theorem divT_cf' (a b : List Int) (k m j : Nat) (h : j < k) (hm : k ≤ m) : cf (divT a b m) j = cf (divT a b k) j := by
  induction m with
  | zero => omega
  | succ m ih =>
    by_cases e : k = m + 1
    · rw [e]
    · rw [divT_cf a b m j (by omega), ih (by omega)]
theorem divT_last (a b : List Int) (k : Nat) : cf (divT a b (k + 1)) k = tm (rs (cf a k - sumN (fun i => cf (divT a b k) i * cf b (k - i)) k)) (iv (cf b 0)) := by
  have hl := divT_length a b k
  simp only [cf, List.getD, divT]
  rw [List.getElem?_append_right (by omega)]
  simp [hl]
theorem isS_add (a b : List Int) : IsS (addL a b) := IsS.mk_ fun _ => pl_bd _ _
theorem isS_mul (a b : List Int) : IsS (mulL a b) := IsS.mk_ fun _ => rs_bd _
theorem isS_divT (a b : List Int) (k : Nat) : IsS (divT a b k) := by
  induction k with
  | zero => intro k; rw [cf_big (by simp [divT])]; omega
  | succ k ih =>
    intro j
    rcases Nat.lt_trichotomy j k with h | rfl | h
    · rw [divT_cf a b k j h]; exact ih j
    · rw [divT_last]; exact tm_bd _ _
    · rw [cf_big (by rw [divT_length]; omega)]; omega
theorem isS_div (a b : List Int) : IsS (divL a b) := isS_divT _ _ _

end Go.Proofs.Ytbgjbppjnmolfaa.Plain
