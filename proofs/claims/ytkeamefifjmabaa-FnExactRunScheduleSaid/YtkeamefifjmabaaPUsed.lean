/- Plain: what a schedule costs, and the slots that it uses. -/
import Derived.Test.YtkeamefifjmabaaPChain
import Derived.Test.YtkeamefifjmabaaWWeights
namespace Go.Proofs.Ytkeamefifjmabaa
open Go.RowKit Plain

/-- what the advances over the steps cost -/
def dot : List Int → List Int → Int
  | x :: xs, y :: ys => x * y + dot xs ys
  | _, _ => 0
theorem dot_set {xs ys : List Int} {i : Nat} {z u : Int} (hx : xs[i]? = some z) (hy : ys[i]? = some u) (x : Int) : dot (xs.set i x) ys = dot xs ys + (x - z) * u := by
  induction xs generalizing ys i with
  | nil => simp at hx
  | cons a xs ih =>
    cases ys with
    | nil => simp at hy
    | cons b ys =>
      cases i with
      | zero =>
        obtain rfl : a = z := by simpa using hx
        obtain rfl : b = u := by simpa using hy
        show x * b + dot xs ys = a * b + dot xs ys + (x - a) * b
        rw [Int.sub_mul]; omega
      | succ i =>
        show a * b + dot (xs.set i x) ys = a * b + dot xs ys + _
        rw [ih (by simpa using hx) (by simpa using hy)]; omega
theorem dot_take {xs ys : List Int} {k : Nat} {z u : Int} (hx : xs[k]? = some z) (hy : ys[k]? = some u) : dot (xs.take (k + 1)) (ys.take (k + 1)) = dot (xs.take k) (ys.take k) + z * u := by
  induction xs generalizing ys k with
  | nil => simp at hx
  | cons a xs ih =>
    cases ys with
    | nil => simp at hy
    | cons b ys =>
      cases k with
      | zero =>
        obtain rfl : a = z := by simpa using hx
        obtain rfl : b = u := by simpa using hy
        simp [dot]
      | succ k =>
        show a * b + dot (xs.take (k + 1)) (ys.take (k + 1)) = a * b + dot (xs.take k) (ys.take k) + _
        rw [ih (by simpa using hx) (by simpa using hy)]; omega
theorem mul_bd {x y : Int} (h0 : 0 ≤ x) (h1 : x ≤ 401) (k0 : 0 ≤ y) (k1 : y ≤ 1000) : 0 ≤ x * y ∧ x * y ≤ 401000 := by
  refine ⟨Int.mul_nonneg h0 k0, ?_⟩
  calc x * y ≤ 401 * 1000 := Int.mul_le_mul h1 k1 k0 (by omega)
    _ = 401000 := rfl
theorem dot_bd {xs ys : List Int} (hx : ∀ x ∈ xs, 0 ≤ x ∧ x ≤ 401) (hy : ∀ y ∈ ys, 0 ≤ y ∧ y ≤ 1000) : 0 ≤ dot xs ys ∧ dot xs ys ≤ 401000 * xs.length := by
  induction xs generalizing ys with
  | nil => simp [dot]
  | cons a xs ih =>
    cases ys with
    | nil => simp only [dot, List.length_cons]; omega
    | cons b ys =>
      have h1 := ih (fun x h => hx x (List.mem_cons_of_mem _ h)) (fun y h => hy y (List.mem_cons_of_mem _ h))
      have h2 := hx a (List.mem_cons_self ..)
      have h3 := hy b (List.mem_cons_self ..)
      have h4 := mul_bd h2.1 h2.2 h3.1 h3.2
      simp only [dot, List.length_cons]; omega
theorem dot_zero (n : Nat) (ys : List Int) : dot (List.replicate n 0) ys = 0 := by
  induction n generalizing ys with
  | zero => rfl
  | succ n ih => cases ys with
    | nil => rfl
    | cons b ys => simp [List.replicate_succ, dot, ih]

/-- an integer put into a list in order -/
def putS (n : Int) : List Int → List Int
  | [] => [n]
  | x :: xs => if x < n then x :: putS n xs else if x = n then x :: xs else n :: x :: xs
theorem putS_mem {n y : Int} {l : List Int} : y ∈ putS n l ↔ y = n ∨ y ∈ l := by
  induction l with
  | nil => simp [putS]
  | cons x xs ih =>
    unfold putS
    split
    · simp only [List.mem_cons, ih]
      constructor
      · rintro (h | h | h) <;> simp [h]
      · rintro (h | h | h) <;> simp [h]
    · split
      · rename_i h1 h2
        subst h2
        simp only [List.mem_cons]
        constructor
        · exact .inr
        · rintro (h | h) <;> simp [h]
      · simp [List.mem_cons]
theorem putS_sorted {n : Int} {l : List Int} (h : l.Pairwise (· < ·)) : (putS n l).Pairwise (· < ·) := by
  induction l with
  | nil => simp [putS]
  | cons x xs ih =>
    obtain ⟨h1, h2⟩ := List.pairwise_cons.1 h
    unfold putS
    split
    · refine List.pairwise_cons.2 ⟨fun y hy => ?_, ih h2⟩
      rcases putS_mem.1 hy with rfl | hy
      · assumption
      · exact h1 y hy
    · split
      · exact h
      · refine List.pairwise_cons.2 ⟨fun y hy => ?_, h⟩
        rcases List.mem_cons.1 hy with rfl | hy
        · omega
        · have := h1 y hy; omega
theorem putS_len {n : Int} {l : List Int} (h : l.Pairwise (· < ·)) : (putS n l).length = if n ∈ l then l.length else l.length + 1 := by
  induction l with
  | nil => simp [putS]
  | cons x xs ih =>
    obtain ⟨h1, h2⟩ := List.pairwise_cons.1 h
    unfold putS
    split
    · rename_i hlt
      have hne : n ≠ x := by omega
      simp only [List.length_cons, ih h2, List.mem_cons, hne, false_or]
      split <;> rfl
    · split
      · rename_i _ e
        rw [if_pos (by rw [e]; exact List.mem_cons_self ..)]
      · rename_i hlt hne
        rw [if_neg]
        · rfl
        · intro hm
          rcases List.mem_cons.1 hm with e | hm
          · exact hne e.symm
          · have := h1 n hm; omega

/-- the slots used, as the reference and as the program hold them -/
structure UsedRel (into : List Int) (used : List (Int × Value)) : Prop where
  sorted : into.Pairwise (· < ·)
  mem : ∀ y, y ∈ into ↔ ∃ p ∈ used, p.1 = y
  len : into.length = used.length
theorem UsedRel.nil : UsedRel [] [] := ⟨List.Pairwise.nil, fun y => by simp, rfl⟩
theorem UsedRel.put {into : List Int} {used : List (Int × Value)} (h : UsedRel into used) (a : Int) : UsedRel (putS a into) (putE a (.bool true) used) := by
  rcases findE_spec a used 0 with ⟨h1, h2⟩ | ⟨j, v, h1, h2⟩
  · have e : putE a (.bool true) used = used ++ [(a, .bool true)] := by unfold putE; rw [h1]
    have hn : a ∉ into := fun hm => by
      obtain ⟨p, hp, e⟩ := (h.mem a).1 hm
      exact h2 p hp e
    rw [e]
    refine ⟨putS_sorted h.sorted, fun y => ?_, ?_⟩
    · rw [putS_mem, h.mem y]
      constructor
      · rintro (rfl | ⟨p, hp, e⟩)
        · exact ⟨(y, .bool true), by simp, rfl⟩
        · exact ⟨p, by simp [hp], e⟩
      · rintro ⟨p, hp, e⟩
        rcases List.mem_append.1 hp with hp | hp
        · exact .inr ⟨p, hp, e⟩
        · simp only [List.mem_singleton] at hp
          subst hp
          exact .inl e.symm
    · rw [putS_len h.sorted, if_neg hn, h.len]; simp
  · have eP : putE a (.bool true) used = used.set j (a, .bool true) := by unfold putE; rw [h1]; simp
    have hm : a ∈ into := (h.mem a).2 ⟨(a, v), List.mem_of_getElem? h2, rfl⟩
    have hj : j < used.length := (List.getElem?_eq_some_iff.1 h2).1
    have hjv : used[j] = (a, v) := by rw [List.getElem?_eq_getElem hj] at h2; simpa using h2
    rw [eP]
    refine ⟨putS_sorted h.sorted, fun y => ?_, ?_⟩
    · rw [putS_mem, h.mem y]
      constructor
      · rintro (rfl | ⟨p, hp, e⟩)
        · exact ⟨(y, .bool true), List.mem_set hj _, rfl⟩
        · obtain ⟨i, hi, rfl⟩ := List.getElem_of_mem hp
          by_cases hij : i = j
          · subst hij
            rw [hjv] at e
            exact ⟨(a, .bool true), List.mem_set hj _, e⟩
          · refine ⟨used[i], List.mem_of_getElem? (i := i) ?_, e⟩
            rw [List.getElem?_set_ne (fun e => hij e.symm), List.getElem?_eq_getElem hi]
      · rintro ⟨p, hp, e⟩
        rcases List.mem_or_eq_of_mem_set hp with hp | rfl
        · exact .inr ⟨p, hp, e⟩
        · exact .inl e.symm
    · rw [putS_len h.sorted, if_pos hm, h.len]; simp

/-- the code of a run -/
def usC (l : List (Int × Int)) (ws : List Int) (slots : Int) : Int := if isSched l && wts ws then (if inR slots 0 8 then (if badV l ws.length slots.toNat < 0 then 0 else 4) else 2) else 1

end Go.Proofs.Ytkeamefifjmabaa
