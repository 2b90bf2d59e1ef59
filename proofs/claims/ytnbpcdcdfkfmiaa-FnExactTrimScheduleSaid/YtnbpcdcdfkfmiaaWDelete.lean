/- Walk of slices.Delete at one action of an own row. -/
import Derived.Test.YtnbpcdcdfkfmiaaWIdle2
import Derived.Deep.RegionLaw
import Derived.Laws.CopyOwn
namespace Go.Proofs.Ytnbpcdcdfkfmiaa
open Go.RowKit Plain

theorem splice_nil {α : Type} (L : List α) (o : Nat) : splice L o [] = L := by simp [splice]
theorem splice_cons {α : Type} (L : List α) (o : Nat) (v : α) (vs : List α) (h : o < L.length) : splice (L.set o v) (o + 1) vs = splice L o (v :: vs) := by
  unfold splice
  have e1 : (L.set o v).take (o + 1) = L.take o ++ [v] := by
    rw [List.take_add_one, List.take_set_of_le (Nat.le_refl _), List.getElem?_set_self h]; rfl
  have e2 : (L.set o v).drop (o + 1 + vs.length) = L.drop (o + (v :: vs).length) := by
    rw [List.drop_set_of_lt (by omega)]; simp only [List.length_cons]; congr 1; omega
  rw [e1, e2]; simp
theorem Cells.setCells {g : Nat} {t : TypeId} : ∀ (vs : List Value) (o : Nat) (w : World) (C : List Value), Cells w g t C → o + vs.length ≤ C.length → Cells (w.setCells g o vs) g t (splice C o vs) := by
  intro vs
  induction vs with
  | nil => intro o w C h _; rw [splice_nil]; exact h
  | cons v r ih =>
    intro o w C h hl
    simp only [List.length_cons] at hl
    have h1 := ih (o + 1) (w.setCell ⟨g, o, none⟩ v) (C.set o v) (h.set_ o v) (by simp; omega)
    rw [splice_cons C o v r (by omega)] at h1
    exact h1
theorem Only.setCells {g : Nat} : ∀ (vs : List Value) (o : Nat) (w : World), Only (fun q => q = g) w (w.setCells g o vs) := by
  intro vs
  induction vs with
  | nil => intro o w; exact Only.refl _ _
  | cons v r ih =>
    intro o w
    refine Only.trans (b := w.setCell ⟨g, o, none⟩ v) ⟨rfl, rfl, rfl, by simp [World.setCell], fun q _ hq => Below.heap_setCell _ _ _ _ hq⟩ (ih _ _)

/-- 'clear' of one element of several cells -/
theorem run_clear_one {P : Program} (w : World) (t e ty : TypeId) (z : Value) (ht : P.underlying t = some (.slice e)) (hv : ∀ w, (zeroValue e).run P w = .ok z w) (h1 : ∀ v ∈ z.cells.toList, v.oneCell' = true) (b o c : Nat)
    (hc : ∀ j, j < z.cells.size → (w.cell? ⟨b, o + j, none⟩).isSome = true) (hf : ∀ j, j < z.cells.size → w.frozen? ⟨b, o + j, none⟩ = false) :
    (Builtin.clear_ #[t] ty #[.slice (some ⟨b, o, none⟩) 1 c]).run P w = .ok (.tuple #[]) (w.setCells b o z.cells.toList) := by
  have hzc : (Builtin.zeroCells z.cells 1).toList = z.cells.toList := by
    unfold Builtin.zeroCells
    apply List.ext_getElem
    · simp
    · intro i h1 h2
      have h3 : i < z.cells.size := by simpa using h2
      simp [Nat.mod_eq_of_lt h3, getElem!_pos z.cells i h3]
  have hst := run_storeCells_cells (P := P) b o z.cells.toList 0 w (by simpa using hc) (by simpa using hf) h1
  simp only [Nat.add_zero] at hst
  simp [Builtin.clear_, run_underlying ht, hv, hzc, hst]

theorem ActRow.form' {w : World} {base g cap : Nat} {l : List (Int × Int)} (h : ActRow w base (.slice (some ⟨g, 0, none⟩) l.length cap) l) :
    base ≤ g ∧ l.length ≤ cap ∧ cap ≤ maxLen ∧ ∃ C : List Value, Cells w g 68 C ∧ C.length = cap * 2 ∧ C.take (l.length * 2) = flatA l := by
  rcases h.2 with ⟨hn, _⟩ | ⟨g', cap', cur, hv, hb, hg, hc, hm, hs, ht⟩
  · cases hn
  · injection hv with e1 e2 e3
    obtain rfl : g = g' := by simpa using e1
    subst e3
    refine ⟨hb, hc, hm, cur.toList, by simpa [Cells] using hg, by simpa using hs, by simpa using ht⟩
theorem ActRow.of_cells {w : World} {base g cap n : Nat} {l : List (Int × Int)} {C : List Value} (hn : n = l.length) (hb : base ≤ g) (hc : l.length ≤ cap) (hm : cap ≤ maxLen) (hC : Cells w g 68 C) (hl : C.length = cap * 2) (ht : C.take (l.length * 2) = flatA l) :
    ActRow w base (.slice (some ⟨g, 0, none⟩) n cap) l := by
  subst hn
  exact ⟨flatA_length l, .inr ⟨g, cap, C.toArray, rfl, hb, hC, hc, hm, by simpa using hl, by simpa using ht⟩⟩

theorem flatA_take (l : List (Int × Int)) (i : Nat) : flatA (l.take i) = (flatA l).take (i * 2) := by
  induction l generalizing i with
  | nil => simp [flatA]
  | cons x l ih =>
    cases i with
    | zero => simp [flatA]
    | succ i => rw [show (i + 1) * 2 = i * 2 + 1 + 1 by omega]; simp [flatA, ih]
theorem flatA_drop (l : List (Int × Int)) (i : Nat) : flatA (l.drop i) = (flatA l).drop (i * 2) := by
  induction l generalizing i with
  | nil => simp [flatA]
  | cons x l ih =>
    cases i with
    | zero => simp [flatA]
    | succ i => rw [show (i + 1) * 2 = i * 2 + 1 + 1 by omega]; simp [flatA, ih]

theorem zeroA (w : World) : (zeroValue 68).run Try.prog w = .ok (act 0 0) w := by kernel_rfl

/-- what Delete comes to -/
def DelPost (base g cap : Nat) (l : List (Int × Int)) (w : World) (e : Ending) (w' : World) : Prop :=
  e = .returned (.slice (some ⟨g, 0, none⟩) l.length cap) ∧ ActRow w' base (.slice (some ⟨g, 0, none⟩) l.length cap) l ∧ Only (fun q => q = g) w w'

set_option maxHeartbeats 1600000 in
set_option maxRecDepth 1000000 in
theorem delete_any (base g cap : Nat) (l : List (Int × Int)) (i : Nat) (w : World) (hR : ActRow w base (.slice (some ⟨g, 0, none⟩) l.length cap) l) (hi : i < l.length) (hm : cap ≤ 9223372036854775807) (hl4 : l.length ≤ 4611686018427387904) :
    Calls Try.prog 48 #[.slice (some ⟨g, 0, none⟩) l.length cap, .int .i64 i, .int .i64 ((i : Int) + 1)] w (DelPost base g cap (l.eraseIdx i) w) := by
  obtain ⟨i0, hi0, hz0, hz1, hz2⟩ := info_parts Try.infoA
  obtain ⟨hb, hlc, hmx, C, hC, hCl, hCt⟩ := hR.form'
  have hC1 : Cells w.drew g 68 C := hC.drewN 1
  obtain ⟨N, hN⟩ : ∃ N, N = flatA (l.drop (i + 1)) := ⟨_, rfl⟩
  have hNl : N.length = (l.length - (i + 1)) * 2 := by rw [hN, flatA_length]; simp
  obtain ⟨A, hA, hnews⟩ : ∃ A : Addr, (if cap = i + 1 then some (⟨g, 0, none⟩ : Addr) else some ⟨g, (i + 1) * 2, none⟩) = some A ∧ Hid (∀ j u, N[j]? = some u → w.drew.cell? (A.add j) = some u) := by
    by_cases h : cap = i + 1
    · refine ⟨_, by rw [if_pos h], fun j u hj => ?_⟩
      have : N = [] := List.length_eq_zero_iff.1 (by omega)
      rw [this] at hj; simp at hj
    · refine ⟨_, by rw [if_neg h], fun j u hj => ?_⟩
      rw [addr_add, hC1.cell]
      rw [hN, flatA_drop, List.getElem?_drop, ← hCt, List.getElem?_take] at hj
      split at hj
      · exact hj
      · cases hj
  have s1 : Hid (N.length = (l.length - (i + 1)) * 2) := hNl
  have s2 : Hid (∀ u ∈ N, u.oneCell' = true) := by show ∀ u ∈ N, _; rw [hN]; exact flatA_one
  have s3 : Hid (∀ j, j < N.length → (w.drew.cell? ⟨g, 0 + i * 2 + j, none⟩).isSome = true ∧ w.drew.frozen? ⟨g, 0 + i * 2 + j, none⟩ = false) := by
    intro j hj
    refine ⟨?_, hC1.frozen _⟩
    rw [hC1.cell, List.getElem?_eq_getElem (by omega)]; rfl
  obtain ⟨W1, hW1⟩ : ∃ W1, W1 = w.drew.setCells g (0 + i * 2) N := ⟨_, rfl⟩
  have hCW : Cells W1 g 68 (splice C (0 + i * 2) N) := by rw [hW1]; exact Cells.setCells N _ _ C hC1 (by omega)
  have hcl : ∀ ty, (Builtin.clear_ #[30] ty #[.slice (some ⟨g, (i + (l.length - (i + 1))) * 2, none⟩) (l.length - (i + (l.length - (i + 1)))) (cap - (i + (l.length - (i + 1))))]).run Try.prog W1 = .ok (.tuple #[]) (W1.setCells g ((i + (l.length - (i + 1))) * 2) [.int .i64 0, .int .i64 0]) := by
    intro ty
    rw [show l.length - (i + (l.length - (i + 1))) = 1 by omega]
    refine run_clear_one W1 _ _ ty (act 0 0) Try.underlying30 zeroA (by intro v hv; simp [act, Value.cells] at hv; rcases hv with rfl | rfl <;> rfl) g _ _ (fun j hj => ?_) (fun j _ => hCW.frozen _)
    have hj2 : j < 2 := hj
    rw [hCW.cell, List.getElem?_eq_getElem (by rw [length_splice _ _ _ (by omega)]; omega)]; rfl
  have hO : Hid (Only (fun q => q = g) w (W1.setCells g ((i + (l.length - (i + 1))) * 2) [.int .i64 0, .int .i64 0])) := by
    refine Only.trans (b := W1) ?_ (Only.setCells _ _ _)
    rw [hW1]
    exact Only.trans (b := w.drew) ((Only.refl _ w).drewN 1) (Only.setCells _ _ _)
  have hCF := Cells.setCells [.int .i64 0, .int .i64 0] ((i + (l.length - (i + 1))) * 2) _ _ hCW (by rw [length_splice _ _ _ (by omega)]; simp; omega)
  have hle : (l.eraseIdx i).length = i + (l.length - (i + 1)) := by rw [List.length_eraseIdx_of_lt hi]; omega
  have hF : Hid (ActRow (W1.setCells g ((i + (l.length - (i + 1))) * 2) [.int .i64 0, .int .i64 0]) base (.slice (some ⟨g, 0, none⟩) (i + (l.length - (i + 1))) cap) (l.eraseIdx i)) := by
    refine ActRow.of_cells hle.symm hb (by omega) hmx hCF (by rw [length_splice _ _ _ (by rw [length_splice _ _ _ (by omega)]; simp; omega), length_splice _ _ _ (by omega)]; exact hCl) ?_
    rw [hle, List.eraseIdx_eq_take_drop_succ, flatA_append, flatA_take, ← hN]
    have e1 : (splice (splice C (0 + i * 2) N) ((i + (l.length - (i + 1))) * 2) [.int .i64 0, .int .i64 0]).take ((i + (l.length - (i + 1))) * 2) = (splice C (0 + i * 2) N).take ((i + (l.length - (i + 1))) * 2) := by
      unfold splice
      rw [List.take_append_of_le_length (by simp; omega)]
      rw [List.take_take, Nat.min_self]
    rw [e1]
    unfold splice
    rw [Nat.zero_add]
    have hx : (C.take (i * 2)).length = i * 2 := by simp; omega
    have t1 : (C.take (i * 2)).take ((i + (l.length - (i + 1))) * 2) = C.take (i * 2) := by
      rw [List.take_take, Nat.min_eq_right (by omega)]
    have t2 : (N ++ C.drop (i * 2 + N.length)).take ((i + (l.length - (i + 1))) * 2 - i * 2) = N := by
      rw [List.take_append_of_le_length (by omega)]; exact List.take_of_length_le (by omega)
    rw [List.take_append, hx, t1, t2, ← hCt, List.take_take, Nat.min_eq_left (by omega)]
  have hW : Hid (W1 = w.drew.setCells g (0 + i * 2) N) := hW1
  have hLE := Lib.hid hle
  have hic : i ≤ cap := by omega
  have hcc : i + 1 ≤ cap := by omega
  have hii : ((i : Int) == (i : Int) + 1) = false := by simp; omega
  have hp0 : (0 : Int) ≤ (i : Int) + 1 := by omega
  have hp1 : (i : Int) + 1 ≤ (l.length : Int) := by omega
  have hp2 : ((i : Int) + 1).toNat = i + 1 := by omega
  have hwr : i + (l.length - (i + 1)) ≤ l.length := by omega
  have hwc : i + (l.length - (i + 1)) ≤ cap := by omega
  have hne : ¬ cap = i + (l.length - (i + 1)) := by omega
  clear hR hC hCl hCt hC1 hN hNl hW1 hCW hCF hle
  go_enter Try.func48, Try.ntmps48
  go_wp2_with fail
  go_region_law (refine step_append_room rfl (.tmp 22) (.tmp 25) 30 rfl 68 i0 2 Try.underlying30 hi0 hz1 g 0 i cap (by simp [Act.eval, Act.put]) A (l.length - (i + 1)) (cap - (i + 1)) N (by simp [Act.eval, Act.put]) s1.out hnews.out s2.out (by omega) s3.out ?_; rw [← hW.out])
  go_wp2
  go_ret
  unfold DelPost
  rw [hLE.out]
  exact ⟨rfl, hF.out, hO.out⟩

end Go.Proofs.Ytnbpcdcdfkfmiaa
