/- Walks of the program's series: sums and products. -/
import Derived.Test.YtbgjbppjnmolfaaWField
import Derived.Test.YtbgjbppjnmolfaaPSeries
import Derived.Test.YtbgjbppjnmolfaaWMark
import Derived.StillTailTactics
import Derived.BigRegion
namespace Go.Proofs.Ytbgjbppjnmolfaa
open Go.RowKit Plain

/-- a row of values -/
def rowF (n : Nat) (f : Nat → Int) : List Value := (mk n f).map (Value.int .i64)
theorem rowF_get {n : Nat} {f : Nat → Int} {k : Nat} (h : k < n) : (rowF n f)[k]? = some (.int .i64 (f k)) := by simp [rowF, mk, h]
theorem rowF_set {n k : Nat} {f : Nat → Int} (y : Int) : (rowF n f).set k (.int .i64 y) = rowF n fun j => if j = k then y else f j := by
  apply List.ext_getElem?
  intro i
  by_cases hi : i < n
  · rw [rowF_get hi]
    by_cases e : k = i
    · subst e; rw [List.getElem?_set_self (by simp [rowF, mk, hi])]; simp
    · rw [List.getElem?_set_ne e, rowF_get hi, if_neg (fun h => e h.symm)]
  · rw [List.getElem?_eq_none (by simp [rowF, mk]; omega), List.getElem?_eq_none (by simp [rowF, mk]; omega)]
theorem rowF_congr {n : Nat} {f g : Nat → Int} (h : ∀ k, k < n → f k = g k) : rowF n f = rowF n g := by unfold rowF; rw [mk_congr h]
theorem rowF_zero (n : Nat) : (List.replicate n (Value.int .i64 0)) = rowF n fun _ => 0 := by
  apply List.ext_getElem?
  intro i
  by_cases hi : i < n
  · rw [rowF_get hi]; simp [hi]
  · rw [List.getElem?_eq_none (by simp; omega), List.getElem?_eq_none (by simp [rowF, mk]; omega)]
/-- the values up to k, then x, then zeros -/
def upTo (f : Nat → Int) (k : Nat) (x : Int) : Nat → Int := fun j => if j < k then f j else if j = k then x else 0
theorem upTo_set {n k : Nat} {f : Nat → Int} {x : Int} (y : Int) : (rowF n (upTo f k x)).set k (.int .i64 y) = rowF n (upTo f k y) := by
  rw [rowF_set]
  refine rowF_congr fun j _ => ?_
  unfold upTo
  by_cases h : j = k
  · subst h; simp
  · simp [h]
theorem upTo_next {n k : Nat} {f : Nat → Int} : rowF n (upTo f k (f k)) = rowF n (upTo f (k + 1) 0) := by
  refine rowF_congr fun j _ => ?_
  unfold upTo
  rcases Nat.lt_trichotomy j k with h | rfl | h
  · rw [if_pos h, if_pos (by omega)]
  · rw [if_neg (by omega), if_pos rfl, if_pos (by omega)]
  · rw [if_neg (by omega), if_neg (by omega), if_neg (by omega)]; split <;> rfl
theorem upTo_zero {n : Nat} {f : Nat → Int} : rowF n (fun _ => 0) = rowF n (upTo f 0 0) := by
  refine rowF_congr fun j _ => ?_
  unfold upTo; rw [if_neg (by omega)]; split <;> rfl
theorem upTo_end {n : Nat} {f : Nat → Int} : rowF n (upTo f n 0) = (mk n f).map (Value.int .i64) := rowF_congr fun j h => by unfold upTo; rw [if_pos h]

theorem cell_row {w : World} {g n k : Nat} {t : TypeId} {f : Nat → Int} (h : Cells w g t (rowF n f)) (hk : k < n) : w.cell? ⟨g, k, none⟩ = some (.int .i64 (f k)) := by
  rw [h.cell, rowF_get hk]
theorem Ints.cfAt {w : World} {A : Option Addr} {a : List Int} (h : Ints w A a) (h0 : 0 < a.length) : ∃ b o, A = some ⟨b, o, none⟩ ∧ b < w.heap.size ∧ ∀ k, k < a.length → w.cell? ⟨b, o + k, none⟩ = some (.int .i64 (cf a k)) := by
  obtain ⟨b, o, e, hl, hc⟩ := h h0
  exact ⟨b, o, e, hl, fun k hk => hc k _ (cf_some hk)⟩

/-- what a call that makes a series comes to -/
def SerPost (zs : List Int) (w : World) (e : Ending) (w' : World) : Prop :=
  e = .returned (.slice (some ⟨w.heap.size, 0, none⟩) zs.length zs.length) ∧ Cells w' w.heap.size 2 (zs.map (Value.int .i64)) ∧ Below w.heap.size w w'
theorem Cells.intsM' {w : World} {g B : Nat} {t : TypeId} {zs : List Int} (h : Cells w g t (zs.map (Value.int .i64))) (hB : B ≤ g) : IntsM w B (some ⟨g, 0, none⟩) zs :=
  fun _ => ⟨g, 0, rfl, hB, h.lt, fun j x hx => ⟨by rw [h.cell, Nat.zero_add]; simp [hx], h.frozen _⟩⟩

set_option maxHeartbeats 1000000 in
theorem added_any (A B : Option Addr) (cap cap' : Nat) (a b : List Int) (w : World) (hA : Ints w A a) (hB : Ints w B b) (hl : b.length = a.length) (hn : a.length ≤ 1000000) (ha : IsS a) (hb : IsS b) :
    Calls Try.prog 35 #[.slice A a.length cap, .slice B a.length cap'] w (SerPost (addL a b) w) := by
  have hmk := run_make_row' (P := Try.prog) 30 2 (.int .i64 0) 8 Try.underlying30 Try.infoI rfl .i64 .i64 a.length (by omega) (by omega)
  rw [madeCells_one, rowF_zero, upTo_zero (f := fun k => pl (cf a k) (cf b k))] at hmk
  have HL := Lib.hid hl; clear hl
  go_enter Try.func35, Try.ntmps35
  go_wp2
  go_loopw [6, 12] (fun _ i wr => ∃ k : Nat, k ≤ a.length ∧ i = .int .i64 (k : Int) ∧ Hid (Cells wr w.heap.size 2 (rowF a.length (upTo (fun k => pl (cf a k) (cf b k)) k 0))) ∧ Hid (Below w.heap.size w wr)) (fun _ i _ => a.length - (intOf i).toNat)
  case atStart => exact ⟨0, by omega, by go_num, Cells.new w _ _, by show Below _ _ _; go_grown⟩
  case round =>
    obtain ⟨k, hk, rfl, HC, HB⟩ := hrel
    by_cases hlt : k < a.length
    · obtain ⟨b1, o1, rfl, _, hc1⟩ := (hA.below HB.out).cfAt (by omega)
      obtain ⟨b2, o2, rfl, _, hc2⟩ := (hB.below HB.out).cfAt (by rw [HL.out]; omega)
      have g1 := hc1 k hlt
      have g2 := hc2 k (by rw [HL.out]; exact hlt)
      have g3 := cell_row HC.out hlt
      have z3 : wr.frozen? ⟨w.heap.size, k, none⟩ = false := HC.out.frozen _
      have a1 := ha k
      have b1' := hb k
      have HN : Hid (∀ q, Cells ((wr.drewN q).setCell ⟨w.heap.size, k, none⟩ (.int .i64 ((cf a k + cf b k) % 1000003))) w.heap.size 2 (rowF a.length (upTo (fun k => pl (cf a k) (cf b k)) (k + 1) 0))) := by
        intro q
        have h := (HC.out.drewN q).set_ k (.int .i64 ((cf a k + cf b k) % 1000003))
        rw [upTo_set] at h
        rw [← upTo_next]; exact h
      clear hc1 hc2
      generalize cf a k = x at *
      generalize cf b k = y at *
      have hkl : (k : Int) < (a.length : Int) := by omega
      go_wp2
      go_region
      all_goals
        go_wp2
        go_roundw
        case rel => exact ⟨k + 1, by omega, by go_num, HN.out 1, (below_drewN' HB.out 1).setCell (Nat.le_refl _) _⟩
        case measure => simp [intOf]; omega
    · obtain rfl : k = a.length := by omega
      have HE := HC.out
      rw [upTo_end] at HE
      have HE := Lib.hid HE
      go_wp2
      go_ret
      unfold SerPost
      rw [addL_length]
      exact ⟨rfl, HE.out, HB.out⟩

theorem mulT_step (a b : List Int) (k i : Nat) : (rs (mulT a b k i) + cf a i * cf b (k - i)) % 1000003 = rs (mulT a b k (i + 1)) := by
  have : mulT a b k (i + 1) = mulT a b k i + cf a i * cf b (k - i) := rfl
  rw [this]; unfold rs; omega

set_option maxRecDepth 100000 in
set_option maxHeartbeats 1000000 in
theorem product_any (A B : Option Addr) (cap cap' : Nat) (a b : List Int) (w : World) (hA : Ints w A a) (hB : Ints w B b) (hl : b.length = a.length) (hn : a.length ≤ 1000000) (ha : IsS a) (hb : IsS b) :
    Calls Try.prog 36 #[.slice A a.length cap, .slice B a.length cap'] w (SerPost (mulL a b) w) := by
  have hmk := run_make_row' (P := Try.prog) 30 2 (.int .i64 0) 8 Try.underlying30 Try.infoI rfl .i64 .i64 a.length (by omega) (by omega)
  rw [madeCells_one, rowF_zero, upTo_zero (f := fun k => rs (mulT a b k (k + 1)))] at hmk
  have HL := Lib.hid hl; clear hl
  go_enter Try.func36, Try.ntmps36
  go_wp2
  go_loopw [6, 7, 13] (fun _ _ i wr => ∃ k : Nat, k ≤ a.length ∧ i = .int .i64 (k : Int) ∧ Hid (Cells wr w.heap.size 2 (rowF a.length (upTo (fun k => rs (mulT a b k (k + 1))) k 0))) ∧ Hid (Below w.heap.size w wr)) (fun _ _ i _ => a.length - (intOf i).toNat)
  case atStart => exact ⟨0, by omega, by go_num, Cells.new w _ _, by show Below _ _ _; go_grown⟩
  case round =>
    obtain ⟨k, hk, rfl, HC, HB⟩ := hrel
    by_cases hlt : k < a.length
    · have hkl : (k : Int) < (a.length : Int) := by omega
      obtain ⟨wo, rfl⟩ : ∃ wo : World, wo = wr := ⟨_, rfl⟩
      go_wp2
      go_loopw [7] (fun i wi => ∃ j : Nat, j ≤ k + 1 ∧ i = .int .i64 (j : Int) ∧ Hid (Cells wi w.heap.size 2 (rowF a.length (upTo (fun k => rs (mulT a b k (k + 1))) k (rs (mulT a b k j))))) ∧ Hid (Below w.heap.size w wi)) (fun i _ => k + 1 - (intOf i).toNat)
      case atStart => exact ⟨0, by omega, by go_num, HC.out, HB.out⟩
      case round =>
        obtain ⟨j, hj, rfl, HCi, HBi⟩ := hrel
        by_cases hjk : (j : Int) ≤ (k : Int)
        · obtain ⟨b1, o1, rfl, _, hc1⟩ := (hA.below HBi.out).cfAt (by omega)
          obtain ⟨b2, o2, rfl, _, hc2⟩ := (hB.below HBi.out).cfAt (by rw [HL.out]; omega)
          have g1 := hc1 j (by omega)
          have g2 := hc2 (k - j) (by rw [HL.out]; omega)
          have g3 := cell_row HCi.out hlt
          have e3 : upTo (fun k => rs (mulT a b k (k + 1))) k (rs (mulT a b k j)) k = rs (mulT a b k j) := by unfold upTo; rw [if_neg (by omega), if_pos rfl]
          rw [e3] at g3
          have z3 : wr.frozen? ⟨w.heap.size, k, none⟩ = false := HCi.out.frozen _
          have a1 := ha j
          have b1' := hb (k - j)
          have r1 := rs_bd (mulT a b k j)
          have m1 := mul_bd a1.1 a1.2 b1'.1 b1'.2
          have HN : Hid (∀ q, Cells ((wr.drewN q).setCell ⟨w.heap.size, k, none⟩ (.int .i64 ((rs (mulT a b k j) + cf a j * cf b (k - j)) % 1000003))) w.heap.size 2 (rowF a.length (upTo (fun k => rs (mulT a b k (k + 1))) k (rs (mulT a b k (j + 1)))))) := by
            intro q
            have h := (HCi.out.drewN q).set_ k (.int .i64 ((rs (mulT a b k j) + cf a j * cf b (k - j)) % 1000003))
            rw [upTo_set] at h
            rw [← mulT_step]; exact h
          clear hc1 hc2 e3
          generalize cf a j = x at *
          generalize cf b (k - j) = y at *
          generalize rs (mulT a b k j) = z at *
          have hjl : (j : Int) < (a.length : Int) := by omega
          have hs0 : (0 : Int) ≤ (k : Int) - (j : Int) := by omega
          have hs1 : (k : Int) - (j : Int) < (a.length : Int) := by omega
          have hs2 : ((k : Int) - (j : Int)).toNat = k - j := by omega
          go_wp2
          go_region
          all_goals
            go_wp2
            go_roundw
            case rel => exact ⟨j + 1, by omega, by go_num, HN.out 1, (below_drewN' HBi.out 1).setCell (Nat.le_refl _) _⟩
            case measure => simp [intOf]; omega
        · obtain rfl : j = k + 1 := by omega
          have HE := HCi.out
          have e : upTo (fun k => rs (mulT a b k (k + 1))) k (rs (mulT a b k (k + 1))) = upTo (fun k => rs (mulT a b k (k + 1))) k ((fun k => rs (mulT a b k (k + 1))) k) := rfl
          rw [e, upTo_next] at HE
          have HE := Lib.hid HE
          clear e
          go_wp2
          go_roundw
          case rel => exact ⟨k + 1, by omega, by go_num, HE.out, HBi.out⟩
          case measure => simp [intOf]; omega
    · obtain rfl : k = a.length := by omega
      have HE := HC.out
      rw [upTo_end] at HE
      have HE := Lib.hid HE
      go_wp2
      go_ret
      unfold SerPost
      rw [mulL_length]
      exact ⟨rfl, HE.out, HB.out⟩

/-- the difference -/
theorem minus_any (a b : Int) (w : World) : Calls Try.prog 41 #[.int .i64 a, .int .i64 b] w fun e w' => e = .returned (.int .i64 (rs (a - b))) ∧ w = w' := by
  have hb := rs_bd b
  have H : Hid (pl a (1000003 - rs b) = rs (a - b)) := by show _ = _; unfold pl rs; omega
  go_enter Try.func41, Try.ntmps41
  go_wp2_with fail
  refine (residue_any b _).mono ?_; rintro e w' ⟨rfl, rfl⟩
  generalize rs b = y at *
  go_wp2_with fail
  refine (plus_any _ _ _).mono ?_; rintro e w' ⟨rfl, rfl⟩
  go_wp2
  go_ret
  exact ⟨ret_int H.out, rfl⟩

end Go.Proofs.Ytbgjbppjnmolfaa
