/- Texts put together: WSer, WSer2, WSer3. -/
import Derived.Test.YtlnikpjcggfdmaaKB
import Derived.Test.YtlnikpjcggfdmaaKA
import Derived.StillTailTactics
import Derived.BigRegion
import Derived.Lib.SliceRun

/- Walks of the program's series: sums and products. -/
namespace Go.Proofs.Ytlnikpjcggfdmaa
open Go.RowKit Plain

/-- a row of values -/
def rowF (n : Nat) (f : Nat → Int) : List Value := (mk n f).map (Value.int .i64)
theorem rowF_get {n : Nat} {f : Nat → Int} {k : Nat} (h : k < n) : (rowF n f)[k]? = some (.int .i64 (f k)) := by simp [rowF, mk, h]
theorem rowF_set {n k : Nat} {f : Nat → Int} (y : Int) : (rowF n f).set k (.int .i64 y) = rowF n fun j => if j = k then y else f j := by
  apply List.ext_getElem?
  intro i
  by_cases hi : i < n
  · rw [rowF_get hi]
    by_cases e : k = i
    · subst e; rw [List.getElem?_set_self (by simp [rowF, mk, hi])]; simp
    · rw [List.getElem?_set_ne e, rowF_get hi, if_neg (fun h => e h.symm)]
  · rw [List.getElem?_eq_none (by simp [rowF, mk]; omega), List.getElem?_eq_none (by simp [rowF, mk]; omega)]
theorem rowF_congr {n : Nat} {f g : Nat → Int} (h : ∀ k, k < n → f k = g k) : rowF n f = rowF n g := by unfold rowF; rw [mk_congr h]
theorem rowF_zero (n : Nat) : (List.replicate n (Value.int .i64 0)) = rowF n fun _ => 0 := by
  apply List.ext_getElem?
  intro i
  by_cases hi : i < n
  · rw [rowF_get hi]; simp [hi]
  · rw [List.getElem?_eq_none (by simp; omega), List.getElem?_eq_none (by simp [rowF, mk]; omega)]
/-- the values up to k, then x, then zeros -/
def upTo (f : Nat → Int) (k : Nat) (x : Int) : Nat → Int := fun j => if j < k then f j else if j = k then x else 0
theorem upTo_set {n k : Nat} {f : Nat → Int} {x : Int} (y : Int) : (rowF n (upTo f k x)).set k (.int .i64 y) = rowF n (upTo f k y) := by
  rw [rowF_set]
  refine rowF_congr fun j _ => ?_
  unfold upTo
  by_cases h : j = k
  · subst h; simp
  · simp [h]
theorem upTo_next {n k : Nat} {f : Nat → Int} : rowF n (upTo f k (f k)) = rowF n (upTo f (k + 1) 0) := by
  refine rowF_congr fun j _ => ?_
  unfold upTo
  rcases Nat.lt_trichotomy j k with h | rfl | h
  · rw [if_pos h, if_pos (by omega)]
  · rw [if_neg (by omega), if_pos rfl, if_pos (by omega)]
  · rw [if_neg (by omega), if_neg (by omega), if_neg (by omega)]; split <;> rfl
theorem upTo_zero {n : Nat} {f : Nat → Int} : rowF n (fun _ => 0) = rowF n (upTo f 0 0) := by
  refine rowF_congr fun j _ => ?_
  unfold upTo; rw [if_neg (by omega)]; split <;> rfl
theorem upTo_end {n : Nat} {f : Nat → Int} : rowF n (upTo f n 0) = (mk n f).map (Value.int .i64) := rowF_congr fun j h => by unfold upTo; rw [if_pos h]

theorem cell_row {w : World} {g n k : Nat} {t : TypeId} {f : Nat → Int} (h : Cells w g t (rowF n f)) (hk : k < n) : w.cell? ⟨g, k, none⟩ = some (.int .i64 (f k)) := by
  rw [h.cell, rowF_get hk]
theorem Ints.cfAt {w : World} {A : Option Addr} {a : List Int} (h : Ints w A a) (h0 : 0 < a.length) : ∃ b o, A = some ⟨b, o, none⟩ ∧ b < w.heap.size ∧ ∀ k, k < a.length → w.cell? ⟨b, o + k, none⟩ = some (.int .i64 (cf a k)) := by
  obtain ⟨b, o, e, hl, hc⟩ := h h0
  exact ⟨b, o, e, hl, fun k hk => hc k _ (cf_some hk)⟩

/-- what a call that makes a series comes to -/
def SerPost (zs : List Int) (w : World) (e : Ending) (w' : World) : Prop :=
  e = .returned (.slice (some ⟨w.heap.size, 0, none⟩) zs.length zs.length) ∧ Cells w' w.heap.size 2 (zs.map (Value.int .i64)) ∧ Below w.heap.size w w'
theorem Cells.intsM' {w : World} {g B : Nat} {t : TypeId} {zs : List Int} (h : Cells w g t (zs.map (Value.int .i64))) (hB : B ≤ g) : IntsM w B (some ⟨g, 0, none⟩) zs :=
  fun _ => ⟨g, 0, rfl, hB, h.lt, fun j x hx => ⟨by rw [h.cell, Nat.zero_add]; simp [hx], h.frozen _⟩⟩

set_option maxHeartbeats 1000000 in
theorem added_any (A B : Option Addr) (cap cap' : Nat) (a b : List Int) (w : World) (hA : Ints w A a) (hB : Ints w B b) (hl : b.length = a.length) (hn : a.length ≤ 1000000) (ha : IsS a) (hb : IsS b) :
    Calls Try.prog 129 #[.slice A a.length cap, .slice B a.length cap'] w (SerPost (addL a b) w) := by
  have hmk := run_make_row' (P := Try.prog) 25 2 (.int .i64 0) 8 Try.underlying25 Try.infoI rfl .i64 .i64 a.length (by omega) (by omega)
  rw [madeCells_one, rowF_zero, upTo_zero (f := fun k => pl (cf a k) (cf b k))] at hmk
  have HL := Lib.hid hl; clear hl
  go_enter Try.func129, Try.ntmps129
  go_wp2
  go_loopw [6, 12] (fun _ i wr => ∃ k : Nat, k ≤ a.length ∧ i = .int .i64 (k : Int) ∧ Hid (Cells wr w.heap.size 2 (rowF a.length (upTo (fun k => pl (cf a k) (cf b k)) k 0))) ∧ Hid (Below w.heap.size w wr)) (fun _ i _ => a.length - (intOf i).toNat)
  case atStart => exact ⟨0, by omega, by go_num, Cells.new w _ _, by show Below _ _ _; go_grown⟩
  case round =>
    obtain ⟨k, hk, rfl, HC, HB⟩ := hrel
    by_cases hlt : k < a.length
    · obtain ⟨b1, o1, rfl, _, hc1⟩ := (hA.below HB.out).cfAt (by omega)
      obtain ⟨b2, o2, rfl, _, hc2⟩ := (hB.below HB.out).cfAt (by rw [HL.out]; omega)
      have g1 := hc1 k hlt
      have g2 := hc2 k (by rw [HL.out]; exact hlt)
      have g3 := cell_row HC.out hlt
      have z3 : wr.frozen? ⟨w.heap.size, k, none⟩ = false := HC.out.frozen _
      have a1 := ha k
      have b1' := hb k
      have HN : Hid (∀ q, Cells ((wr.drewN q).setCell ⟨w.heap.size, k, none⟩ (.int .i64 ((cf a k + cf b k) % 1000003))) w.heap.size 2 (rowF a.length (upTo (fun k => pl (cf a k) (cf b k)) (k + 1) 0))) := by
        intro q
        have h := (HC.out.drewN q).set_ k (.int .i64 ((cf a k + cf b k) % 1000003))
        rw [upTo_set] at h
        rw [← upTo_next]; exact h
      clear hc1 hc2
      generalize cf a k = x at *
      generalize cf b k = y at *
      have hkl : (k : Int) < (a.length : Int) := by omega
      go_wp2
      go_region
      all_goals
        go_wp2
        go_roundw
        case rel => exact ⟨k + 1, by omega, by go_num, HN.out 1, (below_drewN' HB.out 1).setCell (Nat.le_refl _) _⟩
        case measure => simp [intOf]; omega
    · obtain rfl : k = a.length := by omega
      have HE := HC.out
      rw [upTo_end] at HE
      have HE := Lib.hid HE
      go_wp2
      go_ret
      unfold SerPost
      rw [addL_length]
      exact ⟨rfl, HE.out, HB.out⟩

theorem mulT_step (a b : List Int) (k i : Nat) : (rs (mulT a b k i) + cf a i * cf b (k - i)) % 1000003 = rs (mulT a b k (i + 1)) := by
  have : mulT a b k (i + 1) = mulT a b k i + cf a i * cf b (k - i) := rfl
  rw [this]; unfold rs; omega

set_option maxRecDepth 100000 in
set_option maxHeartbeats 1000000 in
theorem product_any (A B : Option Addr) (cap cap' : Nat) (a b : List Int) (w : World) (hA : Ints w A a) (hB : Ints w B b) (hl : b.length = a.length) (hn : a.length ≤ 1000000) (ha : IsS a) (hb : IsS b) :
    Calls Try.prog 131 #[.slice A a.length cap, .slice B a.length cap'] w (SerPost (mulL a b) w) := by
  have hmk := run_make_row' (P := Try.prog) 25 2 (.int .i64 0) 8 Try.underlying25 Try.infoI rfl .i64 .i64 a.length (by omega) (by omega)
  rw [madeCells_one, rowF_zero, upTo_zero (f := fun k => rs (mulT a b k (k + 1)))] at hmk
  have HL := Lib.hid hl; clear hl
  go_enter Try.func131, Try.ntmps131
  go_wp2
  go_loopw [6, 7, 13] (fun _ _ i wr => ∃ k : Nat, k ≤ a.length ∧ i = .int .i64 (k : Int) ∧ Hid (Cells wr w.heap.size 2 (rowF a.length (upTo (fun k => rs (mulT a b k (k + 1))) k 0))) ∧ Hid (Below w.heap.size w wr)) (fun _ _ i _ => a.length - (intOf i).toNat)
  case atStart => exact ⟨0, by omega, by go_num, Cells.new w _ _, by show Below _ _ _; go_grown⟩
  case round =>
    obtain ⟨k, hk, rfl, HC, HB⟩ := hrel
    by_cases hlt : k < a.length
    · have hkl : (k : Int) < (a.length : Int) := by omega
      obtain ⟨wo, rfl⟩ : ∃ wo : World, wo = wr := ⟨_, rfl⟩
      go_wp2
      go_loopw [7] (fun i wi => ∃ j : Nat, j ≤ k + 1 ∧ i = .int .i64 (j : Int) ∧ Hid (Cells wi w.heap.size 2 (rowF a.length (upTo (fun k => rs (mulT a b k (k + 1))) k (rs (mulT a b k j))))) ∧ Hid (Below w.heap.size w wi)) (fun i _ => k + 1 - (intOf i).toNat)
      case atStart => exact ⟨0, by omega, by go_num, HC.out, HB.out⟩
      case round =>
        obtain ⟨j, hj, rfl, HCi, HBi⟩ := hrel
        by_cases hjk : (j : Int) ≤ (k : Int)
        · obtain ⟨b1, o1, rfl, _, hc1⟩ := (hA.below HBi.out).cfAt (by omega)
          obtain ⟨b2, o2, rfl, _, hc2⟩ := (hB.below HBi.out).cfAt (by rw [HL.out]; omega)
          have g1 := hc1 j (by omega)
          have g2 := hc2 (k - j) (by rw [HL.out]; omega)
          have g3 := cell_row HCi.out hlt
          have e3 : upTo (fun k => rs (mulT a b k (k + 1))) k (rs (mulT a b k j)) k = rs (mulT a b k j) := by unfold upTo; rw [if_neg (by omega), if_pos rfl]
          rw [e3] at g3
          have z3 : wr.frozen? ⟨w.heap.size, k, none⟩ = false := HCi.out.frozen _
          have a1 := ha j
          have b1' := hb (k - j)
          have r1 := rs_bd (mulT a b k j)
          have m1 := mul_bd a1.1 a1.2 b1'.1 b1'.2
          have HN : Hid (∀ q, Cells ((wr.drewN q).setCell ⟨w.heap.size, k, none⟩ (.int .i64 ((rs (mulT a b k j) + cf a j * cf b (k - j)) % 1000003))) w.heap.size 2 (rowF a.length (upTo (fun k => rs (mulT a b k (k + 1))) k (rs (mulT a b k (j + 1)))))) := by
            intro q
            have h := (HCi.out.drewN q).set_ k (.int .i64 ((rs (mulT a b k j) + cf a j * cf b (k - j)) % 1000003))
            rw [upTo_set] at h
            rw [← mulT_step]; exact h
          clear hc1 hc2 e3
          generalize cf a j = x at *
          generalize cf b (k - j) = y at *
          generalize rs (mulT a b k j) = z at *
          have hjl : (j : Int) < (a.length : Int) := by omega
          have hs0 : (0 : Int) ≤ (k : Int) - (j : Int) := by omega
          have hs1 : (k : Int) - (j : Int) < (a.length : Int) := by omega
          have hs2 : ((k : Int) - (j : Int)).toNat = k - j := by omega
          go_wp2
          go_region
          all_goals
            go_wp2
            go_roundw
            case rel => exact ⟨j + 1, by omega, by go_num, HN.out 1, (below_drewN' HBi.out 1).setCell (Nat.le_refl _) _⟩
            case measure => simp [intOf]; omega
        · obtain rfl : j = k + 1 := by omega
          have HE := HCi.out
          have e : upTo (fun k => rs (mulT a b k (k + 1))) k (rs (mulT a b k (k + 1))) = upTo (fun k => rs (mulT a b k (k + 1))) k ((fun k => rs (mulT a b k (k + 1))) k) := rfl
          rw [e, upTo_next] at HE
          have HE := Lib.hid HE
          clear e
          go_wp2
          go_roundw
          case rel => exact ⟨k + 1, by omega, by go_num, HE.out, HBi.out⟩
          case measure => simp [intOf]; omega
    · obtain rfl : k = a.length := by omega
      have HE := HC.out
      rw [upTo_end] at HE
      have HE := Lib.hid HE
      go_wp2
      go_ret
      unfold SerPost
      rw [mulL_length]
      exact ⟨rfl, HE.out, HB.out⟩

/-- the difference -/
theorem minus_any (a b : Int) (w : World) : Calls Try.prog 51 #[.int .i64 a, .int .i64 b] w fun e w' => e = .returned (.int .i64 (rs (a - b))) ∧ w = w' := by
  have hb := rs_bd b
  have H : Hid (pl a (1000003 - rs b) = rs (a - b)) := by show _ = _; unfold pl rs; omega
  go_enter Try.func51, Try.ntmps51
  go_wp2_with fail
  refine (residue_any b _).mono ?_; rintro e w' ⟨rfl, rfl⟩
  generalize rs b = y at *
  go_wp2_with fail
  refine (plus_any _ _ _).mono ?_; rintro e w' ⟨rfl, rfl⟩
  go_wp2
  go_ret
  exact ⟨ret_int H.out, rfl⟩

end Go.Proofs.Ytlnikpjcggfdmaa

/- Walk of the program's quotient of series. -/
namespace Go.Proofs.Ytlnikpjcggfdmaa
open Go.RowKit Plain

theorem minus_quiet (a b : Int) (w : World) : Calls Try.prog 51 #[.int .i64 a, .int .i64 b] w fun e w' => e = .returned (.int .i64 (rs (a - b))) ∧ w' = w :=
  (minus_any a b w).mono fun _ _ ⟨h1, h2⟩ => ⟨h1, h2.symm⟩
theorem inverse_quiet (a : Int) (w : World) : Calls Try.prog 139 #[.int .i64 a] w fun e w' => e = .returned (.int .i64 (iv a)) ∧ w' = w :=
  (inverse_any a w).mono fun _ _ ⟨h1, h2⟩ => ⟨h1, h2.symm⟩

/-- the products that a quotient's coefficient takes away -/
def divS (a b : List Int) (k j : Nat) : Int := sumN (fun i => cf (divL a b) i * cf b (k - i)) j
theorem divL_cf (a b : List Int) {k : Nat} (h : k < a.length) : cf (divL a b) k = tm (rs (cf a k - divS a b k k)) (iv (cf b 0)) := by
  unfold divL
  rw [divT_cf' a b (k + 1) a.length k (by omega) (by omega), divT_last]
  unfold divS
  congr 3
  exact sumN_congr _ fun i hi => by unfold divL; rw [divT_cf' a b k a.length i hi (by omega)]

set_option maxRecDepth 100000 in
set_option maxHeartbeats 2000000 in
theorem quotient_any (A B : Option Addr) (cap cap' : Nat) (a b : List Int) (w : World) (hA : Ints w A a) (hB : Ints w B b) (hl : b.length = a.length) (hn : a.length ≤ 1000000) (h0 : 0 < a.length) (ha : IsS a) (hb : IsS b) :
    Calls Try.prog 133 #[.slice A a.length cap, .slice B a.length cap'] w (SerPost (divL a b) w) := by
  have hmk := run_make_row' (P := Try.prog) 25 2 (.int .i64 0) 8 Try.underlying25 Try.infoI rfl .i64 .i64 a.length (by omega) (by omega)
  rw [madeCells_one, rowF_zero, upTo_zero (f := cf (divL a b))] at hmk
  have HL := Lib.hid hl; clear hl
  obtain ⟨b2, o2, rfl, hlt2, hc2⟩ := hB.cfAt (by rw [HL.out]; exact h0)
  have g0 := hc2 0 (by rw [HL.out]; exact h0)
  simp only [Nat.add_zero] at g0
  have g0' : (w.alloc (.cells (rowF a.length (upTo (cf (divL a b)) 0 0)).toArray 2)).cell? ⟨b2, o2, none⟩ = some (.int .i64 (cf b 0)) := Lib.cell?_alloc_some _ g0
  have hiv := iv_bd (cf b 0)
  have h0' : (0 : Int) < (a.length : Int) := by omega
  clear hc2
  have HB := Lib.hid hB; clear hB
  go_enter Try.func133, Try.ntmps133
  go_wp2
  go_region_with (go_at_call 139; refine (inverse_any _ _).mono ?_; rintro e w' ⟨rfl, rfl⟩)
  all_goals
    go_wp2
    generalize hfi : iv (cf b 0) = fi at *
    have HFI := Lib.hid hfi; clear hfi
    go_loopw [7, 8, 9, 19] (fun _ _ _ i wr => ∃ k : Nat, k ≤ a.length ∧ i = .int .i64 (k : Int) ∧ Hid (Cells wr w.heap.size 2 (rowF a.length (upTo (cf (divL a b)) k 0))) ∧ Hid (Below w.heap.size w wr)) (fun _ _ _ i _ => a.length - (intOf i).toNat)
    case atStart => exact ⟨0, by omega, by go_num, (Cells.new w _ _).drewN 1, by show Below _ _ _; go_grown⟩
    case round =>
      obtain ⟨k, hk, rfl, HC, HBw⟩ := hrel
      by_cases hlt : k < a.length
      · have hkl : (k : Int) < (a.length : Int) := by omega
        obtain ⟨b1, o1, rfl, _, hc1⟩ := (hA.below HBw.out).cfAt (by omega)
        have g1 := hc1 k hlt
        have ha1 := ha k
        have HR0 : Hid (cf a k = rs (cf a k - divS a b k 0)) := by show _ = _; unfold divS sumN rs; omega
        clear hc1
        generalize hx : cf a k = x at *
        have HX := Lib.hid hx; clear hx
        obtain ⟨wo, rfl⟩ : ∃ wo : World, wo = wr := ⟨_, rfl⟩
        go_wp2
        go_loopw [8, 9] (fun r i wi => ∃ j : Nat, j ≤ k ∧ i = .int .i64 (j : Int) ∧ r = .int .i64 (rs (x - divS a b k j)) ∧ Hid (Cells wi w.heap.size 2 (rowF a.length (upTo (cf (divL a b)) k 0))) ∧ Hid (Below w.heap.size w wi)) (fun _ i _ => k - (intOf i).toNat)
        case atStart => exact ⟨0, by omega, by go_num, by rw [← HR0.out], HC.out, HBw.out⟩
        case round =>
          obtain ⟨j, hj, rfl, rfl, HCi, HBi⟩ := hrel
          by_cases hjk : j < k
          · obtain ⟨b3, o3, e3, _, hc3⟩ := (HB.out.below HBi.out).cfAt (by rw [HL.out]; omega)
            obtain ⟨rfl, rfl⟩ : b2 = b3 ∧ o2 = o3 := by simpa using e3
            clear e3
            have g2 := hc3 (k - j) (by rw [HL.out]; omega)
            have g3 := cell_row HCi.out (show j < a.length by omega)
            have e3 : upTo (cf (divL a b)) k 0 j = cf (divL a b) j := by unfold upTo; rw [if_pos hjk]
            rw [e3] at g3
            have d1 := isS_div a b j
            have b1' := hb (k - j)
            have m1 := mul_bd d1.1 d1.2 b1'.1 b1'.2
            have r1 := rs_bd (x - divS a b k j)
            have HS : Hid (rs (rs (x - divS a b k j) - cf (divL a b) j * cf b (k - j)) = rs (x - divS a b k (j + 1))) := by
              have : divS a b k (j + 1) = divS a b k j + cf (divL a b) j * cf b (k - j) := rfl
              show _ = _
              rw [this]; unfold rs; omega
            clear hc3 e3
            generalize cf (divL a b) j = u at *
            generalize cf b (k - j) = v at *
            generalize rs (x - divS a b k j) = z at *
            have hjl : (j : Int) < (a.length : Int) := by omega
            have hs0 : (0 : Int) ≤ (k : Int) - (j : Int) := by omega
            have hs1 : (k : Int) - (j : Int) < (a.length : Int) := by omega
            have hs2 : ((k : Int) - (j : Int)).toNat = k - j := by omega
            have hwm : IntKind.i64.wrap (u * v) = u * v := by rw [IntKind.wrap_i64]; omega
            go_wp2
            go_quiet ((go_at_call 51; exact Calls.quiet_of_same (minus_quiet _ _ _)))
            rename Nat => nq
            go_wp2
            go_roundw
            case rel => exact ⟨j + 1, by omega, by go_num, by rw [HS.out], HCi.out.drewN _, below_drewN' HBi.out _⟩
            case measure => simp [intOf]; omega
          · obtain rfl : j = k := by omega
            have r1 := rs_bd (x - divS a b j j)
            have m1 := mul_bd r1.1 r1.2 hiv.1 hiv.2
            have z3 : wr.frozen? ⟨w.heap.size, j, none⟩ = false := HCi.out.frozen _
            have g3 := cell_row HCi.out hlt
            have HN : Hid (Cells (wr.setCell ⟨w.heap.size, j, none⟩ (.int .i64 (rs (x - divS a b j j) * fi % 1000003))) w.heap.size 2 (rowF a.length (upTo (cf (divL a b)) (j + 1) 0))) := by
              have h := HCi.out.set_ j (.int .i64 (rs (x - divS a b j j) * fi % 1000003))
              rw [upTo_set] at h
              rw [← upTo_next, divL_cf a b hlt, HX.out, HFI.out]; exact h
            generalize rs (x - divS a b j j) = z at *
            go_wp2
            go_roundw
            case rel => exact ⟨j + 1, by omega, by go_num, HN.out, HBi.out.setCell (Nat.le_refl _) _⟩
            case measure => simp [intOf]; omega
      · obtain rfl : k = a.length := by omega
        have HE := HC.out
        rw [upTo_end] at HE
        have HE := Lib.hid HE
        have HM : Hid (mk a.length (cf (divL a b)) = divL a b) := by show _ = _; have h := mk_cf (divL a b); rwa [divL_length] at h
        go_wp2
        go_ret
        unfold SerPost
        rw [divL_length]
        refine ⟨rfl, ?_, HBw.out⟩
        rw [← HM.out]; exact HE.out

end Go.Proofs.Ytlnikpjcggfdmaa

/- Walks: ValidSeries, areSeries, AddSeries, MulSeries, DivSeries of the program. -/
namespace Go.Proofs.Ytlnikpjcggfdmaa
open Go.RowKit Plain

/-- are all of them numbers? -/
def nums' (zs : List Int) : Bool := zs.all fun x => inR x 0 1000002
/-- is it a series? -/
def serB (zs : List Int) : Bool := inR zs.length 1 13 && nums' zs
theorem isNumber_any (x : Int) (w : World) : Calls Try.prog 75 #[.int .i64 x] w fun e w' => e = .returned (.bool (inR x 0 1000002)) ∧ w = w' := by
  go_enter Try.func75, Try.ntmps75
  go_wp2_with fail
  refine (within_any _ _ _ _).mono ?_; rintro e w' ⟨rfl, rfl⟩
  go_wp2
  go_ret
  exact ⟨rfl, rfl⟩
theorem notNumber (x : Int) (w : World) : Calls Try.prog 74 #[.int .i64 x] w fun e w' => e = .returned (.bool (!inR x 0 1000002)) ∧ w = w' := by
  go_enter Try.func74, Try.ntmps74
  go_wp2_with fail
  refine (isNumber_any _ _).mono ?_; rintro e w' ⟨rfl, rfl⟩
  go_wp2
  all_goals (go_ret; exact ⟨by simp [*], rfl⟩)
theorem any_notN {zs : List Int} : zs.any (fun x => !inR x 0 1000002) = !nums' zs := by
  unfold nums'
  induction zs with
  | nil => rfl
  | cons x l ih => simp only [List.any_cons, List.all_cons, ih, Bool.not_and]

theorem areNumbers_any (A : Option Addr) (cap : Nat) (zs : List Int) (n : Int) (w : World) (hA : Ints w A zs) (hn : zs.length ≤ 4611686018427387904) :
    Calls Try.prog 34 #[.slice A zs.length cap, .int .i64 n] w fun e w' => e = .returned (.bool (decide ((zs.length : Int) = n) && nums' zs)) ∧ w = w' := by
  have hp : Hid (∀ x, Calls Try.prog 74 (#[.int .i64 x] ++ #[]) w fun e w' => e = .returned (.bool ((fun x => !inR x 0 1000002) x)) ∧ w = w') := fun x => notNumber x w
  have hf : Enters 74 := enters Try.func74 (by kernel_rfl) rfl
  by_cases h : (zs.length : Int) = n
  · have hd : ((zs.length : Int) == n) = true := by simpa using h
    have HE : Hid ((decide ((zs.length : Int) = n) && nums' zs) = !(zs.any fun x => !inR x 0 1000002)) := by show _ = _; rw [any_notN]; simp [h]
    have H := Lib.hid h; clear h
    go_enter Try.func34, Try.ntmps34
    go_wp2_with fail
    refine (containsFuncI A cap zs w hA hn 74 hf #[] _ hp).mono ?_; rintro e w' ⟨rfl, rfl⟩
    generalize (zs.any fun x => !inR x 0 1000002) = bb at *
    cases bb
    all_goals
      go_wp2
      go_ret
      exact ⟨ret_bool (by rw [HE.out]; rfl), rfl⟩
  · have hd : ((zs.length : Int) == n) = false := by simpa using h
    have HE : Hid ((decide ((zs.length : Int) = n) && nums' zs) = false) := by show _ = _; simp [h]
    rw [HE.out]
    clear h
    go_enter Try.func34, Try.ntmps34
    go_wp2
    go_ret
    exact ⟨rfl, rfl⟩

theorem areNumbers_own (A : Option Addr) (cap : Nat) (zs : List Int) (w : World) (hA : Ints w A zs) (hn : zs.length ≤ 4611686018427387904) :
    Calls Try.prog 34 #[.slice A zs.length cap, .int .i64 zs.length] w fun e w' => e = .returned (.bool (nums' zs)) ∧ w = w' :=
  (areNumbers_any A cap zs zs.length w hA hn).mono fun _ _ ⟨h1, h2⟩ => ⟨by rw [h1]; simp, h2⟩

theorem serB_isS {zs : List Int} (h : serB zs = true) : 0 < zs.length ∧ zs.length ≤ 13 ∧ IsS zs := by
  unfold serB at h
  rw [Bool.and_eq_true] at h
  have h1 := inR_true.1 h.1
  refine ⟨by omega, by omega, fun k => ?_⟩
  by_cases hk : k < zs.length
  · have := List.all_eq_true.1 h.2 (cf zs k) (List.mem_of_getElem? (cf_some hk))
    exact inR_true.1 this
  · rw [cf_big (by omega)]; omega
theorem serB_of {zs : List Int} (h0 : 0 < zs.length) (h1 : zs.length ≤ 13) (h : IsS zs) : serB zs = true := by
  unfold serB nums'
  rw [Bool.and_eq_true, List.all_eq_true]
  refine ⟨inR_true.2 (by omega), fun x hx => ?_⟩
  obtain ⟨k, hk, rfl⟩ := List.getElem_of_mem hx
  have := h k
  rw [cf_get (List.getElem?_eq_getElem hk)] at this
  exact inR_true.2 this

/-- what an operation of two series comes to -/
def SerPost2 (zs : List Int) (code : Int) (w : World) (e : Ending) (w' : World) : Prop :=
  ∃ g, e = .returned (.tuple #[.slice (some ⟨g, 0, none⟩) zs.length zs.length, .int .i64 code]) ∧ IntsM w' w.heap.size (some ⟨g, 0, none⟩) zs ∧ Below w.heap.size w w'
theorem IntsM.mono {w : World} {B B' : Nat} {A : Option Addr} {zs : List Int} (h : IntsM w B A zs) (hB : B' ≤ B) : IntsM w B' A zs := fun hn => by
  obtain ⟨b, o, e, h1, h2, h3⟩ := h hn
  exact ⟨b, o, e, by omega, h2, h3⟩

end Go.Proofs.Ytlnikpjcggfdmaa
