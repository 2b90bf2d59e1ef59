/- Walk of the program's quotient of series. -/
import Derived.Test.YtbgjbppjnmolfaaWSer
import Derived.Lib.SliceRun
namespace Go.Proofs.Ytbgjbppjnmolfaa
open Go.RowKit Plain

theorem minus_quiet (a b : Int) (w : World) : Calls Try.prog 41 #[.int .i64 a, .int .i64 b] w fun e w' => e = .returned (.int .i64 (rs (a - b))) ∧ w' = w :=
  (minus_any a b w).mono fun _ _ ⟨h1, h2⟩ => ⟨h1, h2.symm⟩
theorem inverse_quiet (a : Int) (w : World) : Calls Try.prog 31 #[.int .i64 a] w fun e w' => e = .returned (.int .i64 (iv a)) ∧ w' = w :=
  (inverse_any a w).mono fun _ _ ⟨h1, h2⟩ => ⟨h1, h2.symm⟩

/-- the products that a quotient's coefficient takes away -/
def divS (a b : List Int) (k j : Nat) : Int := sumN (fun i => cf (divL a b) i * cf b (k - i)) j
theorem divL_cf (a b : List Int) {k : Nat} (h : k < a.length) : cf (divL a b) k = tm (rs (cf a k - divS a b k k)) (iv (cf b 0)) := by
  unfold divL
  rw [divT_cf' a b (k + 1) a.length k (by omega) (by omega), divT_last]
  unfold divS
  congr 3
  exact sumN_congr _ fun i hi => by unfold divL; rw [divT_cf' a b k a.length i hi (by omega)]

set_option maxRecDepth 100000 in
set_option maxHeartbeats 2000000 in
theorem quotient_any (A B : Option Addr) (cap cap' : Nat) (a b : List Int) (w : World) (hA : Ints w A a) (hB : Ints w B b) (hl : b.length = a.length) (hn : a.length ≤ 1000000) (h0 : 0 < a.length) (ha : IsS a) (hb : IsS b) :
    Calls Try.prog 37 #[.slice A a.length cap, .slice B a.length cap'] w (SerPost (divL a b) w) := by
  have hmk := run_make_row' (P := Try.prog) 30 2 (.int .i64 0) 8 Try.underlying30 Try.infoI rfl .i64 .i64 a.length (by omega) (by omega)
  rw [madeCells_one, rowF_zero, upTo_zero (f := cf (divL a b))] at hmk
  have HL := Lib.hid hl; clear hl
  obtain ⟨b2, o2, rfl, hlt2, hc2⟩ := hB.cfAt (by rw [HL.out]; exact h0)
  have g0 := hc2 0 (by rw [HL.out]; exact h0)
  simp only [Nat.add_zero] at g0
  have g0' : (w.alloc (.cells (rowF a.length (upTo (cf (divL a b)) 0 0)).toArray 2)).cell? ⟨b2, o2, none⟩ = some (.int .i64 (cf b 0)) := Lib.cell?_alloc_some _ g0
  have hiv := iv_bd (cf b 0)
  have h0' : (0 : Int) < (a.length : Int) := by omega
  clear hc2
  have HB := Lib.hid hB; clear hB
  go_enter Try.func37, Try.ntmps37
  go_wp2
  go_region_with (go_at_call 31; refine (inverse_any _ _).mono ?_; rintro e w' ⟨rfl, rfl⟩)
  all_goals
    go_wp2
    generalize hfi : iv (cf b 0) = fi at *
    have HFI := Lib.hid hfi; clear hfi
    go_loopw [7, 8, 9, 19] (fun _ _ _ i wr => ∃ k : Nat, k ≤ a.length ∧ i = .int .i64 (k : Int) ∧ Hid (Cells wr w.heap.size 2 (rowF a.length (upTo (cf (divL a b)) k 0))) ∧ Hid (Below w.heap.size w wr)) (fun _ _ _ i _ => a.length - (intOf i).toNat)
    case atStart => exact ⟨0, by omega, by go_num, (Cells.new w _ _).drewN 1, by show Below _ _ _; go_grown⟩
    case round =>
      obtain ⟨k, hk, rfl, HC, HBw⟩ := hrel
      by_cases hlt : k < a.length
      · have hkl : (k : Int) < (a.length : Int) := by omega
        obtain ⟨b1, o1, rfl, _, hc1⟩ := (hA.below HBw.out).cfAt (by omega)
        have g1 := hc1 k hlt
        have ha1 := ha k
        have HR0 : Hid (cf a k = rs (cf a k - divS a b k 0)) := by show _ = _; unfold divS sumN rs; omega
        clear hc1
        generalize hx : cf a k = x at *
        have HX := Lib.hid hx; clear hx
        obtain ⟨wo, rfl⟩ : ∃ wo : World, wo = wr := ⟨_, rfl⟩
        go_wp2
        go_loopw [8, 9] (fun r i wi => ∃ j : Nat, j ≤ k ∧ i = .int .i64 (j : Int) ∧ r = .int .i64 (rs (x - divS a b k j)) ∧ Hid (Cells wi w.heap.size 2 (rowF a.length (upTo (cf (divL a b)) k 0))) ∧ Hid (Below w.heap.size w wi)) (fun _ i _ => k - (intOf i).toNat)
        case atStart => exact ⟨0, by omega, by go_num, by rw [← HR0.out], HC.out, HBw.out⟩
        case round =>
          obtain ⟨j, hj, rfl, rfl, HCi, HBi⟩ := hrel
          by_cases hjk : j < k
          · obtain ⟨b3, o3, e3, _, hc3⟩ := (HB.out.below HBi.out).cfAt (by rw [HL.out]; omega)
            obtain ⟨rfl, rfl⟩ : b2 = b3 ∧ o2 = o3 := by simpa using e3
            clear e3
            have g2 := hc3 (k - j) (by rw [HL.out]; omega)
            have g3 := cell_row HCi.out (show j < a.length by omega)
            have e3 : upTo (cf (divL a b)) k 0 j = cf (divL a b) j := by unfold upTo; rw [if_pos hjk]
            rw [e3] at g3
            have d1 := isS_div a b j
            have b1' := hb (k - j)
            have m1 := mul_bd d1.1 d1.2 b1'.1 b1'.2
            have r1 := rs_bd (x - divS a b k j)
            have HS : Hid (rs (rs (x - divS a b k j) - cf (divL a b) j * cf b (k - j)) = rs (x - divS a b k (j + 1))) := by
              have : divS a b k (j + 1) = divS a b k j + cf (divL a b) j * cf b (k - j) := rfl
              show _ = _
              rw [this]; unfold rs; omega
            clear hc3 e3
            generalize cf (divL a b) j = u at *
            generalize cf b (k - j) = v at *
            generalize rs (x - divS a b k j) = z at *
            have hjl : (j : Int) < (a.length : Int) := by omega
            have hs0 : (0 : Int) ≤ (k : Int) - (j : Int) := by omega
            have hs1 : (k : Int) - (j : Int) < (a.length : Int) := by omega
            have hs2 : ((k : Int) - (j : Int)).toNat = k - j := by omega
            have hwm : IntKind.i64.wrap (u * v) = u * v := by rw [IntKind.wrap_i64]; omega
            go_wp2
            go_quiet ((go_at_call 41; exact Calls.quiet_of_same (minus_quiet _ _ _)))
            rename Nat => nq
            go_wp2
            go_roundw
            case rel => exact ⟨j + 1, by omega, by go_num, by rw [HS.out], HCi.out.drewN _, below_drewN' HBi.out _⟩
            case measure => simp [intOf]; omega
          · obtain rfl : j = k := by omega
            have r1 := rs_bd (x - divS a b j j)
            have m1 := mul_bd r1.1 r1.2 hiv.1 hiv.2
            have z3 : wr.frozen? ⟨w.heap.size, j, none⟩ = false := HCi.out.frozen _
            have g3 := cell_row HCi.out hlt
            have HN : Hid (Cells (wr.setCell ⟨w.heap.size, j, none⟩ (.int .i64 (rs (x - divS a b j j) * fi % 1000003))) w.heap.size 2 (rowF a.length (upTo (cf (divL a b)) (j + 1) 0))) := by
              have h := HCi.out.set_ j (.int .i64 (rs (x - divS a b j j) * fi % 1000003))
              rw [upTo_set] at h
              rw [← upTo_next, divL_cf a b hlt, HX.out, HFI.out]; exact h
            generalize rs (x - divS a b j j) = z at *
            go_wp2
            go_roundw
            case rel => exact ⟨j + 1, by omega, by go_num, HN.out, HBi.out.setCell (Nat.le_refl _) _⟩
            case measure => simp [intOf]; omega
      · obtain rfl : k = a.length := by omega
        have HE := HC.out
        rw [upTo_end] at HE
        have HE := Lib.hid HE
        have HM : Hid (mk a.length (cf (divL a b)) = divL a b) := by show _ = _; have h := mk_cf (divL a b); rwa [divL_length] at h
        go_wp2
        go_ret
        unfold SerPost
        rw [divL_length]
        refine ⟨rfl, ?_, HBw.out⟩
        rw [← HM.out]; exact HE.out

end Go.Proofs.Ytbgjbppjnmolfaa
