/- Walk of ExpSeries. -/
import Derived.Test.YtbgjbppjnmolfaaWExp
namespace Go.Proofs.Ytbgjbppjnmolfaa
open Go.RowKit Plain

theorem expS_step (a : List Int) (k i : Nat) (h : i + 1 ≤ k) (hk : k < a.length) :
    (rs (expS a k i) + (((i + 1 : Nat) : Int) * cf a (i + 1) % 1000003) * cf (expL a) (k - (i + 1))) % 1000003 = rs (expS a k (i + 1)) := by
  have : expS a k (i + 1) = expS a k i + tm ((i + 1 : Nat) : Int) (cf a (i + 1)) * cf (expL a) (k - (i + 1)) := rfl
  rw [this]; unfold rs tm; omega

set_option maxRecDepth 100000 in
set_option maxHeartbeats 2000000 in
theorem expSeries_yes (A : Option Addr) (cap : Nat) (a : List Int) (w : World) (hA : Ints w A a) (ha : serB a = true) (hz : cf a 0 = 0) :
    Calls Try.prog 25 #[.slice A a.length cap] w (SerPost2 (expL a) 0 w) := by
  obtain ⟨h0, h13, ia⟩ := serB_isS ha
  have HV := Lib.hid ha; clear ha
  have hmk := run_make_row' (P := Try.prog) 30 2 (.int .i64 0) 8 Try.underlying30 Try.infoI rfl .i64 .i64 a.length (by omega) (by omega)
  rw [madeCells_one, rowF_zero, upTo_zero (f := cf (expL a))] at hmk
  obtain ⟨b2, o2, rfl, hlt2, hc2⟩ := hA.cfAt h0
  have g0 := hc2 0 h0
  simp only [Nat.add_zero] at g0
  rw [hz] at g0
  have h0' : (0 : Int) < (a.length : Int) := by omega
  have HZ := Lib.hid hz
  clear hc2 hz
  have hc0 : Cells (w.alloc (.cells (rowF a.length (upTo (cf (expL a)) 0 0)).toArray 2)) w.heap.size 2 (rowF a.length (upTo (cf (expL a)) 0 0)) := Cells.new w _ _
  have g9 := cell_row hc0 h0
  have z9 : (w.alloc (.cells (rowF a.length (upTo (cf (expL a)) 0 0)).toArray 2)).frozen? ⟨w.heap.size, 0, none⟩ = false := hc0.frozen _
  clear hc0
  have HE0 : Hid ((rowF a.length (upTo (cf (expL a)) 0 0)).set 0 (.int .i64 1) = rowF a.length (upTo (cf (expL a)) 1 0)) := by
    show _ = _
    rw [upTo_set, ← upTo_next, expL_cf a h0, if_pos rfl]
  go_enter Try.func25, Try.ntmps25
  go_wp2_with fail
  refine (validSeries_any _ cap a w hA (by omega)).mono ?_; rintro e w' ⟨rfl, rfl⟩
  rw [HV.out]
  go_wp2
  clear g9 z9
  go_loopw [5, 6, 7] (fun i _ _ wr => ∃ k : Nat, 1 ≤ k ∧ k ≤ a.length ∧ i = .int .i64 (k : Int) ∧ Hid (Cells wr w.heap.size 2 (rowF a.length (upTo (cf (expL a)) k 0))) ∧ Hid (Below w.heap.size w wr)) (fun i _ _ _ => a.length - (intOf i).toNat)
  case atStart =>
    refine ⟨1, by omega, by omega, by go_num, ?_, by show Below _ _ _; go_grown⟩
    show Cells _ _ _ _
    rw [← HE0.out]
    exact Cells.new w _ _
  case round =>
    obtain ⟨k, hk1, hk, rfl, HC, HB⟩ := hrel
    by_cases hlt : k < a.length
    · have hkl : (k : Int) < (a.length : Int) := by omega
      have HR0 : Hid (0 = rs (expS a k 0)) := by show _ = _; unfold expS sumN rs; omega
      obtain ⟨wo, rfl⟩ : ∃ wo : World, wo = wr := ⟨_, rfl⟩
      go_wp2
      go_loopw [6, 7] (fun s i wi => ∃ j : Nat, j ≤ k ∧ i = .int .i64 ((j : Int) + 1) ∧ s = .int .i64 (rs (expS a k j)) ∧ Hid (Cells wi w.heap.size 2 (rowF a.length (upTo (cf (expL a)) k 0))) ∧ Hid (Below w.heap.size w wi)) (fun _ i _ => k + 1 - (intOf i).toNat)
      case atStart => exact ⟨0, by omega, by go_num, by rw [← HR0.out], HC.out, HB.out⟩
      case round =>
        obtain ⟨j, hj, rfl, rfl, HCi, HBi⟩ := hrel
        by_cases hjk : j < k
        · obtain ⟨b3, o3, e3, _, hc3⟩ := (hA.below HBi.out).cfAt h0
          obtain ⟨rfl, rfl⟩ : b2 = b3 ∧ o2 = o3 := by simpa using e3
          clear e3
          have g1 := hc3 (j + 1) (by omega)
          have g3 := cell_row HCi.out (show k - (j + 1) < a.length by omega)
          have e3 : upTo (cf (expL a)) k 0 (k - (j + 1)) = cf (expL a) (k - (j + 1)) := by unfold upTo; rw [if_pos (by omega)]
          rw [e3] at g3
          have d1 := isS_exp a (k - (j + 1))
          have a1 := ia (j + 1)
          have m1 := mul_bd2 (a := (j : Int) + 1) (by omega) (by omega) a1.1 a1.2
          have r1 := rs_bd (expS a k j)
          have HS := Lib.hid (expS_step a k j (by omega) hlt)
          have e4 : ((j + 1 : Nat) : Int) = (j : Int) + 1 := by omega
          rw [e4] at HS
          clear hc3 e3 e4
          generalize cf a (j + 1) = u at *
          generalize cf (expL a) (k - (j + 1)) = v at *
          generalize rs (expS a k j) = z at *
          have m2 := mul_bd (a := ((j : Int) + 1) * u % 1000003) (b := v) (by omega) (by omega) d1.1 d1.2
          have hjl : (j : Int) + 1 < (a.length : Int) := by omega
          have hs0 : (0 : Int) ≤ (k : Int) - ((j : Int) + 1) := by omega
          have hs1 : (k : Int) - ((j : Int) + 1) < (a.length : Int) := by omega
          have hs2 : ((k : Int) - ((j : Int) + 1)).toNat = k - (j + 1) := by omega
          have hs3 : ((j : Int) + 1).toNat = j + 1 := by omega
          have hj0 : (0 : Int) ≤ (j : Int) + 1 := by omega
          have hjk' : (j : Int) + 1 ≤ (k : Int) := by omega
          go_wp2
          go_quiet (fail)
          rename Nat => nq
          go_wp2
          go_roundw
          case rel => exact ⟨j + 1, by omega, by go_num, by rw [HS.out], HCi.out.drewN _, below_drewN' HBi.out _⟩
          case measure => simp [intOf]; omega
        · obtain rfl : j = k := by omega
          have hgt : ¬ ((j : Int) + 1 ≤ (j : Int)) := by omega
          have r1 := rs_bd (expS a j j)
          have i1 := iv_bd (j : Int)
          have m1 := mul_bd r1.1 r1.2 i1.1 i1.2
          have z3 : wr.frozen? ⟨w.heap.size, j, none⟩ = false := HCi.out.frozen _
          have g3 := cell_row HCi.out hlt
          have HN : Hid (Cells (wr.setCell ⟨w.heap.size, j, none⟩ (.int .i64 (rs (expS a j j) * iv (j : Int) % 1000003))) w.heap.size 2 (rowF a.length (upTo (cf (expL a)) (j + 1) 0))) := by
            have h := HCi.out.set_ j (.int .i64 (rs (expS a j j) * iv (j : Int) % 1000003))
            rw [upTo_set] at h
            rw [← upTo_next, expL_cf a hlt, if_neg (by omega)]; exact h
          generalize rs (expS a j j) = z at *
          go_wp2_with fail
          refine (inverse_any _ _).mono ?_; rintro e w' ⟨rfl, rfl⟩
          generalize iv (j : Int) = y at *
          go_wp2
          go_roundw
          case rel => exact ⟨j + 1, by omega, by omega, by go_num, HN.out, HBi.out.setCell (Nat.le_refl _) _⟩
          case measure => simp [intOf]; omega
    · obtain rfl : k = a.length := by omega
      have HE := HC.out
      rw [upTo_end] at HE
      have HM : mk a.length (cf (expL a)) = expL a := by have h := mk_cf (expL a); rwa [expL_length] at h
      rw [HM] at HE
      have HE := Lib.hid HE
      have HLn := Lib.hid (expL_length a)
      clear HM
      go_wp2
      go_ret2
      unfold SerPost2
      rw [HLn.out]
      exact ⟨_, rfl, HE.out.intsM' (Nat.le_refl _), HB.out⟩

end Go.Proofs.Ytbgjbppjnmolfaa
