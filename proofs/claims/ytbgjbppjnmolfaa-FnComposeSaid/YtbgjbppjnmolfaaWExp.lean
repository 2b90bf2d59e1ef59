/- Walks: derivative, integral, ExpSeries, LogSeries and what stands beside them. -/
import Derived.Test.YtbgjbppjnmolfaaWSeriesLaw
import Derived.Test.YtbgjbppjnmolfaaPExp
namespace Go.Proofs.Ytbgjbppjnmolfaa
open Go.RowKit Plain

theorem mul_bd2 {a b : Int} (ha : 0 ≤ a) (ha' : a ≤ 1000000) (hb : 0 ≤ b) (hb' : b ≤ 1000002) : 0 ≤ a * b ∧ a * b ≤ 1000004000004 := mul_bd ha (by omega) hb hb'

set_option maxHeartbeats 1000000 in
theorem derivative_any (A : Option Addr) (cap : Nat) (a : List Int) (w : World) (hA : Ints w A a) (h0 : 0 < a.length) (hn : a.length ≤ 100000) (ha : IsS a) :
    Calls Try.prog 40 #[.slice A a.length cap] w (SerPost (dvL a) w) := by
  have hmk := run_make_row' (P := Try.prog) 30 2 (.int .i64 0) 8 Try.underlying30 Try.infoI rfl .i64 .i64 a.length (by omega) (by omega)
  rw [madeCells_one, rowF_zero, upTo_zero (f := fun k => if k + 1 < a.length then tm ((k + 1 : Nat) : Int) (cf a (k + 1)) else 0)] at hmk
  go_enter Try.func40, Try.ntmps40
  go_wp2
  go_loopw [4, 11] (fun _ i wr => ∃ k : Nat, k + 1 ≤ a.length ∧ i = .int .i64 (k : Int) ∧ Hid (Cells wr w.heap.size 2 (rowF a.length (upTo (fun k => if k + 1 < a.length then tm ((k + 1 : Nat) : Int) (cf a (k + 1)) else 0) k 0))) ∧ Hid (Below w.heap.size w wr)) (fun _ i _ => a.length - (intOf i).toNat)
  case atStart => exact ⟨0, by omega, by go_num, Cells.new w _ _, by show Below _ _ _; go_grown⟩
  case round =>
    obtain ⟨k, hk, rfl, HC, HB⟩ := hrel
    by_cases hlt : k + 1 < a.length
    · obtain ⟨b1, o1, rfl, _, hc1⟩ := (hA.below HB.out).cfAt (by omega)
      have g1 := hc1 (k + 1) hlt
      have g3 := cell_row HC.out (show k < a.length by omega)
      have z3 : wr.frozen? ⟨w.heap.size, k, none⟩ = false := HC.out.frozen _
      have a1 := ha (k + 1)
      have m1 := mul_bd2 (a := (k : Int) + 1) (by omega) (by omega) a1.1 a1.2
      have HN : Hid (Cells (wr.setCell ⟨w.heap.size, k, none⟩ (.int .i64 (((k : Int) + 1) * cf a (k + 1) % 1000003))) w.heap.size 2 (rowF a.length (upTo (fun k => if k + 1 < a.length then tm ((k + 1 : Nat) : Int) (cf a (k + 1)) else 0) (k + 1) 0))) := by
        have h := HC.out.set_ k (.int .i64 (((k : Int) + 1) * cf a (k + 1) % 1000003))
        rw [upTo_set] at h
        rw [← upTo_next]
        simp only [if_pos hlt]
        exact h
      clear hc1
      generalize cf a (k + 1) = x at *
      have hkl : (k : Int) + 1 < (a.length : Int) := by omega
      go_wp2
      go_roundw
      case rel => exact ⟨k + 1, by omega, by go_num, HN.out, HB.out.setCell (Nat.le_refl _) _⟩
      case measure => simp [intOf]; omega
    · have HE : Hid (Cells wr w.heap.size 2 ((dvL a).map (Value.int .i64))) := by
        show Cells _ _ _ _
        have h := HC.out
        have e : rowF a.length (upTo (fun k => if k + 1 < a.length then tm ((k + 1 : Nat) : Int) (cf a (k + 1)) else 0) k 0) = (dvL a).map (Value.int .i64) := by
          unfold dvL
          refine rowF_congr fun j hj => ?_
          unfold upTo
          by_cases h1 : j < k
          · rw [if_pos h1]
          · rw [if_neg h1]
            have : ¬ j + 1 < a.length := by omega
            simp [this]
        rw [e] at h; exact h
      have hd : ¬ ((k : Int) < (a.length : Int) - 1) := by omega
      go_wp2
      go_ret
      unfold SerPost
      rw [dvL_length]
      exact ⟨rfl, HE.out, HB.out⟩

set_option maxHeartbeats 1000000 in
theorem integral_any (A : Option Addr) (cap : Nat) (a : List Int) (w : World) (hA : Ints w A a) (h0 : 0 < a.length) (hn : a.length ≤ 100000) (ha : IsS a) :
    Calls Try.prog 43 #[.slice A a.length cap] w (SerPost (itL a) w) := by
  have hmk := run_make_row' (P := Try.prog) 30 2 (.int .i64 0) 8 Try.underlying30 Try.infoI rfl .i64 .i64 a.length (by omega) (by omega)
  rw [madeCells_one, rowF_zero, upTo_zero (f := fun k => if k = 0 then 0 else tm (cf a (k - 1)) (iv (k : Int)))] at hmk
  go_enter Try.func43, Try.ntmps43
  go_wp2
  go_loopw [4] (fun i wr => ∃ k : Nat, 1 ≤ k ∧ k ≤ a.length ∧ i = .int .i64 (k : Int) ∧ Hid (Cells wr w.heap.size 2 (rowF a.length (upTo (fun k => if k = 0 then 0 else tm (cf a (k - 1)) (iv (k : Int))) k 0))) ∧ Hid (Below w.heap.size w wr)) (fun i _ => a.length - (intOf i).toNat)
  case atStart =>
    refine ⟨1, by omega, by omega, by go_num, ?_, by show Below _ _ _; go_grown⟩
    show Cells _ _ _ _
    rw [← upTo_next]
    exact Cells.new w _ _
  case round =>
    obtain ⟨k, hk1, hk, rfl, HC, HB⟩ := hrel
    by_cases hlt : k < a.length
    · obtain ⟨b1, o1, rfl, _, hc1⟩ := (hA.below HB.out).cfAt (by omega)
      have g1 := hc1 (k - 1) (by omega)
      have g3 := cell_row HC.out hlt
      have z3 : wr.frozen? ⟨w.heap.size, k, none⟩ = false := HC.out.frozen _
      have a1 := ha (k - 1)
      have i1 := iv_bd (k : Int)
      have m1 := mul_bd a1.1 a1.2 i1.1 i1.2
      have HN : Hid (∀ q, Cells ((wr.drewN q).setCell ⟨w.heap.size, k, none⟩ (.int .i64 (cf a (k - 1) * iv (k : Int) % 1000003))) w.heap.size 2 (rowF a.length (upTo (fun k => if k = 0 then 0 else tm (cf a (k - 1)) (iv (k : Int))) (k + 1) 0))) := by
        intro q
        have h := (HC.out.drewN q).set_ k (.int .i64 (cf a (k - 1) * iv (k : Int) % 1000003))
        rw [upTo_set] at h
        rw [← upTo_next]
        simp only [if_neg (show ¬ k = 0 by omega)]
        exact h
      clear hc1
      generalize cf a (k - 1) = x at *
      generalize hv : iv (k : Int) = y at *
      have HV := Lib.hid hv; clear hv
      have hkl : (k : Int) < (a.length : Int) := by omega
      have hs0 : (0 : Int) ≤ (k : Int) - 1 := by omega
      have hs1 : (k : Int) - 1 < (a.length : Int) := by omega
      have hs2 : ((k : Int) - 1).toNat = k - 1 := by omega
      have hws : IntKind.i64.wrap ((k : Int) - 1) = (k : Int) - 1 := by rw [IntKind.wrap_i64]; omega
      have hwm : IntKind.i64.wrap (x * y) = x * y := by rw [IntKind.wrap_i64]; omega
      go_wp2
      go_region_with (go_at_call 31; refine (inverse_any _ _).mono ?_; rw [HV.out]; rintro e w' ⟨rfl, rfl⟩)
      all_goals
        go_wp2
        go_roundw
        case rel => exact ⟨k + 1, by omega, by omega, by go_num, HN.out 1, (below_drewN' HB.out 1).setCell (Nat.le_refl _) _⟩
        case measure => simp [intOf]; omega
    · obtain rfl : k = a.length := by omega
      have HE := HC.out
      rw [upTo_end] at HE
      have HE : Hid (Cells wr w.heap.size 2 ((itL a).map (Value.int .i64))) := HE
      go_wp2
      go_ret
      unfold SerPost
      rw [itL_length]
      exact ⟨rfl, HE.out, HB.out⟩

end Go.Proofs.Ytbgjbppjnmolfaa
