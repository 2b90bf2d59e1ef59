/- Walks of newPlanner, isCosted, LeastCost and LeastSlots of the program. -/
import Derived.Test.YtdhicgdcjfcomaaWLeast
namespace Go.Proofs.Ytdhicgdcjfcomaa
open Go.RowKit Plain

theorem newPlanner_any (A : Option Addr) (cap : Nat) (ws : List Int) (slots : Int) (w : World) (hA : Ints w A ws) :
    Calls Try.prog 20 #[.slice A ws.length cap, .int .i64 slots] w fun e w' =>
      e = .returned (.pointer (some ⟨w.heap.size + 2, 0, none⟩)) ∧ PlanAt w' (w.heap.size + 2) A cap ws slots w.heap.size (w.heap.size + 1) [] [] ∧ Below w.heap.size w w' := by
  have hmm := @run_makeMap Try.prog
  go_enter Try.func20, Try.ntmps20
  go_wp2
  go_ret
  have hb : Below w.heap.size w (((w.alloc (.map #[] 0)).alloc (.map #[] 0)).alloc (.cells #[.slice A ws.length cap, .int .i64 slots, .map (some w.heap.size), .map (some (w.heap.size + 1))] 45)) := by go_grown
  refine ⟨rfl, ?_, hb⟩
  have e1 : ((w.alloc (.map #[] 0)).alloc (.map #[] 0)).heap.size = w.heap.size + 2 := by simp
  have hrow : (((w.alloc (.map #[] 0)).alloc (.map #[] 0)).alloc (.cells #[.slice A ws.length cap, .int .i64 slots, .map (some w.heap.size), .map (some (w.heap.size + 1))] 45)).heap[w.heap.size + 2]? = some (.cells #[.slice A ws.length cap, .int .i64 slots, .map (some w.heap.size), .map (some (w.heap.size + 1))] 45) := by
    rw [← e1]; exact heap_alloc_new _ _
  refine ⟨?_, ?_, ?_, ?_, by omega, hA.below hb, ?_, ?_, fun a b c v h => by simp [getE, findE] at h⟩
  · rw [cell_of_row _ _ _ _ _ _ hrow]; rfl
  · rw [cell_of_row _ _ _ _ _ _ hrow]; rfl
  · rw [cell_of_row _ _ _ _ _ _ hrow]; rfl
  · rw [cell_of_row _ _ _ _ _ _ hrow]; rfl
  · have h1 : (w.alloc (.map #[] 0)).heap[w.heap.size]? = some (.map #[] 0) := heap_alloc_new w _
    have hb2 : Below (w.alloc (.map #[] 0)).heap.size (w.alloc (.map #[] 0)) (((w.alloc (.map #[] 0)).alloc (.map #[] 0)).alloc (.cells #[.slice A ws.length cap, .int .i64 slots, .map (some w.heap.size), .map (some (w.heap.size + 1))] 45)) := by go_grown
    exact (hb2.block _ (by simp)).trans h1
  · have e0 : (w.alloc (.map #[] 0)).heap.size = w.heap.size + 1 := by simp
    have h1 : ((w.alloc (.map #[] 0)).alloc (.map #[] 0)).heap[w.heap.size + 1]? = some (.map #[] 0) := by rw [← e0]; exact heap_alloc_new _ _
    have hb2 : Below ((w.alloc (.map #[] 0)).alloc (.map #[] 0)).heap.size ((w.alloc (.map #[] 0)).alloc (.map #[] 0)) (((w.alloc (.map #[] 0)).alloc (.map #[] 0)).alloc (.cells #[.slice A ws.length cap, .int .i64 slots, .map (some w.heap.size), .map (some (w.heap.size + 1))] 45)) := by go_grown
    exact (hb2.block _ (by simp)).trans h1

/-- the code of weights and slots -/
def costC (ws : List Int) (slots : Int) : Int := if wts ws then (if inR slots 0 8 then 0 else 2) else 1

theorem validWeightsI_b (b : Bool) (A : Option Addr) (cap : Nat) (zs : List Int) (h : wts zs = b) (w : World) (hA : Ints w A zs) (hn : zs.length ≤ 4611686018427387904) :
    Calls Try.prog 23 #[.slice A zs.length cap] w fun e w' => e = .returned (.bool b) ∧ w = w' := h ▸ validWeightsI A cap zs w hA hn
theorem l06Weights_b (b : Bool) (A : Option Addr) (cap : Nat) (zs : List Int) (h : wts zs = b) (w : World) (hA : Ints w A zs) (hn : zs.length ≤ 4611686018427387904) :
    Calls Try.prog 31 #[.slice A zs.length cap] w fun e w' => e = .returned (.bool b) ∧ w = w' := h ▸ l06Weights_any A cap zs w hA hn

theorem isCosted_any (A : Option Addr) (cap : Nat) (ws : List Int) (slots : Int) (w : World) (hA : Ints w A ws) (hn : ws.length ≤ 4611686018427387904) :
    Calls Try.prog 19 #[.slice A ws.length cap, .int .i64 slots] w fun e w' => e = .returned (.int .i64 (costC ws slots)) ∧ w = w' := by
  cases h1 : wts ws
  · have HC : Hid (costC ws slots = 1) := by show _ = _; simp [costC, h1]
    have H1 := Lib.hid h1; clear h1
    go_enter Try.func19, Try.ntmps19
    go_wp2_with fail
    refine (validWeightsI_b _ A cap ws H1.out w hA hn).mono ?_; rintro e w' ⟨rfl, rfl⟩
    go_wp2
    go_ret
    exact ⟨ret_int HC.out.symm, rfl⟩
  · cases h2 : inR slots 0 8
    · have HC : Hid (costC ws slots = 2) := by show _ = _; simp [costC, h1, h2]
      have H1 := Lib.hid h1; clear h1
      have H2 := Lib.hid h2; clear h2
      go_enter Try.func19, Try.ntmps19
      go_wp2_with fail
      refine (validWeightsI_b _ A cap ws H1.out w hA hn).mono ?_; rintro e w' ⟨rfl, rfl⟩
      go_wp2_with fail
      refine (areSlots_b false _ H2.out _).mono ?_; rintro e w' ⟨rfl, rfl⟩
      go_wp2
      go_ret
      exact ⟨ret_int HC.out.symm, rfl⟩
    · have HC : Hid (costC ws slots = 0) := by show _ = _; simp [costC, h1, h2]
      have H1 := Lib.hid h1; clear h1
      have H2 := Lib.hid h2; clear h2
      go_enter Try.func19, Try.ntmps19
      go_wp2_with fail
      refine (validWeightsI_b _ A cap ws H1.out w hA hn).mono ?_; rintro e w' ⟨rfl, rfl⟩
      go_wp2_with fail
      refine (areSlots_b true _ H2.out _).mono ?_; rintro e w' ⟨rfl, rfl⟩
      go_wp2
      go_ret
      exact ⟨ret_int HC.out.symm, rfl⟩

theorem isW_of {ws : List Int} (h : wts ws = true) : IsW ws ∧ ws.length ≤ 40 := by
  unfold wts at h
  simp only [Bool.and_eq_true, decide_eq_true_eq, List.all_eq_true] at h
  refine ⟨fun i => ?_, h.1⟩
  by_cases hi : i < ws.length
  · have := inR_true.1 (h.2 _ (List.getElem_mem hi))
    simp [List.getD, hi]; omega
  · simp [List.getD, List.getElem?_eq_none (Nat.le_of_not_lt hi)]

/-- what LeastCost returns -/
def lcV (ws : List Int) (slots : Int) : Int := if costC ws slots = 0 then (if lcost ws 0 ws.length slots.toNat < 0 then 0 else lcost ws 0 ws.length slots.toNat) else 0
def lcC (ws : List Int) (slots : Int) : Int := if costC ws slots = 0 then (if lcost ws 0 ws.length slots.toNat < 0 then 4 else 0) else costC ws slots

theorem costC_ok {ws : List Int} {slots : Int} (h : costC ws slots = 0) : wts ws = true ∧ 0 ≤ slots ∧ slots ≤ 8 := by
  unfold costC at h
  cases h1 : wts ws
  · simp [h1] at h
  · cases h2 : inR slots 0 8
    · simp [h1, h2] at h
    · exact ⟨rfl, inR_true.1 h2⟩

set_option maxHeartbeats 400000 in
theorem leastCostI (A : Option Addr) (cap : Nat) (ws : List Int) (slots : Int) (w : World) (hA : Ints w A ws) (hn : ws.length ≤ 4611686018427387904) :
    Calls Try.prog 7 #[.slice A ws.length cap, .int .i64 slots] w fun e w' =>
      e = .returned (.tuple #[.int .i64 (lcV ws slots), .int .i64 (lcC ws slots)]) ∧ Below w.heap.size w w' := by
  by_cases h0 : costC ws slots = 0
  · obtain ⟨hw, s0, s8⟩ := costC_ok h0
    obtain ⟨hW, h40⟩ := isW_of hw
    obtain ⟨s, rfl⟩ := Int.eq_ofNat_of_zero_le s0
    have HV : Hid (lcV ws s = (if lcost ws 0 ws.length s < 0 then 0 else lcost ws 0 ws.length s) ∧ lcC ws s = (if lcost ws 0 ws.length s < 0 then 4 else 0)) := by
      show _ ∧ _; simp [lcV, lcC, h0]
    have H0 := Lib.hid h0; clear h0 hw
    go_enter Try.func7, Try.ntmps7
    go_wp2_with fail
    refine (isCosted_any A cap ws s w hA hn).mono ?_; rintro e w' ⟨rfl, rfl⟩
    rw [H0.out]
    go_wp2_with fail
    refine (newPlanner_any A cap ws s w hA).mono ?_; rintro e w1 ⟨rfl, hP, hb⟩
    have HP := Lib.hid hP; clear hP
    go_wp2_with fail
    refine (least_any _ A cap ws s _ _ hW h40 ws.length 0 ws.length s _ _ _ w1 [] [] (by rfl) (by rfl) (by rfl) (by omega) (by omega) (by omega) (by omega) HP.out).mono ?_
    rintro e w2 ⟨rfl, mc, ms, hP2, hO, _⟩
    have HF : Hid (Below w.heap.size w w2) := hb.trans (hO.below hb.size (by rintro k (h | h) <;> omega))
    clear hO hP2
    generalize lcost ws 0 ws.length s = q at *
    by_cases hq : q < 0
    · go_wp2
      go_ret2
      exact ⟨by rw [HV.out.1, HV.out.2, if_pos hq, if_pos hq]; rfl, HF.out⟩
    · go_wp2
      go_ret2
      exact ⟨by rw [HV.out.1, HV.out.2, if_neg (by omega), if_neg (by omega)]; rfl, HF.out⟩
  · have HV : Hid (lcV ws slots = 0 ∧ lcC ws slots = costC ws slots) := by show _ ∧ _; simp [lcV, lcC, h0]
    have hd : (costC ws slots == 0) = false := by simpa using h0
    clear h0
    go_enter Try.func7, Try.ntmps7
    go_wp2_with fail
    refine (isCosted_any A cap ws slots w hA hn).mono ?_; rintro e w' ⟨rfl, rfl⟩
    go_wp2
    go_ret2
    exact ⟨by rw [HV.out.1, HV.out.2]; rfl, Below.refl _ _⟩

/-- the first number of slots from s on, of at most f, for which the cost is at most this; -1 if there is none -/
def lsF (ws : List Int) (cost : Int) : Nat → Nat → Int
  | 0, _ => -1
  | f + 1, s => if 0 ≤ lcost ws 0 ws.length s ∧ lcost ws 0 ws.length s ≤ cost then (s : Int) else lsF ws cost f (s + 1)
theorem lsF_yes {ws : List Int} {cost : Int} {s : Nat} (hs : s ≤ 8) (h : 0 ≤ lcost ws 0 ws.length s) (h' : lcost ws 0 ws.length s ≤ cost) : lsF ws cost (9 - s) s = s := by
  rw [show 9 - s = (8 - s) + 1 by omega]; simp only [lsF]; rw [if_pos ⟨h, h'⟩]
theorem lsF_no {ws : List Int} {cost : Int} {s : Nat} (hs : s ≤ 8) (h : ¬ (0 ≤ lcost ws 0 ws.length s ∧ lcost ws 0 ws.length s ≤ cost)) : lsF ws cost (9 - s) s = lsF ws cost (9 - (s + 1)) (s + 1) := by
  rw [show 9 - s = (9 - (s + 1)) + 1 by omega]; simp only [lsF]; rw [if_neg h]
/-- what LeastSlots returns -/
def lsV (ws : List Int) (cost : Int) : Int := if wts ws then (if lsF ws cost 9 0 < 0 then 0 else lsF ws cost 9 0) else 0
def lsC (ws : List Int) (cost : Int) : Int := if wts ws then (if lsF ws cost 9 0 < 0 then 9 else 0) else 1

set_option maxHeartbeats 1000000 in
theorem leastSlotsI (A : Option Addr) (cap : Nat) (ws : List Int) (cost : Int) (w : World) (hA : Ints w A ws) (hn : ws.length ≤ 4611686018427387904) :
    Calls Try.prog 9 #[.slice A ws.length cap, .int .i64 cost] w fun e w' =>
      e = .returned (.tuple #[.int .i64 (lsV ws cost), .int .i64 (lsC ws cost)]) ∧ Below w.heap.size w w' := by
  cases hw : wts ws
  · have HV : Hid (lsV ws cost = 0 ∧ lsC ws cost = 1) := by show _ ∧ _; simp [lsV, lsC, hw]
    have HW := Lib.hid hw; clear hw
    go_enter Try.func9, Try.ntmps9
    go_wp2_with fail
    refine (validWeightsI_b false A cap ws HW.out w hA hn).mono ?_; rintro e w' ⟨rfl, rfl⟩
    go_wp2
    go_ret2
    exact ⟨by rw [HV.out.1, HV.out.2]; rfl, Below.refl _ _⟩
  · obtain ⟨hW, h40⟩ := isW_of hw
    have HV : Hid (lsV ws cost = (if lsF ws cost 9 0 < 0 then 0 else lsF ws cost 9 0) ∧ lsC ws cost = (if lsF ws cost 9 0 < 0 then 9 else 0)) := by show _ ∧ _; simp [lsV, lsC, hw]
    have HW := Lib.hid hw; clear hw
    go_enter Try.func9, Try.ntmps9
    go_wp2_with fail
    refine (validWeightsI_b true A cap ws HW.out w hA hn).mono ?_; rintro e w' ⟨rfl, rfl⟩
    go_wp2_with fail
    refine (newPlanner_any A cap ws 8 w hA).mono ?_; rintro e w1 ⟨rfl, hP, hb⟩
    have HP := Lib.hid hP; clear hP
    have HB := Lib.hid hb; clear hb
    go_wp2_with fail
    go_loopw [7] (fun i wr => ∃ (s : Nat) (mc ms : List ((Int × Int × Int) × Value)), s ≤ 9 ∧ i = .int .i64 (s : Int) ∧ Hid (PlanAt wr (w.heap.size + 2) A cap ws 8 w.heap.size (w.heap.size + 1) mc ms) ∧ Hid (Below w.heap.size w wr) ∧ Hid (lsF ws cost 9 0 = lsF ws cost (9 - s) s)) (fun i _ => (9 - intOf i).toNat)
    case atStart => exact ⟨0, [], [], by omega, by go_num, HP, HB, rfl⟩
    case round =>
      obtain ⟨s, mc, ms, hs, rfl, HPr, HBr, HR⟩ := hrel
      by_cases hlt : (s : Int) ≤ 8
      · have hbd := lcost_bd40 hW 0 ws.length s (by omega)
        go_wp2_with fail
        refine (least_any _ A cap ws 8 _ _ hW h40 ws.length 0 ws.length s _ _ _ wr mc ms (by rfl) (by rfl) (by rfl) (by omega) (by omega) (by omega) (by omega) HPr.out).mono ?_
        rintro e w2 ⟨rfl, mc2, ms2, hP2, hO, _⟩
        have HP2 := Lib.hid hP2; clear hP2
        have HB2 : Hid (Below w.heap.size w w2) := HBr.out.trans (hO.below HBr.out.size (by rintro k (h | h) <;> omega))
        clear hO
        have HY := Lib.hid (fun h h' => lsF_yes (ws := ws) (cost := cost) (s := s) (by omega) h h')
        have HN := Lib.hid (fun h => lsF_no (ws := ws) (cost := cost) (s := s) (by omega) h)
        generalize lcost ws 0 ws.length s = q at *
        by_cases h1 : 0 ≤ q
        · by_cases h2 : q ≤ cost
          · have HF := Lib.hid (HY.out h1 h2); clear HY HN
            go_wp2
            go_ret2
            exact ⟨by rw [HV.out.1, HV.out.2, HR.out, HF.out, if_neg (by omega), if_neg (by omega)]; rfl, HB2.out⟩
          · have HF := Lib.hid (HN.out (fun h => by omega)); clear HY HN
            go_wp2
            go_roundw
            case rel => exact ⟨s + 1, mc2, ms2, by omega, by go_num, HP2, HB2, by show _ = _; rw [HR.out, HF.out]⟩
            case measure => simp [intOf]; omega
        · have HF := Lib.hid (HN.out (fun h => by omega)); clear HY HN
          go_wp2
          go_roundw
          case rel => exact ⟨s + 1, mc2, ms2, by omega, by go_num, HP2, HB2, by show _ = _; rw [HR.out, HF.out]⟩
          case measure => simp [intOf]; omega
      · obtain rfl : s = 9 := by omega
        go_wp2
        go_ret2
        have e1 : lsF ws cost 9 0 = -1 := HR.out
        exact ⟨by rw [HV.out.1, HV.out.2, e1]; rfl, HBr.out⟩

end Go.Proofs.Ytdhicgdcjfcomaa
