/- Walks of firstBad, isPlan, FirstBadAction and AdvancesOf of the program, l06Asked and FirstBadAction of the reference. -/
import Derived.Test.YtnbpcdcdfkfmiaaWTake
namespace Go.Proofs.Ytnbpcdcdfkfmiaa
open Go.RowKit Plain

def FirstPost (l : List (Int × Int)) (n ns : Nat) (w : World) (e : Ending) (w' : World) : Prop :=
  e = .returned (.tuple #[.pointer (some ⟨w.heap.size + 2, 0, none⟩), .int .i64 (badV l n ns)]) ∧ Below w.heap.size w w' ∧
    ∃ v, ChainAt w' w.heap.size n v (badC l (newC n ns) 0).1 ∧ ∃ j, j ≤ 400 ∧ InvC n ns j (badC l (newC n ns) 0).1

set_option maxRecDepth 100000 in
set_option maxHeartbeats 1000000 in
theorem firstBad_any (A : Option Addr) (cap : Nat) (l : List (Int × Int)) (n ns : Nat) (w : World) (hA : Acts w A l) (hl : isSched l = true) (hn : n ≤ 40) (hs : ns ≤ 8) :
    Calls Try.prog 42 #[.slice A l.length cap, .int .i64 n, .int .i64 ns] w (FirstPost l n ns w) := by
  obtain ⟨hl4, hac⟩ := isSched_act hl
  have HAC := Lib.hid hac; clear hac hl
  go_enter Try.func42, Try.ntmps42
  go_wp2_with fail
  refine (newChain_any n ns w hn hs).mono ?_
  rintro e w1 ⟨rfl, v0, hR, hB⟩
  have HR := Lib.hid hR; clear hR
  have HB := Lib.hid hB; clear hB
  go_wp2_with fail
  go_loopw [16] (fun i wr => ∃ (k : Nat) (c : Ch) (v : Value), k ≤ l.length ∧ i = .int .i64 (k : Int) ∧ Hid (ChainAt wr w.heap.size n v c) ∧ Hid (Below w.heap.size w wr) ∧ Hid (InvC n ns k c) ∧ Hid (badC l (newC n ns) 0 = badC (l.drop k) c k)) (fun i _ => (l.length - intOf i).toNat)
  case atStart => exact ⟨0, _, _, by omega, by go_num, HR, HB, InvC.new hn hs, rfl⟩
  case round =>
    obtain ⟨k, c, v, hk, rfl, HRr, HBr, HI, HE⟩ := hrel
    by_cases hlt : k < l.length
    · obtain ⟨b, o, x, y, rfl, hx, hc1, hc2⟩ := (hA.below HBr.out).at_ hlt
      have HX := Lib.hid hx; clear hx
      have HACT := Lib.hid (HAC.out (x, y) (List.mem_of_getElem? HX.out))
      go_wp2_with fail
      have hbx : Below wr.heap.size wr (wr.alloc (.cells #[vi x, vi y] 68)) := by go_grown
      refine (take_any n ns k _ v c x y _ HI.out HACT.out (HRr.out.next hbx) (by omega)).mono ?_
      rintro e w3 ⟨rfl, hR3, hB3⟩
      have HB3 : Hid (Below w.heap.size w w3) := (bnext HBr.out hbx).trans hB3
      clear hB3 hbx hc1 hc2
      cases hp : poss c x y
      · have HP := Lib.hid hp
        rw [if_neg (by rw [hp]; simp)] at hR3
        have HR3 := Lib.hid hR3
        clear hR3 hp
        go_wp2
        go_ret2
        have hb := badC_no HX.out HP.out
        have hV : badV l n ns = k := by unfold badV; rw [HE.out, hb]
        refine ⟨by rw [hV]; rfl, HB3.out, v, ?_, k, by omega, ?_⟩
        · rw [HE.out, hb]; exact HR3.out
        · rw [HE.out, hb]; exact HI.out
      · have HP := Lib.hid hp
        rw [if_pos hp] at hR3
        have HR3 := Lib.hid hR3
        clear hR3 hp
        go_wp2
        go_roundw
        case rel => exact ⟨k + 1, _, v, by omega, by go_num, HR3.out, HB3.out, HI.out.step HACT.out HP.out, by show _ = _; rw [HE.out, badC_yes HX.out HP.out]⟩
        case measure => simp [intOf]; omega
    · obtain rfl : k = l.length := by omega
      have hE := HE.out
      rw [badC_end] at hE
      have hf0 : wr.cell? ⟨w.heap.size + 2, 0, none⟩ = some (vi c.left) := by rw [HRr.out.cells.cell]; rfl
      have HV := Lib.hid hE
      clear hE
      by_cases hc : 0 < c.left
      · have hV : badV l n ns = l.length := by unfold badV; rw [HV.out, if_pos hc]
        have HW := Lib.hid hV; clear hV
        go_wp2
        go_ret2
        refine ⟨by rw [HW.out]; rfl, HBr.out, v, ?_, l.length, hl4, ?_⟩
        · rw [HV.out]; exact HRr.out
        · rw [HV.out]; exact HI.out
      · have hV : badV l n ns = -1 := by unfold badV; rw [HV.out, if_neg hc]
        have HW := Lib.hid hV; clear hV
        go_wp2
        go_ret2
        refine ⟨by rw [HW.out]; rfl, HBr.out, v, ?_, l.length, hl4, ?_⟩
        · rw [HV.out]; exact HRr.out
        · rw [HV.out]; exact HI.out

theorem validSchedI_b (b : Bool) (A : Option Addr) (cap : Nat) (l : List (Int × Int)) (h : isSched l = b) (w : World) (hA : Acts w A l) (hn : l.length ≤ 4611686018427387904) :
    Calls Try.prog 61 #[.slice A l.length cap] w fun e w' => e = .returned (.bool b) ∧ Below w.heap.size w w' := h ▸ validSchedI A cap l w hA hn
theorem l06Schedule_b (b : Bool) (A : Option Addr) (cap : Nat) (l : List (Int × Int)) (h : isSched l = b) (w : World) (hA : Acts w A l) (hn : l.length ≤ 4611686018427387904) :
    Calls Try.prog 54 #[.slice A l.length cap] w fun e w' => e = .returned (.bool b) ∧ Below w.heap.size w w' := h ▸ l06Schedule_any A cap l w hA hn

set_option maxHeartbeats 1000000 in
theorem isPlan_any (A : Option Addr) (cap : Nat) (l : List (Int × Int)) (n slots : Int) (w : World) (hA : Acts w A l) (hn : l.length ≤ 4611686018427387904) :
    Calls Try.prog 41 #[.slice A l.length cap, .int .i64 n, .int .i64 slots] w fun e w' => e = .returned (.int .i64 (planC l n slots)) ∧ Below w.heap.size w w' := by
  rcases planC_cases l n slots with ⟨h1, h0⟩ | ⟨h1, h2, h0⟩ | ⟨h1, h2, h3, h0⟩ | ⟨h1, h2, h3, h0⟩
  · rw [h0]
    have H1 := Lib.hid h1; clear h1 h0
    go_enter Try.func41, Try.ntmps41
    go_wp2_with fail
    refine (validSchedI_b _ A cap l H1.out w hA hn).mono ?_; rintro e w1 ⟨rfl, hb⟩
    go_wp2
    go_ret
    exact ⟨rfl, hb⟩
  · rw [h0]
    have H1 := Lib.hid h1; clear h1 h0
    have H2 := Lib.hid h2; clear h2
    go_enter Try.func41, Try.ntmps41
    go_wp2_with fail
    refine (validSchedI_b _ A cap l H1.out w hA hn).mono ?_; rintro e w1 ⟨rfl, hb⟩
    go_wp2_with fail
    refine (areSteps_b false _ H2.out _).mono ?_; rintro e w' ⟨rfl, rfl⟩
    go_wp2
    go_ret
    exact ⟨rfl, hb⟩
  · rw [h0]
    have H1 := Lib.hid h1; clear h1 h0
    have H2 := Lib.hid h2; clear h2
    have H3 := Lib.hid h3; clear h3
    go_enter Try.func41, Try.ntmps41
    go_wp2_with fail
    refine (validSchedI_b _ A cap l H1.out w hA hn).mono ?_; rintro e w1 ⟨rfl, hb⟩
    go_wp2_with fail
    refine (areSteps_b true _ H2.out _).mono ?_; rintro e w' ⟨rfl, rfl⟩
    go_wp2_with fail
    refine (areSlots_b false _ H3.out _).mono ?_; rintro e w' ⟨rfl, rfl⟩
    go_wp2
    go_ret
    exact ⟨rfl, hb⟩
  · rw [h0]
    have H1 := Lib.hid h1; clear h1 h0
    have H2 := Lib.hid h2; clear h2
    have H3 := Lib.hid h3; clear h3
    go_enter Try.func41, Try.ntmps41
    go_wp2_with fail
    refine (validSchedI_b _ A cap l H1.out w hA hn).mono ?_; rintro e w1 ⟨rfl, hb⟩
    go_wp2_with fail
    refine (areSteps_b true _ H2.out _).mono ?_; rintro e w' ⟨rfl, rfl⟩
    go_wp2_with fail
    refine (areSlots_b true _ H3.out _).mono ?_; rintro e w' ⟨rfl, rfl⟩
    go_wp2
    go_ret
    exact ⟨rfl, hb⟩

set_option maxHeartbeats 1000000 in
theorem l06Asked_any (A : Option Addr) (cap : Nat) (l : List (Int × Int)) (n slots : Int) (w : World) (hA : Acts w A l) (hn : l.length ≤ 4611686018427387904) :
    Calls Try.prog 43 #[.slice A l.length cap, .int .i64 n, .int .i64 slots] w fun e w' => e = .returned (.int .i64 (planC l n slots)) ∧ Below w.heap.size w w' := by
  rcases planC_cases l n slots with ⟨h1, h0⟩ | ⟨h1, h2, h0⟩ | ⟨h1, h2, h3, h0⟩ | ⟨h1, h2, h3, h0⟩
  · rw [h0]
    have H1 := Lib.hid h1; clear h1 h0
    go_enter Try.func43, Try.ntmps43
    go_wp2_with fail
    refine (l06Schedule_b _ A cap l H1.out w hA hn).mono ?_; rintro e w1 ⟨rfl, hb⟩
    go_wp2
    go_ret
    exact ⟨rfl, hb⟩
  · rw [h0]
    have H1 := Lib.hid h1; clear h1 h0
    have H2 := Lib.hid h2; clear h2
    go_enter Try.func43, Try.ntmps43
    go_wp2_with fail
    refine (l06Schedule_b _ A cap l H1.out w hA hn).mono ?_; rintro e w1 ⟨rfl, hb⟩
    go_wp2_with fail
    refine (in_b false _ _ _ H2.out _).mono ?_; rintro e w' ⟨rfl, rfl⟩
    go_wp2
    go_ret
    exact ⟨rfl, hb⟩
  · rw [h0]
    have H1 := Lib.hid h1; clear h1 h0
    have H2 := Lib.hid h2; clear h2
    have H3 := Lib.hid h3; clear h3
    go_enter Try.func43, Try.ntmps43
    go_wp2_with fail
    refine (l06Schedule_b _ A cap l H1.out w hA hn).mono ?_; rintro e w1 ⟨rfl, hb⟩
    go_wp2_with fail
    refine (in_b true _ _ _ H2.out _).mono ?_; rintro e w' ⟨rfl, rfl⟩
    go_wp2_with fail
    refine (in_b false _ _ _ H3.out _).mono ?_; rintro e w' ⟨rfl, rfl⟩
    go_wp2
    go_ret
    exact ⟨rfl, hb⟩
  · rw [h0]
    have H1 := Lib.hid h1; clear h1 h0
    have H2 := Lib.hid h2; clear h2
    have H3 := Lib.hid h3; clear h3
    go_enter Try.func43, Try.ntmps43
    go_wp2_with fail
    refine (l06Schedule_b _ A cap l H1.out w hA hn).mono ?_; rintro e w1 ⟨rfl, hb⟩
    go_wp2_with fail
    refine (in_b true _ _ _ H2.out _).mono ?_; rintro e w' ⟨rfl, rfl⟩
    go_wp2_with fail
    refine (in_b true _ _ _ H3.out _).mono ?_; rintro e w' ⟨rfl, rfl⟩
    go_wp2
    go_ret
    exact ⟨rfl, hb⟩

theorem planC_ok {l : List (Int × Int)} {n slots : Int} (h : planC l n slots = 0) : isSched l = true ∧ 0 ≤ n ∧ n ≤ 40 ∧ 0 ≤ slots ∧ slots ≤ 8 := by
  rcases planC_cases l n slots with ⟨h1, h0⟩ | ⟨h1, h2, h0⟩ | ⟨h1, h2, h3, h0⟩ | ⟨h1, h2, h3, h0⟩
  · omega
  · omega
  · omega
  · have := inR_true.1 h2
    have := inR_true.1 h3
    exact ⟨h1, by omega, by omega, by omega, by omega⟩

/-- what FirstBadAction returns -/
def fbV (l : List (Int × Int)) (n slots : Int) : Int := if planC l n slots = 0 then (if badV l n.toNat slots.toNat < 0 then 0 else badV l n.toNat slots.toNat) else 0
def fbC (l : List (Int × Int)) (n slots : Int) : Int := if planC l n slots = 0 then (if badV l n.toNat slots.toNat < 0 then 9 else 0) else planC l n slots


end Go.Proofs.Ytnbpcdcdfkfmiaa
