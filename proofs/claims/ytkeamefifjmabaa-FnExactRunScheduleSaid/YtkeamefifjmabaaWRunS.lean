/- Walks of RunSchedule of both sides, eqUsage, and the law FnExactRunSchedule. -/
import Derived.Test.YtkeamefifjmabaaWUsage
namespace Go.Proofs.Ytkeamefifjmabaa
open Go.RowKit Plain

theorem validWeightsI_b (b : Bool) (A : Option Addr) (cap : Nat) (zs : List Int) (h : wts zs = b) (w : World) (hA : Ints w A zs) (hn : zs.length ≤ 4611686018427387904) :
    Calls Try.prog 19 #[.slice A zs.length cap] w fun e w' => e = .returned (.bool b) ∧ w = w' := h ▸ validWeightsI A cap zs w hA hn
theorem l06Weights_any_b (b : Bool) (A : Option Addr) (cap : Nat) (zs : List Int) (h : wts zs = b) (w : World) (hA : Ints w A zs) (hn : zs.length ≤ 4611686018427387904) :
    Calls Try.prog 54 #[.slice A zs.length cap] w fun e w' => e = .returned (.bool b) ∧ w = w' := h ▸ l06Weights_any A cap zs w hA hn

theorem usC_cases (l : List (Int × Int)) (ws : List Int) (slots : Int) :
    (isSched l = false ∧ usU l ws slots = usg 0 0 0 0 0 ∧ usC l ws slots = 1) ∨ (isSched l = true ∧ wts ws = false ∧ usU l ws slots = usg 0 0 0 0 0 ∧ usC l ws slots = 1) ∨
    (isSched l = true ∧ wts ws = true ∧ inR slots 0 8 = false ∧ usU l ws slots = usg 0 0 0 0 0 ∧ usC l ws slots = 2) ∨
    (isSched l = true ∧ wts ws = true ∧ inR slots 0 8 = true ∧ usU l ws slots = usU0 l ws slots.toNat ∧ usC l ws slots = usC0 l ws slots.toNat) := by
  unfold usU usC usU0 usC0
  cases h1 : isSched l
  · simp
  · cases h2 : wts ws
    · simp
    · cases h3 : inR slots 0 8
      · simp
      · by_cases hq : badV l ws.length slots.toNat < 0 <;> simp [hq]
theorem usU0_form (l : List (Int × Int)) (ws : List Int) (s : Nat) : ∃ x0 x1 x2 x3 x4, usU0 l ws s = usg x0 x1 x2 x3 x4 := by
  unfold usU0; split <;> exact ⟨_, _, _, _, _, rfl⟩
theorem usU_form (l : List (Int × Int)) (ws : List Int) (slots : Int) : ∃ x0 x1 x2 x3 x4, usU l ws slots = usg x0 x1 x2 x3 x4 := by
  unfold usU; split <;> exact ⟨_, _, _, _, _, rfl⟩

theorem eqUsage_same (a b c d e : Int) (w : World) :
    Calls Try.prog 48 #[usg a b c d e, usg a b c d e] w fun en w' => en = .returned (.bool true) ∧ Below w.heap.size w w' := by
  unfold usg
  go_enter Try.func48, Try.ntmps48
  go_wp2
  go_returns
  exact ⟨rfl, by go_grown⟩

set_option maxHeartbeats 1000000 in
theorem runI (A : Option Addr) (cap : Nat) (l : List (Int × Int)) (Aw : Option Addr) (cw : Nat) (ws : List Int) (slots : Int) (w : World) (hA : Acts w A l) (hW : Ints w Aw ws) (hn : l.length ≤ 4611686018427387904) (hn2 : ws.length ≤ 4611686018427387904) :
    Calls Try.prog 47 #[.slice A l.length cap, .slice Aw ws.length cw, .int .i64 slots] w (RunPost (usU l ws slots) (usC l ws slots) w) := by
  rcases usC_cases l ws slots with ⟨h1, hv⟩ | ⟨h1, h2, hv⟩ | ⟨h1, h2, h3, hv⟩ | ⟨h1, h2, h3, hv⟩
  · have HV := Lib.hid hv; clear hv
    have H1 := Lib.hid h1; clear h1
    go_enter Try.func47, Try.ntmps47
    go_wp2_with fail
    have hb0 : Below w.heap.size w (w.alloc (.cells #[vi 0, vi 0, vi 0, vi 0, vi 0] 47)) := by go_grown
    have hc0 : Cells (w.alloc (.cells #[vi 0, vi 0, vi 0, vi 0, vi 0] 47)) w.heap.size 47 [vi 0, vi 0, vi 0, vi 0, vi 0] := Cells.new w _ [vi 0, vi 0, vi 0, vi 0, vi 0]
    have HB0 := Lib.hid hb0
    have HC0 := Lib.hid hc0
    generalize w.alloc (.cells #[vi 0, vi 0, vi 0, vi 0, vi 0] 47) = W0 at *
    clear hb0 hc0
    refine (validSchedI_b _ A cap l H1.out _ (hA.below HB0.out) hn).mono ?_; rintro e w1 ⟨rfl, hb1⟩
    have hbw := (bnext HB0.out hb1)
    have hres := HC0.out.next hb1
    have HBW := Lib.hid hbw; clear hbw
    have r0 : w1.cell? ⟨w.heap.size, 0, none⟩ = some (vi 0) := by rw [hres.cell]; rfl
    have q0 : w1.frozen? ⟨w.heap.size, 0, none⟩ = false := hres.frozen _
    have r1 : w1.cell? ⟨w.heap.size, 1, none⟩ = some (vi 0) := by rw [hres.cell]; rfl
    have q1 : w1.frozen? ⟨w.heap.size, 1, none⟩ = false := hres.frozen _
    have r2 : w1.cell? ⟨w.heap.size, 2, none⟩ = some (vi 0) := by rw [hres.cell]; rfl
    have q2 : w1.frozen? ⟨w.heap.size, 2, none⟩ = false := hres.frozen _
    have r3 : w1.cell? ⟨w.heap.size, 3, none⟩ = some (vi 0) := by rw [hres.cell]; rfl
    have q3 : w1.frozen? ⟨w.heap.size, 3, none⟩ = false := hres.frozen _
    have r4 : w1.cell? ⟨w.heap.size, 4, none⟩ = some (vi 0) := by rw [hres.cell]; rfl
    have q4 : w1.frozen? ⟨w.heap.size, 4, none⟩ = false := hres.frozen _
    have HRES := Lib.hid hres; clear hres
    go_wp2
    have hres := HRES.out
    have hbw := HBW.out
    have hK := res_set (vi 0) (vi 0) (vi 0) (vi 0) (vi 0) hres
    have hb := res_below (vi 0) (vi 0) (vi 0) (vi 0) (vi 0) hbw (Nat.le_refl _)
    generalize ((((w1.setCell ⟨w.heap.size, 0, none⟩ (vi 0)).setCell ⟨w.heap.size, 1, none⟩ (vi 0)).setCell ⟨w.heap.size, 2, none⟩ (vi 0)).setCell ⟨w.heap.size, 3, none⟩ (vi 0)).setCell ⟨w.heap.size, 4, none⟩ (vi 0) = W5 at hK hb ⊢
    have g0 := (hK.cell 0).trans (rfl : _ = some (vi 0))
    have g1 := (hK.cell 1).trans (rfl : _ = some (vi 0))
    have g2 := (hK.cell 2).trans (rfl : _ = some (vi 0))
    have g3 := (hK.cell 3).trans (rfl : _ = some (vi 0))
    have g4 := (hK.cell 4).trans (rfl : _ = some (vi 0))
    try simp only [Exit.inBlock, Exit.then]
    refine bodyPost_ret (v := .tuple #[.agg #[vi 0, vi 0, vi 0, vi 0, vi 0], vi (1)]) (by simp [results, Try.results47, go_sem, g0, g1, g2, g3, g4]) rfl ⟨?_, hb⟩
    rw [HV.out.1, HV.out.2]; rfl
  · have HV := Lib.hid hv; clear hv
    have H1 := Lib.hid h1; clear h1
    have H2 := Lib.hid h2; clear h2
    go_enter Try.func47, Try.ntmps47
    go_wp2_with fail
    have hb0 : Below w.heap.size w (w.alloc (.cells #[vi 0, vi 0, vi 0, vi 0, vi 0] 47)) := by go_grown
    have hc0 : Cells (w.alloc (.cells #[vi 0, vi 0, vi 0, vi 0, vi 0] 47)) w.heap.size 47 [vi 0, vi 0, vi 0, vi 0, vi 0] := Cells.new w _ [vi 0, vi 0, vi 0, vi 0, vi 0]
    have HB0 := Lib.hid hb0
    have HC0 := Lib.hid hc0
    generalize w.alloc (.cells #[vi 0, vi 0, vi 0, vi 0, vi 0] 47) = W0 at *
    clear hb0 hc0
    refine (validSchedI_b _ A cap l H1.out _ (hA.below HB0.out) hn).mono ?_; rintro e w1 ⟨rfl, hb1⟩
    have HB1 := Lib.hid hb1; clear hb1
    go_wp2_with fail
    refine (validWeightsI_b _ Aw cw ws H2.out _ (hW.below (bnext HB0.out HB1.out)) hn2).mono ?_; rintro e w' ⟨rfl, rfl⟩
    have hbw := (bnext HB0.out HB1.out)
    have hres := HC0.out.next HB1.out
    have HBW := Lib.hid hbw; clear hbw
    have r0 : w1.cell? ⟨w.heap.size, 0, none⟩ = some (vi 0) := by rw [hres.cell]; rfl
    have q0 : w1.frozen? ⟨w.heap.size, 0, none⟩ = false := hres.frozen _
    have r1 : w1.cell? ⟨w.heap.size, 1, none⟩ = some (vi 0) := by rw [hres.cell]; rfl
    have q1 : w1.frozen? ⟨w.heap.size, 1, none⟩ = false := hres.frozen _
    have r2 : w1.cell? ⟨w.heap.size, 2, none⟩ = some (vi 0) := by rw [hres.cell]; rfl
    have q2 : w1.frozen? ⟨w.heap.size, 2, none⟩ = false := hres.frozen _
    have r3 : w1.cell? ⟨w.heap.size, 3, none⟩ = some (vi 0) := by rw [hres.cell]; rfl
    have q3 : w1.frozen? ⟨w.heap.size, 3, none⟩ = false := hres.frozen _
    have r4 : w1.cell? ⟨w.heap.size, 4, none⟩ = some (vi 0) := by rw [hres.cell]; rfl
    have q4 : w1.frozen? ⟨w.heap.size, 4, none⟩ = false := hres.frozen _
    have HRES := Lib.hid hres; clear hres
    go_wp2
    have hres := HRES.out
    have hbw := HBW.out
    have hK := res_set (vi 0) (vi 0) (vi 0) (vi 0) (vi 0) hres
    have hb := res_below (vi 0) (vi 0) (vi 0) (vi 0) (vi 0) hbw (Nat.le_refl _)
    generalize ((((w1.setCell ⟨w.heap.size, 0, none⟩ (vi 0)).setCell ⟨w.heap.size, 1, none⟩ (vi 0)).setCell ⟨w.heap.size, 2, none⟩ (vi 0)).setCell ⟨w.heap.size, 3, none⟩ (vi 0)).setCell ⟨w.heap.size, 4, none⟩ (vi 0) = W5 at hK hb ⊢
    have g0 := (hK.cell 0).trans (rfl : _ = some (vi 0))
    have g1 := (hK.cell 1).trans (rfl : _ = some (vi 0))
    have g2 := (hK.cell 2).trans (rfl : _ = some (vi 0))
    have g3 := (hK.cell 3).trans (rfl : _ = some (vi 0))
    have g4 := (hK.cell 4).trans (rfl : _ = some (vi 0))
    try simp only [Exit.inBlock, Exit.then]
    refine bodyPost_ret (v := .tuple #[.agg #[vi 0, vi 0, vi 0, vi 0, vi 0], vi (1)]) (by simp [results, Try.results47, go_sem, g0, g1, g2, g3, g4]) rfl ⟨?_, hb⟩
    rw [HV.out.1, HV.out.2]; rfl
  · have HV := Lib.hid hv; clear hv
    have H1 := Lib.hid h1; clear h1
    have H2 := Lib.hid h2; clear h2
    have H3 := Lib.hid h3; clear h3
    go_enter Try.func47, Try.ntmps47
    go_wp2_with fail
    have hb0 : Below w.heap.size w (w.alloc (.cells #[vi 0, vi 0, vi 0, vi 0, vi 0] 47)) := by go_grown
    have hc0 : Cells (w.alloc (.cells #[vi 0, vi 0, vi 0, vi 0, vi 0] 47)) w.heap.size 47 [vi 0, vi 0, vi 0, vi 0, vi 0] := Cells.new w _ [vi 0, vi 0, vi 0, vi 0, vi 0]
    have HB0 := Lib.hid hb0
    have HC0 := Lib.hid hc0
    generalize w.alloc (.cells #[vi 0, vi 0, vi 0, vi 0, vi 0] 47) = W0 at *
    clear hb0 hc0
    refine (validSchedI_b _ A cap l H1.out _ (hA.below HB0.out) hn).mono ?_; rintro e w1 ⟨rfl, hb1⟩
    have HB1 := Lib.hid hb1; clear hb1
    go_wp2_with fail
    refine (validWeightsI_b _ Aw cw ws H2.out _ (hW.below (bnext HB0.out HB1.out)) hn2).mono ?_; rintro e w' ⟨rfl, rfl⟩
    go_wp2_with fail
    refine (areSlots_b false _ H3.out _).mono ?_; rintro e w' ⟨rfl, rfl⟩
    have hbw := (bnext HB0.out HB1.out)
    have hres := HC0.out.next HB1.out
    have HBW := Lib.hid hbw; clear hbw
    have r0 : w1.cell? ⟨w.heap.size, 0, none⟩ = some (vi 0) := by rw [hres.cell]; rfl
    have q0 : w1.frozen? ⟨w.heap.size, 0, none⟩ = false := hres.frozen _
    have r1 : w1.cell? ⟨w.heap.size, 1, none⟩ = some (vi 0) := by rw [hres.cell]; rfl
    have q1 : w1.frozen? ⟨w.heap.size, 1, none⟩ = false := hres.frozen _
    have r2 : w1.cell? ⟨w.heap.size, 2, none⟩ = some (vi 0) := by rw [hres.cell]; rfl
    have q2 : w1.frozen? ⟨w.heap.size, 2, none⟩ = false := hres.frozen _
    have r3 : w1.cell? ⟨w.heap.size, 3, none⟩ = some (vi 0) := by rw [hres.cell]; rfl
    have q3 : w1.frozen? ⟨w.heap.size, 3, none⟩ = false := hres.frozen _
    have r4 : w1.cell? ⟨w.heap.size, 4, none⟩ = some (vi 0) := by rw [hres.cell]; rfl
    have q4 : w1.frozen? ⟨w.heap.size, 4, none⟩ = false := hres.frozen _
    have HRES := Lib.hid hres; clear hres
    go_wp2
    have hres := HRES.out
    have hbw := HBW.out
    have hK := res_set (vi 0) (vi 0) (vi 0) (vi 0) (vi 0) hres
    have hb := res_below (vi 0) (vi 0) (vi 0) (vi 0) (vi 0) hbw (Nat.le_refl _)
    generalize ((((w1.setCell ⟨w.heap.size, 0, none⟩ (vi 0)).setCell ⟨w.heap.size, 1, none⟩ (vi 0)).setCell ⟨w.heap.size, 2, none⟩ (vi 0)).setCell ⟨w.heap.size, 3, none⟩ (vi 0)).setCell ⟨w.heap.size, 4, none⟩ (vi 0) = W5 at hK hb ⊢
    have g0 := (hK.cell 0).trans (rfl : _ = some (vi 0))
    have g1 := (hK.cell 1).trans (rfl : _ = some (vi 0))
    have g2 := (hK.cell 2).trans (rfl : _ = some (vi 0))
    have g3 := (hK.cell 3).trans (rfl : _ = some (vi 0))
    have g4 := (hK.cell 4).trans (rfl : _ = some (vi 0))
    try simp only [Exit.inBlock, Exit.then]
    refine bodyPost_ret (v := .tuple #[.agg #[vi 0, vi 0, vi 0, vi 0, vi 0], vi (2)]) (by simp [results, Try.results47, go_sem, g0, g1, g2, g3, g4]) rfl ⟨?_, hb⟩
    rw [HV.out.1, HV.out.2]; rfl
  · obtain ⟨s, rfl⟩ : ∃ s : Nat, slots = (s : Int) := Int.eq_ofNat_of_zero_le (by have := inR_true.1 h3; omega)
    have s8 : s ≤ 8 := by have := inR_true.1 h3; omega
    rw [Int.toNat_natCast] at hv
    have HV := Lib.hid hv; clear hv
    have H1 := Lib.hid h1; clear h1
    have H2 := Lib.hid h2; clear h2
    have H3 := Lib.hid h3; clear h3
    go_enter Try.func47, Try.ntmps47
    go_wp2_with fail
    have hb0 : Below w.heap.size w (w.alloc (.cells #[vi 0, vi 0, vi 0, vi 0, vi 0] 47)) := by go_grown
    have hc0 : Cells (w.alloc (.cells #[vi 0, vi 0, vi 0, vi 0, vi 0] 47)) w.heap.size 47 [vi 0, vi 0, vi 0, vi 0, vi 0] := Cells.new w _ [vi 0, vi 0, vi 0, vi 0, vi 0]
    have HB0 := Lib.hid hb0
    have HC0 := Lib.hid hc0
    generalize w.alloc (.cells #[vi 0, vi 0, vi 0, vi 0, vi 0] 47) = W0 at *
    clear hb0 hc0
    refine (validSchedI_b _ A cap l H1.out _ (hA.below HB0.out) hn).mono ?_; rintro e w1 ⟨rfl, hb1⟩
    have HB1 := Lib.hid hb1; clear hb1
    go_wp2_with fail
    refine (validWeightsI_b _ Aw cw ws H2.out _ (hW.below (bnext HB0.out HB1.out)) hn2).mono ?_; rintro e w' ⟨rfl, rfl⟩
    go_wp2_with fail
    refine (areSlots_b true _ H3.out _).mono ?_; rintro e w' ⟨rfl, rfl⟩
    go_wp2_with fail
    refine (usageOf_any A cap l Aw cw ws s _ (hA.below (bnext HB0.out HB1.out)) (hW.below (bnext HB0.out HB1.out)) H1.out H2.out s8).mono ?_
    rintro e w3 ⟨rfl, hb3⟩
    obtain ⟨x0, x1, x2, x3, x4, hu⟩ := usU0_form l ws s
    rw [hu]
    have hbw := bnext (bnext HB0.out HB1.out) hb3
    have hres := (HC0.out.next HB1.out).next hb3
    have HBW := Lib.hid hbw; clear hbw
    have HU := Lib.hid hu; clear hu
    generalize usC0 l ws s = code at *
    have r0 : w3.cell? ⟨w.heap.size, 0, none⟩ = some (vi 0) := by rw [hres.cell]; rfl
    have q0 : w3.frozen? ⟨w.heap.size, 0, none⟩ = false := hres.frozen _
    have r1 : w3.cell? ⟨w.heap.size, 1, none⟩ = some (vi 0) := by rw [hres.cell]; rfl
    have q1 : w3.frozen? ⟨w.heap.size, 1, none⟩ = false := hres.frozen _
    have r2 : w3.cell? ⟨w.heap.size, 2, none⟩ = some (vi 0) := by rw [hres.cell]; rfl
    have q2 : w3.frozen? ⟨w.heap.size, 2, none⟩ = false := hres.frozen _
    have r3 : w3.cell? ⟨w.heap.size, 3, none⟩ = some (vi 0) := by rw [hres.cell]; rfl
    have q3 : w3.frozen? ⟨w.heap.size, 3, none⟩ = false := hres.frozen _
    have r4 : w3.cell? ⟨w.heap.size, 4, none⟩ = some (vi 0) := by rw [hres.cell]; rfl
    have q4 : w3.frozen? ⟨w.heap.size, 4, none⟩ = false := hres.frozen _
    have HRES := Lib.hid hres; clear hres
    unfold usg
    go_wp2
    have hres := HRES.out
    have hbw := HBW.out
    have hK := res_set (vi x0) (vi x1) (vi x2) (vi x3) (vi x4) hres
    have hb := res_below (vi x0) (vi x1) (vi x2) (vi x3) (vi x4) hbw (Nat.le_refl _)
    generalize ((((w3.setCell ⟨w.heap.size, 0, none⟩ (vi x0)).setCell ⟨w.heap.size, 1, none⟩ (vi x1)).setCell ⟨w.heap.size, 2, none⟩ (vi x2)).setCell ⟨w.heap.size, 3, none⟩ (vi x3)).setCell ⟨w.heap.size, 4, none⟩ (vi x4) = W5 at hK hb ⊢
    have g0 := (hK.cell 0).trans (rfl : _ = some (vi x0))
    have g1 := (hK.cell 1).trans (rfl : _ = some (vi x1))
    have g2 := (hK.cell 2).trans (rfl : _ = some (vi x2))
    have g3 := (hK.cell 3).trans (rfl : _ = some (vi x3))
    have g4 := (hK.cell 4).trans (rfl : _ = some (vi x4))
    try simp only [Exit.inBlock, Exit.then]
    refine bodyPost_ret (v := .tuple #[.agg #[vi x0, vi x1, vi x2, vi x3, vi x4], vi (code)]) (by simp [results, Try.results47, go_sem, g0, g1, g2, g3, g4]) rfl ⟨?_, hb⟩
    rw [HV.out.1, HV.out.2, HU.out]; rfl


set_option maxHeartbeats 1000000 in
theorem runS (A : Option Addr) (cap : Nat) (l : List (Int × Int)) (Aw : Option Addr) (cw : Nat) (ws : List Int) (slots : Int) (w : World) (hA : Acts w A l) (hW : Ints w Aw ws) (hn : l.length ≤ 4611686018427387904) (hn2 : ws.length ≤ 4611686018427387904) :
    Calls Try.prog 46 #[.slice A l.length cap, .slice Aw ws.length cw, .int .i64 slots] w (RunPost (usU l ws slots) (usC l ws slots) w) := by
  rcases usC_cases l ws slots with ⟨h1, hv⟩ | ⟨h1, h2, hv⟩ | ⟨h1, h2, h3, hv⟩ | ⟨h1, h2, h3, hv⟩
  · have HV := Lib.hid hv; clear hv
    have H1 := Lib.hid h1; clear h1
    go_enter Try.func46, Try.ntmps46
    go_wp2_with fail
    have hb0 : Below w.heap.size w (w.alloc (.cells #[vi 0, vi 0, vi 0, vi 0, vi 0] 47)) := by go_grown
    have hc0 : Cells (w.alloc (.cells #[vi 0, vi 0, vi 0, vi 0, vi 0] 47)) w.heap.size 47 [vi 0, vi 0, vi 0, vi 0, vi 0] := Cells.new w _ [vi 0, vi 0, vi 0, vi 0, vi 0]
    have HB0 := Lib.hid hb0
    have HC0 := Lib.hid hc0
    generalize w.alloc (.cells #[vi 0, vi 0, vi 0, vi 0, vi 0] 47) = W0 at *
    clear hb0 hc0
    refine (l06Schedule_b _ A cap l H1.out _ (hA.below HB0.out) hn).mono ?_; rintro e w1 ⟨rfl, hb1⟩
    have hbw := (bnext HB0.out hb1)
    have hres := HC0.out.next hb1
    have HBW := Lib.hid hbw; clear hbw
    have r0 : w1.cell? ⟨w.heap.size, 0, none⟩ = some (vi 0) := by rw [hres.cell]; rfl
    have q0 : w1.frozen? ⟨w.heap.size, 0, none⟩ = false := hres.frozen _
    have r1 : w1.cell? ⟨w.heap.size, 1, none⟩ = some (vi 0) := by rw [hres.cell]; rfl
    have q1 : w1.frozen? ⟨w.heap.size, 1, none⟩ = false := hres.frozen _
    have r2 : w1.cell? ⟨w.heap.size, 2, none⟩ = some (vi 0) := by rw [hres.cell]; rfl
    have q2 : w1.frozen? ⟨w.heap.size, 2, none⟩ = false := hres.frozen _
    have r3 : w1.cell? ⟨w.heap.size, 3, none⟩ = some (vi 0) := by rw [hres.cell]; rfl
    have q3 : w1.frozen? ⟨w.heap.size, 3, none⟩ = false := hres.frozen _
    have r4 : w1.cell? ⟨w.heap.size, 4, none⟩ = some (vi 0) := by rw [hres.cell]; rfl
    have q4 : w1.frozen? ⟨w.heap.size, 4, none⟩ = false := hres.frozen _
    have HRES := Lib.hid hres; clear hres
    go_wp2
    have hres := HRES.out
    have hbw := HBW.out
    have hK := res_set (vi 0) (vi 0) (vi 0) (vi 0) (vi 0) hres
    have hb := res_below (vi 0) (vi 0) (vi 0) (vi 0) (vi 0) hbw (Nat.le_refl _)
    generalize ((((w1.setCell ⟨w.heap.size, 0, none⟩ (vi 0)).setCell ⟨w.heap.size, 1, none⟩ (vi 0)).setCell ⟨w.heap.size, 2, none⟩ (vi 0)).setCell ⟨w.heap.size, 3, none⟩ (vi 0)).setCell ⟨w.heap.size, 4, none⟩ (vi 0) = W5 at hK hb ⊢
    have g0 := (hK.cell 0).trans (rfl : _ = some (vi 0))
    have g1 := (hK.cell 1).trans (rfl : _ = some (vi 0))
    have g2 := (hK.cell 2).trans (rfl : _ = some (vi 0))
    have g3 := (hK.cell 3).trans (rfl : _ = some (vi 0))
    have g4 := (hK.cell 4).trans (rfl : _ = some (vi 0))
    try simp only [Exit.inBlock, Exit.then]
    refine bodyPost_ret (v := .tuple #[.agg #[vi 0, vi 0, vi 0, vi 0, vi 0], vi (1)]) (by simp [results, Try.results46, go_sem, g0, g1, g2, g3, g4]) rfl ⟨?_, hb⟩
    rw [HV.out.1, HV.out.2]; rfl
  · have HV := Lib.hid hv; clear hv
    have H1 := Lib.hid h1; clear h1
    have H2 := Lib.hid h2; clear h2
    go_enter Try.func46, Try.ntmps46
    go_wp2_with fail
    have hb0 : Below w.heap.size w (w.alloc (.cells #[vi 0, vi 0, vi 0, vi 0, vi 0] 47)) := by go_grown
    have hc0 : Cells (w.alloc (.cells #[vi 0, vi 0, vi 0, vi 0, vi 0] 47)) w.heap.size 47 [vi 0, vi 0, vi 0, vi 0, vi 0] := Cells.new w _ [vi 0, vi 0, vi 0, vi 0, vi 0]
    have HB0 := Lib.hid hb0
    have HC0 := Lib.hid hc0
    generalize w.alloc (.cells #[vi 0, vi 0, vi 0, vi 0, vi 0] 47) = W0 at *
    clear hb0 hc0
    refine (l06Schedule_b _ A cap l H1.out _ (hA.below HB0.out) hn).mono ?_; rintro e w1 ⟨rfl, hb1⟩
    have HB1 := Lib.hid hb1; clear hb1
    go_wp2_with fail
    refine (l06Weights_any_b _ Aw cw ws H2.out _ (hW.below (bnext HB0.out HB1.out)) hn2).mono ?_; rintro e w' ⟨rfl, rfl⟩
    have hbw := (bnext HB0.out HB1.out)
    have hres := HC0.out.next HB1.out
    have HBW := Lib.hid hbw; clear hbw
    have r0 : w1.cell? ⟨w.heap.size, 0, none⟩ = some (vi 0) := by rw [hres.cell]; rfl
    have q0 : w1.frozen? ⟨w.heap.size, 0, none⟩ = false := hres.frozen _
    have r1 : w1.cell? ⟨w.heap.size, 1, none⟩ = some (vi 0) := by rw [hres.cell]; rfl
    have q1 : w1.frozen? ⟨w.heap.size, 1, none⟩ = false := hres.frozen _
    have r2 : w1.cell? ⟨w.heap.size, 2, none⟩ = some (vi 0) := by rw [hres.cell]; rfl
    have q2 : w1.frozen? ⟨w.heap.size, 2, none⟩ = false := hres.frozen _
    have r3 : w1.cell? ⟨w.heap.size, 3, none⟩ = some (vi 0) := by rw [hres.cell]; rfl
    have q3 : w1.frozen? ⟨w.heap.size, 3, none⟩ = false := hres.frozen _
    have r4 : w1.cell? ⟨w.heap.size, 4, none⟩ = some (vi 0) := by rw [hres.cell]; rfl
    have q4 : w1.frozen? ⟨w.heap.size, 4, none⟩ = false := hres.frozen _
    have HRES := Lib.hid hres; clear hres
    go_wp2
    have hres := HRES.out
    have hbw := HBW.out
    have hK := res_set (vi 0) (vi 0) (vi 0) (vi 0) (vi 0) hres
    have hb := res_below (vi 0) (vi 0) (vi 0) (vi 0) (vi 0) hbw (Nat.le_refl _)
    generalize ((((w1.setCell ⟨w.heap.size, 0, none⟩ (vi 0)).setCell ⟨w.heap.size, 1, none⟩ (vi 0)).setCell ⟨w.heap.size, 2, none⟩ (vi 0)).setCell ⟨w.heap.size, 3, none⟩ (vi 0)).setCell ⟨w.heap.size, 4, none⟩ (vi 0) = W5 at hK hb ⊢
    have g0 := (hK.cell 0).trans (rfl : _ = some (vi 0))
    have g1 := (hK.cell 1).trans (rfl : _ = some (vi 0))
    have g2 := (hK.cell 2).trans (rfl : _ = some (vi 0))
    have g3 := (hK.cell 3).trans (rfl : _ = some (vi 0))
    have g4 := (hK.cell 4).trans (rfl : _ = some (vi 0))
    try simp only [Exit.inBlock, Exit.then]
    refine bodyPost_ret (v := .tuple #[.agg #[vi 0, vi 0, vi 0, vi 0, vi 0], vi (1)]) (by simp [results, Try.results46, go_sem, g0, g1, g2, g3, g4]) rfl ⟨?_, hb⟩
    rw [HV.out.1, HV.out.2]; rfl
  · have HV := Lib.hid hv; clear hv
    have H1 := Lib.hid h1; clear h1
    have H2 := Lib.hid h2; clear h2
    have H3 := Lib.hid h3; clear h3
    go_enter Try.func46, Try.ntmps46
    go_wp2_with fail
    have hb0 : Below w.heap.size w (w.alloc (.cells #[vi 0, vi 0, vi 0, vi 0, vi 0] 47)) := by go_grown
    have hc0 : Cells (w.alloc (.cells #[vi 0, vi 0, vi 0, vi 0, vi 0] 47)) w.heap.size 47 [vi 0, vi 0, vi 0, vi 0, vi 0] := Cells.new w _ [vi 0, vi 0, vi 0, vi 0, vi 0]
    have HB0 := Lib.hid hb0
    have HC0 := Lib.hid hc0
    generalize w.alloc (.cells #[vi 0, vi 0, vi 0, vi 0, vi 0] 47) = W0 at *
    clear hb0 hc0
    refine (l06Schedule_b _ A cap l H1.out _ (hA.below HB0.out) hn).mono ?_; rintro e w1 ⟨rfl, hb1⟩
    have HB1 := Lib.hid hb1; clear hb1
    go_wp2_with fail
    refine (l06Weights_any_b _ Aw cw ws H2.out _ (hW.below (bnext HB0.out HB1.out)) hn2).mono ?_; rintro e w' ⟨rfl, rfl⟩
    go_wp2_with fail
    refine (in_b false _ _ _ H3.out _).mono ?_; rintro e w' ⟨rfl, rfl⟩
    have hbw := (bnext HB0.out HB1.out)
    have hres := HC0.out.next HB1.out
    have HBW := Lib.hid hbw; clear hbw
    have r0 : w1.cell? ⟨w.heap.size, 0, none⟩ = some (vi 0) := by rw [hres.cell]; rfl
    have q0 : w1.frozen? ⟨w.heap.size, 0, none⟩ = false := hres.frozen _
    have r1 : w1.cell? ⟨w.heap.size, 1, none⟩ = some (vi 0) := by rw [hres.cell]; rfl
    have q1 : w1.frozen? ⟨w.heap.size, 1, none⟩ = false := hres.frozen _
    have r2 : w1.cell? ⟨w.heap.size, 2, none⟩ = some (vi 0) := by rw [hres.cell]; rfl
    have q2 : w1.frozen? ⟨w.heap.size, 2, none⟩ = false := hres.frozen _
    have r3 : w1.cell? ⟨w.heap.size, 3, none⟩ = some (vi 0) := by rw [hres.cell]; rfl
    have q3 : w1.frozen? ⟨w.heap.size, 3, none⟩ = false := hres.frozen _
    have r4 : w1.cell? ⟨w.heap.size, 4, none⟩ = some (vi 0) := by rw [hres.cell]; rfl
    have q4 : w1.frozen? ⟨w.heap.size, 4, none⟩ = false := hres.frozen _
    have HRES := Lib.hid hres; clear hres
    go_wp2
    have hres := HRES.out
    have hbw := HBW.out
    have hK := res_set (vi 0) (vi 0) (vi 0) (vi 0) (vi 0) hres
    have hb := res_below (vi 0) (vi 0) (vi 0) (vi 0) (vi 0) hbw (Nat.le_refl _)
    generalize ((((w1.setCell ⟨w.heap.size, 0, none⟩ (vi 0)).setCell ⟨w.heap.size, 1, none⟩ (vi 0)).setCell ⟨w.heap.size, 2, none⟩ (vi 0)).setCell ⟨w.heap.size, 3, none⟩ (vi 0)).setCell ⟨w.heap.size, 4, none⟩ (vi 0) = W5 at hK hb ⊢
    have g0 := (hK.cell 0).trans (rfl : _ = some (vi 0))
    have g1 := (hK.cell 1).trans (rfl : _ = some (vi 0))
    have g2 := (hK.cell 2).trans (rfl : _ = some (vi 0))
    have g3 := (hK.cell 3).trans (rfl : _ = some (vi 0))
    have g4 := (hK.cell 4).trans (rfl : _ = some (vi 0))
    try simp only [Exit.inBlock, Exit.then]
    refine bodyPost_ret (v := .tuple #[.agg #[vi 0, vi 0, vi 0, vi 0, vi 0], vi (2)]) (by simp [results, Try.results46, go_sem, g0, g1, g2, g3, g4]) rfl ⟨?_, hb⟩
    rw [HV.out.1, HV.out.2]; rfl
  · obtain ⟨s, rfl⟩ : ∃ s : Nat, slots = (s : Int) := Int.eq_ofNat_of_zero_le (by have := inR_true.1 h3; omega)
    have s8 : s ≤ 8 := by have := inR_true.1 h3; omega
    rw [Int.toNat_natCast] at hv
    have HV := Lib.hid hv; clear hv
    have H1 := Lib.hid h1; clear h1
    have H2 := Lib.hid h2; clear h2
    have H3 := Lib.hid h3; clear h3
    go_enter Try.func46, Try.ntmps46
    go_wp2_with fail
    have hb0 : Below w.heap.size w (w.alloc (.cells #[vi 0, vi 0, vi 0, vi 0, vi 0] 47)) := by go_grown
    have hc0 : Cells (w.alloc (.cells #[vi 0, vi 0, vi 0, vi 0, vi 0] 47)) w.heap.size 47 [vi 0, vi 0, vi 0, vi 0, vi 0] := Cells.new w _ [vi 0, vi 0, vi 0, vi 0, vi 0]
    have HB0 := Lib.hid hb0
    have HC0 := Lib.hid hc0
    generalize w.alloc (.cells #[vi 0, vi 0, vi 0, vi 0, vi 0] 47) = W0 at *
    clear hb0 hc0
    refine (l06Schedule_b _ A cap l H1.out _ (hA.below HB0.out) hn).mono ?_; rintro e w1 ⟨rfl, hb1⟩
    have HB1 := Lib.hid hb1; clear hb1
    go_wp2_with fail
    refine (l06Weights_any_b _ Aw cw ws H2.out _ (hW.below (bnext HB0.out HB1.out)) hn2).mono ?_; rintro e w' ⟨rfl, rfl⟩
    go_wp2_with fail
    refine (in_b true _ _ _ H3.out _).mono ?_; rintro e w' ⟨rfl, rfl⟩
    go_wp2_with fail
    refine (l06Bad_any A cap l ws.length s _ (hA.below (bnext HB0.out HB1.out)) H1.out (wts_mem H2.out).1 s8).mono ?_
    rintro e w2 ⟨rfl, hb2⟩
    have HB2 := Lib.hid (bnext (bnext HB0.out HB1.out) hb2)
    have HC2 := Lib.hid ((HC0.out.next HB1.out).next hb2)
    clear hb2
    by_cases hq : badV l ws.length s < 0
    · have e1 : badB l ws.length s = false := by unfold badB; simpa using hq
      rw [e1]
      have HQ := Lib.hid hq; clear hq e1
      go_wp2_with fail
      refine (used_any A cap l Aw cw ws s _ (hA.below HB2.out) (hW.below HB2.out) H1.out H2.out s8 HQ.out).mono ?_
      rintro e w3 ⟨rfl, hb3⟩
      obtain ⟨x0, x1, x2, x3, x4, hu⟩ : ∃ x0 x1 x2 x3 x4, usU0 l ws s = usg x0 x1 x2 x3 x4 ∧ usg (dot (badC l (newC ws.length s) 0).1.over ws) (badC l (newC ws.length s) 0).1.adv (badC l (newC ws.length s) 0).1.stores (badC l (newC ws.length s) 0).1.loads (badC l (newC ws.length s) 0).1.used.length = usg x0 x1 x2 x3 x4 := ⟨_, _, _, _, _, by unfold usU0; rw [if_pos HQ.out], rfl⟩
      rw [hu.2]
      have hbw := bnext HB2.out hb3
      have hres := HC2.out.next hb3
      have HBW := Lib.hid hbw; clear hbw
      have HU := Lib.hid hu.1; clear hu
      have HCC : Hid (usC0 l ws s = 0) := by show _ = _; unfold usC0; rw [if_pos HQ.out]
      have r0 : w3.cell? ⟨w.heap.size, 0, none⟩ = some (vi 0) := by rw [hres.cell]; rfl
      have q0 : w3.frozen? ⟨w.heap.size, 0, none⟩ = false := hres.frozen _
      have r1 : w3.cell? ⟨w.heap.size, 1, none⟩ = some (vi 0) := by rw [hres.cell]; rfl
      have q1 : w3.frozen? ⟨w.heap.size, 1, none⟩ = false := hres.frozen _
      have r2 : w3.cell? ⟨w.heap.size, 2, none⟩ = some (vi 0) := by rw [hres.cell]; rfl
      have q2 : w3.frozen? ⟨w.heap.size, 2, none⟩ = false := hres.frozen _
      have r3 : w3.cell? ⟨w.heap.size, 3, none⟩ = some (vi 0) := by rw [hres.cell]; rfl
      have q3 : w3.frozen? ⟨w.heap.size, 3, none⟩ = false := hres.frozen _
      have r4 : w3.cell? ⟨w.heap.size, 4, none⟩ = some (vi 0) := by rw [hres.cell]; rfl
      have q4 : w3.frozen? ⟨w.heap.size, 4, none⟩ = false := hres.frozen _
      have HRES := Lib.hid hres; clear hres
      unfold usg
      go_wp2
      have hres := HRES.out
      have hbw := HBW.out
      have hK := res_set (vi x0) (vi x1) (vi x2) (vi x3) (vi x4) hres
      have hb := res_below (vi x0) (vi x1) (vi x2) (vi x3) (vi x4) hbw (Nat.le_refl _)
      generalize ((((w3.setCell ⟨w.heap.size, 0, none⟩ (vi x0)).setCell ⟨w.heap.size, 1, none⟩ (vi x1)).setCell ⟨w.heap.size, 2, none⟩ (vi x2)).setCell ⟨w.heap.size, 3, none⟩ (vi x3)).setCell ⟨w.heap.size, 4, none⟩ (vi x4) = W5 at hK hb ⊢
      have g0 := (hK.cell 0).trans (rfl : _ = some (vi x0))
      have g1 := (hK.cell 1).trans (rfl : _ = some (vi x1))
      have g2 := (hK.cell 2).trans (rfl : _ = some (vi x2))
      have g3 := (hK.cell 3).trans (rfl : _ = some (vi x3))
      have g4 := (hK.cell 4).trans (rfl : _ = some (vi x4))
      try simp only [Exit.inBlock, Exit.then]
      refine bodyPost_ret (v := .tuple #[.agg #[vi x0, vi x1, vi x2, vi x3, vi x4], vi (0)]) (by simp [results, Try.results46, go_sem, g0, g1, g2, g3, g4]) rfl ⟨?_, hb⟩
      rw [HV.out.1, HV.out.2, HU.out, HCC.out]; rfl
    · have e1 : badB l ws.length s = true := by unfold badB; simpa using hq
      rw [e1]
      have HU : Hid (usU0 l ws s = usg 0 0 0 0 0 ∧ usC0 l ws s = 4) := by show _ ∧ _; unfold usU0 usC0; rw [if_neg hq, if_neg hq]; exact ⟨rfl, rfl⟩
      clear hq e1
      have hres := HC2.out
      have r0 : w2.cell? ⟨w.heap.size, 0, none⟩ = some (vi 0) := by rw [hres.cell]; rfl
      have q0 : w2.frozen? ⟨w.heap.size, 0, none⟩ = false := hres.frozen _
      have r1 : w2.cell? ⟨w.heap.size, 1, none⟩ = some (vi 0) := by rw [hres.cell]; rfl
      have q1 : w2.frozen? ⟨w.heap.size, 1, none⟩ = false := hres.frozen _
      have r2 : w2.cell? ⟨w.heap.size, 2, none⟩ = some (vi 0) := by rw [hres.cell]; rfl
      have q2 : w2.frozen? ⟨w.heap.size, 2, none⟩ = false := hres.frozen _
      have r3 : w2.cell? ⟨w.heap.size, 3, none⟩ = some (vi 0) := by rw [hres.cell]; rfl
      have q3 : w2.frozen? ⟨w.heap.size, 3, none⟩ = false := hres.frozen _
      have r4 : w2.cell? ⟨w.heap.size, 4, none⟩ = some (vi 0) := by rw [hres.cell]; rfl
      have q4 : w2.frozen? ⟨w.heap.size, 4, none⟩ = false := hres.frozen _
      have HRES := Lib.hid hres; clear hres
      go_wp2
      have hres := HRES.out
      have hbw := HB2.out
      have hK := res_set (vi 0) (vi 0) (vi 0) (vi 0) (vi 0) hres
      have hb := res_below (vi 0) (vi 0) (vi 0) (vi 0) (vi 0) hbw (Nat.le_refl _)
      generalize ((((w2.setCell ⟨w.heap.size, 0, none⟩ (vi 0)).setCell ⟨w.heap.size, 1, none⟩ (vi 0)).setCell ⟨w.heap.size, 2, none⟩ (vi 0)).setCell ⟨w.heap.size, 3, none⟩ (vi 0)).setCell ⟨w.heap.size, 4, none⟩ (vi 0) = W5 at hK hb ⊢
      have g0 := (hK.cell 0).trans (rfl : _ = some (vi 0))
      have g1 := (hK.cell 1).trans (rfl : _ = some (vi 0))
      have g2 := (hK.cell 2).trans (rfl : _ = some (vi 0))
      have g3 := (hK.cell 3).trans (rfl : _ = some (vi 0))
      have g4 := (hK.cell 4).trans (rfl : _ = some (vi 0))
      try simp only [Exit.inBlock, Exit.then]
      refine bodyPost_ret (v := .tuple #[.agg #[vi 0, vi 0, vi 0, vi 0, vi 0], vi (4)]) (by simp [results, Try.results46, go_sem, g0, g1, g2, g3, g4]) rfl ⟨?_, hb⟩
      rw [HV.out.1, HV.out.2, HU.out.1, HU.out.2]; rfl


set_option maxHeartbeats 400000 in
theorem lawRun (A : Option Addr) (cap : Nat) (l : List (Int × Int)) (Aw : Option Addr) (cw : Nat) (ws : List Int) (slots : Int) (w : World) (hA : Acts w A l) (hm : l.length ≤ 9223372036854775807) (hW : Ints w Aw ws) (_w2 : (Lit.int .i64 slots).wf = true) :
    Calls Try.prog 14 #[.slice A l.length cap, .slice Aw ws.length cw, .int .i64 slots] w fun e w' => e = .returned (.bool true) ∧ Below w.heap.size w w' := by
  by_cases h2 : ws.length ≤ 1048576
  · by_cases h : l.length ≤ 1048576
    · have hn : l.length ≤ 4611686018427387904 := by omega
      have hn2 : ws.length ≤ 4611686018427387904 := by omega
      go_enter Try.func14, Try.ntmps14
      go_wp2_with fail
      refine (szActs_ok A cap _ w h).mono ?_; rintro e w' ⟨rfl, rfl⟩
      go_wp2_with fail
      refine (toActs A cap l w hA h).mono ?_; rintro e w1 ⟨rfl, hI1, hb1, _⟩
      go_wp2_with fail
      refine (toInts' Aw cw ws _ (hW.below hb1) h2).mono ?_; rintro e w2 ⟨rfl, hJ2, hb2⟩
      go_wp2_with fail
      refine (runS _ _ l _ _ ws slots _ (hI1.below hb2) hJ2 hn hn2).mono ?_; rintro e w3 ⟨rfl, hb3⟩
      have HB3 := Lib.hid (bnext (bnext hb1 hb2) hb3)
      clear hI1 hJ2
      obtain ⟨x0, x1, x2, x3, x4, hu⟩ := usU_form l ws slots
      rw [hu]
      unfold usg
      have HU := Lib.hid hu; clear hu
      generalize hcd : usC l ws slots = code at *
      have HCD := Lib.hid hcd; clear hcd
      have HB30 := HB3
      clear HB3
      go_wp2_with fail
      have hbW : Below w3.heap.size w3 (w3.alloc (.cells #[vi x0, vi x1, vi x2, vi x3, vi x4] 47)) := by go_grown
      have hcW : Cells (w3.alloc (.cells #[vi x0, vi x1, vi x2, vi x3, vi x4] 47)) w3.heap.size 47 [vi x0, vi x1, vi x2, vi x3, vi x4] := Cells.new w3 _ [vi x0, vi x1, vi x2, vi x3, vi x4]
      have HB3 := Lib.hid (bnext HB30.out hbW)
      have HC3 := Lib.hid hcW
      generalize w3.alloc (.cells #[vi x0, vi x1, vi x2, vi x3, vi x4] 47) = W3 at *
      generalize w3.heap.size = p0 at *
      clear hbW hcW HB30
      refine (toActs A cap l _ (hA.below HB3.out) h).mono ?_; rintro e w4 ⟨rfl, hI4, hb4, _⟩
      have HB4 := Lib.hid (bnext HB3.out hb4)
      go_wp2_with fail
      refine (toInts' Aw cw ws _ (hW.below HB4.out) h2).mono ?_; rintro e w5 ⟨rfl, hJ5, hb5⟩
      have HB5 := Lib.hid (bnext HB4.out hb5)
      have HI5 := Lib.hid (hI4.below hb5)
      clear hI4
      go_wp2_with fail
      refine (runI _ _ l _ _ ws slots _ HI5.out hJ5 hn hn2).mono ?_
      rw [HU.out, HCD.out]
      rintro e w6 ⟨rfl, hb6⟩
      have HB6 := Lib.hid (bnext HB5.out hb6)
      have HI6 := Lib.hid (HI5.out.below hb6)
      have HJ6 := Lib.hid (hJ5.below hb6)
      have hc6 := ((HC3.out.next hb4).next hb5).next hb6
      have hal := alloc_cell w6 p0 hc6.lt
      have k0 : w6.cell? ⟨p0, 0, none⟩ = some (vi x0) := by rw [hc6.cell]; rfl
      have k1 : w6.cell? ⟨p0, 1, none⟩ = some (vi x1) := by rw [hc6.cell]; rfl
      have k2 : w6.cell? ⟨p0, 2, none⟩ = some (vi x2) := by rw [hc6.cell]; rfl
      have k3 : w6.cell? ⟨p0, 3, none⟩ = some (vi x3) := by rw [hc6.cell]; rfl
      have k4 : w6.cell? ⟨p0, 4, none⟩ = some (vi x4) := by rw [hc6.cell]; rfl
      clear hJ5 hc6
      unfold usg
      go_wp2_with fail
      have hbV : Below w6.heap.size w6 (w6.alloc (.cells #[vi x0, vi x1, vi x2, vi x3, vi x4] 47)) := by go_grown
      have HB60 := HB6
      have HI60 := HI6
      have HJ60 := HJ6
      clear HB6 HI6 HJ6 hal k0 k1 k2 k3 k4
      have HB6 := Lib.hid (bnext HB60.out hbV)
      have HI6 := Lib.hid (HI60.out.below hbV)
      have HJ6 := Lib.hid (HJ60.out.below hbV)
      generalize w6.alloc (.cells #[vi x0, vi x1, vi x2, vi x3, vi x4] 47) = W6 at *
      clear hbV HB60 HI60 HJ60
      refine (eqUsage_same x0 x1 x2 x3 x4 _).mono ?_; rintro e w7 ⟨rfl, hb7⟩
      have HB7 := Lib.hid (bnext HB6.out hb7)
      have HI7 := Lib.hid (HI6.out.below hb7)
      have HJ7 := Lib.hid (HJ6.out.below hb7)
      go_wp2_with fail
      refine (toActs A cap l _ (hA.below HB7.out) h).mono ?_; rintro e w8 ⟨rfl, hI8, hb8, _⟩
      have HB8 := Lib.hid (bnext HB7.out hb8)
      have HJ8 := Lib.hid (HJ7.out.below hb8)
      go_wp2_with fail
      refine (eqActs _ _ _ _ l _ (HI7.out.below hb8) hI8 hn).mono ?_; rintro e w9 ⟨rfl, hb9⟩
      have HB9 := Lib.hid (bnext HB8.out hb9)
      have HJ9 := Lib.hid (HJ8.out.below hb9)
      go_wp2_with fail
      refine (toInts' Aw cw ws _ (hW.below HB9.out) h2).mono ?_; rintro e w10 ⟨rfl, hJ10, hb10⟩
      go_wp2_with fail
      refine (eqInts _ _ _ _ ws _ (HJ9.out.below hb10) hJ10 hn2).mono ?_; rintro e w11 ⟨rfl, hd⟩
      go_wp2
      go_ret
      exact ⟨rfl, bnext (bnext HB9.out hb10) (hd.below _)⟩
    · go_enter Try.func14, Try.ntmps14
      go_wp2_with fail
      refine (szActs_no A cap _ w h hm).mono ?_; rintro e w' ⟨rfl, rfl⟩
      go_wp2_with fail
      go_ret
      exact ⟨rfl, Below.refl _ _⟩
  · go_enter Try.func14, Try.ntmps14
    go_wp2_with fail
    go_ret
    exact ⟨rfl, Below.refl _ _⟩

end Go.Proofs.Ytkeamefifjmabaa
