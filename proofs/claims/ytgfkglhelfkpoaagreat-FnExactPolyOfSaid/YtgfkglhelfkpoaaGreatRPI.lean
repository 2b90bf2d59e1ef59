/- Texts put together: WXPolyOf. -/
import Derived.Test.YtgfkglhelfkpoaaGreatRPH
import Derived.Test.YtgfkglhelfkpoaaGreatRP
import Derived.Deep.RegionHeld3

/- The walk of the law FnExactPolyOf. -/
namespace Go.Proofs.YtgfkglhelfkpoaaGreat
open Go.RowKit Plain

set_option maxRecDepth 100000 in
set_option maxHeartbeats 1000000 in
theorem lawExactPolyOf_0 (P0 : List Fn) (A0 : Option Addr) (cap0 : Nat) (a1 : Int) (a2 : Int) (w : World) (h0 : FnSl w w.heap.size P0 A0) (_hl0 : P0.length ≤ cap0) (hm0 : cap0 ≤ maxLen) (_w1 : (Lit.int .i64 a1).wf = true) (_w2 : (Lit.int .i64 a2).wf = true)  (c0 : ¬ fnSize P0 ≤ 1048576) :
    Calls Tryz.prog 7 #[prV A0 P0.length cap0, .int .i64 a1, .int .i64 a2] w fun e w' => e = .returned (.bool true) ∧ Below w.heap.size w w' := by
  have C0 := Lib.hid c0; clear c0
  have S0 := Lib.hid h0; clear h0
  have HM0 : cap0 ≤ 9223372036854775807 := by have := hm0; unfold maxLen at this; omega
  have HB0 : Hid (Below w.heap.size w (w.alloc (.cells #[.slice A0 P0.length cap0] 44))) := by show Below _ _ _; go_grown
  go_enter Tryz.func7, Tryz.ntmps7
  go_wp2_with fail
  refine (szProgram_any P0 A0 cap0 w.heap.size 1048576 _ (S0.out.below HB0.out) HB0.out.size (by omega) (by omega) (by omega)).mono ?_; rintro e w1 ⟨rfl, hb1⟩
  have HB1 := Lib.hid (bnext HB0.out hb1)
  clear hb1
  rw [szV_no (by have := C0.out; omega)]
  go_wp2
  go_ret
  exact ⟨rfl, HB1.out⟩

set_option maxRecDepth 100000 in
set_option maxHeartbeats 8000000 in
theorem lawExactPolyOf_ok (P0 : List Fn) (A0 : Option Addr) (cap0 : Nat) (a1 : Int) (a2 : Int) (w : World) (h0 : FnSl w w.heap.size P0 A0) (_hl0 : P0.length ≤ cap0) (_hm0 : cap0 ≤ maxLen) (_w1 : (Lit.int .i64 a1).wf = true) (_w2 : (Lit.int .i64 a2).wf = true) (c0 : fnSize P0 ≤ 1048576) :
    Calls Tryz.prog 7 #[prV A0 P0.length cap0, .int .i64 a1, .int .i64 a2] w fun e w' => e = .returned (.bool true) ∧ Below w.heap.size w w' := by
  have C0 := Lib.hid c0; clear c0
  have S0 := Lib.hid h0; clear h0
  have Z0 : Hid (fnSize P0 ≤ 1048576) := by have := C0.out; show _ ≤ _; omega
  have pl0 : P0.length ≤ 1048576 := by have := Z0.out; unfold fnSize at this; omega
  obtain ⟨v0, hv0⟩ : ∃ v : Int × List Term', v = (polyOfV P0 a1 a2).1 := ⟨_, rfl⟩
  obtain ⟨v1, hv1⟩ : ∃ v : Int, v = (polyOfV P0 a1 a2).2 := ⟨_, rfl⟩
  have n0 : v0.2.length ≤ 1048576 := by rw [hv0]; exact Nat.le_trans (polyOfV_short P0 a1 a2).1 (by omega)
  have t0 : totT v0.2 ≤ 1048576 := by rw [hv0]; exact Nat.le_trans (polyOfV_short P0 a1 a2).2 (by omega)
  have V0 := Lib.hid hv0; clear hv0
  have V1 := Lib.hid hv1; clear hv1
  have HB0 : Hid (Below w.heap.size w (w.alloc (.cells #[.slice A0 P0.length cap0] 44))) := by show Below _ _ _; go_grown
  have HS0 := Lib.hid HB0.out.size
  have BX0_0 : Hid (Reg (w.alloc (.cells #[.slice A0 P0.length cap0] 44)) (w.heap.size) (w.heap.size + 1) (fun w' => Cells w' (w.heap.size) 44 [.slice A0 P0.length cap0])) := regBox (Cells.new w 44 [.slice A0 P0.length cap0])
  have HQB0 := Lib.hid BX0_0.out.size
  go_enter Tryz.func7, Tryz.ntmps7
  have qBX0_0 : World.cell? (w.alloc (.cells #[.slice A0 P0.length cap0] 44)) ⟨w.heap.size, 0, none⟩ = some (.slice A0 P0.length cap0) := by rw [BX0_0.out.now.cell]; rfl
  go_wp2_with fail
  refine (szProgram_any P0 A0 cap0 w.heap.size 1048576 _ (S0.out.below HB0.out) HB0.out.size (by omega) (by omega) (by omega)).mono ?_; rintro e w1 ⟨rfl, hb1⟩
  clear qBX0_0
  have HB1 := Lib.hid (bnext HB0.out hb1)
  have BX0_1 := Lib.hid (BX0_0.out.below hb1); clear BX0_0
  have HS1 := Lib.hid hb1.size
  clear hb1
  rw [szV_yes (by have := C0.out; omega)]
  obtain ⟨l0, hlv0⟩ : ∃ l0 : Int, l0 = 1048576 - fnSize P0 := ⟨_, rfl⟩
  rw [← hlv0]
  have lo0 : 0 ≤ l0 := by have := C0.out; omega
  have hi0 : l0 ≤ 1048576 := by omega
  have HL0 := Lib.hid hlv0; clear hlv0
  have qBX0_0 : World.cell? w1 ⟨w.heap.size, 0, none⟩ = some (.slice A0 P0.length cap0) := by rw [BX0_1.out.now.cell]; rfl
  go_wp2_with fail
  refine (toProgR Z0.out cap0 (S0.out.below HB1.out) HB1.out.size).mono ?_; rintro e w2 ⟨g2, hg2, rfl, hX2, hb2⟩
  clear qBX0_0
  have HB2 := Lib.hid (bnext HB1.out hb2)
  have BX0_2 := Lib.hid (BX0_1.out.below hb2); clear BX0_1
  have HS2 := Lib.hid hb2.size
  clear hb2
  have HG2 := Lib.hid hg2; clear hg2
  have U0_2 := Lib.hid hX2; clear hX2
  have HQ2 := Lib.hid U0_2.out.le
  have qBX0_0 : World.cell? w2 ⟨w.heap.size, 0, none⟩ = some (.slice A0 P0.length cap0) := by rw [BX0_2.out.now.cell]; rfl
  go_wp2_with fail
  refine (polyOfS P0 a1 a2 _ (regPIn U0_2.out Z0.out)).mono ?_
  rw [← V0.out, ← V1.out]
  rintro e w3 ⟨hb3, AR0, cR0, rfl, hR3⟩
  clear U0_2
  clear qBX0_0
  have HB3 := Lib.hid (bnext HB2.out hb3)
  have BX0_3 := Lib.hid (BX0_2.out.below hb3); clear BX0_2
  have HS3 := Lib.hid hb3.size
  clear hb3
  have R0_3 := Lib.hid hR3; clear hR3
  have hb4 : Below w3.heap.size w3 (w3.alloc (.cells #[.int .i64 v0.1, .slice AR0 v0.2.length cR0] 86)) := by go_grown
  have qBX0_0 : World.cell? (w3.alloc (.cells #[.int .i64 v0.1, .slice AR0 v0.2.length cR0] 86)) ⟨w.heap.size, 0, none⟩ = some (.slice A0 P0.length cap0) := by rw [(BX0_3.out.below hb4).now.cell]; rfl
  go_wp2_with fail
  clear qBX0_0
  have BC4 : Hid (Cells (w3.alloc (.cells #[.int .i64 v0.1, .slice AR0 v0.2.length cR0] 86)) w3.heap.size 86 [.int .i64 v0.1, .slice AR0 v0.2.length cR0]) := Cells.new w3 86 [.int .i64 v0.1, .slice AR0 v0.2.length cR0]
  change Calls _ _ _ (w3.alloc (.cells #[.int .i64 v0.1, .slice AR0 v0.2.length cR0] 86)) _
  generalize (w3.alloc (.cells #[.int .i64 v0.1, .slice AR0 v0.2.length cR0] 86)) = w4 at *
  have HB4 := Lib.hid (bnext HB3.out hb4)
  have BX0_4 := Lib.hid (BX0_3.out.below hb4); clear BX0_3
  have R0_4 := Lib.hid (R0_3.out.below hb4); clear R0_3
  have HS4 := Lib.hid hb4.size
  clear hb4
  have VXR_4 : Hid (Reg w4 w3.heap.size (w3.heap.size + 1) (fun w' => Cells w' w3.heap.size 86 [.int .i64 v0.1, .slice AR0 v0.2.length cR0])) := regBox BC4.out
  clear BC4
  have HQ4 := Lib.hid VXR_4.out.size
  have qBX0_0 : World.cell? w4 ⟨w.heap.size, 0, none⟩ = some (.slice A0 P0.length cap0) := by rw [BX0_4.out.now.cell]; rfl
  have qVXR_0 : World.cell? w4 ⟨w3.heap.size, 0, none⟩ = some (.int .i64 v0.1) := by rw [VXR_4.out.now.cell]; rfl
  have qVXR_1 : World.cell? w4 ⟨w3.heap.size, 1, none⟩ = some (.slice AR0 v0.2.length cR0) := by rw [VXR_4.out.now.cell]; rfl
  refine (toProgR Z0.out cap0 (S0.out.below HB4.out) HB4.out.size).mono ?_; rintro e w5 ⟨g5, hg5, rfl, hX5, hb5⟩
  clear qBX0_0 qVXR_0 qVXR_1
  have HB5 := Lib.hid (bnext HB4.out hb5)
  have BX0_5 := Lib.hid (BX0_4.out.below hb5); clear BX0_4
  have R0_5 := Lib.hid (R0_4.out.below hb5); clear R0_4
  have VXR_5 := Lib.hid (VXR_4.out.below hb5); clear VXR_4
  have HS5 := Lib.hid hb5.size
  clear hb5
  have HG5 := Lib.hid hg5; clear hg5
  have X0_5 := Lib.hid hX5; clear hX5
  have HQ5 := Lib.hid X0_5.out.le
  have hb6 : Below w5.heap.size w5 (w5.alloc (.cells #[.slice (some ⟨g5, 0, none⟩) P0.length P0.length] 51)) := by go_grown
  have qBX0_0 : World.cell? w5 ⟨w.heap.size, 0, none⟩ = some (.slice A0 P0.length cap0) := by rw [BX0_5.out.now.cell]; rfl
  have qVXR_0 : World.cell? w5 ⟨w3.heap.size, 0, none⟩ = some (.int .i64 v0.1) := by rw [VXR_5.out.now.cell]; rfl
  have qVXR_1 : World.cell? w5 ⟨w3.heap.size, 1, none⟩ = some (.slice AR0 v0.2.length cR0) := by rw [VXR_5.out.now.cell]; rfl
  go_wp2_with fail
  clear qBX0_0 qVXR_0 qVXR_1
  have BC6 : Hid (Cells (w5.alloc (.cells #[.slice (some ⟨g5, 0, none⟩) P0.length P0.length] 51)) w5.heap.size 51 [.slice (some ⟨g5, 0, none⟩) P0.length P0.length]) := Cells.new w5 51 [.slice (some ⟨g5, 0, none⟩) P0.length P0.length]
  change Calls _ _ _ (w5.alloc (.cells #[.slice (some ⟨g5, 0, none⟩) P0.length P0.length] 51)) _
  generalize (w5.alloc (.cells #[.slice (some ⟨g5, 0, none⟩) P0.length P0.length] 51)) = w6 at *
  have HB6 := Lib.hid (bnext HB5.out hb6)
  have BX0_6 := Lib.hid (BX0_5.out.below hb6); clear BX0_5
  have R0_6 := Lib.hid (R0_5.out.below hb6); clear R0_5
  have VXR_6 := Lib.hid (VXR_5.out.below hb6); clear VXR_5
  have X0_6 := Lib.hid (X0_5.out.below hb6); clear X0_5
  have HS6 := Lib.hid hb6.size
  clear hb6
  have VX0_6 : Hid (Reg w6 w5.heap.size (w5.heap.size + 1) (fun w' => Cells w' w5.heap.size 51 [.slice (some ⟨g5, 0, none⟩) P0.length P0.length])) := regBox BC6.out
  clear BC6
  have HQ6 := Lib.hid VX0_6.out.size
  have qBX0_0 : World.cell? w6 ⟨w.heap.size, 0, none⟩ = some (.slice A0 P0.length cap0) := by rw [BX0_6.out.now.cell]; rfl
  have qVXR_0 : World.cell? w6 ⟨w3.heap.size, 0, none⟩ = some (.int .i64 v0.1) := by rw [VXR_6.out.now.cell]; rfl
  have qVXR_1 : World.cell? w6 ⟨w3.heap.size, 1, none⟩ = some (.slice AR0 v0.2.length cR0) := by rw [VXR_6.out.now.cell]; rfl
  have qVX0_0 : World.cell? w6 ⟨w5.heap.size, 0, none⟩ = some (.slice (some ⟨g5, 0, none⟩) P0.length P0.length) := by rw [VX0_6.out.now.cell]; rfl
  skip
  refine (polyOfI P0 a1 a2 _ (regPIn X0_6.out Z0.out)).mono ?_
  rw [← V0.out, ← V1.out]
  rintro e w7 ⟨hb7, AG0, cG0, rfl, hR7⟩
  clear qBX0_0 qVXR_0 qVXR_1 qVX0_0
  have HB7 := Lib.hid (bnext HB6.out hb7)
  have BX0_7 := Lib.hid (BX0_6.out.below hb7); clear BX0_6
  have R0_7 := Lib.hid (R0_6.out.below hb7); clear R0_6
  have VXR_7 := Lib.hid (VXR_6.out.below hb7); clear VXR_6
  have X0_7 := Lib.hid (X0_6.out.below hb7); clear X0_6
  have VX0_7 := Lib.hid (VX0_6.out.below hb7); clear VX0_6
  have HS7 := Lib.hid hb7.size
  clear hb7
  have G0_7 := Lib.hid hR7; clear hR7
  have hb8 : Below w7.heap.size w7 (w7.alloc (.cells #[.int .i64 v0.1, .slice AG0 v0.2.length cG0] 86)) := by go_grown
  have qBX0_0 : World.cell? (w7.alloc (.cells #[.int .i64 v0.1, .slice AG0 v0.2.length cG0] 86)) ⟨w.heap.size, 0, none⟩ = some (.slice A0 P0.length cap0) := by rw [(BX0_7.out.below hb8).now.cell]; rfl
  have qVXR_0 : World.cell? (w7.alloc (.cells #[.int .i64 v0.1, .slice AG0 v0.2.length cG0] 86)) ⟨w3.heap.size, 0, none⟩ = some (.int .i64 v0.1) := by rw [(VXR_7.out.below hb8).now.cell]; rfl
  have qVXR_1 : World.cell? (w7.alloc (.cells #[.int .i64 v0.1, .slice AG0 v0.2.length cG0] 86)) ⟨w3.heap.size, 1, none⟩ = some (.slice AR0 v0.2.length cR0) := by rw [(VXR_7.out.below hb8).now.cell]; rfl
  have qVX0_0 : World.cell? (w7.alloc (.cells #[.int .i64 v0.1, .slice AG0 v0.2.length cG0] 86)) ⟨w5.heap.size, 0, none⟩ = some (.slice (some ⟨g5, 0, none⟩) P0.length P0.length) := by rw [(VX0_7.out.below hb8).now.cell]; rfl
  go_wp2_with fail
  clear qBX0_0 qVXR_0 qVXR_1 qVX0_0
  have BC8 : Hid (Cells (w7.alloc (.cells #[.int .i64 v0.1, .slice AG0 v0.2.length cG0] 86)) w7.heap.size 86 [.int .i64 v0.1, .slice AG0 v0.2.length cG0]) := Cells.new w7 86 [.int .i64 v0.1, .slice AG0 v0.2.length cG0]
  change Calls _ _ _ (w7.alloc (.cells #[.int .i64 v0.1, .slice AG0 v0.2.length cG0] 86)) _
  generalize (w7.alloc (.cells #[.int .i64 v0.1, .slice AG0 v0.2.length cG0] 86)) = w8 at *
  have HB8 := Lib.hid (bnext HB7.out hb8)
  have BX0_8 := Lib.hid (BX0_7.out.below hb8); clear BX0_7
  have R0_8 := Lib.hid (R0_7.out.below hb8); clear R0_7
  have VXR_8 := Lib.hid (VXR_7.out.below hb8); clear VXR_7
  have X0_8 := Lib.hid (X0_7.out.below hb8); clear X0_7
  have VX0_8 := Lib.hid (VX0_7.out.below hb8); clear VX0_7
  have G0_8 := Lib.hid (G0_7.out.below hb8); clear G0_7
  have HS8 := Lib.hid hb8.size
  clear hb8
  have VXG_8 : Hid (Reg w8 w7.heap.size (w7.heap.size + 1) (fun w' => Cells w' w7.heap.size 86 [.int .i64 v0.1, .slice AG0 v0.2.length cG0])) := regBox BC8.out
  clear BC8
  have HQ8 := Lib.hid VXG_8.out.size
  have qBX0_0 : World.cell? w8 ⟨w.heap.size, 0, none⟩ = some (.slice A0 P0.length cap0) := by rw [BX0_8.out.now.cell]; rfl
  have qVXR_0 : World.cell? w8 ⟨w3.heap.size, 0, none⟩ = some (.int .i64 v0.1) := by rw [VXR_8.out.now.cell]; rfl
  have qVXR_1 : World.cell? w8 ⟨w3.heap.size, 1, none⟩ = some (.slice AR0 v0.2.length cR0) := by rw [VXR_8.out.now.cell]; rfl
  have qVX0_0 : World.cell? w8 ⟨w5.heap.size, 0, none⟩ = some (.slice (some ⟨g5, 0, none⟩) P0.length P0.length) := by rw [VX0_8.out.now.cell]; rfl
  have qVXG_0 : World.cell? w8 ⟨w7.heap.size, 0, none⟩ = some (.int .i64 v0.1) := by rw [VXG_8.out.now.cell]; rfl
  have qVXG_1 : World.cell? w8 ⟨w7.heap.size, 1, none⟩ = some (.slice AG0 v0.2.length cG0) := by rw [VXG_8.out.now.cell]; rfl
  refine (eqPoly_any v0.1 AG0 AR0 cG0 cR0 v0.2 _ (regTms G0_8.out (by omega)) (regRd R0_8.out (by omega)) (by omega) (by omega)).mono ?_; rintro e w9 ⟨rfl, hb9⟩
  clear qBX0_0 qVXR_0 qVXR_1 qVX0_0 qVXG_0 qVXG_1
  have HB9 := Lib.hid (bnext HB8.out hb9)
  have BX0_9 := Lib.hid (BX0_8.out.below hb9); clear BX0_8
  have R0_9 := Lib.hid (R0_8.out.below hb9); clear R0_8
  have VXR_9 := Lib.hid (VXR_8.out.below hb9); clear VXR_8
  have X0_9 := Lib.hid (X0_8.out.below hb9); clear X0_8
  have VX0_9 := Lib.hid (VX0_8.out.below hb9); clear VX0_8
  have G0_9 := Lib.hid (G0_8.out.below hb9); clear G0_8
  have VXG_9 := Lib.hid (VXG_8.out.below hb9); clear VXG_8
  have HS9 := Lib.hid hb9.size
  clear hb9
  have qBX0_0 : World.cell? w9 ⟨w.heap.size, 0, none⟩ = some (.slice A0 P0.length cap0) := by rw [BX0_9.out.now.cell]; rfl
  have qVXR_0 : World.cell? w9 ⟨w3.heap.size, 0, none⟩ = some (.int .i64 v0.1) := by rw [VXR_9.out.now.cell]; rfl
  have qVXR_1 : World.cell? w9 ⟨w3.heap.size, 1, none⟩ = some (.slice AR0 v0.2.length cR0) := by rw [VXR_9.out.now.cell]; rfl
  have qVX0_0 : World.cell? w9 ⟨w5.heap.size, 0, none⟩ = some (.slice (some ⟨g5, 0, none⟩) P0.length P0.length) := by rw [VX0_9.out.now.cell]; rfl
  have qVXG_0 : World.cell? w9 ⟨w7.heap.size, 0, none⟩ = some (.int .i64 v0.1) := by rw [VXG_9.out.now.cell]; rfl
  have qVXG_1 : World.cell? w9 ⟨w7.heap.size, 1, none⟩ = some (.slice AG0 v0.2.length cG0) := by rw [VXG_9.out.now.cell]; rfl
  go_wp2_with fail
  have KT10 : Hid (∀ wx, Below w9.heap.size w9 wx → Calls Tryz.prog 22 #[prV A0 P0.length cap0] wx fun e w' => ∃ g, wx.heap.size ≤ g ∧ e = .returned (prV (some ⟨g, 0, none⟩) P0.length P0.length) ∧ Reg w' g w'.heap.size (ProgR g w'.heap.size P0) ∧ Below wx.heap.size wx w') := fun wx hx => toProgR Z0.out cap0 (S0.out.below (bnext HB9.out hx)) (bnext HB9.out hx).size
  have KS10 := Lib.hid (And.intro qVX0_0 qBX0_0)
  go_region_held3 (fun wx => wx.cell? ⟨w5.heap.size, 0, none⟩ = some (.slice (some ⟨g5, 0, none⟩) P0.length P0.length) ∧ wx.cell? ⟨w.heap.size, 0, none⟩ = some (.slice A0 P0.length cap0)) (first | exact KS10.out | exact KS10.out | go_keep | exact keep2 KS10.out hb10 | exact keep2 KS10.out (hb10.trans (hb11.mono hb10.size)))
    (first
      | (go_at_call 27; have _tk := hX10; (with_reducible refine (eqProgR _ _ (X0_9.out.below hb10) hX10 Z0.out).mono ?_); rintro e w11 ⟨rfl, hb11⟩)
      | (go_at_call 22; refine (KT10.out _ (by first | exact (Below.refl _ _).drew | exact below_drewN' (Below.refl _ _) _ | exact Below.refl _ _)).mono ?_; rintro e w10 ⟨g10, hg10, rfl, hX10, hb10'⟩; have hb10 : Below w9.heap.size w9 w10 := by first | exact bdrew hb10' | exact bdrewN hb10' | exact hb10'))
  clear hX10 hg10 hb10' KS10 KT10
  clear qBX0_0 qVXR_0 qVXR_1 qVX0_0 qVXG_0 qVXG_1
  have HB10 := Lib.hid (bnext HB9.out hb10)
  have BX0_10 := Lib.hid (BX0_9.out.below hb10); clear BX0_9
  have R0_10 := Lib.hid (R0_9.out.below hb10); clear R0_9
  have VXR_10 := Lib.hid (VXR_9.out.below hb10); clear VXR_9
  have X0_10 := Lib.hid (X0_9.out.below hb10); clear X0_9
  have VX0_10 := Lib.hid (VX0_9.out.below hb10); clear VX0_9
  have G0_10 := Lib.hid (G0_9.out.below hb10); clear G0_9
  have VXG_10 := Lib.hid (VXG_9.out.below hb10); clear VXG_9
  have HS10 := Lib.hid hb10.size
  clear hb10
  have HB11 := Lib.hid (bnext HB10.out hb11)
  have BX0_11 := Lib.hid (BX0_10.out.below hb11); clear BX0_10
  have R0_11 := Lib.hid (R0_10.out.below hb11); clear R0_10
  have VXR_11 := Lib.hid (VXR_10.out.below hb11); clear VXR_10
  have X0_11 := Lib.hid (X0_10.out.below hb11); clear X0_10
  have VX0_11 := Lib.hid (VX0_10.out.below hb11); clear VX0_10
  have G0_11 := Lib.hid (G0_10.out.below hb11); clear G0_10
  have VXG_11 := Lib.hid (VXG_10.out.below hb11); clear VXG_10
  have HS11 := Lib.hid hb11.size
  clear hb11
  have qBX0_0 : World.cell? w11 ⟨w.heap.size, 0, none⟩ = some (.slice A0 P0.length cap0) := by rw [BX0_11.out.now.cell]; rfl
  have qVXR_0 : World.cell? w11 ⟨w3.heap.size, 0, none⟩ = some (.int .i64 v0.1) := by rw [VXR_11.out.now.cell]; rfl
  have qVXR_1 : World.cell? w11 ⟨w3.heap.size, 1, none⟩ = some (.slice AR0 v0.2.length cR0) := by rw [VXR_11.out.now.cell]; rfl
  have qVX0_0 : World.cell? w11 ⟨w5.heap.size, 0, none⟩ = some (.slice (some ⟨g5, 0, none⟩) P0.length P0.length) := by rw [VX0_11.out.now.cell]; rfl
  have qVXG_0 : World.cell? w11 ⟨w7.heap.size, 0, none⟩ = some (.int .i64 v0.1) := by rw [VXG_11.out.now.cell]; rfl
  have qVXG_1 : World.cell? w11 ⟨w7.heap.size, 1, none⟩ = some (.slice AG0 v0.2.length cG0) := by rw [VXG_11.out.now.cell]; rfl
  go_wp2_with fail
  refine (markProgR _ X0_11.out Z0.out (by omega) (by omega)).mono ?_; rintro e w12 ⟨k12, rfl, k012, k112, hO12⟩
  clear X0_11
  have k212 : 0 ≤ k12 := by omega
  have k312 : k12 ≤ 1 + 4194304 := by have := Z0.out; omega
  clear k012 k112
  clear qBX0_0 qVXR_0 qVXR_1 qVX0_0 qVXG_0 qVXG_1
  have hz12 : w.heap.size ≤ g5 ∧ g5 ≤ w5.heap.size ∧ w5.heap.size ≤ w11.heap.size := by have := HS0.out; have := HQB0.out; have := HS1.out; have := HS2.out; have := HG2.out; have := HQ2.out; have := HS3.out; have := HS4.out; have := HQ4.out; have := HS5.out; have := HG5.out; have := HQ5.out; have := HS6.out; have := HQ6.out; have := HS7.out; have := HS8.out; have := HQ8.out; have := HS9.out; have := HS10.out; have := HS11.out; omega
  have HB12 := Lib.hid (belowRegion HB11.out hO12 hz12.1)
  have BX0_12 := Lib.hid (BX0_11.out.apart hO12 (by have := HS0.out; have := HQB0.out; have := HS1.out; have := HS2.out; have := HG2.out; have := HQ2.out; have := HS3.out; have := HS4.out; have := HQ4.out; have := HS5.out; have := HG5.out; have := HQ5.out; have := HS6.out; have := HQ6.out; have := HS7.out; have := HS8.out; have := HQ8.out; have := HS9.out; have := HS10.out; have := HS11.out; omega)); clear BX0_11
  have R0_12 := Lib.hid (R0_11.out.apart hO12 (by have := HS0.out; have := HQB0.out; have := HS1.out; have := HS2.out; have := HG2.out; have := HQ2.out; have := HS3.out; have := HS4.out; have := HQ4.out; have := HS5.out; have := HG5.out; have := HQ5.out; have := HS6.out; have := HQ6.out; have := HS7.out; have := HS8.out; have := HQ8.out; have := HS9.out; have := HS10.out; have := HS11.out; omega)); clear R0_11
  have VXR_12 := Lib.hid (VXR_11.out.apart hO12 (by have := HS0.out; have := HQB0.out; have := HS1.out; have := HS2.out; have := HG2.out; have := HQ2.out; have := HS3.out; have := HS4.out; have := HQ4.out; have := HS5.out; have := HG5.out; have := HQ5.out; have := HS6.out; have := HQ6.out; have := HS7.out; have := HS8.out; have := HQ8.out; have := HS9.out; have := HS10.out; have := HS11.out; omega)); clear VXR_11
  have VX0_12 := Lib.hid (VX0_11.out.apart hO12 (by have := HS0.out; have := HQB0.out; have := HS1.out; have := HS2.out; have := HG2.out; have := HQ2.out; have := HS3.out; have := HS4.out; have := HQ4.out; have := HS5.out; have := HG5.out; have := HQ5.out; have := HS6.out; have := HQ6.out; have := HS7.out; have := HS8.out; have := HQ8.out; have := HS9.out; have := HS10.out; have := HS11.out; omega)); clear VX0_11
  have G0_12 := Lib.hid (G0_11.out.apart hO12 (by have := HS0.out; have := HQB0.out; have := HS1.out; have := HS2.out; have := HG2.out; have := HQ2.out; have := HS3.out; have := HS4.out; have := HQ4.out; have := HS5.out; have := HG5.out; have := HQ5.out; have := HS6.out; have := HQ6.out; have := HS7.out; have := HS8.out; have := HQ8.out; have := HS9.out; have := HS10.out; have := HS11.out; omega)); clear G0_11
  have VXG_12 := Lib.hid (VXG_11.out.apart hO12 (by have := HS0.out; have := HQB0.out; have := HS1.out; have := HS2.out; have := HG2.out; have := HQ2.out; have := HS3.out; have := HS4.out; have := HQ4.out; have := HS5.out; have := HG5.out; have := HQ5.out; have := HS6.out; have := HQ6.out; have := HS7.out; have := HS8.out; have := HQ8.out; have := HS9.out; have := HS10.out; have := HS11.out; omega)); clear VXG_11
  have HS12 := Lib.hid hO12.size
  clear hO12 hz12
  have hkk : decide (k12 < 0) = false := by simpa using k212
  have qBX0_0 : World.cell? w12 ⟨w.heap.size, 0, none⟩ = some (.slice A0 P0.length cap0) := by rw [BX0_12.out.now.cell]; rfl
  have qVXR_0 : World.cell? w12 ⟨w3.heap.size, 0, none⟩ = some (.int .i64 v0.1) := by rw [VXR_12.out.now.cell]; rfl
  have qVXR_1 : World.cell? w12 ⟨w3.heap.size, 1, none⟩ = some (.slice AR0 v0.2.length cR0) := by rw [VXR_12.out.now.cell]; rfl
  have qVX0_0 : World.cell? w12 ⟨w5.heap.size, 0, none⟩ = some (.slice (some ⟨g5, 0, none⟩) P0.length P0.length) := by rw [VX0_12.out.now.cell]; rfl
  have qVXG_0 : World.cell? w12 ⟨w7.heap.size, 0, none⟩ = some (.int .i64 v0.1) := by rw [VXG_12.out.now.cell]; rfl
  have qVXG_1 : World.cell? w12 ⟨w7.heap.size, 1, none⟩ = some (.slice AG0 v0.2.length cG0) := by rw [VXG_12.out.now.cell]; rfl
  go_wp2_with fail
  refine (eqPoly_any v0.1 AG0 AR0 cG0 cR0 v0.2 _ (regTms G0_12.out (by omega)) (regRd R0_12.out (by omega)) (by omega) (by omega)).mono ?_; rintro e w13 ⟨rfl, hb13⟩
  clear qBX0_0 qVXR_0 qVXR_1 qVX0_0 qVXG_0 qVXG_1
  have HB13 := Lib.hid (bnext HB12.out hb13)
  have BX0_13 := Lib.hid (BX0_12.out.below hb13); clear BX0_12
  have R0_13 := Lib.hid (R0_12.out.below hb13); clear R0_12
  have VXR_13 := Lib.hid (VXR_12.out.below hb13); clear VXR_12
  have VX0_13 := Lib.hid (VX0_12.out.below hb13); clear VX0_12
  have G0_13 := Lib.hid (G0_12.out.below hb13); clear G0_12
  have VXG_13 := Lib.hid (VXG_12.out.below hb13); clear VXG_12
  have HS13 := Lib.hid hb13.size
  clear hb13
  have qBX0_0 : World.cell? w13 ⟨w.heap.size, 0, none⟩ = some (.slice A0 P0.length cap0) := by rw [BX0_13.out.now.cell]; rfl
  have qVXR_0 : World.cell? w13 ⟨w3.heap.size, 0, none⟩ = some (.int .i64 v0.1) := by rw [VXR_13.out.now.cell]; rfl
  have qVXR_1 : World.cell? w13 ⟨w3.heap.size, 1, none⟩ = some (.slice AR0 v0.2.length cR0) := by rw [VXR_13.out.now.cell]; rfl
  have qVX0_0 : World.cell? w13 ⟨w5.heap.size, 0, none⟩ = some (.slice (some ⟨g5, 0, none⟩) P0.length P0.length) := by rw [VX0_13.out.now.cell]; rfl
  have qVXG_0 : World.cell? w13 ⟨w7.heap.size, 0, none⟩ = some (.int .i64 v0.1) := by rw [VXG_13.out.now.cell]; rfl
  have qVXG_1 : World.cell? w13 ⟨w7.heap.size, 1, none⟩ = some (.slice AG0 v0.2.length cG0) := by rw [VXG_13.out.now.cell]; rfl
  go_wp2_with fail
  refine (markPolyV v0.1 cG0 G0_13.out (by omega) (by omega) (by omega) (by omega)).mono ?_; rintro e w14 ⟨rfl, hM14, hO14⟩
  clear G0_13
  clear qBX0_0 qVXR_0 qVXR_1 qVX0_0 qVXG_0 qVXG_1
  have hz14 : w.heap.size ≤ w6.heap.size ∧ w6.heap.size ≤ w7.heap.size ∧ w7.heap.size ≤ w13.heap.size := by have := HS0.out; have := HQB0.out; have := HS1.out; have := HS2.out; have := HG2.out; have := HQ2.out; have := HS3.out; have := HS4.out; have := HQ4.out; have := HS5.out; have := HG5.out; have := HQ5.out; have := HS6.out; have := HQ6.out; have := HS7.out; have := HS8.out; have := HQ8.out; have := HS9.out; have := HS10.out; have := HS11.out; have := HS12.out; have := HS13.out; omega
  have HB14 := Lib.hid (belowRegion HB13.out hO14 hz14.1)
  have BX0_14 := Lib.hid (BX0_13.out.apart hO14 (by have := HS0.out; have := HQB0.out; have := HS1.out; have := HS2.out; have := HG2.out; have := HQ2.out; have := HS3.out; have := HS4.out; have := HQ4.out; have := HS5.out; have := HG5.out; have := HQ5.out; have := HS6.out; have := HQ6.out; have := HS7.out; have := HS8.out; have := HQ8.out; have := HS9.out; have := HS10.out; have := HS11.out; have := HS12.out; have := HS13.out; omega)); clear BX0_13
  have R0_14 := Lib.hid (R0_13.out.apart hO14 (by have := HS0.out; have := HQB0.out; have := HS1.out; have := HS2.out; have := HG2.out; have := HQ2.out; have := HS3.out; have := HS4.out; have := HQ4.out; have := HS5.out; have := HG5.out; have := HQ5.out; have := HS6.out; have := HQ6.out; have := HS7.out; have := HS8.out; have := HQ8.out; have := HS9.out; have := HS10.out; have := HS11.out; have := HS12.out; have := HS13.out; omega)); clear R0_13
  have VXR_14 := Lib.hid (VXR_13.out.apart hO14 (by have := HS0.out; have := HQB0.out; have := HS1.out; have := HS2.out; have := HG2.out; have := HQ2.out; have := HS3.out; have := HS4.out; have := HQ4.out; have := HS5.out; have := HG5.out; have := HQ5.out; have := HS6.out; have := HQ6.out; have := HS7.out; have := HS8.out; have := HQ8.out; have := HS9.out; have := HS10.out; have := HS11.out; have := HS12.out; have := HS13.out; omega)); clear VXR_13
  have VX0_14 := Lib.hid (VX0_13.out.apart hO14 (by have := HS0.out; have := HQB0.out; have := HS1.out; have := HS2.out; have := HG2.out; have := HQ2.out; have := HS3.out; have := HS4.out; have := HQ4.out; have := HS5.out; have := HG5.out; have := HQ5.out; have := HS6.out; have := HQ6.out; have := HS7.out; have := HS8.out; have := HQ8.out; have := HS9.out; have := HS10.out; have := HS11.out; have := HS12.out; have := HS13.out; omega)); clear VX0_13
  have VXG_14 := Lib.hid (VXG_13.out.apart hO14 (by have := HS0.out; have := HQB0.out; have := HS1.out; have := HS2.out; have := HG2.out; have := HQ2.out; have := HS3.out; have := HS4.out; have := HQ4.out; have := HS5.out; have := HG5.out; have := HQ5.out; have := HS6.out; have := HQ6.out; have := HS7.out; have := HS8.out; have := HQ8.out; have := HS9.out; have := HS10.out; have := HS11.out; have := HS12.out; have := HS13.out; omega)); clear VXG_13
  have HS14 := Lib.hid hO14.size
  clear hO14 hz14
  have G0_14 := Lib.hid hM14; clear hM14
  have qBX0_0 : World.cell? w14 ⟨w.heap.size, 0, none⟩ = some (.slice A0 P0.length cap0) := by rw [BX0_14.out.now.cell]; rfl
  have qVXR_0 : World.cell? w14 ⟨w3.heap.size, 0, none⟩ = some (.int .i64 v0.1) := by rw [VXR_14.out.now.cell]; rfl
  have qVXR_1 : World.cell? w14 ⟨w3.heap.size, 1, none⟩ = some (.slice AR0 v0.2.length cR0) := by rw [VXR_14.out.now.cell]; rfl
  have qVX0_0 : World.cell? w14 ⟨w5.heap.size, 0, none⟩ = some (.slice (some ⟨g5, 0, none⟩) P0.length P0.length) := by rw [VX0_14.out.now.cell]; rfl
  have qVXG_0 : World.cell? w14 ⟨w7.heap.size, 0, none⟩ = some (.int .i64 v0.1) := by rw [VXG_14.out.now.cell]; rfl
  have qVXG_1 : World.cell? w14 ⟨w7.heap.size, 1, none⟩ = some (.slice AG0 v0.2.length cG0) := by rw [VXG_14.out.now.cell]; rfl
  go_wp2_with fail
  refine (heldPolyV v0.1 cG0 G0_14.out (by omega) (by omega) (by omega) (by omega)).mono ?_; rintro e w15 ⟨rfl, hb15⟩
  clear qBX0_0 qVXR_0 qVXR_1 qVX0_0 qVXG_0 qVXG_1
  have HB15 := Lib.hid (bnext HB14.out hb15)
  have BX0_15 := Lib.hid (BX0_14.out.below hb15); clear BX0_14
  have R0_15 := Lib.hid (R0_14.out.below hb15); clear R0_14
  have VXR_15 := Lib.hid (VXR_14.out.below hb15); clear VXR_14
  have VX0_15 := Lib.hid (VX0_14.out.below hb15); clear VX0_14
  have VXG_15 := Lib.hid (VXG_14.out.below hb15); clear VXG_14
  have G0_15 := Lib.hid (G0_14.out.below hb15); clear G0_14
  have HS15 := Lib.hid hb15.size
  clear hb15
  have qBX0_0 : World.cell? w15 ⟨w.heap.size, 0, none⟩ = some (.slice A0 P0.length cap0) := by rw [BX0_15.out.now.cell]; rfl
  have qVXR_0 : World.cell? w15 ⟨w3.heap.size, 0, none⟩ = some (.int .i64 v0.1) := by rw [VXR_15.out.now.cell]; rfl
  have qVXR_1 : World.cell? w15 ⟨w3.heap.size, 1, none⟩ = some (.slice AR0 v0.2.length cR0) := by rw [VXR_15.out.now.cell]; rfl
  have qVX0_0 : World.cell? w15 ⟨w5.heap.size, 0, none⟩ = some (.slice (some ⟨g5, 0, none⟩) P0.length P0.length) := by rw [VX0_15.out.now.cell]; rfl
  have qVXG_0 : World.cell? w15 ⟨w7.heap.size, 0, none⟩ = some (.int .i64 v0.1) := by rw [VXG_15.out.now.cell]; rfl
  have qVXG_1 : World.cell? w15 ⟨w7.heap.size, 1, none⟩ = some (.slice AG0 v0.2.length cG0) := by rw [VXG_15.out.now.cell]; rfl
  go_wp2_with fail
  clear VX0_15 qVX0_0
  refine (toProgR Z0.out cap0 (S0.out.below HB15.out) HB15.out.size).mono ?_; rintro e w16 ⟨g16, hg16, rfl, hX16, hb16⟩
  clear qBX0_0 qVXR_0 qVXR_1 qVXG_0 qVXG_1
  have HB16 := Lib.hid (bnext HB15.out hb16)
  have BX0_16 := Lib.hid (BX0_15.out.below hb16); clear BX0_15
  have R0_16 := Lib.hid (R0_15.out.below hb16); clear R0_15
  have VXR_16 := Lib.hid (VXR_15.out.below hb16); clear VXR_15
  have VXG_16 := Lib.hid (VXG_15.out.below hb16); clear VXG_15
  have G0_16 := Lib.hid (G0_15.out.below hb16); clear G0_15
  have HS16 := Lib.hid hb16.size
  clear hb16
  have HG16 := Lib.hid hg16; clear hg16
  have Q0_16 := Lib.hid hX16; clear hX16
  have HQ16 := Lib.hid Q0_16.out.le
  have qBX0_0 : World.cell? w16 ⟨w.heap.size, 0, none⟩ = some (.slice A0 P0.length cap0) := by rw [BX0_16.out.now.cell]; rfl
  have qVXR_0 : World.cell? w16 ⟨w3.heap.size, 0, none⟩ = some (.int .i64 v0.1) := by rw [VXR_16.out.now.cell]; rfl
  have qVXR_1 : World.cell? w16 ⟨w3.heap.size, 1, none⟩ = some (.slice AR0 v0.2.length cR0) := by rw [VXR_16.out.now.cell]; rfl
  have qVXG_0 : World.cell? w16 ⟨w7.heap.size, 0, none⟩ = some (.int .i64 v0.1) := by rw [VXG_16.out.now.cell]; rfl
  have qVXG_1 : World.cell? w16 ⟨w7.heap.size, 1, none⟩ = some (.slice AG0 v0.2.length cG0) := by rw [VXG_16.out.now.cell]; rfl
  go_wp2_with fail
  refine (polyOfI P0 a1 a2 _ (regPIn Q0_16.out Z0.out)).mono ?_
  rw [← V0.out, ← V1.out]
  rintro e w17 ⟨hb17, AJ0, cJ0, rfl, hR17⟩
  clear Q0_16
  clear qBX0_0 qVXR_0 qVXR_1 qVXG_0 qVXG_1
  have HB17 := Lib.hid (bnext HB16.out hb17)
  have BX0_17 := Lib.hid (BX0_16.out.below hb17); clear BX0_16
  have R0_17 := Lib.hid (R0_16.out.below hb17); clear R0_16
  have VXR_17 := Lib.hid (VXR_16.out.below hb17); clear VXR_16
  have VXG_17 := Lib.hid (VXG_16.out.below hb17); clear VXG_16
  have G0_17 := Lib.hid (G0_16.out.below hb17); clear G0_16
  have HS17 := Lib.hid hb17.size
  clear hb17
  have J0_17 := Lib.hid hR17; clear hR17
  have hb18 : Below w17.heap.size w17 (w17.alloc (.cells #[.int .i64 v0.1, .slice AJ0 v0.2.length cJ0] 86)) := by go_grown
  have qBX0_0 : World.cell? (w17.alloc (.cells #[.int .i64 v0.1, .slice AJ0 v0.2.length cJ0] 86)) ⟨w.heap.size, 0, none⟩ = some (.slice A0 P0.length cap0) := by rw [(BX0_17.out.below hb18).now.cell]; rfl
  have qVXR_0 : World.cell? (w17.alloc (.cells #[.int .i64 v0.1, .slice AJ0 v0.2.length cJ0] 86)) ⟨w3.heap.size, 0, none⟩ = some (.int .i64 v0.1) := by rw [(VXR_17.out.below hb18).now.cell]; rfl
  have qVXR_1 : World.cell? (w17.alloc (.cells #[.int .i64 v0.1, .slice AJ0 v0.2.length cJ0] 86)) ⟨w3.heap.size, 1, none⟩ = some (.slice AR0 v0.2.length cR0) := by rw [(VXR_17.out.below hb18).now.cell]; rfl
  have qVXG_0 : World.cell? (w17.alloc (.cells #[.int .i64 v0.1, .slice AJ0 v0.2.length cJ0] 86)) ⟨w7.heap.size, 0, none⟩ = some (.int .i64 v0.1) := by rw [(VXG_17.out.below hb18).now.cell]; rfl
  have qVXG_1 : World.cell? (w17.alloc (.cells #[.int .i64 v0.1, .slice AJ0 v0.2.length cJ0] 86)) ⟨w7.heap.size, 1, none⟩ = some (.slice AG0 v0.2.length cG0) := by rw [(VXG_17.out.below hb18).now.cell]; rfl
  go_wp2_with fail
  clear qBX0_0 qVXR_0 qVXR_1 qVXG_0 qVXG_1
  have BC18 : Hid (Cells (w17.alloc (.cells #[.int .i64 v0.1, .slice AJ0 v0.2.length cJ0] 86)) w17.heap.size 86 [.int .i64 v0.1, .slice AJ0 v0.2.length cJ0]) := Cells.new w17 86 [.int .i64 v0.1, .slice AJ0 v0.2.length cJ0]
  change Calls _ _ _ (w17.alloc (.cells #[.int .i64 v0.1, .slice AJ0 v0.2.length cJ0] 86)) _
  generalize (w17.alloc (.cells #[.int .i64 v0.1, .slice AJ0 v0.2.length cJ0] 86)) = w18 at *
  have HB18 := Lib.hid (bnext HB17.out hb18)
  have BX0_18 := Lib.hid (BX0_17.out.below hb18); clear BX0_17
  have R0_18 := Lib.hid (R0_17.out.below hb18); clear R0_17
  have VXR_18 := Lib.hid (VXR_17.out.below hb18); clear VXR_17
  have VXG_18 := Lib.hid (VXG_17.out.below hb18); clear VXG_17
  have G0_18 := Lib.hid (G0_17.out.below hb18); clear G0_17
  have J0_18 := Lib.hid (J0_17.out.below hb18); clear J0_17
  have HS18 := Lib.hid hb18.size
  clear hb18
  have VXJ_18 : Hid (Reg w18 w17.heap.size (w17.heap.size + 1) (fun w' => Cells w' w17.heap.size 86 [.int .i64 v0.1, .slice AJ0 v0.2.length cJ0])) := regBox BC18.out
  clear BC18
  have HQ18 := Lib.hid VXJ_18.out.size
  have qBX0_0 : World.cell? w18 ⟨w.heap.size, 0, none⟩ = some (.slice A0 P0.length cap0) := by rw [BX0_18.out.now.cell]; rfl
  have qVXR_0 : World.cell? w18 ⟨w3.heap.size, 0, none⟩ = some (.int .i64 v0.1) := by rw [VXR_18.out.now.cell]; rfl
  have qVXR_1 : World.cell? w18 ⟨w3.heap.size, 1, none⟩ = some (.slice AR0 v0.2.length cR0) := by rw [VXR_18.out.now.cell]; rfl
  have qVXG_0 : World.cell? w18 ⟨w7.heap.size, 0, none⟩ = some (.int .i64 v0.1) := by rw [VXG_18.out.now.cell]; rfl
  have qVXG_1 : World.cell? w18 ⟨w7.heap.size, 1, none⟩ = some (.slice AG0 v0.2.length cG0) := by rw [VXG_18.out.now.cell]; rfl
  have qVXJ_0 : World.cell? w18 ⟨w17.heap.size, 0, none⟩ = some (.int .i64 v0.1) := by rw [VXJ_18.out.now.cell]; rfl
  have qVXJ_1 : World.cell? w18 ⟨w17.heap.size, 1, none⟩ = some (.slice AJ0 v0.2.length cJ0) := by rw [VXJ_18.out.now.cell]; rfl
  refine (eqPoly_any v0.1 AJ0 AR0 cJ0 cR0 v0.2 _ (regTms J0_18.out (by omega)) (regRd R0_18.out (by omega)) (by omega) (by omega)).mono ?_; rintro e w19 ⟨rfl, hb19⟩
  clear qBX0_0 qVXR_0 qVXR_1 qVXG_0 qVXG_1 qVXJ_0 qVXJ_1
  have HB19 := Lib.hid (bnext HB18.out hb19)
  have BX0_19 := Lib.hid (BX0_18.out.below hb19); clear BX0_18
  have R0_19 := Lib.hid (R0_18.out.below hb19); clear R0_18
  have VXR_19 := Lib.hid (VXR_18.out.below hb19); clear VXR_18
  have VXG_19 := Lib.hid (VXG_18.out.below hb19); clear VXG_18
  have G0_19 := Lib.hid (G0_18.out.below hb19); clear G0_18
  have J0_19 := Lib.hid (J0_18.out.below hb19); clear J0_18
  have VXJ_19 := Lib.hid (VXJ_18.out.below hb19); clear VXJ_18
  have HS19 := Lib.hid hb19.size
  clear hb19
  have qBX0_0 : World.cell? w19 ⟨w.heap.size, 0, none⟩ = some (.slice A0 P0.length cap0) := by rw [BX0_19.out.now.cell]; rfl
  have qVXR_0 : World.cell? w19 ⟨w3.heap.size, 0, none⟩ = some (.int .i64 v0.1) := by rw [VXR_19.out.now.cell]; rfl
  have qVXR_1 : World.cell? w19 ⟨w3.heap.size, 1, none⟩ = some (.slice AR0 v0.2.length cR0) := by rw [VXR_19.out.now.cell]; rfl
  have qVXG_0 : World.cell? w19 ⟨w7.heap.size, 0, none⟩ = some (.int .i64 v0.1) := by rw [VXG_19.out.now.cell]; rfl
  have qVXG_1 : World.cell? w19 ⟨w7.heap.size, 1, none⟩ = some (.slice AG0 v0.2.length cG0) := by rw [VXG_19.out.now.cell]; rfl
  have qVXJ_0 : World.cell? w19 ⟨w17.heap.size, 0, none⟩ = some (.int .i64 v0.1) := by rw [VXJ_19.out.now.cell]; rfl
  have qVXJ_1 : World.cell? w19 ⟨w17.heap.size, 1, none⟩ = some (.slice AJ0 v0.2.length cJ0) := by rw [VXJ_19.out.now.cell]; rfl
  go_wp2_with fail
  refine (heldPolyV v0.1 cG0 G0_19.out (by omega) (by omega) (by omega) (by omega)).mono ?_; rintro e w20 ⟨rfl, hb20⟩
  clear qBX0_0 qVXR_0 qVXR_1 qVXG_0 qVXG_1 qVXJ_0 qVXJ_1
  have HB20 := Lib.hid (bnext HB19.out hb20)
  have BX0_20 := Lib.hid (BX0_19.out.below hb20); clear BX0_19
  have R0_20 := Lib.hid (R0_19.out.below hb20); clear R0_19
  have VXR_20 := Lib.hid (VXR_19.out.below hb20); clear VXR_19
  have VXG_20 := Lib.hid (VXG_19.out.below hb20); clear VXG_19
  have G0_20 := Lib.hid (G0_19.out.below hb20); clear G0_19
  have J0_20 := Lib.hid (J0_19.out.below hb20); clear J0_19
  have VXJ_20 := Lib.hid (VXJ_19.out.below hb20); clear VXJ_19
  have HS20 := Lib.hid hb20.size
  clear hb20
  go_wp2
  go_ret
  exact ⟨rfl, HB20.out⟩

theorem lawExactPolyOf (P0 : List Fn) (A0 : Option Addr) (cap0 : Nat) (a1 : Int) (a2 : Int) (w : World) (h0 : FnSl w w.heap.size P0 A0) (hl0 : P0.length ≤ cap0) (hm0 : cap0 ≤ maxLen) (_w1 : (Lit.int .i64 a1).wf = true) (_w2 : (Lit.int .i64 a2).wf = true) :
    Calls Tryz.prog 7 #[prV A0 P0.length cap0, .int .i64 a1, .int .i64 a2] w fun e w' => e = .returned (.bool true) ∧ Below w.heap.size w w' := by
  by_cases c0 : fnSize P0 ≤ 1048576
  case neg => exact lawExactPolyOf_0 P0 A0 cap0 a1 a2 w h0 hl0 hm0 _w1 _w2 c0
  exact lawExactPolyOf_ok P0 A0 cap0 a1 a2 w h0 hl0 hm0 _w1 _w2 c0

end Go.Proofs.YtgfkglhelfkpoaaGreat
