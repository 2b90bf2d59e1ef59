/- FnExactHessianTimes: for every program, function, output, arguments and direction the program's HessianTimes returns what the reference's returns, in memory of its own. No condition. -/
import Derived.Test.YtlnikpjcggfdmaaGreatKW
import Derived.Test.YtlnikpjcggfdmaaGreatKP
import Derived.Deep.RegionHeld3
import Derived.WalkKit
import Derived.ProofKit
import Derived.OpenShut
import Derived.ShutString
import Derived.ChangeOld
import Derived.Below

/- The walk of the law FnExactHessianTimes. -/
namespace Go.Proofs.YtlnikpjcggfdmaaGreat
open Go.RowKit Plain

set_option maxRecDepth 100000 in
set_option maxHeartbeats 1000000 in
theorem lawExactHessianTimes_0 (P0 : List Fn) (A0 : Option Addr) (cap0 : Nat) (a1 : Int) (a2 : Int) (A3 : Option Addr) (cap3 : Nat) (z3 : List Int) (A4 : Option Addr) (cap4 : Nat) (z4 : List Int) (w : World) (_h0 : FnSl w w.heap.size P0 A0) (_hl0 : P0.length ≤ cap0) (_hm0 : cap0 ≤ maxLen) (_w1 : (Lit.int .i64 a1).wf = true) (_w2 : (Lit.int .i64 a2).wf = true) (_h3 : Ints w A3 z3) (_h4 : Ints w A4 z4)  (_c0 : ¬ z3.length ≤ 1048576) :
    Calls Tryz.prog 6 #[prV A0 P0.length cap0, .int .i64 a1, .int .i64 a2, .slice A3 z3.length cap3, .slice A4 z4.length cap4] w fun e w' => e = .returned (.bool true) ∧ Below w.heap.size w w' := by
  go_enter Tryz.func6, Tryz.ntmps6
  go_wp2
  go_ret
  exact ⟨rfl, by go_grown⟩

set_option maxRecDepth 100000 in
set_option maxHeartbeats 1000000 in
theorem lawExactHessianTimes_1 (P0 : List Fn) (A0 : Option Addr) (cap0 : Nat) (a1 : Int) (a2 : Int) (A3 : Option Addr) (cap3 : Nat) (z3 : List Int) (A4 : Option Addr) (cap4 : Nat) (z4 : List Int) (w : World) (_h0 : FnSl w w.heap.size P0 A0) (_hl0 : P0.length ≤ cap0) (_hm0 : cap0 ≤ maxLen) (_w1 : (Lit.int .i64 a1).wf = true) (_w2 : (Lit.int .i64 a2).wf = true) (_h3 : Ints w A3 z3) (_h4 : Ints w A4 z4) (_c0 : z3.length ≤ 1048576) (_c1 : ¬ z4.length ≤ 1048576) :
    Calls Tryz.prog 6 #[prV A0 P0.length cap0, .int .i64 a1, .int .i64 a2, .slice A3 z3.length cap3, .slice A4 z4.length cap4] w fun e w' => e = .returned (.bool true) ∧ Below w.heap.size w w' := by
  go_enter Tryz.func6, Tryz.ntmps6
  go_wp2
  go_ret
  exact ⟨rfl, by go_grown⟩

set_option maxRecDepth 100000 in
set_option maxHeartbeats 1000000 in
theorem lawExactHessianTimes_2 (P0 : List Fn) (A0 : Option Addr) (cap0 : Nat) (a1 : Int) (a2 : Int) (A3 : Option Addr) (cap3 : Nat) (z3 : List Int) (A4 : Option Addr) (cap4 : Nat) (z4 : List Int) (w : World) (h0 : FnSl w w.heap.size P0 A0) (_hl0 : P0.length ≤ cap0) (hm0 : cap0 ≤ maxLen) (_w1 : (Lit.int .i64 a1).wf = true) (_w2 : (Lit.int .i64 a2).wf = true) (_h3 : Ints w A3 z3) (_h4 : Ints w A4 z4) (_c0 : z3.length ≤ 1048576) (_c1 : z4.length ≤ 1048576) (c2 : ¬ fnSize P0 ≤ 1048576) :
    Calls Tryz.prog 6 #[prV A0 P0.length cap0, .int .i64 a1, .int .i64 a2, .slice A3 z3.length cap3, .slice A4 z4.length cap4] w fun e w' => e = .returned (.bool true) ∧ Below w.heap.size w w' := by
  have C2 := Lib.hid c2; clear c2
  have S0 := Lib.hid h0; clear h0
  have HM0 : cap0 ≤ 9223372036854775807 := by have := hm0; unfold maxLen at this; omega
  have HB0 : Hid (Below w.heap.size w (w.alloc (.cells #[.slice A0 P0.length cap0] 24))) := by show Below _ _ _; go_grown
  go_enter Tryz.func6, Tryz.ntmps6
  go_wp2_with fail
  refine (szProgram_any P0 A0 cap0 w.heap.size 1048576 _ (S0.out.below HB0.out) HB0.out.size (by omega) (by omega) (by omega)).mono ?_; rintro e w1 ⟨rfl, hb1⟩
  have HB1 := Lib.hid (bnext HB0.out hb1); clear hb1
  rw [szV_no (by have := C2.out; omega)]
  go_wp2
  go_ret
  exact ⟨rfl, HB1.out⟩

set_option maxRecDepth 100000 in
set_option maxHeartbeats 8000000 in
theorem lawExactHessianTimes_ok (P0 : List Fn) (A0 : Option Addr) (cap0 : Nat) (a1 : Int) (a2 : Int) (A3 : Option Addr) (cap3 : Nat) (z3 : List Int) (A4 : Option Addr) (cap4 : Nat) (z4 : List Int) (w : World) (h0 : FnSl w w.heap.size P0 A0) (_hl0 : P0.length ≤ cap0) (_hm0 : cap0 ≤ maxLen) (_w1 : (Lit.int .i64 a1).wf = true) (_w2 : (Lit.int .i64 a2).wf = true) (h3 : Ints w A3 z3) (h4 : Ints w A4 z4) (_c0 : z3.length ≤ 1048576) (_c1 : z4.length ≤ 1048576) (c2 : fnSize P0 ≤ 1048576) :
    Calls Tryz.prog 6 #[prV A0 P0.length cap0, .int .i64 a1, .int .i64 a2, .slice A3 z3.length cap3, .slice A4 z4.length cap4] w fun e w' => e = .returned (.bool true) ∧ Below w.heap.size w w' := by
  have C2 := Lib.hid c2; clear c2
  have S0 := Lib.hid h0; clear h0
  have Z0 : Hid (fnSize P0 ≤ 1048576) := by have := C2.out; show _ ≤ _; omega
  have pl0 : P0.length ≤ 1048576 := by have := Z0.out; unfold fnSize at this; omega
  have S3 := Lib.hid h3; clear h3
  have S4 := Lib.hid h4; clear h4
  obtain ⟨v0, hv0⟩ : ∃ v : List Int, v = (htV P0 a1 a2 z3 z4).1 := ⟨_, rfl⟩
  obtain ⟨v1, hv1⟩ : ∃ v : Int, v = (htV P0 a1 a2 z3 z4).2 := ⟨_, rfl⟩
  have n0 : v0.length ≤ 4194304 := by rw [hv0]; exact htV_len P0 a1 a2 z3 z4
  have V0 := Lib.hid hv0; clear hv0
  have V1 := Lib.hid hv1; clear hv1
  have HB0 : Hid (Below w.heap.size w (w.alloc (.cells #[.slice A0 P0.length cap0] 24))) := by show Below _ _ _; go_grown
  have HS0 := Lib.hid HB0.out.size
  have BX0_0 : Hid (Reg (w.alloc (.cells #[.slice A0 P0.length cap0] 24)) (w.heap.size) (w.heap.size + 1) (fun w' => Cells w' (w.heap.size) 24 [.slice A0 P0.length cap0])) := regBox (Cells.new w 24 [.slice A0 P0.length cap0])
  have HQB0 := Lib.hid BX0_0.out.size
  go_enter Tryz.func6, Tryz.ntmps6
  have qBX0_0 : World.cell? (w.alloc (.cells #[.slice A0 P0.length cap0] 24)) ⟨w.heap.size, 0, none⟩ = some (.slice A0 P0.length cap0) := by rw [BX0_0.out.now.cell]; rfl
  go_wp2_with fail
  refine (szProgram_any P0 A0 cap0 w.heap.size 1048576 _ (S0.out.below HB0.out) HB0.out.size (by omega) (by omega) (by omega)).mono ?_; rintro e w1 ⟨rfl, hb1⟩
  clear qBX0_0
  have HB1 := Lib.hid (bnext HB0.out hb1)
  have BX0_1 := Lib.hid (BX0_0.out.below hb1); clear BX0_0
  have HS1 := Lib.hid hb1.size
  clear hb1
  rw [szV_yes (by have := C2.out; omega)]
  obtain ⟨l2, hl2⟩ : ∃ l2 : Int, l2 = 1048576 - fnSize P0 := ⟨_, rfl⟩
  rw [← hl2]
  have lo2 : 0 ≤ l2 := by have := C2.out; omega
  have hi2 : l2 ≤ 1048576 := by omega
  have HL2 := Lib.hid hl2; clear hl2
  have qBX0_0 : World.cell? w1 ⟨w.heap.size, 0, none⟩ = some (.slice A0 P0.length cap0) := by rw [BX0_1.out.now.cell]; rfl
  go_wp2_with fail
  refine (toProgR Z0.out cap0 (S0.out.below HB1.out) HB1.out.size).mono ?_; rintro e w2 ⟨g2, hg2, rfl, hX2, hb2⟩
  clear qBX0_0
  have HB2 := Lib.hid (bnext HB1.out hb2)
  have BX0_2 := Lib.hid (BX0_1.out.below hb2); clear BX0_1
  have HS2 := Lib.hid hb2.size
  clear hb2
  have HG2 := Lib.hid hg2; clear hg2
  have U0_2 := Lib.hid hX2; clear hX2
  have HQ2 := Lib.hid U0_2.out.le
  have qBX0_0 : World.cell? w2 ⟨w.heap.size, 0, none⟩ = some (.slice A0 P0.length cap0) := by rw [BX0_2.out.now.cell]; rfl
  go_wp2_with fail
  refine (toR A3 cap3 z3 _ (S3.out.below HB2.out) (by omega)).mono ?_; rintro e w3 ⟨rfl, hX3, hb3⟩
  clear qBX0_0
  have HB3 := Lib.hid (bnext HB2.out hb3)
  have BX0_3 := Lib.hid (BX0_2.out.below hb3); clear BX0_2
  have U0_3 := Lib.hid (U0_2.out.below hb3); clear U0_2
  have HS3 := Lib.hid hb3.size
  clear hb3
  have U3_3 := Lib.hid hX3; clear hX3
  have HQ3 := Lib.hid U3_3.out.le
  have qBX0_0 : World.cell? w3 ⟨w.heap.size, 0, none⟩ = some (.slice A0 P0.length cap0) := by rw [BX0_3.out.now.cell]; rfl
  go_wp2_with fail
  refine (toR A4 cap4 z4 _ (S4.out.below HB3.out) (by omega)).mono ?_; rintro e w4 ⟨rfl, hX4, hb4⟩
  clear qBX0_0
  have HB4 := Lib.hid (bnext HB3.out hb4)
  have BX0_4 := Lib.hid (BX0_3.out.below hb4); clear BX0_3
  have U0_4 := Lib.hid (U0_3.out.below hb4); clear U0_3
  have U3_4 := Lib.hid (U3_3.out.below hb4); clear U3_3
  have HS4 := Lib.hid hb4.size
  clear hb4
  have U4_4 := Lib.hid hX4; clear hX4
  have HQ4 := Lib.hid U4_4.out.le
  have qBX0_0 : World.cell? w4 ⟨w.heap.size, 0, none⟩ = some (.slice A0 P0.length cap0) := by rw [BX0_4.out.now.cell]; rfl
  go_wp2_with fail
  refine (hessianTimesS P0 a1 a2 z3 z4 _ (regPIn U0_4.out Z0.out) (regInts U3_4.out) (by omega) (regInts U4_4.out) (by omega)).mono ?_
  rw [← V0.out, ← V1.out]
  rintro e w5 ⟨hb5, AR0, cR0, rfl, hR5⟩
  clear U0_4
  clear U3_4
  clear U4_4
  clear qBX0_0
  have HB5 := Lib.hid (bnext HB4.out hb5)
  have BX0_5 := Lib.hid (BX0_4.out.below hb5); clear BX0_4
  have HS5 := Lib.hid hb5.size
  clear hb5
  have R0_5 := Lib.hid hR5; clear hR5
  have qBX0_0 : World.cell? w5 ⟨w.heap.size, 0, none⟩ = some (.slice A0 P0.length cap0) := by rw [BX0_5.out.now.cell]; rfl
  go_wp2_with fail
  refine (toProgR Z0.out cap0 (S0.out.below HB5.out) HB5.out.size).mono ?_; rintro e w6 ⟨g6, hg6, rfl, hX6, hb6⟩
  clear qBX0_0
  have HB6 := Lib.hid (bnext HB5.out hb6)
  have BX0_6 := Lib.hid (BX0_5.out.below hb6); clear BX0_5
  have R0_6 := Lib.hid (R0_5.out.below hb6); clear R0_5
  have HS6 := Lib.hid hb6.size
  clear hb6
  have HG6 := Lib.hid hg6; clear hg6
  have X0_6 := Lib.hid hX6; clear hX6
  have HQ6 := Lib.hid X0_6.out.le
  have qBX0_0 : World.cell? w6 ⟨w.heap.size, 0, none⟩ = some (.slice A0 P0.length cap0) := by rw [BX0_6.out.now.cell]; rfl
  go_wp2_with fail
  clear qBX0_0
  have hb7 : Below w6.heap.size w6 (w6.alloc (.cells #[.slice (some ⟨g6, 0, none⟩) P0.length P0.length] 32)) := by go_grown
  have BC7 : Hid (Cells (w6.alloc (.cells #[.slice (some ⟨g6, 0, none⟩) P0.length P0.length] 32)) w6.heap.size 32 [.slice (some ⟨g6, 0, none⟩) P0.length P0.length]) := Cells.new w6 32 [.slice (some ⟨g6, 0, none⟩) P0.length P0.length]
  change Calls _ _ _ (w6.alloc (.cells #[.slice (some ⟨g6, 0, none⟩) P0.length P0.length] 32)) _
  generalize (w6.alloc (.cells #[.slice (some ⟨g6, 0, none⟩) P0.length P0.length] 32)) = w7 at *
  have HB7 := Lib.hid (bnext HB6.out hb7)
  have BX0_7 := Lib.hid (BX0_6.out.below hb7); clear BX0_6
  have R0_7 := Lib.hid (R0_6.out.below hb7); clear R0_6
  have X0_7 := Lib.hid (X0_6.out.below hb7); clear X0_6
  have HS7 := Lib.hid hb7.size
  clear hb7
  have VX0_7 : Hid (Reg w7 w6.heap.size (w6.heap.size + 1) (fun w' => Cells w' w6.heap.size 32 [.slice (some ⟨g6, 0, none⟩) P0.length P0.length])) := regBox BC7.out
  clear BC7
  have HQ7 := Lib.hid VX0_7.out.size
  have qBX0_0 : World.cell? w7 ⟨w.heap.size, 0, none⟩ = some (.slice A0 P0.length cap0) := by rw [BX0_7.out.now.cell]; rfl
  have qVX0_0 : World.cell? w7 ⟨w6.heap.size, 0, none⟩ = some (.slice (some ⟨g6, 0, none⟩) P0.length P0.length) := by rw [VX0_7.out.now.cell]; rfl
  skip
  refine (toR A3 cap3 z3 _ (S3.out.below HB7.out) (by omega)).mono ?_; rintro e w8 ⟨rfl, hX8, hb8⟩
  clear qBX0_0 qVX0_0
  have HB8 := Lib.hid (bnext HB7.out hb8)
  have BX0_8 := Lib.hid (BX0_7.out.below hb8); clear BX0_7
  have R0_8 := Lib.hid (R0_7.out.below hb8); clear R0_7
  have X0_8 := Lib.hid (X0_7.out.below hb8); clear X0_7
  have VX0_8 := Lib.hid (VX0_7.out.below hb8); clear VX0_7
  have HS8 := Lib.hid hb8.size
  clear hb8
  have X3_8 := Lib.hid hX8; clear hX8
  have HQ8 := Lib.hid X3_8.out.le
  have qBX0_0 : World.cell? w8 ⟨w.heap.size, 0, none⟩ = some (.slice A0 P0.length cap0) := by rw [BX0_8.out.now.cell]; rfl
  have qVX0_0 : World.cell? w8 ⟨w6.heap.size, 0, none⟩ = some (.slice (some ⟨g6, 0, none⟩) P0.length P0.length) := by rw [VX0_8.out.now.cell]; rfl
  go_wp2_with fail
  refine (toR A4 cap4 z4 _ (S4.out.below HB8.out) (by omega)).mono ?_; rintro e w9 ⟨rfl, hX9, hb9⟩
  clear qBX0_0 qVX0_0
  have HB9 := Lib.hid (bnext HB8.out hb9)
  have BX0_9 := Lib.hid (BX0_8.out.below hb9); clear BX0_8
  have R0_9 := Lib.hid (R0_8.out.below hb9); clear R0_8
  have X0_9 := Lib.hid (X0_8.out.below hb9); clear X0_8
  have VX0_9 := Lib.hid (VX0_8.out.below hb9); clear VX0_8
  have X3_9 := Lib.hid (X3_8.out.below hb9); clear X3_8
  have HS9 := Lib.hid hb9.size
  clear hb9
  have X4_9 := Lib.hid hX9; clear hX9
  have HQ9 := Lib.hid X4_9.out.le
  have qBX0_0 : World.cell? w9 ⟨w.heap.size, 0, none⟩ = some (.slice A0 P0.length cap0) := by rw [BX0_9.out.now.cell]; rfl
  have qVX0_0 : World.cell? w9 ⟨w6.heap.size, 0, none⟩ = some (.slice (some ⟨g6, 0, none⟩) P0.length P0.length) := by rw [VX0_9.out.now.cell]; rfl
  go_wp2_with fail
  refine (hessianTimesI P0 a1 a2 z3 z4 _ (regPIn X0_9.out Z0.out) (regInts X3_9.out) (by omega) (regInts X4_9.out) (by omega)).mono ?_
  rw [← V0.out, ← V1.out]
  rintro e w10 ⟨hb10, AG0, cG0, rfl, hR10⟩
  clear qBX0_0 qVX0_0
  have HB10 := Lib.hid (bnext HB9.out hb10)
  have BX0_10 := Lib.hid (BX0_9.out.below hb10); clear BX0_9
  have R0_10 := Lib.hid (R0_9.out.below hb10); clear R0_9
  have X0_10 := Lib.hid (X0_9.out.below hb10); clear X0_9
  have VX0_10 := Lib.hid (VX0_9.out.below hb10); clear VX0_9
  have X3_10 := Lib.hid (X3_9.out.below hb10); clear X3_9
  have X4_10 := Lib.hid (X4_9.out.below hb10); clear X4_9
  have HS10 := Lib.hid hb10.size
  clear hb10
  have G0_10 := Lib.hid hR10; clear hR10
  have qBX0_0 : World.cell? w10 ⟨w.heap.size, 0, none⟩ = some (.slice A0 P0.length cap0) := by rw [BX0_10.out.now.cell]; rfl
  have qVX0_0 : World.cell? w10 ⟨w6.heap.size, 0, none⟩ = some (.slice (some ⟨g6, 0, none⟩) P0.length P0.length) := by rw [VX0_10.out.now.cell]; rfl
  go_wp2_with fail
  refine (eqR cG0 cR0 (regInts G0_10.out) (regInts R0_10.out) (by omega)).mono ?_; rintro e w11 ⟨rfl, hb11⟩
  clear qBX0_0 qVX0_0
  have HB11 := Lib.hid (bnext HB10.out hb11)
  have BX0_11 := Lib.hid (BX0_10.out.below hb11); clear BX0_10
  have R0_11 := Lib.hid (R0_10.out.below hb11); clear R0_10
  have X0_11 := Lib.hid (X0_10.out.below hb11); clear X0_10
  have VX0_11 := Lib.hid (VX0_10.out.below hb11); clear VX0_10
  have X3_11 := Lib.hid (X3_10.out.below hb11); clear X3_10
  have X4_11 := Lib.hid (X4_10.out.below hb11); clear X4_10
  have G0_11 := Lib.hid (G0_10.out.below hb11); clear G0_10
  have HS11 := Lib.hid hb11.size
  clear hb11
  have qBX0_0 : World.cell? w11 ⟨w.heap.size, 0, none⟩ = some (.slice A0 P0.length cap0) := by rw [BX0_11.out.now.cell]; rfl
  have qVX0_0 : World.cell? w11 ⟨w6.heap.size, 0, none⟩ = some (.slice (some ⟨g6, 0, none⟩) P0.length P0.length) := by rw [VX0_11.out.now.cell]; rfl
  go_wp2_with fail
  have KT12 : Hid (∀ wx, Below w11.heap.size w11 wx → Calls Tryz.prog 10 #[prV A0 P0.length cap0] wx fun e w' => ∃ g, wx.heap.size ≤ g ∧ e = .returned (prV (some ⟨g, 0, none⟩) P0.length P0.length) ∧ Reg w' g w'.heap.size (ProgR g w'.heap.size P0) ∧ Below wx.heap.size wx w') := fun wx hx => toProgR Z0.out cap0 (S0.out.below (bnext HB11.out hx)) (bnext HB11.out hx).size
  have KS12 := Lib.hid (And.intro qVX0_0 qBX0_0)
  go_region_held3 (fun wx => wx.cell? ⟨w6.heap.size, 0, none⟩ = some (.slice (some ⟨g6, 0, none⟩) P0.length P0.length) ∧ wx.cell? ⟨w.heap.size, 0, none⟩ = some (.slice A0 P0.length cap0)) (first | exact KS12.out | exact KS12.out | go_keep | exact keep2 KS12.out hb12 | exact keep2 KS12.out (hb12.trans (hb13.mono hb12.size)))
    (first
      | (go_at_call 14; have _tk := hX12; (with_reducible refine (eqProgR _ _ (X0_11.out.below hb12) hX12 Z0.out).mono ?_); rintro e w13 ⟨rfl, hb13⟩)
      | (go_at_call 10; refine (KT12.out _ (by first | exact (Below.refl _ _).drew | exact below_drewN' (Below.refl _ _) _ | exact Below.refl _ _)).mono ?_; rintro e w12 ⟨g12, hg12, rfl, hX12, hb12'⟩; have hb12 : Below w11.heap.size w11 w12 := by first | exact bdrew hb12' | exact bdrewN hb12' | exact hb12'))
  clear hX12 hg12 hb12' KS12 KT12
  clear qBX0_0 qVX0_0
  have HB12 := Lib.hid (bnext HB11.out hb12)
  have BX0_12 := Lib.hid (BX0_11.out.below hb12); clear BX0_11
  have R0_12 := Lib.hid (R0_11.out.below hb12); clear R0_11
  have X0_12 := Lib.hid (X0_11.out.below hb12); clear X0_11
  have VX0_12 := Lib.hid (VX0_11.out.below hb12); clear VX0_11
  have X3_12 := Lib.hid (X3_11.out.below hb12); clear X3_11
  have X4_12 := Lib.hid (X4_11.out.below hb12); clear X4_11
  have G0_12 := Lib.hid (G0_11.out.below hb12); clear G0_11
  have HS12 := Lib.hid hb12.size
  clear hb12
  have HB13 := Lib.hid (bnext HB12.out hb13)
  have BX0_13 := Lib.hid (BX0_12.out.below hb13); clear BX0_12
  have R0_13 := Lib.hid (R0_12.out.below hb13); clear R0_12
  have X0_13 := Lib.hid (X0_12.out.below hb13); clear X0_12
  have VX0_13 := Lib.hid (VX0_12.out.below hb13); clear VX0_12
  have X3_13 := Lib.hid (X3_12.out.below hb13); clear X3_12
  have X4_13 := Lib.hid (X4_12.out.below hb13); clear X4_12
  have G0_13 := Lib.hid (G0_12.out.below hb13); clear G0_12
  have HS13 := Lib.hid hb13.size
  clear hb13
  have qBX0_0 : World.cell? w13 ⟨w.heap.size, 0, none⟩ = some (.slice A0 P0.length cap0) := by rw [BX0_13.out.now.cell]; rfl
  have qVX0_0 : World.cell? w13 ⟨w6.heap.size, 0, none⟩ = some (.slice (some ⟨g6, 0, none⟩) P0.length P0.length) := by rw [VX0_13.out.now.cell]; rfl
  go_wp2_with fail
  refine (toR A3 cap3 z3 _ (S3.out.below HB13.out) (by omega)).mono ?_; rintro e w14 ⟨rfl, hX14, hb14⟩
  clear qBX0_0 qVX0_0
  have HB14 := Lib.hid (bnext HB13.out hb14)
  have BX0_14 := Lib.hid (BX0_13.out.below hb14); clear BX0_13
  have R0_14 := Lib.hid (R0_13.out.below hb14); clear R0_13
  have X0_14 := Lib.hid (X0_13.out.below hb14); clear X0_13
  have VX0_14 := Lib.hid (VX0_13.out.below hb14); clear VX0_13
  have X3_14 := Lib.hid (X3_13.out.below hb14); clear X3_13
  have X4_14 := Lib.hid (X4_13.out.below hb14); clear X4_13
  have G0_14 := Lib.hid (G0_13.out.below hb14); clear G0_13
  have HS14 := Lib.hid hb14.size
  clear hb14
  have Y3_14 := Lib.hid hX14; clear hX14
  have HQ14 := Lib.hid Y3_14.out.le
  have qBX0_0 : World.cell? w14 ⟨w.heap.size, 0, none⟩ = some (.slice A0 P0.length cap0) := by rw [BX0_14.out.now.cell]; rfl
  have qVX0_0 : World.cell? w14 ⟨w6.heap.size, 0, none⟩ = some (.slice (some ⟨g6, 0, none⟩) P0.length P0.length) := by rw [VX0_14.out.now.cell]; rfl
  go_wp2_with fail
  refine (eqR _ _ (regInts X3_14.out) (regInts Y3_14.out) (by omega)).mono ?_; rintro e w15 ⟨rfl, hb15⟩
  clear Y3_14
  clear qBX0_0 qVX0_0
  have HB15 := Lib.hid (bnext HB14.out hb15)
  have BX0_15 := Lib.hid (BX0_14.out.below hb15); clear BX0_14
  have R0_15 := Lib.hid (R0_14.out.below hb15); clear R0_14
  have X0_15 := Lib.hid (X0_14.out.below hb15); clear X0_14
  have VX0_15 := Lib.hid (VX0_14.out.below hb15); clear VX0_14
  have X3_15 := Lib.hid (X3_14.out.below hb15); clear X3_14
  have X4_15 := Lib.hid (X4_14.out.below hb15); clear X4_14
  have G0_15 := Lib.hid (G0_14.out.below hb15); clear G0_14
  have HS15 := Lib.hid hb15.size
  clear hb15
  have qBX0_0 : World.cell? w15 ⟨w.heap.size, 0, none⟩ = some (.slice A0 P0.length cap0) := by rw [BX0_15.out.now.cell]; rfl
  have qVX0_0 : World.cell? w15 ⟨w6.heap.size, 0, none⟩ = some (.slice (some ⟨g6, 0, none⟩) P0.length P0.length) := by rw [VX0_15.out.now.cell]; rfl
  go_wp2_with fail
  refine (toR A4 cap4 z4 _ (S4.out.below HB15.out) (by omega)).mono ?_; rintro e w16 ⟨rfl, hX16, hb16⟩
  clear qBX0_0 qVX0_0
  have HB16 := Lib.hid (bnext HB15.out hb16)
  have BX0_16 := Lib.hid (BX0_15.out.below hb16); clear BX0_15
  have R0_16 := Lib.hid (R0_15.out.below hb16); clear R0_15
  have X0_16 := Lib.hid (X0_15.out.below hb16); clear X0_15
  have VX0_16 := Lib.hid (VX0_15.out.below hb16); clear VX0_15
  have X3_16 := Lib.hid (X3_15.out.below hb16); clear X3_15
  have X4_16 := Lib.hid (X4_15.out.below hb16); clear X4_15
  have G0_16 := Lib.hid (G0_15.out.below hb16); clear G0_15
  have HS16 := Lib.hid hb16.size
  clear hb16
  have Y4_16 := Lib.hid hX16; clear hX16
  have HQ16 := Lib.hid Y4_16.out.le
  have qBX0_0 : World.cell? w16 ⟨w.heap.size, 0, none⟩ = some (.slice A0 P0.length cap0) := by rw [BX0_16.out.now.cell]; rfl
  have qVX0_0 : World.cell? w16 ⟨w6.heap.size, 0, none⟩ = some (.slice (some ⟨g6, 0, none⟩) P0.length P0.length) := by rw [VX0_16.out.now.cell]; rfl
  go_wp2_with fail
  refine (eqR _ _ (regInts X4_16.out) (regInts Y4_16.out) (by omega)).mono ?_; rintro e w17 ⟨rfl, hb17⟩
  clear Y4_16
  clear qBX0_0 qVX0_0
  have HB17 := Lib.hid (bnext HB16.out hb17)
  have BX0_17 := Lib.hid (BX0_16.out.below hb17); clear BX0_16
  have R0_17 := Lib.hid (R0_16.out.below hb17); clear R0_16
  have X0_17 := Lib.hid (X0_16.out.below hb17); clear X0_16
  have VX0_17 := Lib.hid (VX0_16.out.below hb17); clear VX0_16
  have X3_17 := Lib.hid (X3_16.out.below hb17); clear X3_16
  have X4_17 := Lib.hid (X4_16.out.below hb17); clear X4_16
  have G0_17 := Lib.hid (G0_16.out.below hb17); clear G0_16
  have HS17 := Lib.hid hb17.size
  clear hb17
  have qBX0_0 : World.cell? w17 ⟨w.heap.size, 0, none⟩ = some (.slice A0 P0.length cap0) := by rw [BX0_17.out.now.cell]; rfl
  have qVX0_0 : World.cell? w17 ⟨w6.heap.size, 0, none⟩ = some (.slice (some ⟨g6, 0, none⟩) P0.length P0.length) := by rw [VX0_17.out.now.cell]; rfl
  go_wp2_with fail
  refine (markProgR _ X0_17.out Z0.out (by omega) (by omega)).mono ?_; rintro e w18 ⟨k18, rfl, k018, k118, hO18⟩
  clear X0_17
  have k218 : 0 ≤ k18 := by omega
  have k318 : k18 ≤ 1 + 4194304 := by have := Z0.out; omega
  clear k018 k118
  clear qBX0_0 qVX0_0
  have hz18 : w.heap.size ≤ g6 ∧ g6 ≤ w6.heap.size ∧ w6.heap.size ≤ w17.heap.size := by have := HS0.out; have := HQB0.out; have := HS1.out; have := HS2.out; have := HG2.out; have := HQ2.out; have := HS3.out; have := HQ3.out; have := HS4.out; have := HQ4.out; have := HS5.out; have := HS6.out; have := HG6.out; have := HQ6.out; have := HS7.out; have := HQ7.out; have := HS8.out; have := HQ8.out; have := HS9.out; have := HQ9.out; have := HS10.out; have := HS11.out; have := HS12.out; have := HS13.out; have := HS14.out; have := HQ14.out; have := HS15.out; have := HS16.out; have := HQ16.out; have := HS17.out; omega
  have HB18 := Lib.hid (belowRegion HB17.out hO18 hz18.1)
  have BX0_18 := Lib.hid (BX0_17.out.apart hO18 (by have := HS0.out; have := HQB0.out; have := HS1.out; have := HS2.out; have := HG2.out; have := HQ2.out; have := HS3.out; have := HQ3.out; have := HS4.out; have := HQ4.out; have := HS5.out; have := HS6.out; have := HG6.out; have := HQ6.out; have := HS7.out; have := HQ7.out; have := HS8.out; have := HQ8.out; have := HS9.out; have := HQ9.out; have := HS10.out; have := HS11.out; have := HS12.out; have := HS13.out; have := HS14.out; have := HQ14.out; have := HS15.out; have := HS16.out; have := HQ16.out; have := HS17.out; omega)); clear BX0_17
  have R0_18 := Lib.hid (R0_17.out.apart hO18 (by have := HS0.out; have := HQB0.out; have := HS1.out; have := HS2.out; have := HG2.out; have := HQ2.out; have := HS3.out; have := HQ3.out; have := HS4.out; have := HQ4.out; have := HS5.out; have := HS6.out; have := HG6.out; have := HQ6.out; have := HS7.out; have := HQ7.out; have := HS8.out; have := HQ8.out; have := HS9.out; have := HQ9.out; have := HS10.out; have := HS11.out; have := HS12.out; have := HS13.out; have := HS14.out; have := HQ14.out; have := HS15.out; have := HS16.out; have := HQ16.out; have := HS17.out; omega)); clear R0_17
  have VX0_18 := Lib.hid (VX0_17.out.apart hO18 (by have := HS0.out; have := HQB0.out; have := HS1.out; have := HS2.out; have := HG2.out; have := HQ2.out; have := HS3.out; have := HQ3.out; have := HS4.out; have := HQ4.out; have := HS5.out; have := HS6.out; have := HG6.out; have := HQ6.out; have := HS7.out; have := HQ7.out; have := HS8.out; have := HQ8.out; have := HS9.out; have := HQ9.out; have := HS10.out; have := HS11.out; have := HS12.out; have := HS13.out; have := HS14.out; have := HQ14.out; have := HS15.out; have := HS16.out; have := HQ16.out; have := HS17.out; omega)); clear VX0_17
  have X3_18 := Lib.hid (X3_17.out.apart hO18 (by have := HS0.out; have := HQB0.out; have := HS1.out; have := HS2.out; have := HG2.out; have := HQ2.out; have := HS3.out; have := HQ3.out; have := HS4.out; have := HQ4.out; have := HS5.out; have := HS6.out; have := HG6.out; have := HQ6.out; have := HS7.out; have := HQ7.out; have := HS8.out; have := HQ8.out; have := HS9.out; have := HQ9.out; have := HS10.out; have := HS11.out; have := HS12.out; have := HS13.out; have := HS14.out; have := HQ14.out; have := HS15.out; have := HS16.out; have := HQ16.out; have := HS17.out; omega)); clear X3_17
  have X4_18 := Lib.hid (X4_17.out.apart hO18 (by have := HS0.out; have := HQB0.out; have := HS1.out; have := HS2.out; have := HG2.out; have := HQ2.out; have := HS3.out; have := HQ3.out; have := HS4.out; have := HQ4.out; have := HS5.out; have := HS6.out; have := HG6.out; have := HQ6.out; have := HS7.out; have := HQ7.out; have := HS8.out; have := HQ8.out; have := HS9.out; have := HQ9.out; have := HS10.out; have := HS11.out; have := HS12.out; have := HS13.out; have := HS14.out; have := HQ14.out; have := HS15.out; have := HS16.out; have := HQ16.out; have := HS17.out; omega)); clear X4_17
  have G0_18 := Lib.hid (G0_17.out.apart hO18 (by have := HS0.out; have := HQB0.out; have := HS1.out; have := HS2.out; have := HG2.out; have := HQ2.out; have := HS3.out; have := HQ3.out; have := HS4.out; have := HQ4.out; have := HS5.out; have := HS6.out; have := HG6.out; have := HQ6.out; have := HS7.out; have := HQ7.out; have := HS8.out; have := HQ8.out; have := HS9.out; have := HQ9.out; have := HS10.out; have := HS11.out; have := HS12.out; have := HS13.out; have := HS14.out; have := HQ14.out; have := HS15.out; have := HS16.out; have := HQ16.out; have := HS17.out; omega)); clear G0_17
  have HS18 := Lib.hid hO18.size
  clear hO18 hz18
  have qBX0_0 : World.cell? w18 ⟨w.heap.size, 0, none⟩ = some (.slice A0 P0.length cap0) := by rw [BX0_18.out.now.cell]; rfl
  have qVX0_0 : World.cell? w18 ⟨w6.heap.size, 0, none⟩ = some (.slice (some ⟨g6, 0, none⟩) P0.length P0.length) := by rw [VX0_18.out.now.cell]; rfl
  go_wp2_with fail
  refine (markR _ X3_18.out (by omega) (by omega) (by omega)).mono ?_; rintro e w19 ⟨rfl, _, hO19⟩
  clear X3_18
  obtain ⟨k19, hk19, k219, k319⟩ : ∃ k19 : Int, k19 = k18 + (z3.length : Nat) ∧ 0 ≤ k19 ∧ k19 ≤ k18 + 1048576 := ⟨_, rfl, by omega, by omega⟩
  rw [← hk19]
  clear hk19
  clear qBX0_0 qVX0_0
  have hz19 : w.heap.size ≤ w7.heap.size ∧ w7.heap.size ≤ w8.heap.size ∧ w8.heap.size ≤ w18.heap.size := by have := HS0.out; have := HQB0.out; have := HS1.out; have := HS2.out; have := HG2.out; have := HQ2.out; have := HS3.out; have := HQ3.out; have := HS4.out; have := HQ4.out; have := HS5.out; have := HS6.out; have := HG6.out; have := HQ6.out; have := HS7.out; have := HQ7.out; have := HS8.out; have := HQ8.out; have := HS9.out; have := HQ9.out; have := HS10.out; have := HS11.out; have := HS12.out; have := HS13.out; have := HS14.out; have := HQ14.out; have := HS15.out; have := HS16.out; have := HQ16.out; have := HS17.out; have := HS18.out; omega
  have HB19 := Lib.hid (belowRegion HB18.out hO19 hz19.1)
  have BX0_19 := Lib.hid (BX0_18.out.apart hO19 (by have := HS0.out; have := HQB0.out; have := HS1.out; have := HS2.out; have := HG2.out; have := HQ2.out; have := HS3.out; have := HQ3.out; have := HS4.out; have := HQ4.out; have := HS5.out; have := HS6.out; have := HG6.out; have := HQ6.out; have := HS7.out; have := HQ7.out; have := HS8.out; have := HQ8.out; have := HS9.out; have := HQ9.out; have := HS10.out; have := HS11.out; have := HS12.out; have := HS13.out; have := HS14.out; have := HQ14.out; have := HS15.out; have := HS16.out; have := HQ16.out; have := HS17.out; have := HS18.out; omega)); clear BX0_18
  have R0_19 := Lib.hid (R0_18.out.apart hO19 (by have := HS0.out; have := HQB0.out; have := HS1.out; have := HS2.out; have := HG2.out; have := HQ2.out; have := HS3.out; have := HQ3.out; have := HS4.out; have := HQ4.out; have := HS5.out; have := HS6.out; have := HG6.out; have := HQ6.out; have := HS7.out; have := HQ7.out; have := HS8.out; have := HQ8.out; have := HS9.out; have := HQ9.out; have := HS10.out; have := HS11.out; have := HS12.out; have := HS13.out; have := HS14.out; have := HQ14.out; have := HS15.out; have := HS16.out; have := HQ16.out; have := HS17.out; have := HS18.out; omega)); clear R0_18
  have VX0_19 := Lib.hid (VX0_18.out.apart hO19 (by have := HS0.out; have := HQB0.out; have := HS1.out; have := HS2.out; have := HG2.out; have := HQ2.out; have := HS3.out; have := HQ3.out; have := HS4.out; have := HQ4.out; have := HS5.out; have := HS6.out; have := HG6.out; have := HQ6.out; have := HS7.out; have := HQ7.out; have := HS8.out; have := HQ8.out; have := HS9.out; have := HQ9.out; have := HS10.out; have := HS11.out; have := HS12.out; have := HS13.out; have := HS14.out; have := HQ14.out; have := HS15.out; have := HS16.out; have := HQ16.out; have := HS17.out; have := HS18.out; omega)); clear VX0_18
  have X4_19 := Lib.hid (X4_18.out.apart hO19 (by have := HS0.out; have := HQB0.out; have := HS1.out; have := HS2.out; have := HG2.out; have := HQ2.out; have := HS3.out; have := HQ3.out; have := HS4.out; have := HQ4.out; have := HS5.out; have := HS6.out; have := HG6.out; have := HQ6.out; have := HS7.out; have := HQ7.out; have := HS8.out; have := HQ8.out; have := HS9.out; have := HQ9.out; have := HS10.out; have := HS11.out; have := HS12.out; have := HS13.out; have := HS14.out; have := HQ14.out; have := HS15.out; have := HS16.out; have := HQ16.out; have := HS17.out; have := HS18.out; omega)); clear X4_18
  have G0_19 := Lib.hid (G0_18.out.apart hO19 (by have := HS0.out; have := HQB0.out; have := HS1.out; have := HS2.out; have := HG2.out; have := HQ2.out; have := HS3.out; have := HQ3.out; have := HS4.out; have := HQ4.out; have := HS5.out; have := HS6.out; have := HG6.out; have := HQ6.out; have := HS7.out; have := HQ7.out; have := HS8.out; have := HQ8.out; have := HS9.out; have := HQ9.out; have := HS10.out; have := HS11.out; have := HS12.out; have := HS13.out; have := HS14.out; have := HQ14.out; have := HS15.out; have := HS16.out; have := HQ16.out; have := HS17.out; have := HS18.out; omega)); clear G0_18
  have HS19 := Lib.hid hO19.size
  clear hO19 hz19
  have qBX0_0 : World.cell? w19 ⟨w.heap.size, 0, none⟩ = some (.slice A0 P0.length cap0) := by rw [BX0_19.out.now.cell]; rfl
  have qVX0_0 : World.cell? w19 ⟨w6.heap.size, 0, none⟩ = some (.slice (some ⟨g6, 0, none⟩) P0.length P0.length) := by rw [VX0_19.out.now.cell]; rfl
  go_wp2_with fail
  refine (markR _ X4_19.out (by omega) (by omega) (by omega)).mono ?_; rintro e w20 ⟨rfl, _, hO20⟩
  clear X4_19
  obtain ⟨k20, hk20, k220, k320⟩ : ∃ k20 : Int, k20 = k19 + (z4.length : Nat) ∧ 0 ≤ k20 ∧ k20 ≤ k19 + 1048576 := ⟨_, rfl, by omega, by omega⟩
  rw [← hk20]
  clear hk20
  clear qBX0_0 qVX0_0
  have hz20 : w.heap.size ≤ w8.heap.size ∧ w8.heap.size ≤ w9.heap.size ∧ w9.heap.size ≤ w19.heap.size := by have := HS0.out; have := HQB0.out; have := HS1.out; have := HS2.out; have := HG2.out; have := HQ2.out; have := HS3.out; have := HQ3.out; have := HS4.out; have := HQ4.out; have := HS5.out; have := HS6.out; have := HG6.out; have := HQ6.out; have := HS7.out; have := HQ7.out; have := HS8.out; have := HQ8.out; have := HS9.out; have := HQ9.out; have := HS10.out; have := HS11.out; have := HS12.out; have := HS13.out; have := HS14.out; have := HQ14.out; have := HS15.out; have := HS16.out; have := HQ16.out; have := HS17.out; have := HS18.out; have := HS19.out; omega
  have HB20 := Lib.hid (belowRegion HB19.out hO20 hz20.1)
  have BX0_20 := Lib.hid (BX0_19.out.apart hO20 (by have := HS0.out; have := HQB0.out; have := HS1.out; have := HS2.out; have := HG2.out; have := HQ2.out; have := HS3.out; have := HQ3.out; have := HS4.out; have := HQ4.out; have := HS5.out; have := HS6.out; have := HG6.out; have := HQ6.out; have := HS7.out; have := HQ7.out; have := HS8.out; have := HQ8.out; have := HS9.out; have := HQ9.out; have := HS10.out; have := HS11.out; have := HS12.out; have := HS13.out; have := HS14.out; have := HQ14.out; have := HS15.out; have := HS16.out; have := HQ16.out; have := HS17.out; have := HS18.out; have := HS19.out; omega)); clear BX0_19
  have R0_20 := Lib.hid (R0_19.out.apart hO20 (by have := HS0.out; have := HQB0.out; have := HS1.out; have := HS2.out; have := HG2.out; have := HQ2.out; have := HS3.out; have := HQ3.out; have := HS4.out; have := HQ4.out; have := HS5.out; have := HS6.out; have := HG6.out; have := HQ6.out; have := HS7.out; have := HQ7.out; have := HS8.out; have := HQ8.out; have := HS9.out; have := HQ9.out; have := HS10.out; have := HS11.out; have := HS12.out; have := HS13.out; have := HS14.out; have := HQ14.out; have := HS15.out; have := HS16.out; have := HQ16.out; have := HS17.out; have := HS18.out; have := HS19.out; omega)); clear R0_19
  have VX0_20 := Lib.hid (VX0_19.out.apart hO20 (by have := HS0.out; have := HQB0.out; have := HS1.out; have := HS2.out; have := HG2.out; have := HQ2.out; have := HS3.out; have := HQ3.out; have := HS4.out; have := HQ4.out; have := HS5.out; have := HS6.out; have := HG6.out; have := HQ6.out; have := HS7.out; have := HQ7.out; have := HS8.out; have := HQ8.out; have := HS9.out; have := HQ9.out; have := HS10.out; have := HS11.out; have := HS12.out; have := HS13.out; have := HS14.out; have := HQ14.out; have := HS15.out; have := HS16.out; have := HQ16.out; have := HS17.out; have := HS18.out; have := HS19.out; omega)); clear VX0_19
  have G0_20 := Lib.hid (G0_19.out.apart hO20 (by have := HS0.out; have := HQB0.out; have := HS1.out; have := HS2.out; have := HG2.out; have := HQ2.out; have := HS3.out; have := HQ3.out; have := HS4.out; have := HQ4.out; have := HS5.out; have := HS6.out; have := HG6.out; have := HQ6.out; have := HS7.out; have := HQ7.out; have := HS8.out; have := HQ8.out; have := HS9.out; have := HQ9.out; have := HS10.out; have := HS11.out; have := HS12.out; have := HS13.out; have := HS14.out; have := HQ14.out; have := HS15.out; have := HS16.out; have := HQ16.out; have := HS17.out; have := HS18.out; have := HS19.out; omega)); clear G0_19
  have HS20 := Lib.hid hO20.size
  clear hO20 hz20
  have hkk : decide (k20 < 0) = false := by simpa using k220
  have qBX0_0 : World.cell? w20 ⟨w.heap.size, 0, none⟩ = some (.slice A0 P0.length cap0) := by rw [BX0_20.out.now.cell]; rfl
  have qVX0_0 : World.cell? w20 ⟨w6.heap.size, 0, none⟩ = some (.slice (some ⟨g6, 0, none⟩) P0.length P0.length) := by rw [VX0_20.out.now.cell]; rfl
  go_wp2_with fail
  refine (eqR cG0 cR0 (regInts G0_20.out) (regInts R0_20.out) (by omega)).mono ?_; rintro e w21 ⟨rfl, hb21⟩
  clear qBX0_0 qVX0_0
  have HB21 := Lib.hid (bnext HB20.out hb21)
  have BX0_21 := Lib.hid (BX0_20.out.below hb21); clear BX0_20
  have R0_21 := Lib.hid (R0_20.out.below hb21); clear R0_20
  have VX0_21 := Lib.hid (VX0_20.out.below hb21); clear VX0_20
  have G0_21 := Lib.hid (G0_20.out.below hb21); clear G0_20
  have HS21 := Lib.hid hb21.size
  clear hb21
  have qBX0_0 : World.cell? w21 ⟨w.heap.size, 0, none⟩ = some (.slice A0 P0.length cap0) := by rw [BX0_21.out.now.cell]; rfl
  have qVX0_0 : World.cell? w21 ⟨w6.heap.size, 0, none⟩ = some (.slice (some ⟨g6, 0, none⟩) P0.length P0.length) := by rw [VX0_21.out.now.cell]; rfl
  go_wp2_with fail
  refine (markR cG0 G0_21.out (by omega) (by omega) (by omega)).mono ?_; rintro e w22 ⟨rfl, hM22, hO22⟩
  clear G0_21
  clear qBX0_0 qVX0_0
  have hz22 : w.heap.size ≤ w9.heap.size ∧ w9.heap.size ≤ w10.heap.size ∧ w10.heap.size ≤ w21.heap.size := by have := HS0.out; have := HQB0.out; have := HS1.out; have := HS2.out; have := HG2.out; have := HQ2.out; have := HS3.out; have := HQ3.out; have := HS4.out; have := HQ4.out; have := HS5.out; have := HS6.out; have := HG6.out; have := HQ6.out; have := HS7.out; have := HQ7.out; have := HS8.out; have := HQ8.out; have := HS9.out; have := HQ9.out; have := HS10.out; have := HS11.out; have := HS12.out; have := HS13.out; have := HS14.out; have := HQ14.out; have := HS15.out; have := HS16.out; have := HQ16.out; have := HS17.out; have := HS18.out; have := HS19.out; have := HS20.out; have := HS21.out; omega
  have HB22 := Lib.hid (belowRegion HB21.out hO22 hz22.1)
  have BX0_22 := Lib.hid (BX0_21.out.apart hO22 (by have := HS0.out; have := HQB0.out; have := HS1.out; have := HS2.out; have := HG2.out; have := HQ2.out; have := HS3.out; have := HQ3.out; have := HS4.out; have := HQ4.out; have := HS5.out; have := HS6.out; have := HG6.out; have := HQ6.out; have := HS7.out; have := HQ7.out; have := HS8.out; have := HQ8.out; have := HS9.out; have := HQ9.out; have := HS10.out; have := HS11.out; have := HS12.out; have := HS13.out; have := HS14.out; have := HQ14.out; have := HS15.out; have := HS16.out; have := HQ16.out; have := HS17.out; have := HS18.out; have := HS19.out; have := HS20.out; have := HS21.out; omega)); clear BX0_21
  have R0_22 := Lib.hid (R0_21.out.apart hO22 (by have := HS0.out; have := HQB0.out; have := HS1.out; have := HS2.out; have := HG2.out; have := HQ2.out; have := HS3.out; have := HQ3.out; have := HS4.out; have := HQ4.out; have := HS5.out; have := HS6.out; have := HG6.out; have := HQ6.out; have := HS7.out; have := HQ7.out; have := HS8.out; have := HQ8.out; have := HS9.out; have := HQ9.out; have := HS10.out; have := HS11.out; have := HS12.out; have := HS13.out; have := HS14.out; have := HQ14.out; have := HS15.out; have := HS16.out; have := HQ16.out; have := HS17.out; have := HS18.out; have := HS19.out; have := HS20.out; have := HS21.out; omega)); clear R0_21
  have VX0_22 := Lib.hid (VX0_21.out.apart hO22 (by have := HS0.out; have := HQB0.out; have := HS1.out; have := HS2.out; have := HG2.out; have := HQ2.out; have := HS3.out; have := HQ3.out; have := HS4.out; have := HQ4.out; have := HS5.out; have := HS6.out; have := HG6.out; have := HQ6.out; have := HS7.out; have := HQ7.out; have := HS8.out; have := HQ8.out; have := HS9.out; have := HQ9.out; have := HS10.out; have := HS11.out; have := HS12.out; have := HS13.out; have := HS14.out; have := HQ14.out; have := HS15.out; have := HS16.out; have := HQ16.out; have := HS17.out; have := HS18.out; have := HS19.out; have := HS20.out; have := HS21.out; omega)); clear VX0_21
  have HS22 := Lib.hid hO22.size
  clear hO22 hz22
  have G0_22 := Lib.hid hM22; clear hM22
  have qBX0_0 : World.cell? w22 ⟨w.heap.size, 0, none⟩ = some (.slice A0 P0.length cap0) := by rw [BX0_22.out.now.cell]; rfl
  have qVX0_0 : World.cell? w22 ⟨w6.heap.size, 0, none⟩ = some (.slice (some ⟨g6, 0, none⟩) P0.length P0.length) := by rw [VX0_22.out.now.cell]; rfl
  go_wp2_with fail
  refine (heldR cG0 G0_22.out (by omega) (by omega) (by omega)).mono ?_; rintro e w' ⟨rfl, rfl⟩
  go_wp2_with fail
  clear VX0_22 qVX0_0
  refine (toProgR Z0.out cap0 (S0.out.below HB22.out) HB22.out.size).mono ?_; rintro e w23 ⟨g23, hg23, rfl, hX23, hb23⟩
  clear qBX0_0
  have HB23 := Lib.hid (bnext HB22.out hb23)
  have BX0_23 := Lib.hid (BX0_22.out.below hb23); clear BX0_22
  have R0_23 := Lib.hid (R0_22.out.below hb23); clear R0_22
  have G0_23 := Lib.hid (G0_22.out.below hb23); clear G0_22
  have HS23 := Lib.hid hb23.size
  clear hb23
  have HG23 := Lib.hid hg23; clear hg23
  have Q0_23 := Lib.hid hX23; clear hX23
  have HQ23 := Lib.hid Q0_23.out.le
  have qBX0_0 : World.cell? w23 ⟨w.heap.size, 0, none⟩ = some (.slice A0 P0.length cap0) := by rw [BX0_23.out.now.cell]; rfl
  go_wp2_with fail
  refine (toR A3 cap3 z3 _ (S3.out.below HB23.out) (by omega)).mono ?_; rintro e w24 ⟨rfl, hX24, hb24⟩
  clear qBX0_0
  have HB24 := Lib.hid (bnext HB23.out hb24)
  have BX0_24 := Lib.hid (BX0_23.out.below hb24); clear BX0_23
  have R0_24 := Lib.hid (R0_23.out.below hb24); clear R0_23
  have G0_24 := Lib.hid (G0_23.out.below hb24); clear G0_23
  have Q0_24 := Lib.hid (Q0_23.out.below hb24); clear Q0_23
  have HS24 := Lib.hid hb24.size
  clear hb24
  have Q3_24 := Lib.hid hX24; clear hX24
  have HQ24 := Lib.hid Q3_24.out.le
  have qBX0_0 : World.cell? w24 ⟨w.heap.size, 0, none⟩ = some (.slice A0 P0.length cap0) := by rw [BX0_24.out.now.cell]; rfl
  go_wp2_with fail
  refine (toR A4 cap4 z4 _ (S4.out.below HB24.out) (by omega)).mono ?_; rintro e w25 ⟨rfl, hX25, hb25⟩
  clear qBX0_0
  have HB25 := Lib.hid (bnext HB24.out hb25)
  have BX0_25 := Lib.hid (BX0_24.out.below hb25); clear BX0_24
  have R0_25 := Lib.hid (R0_24.out.below hb25); clear R0_24
  have G0_25 := Lib.hid (G0_24.out.below hb25); clear G0_24
  have Q0_25 := Lib.hid (Q0_24.out.below hb25); clear Q0_24
  have Q3_25 := Lib.hid (Q3_24.out.below hb25); clear Q3_24
  have HS25 := Lib.hid hb25.size
  clear hb25
  have Q4_25 := Lib.hid hX25; clear hX25
  have HQ25 := Lib.hid Q4_25.out.le
  have qBX0_0 : World.cell? w25 ⟨w.heap.size, 0, none⟩ = some (.slice A0 P0.length cap0) := by rw [BX0_25.out.now.cell]; rfl
  go_wp2_with fail
  refine (hessianTimesI P0 a1 a2 z3 z4 _ (regPIn Q0_25.out Z0.out) (regInts Q3_25.out) (by omega) (regInts Q4_25.out) (by omega)).mono ?_
  rw [← V0.out, ← V1.out]
  rintro e w26 ⟨hb26, AJ0, cJ0, rfl, hR26⟩
  clear Q0_25
  clear Q3_25
  clear Q4_25
  clear qBX0_0
  have HB26 := Lib.hid (bnext HB25.out hb26)
  have BX0_26 := Lib.hid (BX0_25.out.below hb26); clear BX0_25
  have R0_26 := Lib.hid (R0_25.out.below hb26); clear R0_25
  have G0_26 := Lib.hid (G0_25.out.below hb26); clear G0_25
  have HS26 := Lib.hid hb26.size
  clear hb26
  have J0_26 := Lib.hid hR26; clear hR26
  have qBX0_0 : World.cell? w26 ⟨w.heap.size, 0, none⟩ = some (.slice A0 P0.length cap0) := by rw [BX0_26.out.now.cell]; rfl
  go_wp2_with fail
  refine (eqR cJ0 cR0 (regInts J0_26.out) (regInts R0_26.out) (by omega)).mono ?_; rintro e w27 ⟨rfl, hb27⟩
  clear qBX0_0
  have HB27 := Lib.hid (bnext HB26.out hb27)
  have BX0_27 := Lib.hid (BX0_26.out.below hb27); clear BX0_26
  have R0_27 := Lib.hid (R0_26.out.below hb27); clear R0_26
  have G0_27 := Lib.hid (G0_26.out.below hb27); clear G0_26
  have J0_27 := Lib.hid (J0_26.out.below hb27); clear J0_26
  have HS27 := Lib.hid hb27.size
  clear hb27
  have qBX0_0 : World.cell? w27 ⟨w.heap.size, 0, none⟩ = some (.slice A0 P0.length cap0) := by rw [BX0_27.out.now.cell]; rfl
  go_wp2_with fail
  refine (heldR cG0 G0_27.out (by omega) (by omega) (by omega)).mono ?_; rintro e w' ⟨rfl, rfl⟩
  clear qBX0_0
  go_wp2
  go_ret
  exact ⟨rfl, HB27.out⟩

theorem lawExactHessianTimes (P0 : List Fn) (A0 : Option Addr) (cap0 : Nat) (a1 : Int) (a2 : Int) (A3 : Option Addr) (cap3 : Nat) (z3 : List Int) (A4 : Option Addr) (cap4 : Nat) (z4 : List Int) (w : World) (h0 : FnSl w w.heap.size P0 A0) (hl0 : P0.length ≤ cap0) (hm0 : cap0 ≤ maxLen) (_w1 : (Lit.int .i64 a1).wf = true) (_w2 : (Lit.int .i64 a2).wf = true) (h3 : Ints w A3 z3) (h4 : Ints w A4 z4) :
    Calls Tryz.prog 6 #[prV A0 P0.length cap0, .int .i64 a1, .int .i64 a2, .slice A3 z3.length cap3, .slice A4 z4.length cap4] w fun e w' => e = .returned (.bool true) ∧ Below w.heap.size w w' := by
  by_cases c0 : z3.length ≤ 1048576
  case neg => exact lawExactHessianTimes_0 P0 A0 cap0 a1 a2 A3 cap3 z3 A4 cap4 z4 w h0 hl0 hm0 _w1 _w2 h3 h4 c0
  by_cases c1 : z4.length ≤ 1048576
  case neg => exact lawExactHessianTimes_1 P0 A0 cap0 a1 a2 A3 cap3 z3 A4 cap4 z4 w h0 hl0 hm0 _w1 _w2 h3 h4 c0 c1
  by_cases c2 : fnSize P0 ≤ 1048576
  case neg => exact lawExactHessianTimes_2 P0 A0 cap0 a1 a2 A3 cap3 z3 A4 cap4 z4 w h0 hl0 hm0 _w1 _w2 h3 h4 c0 c1 c2
  exact lawExactHessianTimes_ok P0 A0 cap0 a1 a2 A3 cap3 z3 A4 cap4 z4 w h0 hl0 hm0 _w1 _w2 h3 h4 c0 c1 c2

end Go.Proofs.YtlnikpjcggfdmaaGreat

/- FnExactHessianTimes: for every program, function, output, arguments and direction the program's HessianTimes returns what the reference's returns, in memory of its own. No condition. -/
namespace Go.Proofs.YtlnikpjcggfdmaaGreat.fnExactHessianTimes
open Go.ChangeShapes Go.WideShapes Go.ChangeAt Go.RowKit

theorem own : ownKnob Tryz.prog.godebug = none := by kernel_rfl
theorem laidOut : laidOutB Tryz.prog = true := by kernel_rfl

set_option maxRecDepth 100000 in
theorem lifted (os : Os) (started : os.Started) (H : Type) (enc : TypeId × Value → H) :
    ReturnsInHanded {} Tryz.checked os 6 .any (Rows.fnExactHessianTimesSpec.pre6 enc Tryz.prog Tryz.f6 Rows.fnExactHessianTimesRow.domain false) (Rows.fnExactHessianTimesSpec.post enc Tryz.prog Tryz.f6 false true false false) := by
  refine returnsInHanded_of_change (C := Tryz.checked) own started (by kernel_rfl) Tryz.func6
    (ChangeSpec.witness6 (enc := enc) (C := Tryz.checked) false ⟨#[], #[.agg #[.slice none 0 0], .int .i64 0, .int .i64 0, .slice none 0 0, .slice none 0 0], []⟩ 8 (by kernel_rfl) (by kernel_rfl) (by kernel_rfl) (by kernel_rfl)) ?_
  intro W base args ds gs before hval0 hW hcnd _
  have hval : ∀ (j : Nat) t v, Tryz.f6.params[j]? = some t → args[j]? = some v → Value.okWide Tryz.prog W .any base t v := hval0
  have hW' := hW
  obtain ⟨p, q, hA0, hV, rfl, hfz, hnd⟩ := hW
  have hA : DataW.TrodAll enc Tryz.prog W 0 (fun _ => true) true Tryz.f6.params.toList args.toList ds p := hA0
  rw [Tryz.params6] at hA hval
  obtain ⟨v0, vs0, d0, ds0, p0, q0, hargs, rfl, rfl, h0, r0⟩ := trodAll_cons hA
  obtain ⟨v1, vs1, d1, ds1, p1, q1, rfl, rfl, rfl, h1, r1⟩ := trodAll_cons r0
  obtain ⟨v2, vs2, d2, ds2, p2, q2, rfl, rfl, rfl, h2, r2⟩ := trodAll_cons r1
  obtain ⟨v3, vs3, d3, ds3, p3, q3, rfl, rfl, rfl, h3, r3⟩ := trodAll_cons r2
  obtain ⟨v4, vs4, d4, ds4, p4, q4, rfl, rfl, rfl, h4, r4⟩ := trodAll_cons r3
  obtain ⟨rfl, rfl, rfl⟩ := trodAll_nil r4
  obtain rfl : args = #[v0, v1, v2, v3, v4] := by cases args; simp_all
  obtain ⟨rfl, rfl⟩ := trodVars_none hV
  obtain ⟨cs0, rfl, _⟩ := okWide_struct Tryz.underlying24 (hval 0 24 v0 rfl rfl)
  have k0 := h0
  have lt0 : ∀ x ∈ p0, x.block < W.heap.size := by obtain ⟨m, hm⟩ := k0; exact DataW.trod_lt m _ _ _ hm
  obtain ⟨a0, cap0, z0, e0, b0, m0, w0⟩ : ∃ (A : Option Addr) (cap : Nat) (fs : List Fn), cs0 = #[.slice A fs.length cap] ∧ fs.length ≤ cap ∧ cap ≤ maxLen ∧ FnSl W W.heap.size fs A := by
    obtain ⟨fuel, hf⟩ := h0
    obtain ⟨A, cap, fs, hcs, h1, h2, h3⟩ := open_program hf
    exact ⟨A, cap, fs, by cases cs0; simpa [Value.cells] using hcs, h1, h2, h3⟩
  subst e0
  obtain ⟨a1, rfl, rfl, rfl, w1⟩ := open_int Tryz.underlying2 (hval 1 2 v1 rfl rfl) h1
  obtain ⟨a2, rfl, rfl, rfl, w2⟩ := open_int Tryz.underlying2 (hval 2 2 v2 rfl rfl) h2
  obtain ⟨a3, len3, cap3, rfl⟩ := okWide_slice Tryz.underlying25 (hval 3 25 v3 rfl rfl)
  have k3 := h3
  have lt3 : ∀ x ∈ p3, x.block < W.heap.size := by obtain ⟨m, hm⟩ := k3; exact DataW.trod_lt m _ _ _ hm
  obtain ⟨z3, e3, w3⟩ : ∃ zs : List Int, zs.length = len3 ∧ Ints W a3 zs := by
    obtain ⟨fuel, hf⟩ := h3
    rcases open_ints Tryz.underlying25 Tryz.underlying2 (by kernel_rfl) hf with ⟨hcs, _⟩ | ⟨x, l, c, zs, hcs, hl8, hl, hm, hz, _, hcell, hwz⟩
    · simp [Value.cells] at hcs
      obtain ⟨rfl, rfl, rfl⟩ := hcs
      exact ⟨[], rfl, Ints.nil _ _⟩
    · simp [Value.cells] at hcs
      obtain ⟨rfl, rfl, rfl⟩ := hcs
      exact ints_of_cells hl (by simpa using hz) hcell
  subst e3
  obtain ⟨a4, len4, cap4, rfl⟩ := okWide_slice Tryz.underlying25 (hval 4 25 v4 rfl rfl)
  have k4 := h4
  have lt4 : ∀ x ∈ p4, x.block < W.heap.size := by obtain ⟨m, hm⟩ := k4; exact DataW.trod_lt m _ _ _ hm
  obtain ⟨z4, e4, w4⟩ : ∃ zs : List Int, zs.length = len4 ∧ Ints W a4 zs := by
    obtain ⟨fuel, hf⟩ := h4
    rcases open_ints Tryz.underlying25 Tryz.underlying2 (by kernel_rfl) hf with ⟨hcs, _⟩ | ⟨x, l, c, zs, hcs, hl8, hl, hm, hz, _, hcell, hwz⟩
    · simp [Value.cells] at hcs
      obtain ⟨rfl, rfl, rfl⟩ := hcs
      exact ⟨[], rfl, Ints.nil _ _⟩
    · simp [Value.cells] at hcs
      obtain ⟨rfl, rfl, rfl⟩ := hcs
      exact ints_of_cells hl (by simpa using hz) hcell
  subst e4
  clear hA0 hval0
  refine (lawExactHessianTimes z0 a0 cap0 a1 a2 a3 cap3 z3 a4 cap4 z4 W w0 b0 m0 w1 w2 w3 w4).mono fun e W' ⟨he, bel⟩ => ?_
  subst he
  exact ⟨_, rfl, _, _, _, [], _, [], hW', trodAll_mk1 (shut_bool Tryz.underlying4 _), (trodAll_cons_mk (Below.trod laidOut (by kernel_rfl) (of_decide_eq_true (by kernel_rfl)) k0 bel lt0) (trodAll_cons_mk (shut_int Tryz.underlying2 w1) (trodAll_cons_mk (shut_int Tryz.underlying2 w2) (trodAll_cons_mk (Below.trod laidOut (by kernel_rfl) (of_decide_eq_true (by kernel_rfl)) k3 bel lt3) (trodAll_cons_mk (Below.trod laidOut (by kernel_rfl) (of_decide_eq_true (by kernel_rfl)) k4 bel lt4) trodAll_mk0))))), rfl, bel.frame _, fun h => by cases h⟩

theorem over : Rows.fnExactHessianTimesRow.holds Tryz.pinned (OpenSpec.ofChange Rows.fnExactHessianTimesSpec) :=
  OpenClaim.holds_of_wide 6 Tryz.f6 rfl rfl rfl rfl rfl rfl rfl ⟨rfl, rfl, rfl, rfl, rfl⟩ rfl rfl rfl rfl rfl (by kernel_rfl) Tryz.func6 (by kernel_rfl)
    (of_decide_eq_true (by kernel_rfl)) (by unfold Func.isWrapper; first | (rw [if_pos (by decide +kernel)]; kernel_rfl) | (rw [if_neg (by decide +kernel)]; exact ⟨rfl, rfl⟩))
    (fun os started H enc _ => lifted os started H enc)

theorem proved : Rows.FnExactHessianTimesSaid := over
#print axioms proved
end Go.Proofs.YtlnikpjcggfdmaaGreat.fnExactHessianTimes
