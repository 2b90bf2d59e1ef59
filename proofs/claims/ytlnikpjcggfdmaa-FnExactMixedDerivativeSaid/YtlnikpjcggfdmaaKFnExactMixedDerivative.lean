/- FnExactMixedDerivative: for every program, function, output, arguments and parameters the program's MixedDerivative returns what the reference's returns. No condition. -/
import Derived.Test.YtlnikpjcggfdmaaKV
import Derived.Test.YtlnikpjcggfdmaaKP
import Derived.Deep.RegionHeld3
import Derived.WalkKit
import Derived.ProofKit
import Derived.OpenShut
import Derived.ShutString
import Derived.ChangeOld
import Derived.Below

/- The walk of the law FnExactMixedDerivative. -/
namespace Go.Proofs.Ytlnikpjcggfdmaa
open Go.RowKit Plain

set_option maxRecDepth 100000 in
set_option maxHeartbeats 1000000 in
theorem lawExactMixedDerivative_0 (P0 : List Fn) (A0 : Option Addr) (cap0 : Nat) (a1 : Int) (a2 : Int) (A3 : Option Addr) (cap3 : Nat) (z3 : List Int) (A4 : Option Addr) (cap4 : Nat) (z4 : List Int) (w : World) (_h0 : FnSl w w.heap.size P0 A0) (_hl0 : P0.length ≤ cap0) (_hm0 : cap0 ≤ maxLen) (_w1 : (Lit.int .i64 a1).wf = true) (_w2 : (Lit.int .i64 a2).wf = true) (_h3 : Ints w A3 z3) (_h4 : Ints w A4 z4)  (_c0 : ¬ z3.length ≤ 1048576) :
    Calls Try.prog 5 #[prV A0 P0.length cap0, .int .i64 a1, .int .i64 a2, .slice A3 z3.length cap3, .slice A4 z4.length cap4] w fun e w' => e = .returned (.bool true) ∧ Below w.heap.size w w' := by
  go_enter Try.func5, Try.ntmps5
  go_wp2
  go_ret
  exact ⟨rfl, by go_grown⟩

set_option maxRecDepth 100000 in
set_option maxHeartbeats 1000000 in
theorem lawExactMixedDerivative_1 (P0 : List Fn) (A0 : Option Addr) (cap0 : Nat) (a1 : Int) (a2 : Int) (A3 : Option Addr) (cap3 : Nat) (z3 : List Int) (A4 : Option Addr) (cap4 : Nat) (z4 : List Int) (w : World) (_h0 : FnSl w w.heap.size P0 A0) (_hl0 : P0.length ≤ cap0) (_hm0 : cap0 ≤ maxLen) (_w1 : (Lit.int .i64 a1).wf = true) (_w2 : (Lit.int .i64 a2).wf = true) (_h3 : Ints w A3 z3) (_h4 : Ints w A4 z4) (_c0 : z3.length ≤ 1048576) (_c1 : ¬ z4.length ≤ 1048576) :
    Calls Try.prog 5 #[prV A0 P0.length cap0, .int .i64 a1, .int .i64 a2, .slice A3 z3.length cap3, .slice A4 z4.length cap4] w fun e w' => e = .returned (.bool true) ∧ Below w.heap.size w w' := by
  go_enter Try.func5, Try.ntmps5
  go_wp2
  go_ret
  exact ⟨rfl, by go_grown⟩

set_option maxRecDepth 100000 in
set_option maxHeartbeats 1000000 in
theorem lawExactMixedDerivative_2 (P0 : List Fn) (A0 : Option Addr) (cap0 : Nat) (a1 : Int) (a2 : Int) (A3 : Option Addr) (cap3 : Nat) (z3 : List Int) (A4 : Option Addr) (cap4 : Nat) (z4 : List Int) (w : World) (h0 : FnSl w w.heap.size P0 A0) (_hl0 : P0.length ≤ cap0) (hm0 : cap0 ≤ maxLen) (_w1 : (Lit.int .i64 a1).wf = true) (_w2 : (Lit.int .i64 a2).wf = true) (_h3 : Ints w A3 z3) (_h4 : Ints w A4 z4) (_c0 : z3.length ≤ 1048576) (_c1 : z4.length ≤ 1048576) (c2 : ¬ fnSize P0 ≤ 1048576) :
    Calls Try.prog 5 #[prV A0 P0.length cap0, .int .i64 a1, .int .i64 a2, .slice A3 z3.length cap3, .slice A4 z4.length cap4] w fun e w' => e = .returned (.bool true) ∧ Below w.heap.size w w' := by
  have C2 := Lib.hid c2; clear c2
  have S0 := Lib.hid h0; clear h0
  have HM0 : cap0 ≤ 9223372036854775807 := by have := hm0; unfold maxLen at this; omega
  have HB0 : Hid (Below w.heap.size w (w.alloc (.cells #[.slice A0 P0.length cap0] 24))) := by show Below _ _ _; go_grown
  go_enter Try.func5, Try.ntmps5
  go_wp2_with fail
  refine (szProgram_any P0 A0 cap0 w.heap.size 1048576 _ (S0.out.below HB0.out) HB0.out.size (by omega) (by omega) (by omega)).mono ?_; rintro e w1 ⟨rfl, hb1⟩
  have HB1 := Lib.hid (bnext HB0.out hb1); clear hb1
  rw [szV_no (by have := C2.out; omega)]
  go_wp2
  go_ret
  exact ⟨rfl, HB1.out⟩

set_option maxRecDepth 100000 in
set_option maxHeartbeats 8000000 in
theorem lawExactMixedDerivative_ok (P0 : List Fn) (A0 : Option Addr) (cap0 : Nat) (a1 : Int) (a2 : Int) (A3 : Option Addr) (cap3 : Nat) (z3 : List Int) (A4 : Option Addr) (cap4 : Nat) (z4 : List Int) (w : World) (h0 : FnSl w w.heap.size P0 A0) (_hl0 : P0.length ≤ cap0) (_hm0 : cap0 ≤ maxLen) (_w1 : (Lit.int .i64 a1).wf = true) (_w2 : (Lit.int .i64 a2).wf = true) (h3 : Ints w A3 z3) (h4 : Ints w A4 z4) (_c0 : z3.length ≤ 1048576) (_c1 : z4.length ≤ 1048576) (c2 : fnSize P0 ≤ 1048576) :
    Calls Try.prog 5 #[prV A0 P0.length cap0, .int .i64 a1, .int .i64 a2, .slice A3 z3.length cap3, .slice A4 z4.length cap4] w fun e w' => e = .returned (.bool true) ∧ Below w.heap.size w w' := by
  have C2 := Lib.hid c2; clear c2
  have S0 := Lib.hid h0; clear h0
  have Z0 : Hid (fnSize P0 ≤ 1048576) := by have := C2.out; show _ ≤ _; omega
  have pl0 : P0.length ≤ 1048576 := by have := Z0.out; unfold fnSize at this; omega
  have S3 := Lib.hid h3; clear h3
  have S4 := Lib.hid h4; clear h4
  obtain ⟨v0, hv0⟩ : ∃ v : Int, v = (mixV P0 a1 a2 z3 z4).1 := ⟨_, rfl⟩
  obtain ⟨v1, hv1⟩ : ∃ v : Int, v = (mixV P0 a1 a2 z3 z4).2 := ⟨_, rfl⟩
  have V0 := Lib.hid hv0; clear hv0
  have V1 := Lib.hid hv1; clear hv1
  have HB0 : Hid (Below w.heap.size w (w.alloc (.cells #[.slice A0 P0.length cap0] 24))) := by show Below _ _ _; go_grown
  have HS0 := Lib.hid HB0.out.size
  have BX0_0 : Hid (Reg (w.alloc (.cells #[.slice A0 P0.length cap0] 24)) (w.heap.size) (w.heap.size + 1) (fun w' => Cells w' (w.heap.size) 24 [.slice A0 P0.length cap0])) := regBox (Cells.new w 24 [.slice A0 P0.length cap0])
  have HQB0 := Lib.hid BX0_0.out.size
  go_enter Try.func5, Try.ntmps5
  have qBX0_0 : World.cell? (w.alloc (.cells #[.slice A0 P0.length cap0] 24)) ⟨w.heap.size, 0, none⟩ = some (.slice A0 P0.length cap0) := by rw [BX0_0.out.now.cell]; rfl
  go_wp2_with fail
  refine (szProgram_any P0 A0 cap0 w.heap.size 1048576 _ (S0.out.below HB0.out) HB0.out.size (by omega) (by omega) (by omega)).mono ?_; rintro e w1 ⟨rfl, hb1⟩
  clear qBX0_0
  have HB1 := Lib.hid (bnext HB0.out hb1)
  have BX0_1 := Lib.hid (BX0_0.out.below hb1); clear BX0_0
  have HS1 := Lib.hid hb1.size
  clear hb1
  rw [szV_yes (by have := C2.out; omega)]
  obtain ⟨l2, hl2⟩ : ∃ l2 : Int, l2 = 1048576 - fnSize P0 := ⟨_, rfl⟩
  rw [← hl2]
  have lo2 : 0 ≤ l2 := by have := C2.out; omega
  have hi2 : l2 ≤ 1048576 := by omega
  have HL2 := Lib.hid hl2; clear hl2
  have qBX0_0 : World.cell? w1 ⟨w.heap.size, 0, none⟩ = some (.slice A0 P0.length cap0) := by rw [BX0_1.out.now.cell]; rfl
  go_wp2_with fail
  refine (toProgR Z0.out cap0 (S0.out.below HB1.out) HB1.out.size).mono ?_; rintro e w2 ⟨g2, hg2, rfl, hX2, hb2⟩
  clear qBX0_0
  have HB2 := Lib.hid (bnext HB1.out hb2)
  have BX0_2 := Lib.hid (BX0_1.out.below hb2); clear BX0_1
  have HS2 := Lib.hid hb2.size
  clear hb2
  have HG2 := Lib.hid hg2; clear hg2
  have U0_2 := Lib.hid hX2; clear hX2
  have HQ2 := Lib.hid U0_2.out.le
  have qBX0_0 : World.cell? w2 ⟨w.heap.size, 0, none⟩ = some (.slice A0 P0.length cap0) := by rw [BX0_2.out.now.cell]; rfl
  go_wp2_with fail
  refine (toR A3 cap3 z3 _ (S3.out.below HB2.out) (by omega)).mono ?_; rintro e w3 ⟨rfl, hX3, hb3⟩
  clear qBX0_0
  have HB3 := Lib.hid (bnext HB2.out hb3)
  have BX0_3 := Lib.hid (BX0_2.out.below hb3); clear BX0_2
  have U0_3 := Lib.hid (U0_2.out.below hb3); clear U0_2
  have HS3 := Lib.hid hb3.size
  clear hb3
  have U3_3 := Lib.hid hX3; clear hX3
  have HQ3 := Lib.hid U3_3.out.le
  have qBX0_0 : World.cell? w3 ⟨w.heap.size, 0, none⟩ = some (.slice A0 P0.length cap0) := by rw [BX0_3.out.now.cell]; rfl
  go_wp2_with fail
  refine (toR A4 cap4 z4 _ (S4.out.below HB3.out) (by omega)).mono ?_; rintro e w4 ⟨rfl, hX4, hb4⟩
  clear qBX0_0
  have HB4 := Lib.hid (bnext HB3.out hb4)
  have BX0_4 := Lib.hid (BX0_3.out.below hb4); clear BX0_3
  have U0_4 := Lib.hid (U0_3.out.below hb4); clear U0_3
  have U3_4 := Lib.hid (U3_3.out.below hb4); clear U3_3
  have HS4 := Lib.hid hb4.size
  clear hb4
  have U4_4 := Lib.hid hX4; clear hX4
  have HQ4 := Lib.hid U4_4.out.le
  have qBX0_0 : World.cell? w4 ⟨w.heap.size, 0, none⟩ = some (.slice A0 P0.length cap0) := by rw [BX0_4.out.now.cell]; rfl
  go_wp2_with fail
  refine (mixS P0 a1 a2 z3 z4 _ (regPIn U0_4.out Z0.out) (regInts U3_4.out) (by omega) (regInts U4_4.out) (by omega)).mono ?_
  rw [← V0.out, ← V1.out]
  rintro e w5 ⟨hb5, rfl⟩
  clear U0_4
  clear U3_4
  clear U4_4
  clear qBX0_0
  have HB5 := Lib.hid (bnext HB4.out hb5)
  have BX0_5 := Lib.hid (BX0_4.out.below hb5); clear BX0_4
  have HS5 := Lib.hid hb5.size
  clear hb5
  have qBX0_0 : World.cell? w5 ⟨w.heap.size, 0, none⟩ = some (.slice A0 P0.length cap0) := by rw [BX0_5.out.now.cell]; rfl
  go_wp2_with fail
  refine (toProgR Z0.out cap0 (S0.out.below HB5.out) HB5.out.size).mono ?_; rintro e w6 ⟨g6, hg6, rfl, hX6, hb6⟩
  clear qBX0_0
  have HB6 := Lib.hid (bnext HB5.out hb6)
  have BX0_6 := Lib.hid (BX0_5.out.below hb6); clear BX0_5
  have HS6 := Lib.hid hb6.size
  clear hb6
  have HG6 := Lib.hid hg6; clear hg6
  have X0_6 := Lib.hid hX6; clear hX6
  have HQ6 := Lib.hid X0_6.out.le
  have qBX0_0 : World.cell? w6 ⟨w.heap.size, 0, none⟩ = some (.slice A0 P0.length cap0) := by rw [BX0_6.out.now.cell]; rfl
  go_wp2_with fail
  clear qBX0_0
  have hb7 : Below w6.heap.size w6 (w6.alloc (.cells #[.slice (some ⟨g6, 0, none⟩) P0.length P0.length] 31)) := by go_grown
  have BC7 : Hid (Cells (w6.alloc (.cells #[.slice (some ⟨g6, 0, none⟩) P0.length P0.length] 31)) w6.heap.size 31 [.slice (some ⟨g6, 0, none⟩) P0.length P0.length]) := Cells.new w6 31 [.slice (some ⟨g6, 0, none⟩) P0.length P0.length]
  change Calls _ _ _ (w6.alloc (.cells #[.slice (some ⟨g6, 0, none⟩) P0.length P0.length] 31)) _
  generalize (w6.alloc (.cells #[.slice (some ⟨g6, 0, none⟩) P0.length P0.length] 31)) = w7 at *
  have HB7 := Lib.hid (bnext HB6.out hb7)
  have BX0_7 := Lib.hid (BX0_6.out.below hb7); clear BX0_6
  have X0_7 := Lib.hid (X0_6.out.below hb7); clear X0_6
  have HS7 := Lib.hid hb7.size
  clear hb7
  have VX0_7 : Hid (Reg w7 w6.heap.size (w6.heap.size + 1) (fun w' => Cells w' w6.heap.size 31 [.slice (some ⟨g6, 0, none⟩) P0.length P0.length])) := regBox BC7.out
  clear BC7
  have HQ7 := Lib.hid VX0_7.out.size
  have qBX0_0 : World.cell? w7 ⟨w.heap.size, 0, none⟩ = some (.slice A0 P0.length cap0) := by rw [BX0_7.out.now.cell]; rfl
  have qVX0_0 : World.cell? w7 ⟨w6.heap.size, 0, none⟩ = some (.slice (some ⟨g6, 0, none⟩) P0.length P0.length) := by rw [VX0_7.out.now.cell]; rfl
  skip
  refine (toR A3 cap3 z3 _ (S3.out.below HB7.out) (by omega)).mono ?_; rintro e w8 ⟨rfl, hX8, hb8⟩
  clear qBX0_0 qVX0_0
  have HB8 := Lib.hid (bnext HB7.out hb8)
  have BX0_8 := Lib.hid (BX0_7.out.below hb8); clear BX0_7
  have X0_8 := Lib.hid (X0_7.out.below hb8); clear X0_7
  have VX0_8 := Lib.hid (VX0_7.out.below hb8); clear VX0_7
  have HS8 := Lib.hid hb8.size
  clear hb8
  have X3_8 := Lib.hid hX8; clear hX8
  have HQ8 := Lib.hid X3_8.out.le
  have qBX0_0 : World.cell? w8 ⟨w.heap.size, 0, none⟩ = some (.slice A0 P0.length cap0) := by rw [BX0_8.out.now.cell]; rfl
  have qVX0_0 : World.cell? w8 ⟨w6.heap.size, 0, none⟩ = some (.slice (some ⟨g6, 0, none⟩) P0.length P0.length) := by rw [VX0_8.out.now.cell]; rfl
  go_wp2_with fail
  refine (toR A4 cap4 z4 _ (S4.out.below HB8.out) (by omega)).mono ?_; rintro e w9 ⟨rfl, hX9, hb9⟩
  clear qBX0_0 qVX0_0
  have HB9 := Lib.hid (bnext HB8.out hb9)
  have BX0_9 := Lib.hid (BX0_8.out.below hb9); clear BX0_8
  have X0_9 := Lib.hid (X0_8.out.below hb9); clear X0_8
  have VX0_9 := Lib.hid (VX0_8.out.below hb9); clear VX0_8
  have X3_9 := Lib.hid (X3_8.out.below hb9); clear X3_8
  have HS9 := Lib.hid hb9.size
  clear hb9
  have X4_9 := Lib.hid hX9; clear hX9
  have HQ9 := Lib.hid X4_9.out.le
  have qBX0_0 : World.cell? w9 ⟨w.heap.size, 0, none⟩ = some (.slice A0 P0.length cap0) := by rw [BX0_9.out.now.cell]; rfl
  have qVX0_0 : World.cell? w9 ⟨w6.heap.size, 0, none⟩ = some (.slice (some ⟨g6, 0, none⟩) P0.length P0.length) := by rw [VX0_9.out.now.cell]; rfl
  go_wp2_with fail
  refine (mixI P0 a1 a2 z3 z4 _ (regPIn X0_9.out Z0.out) (regInts X3_9.out) (by omega) (regInts X4_9.out) (by omega)).mono ?_
  rw [← V0.out, ← V1.out]
  rintro e w10 ⟨hb10, rfl⟩
  clear qBX0_0 qVX0_0
  have HB10 := Lib.hid (bnext HB9.out hb10)
  have BX0_10 := Lib.hid (BX0_9.out.below hb10); clear BX0_9
  have X0_10 := Lib.hid (X0_9.out.below hb10); clear X0_9
  have VX0_10 := Lib.hid (VX0_9.out.below hb10); clear VX0_9
  have X3_10 := Lib.hid (X3_9.out.below hb10); clear X3_9
  have X4_10 := Lib.hid (X4_9.out.below hb10); clear X4_9
  have HS10 := Lib.hid hb10.size
  clear hb10
  have qBX0_0 : World.cell? w10 ⟨w.heap.size, 0, none⟩ = some (.slice A0 P0.length cap0) := by rw [BX0_10.out.now.cell]; rfl
  have qVX0_0 : World.cell? w10 ⟨w6.heap.size, 0, none⟩ = some (.slice (some ⟨g6, 0, none⟩) P0.length P0.length) := by rw [VX0_10.out.now.cell]; rfl
  go_wp2_with fail
  have KT11 : Hid (∀ wx, Below w10.heap.size w10 wx → Calls Try.prog 10 #[prV A0 P0.length cap0] wx fun e w' => ∃ g, wx.heap.size ≤ g ∧ e = .returned (prV (some ⟨g, 0, none⟩) P0.length P0.length) ∧ Reg w' g w'.heap.size (ProgR g w'.heap.size P0) ∧ Below wx.heap.size wx w') := fun wx hx => toProgR Z0.out cap0 (S0.out.below (bnext HB10.out hx)) (bnext HB10.out hx).size
  have KS11 := Lib.hid (And.intro qVX0_0 qBX0_0)
  go_region_held3 (fun wx => wx.cell? ⟨w6.heap.size, 0, none⟩ = some (.slice (some ⟨g6, 0, none⟩) P0.length P0.length) ∧ wx.cell? ⟨w.heap.size, 0, none⟩ = some (.slice A0 P0.length cap0)) (first | exact KS11.out | exact KS11.out | go_keep | exact keep2 KS11.out hb11 | exact keep2 KS11.out (hb11.trans (hb12.mono hb11.size)))
    (first
      | (go_at_call 14; have _tk := hX11; (with_reducible refine (eqProgR _ _ (X0_10.out.below hb11) hX11 Z0.out).mono ?_); rintro e w12 ⟨rfl, hb12⟩)
      | (go_at_call 10; refine (KT11.out _ (by first | exact (Below.refl _ _).drew | exact below_drewN' (Below.refl _ _) _ | exact Below.refl _ _)).mono ?_; rintro e w11 ⟨g11, hg11, rfl, hX11, hb11'⟩; have hb11 : Below w10.heap.size w10 w11 := by first | exact bdrew hb11' | exact bdrewN hb11' | exact hb11'))
  clear hX11 hg11 hb11' KS11 KT11
  clear qBX0_0 qVX0_0
  have HB11 := Lib.hid (bnext HB10.out hb11)
  have BX0_11 := Lib.hid (BX0_10.out.below hb11); clear BX0_10
  have X0_11 := Lib.hid (X0_10.out.below hb11); clear X0_10
  have VX0_11 := Lib.hid (VX0_10.out.below hb11); clear VX0_10
  have X3_11 := Lib.hid (X3_10.out.below hb11); clear X3_10
  have X4_11 := Lib.hid (X4_10.out.below hb11); clear X4_10
  have HS11 := Lib.hid hb11.size
  clear hb11
  have HB12 := Lib.hid (bnext HB11.out hb12)
  have BX0_12 := Lib.hid (BX0_11.out.below hb12); clear BX0_11
  have X0_12 := Lib.hid (X0_11.out.below hb12); clear X0_11
  have VX0_12 := Lib.hid (VX0_11.out.below hb12); clear VX0_11
  have X3_12 := Lib.hid (X3_11.out.below hb12); clear X3_11
  have X4_12 := Lib.hid (X4_11.out.below hb12); clear X4_11
  have HS12 := Lib.hid hb12.size
  clear hb12
  have qBX0_0 : World.cell? w12 ⟨w.heap.size, 0, none⟩ = some (.slice A0 P0.length cap0) := by rw [BX0_12.out.now.cell]; rfl
  have qVX0_0 : World.cell? w12 ⟨w6.heap.size, 0, none⟩ = some (.slice (some ⟨g6, 0, none⟩) P0.length P0.length) := by rw [VX0_12.out.now.cell]; rfl
  go_wp2_with fail
  refine (toR A3 cap3 z3 _ (S3.out.below HB12.out) (by omega)).mono ?_; rintro e w13 ⟨rfl, hX13, hb13⟩
  clear qBX0_0 qVX0_0
  have HB13 := Lib.hid (bnext HB12.out hb13)
  have BX0_13 := Lib.hid (BX0_12.out.below hb13); clear BX0_12
  have X0_13 := Lib.hid (X0_12.out.below hb13); clear X0_12
  have VX0_13 := Lib.hid (VX0_12.out.below hb13); clear VX0_12
  have X3_13 := Lib.hid (X3_12.out.below hb13); clear X3_12
  have X4_13 := Lib.hid (X4_12.out.below hb13); clear X4_12
  have HS13 := Lib.hid hb13.size
  clear hb13
  have Y3_13 := Lib.hid hX13; clear hX13
  have HQ13 := Lib.hid Y3_13.out.le
  have qBX0_0 : World.cell? w13 ⟨w.heap.size, 0, none⟩ = some (.slice A0 P0.length cap0) := by rw [BX0_13.out.now.cell]; rfl
  have qVX0_0 : World.cell? w13 ⟨w6.heap.size, 0, none⟩ = some (.slice (some ⟨g6, 0, none⟩) P0.length P0.length) := by rw [VX0_13.out.now.cell]; rfl
  go_wp2_with fail
  refine (eqR _ _ (regInts X3_13.out) (regInts Y3_13.out) (by omega)).mono ?_; rintro e w14 ⟨rfl, hb14⟩
  clear Y3_13
  clear qBX0_0 qVX0_0
  have HB14 := Lib.hid (bnext HB13.out hb14)
  have BX0_14 := Lib.hid (BX0_13.out.below hb14); clear BX0_13
  have X0_14 := Lib.hid (X0_13.out.below hb14); clear X0_13
  have VX0_14 := Lib.hid (VX0_13.out.below hb14); clear VX0_13
  have X3_14 := Lib.hid (X3_13.out.below hb14); clear X3_13
  have X4_14 := Lib.hid (X4_13.out.below hb14); clear X4_13
  have HS14 := Lib.hid hb14.size
  clear hb14
  have qBX0_0 : World.cell? w14 ⟨w.heap.size, 0, none⟩ = some (.slice A0 P0.length cap0) := by rw [BX0_14.out.now.cell]; rfl
  have qVX0_0 : World.cell? w14 ⟨w6.heap.size, 0, none⟩ = some (.slice (some ⟨g6, 0, none⟩) P0.length P0.length) := by rw [VX0_14.out.now.cell]; rfl
  go_wp2_with fail
  refine (toR A4 cap4 z4 _ (S4.out.below HB14.out) (by omega)).mono ?_; rintro e w15 ⟨rfl, hX15, hb15⟩
  clear qBX0_0 qVX0_0
  have HB15 := Lib.hid (bnext HB14.out hb15)
  have BX0_15 := Lib.hid (BX0_14.out.below hb15); clear BX0_14
  have X0_15 := Lib.hid (X0_14.out.below hb15); clear X0_14
  have VX0_15 := Lib.hid (VX0_14.out.below hb15); clear VX0_14
  have X3_15 := Lib.hid (X3_14.out.below hb15); clear X3_14
  have X4_15 := Lib.hid (X4_14.out.below hb15); clear X4_14
  have HS15 := Lib.hid hb15.size
  clear hb15
  have Y4_15 := Lib.hid hX15; clear hX15
  have HQ15 := Lib.hid Y4_15.out.le
  have qBX0_0 : World.cell? w15 ⟨w.heap.size, 0, none⟩ = some (.slice A0 P0.length cap0) := by rw [BX0_15.out.now.cell]; rfl
  have qVX0_0 : World.cell? w15 ⟨w6.heap.size, 0, none⟩ = some (.slice (some ⟨g6, 0, none⟩) P0.length P0.length) := by rw [VX0_15.out.now.cell]; rfl
  go_wp2_with fail
  refine (eqR _ _ (regInts X4_15.out) (regInts Y4_15.out) (by omega)).mono ?_; rintro e w16 ⟨rfl, hb16⟩
  clear Y4_15
  clear qBX0_0 qVX0_0
  have HB16 := Lib.hid (bnext HB15.out hb16)
  have BX0_16 := Lib.hid (BX0_15.out.below hb16); clear BX0_15
  have X0_16 := Lib.hid (X0_15.out.below hb16); clear X0_15
  have VX0_16 := Lib.hid (VX0_15.out.below hb16); clear VX0_15
  have X3_16 := Lib.hid (X3_15.out.below hb16); clear X3_15
  have X4_16 := Lib.hid (X4_15.out.below hb16); clear X4_15
  have HS16 := Lib.hid hb16.size
  clear hb16
  go_wp2
  go_ret
  exact ⟨rfl, HB16.out⟩

theorem lawExactMixedDerivative (P0 : List Fn) (A0 : Option Addr) (cap0 : Nat) (a1 : Int) (a2 : Int) (A3 : Option Addr) (cap3 : Nat) (z3 : List Int) (A4 : Option Addr) (cap4 : Nat) (z4 : List Int) (w : World) (h0 : FnSl w w.heap.size P0 A0) (hl0 : P0.length ≤ cap0) (hm0 : cap0 ≤ maxLen) (_w1 : (Lit.int .i64 a1).wf = true) (_w2 : (Lit.int .i64 a2).wf = true) (h3 : Ints w A3 z3) (h4 : Ints w A4 z4) :
    Calls Try.prog 5 #[prV A0 P0.length cap0, .int .i64 a1, .int .i64 a2, .slice A3 z3.length cap3, .slice A4 z4.length cap4] w fun e w' => e = .returned (.bool true) ∧ Below w.heap.size w w' := by
  by_cases c0 : z3.length ≤ 1048576
  case neg => exact lawExactMixedDerivative_0 P0 A0 cap0 a1 a2 A3 cap3 z3 A4 cap4 z4 w h0 hl0 hm0 _w1 _w2 h3 h4 c0
  by_cases c1 : z4.length ≤ 1048576
  case neg => exact lawExactMixedDerivative_1 P0 A0 cap0 a1 a2 A3 cap3 z3 A4 cap4 z4 w h0 hl0 hm0 _w1 _w2 h3 h4 c0 c1
  by_cases c2 : fnSize P0 ≤ 1048576
  case neg => exact lawExactMixedDerivative_2 P0 A0 cap0 a1 a2 A3 cap3 z3 A4 cap4 z4 w h0 hl0 hm0 _w1 _w2 h3 h4 c0 c1 c2
  exact lawExactMixedDerivative_ok P0 A0 cap0 a1 a2 A3 cap3 z3 A4 cap4 z4 w h0 hl0 hm0 _w1 _w2 h3 h4 c0 c1 c2

end Go.Proofs.Ytlnikpjcggfdmaa

/- FnExactMixedDerivative: for every program, function, output, arguments and parameters the program's MixedDerivative returns what the reference's returns. No condition. -/
namespace Go.Proofs.Ytlnikpjcggfdmaa.fnExactMixedDerivative
open Go.ChangeShapes Go.WideShapes Go.ChangeAt Go.RowKit

theorem own : ownKnob Try.prog.godebug = none := by kernel_rfl
theorem laidOut : laidOutB Try.prog = true := by kernel_rfl

set_option maxRecDepth 100000 in
theorem lifted (os : Os) (started : os.Started) (H : Type) (enc : TypeId × Value → H) :
    ReturnsInHanded {} Try.checked os 5 .any (Rows.fnExactMixedDerivativeSpec.pre6 enc Try.prog Try.f5 Rows.fnExactMixedDerivativeRow.domain false) (Rows.fnExactMixedDerivativeSpec.post enc Try.prog Try.f5 false true false false) := by
  refine returnsInHanded_of_change (C := Try.checked) own started (by kernel_rfl) Try.func5
    (ChangeSpec.witness6 (enc := enc) (C := Try.checked) false ⟨#[], #[.agg #[.slice none 0 0], .int .i64 0, .int .i64 0, .slice none 0 0, .slice none 0 0], []⟩ 8 (by kernel_rfl) (by kernel_rfl) (by kernel_rfl) (by kernel_rfl)) ?_
  intro W base args ds gs before hval0 hW hcnd _
  have hval : ∀ (j : Nat) t v, Try.f5.params[j]? = some t → args[j]? = some v → Value.okWide Try.prog W .any base t v := hval0
  have hW' := hW
  obtain ⟨p, q, hA0, hV, rfl, hfz, hnd⟩ := hW
  have hA : DataW.TrodAll enc Try.prog W 0 (fun _ => true) true Try.f5.params.toList args.toList ds p := hA0
  rw [Try.params5] at hA hval
  obtain ⟨v0, vs0, d0, ds0, p0, q0, hargs, rfl, rfl, h0, r0⟩ := trodAll_cons hA
  obtain ⟨v1, vs1, d1, ds1, p1, q1, rfl, rfl, rfl, h1, r1⟩ := trodAll_cons r0
  obtain ⟨v2, vs2, d2, ds2, p2, q2, rfl, rfl, rfl, h2, r2⟩ := trodAll_cons r1
  obtain ⟨v3, vs3, d3, ds3, p3, q3, rfl, rfl, rfl, h3, r3⟩ := trodAll_cons r2
  obtain ⟨v4, vs4, d4, ds4, p4, q4, rfl, rfl, rfl, h4, r4⟩ := trodAll_cons r3
  obtain ⟨rfl, rfl, rfl⟩ := trodAll_nil r4
  obtain rfl : args = #[v0, v1, v2, v3, v4] := by cases args; simp_all
  obtain ⟨rfl, rfl⟩ := trodVars_none hV
  obtain ⟨cs0, rfl, _⟩ := okWide_struct Try.underlying24 (hval 0 24 v0 rfl rfl)
  have k0 := h0
  have lt0 : ∀ x ∈ p0, x.block < W.heap.size := by obtain ⟨m, hm⟩ := k0; exact DataW.trod_lt m _ _ _ hm
  obtain ⟨a0, cap0, z0, e0, b0, m0, w0⟩ : ∃ (A : Option Addr) (cap : Nat) (fs : List Fn), cs0 = #[.slice A fs.length cap] ∧ fs.length ≤ cap ∧ cap ≤ maxLen ∧ FnSl W W.heap.size fs A := by
    obtain ⟨fuel, hf⟩ := h0
    obtain ⟨A, cap, fs, hcs, h1, h2, h3⟩ := open_program hf
    exact ⟨A, cap, fs, by cases cs0; simpa [Value.cells] using hcs, h1, h2, h3⟩
  subst e0
  obtain ⟨a1, rfl, rfl, rfl, w1⟩ := open_int Try.underlying2 (hval 1 2 v1 rfl rfl) h1
  obtain ⟨a2, rfl, rfl, rfl, w2⟩ := open_int Try.underlying2 (hval 2 2 v2 rfl rfl) h2
  obtain ⟨a3, len3, cap3, rfl⟩ := okWide_slice Try.underlying25 (hval 3 25 v3 rfl rfl)
  have k3 := h3
  have lt3 : ∀ x ∈ p3, x.block < W.heap.size := by obtain ⟨m, hm⟩ := k3; exact DataW.trod_lt m _ _ _ hm
  obtain ⟨z3, e3, w3⟩ : ∃ zs : List Int, zs.length = len3 ∧ Ints W a3 zs := by
    obtain ⟨fuel, hf⟩ := h3
    rcases open_ints Try.underlying25 Try.underlying2 (by kernel_rfl) hf with ⟨hcs, _⟩ | ⟨x, l, c, zs, hcs, hl8, hl, hm, hz, _, hcell, hwz⟩
    · simp [Value.cells] at hcs
      obtain ⟨rfl, rfl, rfl⟩ := hcs
      exact ⟨[], rfl, Ints.nil _ _⟩
    · simp [Value.cells] at hcs
      obtain ⟨rfl, rfl, rfl⟩ := hcs
      exact ints_of_cells hl (by simpa using hz) hcell
  subst e3
  obtain ⟨a4, len4, cap4, rfl⟩ := okWide_slice Try.underlying25 (hval 4 25 v4 rfl rfl)
  have k4 := h4
  have lt4 : ∀ x ∈ p4, x.block < W.heap.size := by obtain ⟨m, hm⟩ := k4; exact DataW.trod_lt m _ _ _ hm
  obtain ⟨z4, e4, w4⟩ : ∃ zs : List Int, zs.length = len4 ∧ Ints W a4 zs := by
    obtain ⟨fuel, hf⟩ := h4
    rcases open_ints Try.underlying25 Try.underlying2 (by kernel_rfl) hf with ⟨hcs, _⟩ | ⟨x, l, c, zs, hcs, hl8, hl, hm, hz, _, hcell, hwz⟩
    · simp [Value.cells] at hcs
      obtain ⟨rfl, rfl, rfl⟩ := hcs
      exact ⟨[], rfl, Ints.nil _ _⟩
    · simp [Value.cells] at hcs
      obtain ⟨rfl, rfl, rfl⟩ := hcs
      exact ints_of_cells hl (by simpa using hz) hcell
  subst e4
  clear hA0 hval0
  refine (lawExactMixedDerivative z0 a0 cap0 a1 a2 a3 cap3 z3 a4 cap4 z4 W w0 b0 m0 w1 w2 w3 w4).mono fun e W' ⟨he, bel⟩ => ?_
  subst he
  exact ⟨_, rfl, _, _, _, [], _, [], hW', trodAll_mk1 (shut_bool Try.underlying4 _), (trodAll_cons_mk (Below.trod laidOut (by kernel_rfl) (of_decide_eq_true (by kernel_rfl)) k0 bel lt0) (trodAll_cons_mk (shut_int Try.underlying2 w1) (trodAll_cons_mk (shut_int Try.underlying2 w2) (trodAll_cons_mk (Below.trod laidOut (by kernel_rfl) (of_decide_eq_true (by kernel_rfl)) k3 bel lt3) (trodAll_cons_mk (Below.trod laidOut (by kernel_rfl) (of_decide_eq_true (by kernel_rfl)) k4 bel lt4) trodAll_mk0))))), rfl, bel.frame _, fun h => by cases h⟩

theorem over : Rows.fnExactMixedDerivativeRow.holds Try.pinned (OpenSpec.ofChange Rows.fnExactMixedDerivativeSpec) :=
  OpenClaim.holds_of_wide 5 Try.f5 rfl rfl rfl rfl rfl rfl rfl ⟨rfl, rfl, rfl, rfl, rfl⟩ rfl rfl rfl rfl rfl (by kernel_rfl) Try.func5 (by kernel_rfl)
    (of_decide_eq_true (by kernel_rfl)) (by unfold Func.isWrapper; first | (rw [if_pos (by decide +kernel)]; kernel_rfl) | (rw [if_neg (by decide +kernel)]; exact ⟨rfl, rfl⟩))
    (fun os started H enc _ => lifted os started H enc)

theorem proved : Rows.FnExactMixedDerivativeSaid := over
#print axioms proved
end Go.Proofs.Ytlnikpjcggfdmaa.fnExactMixedDerivative
