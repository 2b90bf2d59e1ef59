/- FnExactHessianOf: for every program, function, output and list of arguments the program's HessianOf returns what the reference's returns, in memory of its own. No condition. -/
import Derived.Test.YtlnikpjcggfdmaaGreatKW
import Derived.Test.YtlnikpjcggfdmaaGreatKP
import Derived.Deep.RegionHeld3
import Derived.WalkKit
import Derived.ProofKit
import Derived.OpenShut
import Derived.ShutString
import Derived.ChangeOld
import Derived.Below

/- The walk of the law FnExactHessianOf. -/
namespace Go.Proofs.YtlnikpjcggfdmaaGreat
open Go.RowKit Plain

set_option maxRecDepth 100000 in
set_option maxHeartbeats 1000000 in
theorem lawExactHessianOf_0 (P0 : List Fn) (A0 : Option Addr) (cap0 : Nat) (a1 : Int) (a2 : Int) (A3 : Option Addr) (cap3 : Nat) (z3 : List Int) (w : World) (_h0 : FnSl w w.heap.size P0 A0) (_hl0 : P0.length ≤ cap0) (_hm0 : cap0 ≤ maxLen) (_w1 : (Lit.int .i64 a1).wf = true) (_w2 : (Lit.int .i64 a2).wf = true) (_h3 : Ints w A3 z3)  (_c0 : ¬ z3.length ≤ 1048576) :
    Calls Tryz.prog 5 #[prV A0 P0.length cap0, .int .i64 a1, .int .i64 a2, .slice A3 z3.length cap3] w fun e w' => e = .returned (.bool true) ∧ Below w.heap.size w w' := by
  go_enter Tryz.func5, Tryz.ntmps5
  go_wp2
  go_ret
  exact ⟨rfl, by go_grown⟩

set_option maxRecDepth 100000 in
set_option maxHeartbeats 1000000 in
theorem lawExactHessianOf_1 (P0 : List Fn) (A0 : Option Addr) (cap0 : Nat) (a1 : Int) (a2 : Int) (A3 : Option Addr) (cap3 : Nat) (z3 : List Int) (w : World) (h0 : FnSl w w.heap.size P0 A0) (_hl0 : P0.length ≤ cap0) (hm0 : cap0 ≤ maxLen) (_w1 : (Lit.int .i64 a1).wf = true) (_w2 : (Lit.int .i64 a2).wf = true) (_h3 : Ints w A3 z3) (_c0 : z3.length ≤ 1048576) (c1 : ¬ fnSize P0 ≤ 1048576) :
    Calls Tryz.prog 5 #[prV A0 P0.length cap0, .int .i64 a1, .int .i64 a2, .slice A3 z3.length cap3] w fun e w' => e = .returned (.bool true) ∧ Below w.heap.size w w' := by
  have C1 := Lib.hid c1; clear c1
  have S0 := Lib.hid h0; clear h0
  have HM0 : cap0 ≤ 9223372036854775807 := by have := hm0; unfold maxLen at this; omega
  have HB0 : Hid (Below w.heap.size w (w.alloc (.cells #[.slice A0 P0.length cap0] 24))) := by show Below _ _ _; go_grown
  go_enter Tryz.func5, Tryz.ntmps5
  go_wp2_with fail
  refine (szProgram_any P0 A0 cap0 w.heap.size 1048576 _ (S0.out.below HB0.out) HB0.out.size (by omega) (by omega) (by omega)).mono ?_; rintro e w1 ⟨rfl, hb1⟩
  have HB1 := Lib.hid (bnext HB0.out hb1); clear hb1
  rw [szV_no (by have := C1.out; omega)]
  go_wp2
  go_ret
  exact ⟨rfl, HB1.out⟩

set_option maxRecDepth 100000 in
set_option maxHeartbeats 8000000 in
theorem lawExactHessianOf_ok (P0 : List Fn) (A0 : Option Addr) (cap0 : Nat) (a1 : Int) (a2 : Int) (A3 : Option Addr) (cap3 : Nat) (z3 : List Int) (w : World) (h0 : FnSl w w.heap.size P0 A0) (_hl0 : P0.length ≤ cap0) (_hm0 : cap0 ≤ maxLen) (_w1 : (Lit.int .i64 a1).wf = true) (_w2 : (Lit.int .i64 a2).wf = true) (h3 : Ints w A3 z3) (_c0 : z3.length ≤ 1048576) (c1 : fnSize P0 ≤ 1048576) :
    Calls Tryz.prog 5 #[prV A0 P0.length cap0, .int .i64 a1, .int .i64 a2, .slice A3 z3.length cap3] w fun e w' => e = .returned (.bool true) ∧ Below w.heap.size w w' := by
  have C1 := Lib.hid c1; clear c1
  have S0 := Lib.hid h0; clear h0
  have Z0 : Hid (fnSize P0 ≤ 1048576) := by have := C1.out; show _ ≤ _; omega
  have pl0 : P0.length ≤ 1048576 := by have := Z0.out; unfold fnSize at this; omega
  have S3 := Lib.hid h3; clear h3
  obtain ⟨v0, hv0⟩ : ∃ v : List (List Int), v = (hesV P0 a1 a2 z3).1 := ⟨_, rfl⟩
  obtain ⟨v1, hv1⟩ : ∃ v : Int, v = (hesV P0 a1 a2 z3).2 := ⟨_, rfl⟩
  have n0 : v0.length ≤ 4194304 := by rw [hv0]; exact hesV_len P0 a1 a2 z3
  have t0 : tot v0 ≤ 4194304 := by rw [hv0]; exact hesV_tot P0 a1 a2 z3
  have V0 := Lib.hid hv0; clear hv0
  have V1 := Lib.hid hv1; clear hv1
  have HB0 : Hid (Below w.heap.size w (w.alloc (.cells #[.slice A0 P0.length cap0] 24))) := by show Below _ _ _; go_grown
  have HS0 := Lib.hid HB0.out.size
  have BX0_0 : Hid (Reg (w.alloc (.cells #[.slice A0 P0.length cap0] 24)) (w.heap.size) (w.heap.size + 1) (fun w' => Cells w' (w.heap.size) 24 [.slice A0 P0.length cap0])) := regBox (Cells.new w 24 [.slice A0 P0.length cap0])
  have HQB0 := Lib.hid BX0_0.out.size
  go_enter Tryz.func5, Tryz.ntmps5
  have qBX0_0 : World.cell? (w.alloc (.cells #[.slice A0 P0.length cap0] 24)) ⟨w.heap.size, 0, none⟩ = some (.slice A0 P0.length cap0) := by rw [BX0_0.out.now.cell]; rfl
  go_wp2_with fail
  refine (szProgram_any P0 A0 cap0 w.heap.size 1048576 _ (S0.out.below HB0.out) HB0.out.size (by omega) (by omega) (by omega)).mono ?_; rintro e w1 ⟨rfl, hb1⟩
  clear qBX0_0
  have HB1 := Lib.hid (bnext HB0.out hb1)
  have BX0_1 := Lib.hid (BX0_0.out.below hb1); clear BX0_0
  have HS1 := Lib.hid hb1.size
  clear hb1
  rw [szV_yes (by have := C1.out; omega)]
  obtain ⟨l1, hl1⟩ : ∃ l1 : Int, l1 = 1048576 - fnSize P0 := ⟨_, rfl⟩
  rw [← hl1]
  have lo1 : 0 ≤ l1 := by have := C1.out; omega
  have hi1 : l1 ≤ 1048576 := by omega
  have HL1 := Lib.hid hl1; clear hl1
  have qBX0_0 : World.cell? w1 ⟨w.heap.size, 0, none⟩ = some (.slice A0 P0.length cap0) := by rw [BX0_1.out.now.cell]; rfl
  go_wp2_with fail
  refine (toProgR Z0.out cap0 (S0.out.below HB1.out) HB1.out.size).mono ?_; rintro e w2 ⟨g2, hg2, rfl, hX2, hb2⟩
  clear qBX0_0
  have HB2 := Lib.hid (bnext HB1.out hb2)
  have BX0_2 := Lib.hid (BX0_1.out.below hb2); clear BX0_1
  have HS2 := Lib.hid hb2.size
  clear hb2
  have HG2 := Lib.hid hg2; clear hg2
  have U0_2 := Lib.hid hX2; clear hX2
  have HQ2 := Lib.hid U0_2.out.le
  have qBX0_0 : World.cell? w2 ⟨w.heap.size, 0, none⟩ = some (.slice A0 P0.length cap0) := by rw [BX0_2.out.now.cell]; rfl
  go_wp2_with fail
  refine (toR A3 cap3 z3 _ (S3.out.below HB2.out) (by omega)).mono ?_; rintro e w3 ⟨rfl, hX3, hb3⟩
  clear qBX0_0
  have HB3 := Lib.hid (bnext HB2.out hb3)
  have BX0_3 := Lib.hid (BX0_2.out.below hb3); clear BX0_2
  have U0_3 := Lib.hid (U0_2.out.below hb3); clear U0_2
  have HS3 := Lib.hid hb3.size
  clear hb3
  have U3_3 := Lib.hid hX3; clear hX3
  have HQ3 := Lib.hid U3_3.out.le
  have qBX0_0 : World.cell? w3 ⟨w.heap.size, 0, none⟩ = some (.slice A0 P0.length cap0) := by rw [BX0_3.out.now.cell]; rfl
  go_wp2_with fail
  refine (hessianOfS P0 a1 a2 z3 _ (regPIn U0_3.out Z0.out) (regInts U3_3.out) (by omega)).mono ?_
  rw [← V0.out, ← V1.out]
  rintro e w4 ⟨hb4, AR0, cR0, rfl, hR4⟩
  clear U0_3
  clear U3_3
  clear qBX0_0
  have HB4 := Lib.hid (bnext HB3.out hb4)
  have BX0_4 := Lib.hid (BX0_3.out.below hb4); clear BX0_3
  have HS4 := Lib.hid hb4.size
  clear hb4
  have R0_4 := Lib.hid hR4; clear hR4
  have qBX0_0 : World.cell? w4 ⟨w.heap.size, 0, none⟩ = some (.slice A0 P0.length cap0) := by rw [BX0_4.out.now.cell]; rfl
  go_wp2_with fail
  refine (toProgR Z0.out cap0 (S0.out.below HB4.out) HB4.out.size).mono ?_; rintro e w5 ⟨g5, hg5, rfl, hX5, hb5⟩
  clear qBX0_0
  have HB5 := Lib.hid (bnext HB4.out hb5)
  have BX0_5 := Lib.hid (BX0_4.out.below hb5); clear BX0_4
  have R0_5 := Lib.hid (R0_4.out.below hb5); clear R0_4
  have HS5 := Lib.hid hb5.size
  clear hb5
  have HG5 := Lib.hid hg5; clear hg5
  have X0_5 := Lib.hid hX5; clear hX5
  have HQ5 := Lib.hid X0_5.out.le
  have qBX0_0 : World.cell? w5 ⟨w.heap.size, 0, none⟩ = some (.slice A0 P0.length cap0) := by rw [BX0_5.out.now.cell]; rfl
  go_wp2_with fail
  clear qBX0_0
  have hb6 : Below w5.heap.size w5 (w5.alloc (.cells #[.slice (some ⟨g5, 0, none⟩) P0.length P0.length] 32)) := by go_grown
  have BC6 : Hid (Cells (w5.alloc (.cells #[.slice (some ⟨g5, 0, none⟩) P0.length P0.length] 32)) w5.heap.size 32 [.slice (some ⟨g5, 0, none⟩) P0.length P0.length]) := Cells.new w5 32 [.slice (some ⟨g5, 0, none⟩) P0.length P0.length]
  change Calls _ _ _ (w5.alloc (.cells #[.slice (some ⟨g5, 0, none⟩) P0.length P0.length] 32)) _
  generalize (w5.alloc (.cells #[.slice (some ⟨g5, 0, none⟩) P0.length P0.length] 32)) = w6 at *
  have HB6 := Lib.hid (bnext HB5.out hb6)
  have BX0_6 := Lib.hid (BX0_5.out.below hb6); clear BX0_5
  have R0_6 := Lib.hid (R0_5.out.below hb6); clear R0_5
  have X0_6 := Lib.hid (X0_5.out.below hb6); clear X0_5
  have HS6 := Lib.hid hb6.size
  clear hb6
  have VX0_6 : Hid (Reg w6 w5.heap.size (w5.heap.size + 1) (fun w' => Cells w' w5.heap.size 32 [.slice (some ⟨g5, 0, none⟩) P0.length P0.length])) := regBox BC6.out
  clear BC6
  have HQ6 := Lib.hid VX0_6.out.size
  have qBX0_0 : World.cell? w6 ⟨w.heap.size, 0, none⟩ = some (.slice A0 P0.length cap0) := by rw [BX0_6.out.now.cell]; rfl
  have qVX0_0 : World.cell? w6 ⟨w5.heap.size, 0, none⟩ = some (.slice (some ⟨g5, 0, none⟩) P0.length P0.length) := by rw [VX0_6.out.now.cell]; rfl
  skip
  refine (toR A3 cap3 z3 _ (S3.out.below HB6.out) (by omega)).mono ?_; rintro e w7 ⟨rfl, hX7, hb7⟩
  clear qBX0_0 qVX0_0
  have HB7 := Lib.hid (bnext HB6.out hb7)
  have BX0_7 := Lib.hid (BX0_6.out.below hb7); clear BX0_6
  have R0_7 := Lib.hid (R0_6.out.below hb7); clear R0_6
  have X0_7 := Lib.hid (X0_6.out.below hb7); clear X0_6
  have VX0_7 := Lib.hid (VX0_6.out.below hb7); clear VX0_6
  have HS7 := Lib.hid hb7.size
  clear hb7
  have X3_7 := Lib.hid hX7; clear hX7
  have HQ7 := Lib.hid X3_7.out.le
  have qBX0_0 : World.cell? w7 ⟨w.heap.size, 0, none⟩ = some (.slice A0 P0.length cap0) := by rw [BX0_7.out.now.cell]; rfl
  have qVX0_0 : World.cell? w7 ⟨w5.heap.size, 0, none⟩ = some (.slice (some ⟨g5, 0, none⟩) P0.length P0.length) := by rw [VX0_7.out.now.cell]; rfl
  go_wp2_with fail
  refine (hessianOfI P0 a1 a2 z3 _ (regPIn X0_7.out Z0.out) (regInts X3_7.out) (by omega)).mono ?_
  rw [← V0.out, ← V1.out]
  rintro e w8 ⟨hb8, AG0, cG0, rfl, hR8⟩
  clear qBX0_0 qVX0_0
  have HB8 := Lib.hid (bnext HB7.out hb8)
  have BX0_8 := Lib.hid (BX0_7.out.below hb8); clear BX0_7
  have R0_8 := Lib.hid (R0_7.out.below hb8); clear R0_7
  have X0_8 := Lib.hid (X0_7.out.below hb8); clear X0_7
  have VX0_8 := Lib.hid (VX0_7.out.below hb8); clear VX0_7
  have X3_8 := Lib.hid (X3_7.out.below hb8); clear X3_7
  have HS8 := Lib.hid hb8.size
  clear hb8
  have G0_8 := Lib.hid hR8; clear hR8
  have qBX0_0 : World.cell? w8 ⟨w.heap.size, 0, none⟩ = some (.slice A0 P0.length cap0) := by rw [BX0_8.out.now.cell]; rfl
  have qVX0_0 : World.cell? w8 ⟨w5.heap.size, 0, none⟩ = some (.slice (some ⟨g5, 0, none⟩) P0.length P0.length) := by rw [VX0_8.out.now.cell]; rfl
  go_wp2_with fail
  refine (eqSS_any AG0 AR0 cG0 cR0 v0 _ (regRows G0_8.out (by omega)) (regRows R0_8.out (by omega)) (by omega) (by omega)).mono ?_; rintro e w9 ⟨rfl, hb9⟩
  clear qBX0_0 qVX0_0
  have HB9 := Lib.hid (bnext HB8.out hb9)
  have BX0_9 := Lib.hid (BX0_8.out.below hb9); clear BX0_8
  have R0_9 := Lib.hid (R0_8.out.below hb9); clear R0_8
  have X0_9 := Lib.hid (X0_8.out.below hb9); clear X0_8
  have VX0_9 := Lib.hid (VX0_8.out.below hb9); clear VX0_8
  have X3_9 := Lib.hid (X3_8.out.below hb9); clear X3_8
  have G0_9 := Lib.hid (G0_8.out.below hb9); clear G0_8
  have HS9 := Lib.hid hb9.size
  clear hb9
  have qBX0_0 : World.cell? w9 ⟨w.heap.size, 0, none⟩ = some (.slice A0 P0.length cap0) := by rw [BX0_9.out.now.cell]; rfl
  have qVX0_0 : World.cell? w9 ⟨w5.heap.size, 0, none⟩ = some (.slice (some ⟨g5, 0, none⟩) P0.length P0.length) := by rw [VX0_9.out.now.cell]; rfl
  go_wp2_with fail
  have KT10 : Hid (∀ wx, Below w9.heap.size w9 wx → Calls Tryz.prog 10 #[prV A0 P0.length cap0] wx fun e w' => ∃ g, wx.heap.size ≤ g ∧ e = .returned (prV (some ⟨g, 0, none⟩) P0.length P0.length) ∧ Reg w' g w'.heap.size (ProgR g w'.heap.size P0) ∧ Below wx.heap.size wx w') := fun wx hx => toProgR Z0.out cap0 (S0.out.below (bnext HB9.out hx)) (bnext HB9.out hx).size
  have KS10 := Lib.hid (And.intro qVX0_0 qBX0_0)
  go_region_held3 (fun wx => wx.cell? ⟨w5.heap.size, 0, none⟩ = some (.slice (some ⟨g5, 0, none⟩) P0.length P0.length) ∧ wx.cell? ⟨w.heap.size, 0, none⟩ = some (.slice A0 P0.length cap0)) (first | exact KS10.out | exact KS10.out | go_keep | exact keep2 KS10.out hb10 | exact keep2 KS10.out (hb10.trans (hb11.mono hb10.size)))
    (first
      | (go_at_call 14; have _tk := hX10; (with_reducible refine (eqProgR _ _ (X0_9.out.below hb10) hX10 Z0.out).mono ?_); rintro e w11 ⟨rfl, hb11⟩)
      | (go_at_call 10; refine (KT10.out _ (by first | exact (Below.refl _ _).drew | exact below_drewN' (Below.refl _ _) _ | exact Below.refl _ _)).mono ?_; rintro e w10 ⟨g10, hg10, rfl, hX10, hb10'⟩; have hb10 : Below w9.heap.size w9 w10 := by first | exact bdrew hb10' | exact bdrewN hb10' | exact hb10'))
  clear hX10 hg10 hb10' KS10 KT10
  clear qBX0_0 qVX0_0
  have HB10 := Lib.hid (bnext HB9.out hb10)
  have BX0_10 := Lib.hid (BX0_9.out.below hb10); clear BX0_9
  have R0_10 := Lib.hid (R0_9.out.below hb10); clear R0_9
  have X0_10 := Lib.hid (X0_9.out.below hb10); clear X0_9
  have VX0_10 := Lib.hid (VX0_9.out.below hb10); clear VX0_9
  have X3_10 := Lib.hid (X3_9.out.below hb10); clear X3_9
  have G0_10 := Lib.hid (G0_9.out.below hb10); clear G0_9
  have HS10 := Lib.hid hb10.size
  clear hb10
  have HB11 := Lib.hid (bnext HB10.out hb11)
  have BX0_11 := Lib.hid (BX0_10.out.below hb11); clear BX0_10
  have R0_11 := Lib.hid (R0_10.out.below hb11); clear R0_10
  have X0_11 := Lib.hid (X0_10.out.below hb11); clear X0_10
  have VX0_11 := Lib.hid (VX0_10.out.below hb11); clear VX0_10
  have X3_11 := Lib.hid (X3_10.out.below hb11); clear X3_10
  have G0_11 := Lib.hid (G0_10.out.below hb11); clear G0_10
  have HS11 := Lib.hid hb11.size
  clear hb11
  have qBX0_0 : World.cell? w11 ⟨w.heap.size, 0, none⟩ = some (.slice A0 P0.length cap0) := by rw [BX0_11.out.now.cell]; rfl
  have qVX0_0 : World.cell? w11 ⟨w5.heap.size, 0, none⟩ = some (.slice (some ⟨g5, 0, none⟩) P0.length P0.length) := by rw [VX0_11.out.now.cell]; rfl
  go_wp2_with fail
  refine (toR A3 cap3 z3 _ (S3.out.below HB11.out) (by omega)).mono ?_; rintro e w12 ⟨rfl, hX12, hb12⟩
  clear qBX0_0 qVX0_0
  have HB12 := Lib.hid (bnext HB11.out hb12)
  have BX0_12 := Lib.hid (BX0_11.out.below hb12); clear BX0_11
  have R0_12 := Lib.hid (R0_11.out.below hb12); clear R0_11
  have X0_12 := Lib.hid (X0_11.out.below hb12); clear X0_11
  have VX0_12 := Lib.hid (VX0_11.out.below hb12); clear VX0_11
  have X3_12 := Lib.hid (X3_11.out.below hb12); clear X3_11
  have G0_12 := Lib.hid (G0_11.out.below hb12); clear G0_11
  have HS12 := Lib.hid hb12.size
  clear hb12
  have Y3_12 := Lib.hid hX12; clear hX12
  have HQ12 := Lib.hid Y3_12.out.le
  have qBX0_0 : World.cell? w12 ⟨w.heap.size, 0, none⟩ = some (.slice A0 P0.length cap0) := by rw [BX0_12.out.now.cell]; rfl
  have qVX0_0 : World.cell? w12 ⟨w5.heap.size, 0, none⟩ = some (.slice (some ⟨g5, 0, none⟩) P0.length P0.length) := by rw [VX0_12.out.now.cell]; rfl
  go_wp2_with fail
  refine (eqR _ _ (regInts X3_12.out) (regInts Y3_12.out) (by omega)).mono ?_; rintro e w13 ⟨rfl, hb13⟩
  clear Y3_12
  clear qBX0_0 qVX0_0
  have HB13 := Lib.hid (bnext HB12.out hb13)
  have BX0_13 := Lib.hid (BX0_12.out.below hb13); clear BX0_12
  have R0_13 := Lib.hid (R0_12.out.below hb13); clear R0_12
  have X0_13 := Lib.hid (X0_12.out.below hb13); clear X0_12
  have VX0_13 := Lib.hid (VX0_12.out.below hb13); clear VX0_12
  have X3_13 := Lib.hid (X3_12.out.below hb13); clear X3_12
  have G0_13 := Lib.hid (G0_12.out.below hb13); clear G0_12
  have HS13 := Lib.hid hb13.size
  clear hb13
  have qBX0_0 : World.cell? w13 ⟨w.heap.size, 0, none⟩ = some (.slice A0 P0.length cap0) := by rw [BX0_13.out.now.cell]; rfl
  have qVX0_0 : World.cell? w13 ⟨w5.heap.size, 0, none⟩ = some (.slice (some ⟨g5, 0, none⟩) P0.length P0.length) := by rw [VX0_13.out.now.cell]; rfl
  go_wp2_with fail
  refine (markProgR _ X0_13.out Z0.out (by omega) (by omega)).mono ?_; rintro e w14 ⟨k14, rfl, k014, k114, hO14⟩
  clear X0_13
  have k214 : 0 ≤ k14 := by omega
  have k314 : k14 ≤ 1 + 4194304 := by have := Z0.out; omega
  clear k014 k114
  clear qBX0_0 qVX0_0
  have hz14 : w.heap.size ≤ g5 ∧ g5 ≤ w5.heap.size ∧ w5.heap.size ≤ w13.heap.size := by have := HS0.out; have := HQB0.out; have := HS1.out; have := HS2.out; have := HG2.out; have := HQ2.out; have := HS3.out; have := HQ3.out; have := HS4.out; have := HS5.out; have := HG5.out; have := HQ5.out; have := HS6.out; have := HQ6.out; have := HS7.out; have := HQ7.out; have := HS8.out; have := HS9.out; have := HS10.out; have := HS11.out; have := HS12.out; have := HQ12.out; have := HS13.out; omega
  have HB14 := Lib.hid (belowRegion HB13.out hO14 hz14.1)
  have BX0_14 := Lib.hid (BX0_13.out.apart hO14 (by have := HS0.out; have := HQB0.out; have := HS1.out; have := HS2.out; have := HG2.out; have := HQ2.out; have := HS3.out; have := HQ3.out; have := HS4.out; have := HS5.out; have := HG5.out; have := HQ5.out; have := HS6.out; have := HQ6.out; have := HS7.out; have := HQ7.out; have := HS8.out; have := HS9.out; have := HS10.out; have := HS11.out; have := HS12.out; have := HQ12.out; have := HS13.out; omega)); clear BX0_13
  have R0_14 := Lib.hid (R0_13.out.apart hO14 (by have := HS0.out; have := HQB0.out; have := HS1.out; have := HS2.out; have := HG2.out; have := HQ2.out; have := HS3.out; have := HQ3.out; have := HS4.out; have := HS5.out; have := HG5.out; have := HQ5.out; have := HS6.out; have := HQ6.out; have := HS7.out; have := HQ7.out; have := HS8.out; have := HS9.out; have := HS10.out; have := HS11.out; have := HS12.out; have := HQ12.out; have := HS13.out; omega)); clear R0_13
  have VX0_14 := Lib.hid (VX0_13.out.apart hO14 (by have := HS0.out; have := HQB0.out; have := HS1.out; have := HS2.out; have := HG2.out; have := HQ2.out; have := HS3.out; have := HQ3.out; have := HS4.out; have := HS5.out; have := HG5.out; have := HQ5.out; have := HS6.out; have := HQ6.out; have := HS7.out; have := HQ7.out; have := HS8.out; have := HS9.out; have := HS10.out; have := HS11.out; have := HS12.out; have := HQ12.out; have := HS13.out; omega)); clear VX0_13
  have X3_14 := Lib.hid (X3_13.out.apart hO14 (by have := HS0.out; have := HQB0.out; have := HS1.out; have := HS2.out; have := HG2.out; have := HQ2.out; have := HS3.out; have := HQ3.out; have := HS4.out; have := HS5.out; have := HG5.out; have := HQ5.out; have := HS6.out; have := HQ6.out; have := HS7.out; have := HQ7.out; have := HS8.out; have := HS9.out; have := HS10.out; have := HS11.out; have := HS12.out; have := HQ12.out; have := HS13.out; omega)); clear X3_13
  have G0_14 := Lib.hid (G0_13.out.apart hO14 (by have := HS0.out; have := HQB0.out; have := HS1.out; have := HS2.out; have := HG2.out; have := HQ2.out; have := HS3.out; have := HQ3.out; have := HS4.out; have := HS5.out; have := HG5.out; have := HQ5.out; have := HS6.out; have := HQ6.out; have := HS7.out; have := HQ7.out; have := HS8.out; have := HS9.out; have := HS10.out; have := HS11.out; have := HS12.out; have := HQ12.out; have := HS13.out; omega)); clear G0_13
  have HS14 := Lib.hid hO14.size
  clear hO14 hz14
  have qBX0_0 : World.cell? w14 ⟨w.heap.size, 0, none⟩ = some (.slice A0 P0.length cap0) := by rw [BX0_14.out.now.cell]; rfl
  have qVX0_0 : World.cell? w14 ⟨w5.heap.size, 0, none⟩ = some (.slice (some ⟨g5, 0, none⟩) P0.length P0.length) := by rw [VX0_14.out.now.cell]; rfl
  go_wp2_with fail
  refine (markR _ X3_14.out (by omega) (by omega) (by omega)).mono ?_; rintro e w15 ⟨rfl, _, hO15⟩
  clear X3_14
  obtain ⟨k15, hk15, k215, k315⟩ : ∃ k15 : Int, k15 = k14 + (z3.length : Nat) ∧ 0 ≤ k15 ∧ k15 ≤ k14 + 1048576 := ⟨_, rfl, by omega, by omega⟩
  rw [← hk15]
  clear hk15
  clear qBX0_0 qVX0_0
  have hz15 : w.heap.size ≤ w6.heap.size ∧ w6.heap.size ≤ w7.heap.size ∧ w7.heap.size ≤ w14.heap.size := by have := HS0.out; have := HQB0.out; have := HS1.out; have := HS2.out; have := HG2.out; have := HQ2.out; have := HS3.out; have := HQ3.out; have := HS4.out; have := HS5.out; have := HG5.out; have := HQ5.out; have := HS6.out; have := HQ6.out; have := HS7.out; have := HQ7.out; have := HS8.out; have := HS9.out; have := HS10.out; have := HS11.out; have := HS12.out; have := HQ12.out; have := HS13.out; have := HS14.out; omega
  have HB15 := Lib.hid (belowRegion HB14.out hO15 hz15.1)
  have BX0_15 := Lib.hid (BX0_14.out.apart hO15 (by have := HS0.out; have := HQB0.out; have := HS1.out; have := HS2.out; have := HG2.out; have := HQ2.out; have := HS3.out; have := HQ3.out; have := HS4.out; have := HS5.out; have := HG5.out; have := HQ5.out; have := HS6.out; have := HQ6.out; have := HS7.out; have := HQ7.out; have := HS8.out; have := HS9.out; have := HS10.out; have := HS11.out; have := HS12.out; have := HQ12.out; have := HS13.out; have := HS14.out; omega)); clear BX0_14
  have R0_15 := Lib.hid (R0_14.out.apart hO15 (by have := HS0.out; have := HQB0.out; have := HS1.out; have := HS2.out; have := HG2.out; have := HQ2.out; have := HS3.out; have := HQ3.out; have := HS4.out; have := HS5.out; have := HG5.out; have := HQ5.out; have := HS6.out; have := HQ6.out; have := HS7.out; have := HQ7.out; have := HS8.out; have := HS9.out; have := HS10.out; have := HS11.out; have := HS12.out; have := HQ12.out; have := HS13.out; have := HS14.out; omega)); clear R0_14
  have VX0_15 := Lib.hid (VX0_14.out.apart hO15 (by have := HS0.out; have := HQB0.out; have := HS1.out; have := HS2.out; have := HG2.out; have := HQ2.out; have := HS3.out; have := HQ3.out; have := HS4.out; have := HS5.out; have := HG5.out; have := HQ5.out; have := HS6.out; have := HQ6.out; have := HS7.out; have := HQ7.out; have := HS8.out; have := HS9.out; have := HS10.out; have := HS11.out; have := HS12.out; have := HQ12.out; have := HS13.out; have := HS14.out; omega)); clear VX0_14
  have G0_15 := Lib.hid (G0_14.out.apart hO15 (by have := HS0.out; have := HQB0.out; have := HS1.out; have := HS2.out; have := HG2.out; have := HQ2.out; have := HS3.out; have := HQ3.out; have := HS4.out; have := HS5.out; have := HG5.out; have := HQ5.out; have := HS6.out; have := HQ6.out; have := HS7.out; have := HQ7.out; have := HS8.out; have := HS9.out; have := HS10.out; have := HS11.out; have := HS12.out; have := HQ12.out; have := HS13.out; have := HS14.out; omega)); clear G0_14
  have HS15 := Lib.hid hO15.size
  clear hO15 hz15
  have hkk : decide (k15 < 0) = false := by simpa using k215
  have qBX0_0 : World.cell? w15 ⟨w.heap.size, 0, none⟩ = some (.slice A0 P0.length cap0) := by rw [BX0_15.out.now.cell]; rfl
  have qVX0_0 : World.cell? w15 ⟨w5.heap.size, 0, none⟩ = some (.slice (some ⟨g5, 0, none⟩) P0.length P0.length) := by rw [VX0_15.out.now.cell]; rfl
  go_wp2_with fail
  refine (eqSS_any AG0 AR0 cG0 cR0 v0 _ (regRows G0_15.out (by omega)) (regRows R0_15.out (by omega)) (by omega) (by omega)).mono ?_; rintro e w16 ⟨rfl, hb16⟩
  clear qBX0_0 qVX0_0
  have HB16 := Lib.hid (bnext HB15.out hb16)
  have BX0_16 := Lib.hid (BX0_15.out.below hb16); clear BX0_15
  have R0_16 := Lib.hid (R0_15.out.below hb16); clear R0_15
  have VX0_16 := Lib.hid (VX0_15.out.below hb16); clear VX0_15
  have G0_16 := Lib.hid (G0_15.out.below hb16); clear G0_15
  have HS16 := Lib.hid hb16.size
  clear hb16
  have qBX0_0 : World.cell? w16 ⟨w.heap.size, 0, none⟩ = some (.slice A0 P0.length cap0) := by rw [BX0_16.out.now.cell]; rfl
  have qVX0_0 : World.cell? w16 ⟨w5.heap.size, 0, none⟩ = some (.slice (some ⟨g5, 0, none⟩) P0.length P0.length) := by rw [VX0_16.out.now.cell]; rfl
  go_wp2_with fail
  refine (markSSR cG0 G0_16.out (by omega) (by omega) (by omega) (by omega)).mono ?_; rintro e w17 ⟨rfl, hM17, hO17⟩
  clear G0_16
  clear qBX0_0 qVX0_0
  have hz17 : w.heap.size ≤ w7.heap.size ∧ w7.heap.size ≤ w8.heap.size ∧ w8.heap.size ≤ w16.heap.size := by have := HS0.out; have := HQB0.out; have := HS1.out; have := HS2.out; have := HG2.out; have := HQ2.out; have := HS3.out; have := HQ3.out; have := HS4.out; have := HS5.out; have := HG5.out; have := HQ5.out; have := HS6.out; have := HQ6.out; have := HS7.out; have := HQ7.out; have := HS8.out; have := HS9.out; have := HS10.out; have := HS11.out; have := HS12.out; have := HQ12.out; have := HS13.out; have := HS14.out; have := HS15.out; have := HS16.out; omega
  have HB17 := Lib.hid (belowRegion HB16.out hO17 hz17.1)
  have BX0_17 := Lib.hid (BX0_16.out.apart hO17 (by have := HS0.out; have := HQB0.out; have := HS1.out; have := HS2.out; have := HG2.out; have := HQ2.out; have := HS3.out; have := HQ3.out; have := HS4.out; have := HS5.out; have := HG5.out; have := HQ5.out; have := HS6.out; have := HQ6.out; have := HS7.out; have := HQ7.out; have := HS8.out; have := HS9.out; have := HS10.out; have := HS11.out; have := HS12.out; have := HQ12.out; have := HS13.out; have := HS14.out; have := HS15.out; have := HS16.out; omega)); clear BX0_16
  have R0_17 := Lib.hid (R0_16.out.apart hO17 (by have := HS0.out; have := HQB0.out; have := HS1.out; have := HS2.out; have := HG2.out; have := HQ2.out; have := HS3.out; have := HQ3.out; have := HS4.out; have := HS5.out; have := HG5.out; have := HQ5.out; have := HS6.out; have := HQ6.out; have := HS7.out; have := HQ7.out; have := HS8.out; have := HS9.out; have := HS10.out; have := HS11.out; have := HS12.out; have := HQ12.out; have := HS13.out; have := HS14.out; have := HS15.out; have := HS16.out; omega)); clear R0_16
  have VX0_17 := Lib.hid (VX0_16.out.apart hO17 (by have := HS0.out; have := HQB0.out; have := HS1.out; have := HS2.out; have := HG2.out; have := HQ2.out; have := HS3.out; have := HQ3.out; have := HS4.out; have := HS5.out; have := HG5.out; have := HQ5.out; have := HS6.out; have := HQ6.out; have := HS7.out; have := HQ7.out; have := HS8.out; have := HS9.out; have := HS10.out; have := HS11.out; have := HS12.out; have := HQ12.out; have := HS13.out; have := HS14.out; have := HS15.out; have := HS16.out; omega)); clear VX0_16
  have HS17 := Lib.hid hO17.size
  clear hO17 hz17
  have G0_17 := Lib.hid hM17; clear hM17
  have qBX0_0 : World.cell? w17 ⟨w.heap.size, 0, none⟩ = some (.slice A0 P0.length cap0) := by rw [BX0_17.out.now.cell]; rfl
  have qVX0_0 : World.cell? w17 ⟨w5.heap.size, 0, none⟩ = some (.slice (some ⟨g5, 0, none⟩) P0.length P0.length) := by rw [VX0_17.out.now.cell]; rfl
  go_wp2_with fail
  refine (heldSSR cG0 G0_17.out (by omega) (by omega) (by omega) (by omega)).mono ?_; rintro e w' ⟨rfl, rfl⟩
  go_wp2_with fail
  clear VX0_17 qVX0_0
  refine (toProgR Z0.out cap0 (S0.out.below HB17.out) HB17.out.size).mono ?_; rintro e w18 ⟨g18, hg18, rfl, hX18, hb18⟩
  clear qBX0_0
  have HB18 := Lib.hid (bnext HB17.out hb18)
  have BX0_18 := Lib.hid (BX0_17.out.below hb18); clear BX0_17
  have R0_18 := Lib.hid (R0_17.out.below hb18); clear R0_17
  have G0_18 := Lib.hid (G0_17.out.below hb18); clear G0_17
  have HS18 := Lib.hid hb18.size
  clear hb18
  have HG18 := Lib.hid hg18; clear hg18
  have Q0_18 := Lib.hid hX18; clear hX18
  have HQ18 := Lib.hid Q0_18.out.le
  have qBX0_0 : World.cell? w18 ⟨w.heap.size, 0, none⟩ = some (.slice A0 P0.length cap0) := by rw [BX0_18.out.now.cell]; rfl
  go_wp2_with fail
  refine (toR A3 cap3 z3 _ (S3.out.below HB18.out) (by omega)).mono ?_; rintro e w19 ⟨rfl, hX19, hb19⟩
  clear qBX0_0
  have HB19 := Lib.hid (bnext HB18.out hb19)
  have BX0_19 := Lib.hid (BX0_18.out.below hb19); clear BX0_18
  have R0_19 := Lib.hid (R0_18.out.below hb19); clear R0_18
  have G0_19 := Lib.hid (G0_18.out.below hb19); clear G0_18
  have Q0_19 := Lib.hid (Q0_18.out.below hb19); clear Q0_18
  have HS19 := Lib.hid hb19.size
  clear hb19
  have Q3_19 := Lib.hid hX19; clear hX19
  have HQ19 := Lib.hid Q3_19.out.le
  have qBX0_0 : World.cell? w19 ⟨w.heap.size, 0, none⟩ = some (.slice A0 P0.length cap0) := by rw [BX0_19.out.now.cell]; rfl
  go_wp2_with fail
  refine (hessianOfI P0 a1 a2 z3 _ (regPIn Q0_19.out Z0.out) (regInts Q3_19.out) (by omega)).mono ?_
  rw [← V0.out, ← V1.out]
  rintro e w20 ⟨hb20, AJ0, cJ0, rfl, hR20⟩
  clear Q0_19
  clear Q3_19
  clear qBX0_0
  have HB20 := Lib.hid (bnext HB19.out hb20)
  have BX0_20 := Lib.hid (BX0_19.out.below hb20); clear BX0_19
  have R0_20 := Lib.hid (R0_19.out.below hb20); clear R0_19
  have G0_20 := Lib.hid (G0_19.out.below hb20); clear G0_19
  have HS20 := Lib.hid hb20.size
  clear hb20
  have J0_20 := Lib.hid hR20; clear hR20
  have qBX0_0 : World.cell? w20 ⟨w.heap.size, 0, none⟩ = some (.slice A0 P0.length cap0) := by rw [BX0_20.out.now.cell]; rfl
  go_wp2_with fail
  refine (eqSS_any AJ0 AR0 cJ0 cR0 v0 _ (regRows J0_20.out (by omega)) (regRows R0_20.out (by omega)) (by omega) (by omega)).mono ?_; rintro e w21 ⟨rfl, hb21⟩
  clear qBX0_0
  have HB21 := Lib.hid (bnext HB20.out hb21)
  have BX0_21 := Lib.hid (BX0_20.out.below hb21); clear BX0_20
  have R0_21 := Lib.hid (R0_20.out.below hb21); clear R0_20
  have G0_21 := Lib.hid (G0_20.out.below hb21); clear G0_20
  have J0_21 := Lib.hid (J0_20.out.below hb21); clear J0_20
  have HS21 := Lib.hid hb21.size
  clear hb21
  have qBX0_0 : World.cell? w21 ⟨w.heap.size, 0, none⟩ = some (.slice A0 P0.length cap0) := by rw [BX0_21.out.now.cell]; rfl
  go_wp2_with fail
  refine (heldSSR cG0 G0_21.out (by omega) (by omega) (by omega) (by omega)).mono ?_; rintro e w' ⟨rfl, rfl⟩
  clear qBX0_0
  go_wp2
  go_ret
  exact ⟨rfl, HB21.out⟩

theorem lawExactHessianOf (P0 : List Fn) (A0 : Option Addr) (cap0 : Nat) (a1 : Int) (a2 : Int) (A3 : Option Addr) (cap3 : Nat) (z3 : List Int) (w : World) (h0 : FnSl w w.heap.size P0 A0) (hl0 : P0.length ≤ cap0) (hm0 : cap0 ≤ maxLen) (_w1 : (Lit.int .i64 a1).wf = true) (_w2 : (Lit.int .i64 a2).wf = true) (h3 : Ints w A3 z3) :
    Calls Tryz.prog 5 #[prV A0 P0.length cap0, .int .i64 a1, .int .i64 a2, .slice A3 z3.length cap3] w fun e w' => e = .returned (.bool true) ∧ Below w.heap.size w w' := by
  by_cases c0 : z3.length ≤ 1048576
  case neg => exact lawExactHessianOf_0 P0 A0 cap0 a1 a2 A3 cap3 z3 w h0 hl0 hm0 _w1 _w2 h3 c0
  by_cases c1 : fnSize P0 ≤ 1048576
  case neg => exact lawExactHessianOf_1 P0 A0 cap0 a1 a2 A3 cap3 z3 w h0 hl0 hm0 _w1 _w2 h3 c0 c1
  exact lawExactHessianOf_ok P0 A0 cap0 a1 a2 A3 cap3 z3 w h0 hl0 hm0 _w1 _w2 h3 c0 c1

end Go.Proofs.YtlnikpjcggfdmaaGreat

/- FnExactHessianOf: for every program, function, output and list of arguments the program's HessianOf returns what the reference's returns, in memory of its own. No condition. -/
namespace Go.Proofs.YtlnikpjcggfdmaaGreat.fnExactHessianOf
open Go.ChangeShapes Go.WideShapes Go.ChangeAt Go.RowKit

theorem own : ownKnob Tryz.prog.godebug = none := by kernel_rfl
theorem laidOut : laidOutB Tryz.prog = true := by kernel_rfl

set_option maxRecDepth 100000 in
theorem lifted (os : Os) (started : os.Started) (H : Type) (enc : TypeId × Value → H) :
    ReturnsInHanded {} Tryz.checked os 5 .any (Rows.fnExactHessianOfSpec.pre6 enc Tryz.prog Tryz.f5 Rows.fnExactHessianOfRow.domain false) (Rows.fnExactHessianOfSpec.post enc Tryz.prog Tryz.f5 false true false false) := by
  refine returnsInHanded_of_change (C := Tryz.checked) own started (by kernel_rfl) Tryz.func5
    (ChangeSpec.witness6 (enc := enc) (C := Tryz.checked) false ⟨#[], #[.agg #[.slice none 0 0], .int .i64 0, .int .i64 0, .slice none 0 0], []⟩ 8 (by kernel_rfl) (by kernel_rfl) (by kernel_rfl) (by kernel_rfl)) ?_
  intro W base args ds gs before hval0 hW hcnd _
  have hval : ∀ (j : Nat) t v, Tryz.f5.params[j]? = some t → args[j]? = some v → Value.okWide Tryz.prog W .any base t v := hval0
  have hW' := hW
  obtain ⟨p, q, hA0, hV, rfl, hfz, hnd⟩ := hW
  have hA : DataW.TrodAll enc Tryz.prog W 0 (fun _ => true) true Tryz.f5.params.toList args.toList ds p := hA0
  rw [Tryz.params5] at hA hval
  obtain ⟨v0, vs0, d0, ds0, p0, q0, hargs, rfl, rfl, h0, r0⟩ := trodAll_cons hA
  obtain ⟨v1, vs1, d1, ds1, p1, q1, rfl, rfl, rfl, h1, r1⟩ := trodAll_cons r0
  obtain ⟨v2, vs2, d2, ds2, p2, q2, rfl, rfl, rfl, h2, r2⟩ := trodAll_cons r1
  obtain ⟨v3, vs3, d3, ds3, p3, q3, rfl, rfl, rfl, h3, r3⟩ := trodAll_cons r2
  obtain ⟨rfl, rfl, rfl⟩ := trodAll_nil r3
  obtain rfl : args = #[v0, v1, v2, v3] := by cases args; simp_all
  obtain ⟨rfl, rfl⟩ := trodVars_none hV
  obtain ⟨cs0, rfl, _⟩ := okWide_struct Tryz.underlying24 (hval 0 24 v0 rfl rfl)
  have k0 := h0
  have lt0 : ∀ x ∈ p0, x.block < W.heap.size := by obtain ⟨m, hm⟩ := k0; exact DataW.trod_lt m _ _ _ hm
  obtain ⟨a0, cap0, z0, e0, b0, m0, w0⟩ : ∃ (A : Option Addr) (cap : Nat) (fs : List Fn), cs0 = #[.slice A fs.length cap] ∧ fs.length ≤ cap ∧ cap ≤ maxLen ∧ FnSl W W.heap.size fs A := by
    obtain ⟨fuel, hf⟩ := h0
    obtain ⟨A, cap, fs, hcs, h1, h2, h3⟩ := open_program hf
    exact ⟨A, cap, fs, by cases cs0; simpa [Value.cells] using hcs, h1, h2, h3⟩
  subst e0
  obtain ⟨a1, rfl, rfl, rfl, w1⟩ := open_int Tryz.underlying2 (hval 1 2 v1 rfl rfl) h1
  obtain ⟨a2, rfl, rfl, rfl, w2⟩ := open_int Tryz.underlying2 (hval 2 2 v2 rfl rfl) h2
  obtain ⟨a3, len3, cap3, rfl⟩ := okWide_slice Tryz.underlying25 (hval 3 25 v3 rfl rfl)
  have k3 := h3
  have lt3 : ∀ x ∈ p3, x.block < W.heap.size := by obtain ⟨m, hm⟩ := k3; exact DataW.trod_lt m _ _ _ hm
  obtain ⟨z3, e3, w3⟩ : ∃ zs : List Int, zs.length = len3 ∧ Ints W a3 zs := by
    obtain ⟨fuel, hf⟩ := h3
    rcases open_ints Tryz.underlying25 Tryz.underlying2 (by kernel_rfl) hf with ⟨hcs, _⟩ | ⟨x, l, c, zs, hcs, hl8, hl, hm, hz, _, hcell, hwz⟩
    · simp [Value.cells] at hcs
      obtain ⟨rfl, rfl, rfl⟩ := hcs
      exact ⟨[], rfl, Ints.nil _ _⟩
    · simp [Value.cells] at hcs
      obtain ⟨rfl, rfl, rfl⟩ := hcs
      exact ints_of_cells hl (by simpa using hz) hcell
  subst e3
  clear hA0 hval0
  refine (lawExactHessianOf z0 a0 cap0 a1 a2 a3 cap3 z3 W w0 b0 m0 w1 w2 w3).mono fun e W' ⟨he, bel⟩ => ?_
  subst he
  exact ⟨_, rfl, _, _, _, [], _, [], hW', trodAll_mk1 (shut_bool Tryz.underlying4 _), (trodAll_cons_mk (Below.trod laidOut (by kernel_rfl) (of_decide_eq_true (by kernel_rfl)) k0 bel lt0) (trodAll_cons_mk (shut_int Tryz.underlying2 w1) (trodAll_cons_mk (shut_int Tryz.underlying2 w2) (trodAll_cons_mk (Below.trod laidOut (by kernel_rfl) (of_decide_eq_true (by kernel_rfl)) k3 bel lt3) trodAll_mk0)))), rfl, bel.frame _, fun h => by cases h⟩

theorem over : Rows.fnExactHessianOfRow.holds Tryz.pinned (OpenSpec.ofChange Rows.fnExactHessianOfSpec) :=
  OpenClaim.holds_of_wide 5 Tryz.f5 rfl rfl rfl rfl rfl rfl rfl ⟨rfl, rfl, rfl, rfl, rfl⟩ rfl rfl rfl rfl rfl (by kernel_rfl) Tryz.func5 (by kernel_rfl)
    (of_decide_eq_true (by kernel_rfl)) (by unfold Func.isWrapper; first | (rw [if_pos (by decide +kernel)]; kernel_rfl) | (rw [if_neg (by decide +kernel)]; exact ⟨rfl, rfl⟩))
    (fun os started H enc _ => lifted os started H enc)

theorem proved : Rows.FnExactHessianOfSaid := over
#print axioms proved
end Go.Proofs.YtlnikpjcggfdmaaGreat.fnExactHessianOf
