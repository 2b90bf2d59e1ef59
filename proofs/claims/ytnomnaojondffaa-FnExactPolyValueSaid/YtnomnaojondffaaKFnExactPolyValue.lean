/- FnExactPolyValue: for every polynomial and list of arguments the program's PolyValue returns what the reference's returns. No condition. -/
import Derived.Test.YtnomnaojondffaaKY
import Derived.Test.YtnomnaojondffaaKP
import Derived.Deep.RegionHeld3
import Derived.WalkKit
import Derived.ProofKit
import Derived.OpenShut
import Derived.ShutString
import Derived.ChangeOld
import Derived.Below

/- The walk of the law FnExactPolyValue. -/
namespace Go.Proofs.Ytnomnaojondffaa
open Go.RowKit Plain

set_option maxRecDepth 100000 in
set_option maxHeartbeats 1000000 in
theorem lawExactPolyValue_0 (u0 : Int) (A0 : Option Addr) (cap0 : Nat) (T0 : List Term') (A1 : Option Addr) (cap1 : Nat) (z1 : List Int) (w : World) (_h0 : TmsAt w A0 T0) (_hm0 : T0.length ≤ 9223372036854775807) (_h1 : Ints w A1 z1)  (_c0 : ¬ z1.length ≤ 1048576) :
    Calls Try.prog 3 #[poV u0 A0 T0.length cap0, .slice A1 z1.length cap1] w fun e w' => e = .returned (.bool true) ∧ Below w.heap.size w w' := by
  go_enter Try.func3, Try.ntmps3
  go_wp2
  go_ret
  exact ⟨rfl, by go_grown⟩

set_option maxRecDepth 100000 in
set_option maxHeartbeats 1000000 in
theorem lawExactPolyValue_1 (u0 : Int) (A0 : Option Addr) (cap0 : Nat) (T0 : List Term') (A1 : Option Addr) (cap1 : Nat) (z1 : List Int) (w : World) (h0 : TmsAt w A0 T0) (hm0 : T0.length ≤ 9223372036854775807) (_h1 : Ints w A1 z1) (_c0 : z1.length ≤ 1048576) (c1 : ¬ tmSize T0 ≤ 1048576) :
    Calls Try.prog 3 #[poV u0 A0 T0.length cap0, .slice A1 z1.length cap1] w fun e w' => e = .returned (.bool true) ∧ Below w.heap.size w w' := by
  have C1 := Lib.hid c1; clear c1
  have S0 := Lib.hid h0; clear h0
  have HM0 : T0.length ≤ 9223372036854775807 := by have := hm0; omega
  have HB0 : Hid (Below w.heap.size w (w.alloc (.cells #[.int .i64 u0, .slice A0 T0.length cap0] 24))) := by show Below _ _ _; go_grown
  go_enter Try.func3, Try.ntmps3
  go_wp2_with fail
  refine (szPoly_any u0 A0 cap0 T0 1048576 _ (S0.out.below HB0.out) (by omega) (by omega) (by omega)).mono ?_; rintro e w1 ⟨rfl, hb1⟩
  have HB1 := Lib.hid (bnext HB0.out hb1); clear hb1
  rw [szV_no (by have := C1.out; omega)]
  go_wp2
  go_ret
  exact ⟨rfl, HB1.out⟩

set_option maxRecDepth 100000 in
set_option maxHeartbeats 8000000 in
theorem lawExactPolyValue_ok (u0 : Int) (A0 : Option Addr) (cap0 : Nat) (T0 : List Term') (A1 : Option Addr) (cap1 : Nat) (z1 : List Int) (w : World) (h0 : TmsAt w A0 T0) (_hm0 : T0.length ≤ 9223372036854775807) (h1 : Ints w A1 z1) (_c0 : z1.length ≤ 1048576) (c1 : tmSize T0 ≤ 1048576) :
    Calls Try.prog 3 #[poV u0 A0 T0.length cap0, .slice A1 z1.length cap1] w fun e w' => e = .returned (.bool true) ∧ Below w.heap.size w w' := by
  have C1 := Lib.hid c1; clear c1
  have S0 := Lib.hid h0; clear h0
  have Z0 : Hid (tmSize T0 ≤ 1048576) := by have := C1.out; show _ ≤ _; omega
  have tl0 : T0.length ≤ 1048576 := by have := Z0.out; unfold tmSize at this; omega
  have tt0 : totT T0 ≤ 1048576 := by have := Z0.out; unfold tmSize at this; omega
  have S1 := Lib.hid h1; clear h1
  obtain ⟨v0, hv0⟩ : ∃ v : Int, v = (polyV u0 T0 z1).1 := ⟨_, rfl⟩
  obtain ⟨v1, hv1⟩ : ∃ v : Int, v = (polyV u0 T0 z1).2 := ⟨_, rfl⟩
  have V0 := Lib.hid hv0; clear hv0
  have V1 := Lib.hid hv1; clear hv1
  have HB0 : Hid (Below w.heap.size w (w.alloc (.cells #[.int .i64 u0, .slice A0 T0.length cap0] 24))) := by show Below _ _ _; go_grown
  have HS0 := Lib.hid HB0.out.size
  have BX0_0 : Hid (Reg (w.alloc (.cells #[.int .i64 u0, .slice A0 T0.length cap0] 24)) (w.heap.size) (w.heap.size + 1) (fun w' => Cells w' (w.heap.size) 24 [.int .i64 u0, .slice A0 T0.length cap0])) := regBox (Cells.new w 24 [.int .i64 u0, .slice A0 T0.length cap0])
  have HQB0 := Lib.hid BX0_0.out.size
  go_enter Try.func3, Try.ntmps3
  have qBX0_0 : World.cell? (w.alloc (.cells #[.int .i64 u0, .slice A0 T0.length cap0] 24)) ⟨w.heap.size, 0, none⟩ = some (.int .i64 u0) := by rw [BX0_0.out.now.cell]; rfl
  have qBX0_1 : World.cell? (w.alloc (.cells #[.int .i64 u0, .slice A0 T0.length cap0] 24)) ⟨w.heap.size, 1, none⟩ = some (.slice A0 T0.length cap0) := by rw [BX0_0.out.now.cell]; rfl
  go_wp2_with fail
  refine (szPoly_any u0 A0 cap0 T0 1048576 _ (S0.out.below HB0.out) (by omega) (by omega) (by omega)).mono ?_; rintro e w1 ⟨rfl, hb1⟩
  clear qBX0_0 qBX0_1
  have HB1 := Lib.hid (bnext HB0.out hb1)
  have BX0_1 := Lib.hid (BX0_0.out.below hb1); clear BX0_0
  have HS1 := Lib.hid hb1.size
  clear hb1
  rw [szV_yes (by have := C1.out; omega)]
  obtain ⟨l1, hlv1⟩ : ∃ l1 : Int, l1 = 1048576 - tmSize T0 := ⟨_, rfl⟩
  rw [← hlv1]
  have lo1 : 0 ≤ l1 := by have := C1.out; omega
  have hi1 : l1 ≤ 1048576 := by omega
  have HL1 := Lib.hid hlv1; clear hlv1
  have qBX0_0 : World.cell? w1 ⟨w.heap.size, 0, none⟩ = some (.int .i64 u0) := by rw [BX0_1.out.now.cell]; rfl
  have qBX0_1 : World.cell? w1 ⟨w.heap.size, 1, none⟩ = some (.slice A0 T0.length cap0) := by rw [BX0_1.out.now.cell]; rfl
  go_wp2_with fail
  refine (toPolyR u0 A0 cap0 T0 _ (S0.out.below HB1.out) tl0 tt0).mono ?_; rintro e w2 ⟨g2, hg2, rfl, hX2, hb2⟩
  clear qBX0_0 qBX0_1
  have HB2 := Lib.hid (bnext HB1.out hb2)
  have BX0_2 := Lib.hid (BX0_1.out.below hb2); clear BX0_1
  have HS2 := Lib.hid hb2.size
  clear hb2
  have HG2 := Lib.hid hg2; clear hg2
  have U0_2 := Lib.hid hX2; clear hX2
  have HQ2 := Lib.hid U0_2.out.le
  have qBX0_0 : World.cell? w2 ⟨w.heap.size, 0, none⟩ = some (.int .i64 u0) := by rw [BX0_2.out.now.cell]; rfl
  have qBX0_1 : World.cell? w2 ⟨w.heap.size, 1, none⟩ = some (.slice A0 T0.length cap0) := by rw [BX0_2.out.now.cell]; rfl
  go_wp2_with fail
  refine (toR A1 cap1 z1 _ (S1.out.below HB2.out) (by omega)).mono ?_; rintro e w3 ⟨rfl, hX3, hb3⟩
  clear qBX0_0 qBX0_1
  have HB3 := Lib.hid (bnext HB2.out hb3)
  have BX0_3 := Lib.hid (BX0_2.out.below hb3); clear BX0_2
  have U0_3 := Lib.hid (U0_2.out.below hb3); clear U0_2
  have HS3 := Lib.hid hb3.size
  clear hb3
  have U1_3 := Lib.hid hX3; clear hX3
  have HQ3 := Lib.hid U1_3.out.le
  have qBX0_0 : World.cell? w3 ⟨w.heap.size, 0, none⟩ = some (.int .i64 u0) := by rw [BX0_3.out.now.cell]; rfl
  have qBX0_1 : World.cell? w3 ⟨w.heap.size, 1, none⟩ = some (.slice A0 T0.length cap0) := by rw [BX0_3.out.now.cell]; rfl
  go_wp2_with fail
  refine (polyValueS u0 T0 z1 _ (regTms U0_3.out (by omega)) tl0 tt0 (regInts U1_3.out) (by omega)).mono ?_
  rw [← V0.out, ← V1.out]
  rintro e w4 ⟨hb4, rfl⟩
  clear U0_3
  clear U1_3
  clear qBX0_0 qBX0_1
  have HB4 := Lib.hid (bnext HB3.out hb4)
  have BX0_4 := Lib.hid (BX0_3.out.below hb4); clear BX0_3
  have HS4 := Lib.hid hb4.size
  clear hb4
  have qBX0_0 : World.cell? w4 ⟨w.heap.size, 0, none⟩ = some (.int .i64 u0) := by rw [BX0_4.out.now.cell]; rfl
  have qBX0_1 : World.cell? w4 ⟨w.heap.size, 1, none⟩ = some (.slice A0 T0.length cap0) := by rw [BX0_4.out.now.cell]; rfl
  go_wp2_with fail
  refine (toPolyR u0 A0 cap0 T0 _ (S0.out.below HB4.out) tl0 tt0).mono ?_; rintro e w5 ⟨g5, hg5, rfl, hX5, hb5⟩
  clear qBX0_0 qBX0_1
  have HB5 := Lib.hid (bnext HB4.out hb5)
  have BX0_5 := Lib.hid (BX0_4.out.below hb5); clear BX0_4
  have HS5 := Lib.hid hb5.size
  clear hb5
  have HG5 := Lib.hid hg5; clear hg5
  have X0_5 := Lib.hid hX5; clear hX5
  have HQ5 := Lib.hid X0_5.out.le
  have qBX0_0 : World.cell? w5 ⟨w.heap.size, 0, none⟩ = some (.int .i64 u0) := by rw [BX0_5.out.now.cell]; rfl
  have qBX0_1 : World.cell? w5 ⟨w.heap.size, 1, none⟩ = some (.slice A0 T0.length cap0) := by rw [BX0_5.out.now.cell]; rfl
  go_wp2_with fail
  clear qBX0_0 qBX0_1
  have hb6 : Below w5.heap.size w5 (w5.alloc (.cells #[.int .i64 u0, .slice (some ⟨g5, 0, none⟩) T0.length T0.length] 31)) := by go_grown
  have BC6 : Hid (Cells (w5.alloc (.cells #[.int .i64 u0, .slice (some ⟨g5, 0, none⟩) T0.length T0.length] 31)) w5.heap.size 31 [.int .i64 u0, .slice (some ⟨g5, 0, none⟩) T0.length T0.length]) := Cells.new w5 31 [.int .i64 u0, .slice (some ⟨g5, 0, none⟩) T0.length T0.length]
  change Calls _ _ _ (w5.alloc (.cells #[.int .i64 u0, .slice (some ⟨g5, 0, none⟩) T0.length T0.length] 31)) _
  generalize (w5.alloc (.cells #[.int .i64 u0, .slice (some ⟨g5, 0, none⟩) T0.length T0.length] 31)) = w6 at *
  have HB6 := Lib.hid (bnext HB5.out hb6)
  have BX0_6 := Lib.hid (BX0_5.out.below hb6); clear BX0_5
  have X0_6 := Lib.hid (X0_5.out.below hb6); clear X0_5
  have HS6 := Lib.hid hb6.size
  clear hb6
  have VX0_6 : Hid (Reg w6 w5.heap.size (w5.heap.size + 1) (fun w' => Cells w' w5.heap.size 31 [.int .i64 u0, .slice (some ⟨g5, 0, none⟩) T0.length T0.length])) := regBox BC6.out
  clear BC6
  have HQ6 := Lib.hid VX0_6.out.size
  have qBX0_0 : World.cell? w6 ⟨w.heap.size, 0, none⟩ = some (.int .i64 u0) := by rw [BX0_6.out.now.cell]; rfl
  have qBX0_1 : World.cell? w6 ⟨w.heap.size, 1, none⟩ = some (.slice A0 T0.length cap0) := by rw [BX0_6.out.now.cell]; rfl
  have qVX0_0 : World.cell? w6 ⟨w5.heap.size, 0, none⟩ = some (.int .i64 u0) := by rw [VX0_6.out.now.cell]; rfl
  have qVX0_1 : World.cell? w6 ⟨w5.heap.size, 1, none⟩ = some (.slice (some ⟨g5, 0, none⟩) T0.length T0.length) := by rw [VX0_6.out.now.cell]; rfl
  skip
  refine (toR A1 cap1 z1 _ (S1.out.below HB6.out) (by omega)).mono ?_; rintro e w7 ⟨rfl, hX7, hb7⟩
  clear qBX0_0 qBX0_1 qVX0_0 qVX0_1
  have HB7 := Lib.hid (bnext HB6.out hb7)
  have BX0_7 := Lib.hid (BX0_6.out.below hb7); clear BX0_6
  have X0_7 := Lib.hid (X0_6.out.below hb7); clear X0_6
  have VX0_7 := Lib.hid (VX0_6.out.below hb7); clear VX0_6
  have HS7 := Lib.hid hb7.size
  clear hb7
  have X1_7 := Lib.hid hX7; clear hX7
  have HQ7 := Lib.hid X1_7.out.le
  have qBX0_0 : World.cell? w7 ⟨w.heap.size, 0, none⟩ = some (.int .i64 u0) := by rw [BX0_7.out.now.cell]; rfl
  have qBX0_1 : World.cell? w7 ⟨w.heap.size, 1, none⟩ = some (.slice A0 T0.length cap0) := by rw [BX0_7.out.now.cell]; rfl
  have qVX0_0 : World.cell? w7 ⟨w5.heap.size, 0, none⟩ = some (.int .i64 u0) := by rw [VX0_7.out.now.cell]; rfl
  have qVX0_1 : World.cell? w7 ⟨w5.heap.size, 1, none⟩ = some (.slice (some ⟨g5, 0, none⟩) T0.length T0.length) := by rw [VX0_7.out.now.cell]; rfl
  go_wp2_with fail
  refine (polyValueI u0 T0 z1 _ (regTms X0_7.out (by omega)) tl0 tt0 (regInts X1_7.out) (by omega)).mono ?_
  rw [← V0.out, ← V1.out]
  rintro e w8 ⟨hb8, rfl⟩
  clear qBX0_0 qBX0_1 qVX0_0 qVX0_1
  have HB8 := Lib.hid (bnext HB7.out hb8)
  have BX0_8 := Lib.hid (BX0_7.out.below hb8); clear BX0_7
  have X0_8 := Lib.hid (X0_7.out.below hb8); clear X0_7
  have VX0_8 := Lib.hid (VX0_7.out.below hb8); clear VX0_7
  have X1_8 := Lib.hid (X1_7.out.below hb8); clear X1_7
  have HS8 := Lib.hid hb8.size
  clear hb8
  have qBX0_0 : World.cell? w8 ⟨w.heap.size, 0, none⟩ = some (.int .i64 u0) := by rw [BX0_8.out.now.cell]; rfl
  have qBX0_1 : World.cell? w8 ⟨w.heap.size, 1, none⟩ = some (.slice A0 T0.length cap0) := by rw [BX0_8.out.now.cell]; rfl
  have qVX0_0 : World.cell? w8 ⟨w5.heap.size, 0, none⟩ = some (.int .i64 u0) := by rw [VX0_8.out.now.cell]; rfl
  have qVX0_1 : World.cell? w8 ⟨w5.heap.size, 1, none⟩ = some (.slice (some ⟨g5, 0, none⟩) T0.length T0.length) := by rw [VX0_8.out.now.cell]; rfl
  go_wp2_with fail
  have KT9 : Hid (∀ wx, Below w8.heap.size w8 wx → Calls Try.prog 12 #[poV u0 A0 T0.length cap0] wx fun e w' => ∃ g, wx.heap.size ≤ g ∧ e = .returned (poV u0 (some ⟨g, 0, none⟩) T0.length T0.length) ∧ RT w' g w'.heap.size (some ⟨g, 0, none⟩) T0 ∧ Below wx.heap.size wx w') := fun wx hx => toPolyR u0 A0 cap0 T0 wx (S0.out.below (bnext HB8.out hx)) tl0 tt0
  have KS9 := Lib.hid (And.intro qVX0_0 (And.intro qVX0_1 (And.intro qBX0_0 qBX0_1)))
  go_region_held3 (fun wx => wx.cell? ⟨w5.heap.size, 0, none⟩ = some (.int .i64 u0) ∧ wx.cell? ⟨w5.heap.size, 1, none⟩ = some (.slice (some ⟨g5, 0, none⟩) T0.length T0.length) ∧ wx.cell? ⟨w.heap.size, 0, none⟩ = some (.int .i64 u0) ∧ wx.cell? ⟨w.heap.size, 1, none⟩ = some (.slice A0 T0.length cap0)) (first | exact KS9.out | exact KS9.out | go_keep | exact keep4q KS9.out hb9 | exact keep4q KS9.out (hb9.trans (hb10.mono hb9.size)))
    (first
      | (go_at_call 15; have _tk := hX9; (with_reducible refine (eqPoly_any u0 _ _ _ _ T0 _ (regTms (X0_8.out.below hb9) (by omega)) (regTms hX9 (by omega)) (by omega) (by omega)).mono ?_); rintro e w10 ⟨rfl, hb10⟩)
      | (go_at_call 12; refine (KT9.out _ (by first | exact (Below.refl _ _).drew | exact below_drewN' (Below.refl _ _) _ | exact Below.refl _ _)).mono ?_; rintro e w9 ⟨g9, hg9, rfl, hX9, hb9'⟩; have hb9 : Below w8.heap.size w8 w9 := by first | exact bdrew hb9' | exact bdrewN hb9' | exact hb9'))
  clear hX9 hg9 hb9' KS9 KT9
  clear qBX0_0 qBX0_1 qVX0_0 qVX0_1
  have HB9 := Lib.hid (bnext HB8.out hb9)
  have BX0_9 := Lib.hid (BX0_8.out.below hb9); clear BX0_8
  have X0_9 := Lib.hid (X0_8.out.below hb9); clear X0_8
  have VX0_9 := Lib.hid (VX0_8.out.below hb9); clear VX0_8
  have X1_9 := Lib.hid (X1_8.out.below hb9); clear X1_8
  have HS9 := Lib.hid hb9.size
  clear hb9
  have HB10 := Lib.hid (bnext HB9.out hb10)
  have BX0_10 := Lib.hid (BX0_9.out.below hb10); clear BX0_9
  have X0_10 := Lib.hid (X0_9.out.below hb10); clear X0_9
  have VX0_10 := Lib.hid (VX0_9.out.below hb10); clear VX0_9
  have X1_10 := Lib.hid (X1_9.out.below hb10); clear X1_9
  have HS10 := Lib.hid hb10.size
  clear hb10
  have qBX0_0 : World.cell? w10 ⟨w.heap.size, 0, none⟩ = some (.int .i64 u0) := by rw [BX0_10.out.now.cell]; rfl
  have qBX0_1 : World.cell? w10 ⟨w.heap.size, 1, none⟩ = some (.slice A0 T0.length cap0) := by rw [BX0_10.out.now.cell]; rfl
  have qVX0_0 : World.cell? w10 ⟨w5.heap.size, 0, none⟩ = some (.int .i64 u0) := by rw [VX0_10.out.now.cell]; rfl
  have qVX0_1 : World.cell? w10 ⟨w5.heap.size, 1, none⟩ = some (.slice (some ⟨g5, 0, none⟩) T0.length T0.length) := by rw [VX0_10.out.now.cell]; rfl
  go_wp2_with fail
  refine (toR A1 cap1 z1 _ (S1.out.below HB10.out) (by omega)).mono ?_; rintro e w11 ⟨rfl, hX11, hb11⟩
  clear qBX0_0 qBX0_1 qVX0_0 qVX0_1
  have HB11 := Lib.hid (bnext HB10.out hb11)
  have BX0_11 := Lib.hid (BX0_10.out.below hb11); clear BX0_10
  have X0_11 := Lib.hid (X0_10.out.below hb11); clear X0_10
  have VX0_11 := Lib.hid (VX0_10.out.below hb11); clear VX0_10
  have X1_11 := Lib.hid (X1_10.out.below hb11); clear X1_10
  have HS11 := Lib.hid hb11.size
  clear hb11
  have Y1_11 := Lib.hid hX11; clear hX11
  have HQ11 := Lib.hid Y1_11.out.le
  have qBX0_0 : World.cell? w11 ⟨w.heap.size, 0, none⟩ = some (.int .i64 u0) := by rw [BX0_11.out.now.cell]; rfl
  have qBX0_1 : World.cell? w11 ⟨w.heap.size, 1, none⟩ = some (.slice A0 T0.length cap0) := by rw [BX0_11.out.now.cell]; rfl
  have qVX0_0 : World.cell? w11 ⟨w5.heap.size, 0, none⟩ = some (.int .i64 u0) := by rw [VX0_11.out.now.cell]; rfl
  have qVX0_1 : World.cell? w11 ⟨w5.heap.size, 1, none⟩ = some (.slice (some ⟨g5, 0, none⟩) T0.length T0.length) := by rw [VX0_11.out.now.cell]; rfl
  go_wp2_with fail
  refine (eqR _ _ (regInts X1_11.out) (regInts Y1_11.out) (by omega)).mono ?_; rintro e w12 ⟨rfl, hb12⟩
  clear Y1_11
  clear qBX0_0 qBX0_1 qVX0_0 qVX0_1
  have HB12 := Lib.hid (bnext HB11.out hb12)
  have BX0_12 := Lib.hid (BX0_11.out.below hb12); clear BX0_11
  have X0_12 := Lib.hid (X0_11.out.below hb12); clear X0_11
  have VX0_12 := Lib.hid (VX0_11.out.below hb12); clear VX0_11
  have X1_12 := Lib.hid (X1_11.out.below hb12); clear X1_11
  have HS12 := Lib.hid hb12.size
  clear hb12
  go_wp2
  go_ret
  exact ⟨rfl, HB12.out⟩

theorem lawExactPolyValue (u0 : Int) (A0 : Option Addr) (cap0 : Nat) (T0 : List Term') (A1 : Option Addr) (cap1 : Nat) (z1 : List Int) (w : World) (h0 : TmsAt w A0 T0) (hm0 : T0.length ≤ 9223372036854775807) (h1 : Ints w A1 z1) :
    Calls Try.prog 3 #[poV u0 A0 T0.length cap0, .slice A1 z1.length cap1] w fun e w' => e = .returned (.bool true) ∧ Below w.heap.size w w' := by
  by_cases c0 : z1.length ≤ 1048576
  case neg => exact lawExactPolyValue_0 u0 A0 cap0 T0 A1 cap1 z1 w h0 hm0 h1 c0
  by_cases c1 : tmSize T0 ≤ 1048576
  case neg => exact lawExactPolyValue_1 u0 A0 cap0 T0 A1 cap1 z1 w h0 hm0 h1 c0 c1
  exact lawExactPolyValue_ok u0 A0 cap0 T0 A1 cap1 z1 w h0 hm0 h1 c0 c1

end Go.Proofs.Ytnomnaojondffaa

/- FnExactPolyValue: for every polynomial and list of arguments the program's PolyValue returns what the reference's returns. No condition. -/
namespace Go.Proofs.Ytnomnaojondffaa.fnExactPolyValue
open Go.ChangeShapes Go.WideShapes Go.ChangeAt Go.RowKit

theorem own : ownKnob Try.prog.godebug = none := by kernel_rfl
theorem laidOut : laidOutB Try.prog = true := by kernel_rfl

set_option maxRecDepth 100000 in
theorem lifted (os : Os) (started : os.Started) (H : Type) (enc : TypeId × Value → H) :
    ReturnsInHanded {} Try.checked os 3 .any (Rows.fnExactPolyValueSpec.pre6 enc Try.prog Try.f3 Rows.fnExactPolyValueRow.domain false) (Rows.fnExactPolyValueSpec.post enc Try.prog Try.f3 false true false false) := by
  refine returnsInHanded_of_change (C := Try.checked) own started (by kernel_rfl) Try.func3
    (ChangeSpec.witness6 (enc := enc) (C := Try.checked) false ⟨#[], #[.agg #[.int .i64 0, .slice none 0 0], .slice none 0 0], []⟩ 8 (by kernel_rfl) (by kernel_rfl) (by kernel_rfl) (by kernel_rfl)) ?_
  intro W base args ds gs before hval0 hW hcnd _
  have hval : ∀ (j : Nat) t v, Try.f3.params[j]? = some t → args[j]? = some v → Value.okWide Try.prog W .any base t v := hval0
  have hW' := hW
  obtain ⟨p, q, hA0, hV, rfl, hfz, hnd⟩ := hW
  have hA : DataW.TrodAll enc Try.prog W 0 (fun _ => true) true Try.f3.params.toList args.toList ds p := hA0
  rw [Try.params3] at hA hval
  obtain ⟨v0, vs0, d0, ds0, p0, q0, hargs, rfl, rfl, h0, r0⟩ := trodAll_cons hA
  obtain ⟨v1, vs1, d1, ds1, p1, q1, rfl, rfl, rfl, h1, r1⟩ := trodAll_cons r0
  obtain ⟨rfl, rfl, rfl⟩ := trodAll_nil r1
  obtain rfl : args = #[v0, v1] := by cases args; simp_all
  obtain ⟨rfl, rfl⟩ := trodVars_none hV
  obtain ⟨cs0, rfl, _⟩ := okWide_struct Try.underlying24 (hval 0 24 v0 rfl rfl)
  have k0 := h0
  have lt0 : ∀ x ∈ p0, x.block < W.heap.size := by obtain ⟨m, hm⟩ := k0; exact DataW.trod_lt m _ _ _ hm
  obtain ⟨u0, a0, cap0, z0, e0, m0, w0⟩ : ∃ (u : Int) (A : Option Addr) (cap : Nat) (ts : List Term'), cs0 = #[.int .i64 u, .slice A ts.length cap] ∧ ts.length ≤ 9223372036854775807 ∧ TmsAt W A ts := by
    obtain ⟨fuel, hf⟩ := h0
    obtain ⟨u, A, cap, ts, hcs, h1, h2⟩ := open_poly hf
    exact ⟨u, A, cap, ts, by cases cs0; simpa [Value.cells] using hcs, h1, h2⟩
  subst e0
  obtain ⟨a1, len1, cap1, rfl⟩ := okWide_slice Try.underlying25 (hval 1 25 v1 rfl rfl)
  have k1 := h1
  have lt1 : ∀ x ∈ p1, x.block < W.heap.size := by obtain ⟨m, hm⟩ := k1; exact DataW.trod_lt m _ _ _ hm
  obtain ⟨z1, e1, w1⟩ : ∃ zs : List Int, zs.length = len1 ∧ Ints W a1 zs := by
    obtain ⟨fuel, hf⟩ := h1
    rcases open_ints Try.underlying25 Try.underlying2 (by kernel_rfl) hf with ⟨hcs, _⟩ | ⟨x, l, c, zs, hcs, hl8, hl, hm, hz, _, hcell, hwz⟩
    · simp [Value.cells] at hcs
      obtain ⟨rfl, rfl, rfl⟩ := hcs
      exact ⟨[], rfl, Ints.nil _ _⟩
    · simp [Value.cells] at hcs
      obtain ⟨rfl, rfl, rfl⟩ := hcs
      exact ints_of_cells hl (by simpa using hz) hcell
  subst e1
  clear hA0 hval0
  refine (lawExactPolyValue u0 a0 cap0 z0 a1 cap1 z1 W w0 m0 w1).mono fun e W' ⟨he, bel⟩ => ?_
  subst he
  exact ⟨_, rfl, _, _, _, [], _, [], hW', trodAll_mk1 (shut_bool Try.underlying4 _), (trodAll_cons_mk (Below.trod laidOut (by kernel_rfl) (of_decide_eq_true (by kernel_rfl)) k0 bel lt0) (trodAll_cons_mk (Below.trod laidOut (by kernel_rfl) (of_decide_eq_true (by kernel_rfl)) k1 bel lt1) trodAll_mk0)), rfl, bel.frame _, fun h => by cases h⟩

theorem over : Rows.fnExactPolyValueRow.holds Try.pinned (OpenSpec.ofChange Rows.fnExactPolyValueSpec) :=
  OpenClaim.holds_of_wide 3 Try.f3 rfl rfl rfl rfl rfl rfl rfl ⟨rfl, rfl, rfl, rfl, rfl⟩ rfl rfl rfl rfl rfl (by kernel_rfl) Try.func3 (by kernel_rfl)
    (of_decide_eq_true (by kernel_rfl)) (by unfold Func.isWrapper; first | (rw [if_pos (by decide +kernel)]; kernel_rfl) | (rw [if_neg (by decide +kernel)]; exact ⟨rfl, rfl⟩))
    (fun os started H enc _ => lifted os started H enc)

theorem proved : Rows.FnExactPolyValueSaid := over
#print axioms proved
end Go.Proofs.Ytnomnaojondffaa.fnExactPolyValue
