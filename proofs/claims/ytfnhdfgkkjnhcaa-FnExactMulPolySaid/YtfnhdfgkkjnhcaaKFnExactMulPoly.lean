/- FnExactMulPoly: for every two polynomials the program's MulPoly returns what the reference's returns, in memory of its own. No condition. -/
import Derived.Test.YtfnhdfgkkjnhcaaKSK
import Derived.Test.YtfnhdfgkkjnhcaaKP
import Derived.Deep.RegionHeld3
import Derived.Test.YtfnhdfgkkjnhcaaKSI
import Derived.Deep.CutRange
import Derived.WalkKit
import Derived.ProofKit
import Derived.OpenShut
import Derived.ShutString
import Derived.ChangeOld
import Derived.Below

/- The walk of the law FnExactMulPoly. -/
namespace Go.Proofs.Ytfnhdfgkkjnhcaa
open Go.RowKit Plain

set_option maxRecDepth 100000 in
set_option maxHeartbeats 1000000 in
theorem lawExactMulPoly_0 (u0 : Int) (A0 : Option Addr) (cap0 : Nat) (T0 : List Term') (u1 : Int) (A1 : Option Addr) (cap1 : Nat) (T1 : List Term') (w : World) (h0 : TmsAt w A0 T0) (hm0 : T0.length ≤ 9223372036854775807) (h1 : TmsAt w A1 T1) (hm1 : T1.length ≤ 9223372036854775807)  (c0 : ¬ tmSize T0 ≤ 1048576) :
    Calls Try.prog 5 #[poV u0 A0 T0.length cap0, poV u1 A1 T1.length cap1] w fun e w' => e = .returned (.bool true) ∧ Below w.heap.size w w' := by
  have C0 := Lib.hid c0; clear c0
  have S0 := Lib.hid h0; clear h0
  have HM0 : T0.length ≤ 9223372036854775807 := by have := hm0; omega
  have S1 := Lib.hid h1; clear h1
  have HM1 : T1.length ≤ 9223372036854775807 := by have := hm1; omega
  have HB0 : Hid (Below w.heap.size w ((w.alloc (.cells #[.int .i64 u0, .slice A0 T0.length cap0] 24)).alloc (.cells #[.int .i64 u1, .slice A1 T1.length cap1] 24))) := by show Below _ _ _; go_grown
  have FX0 : Hid (Reg ((w.alloc (.cells #[.int .i64 u0, .slice A0 T0.length cap0] 24)).alloc (.cells #[.int .i64 u1, .slice A1 T1.length cap1] 24)) (w.heap.size) (w.heap.size + 1) (fun w' => Cells w' (w.heap.size) 24 [.int .i64 u0, .slice A0 T0.length cap0])) := regBox ((Cells.new w 24 [.int .i64 u0, .slice A0 T0.length cap0]).next (by go_grown))
  have FX1 : Hid (Reg ((w.alloc (.cells #[.int .i64 u0, .slice A0 T0.length cap0] 24)).alloc (.cells #[.int .i64 u1, .slice A1 T1.length cap1] 24)) (w.heap.size + 1) (w.heap.size + 1 + 1) (fun w' => Cells w' (w.heap.size + 1) 24 [.int .i64 u1, .slice A1 T1.length cap1])) := regBox ((by have h := Cells.new (w.alloc (.cells #[.int .i64 u0, .slice A0 T0.length cap0] 24)) 24 [.int .i64 u1, .slice A1 T1.length cap1]; simpa using h))
  go_enter Try.func5, Try.ntmps5
  go_wp2_with fail
  refine (szPoly_any u0 A0 cap0 T0 1048576 _ (S0.out.below HB0.out) (by omega) (by omega) (by omega)).mono ?_; rintro e w1 ⟨rfl, hb1⟩
  have HB1 := Lib.hid (bnext HB0.out hb1)
  clear hb1
  rw [szV_no (by have := C0.out; omega)]
  go_wp2
  go_ret
  exact ⟨rfl, HB1.out⟩

set_option maxRecDepth 100000 in
set_option maxHeartbeats 1000000 in
theorem lawExactMulPoly_1 (u0 : Int) (A0 : Option Addr) (cap0 : Nat) (T0 : List Term') (u1 : Int) (A1 : Option Addr) (cap1 : Nat) (T1 : List Term') (w : World) (h0 : TmsAt w A0 T0) (hm0 : T0.length ≤ 9223372036854775807) (h1 : TmsAt w A1 T1) (hm1 : T1.length ≤ 9223372036854775807) (c0 : tmSize T0 ≤ 1048576) (c1 : ¬ (tmSize T1 : Int) ≤ 1048576 - (tmSize T0 : Int)) :
    Calls Try.prog 5 #[poV u0 A0 T0.length cap0, poV u1 A1 T1.length cap1] w fun e w' => e = .returned (.bool true) ∧ Below w.heap.size w w' := by
  have C0 := Lib.hid c0; clear c0
  have C1 := Lib.hid c1; clear c1
  have S0 := Lib.hid h0; clear h0
  have HM0 : T0.length ≤ 9223372036854775807 := by have := hm0; omega
  have S1 := Lib.hid h1; clear h1
  have HM1 : T1.length ≤ 9223372036854775807 := by have := hm1; omega
  have HB0 : Hid (Below w.heap.size w ((w.alloc (.cells #[.int .i64 u0, .slice A0 T0.length cap0] 24)).alloc (.cells #[.int .i64 u1, .slice A1 T1.length cap1] 24))) := by show Below _ _ _; go_grown
  have FX0 : Hid (Reg ((w.alloc (.cells #[.int .i64 u0, .slice A0 T0.length cap0] 24)).alloc (.cells #[.int .i64 u1, .slice A1 T1.length cap1] 24)) (w.heap.size) (w.heap.size + 1) (fun w' => Cells w' (w.heap.size) 24 [.int .i64 u0, .slice A0 T0.length cap0])) := regBox ((Cells.new w 24 [.int .i64 u0, .slice A0 T0.length cap0]).next (by go_grown))
  have FX1 : Hid (Reg ((w.alloc (.cells #[.int .i64 u0, .slice A0 T0.length cap0] 24)).alloc (.cells #[.int .i64 u1, .slice A1 T1.length cap1] 24)) (w.heap.size + 1) (w.heap.size + 1 + 1) (fun w' => Cells w' (w.heap.size + 1) 24 [.int .i64 u1, .slice A1 T1.length cap1])) := regBox ((by have h := Cells.new (w.alloc (.cells #[.int .i64 u0, .slice A0 T0.length cap0] 24)) 24 [.int .i64 u1, .slice A1 T1.length cap1]; simpa using h))
  go_enter Try.func5, Try.ntmps5
  go_wp2_with fail
  refine (szPoly_any u0 A0 cap0 T0 1048576 _ (S0.out.below HB0.out) (by omega) (by omega) (by omega)).mono ?_; rintro e w1 ⟨rfl, hb1⟩
  have HB1 := Lib.hid (bnext HB0.out hb1)
  have FX0' := Lib.hid (FX0.out.below hb1); clear FX0
  have FX0 := FX0'; clear FX0'
  have f1x0_0 : World.cell? w1 ⟨w.heap.size, 0, none⟩ = some (.int .i64 u0) := by rw [FX0.out.now.cell]; rfl
  have f1x0_1 : World.cell? w1 ⟨w.heap.size, 1, none⟩ = some (.slice A0 T0.length cap0) := by rw [FX0.out.now.cell]; rfl
  have FX1' := Lib.hid (FX1.out.below hb1); clear FX1
  have FX1 := FX1'; clear FX1'
  have f1x1_0 : World.cell? w1 ⟨w.heap.size + 1, 0, none⟩ = some (.int .i64 u1) := by rw [FX1.out.now.cell]; rfl
  have f1x1_1 : World.cell? w1 ⟨w.heap.size + 1, 1, none⟩ = some (.slice A1 T1.length cap1) := by rw [FX1.out.now.cell]; rfl
  clear hb1
  rw [szV_yes (by have := C0.out; omega)]
  obtain ⟨l0, hlv0⟩ : ∃ l0 : Int, l0 = 1048576 - tmSize T0 := ⟨_, rfl⟩
  rw [← hlv0]
  have lo0 : 0 ≤ l0 := by have := C0.out; omega
  have hi0 : l0 ≤ 1048576 := by omega
  have HL0 := Lib.hid hlv0; clear hlv0
  go_wp2_with fail
  refine (szPoly_any u1 A1 cap1 T1 l0 _ (S1.out.below HB1.out) (by omega) (by omega) (by omega)).mono ?_; rintro e w2 ⟨rfl, hb2⟩
  have HB2 := Lib.hid (bnext HB1.out hb2)
  clear hb2
  rw [szV_no (by have := C1.out; have := HL0.out; omega)]
  go_wp2
  go_ret
  exact ⟨rfl, HB2.out⟩

set_option maxRecDepth 100000 in
set_option maxHeartbeats 8000000 in
theorem lawExactMulPoly_ok (u0 : Int) (A0 : Option Addr) (cap0 : Nat) (T0 : List Term') (u1 : Int) (A1 : Option Addr) (cap1 : Nat) (T1 : List Term') (w : World) (h0 : TmsAt w A0 T0) (_hm0 : T0.length ≤ 9223372036854775807) (h1 : TmsAt w A1 T1) (_hm1 : T1.length ≤ 9223372036854775807) (c0 : tmSize T0 ≤ 1048576) (c1 : (tmSize T1 : Int) ≤ 1048576 - (tmSize T0 : Int)) :
    Calls Try.prog 5 #[poV u0 A0 T0.length cap0, poV u1 A1 T1.length cap1] w fun e w' => e = .returned (.bool true) ∧ Below w.heap.size w w' := by
  have C0 := Lib.hid c0; clear c0
  have C1 := Lib.hid c1; clear c1
  have S0 := Lib.hid h0; clear h0
  have Z0 : Hid (tmSize T0 ≤ 1048576) := by have := C0.out; show _ ≤ _; omega
  have tl0 : T0.length ≤ 1048576 := by have := Z0.out; unfold tmSize at this; omega
  have tt0 : totT T0 ≤ 1048576 := by have := Z0.out; unfold tmSize at this; omega
  have S1 := Lib.hid h1; clear h1
  have Z1 : Hid (tmSize T1 ≤ 1048576) := by have := C1.out; show _ ≤ _; omega
  have tl1 : T1.length ≤ 1048576 := by have := Z1.out; unfold tmSize at this; omega
  have tt1 : totT T1 ≤ 1048576 := by have := Z1.out; unfold tmSize at this; omega
  obtain ⟨v0, hv0⟩ : ∃ v : Int × List Term', v = (mulV u0 T0 u1 T1).1 := ⟨_, rfl⟩
  obtain ⟨v1, hv1⟩ : ∃ v : Int, v = (mulV u0 T0 u1 T1).2 := ⟨_, rfl⟩
  have n0 : v0.2.length ≤ 1048576 := by rw [hv0]; exact Nat.le_trans (mulV_bd u0 T0 u1 T1).1 (by omega)
  have t0 : totT v0.2 ≤ 1048576 := by rw [hv0]; exact Nat.le_trans (mulV_bd u0 T0 u1 T1).2 (by omega)
  have V0 := Lib.hid hv0; clear hv0
  have V1 := Lib.hid hv1; clear hv1
  have HB0 : Hid (Below w.heap.size w ((w.alloc (.cells #[.int .i64 u0, .slice A0 T0.length cap0] 24)).alloc (.cells #[.int .i64 u1, .slice A1 T1.length cap1] 24))) := by show Below _ _ _; go_grown
  have HS0 := Lib.hid HB0.out.size
  have BX0_0 : Hid (Reg ((w.alloc (.cells #[.int .i64 u0, .slice A0 T0.length cap0] 24)).alloc (.cells #[.int .i64 u1, .slice A1 T1.length cap1] 24)) (w.heap.size) (w.heap.size + 1) (fun w' => Cells w' (w.heap.size) 24 [.int .i64 u0, .slice A0 T0.length cap0])) := regBox ((Cells.new w 24 [.int .i64 u0, .slice A0 T0.length cap0]).next (by go_grown))
  have HQB0 := Lib.hid BX0_0.out.size
  have BX1_0 : Hid (Reg ((w.alloc (.cells #[.int .i64 u0, .slice A0 T0.length cap0] 24)).alloc (.cells #[.int .i64 u1, .slice A1 T1.length cap1] 24)) (w.heap.size + 1) (w.heap.size + 1 + 1) (fun w' => Cells w' (w.heap.size + 1) 24 [.int .i64 u1, .slice A1 T1.length cap1])) := regBox ((by have h := Cells.new (w.alloc (.cells #[.int .i64 u0, .slice A0 T0.length cap0] 24)) 24 [.int .i64 u1, .slice A1 T1.length cap1]; simpa using h))
  have HQB1 := Lib.hid BX1_0.out.size
  go_enter Try.func5, Try.ntmps5
  have qBX0_0 : World.cell? ((w.alloc (.cells #[.int .i64 u0, .slice A0 T0.length cap0] 24)).alloc (.cells #[.int .i64 u1, .slice A1 T1.length cap1] 24)) ⟨w.heap.size, 0, none⟩ = some (.int .i64 u0) := by rw [BX0_0.out.now.cell]; rfl
  have qBX0_1 : World.cell? ((w.alloc (.cells #[.int .i64 u0, .slice A0 T0.length cap0] 24)).alloc (.cells #[.int .i64 u1, .slice A1 T1.length cap1] 24)) ⟨w.heap.size, 1, none⟩ = some (.slice A0 T0.length cap0) := by rw [BX0_0.out.now.cell]; rfl
  have qBX1_0 : World.cell? ((w.alloc (.cells #[.int .i64 u0, .slice A0 T0.length cap0] 24)).alloc (.cells #[.int .i64 u1, .slice A1 T1.length cap1] 24)) ⟨w.heap.size + 1, 0, none⟩ = some (.int .i64 u1) := by rw [BX1_0.out.now.cell]; rfl
  have qBX1_1 : World.cell? ((w.alloc (.cells #[.int .i64 u0, .slice A0 T0.length cap0] 24)).alloc (.cells #[.int .i64 u1, .slice A1 T1.length cap1] 24)) ⟨w.heap.size + 1, 1, none⟩ = some (.slice A1 T1.length cap1) := by rw [BX1_0.out.now.cell]; rfl
  go_wp2_with fail
  refine (szPoly_any u0 A0 cap0 T0 1048576 _ (S0.out.below HB0.out) (by omega) (by omega) (by omega)).mono ?_; rintro e w1 ⟨rfl, hb1⟩
  clear qBX0_0 qBX0_1 qBX1_0 qBX1_1
  have HB1 := Lib.hid (bnext HB0.out hb1)
  have BX0_1 := Lib.hid (BX0_0.out.below hb1); clear BX0_0
  have BX1_1 := Lib.hid (BX1_0.out.below hb1); clear BX1_0
  have HS1 := Lib.hid hb1.size
  clear hb1
  rw [szV_yes (by have := C0.out; omega)]
  obtain ⟨l0, hlv0⟩ : ∃ l0 : Int, l0 = 1048576 - tmSize T0 := ⟨_, rfl⟩
  rw [← hlv0]
  have lo0 : 0 ≤ l0 := by have := C0.out; omega
  have hi0 : l0 ≤ 1048576 := by omega
  have HL0 := Lib.hid hlv0; clear hlv0
  have qBX0_0 : World.cell? w1 ⟨w.heap.size, 0, none⟩ = some (.int .i64 u0) := by rw [BX0_1.out.now.cell]; rfl
  have qBX0_1 : World.cell? w1 ⟨w.heap.size, 1, none⟩ = some (.slice A0 T0.length cap0) := by rw [BX0_1.out.now.cell]; rfl
  have qBX1_0 : World.cell? w1 ⟨w.heap.size + 1, 0, none⟩ = some (.int .i64 u1) := by rw [BX1_1.out.now.cell]; rfl
  have qBX1_1 : World.cell? w1 ⟨w.heap.size + 1, 1, none⟩ = some (.slice A1 T1.length cap1) := by rw [BX1_1.out.now.cell]; rfl
  go_wp2_with fail
  refine (szPoly_any u1 A1 cap1 T1 l0 _ (S1.out.below HB1.out) (by omega) (by omega) (by omega)).mono ?_; rintro e w2 ⟨rfl, hb2⟩
  clear qBX0_0 qBX0_1 qBX1_0 qBX1_1
  have HB2 := Lib.hid (bnext HB1.out hb2)
  have BX0_2 := Lib.hid (BX0_1.out.below hb2); clear BX0_1
  have BX1_2 := Lib.hid (BX1_1.out.below hb2); clear BX1_1
  have HS2 := Lib.hid hb2.size
  clear hb2
  rw [szV_yes (by have := C1.out; have := HL0.out; omega)]
  obtain ⟨l1, hlv1⟩ : ∃ l1 : Int, l1 = l0 - tmSize T1 := ⟨_, rfl⟩
  rw [← hlv1]
  have lo1 : 0 ≤ l1 := by have := C1.out; have := HL0.out; omega
  have hi1 : l1 ≤ 1048576 := by omega
  have HL1 := Lib.hid hlv1; clear hlv1
  have qBX0_0 : World.cell? w2 ⟨w.heap.size, 0, none⟩ = some (.int .i64 u0) := by rw [BX0_2.out.now.cell]; rfl
  have qBX0_1 : World.cell? w2 ⟨w.heap.size, 1, none⟩ = some (.slice A0 T0.length cap0) := by rw [BX0_2.out.now.cell]; rfl
  have qBX1_0 : World.cell? w2 ⟨w.heap.size + 1, 0, none⟩ = some (.int .i64 u1) := by rw [BX1_2.out.now.cell]; rfl
  have qBX1_1 : World.cell? w2 ⟨w.heap.size + 1, 1, none⟩ = some (.slice A1 T1.length cap1) := by rw [BX1_2.out.now.cell]; rfl
  go_wp2_with fail
  have SB3 : Hid (∀ wx, Below w2.heap.size w2 wx → wx.cell? ⟨w.heap.size, 0, none⟩ = some (.int .i64 u0) ∧ wx.cell? ⟨w.heap.size, 1, none⟩ = some (.slice A0 T0.length cap0) ∧ wx.cell? ⟨w.heap.size + 1, 0, none⟩ = some (.int .i64 u1) ∧ wx.cell? ⟨w.heap.size + 1, 1, none⟩ = some (.slice A1 T1.length cap1)) := fun wx hb => ⟨by have h := BX0_2.out.below hb; rw [h.now.cell]; rfl, by have h := BX0_2.out.below hb; rw [h.now.cell]; rfl, by have h := BX1_2.out.below hb; rw [h.now.cell]; rfl, by have h := BX1_2.out.below hb; rw [h.now.cell]; rfl⟩
  have KT3_0 : Hid (∀ wx, Below w2.heap.size w2 wx → Calls Try.prog 10 #[poV u0 A0 T0.length cap0] wx fun e w' => ∃ g, wx.heap.size ≤ g ∧ e = .returned (poV u0 (some ⟨g, 0, none⟩) T0.length T0.length) ∧ RT w' g w'.heap.size (some ⟨g, 0, none⟩) T0 ∧ Below wx.heap.size wx w') := fun wx hx => toPolyR u0 A0 cap0 T0 wx (S0.out.below (bnext HB2.out hx)) tl0 tt0
  have KT3_1 : Hid (∀ wx, Below w2.heap.size w2 wx → Calls Try.prog 10 #[poV u1 A1 T1.length cap1] wx fun e w' => ∃ g, wx.heap.size ≤ g ∧ e = .returned (poV u1 (some ⟨g, 0, none⟩) T1.length T1.length) ∧ RT w' g w'.heap.size (some ⟨g, 0, none⟩) T1 ∧ Below wx.heap.size wx w') := fun wx hx => toPolyR u1 A1 cap1 T1 wx (S1.out.below (bnext HB2.out hx)) tl1 tt1
  have KC3 : Hid (∀ (wx : World) (g0 lo0_ hi0_ : Nat) (g1 lo1_ hi1_ : Nat), RT wx lo0_ hi0_ (some ⟨g0, 0, none⟩) T0 → RT wx lo1_ hi1_ (some ⟨g1, 0, none⟩) T1 → Calls Try.prog 17 #[poV u0 (some ⟨g0, 0, none⟩) T0.length T0.length, poV u1 (some ⟨g1, 0, none⟩) T1.length T1.length] wx (RetQi v0 v1 wx)) := fun wx g0 lo0_ hi0_ g1 lo1_ hi1_ x0 x1 => by
    rw [V0.out, V1.out]; exact mulS u0 T0 u1 T1 wx (regTms x0 (by omega)) tl0 tt0 (regTms x1 (by omega)) tl1 tt1
  go_cut [6, 7] from 27 to 34 (fun s6 s7 wc => ∃ (bq : Nat) (Aq : Option Addr) (cq lq hq : Nat), s6 = .pointer (some ⟨bq, 0, none⟩) ∧ s7 = .int .i64 v1 ∧ Hid (OEnd w2 wc bq lq hq 28 [.int .i64 v0.1, .slice Aq v0.2.length cq] (TmsR lq hq Aq v0.2)))
  case first =>
    go_region_held3 (fun wx => wx.cell? ⟨w.heap.size, 0, none⟩ = some (.int .i64 u0) ∧ wx.cell? ⟨w.heap.size, 1, none⟩ = some (.slice A0 T0.length cap0) ∧ wx.cell? ⟨w.heap.size + 1, 0, none⟩ = some (.int .i64 u1) ∧ wx.cell? ⟨w.heap.size + 1, 1, none⟩ = some (.slice A1 T1.length cap1)) (first | exact SB3.out _ (OB.below (OB.start w2 28 [.int .i64 0, .slice none 0 0])) | exact SB3.out _ (OB.below (OB.start2 w2 28 [.int .i64 0, .slice none 0 0])) | exact SB3.out _ (OB.below O3a.out) | exact SB3.out _ (OB.below O3a.out.al) | exact SB3.out _ (OB.below O3b.out) | exact SB3.out _ (OB.below O3b.out.al) | exact SB3.out _ (OB.below (OF.out.next HBF.out)) | exact SB3.out _ (OB.below (OB.al (OF.out.next HBF.out))) | exact SB3.out _ (OB.end2 OF.out HBF.out HRF.out _ _).1 | exact SB3.out _ (OB.endN OF.out HBF.out HRF.out).1)
      (first
        | (go_at_call 10; (with_reducible refine (KT3_0.out _ (OB.start w2 28 [.int .i64 0, .slice none 0 0]).below).mono ?_); rintro e w3a ⟨g3a, hg3a, rfl, hX3a, hb3a⟩; have O3a := Lib.hid (OB.next (OB.start w2 28 [.int .i64 0, .slice none 0 0]) hb3a); have HX3a_3a := Lib.hid hX3a; clear hX3a hb3a)
        | (go_at_call 10; (with_reducible refine (KT3_0.out _ (OB.start2 w2 28 [.int .i64 0, .slice none 0 0]).below).mono ?_); rintro e w3a ⟨g3a, hg3a, rfl, hX3a, hb3a⟩; have O3a := Lib.hid (OB.next (OB.start2 w2 28 [.int .i64 0, .slice none 0 0]) hb3a); have HX3a_3a := Lib.hid hX3a; clear hX3a hb3a)
        | (go_at_call 10; (with_reducible refine (KT3_1.out _ O3a.out.below).mono ?_); rintro e w3b ⟨g3b, hg3b, rfl, hX3b, hb3b⟩; have O3b := Lib.hid (OB.next O3a.out hb3b); have HX3a_3b := Lib.hid (HX3a_3a.out.below hb3b); have HX3b_3b := Lib.hid hX3b; clear hX3b hb3b)
        | (go_at_call 10; (with_reducible refine (KT3_1.out _ O3a.out.al.below).mono ?_); rintro e w3b ⟨g3b, hg3b, rfl, hX3b, hb3b⟩; have O3b := Lib.hid (OB.next O3a.out.al hb3b); have HX3a_3b := Lib.hid (HX3a_3a.out.below (bnext ((Below.refl _ _).alloc (Nat.le_refl _) _) hb3b)); have HX3b_3b := Lib.hid hX3b; clear hX3b hb3b)
        | (go_at_call 17; (with_reducible refine (KC3.out _ _ _ _ _ _ _ HX3a_3b.out HX3b_3b.out).mono ?_); rintro e w3z ⟨hb3z, AR0, cR0, rfl, hR3z⟩; have OF := Lib.hid (O3b.out); (first | (obtain ⟨_, hcl⟩ := OF.out.box _ rfl; have y0q : World.cell? w3z _ = some (.int .i64 0) := ((hcl.next hb3z).cell 0).trans rfl; have f0q := (hcl.next hb3z).frozen 0; have y1q : World.cell? w3z _ = some (.slice none 0 0) := ((hcl.next hb3z).cell 1).trans rfl; have f1q := (hcl.next hb3z).frozen 1; clear hcl) | skip); have HBF := Lib.hid hb3z; have HRF := Lib.hid hR3z; clear hb3z hR3z)
        | (go_at_call 17; (with_reducible refine (KC3.out _ _ _ _ _ _ _ (HX3a_3b.out.below ((Below.refl _ _).alloc (Nat.le_refl _) _)) (HX3b_3b.out.below ((Below.refl _ _).alloc (Nat.le_refl _) _))).mono ?_); rintro e w3z ⟨hb3z, AR0, cR0, rfl, hR3z⟩; have OF := Lib.hid (O3b.out.al); (first | (obtain ⟨_, hcl⟩ := OF.out.box _ rfl; have y0q : World.cell? w3z _ = some (.int .i64 0) := ((hcl.next hb3z).cell 0).trans rfl; have f0q := (hcl.next hb3z).frozen 0; have y1q : World.cell? w3z _ = some (.slice none 0 0) := ((hcl.next hb3z).cell 1).trans rfl; have f1q := (hcl.next hb3z).frozen 1; clear hcl) | skip); have HBF := Lib.hid hb3z; have HRF := Lib.hid hR3z; clear hb3z hR3z))
    all_goals
      go_wp2_with fail
      go_meet
      case rel => first | exact ⟨_, _, _, _, _, rfl, rfl, OB.end2 OF.out HBF.out HRF.out _ _⟩ | exact ⟨_, _, _, _, _, rfl, rfl, OB.endN OF.out HBF.out HRF.out⟩
  case rest =>
  clear qBX0_0 qBX0_1 qBX1_0 qBX1_1
  obtain ⟨b4, AR0, cR0, lq4, hq4, rfl, rfl, HE4⟩ := hcut
  obtain ⟨w4, rfl⟩ : ∃ x, x = wc := ⟨_, rfl⟩
  obtain ⟨hb4, hz4, hC4, hR4⟩ := HE4.out
  clear HE4 SB3 KC3 KT3_0 KT3_1
  have HB4 := Lib.hid (bnext HB2.out hb4)
  have BX0_4 := Lib.hid (BX0_2.out.below hb4); clear BX0_2
  have BX1_4 := Lib.hid (BX1_2.out.below hb4); clear BX1_2
  have HS4 := Lib.hid hb4.size
  clear hb4
  have HZ4 := Lib.hid hz4; clear hz4
  have R0_4 := Lib.hid hR4; clear hR4
  have VXR_4 := Lib.hid (regBox hC4); clear hC4
  have qBX0_0 : World.cell? w4 ⟨w.heap.size, 0, none⟩ = some (.int .i64 u0) := by rw [BX0_4.out.now.cell]; rfl
  have qBX0_1 : World.cell? w4 ⟨w.heap.size, 1, none⟩ = some (.slice A0 T0.length cap0) := by rw [BX0_4.out.now.cell]; rfl
  have qBX1_0 : World.cell? w4 ⟨w.heap.size + 1, 0, none⟩ = some (.int .i64 u1) := by rw [BX1_4.out.now.cell]; rfl
  have qBX1_1 : World.cell? w4 ⟨w.heap.size + 1, 1, none⟩ = some (.slice A1 T1.length cap1) := by rw [BX1_4.out.now.cell]; rfl
  have qVXR_0 : World.cell? w4 ⟨b4, 0, none⟩ = some (.int .i64 v0.1) := by rw [VXR_4.out.now.cell]; rfl
  have qVXR_1 : World.cell? w4 ⟨b4, 1, none⟩ = some (.slice AR0 v0.2.length cR0) := by rw [VXR_4.out.now.cell]; rfl
  go_wp2_with fail
  refine (toPolyR u0 A0 cap0 T0 _ (S0.out.below HB4.out) tl0 tt0).mono ?_; rintro e w5 ⟨g5, hg5, rfl, hX5, hb5⟩
  clear qBX0_0 qBX0_1 qBX1_0 qBX1_1 qVXR_0 qVXR_1
  have HB5 := Lib.hid (bnext HB4.out hb5)
  have BX0_5 := Lib.hid (BX0_4.out.below hb5); clear BX0_4
  have BX1_5 := Lib.hid (BX1_4.out.below hb5); clear BX1_4
  have R0_5 := Lib.hid (R0_4.out.below hb5); clear R0_4
  have VXR_5 := Lib.hid (VXR_4.out.below hb5); clear VXR_4
  have HS5 := Lib.hid hb5.size
  clear hb5
  have HG5 := Lib.hid hg5; clear hg5
  have X0_5 := Lib.hid hX5; clear hX5
  have HQ5 := Lib.hid X0_5.out.le
  have hb6 : Below w5.heap.size w5 (w5.alloc (.cells #[.int .i64 u0, .slice (some ⟨g5, 0, none⟩) T0.length T0.length] 28)) := by go_grown
  have qnBX0_0 : World.cell? (w5.alloc (.cells #[.int .i64 u0, .slice (some ⟨g5, 0, none⟩) T0.length T0.length] 28)) ⟨w.heap.size, 0, none⟩ = some (.int .i64 u0) := by rw [(BX0_5.out.below hb6).now.cell]; rfl
  have qnBX0_1 : World.cell? (w5.alloc (.cells #[.int .i64 u0, .slice (some ⟨g5, 0, none⟩) T0.length T0.length] 28)) ⟨w.heap.size, 1, none⟩ = some (.slice A0 T0.length cap0) := by rw [(BX0_5.out.below hb6).now.cell]; rfl
  have qnBX1_0 : World.cell? (w5.alloc (.cells #[.int .i64 u0, .slice (some ⟨g5, 0, none⟩) T0.length T0.length] 28)) ⟨w.heap.size + 1, 0, none⟩ = some (.int .i64 u1) := by rw [(BX1_5.out.below hb6).now.cell]; rfl
  have qnBX1_1 : World.cell? (w5.alloc (.cells #[.int .i64 u0, .slice (some ⟨g5, 0, none⟩) T0.length T0.length] 28)) ⟨w.heap.size + 1, 1, none⟩ = some (.slice A1 T1.length cap1) := by rw [(BX1_5.out.below hb6).now.cell]; rfl
  have qnVXR_0 : World.cell? (w5.alloc (.cells #[.int .i64 u0, .slice (some ⟨g5, 0, none⟩) T0.length T0.length] 28)) ⟨b4, 0, none⟩ = some (.int .i64 v0.1) := by rw [(VXR_5.out.below hb6).now.cell]; rfl
  have qnVXR_1 : World.cell? (w5.alloc (.cells #[.int .i64 u0, .slice (some ⟨g5, 0, none⟩) T0.length T0.length] 28)) ⟨b4, 1, none⟩ = some (.slice AR0 v0.2.length cR0) := by rw [(VXR_5.out.below hb6).now.cell]; rfl
  have qBX0_0 : World.cell? w5 ⟨w.heap.size, 0, none⟩ = some (.int .i64 u0) := by rw [BX0_5.out.now.cell]; rfl
  have qBX0_1 : World.cell? w5 ⟨w.heap.size, 1, none⟩ = some (.slice A0 T0.length cap0) := by rw [BX0_5.out.now.cell]; rfl
  have qBX1_0 : World.cell? w5 ⟨w.heap.size + 1, 0, none⟩ = some (.int .i64 u1) := by rw [BX1_5.out.now.cell]; rfl
  have qBX1_1 : World.cell? w5 ⟨w.heap.size + 1, 1, none⟩ = some (.slice A1 T1.length cap1) := by rw [BX1_5.out.now.cell]; rfl
  have qVXR_0 : World.cell? w5 ⟨b4, 0, none⟩ = some (.int .i64 v0.1) := by rw [VXR_5.out.now.cell]; rfl
  have qVXR_1 : World.cell? w5 ⟨b4, 1, none⟩ = some (.slice AR0 v0.2.length cR0) := by rw [VXR_5.out.now.cell]; rfl
  go_wp2_with fail
  clear qnBX0_0 qnBX0_1 qnBX1_0 qnBX1_1 qnVXR_0 qnVXR_1 qBX0_0 qBX0_1 qBX1_0 qBX1_1 qVXR_0 qVXR_1
  have BC6 : Hid (Cells (w5.alloc (.cells #[.int .i64 u0, .slice (some ⟨g5, 0, none⟩) T0.length T0.length] 28)) w5.heap.size 28 [.int .i64 u0, .slice (some ⟨g5, 0, none⟩) T0.length T0.length]) := Cells.new w5 28 [.int .i64 u0, .slice (some ⟨g5, 0, none⟩) T0.length T0.length]
  change Calls _ _ _ (w5.alloc (.cells #[.int .i64 u0, .slice (some ⟨g5, 0, none⟩) T0.length T0.length] 28)) _
  generalize (w5.alloc (.cells #[.int .i64 u0, .slice (some ⟨g5, 0, none⟩) T0.length T0.length] 28)) = w6 at *
  have HB6 := Lib.hid (bnext HB5.out hb6)
  have BX0_6 := Lib.hid (BX0_5.out.below hb6); clear BX0_5
  have BX1_6 := Lib.hid (BX1_5.out.below hb6); clear BX1_5
  have R0_6 := Lib.hid (R0_5.out.below hb6); clear R0_5
  have VXR_6 := Lib.hid (VXR_5.out.below hb6); clear VXR_5
  have X0_6 := Lib.hid (X0_5.out.below hb6); clear X0_5
  have HS6 := Lib.hid hb6.size
  clear hb6
  have VX0_6 : Hid (Reg w6 w5.heap.size (w5.heap.size + 1) (fun w' => Cells w' w5.heap.size 28 [.int .i64 u0, .slice (some ⟨g5, 0, none⟩) T0.length T0.length])) := regBox BC6.out
  clear BC6
  have HQ6 := Lib.hid VX0_6.out.size
  have qBX0_0 : World.cell? w6 ⟨w.heap.size, 0, none⟩ = some (.int .i64 u0) := by rw [BX0_6.out.now.cell]; rfl
  have qBX0_1 : World.cell? w6 ⟨w.heap.size, 1, none⟩ = some (.slice A0 T0.length cap0) := by rw [BX0_6.out.now.cell]; rfl
  have qBX1_0 : World.cell? w6 ⟨w.heap.size + 1, 0, none⟩ = some (.int .i64 u1) := by rw [BX1_6.out.now.cell]; rfl
  have qBX1_1 : World.cell? w6 ⟨w.heap.size + 1, 1, none⟩ = some (.slice A1 T1.length cap1) := by rw [BX1_6.out.now.cell]; rfl
  have qVXR_0 : World.cell? w6 ⟨b4, 0, none⟩ = some (.int .i64 v0.1) := by rw [VXR_6.out.now.cell]; rfl
  have qVXR_1 : World.cell? w6 ⟨b4, 1, none⟩ = some (.slice AR0 v0.2.length cR0) := by rw [VXR_6.out.now.cell]; rfl
  have qVX0_0 : World.cell? w6 ⟨w5.heap.size, 0, none⟩ = some (.int .i64 u0) := by rw [VX0_6.out.now.cell]; rfl
  have qVX0_1 : World.cell? w6 ⟨w5.heap.size, 1, none⟩ = some (.slice (some ⟨g5, 0, none⟩) T0.length T0.length) := by rw [VX0_6.out.now.cell]; rfl
  skip
  refine (toPolyR u1 A1 cap1 T1 _ (S1.out.below HB6.out) tl1 tt1).mono ?_; rintro e w7 ⟨g7, hg7, rfl, hX7, hb7⟩
  clear qBX0_0 qBX0_1 qBX1_0 qBX1_1 qVXR_0 qVXR_1 qVX0_0 qVX0_1
  have HB7 := Lib.hid (bnext HB6.out hb7)
  have BX0_7 := Lib.hid (BX0_6.out.below hb7); clear BX0_6
  have BX1_7 := Lib.hid (BX1_6.out.below hb7); clear BX1_6
  have R0_7 := Lib.hid (R0_6.out.below hb7); clear R0_6
  have VXR_7 := Lib.hid (VXR_6.out.below hb7); clear VXR_6
  have X0_7 := Lib.hid (X0_6.out.below hb7); clear X0_6
  have VX0_7 := Lib.hid (VX0_6.out.below hb7); clear VX0_6
  have HS7 := Lib.hid hb7.size
  clear hb7
  have HG7 := Lib.hid hg7; clear hg7
  have X1_7 := Lib.hid hX7; clear hX7
  have HQ7 := Lib.hid X1_7.out.le
  have hb8 : Below w7.heap.size w7 (w7.alloc (.cells #[.int .i64 u1, .slice (some ⟨g7, 0, none⟩) T1.length T1.length] 28)) := by go_grown
  have qnBX0_0 : World.cell? (w7.alloc (.cells #[.int .i64 u1, .slice (some ⟨g7, 0, none⟩) T1.length T1.length] 28)) ⟨w.heap.size, 0, none⟩ = some (.int .i64 u0) := by rw [(BX0_7.out.below hb8).now.cell]; rfl
  have qnBX0_1 : World.cell? (w7.alloc (.cells #[.int .i64 u1, .slice (some ⟨g7, 0, none⟩) T1.length T1.length] 28)) ⟨w.heap.size, 1, none⟩ = some (.slice A0 T0.length cap0) := by rw [(BX0_7.out.below hb8).now.cell]; rfl
  have qnBX1_0 : World.cell? (w7.alloc (.cells #[.int .i64 u1, .slice (some ⟨g7, 0, none⟩) T1.length T1.length] 28)) ⟨w.heap.size + 1, 0, none⟩ = some (.int .i64 u1) := by rw [(BX1_7.out.below hb8).now.cell]; rfl
  have qnBX1_1 : World.cell? (w7.alloc (.cells #[.int .i64 u1, .slice (some ⟨g7, 0, none⟩) T1.length T1.length] 28)) ⟨w.heap.size + 1, 1, none⟩ = some (.slice A1 T1.length cap1) := by rw [(BX1_7.out.below hb8).now.cell]; rfl
  have qnVXR_0 : World.cell? (w7.alloc (.cells #[.int .i64 u1, .slice (some ⟨g7, 0, none⟩) T1.length T1.length] 28)) ⟨b4, 0, none⟩ = some (.int .i64 v0.1) := by rw [(VXR_7.out.below hb8).now.cell]; rfl
  have qnVXR_1 : World.cell? (w7.alloc (.cells #[.int .i64 u1, .slice (some ⟨g7, 0, none⟩) T1.length T1.length] 28)) ⟨b4, 1, none⟩ = some (.slice AR0 v0.2.length cR0) := by rw [(VXR_7.out.below hb8).now.cell]; rfl
  have qnVX0_0 : World.cell? (w7.alloc (.cells #[.int .i64 u1, .slice (some ⟨g7, 0, none⟩) T1.length T1.length] 28)) ⟨w5.heap.size, 0, none⟩ = some (.int .i64 u0) := by rw [(VX0_7.out.below hb8).now.cell]; rfl
  have qnVX0_1 : World.cell? (w7.alloc (.cells #[.int .i64 u1, .slice (some ⟨g7, 0, none⟩) T1.length T1.length] 28)) ⟨w5.heap.size, 1, none⟩ = some (.slice (some ⟨g5, 0, none⟩) T0.length T0.length) := by rw [(VX0_7.out.below hb8).now.cell]; rfl
  have qBX0_0 : World.cell? w7 ⟨w.heap.size, 0, none⟩ = some (.int .i64 u0) := by rw [BX0_7.out.now.cell]; rfl
  have qBX0_1 : World.cell? w7 ⟨w.heap.size, 1, none⟩ = some (.slice A0 T0.length cap0) := by rw [BX0_7.out.now.cell]; rfl
  have qBX1_0 : World.cell? w7 ⟨w.heap.size + 1, 0, none⟩ = some (.int .i64 u1) := by rw [BX1_7.out.now.cell]; rfl
  have qBX1_1 : World.cell? w7 ⟨w.heap.size + 1, 1, none⟩ = some (.slice A1 T1.length cap1) := by rw [BX1_7.out.now.cell]; rfl
  have qVXR_0 : World.cell? w7 ⟨b4, 0, none⟩ = some (.int .i64 v0.1) := by rw [VXR_7.out.now.cell]; rfl
  have qVXR_1 : World.cell? w7 ⟨b4, 1, none⟩ = some (.slice AR0 v0.2.length cR0) := by rw [VXR_7.out.now.cell]; rfl
  have qVX0_0 : World.cell? w7 ⟨w5.heap.size, 0, none⟩ = some (.int .i64 u0) := by rw [VX0_7.out.now.cell]; rfl
  have qVX0_1 : World.cell? w7 ⟨w5.heap.size, 1, none⟩ = some (.slice (some ⟨g5, 0, none⟩) T0.length T0.length) := by rw [VX0_7.out.now.cell]; rfl
  go_wp2_with fail
  clear qnBX0_0 qnBX0_1 qnBX1_0 qnBX1_1 qnVXR_0 qnVXR_1 qnVX0_0 qnVX0_1 qBX0_0 qBX0_1 qBX1_0 qBX1_1 qVXR_0 qVXR_1 qVX0_0 qVX0_1
  have BC8 : Hid (Cells (w7.alloc (.cells #[.int .i64 u1, .slice (some ⟨g7, 0, none⟩) T1.length T1.length] 28)) w7.heap.size 28 [.int .i64 u1, .slice (some ⟨g7, 0, none⟩) T1.length T1.length]) := Cells.new w7 28 [.int .i64 u1, .slice (some ⟨g7, 0, none⟩) T1.length T1.length]
  change Calls _ _ _ (w7.alloc (.cells #[.int .i64 u1, .slice (some ⟨g7, 0, none⟩) T1.length T1.length] 28)) _
  generalize (w7.alloc (.cells #[.int .i64 u1, .slice (some ⟨g7, 0, none⟩) T1.length T1.length] 28)) = w8 at *
  have HB8 := Lib.hid (bnext HB7.out hb8)
  have BX0_8 := Lib.hid (BX0_7.out.below hb8); clear BX0_7
  have BX1_8 := Lib.hid (BX1_7.out.below hb8); clear BX1_7
  have R0_8 := Lib.hid (R0_7.out.below hb8); clear R0_7
  have VXR_8 := Lib.hid (VXR_7.out.below hb8); clear VXR_7
  have X0_8 := Lib.hid (X0_7.out.below hb8); clear X0_7
  have VX0_8 := Lib.hid (VX0_7.out.below hb8); clear VX0_7
  have X1_8 := Lib.hid (X1_7.out.below hb8); clear X1_7
  have HS8 := Lib.hid hb8.size
  clear hb8
  have VX1_8 : Hid (Reg w8 w7.heap.size (w7.heap.size + 1) (fun w' => Cells w' w7.heap.size 28 [.int .i64 u1, .slice (some ⟨g7, 0, none⟩) T1.length T1.length])) := regBox BC8.out
  clear BC8
  have HQ8 := Lib.hid VX1_8.out.size
  have qBX0_0 : World.cell? w8 ⟨w.heap.size, 0, none⟩ = some (.int .i64 u0) := by rw [BX0_8.out.now.cell]; rfl
  have qBX0_1 : World.cell? w8 ⟨w.heap.size, 1, none⟩ = some (.slice A0 T0.length cap0) := by rw [BX0_8.out.now.cell]; rfl
  have qBX1_0 : World.cell? w8 ⟨w.heap.size + 1, 0, none⟩ = some (.int .i64 u1) := by rw [BX1_8.out.now.cell]; rfl
  have qBX1_1 : World.cell? w8 ⟨w.heap.size + 1, 1, none⟩ = some (.slice A1 T1.length cap1) := by rw [BX1_8.out.now.cell]; rfl
  have qVXR_0 : World.cell? w8 ⟨b4, 0, none⟩ = some (.int .i64 v0.1) := by rw [VXR_8.out.now.cell]; rfl
  have qVXR_1 : World.cell? w8 ⟨b4, 1, none⟩ = some (.slice AR0 v0.2.length cR0) := by rw [VXR_8.out.now.cell]; rfl
  have qVX0_0 : World.cell? w8 ⟨w5.heap.size, 0, none⟩ = some (.int .i64 u0) := by rw [VX0_8.out.now.cell]; rfl
  have qVX0_1 : World.cell? w8 ⟨w5.heap.size, 1, none⟩ = some (.slice (some ⟨g5, 0, none⟩) T0.length T0.length) := by rw [VX0_8.out.now.cell]; rfl
  have qVX1_0 : World.cell? w8 ⟨w7.heap.size, 0, none⟩ = some (.int .i64 u1) := by rw [VX1_8.out.now.cell]; rfl
  have qVX1_1 : World.cell? w8 ⟨w7.heap.size, 1, none⟩ = some (.slice (some ⟨g7, 0, none⟩) T1.length T1.length) := by rw [VX1_8.out.now.cell]; rfl
  skip
  refine (mulI u0 T0 u1 T1 _ (regTms X0_8.out (by omega)) tl0 tt0 (regTms X1_8.out (by omega)) tl1 tt1).mono ?_
  rw [← V0.out, ← V1.out]
  rintro e w9 ⟨hb9, AG0, cG0, rfl, hR9⟩
  clear qBX0_0 qBX0_1 qBX1_0 qBX1_1 qVXR_0 qVXR_1 qVX0_0 qVX0_1 qVX1_0 qVX1_1
  have HB9 := Lib.hid (bnext HB8.out hb9)
  have BX0_9 := Lib.hid (BX0_8.out.below hb9); clear BX0_8
  have BX1_9 := Lib.hid (BX1_8.out.below hb9); clear BX1_8
  have R0_9 := Lib.hid (R0_8.out.below hb9); clear R0_8
  have VXR_9 := Lib.hid (VXR_8.out.below hb9); clear VXR_8
  have X0_9 := Lib.hid (X0_8.out.below hb9); clear X0_8
  have VX0_9 := Lib.hid (VX0_8.out.below hb9); clear VX0_8
  have X1_9 := Lib.hid (X1_8.out.below hb9); clear X1_8
  have VX1_9 := Lib.hid (VX1_8.out.below hb9); clear VX1_8
  have HS9 := Lib.hid hb9.size
  clear hb9
  have G0_9 := Lib.hid hR9; clear hR9
  have hb10 : Below w9.heap.size w9 (w9.alloc (.cells #[.int .i64 v0.1, .slice AG0 v0.2.length cG0] 28)) := by go_grown
  have qBX0_0 : World.cell? (w9.alloc (.cells #[.int .i64 v0.1, .slice AG0 v0.2.length cG0] 28)) ⟨w.heap.size, 0, none⟩ = some (.int .i64 u0) := by rw [(BX0_9.out.below hb10).now.cell]; rfl
  have qBX0_1 : World.cell? (w9.alloc (.cells #[.int .i64 v0.1, .slice AG0 v0.2.length cG0] 28)) ⟨w.heap.size, 1, none⟩ = some (.slice A0 T0.length cap0) := by rw [(BX0_9.out.below hb10).now.cell]; rfl
  have qBX1_0 : World.cell? (w9.alloc (.cells #[.int .i64 v0.1, .slice AG0 v0.2.length cG0] 28)) ⟨w.heap.size + 1, 0, none⟩ = some (.int .i64 u1) := by rw [(BX1_9.out.below hb10).now.cell]; rfl
  have qBX1_1 : World.cell? (w9.alloc (.cells #[.int .i64 v0.1, .slice AG0 v0.2.length cG0] 28)) ⟨w.heap.size + 1, 1, none⟩ = some (.slice A1 T1.length cap1) := by rw [(BX1_9.out.below hb10).now.cell]; rfl
  have qVXR_0 : World.cell? (w9.alloc (.cells #[.int .i64 v0.1, .slice AG0 v0.2.length cG0] 28)) ⟨b4, 0, none⟩ = some (.int .i64 v0.1) := by rw [(VXR_9.out.below hb10).now.cell]; rfl
  have qVXR_1 : World.cell? (w9.alloc (.cells #[.int .i64 v0.1, .slice AG0 v0.2.length cG0] 28)) ⟨b4, 1, none⟩ = some (.slice AR0 v0.2.length cR0) := by rw [(VXR_9.out.below hb10).now.cell]; rfl
  have qVX0_0 : World.cell? (w9.alloc (.cells #[.int .i64 v0.1, .slice AG0 v0.2.length cG0] 28)) ⟨w5.heap.size, 0, none⟩ = some (.int .i64 u0) := by rw [(VX0_9.out.below hb10).now.cell]; rfl
  have qVX0_1 : World.cell? (w9.alloc (.cells #[.int .i64 v0.1, .slice AG0 v0.2.length cG0] 28)) ⟨w5.heap.size, 1, none⟩ = some (.slice (some ⟨g5, 0, none⟩) T0.length T0.length) := by rw [(VX0_9.out.below hb10).now.cell]; rfl
  have qVX1_0 : World.cell? (w9.alloc (.cells #[.int .i64 v0.1, .slice AG0 v0.2.length cG0] 28)) ⟨w7.heap.size, 0, none⟩ = some (.int .i64 u1) := by rw [(VX1_9.out.below hb10).now.cell]; rfl
  have qVX1_1 : World.cell? (w9.alloc (.cells #[.int .i64 v0.1, .slice AG0 v0.2.length cG0] 28)) ⟨w7.heap.size, 1, none⟩ = some (.slice (some ⟨g7, 0, none⟩) T1.length T1.length) := by rw [(VX1_9.out.below hb10).now.cell]; rfl
  go_wp2_with fail
  clear qBX0_0 qBX0_1 qBX1_0 qBX1_1 qVXR_0 qVXR_1 qVX0_0 qVX0_1 qVX1_0 qVX1_1
  have BC10 : Hid (Cells (w9.alloc (.cells #[.int .i64 v0.1, .slice AG0 v0.2.length cG0] 28)) w9.heap.size 28 [.int .i64 v0.1, .slice AG0 v0.2.length cG0]) := Cells.new w9 28 [.int .i64 v0.1, .slice AG0 v0.2.length cG0]
  change Calls _ _ _ (w9.alloc (.cells #[.int .i64 v0.1, .slice AG0 v0.2.length cG0] 28)) _
  generalize (w9.alloc (.cells #[.int .i64 v0.1, .slice AG0 v0.2.length cG0] 28)) = w10 at *
  have HB10 := Lib.hid (bnext HB9.out hb10)
  have BX0_10 := Lib.hid (BX0_9.out.below hb10); clear BX0_9
  have BX1_10 := Lib.hid (BX1_9.out.below hb10); clear BX1_9
  have R0_10 := Lib.hid (R0_9.out.below hb10); clear R0_9
  have VXR_10 := Lib.hid (VXR_9.out.below hb10); clear VXR_9
  have X0_10 := Lib.hid (X0_9.out.below hb10); clear X0_9
  have VX0_10 := Lib.hid (VX0_9.out.below hb10); clear VX0_9
  have X1_10 := Lib.hid (X1_9.out.below hb10); clear X1_9
  have VX1_10 := Lib.hid (VX1_9.out.below hb10); clear VX1_9
  have G0_10 := Lib.hid (G0_9.out.below hb10); clear G0_9
  have HS10 := Lib.hid hb10.size
  clear hb10
  have VXG_10 : Hid (Reg w10 w9.heap.size (w9.heap.size + 1) (fun w' => Cells w' w9.heap.size 28 [.int .i64 v0.1, .slice AG0 v0.2.length cG0])) := regBox BC10.out
  clear BC10
  have HQ10 := Lib.hid VXG_10.out.size
  have qBX0_0 : World.cell? w10 ⟨w.heap.size, 0, none⟩ = some (.int .i64 u0) := by rw [BX0_10.out.now.cell]; rfl
  have qBX0_1 : World.cell? w10 ⟨w.heap.size, 1, none⟩ = some (.slice A0 T0.length cap0) := by rw [BX0_10.out.now.cell]; rfl
  have qBX1_0 : World.cell? w10 ⟨w.heap.size + 1, 0, none⟩ = some (.int .i64 u1) := by rw [BX1_10.out.now.cell]; rfl
  have qBX1_1 : World.cell? w10 ⟨w.heap.size + 1, 1, none⟩ = some (.slice A1 T1.length cap1) := by rw [BX1_10.out.now.cell]; rfl
  have qVXR_0 : World.cell? w10 ⟨b4, 0, none⟩ = some (.int .i64 v0.1) := by rw [VXR_10.out.now.cell]; rfl
  have qVXR_1 : World.cell? w10 ⟨b4, 1, none⟩ = some (.slice AR0 v0.2.length cR0) := by rw [VXR_10.out.now.cell]; rfl
  have qVX0_0 : World.cell? w10 ⟨w5.heap.size, 0, none⟩ = some (.int .i64 u0) := by rw [VX0_10.out.now.cell]; rfl
  have qVX0_1 : World.cell? w10 ⟨w5.heap.size, 1, none⟩ = some (.slice (some ⟨g5, 0, none⟩) T0.length T0.length) := by rw [VX0_10.out.now.cell]; rfl
  have qVX1_0 : World.cell? w10 ⟨w7.heap.size, 0, none⟩ = some (.int .i64 u1) := by rw [VX1_10.out.now.cell]; rfl
  have qVX1_1 : World.cell? w10 ⟨w7.heap.size, 1, none⟩ = some (.slice (some ⟨g7, 0, none⟩) T1.length T1.length) := by rw [VX1_10.out.now.cell]; rfl
  have qVXG_0 : World.cell? w10 ⟨w9.heap.size, 0, none⟩ = some (.int .i64 v0.1) := by rw [VXG_10.out.now.cell]; rfl
  have qVXG_1 : World.cell? w10 ⟨w9.heap.size, 1, none⟩ = some (.slice AG0 v0.2.length cG0) := by rw [VXG_10.out.now.cell]; rfl
  refine (eqPoly_any v0.1 AG0 AR0 cG0 cR0 v0.2 _ (regTms G0_10.out (by omega)) (regTms R0_10.out (by omega)) (by omega) (by omega)).mono ?_; rintro e w11 ⟨rfl, hb11⟩
  clear qBX0_0 qBX0_1 qBX1_0 qBX1_1 qVXR_0 qVXR_1 qVX0_0 qVX0_1 qVX1_0 qVX1_1 qVXG_0 qVXG_1
  have HB11 := Lib.hid (bnext HB10.out hb11)
  have BX0_11 := Lib.hid (BX0_10.out.below hb11); clear BX0_10
  have BX1_11 := Lib.hid (BX1_10.out.below hb11); clear BX1_10
  have R0_11 := Lib.hid (R0_10.out.below hb11); clear R0_10
  have VXR_11 := Lib.hid (VXR_10.out.below hb11); clear VXR_10
  have X0_11 := Lib.hid (X0_10.out.below hb11); clear X0_10
  have VX0_11 := Lib.hid (VX0_10.out.below hb11); clear VX0_10
  have X1_11 := Lib.hid (X1_10.out.below hb11); clear X1_10
  have VX1_11 := Lib.hid (VX1_10.out.below hb11); clear VX1_10
  have G0_11 := Lib.hid (G0_10.out.below hb11); clear G0_10
  have VXG_11 := Lib.hid (VXG_10.out.below hb11); clear VXG_10
  have HS11 := Lib.hid hb11.size
  clear hb11
  have qBX0_0 : World.cell? w11 ⟨w.heap.size, 0, none⟩ = some (.int .i64 u0) := by rw [BX0_11.out.now.cell]; rfl
  have qBX0_1 : World.cell? w11 ⟨w.heap.size, 1, none⟩ = some (.slice A0 T0.length cap0) := by rw [BX0_11.out.now.cell]; rfl
  have qBX1_0 : World.cell? w11 ⟨w.heap.size + 1, 0, none⟩ = some (.int .i64 u1) := by rw [BX1_11.out.now.cell]; rfl
  have qBX1_1 : World.cell? w11 ⟨w.heap.size + 1, 1, none⟩ = some (.slice A1 T1.length cap1) := by rw [BX1_11.out.now.cell]; rfl
  have qVXR_0 : World.cell? w11 ⟨b4, 0, none⟩ = some (.int .i64 v0.1) := by rw [VXR_11.out.now.cell]; rfl
  have qVXR_1 : World.cell? w11 ⟨b4, 1, none⟩ = some (.slice AR0 v0.2.length cR0) := by rw [VXR_11.out.now.cell]; rfl
  have qVX0_0 : World.cell? w11 ⟨w5.heap.size, 0, none⟩ = some (.int .i64 u0) := by rw [VX0_11.out.now.cell]; rfl
  have qVX0_1 : World.cell? w11 ⟨w5.heap.size, 1, none⟩ = some (.slice (some ⟨g5, 0, none⟩) T0.length T0.length) := by rw [VX0_11.out.now.cell]; rfl
  have qVX1_0 : World.cell? w11 ⟨w7.heap.size, 0, none⟩ = some (.int .i64 u1) := by rw [VX1_11.out.now.cell]; rfl
  have qVX1_1 : World.cell? w11 ⟨w7.heap.size, 1, none⟩ = some (.slice (some ⟨g7, 0, none⟩) T1.length T1.length) := by rw [VX1_11.out.now.cell]; rfl
  have qVXG_0 : World.cell? w11 ⟨w9.heap.size, 0, none⟩ = some (.int .i64 v0.1) := by rw [VXG_11.out.now.cell]; rfl
  have qVXG_1 : World.cell? w11 ⟨w9.heap.size, 1, none⟩ = some (.slice AG0 v0.2.length cG0) := by rw [VXG_11.out.now.cell]; rfl
  go_wp2_with fail
  have KT12 : Hid (∀ wx, Below w11.heap.size w11 wx → Calls Try.prog 10 #[poV u0 A0 T0.length cap0] wx fun e w' => ∃ g, wx.heap.size ≤ g ∧ e = .returned (poV u0 (some ⟨g, 0, none⟩) T0.length T0.length) ∧ RT w' g w'.heap.size (some ⟨g, 0, none⟩) T0 ∧ Below wx.heap.size wx w') := fun wx hx => toPolyR u0 A0 cap0 T0 wx (S0.out.below (bnext HB11.out hx)) tl0 tt0
  have KS12 := Lib.hid (And.intro qVX0_0 (And.intro qVX0_1 (And.intro qBX0_0 qBX0_1)))
  go_region_held3 (fun wx => wx.cell? ⟨w5.heap.size, 0, none⟩ = some (.int .i64 u0) ∧ wx.cell? ⟨w5.heap.size, 1, none⟩ = some (.slice (some ⟨g5, 0, none⟩) T0.length T0.length) ∧ wx.cell? ⟨w.heap.size, 0, none⟩ = some (.int .i64 u0) ∧ wx.cell? ⟨w.heap.size, 1, none⟩ = some (.slice A0 T0.length cap0)) (first | exact KS12.out | exact KS12.out | go_keep | exact keep4q KS12.out hb12 | exact keep4q KS12.out (hb12.trans (hb13.mono hb12.size)))
    (first
      | (go_at_call 12; have _tk := hX12; (with_reducible refine (eqPoly_any u0 _ _ _ _ T0 _ (regTms (X0_11.out.below hb12) (by omega)) (regTms hX12 (by omega)) (by omega) (by omega)).mono ?_); rintro e w13 ⟨rfl, hb13⟩)
      | (go_at_call 10; refine (KT12.out _ (by first | exact (Below.refl _ _).drew | exact below_drewN' (Below.refl _ _) _ | exact Below.refl _ _)).mono ?_; rintro e w12 ⟨g12, hg12, rfl, hX12, hb12'⟩; have hb12 : Below w11.heap.size w11 w12 := by first | exact bdrew hb12' | exact bdrewN hb12' | exact hb12'))
  clear hX12 hg12 hb12' KS12 KT12
  clear qBX0_0 qBX0_1 qBX1_0 qBX1_1 qVXR_0 qVXR_1 qVX0_0 qVX0_1 qVX1_0 qVX1_1 qVXG_0 qVXG_1
  have HB12 := Lib.hid (bnext HB11.out hb12)
  have BX0_12 := Lib.hid (BX0_11.out.below hb12); clear BX0_11
  have BX1_12 := Lib.hid (BX1_11.out.below hb12); clear BX1_11
  have R0_12 := Lib.hid (R0_11.out.below hb12); clear R0_11
  have VXR_12 := Lib.hid (VXR_11.out.below hb12); clear VXR_11
  have X0_12 := Lib.hid (X0_11.out.below hb12); clear X0_11
  have VX0_12 := Lib.hid (VX0_11.out.below hb12); clear VX0_11
  have X1_12 := Lib.hid (X1_11.out.below hb12); clear X1_11
  have VX1_12 := Lib.hid (VX1_11.out.below hb12); clear VX1_11
  have G0_12 := Lib.hid (G0_11.out.below hb12); clear G0_11
  have VXG_12 := Lib.hid (VXG_11.out.below hb12); clear VXG_11
  have HS12 := Lib.hid hb12.size
  clear hb12
  have HB13 := Lib.hid (bnext HB12.out hb13)
  have BX0_13 := Lib.hid (BX0_12.out.below hb13); clear BX0_12
  have BX1_13 := Lib.hid (BX1_12.out.below hb13); clear BX1_12
  have R0_13 := Lib.hid (R0_12.out.below hb13); clear R0_12
  have VXR_13 := Lib.hid (VXR_12.out.below hb13); clear VXR_12
  have X0_13 := Lib.hid (X0_12.out.below hb13); clear X0_12
  have VX0_13 := Lib.hid (VX0_12.out.below hb13); clear VX0_12
  have X1_13 := Lib.hid (X1_12.out.below hb13); clear X1_12
  have VX1_13 := Lib.hid (VX1_12.out.below hb13); clear VX1_12
  have G0_13 := Lib.hid (G0_12.out.below hb13); clear G0_12
  have VXG_13 := Lib.hid (VXG_12.out.below hb13); clear VXG_12
  have HS13 := Lib.hid hb13.size
  clear hb13
  have qBX0_0 : World.cell? w13 ⟨w.heap.size, 0, none⟩ = some (.int .i64 u0) := by rw [BX0_13.out.now.cell]; rfl
  have qBX0_1 : World.cell? w13 ⟨w.heap.size, 1, none⟩ = some (.slice A0 T0.length cap0) := by rw [BX0_13.out.now.cell]; rfl
  have qBX1_0 : World.cell? w13 ⟨w.heap.size + 1, 0, none⟩ = some (.int .i64 u1) := by rw [BX1_13.out.now.cell]; rfl
  have qBX1_1 : World.cell? w13 ⟨w.heap.size + 1, 1, none⟩ = some (.slice A1 T1.length cap1) := by rw [BX1_13.out.now.cell]; rfl
  have qVXR_0 : World.cell? w13 ⟨b4, 0, none⟩ = some (.int .i64 v0.1) := by rw [VXR_13.out.now.cell]; rfl
  have qVXR_1 : World.cell? w13 ⟨b4, 1, none⟩ = some (.slice AR0 v0.2.length cR0) := by rw [VXR_13.out.now.cell]; rfl
  have qVX0_0 : World.cell? w13 ⟨w5.heap.size, 0, none⟩ = some (.int .i64 u0) := by rw [VX0_13.out.now.cell]; rfl
  have qVX0_1 : World.cell? w13 ⟨w5.heap.size, 1, none⟩ = some (.slice (some ⟨g5, 0, none⟩) T0.length T0.length) := by rw [VX0_13.out.now.cell]; rfl
  have qVX1_0 : World.cell? w13 ⟨w7.heap.size, 0, none⟩ = some (.int .i64 u1) := by rw [VX1_13.out.now.cell]; rfl
  have qVX1_1 : World.cell? w13 ⟨w7.heap.size, 1, none⟩ = some (.slice (some ⟨g7, 0, none⟩) T1.length T1.length) := by rw [VX1_13.out.now.cell]; rfl
  have qVXG_0 : World.cell? w13 ⟨w9.heap.size, 0, none⟩ = some (.int .i64 v0.1) := by rw [VXG_13.out.now.cell]; rfl
  have qVXG_1 : World.cell? w13 ⟨w9.heap.size, 1, none⟩ = some (.slice AG0 v0.2.length cG0) := by rw [VXG_13.out.now.cell]; rfl
  go_wp2_with fail
  have KT14 : Hid (∀ wx, Below w13.heap.size w13 wx → Calls Try.prog 10 #[poV u1 A1 T1.length cap1] wx fun e w' => ∃ g, wx.heap.size ≤ g ∧ e = .returned (poV u1 (some ⟨g, 0, none⟩) T1.length T1.length) ∧ RT w' g w'.heap.size (some ⟨g, 0, none⟩) T1 ∧ Below wx.heap.size wx w') := fun wx hx => toPolyR u1 A1 cap1 T1 wx (S1.out.below (bnext HB13.out hx)) tl1 tt1
  have KS14 := Lib.hid (And.intro qVX1_0 (And.intro qVX1_1 (And.intro qBX1_0 qBX1_1)))
  go_region_held3 (fun wx => wx.cell? ⟨w7.heap.size, 0, none⟩ = some (.int .i64 u1) ∧ wx.cell? ⟨w7.heap.size, 1, none⟩ = some (.slice (some ⟨g7, 0, none⟩) T1.length T1.length) ∧ wx.cell? ⟨w.heap.size + 1, 0, none⟩ = some (.int .i64 u1) ∧ wx.cell? ⟨w.heap.size + 1, 1, none⟩ = some (.slice A1 T1.length cap1)) (first | exact KS14.out | exact KS14.out | go_keep | exact keep4q KS14.out hb14 | exact keep4q KS14.out (hb14.trans (hb15.mono hb14.size)))
    (first
      | (go_at_call 12; have _tk := hX14; (with_reducible refine (eqPoly_any u1 _ _ _ _ T1 _ (regTms (X1_13.out.below hb14) (by omega)) (regTms hX14 (by omega)) (by omega) (by omega)).mono ?_); rintro e w15 ⟨rfl, hb15⟩)
      | (go_at_call 10; refine (KT14.out _ (by first | exact (Below.refl _ _).drew | exact below_drewN' (Below.refl _ _) _ | exact Below.refl _ _)).mono ?_; rintro e w14 ⟨g14, hg14, rfl, hX14, hb14'⟩; have hb14 : Below w13.heap.size w13 w14 := by first | exact bdrew hb14' | exact bdrewN hb14' | exact hb14'))
  clear hX14 hg14 hb14' KS14 KT14
  clear qBX0_0 qBX0_1 qBX1_0 qBX1_1 qVXR_0 qVXR_1 qVX0_0 qVX0_1 qVX1_0 qVX1_1 qVXG_0 qVXG_1
  have HB14 := Lib.hid (bnext HB13.out hb14)
  have BX0_14 := Lib.hid (BX0_13.out.below hb14); clear BX0_13
  have BX1_14 := Lib.hid (BX1_13.out.below hb14); clear BX1_13
  have R0_14 := Lib.hid (R0_13.out.below hb14); clear R0_13
  have VXR_14 := Lib.hid (VXR_13.out.below hb14); clear VXR_13
  have X0_14 := Lib.hid (X0_13.out.below hb14); clear X0_13
  have VX0_14 := Lib.hid (VX0_13.out.below hb14); clear VX0_13
  have X1_14 := Lib.hid (X1_13.out.below hb14); clear X1_13
  have VX1_14 := Lib.hid (VX1_13.out.below hb14); clear VX1_13
  have G0_14 := Lib.hid (G0_13.out.below hb14); clear G0_13
  have VXG_14 := Lib.hid (VXG_13.out.below hb14); clear VXG_13
  have HS14 := Lib.hid hb14.size
  clear hb14
  have HB15 := Lib.hid (bnext HB14.out hb15)
  have BX0_15 := Lib.hid (BX0_14.out.below hb15); clear BX0_14
  have BX1_15 := Lib.hid (BX1_14.out.below hb15); clear BX1_14
  have R0_15 := Lib.hid (R0_14.out.below hb15); clear R0_14
  have VXR_15 := Lib.hid (VXR_14.out.below hb15); clear VXR_14
  have X0_15 := Lib.hid (X0_14.out.below hb15); clear X0_14
  have VX0_15 := Lib.hid (VX0_14.out.below hb15); clear VX0_14
  have X1_15 := Lib.hid (X1_14.out.below hb15); clear X1_14
  have VX1_15 := Lib.hid (VX1_14.out.below hb15); clear VX1_14
  have G0_15 := Lib.hid (G0_14.out.below hb15); clear G0_14
  have VXG_15 := Lib.hid (VXG_14.out.below hb15); clear VXG_14
  have HS15 := Lib.hid hb15.size
  clear hb15
  have qBX0_0 : World.cell? w15 ⟨w.heap.size, 0, none⟩ = some (.int .i64 u0) := by rw [BX0_15.out.now.cell]; rfl
  have qBX0_1 : World.cell? w15 ⟨w.heap.size, 1, none⟩ = some (.slice A0 T0.length cap0) := by rw [BX0_15.out.now.cell]; rfl
  have qBX1_0 : World.cell? w15 ⟨w.heap.size + 1, 0, none⟩ = some (.int .i64 u1) := by rw [BX1_15.out.now.cell]; rfl
  have qBX1_1 : World.cell? w15 ⟨w.heap.size + 1, 1, none⟩ = some (.slice A1 T1.length cap1) := by rw [BX1_15.out.now.cell]; rfl
  have qVXR_0 : World.cell? w15 ⟨b4, 0, none⟩ = some (.int .i64 v0.1) := by rw [VXR_15.out.now.cell]; rfl
  have qVXR_1 : World.cell? w15 ⟨b4, 1, none⟩ = some (.slice AR0 v0.2.length cR0) := by rw [VXR_15.out.now.cell]; rfl
  have qVX0_0 : World.cell? w15 ⟨w5.heap.size, 0, none⟩ = some (.int .i64 u0) := by rw [VX0_15.out.now.cell]; rfl
  have qVX0_1 : World.cell? w15 ⟨w5.heap.size, 1, none⟩ = some (.slice (some ⟨g5, 0, none⟩) T0.length T0.length) := by rw [VX0_15.out.now.cell]; rfl
  have qVX1_0 : World.cell? w15 ⟨w7.heap.size, 0, none⟩ = some (.int .i64 u1) := by rw [VX1_15.out.now.cell]; rfl
  have qVX1_1 : World.cell? w15 ⟨w7.heap.size, 1, none⟩ = some (.slice (some ⟨g7, 0, none⟩) T1.length T1.length) := by rw [VX1_15.out.now.cell]; rfl
  have qVXG_0 : World.cell? w15 ⟨w9.heap.size, 0, none⟩ = some (.int .i64 v0.1) := by rw [VXG_15.out.now.cell]; rfl
  have qVXG_1 : World.cell? w15 ⟨w9.heap.size, 1, none⟩ = some (.slice AG0 v0.2.length cG0) := by rw [VXG_15.out.now.cell]; rfl
  go_wp2_with fail
  refine (markPolyV u0 _ X0_15.out (by omega) (by omega) (by omega) (by omega)).mono ?_; rintro e w16 ⟨rfl, _, hO16⟩
  clear X0_15
  have hzq16 : (tmSize T0 : Int) ≤ 1048576 := by have := Z0.out; omega
  obtain ⟨k16, hk16, k216, k316⟩ : ∃ k16 : Int, k16 = 1 + (tmSize T0 : Nat) ∧ 0 ≤ k16 ∧ k16 ≤ 1 + 1048576 := ⟨_, rfl, by omega, by omega⟩
  rw [← hk16]
  clear hk16
  clear qBX0_0 qBX0_1 qBX1_0 qBX1_1 qVXR_0 qVXR_1 qVX0_0 qVX0_1 qVX1_0 qVX1_1 qVXG_0 qVXG_1
  have hz16 : w.heap.size ≤ g5 ∧ g5 ≤ w5.heap.size ∧ w5.heap.size ≤ w15.heap.size := by have := HS0.out; have := HQB0.out; have := HQB1.out; have := HS1.out; have := HS2.out; have := HS4.out; have := HZ4.out; have := HS5.out; have := HG5.out; have := HQ5.out; have := HS6.out; have := HQ6.out; have := HS7.out; have := HG7.out; have := HQ7.out; have := HS8.out; have := HQ8.out; have := HS9.out; have := HS10.out; have := HQ10.out; have := HS11.out; have := HS12.out; have := HS13.out; have := HS14.out; have := HS15.out; omega
  have HB16 := Lib.hid (belowRegion HB15.out hO16 hz16.1)
  have BX0_16 := Lib.hid (BX0_15.out.apart hO16 (by have := HS0.out; have := HQB0.out; have := HQB1.out; have := HS1.out; have := HS2.out; have := HS4.out; have := HZ4.out; have := HS5.out; have := HG5.out; have := HQ5.out; have := HS6.out; have := HQ6.out; have := HS7.out; have := HG7.out; have := HQ7.out; have := HS8.out; have := HQ8.out; have := HS9.out; have := HS10.out; have := HQ10.out; have := HS11.out; have := HS12.out; have := HS13.out; have := HS14.out; have := HS15.out; omega)); clear BX0_15
  have BX1_16 := Lib.hid (BX1_15.out.apart hO16 (by have := HS0.out; have := HQB0.out; have := HQB1.out; have := HS1.out; have := HS2.out; have := HS4.out; have := HZ4.out; have := HS5.out; have := HG5.out; have := HQ5.out; have := HS6.out; have := HQ6.out; have := HS7.out; have := HG7.out; have := HQ7.out; have := HS8.out; have := HQ8.out; have := HS9.out; have := HS10.out; have := HQ10.out; have := HS11.out; have := HS12.out; have := HS13.out; have := HS14.out; have := HS15.out; omega)); clear BX1_15
  have R0_16 := Lib.hid (R0_15.out.apart hO16 (by have := HS0.out; have := HQB0.out; have := HQB1.out; have := HS1.out; have := HS2.out; have := HS4.out; have := HZ4.out; have := HS5.out; have := HG5.out; have := HQ5.out; have := HS6.out; have := HQ6.out; have := HS7.out; have := HG7.out; have := HQ7.out; have := HS8.out; have := HQ8.out; have := HS9.out; have := HS10.out; have := HQ10.out; have := HS11.out; have := HS12.out; have := HS13.out; have := HS14.out; have := HS15.out; omega)); clear R0_15
  have VXR_16 := Lib.hid (VXR_15.out.apart hO16 (by have := HS0.out; have := HQB0.out; have := HQB1.out; have := HS1.out; have := HS2.out; have := HS4.out; have := HZ4.out; have := HS5.out; have := HG5.out; have := HQ5.out; have := HS6.out; have := HQ6.out; have := HS7.out; have := HG7.out; have := HQ7.out; have := HS8.out; have := HQ8.out; have := HS9.out; have := HS10.out; have := HQ10.out; have := HS11.out; have := HS12.out; have := HS13.out; have := HS14.out; have := HS15.out; omega)); clear VXR_15
  have VX0_16 := Lib.hid (VX0_15.out.apart hO16 (by have := HS0.out; have := HQB0.out; have := HQB1.out; have := HS1.out; have := HS2.out; have := HS4.out; have := HZ4.out; have := HS5.out; have := HG5.out; have := HQ5.out; have := HS6.out; have := HQ6.out; have := HS7.out; have := HG7.out; have := HQ7.out; have := HS8.out; have := HQ8.out; have := HS9.out; have := HS10.out; have := HQ10.out; have := HS11.out; have := HS12.out; have := HS13.out; have := HS14.out; have := HS15.out; omega)); clear VX0_15
  have X1_16 := Lib.hid (X1_15.out.apart hO16 (by have := HS0.out; have := HQB0.out; have := HQB1.out; have := HS1.out; have := HS2.out; have := HS4.out; have := HZ4.out; have := HS5.out; have := HG5.out; have := HQ5.out; have := HS6.out; have := HQ6.out; have := HS7.out; have := HG7.out; have := HQ7.out; have := HS8.out; have := HQ8.out; have := HS9.out; have := HS10.out; have := HQ10.out; have := HS11.out; have := HS12.out; have := HS13.out; have := HS14.out; have := HS15.out; omega)); clear X1_15
  have VX1_16 := Lib.hid (VX1_15.out.apart hO16 (by have := HS0.out; have := HQB0.out; have := HQB1.out; have := HS1.out; have := HS2.out; have := HS4.out; have := HZ4.out; have := HS5.out; have := HG5.out; have := HQ5.out; have := HS6.out; have := HQ6.out; have := HS7.out; have := HG7.out; have := HQ7.out; have := HS8.out; have := HQ8.out; have := HS9.out; have := HS10.out; have := HQ10.out; have := HS11.out; have := HS12.out; have := HS13.out; have := HS14.out; have := HS15.out; omega)); clear VX1_15
  have G0_16 := Lib.hid (G0_15.out.apart hO16 (by have := HS0.out; have := HQB0.out; have := HQB1.out; have := HS1.out; have := HS2.out; have := HS4.out; have := HZ4.out; have := HS5.out; have := HG5.out; have := HQ5.out; have := HS6.out; have := HQ6.out; have := HS7.out; have := HG7.out; have := HQ7.out; have := HS8.out; have := HQ8.out; have := HS9.out; have := HS10.out; have := HQ10.out; have := HS11.out; have := HS12.out; have := HS13.out; have := HS14.out; have := HS15.out; omega)); clear G0_15
  have VXG_16 := Lib.hid (VXG_15.out.apart hO16 (by have := HS0.out; have := HQB0.out; have := HQB1.out; have := HS1.out; have := HS2.out; have := HS4.out; have := HZ4.out; have := HS5.out; have := HG5.out; have := HQ5.out; have := HS6.out; have := HQ6.out; have := HS7.out; have := HG7.out; have := HQ7.out; have := HS8.out; have := HQ8.out; have := HS9.out; have := HS10.out; have := HQ10.out; have := HS11.out; have := HS12.out; have := HS13.out; have := HS14.out; have := HS15.out; omega)); clear VXG_15
  have HS16 := Lib.hid hO16.size
  clear hO16 hz16
  have qBX0_0 : World.cell? w16 ⟨w.heap.size, 0, none⟩ = some (.int .i64 u0) := by rw [BX0_16.out.now.cell]; rfl
  have qBX0_1 : World.cell? w16 ⟨w.heap.size, 1, none⟩ = some (.slice A0 T0.length cap0) := by rw [BX0_16.out.now.cell]; rfl
  have qBX1_0 : World.cell? w16 ⟨w.heap.size + 1, 0, none⟩ = some (.int .i64 u1) := by rw [BX1_16.out.now.cell]; rfl
  have qBX1_1 : World.cell? w16 ⟨w.heap.size + 1, 1, none⟩ = some (.slice A1 T1.length cap1) := by rw [BX1_16.out.now.cell]; rfl
  have qVXR_0 : World.cell? w16 ⟨b4, 0, none⟩ = some (.int .i64 v0.1) := by rw [VXR_16.out.now.cell]; rfl
  have qVXR_1 : World.cell? w16 ⟨b4, 1, none⟩ = some (.slice AR0 v0.2.length cR0) := by rw [VXR_16.out.now.cell]; rfl
  have qVX0_0 : World.cell? w16 ⟨w5.heap.size, 0, none⟩ = some (.int .i64 u0) := by rw [VX0_16.out.now.cell]; rfl
  have qVX0_1 : World.cell? w16 ⟨w5.heap.size, 1, none⟩ = some (.slice (some ⟨g5, 0, none⟩) T0.length T0.length) := by rw [VX0_16.out.now.cell]; rfl
  have qVX1_0 : World.cell? w16 ⟨w7.heap.size, 0, none⟩ = some (.int .i64 u1) := by rw [VX1_16.out.now.cell]; rfl
  have qVX1_1 : World.cell? w16 ⟨w7.heap.size, 1, none⟩ = some (.slice (some ⟨g7, 0, none⟩) T1.length T1.length) := by rw [VX1_16.out.now.cell]; rfl
  have qVXG_0 : World.cell? w16 ⟨w9.heap.size, 0, none⟩ = some (.int .i64 v0.1) := by rw [VXG_16.out.now.cell]; rfl
  have qVXG_1 : World.cell? w16 ⟨w9.heap.size, 1, none⟩ = some (.slice AG0 v0.2.length cG0) := by rw [VXG_16.out.now.cell]; rfl
  go_wp2_with fail
  refine (markPolyV u1 _ X1_16.out (by omega) (by omega) (by omega) (by omega)).mono ?_; rintro e w17 ⟨rfl, _, hO17⟩
  clear X1_16
  have hzq17 : (tmSize T1 : Int) ≤ 1048576 := by have := Z1.out; omega
  obtain ⟨k17, hk17, k217, k317⟩ : ∃ k17 : Int, k17 = k16 + (tmSize T1 : Nat) ∧ 0 ≤ k17 ∧ k17 ≤ k16 + 1048576 := ⟨_, rfl, by omega, by omega⟩
  rw [← hk17]
  clear hk17
  clear qBX0_0 qBX0_1 qBX1_0 qBX1_1 qVXR_0 qVXR_1 qVX0_0 qVX0_1 qVX1_0 qVX1_1 qVXG_0 qVXG_1
  have hz17 : w.heap.size ≤ g7 ∧ g7 ≤ w7.heap.size ∧ w7.heap.size ≤ w16.heap.size := by have := HS0.out; have := HQB0.out; have := HQB1.out; have := HS1.out; have := HS2.out; have := HS4.out; have := HZ4.out; have := HS5.out; have := HG5.out; have := HQ5.out; have := HS6.out; have := HQ6.out; have := HS7.out; have := HG7.out; have := HQ7.out; have := HS8.out; have := HQ8.out; have := HS9.out; have := HS10.out; have := HQ10.out; have := HS11.out; have := HS12.out; have := HS13.out; have := HS14.out; have := HS15.out; have := HS16.out; omega
  have HB17 := Lib.hid (belowRegion HB16.out hO17 hz17.1)
  have BX0_17 := Lib.hid (BX0_16.out.apart hO17 (by have := HS0.out; have := HQB0.out; have := HQB1.out; have := HS1.out; have := HS2.out; have := HS4.out; have := HZ4.out; have := HS5.out; have := HG5.out; have := HQ5.out; have := HS6.out; have := HQ6.out; have := HS7.out; have := HG7.out; have := HQ7.out; have := HS8.out; have := HQ8.out; have := HS9.out; have := HS10.out; have := HQ10.out; have := HS11.out; have := HS12.out; have := HS13.out; have := HS14.out; have := HS15.out; have := HS16.out; omega)); clear BX0_16
  have BX1_17 := Lib.hid (BX1_16.out.apart hO17 (by have := HS0.out; have := HQB0.out; have := HQB1.out; have := HS1.out; have := HS2.out; have := HS4.out; have := HZ4.out; have := HS5.out; have := HG5.out; have := HQ5.out; have := HS6.out; have := HQ6.out; have := HS7.out; have := HG7.out; have := HQ7.out; have := HS8.out; have := HQ8.out; have := HS9.out; have := HS10.out; have := HQ10.out; have := HS11.out; have := HS12.out; have := HS13.out; have := HS14.out; have := HS15.out; have := HS16.out; omega)); clear BX1_16
  have R0_17 := Lib.hid (R0_16.out.apart hO17 (by have := HS0.out; have := HQB0.out; have := HQB1.out; have := HS1.out; have := HS2.out; have := HS4.out; have := HZ4.out; have := HS5.out; have := HG5.out; have := HQ5.out; have := HS6.out; have := HQ6.out; have := HS7.out; have := HG7.out; have := HQ7.out; have := HS8.out; have := HQ8.out; have := HS9.out; have := HS10.out; have := HQ10.out; have := HS11.out; have := HS12.out; have := HS13.out; have := HS14.out; have := HS15.out; have := HS16.out; omega)); clear R0_16
  have VXR_17 := Lib.hid (VXR_16.out.apart hO17 (by have := HS0.out; have := HQB0.out; have := HQB1.out; have := HS1.out; have := HS2.out; have := HS4.out; have := HZ4.out; have := HS5.out; have := HG5.out; have := HQ5.out; have := HS6.out; have := HQ6.out; have := HS7.out; have := HG7.out; have := HQ7.out; have := HS8.out; have := HQ8.out; have := HS9.out; have := HS10.out; have := HQ10.out; have := HS11.out; have := HS12.out; have := HS13.out; have := HS14.out; have := HS15.out; have := HS16.out; omega)); clear VXR_16
  have VX0_17 := Lib.hid (VX0_16.out.apart hO17 (by have := HS0.out; have := HQB0.out; have := HQB1.out; have := HS1.out; have := HS2.out; have := HS4.out; have := HZ4.out; have := HS5.out; have := HG5.out; have := HQ5.out; have := HS6.out; have := HQ6.out; have := HS7.out; have := HG7.out; have := HQ7.out; have := HS8.out; have := HQ8.out; have := HS9.out; have := HS10.out; have := HQ10.out; have := HS11.out; have := HS12.out; have := HS13.out; have := HS14.out; have := HS15.out; have := HS16.out; omega)); clear VX0_16
  have VX1_17 := Lib.hid (VX1_16.out.apart hO17 (by have := HS0.out; have := HQB0.out; have := HQB1.out; have := HS1.out; have := HS2.out; have := HS4.out; have := HZ4.out; have := HS5.out; have := HG5.out; have := HQ5.out; have := HS6.out; have := HQ6.out; have := HS7.out; have := HG7.out; have := HQ7.out; have := HS8.out; have := HQ8.out; have := HS9.out; have := HS10.out; have := HQ10.out; have := HS11.out; have := HS12.out; have := HS13.out; have := HS14.out; have := HS15.out; have := HS16.out; omega)); clear VX1_16
  have G0_17 := Lib.hid (G0_16.out.apart hO17 (by have := HS0.out; have := HQB0.out; have := HQB1.out; have := HS1.out; have := HS2.out; have := HS4.out; have := HZ4.out; have := HS5.out; have := HG5.out; have := HQ5.out; have := HS6.out; have := HQ6.out; have := HS7.out; have := HG7.out; have := HQ7.out; have := HS8.out; have := HQ8.out; have := HS9.out; have := HS10.out; have := HQ10.out; have := HS11.out; have := HS12.out; have := HS13.out; have := HS14.out; have := HS15.out; have := HS16.out; omega)); clear G0_16
  have VXG_17 := Lib.hid (VXG_16.out.apart hO17 (by have := HS0.out; have := HQB0.out; have := HQB1.out; have := HS1.out; have := HS2.out; have := HS4.out; have := HZ4.out; have := HS5.out; have := HG5.out; have := HQ5.out; have := HS6.out; have := HQ6.out; have := HS7.out; have := HG7.out; have := HQ7.out; have := HS8.out; have := HQ8.out; have := HS9.out; have := HS10.out; have := HQ10.out; have := HS11.out; have := HS12.out; have := HS13.out; have := HS14.out; have := HS15.out; have := HS16.out; omega)); clear VXG_16
  have HS17 := Lib.hid hO17.size
  clear hO17 hz17
  have hkk : decide (k17 < 0) = false := by simpa using k217
  have qBX0_0 : World.cell? w17 ⟨w.heap.size, 0, none⟩ = some (.int .i64 u0) := by rw [BX0_17.out.now.cell]; rfl
  have qBX0_1 : World.cell? w17 ⟨w.heap.size, 1, none⟩ = some (.slice A0 T0.length cap0) := by rw [BX0_17.out.now.cell]; rfl
  have qBX1_0 : World.cell? w17 ⟨w.heap.size + 1, 0, none⟩ = some (.int .i64 u1) := by rw [BX1_17.out.now.cell]; rfl
  have qBX1_1 : World.cell? w17 ⟨w.heap.size + 1, 1, none⟩ = some (.slice A1 T1.length cap1) := by rw [BX1_17.out.now.cell]; rfl
  have qVXR_0 : World.cell? w17 ⟨b4, 0, none⟩ = some (.int .i64 v0.1) := by rw [VXR_17.out.now.cell]; rfl
  have qVXR_1 : World.cell? w17 ⟨b4, 1, none⟩ = some (.slice AR0 v0.2.length cR0) := by rw [VXR_17.out.now.cell]; rfl
  have qVX0_0 : World.cell? w17 ⟨w5.heap.size, 0, none⟩ = some (.int .i64 u0) := by rw [VX0_17.out.now.cell]; rfl
  have qVX0_1 : World.cell? w17 ⟨w5.heap.size, 1, none⟩ = some (.slice (some ⟨g5, 0, none⟩) T0.length T0.length) := by rw [VX0_17.out.now.cell]; rfl
  have qVX1_0 : World.cell? w17 ⟨w7.heap.size, 0, none⟩ = some (.int .i64 u1) := by rw [VX1_17.out.now.cell]; rfl
  have qVX1_1 : World.cell? w17 ⟨w7.heap.size, 1, none⟩ = some (.slice (some ⟨g7, 0, none⟩) T1.length T1.length) := by rw [VX1_17.out.now.cell]; rfl
  have qVXG_0 : World.cell? w17 ⟨w9.heap.size, 0, none⟩ = some (.int .i64 v0.1) := by rw [VXG_17.out.now.cell]; rfl
  have qVXG_1 : World.cell? w17 ⟨w9.heap.size, 1, none⟩ = some (.slice AG0 v0.2.length cG0) := by rw [VXG_17.out.now.cell]; rfl
  go_wp2_with fail
  refine (eqPoly_any v0.1 AG0 AR0 cG0 cR0 v0.2 _ (regTms G0_17.out (by omega)) (regTms R0_17.out (by omega)) (by omega) (by omega)).mono ?_; rintro e w18 ⟨rfl, hb18⟩
  clear qBX0_0 qBX0_1 qBX1_0 qBX1_1 qVXR_0 qVXR_1 qVX0_0 qVX0_1 qVX1_0 qVX1_1 qVXG_0 qVXG_1
  have HB18 := Lib.hid (bnext HB17.out hb18)
  have BX0_18 := Lib.hid (BX0_17.out.below hb18); clear BX0_17
  have BX1_18 := Lib.hid (BX1_17.out.below hb18); clear BX1_17
  have R0_18 := Lib.hid (R0_17.out.below hb18); clear R0_17
  have VXR_18 := Lib.hid (VXR_17.out.below hb18); clear VXR_17
  have VX0_18 := Lib.hid (VX0_17.out.below hb18); clear VX0_17
  have VX1_18 := Lib.hid (VX1_17.out.below hb18); clear VX1_17
  have G0_18 := Lib.hid (G0_17.out.below hb18); clear G0_17
  have VXG_18 := Lib.hid (VXG_17.out.below hb18); clear VXG_17
  have HS18 := Lib.hid hb18.size
  clear hb18
  have qBX0_0 : World.cell? w18 ⟨w.heap.size, 0, none⟩ = some (.int .i64 u0) := by rw [BX0_18.out.now.cell]; rfl
  have qBX0_1 : World.cell? w18 ⟨w.heap.size, 1, none⟩ = some (.slice A0 T0.length cap0) := by rw [BX0_18.out.now.cell]; rfl
  have qBX1_0 : World.cell? w18 ⟨w.heap.size + 1, 0, none⟩ = some (.int .i64 u1) := by rw [BX1_18.out.now.cell]; rfl
  have qBX1_1 : World.cell? w18 ⟨w.heap.size + 1, 1, none⟩ = some (.slice A1 T1.length cap1) := by rw [BX1_18.out.now.cell]; rfl
  have qVXR_0 : World.cell? w18 ⟨b4, 0, none⟩ = some (.int .i64 v0.1) := by rw [VXR_18.out.now.cell]; rfl
  have qVXR_1 : World.cell? w18 ⟨b4, 1, none⟩ = some (.slice AR0 v0.2.length cR0) := by rw [VXR_18.out.now.cell]; rfl
  have qVX0_0 : World.cell? w18 ⟨w5.heap.size, 0, none⟩ = some (.int .i64 u0) := by rw [VX0_18.out.now.cell]; rfl
  have qVX0_1 : World.cell? w18 ⟨w5.heap.size, 1, none⟩ = some (.slice (some ⟨g5, 0, none⟩) T0.length T0.length) := by rw [VX0_18.out.now.cell]; rfl
  have qVX1_0 : World.cell? w18 ⟨w7.heap.size, 0, none⟩ = some (.int .i64 u1) := by rw [VX1_18.out.now.cell]; rfl
  have qVX1_1 : World.cell? w18 ⟨w7.heap.size, 1, none⟩ = some (.slice (some ⟨g7, 0, none⟩) T1.length T1.length) := by rw [VX1_18.out.now.cell]; rfl
  have qVXG_0 : World.cell? w18 ⟨w9.heap.size, 0, none⟩ = some (.int .i64 v0.1) := by rw [VXG_18.out.now.cell]; rfl
  have qVXG_1 : World.cell? w18 ⟨w9.heap.size, 1, none⟩ = some (.slice AG0 v0.2.length cG0) := by rw [VXG_18.out.now.cell]; rfl
  go_wp2_with fail
  refine (markPolyV v0.1 cG0 G0_18.out (by omega) (by omega) (by omega) (by omega)).mono ?_; rintro e w19 ⟨rfl, hM19, hO19⟩
  clear G0_18
  clear qBX0_0 qBX0_1 qBX1_0 qBX1_1 qVXR_0 qVXR_1 qVX0_0 qVX0_1 qVX1_0 qVX1_1 qVXG_0 qVXG_1
  have hz19 : w.heap.size ≤ w8.heap.size ∧ w8.heap.size ≤ w9.heap.size ∧ w9.heap.size ≤ w18.heap.size := by have := HS0.out; have := HQB0.out; have := HQB1.out; have := HS1.out; have := HS2.out; have := HS4.out; have := HZ4.out; have := HS5.out; have := HG5.out; have := HQ5.out; have := HS6.out; have := HQ6.out; have := HS7.out; have := HG7.out; have := HQ7.out; have := HS8.out; have := HQ8.out; have := HS9.out; have := HS10.out; have := HQ10.out; have := HS11.out; have := HS12.out; have := HS13.out; have := HS14.out; have := HS15.out; have := HS16.out; have := HS17.out; have := HS18.out; omega
  have HB19 := Lib.hid (belowRegion HB18.out hO19 hz19.1)
  have BX0_19 := Lib.hid (BX0_18.out.apart hO19 (by have := HS0.out; have := HQB0.out; have := HQB1.out; have := HS1.out; have := HS2.out; have := HS4.out; have := HZ4.out; have := HS5.out; have := HG5.out; have := HQ5.out; have := HS6.out; have := HQ6.out; have := HS7.out; have := HG7.out; have := HQ7.out; have := HS8.out; have := HQ8.out; have := HS9.out; have := HS10.out; have := HQ10.out; have := HS11.out; have := HS12.out; have := HS13.out; have := HS14.out; have := HS15.out; have := HS16.out; have := HS17.out; have := HS18.out; omega)); clear BX0_18
  have BX1_19 := Lib.hid (BX1_18.out.apart hO19 (by have := HS0.out; have := HQB0.out; have := HQB1.out; have := HS1.out; have := HS2.out; have := HS4.out; have := HZ4.out; have := HS5.out; have := HG5.out; have := HQ5.out; have := HS6.out; have := HQ6.out; have := HS7.out; have := HG7.out; have := HQ7.out; have := HS8.out; have := HQ8.out; have := HS9.out; have := HS10.out; have := HQ10.out; have := HS11.out; have := HS12.out; have := HS13.out; have := HS14.out; have := HS15.out; have := HS16.out; have := HS17.out; have := HS18.out; omega)); clear BX1_18
  have R0_19 := Lib.hid (R0_18.out.apart hO19 (by have := HS0.out; have := HQB0.out; have := HQB1.out; have := HS1.out; have := HS2.out; have := HS4.out; have := HZ4.out; have := HS5.out; have := HG5.out; have := HQ5.out; have := HS6.out; have := HQ6.out; have := HS7.out; have := HG7.out; have := HQ7.out; have := HS8.out; have := HQ8.out; have := HS9.out; have := HS10.out; have := HQ10.out; have := HS11.out; have := HS12.out; have := HS13.out; have := HS14.out; have := HS15.out; have := HS16.out; have := HS17.out; have := HS18.out; omega)); clear R0_18
  have VXR_19 := Lib.hid (VXR_18.out.apart hO19 (by have := HS0.out; have := HQB0.out; have := HQB1.out; have := HS1.out; have := HS2.out; have := HS4.out; have := HZ4.out; have := HS5.out; have := HG5.out; have := HQ5.out; have := HS6.out; have := HQ6.out; have := HS7.out; have := HG7.out; have := HQ7.out; have := HS8.out; have := HQ8.out; have := HS9.out; have := HS10.out; have := HQ10.out; have := HS11.out; have := HS12.out; have := HS13.out; have := HS14.out; have := HS15.out; have := HS16.out; have := HS17.out; have := HS18.out; omega)); clear VXR_18
  have VX0_19 := Lib.hid (VX0_18.out.apart hO19 (by have := HS0.out; have := HQB0.out; have := HQB1.out; have := HS1.out; have := HS2.out; have := HS4.out; have := HZ4.out; have := HS5.out; have := HG5.out; have := HQ5.out; have := HS6.out; have := HQ6.out; have := HS7.out; have := HG7.out; have := HQ7.out; have := HS8.out; have := HQ8.out; have := HS9.out; have := HS10.out; have := HQ10.out; have := HS11.out; have := HS12.out; have := HS13.out; have := HS14.out; have := HS15.out; have := HS16.out; have := HS17.out; have := HS18.out; omega)); clear VX0_18
  have VX1_19 := Lib.hid (VX1_18.out.apart hO19 (by have := HS0.out; have := HQB0.out; have := HQB1.out; have := HS1.out; have := HS2.out; have := HS4.out; have := HZ4.out; have := HS5.out; have := HG5.out; have := HQ5.out; have := HS6.out; have := HQ6.out; have := HS7.out; have := HG7.out; have := HQ7.out; have := HS8.out; have := HQ8.out; have := HS9.out; have := HS10.out; have := HQ10.out; have := HS11.out; have := HS12.out; have := HS13.out; have := HS14.out; have := HS15.out; have := HS16.out; have := HS17.out; have := HS18.out; omega)); clear VX1_18
  have VXG_19 := Lib.hid (VXG_18.out.apart hO19 (by have := HS0.out; have := HQB0.out; have := HQB1.out; have := HS1.out; have := HS2.out; have := HS4.out; have := HZ4.out; have := HS5.out; have := HG5.out; have := HQ5.out; have := HS6.out; have := HQ6.out; have := HS7.out; have := HG7.out; have := HQ7.out; have := HS8.out; have := HQ8.out; have := HS9.out; have := HS10.out; have := HQ10.out; have := HS11.out; have := HS12.out; have := HS13.out; have := HS14.out; have := HS15.out; have := HS16.out; have := HS17.out; have := HS18.out; omega)); clear VXG_18
  have HS19 := Lib.hid hO19.size
  clear hO19 hz19
  have G0_19 := Lib.hid hM19; clear hM19
  have qBX0_0 : World.cell? w19 ⟨w.heap.size, 0, none⟩ = some (.int .i64 u0) := by rw [BX0_19.out.now.cell]; rfl
  have qBX0_1 : World.cell? w19 ⟨w.heap.size, 1, none⟩ = some (.slice A0 T0.length cap0) := by rw [BX0_19.out.now.cell]; rfl
  have qBX1_0 : World.cell? w19 ⟨w.heap.size + 1, 0, none⟩ = some (.int .i64 u1) := by rw [BX1_19.out.now.cell]; rfl
  have qBX1_1 : World.cell? w19 ⟨w.heap.size + 1, 1, none⟩ = some (.slice A1 T1.length cap1) := by rw [BX1_19.out.now.cell]; rfl
  have qVXR_0 : World.cell? w19 ⟨b4, 0, none⟩ = some (.int .i64 v0.1) := by rw [VXR_19.out.now.cell]; rfl
  have qVXR_1 : World.cell? w19 ⟨b4, 1, none⟩ = some (.slice AR0 v0.2.length cR0) := by rw [VXR_19.out.now.cell]; rfl
  have qVX0_0 : World.cell? w19 ⟨w5.heap.size, 0, none⟩ = some (.int .i64 u0) := by rw [VX0_19.out.now.cell]; rfl
  have qVX0_1 : World.cell? w19 ⟨w5.heap.size, 1, none⟩ = some (.slice (some ⟨g5, 0, none⟩) T0.length T0.length) := by rw [VX0_19.out.now.cell]; rfl
  have qVX1_0 : World.cell? w19 ⟨w7.heap.size, 0, none⟩ = some (.int .i64 u1) := by rw [VX1_19.out.now.cell]; rfl
  have qVX1_1 : World.cell? w19 ⟨w7.heap.size, 1, none⟩ = some (.slice (some ⟨g7, 0, none⟩) T1.length T1.length) := by rw [VX1_19.out.now.cell]; rfl
  have qVXG_0 : World.cell? w19 ⟨w9.heap.size, 0, none⟩ = some (.int .i64 v0.1) := by rw [VXG_19.out.now.cell]; rfl
  have qVXG_1 : World.cell? w19 ⟨w9.heap.size, 1, none⟩ = some (.slice AG0 v0.2.length cG0) := by rw [VXG_19.out.now.cell]; rfl
  go_wp2_with fail
  refine (heldPolyV v0.1 cG0 G0_19.out (by omega) (by omega) (by omega) (by omega)).mono ?_; rintro e w20 ⟨rfl, hb20⟩
  clear qBX0_0 qBX0_1 qBX1_0 qBX1_1 qVXR_0 qVXR_1 qVX0_0 qVX0_1 qVX1_0 qVX1_1 qVXG_0 qVXG_1
  have HB20 := Lib.hid (bnext HB19.out hb20)
  have BX0_20 := Lib.hid (BX0_19.out.below hb20); clear BX0_19
  have BX1_20 := Lib.hid (BX1_19.out.below hb20); clear BX1_19
  have R0_20 := Lib.hid (R0_19.out.below hb20); clear R0_19
  have VXR_20 := Lib.hid (VXR_19.out.below hb20); clear VXR_19
  have VX0_20 := Lib.hid (VX0_19.out.below hb20); clear VX0_19
  have VX1_20 := Lib.hid (VX1_19.out.below hb20); clear VX1_19
  have VXG_20 := Lib.hid (VXG_19.out.below hb20); clear VXG_19
  have G0_20 := Lib.hid (G0_19.out.below hb20); clear G0_19
  have HS20 := Lib.hid hb20.size
  clear hb20
  have qBX0_0 : World.cell? w20 ⟨w.heap.size, 0, none⟩ = some (.int .i64 u0) := by rw [BX0_20.out.now.cell]; rfl
  have qBX0_1 : World.cell? w20 ⟨w.heap.size, 1, none⟩ = some (.slice A0 T0.length cap0) := by rw [BX0_20.out.now.cell]; rfl
  have qBX1_0 : World.cell? w20 ⟨w.heap.size + 1, 0, none⟩ = some (.int .i64 u1) := by rw [BX1_20.out.now.cell]; rfl
  have qBX1_1 : World.cell? w20 ⟨w.heap.size + 1, 1, none⟩ = some (.slice A1 T1.length cap1) := by rw [BX1_20.out.now.cell]; rfl
  have qVXR_0 : World.cell? w20 ⟨b4, 0, none⟩ = some (.int .i64 v0.1) := by rw [VXR_20.out.now.cell]; rfl
  have qVXR_1 : World.cell? w20 ⟨b4, 1, none⟩ = some (.slice AR0 v0.2.length cR0) := by rw [VXR_20.out.now.cell]; rfl
  have qVX0_0 : World.cell? w20 ⟨w5.heap.size, 0, none⟩ = some (.int .i64 u0) := by rw [VX0_20.out.now.cell]; rfl
  have qVX0_1 : World.cell? w20 ⟨w5.heap.size, 1, none⟩ = some (.slice (some ⟨g5, 0, none⟩) T0.length T0.length) := by rw [VX0_20.out.now.cell]; rfl
  have qVX1_0 : World.cell? w20 ⟨w7.heap.size, 0, none⟩ = some (.int .i64 u1) := by rw [VX1_20.out.now.cell]; rfl
  have qVX1_1 : World.cell? w20 ⟨w7.heap.size, 1, none⟩ = some (.slice (some ⟨g7, 0, none⟩) T1.length T1.length) := by rw [VX1_20.out.now.cell]; rfl
  have qVXG_0 : World.cell? w20 ⟨w9.heap.size, 0, none⟩ = some (.int .i64 v0.1) := by rw [VXG_20.out.now.cell]; rfl
  have qVXG_1 : World.cell? w20 ⟨w9.heap.size, 1, none⟩ = some (.slice AG0 v0.2.length cG0) := by rw [VXG_20.out.now.cell]; rfl
  go_wp2_with fail
  clear VX0_20 qVX0_0 qVX0_1
  clear VX1_20 qVX1_0 qVX1_1
  have SB21 : Hid (∀ wx, Below w20.heap.size w20 wx → wx.cell? ⟨w.heap.size, 0, none⟩ = some (.int .i64 u0) ∧ wx.cell? ⟨w.heap.size, 1, none⟩ = some (.slice A0 T0.length cap0) ∧ wx.cell? ⟨w.heap.size + 1, 0, none⟩ = some (.int .i64 u1) ∧ wx.cell? ⟨w.heap.size + 1, 1, none⟩ = some (.slice A1 T1.length cap1)) := fun wx hb => ⟨by have h := BX0_20.out.below hb; rw [h.now.cell]; rfl, by have h := BX0_20.out.below hb; rw [h.now.cell]; rfl, by have h := BX1_20.out.below hb; rw [h.now.cell]; rfl, by have h := BX1_20.out.below hb; rw [h.now.cell]; rfl⟩
  have KT21_0 : Hid (∀ wx, Below w20.heap.size w20 wx → Calls Try.prog 10 #[poV u0 A0 T0.length cap0] wx fun e w' => ∃ g, wx.heap.size ≤ g ∧ e = .returned (poV u0 (some ⟨g, 0, none⟩) T0.length T0.length) ∧ RT w' g w'.heap.size (some ⟨g, 0, none⟩) T0 ∧ Below wx.heap.size wx w') := fun wx hx => toPolyR u0 A0 cap0 T0 wx (S0.out.below (bnext HB20.out hx)) tl0 tt0
  have KT21_1 : Hid (∀ wx, Below w20.heap.size w20 wx → Calls Try.prog 10 #[poV u1 A1 T1.length cap1] wx fun e w' => ∃ g, wx.heap.size ≤ g ∧ e = .returned (poV u1 (some ⟨g, 0, none⟩) T1.length T1.length) ∧ RT w' g w'.heap.size (some ⟨g, 0, none⟩) T1 ∧ Below wx.heap.size wx w') := fun wx hx => toPolyR u1 A1 cap1 T1 wx (S1.out.below (bnext HB20.out hx)) tl1 tt1
  have KC21 : Hid (∀ (wx : World) (g0 lo0_ hi0_ : Nat) (g1 lo1_ hi1_ : Nat), RT wx lo0_ hi0_ (some ⟨g0, 0, none⟩) T0 → RT wx lo1_ hi1_ (some ⟨g1, 0, none⟩) T1 → Calls Try.prog 18 #[poV u0 (some ⟨g0, 0, none⟩) T0.length T0.length, poV u1 (some ⟨g1, 0, none⟩) T1.length T1.length] wx (RetQi v0 v1 wx)) := fun wx g0 lo0_ hi0_ g1 lo1_ hi1_ x0 x1 => by
    rw [V0.out, V1.out]; exact mulI u0 T0 u1 T1 wx (regTms x0 (by omega)) tl0 tt0 (regTms x1 (by omega)) tl1 tt1
  go_cut [15, 16] from 94 to 101 (fun s15 s16 wc => ∃ (bq : Nat) (Aq : Option Addr) (cq lq hq : Nat), s15 = .pointer (some ⟨bq, 0, none⟩) ∧ s16 = .int .i64 v1 ∧ Hid (OEnd w20 wc bq lq hq 28 [.int .i64 v0.1, .slice Aq v0.2.length cq] (TmsR lq hq Aq v0.2)))
  case first =>
    go_region_held3 (fun wx => wx.cell? ⟨w.heap.size, 0, none⟩ = some (.int .i64 u0) ∧ wx.cell? ⟨w.heap.size, 1, none⟩ = some (.slice A0 T0.length cap0) ∧ wx.cell? ⟨w.heap.size + 1, 0, none⟩ = some (.int .i64 u1) ∧ wx.cell? ⟨w.heap.size + 1, 1, none⟩ = some (.slice A1 T1.length cap1)) (first | exact SB21.out _ (OB.below (OB.start w20 28 [.int .i64 0, .slice none 0 0])) | exact SB21.out _ (OB.below (OB.start2 w20 28 [.int .i64 0, .slice none 0 0])) | exact SB21.out _ (OB.below O21a.out) | exact SB21.out _ (OB.below O21a.out.al) | exact SB21.out _ (OB.below O21b.out) | exact SB21.out _ (OB.below O21b.out.al) | exact SB21.out _ (OB.below (OF.out.next HBF.out)) | exact SB21.out _ (OB.below (OB.al (OF.out.next HBF.out))) | exact SB21.out _ (OB.end2 OF.out HBF.out HRF.out _ _).1 | exact SB21.out _ (OB.endN OF.out HBF.out HRF.out).1)
      (first
        | (go_at_call 10; (with_reducible refine (KT21_0.out _ (OB.start w20 28 [.int .i64 0, .slice none 0 0]).below).mono ?_); rintro e w21a ⟨g21a, hg21a, rfl, hX21a, hb21a⟩; have O21a := Lib.hid (OB.next (OB.start w20 28 [.int .i64 0, .slice none 0 0]) hb21a); have HX21a_21a := Lib.hid hX21a; clear hX21a hb21a)
        | (go_at_call 10; (with_reducible refine (KT21_0.out _ (OB.start2 w20 28 [.int .i64 0, .slice none 0 0]).below).mono ?_); rintro e w21a ⟨g21a, hg21a, rfl, hX21a, hb21a⟩; have O21a := Lib.hid (OB.next (OB.start2 w20 28 [.int .i64 0, .slice none 0 0]) hb21a); have HX21a_21a := Lib.hid hX21a; clear hX21a hb21a)
        | (go_at_call 10; (with_reducible refine (KT21_1.out _ O21a.out.below).mono ?_); rintro e w21b ⟨g21b, hg21b, rfl, hX21b, hb21b⟩; have O21b := Lib.hid (OB.next O21a.out hb21b); have HX21a_21b := Lib.hid (HX21a_21a.out.below hb21b); have HX21b_21b := Lib.hid hX21b; clear hX21b hb21b)
        | (go_at_call 10; (with_reducible refine (KT21_1.out _ O21a.out.al.below).mono ?_); rintro e w21b ⟨g21b, hg21b, rfl, hX21b, hb21b⟩; have O21b := Lib.hid (OB.next O21a.out.al hb21b); have HX21a_21b := Lib.hid (HX21a_21a.out.below (bnext ((Below.refl _ _).alloc (Nat.le_refl _) _) hb21b)); have HX21b_21b := Lib.hid hX21b; clear hX21b hb21b)
        | (go_at_call 18; (with_reducible refine (KC21.out _ _ _ _ _ _ _ HX21a_21b.out HX21b_21b.out).mono ?_); rintro e w21z ⟨hb21z, AJ0, cJ0, rfl, hR21z⟩; have OF := Lib.hid (O21b.out); (first | (obtain ⟨_, hcl⟩ := OF.out.box _ rfl; have y0q : World.cell? w21z _ = some (.int .i64 0) := ((hcl.next hb21z).cell 0).trans rfl; have f0q := (hcl.next hb21z).frozen 0; have y1q : World.cell? w21z _ = some (.slice none 0 0) := ((hcl.next hb21z).cell 1).trans rfl; have f1q := (hcl.next hb21z).frozen 1; clear hcl) | skip); have HBF := Lib.hid hb21z; have HRF := Lib.hid hR21z; clear hb21z hR21z)
        | (go_at_call 18; (with_reducible refine (KC21.out _ _ _ _ _ _ _ (HX21a_21b.out.below ((Below.refl _ _).alloc (Nat.le_refl _) _)) (HX21b_21b.out.below ((Below.refl _ _).alloc (Nat.le_refl _) _))).mono ?_); rintro e w21z ⟨hb21z, AJ0, cJ0, rfl, hR21z⟩; have OF := Lib.hid (O21b.out.al); (first | (obtain ⟨_, hcl⟩ := OF.out.box _ rfl; have y0q : World.cell? w21z _ = some (.int .i64 0) := ((hcl.next hb21z).cell 0).trans rfl; have f0q := (hcl.next hb21z).frozen 0; have y1q : World.cell? w21z _ = some (.slice none 0 0) := ((hcl.next hb21z).cell 1).trans rfl; have f1q := (hcl.next hb21z).frozen 1; clear hcl) | skip); have HBF := Lib.hid hb21z; have HRF := Lib.hid hR21z; clear hb21z hR21z))
    all_goals
      go_wp2_with fail
      go_meet
      case rel => first | exact ⟨_, _, _, _, _, rfl, rfl, OB.end2 OF.out HBF.out HRF.out _ _⟩ | exact ⟨_, _, _, _, _, rfl, rfl, OB.endN OF.out HBF.out HRF.out⟩
  case rest =>
  clear qBX0_0 qBX0_1 qBX1_0 qBX1_1 qVXR_0 qVXR_1 qVXG_0 qVXG_1
  obtain ⟨b22, AJ0, cJ0, lq22, hq22, rfl, rfl, HE22⟩ := hcut
  obtain ⟨w22, rfl⟩ : ∃ x, x = wc := ⟨_, rfl⟩
  obtain ⟨hb22, hz22, hC22, hR22⟩ := HE22.out
  clear HE22 SB21 KC21 KT21_0 KT21_1
  have HB22 := Lib.hid (bnext HB20.out hb22)
  have BX0_22 := Lib.hid (BX0_20.out.below hb22); clear BX0_20
  have BX1_22 := Lib.hid (BX1_20.out.below hb22); clear BX1_20
  have R0_22 := Lib.hid (R0_20.out.below hb22); clear R0_20
  have VXR_22 := Lib.hid (VXR_20.out.below hb22); clear VXR_20
  have VXG_22 := Lib.hid (VXG_20.out.below hb22); clear VXG_20
  have G0_22 := Lib.hid (G0_20.out.below hb22); clear G0_20
  have HS22 := Lib.hid hb22.size
  clear hb22
  have HZ22 := Lib.hid hz22; clear hz22
  have J0_22 := Lib.hid hR22; clear hR22
  have VXJ_22 := Lib.hid (regBox hC22); clear hC22
  have qBX0_0 : World.cell? w22 ⟨w.heap.size, 0, none⟩ = some (.int .i64 u0) := by rw [BX0_22.out.now.cell]; rfl
  have qBX0_1 : World.cell? w22 ⟨w.heap.size, 1, none⟩ = some (.slice A0 T0.length cap0) := by rw [BX0_22.out.now.cell]; rfl
  have qBX1_0 : World.cell? w22 ⟨w.heap.size + 1, 0, none⟩ = some (.int .i64 u1) := by rw [BX1_22.out.now.cell]; rfl
  have qBX1_1 : World.cell? w22 ⟨w.heap.size + 1, 1, none⟩ = some (.slice A1 T1.length cap1) := by rw [BX1_22.out.now.cell]; rfl
  have qVXR_0 : World.cell? w22 ⟨b4, 0, none⟩ = some (.int .i64 v0.1) := by rw [VXR_22.out.now.cell]; rfl
  have qVXR_1 : World.cell? w22 ⟨b4, 1, none⟩ = some (.slice AR0 v0.2.length cR0) := by rw [VXR_22.out.now.cell]; rfl
  have qVXG_0 : World.cell? w22 ⟨w9.heap.size, 0, none⟩ = some (.int .i64 v0.1) := by rw [VXG_22.out.now.cell]; rfl
  have qVXG_1 : World.cell? w22 ⟨w9.heap.size, 1, none⟩ = some (.slice AG0 v0.2.length cG0) := by rw [VXG_22.out.now.cell]; rfl
  have qVXJ_0 : World.cell? w22 ⟨b22, 0, none⟩ = some (.int .i64 v0.1) := by rw [VXJ_22.out.now.cell]; rfl
  have qVXJ_1 : World.cell? w22 ⟨b22, 1, none⟩ = some (.slice AJ0 v0.2.length cJ0) := by rw [VXJ_22.out.now.cell]; rfl
  go_wp2_with fail
  refine (eqPoly_any v0.1 AJ0 AR0 cJ0 cR0 v0.2 _ (regTms J0_22.out (by omega)) (regTms R0_22.out (by omega)) (by omega) (by omega)).mono ?_; rintro e w23 ⟨rfl, hb23⟩
  clear qBX0_0 qBX0_1 qBX1_0 qBX1_1 qVXR_0 qVXR_1 qVXG_0 qVXG_1 qVXJ_0 qVXJ_1
  have HB23 := Lib.hid (bnext HB22.out hb23)
  have BX0_23 := Lib.hid (BX0_22.out.below hb23); clear BX0_22
  have BX1_23 := Lib.hid (BX1_22.out.below hb23); clear BX1_22
  have R0_23 := Lib.hid (R0_22.out.below hb23); clear R0_22
  have VXR_23 := Lib.hid (VXR_22.out.below hb23); clear VXR_22
  have VXG_23 := Lib.hid (VXG_22.out.below hb23); clear VXG_22
  have G0_23 := Lib.hid (G0_22.out.below hb23); clear G0_22
  have J0_23 := Lib.hid (J0_22.out.below hb23); clear J0_22
  have VXJ_23 := Lib.hid (VXJ_22.out.below hb23); clear VXJ_22
  have HS23 := Lib.hid hb23.size
  clear hb23
  have qBX0_0 : World.cell? w23 ⟨w.heap.size, 0, none⟩ = some (.int .i64 u0) := by rw [BX0_23.out.now.cell]; rfl
  have qBX0_1 : World.cell? w23 ⟨w.heap.size, 1, none⟩ = some (.slice A0 T0.length cap0) := by rw [BX0_23.out.now.cell]; rfl
  have qBX1_0 : World.cell? w23 ⟨w.heap.size + 1, 0, none⟩ = some (.int .i64 u1) := by rw [BX1_23.out.now.cell]; rfl
  have qBX1_1 : World.cell? w23 ⟨w.heap.size + 1, 1, none⟩ = some (.slice A1 T1.length cap1) := by rw [BX1_23.out.now.cell]; rfl
  have qVXR_0 : World.cell? w23 ⟨b4, 0, none⟩ = some (.int .i64 v0.1) := by rw [VXR_23.out.now.cell]; rfl
  have qVXR_1 : World.cell? w23 ⟨b4, 1, none⟩ = some (.slice AR0 v0.2.length cR0) := by rw [VXR_23.out.now.cell]; rfl
  have qVXG_0 : World.cell? w23 ⟨w9.heap.size, 0, none⟩ = some (.int .i64 v0.1) := by rw [VXG_23.out.now.cell]; rfl
  have qVXG_1 : World.cell? w23 ⟨w9.heap.size, 1, none⟩ = some (.slice AG0 v0.2.length cG0) := by rw [VXG_23.out.now.cell]; rfl
  have qVXJ_0 : World.cell? w23 ⟨b22, 0, none⟩ = some (.int .i64 v0.1) := by rw [VXJ_23.out.now.cell]; rfl
  have qVXJ_1 : World.cell? w23 ⟨b22, 1, none⟩ = some (.slice AJ0 v0.2.length cJ0) := by rw [VXJ_23.out.now.cell]; rfl
  go_wp2_with fail
  refine (heldPolyV v0.1 cG0 G0_23.out (by omega) (by omega) (by omega) (by omega)).mono ?_; rintro e w24 ⟨rfl, hb24⟩
  clear qBX0_0 qBX0_1 qBX1_0 qBX1_1 qVXR_0 qVXR_1 qVXG_0 qVXG_1 qVXJ_0 qVXJ_1
  have HB24 := Lib.hid (bnext HB23.out hb24)
  have BX0_24 := Lib.hid (BX0_23.out.below hb24); clear BX0_23
  have BX1_24 := Lib.hid (BX1_23.out.below hb24); clear BX1_23
  have R0_24 := Lib.hid (R0_23.out.below hb24); clear R0_23
  have VXR_24 := Lib.hid (VXR_23.out.below hb24); clear VXR_23
  have VXG_24 := Lib.hid (VXG_23.out.below hb24); clear VXG_23
  have G0_24 := Lib.hid (G0_23.out.below hb24); clear G0_23
  have J0_24 := Lib.hid (J0_23.out.below hb24); clear J0_23
  have VXJ_24 := Lib.hid (VXJ_23.out.below hb24); clear VXJ_23
  have HS24 := Lib.hid hb24.size
  clear hb24
  go_wp2
  go_ret
  exact ⟨rfl, HB24.out⟩

theorem lawExactMulPoly (u0 : Int) (A0 : Option Addr) (cap0 : Nat) (T0 : List Term') (u1 : Int) (A1 : Option Addr) (cap1 : Nat) (T1 : List Term') (w : World) (h0 : TmsAt w A0 T0) (hm0 : T0.length ≤ 9223372036854775807) (h1 : TmsAt w A1 T1) (hm1 : T1.length ≤ 9223372036854775807) :
    Calls Try.prog 5 #[poV u0 A0 T0.length cap0, poV u1 A1 T1.length cap1] w fun e w' => e = .returned (.bool true) ∧ Below w.heap.size w w' := by
  by_cases c0 : tmSize T0 ≤ 1048576
  case neg => exact lawExactMulPoly_0 u0 A0 cap0 T0 u1 A1 cap1 T1 w h0 hm0 h1 hm1 c0
  by_cases c1 : (tmSize T1 : Int) ≤ 1048576 - (tmSize T0 : Int)
  case neg => exact lawExactMulPoly_1 u0 A0 cap0 T0 u1 A1 cap1 T1 w h0 hm0 h1 hm1 c0 c1
  exact lawExactMulPoly_ok u0 A0 cap0 T0 u1 A1 cap1 T1 w h0 hm0 h1 hm1 c0 c1

end Go.Proofs.Ytfnhdfgkkjnhcaa

/- FnExactMulPoly: for every two polynomials the program's MulPoly returns what the reference's returns, in memory of its own. No condition. -/
namespace Go.Proofs.Ytfnhdfgkkjnhcaa.fnExactMulPoly
open Go.ChangeShapes Go.WideShapes Go.ChangeAt Go.RowKit

theorem own : ownKnob Try.prog.godebug = none := by kernel_rfl
theorem laidOut : laidOutB Try.prog = true := by kernel_rfl

set_option maxRecDepth 100000 in
theorem lifted (os : Os) (started : os.Started) (H : Type) (enc : TypeId × Value → H) :
    ReturnsInHanded {} Try.checked os 5 .any (Rows.fnExactMulPolySpec.pre6 enc Try.prog Try.f5 Rows.fnExactMulPolyRow.domain false) (Rows.fnExactMulPolySpec.post enc Try.prog Try.f5 false true false false) := by
  refine returnsInHanded_of_change (C := Try.checked) own started (by kernel_rfl) Try.func5
    (ChangeSpec.witness6 (enc := enc) (C := Try.checked) false ⟨#[], #[.agg #[.int .i64 0, .slice none 0 0], .agg #[.int .i64 0, .slice none 0 0]], []⟩ 8 (by kernel_rfl) (by kernel_rfl) (by kernel_rfl) (by kernel_rfl)) ?_
  intro W base args ds gs before hval0 hW hcnd _
  have hval : ∀ (j : Nat) t v, Try.f5.params[j]? = some t → args[j]? = some v → Value.okWide Try.prog W .any base t v := hval0
  have hW' := hW
  obtain ⟨p, q, hA0, hV, rfl, hfz, hnd⟩ := hW
  have hA : DataW.TrodAll enc Try.prog W 0 (fun _ => true) true Try.f5.params.toList args.toList ds p := hA0
  rw [Try.params5] at hA hval
  obtain ⟨v0, vs0, d0, ds0, p0, q0, hargs, rfl, rfl, h0, r0⟩ := trodAll_cons hA
  obtain ⟨v1, vs1, d1, ds1, p1, q1, rfl, rfl, rfl, h1, r1⟩ := trodAll_cons r0
  obtain ⟨rfl, rfl, rfl⟩ := trodAll_nil r1
  obtain rfl : args = #[v0, v1] := by cases args; simp_all
  obtain ⟨rfl, rfl⟩ := trodVars_none hV
  obtain ⟨cs0, rfl, _⟩ := okWide_struct Try.underlying24 (hval 0 24 v0 rfl rfl)
  have k0 := h0
  have lt0 : ∀ x ∈ p0, x.block < W.heap.size := by obtain ⟨m, hm⟩ := k0; exact DataW.trod_lt m _ _ _ hm
  obtain ⟨u0, a0, cap0, z0, e0, m0, w0⟩ : ∃ (u : Int) (A : Option Addr) (cap : Nat) (ts : List Term'), cs0 = #[.int .i64 u, .slice A ts.length cap] ∧ ts.length ≤ 9223372036854775807 ∧ TmsAt W A ts := by
    obtain ⟨fuel, hf⟩ := h0
    obtain ⟨u, A, cap, ts, hcs, h1, h2⟩ := open_poly hf
    exact ⟨u, A, cap, ts, by cases cs0; simpa [Value.cells] using hcs, h1, h2⟩
  subst e0
  obtain ⟨cs1, rfl, _⟩ := okWide_struct Try.underlying24 (hval 1 24 v1 rfl rfl)
  have k1 := h1
  have lt1 : ∀ x ∈ p1, x.block < W.heap.size := by obtain ⟨m, hm⟩ := k1; exact DataW.trod_lt m _ _ _ hm
  obtain ⟨u1, a1, cap1, z1, e1, m1, w1⟩ : ∃ (u : Int) (A : Option Addr) (cap : Nat) (ts : List Term'), cs1 = #[.int .i64 u, .slice A ts.length cap] ∧ ts.length ≤ 9223372036854775807 ∧ TmsAt W A ts := by
    obtain ⟨fuel, hf⟩ := h1
    obtain ⟨u, A, cap, ts, hcs, h1, h2⟩ := open_poly hf
    exact ⟨u, A, cap, ts, by cases cs1; simpa [Value.cells] using hcs, h1, h2⟩
  subst e1
  clear hA0 hval0
  refine (lawExactMulPoly u0 a0 cap0 z0 u1 a1 cap1 z1 W w0 m0 w1 m1).mono fun e W' ⟨he, bel⟩ => ?_
  subst he
  exact ⟨_, rfl, _, _, _, [], _, [], hW', trodAll_mk1 (shut_bool Try.underlying4 _), (trodAll_cons_mk (Below.trod laidOut (by kernel_rfl) (of_decide_eq_true (by kernel_rfl)) k0 bel lt0) (trodAll_cons_mk (Below.trod laidOut (by kernel_rfl) (of_decide_eq_true (by kernel_rfl)) k1 bel lt1) trodAll_mk0)), rfl, bel.frame _, fun h => by cases h⟩

theorem over : Rows.fnExactMulPolyRow.holds Try.pinned (OpenSpec.ofChange Rows.fnExactMulPolySpec) :=
  OpenClaim.holds_of_wide 5 Try.f5 rfl rfl rfl rfl rfl rfl rfl ⟨rfl, rfl, rfl, rfl, rfl⟩ rfl rfl rfl rfl rfl (by kernel_rfl) Try.func5 (by kernel_rfl)
    (of_decide_eq_true (by kernel_rfl)) (by unfold Func.isWrapper; first | (rw [if_pos (by decide +kernel)]; kernel_rfl) | (rw [if_neg (by decide +kernel)]; exact ⟨rfl, rfl⟩))
    (fun os started H enc _ => lifted os started H enc)

theorem proved : Rows.FnExactMulPolySaid := over
#print axioms proved
end Go.Proofs.Ytfnhdfgkkjnhcaa.fnExactMulPoly
