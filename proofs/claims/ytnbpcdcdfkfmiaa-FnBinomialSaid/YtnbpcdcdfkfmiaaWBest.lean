/- Walks of BestSchedule, of the program and of the reference. -/
import Derived.Test.YtnbpcdcdfkfmiaaWPlan5
namespace Go.Proofs.Ytnbpcdcdfkfmiaa
open Go.RowKit Plain

theorem plan_zero (p : Option Addr) (c : Int) (held : Bool) (v : Value) (w : World) :
    Calls Try.prog 40 #[.pointer p, .int .i64 0, .int .i64 0, .int .i64 c, .bool held, v] w fun e w' => e = .returned v ∧ w = w' := by
  go_enter Try.func40, Try.ntmps40
  go_wp2
  go_ret
  exact ⟨rfl, rfl⟩

/-- the best schedule -/
def bsL (ws : List Int) (slots : Int) : List (Int × Int) := if lcC ws slots = 0 then planL ws slots.toNat ws.length 0 ws.length slots.toNat false else []
/-- what BestSchedule comes to -/
def BestPost (l : List (Int × Int)) (code : Int) (w : World) (e : Ending) (w' : World) : Prop :=
  ∃ A cp, e = .returned (.tuple #[.slice A l.length cp, .int .i64 code]) ∧ ActsM w' w.heap.size A l ∧ Below w.heap.size w w' ∧ l.length ≤ 1000

theorem lcC_ok {ws : List Int} {slots : Int} (h : lcC ws slots = 0) : costC ws slots = 0 ∧ 0 ≤ lcost ws 0 ws.length slots.toNat := by
  unfold lcC at h
  split at h
  · rename_i hc
    refine ⟨hc, ?_⟩
    split at h
    · omega
    · omega
  · rename_i hc; exact absurd h hc

theorem planL_nil (ws : List Int) (S c : Nat) (held : Bool) (h : ws.length = 0) : planL ws S ws.length 0 ws.length c held = [] := by rw [h]; rfl
theorem planL_bd (ws : List Int) (S c : Nat) (held : Bool) (h40 : ws.length ≤ 40) (h0 : 0 ≤ lcost ws 0 ws.length c) : (planL ws S ws.length 0 ws.length c held).length ≤ 1000 := by
  rcases Nat.eq_zero_or_pos ws.length with h | h
  · rw [planL_nil ws S c held h]; simp
  · have := planL_len ws S ws.length 0 ws.length c held h (by omega) h0; omega

set_option maxHeartbeats 1000000 in
theorem bestI (A : Option Addr) (cap : Nat) (ws : List Int) (slots : Int) (w : World) (hA : Ints w A ws) (hn : ws.length ≤ 4611686018427387904) :
    Calls Try.prog 16 #[.slice A ws.length cap, .int .i64 slots] w (BestPost (bsL ws slots) (lcC ws slots) w) := by
  by_cases h0 : lcC ws slots = 0
  · have HL : Hid (bsL ws slots = planL ws slots.toNat ws.length 0 ws.length slots.toNat false) := by show _ = _; unfold bsL; rw [if_pos h0]
    obtain ⟨hc, hl0⟩ := lcC_ok h0
    obtain ⟨hw, s0, s8⟩ := costC_ok hc
    obtain ⟨hW, h40⟩ := isW_of hw
    obtain ⟨s, rfl⟩ := Int.eq_ofNat_of_zero_le s0
    rw [Int.toNat_natCast] at HL hl0
    have hbd := planL_bd ws s s false h40 hl0
    have H0 := Lib.hid h0; clear h0 hw hc
    rw [H0.out]
    go_enter Try.func16, Try.ntmps16
    go_wp2_with fail
    refine (leastCostI A cap ws s w hA hn).mono ?_; rintro e w1 ⟨rfl, hb1⟩
    rw [H0.out]
    have HB1 := Lib.hid hb1; clear hb1
    go_wp2_with fail
    refine (newPlanner_any A cap ws s w1 (hA.below HB1.out)).mono ?_; rintro e w2 ⟨rfl, hP, hb2⟩
    have hsz := hP.mapc.lt
    have hsz1 := hP.maps.lt
    have hsz2 := World.block_lt_of_cell? _ _ hP.f0
    have hq : ∀ q, InB ws.length A q → q < w2.heap.size := by
      rintro q ⟨hn, o, e⟩
      obtain ⟨b, o', e', hl, _⟩ := hP.ints hn
      rw [e] at e'
      obtain ⟨rfl, rfl⟩ : q = b ∧ o = o' := by simpa using e'
      exact hl
    have HQ := Lib.hid hq
    have HP := Lib.hid hP
    have HB2 := Lib.hid (bnext HB1.out hb2)
    have hle := HB1.out.size
    simp only [] at hsz2
    clear hP hb2 hq
    rcases Nat.eq_zero_or_pos ws.length with hz | hz
    · have HN := Lib.hid (planL_nil ws s s false hz)
      have HZ := Lib.hid hz
      clear hz
      go_wp2_with fail
      rw [HZ.out]
      refine (plan_zero _ _ _ _ _).mono ?_
      rintro e w3 ⟨rfl, rfl⟩
      go_wp2
      go_ret2
      rw [HL.out, HN.out]
      exact ⟨_, _, rfl, ActsM.nil _ _ _, HB2.out.alloc HB2.out.size _, by simp⟩
    · have HR0 : Hid (ActRow (w2.alloc (.cells #[] 68)) w2.heap.size (.slice (some ⟨w2.heap.size, 0, none⟩) 0 0) []) := World.ownsRow_lit _ #[] 0 (Nat.le_refl _) (by unfold maxLen; omega) (by rfl)
      have hb3 : Below w2.heap.size w2 (w2.alloc (.cells #[] 68)) := by go_grown
      have HP3 := Lib.hid (HP.out.below hb3)
      have HB3 := Lib.hid (bnext HB2.out hb3)
      have hsz3 := hb3.size
      clear hb3
      go_wp2_with fail
      refine (plan_any (w1.heap.size + 2) A cap ws s w1.heap.size (w1.heap.size + 1) w2.heap.size hW h40 (by omega) hsz2 hsz hsz1 HQ.out ws.length 0 ws.length s _ _ _ false _ _ _ [] _ _ _ (by rfl) (by rfl) (by rfl) (by rfl) (by omega) hz (by omega) (by omega) hl0 HP3.out HR0.out (by simp; omega) hsz3).mono ?_
      rw [List.nil_append]
      rintro e w4 ⟨Av, c3, rfl, hR, hP4, hO⟩
      have HR := Lib.hid hR; clear hR hP4
      have HF : Hid (Below w.heap.size w w4) := HB3.out.trans (hO.below HB3.out.size (by rintro k ((h | h) | h) <;> omega))
      clear hO
      generalize planL ws s ws.length 0 ws.length s false = l at *
      go_wp2
      go_ret2
      rw [HL.out]
      exact ⟨_, _, rfl, (HR.out.mono (by have := HB2.out.size; omega)).actsM, HF.out, hbd⟩
  · have HL : Hid (bsL ws slots = []) := by show _ = _; unfold bsL; rw [if_neg h0]
    have hd : (lcC ws slots == 0) = false := by simpa using h0
    have hd2 : (lcC ws slots != 0) = true := by simpa using h0
    clear h0
    go_enter Try.func16, Try.ntmps16
    go_wp2_with fail
    refine (leastCostI A cap ws slots w hA hn).mono ?_; rintro e w1 ⟨rfl, hb1⟩
    have HB1 := Lib.hid hb1; clear hb1
    generalize lcV ws slots = v at *
    go_wp2
    go_ret2
    rw [HL.out]
    exact ⟨_, _, rfl, ActsM.nil _ _ _, HB1.out, by simp⟩

end Go.Proofs.Ytnbpcdcdfkfmiaa
