/- Walks of BestSchedule, of the program and of the reference. -/
import Derived.Test.YtkeamefifjmabaaWPlan5
namespace Go.Proofs.Ytkeamefifjmabaa
open Go.RowKit Plain

theorem l06Plan_any (A : Option Addr) (cap : Nat) (ws : List Int) (S g C cap2 : Nat) (lb lc : Nat → Nat) (rb : Nat → Nat → Nat) (hws : IsW ws) (hl : ws.length ≤ 40) (hS : S < C) (hC : C ≤ 9) :
    ∀ (f a b c : Nat) (d : Int) (ai bi ci di : Int) (held : Bool) (w : World),
      ai = a → bi = b → ci = c → di = d → b - a ≤ f → a < b → b ≤ ws.length → c ≤ S → 0 ≤ lcost ws a b c → d = (S : Int) - (c : Int) → Ints w A ws → TabRd w g C ws.length lb lc rb (fun i x y => lcost ws x y i) →
      Calls Try.prog 74 #[.slice A ws.length cap, .slice (some ⟨g, 0, none⟩) C cap2, .int .i64 ai, .int .i64 bi, .int .i64 ci, .int .i64 di, .bool held] w (RowPost (planL ws S f a b c held) w) := by
  intro f
  induction f with
  | zero => intro a b c d ai bi ci di held w _ _ _ _ h1 h2; omega
  | succ f ih =>
    intro a b c d ai bi ci di held w ha hb hc' hd hf hab hbl hcS h0 hdd hA hT
    subst ha hb hc' hd
    by_cases h1 : b = a + 1
    · rw [planL_one ws S f a b c held h1]
      subst h1
      exact l06Plan_one A cap ws _ a c di held w (by omega)
    · exact l06Plan_step A cap ws S g C cap2 lb lc rb f (Lib.hid ih) hws hl hS hC a b c di held w hf (by omega) hbl hcS h0 hdd hA hT

theorem plan_zero (p : Option Addr) (c : Int) (held : Bool) (v : Value) (w : World) :
    Calls Try.prog 75 #[.pointer p, .int .i64 0, .int .i64 0, .int .i64 c, .bool held, v] w fun e w' => e = .returned v ∧ w = w' := by
  go_enter Try.func75, Try.ntmps75
  go_wp2
  go_ret
  exact ⟨rfl, rfl⟩

theorem l06Plan_zero (A : Option Addr) (cap n : Nat) (T : Value) (c d : Int) (held : Bool) (w : World) :
    Calls Try.prog 74 #[.slice A n cap, T, .int .i64 0, .int .i64 0, .int .i64 c, .int .i64 d, .bool held] w (RowPost [] w) := by
  go_enter Try.func74, Try.ntmps74
  go_wp2
  go_ret
  exact ⟨_, 0, rfl, World.ownsRow_lit _ #[] 0 (Nat.le_refl _) (by unfold maxLen; omega) (by rfl), by go_grown⟩

/-- the best schedule -/
def bsL (ws : List Int) (slots : Int) : List (Int × Int) := if lcC ws slots = 0 then planL ws slots.toNat ws.length 0 ws.length slots.toNat false else []
/-- what BestSchedule comes to -/
def BestPost (l : List (Int × Int)) (code : Int) (w : World) (e : Ending) (w' : World) : Prop :=
  ∃ A cp, e = .returned (.tuple #[.slice A l.length cp, .int .i64 code]) ∧ ActsM w' w.heap.size A l ∧ Below w.heap.size w w' ∧ l.length ≤ 1000

theorem lcC_ok {ws : List Int} {slots : Int} (h : lcC ws slots = 0) : costC ws slots = 0 ∧ 0 ≤ lcost ws 0 ws.length slots.toNat := by
  unfold lcC at h
  split at h
  · rename_i hc
    refine ⟨hc, ?_⟩
    split at h
    · omega
    · omega
  · rename_i hc; exact absurd h hc

theorem planL_nil (ws : List Int) (S c : Nat) (held : Bool) (h : ws.length = 0) : planL ws S ws.length 0 ws.length c held = [] := by rw [h]; rfl
theorem planL_bd (ws : List Int) (S c : Nat) (held : Bool) (h40 : ws.length ≤ 40) (h0 : 0 ≤ lcost ws 0 ws.length c) : (planL ws S ws.length 0 ws.length c held).length ≤ 1000 := by
  rcases Nat.eq_zero_or_pos ws.length with h | h
  · rw [planL_nil ws S c held h]; simp
  · have := planL_len ws S ws.length 0 ws.length c held h (by omega) h0; omega

set_option maxHeartbeats 1000000 in
theorem bestS (A : Option Addr) (cap : Nat) (ws : List Int) (slots : Int) (w : World) (hA : Ints w A ws) (hn : ws.length ≤ 4611686018427387904) :
    Calls Try.prog 38 #[.slice A ws.length cap, .int .i64 slots] w (BestPost (bsL ws slots) (lcC ws slots) w) := by
  by_cases h0 : lcC ws slots = 0
  · have HL : Hid (bsL ws slots = planL ws slots.toNat ws.length 0 ws.length slots.toNat false) := by show _ = _; unfold bsL; rw [if_pos h0]
    obtain ⟨hc, hl0⟩ := lcC_ok h0
    obtain ⟨hw, s0, s8⟩ := costC_ok hc
    obtain ⟨hW, h40⟩ := isW_of hw
    obtain ⟨s, rfl⟩ := Int.eq_ofNat_of_zero_le s0
    rw [Int.toNat_natCast] at HL hl0
    have hbd := planL_bd ws s s false h40 hl0
    have H0 := Lib.hid h0; clear h0 hw hc
    rw [H0.out]
    go_enter Try.func38, Try.ntmps38
    go_wp2_with fail
    refine (l06Cost_any A cap ws s w hA hn).mono ?_; rintro e w1 ⟨rfl, hb1⟩
    rw [H0.out]
    have HB1 := Lib.hid hb1; clear hb1
    go_wp2_with fail
    refine (table_any A cap ws s w1 (hA.below HB1.out) hW h40 (by omega)).mono ?_
    rintro e w2 ⟨g, cp, lb, lc, rb, rfl, hT⟩
    have HT := Lib.hid hT; clear hT
    have HB2 := Lib.hid (bnext HB1.out HT.out.below)
    rcases Nat.eq_zero_or_pos ws.length with hz | hz
    · have HN := Lib.hid (planL_nil ws s s false hz)
      have HZ := Lib.hid hz
      have HA := Lib.hid hA
      clear hz hA
      generalize ws.length = nn at *
      obtain rfl : nn = 0 := HZ.out
      go_wp2_with fail
      refine (l06Plan_zero A cap 0 _ _ _ _ w2).mono ?_
      rintro e w3 ⟨Av, c3, rfl, hR, hb3⟩
      have HR := Lib.hid hR; clear hR
      have HB3 := Lib.hid (bnext HB2.out hb3)
      go_wp2
      go_ret2
      rw [HL.out, HN.out]
      exact ⟨_, _, rfl, (HR.out.mono HB2.out.size).actsM, HB3.out, by simp⟩
    · go_wp2_with fail
      refine (l06Plan_any A cap ws s g (s + 1) cp lb lc rb hW h40 (by omega) (by omega) ws.length 0 ws.length s 0 _ _ _ _ false w2 (by rfl) (by rfl) (by rfl) (by rfl) (by omega) hz (by omega) (by omega) hl0 (by omega) (hA.below HB2.out) HT.out.rd).mono ?_
      rintro e w3 ⟨Av, c3, rfl, hR, hb3⟩
      have HR := Lib.hid hR; clear hR
      have HB3 := Lib.hid (bnext HB2.out hb3)
      generalize planL ws s ws.length 0 ws.length s false = l at *
      go_wp2
      go_ret2
      rw [HL.out]
      exact ⟨_, _, rfl, (HR.out.mono HB2.out.size).actsM, HB3.out, hbd⟩
  · have HL : Hid (bsL ws slots = []) := by show _ = _; unfold bsL; rw [if_neg h0]
    have hd : (lcC ws slots == 0) = false := by simpa using h0
    have hd2 : (lcC ws slots != 0) = true := by simpa using h0
    clear h0
    go_enter Try.func38, Try.ntmps38
    go_wp2_with fail
    refine (l06Cost_any A cap ws slots w hA hn).mono ?_; rintro e w1 ⟨rfl, hb1⟩
    have HB1 := Lib.hid hb1; clear hb1
    generalize lcV ws slots = v at *
    go_wp2
    go_ret2
    rw [HL.out]
    exact ⟨_, _, rfl, ActsM.nil _ _ _, HB1.out.alloc HB1.out.size _, by simp⟩

set_option maxHeartbeats 1000000 in
theorem bestI (A : Option Addr) (cap : Nat) (ws : List Int) (slots : Int) (w : World) (hA : Ints w A ws) (hn : ws.length ≤ 4611686018427387904) :
    Calls Try.prog 39 #[.slice A ws.length cap, .int .i64 slots] w (BestPost (bsL ws slots) (lcC ws slots) w) := by
  by_cases h0 : lcC ws slots = 0
  · have HL : Hid (bsL ws slots = planL ws slots.toNat ws.length 0 ws.length slots.toNat false) := by show _ = _; unfold bsL; rw [if_pos h0]
    obtain ⟨hc, hl0⟩ := lcC_ok h0
    obtain ⟨hw, s0, s8⟩ := costC_ok hc
    obtain ⟨hW, h40⟩ := isW_of hw
    obtain ⟨s, rfl⟩ := Int.eq_ofNat_of_zero_le s0
    rw [Int.toNat_natCast] at HL hl0
    have hbd := planL_bd ws s s false h40 hl0
    have H0 := Lib.hid h0; clear h0 hw hc
    rw [H0.out]
    go_enter Try.func39, Try.ntmps39
    go_wp2_with fail
    refine (leastCostI A cap ws s w hA hn).mono ?_; rintro e w1 ⟨rfl, hb1⟩
    rw [H0.out]
    have HB1 := Lib.hid hb1; clear hb1
    go_wp2_with fail
    refine (newPlanner_any A cap ws s w1 (hA.below HB1.out)).mono ?_; rintro e w2 ⟨rfl, hP, hb2⟩
    have hsz := hP.mapc.lt
    have hsz1 := hP.maps.lt
    have hsz2 := World.block_lt_of_cell? _ _ hP.f0
    have hq : ∀ q, InB ws.length A q → q < w2.heap.size := by
      rintro q ⟨hn, o, e⟩
      obtain ⟨b, o', e', hl, _⟩ := hP.ints hn
      rw [e] at e'
      obtain ⟨rfl, rfl⟩ : q = b ∧ o = o' := by simpa using e'
      exact hl
    have HQ := Lib.hid hq
    have HP := Lib.hid hP
    have HB2 := Lib.hid (bnext HB1.out hb2)
    have hle := HB1.out.size
    simp only [] at hsz2
    clear hP hb2 hq
    rcases Nat.eq_zero_or_pos ws.length with hz | hz
    · have HN := Lib.hid (planL_nil ws s s false hz)
      have HZ := Lib.hid hz
      clear hz
      go_wp2_with fail
      rw [HZ.out]
      refine (plan_zero _ _ _ _ _).mono ?_
      rintro e w3 ⟨rfl, rfl⟩
      go_wp2
      go_ret2
      rw [HL.out, HN.out]
      exact ⟨_, _, rfl, ActsM.nil _ _ _, HB2.out.alloc HB2.out.size _, by simp⟩
    · have HR0 : Hid (ActRow (w2.alloc (.cells #[] 57)) w2.heap.size (.slice (some ⟨w2.heap.size, 0, none⟩) 0 0) []) := World.ownsRow_lit _ #[] 0 (Nat.le_refl _) (by unfold maxLen; omega) (by rfl)
      have hb3 : Below w2.heap.size w2 (w2.alloc (.cells #[] 57)) := by go_grown
      have HP3 := Lib.hid (HP.out.below hb3)
      have HB3 := Lib.hid (bnext HB2.out hb3)
      have hsz3 := hb3.size
      clear hb3
      go_wp2_with fail
      refine (plan_any (w1.heap.size + 2) A cap ws s w1.heap.size (w1.heap.size + 1) w2.heap.size hW h40 (by omega) hsz2 hsz hsz1 HQ.out ws.length 0 ws.length s _ _ _ false _ _ _ [] _ _ _ (by rfl) (by rfl) (by rfl) (by rfl) (by omega) hz (by omega) (by omega) hl0 HP3.out HR0.out (by simp; omega) hsz3).mono ?_
      rw [List.nil_append]
      rintro e w4 ⟨Av, c3, rfl, hR, hP4, hO⟩
      have HR := Lib.hid hR; clear hR hP4
      have HF : Hid (Below w.heap.size w w4) := HB3.out.trans (hO.below HB3.out.size (by rintro k ((h | h) | h) <;> omega))
      clear hO
      generalize planL ws s ws.length 0 ws.length s false = l at *
      go_wp2
      go_ret2
      rw [HL.out]
      exact ⟨_, _, rfl, (HR.out.mono (by have := HB2.out.size; omega)).actsM, HF.out, hbd⟩
  · have HL : Hid (bsL ws slots = []) := by show _ = _; unfold bsL; rw [if_neg h0]
    have hd : (lcC ws slots == 0) = false := by simpa using h0
    have hd2 : (lcC ws slots != 0) = true := by simpa using h0
    clear h0
    go_enter Try.func39, Try.ntmps39
    go_wp2_with fail
    refine (leastCostI A cap ws slots w hA hn).mono ?_; rintro e w1 ⟨rfl, hb1⟩
    have HB1 := Lib.hid hb1; clear hb1
    generalize lcV ws slots = v at *
    go_wp2
    go_ret2
    rw [HL.out]
    exact ⟨_, _, rfl, ActsM.nil _ _ _, HB1.out, by simp⟩

end Go.Proofs.Ytkeamefifjmabaa
