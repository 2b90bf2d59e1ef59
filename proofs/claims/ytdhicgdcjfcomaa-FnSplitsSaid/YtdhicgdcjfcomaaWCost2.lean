/- Walks of l06Cost, LeastCost, LeastSlots, SplitOf of the reference, of SplitOf of the program, and of their laws. -/
import Derived.Test.YtdhicgdcjfcomaaWTab3
namespace Go.Proofs.Ytdhicgdcjfcomaa
open Go.RowKit Plain

theorem costC_cases (ws : List Int) (slots : Int) :
    (wts ws = false ∧ costC ws slots = 1) ∨ (wts ws = true ∧ inR slots 0 8 = false ∧ costC ws slots = 2) ∨ (wts ws = true ∧ inR slots 0 8 = true ∧ costC ws slots = 0) := by
  unfold costC
  cases h1 : wts ws <;> cases h2 : inR slots 0 8 <;> simp

set_option maxHeartbeats 1000000 in
theorem l06Cost_any (A : Option Addr) (cap : Nat) (ws : List Int) (slots : Int) (w : World) (hA : Ints w A ws) (hn : ws.length ≤ 4611686018427387904) :
    Calls Try.prog 22 #[.slice A ws.length cap, .int .i64 slots] w fun e w' =>
      e = .returned (.tuple #[.int .i64 (lcV ws slots), .int .i64 (lcC ws slots)]) ∧ Below w.heap.size w w' := by
  rcases costC_cases ws slots with ⟨h1, h0⟩ | ⟨h1, h2, h0⟩ | ⟨h1, h2, h0⟩
  · have HV : Hid (lcV ws slots = 0 ∧ lcC ws slots = 1) := by show _ ∧ _; simp [lcV, lcC, h0]
    have H1 := Lib.hid h1; clear h1 h0
    go_enter Try.func22, Try.ntmps22
    go_wp2_with fail
    refine (l06Weights_b _ A cap ws H1.out w hA hn).mono ?_; rintro e w' ⟨rfl, rfl⟩
    go_wp2
    go_ret2
    exact ⟨by rw [HV.out.1, HV.out.2]; rfl, Below.refl _ _⟩
  · have HV : Hid (lcV ws slots = 0 ∧ lcC ws slots = 2) := by show _ ∧ _; simp [lcV, lcC, h0]
    have H1 := Lib.hid h1; clear h1 h0
    have H2 := Lib.hid h2; clear h2
    go_enter Try.func22, Try.ntmps22
    go_wp2_with fail
    refine (l06Weights_b _ A cap ws H1.out w hA hn).mono ?_; rintro e w' ⟨rfl, rfl⟩
    go_wp2_with fail
    refine (in_b _ _ _ _ H2.out w).mono ?_; rintro e w' ⟨rfl, rfl⟩
    go_wp2
    go_ret2
    exact ⟨by rw [HV.out.1, HV.out.2]; rfl, Below.refl _ _⟩
  · obtain ⟨hW, h40⟩ := isW_of h1
    obtain ⟨s0, s8⟩ := inR_true.1 h2
    obtain ⟨s, rfl⟩ := Int.eq_ofNat_of_zero_le s0
    have HV : Hid (lcV ws s = (if lcost ws 0 ws.length s < 0 then 0 else lcost ws 0 ws.length s) ∧ lcC ws s = (if lcost ws 0 ws.length s < 0 then 4 else 0)) := by
      show _ ∧ _; simp [lcV, lcC, h0]
    have H1 := Lib.hid h1; clear h1 h0
    have H2 := Lib.hid h2; clear h2
    by_cases hl2 : (ws.length : Int) < 2
    · have hz : lcost ws 0 ws.length s = 0 := lcost_short (by omega)
      rw [hz] at HV
      have HV := HV
      clear hz
      go_enter Try.func22, Try.ntmps22
      go_wp2_with fail
      refine (l06Weights_b _ A cap ws H1.out w hA hn).mono ?_; rintro e w' ⟨rfl, rfl⟩
      go_wp2_with fail
      refine (in_b _ _ _ _ H2.out w).mono ?_; rintro e w' ⟨rfl, rfl⟩
      go_wp2
      go_ret2
      exact ⟨by rw [HV.out.1, HV.out.2]; rfl, Below.refl _ _⟩
    · go_enter Try.func22, Try.ntmps22
      go_wp2_with fail
      refine (l06Weights_b _ A cap ws H1.out w hA hn).mono ?_; rintro e w' ⟨rfl, rfl⟩
      go_wp2_with fail
      refine (in_b _ _ _ _ H2.out w).mono ?_; rintro e w' ⟨rfl, rfl⟩
      go_wp2_with fail
      refine (table_any A cap ws s w hA hW h40 (by omega)).mono ?_
      rintro e w1 ⟨g, cp, lb, lc, rb, rfl, hT⟩
      have HB := Lib.hid hT.below
      have hrd := hT.rd
      have t1 := hrd.c0 s (by omega)
      have t2 := hrd.c1 s 0 (by omega) (by omega)
      have t3 := hrd.c2 s 0 ws.length (by omega) (by omega) (by omega)
      clear hrd hT
      generalize lcost ws 0 ws.length s = q at *
      by_cases hq : q < 0
      · go_wp2
        go_ret2
        exact ⟨by rw [HV.out.1, HV.out.2, if_pos hq, if_pos hq]; rfl, HB.out⟩
      · go_wp2
        go_ret2
        exact ⟨by rw [HV.out.1, HV.out.2, if_neg (by omega), if_neg (by omega)]; rfl, HB.out⟩

theorem leastCostS (A : Option Addr) (cap : Nat) (ws : List Int) (slots : Int) (w : World) (hA : Ints w A ws) (hn : ws.length ≤ 4611686018427387904) :
    Calls Try.prog 8 #[.slice A ws.length cap, .int .i64 slots] w fun e w' =>
      e = .returned (.tuple #[.int .i64 (lcV ws slots), .int .i64 (lcC ws slots)]) ∧ Below w.heap.size w w' := by
  go_enter Try.func8, Try.ntmps8
  go_wp2_with fail
  refine (l06Cost_any A cap ws slots w hA hn).mono ?_; rintro e w' ⟨rfl, hb⟩
  go_wp2
  go_ret2
  exact ⟨rfl, hb⟩

theorem lc_of_in {ws : List Int} {s : Nat} (h1 : wts ws = true) (hs : s ≤ 8) :
    (lcost ws 0 ws.length s < 0 ∧ lcV ws s = 0 ∧ lcC ws s = 4) ∨ (0 ≤ lcost ws 0 ws.length s ∧ lcV ws s = lcost ws 0 ws.length s ∧ lcC ws s = 0) := by
  have h2 : inR (s : Int) 0 8 = true := inR_yes (by omega) (by omega)
  have h0 : costC ws s = 0 := by simp [costC, h1, h2]
  by_cases h : lcost ws 0 ws.length s < 0
  · exact .inl ⟨h, by simp [lcV, h0, h], by simp [lcC, h0, h]⟩
  · exact .inr ⟨by omega, by simp [lcV, h0, h], by simp [lcC, h0, h]⟩

/-- what SplitOf returns -/
def soV (ws : List Int) (slots : Int) : Int := if costC ws slots = 0 ∧ 2 ≤ ws.length ∧ 0 ≤ lcost ws 0 ws.length slots.toNat then lsplit ws 0 ws.length slots.toNat else 0
def soC (ws : List Int) (slots : Int) : Int := if costC ws slots = 0 then (if ws.length < 2 then 9 else if lcost ws 0 ws.length slots.toNat < 0 then 4 else 0) else costC ws slots

theorem split_full (A : Option Addr) (cap : Nat) (ws : List Int) (s g cap2 : Nat) (lb lc : Nat → Nat) (rb : Nat → Nat → Nat) (w : World)
    (hA : Ints w A ws) (hT : TabRd w g (s + 1) ws.length lb lc rb (fun i x y => lcost ws x y i)) (hw : IsW ws) (h40 : ws.length ≤ 40) (h2 : 2 ≤ ws.length) (h0 : 0 < s) (h8 : s ≤ 8) :
    Calls Try.prog 24 #[.slice A ws.length cap, .slice (some ⟨g, 0, none⟩) (s + 1) cap2, .int .i64 0, .int .i64 ws.length, .int .i64 s] w fun e w' =>
      e = .returned (.tuple #[.int .i64 (lsplit ws 0 ws.length s), .int .i64 (lcost ws 0 ws.length s)]) ∧ w = w' :=
  split_some A cap ws g (s + 1) cap2 ws.length lb lc rb _ 0 ws.length s w hA hT hw rfl h40 (by omega) (Nat.le_refl _) h0 (by omega) (by omega) (fun _ _ _ => rfl) (fun _ _ _ => rfl)

theorem lcost_pos_slots {ws : List Int} {s : Nat} (h2 : 2 ≤ ws.length) (h : 0 ≤ lcost ws 0 ws.length s) : 0 < s := by
  rcases Nat.eq_zero_or_pos s with rfl | h0
  · rw [lcost_none (by omega)] at h; omega
  · exact h0

set_option maxHeartbeats 1000000 in
theorem splitOfS (A : Option Addr) (cap : Nat) (ws : List Int) (slots : Int) (w : World) (hA : Ints w A ws) (hn : ws.length ≤ 4611686018427387904) :
    Calls Try.prog 11 #[.slice A ws.length cap, .int .i64 slots] w fun e w' =>
      e = .returned (.tuple #[.int .i64 (soV ws slots), .int .i64 (soC ws slots)]) ∧ Below w.heap.size w w' := by
  rcases costC_cases ws slots with ⟨h1, h0⟩ | ⟨h1, h2, h0⟩ | ⟨h1, h2, h0⟩
  · have HV : Hid (soV ws slots = 0 ∧ soC ws slots = 1) := by show _ ∧ _; simp [soV, soC, h0]
    have HL : Hid (lcV ws slots = 0 ∧ lcC ws slots = 1) := by show _ ∧ _; simp [lcV, lcC, h0]
    clear h1 h0
    go_enter Try.func11, Try.ntmps11
    go_wp2_with fail
    refine (l06Cost_any A cap ws slots w hA hn).mono ?_; rintro e w' ⟨rfl, hb⟩
    rw [HL.out.1, HL.out.2]
    go_wp2
    go_ret2
    exact ⟨by rw [HV.out.1, HV.out.2]; rfl, hb⟩
  · have HV : Hid (soV ws slots = 0 ∧ soC ws slots = 2) := by show _ ∧ _; simp [soV, soC, h0]
    have HL : Hid (lcV ws slots = 0 ∧ lcC ws slots = 2) := by show _ ∧ _; simp [lcV, lcC, h0]
    clear h1 h0 h2
    go_enter Try.func11, Try.ntmps11
    go_wp2_with fail
    refine (l06Cost_any A cap ws slots w hA hn).mono ?_; rintro e w' ⟨rfl, hb⟩
    rw [HL.out.1, HL.out.2]
    go_wp2
    go_ret2
    exact ⟨by rw [HV.out.1, HV.out.2]; rfl, hb⟩
  · obtain ⟨hW, h40⟩ := isW_of h1
    obtain ⟨s0, s8⟩ := inR_true.1 h2
    obtain ⟨s, rfl⟩ := Int.eq_ofNat_of_zero_le s0
    have HLC := lc_of_in (s := s) h1 (by omega)
    by_cases hl2 : (ws.length : Int) < 2
    · have HV : Hid (soV ws s = 0 ∧ soC ws s = 9) := by
        show _ ∧ _
        have h' : ¬ 2 ≤ ws.length := by omega
        have h'' : ws.length < 2 := by omega
        simp [soV, soC, h0, h', h'']
      have hz : lcost ws 0 ws.length s = 0 := lcost_short (by omega)
      have HL : Hid (lcC ws s = 0) := by rcases HLC with ⟨h, _⟩ | ⟨_, _, h⟩; omega; exact h
      clear HLC hz h1 h0 h2
      go_enter Try.func11, Try.ntmps11
      go_wp2_with fail
      refine (l06Cost_any A cap ws s w hA hn).mono ?_; rintro e w' ⟨rfl, hb⟩
      rw [HL.out]
      go_wp2
      go_ret2
      exact ⟨by rw [HV.out.1, HV.out.2]; rfl, hb⟩
    · have h' : 2 ≤ ws.length := by omega
      have h'' : ¬ ws.length < 2 := by omega
      rcases HLC with ⟨hl, e1, e2⟩ | ⟨hl, e1, e2⟩
      · have HV : Hid (soV ws s = 0 ∧ soC ws s = 4) := by
          show _ ∧ _
          have : ¬ 0 ≤ lcost ws 0 ws.length s := by omega
          simp [soV, soC, h0, h'', hl, this]
        have HL := Lib.hid e2
        clear e1 e2 h1 h0 h2 hl h''
        go_enter Try.func11, Try.ntmps11
        go_wp2_with fail
        refine (l06Cost_any A cap ws s w hA hn).mono ?_; rintro e w' ⟨rfl, hb⟩
        rw [HL.out]
        go_wp2
        go_ret2
        exact ⟨by rw [HV.out.1, HV.out.2]; rfl, hb⟩
      · have HV : Hid (soV ws s = lsplit ws 0 ws.length s ∧ soC ws s = 0) := by
          show _ ∧ _
          have : ¬ lcost ws 0 ws.length s < 0 := by omega
          simp [soV, soC, h0, h'', h', hl, this]
        have HL := Lib.hid e2
        have hpos := lcost_pos_slots h' hl
        clear e1 e2 h1 h0 h2 hl h''
        go_enter Try.func11, Try.ntmps11
        go_wp2_with fail
        refine (l06Cost_any A cap ws s w hA hn).mono ?_; rintro e w1 ⟨rfl, hb⟩
        rw [HL.out]
        have HB := Lib.hid hb
        go_wp2_with fail
        refine (table_any A cap ws s w1 (hA.below HB.out) hW h40 (by omega)).mono ?_
        rintro e w2 ⟨g, cp, lb, lc, rb, rfl, hT⟩
        have HT := Lib.hid hT; clear hT
        go_wp2_with fail
        refine (split_full A cap ws s g cp lb lc rb w2 ((hA.below HB.out).below HT.out.below) HT.out.rd hW h40 h' hpos (by omega)).mono ?_
        rintro e w3 ⟨rfl, rfl⟩
        go_wp2
        go_ret2
        exact ⟨by rw [HV.out.1, HV.out.2]; rfl, bnext HB.out HT.out.below⟩

set_option maxRecDepth 100000 in
set_option maxHeartbeats 1000000 in
theorem splitOfI (A : Option Addr) (cap : Nat) (ws : List Int) (slots : Int) (w : World) (hA : Ints w A ws) (hn : ws.length ≤ 4611686018427387904) :
    Calls Try.prog 10 #[.slice A ws.length cap, .int .i64 slots] w fun e w' =>
      e = .returned (.tuple #[.int .i64 (soV ws slots), .int .i64 (soC ws slots)]) ∧ Below w.heap.size w w' := by
  by_cases h0 : costC ws slots = 0
  · obtain ⟨hw, s0, s8⟩ := costC_ok h0
    obtain ⟨hW, h40⟩ := isW_of hw
    obtain ⟨s, rfl⟩ := Int.eq_ofNat_of_zero_le s0
    have HC := Lib.hid h0
    by_cases hl2 : (ws.length : Int) < 2
    · have HV : Hid (soV ws s = 0 ∧ soC ws s = 9) := by
        show _ ∧ _
        have h' : ¬ 2 ≤ ws.length := by omega
        have h'' : ws.length < 2 := by omega
        simp [soV, soC, h0, h', h'']
      clear h0 hw
      go_enter Try.func10, Try.ntmps10
      go_wp2_with fail
      refine (isCosted_any A cap ws s w hA hn).mono ?_; rintro e w' ⟨rfl, rfl⟩
      rw [HC.out]
      go_wp2_with fail
      refine (newPlanner_any A cap ws s w hA).mono ?_; rintro e w1 ⟨rfl, hP, hb⟩
      clear hP
      go_wp2
      go_ret2
      exact ⟨by rw [HV.out.1, HV.out.2]; rfl, hb⟩
    · have h' : 2 ≤ ws.length := by omega
      have h'' : ¬ ws.length < 2 := by omega
      have HVn : Hid (lcost ws 0 ws.length s < 0 → soV ws s = 0 ∧ soC ws s = 4) := by
        intro hl
        have : ¬ 0 ≤ lcost ws 0 ws.length s := by omega
        simp [soV, soC, h0, h'', hl, this]
      have HVy : Hid (0 ≤ lcost ws 0 ws.length s → soV ws s = lsplit ws 0 ws.length s ∧ soC ws s = 0 ∧ 0 < s) := by
        intro hl
        have : ¬ lcost ws 0 ws.length s < 0 := by omega
        refine ⟨?_, ?_, lcost_pos_slots h' hl⟩
        · simp [soV, h0, h', hl]
        · simp [soC, h0, h'', this]
      clear h0 hw h''
      go_enter Try.func10, Try.ntmps10
      go_wp2_with fail
      refine (isCosted_any A cap ws s w hA hn).mono ?_; rintro e w' ⟨rfl, rfl⟩
      rw [HC.out]
      go_wp2_with fail
      refine (newPlanner_any A cap ws s w hA).mono ?_; rintro e w1 ⟨rfl, hP, hb⟩
      have HP := Lib.hid hP; clear hP
      go_wp2_with fail
      refine (least_any _ A cap ws s _ _ hW h40 ws.length 0 ws.length s _ _ _ w1 [] [] (by rfl) (by rfl) (by rfl) (by omega) (by omega) (by omega) (by omega) HP.out).mono ?_
      rintro e w2 ⟨rfl, mc, ms, hP2, hO, hsp⟩
      have HF : Hid (Below w.heap.size w w2) := hb.trans (hO.below hb.size (by rintro k (h | h) <;> omega))
      have HP2 := Lib.hid hP2; clear hP2
      have HSP := Lib.hid hsp; clear hsp
      clear hO
      generalize lcost ws 0 ws.length s = q at *
      by_cases hq : q < 0
      · have HV := Lib.hid (HVn.out hq)
        clear HVn HVy
        go_wp2
        go_ret2
        exact ⟨by rw [HV.out.1, HV.out.2]; rfl, HF.out⟩
      · have HV := Lib.hid (HVy.out (by omega))
        have hf3 := HP2.out.f3
        have hlk := run_lookup_plain law3 Try.underlying43 zeroI (w := w2) (r := w.heap.size + 1) (m := ms) HP2.out.maps ((0 : Int), (ws.length : Int), (s : Int))
        have hg : getE ((0 : Int), (ws.length : Int), (s : Int)) ms = some (.int .i64 (lsplit ws 0 ws.length s)) := HSP.out (by omega) HV.out.2.2
        rw [hg] at hlk
        simp only [enc3, Option.getD_some] at hlk
        clear hg HVn HVy HP2 HSP
        go_wp2
        go_ret2
        exact ⟨by rw [HV.out.1, HV.out.2.1]; rfl, HF.out⟩
  · have HV : Hid (soV ws slots = 0 ∧ soC ws slots = costC ws slots) := by show _ ∧ _; simp [soV, soC, h0]
    have hd : (costC ws slots == 0) = false := by simpa using h0
    clear h0
    go_enter Try.func10, Try.ntmps10
    go_wp2_with fail
    refine (isCosted_any A cap ws slots w hA hn).mono ?_; rintro e w' ⟨rfl, rfl⟩
    go_wp2
    go_ret2
    exact ⟨by rw [HV.out.1, HV.out.2]; rfl, Below.refl _ _⟩

end Go.Proofs.Ytdhicgdcjfcomaa
