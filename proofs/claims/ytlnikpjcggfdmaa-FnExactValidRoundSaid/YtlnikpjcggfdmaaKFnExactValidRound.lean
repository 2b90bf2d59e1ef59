/- FnExactValidRound: for every program and function the program's ValidRound returns what the reference's returns. No condition. -/
import Derived.Test.YtlnikpjcggfdmaaKP
import Derived.Deep.RegionHeld3
import Derived.WalkKit
import Derived.ProofKit
import Derived.OpenShut
import Derived.ShutString
import Derived.ChangeOld
import Derived.Below

/- Walks: ValidRound of the spec and of the program. -/
namespace Go.Proofs.Ytlnikpjcggfdmaa
open Go.RowKit Plain

/-- is a function of a program a round? -/
def roundV (P : List Fn) (f : Int) : Bool :=
  if askV P f = 0 then (match P[f.toNat]? with | none => false | some g => decide (1 ≤ g.params) && decide ((g.outs.len : Int) = g.params)) else false

theorem prBoxAt0 {w : World} {P : List Fn} {A : Option Addr} {cap : Nat} (h : ProgIn w P A cap) (t : TypeId) : PrAt (w.alloc (.cells #[.slice A P.length cap] t)) (w.heap.size + 1) P w.heap.size 0 ∧ Below w.heap.size w (w.alloc (.cells #[.slice A P.length cap] t)) := by
  have hg : Below w.heap.size w (w.alloc (.cells #[.slice A P.length cap] t)) := by go_grown
  have hc : Cells (w.alloc (.cells #[.slice A P.length cap] t)) w.heap.size t [.slice A P.length cap] := Cells.new w _ _
  exact ⟨⟨by omega, A, cap, by rw [hc.cell]; rfl, h.pl, h.pm, (h.fns.below hg).mono (by omega)⟩, hg⟩

set_option maxRecDepth 100000 in
set_option maxHeartbeats 1000000 in
theorem roundS_in (P : List Fn) (m : Nat) (g : Fn) (bp op B : Nat) (w : World) (hP : PrAt w B P bp op) (_hB : B ≤ w.heap.size) (hg : P[m]? = some g) :
    Calls Try.prog 54 #[ptr bp op, .int .i64 m] w fun e w' => e = .returned (.bool (decide (1 ≤ g.params) && decide ((g.outs.len : Int) = g.params))) ∧ Below w.heap.size w w' := by
  obtain ⟨hbp, PA, pcap, hp0, hPl, hPm, hFS⟩ := hP
  have hml : m < P.length := (List.getElem?_eq_some_iff.1 hg).1
  have hml2 : (m : Int) < (P.length : Int) := by omega
  have hPm' : pcap ≤ 9223372036854775807 := by unfold maxLen at hPm; omega
  obtain ⟨bP, oP, rfl, hbP, _, g1, _, KF, cF, g2, hcF, hmF, _⟩ := hFS.get hg
  have hin : Hid (inR (m : Int) 0 ((P.length : Int) - 1) = true) := inR_true.2 (by omega)
  have hmF' : cF ≤ 9223372036854775807 := by unfold maxLen at hmF; omega
  clear hFS hg
  obtain ⟨gp, hgp⟩ : ∃ x, x = g.params := ⟨_, rfl⟩
  rw [← hgp] at g1 ⊢
  generalize g.outs.len = ol at *
  clear hgp
  cases h1 : decide (1 ≤ gp)
  · have h1' : decide (gp ≥ 1) = false := h1
    go_enter Try.func54, Try.ntmps54
    go_wp2_with fail
    refine (in_any _ _ _ _).mono ?_; rintro e w' ⟨rfl, rfl⟩
    rw [hin.out]
    go_wp2
    go_quiet (fail)
    go_wp2
    go_ret
    exact ⟨rfl, below_drewN' (Below.refl _ _) _⟩
  · have h1' : decide (gp ≥ 1) = true := h1
    go_enter Try.func54, Try.ntmps54
    go_wp2_with fail
    refine (in_any _ _ _ _).mono ?_; rintro e w' ⟨rfl, rfl⟩
    rw [hin.out]
    go_wp2
    go_quiet (fail)
    go_wp2
    go_ret
    exact ⟨ret_bool (by simp [Bool.beq_eq_decide_eq]), below_drewN' (Below.refl _ _) _⟩

set_option maxHeartbeats 1000000 in
theorem roundS_no (P : List Fn) (f : Int) (bp op B : Nat) (w : World) (hP : PrAt w B P bp op) (_hB : B ≤ w.heap.size) (hf : inR f 0 ((P.length : Int) - 1) = false) :
    Calls Try.prog 54 #[ptr bp op, .int .i64 f] w fun e w' => e = .returned (.bool false) ∧ Below w.heap.size w w' := by
  obtain ⟨hbp, PA, pcap, hp0, hPl, hPm, hFS⟩ := hP
  have hPm' : pcap ≤ 9223372036854775807 := by unfold maxLen at hPm; omega
  have HF := Lib.hid hf
  clear hf hFS
  go_enter Try.func54, Try.ntmps54
  go_wp2_with fail
  refine (in_any _ _ _ _).mono ?_; rintro e w' ⟨rfl, rfl⟩
  rw [HF.out]
  go_wp2
  go_ret
  exact ⟨rfl, Below.refl _ _⟩

set_option maxHeartbeats 1000000 in
theorem validRoundS (P : List Fn) (f : Int) {PA : Option Addr} {pcap : Nat} (w : World) (hP : ProgIn w P PA pcap) :
    Calls Try.prog 22 #[prV PA P.length pcap, .int .i64 f] w (Retb (roundV P f) w) := by
  obtain ⟨hPr, hg⟩ := prBoxAt0 hP 31
  have HOK := Lib.hid (okS_any P w.heap.size 0 (w.heap.size + 1) _ hPr (by simp) hP.sz)
  have HG := Lib.hid hg
  cases hok : progOk P
  · have HV : Hid (roundV P f = false) := by
      have h1 : askV P f = 1 := by unfold askV; rw [hok]; rfl
      show _ = _
      unfold roundV
      rw [h1]; rfl
    rw [hok] at HOK
    rw [HV.out]
    clear hok hPr hP hg
    go_enter Try.func22, Try.ntmps22
    go_wp2_with fail
    refine HOK.out.mono ?_; rintro e w1 ⟨rfl, hb1⟩
    go_wp2
    go_ret
    exact ⟨HG.out.trans (hb1.mono HG.out.size), rfl⟩
  · cases hf : inR f 0 ((P.length : Int) - 1)
    · have HV : Hid (roundV P f = false) := by
        have h1 : askV P f = 2 := by unfold askV; rw [hok, hf]; rfl
        show _ = _
        unfold roundV
        rw [h1]; rfl
      have HR : Hid (∀ wx, Below (w.heap.size + 1) (w.alloc (.cells #[.slice PA P.length pcap] 31)) wx → Calls Try.prog 54 #[ptr w.heap.size 0, .int .i64 f] wx fun e w' => e = .returned (.bool false) ∧ Below wx.heap.size wx w') := fun wx hx =>
        roundS_no P f w.heap.size 0 (w.heap.size + 1) wx (hPr.below hx) (by have := hx.size; simp at this; omega) hf
      rw [hok] at HOK
      rw [HV.out]
      clear hok hf hPr hP hg
      go_enter Try.func22, Try.ntmps22
      go_wp2_with fail
      refine HOK.out.mono ?_; rintro e w1 ⟨rfl, hb1⟩
      have HB := Lib.hid hb1
      clear hb1
      go_wp2_with fail
      refine (HR.out _ (HB.out.mono (by simp))).mono ?_; rintro e w2 ⟨rfl, hb2⟩
      go_wp2
      go_ret
      exact ⟨bnext (HG.out.trans (HB.out.mono HG.out.size)) hb2, rfl⟩
    · have h1 : askV P f = 0 := by unfold askV; rw [hok, hf]; rfl
      obtain ⟨_, m, g, rfl, hgm⟩ := askV_zero h1
      have HV : Hid (roundV P m = (decide (1 ≤ g.params) && decide ((g.outs.len : Int) = g.params))) := by
        show _ = _
        unfold roundV
        rw [if_pos h1]
        simp only [Int.toNat_natCast, hgm]
      have HR : Hid (∀ wx, Below (w.heap.size + 1) (w.alloc (.cells #[.slice PA P.length pcap] 31)) wx → Calls Try.prog 54 #[ptr w.heap.size 0, .int .i64 m] wx fun e w' => e = .returned (.bool (decide (1 ≤ g.params) && decide ((g.outs.len : Int) = g.params))) ∧ Below wx.heap.size wx w') := fun wx hx =>
        roundS_in P m g w.heap.size 0 (w.heap.size + 1) wx (hPr.below hx) (by have := hx.size; simp at this; omega) hgm
      rw [hok] at HOK
      rw [HV.out]
      clear hok hf hPr hP hg hgm h1
      generalize (decide (1 ≤ g.params) && decide ((g.outs.len : Int) = g.params)) = bb at *
      go_enter Try.func22, Try.ntmps22
      go_wp2_with fail
      refine HOK.out.mono ?_; rintro e w1 ⟨rfl, hb1⟩
      have HB := Lib.hid hb1
      clear hb1
      go_wp2_with fail
      refine (HR.out _ (HB.out.mono (by simp))).mono ?_; rintro e w2 ⟨rfl, hb2⟩
      go_wp2
      go_ret
      exact ⟨bnext (HG.out.trans (HB.out.mono HG.out.size)) hb2, rfl⟩

theorem boxCell {w1 : World} {b : Nat} {t : TypeId} {v : Value} (h : Cells w1 b t [v]) : w1.cell? ⟨b, 0, none⟩ = some v := by rw [h.cell]; rfl

set_option maxRecDepth 100000 in
set_option maxHeartbeats 2000000 in
theorem roundI_no (P : List Fn) (f : Int) {PA : Option Addr} {pcap : Nat} (w : World) (hP : ProgIn w P PA pcap) (hv : ¬ askV P f = 0) :
    Calls Try.prog 23 #[prV PA P.length pcap, .int .i64 f] w fun e w' => e = .returned (.bool false) ∧ Below w.heap.size w w' := by
  have hAsk : Hid (∀ wx, Below w.heap.size w wx → Calls Try.prog 33 #[prV PA P.length pcap, .int .i64 f] wx fun e w' => e = .returned (.int .i64 (askV P f)) ∧ Below wx.heap.size wx w') := fun wx hx =>
    isFunc_any P f w.heap.size PA pcap wx (hP.fns.below hx) hP.pl hP.pm hx.size hP.sz
  obtain ⟨V, hV⟩ : ∃ V, V = askV P f := ⟨_, rfl⟩
  rw [← hV] at hAsk hv
  have hv1 : (V == 0) = false := by simpa using hv
  obtain ⟨w1, hw1⟩ : ∃ w1, w1 = w.alloc (.cells #[.slice PA P.length pcap] 31) := ⟨_, rfl⟩
  have hC1 : Cells w1 w.heap.size 31 [.slice PA P.length pcap] := by rw [hw1]; exact Cells.new w _ _
  have hB1 : Below w.heap.size w w1 := by rw [hw1]; go_grown
  have A0 := Lib.hid (boxCell hC1)
  have Q2 := Lib.hid hB1
  have HW1 := Lib.hid hw1
  clear hC1 hB1 hw1 hP hV
  go_enter Try.func23, Try.ntmps23
  go_wp2_with fail
  rw [← HW1.out]
  refine wp_region_held_drew (S := fun wx => wx.cell? ⟨w.heap.size, 0, none⟩ = some (.slice PA P.length pcap) ∧ Hid (Below w.heap.size w wx)) (by kernel_rfl) ⟨A0.out, Q2.out.drew⟩ (fun hS1 => ?_)
  refine wpAnyH_take (i := 0) (oi := _) (v := ?_) rfl (by kernel_rfl) (by kernel_rfl) (by kernel_rfl) (fun _ _ _ h => h) (Or.inl ⟨by rfl, ?_⟩) (by assumption) ?_
  rotate_left 1
  · intro w hSw; (try dsimp only at hSw); go_simp; (try with_reducible rfl)
  try simp only [Act.put, List.setIfInBounds_toArray, List.set_cons_zero, List.set_cons_succ, List.getElem_toArray, List.getElem_cons_zero]
  refine wpAnyH_take (i := 1) (oi := _) (v := ?_) rfl (by kernel_rfl) (by kernel_rfl) (by kernel_rfl) (fun _ _ _ h => h) (Or.inl ⟨by rfl, ?_⟩) (by assumption) ?_
  rotate_left 1
  · intro w hSw; (try dsimp only at hSw); go_simp; (try with_reducible rfl)
  try simp only [Act.put, List.setIfInBounds_toArray, List.set_cons_zero, List.set_cons_succ, List.getElem_toArray, List.getElem_cons_zero, List.getElem_cons_succ]
  refine wpAnyH_ready (rs := [2]) (by kernel_rfl) (by simp) ?_
  refine AllReadyH.cons rfl (fun K' hK => ?_) AllReadyH.nil
  rw [if_pos (by rfl)]
  try simp only [List.getElem_toArray, List.getElem_cons_zero, List.getElem_cons_succ] at hK ⊢
  go_simp
  go_at_call 33
  refine (hAsk.out _ Q2.out.drew).mono ?_; rintro e w2 ⟨rfl, hb2⟩
  have hb2' : Below w1.heap.size w1 w2 := bdrew hb2
  refine hK.out _ _ ⟨keepC A0.out hb2', Q2.out.trans (hb2'.mono Q2.out.size)⟩ (fun hS2 => ?_)
  clear hK hS1 hb2
  refine wpAnyH_take (i := 3) (oi := _) (v := ?_) rfl (by kernel_rfl) (by kernel_rfl) (by kernel_rfl) (fun _ _ _ h => h) (Or.inl ⟨by rfl, ?_⟩) (by assumption) ?_
  rotate_left 1
  · intro w hSw; (try dsimp only at hSw); go_simp; (try with_reducible rfl)
  try simp only [Act.put, List.setIfInBounds_toArray, List.set_cons_zero, List.set_cons_succ, List.getElem_toArray, List.getElem_cons_zero, List.getElem_cons_succ]
  refine wpAnyH_take (i := 4) (oi := _) (v := ?_) rfl (by kernel_rfl) (by kernel_rfl) (by kernel_rfl) (fun _ _ _ h => h) (Or.inl ⟨by rfl, ?_⟩) (by assumption) ?_
  rotate_left 1
  · intro w hSw; (try dsimp only at hSw); go_simp; (try with_reducible rfl)
  try simp only [Act.put, List.setIfInBounds_toArray, List.set_cons_zero, List.set_cons_succ, List.getElem_toArray, List.getElem_cons_zero, List.getElem_cons_succ]
  refine wpAnyH_take (i := 5) (oi := _) (v := undef) rfl (by kernel_rfl) (by kernel_rfl) (by kernel_rfl) (fun _ _ _ h => h) (Or.inr ⟨by rfl, rfl⟩) (by assumption) ?_
  try simp only [Act.put, List.setIfInBounds_toArray, List.set_cons_zero, List.set_cons_succ, List.getElem_toArray, List.getElem_cons_zero, List.getElem_cons_succ]
  refine wpAnyH_take (i := 6) (oi := _) (v := undef) rfl (by kernel_rfl) (by kernel_rfl) (by kernel_rfl) (fun _ _ _ h => h) (Or.inr ⟨by rfl, rfl⟩) (by assumption) ?_
  try simp only [Act.put, List.setIfInBounds_toArray, List.set_cons_zero, List.set_cons_succ, List.getElem_toArray, List.getElem_cons_zero, List.getElem_cons_succ]
  refine wpAnyH_take (i := 7) (oi := _) (v := undef) rfl (by kernel_rfl) (by kernel_rfl) (by kernel_rfl) (fun _ _ _ h => h) (Or.inr ⟨by rfl, rfl⟩) (by assumption) ?_
  try simp only [Act.put, List.setIfInBounds_toArray, List.set_cons_zero, List.set_cons_succ, List.getElem_toArray, List.getElem_cons_zero, List.getElem_cons_succ]
  refine wpAnyH_take (i := 8) (oi := _) (v := undef) rfl (by kernel_rfl) (by kernel_rfl) (by kernel_rfl) (fun _ _ _ h => h) (Or.inr ⟨by rfl, rfl⟩) (by assumption) ?_
  try simp only [Act.put, List.setIfInBounds_toArray, List.set_cons_zero, List.set_cons_succ, List.getElem_toArray, List.getElem_cons_zero, List.getElem_cons_succ]
  refine wpAnyH_take (i := 9) (oi := _) (v := undef) rfl (by kernel_rfl) (by kernel_rfl) (by kernel_rfl) (fun _ _ _ h => h) (Or.inr ⟨by rfl, rfl⟩) (by assumption) ?_
  try simp only [Act.put, List.setIfInBounds_toArray, List.set_cons_zero, List.set_cons_succ, List.getElem_toArray, List.getElem_cons_zero, List.getElem_cons_succ]
  refine wpAnyH_take (i := 10) (oi := _) (v := undef) rfl (by kernel_rfl) (by kernel_rfl) (by kernel_rfl) (fun _ _ _ h => h) (Or.inr ⟨by rfl, rfl⟩) (by assumption) ?_
  try simp only [Act.put, List.setIfInBounds_toArray, List.set_cons_zero, List.set_cons_succ, List.getElem_toArray, List.getElem_cons_zero, List.getElem_cons_succ]
  refine wpAnyH_take (i := 11) (oi := _) (v := undef) rfl (by kernel_rfl) (by kernel_rfl) (by kernel_rfl) (fun _ _ _ h => h) (Or.inr ⟨by rfl, rfl⟩) (by assumption) ?_
  try simp only [Act.put, List.setIfInBounds_toArray, List.set_cons_zero, List.set_cons_succ, List.getElem_toArray, List.getElem_cons_zero, List.getElem_cons_succ]
  refine wpAnyH_take (i := 12) (oi := _) (v := ?_) rfl (by kernel_rfl) (by kernel_rfl) (by kernel_rfl) (fun _ _ _ h => h) (Or.inl ⟨by rfl, ?_⟩) (by assumption) ?_
  rotate_left 1
  · intro w hSw; (try dsimp only at hSw); go_simp; (try with_reducible rfl)
  try simp only [Act.put, List.setIfInBounds_toArray, List.set_cons_zero, List.set_cons_succ, List.getElem_toArray, List.getElem_cons_zero, List.getElem_cons_succ]
  refine wpAnyH_take (i := 13) (oi := _) (v := ?_) rfl (by kernel_rfl) (by kernel_rfl) (by kernel_rfl) (fun _ _ _ h => h) (Or.inl ⟨by rfl, ?_⟩) (by assumption) ?_
  rotate_left 1
  · intro w hSw; (try dsimp only at hSw); go_simp; (try with_reducible rfl)
  try simp only [Act.put, List.setIfInBounds_toArray, List.set_cons_zero, List.set_cons_succ, List.getElem_toArray, List.getElem_cons_zero, List.getElem_cons_succ]
  refine wpAnyH_take (i := 14) (oi := _) (v := undef) rfl (by kernel_rfl) (by kernel_rfl) (by kernel_rfl) (fun _ _ _ h => h) (Or.inr ⟨by rfl, rfl⟩) (by assumption) ?_
  try simp only [Act.put, List.setIfInBounds_toArray, List.set_cons_zero, List.set_cons_succ, List.getElem_toArray, List.getElem_cons_zero, List.getElem_cons_succ]
  refine wpAnyH_take (i := 15) (oi := _) (v := undef) rfl (by kernel_rfl) (by kernel_rfl) (by kernel_rfl) (fun _ _ _ h => h) (Or.inr ⟨by rfl, rfl⟩) (by assumption) ?_
  try simp only [Act.put, List.setIfInBounds_toArray, List.set_cons_zero, List.set_cons_succ, List.getElem_toArray, List.getElem_cons_zero, List.getElem_cons_succ]
  refine wpAnyH_take (i := 16) (oi := _) (v := undef) rfl (by kernel_rfl) (by kernel_rfl) (by kernel_rfl) (fun _ _ _ h => h) (Or.inr ⟨by rfl, rfl⟩) (by assumption) ?_
  try simp only [Act.put, List.setIfInBounds_toArray, List.set_cons_zero, List.set_cons_succ, List.getElem_toArray, List.getElem_cons_zero, List.getElem_cons_succ]
  refine wpAnyH_take (i := 17) (oi := _) (v := undef) rfl (by kernel_rfl) (by kernel_rfl) (by kernel_rfl) (fun _ _ _ h => h) (Or.inr ⟨by rfl, rfl⟩) (by assumption) ?_
  try simp only [Act.put, List.setIfInBounds_toArray, List.set_cons_zero, List.set_cons_succ, List.getElem_toArray, List.getElem_cons_zero, List.getElem_cons_succ]
  refine wpAnyH_take (i := 18) (oi := _) (v := undef) rfl (by kernel_rfl) (by kernel_rfl) (by kernel_rfl) (fun _ _ _ h => h) (Or.inr ⟨by rfl, rfl⟩) (by assumption) ?_
  try simp only [Act.put, List.setIfInBounds_toArray, List.set_cons_zero, List.set_cons_succ, List.getElem_toArray, List.getElem_cons_zero, List.getElem_cons_succ]
  refine wpAnyH_take (i := 19) (oi := _) (v := undef) rfl (by kernel_rfl) (by kernel_rfl) (by kernel_rfl) (fun _ _ _ h => h) (Or.inr ⟨by rfl, rfl⟩) (by assumption) ?_
  try simp only [Act.put, List.setIfInBounds_toArray, List.set_cons_zero, List.set_cons_succ, List.getElem_toArray, List.getElem_cons_zero, List.getElem_cons_succ]
  refine wpAnyH_take (i := 20) (oi := _) (v := undef) rfl (by kernel_rfl) (by kernel_rfl) (by kernel_rfl) (fun _ _ _ h => h) (Or.inr ⟨by rfl, rfl⟩) (by assumption) ?_
  try simp only [Act.put, List.setIfInBounds_toArray, List.set_cons_zero, List.set_cons_succ, List.getElem_toArray, List.getElem_cons_zero, List.getElem_cons_succ]
  refine wpAnyH_take (i := 21) (oi := _) (v := undef) rfl (by kernel_rfl) (by kernel_rfl) (by kernel_rfl) (fun _ _ _ h => h) (Or.inr ⟨by rfl, rfl⟩) (by assumption) ?_
  try simp only [Act.put, List.setIfInBounds_toArray, List.set_cons_zero, List.set_cons_succ, List.getElem_toArray, List.getElem_cons_zero, List.getElem_cons_succ]
  refine wpAnyH_take (i := 22) (oi := _) (v := undef) rfl (by kernel_rfl) (by kernel_rfl) (by kernel_rfl) (fun _ _ _ h => h) (Or.inr ⟨by rfl, rfl⟩) (by assumption) ?_
  try simp only [Act.put, List.setIfInBounds_toArray, List.set_cons_zero, List.set_cons_succ, List.getElem_toArray, List.getElem_cons_zero, List.getElem_cons_succ]
  refine wpAnyH_take (i := 23) (oi := _) (v := undef) rfl (by kernel_rfl) (by kernel_rfl) (by kernel_rfl) (fun _ _ _ h => h) (Or.inr ⟨by rfl, rfl⟩) (by assumption) ?_
  try simp only [Act.put, List.setIfInBounds_toArray, List.set_cons_zero, List.set_cons_succ, List.getElem_toArray, List.getElem_cons_zero, List.getElem_cons_succ]
  refine wpAnyH_take (i := 24) (oi := _) (v := undef) rfl (by kernel_rfl) (by kernel_rfl) (by kernel_rfl) (fun _ _ _ h => h) (Or.inr ⟨by rfl, rfl⟩) (by assumption) ?_
  try simp only [Act.put, List.setIfInBounds_toArray, List.set_cons_zero, List.set_cons_succ, List.getElem_toArray, List.getElem_cons_zero, List.getElem_cons_succ]
  refine wpAnyH_take (i := 25) (oi := _) (v := undef) rfl (by kernel_rfl) (by kernel_rfl) (by kernel_rfl) (fun _ _ _ h => h) (Or.inr ⟨by rfl, rfl⟩) (by assumption) ?_
  try simp only [Act.put, List.setIfInBounds_toArray, List.set_cons_zero, List.set_cons_succ, List.getElem_toArray, List.getElem_cons_zero, List.getElem_cons_succ]
  refine wpAnyH_take (i := 26) (oi := _) (v := undef) rfl (by kernel_rfl) (by kernel_rfl) (by kernel_rfl) (fun _ _ _ h => h) (Or.inr ⟨by rfl, rfl⟩) (by assumption) ?_
  try simp only [Act.put, List.setIfInBounds_toArray, List.set_cons_zero, List.set_cons_succ, List.getElem_toArray, List.getElem_cons_zero, List.getElem_cons_succ]
  refine wpAnyH_take (i := 27) (oi := _) (v := undef) rfl (by kernel_rfl) (by kernel_rfl) (by kernel_rfl) (fun _ _ _ h => h) (Or.inr ⟨by rfl, rfl⟩) (by assumption) ?_
  try simp only [Act.put, List.setIfInBounds_toArray, List.set_cons_zero, List.set_cons_succ, List.getElem_toArray, List.getElem_cons_zero, List.getElem_cons_succ]
  refine wpAnyH_take (i := 28) (oi := _) (v := ?_) rfl (by kernel_rfl) (by kernel_rfl) (by kernel_rfl) (fun _ _ _ h => h) (Or.inl ⟨by rfl, ?_⟩) (by assumption) ?_
  rotate_left 1
  · intro w hSw; (try dsimp only at hSw); go_simp; (try with_reducible rfl)
  try simp only [Act.put, List.setIfInBounds_toArray, List.set_cons_zero, List.set_cons_succ, List.getElem_toArray, List.getElem_cons_zero, List.getElem_cons_succ]
  refine wpAnyH_take (i := 29) (oi := _) (v := ?_) rfl (by kernel_rfl) (by kernel_rfl) (by kernel_rfl) (fun _ _ _ h => h) (Or.inl ⟨by rfl, ?_⟩) (by assumption) ?_
  rotate_left 1
  · intro w hSw; (try dsimp only at hSw); go_simp; (try with_reducible rfl)
  try simp only [Act.put, List.setIfInBounds_toArray, List.set_cons_zero, List.set_cons_succ, List.getElem_toArray, List.getElem_cons_zero, List.getElem_cons_succ]
  refine wpAnyH_done (by kernel_rfl) ?_ _
  go_wp2
  go_ret
  exact ⟨rfl, hS2.2.out⟩

theorem keepR {w w' : World} {p1 p2 p3 : Addr} {u1 u2 u3 : Value} (h : w.cell? p1 = some u1 ∧ w.cell? p2 = some u2 ∧ w.cell? p3 = some u3) (hb : Below w.heap.size w w') : w'.cell? p1 = some u1 ∧ w'.cell? p2 = some u2 ∧ w'.cell? p3 = some u3 :=
  ⟨keepC h.1 hb, keepC h.2.1 hb, keepC h.2.2 hb⟩

set_option maxRecDepth 100000 in
set_option maxHeartbeats 2000000 in
theorem roundI_yes (P : List Fn) (m : Nat) (g : Fn) {PA : Option Addr} {pcap : Nat} (w : World) (hP : ProgIn w P PA pcap) (hv : askV P m = 0) (hgm : P[m]? = some g) :
    Calls Try.prog 23 #[prV PA P.length pcap, .int .i64 m] w fun e w' => e = .returned (.bool (decide (1 ≤ g.params) && decide ((g.outs.len : Int) = g.params))) ∧ Below w.heap.size w w' := by
  have hpm : pcap ≤ 9223372036854775807 := by have := hP.pm; unfold maxLen at this; omega
  have hAsk : Hid (∀ wx, Below w.heap.size w wx → Calls Try.prog 33 #[prV PA P.length pcap, .int .i64 m] wx fun e w' => e = .returned (.int .i64 0) ∧ Below wx.heap.size wx w') := fun wx hx => by
    have h := isFunc_any P m w.heap.size PA pcap wx (hP.fns.below hx) hP.pl hP.pm hx.size hP.sz
    rw [hv] at h
    exact h
  have hml : m < P.length := (List.getElem?_eq_some_iff.1 hgm).1
  have hml2 : (m : Int) < (P.length : Int) := by omega
  have HP := Lib.hid hP
  have HGM := Lib.hid hgm
  obtain ⟨bP, oP, rfl, hbP, _⟩ := hP.fns.get hgm
  obtain ⟨gp, hgp⟩ : ∃ x, x = g.params := ⟨_, rfl⟩
  obtain ⟨ol, hol⟩ : ∃ x, x = g.outs.len := ⟨_, rfl⟩
  rw [← hgp, ← hol]
  obtain ⟨w1, hw1⟩ : ∃ w1, w1 = w.alloc (.cells #[.slice (some ⟨bP, oP, none⟩) P.length pcap] 31) := ⟨_, rfl⟩
  have hC1 : Cells w1 w.heap.size 31 [.slice (some ⟨bP, oP, none⟩) P.length pcap] := by rw [hw1]; exact Cells.new w _ _
  have hB1 : Below w.heap.size w w1 := by rw [hw1]; go_grown
  obtain ⟨KF, cF, f1, f2, f3⟩ : ∃ KF cF, w1.cell? ⟨bP, oP + m * 3 + 1, none⟩ = some (.int .i64 gp) ∧ w1.cell? ⟨bP, oP + m * 3 + 2, none⟩ = some (.slice KF ol cF) ∧ cF ≤ 9223372036854775807 := by
    obtain ⟨bP', oP', e', _, _, g1, _, KF, cF, g2, _, hmF, _⟩ := (HP.out.fns.below hB1).get HGM.out
    obtain ⟨rfl, rfl⟩ : bP = bP' ∧ oP = oP' := by simpa using e'
    unfold maxLen at hmF
    exact ⟨KF, cF, by rw [hgp]; exact g1, by rw [hol]; exact g2, by omega⟩
  have A0 := Lib.hid (And.intro (boxCell hC1) (And.intro f1 f2))
  have Q2 := Lib.hid hB1
  have HW1 := Lib.hid hw1
  clear hC1 hB1 hw1 hP hv hgm hgp hol f1 f2 HP HGM
  cases h1 : decide (1 ≤ gp)
  · have h1' : decide (gp ≥ 1) = false := h1
    go_enter Try.func23, Try.ntmps23
    go_wp2_with fail
    rw [← HW1.out]
    refine wp_region_held_drew (S := fun wx => wx.cell? ⟨w.heap.size, 0, none⟩ = some (.slice (some ⟨bP, oP, none⟩) P.length pcap) ∧ wx.cell? ⟨bP, oP + m * 3 + 1, none⟩ = some (.int .i64 gp) ∧ Hid (Below w.heap.size w wx)) (by kernel_rfl) ⟨A0.out.1, A0.out.2.1, Q2.out.drew⟩ (fun hS1 => ?_)
    refine wpAnyH_take (i := 0) (oi := _) (v := ?_) rfl (by kernel_rfl) (by kernel_rfl) (by kernel_rfl) (fun _ _ _ h => h) (Or.inl ⟨by rfl, ?_⟩) (by assumption) ?_
    rotate_left 1
    · intro w hSw; (try dsimp only at hSw); go_simp; (try with_reducible rfl)
    try simp only [Act.put, List.setIfInBounds_toArray, List.set_cons_zero, List.set_cons_succ, List.getElem_toArray, List.getElem_cons_zero]
    refine wpAnyH_take (i := 1) (oi := _) (v := ?_) rfl (by kernel_rfl) (by kernel_rfl) (by kernel_rfl) (fun _ _ _ h => h) (Or.inl ⟨by rfl, ?_⟩) (by assumption) ?_
    rotate_left 1
    · intro w hSw; (try dsimp only at hSw); go_simp; (try with_reducible rfl)
    try simp only [Act.put, List.setIfInBounds_toArray, List.set_cons_zero, List.set_cons_succ, List.getElem_toArray, List.getElem_cons_zero, List.getElem_cons_succ]
    refine wpAnyH_ready (rs := [2]) (by kernel_rfl) (by simp) ?_
    refine AllReadyH.cons rfl (fun K' hK => ?_) AllReadyH.nil
    rw [if_pos (by rfl)]
    try simp only [List.getElem_toArray, List.getElem_cons_zero, List.getElem_cons_succ] at hK ⊢
    go_simp
    go_at_call 33
    refine (hAsk.out _ Q2.out.drew).mono ?_; rintro e w2 ⟨rfl, hb2⟩
    have hb2' : Below w1.heap.size w1 w2 := bdrew hb2
    have k2 := keepR A0.out hb2'
    refine hK.out _ _ ⟨k2.1, k2.2.1, Q2.out.trans (hb2'.mono Q2.out.size)⟩ (fun hS2 => ?_)
    clear hK hS1 hb2 k2
    refine wpAnyH_take (i := 3) (oi := _) (v := ?_) rfl (by kernel_rfl) (by kernel_rfl) (by kernel_rfl) (fun _ _ _ h => h) (Or.inl ⟨by rfl, ?_⟩) (by assumption) ?_
    rotate_left 1
    · intro w hSw; (try dsimp only at hSw); go_simp; (try with_reducible rfl)
    try simp only [Act.put, List.setIfInBounds_toArray, List.set_cons_zero, List.set_cons_succ, List.getElem_toArray, List.getElem_cons_zero, List.getElem_cons_succ]
    refine wpAnyH_take (i := 4) (oi := _) (v := ?_) rfl (by kernel_rfl) (by kernel_rfl) (by kernel_rfl) (fun _ _ _ h => h) (Or.inl ⟨by rfl, ?_⟩) (by assumption) ?_
    rotate_left 1
    · intro w hSw; (try dsimp only at hSw); go_simp; (try with_reducible rfl)
    try simp only [Act.put, List.setIfInBounds_toArray, List.set_cons_zero, List.set_cons_succ, List.getElem_toArray, List.getElem_cons_zero, List.getElem_cons_succ]
    refine wpAnyH_take (i := 5) (oi := _) (v := ?_) rfl (by kernel_rfl) (by kernel_rfl) (by kernel_rfl) (fun _ _ _ h => h) (Or.inl ⟨by rfl, ?_⟩) (by assumption) ?_
    rotate_left 1
    · intro w hSw; (try dsimp only at hSw); go_simp; (try with_reducible rfl)
    try simp only [Act.put, List.setIfInBounds_toArray, List.set_cons_zero, List.set_cons_succ, List.getElem_toArray, List.getElem_cons_zero, List.getElem_cons_succ]
    refine wpAnyH_take (i := 6) (oi := _) (v := ?_) rfl (by kernel_rfl) (by kernel_rfl) (by kernel_rfl) (fun _ _ _ h => h) (Or.inl ⟨by rfl, ?_⟩) (by assumption) ?_
    rotate_left 1
    · intro w hSw; (try dsimp only at hSw); go_simp; (try with_reducible rfl)
    try simp only [Act.put, List.setIfInBounds_toArray, List.set_cons_zero, List.set_cons_succ, List.getElem_toArray, List.getElem_cons_zero, List.getElem_cons_succ]
    refine wpAnyH_take (i := 7) (oi := _) (v := ?_) rfl (by kernel_rfl) (by kernel_rfl) (by kernel_rfl) (fun _ _ _ h => h) (Or.inl ⟨by rfl, ?_⟩) (by assumption) ?_
    rotate_left 1
    · intro w hSw; (try dsimp only at hSw); go_simp; (try with_reducible rfl)
    try simp only [Act.put, List.setIfInBounds_toArray, List.set_cons_zero, List.set_cons_succ, List.getElem_toArray, List.getElem_cons_zero, List.getElem_cons_succ]
    refine wpAnyH_take (i := 8) (oi := _) (v := ?_) rfl (by kernel_rfl) (by kernel_rfl) (by kernel_rfl) (fun _ _ _ h => h) (Or.inl ⟨by rfl, ?_⟩) (by assumption) ?_
    rotate_left 1
    · intro w hSw; (try dsimp only at hSw); go_simp; (try with_reducible rfl)
    try simp only [Act.put, List.setIfInBounds_toArray, List.set_cons_zero, List.set_cons_succ, List.getElem_toArray, List.getElem_cons_zero, List.getElem_cons_succ]
    refine wpAnyH_take (i := 9) (oi := _) (v := ?_) rfl (by kernel_rfl) (by kernel_rfl) (by kernel_rfl) (fun _ _ _ h => h) (Or.inl ⟨by rfl, ?_⟩) (by assumption) ?_
    rotate_left 1
    · intro w hSw; (try dsimp only at hSw); go_simp; (try with_reducible rfl)
    try simp only [Act.put, List.setIfInBounds_toArray, List.set_cons_zero, List.set_cons_succ, List.getElem_toArray, List.getElem_cons_zero, List.getElem_cons_succ]
    refine wpAnyH_take (i := 10) (oi := _) (v := ?_) rfl (by kernel_rfl) (by kernel_rfl) (by kernel_rfl) (fun _ _ _ h => h) (Or.inl ⟨by rfl, ?_⟩) (by assumption) ?_
    rotate_left 1
    · intro w hSw; (try dsimp only at hSw); go_simp; (try with_reducible rfl)
    try simp only [Act.put, List.setIfInBounds_toArray, List.set_cons_zero, List.set_cons_succ, List.getElem_toArray, List.getElem_cons_zero, List.getElem_cons_succ]
    refine wpAnyH_take (i := 11) (oi := _) (v := ?_) rfl (by kernel_rfl) (by kernel_rfl) (by kernel_rfl) (fun _ _ _ h => h) (Or.inl ⟨by rfl, ?_⟩) (by assumption) ?_
    rotate_left 1
    · intro w hSw; (try dsimp only at hSw); go_simp; (try with_reducible rfl)
    try simp only [Act.put, List.setIfInBounds_toArray, List.set_cons_zero, List.set_cons_succ, List.getElem_toArray, List.getElem_cons_zero, List.getElem_cons_succ]
    refine wpAnyH_take (i := 12) (oi := _) (v := ?_) rfl (by kernel_rfl) (by kernel_rfl) (by kernel_rfl) (fun _ _ _ h => h) (Or.inl ⟨by rfl, ?_⟩) (by assumption) ?_
    rotate_left 1
    · intro w hSw; (try dsimp only at hSw); go_simp; (try with_reducible rfl)
    try simp only [Act.put, List.setIfInBounds_toArray, List.set_cons_zero, List.set_cons_succ, List.getElem_toArray, List.getElem_cons_zero, List.getElem_cons_succ]
    refine wpAnyH_take (i := 13) (oi := _) (v := ?_) rfl (by kernel_rfl) (by kernel_rfl) (by kernel_rfl) (fun _ _ _ h => h) (Or.inl ⟨by rfl, ?_⟩) (by assumption) ?_
    rotate_left 1
    · intro w hSw; (try dsimp only at hSw); go_simp; (try with_reducible rfl)
    try simp only [Act.put, List.setIfInBounds_toArray, List.set_cons_zero, List.set_cons_succ, List.getElem_toArray, List.getElem_cons_zero, List.getElem_cons_succ]
    refine wpAnyH_take (i := 14) (oi := _) (v := undef) rfl (by kernel_rfl) (by kernel_rfl) (by kernel_rfl) (fun _ _ _ h => h) (Or.inr ⟨by rfl, rfl⟩) (by assumption) ?_
    try simp only [Act.put, List.setIfInBounds_toArray, List.set_cons_zero, List.set_cons_succ, List.getElem_toArray, List.getElem_cons_zero, List.getElem_cons_succ]
    refine wpAnyH_take (i := 15) (oi := _) (v := undef) rfl (by kernel_rfl) (by kernel_rfl) (by kernel_rfl) (fun _ _ _ h => h) (Or.inr ⟨by rfl, rfl⟩) (by assumption) ?_
    try simp only [Act.put, List.setIfInBounds_toArray, List.set_cons_zero, List.set_cons_succ, List.getElem_toArray, List.getElem_cons_zero, List.getElem_cons_succ]
    refine wpAnyH_take (i := 16) (oi := _) (v := undef) rfl (by kernel_rfl) (by kernel_rfl) (by kernel_rfl) (fun _ _ _ h => h) (Or.inr ⟨by rfl, rfl⟩) (by assumption) ?_
    try simp only [Act.put, List.setIfInBounds_toArray, List.set_cons_zero, List.set_cons_succ, List.getElem_toArray, List.getElem_cons_zero, List.getElem_cons_succ]
    refine wpAnyH_take (i := 17) (oi := _) (v := undef) rfl (by kernel_rfl) (by kernel_rfl) (by kernel_rfl) (fun _ _ _ h => h) (Or.inr ⟨by rfl, rfl⟩) (by assumption) ?_
    try simp only [Act.put, List.setIfInBounds_toArray, List.set_cons_zero, List.set_cons_succ, List.getElem_toArray, List.getElem_cons_zero, List.getElem_cons_succ]
    refine wpAnyH_take (i := 18) (oi := _) (v := undef) rfl (by kernel_rfl) (by kernel_rfl) (by kernel_rfl) (fun _ _ _ h => h) (Or.inr ⟨by rfl, rfl⟩) (by assumption) ?_
    try simp only [Act.put, List.setIfInBounds_toArray, List.set_cons_zero, List.set_cons_succ, List.getElem_toArray, List.getElem_cons_zero, List.getElem_cons_succ]
    refine wpAnyH_take (i := 19) (oi := _) (v := undef) rfl (by kernel_rfl) (by kernel_rfl) (by kernel_rfl) (fun _ _ _ h => h) (Or.inr ⟨by rfl, rfl⟩) (by assumption) ?_
    try simp only [Act.put, List.setIfInBounds_toArray, List.set_cons_zero, List.set_cons_succ, List.getElem_toArray, List.getElem_cons_zero, List.getElem_cons_succ]
    refine wpAnyH_take (i := 20) (oi := _) (v := undef) rfl (by kernel_rfl) (by kernel_rfl) (by kernel_rfl) (fun _ _ _ h => h) (Or.inr ⟨by rfl, rfl⟩) (by assumption) ?_
    try simp only [Act.put, List.setIfInBounds_toArray, List.set_cons_zero, List.set_cons_succ, List.getElem_toArray, List.getElem_cons_zero, List.getElem_cons_succ]
    refine wpAnyH_take (i := 21) (oi := _) (v := undef) rfl (by kernel_rfl) (by kernel_rfl) (by kernel_rfl) (fun _ _ _ h => h) (Or.inr ⟨by rfl, rfl⟩) (by assumption) ?_
    try simp only [Act.put, List.setIfInBounds_toArray, List.set_cons_zero, List.set_cons_succ, List.getElem_toArray, List.getElem_cons_zero, List.getElem_cons_succ]
    refine wpAnyH_take (i := 22) (oi := _) (v := undef) rfl (by kernel_rfl) (by kernel_rfl) (by kernel_rfl) (fun _ _ _ h => h) (Or.inr ⟨by rfl, rfl⟩) (by assumption) ?_
    try simp only [Act.put, List.setIfInBounds_toArray, List.set_cons_zero, List.set_cons_succ, List.getElem_toArray, List.getElem_cons_zero, List.getElem_cons_succ]
    refine wpAnyH_take (i := 23) (oi := _) (v := undef) rfl (by kernel_rfl) (by kernel_rfl) (by kernel_rfl) (fun _ _ _ h => h) (Or.inr ⟨by rfl, rfl⟩) (by assumption) ?_
    try simp only [Act.put, List.setIfInBounds_toArray, List.set_cons_zero, List.set_cons_succ, List.getElem_toArray, List.getElem_cons_zero, List.getElem_cons_succ]
    refine wpAnyH_take (i := 24) (oi := _) (v := undef) rfl (by kernel_rfl) (by kernel_rfl) (by kernel_rfl) (fun _ _ _ h => h) (Or.inr ⟨by rfl, rfl⟩) (by assumption) ?_
    try simp only [Act.put, List.setIfInBounds_toArray, List.set_cons_zero, List.set_cons_succ, List.getElem_toArray, List.getElem_cons_zero, List.getElem_cons_succ]
    refine wpAnyH_take (i := 25) (oi := _) (v := undef) rfl (by kernel_rfl) (by kernel_rfl) (by kernel_rfl) (fun _ _ _ h => h) (Or.inr ⟨by rfl, rfl⟩) (by assumption) ?_
    try simp only [Act.put, List.setIfInBounds_toArray, List.set_cons_zero, List.set_cons_succ, List.getElem_toArray, List.getElem_cons_zero, List.getElem_cons_succ]
    refine wpAnyH_take (i := 26) (oi := _) (v := undef) rfl (by kernel_rfl) (by kernel_rfl) (by kernel_rfl) (fun _ _ _ h => h) (Or.inr ⟨by rfl, rfl⟩) (by assumption) ?_
    try simp only [Act.put, List.setIfInBounds_toArray, List.set_cons_zero, List.set_cons_succ, List.getElem_toArray, List.getElem_cons_zero, List.getElem_cons_succ]
    refine wpAnyH_take (i := 27) (oi := _) (v := undef) rfl (by kernel_rfl) (by kernel_rfl) (by kernel_rfl) (fun _ _ _ h => h) (Or.inr ⟨by rfl, rfl⟩) (by assumption) ?_
    try simp only [Act.put, List.setIfInBounds_toArray, List.set_cons_zero, List.set_cons_succ, List.getElem_toArray, List.getElem_cons_zero, List.getElem_cons_succ]
    refine wpAnyH_take (i := 28) (oi := _) (v := ?_) rfl (by kernel_rfl) (by kernel_rfl) (by kernel_rfl) (fun _ _ _ h => h) (Or.inl ⟨by rfl, ?_⟩) (by assumption) ?_
    rotate_left 1
    · intro w hSw; (try dsimp only at hSw); go_simp; (try with_reducible rfl)
    try simp only [Act.put, List.setIfInBounds_toArray, List.set_cons_zero, List.set_cons_succ, List.getElem_toArray, List.getElem_cons_zero, List.getElem_cons_succ]
    refine wpAnyH_take (i := 29) (oi := _) (v := ?_) rfl (by kernel_rfl) (by kernel_rfl) (by kernel_rfl) (fun _ _ _ h => h) (Or.inl ⟨by rfl, ?_⟩) (by assumption) ?_
    rotate_left 1
    · intro w hSw; (try dsimp only at hSw); go_simp; (try with_reducible rfl)
    try simp only [Act.put, List.setIfInBounds_toArray, List.set_cons_zero, List.set_cons_succ, List.getElem_toArray, List.getElem_cons_zero, List.getElem_cons_succ]
    refine wpAnyH_done (by kernel_rfl) ?_ _
    go_wp2
    go_ret
    exact ⟨rfl, hS2.2.2.out⟩
  · have h1' : decide (gp ≥ 1) = true := h1
    go_enter Try.func23, Try.ntmps23
    go_wp2_with fail
    rw [← HW1.out]
    refine wp_region_held_drew (S := fun wx => wx.cell? ⟨w.heap.size, 0, none⟩ = some (.slice (some ⟨bP, oP, none⟩) P.length pcap) ∧ wx.cell? ⟨bP, oP + m * 3 + 1, none⟩ = some (.int .i64 gp) ∧ wx.cell? ⟨bP, oP + m * 3 + 2, none⟩ = some (.slice KF ol cF) ∧ Hid (Below w.heap.size w wx)) (by kernel_rfl) ⟨A0.out.1, A0.out.2.1, A0.out.2.2, Q2.out.drew⟩ (fun hS1 => ?_)
    refine wpAnyH_take (i := 0) (oi := _) (v := ?_) rfl (by kernel_rfl) (by kernel_rfl) (by kernel_rfl) (fun _ _ _ h => h) (Or.inl ⟨by rfl, ?_⟩) (by assumption) ?_
    rotate_left 1
    · intro w hSw; (try dsimp only at hSw); go_simp; (try with_reducible rfl)
    try simp only [Act.put, List.setIfInBounds_toArray, List.set_cons_zero, List.set_cons_succ, List.getElem_toArray, List.getElem_cons_zero]
    refine wpAnyH_take (i := 1) (oi := _) (v := ?_) rfl (by kernel_rfl) (by kernel_rfl) (by kernel_rfl) (fun _ _ _ h => h) (Or.inl ⟨by rfl, ?_⟩) (by assumption) ?_
    rotate_left 1
    · intro w hSw; (try dsimp only at hSw); go_simp; (try with_reducible rfl)
    try simp only [Act.put, List.setIfInBounds_toArray, List.set_cons_zero, List.set_cons_succ, List.getElem_toArray, List.getElem_cons_zero, List.getElem_cons_succ]
    refine wpAnyH_ready (rs := [2]) (by kernel_rfl) (by simp) ?_
    refine AllReadyH.cons rfl (fun K' hK => ?_) AllReadyH.nil
    rw [if_pos (by rfl)]
    try simp only [List.getElem_toArray, List.getElem_cons_zero, List.getElem_cons_succ] at hK ⊢
    go_simp
    go_at_call 33
    refine (hAsk.out _ Q2.out.drew).mono ?_; rintro e w2 ⟨rfl, hb2⟩
    have hb2' : Below w1.heap.size w1 w2 := bdrew hb2
    have k2 := keepR A0.out hb2'
    refine hK.out _ _ ⟨k2.1, k2.2.1, k2.2.2, Q2.out.trans (hb2'.mono Q2.out.size)⟩ (fun hS2 => ?_)
    clear hK hS1 hb2 k2
    refine wpAnyH_take (i := 3) (oi := _) (v := ?_) rfl (by kernel_rfl) (by kernel_rfl) (by kernel_rfl) (fun _ _ _ h => h) (Or.inl ⟨by rfl, ?_⟩) (by assumption) ?_
    rotate_left 1
    · intro w hSw; (try dsimp only at hSw); go_simp; (try with_reducible rfl)
    try simp only [Act.put, List.setIfInBounds_toArray, List.set_cons_zero, List.set_cons_succ, List.getElem_toArray, List.getElem_cons_zero, List.getElem_cons_succ]
    refine wpAnyH_take (i := 4) (oi := _) (v := ?_) rfl (by kernel_rfl) (by kernel_rfl) (by kernel_rfl) (fun _ _ _ h => h) (Or.inl ⟨by rfl, ?_⟩) (by assumption) ?_
    rotate_left 1
    · intro w hSw; (try dsimp only at hSw); go_simp; (try with_reducible rfl)
    try simp only [Act.put, List.setIfInBounds_toArray, List.set_cons_zero, List.set_cons_succ, List.getElem_toArray, List.getElem_cons_zero, List.getElem_cons_succ]
    refine wpAnyH_take (i := 5) (oi := _) (v := ?_) rfl (by kernel_rfl) (by kernel_rfl) (by kernel_rfl) (fun _ _ _ h => h) (Or.inl ⟨by rfl, ?_⟩) (by assumption) ?_
    rotate_left 1
    · intro w hSw; (try dsimp only at hSw); go_simp; (try with_reducible rfl)
    try simp only [Act.put, List.setIfInBounds_toArray, List.set_cons_zero, List.set_cons_succ, List.getElem_toArray, List.getElem_cons_zero, List.getElem_cons_succ]
    refine wpAnyH_take (i := 6) (oi := _) (v := ?_) rfl (by kernel_rfl) (by kernel_rfl) (by kernel_rfl) (fun _ _ _ h => h) (Or.inl ⟨by rfl, ?_⟩) (by assumption) ?_
    rotate_left 1
    · intro w hSw; (try dsimp only at hSw); go_simp; (try with_reducible rfl)
    try simp only [Act.put, List.setIfInBounds_toArray, List.set_cons_zero, List.set_cons_succ, List.getElem_toArray, List.getElem_cons_zero, List.getElem_cons_succ]
    refine wpAnyH_take (i := 7) (oi := _) (v := ?_) rfl (by kernel_rfl) (by kernel_rfl) (by kernel_rfl) (fun _ _ _ h => h) (Or.inl ⟨by rfl, ?_⟩) (by assumption) ?_
    rotate_left 1
    · intro w hSw; (try dsimp only at hSw); go_simp; (try with_reducible rfl)
    try simp only [Act.put, List.setIfInBounds_toArray, List.set_cons_zero, List.set_cons_succ, List.getElem_toArray, List.getElem_cons_zero, List.getElem_cons_succ]
    refine wpAnyH_take (i := 8) (oi := _) (v := ?_) rfl (by kernel_rfl) (by kernel_rfl) (by kernel_rfl) (fun _ _ _ h => h) (Or.inl ⟨by rfl, ?_⟩) (by assumption) ?_
    rotate_left 1
    · intro w hSw; (try dsimp only at hSw); go_simp; (try with_reducible rfl)
    try simp only [Act.put, List.setIfInBounds_toArray, List.set_cons_zero, List.set_cons_succ, List.getElem_toArray, List.getElem_cons_zero, List.getElem_cons_succ]
    refine wpAnyH_take (i := 9) (oi := _) (v := ?_) rfl (by kernel_rfl) (by kernel_rfl) (by kernel_rfl) (fun _ _ _ h => h) (Or.inl ⟨by rfl, ?_⟩) (by assumption) ?_
    rotate_left 1
    · intro w hSw; (try dsimp only at hSw); go_simp; (try with_reducible rfl)
    try simp only [Act.put, List.setIfInBounds_toArray, List.set_cons_zero, List.set_cons_succ, List.getElem_toArray, List.getElem_cons_zero, List.getElem_cons_succ]
    refine wpAnyH_take (i := 10) (oi := _) (v := ?_) rfl (by kernel_rfl) (by kernel_rfl) (by kernel_rfl) (fun _ _ _ h => h) (Or.inl ⟨by rfl, ?_⟩) (by assumption) ?_
    rotate_left 1
    · intro w hSw; (try dsimp only at hSw); go_simp; (try with_reducible rfl)
    try simp only [Act.put, List.setIfInBounds_toArray, List.set_cons_zero, List.set_cons_succ, List.getElem_toArray, List.getElem_cons_zero, List.getElem_cons_succ]
    refine wpAnyH_take (i := 11) (oi := _) (v := ?_) rfl (by kernel_rfl) (by kernel_rfl) (by kernel_rfl) (fun _ _ _ h => h) (Or.inl ⟨by rfl, ?_⟩) (by assumption) ?_
    rotate_left 1
    · intro w hSw; (try dsimp only at hSw); go_simp; (try with_reducible rfl)
    try simp only [Act.put, List.setIfInBounds_toArray, List.set_cons_zero, List.set_cons_succ, List.getElem_toArray, List.getElem_cons_zero, List.getElem_cons_succ]
    refine wpAnyH_take (i := 12) (oi := _) (v := ?_) rfl (by kernel_rfl) (by kernel_rfl) (by kernel_rfl) (fun _ _ _ h => h) (Or.inl ⟨by rfl, ?_⟩) (by assumption) ?_
    rotate_left 1
    · intro w hSw; (try dsimp only at hSw); go_simp; (try with_reducible rfl)
    try simp only [Act.put, List.setIfInBounds_toArray, List.set_cons_zero, List.set_cons_succ, List.getElem_toArray, List.getElem_cons_zero, List.getElem_cons_succ]
    refine wpAnyH_take (i := 13) (oi := _) (v := ?_) rfl (by kernel_rfl) (by kernel_rfl) (by kernel_rfl) (fun _ _ _ h => h) (Or.inl ⟨by rfl, ?_⟩) (by assumption) ?_
    rotate_left 1
    · intro w hSw; (try dsimp only at hSw); go_simp; (try with_reducible rfl)
    try simp only [Act.put, List.setIfInBounds_toArray, List.set_cons_zero, List.set_cons_succ, List.getElem_toArray, List.getElem_cons_zero, List.getElem_cons_succ]
    refine wpAnyH_take (i := 14) (oi := _) (v := ?_) rfl (by kernel_rfl) (by kernel_rfl) (by kernel_rfl) (fun _ _ _ h => h) (Or.inl ⟨by rfl, ?_⟩) (by assumption) ?_
    rotate_left 1
    · intro w hSw; (try dsimp only at hSw); go_simp; (try with_reducible rfl)
    try simp only [Act.put, List.setIfInBounds_toArray, List.set_cons_zero, List.set_cons_succ, List.getElem_toArray, List.getElem_cons_zero, List.getElem_cons_succ]
    refine wpAnyH_take (i := 15) (oi := _) (v := ?_) rfl (by kernel_rfl) (by kernel_rfl) (by kernel_rfl) (fun _ _ _ h => h) (Or.inl ⟨by rfl, ?_⟩) (by assumption) ?_
    rotate_left 1
    · intro w hSw; (try dsimp only at hSw); go_simp; (try with_reducible rfl)
    try simp only [Act.put, List.setIfInBounds_toArray, List.set_cons_zero, List.set_cons_succ, List.getElem_toArray, List.getElem_cons_zero, List.getElem_cons_succ]
    refine wpAnyH_take (i := 16) (oi := _) (v := ?_) rfl (by kernel_rfl) (by kernel_rfl) (by kernel_rfl) (fun _ _ _ h => h) (Or.inl ⟨by rfl, ?_⟩) (by assumption) ?_
    rotate_left 1
    · intro w hSw; (try dsimp only at hSw); go_simp; (try with_reducible rfl)
    try simp only [Act.put, List.setIfInBounds_toArray, List.set_cons_zero, List.set_cons_succ, List.getElem_toArray, List.getElem_cons_zero, List.getElem_cons_succ]
    refine wpAnyH_take (i := 17) (oi := _) (v := ?_) rfl (by kernel_rfl) (by kernel_rfl) (by kernel_rfl) (fun _ _ _ h => h) (Or.inl ⟨by rfl, ?_⟩) (by assumption) ?_
    rotate_left 1
    · intro w hSw; (try dsimp only at hSw); go_simp; (try with_reducible rfl)
    try simp only [Act.put, List.setIfInBounds_toArray, List.set_cons_zero, List.set_cons_succ, List.getElem_toArray, List.getElem_cons_zero, List.getElem_cons_succ]
    refine wpAnyH_take (i := 18) (oi := _) (v := ?_) rfl (by kernel_rfl) (by kernel_rfl) (by kernel_rfl) (fun _ _ _ h => h) (Or.inl ⟨by rfl, ?_⟩) (by assumption) ?_
    rotate_left 1
    · intro w hSw; (try dsimp only at hSw); go_simp; (try with_reducible rfl)
    try simp only [Act.put, List.setIfInBounds_toArray, List.set_cons_zero, List.set_cons_succ, List.getElem_toArray, List.getElem_cons_zero, List.getElem_cons_succ]
    refine wpAnyH_take (i := 19) (oi := _) (v := ?_) rfl (by kernel_rfl) (by kernel_rfl) (by kernel_rfl) (fun _ _ _ h => h) (Or.inl ⟨by rfl, ?_⟩) (by assumption) ?_
    rotate_left 1
    · intro w hSw; (try dsimp only at hSw); go_simp; (try with_reducible rfl)
    try simp only [Act.put, List.setIfInBounds_toArray, List.set_cons_zero, List.set_cons_succ, List.getElem_toArray, List.getElem_cons_zero, List.getElem_cons_succ]
    refine wpAnyH_take (i := 20) (oi := _) (v := ?_) rfl (by kernel_rfl) (by kernel_rfl) (by kernel_rfl) (fun _ _ _ h => h) (Or.inl ⟨by rfl, ?_⟩) (by assumption) ?_
    rotate_left 1
    · intro w hSw; (try dsimp only at hSw); go_simp; (try with_reducible rfl)
    try simp only [Act.put, List.setIfInBounds_toArray, List.set_cons_zero, List.set_cons_succ, List.getElem_toArray, List.getElem_cons_zero, List.getElem_cons_succ]
    refine wpAnyH_take (i := 21) (oi := _) (v := ?_) rfl (by kernel_rfl) (by kernel_rfl) (by kernel_rfl) (fun _ _ _ h => h) (Or.inl ⟨by rfl, ?_⟩) (by assumption) ?_
    rotate_left 1
    · intro w hSw; (try dsimp only at hSw); go_simp; (try with_reducible rfl)
    try simp only [Act.put, List.setIfInBounds_toArray, List.set_cons_zero, List.set_cons_succ, List.getElem_toArray, List.getElem_cons_zero, List.getElem_cons_succ]
    refine wpAnyH_take (i := 22) (oi := _) (v := ?_) rfl (by kernel_rfl) (by kernel_rfl) (by kernel_rfl) (fun _ _ _ h => h) (Or.inl ⟨by rfl, ?_⟩) (by assumption) ?_
    rotate_left 1
    · intro w hSw; (try dsimp only at hSw); go_simp; (try with_reducible rfl)
    try simp only [Act.put, List.setIfInBounds_toArray, List.set_cons_zero, List.set_cons_succ, List.getElem_toArray, List.getElem_cons_zero, List.getElem_cons_succ]
    refine wpAnyH_take (i := 23) (oi := _) (v := ?_) rfl (by kernel_rfl) (by kernel_rfl) (by kernel_rfl) (fun _ _ _ h => h) (Or.inl ⟨by rfl, ?_⟩) (by assumption) ?_
    rotate_left 1
    · intro w hSw; (try dsimp only at hSw); go_simp; (try with_reducible rfl)
    try simp only [Act.put, List.setIfInBounds_toArray, List.set_cons_zero, List.set_cons_succ, List.getElem_toArray, List.getElem_cons_zero, List.getElem_cons_succ]
    refine wpAnyH_take (i := 24) (oi := _) (v := ?_) rfl (by kernel_rfl) (by kernel_rfl) (by kernel_rfl) (fun _ _ _ h => h) (Or.inl ⟨by rfl, ?_⟩) (by assumption) ?_
    rotate_left 1
    · intro w hSw; (try dsimp only at hSw); go_simp; (try with_reducible rfl)
    try simp only [Act.put, List.setIfInBounds_toArray, List.set_cons_zero, List.set_cons_succ, List.getElem_toArray, List.getElem_cons_zero, List.getElem_cons_succ]
    refine wpAnyH_take (i := 25) (oi := _) (v := ?_) rfl (by kernel_rfl) (by kernel_rfl) (by kernel_rfl) (fun _ _ _ h => h) (Or.inl ⟨by rfl, ?_⟩) (by assumption) ?_
    rotate_left 1
    · intro w hSw; (try dsimp only at hSw); go_simp; (try with_reducible rfl)
    try simp only [Act.put, List.setIfInBounds_toArray, List.set_cons_zero, List.set_cons_succ, List.getElem_toArray, List.getElem_cons_zero, List.getElem_cons_succ]
    refine wpAnyH_take (i := 26) (oi := _) (v := ?_) rfl (by kernel_rfl) (by kernel_rfl) (by kernel_rfl) (fun _ _ _ h => h) (Or.inl ⟨by rfl, ?_⟩) (by assumption) ?_
    rotate_left 1
    · intro w hSw; (try dsimp only at hSw); go_simp; (try with_reducible rfl)
    try simp only [Act.put, List.setIfInBounds_toArray, List.set_cons_zero, List.set_cons_succ, List.getElem_toArray, List.getElem_cons_zero, List.getElem_cons_succ]
    refine wpAnyH_take (i := 27) (oi := _) (v := ?_) rfl (by kernel_rfl) (by kernel_rfl) (by kernel_rfl) (fun _ _ _ h => h) (Or.inl ⟨by rfl, ?_⟩) (by assumption) ?_
    rotate_left 1
    · intro w hSw; (try dsimp only at hSw); go_simp; (try with_reducible rfl)
    try simp only [Act.put, List.setIfInBounds_toArray, List.set_cons_zero, List.set_cons_succ, List.getElem_toArray, List.getElem_cons_zero, List.getElem_cons_succ]
    refine wpAnyH_take (i := 28) (oi := _) (v := ?_) rfl (by kernel_rfl) (by kernel_rfl) (by kernel_rfl) (fun _ _ _ h => h) (Or.inl ⟨by rfl, ?_⟩) (by assumption) ?_
    rotate_left 1
    · intro w hSw; (try dsimp only at hSw); go_simp; (try with_reducible rfl)
    try simp only [Act.put, List.setIfInBounds_toArray, List.set_cons_zero, List.set_cons_succ, List.getElem_toArray, List.getElem_cons_zero, List.getElem_cons_succ]
    refine wpAnyH_take (i := 29) (oi := _) (v := ?_) rfl (by kernel_rfl) (by kernel_rfl) (by kernel_rfl) (fun _ _ _ h => h) (Or.inl ⟨by rfl, ?_⟩) (by assumption) ?_
    rotate_left 1
    · intro w hSw; (try dsimp only at hSw); go_simp; (try with_reducible rfl)
    try simp only [Act.put, List.setIfInBounds_toArray, List.set_cons_zero, List.set_cons_succ, List.getElem_toArray, List.getElem_cons_zero, List.getElem_cons_succ]
    refine wpAnyH_done (by kernel_rfl) ?_ _
    go_wp2
    go_ret
    exact ⟨ret_bool (by simp [Bool.beq_eq_decide_eq]), hS2.2.2.2.out⟩

set_option maxHeartbeats 1000000 in
theorem validRoundI (P : List Fn) (f : Int) {PA : Option Addr} {pcap : Nat} (w : World) (hP : ProgIn w P PA pcap) :
    Calls Try.prog 23 #[prV PA P.length pcap, .int .i64 f] w (Retb (roundV P f) w) := by
  by_cases hv : askV P f = 0
  · obtain ⟨_, m, g, rfl, hgm⟩ := askV_zero hv
    have HV : roundV P m = (decide (1 ≤ g.params) && decide ((g.outs.len : Int) = g.params)) := by
      unfold roundV
      rw [if_pos hv]
      simp only [Int.toNat_natCast, hgm]
    rw [HV]
    exact (roundI_yes P m g w hP hv hgm).mono fun _ _ ⟨h1, h2⟩ => ⟨h2, h1⟩
  · have HV : roundV P f = false := by unfold roundV; rw [if_neg hv]
    rw [HV]
    exact (roundI_no P f w hP hv).mono fun _ _ ⟨h1, h2⟩ => ⟨h2, h1⟩

end Go.Proofs.Ytlnikpjcggfdmaa

/- The walk of the law FnExactValidRound. -/
namespace Go.Proofs.Ytlnikpjcggfdmaa
open Go.RowKit Plain

set_option maxRecDepth 100000 in
set_option maxHeartbeats 1000000 in
theorem lawExactValidRound_0 (P0 : List Fn) (A0 : Option Addr) (cap0 : Nat) (a1 : Int) (w : World) (h0 : FnSl w w.heap.size P0 A0) (_hl0 : P0.length ≤ cap0) (hm0 : cap0 ≤ maxLen) (_w1 : (Lit.int .i64 a1).wf = true)  (c0 : ¬ fnSize P0 ≤ 1048576) :
    Calls Try.prog 6 #[prV A0 P0.length cap0, .int .i64 a1] w fun e w' => e = .returned (.bool true) ∧ Below w.heap.size w w' := by
  have C0 := Lib.hid c0; clear c0
  have S0 := Lib.hid h0; clear h0
  have HM0 : cap0 ≤ 9223372036854775807 := by have := hm0; unfold maxLen at this; omega
  have HB0 : Hid (Below w.heap.size w (w.alloc (.cells #[.slice A0 P0.length cap0] 24))) := by show Below _ _ _; go_grown
  go_enter Try.func6, Try.ntmps6
  go_wp2_with fail
  refine (szProgram_any P0 A0 cap0 w.heap.size 1048576 _ (S0.out.below HB0.out) HB0.out.size (by omega) (by omega) (by omega)).mono ?_; rintro e w1 ⟨rfl, hb1⟩
  have HB1 := Lib.hid (bnext HB0.out hb1); clear hb1
  rw [szV_no (by have := C0.out; omega)]
  go_wp2
  go_ret
  exact ⟨rfl, HB1.out⟩

set_option maxRecDepth 100000 in
set_option maxHeartbeats 8000000 in
theorem lawExactValidRound_ok (P0 : List Fn) (A0 : Option Addr) (cap0 : Nat) (a1 : Int) (w : World) (h0 : FnSl w w.heap.size P0 A0) (_hl0 : P0.length ≤ cap0) (_hm0 : cap0 ≤ maxLen) (_w1 : (Lit.int .i64 a1).wf = true) (c0 : fnSize P0 ≤ 1048576) :
    Calls Try.prog 6 #[prV A0 P0.length cap0, .int .i64 a1] w fun e w' => e = .returned (.bool true) ∧ Below w.heap.size w w' := by
  have C0 := Lib.hid c0; clear c0
  have S0 := Lib.hid h0; clear h0
  have Z0 : Hid (fnSize P0 ≤ 1048576) := by have := C0.out; show _ ≤ _; omega
  have pl0 : P0.length ≤ 1048576 := by have := Z0.out; unfold fnSize at this; omega
  obtain ⟨v0, hv0⟩ : ∃ v : Bool, v = roundV P0 a1 := ⟨_, rfl⟩
  have V0 := Lib.hid hv0; clear hv0
  have HB0 : Hid (Below w.heap.size w (w.alloc (.cells #[.slice A0 P0.length cap0] 24))) := by show Below _ _ _; go_grown
  have HS0 := Lib.hid HB0.out.size
  have BX0_0 : Hid (Reg (w.alloc (.cells #[.slice A0 P0.length cap0] 24)) (w.heap.size) (w.heap.size + 1) (fun w' => Cells w' (w.heap.size) 24 [.slice A0 P0.length cap0])) := regBox (Cells.new w 24 [.slice A0 P0.length cap0])
  have HQB0 := Lib.hid BX0_0.out.size
  go_enter Try.func6, Try.ntmps6
  have qBX0_0 : World.cell? (w.alloc (.cells #[.slice A0 P0.length cap0] 24)) ⟨w.heap.size, 0, none⟩ = some (.slice A0 P0.length cap0) := by rw [BX0_0.out.now.cell]; rfl
  go_wp2_with fail
  refine (szProgram_any P0 A0 cap0 w.heap.size 1048576 _ (S0.out.below HB0.out) HB0.out.size (by omega) (by omega) (by omega)).mono ?_; rintro e w1 ⟨rfl, hb1⟩
  clear qBX0_0
  have HB1 := Lib.hid (bnext HB0.out hb1)
  have BX0_1 := Lib.hid (BX0_0.out.below hb1); clear BX0_0
  have HS1 := Lib.hid hb1.size
  clear hb1
  rw [szV_yes (by have := C0.out; omega)]
  obtain ⟨l0, hlv0⟩ : ∃ l0 : Int, l0 = 1048576 - fnSize P0 := ⟨_, rfl⟩
  rw [← hlv0]
  have lo0 : 0 ≤ l0 := by have := C0.out; omega
  have hi0 : l0 ≤ 1048576 := by omega
  have HL0 := Lib.hid hlv0; clear hlv0
  have qBX0_0 : World.cell? w1 ⟨w.heap.size, 0, none⟩ = some (.slice A0 P0.length cap0) := by rw [BX0_1.out.now.cell]; rfl
  go_wp2_with fail
  refine (toProgR Z0.out cap0 (S0.out.below HB1.out) HB1.out.size).mono ?_; rintro e w2 ⟨g2, hg2, rfl, hX2, hb2⟩
  clear qBX0_0
  have HB2 := Lib.hid (bnext HB1.out hb2)
  have BX0_2 := Lib.hid (BX0_1.out.below hb2); clear BX0_1
  have HS2 := Lib.hid hb2.size
  clear hb2
  have HG2 := Lib.hid hg2; clear hg2
  have U0_2 := Lib.hid hX2; clear hX2
  have HQ2 := Lib.hid U0_2.out.le
  have qBX0_0 : World.cell? w2 ⟨w.heap.size, 0, none⟩ = some (.slice A0 P0.length cap0) := by rw [BX0_2.out.now.cell]; rfl
  go_wp2_with fail
  refine (validRoundS P0 a1 _ (regPIn U0_2.out Z0.out)).mono ?_
  rw [← V0.out]
  rintro e w3 ⟨hb3, rfl⟩
  clear U0_2
  clear qBX0_0
  have HB3 := Lib.hid (bnext HB2.out hb3)
  have BX0_3 := Lib.hid (BX0_2.out.below hb3); clear BX0_2
  have HS3 := Lib.hid hb3.size
  clear hb3
  have qBX0_0 : World.cell? w3 ⟨w.heap.size, 0, none⟩ = some (.slice A0 P0.length cap0) := by rw [BX0_3.out.now.cell]; rfl
  go_wp2_with fail
  refine (toProgR Z0.out cap0 (S0.out.below HB3.out) HB3.out.size).mono ?_; rintro e w4 ⟨g4, hg4, rfl, hX4, hb4⟩
  clear qBX0_0
  have HB4 := Lib.hid (bnext HB3.out hb4)
  have BX0_4 := Lib.hid (BX0_3.out.below hb4); clear BX0_3
  have HS4 := Lib.hid hb4.size
  clear hb4
  have HG4 := Lib.hid hg4; clear hg4
  have X0_4 := Lib.hid hX4; clear hX4
  have HQ4 := Lib.hid X0_4.out.le
  have qBX0_0 : World.cell? w4 ⟨w.heap.size, 0, none⟩ = some (.slice A0 P0.length cap0) := by rw [BX0_4.out.now.cell]; rfl
  go_wp2_with fail
  clear qBX0_0
  have hb5 : Below w4.heap.size w4 (w4.alloc (.cells #[.slice (some ⟨g4, 0, none⟩) P0.length P0.length] 31)) := by go_grown
  have BC5 : Hid (Cells (w4.alloc (.cells #[.slice (some ⟨g4, 0, none⟩) P0.length P0.length] 31)) w4.heap.size 31 [.slice (some ⟨g4, 0, none⟩) P0.length P0.length]) := Cells.new w4 31 [.slice (some ⟨g4, 0, none⟩) P0.length P0.length]
  change Calls _ _ _ (w4.alloc (.cells #[.slice (some ⟨g4, 0, none⟩) P0.length P0.length] 31)) _
  generalize (w4.alloc (.cells #[.slice (some ⟨g4, 0, none⟩) P0.length P0.length] 31)) = w5 at *
  have HB5 := Lib.hid (bnext HB4.out hb5)
  have BX0_5 := Lib.hid (BX0_4.out.below hb5); clear BX0_4
  have X0_5 := Lib.hid (X0_4.out.below hb5); clear X0_4
  have HS5 := Lib.hid hb5.size
  clear hb5
  have VX0_5 : Hid (Reg w5 w4.heap.size (w4.heap.size + 1) (fun w' => Cells w' w4.heap.size 31 [.slice (some ⟨g4, 0, none⟩) P0.length P0.length])) := regBox BC5.out
  clear BC5
  have HQ5 := Lib.hid VX0_5.out.size
  have qBX0_0 : World.cell? w5 ⟨w.heap.size, 0, none⟩ = some (.slice A0 P0.length cap0) := by rw [BX0_5.out.now.cell]; rfl
  have qVX0_0 : World.cell? w5 ⟨w4.heap.size, 0, none⟩ = some (.slice (some ⟨g4, 0, none⟩) P0.length P0.length) := by rw [VX0_5.out.now.cell]; rfl
  skip
  refine (validRoundI P0 a1 _ (regPIn X0_5.out Z0.out)).mono ?_
  rw [← V0.out]
  rintro e w6 ⟨hb6, rfl⟩
  clear qBX0_0 qVX0_0
  have HB6 := Lib.hid (bnext HB5.out hb6)
  have BX0_6 := Lib.hid (BX0_5.out.below hb6); clear BX0_5
  have X0_6 := Lib.hid (X0_5.out.below hb6); clear X0_5
  have VX0_6 := Lib.hid (VX0_5.out.below hb6); clear VX0_5
  have HS6 := Lib.hid hb6.size
  clear hb6
  have qBX0_0 : World.cell? w6 ⟨w.heap.size, 0, none⟩ = some (.slice A0 P0.length cap0) := by rw [BX0_6.out.now.cell]; rfl
  have qVX0_0 : World.cell? w6 ⟨w4.heap.size, 0, none⟩ = some (.slice (some ⟨g4, 0, none⟩) P0.length P0.length) := by rw [VX0_6.out.now.cell]; rfl
  go_wp2_with fail
  have KT7 : Hid (∀ wx, Below w6.heap.size w6 wx → Calls Try.prog 10 #[prV A0 P0.length cap0] wx fun e w' => ∃ g, wx.heap.size ≤ g ∧ e = .returned (prV (some ⟨g, 0, none⟩) P0.length P0.length) ∧ Reg w' g w'.heap.size (ProgR g w'.heap.size P0) ∧ Below wx.heap.size wx w') := fun wx hx => toProgR Z0.out cap0 (S0.out.below (bnext HB6.out hx)) (bnext HB6.out hx).size
  have KS7 := Lib.hid (And.intro qVX0_0 qBX0_0)
  go_region_held3 (fun wx => wx.cell? ⟨w4.heap.size, 0, none⟩ = some (.slice (some ⟨g4, 0, none⟩) P0.length P0.length) ∧ wx.cell? ⟨w.heap.size, 0, none⟩ = some (.slice A0 P0.length cap0)) (first | exact KS7.out | exact KS7.out | go_keep | exact keep2 KS7.out hb7 | exact keep2 KS7.out (hb7.trans (hb8.mono hb7.size)))
    (first
      | (go_at_call 14; have _tk := hX7; (with_reducible refine (eqProgR _ _ (X0_6.out.below hb7) hX7 Z0.out).mono ?_); rintro e w8 ⟨rfl, hb8⟩)
      | (go_at_call 10; refine (KT7.out _ (by first | exact (Below.refl _ _).drew | exact below_drewN' (Below.refl _ _) _ | exact Below.refl _ _)).mono ?_; rintro e w7 ⟨g7, hg7, rfl, hX7, hb7'⟩; have hb7 : Below w6.heap.size w6 w7 := by first | exact bdrew hb7' | exact bdrewN hb7' | exact hb7'))
  clear hX7 hg7 hb7' KS7 KT7
  clear qBX0_0 qVX0_0
  have HB7 := Lib.hid (bnext HB6.out hb7)
  have BX0_7 := Lib.hid (BX0_6.out.below hb7); clear BX0_6
  have X0_7 := Lib.hid (X0_6.out.below hb7); clear X0_6
  have VX0_7 := Lib.hid (VX0_6.out.below hb7); clear VX0_6
  have HS7 := Lib.hid hb7.size
  clear hb7
  have HB8 := Lib.hid (bnext HB7.out hb8)
  have BX0_8 := Lib.hid (BX0_7.out.below hb8); clear BX0_7
  have X0_8 := Lib.hid (X0_7.out.below hb8); clear X0_7
  have VX0_8 := Lib.hid (VX0_7.out.below hb8); clear VX0_7
  have HS8 := Lib.hid hb8.size
  clear hb8
  go_wp2
  go_ret
  exact ⟨rfl, HB8.out⟩

theorem lawExactValidRound (P0 : List Fn) (A0 : Option Addr) (cap0 : Nat) (a1 : Int) (w : World) (h0 : FnSl w w.heap.size P0 A0) (hl0 : P0.length ≤ cap0) (hm0 : cap0 ≤ maxLen) (_w1 : (Lit.int .i64 a1).wf = true) :
    Calls Try.prog 6 #[prV A0 P0.length cap0, .int .i64 a1] w fun e w' => e = .returned (.bool true) ∧ Below w.heap.size w w' := by
  by_cases c0 : fnSize P0 ≤ 1048576
  case neg => exact lawExactValidRound_0 P0 A0 cap0 a1 w h0 hl0 hm0 _w1 c0
  exact lawExactValidRound_ok P0 A0 cap0 a1 w h0 hl0 hm0 _w1 c0

end Go.Proofs.Ytlnikpjcggfdmaa

/- FnExactValidRound: for every program and function the program's ValidRound returns what the reference's returns. No condition. -/
namespace Go.Proofs.Ytlnikpjcggfdmaa.fnExactValidRound
open Go.ChangeShapes Go.WideShapes Go.ChangeAt Go.RowKit

theorem own : ownKnob Try.prog.godebug = none := by kernel_rfl
theorem laidOut : laidOutB Try.prog = true := by kernel_rfl

set_option maxRecDepth 100000 in
theorem lifted (os : Os) (started : os.Started) (H : Type) (enc : TypeId × Value → H) :
    ReturnsInHanded {} Try.checked os 6 .any (Rows.fnExactValidRoundSpec.pre6 enc Try.prog Try.f6 Rows.fnExactValidRoundRow.domain false) (Rows.fnExactValidRoundSpec.post enc Try.prog Try.f6 false true false false) := by
  refine returnsInHanded_of_change (C := Try.checked) own started (by kernel_rfl) Try.func6
    (ChangeSpec.witness6 (enc := enc) (C := Try.checked) false ⟨#[], #[.agg #[.slice none 0 0], .int .i64 0], []⟩ 8 (by kernel_rfl) (by kernel_rfl) (by kernel_rfl) (by kernel_rfl)) ?_
  intro W base args ds gs before hval0 hW hcnd _
  have hval : ∀ (j : Nat) t v, Try.f6.params[j]? = some t → args[j]? = some v → Value.okWide Try.prog W .any base t v := hval0
  have hW' := hW
  obtain ⟨p, q, hA0, hV, rfl, hfz, hnd⟩ := hW
  have hA : DataW.TrodAll enc Try.prog W 0 (fun _ => true) true Try.f6.params.toList args.toList ds p := hA0
  rw [Try.params6] at hA hval
  obtain ⟨v0, vs0, d0, ds0, p0, q0, hargs, rfl, rfl, h0, r0⟩ := trodAll_cons hA
  obtain ⟨v1, vs1, d1, ds1, p1, q1, rfl, rfl, rfl, h1, r1⟩ := trodAll_cons r0
  obtain ⟨rfl, rfl, rfl⟩ := trodAll_nil r1
  obtain rfl : args = #[v0, v1] := by cases args; simp_all
  obtain ⟨rfl, rfl⟩ := trodVars_none hV
  obtain ⟨cs0, rfl, _⟩ := okWide_struct Try.underlying24 (hval 0 24 v0 rfl rfl)
  have k0 := h0
  have lt0 : ∀ x ∈ p0, x.block < W.heap.size := by obtain ⟨m, hm⟩ := k0; exact DataW.trod_lt m _ _ _ hm
  obtain ⟨a0, cap0, z0, e0, b0, m0, w0⟩ : ∃ (A : Option Addr) (cap : Nat) (fs : List Fn), cs0 = #[.slice A fs.length cap] ∧ fs.length ≤ cap ∧ cap ≤ maxLen ∧ FnSl W W.heap.size fs A := by
    obtain ⟨fuel, hf⟩ := h0
    obtain ⟨A, cap, fs, hcs, h1, h2, h3⟩ := open_program hf
    exact ⟨A, cap, fs, by cases cs0; simpa [Value.cells] using hcs, h1, h2, h3⟩
  subst e0
  obtain ⟨a1, rfl, rfl, rfl, w1⟩ := open_int Try.underlying2 (hval 1 2 v1 rfl rfl) h1
  clear hA0 hval0
  refine (lawExactValidRound z0 a0 cap0 a1 W w0 b0 m0 w1).mono fun e W' ⟨he, bel⟩ => ?_
  subst he
  exact ⟨_, rfl, _, _, _, [], _, [], hW', trodAll_mk1 (shut_bool Try.underlying4 _), (trodAll_cons_mk (Below.trod laidOut (by kernel_rfl) (of_decide_eq_true (by kernel_rfl)) k0 bel lt0) (trodAll_cons_mk (shut_int Try.underlying2 w1) trodAll_mk0)), rfl, bel.frame _, fun h => by cases h⟩

theorem over : Rows.fnExactValidRoundRow.holds Try.pinned (OpenSpec.ofChange Rows.fnExactValidRoundSpec) :=
  OpenClaim.holds_of_wide 6 Try.f6 rfl rfl rfl rfl rfl rfl rfl ⟨rfl, rfl, rfl, rfl, rfl⟩ rfl rfl rfl rfl rfl (by kernel_rfl) Try.func6 (by kernel_rfl)
    (of_decide_eq_true (by kernel_rfl)) (by unfold Func.isWrapper; first | (rw [if_pos (by decide +kernel)]; kernel_rfl) | (rw [if_neg (by decide +kernel)]; exact ⟨rfl, rfl⟩))
    (fun os started H enc _ => lifted os started H enc)

theorem proved : Rows.FnExactValidRoundSaid := over
#print axioms proved
end Go.Proofs.Ytlnikpjcggfdmaa.fnExactValidRound
