/- Walks: ReverseSeries, a2Unit. -/
import Derived.Test.YtbgjbppjnmolfaaWComp
namespace Go.Proofs.Ytbgjbppjnmolfaa
open Go.RowKit Plain

theorem revN1 (A : Option Addr) (cap : Nat) (a : List Int) (w : World) (hA : Ser w A 1 a) :
    Calls Try.prog 23 #[.slice A 1 cap] w fun e w' => e = .returned (.tuple #[.slice none 0 0, .int .i64 2]) ∧ w = w' := by
  have hV := validSeries_any A cap a w hA.ints (by rw [hA.len]; omega)
  rw [hA.len] at hV
  have HK := Lib.hid hA.ok
  have HV := Lib.hid hV; clear hV
  go_enter Try.func23, Try.ntmps23
  go_wp2_with fail
  refine HV.out.mono ?_; rintro e w' ⟨rfl, rfl⟩
  rw [HK.out]
  go_wp2
  go_ret2
  exact ⟨rfl, rfl⟩

theorem Ser.second {w : World} {A : Option Addr} {n : Nat} {zs : List Int} (h : Ser w A n zs) (h2 : 2 ≤ n) : ∃ b o, A = some ⟨b, o, none⟩ ∧ b < w.heap.size ∧ w.cell? ⟨b, o, none⟩ = some (.int .i64 (cf zs 0)) ∧ w.cell? ⟨b, o + 1, none⟩ = some (.int .i64 (cf zs 1)) := by
  have hl := h.len
  obtain ⟨b, o, e, hlt, hc⟩ := h.ints.cfAt (by omega)
  exact ⟨b, o, e, hlt, by have := hc 0 (by omega); simpa using this, hc 1 (by omega)⟩

theorem revN0 (A : Option Addr) (cap n : Nat) (a : List Int) (w : World) (hA : Ser w A n a) (h2 : 2 ≤ n) (hz : cf a 0 = 0) (h1 : cf a 1 = 0) :
    Calls Try.prog 23 #[.slice A n cap] w fun e w' => e = .returned (.tuple #[.slice none 0 0, .int .i64 6]) ∧ w = w' := by
  have hV := validSeries_any A cap a w hA.ints (by rw [hA.len]; have := hA.bd; omega)
  rw [hA.len] at hV
  have HK := Lib.hid hA.ok
  have HV := Lib.hid hV; clear hV
  obtain ⟨bb, oo, rfl, hbl, g0, g1⟩ := hA.second h2
  rw [hz] at g0
  rw [h1] at g1
  have hne : ((n : Int) == 1) = false := by simp; omega
  have hm0 : (0 : Int) < (n : Int) := by omega
  have hm1 : (1 : Int) < (n : Int) := by omega
  clear hz h1
  go_enter Try.func23, Try.ntmps23
  go_wp2_with fail
  refine HV.out.mono ?_; rintro e w' ⟨rfl, rfl⟩
  rw [HK.out]
  go_wp2
  go_ret2
  exact ⟨rfl, rfl⟩

theorem rev_row0 (a : List Int) : (rowF a.length fun _ => 0).set 1 (.int .i64 (iv (cf a 1))) = (mk a.length (revF a 0)).map (Value.int .i64) := by
  rw [rowF_set]; rfl
theorem rev_rowS (a : List Int) (m : Nat) : ((mk a.length (revF a m)).map (Value.int .i64)).set (m + 2) (.int .i64 (rs (0 - cf (compL a (mk a.length (revF a m))) (m + 2) * iv (cf a 1)))) = (mk a.length (revF a (m + 1))).map (Value.int .i64) := by
  have := rowF_set (n := a.length) (k := m + 2) (f := revF a m) (rs (0 - cf (compL a (mk a.length (revF a m))) (m + 2) * iv (cf a 1)))
  exact this

set_option maxRecDepth 100000 in
set_option maxHeartbeats 2000000 in
theorem revN (A : Option Addr) (cap n : Nat) (a : List Int) (w : World) (hA : Ser w A n a) (h2 : 2 ≤ n) (hz : cf a 0 = 0) (h1 : cf a 1 ≠ 0) :
    Calls Try.prog 23 #[.slice A n cap] w (OpPost n (revL a) 0 w) := by
  obtain ⟨n0, n13⟩ := hA.bd
  have hl := hA.len
  subst hl
  have HV := Lib.hid (validSeries_any A cap a w hA.ints (by omega))
  have HK := Lib.hid hA.ok
  obtain ⟨_, _, ia⟩ := serB_isS hA.ok
  have hmk := run_make_row' (P := Try.prog) 30 2 (.int .i64 0) 8 Try.underlying30 Try.infoI rfl .i64 .i64 a.length (by omega) (by omega)
  rw [madeCells_one, rowF_zero] at hmk
  obtain ⟨bb, oo, rfl, hbl, g0, g1⟩ := hA.second h2
  have g1' : (w.alloc (.cells (rowF a.length fun _ => 0).toArray 2)).cell? ⟨bb, oo + 1, none⟩ = some (.int .i64 (cf a 1)) := Lib.cell?_alloc_some _ g1
  have hc0 : Cells (w.alloc (.cells (rowF a.length fun _ => 0).toArray 2)) w.heap.size 2 (rowF a.length fun _ => 0) := Cells.new w _ _
  have g9 := cell_row hc0 (show 1 < a.length by omega)
  have z9 : (w.alloc (.cells (rowF a.length fun _ => 0).toArray 2)).frozen? ⟨w.heap.size, 1, none⟩ = false := hc0.frozen _
  rw [hz] at g0
  have hne : ((a.length : Int) == 1) = false := by simp; omega
  have hne1 : (cf a 1 == 0) = false := by simpa using h1
  have hm0 : (0 : Int) < (a.length : Int) := by omega
  have hm1 : (1 : Int) < (a.length : Int) := by omega
  have hiv := iv_bd (cf a 1)
  have HA := Lib.hid hA.ints
  clear hz h1 hc0 hA
  go_enter Try.func23, Try.ntmps23
  go_wp2_with fail
  refine HV.out.mono ?_; rintro e w' ⟨rfl, rfl⟩
  rw [HK.out]
  go_wp2
  go_region_with (go_at_call 31; refine (inverse_any _ _).mono ?_; rintro e w' ⟨rfl, rfl⟩)
  all_goals
    go_wp2
    generalize hfi : iv (cf a 1) = fi at *
    have HFI := Lib.hid hfi
    go_loopw [6] (fun i wr => ∃ m : Nat, m + 2 ≤ a.length ∧ i = .int .i64 ((m : Int) + 2) ∧ Hid (Cells wr w.heap.size 2 ((mk a.length (revF a m)).map (Value.int .i64))) ∧ Hid (Below w.heap.size w wr)) (fun i _ => a.length - (intOf i).toNat)
    case atStart =>
      refine ⟨0, by omega, by go_num, ?_, by show Below _ _ _; go_grown⟩
      show Cells _ _ _ _
      rw [← rev_row0, HFI.out]
      exact (Cells.new w _ _).drewN 1
    case round =>
      obtain ⟨m, hm, rfl, HC, HB⟩ := hrel
      by_cases hlt : m + 2 < a.length
      · have hkl : (m : Int) + 2 < (a.length : Int) := by omega
        have hP := composed_any _ (some ⟨w.heap.size, 0, none⟩) cap a.length a (mk a.length (revF a m)) wr (HA.out.below HB.out) HC.out.ints (mk_length _ _) (by omega) (by omega) ia (IsS.mk_ fun k => revF_bd a m k)
        have HP := Lib.hid hP; clear hP
        have HLn := Lib.hid (compL_length a (mk a.length (revF a m)))
        go_wp2_with fail
        refine HP.out.mono ?_
        rintro e w1 ⟨g, rfl, hc, hg, hb1⟩
        have HB1 := Lib.hid (bnext HB.out hb1)
        have hsz : wr.heap.size ≤ w1.heap.size := hb1.size
        have hwl : w.heap.size < wr.heap.size := HC.out.lt
        have HC1 := Lib.hid (HC.out.next hb1)
        have g2 := cells_get hc (k := m + 2) (by rw [HLn.out]; exact hlt)
        have x1 := isS_comp a (mk a.length (revF a m)) (m + 2)
        have g3 := cells_get HC1.out (k := m + 2) (by rw [mk_length]; exact hlt)
        have z3 : w1.frozen? ⟨w.heap.size, m + 2, none⟩ = false := HC1.out.frozen _
        have HN : Hid (Cells (w1.setCell ⟨w.heap.size, m + 2, none⟩ (.int .i64 (rs (-(cf (compL a (mk a.length (revF a m))) (m + 2) * fi))))) w.heap.size 2 ((mk a.length (revF a (m + 1))).map (Value.int .i64))) := by
          show Cells _ _ _ _
          rw [← rev_rowS, HFI.out, Int.zero_sub]
          exact HC1.out.set_ (m + 2) _
        rw [HLn.out]
        clear hc hb1
        generalize cf (compL a (mk a.length (revF a m))) (m + 2) = X at *
        have m1 := mul_bd x1.1 x1.2 hiv.1 hiv.2
        have hs3 : ((m : Int) + 2).toNat = m + 2 := by omega
        have hj0 : (0 : Int) ≤ (m : Int) + 2 := by omega
        go_wp2_with fail
        refine (minus_any _ _ _).mono ?_; rintro e w' ⟨rfl, rfl⟩
        go_wp2
        go_roundw
        case rel => exact ⟨m + 1, by omega, by go_num, HN.out, HB1.out.setCell (Nat.le_refl _) _⟩
        case measure => simp [intOf]; omega
      · have hme : a.length = m + 2 := by omega
        have HE : Hid (Cells wr w.heap.size 2 ((revL a).map (Value.int .i64))) := by
          show Cells _ _ _ _
          unfold revL
          rw [show a.length - 2 = m by omega]; exact HC.out
        have HLn := Lib.hid (revL_length a)
        have HME := Lib.hid hme
        have hge : ¬ ((m : Int) + 2 < (a.length : Int)) := by omega
        clear hme
        go_wp2
        go_ret2
        exact ⟨_, rfl, ⟨HE.out.ints, HLn.out, serB_of (by rw [HLn.out]; exact n0) (by rw [HLn.out]; exact n13) (isS_rev a)⟩, HE.out.intsM' (Nat.le_refl _), HB.out⟩

theorem isS_tt (n : Nat) : IsS (ttL n) := IsS.mk_ fun k => by unfold tt; split <;> omega

set_option maxRecDepth 100000 in
set_option maxHeartbeats 1000000 in
theorem unitN (n : Nat) (w : World) (h0 : 0 < n) (hn : n ≤ 13) :
    Calls Try.prog 24 #[.int .i64 n, .int .i64 1] w fun e w' => ∃ A' cp, e = .returned (.slice A' n cp) ∧ Ser w' A' n (ttL n) ∧ Below w.heap.size w w' := by
  obtain ⟨i0, hi, hz0, hz1, hz2⟩ := info_parts Try.infoI
  go_enter Try.func24, Try.ntmps24
  go_wp2
  go_loopw [5, 6] (fun o i wr => ∃ (k : Nat) (Av : Option Addr) (cp : Nat), k ≤ n ∧ i = .int .i64 (k : Int) ∧ o = .slice Av k cp ∧ Hid (IntRow wr w.heap.size (.slice Av k cp) (mk k tt)) ∧ Hid (Below w.heap.size w wr)) (fun _ i _ => n - (intOf i).toNat)
  case atStart =>
    refine ⟨0, _, _, by omega, by go_num, rfl, ?_, by show Below _ _ _; go_grown⟩
    exact World.ownsRow_lit w #[] 0 (Nat.le_refl _) (by unfold maxLen; omega) (by rfl)
  case round =>
    obtain ⟨k, Av, cp, hk, rfl, rfl, HR, HB'⟩ := hrel
    by_cases hlt : k < n
    · have hkn : (k : Int) < (n : Int) := by omega
      have HF : Hid (∀ x v2 w2, tt k = x → w2.ownsRow w.heap.size 2 1 v2 (k + 1) ((mk k tt).map (Value.int .i64) ++ [.int .i64 x]) → (wr.alloc (.cells #[.int .i64 x] 2)).grownBy w2 (Value.slice Av k cp).ownBlock →
          (∃ A2 c2, v2 = .slice A2 (k + 1) c2) ∧ IntRow w2 w.heap.size v2 (mk (k + 1) tt) ∧ Below w.heap.size w w2) := by
        intro x v2 w2 hx hown hg
        have h1 : IntRow w2 w.heap.size v2 (mk k tt ++ [x]) := IntRow.push (mk_length _ _).symm hown
        have e : mk (k + 1) tt = mk k tt ++ [x] := by unfold mk; rw [List.range_succ, List.map_append, ← hx]; rfl
        rw [← e] at h1
        obtain ⟨A2, c2, hv⟩ := h1.form
        refine ⟨⟨A2, c2, by rw [hv, mk_length]⟩, h1, ?_⟩
        have hb1 : Below wr.heap.size wr (wr.alloc (.cells #[.int .i64 x] 2)) := by go_grown
        have hb2 := bnext HB'.out hb1
        exact hb2.grown hg hb2.size (fun q hq => (HR.out.lt hq).1)
      by_cases h1 : k = 1
      · have hd : ((k : Int) == 1) = true := by simp; omega
        have ht : Hid (tt k = 1) := by show _ = _; rw [h1]; rfl
        clear h1
        go_wp2_with (at_builtin; refine wpList_append_own _ rfl _ _ 30 rfl w.heap.size 2 i0 (.int .i64 0) 1 8 Try.underlying30 hi hz0 hz1 hz2 rfl (by decide) _ k _ rfl ((HR.out.ownN (mk_length _ _).symm).alloc _) ⟨wr.heap.size, 0, none⟩ 1 1 [.int .i64 1] rfl rfl ?c1 ?c2 ?c3 ?c4 ?c5 ?_)
        try (case c1 => intro j u hj; match j with | 0 => (simp at hj; subst hj; simp [addr_add]) | j + 1 => simp at hj)
        try (case c2 => first | rfl | (intro u hu; simp at hu; subst hu; rfl) | (simp; done))
        case c3 => unfold maxLen; omega
        case c4 => omega
        case c5 => first | (simp; have := HB'.out.size; omega) | (have := HB'.out.size; omega)
        intro v2 w2 hown hg _
        obtain ⟨⟨A2, c2, rfl⟩, hr2, hb2⟩ := HF.out _ _ _ ht.out hown hg
        have HR2 := Lib.hid hr2
        have HB2 := Lib.hid hb2
        clear hr2 hb2 hown hg
        go_wp2
        go_roundw
        case rel => exact ⟨k + 1, A2, c2, by omega, by go_num, rfl, HR2.out, HB2.out⟩
        case measure => simp [intOf]; omega
      · have hd : ((k : Int) == 1) = false := by simp; omega
        have ht : Hid (tt k = 0) := by show _ = _; unfold tt; rw [if_neg h1]
        clear h1
        go_wp2_with (at_builtin; refine wpList_append_own _ rfl _ _ 30 rfl w.heap.size 2 i0 (.int .i64 0) 1 8 Try.underlying30 hi hz0 hz1 hz2 rfl (by decide) _ k _ rfl ((HR.out.ownN (mk_length _ _).symm).alloc _) ⟨wr.heap.size, 0, none⟩ 1 1 [.int .i64 0] rfl rfl ?d1 ?d2 ?d3 ?d4 ?d5 ?_)
        try (case d1 => intro j u hj; match j with | 0 => (simp at hj; subst hj; simp [addr_add]) | j + 1 => simp at hj)
        try (case d2 => first | rfl | (intro u hu; simp at hu; subst hu; rfl) | (simp; done))
        case d3 => unfold maxLen; omega
        case d4 => omega
        case d5 => first | (simp; have := HB'.out.size; omega) | (have := HB'.out.size; omega)
        intro v2 w2 hown hg _
        obtain ⟨⟨A2, c2, rfl⟩, hr2, hb2⟩ := HF.out _ _ _ ht.out hown hg
        have HR2 := Lib.hid hr2
        have HB2 := Lib.hid hb2
        clear hr2 hb2 hown hg
        go_wp2
        go_roundw
        case rel => exact ⟨k + 1, A2, c2, by omega, by go_num, rfl, HR2.out, HB2.out⟩
        case measure => simp [intOf]; omega
    · obtain rfl : k = n := by omega
      have hr := HR.out
      have hlen : (ttL k).length = k := mk_length _ _
      have hrr : IntRow wr w.heap.size (.slice Av (ttL k).length cp) (ttL k) := by rw [hlen]; exact hr
      have HM := Lib.hid hrr.intsM
      have HLn := Lib.hid hlen
      clear hr hlen hrr
      go_wp2
      go_ret
      exact ⟨Av, cp, rfl, ⟨HM.out.ints, HLn.out, serB_of (by rw [HLn.out]; exact h0) (by rw [HLn.out]; exact hn) (isS_tt k)⟩, HB'.out⟩

end Go.Proofs.Ytbgjbppjnmolfaa
