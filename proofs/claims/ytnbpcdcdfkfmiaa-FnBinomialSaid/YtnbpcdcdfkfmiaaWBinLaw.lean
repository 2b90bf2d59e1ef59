/- The walk of the law FnBinomial. -/
import Derived.Test.YtnbpcdcdfkfmiaaWBin
namespace Go.Proofs.Ytnbpcdcdfkfmiaa
open Go.RowKit Plain

/-- all that the law asks of one number of steps and of slots -/
structure BinOk (n s r : Nat) : Prop where
  n40 : n ≤ 40
  s8 : s ≤ 8
  r41 : r < 41
  rep : repsV n s = r
  repc : repsC n s = 0
  cost : costV n s = gc n s
  lcv : lcV (ones n) s = gc n s
  lcc : lcC (ones n) s = 0
  reach : (n : Int) ≤ reachV s r ∧ reachC s r = 0
  short : 0 < r → reachV s ((r : Int) - 1) < n ∧ reachC s ((r : Int) - 1) = 0
  advc : avC (bsL (ones n) s) n s = 0
  advl : (avL (bsL (ones n) s) n s).length = n
  adv : ∀ i, (avL (bsL (ones n) s) n s).getD i 0 ≤ r

theorem gc_bd {n s : Nat} (hn : n ≤ 40) : gc n s ≤ 1600000 := (lcost_bd40 (ones_isW n) 0 n s hn).2
theorem reach_eq {s r : Nat} (hs : s ≤ 8) (hr : r ≤ 40) : reachV s r = ch (s + r) s ∧ reachC s r = 0 := by
  unfold reachV reachC
  rw [inR_yes (by omega) (by omega), inR_yes (by omega) (by omega)]
  simp only [Bool.and_self, if_true]
  refine ⟨?_, trivial⟩
  unfold ch; rw [show ((s + r : Nat) : Int) = (s : Int) + (r : Int) by omega]
theorem binOk {n s : Nat} (hn : n ≤ 40) (hs : s ≤ 8) (h : 0 ≤ repV n s) : ∃ r, BinOk n s r := by
  obtain ⟨r, e1, e2, e3, e4, e5⟩ := repV_ok hn hs h
  obtain ⟨g0, g1⟩ := gc_formula hn (by omega) e2 e5 e3 e4
  obtain ⟨b1, b2, b3, b4⟩ := adv_ones hn hs e2 g0 e3 e4
  have hin : (inR s 0 8 && inR n 0 40) = true := by rw [inR_yes (by omega) (by omega), inR_yes (by omega) (by omega)]; rfl
  have hrv : repsV n s = r := by unfold repsV; rw [hin, e1]; first | (simp; done) | (simp; omega)
  have hrc : repsC n s = 0 := by unfold repsC; rw [hin, e1]; first | (simp; done) | (simp; omega)
  have hl := (lc_ones hn hs).2 g0
  have hbd := gc_bd (s := s) hn
  refine ⟨r, hn, hs, e2, hrv, hrc, ?_, hl.2, hl.1, ?_, ?_, b2, b3, b4⟩
  · unfold costV
    rw [if_pos hrc, hrv]
    have : (r : Int) * (n : Int) - chooseS ((s : Int) + (r : Int)) ((s : Int) + 1) = gc n s := by
      rw [g1]; unfold ch
      rw [show ((s + r : Nat) : Int) = (s : Int) + (r : Int) by omega, show ((s + 1 : Nat) : Int) = (s : Int) + 1 by omega]
    rw [this]
    exact IntWalk.wrap64_in _ (by omega)
  · have := reach_eq hs (show r ≤ 40 by omega)
    rw [this.1]; exact ⟨e3, this.2⟩
  · intro hr0
    have := reach_eq (r := r - 1) hs (by omega)
    rw [show ((r - 1 : Nat) : Int) = (r : Int) - 1 by omega, show s + (r - 1) = s + r - 1 by omega] at this
    rw [this.1]
    rcases e4 with h | h
    · omega
    · exact ⟨h, this.2⟩

theorem Byt.tail {w : World} {b o n : Nat} (h : Byt w (some ⟨b, o, none⟩) n) : Byt w (some ⟨b, o + 1, none⟩) (n - 1) := fun hn => by
  obtain ⟨b', o', e, hl, hc⟩ := h (by omega)
  obtain ⟨rfl, rfl⟩ : b = b' ∧ o = o' := by simpa using e
  refine ⟨b, _, rfl, hl, fun j hj => ?_⟩
  have := hc (1 + j) (by omega)
  rw [← Nat.add_assoc] at this; exact this

theorem leastOnes {A : Option Addr} {cap n s : Nat} {w : World} (hA : Ints w A (ones n)) (hn : n ≤ 40) :
    Calls Try.prog 13 #[.slice A n cap, .int .i64 s] w fun e w' => e = .returned (.tuple #[.int .i64 (lcV (ones n) s), .int .i64 (lcC (ones n) s)]) ∧ Below w.heap.size w w' := by
  have h := leastCostI A cap (ones n) s w hA (by rw [ones_length]; omega)
  rw [ones_length] at h; exact h
theorem bestOnes {A : Option Addr} {cap n s : Nat} {w : World} (hA : Ints w A (ones n)) (hn : n ≤ 40) :
    Calls Try.prog 16 #[.slice A n cap, .int .i64 s] w (BestPost (bsL (ones n) s) (lcC (ones n) s) w) := by
  have h := bestI A cap (ones n) s w hA (by rw [ones_length]; omega)
  rw [ones_length] at h; exact h

set_option maxRecDepth 100000 in
set_option maxHeartbeats 4000000 in
theorem lawBinomial (A : Option Addr) (cap n : Nat) (w : World) (hA : Byt w A n) (hn : n ≤ 9223372036854775807) (hcap : n ≤ cap) :
    Calls Try.prog 3 #[.slice A n cap] w fun e w' => e = .returned (.bool true) ∧ Below w.heap.size w w' := by
  by_cases hL : 4096 < n
  · have HL : Hid (decide (4096 < n) = true) := by show _ = _; simp [hL]
    clear hL
    go_enter Try.func3, Try.ntmps3
    go_wp2_with fail
    refine (big_any A n cap w hn).mono ?_; rintro e w' ⟨rfl, rfl⟩
    rw [HL.out]
    go_wp2
    go_ret
    exact ⟨rfl, Below.refl _ _⟩
  · have HL : Hid (decide (4096 < n) = false) := by show _ = _; simp [hL]
    have hn3 : n ≤ 4096 := by omega
    clear hL
    by_cases h1 : 1 < n
    · obtain ⟨b, o, rfl, hbl, _⟩ := hA (by omega)
      have h1' : (1 : Int) < (n : Int) := by omega
      have h1'' : (1 : Int) ≤ (n : Int) := by omega
      have hc1 : ¬ cap = 1 := by omega
      have HA := Lib.hid hA; clear hA
      go_enter Try.func3, Try.ntmps3
      go_wp2_with fail
      refine (big_any _ n cap w hn).mono ?_; rintro e w' ⟨rfl, rfl⟩
      rw [HL.out]
      go_wp2_with fail
      refine (lawPick_any _ n cap 41 w HA.out (by omega) (by omega) (by omega)).mono ?_
      rintro e w1 ⟨m, rfl, hm0, hb1⟩
      have hm : m ≤ 40 := by omega
      have HB1 := Lib.hid hb1
      have HA1 : Hid (Byt w1 (some ⟨b, o + 1, none⟩) (n - 1)) := HA.out.tail.only (S := fun _ => False) (Only.of_below hb1) (fun _ _ _ h => h)
      clear hb1
      go_wp2_with fail
      refine (lawPick_any _ (n - 1) (cap - 1) 9 w1 HA1.out (by omega) (by omega) (by omega)).mono ?_
      rintro e w2 ⟨s, rfl, hs0, hb2⟩
      have hs9 : s ≤ 8 := by omega
      have HB2 := Lib.hid (bnext HB1.out hb2)
      clear hb2 hm0 hs0
      have hrr := hs9
      by_cases hrep : 0 ≤ repV m s
      · obtain ⟨r, hO⟩ := binOk hm hs9 hrep
        have HO := Lib.hid hO; clear hO
        have hr41 := HO.out.r41
        clear hrep hrr
        go_wp2_with fail
        refine (repI_any m s _).mono ?_; rintro e w' ⟨rfl, rfl⟩
        rw [HO.out.rep, HO.out.repc]
        go_wp2_with fail
        refine (repS_any m s _).mono ?_; rintro e w' ⟨rfl, rfl⟩
        rw [HO.out.rep, HO.out.repc]
        go_wp2_with fail
        refine (costI_any m s _).mono ?_; rintro e w' ⟨rfl, rfl⟩
        rw [HO.out.cost, HO.out.repc]
        go_wp2_with fail
        refine (costS_any m s _).mono ?_; rintro e w' ⟨rfl, rfl⟩
        rw [HO.out.cost, HO.out.repc]
        go_wp2_with fail
        refine (f6ones_any m w2 (by omega)).mono ?_; rintro e wa ⟨A1, ca, rfl, hI1, hb1⟩
        have HBa := Lib.hid (bnext HB2.out hb1); clear hb1
        go_wp2_with fail
        refine (leastOnes (s := s) hI1 hm).mono ?_; rintro e wb ⟨rfl, hb2⟩
        rw [HO.out.lcv, HO.out.lcc]
        have HBb := Lib.hid (bnext HBa.out hb2); clear hb2 hI1
        have hre := HO.out.reach.1
        have hrc := HO.out.reach.2
        go_wp2_with fail
        refine (chainI_any s r _).mono ?_; rintro e w' ⟨rfl, rfl⟩
        rw [hrc]
        clear hrc
        generalize reachV s r = rv at *
        generalize gc m s = gv at *
        by_cases hr0 : 0 < r
        · have hsh := (HO.out.short hr0).1
          have hsc := (HO.out.short hr0).2
          have hr0' : (0 : Int) < (r : Int) := by omega
          go_wp2_with fail
          refine (chainI_any s ((r : Int) - 1) _).mono ?_; rintro e w' ⟨rfl, rfl⟩
          rw [hsc]
          clear hsc
          generalize reachV s ((r : Int) - 1) = sv at *
          go_wp2_with fail
          refine (f6ones_any m wb (by omega)).mono ?_; rintro e wc ⟨A2, cb, rfl, hI2, hb3⟩
          have HBc := Lib.hid (bnext HBb.out hb3); clear hb3
          go_wp2_with fail
          refine (bestOnes (s := s) hI2 hm).mono ?_
          rw [HO.out.lcc]
          rintro e wd ⟨A3, cc, rfl, hM, hb4, hlen⟩
          have HBd := Lib.hid (bnext HBc.out hb4); clear hb4 hI2
          go_wp2_with fail
          refine (advancesI A3 cc (bsL (ones m) s) m s wd hM.acts (by omega)).mono ?_
          rw [HO.out.advc]
          rintro e we ⟨A4, cd, rfl, hM2, hb5, _⟩
          have HBe := Lib.hid (bnext HBd.out hb5)
          have HI4 := Lib.hid hM2.ints
          have HAV := Lib.hid HO.out.adv
          have HAL := Lib.hid HO.out.advl
          clear hb5 hM hM2
          rw [HAL.out]
          generalize avL (bsL (ones m) s) m s = av at *
          go_wp2
          go_loopw [23] (fun i wr => ∃ k : Nat, k ≤ m ∧ i = .int .i64 (k : Int) ∧ Hid (Below w.heap.size w wr) ∧ Hid (Ints wr A4 av)) (fun i _ => m - (intOf i).toNat)
          case atStart => exact ⟨0, by omega, by go_num, HBe.out, HI4.out⟩
          case round =>
            obtain ⟨k, hk, rfl, HBr, HIr⟩ := hrel
            by_cases hlt : k < m
            · obtain ⟨b1, o1, x, rfl, hx, hc1⟩ := HIr.out.at_ (k := k) (by rw [HAL.out]; exact hlt)
              have hxr : x ≤ r := by
                have h := HAV.out k
                simpa [List.getD, hx] using h
              clear hx
              have hkl : (k : Int) < (m : Int) := by omega
              go_wp2
              go_roundw
              case rel => exact ⟨k + 1, by omega, by go_num, HBr.out, HIr.out⟩
              case measure => simp [intOf]; omega
            · obtain rfl : k = m := by omega
              go_wp2
              go_ret
              exact ⟨rfl, HBr.out⟩
        · have hr0' : ¬ (0 : Int) < (r : Int) := by omega
          go_wp2_with fail
          refine (f6ones_any m wb (by omega)).mono ?_; rintro e wc ⟨A2, cb, rfl, hI2, hb3⟩
          have HBc := Lib.hid (bnext HBb.out hb3); clear hb3
          go_wp2_with fail
          refine (bestOnes (s := s) hI2 hm).mono ?_
          rw [HO.out.lcc]
          rintro e wd ⟨A3, cc, rfl, hM, hb4, hlen⟩
          have HBd := Lib.hid (bnext HBc.out hb4); clear hb4 hI2
          go_wp2_with fail
          refine (advancesI A3 cc (bsL (ones m) s) m s wd hM.acts (by omega)).mono ?_
          rw [HO.out.advc]
          rintro e we ⟨A4, cd, rfl, hM2, hb5, _⟩
          have HBe := Lib.hid (bnext HBd.out hb5)
          have HI4 := Lib.hid hM2.ints
          have HAV := Lib.hid HO.out.adv
          have HAL := Lib.hid HO.out.advl
          clear hb5 hM hM2
          rw [HAL.out]
          generalize avL (bsL (ones m) s) m s = av at *
          go_wp2
          go_loopw [23] (fun i wr => ∃ k : Nat, k ≤ m ∧ i = .int .i64 (k : Int) ∧ Hid (Below w.heap.size w wr) ∧ Hid (Ints wr A4 av)) (fun i _ => m - (intOf i).toNat)
          case atStart => exact ⟨0, by omega, by go_num, HBe.out, HI4.out⟩
          case round =>
            obtain ⟨k, hk, rfl, HBr, HIr⟩ := hrel
            by_cases hlt : k < m
            · obtain ⟨b1, o1, x, rfl, hx, hc1⟩ := HIr.out.at_ (k := k) (by rw [HAL.out]; exact hlt)
              have hxr : x ≤ r := by
                have h := HAV.out k
                simpa [List.getD, hx] using h
              clear hx
              have hkl : (k : Int) < (m : Int) := by omega
              go_wp2
              go_roundw
              case rel => exact ⟨k + 1, by omega, by go_num, HBr.out, HIr.out⟩
              case measure => simp [intOf]; omega
            · obtain rfl : k = m := by omega
              go_wp2
              go_ret
              exact ⟨rfl, HBr.out⟩
      · have hneg : repV m s < 0 := by omega
        obtain ⟨hz, h2⟩ := repV_no hs9 hm hneg
        subst hz
        have hin : (inR ((0 : Nat) : Int) 0 8 && inR m 0 40) = true := by rw [inR_yes (by omega) (by omega), inR_yes (by omega) (by omega)]; rfl
        have hrc : repsC m ((0 : Nat) : Int) = 4 := by unfold repsC; rw [hin]; simp only [if_true]; rw [if_pos hneg]
        have hg : gc m 0 < 0 := by unfold gc; rw [lcost_none (by omega)]; omega
        have hlc := (lc_ones hm hs9).1 hg
        have HRC := Lib.hid hrc
        have HLC := Lib.hid hlc
        clear hrep hrr hneg hin hrc hg hlc
        go_wp2_with fail
        refine (repI_any m ((0 : Nat) : Int) _).mono ?_; rintro e w' ⟨rfl, rfl⟩
        rw [HRC.out]
        go_wp2_with fail
        refine (repS_any m ((0 : Nat) : Int) _).mono ?_; rintro e w' ⟨rfl, rfl⟩
        rw [HRC.out]
        generalize repsV m ((0 : Nat) : Int) = v1 at *
        go_wp2_with fail
        refine (costI_any m ((0 : Nat) : Int) _).mono ?_; rintro e w' ⟨rfl, rfl⟩
        rw [HRC.out]
        go_wp2_with fail
        refine (costS_any m ((0 : Nat) : Int) _).mono ?_; rintro e w' ⟨rfl, rfl⟩
        rw [HRC.out]
        generalize costV m ((0 : Nat) : Int) = v2 at *
        go_wp2_with fail
        refine (f6ones_any m w2 (by omega)).mono ?_; rintro e wa ⟨A1, ca, rfl, hI1, hb1⟩
        have HBa := Lib.hid (bnext HB2.out hb1); clear hb1
        go_wp2_with fail
        refine (leastOnes (s := 0) hI1 hm).mono ?_; rintro e wb ⟨rfl, hb2⟩
        rw [HLC.out]
        have HBb := Lib.hid (bnext HBa.out hb2); clear hb2 hI1
        generalize lcV (ones m) ((0 : Nat) : Int) = v3 at *
        go_wp2
        go_ret
        exact ⟨rfl, HBb.out⟩
    · have h1' : ¬ (1 : Int) < (n : Int) := by omega
      have HA := Lib.hid hA; clear hA
      go_enter Try.func3, Try.ntmps3
      go_wp2_with fail
      refine (big_any _ n cap w hn).mono ?_; rintro e w' ⟨rfl, rfl⟩
      rw [HL.out]
      go_wp2_with fail
      refine (lawPick_any _ n cap 41 w HA.out (by omega) (by omega) (by omega)).mono ?_
      rintro e w1 ⟨m, rfl, hm0, hb1⟩
      have hm : m ≤ 40 := by omega
      have HB1 := Lib.hid hb1
      clear hb1 hm0
      have hs9 : 0 ≤ 8 := by omega
      have hrr := hs9
      by_cases hrep : 0 ≤ repV m ((0 : Nat) : Int)
      · obtain ⟨r, hO⟩ := binOk hm hs9 hrep
        have HO := Lib.hid hO; clear hO
        have hr41 := HO.out.r41
        clear hrep hrr
        go_wp2_with fail
        refine (repI_any m ((0 : Nat) : Int) _).mono ?_; rintro e w' ⟨rfl, rfl⟩
        rw [HO.out.rep, HO.out.repc]
        go_wp2_with fail
        refine (repS_any m ((0 : Nat) : Int) _).mono ?_; rintro e w' ⟨rfl, rfl⟩
        rw [HO.out.rep, HO.out.repc]
        go_wp2_with fail
        refine (costI_any m ((0 : Nat) : Int) _).mono ?_; rintro e w' ⟨rfl, rfl⟩
        rw [HO.out.cost, HO.out.repc]
        go_wp2_with fail
        refine (costS_any m ((0 : Nat) : Int) _).mono ?_; rintro e w' ⟨rfl, rfl⟩
        rw [HO.out.cost, HO.out.repc]
        go_wp2_with fail
        refine (f6ones_any m w1 (by omega)).mono ?_; rintro e wa ⟨A1, ca, rfl, hI1, hb1⟩
        have HBa := Lib.hid (bnext HB1.out hb1); clear hb1
        go_wp2_with fail
        refine (leastOnes (s := 0) hI1 hm).mono ?_; rintro e wb ⟨rfl, hb2⟩
        rw [HO.out.lcv, HO.out.lcc]
        have HBb := Lib.hid (bnext HBa.out hb2); clear hb2 hI1
        have hre := HO.out.reach.1
        have hrc := HO.out.reach.2
        go_wp2_with fail
        refine (chainI_any ((0 : Nat) : Int) r _).mono ?_; rintro e w' ⟨rfl, rfl⟩
        rw [hrc]
        clear hrc
        generalize reachV ((0 : Nat) : Int) r = rv at *
        generalize gc m 0 = gv at *
        by_cases hr0 : 0 < r
        · have hsh := (HO.out.short hr0).1
          have hsc := (HO.out.short hr0).2
          have hr0' : (0 : Int) < (r : Int) := by omega
          go_wp2_with fail
          refine (chainI_any ((0 : Nat) : Int) ((r : Int) - 1) _).mono ?_; rintro e w' ⟨rfl, rfl⟩
          rw [hsc]
          clear hsc
          generalize reachV ((0 : Nat) : Int) ((r : Int) - 1) = sv at *
          go_wp2_with fail
          refine (f6ones_any m wb (by omega)).mono ?_; rintro e wc ⟨A2, cb, rfl, hI2, hb3⟩
          have HBc := Lib.hid (bnext HBb.out hb3); clear hb3
          go_wp2_with fail
          refine (bestOnes (s := 0) hI2 hm).mono ?_
          rw [HO.out.lcc]
          rintro e wd ⟨A3, cc, rfl, hM, hb4, hlen⟩
          have HBd := Lib.hid (bnext HBc.out hb4); clear hb4 hI2
          go_wp2_with fail
          refine (advancesI A3 cc (bsL (ones m) ((0 : Nat) : Int)) m ((0 : Nat) : Int) wd hM.acts (by omega)).mono ?_
          rw [HO.out.advc]
          rintro e we ⟨A4, cd, rfl, hM2, hb5, _⟩
          have HBe := Lib.hid (bnext HBd.out hb5)
          have HI4 := Lib.hid hM2.ints
          have HAV := Lib.hid HO.out.adv
          have HAL := Lib.hid HO.out.advl
          clear hb5 hM hM2
          rw [HAL.out]
          generalize avL (bsL (ones m) ((0 : Nat) : Int)) m ((0 : Nat) : Int) = av at *
          go_wp2
          go_loopw [23] (fun i wr => ∃ k : Nat, k ≤ m ∧ i = .int .i64 (k : Int) ∧ Hid (Below w.heap.size w wr) ∧ Hid (Ints wr A4 av)) (fun i _ => m - (intOf i).toNat)
          case atStart => exact ⟨0, by omega, by go_num, HBe.out, HI4.out⟩
          case round =>
            obtain ⟨k, hk, rfl, HBr, HIr⟩ := hrel
            by_cases hlt : k < m
            · obtain ⟨b1, o1, x, rfl, hx, hc1⟩ := HIr.out.at_ (k := k) (by rw [HAL.out]; exact hlt)
              have hxr : x ≤ r := by
                have h := HAV.out k
                simpa [List.getD, hx] using h
              clear hx
              have hkl : (k : Int) < (m : Int) := by omega
              go_wp2
              go_roundw
              case rel => exact ⟨k + 1, by omega, by go_num, HBr.out, HIr.out⟩
              case measure => simp [intOf]; omega
            · obtain rfl : k = m := by omega
              go_wp2
              go_ret
              exact ⟨rfl, HBr.out⟩
        · have hr0' : ¬ (0 : Int) < (r : Int) := by omega
          go_wp2_with fail
          refine (f6ones_any m wb (by omega)).mono ?_; rintro e wc ⟨A2, cb, rfl, hI2, hb3⟩
          have HBc := Lib.hid (bnext HBb.out hb3); clear hb3
          go_wp2_with fail
          refine (bestOnes (s := 0) hI2 hm).mono ?_
          rw [HO.out.lcc]
          rintro e wd ⟨A3, cc, rfl, hM, hb4, hlen⟩
          have HBd := Lib.hid (bnext HBc.out hb4); clear hb4 hI2
          go_wp2_with fail
          refine (advancesI A3 cc (bsL (ones m) ((0 : Nat) : Int)) m ((0 : Nat) : Int) wd hM.acts (by omega)).mono ?_
          rw [HO.out.advc]
          rintro e we ⟨A4, cd, rfl, hM2, hb5, _⟩
          have HBe := Lib.hid (bnext HBd.out hb5)
          have HI4 := Lib.hid hM2.ints
          have HAV := Lib.hid HO.out.adv
          have HAL := Lib.hid HO.out.advl
          clear hb5 hM hM2
          rw [HAL.out]
          generalize avL (bsL (ones m) ((0 : Nat) : Int)) m ((0 : Nat) : Int) = av at *
          go_wp2
          go_loopw [23] (fun i wr => ∃ k : Nat, k ≤ m ∧ i = .int .i64 (k : Int) ∧ Hid (Below w.heap.size w wr) ∧ Hid (Ints wr A4 av)) (fun i _ => m - (intOf i).toNat)
          case atStart => exact ⟨0, by omega, by go_num, HBe.out, HI4.out⟩
          case round =>
            obtain ⟨k, hk, rfl, HBr, HIr⟩ := hrel
            by_cases hlt : k < m
            · obtain ⟨b1, o1, x, rfl, hx, hc1⟩ := HIr.out.at_ (k := k) (by rw [HAL.out]; exact hlt)
              have hxr : x ≤ r := by
                have h := HAV.out k
                simpa [List.getD, hx] using h
              clear hx
              have hkl : (k : Int) < (m : Int) := by omega
              go_wp2
              go_roundw
              case rel => exact ⟨k + 1, by omega, by go_num, HBr.out, HIr.out⟩
              case measure => simp [intOf]; omega
            · obtain rfl : k = m := by omega
              go_wp2
              go_ret
              exact ⟨rfl, HBr.out⟩
      · have hneg : repV m ((0 : Nat) : Int) < 0 := by omega
        obtain ⟨_, h2⟩ := repV_no hs9 hm hneg
        have hin : (inR ((0 : Nat) : Int) 0 8 && inR m 0 40) = true := by rw [inR_yes (by omega) (by omega), inR_yes (by omega) (by omega)]; rfl
        have hrc : repsC m ((0 : Nat) : Int) = 4 := by unfold repsC; rw [hin]; simp only [if_true]; rw [if_pos hneg]
        have hg : gc m 0 < 0 := by unfold gc; rw [lcost_none (by omega)]; omega
        have hlc := (lc_ones hm hs9).1 hg
        have HRC := Lib.hid hrc
        have HLC := Lib.hid hlc
        clear hrep hrr hneg hin hrc hg hlc
        go_wp2_with fail
        refine (repI_any m ((0 : Nat) : Int) _).mono ?_; rintro e w' ⟨rfl, rfl⟩
        rw [HRC.out]
        go_wp2_with fail
        refine (repS_any m ((0 : Nat) : Int) _).mono ?_; rintro e w' ⟨rfl, rfl⟩
        rw [HRC.out]
        generalize repsV m ((0 : Nat) : Int) = v1 at *
        go_wp2_with fail
        refine (costI_any m ((0 : Nat) : Int) _).mono ?_; rintro e w' ⟨rfl, rfl⟩
        rw [HRC.out]
        go_wp2_with fail
        refine (costS_any m ((0 : Nat) : Int) _).mono ?_; rintro e w' ⟨rfl, rfl⟩
        rw [HRC.out]
        generalize costV m ((0 : Nat) : Int) = v2 at *
        go_wp2_with fail
        refine (f6ones_any m w1 (by omega)).mono ?_; rintro e wa ⟨A1, ca, rfl, hI1, hb1⟩
        have HBa := Lib.hid (bnext HB1.out hb1); clear hb1
        go_wp2_with fail
        refine (leastOnes (s := 0) hI1 hm).mono ?_; rintro e wb ⟨rfl, hb2⟩
        rw [HLC.out]
        have HBb := Lib.hid (bnext HBa.out hb2); clear hb2 hI1
        generalize lcV (ones m) ((0 : Nat) : Int) = v3 at *
        go_wp2
        go_ret
        exact ⟨rfl, HBb.out⟩

end Go.Proofs.Ytnbpcdcdfkfmiaa
