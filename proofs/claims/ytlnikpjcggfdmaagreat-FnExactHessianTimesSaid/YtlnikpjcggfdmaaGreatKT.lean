/- Texts put together: PMix, WMix. -/
import Derived.Test.YtlnikpjcggfdmaaGreatKS
import Derived.Test.YtlnikpjcggfdmaaGreatKR

/- Mixed derivatives, plainly: sets as numbers, signs, sums. No program here. -/
namespace Go.Proofs.YtlnikpjcggfdmaaGreat
open Plain

/-- is place i in set s? -/
def bitB (s i : Nat) : Bool := s / 2 ^ i % 2 == 1
/-- the parameters of a set, among the first k -/
def chs (ps : List Int) (s : Nat) : Nat → List Int
  | 0 => []
  | k + 1 => if bitB s k then chs ps s k ++ [cf ps k] else chs ps s k
theorem chs_len (ps : List Int) (s k : Nat) : (chs ps s k).length ≤ k := by
  induction k with
  | zero => simp [chs]
  | succ k ih =>
    unfold chs
    split
    · simp; omega
    · omega
theorem chs_mem {ps : List Int} {s k : Nat} (hk : k ≤ ps.length) : ∀ p ∈ chs ps s k, p ∈ ps := by
  induction k with
  | zero => intro p hp; simp [chs] at hp
  | succ k ih =>
    intro p hp
    unfold chs at hp
    split at hp
    · rcases List.mem_append.1 hp with h | h
      · exact ih (by omega) p h
      · simp at h
        subst h
        have hlt : k < ps.length := by omega
        have : cf ps k = ps[k] := by simp [cf, List.getD, hlt]
        rw [this]
        exact List.getElem_mem hlt
    · exact ih (by omega) p hp
/-- is the number of the others odd? -/
def oddN (ps : List Int) (s k : Nat) : Bool := (ps.length + (chs ps s k).length) % 2 == 1
def sgn (b : Bool) (x : Int) : Int := if b then rs (-x) else x
/-- the sum of the first k -/
def sumP (G : Nat → Int) : Nat → Int
  | 0 => 0
  | k + 1 => pl (sumP G k) (G k)
theorem sumP_bd (G : Nat → Int) (k : Nat) : 0 ≤ sumP G k ∧ sumP G k ≤ 1000002 := by
  cases k with
  | zero => simp [sumP]
  | succ k => unfold sumP pl; omega
/-- the coefficient along a set -/
def mixF (P : List Fn) (g : Fn) (zs ps : List Int) (pk s : Nat) : Int × Int :=
  coRes (tayR (ps.length + 1) P g.outs zs (unitL zs.length (chs ps s ps.length))) pk ps.length
def mixG (P : List Fn) (g : Fn) (zs ps : List Int) (pk s : Nat) : Int := sgn (oddN ps s ps.length) (mixF P g zs ps pk s).1
def mixC (P : List Fn) (g : Fn) (zs ps : List Int) (pk s : Nat) : Int := (mixF P g zs ps pk s).2
def mixRes (P : List Fn) (g : Fn) (zs ps : List Int) (pk : Nat) : Int × Int :=
  if fstErr (mixC P g zs ps pk) (2 ^ ps.length) = 0 then (sumP (mixG P g zs ps pk) (2 ^ ps.length), 0) else (0, fstErr (mixC P g zs ps pk) (2 ^ ps.length))
/-- are all parameters there? -/
def prsIn (n : Nat) (ps : List Int) : Bool := ps.all fun p => inR p 0 ((n : Int) - 1)
theorem prsIn_mem {n : Nat} {ps : List Int} (h : prsIn n ps = true) : ∀ p ∈ ps, 0 ≤ p ∧ p < n := fun p hp => by
  have := inR_true.1 (List.all_eq_true.1 h p hp)
  omega
/-- what MixedDerivative answers -/
def mixV (P : List Fn) (f pick : Int) (zs ps : List Int) : Int × Int :=
  if pickV P f pick zs zs = 0 then (if ps.length ≤ 4 ∧ prsIn zs.length ps = true then (match P[f.toNat]? with
    | none => (0, 0)
    | some g => mixRes P g zs ps pick.toNat) else (0, 2))
  else (0, pickV P f pick zs zs)
theorem coRes_bd {R : Res (List (List Int))} {pk k : Nat} (h : ∀ zss t, R = .ok zss t → IsS (zss.getD pk [])) : 0 ≤ (coRes R pk k).1 ∧ (coRes R pk k).1 ≤ 1000002 := by
  cases R with
  | err c => simp [coRes]
  | ok zss t => exact h zss t rfl k
theorem coRes_code {R : Res (List (List Int))} {pk k : Nat} (h : ∀ c, R = .err c → c ≠ 0) : ((coRes R pk k).2 = 0 ↔ ∃ zss t, R = .ok zss t) := by
  cases R with
  | err c => simp [coRes, h c rfl]
  | ok zss t => simp [coRes]

end Go.Proofs.YtlnikpjcggfdmaaGreat

/- Walks: mixed derivatives in the spec. -/
namespace Go.Proofs.YtlnikpjcggfdmaaGreat
open Go.RowKit Plain

theorem oddN_step {ps : List Int} {s k : Nat} : oddN ps s (k + 1) = if bitB s k then !oddN ps s k else oddN ps s k := by
  unfold oddN
  simp only [chs]
  cases bitB s k
  · rfl
  · simp only [if_true, List.length_append, List.length_singleton]
    rcases Nat.mod_two_eq_zero_or_one (ps.length + (chs ps s k).length) with h | h
    · have h2 : (ps.length + ((chs ps s k).length + 1)) % 2 = 1 := by omega
      rw [h, h2]; rfl
    · have h2 : (ps.length + ((chs ps s k).length + 1)) % 2 = 0 := by omega
      rw [h, h2]; rfl
theorem oddN_zero {ps : List Int} {s : Nat} : oddN ps s 0 = (ps.length % 2 == 1) := rfl
/-- the bit, as the walk computes it -/
theorem bit_all : ∀ s : Nat, s < 16 → ∀ k : Nat, k < 4 → (bits BinOp.and IntKind.i64 ((s : Int) / 2 ^ k) 1 == 1) = bitB s k := by decide +kernel
theorem chs_yes {ps : List Int} {s k : Nat} (h : bitB s k = true) : chs ps s (k + 1) = chs ps s k ++ [cf ps k] := by show (if bitB s k then _ else _) = _; rw [h]; rfl
theorem chs_no {ps : List Int} {s k : Nat} (h : bitB s k = false) : chs ps s (k + 1) = chs ps s k := by show (if bitB s k then _ else _) = _; rw [h]; rfl

set_option maxRecDepth 100000 in
set_option maxHeartbeats 2000000 in
theorem mixedS (P : List Fn) (m : Nat) (g : Fn) (pk : Nat) (zs ps : List Int) (A Q : Option Addr) (cap qcap bp op B : Nat) (w : World) (hP : PrAt w B P bp op) (hB : B ≤ w.heap.size) (hin : ArgIn P m g zs) (hA : Ints w A zs) (hQ : Ints w Q ps) (hps : prsIn zs.length ps = true) (hl : ps.length ≤ 4) (hpk : pk < g.outs.len) (V : Int × Int) (hV : V = mixRes P g zs ps pk) :
    Calls Tryz.prog 73 #[ptr bp op, .int .i64 m, .int .i64 pk, .slice A zs.length cap, .slice Q ps.length qcap] w fun e w' => e = .returned (.tuple #[.int .i64 V.1, .int .i64 V.2]) ∧ Below w.heap.size w w' := by
  have HPS := Lib.hid (prsIn_mem hps)
  have hz12 : zs.length ≤ 12 := by have h1 := hin.len; have h2 := hin.fn.p12; omega
  have ho12 := hin.fn.o12
  obtain ⟨N, hN⟩ : ∃ N : Nat, N = 2 ^ ps.length := ⟨_, rfl⟩
  have hN16 : N ≤ 16 := by
    rw [hN]
    exact Nat.pow_le_pow_right (n := 2) (by omega) hl
  have HT : Hid (∀ wx gu s, Below w.heap.size w wx → Ints wx (some ⟨gu, 0, none⟩) (unitL zs.length (chs ps s ps.length)) → Calls Tryz.prog 62 #[ptr bp op, .int .i64 m, .slice A zs.length cap, .slice (some ⟨gu, 0, none⟩) zs.length zs.length, .int .i64 ps.length] wx (RowsPost (ps.length + 1) (tayR (ps.length + 1) P g.outs zs (unitL zs.length (chs ps s ps.length))) wx)) := fun wx gu s hx hI => by
    have h := taylorS_any P m g ps.length A (some ⟨gu, 0, none⟩) cap zs.length zs (unitL zs.length (chs ps s ps.length)) bp op B wx (hP.below (hx.mono hB)) (Nat.le_trans hB hx.size) hin (hA.below hx) hI (isS_unit (by have := chs_len ps s ps.length; omega)) (unitL_length _ _) (by omega)
    rw [unitL_length] at h
    exact h
  have HLN : Hid (∀ (s : Nat) zss t, tayR (ps.length + 1) P g.outs zs (unitL zs.length (chs ps s ps.length)) = .ok zss t → zss.length = g.outs.len) := fun s zss t h => evalR_len h
  have HER : Hid (∀ (s : Nat) c, tayR (ps.length + 1) P g.outs zs (unitL zs.length (chs ps s ps.length)) = .err c → c ≠ 0) := fun s c h => evalR_err h
  obtain ⟨F, hF⟩ : ∃ F : Nat → Int, F = mixC P g zs ps pk := ⟨_, rfl⟩
  obtain ⟨G, hG⟩ : ∃ G : Nat → Int, G = mixG P g zs ps pk := ⟨_, rfl⟩
  have HV : Hid (V = if fstErr F N = 0 then (sumP G N, 0) else (0, fstErr F N)) := by show _ = _; rw [hV, hF, hG, hN]; rfl
  have HF : Hid (∀ s : Nat, F s = (coRes (tayR (ps.length + 1) P g.outs zs (unitL zs.length (chs ps s ps.length))) pk ps.length).2) := fun s => by rw [hF]; rfl
  have HG : Hid (∀ s : Nat, G s = sgn (oddN ps s ps.length) (coRes (tayR (ps.length + 1) P g.outs zs (unitL zs.length (chs ps s ps.length))) pk ps.length).1) := fun s => by rw [hG]; rfl
  have HNp := Lib.hid hN
  have hshl : wrap64 (2 ^ ps.length) = (N : Int) := by
    rw [hN]
    rcases (show ps.length = 0 ∨ ps.length = 1 ∨ ps.length = 2 ∨ ps.length = 3 ∨ ps.length = 4 by omega) with h | h | h | h | h <;> rw [h] <;> simp [wrap64]
  clear hV hF hG hP hin hps
  have HA := Lib.hid hA
  have HQ := Lib.hid hQ
  clear hA hQ hN
  go_enter Tryz.func73, Tryz.ntmps73
  go_wp2
  go_loopw [13, 14] (fun o i wr => ∃ s : Nat, s ≤ N ∧ i = .int .i64 (s : Int) ∧ o = .int .i64 (sumP G s) ∧ Hid (Below w.heap.size w wr) ∧ Hid (fstErr F s = 0)) (fun _ i _ => N - (intOf i).toNat)
  case atStart => exact ⟨0, by omega, by go_num, rfl, Below.refl _ _, rfl⟩
  case round =>
    obtain ⟨s, hs, rfl, rfl, HB, HE⟩ := hrel
    by_cases hlt : s < N
    · have hltI : (s : Int) < (N : Int) := by omega
      have hs16 : s < 16 := by omega
      have hmk := run_make_row' (P := Tryz.prog) 25 2 (.int .i64 0) 8 Tryz.underlying25 Tryz.infoI rfl .i64 .i64 zs.length (by omega) (by omega)
      rw [madeCells_one, rowF_zero] at hmk
      obtain ⟨wk, rfl⟩ : ∃ wk : World, wk = wr := ⟨_, rfl⟩
      go_wp2
      go_loopw [16, 17] (fun o i wr => ∃ j : Nat, j ≤ ps.length ∧ i = .int .i64 (j : Int) ∧ o = .bool (oddN ps s j) ∧ Hid (Cells wr wk.heap.size 2 (rowF zs.length (cntN (chs ps s j)))) ∧ Hid (Below wk.heap.size wk wr)) (fun _ i _ => ps.length - (intOf i).toNat)
      case atStart => exact ⟨0, by omega, by go_num, by rw [oddN_zero]; first | rfl | (congr 1; rw [Bool.eq_iff_iff]; simp; omega), Cells.new wk _ _, by show Below _ _ _; go_grown⟩
      case round =>
        obtain ⟨j, hj, rfl, rfl, HC, HBk⟩ := hrel
        by_cases hjl : j < ps.length
        · have hjI : (j : Int) < (ps.length : Int) := by omega
          have HBj : Hid (Below w.heap.size w wr) := bnext HB.out HBk.out
          obtain ⟨bq, oq, rfl, hql, gq⟩ := ints_cf (HQ.out.below HBj.out) hjl
          have hb0 := bit_all s hs16 j (by omega)
          cases hbit : bitB s j
          · rw [hbit] at hb0
            have HN : Hid (oddN ps s (j + 1) = oddN ps s j ∧ chs ps s (j + 1) = chs ps s j) := ⟨by rw [oddN_step, hbit]; rfl, chs_no hbit⟩
            clear hbit
            go_wp2
            go_roundw
            case rel => exact ⟨j + 1, by omega, by go_num, by rw [HN.out.1], by rw [HN.out.2]; exact HC.out, HBk.out⟩
            case measure => simp [intOf]; omega
          · rw [hbit] at hb0
            have HN : Hid (oddN ps s (j + 1) = !oddN ps s j ∧ chs ps s (j + 1) = chs ps s j ++ [cf ps j]) := ⟨by rw [oddN_step, hbit]; rfl, chs_yes hbit⟩
            have hpm := HPS.out (cf ps j) (by rw [show cf ps j = ps[j] by simp [cf, List.getD, hjl]]; exact List.getElem_mem hjl)
            obtain ⟨x, hx⟩ := Int.eq_ofNat_of_zero_le hpm.1
            rw [hx] at hpm HN gq
            clear hbit hx
            have hxn : x < zs.length := by omega
            have hxI := hpm.2
            have g3 := cell_row HC.out hxn
            have z3 : wr.frozen? ⟨wk.heap.size, x, none⟩ = false := HC.out.frozen _
            have hbd := cntN_bd (chs ps s j) x
            have hcl := chs_len ps s j
            have HN2 : Hid (Cells (wr.setCell ⟨wk.heap.size, x, none⟩ (.int .i64 (cntN (chs ps s j) x + 1))) wk.heap.size 2 (rowF zs.length (cntN (chs ps s (j + 1))))) := by
              have h := HC.out.set_ x (.int .i64 (cntN (chs ps s j) x + 1))
              rw [unit_set hxn] at h
              rw [HN.out.2]
              exact h
            have HN1 : Hid (oddN ps s (j + 1) = !oddN ps s j) := HN.out.1
            clear HN
            have hx0 : 0 ≤ cntN (chs ps s j) x := hbd.1
            have hx1 : cntN (chs ps s j) x ≤ 1000 := by omega
            generalize cntN (chs ps s j) x = c at *
            clear hbd hpm hcl
            go_wp2
            go_roundw
            case rel => exact ⟨j + 1, by omega, by go_num, by rw [HN1.out], HN2.out, HBk.out.setCell (Nat.le_refl _) _⟩
            case measure => simp [intOf]; omega
        · obtain rfl : j = ps.length := by omega
          have HBw : Hid (Below w.heap.size w wr) := bnext HB.out HBk.out
          have HTC := Lib.hid (HT.out wr wk.heap.size s HBw.out (HC.out.intsM' (Nat.le_refl _)).ints)
          obtain ⟨R, hR⟩ : ∃ R, R = tayR (ps.length + 1) P g.outs zs (unitL zs.length (chs ps s ps.length)) := ⟨_, rfl⟩
          rw [← hR] at HTC
          have HFs : Hid (F s = (coRes R pk ps.length).2) := by show _ = _; rw [HF.out, hR]
          have HGs : Hid (G s = sgn (oddN ps s ps.length) (coRes R pk ps.length).1) := by show _ = _; rw [HG.out, hR]
          have HRR := Lib.hid hR; clear hR
          cases R with
          | err c =>
            have hc := HER.out s c HRR.out.symm
            have hc1 : (c == 0) = false := by simpa using hc
            go_wp2_with fail
            refine HTC.out.mono ?_; rintro e w3 ⟨hb3, Ah, ch, rfl⟩
            have HB3 := Lib.hid (bnext HBw.out hb3)
            clear hb3
            go_wp2
            go_ret2
            have h2 := fstErr_at HE.out (by rw [HFs.out]; exact hc) N hlt
            have hv := HV.out
            have hF : F s = c := HFs.out
            rw [h2, hF, if_neg hc] at hv
            rw [hv]
            exact ⟨rfl, HB3.out⟩
          | ok zss t =>
            have hzn := HLN.out s zss t HRR.out.symm
            have hpz : pk < zss.length := by omega
            have hpzI : (pk : Int) < (zss.length : Int) := by omega
            have hz12' : zss.length ≤ 12 := by omega
            have HE2 := Lib.hid (fstErr_next HE.out HFs.out)
            clear hzn
            go_wp2_with fail
            refine HTC.out.mono ?_; rintro e w3 ⟨hb3, Ah, ch, rfl, hN⟩
            have hs0 : 0 < wr.heap.size := by have h1 := HC.out.lt; omega
            obtain ⟨b, o, b', o', ca, rfl, g1, g2, gb⟩ := newAt (k := ps.length) hN hs0 hpz (by omega)
            have HB3 := Lib.hid (bnext HBw.out hb3)
            obtain ⟨x, hx⟩ : ∃ x, x = cf (zss.getD pk []) ps.length := ⟨_, rfl⟩
            rw [← hx] at g2 gb
            have HX : Hid (G s = sgn (oddN ps s ps.length) x) := by show _ = _; rw [HGs.out, hx]; rfl
            have HS : Hid (sumP G (s + 1) = pl (sumP G s) (G s)) := rfl
            have hpn : (ps.length : Int) < (ps.length : Int) + 1 := by omega
            have hpn2 : ps.length < ps.length + 1 := by omega
            clear hb3 hN hx
            generalize sumP G s = y at *
            cases hod : oddN ps s ps.length
            · rw [hod] at HX
              go_wp2_with fail
              refine (plusS_any _ _ _).mono ?_; rintro e w' ⟨rfl, rfl⟩
              have HZ : Hid (pl y x = sumP G (s + 1)) := by show _ = _; rw [HS.out, HX.out]; rfl
              generalize pl y x = z at *
              go_wp2
              go_roundw
              case rel => exact ⟨s + 1, by omega, by go_num, by rw [HZ.out], HB3.out, HE2.out⟩
              case measure => simp [intOf]; omega
            · rw [hod] at HX
              go_wp2_with fail
              refine (negS_any _ _ gb.1 gb.2).mono ?_; rintro e w' ⟨rfl, rfl⟩
              have HZ : Hid (rs (-x) = G s) := by show _ = _; rw [HX.out]; rfl
              generalize rs (-x) = x' at *
              go_wp2_with fail
              refine (plusS_any _ _ _).mono ?_; rintro e w' ⟨rfl, rfl⟩
              have HZ2 : Hid (pl y x' = sumP G (s + 1)) := by show _ = _; rw [HS.out, HZ.out]
              generalize pl y x' = z at *
              go_wp2
              go_roundw
              case rel => exact ⟨s + 1, by omega, by go_num, by rw [HZ2.out], HB3.out, HE2.out⟩
              case measure => simp [intOf]; omega
    · obtain rfl : s = N := by omega
      go_wp2
      go_ret2
      have hv := HV.out
      rw [if_pos HE.out] at hv
      rw [hv]
      exact ⟨rfl, HB.out⟩

end Go.Proofs.YtlnikpjcggfdmaaGreat
