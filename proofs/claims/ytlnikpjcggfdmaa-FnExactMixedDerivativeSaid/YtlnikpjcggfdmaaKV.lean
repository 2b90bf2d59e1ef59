/- Texts put together: WMix2, WMix3. -/
import Derived.Test.YtlnikpjcggfdmaaKT
import Derived.Test.YtlnikpjcggfdmaaKB
import Derived.Deep.RegionHeld3

/- Walks: MixedDerivative of the program and of the spec. -/
namespace Go.Proofs.Ytlnikpjcggfdmaa
open Go.RowKit Plain

/-- the numbers that are chosen, in a row of their own -/
theorem rowSnoc {w wr W w2 : World} {k cp : Nat} {Av : Option Addr} {l : List Int} {x : Int} {v2 : Value} (hr : IntRow wr w.heap.size (.slice Av k cp) l) (hk : k = l.length) (hb : Below w.heap.size w wr) (hW : Below wr.heap.size wr W)
    (hown : w2.ownsRow w.heap.size 2 1 v2 (k + 1) (l.map (Value.int .i64) ++ [.int .i64 x])) (hg : W.grownBy w2 (Value.slice Av k cp).ownBlock) :
    (∃ A2 c2, v2 = .slice A2 (k + 1) c2) ∧ IntRow w2 w.heap.size v2 (l ++ [x]) ∧ Below w.heap.size w w2 := by
  obtain ⟨g2, c, hv, _⟩ := World.ownsRow.form hown (by omega)
  refine ⟨⟨_, c, hv⟩, IntRow.push hk hown, (bnext hb hW).grown hg (by have := hb.size; have := hW.size; omega) fun q hq => (hr.lt hq).1⟩

set_option maxRecDepth 100000 in
set_option maxHeartbeats 4000000 in
theorem mixI_run (P : List Fn) (m pk : Nat) (g : Fn) (zs ps : List Int) (PA : Option Addr) (pcap : Nat) (A Q : Option Addr) (cap qcap : Nat) (w : World) (hP : ProgIn w P PA pcap) (hin : ArgIn P m g zs) (hA : Ints w A zs) (hQ : Ints w Q ps) (hps : prsIn zs.length ps = true) (hl : ps.length ≤ 4) (hpk : pk < g.outs.len) (V : Int × Int) (hV : V = mixRes P g zs ps pk)
    (hC : Hid (∀ wx, Below w.heap.size w wx → Calls Try.prog 45 #[prV PA P.length pcap, .int .i64 m, .int .i64 pk, .slice A zs.length cap, .slice A zs.length cap] wx fun e w' => e = .returned (.int .i64 0) ∧ Below wx.heap.size wx w')) :
    Calls Try.prog 21 #[prV PA P.length pcap, .int .i64 m, .int .i64 pk, .slice A zs.length cap, .slice Q ps.length qcap] w (Retii V.1 V.2 w) := by
  obtain ⟨i0, hi, hz0, hz1, hz2⟩ := info_parts Try.infoI
  have HPS := Lib.hid (prsIn_mem hps)
  have hz12 : zs.length ≤ 12 := by have h1 := hin.len; have h2 := hin.fn.p12; omega
  have ho12 := hin.fn.o12
  have hpm : pcap ≤ 9223372036854775807 := by have := hP.pm; unfold maxLen at this; omega
  have HP := Lib.hid hP
  obtain ⟨N, hN⟩ : ∃ N : Nat, N = 2 ^ ps.length := ⟨_, rfl⟩
  have hN16 : N ≤ 16 := by
    rw [hN]
    exact Nat.pow_le_pow_right (n := 2) (by omega) hl
  have hml : m < P.length := (List.getElem?_eq_some_iff.1 hin.fn.fn).1
  have hml2 : (m : Int) < (P.length : Int) := by omega
  obtain ⟨bP, oP, rfl, hbP, _⟩ := hP.fns.get hin.fn.fn
  have hgp : g.params = (zs.length : Int) := hin.len.symm
  have HFN := Lib.hid hin.fn.fn
  have HF : Hid (∀ wx, Below w.heap.size w wx → wx.cell? ⟨bP, oP + m * 3 + 1, none⟩ = some (.int .i64 (zs.length : Int))) := fun wx hx => by
    obtain ⟨bP', oP', e', _, _, g1, _⟩ := (HP.out.fns.below hx).get HFN.out
    obtain ⟨rfl, rfl⟩ : bP = bP' ∧ oP = oP' := by simpa using e'
    rw [hgp] at g1
    exact g1
  have HT : Hid (∀ wx gu s, Below w.heap.size w wx → Ints wx (some ⟨gu, 0, none⟩) (unitL zs.length (chs ps s ps.length)) → Calls Try.prog 47 #[prV (some ⟨bP, oP, none⟩) P.length pcap, .int .i64 m, .int .i64 pk, .slice A zs.length cap, .slice (some ⟨gu, 0, none⟩) zs.length zs.length, .int .i64 ps.length] wx fun e w' => Below wx.heap.size wx w' ∧ e = .returned (.tuple #[.int .i64 (mixF P g zs ps pk s).1, .int .i64 (mixF P g zs ps pk s).2]) ∧ 0 ≤ (mixF P g zs ps pk s).1 ∧ (mixF P g zs ps pk s).1 ≤ 1000002) := fun wx gu s hx hI => by
    have h := coefI P m g ps.length pk (some ⟨bP, oP, none⟩) pcap A (some ⟨gu, 0, none⟩) cap zs.length zs (unitL zs.length (chs ps s ps.length)) wx (HP.out.below hx) hin (hA.below hx) hI (isS_unit (by have := chs_len ps s ps.length; omega)) (unitL_length _ _) (by omega) hpk
    rw [unitL_length] at h
    exact h
  have HU : Hid (∀ wx Av cp s, Ints wx Av (chs ps s ps.length) → Calls Try.prog 50 #[.int .i64 zs.length, .slice Av (chs ps s ps.length).length cp] wx fun e w' => ∃ gu, e = .returned (.slice (some ⟨gu, 0, none⟩) zs.length zs.length) ∧ Ints w' (some ⟨gu, 0, none⟩) (unitL zs.length (chs ps s ps.length)) ∧ Below wx.heap.size wx w') := fun wx Av cp s hI => by
    refine (unit_any zs.length Av cp (chs ps s ps.length) wx hI (fun p hp => HPS.out p (chs_mem (Nat.le_refl _) p hp)) (by have := chs_len ps s ps.length; omega) (by omega)).mono fun e w' ⟨he, hC, hb⟩ => ?_
    rw [unitL_length] at he
    exact ⟨wx.heap.size, he, (hC.intsM' (Nat.le_refl _)).ints, hb⟩
  obtain ⟨F, hF⟩ : ∃ F : Nat → Int, F = mixC P g zs ps pk := ⟨_, rfl⟩
  obtain ⟨G, hG⟩ : ∃ G : Nat → Int, G = mixG P g zs ps pk := ⟨_, rfl⟩
  have HV : Hid (V = if fstErr F N = 0 then (sumP G N, 0) else (0, fstErr F N)) := by show _ = _; rw [hV, hF, hG, hN]; rfl
  have HFs : Hid (∀ s : Nat, F s = (mixF P g zs ps pk s).2) := fun s => by rw [hF]; rfl
  have HGs : Hid (∀ s : Nat, G s = sgn (oddN ps s ps.length) (mixF P g zs ps pk s).1) := fun s => by rw [hG]; rfl
  have hshl : wrap64 (2 ^ ps.length) = (N : Int) := by
    rw [hN]
    rcases (show ps.length = 0 ∨ ps.length = 1 ∨ ps.length = 2 ∨ ps.length = 3 ∨ ps.length = 4 by omega) with h | h | h | h | h <;> rw [h] <;> simp [wrap64]
  have hl4 : decide ((4 : Int) < (ps.length : Int)) = false := by simp; omega
  have HQ := Lib.hid hQ
  have HPI := Lib.hid hps
  have HNN := Lib.hid hN
  have HSHL := Lib.hid hshl
  clear hshl
  clear hV hF hG hP hin hps hQ hN hgp
  go_enter Try.func21, Try.ntmps21
  go_wp2_with fail
  refine (hC.out _ (by go_grown)).mono ?_; rintro e w1 ⟨rfl, hb1⟩
  obtain ⟨q1, q2⟩ := prBox (C := [Value.slice (some ⟨bP, oP, none⟩) P.length pcap]) hb1
  have Q2 := Lib.hid q2
  have a0 : w1.cell? ⟨w.heap.size, 0, none⟩ = some (.slice (some ⟨bP, oP, none⟩) P.length pcap) := by rw [q1.cell]; rfl
  have A0 := Lib.hid a0
  have g1 := HF.out w1 q2
  clear hb1 q1 q2 hA hC
  go_wp2
  go_loopw [41] (fun i wr => ∃ k : Nat, k ≤ ps.length ∧ i = .int .i64 (k : Int) ∧ w1 = wr) (fun i _ => ps.length - (intOf i).toNat)
  case atStart => exact ⟨0, by omega, by go_num, by trivial⟩
  case round =>
    obtain ⟨k, hk, rfl, rfl⟩ := hrel
    by_cases hlt : k < ps.length
    · have hkI : (k : Int) < (ps.length : Int) := by omega
      obtain ⟨bq, oq, rfl, hql, gq⟩ := ints_cf (HQ.out.below Q2.out) hlt
      have hpm2 := HPS.out (cf ps k) (by rw [show cf ps k = ps[k] by simp [cf, List.getD, hlt]]; exact List.getElem_mem hlt)
      have HIN : Hid (inR (cf ps k) 0 ((zs.length : Int) - 1) = true) := inR_true.2 (by omega)
      generalize cf ps k = x at *
      go_wp2_with fail
      refine (within_any _ _ _ _).mono ?_; rintro e w' ⟨rfl, rfl⟩
      rw [HIN.out]
      go_wp2
      go_roundw
      case rel => exact ⟨k + 1, by omega, by go_num, by trivial⟩
      case measure => simp [intOf]; omega
    · obtain rfl : k = ps.length := by omega
      obtain ⟨wo, rfl⟩ : ∃ wo : World, wo = w1 := ⟨_, rfl⟩
      go_wp2
      rw [HSHL.out]
      go_loopw [15, 60] (fun o i wr => ∃ s : Nat, s ≤ N ∧ i = .int .i64 (s : Int) ∧ o = .int .i64 (sumP G s) ∧ Hid (Below wo.heap.size wo wr) ∧ Hid (fstErr F s = 0)) (fun _ i _ => N - (intOf i).toNat)
      case atStart => exact ⟨0, by omega, by go_num, rfl, Below.refl _ _, rfl⟩
      case round =>
        obtain ⟨s, hs, rfl, rfl, HB, HE⟩ := hrel
        by_cases hlt : s < N
        · have hltI : (s : Int) < (N : Int) := by omega
          have hs16 : s < 16 := by omega
          obtain ⟨wk, rfl⟩ : ∃ wk : World, wk = wr := ⟨_, rfl⟩
          go_wp2
          go_loopw [18, 66] (fun o i wr => ∃ (j : Nat) (Av : Option Addr) (cp : Nat), j ≤ ps.length ∧ i = .int .i64 (j : Int) ∧ o = .slice Av (chs ps s j).length cp ∧ Hid (IntRow wr wk.heap.size (.slice Av (chs ps s j).length cp) (chs ps s j)) ∧ Hid (Below wk.heap.size wk wr)) (fun _ i _ => ps.length - (intOf i).toNat)
          case atStart => exact ⟨0, _, _, by omega, by go_num, rfl, rowStart wk (fun _ => 0), by show Below _ _ _; go_grown⟩
          case round =>
            obtain ⟨j, Av, cp, hj, rfl, rfl, HR, HBk⟩ := hrel
            by_cases hjl : j < ps.length
            · have hjI : (j : Int) < (ps.length : Int) := by omega
              have HBj : Hid (Below w.heap.size w wr) := bnext (bnext Q2.out HB.out) HBk.out
              obtain ⟨bq, oq, rfl, hql, gq⟩ := ints_cf (HQ.out.below HBj.out) hjl
              have hb0 := bit_all s hs16 j (by omega)
              have hcl := chs_len ps s j
              cases hbit : bitB s j
              · rw [hbit] at hb0
                have HN : Hid (chs ps s (j + 1) = chs ps s j) := chs_no hbit
                clear hbit
                go_wp2
                go_roundw
                case rel => exact ⟨j + 1, Av, cp, by omega, by go_num, by rw [HN.out], by rw [HN.out]; exact HR.out, HBk.out⟩
                case measure => simp [intOf]; omega
              · rw [hbit] at hb0
                have HN : Hid (chs ps s (j + 1) = chs ps s j ++ [cf ps j]) := chs_yes hbit
                clear hbit
                have HBl : Hid (wk.heap.size ≤ wr.heap.size) := HBk.out.size
                generalize cf ps j = x at *
                go_wp2_with (at_builtin; refine wpList_append_own _ rfl _ _ 25 rfl wk.heap.size 2 i0 (.int .i64 0) 1 8 Try.underlying25 hi hz0 hz1 hz2 rfl (by decide) _ (chs ps s j).length _ rfl (World.ownsRow.alloc HR.out _) ⟨wr.heap.size, 0, none⟩ 1 1 [.int .i64 x] rfl rfl ?c1 ?c2 ?c3 ?c4 ?c5 ?_)
                try (case c1 => exact cell_one_new _ _ _)
                try (case c2 => first | rfl | (intro u hu; simp at hu; subst hu; rfl))
                case c3 => unfold maxLen; omega
                case c4 => omega
                case c5 => have := HBl.out; simp; try omega
                intro v2 w2 hown hg _
                obtain ⟨⟨A2, c2, rfl⟩, hr2, hb2⟩ := rowSnoc HR.out rfl HBk.out (by go_grown) hown hg
                have HR2 := Lib.hid hr2
                have HB2 := Lib.hid hb2
                clear hr2 hb2 hown hg HR gq hcl
                go_wp2
                go_roundw
                case rel => exact ⟨j + 1, A2, c2, by omega, by go_num, by rw [HN.out]; simp, by rw [HN.out, show (chs ps s j ++ [x]).length = (chs ps s j).length + 1 by simp]; exact HR2.out, HB2.out⟩
                case measure => simp [intOf]; omega
            · obtain rfl : j = ps.length := by omega
              have HBw : Hid (Below wo.heap.size wo wr) := bnext HB.out HBk.out
              have QW : Hid (Below w.heap.size w wr) := bnext Q2.out HBw.out
              have AW := Lib.hid (keepC A0.out HBw.out)
              have aw := AW.out
              have alw : w.heap.size < wr.heap.size := World.block_lt_of_cell? _ _ aw
              have HI : Hid (Ints wr Av (chs ps s ps.length)) := HR.out.intsM.ints
              have HUs : Hid (∀ wx, Below wr.heap.size wr wx → Calls Try.prog 50 #[.int .i64 zs.length, .slice Av (chs ps s ps.length).length cp] wx fun e w' => ∃ gu, e = .returned (.slice (some ⟨gu, 0, none⟩) zs.length zs.length) ∧ Ints w' (some ⟨gu, 0, none⟩) (unitL zs.length (chs ps s ps.length)) ∧ Below wx.heap.size wx w') := fun wx hx => HU.out wx Av cp s (HI.out.below hx)
              have HTs : Hid (∀ wx gu, Below w.heap.size w wx → Ints wx (some ⟨gu, 0, none⟩) (unitL zs.length (chs ps s ps.length)) → Calls Try.prog 47 #[prV (some ⟨bP, oP, none⟩) P.length pcap, .int .i64 m, .int .i64 pk, .slice A zs.length cap, .slice (some ⟨gu, 0, none⟩) zs.length zs.length, .int .i64 ps.length] wx fun e w' => Below wx.heap.size wx w' ∧ e = .returned (.tuple #[.int .i64 (mixF P g zs ps pk s).1, .int .i64 (mixF P g zs ps pk s).2]) ∧ 0 ≤ (mixF P g zs ps pk s).1 ∧ (mixF P g zs ps pk s).1 ≤ 1000002) := fun wx gu hx hI => HT.out wx gu s hx hI
              have HGS := Lib.hid (HGs.out s)
              have HFS := Lib.hid (HFs.out s)
              generalize (mixF P g zs ps pk s).1 = x at *
              generalize (mixF P g zs ps pk s).2 = c at *
              have hcl := chs_len ps s ps.length
              have hcl4 : (chs ps s ps.length).length ≤ 4 := by omega
              obtain ⟨cl, hcl'⟩ : ∃ cl, cl = (chs ps s ps.length).length := ⟨_, rfl⟩
              have HOD : Hid (oddN ps s ps.length = decide (((ps.length : Int) - (cl : Int)) % 2 = 1)) := by
                show _ = _
                unfold oddN
                rw [hcl', Bool.eq_iff_iff]
                simp
                omega
              rw [← hcl'] at hcl hcl4 HUs
              rw [← hcl']
              clear hcl' HR HI
              have hw1' : IntKind.i64.wrap ((ps.length : Int) - (cl : Int)) = (ps.length : Int) - (cl : Int) := IntWalk.i64_in _ (by omega)
              go_wp2_with fail
              go_region_held3 (fun wx => wx.cell? ⟨w.heap.size, 0, none⟩ = some (.slice (some ⟨bP, oP, none⟩) P.length pcap))
                (first | exact AW.out | go_keep | exact keepC AW.out hb2 | exact keepC AW.out (hb2.trans (hb3.mono hb2.size)))
                (first
                  | (go_at_call 47; have _tk := hI2; (with_reducible refine (HTs.out _ _ (QW.out.trans (hb2.mono QW.out.size)) hI2).mono ?_); rintro e w3 ⟨hb3, rfl, x0, x1⟩)
                  | (go_at_call 50; refine (HUs.out _ (by first | exact Below.refl _ _ | exact (Below.refl _ _).drew | exact below_drewN' (Below.refl _ _) _)).mono ?_; rintro e w2 ⟨gu, rfl, hI2, hb2'⟩; have hb2 : Below wr.heap.size wr w2 := bnextG hb2' (by first | exact Below.refl _ _ | exact (Below.refl _ _).drew | exact below_drewN' (Below.refl _ _) _)))
              have HB3 : Hid (Below wo.heap.size wo w3) := HBw.out.trans ((hb2.trans (hb3.mono hb2.size)).mono HBw.out.size)
              clear hb2' hb2 hb3 hI2 aw
              by_cases hc : c = 0
              · subst hc
                have hfs : F s = 0 := HFS.out
                have HE2 := Lib.hid (fstErr_next HE.out hfs)
                obtain ⟨d, hd⟩ : ∃ d : Int, d = ((ps.length : Int) - (cl : Int)) % 2 := ⟨_, rfl⟩
                have htm : ((ps.length : Int) - (cl : Int)).tmod 2 = d := by rw [hd]; exact Int.tmod_eq_emod_of_nonneg (by omega)
                have hdw : IntKind.i64.wrap d = d := IntWalk.i64_in _ (by omega)
                rw [← hd] at HOD
                have HS : Hid (sumP G (s + 1) = pl (sumP G s) (G s)) := rfl
                generalize sumP G s = y at *
                rcases (show d = 0 ∨ d = 1 by omega) with rfl | rfl
                · have HZ : Hid (pl y x = sumP G (s + 1)) := by show _ = _; rw [HS.out, HGS.out, HOD.out]; rfl
                  clear hd hfs
                  go_wp2_with fail
                  refine (plus_any _ _ _).mono ?_; rintro e w' ⟨rfl, rfl⟩
                  generalize pl y x = z at *
                  go_wp2
                  go_roundw
                  case rel => exact ⟨s + 1, by omega, by go_num, by rw [HZ.out], HB3.out, HE2.out⟩
                  case measure => simp [intOf]; omega
                · have HZ : Hid (pl y (rs (0 - x)) = sumP G (s + 1)) := by show _ = _; rw [HS.out, HGS.out, HOD.out, Int.zero_sub]; rfl
                  clear hd hfs
                  go_wp2_with fail
                  refine (minus_any _ _ _).mono ?_; rintro e w' ⟨rfl, rfl⟩
                  generalize rs (0 - x) = x' at *
                  go_wp2_with fail
                  refine (plus_any _ _ _).mono ?_; rintro e w' ⟨rfl, rfl⟩
                  generalize pl y x' = z at *
                  go_wp2
                  go_roundw
                  case rel => exact ⟨s + 1, by omega, by go_num, by rw [HZ.out], HB3.out, HE2.out⟩
                  case measure => simp [intOf]; omega
              · have hc1 : (c == 0) = false := by simpa using hc
                go_wp2
                go_ret2
                have hfs : F s = c := HFS.out
                have h2 := fstErr_at HE.out (by rw [hfs]; exact hc) N hlt
                have hv := HV.out
                rw [h2, hfs, if_neg hc] at hv
                rw [hv]
                exact ⟨Q2.out.trans (HB3.out.mono Q2.out.size), rfl⟩
        · obtain rfl : s = N := by omega
          go_wp2
          go_ret2
          have hv := HV.out
          rw [if_pos HE.out] at hv
          rw [hv]
          exact ⟨Q2.out.trans (HB.out.mono Q2.out.size), rfl⟩

end Go.Proofs.Ytlnikpjcggfdmaa

/- Walks: MixedDerivative of the program and of the spec, whole. -/
namespace Go.Proofs.Ytlnikpjcggfdmaa
open Go.RowKit Plain

theorem prsIn_get {n : Nat} {ps : List Int} (h : ∀ i, i < ps.length → inR (cf ps i) 0 ((n : Int) - 1) = true) : prsIn n ps = true := by
  unfold prsIn
  rw [List.all_eq_true]
  intro p hp
  obtain ⟨i, hi, rfl⟩ := List.getElem_of_mem hp
  have := h i hi
  rwa [show cf ps i = ps[i] by simp [cf, List.getD, hi]] at this
theorem mixV_long {P : List Fn} {f pick : Int} {zs ps : List Int} (hv : pickV P f pick zs zs = 0) (h : ¬ ps.length ≤ 4) : mixV P f pick zs ps = (0, 2) := by
  unfold mixV
  rw [if_pos hv, if_neg (fun hh => h hh.1)]
theorem mixV_bad {P : List Fn} {f pick : Int} {zs ps : List Int} (hv : pickV P f pick zs zs = 0) (h : prsIn zs.length ps = false) : mixV P f pick zs ps = (0, 2) := by
  unfold mixV
  rw [if_pos hv, if_neg (fun hh => by rw [h] at hh; exact absurd hh.2 (by decide))]

set_option maxRecDepth 100000 in
set_option maxHeartbeats 2000000 in
theorem mixI_bad (P : List Fn) (m pk : Nat) (g : Fn) (zs ps : List Int) (PA : Option Addr) (pcap : Nat) (A Q : Option Addr) (cap qcap : Nat) (w : World) (hP : ProgIn w P PA pcap) (hin : ArgIn P m g zs) (hQ : Ints w Q ps) (hps : prsIn zs.length ps = false) (hl : ps.length ≤ 4)
    (hC : Hid (∀ wx, Below w.heap.size w wx → Calls Try.prog 45 #[prV PA P.length pcap, .int .i64 m, .int .i64 pk, .slice A zs.length cap, .slice A zs.length cap] wx fun e w' => e = .returned (.int .i64 0) ∧ Below wx.heap.size wx w')) :
    Calls Try.prog 21 #[prV PA P.length pcap, .int .i64 m, .int .i64 pk, .slice A zs.length cap, .slice Q ps.length qcap] w (Retii 0 2 w) := by
  have hz12 : zs.length ≤ 12 := by have h1 := hin.len; have h2 := hin.fn.p12; omega
  have hpm : pcap ≤ 9223372036854775807 := by have := hP.pm; unfold maxLen at this; omega
  have HP := Lib.hid hP
  have hml : m < P.length := (List.getElem?_eq_some_iff.1 hin.fn.fn).1
  have hml2 : (m : Int) < (P.length : Int) := by omega
  obtain ⟨bP, oP, rfl, hbP, _⟩ := hP.fns.get hin.fn.fn
  have hgp : g.params = (zs.length : Int) := hin.len.symm
  have HFN := Lib.hid hin.fn.fn
  have HF : Hid (∀ wx, Below w.heap.size w wx → wx.cell? ⟨bP, oP + m * 3 + 1, none⟩ = some (.int .i64 (zs.length : Int))) := fun wx hx => by
    obtain ⟨bP', oP', e', _, _, g1, _⟩ := (HP.out.fns.below hx).get HFN.out
    obtain ⟨rfl, rfl⟩ : bP = bP' ∧ oP = oP' := by simpa using e'
    rw [hgp] at g1
    exact g1
  have hl4 : decide ((4 : Int) < (ps.length : Int)) = false := by simp; omega
  have HQ := Lib.hid hQ
  have HPI := Lib.hid hps
  clear hP hin hps hQ hgp
  go_enter Try.func21, Try.ntmps21
  go_wp2_with fail
  refine (hC.out _ (by go_grown)).mono ?_; rintro e w1 ⟨rfl, hb1⟩
  obtain ⟨q1, q2⟩ := prBox (C := [Value.slice (some ⟨bP, oP, none⟩) P.length pcap]) hb1
  have Q2 := Lib.hid q2
  have a0 : w1.cell? ⟨w.heap.size, 0, none⟩ = some (.slice (some ⟨bP, oP, none⟩) P.length pcap) := by rw [q1.cell]; rfl
  have g1 := HF.out w1 q2
  clear hb1 q1 q2 hC
  go_wp2
  go_loopw [41] (fun i wr => ∃ k : Nat, k ≤ ps.length ∧ i = .int .i64 (k : Int) ∧ Hid (∀ i, i < k → inR (cf ps i) 0 ((zs.length : Int) - 1) = true) ∧ w1 = wr) (fun i _ => ps.length - (intOf i).toNat)
  case atStart => exact ⟨0, by omega, by go_num, fun i hi => by omega, by trivial⟩
  case round =>
    obtain ⟨k, hk, rfl, HK, rfl⟩ := hrel
    by_cases hlt : k < ps.length
    · have hkI : (k : Int) < (ps.length : Int) := by omega
      obtain ⟨bq, oq, rfl, hql, gq⟩ := ints_cf (HQ.out.below Q2.out) hlt
      cases hin1 : inR (cf ps k) 0 ((zs.length : Int) - 1)
      · have HIN := Lib.hid hin1
        clear hin1
        generalize cf ps k = x at *
        go_wp2_with fail
        refine (within_any _ _ _ _).mono ?_; rintro e w' ⟨rfl, rfl⟩
        rw [HIN.out]
        go_wp2
        go_ret2
        exact ⟨Q2.out, rfl⟩
      · have HIN := Lib.hid hin1
        have HK2 : Hid (∀ i, i < k + 1 → inR (cf ps i) 0 ((zs.length : Int) - 1) = true) := fun i hi => by
          by_cases h : i < k
          · exact HK.out i h
          · obtain rfl : i = k := by omega
            exact hin1
        clear hin1
        generalize cf ps k = x at *
        go_wp2_with fail
        refine (within_any _ _ _ _).mono ?_; rintro e w' ⟨rfl, rfl⟩
        rw [HIN.out]
        go_wp2
        go_roundw
        case rel => exact ⟨k + 1, by omega, by go_num, HK2.out, by trivial⟩
        case measure => simp [intOf]; omega
    · obtain rfl : k = ps.length := by omega
      have := prsIn_get HK.out
      rw [HPI.out] at this
      cases this

set_option maxRecDepth 100000 in
set_option maxHeartbeats 1000000 in
theorem mixI (P : List Fn) (f pick : Int) (zs ps : List Int) {PA : Option Addr} {pcap : Nat} {A Q : Option Addr} {cap qcap : Nat} (w : World) (hP : ProgIn w P PA pcap) (hA : Ints w A zs) (hl : zs.length ≤ 1048576) (hQ : Ints w Q ps) (hql : ps.length ≤ 1048576) :
    Calls Try.prog 21 #[prV PA P.length pcap, .int .i64 f, .int .i64 pick, .slice A zs.length cap, .slice Q ps.length qcap] w (Retii (mixV P f pick zs ps).1 (mixV P f pick zs ps).2 w) := by
  have hg0 : Below w.heap.size w (w.alloc (.cells #[.slice PA P.length pcap] 31)) := by go_grown
  have HC := Lib.hid (isPicked_any P f pick zs zs (cap := cap) (dcap := cap) _ (hP.below hg0) (hA.below hg0) hl (hA.below hg0) hl)
  by_cases hv : pickV P f pick zs zs = 0
  · by_cases h4 : ps.length ≤ 4
    · have hpi := (pickV_zero hv).2
      obtain ⟨_, m, g, rfl, hin⟩ := argV_zero (lineV_zero (pickV_zero hv).1).1
      obtain ⟨pk, rfl⟩ := Int.eq_ofNat_of_zero_le (inR_true.1 hpi).1
      have hpk : pk < g.outs.len := by
        have h := (inR_true.1 hpi).2
        unfold outsN at h
        simp [hin.fn.fn] at h
        omega
      have hC : Hid (∀ wx, Below w.heap.size w wx → Calls Try.prog 45 #[prV PA P.length pcap, .int .i64 m, .int .i64 pk, .slice A zs.length cap, .slice A zs.length cap] wx fun e w' => e = .returned (.int .i64 0) ∧ Below wx.heap.size wx w') := fun wx hx => by
        have h := isPicked_any P m pk zs zs (cap := cap) (dcap := cap) wx (hP.below hx) (hA.below hx) hl (hA.below hx) hl
        rw [hv] at h
        exact h
      cases hps : prsIn zs.length ps
      · rw [mixV_bad hv hps]
        exact mixI_bad P m pk g zs ps PA pcap A Q cap qcap w hP hin hQ hps h4 hC
      · refine mixI_run P m pk g zs ps PA pcap A Q cap qcap w hP hin hA hQ hps h4 hpk _ ?_ hC
        unfold mixV
        rw [if_pos hv, if_pos ⟨h4, hps⟩]
        simp only [Int.toNat_natCast, hin.fn.fn]
    · rw [mixV_long hv h4]
      rw [hv] at HC
      have h4I : decide ((4 : Int) < (ps.length : Int)) = true := by simp; omega
      clear hv hP hA hg0 hQ
      go_enter Try.func21, Try.ntmps21
      go_wp2_with fail
      refine HC.out.mono ?_; rintro e w1 ⟨rfl, hb1⟩
      have Q2 := Lib.hid (prBox (C := [Value.slice PA P.length pcap]) hb1).2
      clear hb1
      go_wp2
      go_ret2
      exact ⟨Q2.out, rfl⟩
  · have HV : Hid (mixV P f pick zs ps = (0, pickV P f pick zs zs)) := by show _ = _; unfold mixV; rw [if_neg hv]
    rw [HV.out]
    generalize pickV P f pick zs zs = V at *
    have hv1 : (V == 0) = false := by simpa using hv
    clear hP hA hg0 hQ
    go_enter Try.func21, Try.ntmps21
    go_wp2_with fail
    refine HC.out.mono ?_; rintro e w1 ⟨rfl, hb1⟩
    have Q2 := Lib.hid (prBox (C := [Value.slice PA P.length pcap]) hb1).2
    clear hb1
    go_wp2
    go_ret2
    exact ⟨Q2.out, rfl⟩

set_option maxRecDepth 100000 in
set_option maxHeartbeats 2000000 in
theorem mixS (P : List Fn) (f pick : Int) (zs ps : List Int) {PA : Option Addr} {pcap : Nat} {A Q : Option Addr} {cap qcap : Nat} (w : World) (hP : ProgIn w P PA pcap) (hA : Ints w A zs) (hl : zs.length ≤ 1048576) (hQ : Ints w Q ps) (hql : ps.length ≤ 1048576) :
    Calls Try.prog 20 #[prV PA P.length pcap, .int .i64 f, .int .i64 pick, .slice A zs.length cap, .slice Q ps.length qcap] w (Retii (mixV P f pick zs ps).1 (mixV P f pick zs ps).2 w) := by
  obtain ⟨hPr, hg⟩ := prBoxAt hP 31
  have HC := Lib.hid (pickedS_any P f pick A A cap cap zs zs w.heap.size 0 (w.heap.size + 1) _ hPr (by simp) hP.sz (hA.below hg) (by omega) (hA.below hg) (by omega))
  have HG := Lib.hid hg
  by_cases hv : pickV P f pick zs zs = 0
  · rw [hv] at HC
    by_cases h4 : ps.length ≤ 4
    · have hpi := (pickV_zero hv).2
      obtain ⟨_, m, g, rfl, hin⟩ := argV_zero (lineV_zero (pickV_zero hv).1).1
      obtain ⟨pk, rfl⟩ := Int.eq_ofNat_of_zero_le (inR_true.1 hpi).1
      have hpk : pk < g.outs.len := by
        have h := (inR_true.1 hpi).2
        unfold outsN at h
        simp [hin.fn.fn] at h
        omega
      have hz12 : zs.length ≤ 12 := by have h1 := hin.len; have h2 := hin.fn.p12; omega
      have hl4 : decide ((4 : Int) < (ps.length : Int)) = false := by simp; omega
      have HM : Hid (∀ wx, prsIn zs.length ps = true → Below (w.heap.size + 1) (w.alloc (.cells #[.slice PA P.length pcap] 31)) wx → Calls Try.prog 49 #[ptr w.heap.size 0, .int .i64 m, .int .i64 pk, .slice A zs.length cap, .slice Q ps.length qcap] wx fun e w' => e = .returned (.tuple #[.int .i64 (mixV P m pk zs ps).1, .int .i64 (mixV P m pk zs ps).2]) ∧ Below wx.heap.size wx w') := fun wx hps hx =>
        mixedS P m g pk zs ps A Q cap qcap w.heap.size 0 (w.heap.size + 1) wx (hPr.below hx) (by have := hx.size; simp at this; omega) hin ((hA.below hg).below (by simpa using hx)) ((hQ.below hg).below (by simpa using hx)) hps h4 hpk _ (by
          unfold mixV
          rw [if_pos hv, if_pos ⟨h4, hps⟩]
          simp only [Int.toNat_natCast, hin.fn.fn])
      have HQ := Lib.hid (hQ.below hg)
      have HBAD : Hid (prsIn zs.length ps = false → mixV P m pk zs ps = (0, 2)) := mixV_bad hv
      clear hv hPr hP hA hg hQ hin hpi hpk
      generalize mixV P m pk zs ps = V at *
      go_enter Try.func20, Try.ntmps20
      go_wp2_with fail
      refine HC.out.mono ?_; rintro e w1 ⟨rfl, hb1⟩
      have HB := Lib.hid hb1
      clear hb1
      go_wp2
      go_loopw [12, 13] (fun c i wr => ∃ k : Nat, k ≤ ps.length ∧ i = .int .i64 (k : Int) ∧ (c = .int .i64 0 ∨ c = .int .i64 2) ∧ Hid ((c = .int .i64 0 → ∀ i, i < k → inR (cf ps i) 0 ((zs.length : Int) - 1) = true) ∧ (c = .int .i64 2 → prsIn zs.length ps = false)) ∧ w1 = wr) (fun _ i _ => ps.length - (intOf i).toNat)
      case atStart => exact ⟨0, by omega, by go_num, .inl rfl, ⟨fun _ i hi => by omega, fun h => by cases h⟩, by trivial⟩
      case round =>
        obtain ⟨k, hk, rfl, hc, HK, rfl⟩ := hrel
        rcases hc with rfl | rfl
        · by_cases hlt : k < ps.length
          · have hkI : (k : Int) < (ps.length : Int) := by omega
            obtain ⟨bq, oq, rfl, hql, gq⟩ := ints_cf (HQ.out.below (by simpa using HB.out)) hlt
            cases hin1 : inR (cf ps k) 0 ((zs.length : Int) - 1)
            · have HIN := Lib.hid hin1
              have HPF : Hid (prsIn zs.length ps = false) := by
                cases hp : prsIn zs.length ps
                · rfl
                · have := List.all_eq_true.1 hp ps[k] (List.getElem_mem hlt)
                  rw [show cf ps k = ps[k] by simp [cf, List.getD, hlt]] at hin1
                  rw [hin1] at this
                  cases this
              clear hin1
              generalize cf ps k = x at *
              go_wp2_with fail
              refine (in_any _ _ _ _).mono ?_; rintro e w' ⟨rfl, rfl⟩
              rw [HIN.out]
              go_wp2
              go_roundw
              case rel => exact ⟨k + 1, by omega, by go_num, .inr rfl, ⟨fun h => (by cases h), fun _ => HPF.out⟩, by trivial⟩
              case measure => simp [intOf]; omega
            · have HIN := Lib.hid hin1
              have HK2 : Hid (∀ i, i < k + 1 → inR (cf ps i) 0 ((zs.length : Int) - 1) = true) := fun i hi => by
                by_cases h : i < k
                · exact HK.out.1 rfl i h
                · obtain rfl : i = k := by omega
                  exact hin1
              clear hin1
              generalize cf ps k = x at *
              go_wp2_with fail
              refine (in_any _ _ _ _).mono ?_; rintro e w' ⟨rfl, rfl⟩
              rw [HIN.out]
              go_wp2
              go_roundw
              case rel => exact ⟨k + 1, by omega, by go_num, .inl rfl, ⟨fun _ => HK2.out, fun h => (by cases h)⟩, by trivial⟩
              case measure => simp [intOf]; omega
          · obtain rfl : k = ps.length := by omega
            have HPT : Hid (prsIn zs.length ps = true) := prsIn_get (HK.out.1 rfl)
            go_wp2_with fail
            refine (HM.out _ HPT.out (by simpa using HB.out)).mono ?_; rintro e w2 ⟨rfl, hb2⟩
            have HB2 := Lib.hid (bnext (HG.out.trans (HB.out.mono HG.out.size)) hb2)
            clear hb2
            go_wp2
            go_ret2
            exact ⟨HB2.out, rfl⟩
        · have HPF : Hid (prsIn zs.length ps = false) := HK.out.2 rfl
          by_cases hlt : (k : Int) < (ps.length : Int)
          all_goals go_wp2
          all_goals go_ret2
          all_goals (rw [HBAD.out HPF.out]; exact ⟨HG.out.trans (HB.out.mono HG.out.size), rfl⟩)
    · rw [mixV_long hv h4]
      have h4I : decide ((4 : Int) < (ps.length : Int)) = true := by simp; omega
      have h0I : (0 : Int) < (ps.length : Int) := by omega
      clear hv hPr hP hA hg hQ
      go_enter Try.func20, Try.ntmps20
      go_wp2_with fail
      refine HC.out.mono ?_; rintro e w1 ⟨rfl, hb1⟩
      have HB := Lib.hid hb1
      clear hb1
      go_wp2
      go_loopw [12, 13] (fun c i wr => i = .int .i64 0 ∧ c = .int .i64 2 ∧ w1 = wr) (fun _ _ _ => 0)
      case atStart => exact ⟨rfl, rfl, by trivial⟩
      case round =>
        obtain ⟨rfl, rfl, rfl⟩ := hrel
        go_wp2
        go_ret2
        exact ⟨HG.out.trans (HB.out.mono HG.out.size), rfl⟩
  · have HV : Hid (mixV P f pick zs ps = (0, pickV P f pick zs zs)) := by show _ = _; unfold mixV; rw [if_neg hv]
    rw [HV.out]
    generalize pickV P f pick zs zs = V at *
    have hv1 : (V == 0) = false := by simpa using hv
    clear hPr hP hA hg hQ
    go_enter Try.func20, Try.ntmps20
    go_wp2_with fail
    refine HC.out.mono ?_; rintro e w1 ⟨rfl, hb1⟩
    have HB := Lib.hid (HG.out.trans (hb1.mono HG.out.size))
    clear hb1
    go_wp2
    go_loopw [12, 13] (fun c i wr => i = .int .i64 0 ∧ c = .int .i64 V ∧ w1 = wr) (fun _ _ _ => 0)
    case atStart => exact ⟨rfl, rfl, by trivial⟩
    case round =>
      obtain ⟨rfl, rfl, rfl⟩ := hrel
      by_cases hlt : (0 : Int) < (ps.length : Int)
      all_goals go_wp2
      all_goals go_ret2
      all_goals exact ⟨HB.out, rfl⟩

end Go.Proofs.Ytlnikpjcggfdmaa
