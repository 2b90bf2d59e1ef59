/- Texts put together: WHes, WHesI, WHes2, WHesT. -/
import Derived.Test.YtlnikpjcggfdmaaGreatKU
import Derived.Test.YtlnikpjcggfdmaaGreatKT
import Derived.Test.YtlnikpjcggfdmaaGreatKB

/- Walks: the matrix of second derivatives in the spec. -/
namespace Go.Proofs.YtlnikpjcggfdmaaGreat
open Go.RowKit Plain

/-- what a matrix of second derivatives comes to -/
def HesPost (P : List Fn) (g : Fn) (zs : List Int) (pk : Nat) (w : World) (e : Ending) (w' : World) : Prop :=
  Below w.heap.size w w' ∧ match evalR 1 P g.outs (ones zs) with
    | .err c => ∃ A cp, e = .returned (.tuple #[.slice A 0 cp, .int .i64 c])
    | .ok _ _ => ∃ A cp, e = .returned (.tuple #[.slice A zs.length cp, .int .i64 0]) ∧ NewRows w' w.heap.size zs.length (.slice A zs.length cp) (hesRows P g zs pk)
theorem hesRows_take {P : List Fn} {g : Fn} {zs : List Int} {pk j : Nat} (h : j ≤ zs.length) : (hesRows P g zs pk).take j = (List.range j).map (hesRow P g zs pk) := by
  unfold hesRows
  rw [← List.map_take, List.take_range, Nat.min_eq_left h]
theorem hesRange_succ {P : List Fn} {g : Fn} {zs : List Int} {pk j : Nat} : (List.range (j + 1)).map (hesRow P g zs pk) = (List.range j).map (hesRow P g zs pk) ++ [hesRow P g zs pk j] := by
  rw [List.range_succ, List.map_append]; rfl

set_option maxRecDepth 100000 in
set_option maxHeartbeats 4000000 in
theorem hessianS (P : List Fn) (m : Nat) (g : Fn) (pk : Nat) (A : Option Addr) (cap : Nat) (zs : List Int) (bp op B : Nat) (w : World) (hP : PrAt w B P bp op) (hB : B ≤ w.heap.size) (hin : ArgIn P m g zs) (hA : Ints w A zs) (hpk : pk < g.outs.len) :
    Calls Tryz.prog 42 #[ptr bp op, .int .i64 m, .int .i64 pk, .slice A zs.length cap] w (HesPost P g zs pk w) := by
  obtain ⟨i0, hi, hz0, hz1, hz2⟩ := info_parts Tryz.infoI
  obtain ⟨i1, hi1, hy0, hy1, hy2⟩ := info_parts Tryz.infoIS
  have hz12 := hin.z12
  have HEV := Lib.hid (evalS_any P m g A cap zs bp op B w hP hB hin.ok hin.fn hA hin.isS hin.len)
  have hERR : ∀ c, evalR 1 P g.outs (ones zs) = .err c → c ≠ 0 := fun c h => evalR_err h
  have HMX : Hid (∀ wx (j k : Nat) b vs t, evalR 1 P g.outs (ones zs) = .ok vs t → j < zs.length → k < zs.length → Below w.heap.size w wx → wx.cell? ⟨b, 0, none⟩ = some (.int .i64 (j : Int)) → wx.cell? ⟨b, 1, none⟩ = some (.int .i64 (k : Int)) →
      Calls Tryz.prog 73 #[ptr bp op, .int .i64 m, .int .i64 pk, .slice A zs.length cap, .slice (some ⟨b, 0, none⟩) 2 2] wx fun e w' => e = .returned (.tuple #[.int .i64 (hesE P g zs pk j k), .int .i64 0]) ∧ Below wx.heap.size wx w') := fun wx j k b vs t hev hj hk hx c0 c1 => by
    have hI : Ints wx (some ⟨b, 0, none⟩) [(j : Int), (k : Int)] := fun _ => ⟨b, 0, rfl, World.block_lt_of_cell? _ _ c0, fun i x hx => by
      match i, hx with
      | 0, hx => simp at hx; subst hx; exact c0
      | 1, hx => simp at hx; subst hx; exact c1⟩
    have h := mixedS P m g pk zs [(j : Int), (k : Int)] A (some ⟨b, 0, none⟩) cap 2 bp op B wx (hP.below (hx.mono hB)) (Nat.le_trans hB hx.size) hin (hA.below hx) hI (by simp [prsIn, inR]; omega) (by simp) hpk _ rfl
    rw [mix_two hev] at h
    exact h
  obtain ⟨R, hR⟩ : ∃ R, R = evalR 1 P g.outs (ones zs) := ⟨_, rfl⟩
  rw [← hR] at hERR HEV HMX
  unfold HesPost
  rw [← hR]
  clear hP hin hA hR
  cases R with
  | err c =>
    have hc := hERR c rfl
    have hc1 : (c == 0) = false := by simpa using hc
    clear hERR HMX
    go_enter Tryz.func42, Tryz.ntmps42
    go_wp2_with fail
    refine HEV.out.mono ?_; rintro e w1 ⟨hb1, zs1, A1, cp1, s1, c1, rfl, _, rfl, rfl, rfl⟩
    have HB1 := Lib.hid hb1
    clear hb1 HEV
    obtain ⟨wo, rfl⟩ : ∃ wo : World, wo = w1 := ⟨_, rfl⟩
    go_wp2
    go_loopw [12, 14] (fun d i wr => i = .int .i64 0 ∧ d = .int .i64 c1 ∧ Hid (Below wo.heap.size wo wr)) (fun _ _ _ => 0)
    case atStart => exact ⟨rfl, rfl, by show Below _ _ _; go_grown⟩
    case round =>
      obtain ⟨rfl, rfl, HB⟩ := hrel
      by_cases hzl : (0 : Int) < (zs.length : Int)
      all_goals go_wp2
      all_goals go_ret2
      all_goals exact ⟨HB1.out.trans ((HB.out.trans ((show Below wr.heap.size wr (wr.alloc (.cells #[] 25)) by go_grown).mono HB.out.size)).mono HB1.out.size), _, _, rfl⟩
  | ok vs t =>
    have HM : Hid (∀ wx (j k : Nat) b, j < zs.length → k < zs.length → Below w.heap.size w wx → wx.cell? ⟨b, 0, none⟩ = some (.int .i64 (j : Int)) → wx.cell? ⟨b, 1, none⟩ = some (.int .i64 (k : Int)) →
      Calls Tryz.prog 73 #[ptr bp op, .int .i64 m, .int .i64 pk, .slice A zs.length cap, .slice (some ⟨b, 0, none⟩) 2 2] wx fun e w' => e = .returned (.tuple #[.int .i64 (hesE P g zs pk j k), .int .i64 0]) ∧ Below wx.heap.size wx w') := fun wx j k b => HMX.out wx j k b vs t rfl
    clear hERR HMX
    go_enter Tryz.func42, Tryz.ntmps42
    go_wp2_with fail
    refine HEV.out.mono ?_; rintro e w1 ⟨hb1, zs1, A1, cp1, s1, c1, rfl, _, rfl, rfl, rfl⟩
    have HB1 := Lib.hid hb1
    clear hb1 HEV
    rw [heads_length]
    obtain ⟨wo, rfl⟩ : ∃ wo : World, wo = w1 := ⟨_, rfl⟩
    go_wp2
    go_loopw [12, 13, 14] (fun d o i wr => ∃ (j : Nat) (Av : Option Addr) (cp : Nat), j ≤ zs.length ∧ i = .int .i64 (j : Int) ∧ d = .int .i64 0 ∧ o = .slice Av j cp ∧ Hid (NewRows wr wo.heap.size zs.length (.slice Av j cp) ((List.range j).map (hesRow P g zs pk))) ∧ Hid (Below wo.heap.size wo wr)) (fun _ _ i _ => zs.length - (intOf i).toNat)
    case atStart => exact ⟨0, _, _, by omega, by go_num, rfl, rfl, NewRows.start wo _, by show Below _ _ _; go_grown⟩
    case round =>
      obtain ⟨j, Av, cp, hj, rfl, rfl, rfl, HN, HB⟩ := hrel
      by_cases hlt : j < zs.length
      · have hjI : (j : Int) < (zs.length : Int) := by omega
        obtain ⟨H, hH⟩ : ∃ H : Nat → Int, H = hesE P g zs pk j := ⟨_, rfl⟩
        have HH := Lib.hid hH
        clear hH
        obtain ⟨wi, rfl⟩ : ∃ wi : World, wi = wr := ⟨_, rfl⟩
        go_wp2
        go_loopw [12, 15, 16] (fun d o i wr => ∃ (k : Nat) (Ar : Option Addr) (cr : Nat), k ≤ zs.length ∧ i = .int .i64 (k : Int) ∧ d = .int .i64 0 ∧ o = .slice Ar k cr ∧ Hid (IntRow wr wi.heap.size (.slice Ar k cr) (mk k H)) ∧ Hid (Below wi.heap.size wi wr)) (fun _ _ i _ => zs.length - (intOf i).toNat)
        case atStart => exact ⟨0, _, _, by omega, by go_num, rfl, rfl, rowStart wi H, by show Below _ _ _; go_grown⟩
        case round =>
          obtain ⟨k, Ar, cr, hk, rfl, rfl, rfl, HR, HBk⟩ := hrel
          by_cases hkl : k < zs.length
          · have hkI : (k : Int) < (zs.length : Int) := by omega
            have hW0 : Below wr.heap.size wr (wr.alloc (.cells #[.int .i64 (j : Int), .int .i64 (k : Int)] 2)) := by go_grown
            have HW0 := Lib.hid hW0
            have hcc : Cells (wr.alloc (.cells #[.int .i64 (j : Int), .int .i64 (k : Int)] 2)) wr.heap.size 2 [.int .i64 (j : Int), .int .i64 (k : Int)] := Cells.new wr _ _
            have HCL := Lib.hid (HM.out (wr.alloc (.cells #[.int .i64 (j : Int), .int .i64 (k : Int)] 2)) j k wr.heap.size hlt hkl (bnext (bnext (bnext HB1.out HB.out) HBk.out) hW0) (by rw [hcc.cell]; rfl) (by rw [hcc.cell]; rfl))
            have HX : Hid (hesE P g zs pk j k = H k) := by show _ = _; rw [HH.out]
            clear hW0 hcc
            generalize hesE P g zs pk j k = x at *
            go_wp2_with fail
            refine HCL.out.mono ?_; rintro e w5 ⟨rfl, hb5⟩
            have HB5 := Lib.hid (bnext HW0.out hb5)
            have HBi : Hid (Below wi.heap.size wi w5) := bnext HBk.out HB5.out
            have HR5 : Hid (IntRow w5 wi.heap.size (.slice Ar k cr) (mk k H)) := HR.out.keep fun g hg => HB5.out.block g (HR.out.lt hg).2
            clear hb5 HCL HW0 HR
            go_wp2_with (at_builtin; refine wpList_append_own _ rfl _ _ 25 rfl wi.heap.size 2 i0 (.int .i64 0) 1 8 Tryz.underlying25 hi hz0 hz1 hz2 rfl (by decide) _ k _ rfl ((HR5.out.ownN (mk_length _ _).symm).alloc _) ⟨w5.heap.size, 0, none⟩ 1 1 [.int .i64 x] rfl rfl ?c1 ?c2 ?c3 ?c4 ?c5 ?_)
            try (case c1 => exact cell_one_new _ _ _)
            try (case c2 => first | rfl | (intro u hu; simp at hu; subst hu; rfl))
            case c3 => unfold maxLen; omega
            case c4 => omega
            case c5 => have := HBi.out.size; simp; try omega
            intro v2 w2 hown hg _
            obtain ⟨⟨A2, c2, rfl⟩, hr2, hb2⟩ := rowNext HR5.out HBi.out (by go_grown) HX.out hown hg
            have HR2 := Lib.hid hr2
            have HB2 := Lib.hid hb2
            clear hr2 hb2 hown hg HR5 HX
            go_wp2
            go_roundw
            case rel => exact ⟨k + 1, A2, c2, by omega, by go_num, rfl, rfl, HR2.out, HB2.out⟩
            case measure => simp [intOf]; omega
          · obtain rfl : k = zs.length := by omega
            have HT : Hid (IntsT wr wi.heap.size Ar (hesRow P g zs pk j)) := by
              obtain ⟨A2, c2, he2, hT2, _⟩ := rowEnd HR.out HBk.out
              rw [mk_length] at he2
              obtain ⟨rfl, _⟩ : Ar = A2 ∧ cr = c2 := by simpa using he2
              have e : hesRow P g zs pk j = mk zs.length H := by rw [HH.out]; rfl
              show IntsT _ _ _ _
              rw [e]; exact hT2
            have hn1 : 1 ≤ zs.length := by omega
            have htl : ((List.range j).map (hesRow P g zs pk)).length = j := by simp
            have hrl : (hesRow P g zs pk j).length = zs.length := hesRow_length P g zs pk j
            obtain ⟨gr, cg, hv, _⟩ := World.ownsRow.form HR.out (by rw [mk_length]; omega)
            obtain rfl : Ar = some ⟨gr, 0, none⟩ := by
              simp only [Value.slice.injEq] at hv
              exact hv.1
            obtain ⟨vs', bs, hpa⟩ := HN.out.parts htl HBk.out
            have HPA := Lib.hid hpa
            have HTL := Lib.hid htl
            have HRL := Lib.hid hrl
            have HBo : Hid (Below wo.heap.size wo wr) := bnext HB.out HBk.out
            clear hpa htl hrl hv HR
            go_wp2_with (at_builtin; refine wpList_append_own _ rfl _ _ 27 rfl wo.heap.size 25 i1 (.slice none 0 0) 1 24 Tryz.underlying27 hi1 hy0 hy1 hy2 rfl (by decide) _ j _ rfl (HPA.out.1.alloc _) ⟨wr.heap.size, 0, none⟩ 1 1 [.slice (some ⟨gr, 0, none⟩) zs.length cr] rfl rfl ?e1 ?e2 ?e3 ?e4 ?e5 ?_)
            try (case e1 => exact cell_one_new _ _ _)
            try (case e2 => first | rfl | (intro u hu; simp at hu; subst hu; rfl))
            case e3 => unfold maxLen; omega
            case e4 => omega
            case e5 => have := HBo.out.size; simp; try omega
            intro v2 w2 hown hg _
            obtain ⟨⟨A2, c2, rfl⟩, p1, p2⟩ := HN.out.push HTL.out HBk.out HB.out.size HT.out HRL.out (isS_hesRow P g zs pk j) hn1 vs' bs HPA.out hown hg
            rw [← hesRange_succ] at p1
            have HN2 := Lib.hid p1
            have HB3 := Lib.hid (HB.out.trans p2)
            clear p1 p2 hown hg HN HPA HT
            go_wp2
            go_roundw
            case rel => exact ⟨j + 1, A2, c2, by omega, by go_num, rfl, rfl, HN2.out, HB3.out⟩
            case measure => simp [intOf]; omega
      · obtain rfl : j = zs.length := by omega
        go_wp2
        go_ret2
        have hn := HN.out
        rw [show (List.range zs.length).map (hesRow P g zs pk) = hesRows P g zs pk from rfl] at hn
        exact ⟨bnext HB1.out HB.out, Av, cp, rfl, hn.weaken HB1.out.size⟩

end Go.Proofs.YtlnikpjcggfdmaaGreat

/- Walks: the matrix of second derivatives in the program. -/
namespace Go.Proofs.YtlnikpjcggfdmaaGreat
open Go.RowKit Plain

theorem keep4 {w w' : World} {p1 p2 p3 p4 : Addr} {u1 u2 u3 u4 : Value} (h : w.cell? p1 = some u1 ∧ w.cell? p2 = some u2 ∧ w.cell? p3 = some u3 ∧ w.cell? p4 = some u4) (hb : Below w.heap.size w w') :
    w'.cell? p1 = some u1 ∧ w'.cell? p2 = some u2 ∧ w'.cell? p3 = some u3 ∧ w'.cell? p4 = some u4 :=
  ⟨keepC h.1 hb, keepC h.2.1 hb, keepC h.2.2.1 hb, keepC h.2.2.2 hb⟩

set_option maxRecDepth 100000 in
set_option maxHeartbeats 2000000 in
theorem hesAt (P : List Fn) (m : Nat) (g : Fn) (pk : Nat) (PA : Option Addr) (pcap : Nat) (A : Option Addr) (cap : Nat) (zs ps : List Int) (Q : Option Addr) (qcap b0 b1 b2 b3 : Nat) (w : World) (hP : ProgIn w P PA pcap) (hin : ArgIn P m g zs) (hA : Ints w A zs) (hpk : pk < g.outs.len)
    (hQ : Ints w Q ps) (hp : ∀ p ∈ ps, 0 ≤ p ∧ p < zs.length) (hl : ps.length ≤ 2) (h0 : w.cell? ⟨b0, 0, none⟩ = some (.slice PA P.length pcap)) (h1 : w.cell? ⟨b1, 0, none⟩ = some (.int .i64 m)) (h2 : w.cell? ⟨b2, 0, none⟩ = some (.int .i64 pk)) (h3 : w.cell? ⟨b3, 0, none⟩ = some (.slice A zs.length cap)) :
    Calls Tryz.prog 75 #[.slice Q ps.length qcap, ptr b0 0, ptr b1 0, ptr b2 0, ptr b3 0] w fun e w' => e = .returned (.int .i64 (co2 P g zs pk ps)) ∧ Below w.heap.size w w' ∧ 0 ≤ co2 P g zs pk ps ∧ co2 P g zs pk ps ≤ 1000002 := by
  have HU : Hid (∀ wx, Below w.heap.size w wx → Calls Tryz.prog 66 #[.int .i64 zs.length, .slice Q ps.length qcap] wx fun e w' => ∃ gu, e = .returned (.slice (some ⟨gu, 0, none⟩) zs.length zs.length) ∧ Ints w' (some ⟨gu, 0, none⟩) (unitL zs.length ps) ∧ Below wx.heap.size wx w') := fun wx hx => by
    refine (unit_any zs.length Q qcap ps wx (hQ.below hx) hp (by omega) (by have := hin.z12; omega)).mono fun e w' ⟨he, hC, hb⟩ => ?_
    rw [unitL_length] at he
    exact ⟨wx.heap.size, he, (hC.intsM' (Nat.le_refl _)).ints, hb⟩
  have HT : Hid (∀ wx gu, Below w.heap.size w wx → Ints wx (some ⟨gu, 0, none⟩) (unitL zs.length ps) → Calls Tryz.prog 74 #[prV PA P.length pcap, .int .i64 m, .int .i64 pk, .slice A zs.length cap, .slice (some ⟨gu, 0, none⟩) zs.length zs.length, .int .i64 2] wx fun e w' => Below wx.heap.size wx w' ∧ (∃ c, e = .returned (.tuple #[.int .i64 (co2 P g zs pk ps), .int .i64 c])) ∧ 0 ≤ co2 P g zs pk ps ∧ co2 P g zs pk ps ≤ 1000002) := fun wx gu hx hI => by
    have h := coefI P m g 2 pk PA pcap A (some ⟨gu, 0, none⟩) cap zs.length zs (unitL zs.length ps) wx (hP.below hx) hin (hA.below hx) hI (isS_unit (by omega)) (unitL_length _ _) (by omega) hpk
    rw [unitL_length] at h
    exact h.mono fun e w' ⟨hb, he, hbd⟩ => ⟨hb, ⟨_, he⟩, hbd⟩
  have hz12 := hin.z12
  have H4 := Lib.hid (And.intro h0 (And.intro h1 (And.intro h2 h3)))
  clear hP hin hA hQ hp hpk
  have l0 := World.block_lt_of_cell? _ _ h0
  have l1 := World.block_lt_of_cell? _ _ h1
  have l2 := World.block_lt_of_cell? _ _ h2
  have l3 := World.block_lt_of_cell? _ _ h3
  generalize co2 P g zs pk ps = x at *
  go_enter Tryz.func75, Tryz.ntmps75
  go_wp2_with fail
  go_region_held3 (fun wx => wx.cell? ⟨b0, 0, none⟩ = some (.slice PA P.length pcap) ∧ wx.cell? ⟨b1, 0, none⟩ = some (.int .i64 m) ∧ wx.cell? ⟨b2, 0, none⟩ = some (.int .i64 pk) ∧ wx.cell? ⟨b3, 0, none⟩ = some (.slice A zs.length cap))
    (first | exact H4.out | go_keep | exact keep4 H4.out hb2 | exact keep4 H4.out (hb2.trans (hb3.mono hb2.size)))
    (first
      | (go_at_call 74; have _tk := hI2; (with_reducible refine (HT.out _ _ hb2 hI2).mono ?_); rintro e w3 ⟨hb3, ⟨c3, rfl⟩, xb⟩)
      | (go_at_call 66; refine (HU.out _ (by first | exact Below.refl _ _ | exact (Below.refl _ _).drew | exact below_drewN' (Below.refl _ _) _)).mono ?_; rintro e w2 ⟨gu, rfl, hI2, hb2'⟩; have hb2 : Below w.heap.size w w2 := bnextG hb2' (by first | exact Below.refl _ _ | exact (Below.refl _ _).drew | exact below_drewN' (Below.refl _ _) _)))
  have HPF := Lib.hid (hb2.trans (hb3.mono hb2.size))
  have HXB := Lib.hid xb
  clear hb2' hb2 hb3 hI2 h0 h1 h2 h3 xb
  go_wp2
  go_ret
  exact ⟨rfl, HPF.out, HXB.out⟩

set_option maxRecDepth 100000 in
set_option maxHeartbeats 4000000 in
theorem hessianI (P : List Fn) (m : Nat) (g : Fn) (pk : Nat) (PA : Option Addr) (pcap : Nat) (A : Option Addr) (cap : Nat) (zs : List Int) (w : World) (hP : ProgIn w P PA pcap) (hin : ArgIn P m g zs) (hA : Ints w A zs) (hpk : pk < g.outs.len) :
    Calls Tryz.prog 43 #[prV PA P.length pcap, .int .i64 m, .int .i64 pk, .slice A zs.length cap] w (HesPost P g zs pk w) := by
  obtain ⟨i0, hi, hz0, hz1, hz2⟩ := info_parts Tryz.infoI
  obtain ⟨i1, hi1, hy0, hy1, hy2⟩ := info_parts Tryz.infoIS
  have hz12 := hin.z12
  have hERR : ∀ c, evalR 1 P g.outs (ones zs) = .err c → c ≠ 0 := fun c h => evalR_err h
  have HU0 : Hid (∀ wx, Calls Tryz.prog 66 #[.int .i64 zs.length, .slice none 0 0] wx fun e w' => ∃ gu, e = .returned (.slice (some ⟨gu, 0, none⟩) zs.length zs.length) ∧ Ints w' (some ⟨gu, 0, none⟩) (unitL zs.length []) ∧ Below wx.heap.size wx w') := fun wx => unitI_nil _ wx hz12
  have HCO : Hid (∀ wx gu, Below w.heap.size w wx → Ints wx (some ⟨gu, 0, none⟩) (unitL zs.length []) → Calls Tryz.prog 74 #[prV PA P.length pcap, .int .i64 m, .int .i64 pk, .slice A zs.length cap, .slice (some ⟨gu, 0, none⟩) zs.length zs.length, .int .i64 2] wx fun e w' => Below wx.heap.size wx w' ∧ ∃ x, e = .returned (.tuple #[.int .i64 x, .int .i64 (codeRes (evalR 1 P g.outs (ones zs)))])) := fun wx gu hx hI => by
    have h := coefI P m g 2 pk PA pcap A (some ⟨gu, 0, none⟩) cap zs.length zs (unitL zs.length []) wx (hP.below hx) hin (hA.below hx) hI (isS_unit (by simp)) (unitL_length _ _) (by omega) hpk
    rw [unitL_length] at h
    refine h.mono fun e w' ⟨hb, he, _⟩ => ⟨hb, (coRes (tayR (2 + 1) P g.outs zs (unitL zs.length [])) pk 2).1, ?_⟩
    rw [he]
    have hc : (coRes (tayR (2 + 1) P g.outs zs (unitL zs.length [])) pk 2).2 = codeRes (evalR 1 P g.outs (ones zs)) := by
      rw [← tay_code (n := 3) (by omega) (unitL zs.length [])]
      cases tayR 3 P g.outs zs (unitL zs.length []) with
      | err c => rfl
      | ok _ _ => rfl
    rw [hc]
  obtain ⟨w1, hw1⟩ : ∃ w1, w1 = (((w.alloc (.cells #[.slice PA P.length pcap] 32)).alloc (.cells #[.int .i64 m] 2)).alloc (.cells #[.int .i64 pk] 2)).alloc (.cells #[.slice A zs.length cap] 25) := ⟨_, rfl⟩
  have hB0 : Below w.heap.size w w1 := by rw [hw1]; go_grown
  obtain ⟨hs1, c0, c1, c2, c3⟩ : w1.heap.size = w.heap.size + 4 ∧ w1.cell? ⟨w.heap.size, 0, none⟩ = some (.slice PA P.length pcap) ∧ w1.cell? ⟨w.heap.size + 1, 0, none⟩ = some (.int .i64 m) ∧ w1.cell? ⟨w.heap.size + 1 + 1, 0, none⟩ = some (.int .i64 pk) ∧ w1.cell? ⟨w.heap.size + 1 + 1 + 1, 0, none⟩ = some (.slice A zs.length cap) := by
    obtain ⟨wa, ha⟩ : ∃ wa, wa = w.alloc (.cells #[.slice PA P.length pcap] 32) := ⟨_, rfl⟩
    obtain ⟨wb, hb⟩ : ∃ wb, wb = wa.alloc (.cells #[.int .i64 m] 2) := ⟨_, rfl⟩
    obtain ⟨wc, hc⟩ : ∃ wc, wc = wb.alloc (.cells #[.int .i64 pk] 2) := ⟨_, rfl⟩
    have hw : w1 = wc.alloc (.cells #[.slice A zs.length cap] 25) := by rw [hw1, hc, hb, ha]
    have sa : wa.heap.size = w.heap.size + 1 := by rw [ha]; simp
    have sb : wb.heap.size = w.heap.size + 2 := by rw [hb]; simp [sa]
    have sc : wc.heap.size = w.heap.size + 3 := by rw [hc]; simp [sb]
    have gb : Below wa.heap.size wa w1 := by rw [hw, hc, hb]; go_grown
    have gc : Below wb.heap.size wb w1 := by rw [hw, hc]; go_grown
    have gd : Below wc.heap.size wc w1 := by rw [hw]; go_grown
    refine ⟨by rw [hw]; simp [sc], ?_, ?_, ?_, ?_⟩
    · exact keepC (by rw [ha]; exact newCell _ _ _) gb
    · exact keepC (by rw [hb, ← sa]; exact newCell _ _ _) gc
    · exact keepC (by rw [hc, show w.heap.size + 1 + 1 = wb.heap.size by omega]; exact newCell _ _ _) gd
    · rw [hw, show w.heap.size + 1 + 1 + 1 = wc.heap.size by omega]; exact newCell _ _ _
  have H4 := Lib.hid (And.intro c0 (And.intro c1 (And.intro c2 c3)))
  have Q2 := Lib.hid hB0
  have HW1 := Lib.hid hw1
  have al : w.heap.size < w1.heap.size := by omega
  have al1 : w.heap.size + 1 < w1.heap.size := by omega
  have al2 : w.heap.size + 1 + 1 < w1.heap.size := by omega
  have al3 : w.heap.size + 1 + 1 + 1 < w1.heap.size := by omega
  have HAT : Hid (∀ (wx : World) (Q : Option Addr) (ps : List Int), ps.length ≤ 2 → (∀ p ∈ ps, 0 ≤ p ∧ p < (zs.length : Int)) → Below w1.heap.size w1 wx → Ints wx Q ps → Calls Tryz.prog 75 #[.slice Q ps.length ps.length, ptr w.heap.size 0, ptr (w.heap.size + 1) 0, ptr (w.heap.size + 1 + 1) 0, ptr (w.heap.size + 1 + 1 + 1) 0] wx fun e w' => e = .returned (.int .i64 (co2 P g zs pk ps)) ∧ Below wx.heap.size wx w' ∧ 0 ≤ co2 P g zs pk ps ∧ co2 P g zs pk ps ≤ 1000002) := fun wx Q ps hl hp hx hI => by
    obtain ⟨k0, k1, k2, k3⟩ := keep4 (And.intro c0 (And.intro c1 (And.intro c2 c3))) hx
    exact hesAt P m g pk PA pcap A cap zs ps Q ps.length _ _ _ _ wx (hP.below (bnext hB0 hx)) hin (hA.below (bnext hB0 hx)) hpk hI hp hl k0 k1 k2 k3
  have hRR : codeRes (evalR 1 P g.outs (ones zs)) = codeRes (evalR 1 P g.outs (ones zs)) := rfl
  obtain ⟨R, hR⟩ : ∃ R, R = evalR 1 P g.outs (ones zs) := ⟨_, rfl⟩
  rw [← hR] at hERR HCO
  unfold HesPost
  rw [← hR]
  clear hP hin hA hR hRR hw1 hB0
  cases R with
  | err c =>
    have hc := hERR c rfl
    have hc1 : (c == 0) = false := by simpa using hc
    clear hERR
    have HCE : Hid (∀ wx gu, Below w.heap.size w wx → Ints wx (some ⟨gu, 0, none⟩) (unitL zs.length []) → Calls Tryz.prog 74 #[prV PA P.length pcap, .int .i64 m, .int .i64 pk, .slice A zs.length cap, .slice (some ⟨gu, 0, none⟩) zs.length zs.length, .int .i64 2] wx fun e w' => Below wx.heap.size wx w' ∧ ∃ x, e = .returned (.tuple #[.int .i64 x, .int .i64 c])) := HCO.out
    go_enter Tryz.func43, Tryz.ntmps43
    go_wp2_with fail
    rw [← HW1.out]
    go_region_held3 (fun wx => wx.cell? ⟨w.heap.size, 0, none⟩ = some (.slice PA P.length pcap) ∧ wx.cell? ⟨w.heap.size + 1, 0, none⟩ = some (.int .i64 m) ∧ wx.cell? ⟨w.heap.size + 1 + 1, 0, none⟩ = some (.int .i64 pk) ∧ wx.cell? ⟨w.heap.size + 1 + 1 + 1, 0, none⟩ = some (.slice A zs.length cap))
      (first | exact H4.out | go_keep | exact keep4 H4.out hb2 | exact keep4 H4.out (hb2.trans (hb3.mono hb2.size)))
      (first
        | (go_at_call 74; have _tk := hI2; (with_reducible refine (HCE.out _ _ (Q2.out.trans (hb2.mono Q2.out.size)) hI2).mono ?_); rintro e w3 ⟨hb3, x3, rfl⟩)
        | (go_at_call 66; refine (HU0.out _).mono ?_; rintro e w2 ⟨gu, rfl, hI2, hb2'⟩; have hb2 : Below w1.heap.size w1 w2 := bnextG hb2' (by first | exact Below.refl _ _ | exact (Below.refl _ _).drew | exact below_drewN' (Below.refl _ _) _)))
    have HPF := Lib.hid (Q2.out.trans ((hb2.trans (hb3.mono hb2.size)).mono Q2.out.size))
    clear hb2' hb2 hb3 hI2 c0 c1 c2 c3
    go_wp2
    go_ret2
    exact ⟨HPF.out, _, _, rfl⟩
  | ok vs t =>
    clear hERR
    have HCE : Hid (∀ wx gu, Below w.heap.size w wx → Ints wx (some ⟨gu, 0, none⟩) (unitL zs.length []) → Calls Tryz.prog 74 #[prV PA P.length pcap, .int .i64 m, .int .i64 pk, .slice A zs.length cap, .slice (some ⟨gu, 0, none⟩) zs.length zs.length, .int .i64 2] wx fun e w' => Below wx.heap.size wx w' ∧ ∃ x, e = .returned (.tuple #[.int .i64 x, .int .i64 0])) := HCO.out
    go_enter Tryz.func43, Tryz.ntmps43
    go_wp2_with fail
    rw [← HW1.out]
    go_region_held3 (fun wx => wx.cell? ⟨w.heap.size, 0, none⟩ = some (.slice PA P.length pcap) ∧ wx.cell? ⟨w.heap.size + 1, 0, none⟩ = some (.int .i64 m) ∧ wx.cell? ⟨w.heap.size + 1 + 1, 0, none⟩ = some (.int .i64 pk) ∧ wx.cell? ⟨w.heap.size + 1 + 1 + 1, 0, none⟩ = some (.slice A zs.length cap))
      (first | exact H4.out | go_keep | exact keep4 H4.out hb2 | exact keep4 H4.out (hb2.trans (hb3.mono hb2.size)))
      (first
        | (go_at_call 74; have _tk := hI2; (with_reducible refine (HCE.out _ _ (Q2.out.trans (hb2.mono Q2.out.size)) hI2).mono ?_); rintro e w3 ⟨hb3, x3, rfl⟩)
        | (go_at_call 66; refine (HU0.out _).mono ?_; rintro e w2 ⟨gu, rfl, hI2, hb2'⟩; have hb2 : Below w1.heap.size w1 w2 := bnextG hb2' (by first | exact Below.refl _ _ | exact (Below.refl _ _).drew | exact below_drewN' (Below.refl _ _) _)))
    have HB3 := Lib.hid (hb2.trans (hb3.mono hb2.size))
    have K4 := Lib.hid (keep4 H4.out HB3.out)
    have k3 := K4.out.2.2.2
    clear hb2' hb2 hb3 hI2 c0 c1 c2 c3
    obtain ⟨wo, rfl⟩ : ∃ wo : World, wo = w3 := ⟨_, rfl⟩
    have al3' : w.heap.size + 1 + 1 + 1 < wo.heap.size := World.block_lt_of_cell? _ _ k3
    have HCl : Hid (∀ wx Qa qc ps, ps.length ≤ 2 → (∀ p ∈ ps, 0 ≤ p ∧ p < (zs.length : Int)) → Below wo.heap.size wo wx → Ints wx Qa ps → qc = ps.length → Calls Tryz.prog 75 #[.slice Qa ps.length qc, ptr w.heap.size 0, ptr (w.heap.size + 1) 0, ptr (w.heap.size + 1 + 1) 0, ptr (w.heap.size + 1 + 1 + 1) 0] wx fun e w' => e = .returned (.int .i64 (co2 P g zs pk ps)) ∧ Below wx.heap.size wx w' ∧ 0 ≤ co2 P g zs pk ps ∧ co2 P g zs pk ps ≤ 1000002) := fun wx Qa qc ps hl hp hx hI hq => by
      subst hq
      exact HAT.out wx Qa ps hl hp (bnext HB3.out hx) hI
    have HC1 : Hid (∀ wx (i : Nat) b, i < zs.length → Below wo.heap.size wo wx → wx.cell? ⟨b, 0, none⟩ = some (.int .i64 (i : Int)) → Calls Tryz.prog 75 #[.slice (some ⟨b, 0, none⟩) 1 1, ptr w.heap.size 0, ptr (w.heap.size + 1) 0, ptr (w.heap.size + 1 + 1) 0, ptr (w.heap.size + 1 + 1 + 1) 0] wx fun e w' => e = .returned (.int .i64 (co2 P g zs pk [(i : Int)])) ∧ Below wx.heap.size wx w' ∧ 0 ≤ co2 P g zs pk [(i : Int)] ∧ co2 P g zs pk [(i : Int)] ≤ 1000002) := fun wx i b hi hx hc =>
      HCl.out wx (some ⟨b, 0, none⟩) 1 [(i : Int)] (by simp) (fun p hp => by simp at hp; subst hp; omega) hx (fun _ => ⟨b, 0, rfl, World.block_lt_of_cell? _ _ hc, fun i x hx => by
        match i, hx with
        | 0, hx => simp at hx; subst hx; exact hc⟩) rfl
    have HC2 : Hid (∀ wx (i k : Nat) b, i < zs.length → k < zs.length → Below wo.heap.size wo wx → wx.cell? ⟨b, 0, none⟩ = some (.int .i64 (i : Int)) → wx.cell? ⟨b, 1, none⟩ = some (.int .i64 (k : Int)) → Calls Tryz.prog 75 #[.slice (some ⟨b, 0, none⟩) 2 2, ptr w.heap.size 0, ptr (w.heap.size + 1) 0, ptr (w.heap.size + 1 + 1) 0, ptr (w.heap.size + 1 + 1 + 1) 0] wx fun e w' => e = .returned (.int .i64 (co2 P g zs pk [(i : Int), (k : Int)])) ∧ Below wx.heap.size wx w' ∧ 0 ≤ co2 P g zs pk [(i : Int), (k : Int)] ∧ co2 P g zs pk [(i : Int), (k : Int)] ≤ 1000002) := fun wx i k b hi hk hx hc hc2 =>
      HCl.out wx (some ⟨b, 0, none⟩) 2 [(i : Int), (k : Int)] (by simp) (fun p hp => by simp at hp; rcases hp with rfl | rfl <;> omega) hx (fun _ => ⟨b, 0, rfl, World.block_lt_of_cell? _ _ hc, fun i x hx => by
        match i, hx with
        | 0, hx => simp at hx; subst hx; exact hc
        | 1, hx => simp at hx; subst hx; exact hc2⟩) rfl
    have HK3 := Lib.hid k3
    go_wp2
    go_loopw [13, 35] (fun o i wr => ∃ (j : Nat) (Av : Option Addr) (cp : Nat), j ≤ zs.length ∧ i = .int .i64 (j : Int) ∧ o = .slice Av j cp ∧ Hid (NewRows wr wo.heap.size zs.length (.slice Av j cp) ((List.range j).map (hesRow P g zs pk))) ∧ Hid (Below wo.heap.size wo wr)) (fun _ i _ => zs.length - (intOf i).toNat)
    case atStart => exact ⟨0, _, _, by omega, by go_num, rfl, NewRows.start wo _, by show Below _ _ _; go_grown⟩
    case round =>
      obtain ⟨j, Av, cp, hj, rfl, rfl, HN, HB⟩ := hrel
      by_cases hlt : j < zs.length
      · have hjI : (j : Int) < (zs.length : Int) := by omega
        obtain ⟨H, hH⟩ : ∃ H : Nat → Int, H = hesE P g zs pk j := ⟨_, rfl⟩
        have HH := Lib.hid hH
        clear hH
        have kw := keepC HK3.out HB.out
        have alw : w.heap.size + 1 + 1 + 1 < wr.heap.size := World.block_lt_of_cell? _ _ kw
        obtain ⟨wi, rfl⟩ : ∃ wi : World, wi = wr := ⟨_, rfl⟩
        go_wp2
        go_loopw [15, 41] (fun o i wr => ∃ (k : Nat) (Ar : Option Addr) (cr : Nat), k ≤ zs.length ∧ i = .int .i64 (k : Int) ∧ o = .slice Ar k cr ∧ Hid (IntRow wr wi.heap.size (.slice Ar k cr) (mk k H)) ∧ Hid (Below wi.heap.size wi wr)) (fun _ i _ => zs.length - (intOf i).toNat)
        case atStart => exact ⟨0, _, _, by omega, by go_num, rfl, rowStart wi H, by show Below _ _ _; go_grown⟩
        case round =>
          obtain ⟨k, Ar, cr, hk, rfl, rfl, HR, HBk⟩ := hrel
          by_cases hkl : k < zs.length
          · have hkI : (k : Int) < (zs.length : Int) := by omega
            have HBo : Hid (Below wo.heap.size wo wr) := bnext HB.out HBk.out
            by_cases hjk : j = k
            · subst hjk
              have hcc : Cells (wr.alloc (.cells #[.int .i64 (j : Int)] 2)) wr.heap.size 2 [.int .i64 (j : Int)] := Cells.new wr _ _
              have hW0 : Below wr.heap.size wr (wr.alloc (.cells #[.int .i64 (j : Int)] 2)) := by go_grown
              have HW0 := Lib.hid hW0
              have HCL := Lib.hid (HC1.out (wr.alloc (.cells #[.int .i64 (j : Int)] 2)) j wr.heap.size hlt (bnext HBo.out hW0) (by rw [hcc.cell]; rfl))
              have HX : Hid (tm 2 (co2 P g zs pk [(j : Int)]) = H j) := by show _ = _; rw [HH.out]; unfold hesE; rw [if_pos rfl]
              clear hW0 hcc
              generalize co2 P g zs pk [(j : Int)] = x at *
              go_wp2_with fail
              refine HCL.out.mono ?_; rintro e w5 ⟨rfl, hb5, x0, x1⟩
              have HB5 := Lib.hid (bnext HW0.out hb5)
              clear hb5 HCL HW0
              go_wp2_with fail
              refine (times_any _ _ _).mono ?_; rintro e w' ⟨rfl, rfl⟩
              obtain ⟨z, hz⟩ : ∃ z, z = tm 2 x := ⟨_, rfl⟩
              rw [← hz]
              have HZ : Hid (z = H j) := by show _ = _; rw [hz, HX.out]
              clear hz
              have HBi : Hid (Below wi.heap.size wi w5) := bnext HBk.out HB5.out
              have HR5 : Hid (IntRow w5 wi.heap.size (.slice Ar j cr) (mk j H)) := HR.out.keep fun g hg => HB5.out.block g (HR.out.lt hg).2
              clear HR
              go_wp2_with (at_builtin; refine wpList_append_own _ rfl _ _ 25 rfl wi.heap.size 2 i0 (.int .i64 0) 1 8 Tryz.underlying25 hi hz0 hz1 hz2 rfl (by decide) _ j _ rfl ((HR5.out.ownN (mk_length _ _).symm).alloc _) ⟨w5.heap.size, 0, none⟩ 1 1 [.int .i64 z] rfl rfl ?c1 ?c2 ?c3 ?c4 ?c5 ?_)
              try (case c1 => exact cell_one_new _ _ _)
              try (case c2 => first | rfl | (intro u hu; simp at hu; subst hu; rfl))
              case c3 => unfold maxLen; omega
              case c4 => omega
              case c5 => have := HBi.out.size; simp; try omega
              intro v2 w2 hown hg _
              obtain ⟨⟨A2, c2, rfl⟩, hr2, hb2⟩ := rowNext HR5.out HBi.out (by go_grown) HZ.out hown hg
              have HR2 := Lib.hid hr2
              have HB2 := Lib.hid hb2
              clear hr2 hb2 hown hg HR5 HX HZ
              go_wp2
              go_roundw
              case rel => exact ⟨j + 1, A2, c2, by omega, by go_num, rfl, HR2.out, HB2.out⟩
              case measure => simp [intOf]; omega
            · have hjkI : ¬ (j : Int) = (k : Int) := by omega
              have hcc : Cells (wr.alloc (.cells #[.int .i64 (j : Int), .int .i64 (k : Int)] 2)) wr.heap.size 2 [.int .i64 (j : Int), .int .i64 (k : Int)] := Cells.new wr _ _
              have hW0 : Below wr.heap.size wr (wr.alloc (.cells #[.int .i64 (j : Int), .int .i64 (k : Int)] 2)) := by go_grown
              have HW0 := Lib.hid hW0
              have HCL := Lib.hid (HC2.out (wr.alloc (.cells #[.int .i64 (j : Int), .int .i64 (k : Int)] 2)) j k wr.heap.size hlt hkl (bnext HBo.out hW0) (by rw [hcc.cell]; rfl) (by rw [hcc.cell]; rfl))
              have HX : Hid (rs (co2 P g zs pk [(j : Int), (k : Int)] - (co2 P g zs pk [(j : Int)] + co2 P g zs pk [(k : Int)])) = H k) := by show _ = _; rw [HH.out]; unfold hesE; rw [if_neg hjk]
              have HD1 := Lib.hid fun wx b => HC1.out wx j b hlt
              have HD2 := Lib.hid fun wx b => HC1.out wx k b hkl
              clear hW0 hcc
              generalize co2 P g zs pk [(j : Int), (k : Int)] = x at *
              generalize co2 P g zs pk [(j : Int)] = y1 at *
              generalize co2 P g zs pk [(k : Int)] = y2 at *
              go_wp2_with fail
              refine HCL.out.mono ?_; rintro e w3 ⟨rfl, hb3, x0, x1⟩
              have HB3' := Lib.hid (bnext HW0.out hb3)
              clear hb3 HCL HW0
              have hcc : Cells (w3.alloc (.cells #[.int .i64 (j : Int)] 2)) w3.heap.size 2 [.int .i64 (j : Int)] := Cells.new w3 _ _
              have hW0 : Below w3.heap.size w3 (w3.alloc (.cells #[.int .i64 (j : Int)] 2)) := by go_grown
              have HW0 := Lib.hid hW0
              have HCL := Lib.hid (HD1.out (w3.alloc (.cells #[.int .i64 (j : Int)] 2)) w3.heap.size (bnext (bnext HBo.out HB3'.out) hW0) (by rw [hcc.cell]; rfl))
              clear hW0 hcc
              go_wp2_with fail
              refine HCL.out.mono ?_; rintro e w4 ⟨rfl, hb4, p0, p1⟩
              have HB4 := Lib.hid (bnext HB3'.out (bnext HW0.out hb4))
              clear hb4 HCL HW0
              have hcc : Cells (w4.alloc (.cells #[.int .i64 (k : Int)] 2)) w4.heap.size 2 [.int .i64 (k : Int)] := Cells.new w4 _ _
              have hW0 : Below w4.heap.size w4 (w4.alloc (.cells #[.int .i64 (k : Int)] 2)) := by go_grown
              have HW0 := Lib.hid hW0
              have HCL := Lib.hid (HD2.out (w4.alloc (.cells #[.int .i64 (k : Int)] 2)) w4.heap.size (bnext (bnext HBo.out HB4.out) hW0) (by rw [hcc.cell]; rfl))
              clear hW0 hcc
              go_wp2_with fail
              refine HCL.out.mono ?_; rintro e w5 ⟨rfl, hb5, q0, q1⟩
              have HB5 := Lib.hid (bnext HB4.out (bnext HW0.out hb5))
              clear hb5 HCL HW0 HB4 HB3'
              have hwr : IntKind.i64.wrap (y1 + y2) = y1 + y2 := IntWalk.i64_in _ (by omega)
              go_wp2_with fail
              refine (minus_any _ _ _).mono ?_; rintro e w' ⟨rfl, rfl⟩
              obtain ⟨z, hz⟩ : ∃ z, z = rs (x - (y1 + y2)) := ⟨_, rfl⟩
              rw [← hz]
              have HZ : Hid (z = H k) := by show _ = _; rw [hz, HX.out]
              clear hz
              have HBi : Hid (Below wi.heap.size wi w5) := bnext HBk.out HB5.out
              have HR5 : Hid (IntRow w5 wi.heap.size (.slice Ar k cr) (mk k H)) := HR.out.keep fun g hg => HB5.out.block g (HR.out.lt hg).2
              clear HR
              go_wp2_with (at_builtin; refine wpList_append_own _ rfl _ _ 25 rfl wi.heap.size 2 i0 (.int .i64 0) 1 8 Tryz.underlying25 hi hz0 hz1 hz2 rfl (by decide) _ k _ rfl ((HR5.out.ownN (mk_length _ _).symm).alloc _) ⟨w5.heap.size, 0, none⟩ 1 1 [.int .i64 z] rfl rfl ?d1 ?d2 ?d3 ?d4 ?d5 ?_)
              try (case d1 => exact cell_one_new _ _ _)
              try (case d2 => first | rfl | (intro u hu; simp at hu; subst hu; rfl))
              case d3 => unfold maxLen; omega
              case d4 => omega
              case d5 => have := HBi.out.size; simp; try omega
              intro v2 w2 hown hg _
              obtain ⟨⟨A2, c2, rfl⟩, hr2, hb2⟩ := rowNext HR5.out HBi.out (by go_grown) HZ.out hown hg
              have HR2 := Lib.hid hr2
              have HB2 := Lib.hid hb2
              clear hr2 hb2 hown hg HR5 HX HZ
              go_wp2
              go_roundw
              case rel => exact ⟨k + 1, A2, c2, by omega, by go_num, rfl, HR2.out, HB2.out⟩
              case measure => simp [intOf]; omega
          · obtain rfl : k = zs.length := by omega
            have HT : Hid (IntsT wr wi.heap.size Ar (hesRow P g zs pk j)) := by
              obtain ⟨A2, c2, he2, hT2, _⟩ := rowEnd HR.out HBk.out
              rw [mk_length] at he2
              obtain ⟨rfl, _⟩ : Ar = A2 ∧ cr = c2 := by simpa using he2
              have e : hesRow P g zs pk j = mk zs.length H := by rw [HH.out]; rfl
              show IntsT _ _ _ _
              rw [e]; exact hT2
            have hn1 : 1 ≤ zs.length := by omega
            have htl : ((List.range j).map (hesRow P g zs pk)).length = j := by simp
            have hrl : (hesRow P g zs pk j).length = zs.length := hesRow_length P g zs pk j
            obtain ⟨gr, cg, hv, _⟩ := World.ownsRow.form HR.out (by rw [mk_length]; omega)
            obtain rfl : Ar = some ⟨gr, 0, none⟩ := by
              simp only [Value.slice.injEq] at hv
              exact hv.1
            obtain ⟨vs', bs, hpa⟩ := HN.out.parts htl HBk.out
            have HPA := Lib.hid hpa
            have HTL := Lib.hid htl
            have HRL := Lib.hid hrl
            have HBo : Hid (Below wo.heap.size wo wr) := bnext HB.out HBk.out
            clear hpa htl hrl hv HR
            go_wp2_with (at_builtin; refine wpList_append_own _ rfl _ _ 27 rfl wo.heap.size 25 i1 (.slice none 0 0) 1 24 Tryz.underlying27 hi1 hy0 hy1 hy2 rfl (by decide) _ j _ rfl (HPA.out.1.alloc _) ⟨wr.heap.size, 0, none⟩ 1 1 [.slice (some ⟨gr, 0, none⟩) zs.length cr] rfl rfl ?e1 ?e2 ?e3 ?e4 ?e5 ?_)
            try (case e1 => exact cell_one_new _ _ _)
            try (case e2 => first | rfl | (intro u hu; simp at hu; subst hu; rfl))
            case e3 => unfold maxLen; omega
            case e4 => omega
            case e5 => have := HBo.out.size; simp; try omega
            intro v2 w2 hown hg _
            obtain ⟨⟨A2, c2, rfl⟩, p1, p2⟩ := HN.out.push HTL.out HBk.out HB.out.size HT.out HRL.out (isS_hesRow P g zs pk j) hn1 vs' bs HPA.out hown hg
            rw [← hesRange_succ] at p1
            have HN2 := Lib.hid p1
            have HB4 := Lib.hid (HB.out.trans p2)
            clear p1 p2 hown hg HN HPA HT
            go_wp2
            go_roundw
            case rel => exact ⟨j + 1, A2, c2, by omega, by go_num, rfl, HN2.out, HB4.out⟩
            case measure => simp [intOf]; omega
      · obtain rfl : j = zs.length := by omega
        go_wp2
        go_ret2
        have hn := HN.out
        rw [show (List.range zs.length).map (hesRow P g zs pk) = hesRows P g zs pk from rfl] at hn
        have hb3 := bnext Q2.out HB3.out
        exact ⟨bnext hb3 HB.out, Av, cp, rfl, hn.weaken hb3.size⟩

end Go.Proofs.YtlnikpjcggfdmaaGreat

/- Walks: HessianOf of the spec and of the program. -/
namespace Go.Proofs.YtlnikpjcggfdmaaGreat
open Go.RowKit Plain

theorem HesPost.si {P : List Fn} {g : Fn} {zs : List Int} {pk : Nat} {w w1 w2 : World} {e : Ending} (hb : Below w.heap.size w w1) (h : HesPost P g zs pk w1 e w2) : RetSi (hesRes P g zs pk).1 (hesRes P g zs pk).2 w e w2 := by
  obtain ⟨hb2, h⟩ := h
  have hbb := bnext hb hb2
  unfold hesRes
  revert h
  cases evalR 1 P g.outs (ones zs) with
  | err c =>
    rintro ⟨A, cp, rfl⟩
    exact ⟨hbb, A, cp, rfl, rowsNil hbb.size⟩
  | ok vs t =>
    rintro ⟨A, cp, rfl, hG⟩
    refine ⟨hbb, A, cp, ?_, ?_⟩
    · show _ = Ending.returned (.tuple #[.slice A (hesRows P g zs pk).length cp, .int .i64 0])
      rw [hesRows_length]
    · have hN := hG
      rw [show zs.length = (hesRows P g zs pk).length from (hesRows_length P g zs pk).symm] at hN
      exact rowsAfter hb hN hb2
theorem HesPost.form {P : List Fn} {g : Fn} {zs : List Int} {pk : Nat} {w w' : World} {e : Ending} (h : HesPost P g zs pk w e w') : ∃ A n cp c, e = .returned (.tuple #[.slice A n cp, .int .i64 c]) := by
  obtain ⟨_, h⟩ := h
  revert h
  cases evalR 1 P g.outs (ones zs) with
  | err c => rintro ⟨A, cp, rfl⟩; exact ⟨_, _, _, _, rfl⟩
  | ok vs t => rintro ⟨A, cp, rfl, _⟩; exact ⟨_, _, _, _, rfl⟩

set_option maxHeartbeats 1000000 in
theorem hessianOfI (P : List Fn) (f pick : Int) (zs : List Int) {PA : Option Addr} {pcap : Nat} {A : Option Addr} {cap : Nat} (w : World) (hP : ProgIn w P PA pcap) (hA : Ints w A zs) (hl : zs.length ≤ 1048576) :
    Calls Tryz.prog 24 #[prV PA P.length pcap, .int .i64 f, .int .i64 pick, .slice A zs.length cap] w (RetSi (hesV P f pick zs).1 (hesV P f pick zs).2 w) := by
  have hg0 : Below w.heap.size w (w.alloc (.cells #[.slice PA P.length pcap] 32)) := by go_grown
  have HC := Lib.hid (isPicked_any P f pick zs zs (cap := cap) (dcap := cap) _ (hP.below hg0) (hA.below hg0) hl (hA.below hg0) hl)
  have HP := Lib.hid hP
  by_cases hv : pickV P f pick zs zs = 0
  · have hpi := (pickV_zero hv).2
    obtain ⟨_, m, g, rfl, hin⟩ := argV_zero (lineV_zero (pickV_zero hv).1).1
    obtain ⟨pk, rfl⟩ := Int.eq_ofNat_of_zero_le (inR_true.1 hpi).1
    have hpk := pickN hin hpi
    rw [hv] at HC
    have HV : Hid (hesV P m pk zs = hesRes P g zs pk) := by
      show _ = _
      unfold hesV
      rw [if_pos hv]
      simp only [Int.toNat_natCast, hin.fn.fn]
    have HT : Hid (∀ wx, Below w.heap.size w wx → Calls Tryz.prog 43 #[prV PA P.length pcap, .int .i64 m, .int .i64 pk, .slice A zs.length cap] wx (HesPost P g zs pk wx)) := fun wx hx =>
      hessianI P m g pk PA pcap A cap zs wx (HP.out.below hx) hin (hA.below hx) hpk
    rw [HV.out]
    clear hv hP hA hg0 hin hpi hpk
    go_enter Tryz.func24, Tryz.ntmps24
    go_wp2_with fail
    refine HC.out.mono ?_; rintro e w1 ⟨rfl, hb1⟩
    obtain ⟨q1, q2⟩ := prBox (C := [Value.slice PA P.length pcap]) hb1
    have Q2 := Lib.hid q2
    have a0 : w1.cell? ⟨w.heap.size, 0, none⟩ = some (.slice PA P.length pcap) := by rw [q1.cell]; rfl
    clear hb1 q1 q2
    go_wp2_with fail
    refine (HT.out _ Q2.out).mono ?_; rintro e w2 hp
    have hp2 := Lib.hid (hp.si Q2.out)
    obtain ⟨A', n', cp', c', rfl⟩ := hp.form
    clear hp
    go_wp2
    go_ret2
    exact hp2.out
  · have HV : Hid (hesV P f pick zs = ([], pickV P f pick zs zs)) := by show _ = _; unfold hesV; rw [if_neg hv]
    rw [HV.out]
    generalize pickV P f pick zs zs = V at *
    have hv1 : (V == 0) = false := by simpa using hv
    clear hP hA hg0
    go_enter Tryz.func24, Tryz.ntmps24
    go_wp2_with fail
    refine HC.out.mono ?_; rintro e w1 ⟨rfl, hb1⟩
    have Q2 := Lib.hid (prBox (C := [Value.slice PA P.length pcap]) hb1).2
    clear hb1
    go_wp2
    go_ret2
    exact ⟨Q2.out, _, _, rfl, rowsNil Q2.out.size⟩

set_option maxHeartbeats 1000000 in
theorem hessianOfS (P : List Fn) (f pick : Int) (zs : List Int) {PA : Option Addr} {pcap : Nat} {A : Option Addr} {cap : Nat} (w : World) (hP : ProgIn w P PA pcap) (hA : Ints w A zs) (hl : zs.length ≤ 1048576) :
    Calls Tryz.prog 23 #[prV PA P.length pcap, .int .i64 f, .int .i64 pick, .slice A zs.length cap] w (RetSi (hesV P f pick zs).1 (hesV P f pick zs).2 w) := by
  obtain ⟨hPr, hg⟩ := prBoxAt hP 32
  have HC := Lib.hid (pickedS_any P f pick A A cap cap zs zs w.heap.size 0 (w.heap.size + 1) _ hPr (by simp) hP.sz (hA.below hg) (by omega) (hA.below hg) (by omega))
  have HG := Lib.hid hg
  by_cases hv : pickV P f pick zs zs = 0
  · have hpi := (pickV_zero hv).2
    obtain ⟨_, m, g, rfl, hin⟩ := argV_zero (lineV_zero (pickV_zero hv).1).1
    obtain ⟨pk, rfl⟩ := Int.eq_ofNat_of_zero_le (inR_true.1 hpi).1
    have hpk := pickN hin hpi
    rw [hv] at HC
    have HV : Hid (hesV P m pk zs = hesRes P g zs pk) := by
      show _ = _
      unfold hesV
      rw [if_pos hv]
      simp only [Int.toNat_natCast, hin.fn.fn]
    have HT : Hid (∀ wx, Below (w.heap.size + 1) (w.alloc (.cells #[.slice PA P.length pcap] 32)) wx → Calls Tryz.prog 42 #[ptr w.heap.size 0, .int .i64 m, .int .i64 pk, .slice A zs.length cap] wx (HesPost P g zs pk wx)) := fun wx hx =>
      hessianS P m g pk A cap zs w.heap.size 0 (w.heap.size + 1) wx (hPr.below hx) (by have := hx.size; simp at this; omega) hin ((hA.below hg).below (by simpa using hx)) hpk
    rw [HV.out]
    clear hv hPr hP hA hg hin hpi hpk
    go_enter Tryz.func23, Tryz.ntmps23
    go_wp2_with fail
    refine HC.out.mono ?_; rintro e w1 ⟨rfl, hb1⟩
    have HB := Lib.hid hb1
    clear hb1
    go_wp2_with fail
    refine (HT.out _ (HB.out.mono (by simp))).mono ?_; rintro e w2 hp
    have hp2 := Lib.hid (hp.si (HG.out.trans (HB.out.mono HG.out.size)))
    obtain ⟨A', n', cp', c', rfl⟩ := hp.form
    clear hp
    go_wp2
    go_ret2
    exact hp2.out
  · have HV : Hid (hesV P f pick zs = ([], pickV P f pick zs zs)) := by show _ = _; unfold hesV; rw [if_neg hv]
    rw [HV.out]
    generalize pickV P f pick zs zs = V at *
    have hv1 : (V == 0) = false := by simpa using hv
    clear hPr hP hA hg
    go_enter Tryz.func23, Tryz.ntmps23
    go_wp2_with fail
    refine HC.out.mono ?_; rintro e w1 ⟨rfl, hb1⟩
    have HB := Lib.hid hb1
    clear hb1
    go_wp2
    go_ret2
    have hb := HG.out.trans (HB.out.mono HG.out.size)
    have hb2 := hb.trans ((show Below w1.heap.size w1 (w1.alloc (.cells #[] 25)) by go_grown).mono hb.size)
    exact ⟨hb2, _, _, rfl, rowsNil hb2.size⟩

end Go.Proofs.YtlnikpjcggfdmaaGreat

/- Walks: HessianTimes of the spec and of the program. -/
namespace Go.Proofs.YtlnikpjcggfdmaaGreat
open Go.RowKit Plain

set_option maxHeartbeats 2000000 in
theorem dotI (a b : List Int) (A B : Option Addr) (cap cap' : Nat) (w : World) (hA : Ints w A a) (hB : Ints w B b) (ha : IsS a) (hb : IsS b) (hl : b.length = a.length) (hn : a.length ≤ 12) :
    Calls Tryz.prog 45 #[.slice A a.length cap, .slice B b.length cap'] w fun e w' => e = .returned (.int .i64 (dotL a b a.length)) ∧ Below w.heap.size w w' := by
  have HL := Lib.hid hl
  clear hl
  go_enter Tryz.func45, Tryz.ntmps45
  go_wp2
  go_loopw [5, 9] (fun o i wr => ∃ k : Nat, k ≤ a.length ∧ i = .int .i64 (k : Int) ∧ o = .int .i64 (dotL a b k) ∧ Hid (Below w.heap.size w wr)) (fun _ i _ => a.length - (intOf i).toNat)
  case atStart => exact ⟨0, by omega, by go_num, rfl, Below.refl _ _⟩
  case round =>
    obtain ⟨k, hk, rfl, rfl, HBw⟩ := hrel
    by_cases hlt : k < a.length
    · have hkb : k < b.length := by rw [HL.out]; exact hlt
      obtain ⟨b1, o1, rfl, hl1, g1⟩ := ints_cf (hA.below HBw.out) hlt
      obtain ⟨b2, o2, rfl, hl2, g2⟩ := ints_cf (hB.below HBw.out) hkb
      have hkI : (k : Int) < (a.length : Int) := by omega
      have hkbI : (k : Int) < (b.length : Int) := by omega
      have bs := dotL_bd a b k
      have bx := ha k
      have by_ := hb k
      have HX : Hid (dotL a b (k + 1) = pl (dotL a b k) (tm (cf a k) (cf b k))) := rfl
      generalize dotL a b k = s at *
      generalize cf a k = x at *
      generalize cf b k = y at *
      obtain ⟨m0, m1⟩ := mul_bd bx.1 bx.2 by_.1 by_.2
      obtain ⟨p, hp⟩ : ∃ p, p = x * y := ⟨_, rfl⟩
      have e1 : IntKind.i64.wrap (x * y) = p := by rw [hp]; exact IntWalk.i64_in _ (by omega)
      have e2 : IntKind.i64.wrap (s + p) = s + p := IntWalk.i64_in _ (by omega)
      obtain ⟨z, hz⟩ : ∃ z, z = (s + p) % 1000003 := ⟨_, rfl⟩
      have e3 : (s + p).tmod 1000003 = z := by rw [hz]; exact Int.tmod_eq_emod_of_nonneg (by omega)
      have e4 : IntKind.i64.wrap z = z := IntWalk.i64_in _ (by omega)
      have HZ : Hid (z = dotL a b (k + 1)) := by
        show _ = _
        rw [HX.out, hz, hp]
        unfold pl tm
        rw [Int.add_emod_emod]
      clear hz hp m0 m1
      go_wp2
      go_quiet (fail)
      rename Nat => nq
      have HB2 : Hid (Below w.heap.size w (wr.drewN nq)) := below_drewN' HBw.out nq
      clear g1 g2 e1 e2 e3 e4 HBw
      go_wp2
      go_roundw
      case rel => exact ⟨k + 1, by omega, by go_num, by rw [HZ.out], HB2.out⟩
      case measure => simp [intOf]; omega
    · obtain rfl : k = a.length := by omega
      go_wp2
      go_ret
      exact ⟨rfl, HBw.out⟩

set_option maxHeartbeats 2000000 in
theorem dotS (a b : List Int) (A B : Option Addr) (cap cap' : Nat) (w : World) (hA : Ints w A a) (hB : Ints w B b) (hl : b.length = a.length) (hn : a.length ≤ 12) :
    Calls Tryz.prog 44 #[.slice A a.length cap, .slice B b.length cap'] w fun e w' => e = .returned (.int .i64 (dotL a b a.length)) ∧ Below w.heap.size w w' := by
  have HL := Lib.hid hl
  clear hl
  go_enter Tryz.func44, Tryz.ntmps44
  go_wp2
  go_loopw [5, 6] (fun o i wr => ∃ k : Nat, k ≤ a.length ∧ i = .int .i64 (k : Int) ∧ o = .int .i64 (dotL a b k) ∧ Hid (Below w.heap.size w wr)) (fun _ i _ => a.length - (intOf i).toNat)
  case atStart => exact ⟨0, by omega, by go_num, rfl, Below.refl _ _⟩
  case round =>
    obtain ⟨k, hk, rfl, rfl, HBw⟩ := hrel
    by_cases hlt : k < a.length
    · have hkb : k < b.length := by rw [HL.out]; exact hlt
      obtain ⟨b1, o1, rfl, hl1, g1⟩ := ints_cf (hA.below HBw.out) hlt
      obtain ⟨b2, o2, rfl, hl2, g2⟩ := ints_cf (hB.below HBw.out) hkb
      have hkI : (k : Int) < (a.length : Int) := by omega
      have hkbI : (k : Int) < (b.length : Int) := by omega
      have HX : Hid (dotL a b (k + 1) = pl (dotL a b k) (tm (cf a k) (cf b k))) := rfl
      generalize dotL a b k = s at *
      generalize cf a k = x at *
      generalize cf b k = y at *
      have HT : Hid (∀ wx, Calls Tryz.prog 79 #[.int .i64 x, .int .i64 y] wx fun e w' => e = .returned (.int .i64 (tm x y)) ∧ w' = wx) := fun wx => (timesS_any x y wx).mono fun _ _ h => ⟨h.1, h.2.symm⟩
      have HPL : Hid (∀ wx, Calls Tryz.prog 78 #[.int .i64 s, .int .i64 (tm x y)] wx fun e w' => e = .returned (.int .i64 (dotL a b (k + 1))) ∧ w' = wx) := fun wx => by rw [HX.out]; exact (plusS_any s (tm x y) wx).mono fun _ _ h => ⟨h.1, h.2.symm⟩
      clear HX
      obtain ⟨z, hz⟩ : ∃ z, z = dotL a b (k + 1) := ⟨_, rfl⟩
      rw [← hz] at HPL
      have HZ := Lib.hid hz
      clear hz
      go_wp2_with fail
      go_quiet (first | (go_at_call 79; exact Calls.quiet_of_same (HT.out _)) | (go_at_call 78; exact Calls.quiet_of_same (HPL.out _)))
      rename Nat => nq
      have HB2 : Hid (Below w.heap.size w (wr.drewN nq)) := below_drewN' HBw.out nq
      clear g1 g2 HBw
      go_wp2
      go_roundw
      case rel => exact ⟨k + 1, by omega, by go_num, by rw [HZ.out], HB2.out⟩
      case measure => simp [intOf]; omega
    · obtain rfl : k = a.length := by omega
      go_wp2
      go_ret
      exact ⟨rfl, HBw.out⟩

theorem hes_get {P : List Fn} {g : Fn} {zs : List Int} {pk j : Nat} (h : j < zs.length) : (hesRows P g zs pk).getD j [] = hesRow P g zs pk j := by
  unfold hesRows
  simp [List.getD, h]
/-- a row of the matrix -/
theorem hes_row {P : List Fn} {g : Fn} {zs : List Int} {pk j cp B : Nat} {A : Option Addr} {w : World} (h : NewRows w B zs.length (.slice A zs.length cp) (hesRows P g zs pk)) (hB : 0 < B) (hj : j < zs.length) :
    ∃ b o Ar cr, A = some ⟨b, o, none⟩ ∧ w.cell? ⟨b, o + j, none⟩ = some (.slice Ar (hesRow P g zs pk j).length cr) ∧ Ints w Ar (hesRow P g zs pk j) := by
  have hN := h
  rw [show zs.length = (hesRows P g zs pk).length from (hesRows_length P g zs pk).symm] at hN
  obtain ⟨b, o, Ar, cr, e, _, _, hc, hz⟩ := (hN.env (bv := 0) hB).sat (j := j) (by rw [hesRows_length]; exact hj)
  rw [hesRows_length] at hc
  rw [hes_get hj] at hz
  refine ⟨b, o, Ar, cr, e, by rw [hc, hesRow_length], fun h0 => ?_⟩
  obtain ⟨b3, o3, e3, hb3, _, _, hc3⟩ := hz.isAt h0
  exact ⟨b3, o3, e3, hb3, hc3⟩

set_option maxRecDepth 100000 in
set_option maxHeartbeats 2000000 in
theorem hessianTimesI (P : List Fn) (f pick : Int) (zs ds : List Int) {PA : Option Addr} {pcap : Nat} {A D : Option Addr} {cap dcap : Nat} (w : World) (hP : ProgIn w P PA pcap) (hA : Ints w A zs) (hl : zs.length ≤ 1048576) (hD : Ints w D ds) (hdl : ds.length ≤ 1048576) :
    Calls Tryz.prog 26 #[prV PA P.length pcap, .int .i64 f, .int .i64 pick, .slice A zs.length cap, .slice D ds.length dcap] w (RetIi (htV P f pick zs ds).1 (htV P f pick zs ds).2 w) := by
  obtain ⟨i0, hi, hz0, hz1, hz2⟩ := info_parts Tryz.infoI
  have hg0 : Below w.heap.size w (w.alloc (.cells #[.slice PA P.length pcap] 32)) := by go_grown
  have HC := Lib.hid (isPicked_any P f pick zs ds (cap := cap) (dcap := dcap) _ (hP.below hg0) (hA.below hg0) hl (hD.below hg0) hdl)
  have HP := Lib.hid hP
  by_cases hv : pickV P f pick zs ds = 0
  · have hpi := (pickV_zero hv).2
    have hlv := (pickV_zero hv).1
    obtain ⟨hav, hdz, hds⟩ := lineV_zero hlv
    obtain ⟨_, m, g, rfl, hin⟩ := argV_zero hav
    obtain ⟨pk, rfl⟩ := Int.eq_ofNat_of_zero_le (inR_true.1 hpi).1
    have hpk := pickN hin hpi
    rw [hv] at HC
    have hz12 := hin.z12
    have HV : Hid (htV P m pk zs ds = htRes P g zs ds pk) := by
      show _ = _
      unfold htV
      rw [if_pos hv]
      simp only [Int.toNat_natCast, hin.fn.fn]
    have HT : Hid (∀ wx, Below w.heap.size w wx → Calls Tryz.prog 43 #[prV PA P.length pcap, .int .i64 m, .int .i64 pk, .slice A zs.length cap] wx (HesPost P g zs pk wx)) := fun wx hx =>
      hessianI P m g pk PA pcap A cap zs wx (HP.out.below hx) hin (hA.below hx) hpk
    have HDT : Hid (∀ wx Ar cr (j : Nat), Below w.heap.size w wx → Ints wx Ar (hesRow P g zs pk j) → Calls Tryz.prog 45 #[.slice Ar (hesRow P g zs pk j).length cr, .slice D ds.length dcap] wx fun e w' => e = .returned (.int .i64 (dotL (hesRow P g zs pk j) ds zs.length)) ∧ Below wx.heap.size wx w') := fun wx Ar cr j hx hI => by
      have h := dotI (hesRow P g zs pk j) ds Ar D cr dcap wx hI (hD.below hx) (isS_hesRow _ _ _ _ _) hds (by rw [hesRow_length]; exact hdz) (by rw [hesRow_length]; exact hz12)
      rw [hesRow_length] at h ⊢
      exact h
    have herr : ∀ c, evalR 1 P g.outs (ones zs) = .err c → c ≠ 0 := fun c h => evalR_err h
    rw [HV.out]
    have HDZ := Lib.hid hdz
    clear hv hP hA hg0 hin hpi hpk hlv hav hdz hds hD
    unfold HesPost at HT
    unfold htRes
    generalize evalR 1 P g.outs (ones zs) = R at *
    cases R with
    | err c =>
      have hc := herr c rfl
      have hc1 : (c == 0) = false := by simpa using hc
      clear herr
      go_enter Tryz.func26, Tryz.ntmps26
      go_wp2_with fail
      refine HC.out.mono ?_; rintro e w1 ⟨rfl, hb1⟩
      obtain ⟨q1, q2⟩ := prBox (C := [Value.slice PA P.length pcap]) hb1
      have Q2 := Lib.hid q2
      have a0 : w1.cell? ⟨w.heap.size, 0, none⟩ = some (.slice PA P.length pcap) := by rw [q1.cell]; rfl
      clear hb1 q1 q2
      go_wp2_with fail
      refine (HT.out _ Q2.out).mono ?_; rintro e w2 ⟨hb2, A', cp', rfl⟩
      have HB2 := Lib.hid (bnext Q2.out hb2)
      clear hb2
      go_wp2
      go_ret2
      exact retIi_nil HB2.out
    | ok vs t =>
      clear herr
      obtain ⟨F, hF⟩ : ∃ F : Nat → Int, F = fun i => dotL (hesRow P g zs pk i) ds zs.length := ⟨_, rfl⟩
      have HF := Lib.hid hF
      clear hF
      go_enter Tryz.func26, Tryz.ntmps26
      go_wp2_with fail
      refine HC.out.mono ?_; rintro e w1 ⟨rfl, hb1⟩
      obtain ⟨q1, q2⟩ := prBox (C := [Value.slice PA P.length pcap]) hb1
      have Q2 := Lib.hid q2
      have a0 : w1.cell? ⟨w.heap.size, 0, none⟩ = some (.slice PA P.length pcap) := by rw [q1.cell]; rfl
      have hw1s : 0 < w1.heap.size := by have := World.block_lt_of_cell? _ _ a0; omega
      clear hb1 q1 q2
      go_wp2_with fail
      refine (HT.out _ Q2.out).mono ?_; rintro e w2 ⟨hb2, A', cp', rfl, hN⟩
      have HB2 := Lib.hid (bnext Q2.out hb2)
      have HN := Lib.hid hN
      clear hb2 hN
      obtain ⟨wo, rfl⟩ : ∃ wo : World, wo = w2 := ⟨_, rfl⟩
      go_wp2
      go_loopw [15, 41] (fun o i wr => ∃ (j : Nat) (Av : Option Addr) (cp : Nat), j ≤ zs.length ∧ i = .int .i64 (j : Int) ∧ o = .slice Av j cp ∧ Hid (IntRow wr wo.heap.size (.slice Av j cp) (mk j F)) ∧ Hid (Below wo.heap.size wo wr)) (fun _ i _ => zs.length - (intOf i).toNat)
      case atStart => exact ⟨0, _, _, by omega, by go_num, rfl, rowStart wo F, by show Below _ _ _; go_grown⟩
      case round =>
        obtain ⟨j, Av, cp, hj, rfl, rfl, HR, HB⟩ := hrel
        by_cases hlt : j < zs.length
        · have hjI : (j : Int) < (zs.length : Int) := by omega
          obtain ⟨br, orr, Ar, cr, rfl, gc, hI⟩ := hes_row (HN.out.next HB.out) hw1s hlt
          have HCL := Lib.hid (HDT.out wr Ar cr j (bnext HB2.out HB.out) hI)
          have HX : Hid (dotL (hesRow P g zs pk j) ds zs.length = F j) := by show _ = _; rw [HF.out]
          generalize dotL (hesRow P g zs pk j) ds zs.length = x at *
          clear hI
          go_wp2_with fail
          refine HCL.out.mono ?_; rintro e w5 ⟨rfl, hb5⟩
          have HB5 : Hid (Below wo.heap.size wo w5) := bnext HB.out hb5
          have HR5 : Hid (IntRow w5 wo.heap.size (.slice Av j cp) (mk j F)) := HR.out.keep fun g hg => hb5.block g (HR.out.lt hg).2
          clear hb5 HCL HR gc
          go_wp2_with (at_builtin; refine wpList_append_own _ rfl _ _ 25 rfl wo.heap.size 2 i0 (.int .i64 0) 1 8 Tryz.underlying25 hi hz0 hz1 hz2 rfl (by decide) _ j _ rfl ((HR5.out.ownN (mk_length _ _).symm).alloc _) ⟨w5.heap.size, 0, none⟩ 1 1 [.int .i64 x] rfl rfl ?c1 ?c2 ?c3 ?c4 ?c5 ?_)
          try (case c1 => exact cell_one_new _ _ _)
          try (case c2 => first | rfl | (intro u hu; simp at hu; subst hu; rfl))
          case c3 => unfold maxLen; omega
          case c4 => omega
          case c5 => have := HB5.out.size; simp; try omega
          intro v2 w2 hown hg _
          obtain ⟨⟨A2, c2, rfl⟩, hr2, hb2⟩ := rowNext HR5.out HB5.out (by go_grown) HX.out hown hg
          have HR2 := Lib.hid hr2
          have HB3 := Lib.hid hb2
          clear hr2 hb2 hown hg HR5 HX
          go_wp2
          go_roundw
          case rel => exact ⟨j + 1, A2, c2, by omega, by go_num, rfl, HR2.out, HB3.out⟩
          case measure => simp [intOf]; omega
        · obtain rfl : j = zs.length := by omega
          obtain ⟨A2, c2, he2, hT2, hB2⟩ := rowEnd HR.out HB.out
          have HT2 : Hid (IntsT wr wo.heap.size Av (mk zs.length F)) := by
            rw [mk_length] at he2
            obtain ⟨rfl, _⟩ : Av = A2 ∧ cp = c2 := by simpa using he2
            exact hT2
          clear he2 hT2 hB2
          go_wp2
          go_ret2
          have h1 := HB2.out.size
          rw [← HF.out]
          refine ⟨bnext HB2.out HB.out, Av, cp, ?_, riMono (w := w) (HT2.out.m.reg HB.out.size) h1 (Nat.le_refl _) rfl⟩
          show _ = Ending.returned (.tuple #[.slice Av (mk zs.length F).length cp, .int .i64 0])
          rw [mk_length]
          rfl
  · have HV : Hid (htV P f pick zs ds = ([], pickV P f pick zs ds)) := by show _ = _; unfold htV; rw [if_neg hv]
    rw [HV.out]
    generalize pickV P f pick zs ds = V at *
    have hv1 : (V == 0) = false := by simpa using hv
    clear hP hA hD hg0
    go_enter Tryz.func26, Tryz.ntmps26
    go_wp2_with fail
    refine HC.out.mono ?_; rintro e w1 ⟨rfl, hb1⟩
    have Q2 := Lib.hid (prBox (C := [Value.slice PA P.length pcap]) hb1).2
    clear hb1
    go_wp2
    go_ret2
    exact retIi_nil Q2.out

set_option maxRecDepth 100000 in
set_option maxHeartbeats 2000000 in
theorem hessianTimesS (P : List Fn) (f pick : Int) (zs ds : List Int) {PA : Option Addr} {pcap : Nat} {A D : Option Addr} {cap dcap : Nat} (w : World) (hP : ProgIn w P PA pcap) (hA : Ints w A zs) (hl : zs.length ≤ 1048576) (hD : Ints w D ds) (hdl : ds.length ≤ 1048576) :
    Calls Tryz.prog 25 #[prV PA P.length pcap, .int .i64 f, .int .i64 pick, .slice A zs.length cap, .slice D ds.length dcap] w (RetIi (htV P f pick zs ds).1 (htV P f pick zs ds).2 w) := by
  obtain ⟨i0, hi, hz0, hz1, hz2⟩ := info_parts Tryz.infoI
  obtain ⟨hPr, hg⟩ := prBoxAt hP 32
  have HC := Lib.hid (pickedS_any P f pick A D cap dcap zs ds w.heap.size 0 (w.heap.size + 1) _ hPr (by simp) hP.sz (hA.below hg) (by omega) (hD.below hg) (by omega))
  have HG := Lib.hid hg
  by_cases hv : pickV P f pick zs ds = 0
  · have hpi := (pickV_zero hv).2
    have hlv := (pickV_zero hv).1
    obtain ⟨hav, hdz, hds⟩ := lineV_zero hlv
    obtain ⟨_, m, g, rfl, hin⟩ := argV_zero hav
    obtain ⟨pk, rfl⟩ := Int.eq_ofNat_of_zero_le (inR_true.1 hpi).1
    have hpk := pickN hin hpi
    rw [hv] at HC
    have hz12 := hin.z12
    have HV : Hid (htV P m pk zs ds = htRes P g zs ds pk) := by
      show _ = _
      unfold htV
      rw [if_pos hv]
      simp only [Int.toNat_natCast, hin.fn.fn]
    have HT : Hid (∀ wx, Below (w.heap.size + 1) (w.alloc (.cells #[.slice PA P.length pcap] 32)) wx → Calls Tryz.prog 42 #[ptr w.heap.size 0, .int .i64 m, .int .i64 pk, .slice A zs.length cap] wx (HesPost P g zs pk wx)) := fun wx hx =>
      hessianS P m g pk A cap zs w.heap.size 0 (w.heap.size + 1) wx (hPr.below hx) (by have := hx.size; simp at this; omega) hin ((hA.below hg).below (by simpa using hx)) hpk
    have HDT : Hid (∀ wx Ar cr (j : Nat), Below w.heap.size w wx → Ints wx Ar (hesRow P g zs pk j) → Calls Tryz.prog 44 #[.slice Ar (hesRow P g zs pk j).length cr, .slice D ds.length dcap] wx fun e w' => e = .returned (.int .i64 (dotL (hesRow P g zs pk j) ds zs.length)) ∧ Below wx.heap.size wx w') := fun wx Ar cr j hx hI => by
      have h := dotS (hesRow P g zs pk j) ds Ar D cr dcap wx hI (hD.below hx) (by rw [hesRow_length]; exact hdz) (by rw [hesRow_length]; exact hz12)
      rw [hesRow_length] at h ⊢
      exact h
    have herr : ∀ c, evalR 1 P g.outs (ones zs) = .err c → c ≠ 0 := fun c h => evalR_err h
    rw [HV.out]
    have HDZ := Lib.hid hdz
    clear hv hPr hP hA hg hin hpi hpk hlv hav hdz hds hD
    unfold HesPost at HT
    unfold htRes
    generalize evalR 1 P g.outs (ones zs) = R at *
    cases R with
    | err c =>
      have hc := herr c rfl
      have hc1 : (c == 0) = false := by simpa using hc
      clear herr
      go_enter Tryz.func25, Tryz.ntmps25
      go_wp2_with fail
      refine HC.out.mono ?_; rintro e w1 ⟨rfl, hb1⟩
      have HB1 := Lib.hid hb1
      have Q2 := Lib.hid (HG.out.trans (hb1.mono HG.out.size))
      clear hb1
      go_wp2_with fail
      refine (HT.out _ (HB1.out.mono (by simp))).mono ?_; rintro e w2 ⟨hb2, A', cp', rfl⟩
      have HB2 := Lib.hid (bnext Q2.out hb2)
      clear hb2
      obtain ⟨wo, rfl⟩ : ∃ wo : World, wo = w2 := ⟨_, rfl⟩
      go_wp2
      go_loopw [15, 16] (fun o i wr => ∃ (Av : Option Addr) (cp : Nat), i = .int .i64 0 ∧ o = .slice Av 0 cp ∧ Hid (Below wo.heap.size wo wr)) (fun _ _ _ => 0)
      case atStart => exact ⟨_, _, rfl, rfl, by show Below _ _ _; go_grown⟩
      case round =>
        obtain ⟨Av, cp, rfl, rfl, HB⟩ := hrel
        go_wp2
        go_ret2
        exact retIi_nil (bnext HB2.out HB.out)
    | ok vs t =>
      clear herr
      obtain ⟨F, hF⟩ : ∃ F : Nat → Int, F = fun i => dotL (hesRow P g zs pk i) ds zs.length := ⟨_, rfl⟩
      have HF := Lib.hid hF
      clear hF
      go_enter Tryz.func25, Tryz.ntmps25
      go_wp2_with fail
      refine HC.out.mono ?_; rintro e w1 ⟨rfl, hb1⟩
      have HB1 := Lib.hid hb1
      have Q2 := Lib.hid (HG.out.trans (hb1.mono HG.out.size))
      have hw1s : 0 < w1.heap.size := by have := hb1.size; simp at this; omega
      clear hb1
      go_wp2_with fail
      refine (HT.out _ (HB1.out.mono (by simp))).mono ?_; rintro e w2 ⟨hb2, A', cp', rfl, hN⟩
      have HB2 := Lib.hid (bnext Q2.out hb2)
      have HN := Lib.hid hN
      clear hb2 hN
      obtain ⟨wo, rfl⟩ : ∃ wo : World, wo = w2 := ⟨_, rfl⟩
      go_wp2
      go_loopw [15, 16] (fun o i wr => ∃ (j : Nat) (Av : Option Addr) (cp : Nat), j ≤ zs.length ∧ i = .int .i64 (j : Int) ∧ o = .slice Av j cp ∧ Hid (IntRow wr wo.heap.size (.slice Av j cp) (mk j F)) ∧ Hid (Below wo.heap.size wo wr)) (fun _ i _ => zs.length - (intOf i).toNat)
      case atStart => exact ⟨0, _, _, by omega, by go_num, rfl, rowStart wo F, by show Below _ _ _; go_grown⟩
      case round =>
        obtain ⟨j, Av, cp, hj, rfl, rfl, HR, HB⟩ := hrel
        by_cases hlt : j < zs.length
        · have hjI : (j : Int) < (zs.length : Int) := by omega
          obtain ⟨br, orr, Ar, cr, rfl, gc, hI⟩ := hes_row (HN.out.next HB.out) hw1s hlt
          have HCL := Lib.hid (HDT.out wr Ar cr j (bnext HB2.out HB.out) hI)
          have HX : Hid (dotL (hesRow P g zs pk j) ds zs.length = F j) := by show _ = _; rw [HF.out]
          generalize dotL (hesRow P g zs pk j) ds zs.length = x at *
          clear hI
          go_wp2_with fail
          refine HCL.out.mono ?_; rintro e w5 ⟨rfl, hb5⟩
          have HB5 : Hid (Below wo.heap.size wo w5) := bnext HB.out hb5
          have HR5 : Hid (IntRow w5 wo.heap.size (.slice Av j cp) (mk j F)) := HR.out.keep fun g hg => hb5.block g (HR.out.lt hg).2
          clear hb5 HCL HR gc
          go_wp2_with (at_builtin; refine wpList_append_own _ rfl _ _ 25 rfl wo.heap.size 2 i0 (.int .i64 0) 1 8 Tryz.underlying25 hi hz0 hz1 hz2 rfl (by decide) _ j _ rfl ((HR5.out.ownN (mk_length _ _).symm).alloc _) ⟨w5.heap.size, 0, none⟩ 1 1 [.int .i64 x] rfl rfl ?c1 ?c2 ?c3 ?c4 ?c5 ?_)
          try (case c1 => exact cell_one_new _ _ _)
          try (case c2 => first | rfl | (intro u hu; simp at hu; subst hu; rfl))
          case c3 => unfold maxLen; omega
          case c4 => omega
          case c5 => have := HB5.out.size; simp; try omega
          intro v2 w2 hown hg _
          obtain ⟨⟨A2, c2, rfl⟩, hr2, hb2⟩ := rowNext HR5.out HB5.out (by go_grown) HX.out hown hg
          have HR2 := Lib.hid hr2
          have HB3 := Lib.hid hb2
          clear hr2 hb2 hown hg HR5 HX
          go_wp2
          go_roundw
          case rel => exact ⟨j + 1, A2, c2, by omega, by go_num, rfl, HR2.out, HB3.out⟩
          case measure => simp [intOf]; omega
        · obtain rfl : j = zs.length := by omega
          obtain ⟨A2, c2, he2, hT2, hB2⟩ := rowEnd HR.out HB.out
          have HT2 : Hid (IntsT wr wo.heap.size Av (mk zs.length F)) := by
            rw [mk_length] at he2
            obtain ⟨rfl, _⟩ : Av = A2 ∧ cp = c2 := by simpa using he2
            exact hT2
          clear he2 hT2 hB2
          go_wp2
          go_ret2
          have h1 := HB2.out.size
          rw [← HF.out]
          refine ⟨bnext HB2.out HB.out, Av, cp, ?_, riMono (w := w) (HT2.out.m.reg HB.out.size) h1 (Nat.le_refl _) rfl⟩
          show _ = Ending.returned (.tuple #[.slice Av (mk zs.length F).length cp, .int .i64 0])
          rw [mk_length]
          rfl
  · have HV : Hid (htV P f pick zs ds = ([], pickV P f pick zs ds)) := by show _ = _; unfold htV; rw [if_neg hv]
    rw [HV.out]
    generalize pickV P f pick zs ds = V at *
    have hv1 : (V == 0) = false := by simpa using hv
    clear hPr hP hA hD hg
    go_enter Tryz.func25, Tryz.ntmps25
    go_wp2_with fail
    refine HC.out.mono ?_; rintro e w1 ⟨rfl, hb1⟩
    have HB := Lib.hid (HG.out.trans (hb1.mono HG.out.size))
    clear hb1
    go_wp2
    go_ret2
    exact retIi_nil (HB.out.trans ((show Below w1.heap.size w1 (w1.alloc (.cells #[] 2)) by go_grown).mono HB.out.size))

end Go.Proofs.YtlnikpjcggfdmaaGreat
