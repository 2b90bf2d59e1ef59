/- FnExactSlopeAlong: for every program, function, output, arguments, direction and number the program's SlopeAlong returns what the reference's returns, in memory of its own. No condition. -/
import Derived.Test.YtjohkheclglpjaaGreatKR
import Derived.Test.YtjohkheclglpjaaGreatKB
import Derived.Deep.Upon
import Derived.Test.YtjohkheclglpjaaGreatKP
import Derived.Deep.RegionHeld3
import Derived.WalkKit
import Derived.ProofKit
import Derived.OpenShut
import Derived.ShutString
import Derived.ChangeOld
import Derived.Below

/- Slopes along a line, plainly: points, the first error. No program here. -/
namespace Go.Proofs.YtjohkheclglpjaaGreat
open Plain

/-- the point args + k dir -/
def pointL (zs ds : List Int) (k : Int) : List Int := mk zs.length fun i => (cf zs i + k * cf ds i) % 1000003
theorem pointL_length (zs ds : List Int) (k : Int) : (pointL zs ds k).length = zs.length := mk_length _ _
theorem isS_point (zs ds : List Int) (k : Int) : IsS (pointL zs ds k) := IsS.mk_ fun i => by omega
theorem point_zero {zs ds : List Int} (hz : IsS zs) : pointL zs ds 0 = zs := by
  apply list_ext
  · exact pointL_length _ _ _
  · intro i hi
    rw [pointL_length] at hi
    unfold pointL
    rw [cf_mk hi, Int.zero_mul, Int.add_zero]
    exact Int.emod_eq_of_lt (hz i).1 (by have := (hz i).2; omega)
theorem point_next {zs ds : List Int} (k : Int) : addL (pointL zs ds k) ds = pointL zs ds (k + 1) := by
  apply list_ext
  · rw [addL_length, pointL_length, pointL_length]
  · intro i hi
    rw [addL_length, pointL_length] at hi
    rw [cf_add (by rw [pointL_length]; exact hi)]
    unfold pointL
    rw [cf_mk hi, cf_mk hi]
    unfold pl
    rw [Int.add_mul, Int.one_mul]
    omega
/-- the code of the first error -/
def fstErr (F : Nat → Int) : Nat → Int
  | 0 => 0
  | k + 1 => if fstErr F k = 0 then F k else fstErr F k
theorem fstErr_at {F : Nat → Int} {k : Nat} (h0 : fstErr F k = 0) (hk : F k ≠ 0) : ∀ n, k < n → fstErr F n = F k := by
  intro n
  induction n with
  | zero => intro h; omega
  | succ n ih =>
    intro h
    unfold fstErr
    by_cases hn : k < n
    · rw [ih hn, if_neg hk]
    · obtain rfl : k = n := by omega
      rw [if_pos h0]
theorem fstErr_next {F : Nat → Int} {k : Nat} (h0 : fstErr F k = 0) (hk : F k = 0) : fstErr F (k + 1) = 0 := by
  unfold fstErr
  rw [if_pos h0, hk]

/-- one number of values -/
def numRes (R : Res (List (List Int))) (pk k : Nat) : Int :=
  match R with
  | .err _ => 0
  | .ok zss _ => cf (zss.getD pk []) k
def codeRes (R : Res (List (List Int))) : Int :=
  match R with
  | .err c => c
  | .ok _ _ => 0
/-- what SlopeAlong answers -/
def slopeV (P : List Fn) (f pick : Int) (zs ds : List Int) (n : Int) : List Int × Int :=
  if pickV P f pick zs ds = 0 then (if inR n 0 12 = true then (match P[f.toNat]? with
    | none => ([], 0)
    | some g =>
      if fstErr (fun k => codeRes (tayR 2 P g.outs (pointL zs ds k) ds)) n.toNat = 0
      then (mk n.toNat fun k => numRes (tayR 2 P g.outs (pointL zs ds k) ds) pick.toNat 1, 0)
      else ([], fstErr (fun k => codeRes (tayR 2 P g.outs (pointL zs ds k) ds)) n.toNat)) else ([], 2))
  else ([], pickV P f pick zs ds)
theorem slopeV_len (P : List Fn) (f pick : Int) (zs ds : List Int) (n : Int) : (slopeV P f pick zs ds n).1.length ≤ 4194304 := by
  unfold slopeV
  split
  · rename_i h
    obtain ⟨_, m, g, rfl, hin⟩ := argV_zero (lineV_zero (pickV_zero h).1).1
    split
    · rename_i hq
      have := inR_true.1 hq
      simp only [Int.toNat_natCast, hin.fn.fn]
      split
      · simp only [mk_length]; omega
      · simp
    · simp
  · simp

end Go.Proofs.YtjohkheclglpjaaGreat

/- Walks: SlopeAlong of the spec and of the program. -/
namespace Go.Proofs.YtjohkheclglpjaaGreat
open Go.RowKit Plain

theorem ArgIn.point {P : List Fn} {m : Nat} {g : Fn} {zs : List Int} (h : ArgIn P m g zs) (ds : List Int) (k : Int) : ArgIn P m g (pointL zs ds k) :=
  ⟨h.ok, h.fn, by rw [pointL_length]; exact h.len, isS_point _ _ _⟩
theorem tay_cases (R : Res (List (List Int))) : (∃ c, R = .err c) ∨ ∃ zss t, R = .ok zss t := by
  cases R with
  | err c => exact .inl ⟨c, rfl⟩
  | ok zss t => exact .inr ⟨zss, t, rfl⟩

set_option maxRecDepth 100000 in
set_option maxHeartbeats 4000000 in
theorem slopeI_run (P : List Fn) (m pk n : Nat) (g : Fn) (zs ds : List Int) (PA : Option Addr) (pcap : Nat) (A D : Option Addr) (cap dcap : Nat) (w : World) (hP : ProgIn w P PA pcap) (hin : ArgIn P m g zs) (hA : Ints w A zs) (hD : Ints w D ds) (hds : IsS ds) (hdz : ds.length = zs.length) (hpk : pk < g.outs.len) (hn : n ≤ 12) (V : List Int × Int)
    (hV : V = if fstErr (fun k => codeRes (tayR 2 P g.outs (pointL zs ds k) ds)) n = 0 then (mk n fun k => numRes (tayR 2 P g.outs (pointL zs ds k) ds) pk 1, 0) else ([], fstErr (fun k => codeRes (tayR 2 P g.outs (pointL zs ds k) ds)) n))
    (hC : Hid (∀ wx, Below w.heap.size w wx → Calls Tryz.prog 66 #[prV PA P.length pcap, .int .i64 m, .int .i64 pk, .slice A zs.length cap, .slice D ds.length dcap] wx fun e w' => e = .returned (.int .i64 0) ∧ Below wx.heap.size wx w')) :
    Calls Tryz.prog 33 #[prV PA P.length pcap, .int .i64 m, .int .i64 pk, .slice A zs.length cap, .slice D ds.length dcap, .int .i64 n] w (RetIi V.1 V.2 w) := by
  obtain ⟨i0, hi, hz0, hz1, hz2⟩ := info_parts Tryz.infoI
  have HV := Lib.hid hV; clear hV
  have HIN := Lib.hid hin
  have HL := Lib.hid hdz
  have HP := Lib.hid hP
  have hlen := hin.len
  have hp12 := hin.fn.p12
  have ho12 := hin.fn.o12
  have hzs := hin.isS
  obtain ⟨F, hF⟩ : ∃ F : Nat → Int, F = fun k : Nat => codeRes (tayR 2 P g.outs (pointL zs ds k) ds) := ⟨_, rfl⟩
  obtain ⟨G, hG⟩ : ∃ G : Nat → Int, G = fun k : Nat => numRes (tayR 2 P g.outs (pointL zs ds k) ds) pk 1 := ⟨_, rfl⟩
  have HVF : Hid (V = if fstErr F n = 0 then (mk n G, 0) else ([], fstErr F n)) := by show _ = _; rw [HV.out, hF, hG]
  have HFk : Hid (∀ k : Nat, F k = codeRes (tayR 2 P g.outs (pointL zs ds k) ds)) := fun k => by rw [hF]
  have HGk : Hid (∀ k : Nat, G k = numRes (tayR 2 P g.outs (pointL zs ds k) ds) pk 1) := fun k => by rw [hG]
  clear hF hG HV
  have hin12 : Hid (inR (n : Int) 0 12 = true) := inR_true.2 (by omega)
  have HT : Hid (∀ wx Ap cpp (k : Nat), Below w.heap.size w wx → Ints wx Ap (pointL zs ds k) → Calls Tryz.prog 46 #[prV PA P.length pcap, .int .i64 m, .slice Ap zs.length cpp, .slice D ds.length dcap] wx (DirPost (tayR 2 P g.outs (pointL zs ds k) ds) wx)) := fun wx Ap cpp k hx hI => by
    have h := directionalI P m g PA pcap Ap D cpp dcap (pointL zs ds k) ds wx (HP.out.below hx) (HIN.out.point ds k) hI (hD.below hx) hds (by rw [pointL_length]; exact HL.out)
    rw [pointL_length] at h
    exact h
  have hzl12 : zs.length ≤ 12 := by omega
  have HLN : Hid (∀ (k : Nat) zss t, tayR 2 P g.outs (pointL zs ds k) ds = .ok zss t → zss.length = g.outs.len) := fun k zss t h => evalR_len h
  have HER : Hid (∀ (k : Nat) c, tayR 2 P g.outs (pointL zs ds k) ds = .err c → c ≠ 0) := fun k c h => evalR_err h
  clear hin hP hlen hdz
  go_enter Tryz.func33, Tryz.ntmps33
  go_wp2_with fail
  refine (hC.out _ (by go_grown)).mono ?_; rintro e w1 ⟨rfl, hb1⟩
  obtain ⟨q1, q2⟩ := prBox (C := [Value.slice PA P.length pcap]) hb1
  have Q2 := Lib.hid q2
  have HA1 := Lib.hid (hA.below q2)
  have HD1 := Lib.hid (hD.below q2)
  have a0 : w1.cell? ⟨w.heap.size, 0, none⟩ = some (.slice PA P.length pcap) := by rw [q1.cell]; rfl
  have A0 := Lib.hid a0
  clear hb1 q1 q2 hA hD hC a0
  go_wp2_with (go_at_call 50; refine (within_any _ _ _ _).mono ?_; rintro e w' ⟨rfl, rfl⟩; rw [hin12.out])
  obtain ⟨wo, rfl⟩ : ∃ wo : World, wo = w1 := ⟨_, rfl⟩
  go_loopw [15, 40] (fun o i wr => ∃ (k : Nat) (Av : Option Addr) (cp : Nat), k ≤ n ∧ i = .int .i64 (k : Int) ∧ o = .slice Av k cp ∧ Hid (IntRow wr wo.heap.size (.slice Av k cp) (mk k G)) ∧ Hid (Below wo.heap.size wo wr) ∧ Hid (fstErr F k = 0)) (fun _ i _ => n - (intOf i).toNat)
  case atStart => exact ⟨0, _, _, by omega, by go_num, rfl, rowStart wo G, by show Below _ _ _; go_grown, rfl⟩
  case round =>
    obtain ⟨k, Av, cp, hk, rfl, rfl, HR, HB, HE⟩ := hrel
    by_cases hlt : k < n
    · have hkn : (k : Int) < (n : Int) := by omega
      have hk12 : k ≤ 12 := by omega
      obtain ⟨PF, hPF⟩ : ∃ PF : Nat → Int, PF = fun i => (cf zs i + (k : Int) * cf ds i) % 1000003 := ⟨_, rfl⟩
      have HPF := Lib.hid hPF; clear hPF
      obtain ⟨wk, rfl⟩ : ∃ wk : World, wk = wr := ⟨_, rfl⟩
      go_wp2
      go_loopw [17, 46] (fun o i wi => ∃ (j : Nat) (Ap : Option Addr) (cpp : Nat), j ≤ zs.length ∧ i = .int .i64 (j : Int) ∧ o = .slice Ap j cpp ∧ Hid (IntRow wi wk.heap.size (.slice Ap j cpp) (mk j PF)) ∧ Hid (Below wk.heap.size wk wi)) (fun _ i _ => zs.length - (intOf i).toNat)
      case atStart => exact ⟨0, _, _, by omega, by go_num, rfl, rowStart wk PF, by show Below _ _ _; go_grown⟩
      case round =>
        obtain ⟨j, Ap, cpp, hj, rfl, rfl, HRp, HBp⟩ := hrel
        have HBo : Hid (Below wo.heap.size wo wr) := bnext HB.out HBp.out
        by_cases hjl : j < zs.length
        · obtain ⟨b1, o1, rfl, hl1, g1⟩ := ints_cf (HA1.out.below HBo.out) hjl
          obtain ⟨b2, o2, rfl, hl2, g2⟩ := ints_cf (HD1.out.below HBo.out) (show j < ds.length by rw [HL.out]; exact hjl)
          have hjI : (j : Int) < (zs.length : Int) := by omega
          have hjD : (j : Int) < (ds.length : Int) := by rw [HL.out]; exact hjI
          have hjDn : j < ds.length := by rw [HL.out]; exact hjl
          have bx := hzs j
          have by_ := hds j
          have HX : Hid ((cf zs j + (k : Int) * cf ds j) % 1000003 = PF j) := by rw [HPF.out]; rfl
          generalize cf zs j = x at *
          generalize cf ds j = y at *
          have hp0 : 0 ≤ (k : Int) * y := Int.mul_nonneg (by omega) by_.1
          have hp1 : (k : Int) * y ≤ 12 * 1000002 := Int.mul_le_mul (by omega) by_.2 by_.1 (by omega)
          have e1 : IntKind.i64.wrap ((k : Int) * y) = (k : Int) * y := IntWalk.i64_in _ (by omega)
          have e2 : IntKind.i64.wrap (x + (k : Int) * y) = x + (k : Int) * y := IntWalk.i64_in _ (by omega)
          obtain ⟨z, hz⟩ : ∃ z, z = (x + (k : Int) * y) % 1000003 := ⟨_, rfl⟩
          have e3 : (x + (k : Int) * y).tmod 1000003 = z := by rw [hz]; exact Int.tmod_eq_emod_of_nonneg (by omega)
          have e4 : IntKind.i64.wrap z = z := IntWalk.i64_in _ (by omega)
          rw [← hz] at HX
          clear hz
          have hW : Below wr.heap.size wr (wr.alloc (.cells #[.int .i64 z] 2)).drew := by go_grown
          have HR1 : Hid ((wr.alloc (.cells #[.int .i64 z] 2)).drew.ownsRow wk.heap.size 2 1 (.slice Ap j cpp) j ((mk j PF).map (Value.int .i64))) :=
            (HRp.out.keep (w' := (wr.alloc (.cells #[.int .i64 z] 2)).drew) fun g hg => hW.block g (HRp.out.lt hg).2).ownN (mk_length _ _).symm
          have HB1 := Lib.hid (bnext HBp.out hW)
          have hN1 : Hid (∀ j u, [Value.int .i64 z][j]? = some u → (wr.alloc (.cells #[.int .i64 z] 2)).drew.cell? ((Addr.mk wr.heap.size 0 none).add j) = some u) := by
            intro j u hj
            have hc : Cells (wr.alloc (.cells #[.int .i64 z] 2)) wr.heap.size 2 [.int .i64 z] := Cells.new wr _ _
            rw [addr_add, Nat.zero_add]
            exact ((hc.drewN 1).cell j).trans hj
          have hO1 : Hid (∀ u ∈ [Value.int .i64 z], u.oneCell' = true) := by intro u hu; simp at hu; subst hu; rfl
          have HF2 : Hid (∀ v2 w2, w2.ownsRow wk.heap.size 2 1 v2 (j + 1) ((mk j PF).map (Value.int .i64) ++ [.int .i64 z]) → (wr.alloc (.cells #[.int .i64 z] 2)).drew.grownBy w2 (Value.slice Ap j cpp).ownBlock →
              (∃ A2 c2, v2 = .slice A2 (j + 1) c2) ∧ IntRow w2 wk.heap.size v2 (mk (j + 1) PF) ∧ Below wk.heap.size wk w2) := fun v2 w2 hown hg => rowNext HRp.out HBp.out hW HX.out hown hg
          clear hW
          go_wp2
          go_region_law (refine step_append_own rfl (.tmp 49) (.tmp 62) 25 rfl wk.heap.size 2 i0 (.int .i64 0) 1 8 Tryz.underlying25 hi hz0 hz1 hz2 rfl (by decide) (.slice Ap j cpp) j _ (by simp [Act.eval]) HR1.out ⟨wr.heap.size, 0, none⟩ 1 1 [.int .i64 z] (by simp [Act.eval]) rfl hN1.out hO1.out (by unfold maxLen; omega) (by omega) HB1.out.size ?_; intro v2 w2 hown hg)
          all_goals
            obtain ⟨⟨A2, c2, rfl⟩, hr2, hb2⟩ := HF2.out _ _ hown hg
            have HR2 := Lib.hid hr2
            have HB2 := Lib.hid hb2
            clear hr2 hb2 hown hg HRp HX HR1 HB1 hN1 hO1 HF2 g1 g2
            go_wp2
            go_roundw
            case rel => exact ⟨j + 1, A2, c2, by omega, by go_num, rfl, HR2.out, HB2.out⟩
            case measure => simp [intOf]; omega
        · obtain rfl : j = zs.length := by omega
          obtain ⟨Ap2, cp2, he2, hTp, _⟩ := rowEnd HRp.out HBp.out
          have hTp2 : IntsT wr wk.heap.size Ap (pointL zs ds k) := by
            rw [mk_length] at he2
            obtain ⟨rfl, _⟩ : Ap = Ap2 ∧ cpp = cp2 := by simpa using he2
            have e : pointL zs ds k = mk zs.length PF := by rw [HPF.out]; rfl
            rw [e]; exact hTp
          have HBw := Lib.hid (bnext Q2.out HBo.out)
          have HTC := Lib.hid (HT.out wr Ap cpp k HBw.out hTp2.ints)
          have hbox := (HBo.out.cell (p := ⟨w.heap.size, 0, none⟩) (World.block_lt_of_cell? _ _ A0.out)).trans A0.out
          have HRk := Lib.hid (HR.out.keep (w' := wr) fun g hg => HBp.out.block g (HR.out.lt hg).2)
          have HRlt : Hid (∀ q, (Value.slice Av k cp).ownBlock = some q → wo.heap.size ≤ q ∧ q < wk.heap.size) := fun q hq => HR.out.lt hq
          clear he2 hTp hTp2 HRp HR
          obtain ⟨R, hR⟩ : ∃ R, R = tayR 2 P g.outs (pointL zs ds k) ds := ⟨_, rfl⟩
          rw [← hR] at HTC
          have HRR := Lib.hid hR; clear hR
          cases R with
          | err c =>
            have hc := HER.out k c HRR.out.symm
            have hc1 : (c == 0) = false := by simpa using hc
            go_wp2_with fail
            refine HTC.out.mono ?_; rintro e w3 ⟨hb3, Ah, ch, As, cs, rfl⟩
            have HB3 := Lib.hid (bnext HBw.out hb3)
            clear hb3
            go_wp2
            go_ret2
            have hfe : F k = c := by rw [HFk.out, ← HRR.out]; rfl
            have h2 := fstErr_at HE.out (by rw [hfe]; exact hc) n hlt
            have hv := HVF.out
            rw [h2, hfe, if_neg hc] at hv
            rw [hv]
            exact retIi_nil HB3.out
          | ok zss t =>
            have hzn := HLN.out k zss t HRR.out.symm
            have hpz : pk < zss.length := by omega
            have hpzI : (pk : Int) < (zss.length : Int) := by omega
            have hz12 : zss.length ≤ 12 := by omega
            have hfe : F k = 0 := by rw [HFk.out, ← HRR.out]; rfl
            have HE2 := Lib.hid (fstErr_next HE.out hfe)
            have HGx : Hid (G k = cf (colL 1 zss) pk) := by
              show _ = _
              rw [HGk.out, ← HRR.out]
              unfold colL
              rw [cf_mk hpz]
              rfl
            clear hzn hfe
            go_wp2_with fail
            refine HTC.out.mono ?_; rintro e w3 ⟨hb3, Ah, ch, As, cs, mm, rfl, _, hS3, hm1, hm2⟩
            have hIs := regInts hS3
            obtain ⟨b3, o3, rfl, hb3l, g3⟩ := ints_cf (k := pk) hIs (by rw [colL_length]; exact hpz)
            have HB3 := Lib.hid hb3
            have HBo3 := Lib.hid (bnext HBo.out hb3)
            have hR3 : IntRow w3 wo.heap.size (.slice Av k cp) (mk k G) := HRk.out.keep fun g hg => hb3.block g (by have h1 := (HRlt.out g hg).2; have h2 := HBp.out.size; omega)
            have HR3 := Lib.hid hR3
            have hkG : cf (colL 1 zss) pk = G k := HGx.out.symm
            obtain ⟨x, hx⟩ : ∃ x, x = cf (colL 1 zss) pk := ⟨_, rfl⟩
            rw [← hx] at g3
            have HX2 : Hid (x = G k) := by show _ = _; rw [hx]; exact hkG
            clear hb3 hS3 hm1 hm2 hIs hR3 hkG hx
            go_wp2_with (at_builtin; refine wpList_append_own _ rfl _ _ 25 rfl wo.heap.size 2 i0 (.int .i64 0) 1 8 Tryz.underlying25 hi hz0 hz1 hz2 rfl (by decide) _ k _ rfl ((HR3.out.ownN (mk_length _ _).symm).alloc _) ⟨w3.heap.size, 0, none⟩ 1 1 [.int .i64 x] rfl rfl ?c1 ?c2 ?c3 ?c4 ?c5 ?_)
            try (case c1 => exact cell_one_new _ _ _)
            try (case c2 => first | rfl | (intro u hu; simp at hu; subst hu; rfl))
            case c3 => unfold maxLen; omega
            case c4 => omega
            case c5 => have := HBo3.out.size; simp; try omega
            intro v2 w4 hown hg _
            obtain ⟨⟨A2, c2, rfl⟩, hr2, hb2⟩ := rowNext HR3.out HBo3.out (by go_grown) HX2.out hown hg
            have HR4 := Lib.hid hr2
            have HB4 := Lib.hid hb2
            clear hr2 hb2 hown hg HR3 HB3 HBo3 HX2 HTC HRk HRlt g3
            go_wp2
            go_roundw
            case rel => exact ⟨k + 1, A2, c2, by omega, by go_num, rfl, HR4.out, HB4.out, HE2.out⟩
            case measure => simp [intOf]; omega
    · obtain rfl : k = n := by omega
      obtain ⟨A2, c2, he2, hT2, hB2⟩ := rowEnd HR.out HB.out
      have HT2 : Hid (IntsT wr wo.heap.size Av (mk k G)) := by
        rw [mk_length] at he2
        obtain ⟨rfl, _⟩ : Av = A2 ∧ cp = c2 := by simpa using he2
        exact hT2
      clear he2 hT2 hB2
      go_wp2
      go_ret2
      have hv := HVF.out
      rw [if_pos HE.out] at hv
      rw [hv]
      have h1 := Q2.out.size
      refine ⟨bnext Q2.out HB.out, Av, cp, ?_, riMono (w := w) (HT2.out.m.reg HB.out.size) h1 (Nat.le_refl _) rfl⟩
      show _ = Ending.returned (.tuple #[.slice Av (mk k G).length cp, .int .i64 0])
      rw [mk_length]
      rfl

end Go.Proofs.YtjohkheclglpjaaGreat

/- Walks: SlopeAlong of the spec, its run. -/
namespace Go.Proofs.YtjohkheclglpjaaGreat
open Go.RowKit Plain

/-- nothing is appended, as a step of the walk -/
theorem wpList_append_nothing {P : Program} {w : World} {ops : Array Oper} {rest : List Oper} {o : Oper} {a : Act} {Q : Exit → Act → World → Prop} (hgd : o.guard = none) (s x : Operand) (t : TypeId)
    (ho : o.op = .call { callee := .builtin .append, args := #[s, x], argTypes := #[t, t] }) (e : TypeId) (i : TypeInfo) (ht : P.underlying t = some (.slice e)) (hi : P.info? e = some i)
    (base : Option Addr) (sLen sCap : Nat) (hle : sLen ≤ sCap) (hs : a.eval s = .slice base sLen sCap) (xv : Value) (hx : a.eval x = xv) (hsrc : Src P i.size t xv 0 [] w)
    (h : wpList P ops Q rest (a.put o.dst (.slice base sLen sCap)) w) : wpList P ops Q (o :: rest) a w := by
  refine wpList_plain hgd fun K hK => ?_
  have hr := run_append_nothing (P := P) w t t o.type e i ht hi base sLen sCap hle xv hsrc
  unfold Oper.wp
  simp [execOp, ho, resolve, invoke, builtin, hs, hx, hr, Result.andThen]
  exact hK _ _ h

set_option maxRecDepth 100000 in
set_option maxHeartbeats 1000000 in
theorem ownS_nil (A : Option Addr) (cap : Nat) (w : World) :
    Calls Tryz.prog 64 #[.slice A 0 cap] w (fun e w' => ∃ A' c, e = .returned (.slice A' 0 c) ∧ Below w.heap.size w w') := by
  obtain ⟨i0, hi, hz0, hz1, hz2⟩ := info_parts Tryz.infoI
  have hS : ∀ wx, Src Tryz.prog i0.size 25 (.slice A 0 cap) 0 [] wx := fun wx => by
    cases A with
    | none => exact Src.ofNil wx Tryz.underlying25 cap
    | some a => exact Src.ofSlice wx Tryz.underlying25 a 0 cap [] (by simp) (by simp) (by simp)
  have HS := Lib.hid hS
  clear hS
  go_enter Tryz.func64, Tryz.ntmps64
  go_wp2_with (at_builtin; refine wpList_append_nothing rfl _ _ 25 rfl 2 i0 Tryz.underlying25 hi _ 0 0 (Nat.le_refl _) rfl _ rfl (HS.out _) ?_)
  go_ret
  exact ⟨_, _, rfl, by go_grown⟩

/-- a copy: its numbers, and its block is new -/
theorem ownS_new (A : Option Addr) (cap : Nat) (zs : List Int) (w : World) (hA : Ints w A zs) (hl : zs.length ≤ 1000000) :
    Calls Tryz.prog 64 #[.slice A zs.length cap] w (fun e w' => ∃ A' c, e = .returned (.slice A' zs.length c) ∧ IntsT w' w.heap.size A' zs ∧ Below w.heap.size w w') := by
  by_cases h : 0 < zs.length
  · obtain ⟨b, o, rfl, hb, hc⟩ := hA h
    refine (ownS_any b o cap zs w hc hb hl h).mono ?_
    rintro e w' ⟨g, c, rfl, hT, hb2⟩
    exact ⟨_, _, rfl, hT, hb2⟩
  · obtain h0 : zs.length = 0 := by omega
    rw [h0]
    refine (ownS_nil A cap w).mono ?_
    rintro e w' ⟨A', c, rfl, hb2⟩
    exact ⟨_, _, rfl, fun h2 => absurd h2 h, hb2⟩

/-- a number of new rows -/
theorem newNum {w : World} {B n cp pk k : Nat} {A : Option Addr} {zss : List (List Int)} (h : NewRows w B n (.slice A zss.length cp) zss) (h0 : 0 < B) (hp : pk < zss.length) (hk : k < n) :
    ∃ b o b' o' cap, A = some ⟨b, o, none⟩ ∧ w.cell? ⟨b, o + pk, none⟩ = some (.slice (some ⟨b', o', none⟩) n cap) ∧ w.cell? ⟨b', o' + k, none⟩ = some (.int .i64 (cf (zss.getD pk []) k)) ∧ 0 ≤ cf (zss.getD pk []) k ∧ cf (zss.getD pk []) k ≤ 1000002 := by
  obtain ⟨b, o, A', cap, e, _, _, hc, hz⟩ := (h.env (bv := 0) h0).sat hp
  obtain ⟨b3, o3, c3, hv3, hb3, hc3⟩ := RowV.at_ (k := k) (w := w) (bv := 0) (n := n) (v := .slice A' n cap) (zs := zss.getD pk []) ⟨A', cap, rfl, hz.len, hz.isAt, hz.isS⟩ hk
  obtain ⟨rfl, rfl⟩ : A' = some ⟨b3, o3, none⟩ ∧ cap = c3 := by simpa using hv3
  exact ⟨b, o, b3, o3, cap, e, hc, hc3, hz.isS k⟩

/-- the row's block lies before the point's -/
def Before (v : Value) (A : Option Addr) (zs : List Int) : Prop := 0 < zs.length → ∀ q, v.ownBlock = some q → ∀ b o, A = some ⟨b, o, none⟩ → q < b
theorem Before.of {w : World} {v : Value} {A : Option Addr} {zs : List Int} {B : Nat} (h : IntsT w B A zs) (hv : ∀ q, v.ownBlock = some q → q < B) : Before v A zs := fun h0 q hq b o e => by
  obtain ⟨b', o', e', h1, _⟩ := h h0
  have h2 := hv q hq
  rw [e] at e'
  simp only [Option.some.injEq, Addr.mk.injEq] at e'
  omega
theorem ints_grown {w w' : World} {v : Value} {A : Option Addr} {zs : List Int} (h : Ints w A zs) (hd : Before v A zs) (hg : w.grownBy w' v.ownBlock) : Ints w' A zs := fun h0 => by
  obtain ⟨b, o, e, hb, hc⟩ := h h0
  have hs := hg.size
  refine ⟨b, o, e, by omega, fun j x hx => ?_⟩
  rw [hg.cell_far ⟨b, o + j, none⟩ hb (fun hq => by have := hd h0 b hq.symm b o e; omega)]
  exact hc j x hx

theorem addPt (zs ds : List Int) (D : Option Addr) (dcap : Nat) (wx : World) (Ap : Option Addr) (cpp k : Nat) (hI : Ints wx Ap (pointL zs ds k)) (hD : Ints wx D ds) (hl : ds.length = zs.length) (hz : zs.length ≤ 12) :
    Calls Tryz.prog 65 #[.slice Ap zs.length cpp, .slice D ds.length dcap] wx fun e w' => ∃ A' c', e = .returned (.slice A' zs.length c') ∧ IntsT w' wx.heap.size A' (pointL zs ds ((k + 1 : Nat) : Int)) ∧ Below wx.heap.size wx w' := by
  have hpl := pointL_length zs ds k
  have h := addS_any Ap D cpp dcap (pointL zs ds k) ds wx hI hD (by rw [hpl]; exact hl) (by rw [hpl]; omega)
  rw [hpl] at h
  rw [hl]
  refine h.mono ?_
  clear h
  rintro e w' ⟨A', c', he, hT, hb⟩
  have e1 : ((k + 1 : Nat) : Int) = (k : Int) + 1 := by omega
  rw [e1, ← point_next]
  rw [addL_length, hpl] at he
  exact ⟨A', c', he, hT, hb⟩

set_option maxRecDepth 100000 in
set_option maxHeartbeats 4000000 in
theorem slopeS_run (P : List Fn) (m pk n : Nat) (g : Fn) (zs ds : List Int) (PA : Option Addr) (pcap : Nat) (A D : Option Addr) (cap dcap : Nat) (w : World) (hP : ProgIn w P PA pcap) (hin : ArgIn P m g zs) (hA : Ints w A zs) (hD : Ints w D ds) (hds : IsS ds) (hdz : ds.length = zs.length) (hpk : pk < g.outs.len) (hn : n ≤ 12) (V : List Int × Int)
    (hV : V = if fstErr (fun k => codeRes (tayR 2 P g.outs (pointL zs ds k) ds)) n = 0 then (mk n fun k => numRes (tayR 2 P g.outs (pointL zs ds k) ds) pk 1, 0) else ([], fstErr (fun k => codeRes (tayR 2 P g.outs (pointL zs ds k) ds)) n))
    (hC : Hid (Calls Tryz.prog 63 #[ptr w.heap.size 0, .int .i64 m, .int .i64 pk, .slice A zs.length cap, .slice D ds.length dcap] (w.alloc (.cells #[.slice PA P.length pcap] 31)) fun e w' => e = .returned (.int .i64 0) ∧ Below (w.alloc (.cells #[.slice PA P.length pcap] 31)).heap.size (w.alloc (.cells #[.slice PA P.length pcap] 31)) w')) :
    Calls Tryz.prog 32 #[prV PA P.length pcap, .int .i64 m, .int .i64 pk, .slice A zs.length cap, .slice D ds.length dcap, .int .i64 n] w (RetIi V.1 V.2 w) := by
  obtain ⟨i0, hi, hz0, hz1, hz2⟩ := info_parts Tryz.infoI
  obtain ⟨hPr, hg⟩ := prBoxAt hP 31
  have HV := Lib.hid hV; clear hV
  have HG := Lib.hid hg
  have hlen := hin.len
  have hp12 := hin.fn.p12
  have ho12 := hin.fn.o12
  have hzs := hin.isS
  obtain ⟨F, hF⟩ : ∃ F : Nat → Int, F = fun k : Nat => codeRes (tayR 2 P g.outs (pointL zs ds k) ds) := ⟨_, rfl⟩
  obtain ⟨G, hG⟩ : ∃ G : Nat → Int, G = fun k : Nat => numRes (tayR 2 P g.outs (pointL zs ds k) ds) pk 1 := ⟨_, rfl⟩
  have HVF : Hid (V = if fstErr F n = 0 then (mk n G, 0) else ([], fstErr F n)) := by show _ = _; rw [HV.out, hF, hG]
  have HFk : Hid (∀ k : Nat, F k = codeRes (tayR 2 P g.outs (pointL zs ds k) ds)) := fun k => by rw [hF]
  have HGk : Hid (∀ k : Nat, G k = numRes (tayR 2 P g.outs (pointL zs ds k) ds) pk 1) := fun k => by rw [hG]
  clear hF hG HV
  have hin12 : Hid (inR (n : Int) 0 12 = true) := inR_true.2 (by omega)
  have HT : Hid (∀ wx Ap cpp (k : Nat), Below w.heap.size w wx → Below (w.heap.size + 1) (w.alloc (.cells #[.slice PA P.length pcap] 31)) wx → Ints wx Ap (pointL zs ds k) → Calls Tryz.prog 42 #[ptr w.heap.size 0, .int .i64 m, .slice Ap zs.length cpp, .slice D ds.length dcap, .int .i64 1] wx (RowsPost 2 (tayR 2 P g.outs (pointL zs ds k) ds) wx)) := fun wx Ap cpp k hx0 hx hI => by
    have h := taylorS_any P m g 1 Ap D cpp dcap (pointL zs ds k) ds w.heap.size 0 (w.heap.size + 1) wx (hPr.below hx) (by have := hx.size; simp at this; omega) (hin.point ds k) hI (hD.below hx0) hds (by rw [pointL_length]; exact hdz) (by omega)
    rw [pointL_length] at h
    exact h
  have HADD : Hid (∀ wx Ap cpp (k : Nat), Below w.heap.size w wx → Ints wx Ap (pointL zs ds k) → Calls Tryz.prog 65 #[.slice Ap zs.length cpp, .slice D ds.length dcap] wx fun e w' => ∃ A' c', e = .returned (.slice A' zs.length c') ∧ IntsT w' wx.heap.size A' (pointL zs ds ((k + 1 : Nat) : Int)) ∧ Below wx.heap.size wx w') := fun wx Ap cpp k hx0 hI => addPt zs ds D dcap wx Ap cpp k hI (hD.below hx0) hdz (by omega)
  have HOWN : Hid (∀ wx, Below w.heap.size w wx → Calls Tryz.prog 64 #[.slice A zs.length cap] wx fun e w' => ∃ A' c, e = .returned (.slice A' zs.length c) ∧ IntsT w' wx.heap.size A' (pointL zs ds ((0 : Nat) : Int)) ∧ Below wx.heap.size wx w') := fun wx hx => by
    rw [show ((0 : Nat) : Int) = 0 from rfl, point_zero hzs]
    exact ownS_new A cap zs wx (hA.below hx) (by omega)
  have HLN : Hid (∀ (k : Nat) zss t, tayR 2 P g.outs (pointL zs ds k) ds = .ok zss t → zss.length = g.outs.len) := fun k zss t h => evalR_len h
  have HER : Hid (∀ (k : Nat) c, tayR 2 P g.outs (pointL zs ds k) ds = .err c → c ≠ 0) := fun k c h => evalR_err h
  have HPL : Hid (∀ k : Nat, (pointL zs ds (k : Int)).length = zs.length) := fun k => pointL_length _ _ _
  clear hin hP hlen hdz hPr hg hA hD
  go_enter Tryz.func32, Tryz.ntmps32
  go_wp2_with fail
  refine hC.out.mono ?_; rintro e w1 ⟨rfl, hb1⟩
  have HB0 := Lib.hid hb1
  have HB1 := Lib.hid (HG.out.trans (hb1.mono HG.out.size))
  clear hb1 hC
  go_wp2_with (go_at_call 49; refine (in_any _ _ _ _).mono ?_; rintro e w' ⟨rfl, rfl⟩; rw [hin12.out])
  have HA0 : Hid (Below w1.heap.size w1 (w1.alloc (.cells #[] 2))) := by show Below _ _ _; go_grown
  refine (HOWN.out _ (bnext HB1.out HA0.out)).mono ?_; rintro e w2 ⟨Ao, co, rfl, hTo, hb2⟩
  have HR0 : Hid (IntRow w2 w1.heap.size (.slice (some ⟨w1.heap.size, 0, none⟩) 0 0) (mk 0 G)) := (rowStart w1 G).keep fun g hg => hb2.block g ((rowStart w1 G).lt hg).2
  have HB2 : Hid (Below w1.heap.size w1 w2) := bnext HA0.out hb2
  have HI0 := Lib.hid hTo.ints
  have HD0 : Hid (Before (.slice (some ⟨w1.heap.size, 0, none⟩) 0 0) Ao (pointL zs ds ((0 : Nat) : Int))) := Before.of hTo fun q hq => ((rowStart w1 G).lt hq).2
  clear hb2 hTo HA0
  obtain ⟨wo, rfl⟩ : ∃ wo : World, wo = w1 := ⟨_, rfl⟩
  go_wp2
  go_loopw [15, 16, 17] (fun o a i wr => ∃ (k : Nat) (Av : Option Addr) (cp : Nat) (Ap : Option Addr) (cpp : Nat), k ≤ n ∧ i = .int .i64 (k : Int) ∧ o = .slice Av k cp ∧ a = .slice Ap zs.length cpp ∧ Hid (IntRow wr wo.heap.size (.slice Av k cp) (mk k G)) ∧ Hid (Below wo.heap.size wo wr) ∧ Hid (Ints wr Ap (pointL zs ds k)) ∧ Hid (Before (.slice Av k cp) Ap (pointL zs ds k)) ∧ Hid (fstErr F k = 0)) (fun _ _ i _ => n - (intOf i).toNat)
  case atStart => exact ⟨0, _, _, _, _, by omega, by go_num, rfl, rfl, HR0.out, HB2.out, HI0.out, HD0.out, rfl⟩
  case round =>
    obtain ⟨k, Av, cp, Ap, cpp, hk, rfl, rfl, rfl, HR, HB, HI, HD, HE⟩ := hrel
    by_cases hlt : k < n
    · have hkn : (k : Int) < (n : Int) := by omega
      have hk12 : k ≤ 12 := by omega
      have HBw := Lib.hid (bnext HB1.out HB.out)
      have HTC := Lib.hid (HT.out wr Ap cpp k HBw.out (HB0.out.trans (HB.out.mono HB0.out.size) |>.mono (by simp)) HI.out)
      obtain ⟨R, hR⟩ : ∃ R, R = tayR 2 P g.outs (pointL zs ds k) ds := ⟨_, rfl⟩
      rw [← hR] at HTC
      have HRR := Lib.hid hR; clear hR
      cases R with
      | err c =>
        have hc := HER.out k c HRR.out.symm
        have hc1 : (c == 0) = false := by simpa using hc
        go_wp2_with fail
        refine HTC.out.mono ?_; rintro e w3 ⟨hb3, Ah, ch, rfl⟩
        have HB3 := Lib.hid (bnext HBw.out hb3)
        clear hb3
        go_wp2
        go_ret2
        have hfe : F k = c := by rw [HFk.out, ← HRR.out]; rfl
        have h2 := fstErr_at HE.out (by rw [hfe]; exact hc) n hlt
        have hv := HVF.out
        rw [h2, hfe, if_neg hc] at hv
        rw [hv]
        exact retIi_nil (HB3.out.trans ((show Below w3.heap.size w3 (w3.alloc (.cells #[] 2)) by go_grown).mono HB3.out.size))
      | ok zss t =>
        have hzn := HLN.out k zss t HRR.out.symm
        have hpz : pk < zss.length := by omega
        have hpzI : (pk : Int) < (zss.length : Int) := by omega
        have hz12 : zss.length ≤ 12 := by omega
        have hfe : F k = 0 := by rw [HFk.out, ← HRR.out]; rfl
        have HE2 := Lib.hid (fstErr_next HE.out hfe)
        have HGx : Hid (cf (zss.getD pk []) 1 = G k) := by
          show _ = _
          rw [HGk.out, ← HRR.out]
          rfl
        clear hzn hfe
        go_wp2_with fail
        refine HTC.out.mono ?_; rintro e w3 ⟨hb3, Ah, ch, rfl, hN⟩
        have hs0 : 0 < wr.heap.size := by have s1 := HB0.out.size; simp at s1; have s2 := HB.out.size; omega
        obtain ⟨b, o, b', o', ca, rfl, g1, g2, _⟩ := newNum (k := 1) hN hs0 hpz (by omega)
        have HB3 := Lib.hid hb3
        have HBo3 := Lib.hid (bnext HB.out hb3)
        have hR3 : IntRow w3 wo.heap.size (.slice Av k cp) (mk k G) := HR.out.keep fun g hg => hb3.block g (HR.out.lt hg).2
        have HR3 := Lib.hid hR3
        have HI3 := Lib.hid (HI.out.below hb3)
        obtain ⟨x, hx⟩ : ∃ x, x = cf (zss.getD pk []) 1 := ⟨_, rfl⟩
        rw [← hx] at g2
        have HX2 : Hid (x = G k) := by show _ = _; rw [hx]; exact HGx.out
        clear hb3 hN hR3 hx
        go_wp2_with (at_builtin; refine wpList_append_own _ rfl _ _ 25 rfl wo.heap.size 2 i0 (.int .i64 0) 1 8 Tryz.underlying25 hi hz0 hz1 hz2 rfl (by decide) _ k _ rfl ((HR3.out.ownN (mk_length _ _).symm).alloc _) ⟨w3.heap.size, 0, none⟩ 1 1 [.int .i64 x] rfl rfl ?c1 ?c2 ?c3 ?c4 ?c5 ?_)
        try (case c1 => exact cell_one_new _ _ _)
        try (case c2 => first | rfl | (intro u hu; simp at hu; subst hu; rfl))
        case c3 => unfold maxLen; omega
        case c4 => omega
        case c5 => have := HBo3.out.size; simp; try omega
        intro v2 w4 hown hg _
        have HI4 := Lib.hid (ints_grown (HI3.out.below (show Below w3.heap.size w3 _ by go_grown)) HD.out hg)
        obtain ⟨⟨A2, c2, rfl⟩, hr2, hb2⟩ := rowNext HR3.out HBo3.out (by go_grown) HX2.out hown hg
        have HR4 := Lib.hid hr2
        have HB4 := Lib.hid hb2
        have HAD := Lib.hid (HADD.out w4 Ap cpp k (bnext HB1.out hb2) HI4.out)
        clear hr2 hb2 hown hg HR3 HB3 HBo3 HX2 HTC g1 g2 HI3 HI HD HI4 HR
        go_wp2_with fail
        refine HAD.out.mono ?_; rintro e w5 ⟨A5, c5, rfl, hT5, hb5⟩
        have HR5 : Hid (IntRow w5 wo.heap.size (.slice A2 (k + 1) c2) (mk (k + 1) G)) := HR4.out.keep fun g hg => hb5.block g (HR4.out.lt hg).2
        have HB5 := Lib.hid (bnext HB4.out hb5)
        have HI5 := Lib.hid hT5.ints
        have HD5 : Hid (Before (.slice A2 (k + 1) c2) A5 (pointL zs ds ((k + 1 : Nat) : Int))) := Before.of hT5 fun q hq => (HR4.out.lt hq).2
        clear hT5 hb5 HAD
        go_wp2
        go_roundw
        case rel => exact ⟨k + 1, A2, c2, A5, c5, by omega, by go_num, rfl, rfl, HR5.out, HB5.out, HI5.out, HD5.out, HE2.out⟩
        case measure => simp [intOf]; omega
    · obtain rfl : k = n := by omega
      obtain ⟨A2, c2, he2, hT2, hB2⟩ := rowEnd HR.out HB.out
      have HT2 : Hid (IntsT wr wo.heap.size Av (mk k G)) := by
        rw [mk_length] at he2
        obtain ⟨rfl, _⟩ : Av = A2 ∧ cp = c2 := by simpa using he2
        exact hT2
      clear he2 hT2 hB2
      go_wp2
      go_ret2
      have hv := HVF.out
      rw [if_pos HE.out] at hv
      rw [hv]
      have h1 := HB1.out.size
      refine ⟨bnext HB1.out HB.out, Av, cp, ?_, riMono (w := w) (HT2.out.m.reg HB.out.size) h1 (Nat.le_refl _) rfl⟩
      show _ = Ending.returned (.tuple #[.slice Av (mk k G).length cp, .int .i64 0])
      rw [mk_length]
      rfl

end Go.Proofs.YtjohkheclglpjaaGreat

/- Walks: SlopeAlong of the spec and of the program, whole. -/
namespace Go.Proofs.YtjohkheclglpjaaGreat
open Go.RowKit Plain

theorem slopeV_in {P : List Fn} {m : Nat} {g : Fn} {zs ds : List Int} {pk n : Nat} (hv : pickV P m pk zs ds = 0) (hq : inR (n : Int) 0 12 = true) (hg : P[m]? = some g) :
    slopeV P m pk zs ds n = if fstErr (fun k => codeRes (tayR 2 P g.outs (pointL zs ds k) ds)) n = 0 then (mk n fun k => numRes (tayR 2 P g.outs (pointL zs ds k) ds) pk 1, 0) else ([], fstErr (fun k => codeRes (tayR 2 P g.outs (pointL zs ds k) ds)) n) := by
  unfold slopeV
  rw [if_pos hv, if_pos hq]
  simp only [Int.toNat_natCast, hg]

set_option maxRecDepth 100000 in
set_option maxHeartbeats 1000000 in
theorem slopeI (P : List Fn) (f pick : Int) (zs ds : List Int) (n : Int) {PA : Option Addr} {pcap : Nat} {A D : Option Addr} {cap dcap : Nat} (w : World) (hP : ProgIn w P PA pcap) (hA : Ints w A zs) (hl : zs.length ≤ 1048576) (hD : Ints w D ds) (hdl : ds.length ≤ 1048576) :
    Calls Tryz.prog 33 #[prV PA P.length pcap, .int .i64 f, .int .i64 pick, .slice A zs.length cap, .slice D ds.length dcap, .int .i64 n] w (RetIi (slopeV P f pick zs ds n).1 (slopeV P f pick zs ds n).2 w) := by
  have hg0 : Below w.heap.size w (w.alloc (.cells #[.slice PA P.length pcap] 31)) := by go_grown
  have HC := Lib.hid (isPicked_any P f pick zs ds (cap := cap) (dcap := dcap) _ (hP.below hg0) (hA.below hg0) hl (hD.below hg0) hdl)
  by_cases hv : pickV P f pick zs ds = 0
  · have hlv := (pickV_zero hv).1
    have hpi := inR_true.1 (pickV_zero hv).2
    obtain ⟨hav, hdz, hds⟩ := lineV_zero hlv
    obtain ⟨_, m, g, rfl, hin⟩ := argV_zero hav
    obtain ⟨pk, rfl⟩ := Int.eq_ofNat_of_zero_le hpi.1
    have hpk : pk < g.outs.len := by
      have h := hpi.2
      unfold outsN at h
      simp [hin.fn.fn] at h
      omega
    cases hq : inR n 0 12
    · rw [hv] at HC
      have HV : Hid (slopeV P m pk zs ds n = ([], 2)) := by show _ = _; unfold slopeV; rw [if_pos hv, hq]; rfl
      rw [HV.out]
      have HQ := Lib.hid hq
      clear hv hq hP hA hD hg0 hav hdz hds hin hlv hpi hpk
      go_enter Tryz.func33, Tryz.ntmps33
      go_wp2_with fail
      refine HC.out.mono ?_; rintro e w1 ⟨rfl, hb1⟩
      have Q2 := Lib.hid (prBox (C := [Value.slice PA P.length pcap]) hb1).2
      clear hb1
      go_wp2_with (go_at_call 50; refine (within_any _ _ _ _).mono ?_; rintro e w' ⟨rfl, rfl⟩; rw [HQ.out])
      go_ret2
      exact retIi_nil Q2.out
    · have ho := inR_true.1 hq
      obtain ⟨q, rfl⟩ := Int.eq_ofNat_of_zero_le ho.1
      have hq12 : q ≤ 12 := by omega
      have hV := slopeV_in hv hq hin.fn.fn
      refine slopeI_run P m pk q g zs ds PA pcap A D cap dcap w hP hin hA hD hds hdz hpk hq12 _ hV fun wx hx => ?_
      have h := isPicked_any P m pk zs ds (cap := cap) (dcap := dcap) wx (hP.below hx) (hA.below hx) hl (hD.below hx) hdl
      rw [hv] at h
      exact h
  · have HV : Hid (slopeV P f pick zs ds n = ([], pickV P f pick zs ds)) := by show _ = _; unfold slopeV; rw [if_neg hv]
    rw [HV.out]
    generalize pickV P f pick zs ds = V at *
    have hv1 : (V == 0) = false := by simpa using hv
    clear hP hA hD hg0
    go_enter Tryz.func33, Tryz.ntmps33
    go_wp2_with fail
    refine HC.out.mono ?_; rintro e w1 ⟨rfl, hb1⟩
    have Q2 := Lib.hid (prBox (C := [Value.slice PA P.length pcap]) hb1).2
    clear hb1
    go_wp2
    go_ret2
    exact retIi_nil Q2.out

set_option maxRecDepth 100000 in
set_option maxHeartbeats 1000000 in
theorem slopeS (P : List Fn) (f pick : Int) (zs ds : List Int) (n : Int) {PA : Option Addr} {pcap : Nat} {A D : Option Addr} {cap dcap : Nat} (w : World) (hP : ProgIn w P PA pcap) (hA : Ints w A zs) (hl : zs.length ≤ 1048576) (hD : Ints w D ds) (hdl : ds.length ≤ 1048576) :
    Calls Tryz.prog 32 #[prV PA P.length pcap, .int .i64 f, .int .i64 pick, .slice A zs.length cap, .slice D ds.length dcap, .int .i64 n] w (RetIi (slopeV P f pick zs ds n).1 (slopeV P f pick zs ds n).2 w) := by
  obtain ⟨hPr, hg⟩ := prBoxAt hP 31
  have HC := Lib.hid (pickedS_any P f pick A D cap dcap zs ds w.heap.size 0 (w.heap.size + 1) _ hPr (by simp) hP.sz (hA.below hg) (by omega) (hD.below hg) (by omega))
  have HG := Lib.hid hg
  by_cases hv : pickV P f pick zs ds = 0
  · have hlv := (pickV_zero hv).1
    have hpi := inR_true.1 (pickV_zero hv).2
    obtain ⟨hav, hdz, hds⟩ := lineV_zero hlv
    obtain ⟨_, m, g, rfl, hin⟩ := argV_zero hav
    obtain ⟨pk, rfl⟩ := Int.eq_ofNat_of_zero_le hpi.1
    have hpk : pk < g.outs.len := by
      have h := hpi.2
      unfold outsN at h
      simp [hin.fn.fn] at h
      omega
    cases hq : inR n 0 12
    · rw [hv] at HC
      have HV : Hid (slopeV P m pk zs ds n = ([], 2)) := by show _ = _; unfold slopeV; rw [if_pos hv, hq]; rfl
      rw [HV.out]
      have HQ := Lib.hid hq
      clear hv hq hPr hP hA hD hg hav hdz hds hin hlv hpi hpk
      go_enter Tryz.func32, Tryz.ntmps32
      go_wp2_with fail
      refine HC.out.mono ?_; rintro e w1 ⟨rfl, hb1⟩
      have HB := Lib.hid (HG.out.trans (hb1.mono HG.out.size))
      clear hb1
      go_wp2_with (go_at_call 49; refine (in_any _ _ _ _).mono ?_; rintro e w' ⟨rfl, rfl⟩; rw [HQ.out])
      go_ret2
      exact retIi_nil (HB.out.trans ((show Below w1.heap.size w1 (w1.alloc (.cells #[] 2)) by go_grown).mono HB.out.size))
    · have ho := inR_true.1 hq
      obtain ⟨q, rfl⟩ := Int.eq_ofNat_of_zero_le ho.1
      have hq12 : q ≤ 12 := by omega
      have hV := slopeV_in hv hq hin.fn.fn
      have h := HC.out
      rw [hv] at h
      exact slopeS_run P m pk q g zs ds PA pcap A D cap dcap w hP hin hA hD hds hdz hpk hq12 _ hV h
  · have HV : Hid (slopeV P f pick zs ds n = ([], pickV P f pick zs ds)) := by show _ = _; unfold slopeV; rw [if_neg hv]
    rw [HV.out]
    generalize pickV P f pick zs ds = V at *
    have hv1 : (V == 0) = false := by simpa using hv
    clear hPr hP hA hD hg
    go_enter Tryz.func32, Tryz.ntmps32
    go_wp2_with fail
    refine HC.out.mono ?_; rintro e w1 ⟨rfl, hb1⟩
    have HB := Lib.hid (HG.out.trans (hb1.mono HG.out.size))
    clear hb1
    go_wp2
    go_ret2
    exact retIi_nil (HB.out.trans ((show Below w1.heap.size w1 (w1.alloc (.cells #[] 2)) by go_grown).mono HB.out.size))

end Go.Proofs.YtjohkheclglpjaaGreat

/- The walk of the law FnExactSlopeAlong. -/
namespace Go.Proofs.YtjohkheclglpjaaGreat
open Go.RowKit Plain

set_option maxRecDepth 100000 in
set_option maxHeartbeats 1000000 in
theorem lawExactSlopeAlong_0 (P0 : List Fn) (A0 : Option Addr) (cap0 : Nat) (a1 : Int) (a2 : Int) (A3 : Option Addr) (cap3 : Nat) (z3 : List Int) (A4 : Option Addr) (cap4 : Nat) (z4 : List Int) (a5 : Int) (w : World) (_h0 : FnSl w w.heap.size P0 A0) (_hl0 : P0.length ≤ cap0) (_hm0 : cap0 ≤ maxLen) (_w1 : (Lit.int .i64 a1).wf = true) (_w2 : (Lit.int .i64 a2).wf = true) (_h3 : Ints w A3 z3) (_h4 : Ints w A4 z4) (_w5 : (Lit.int .i64 a5).wf = true)  (_c0 : ¬ z3.length ≤ 1048576) :
    Calls Tryz.prog 7 #[prV A0 P0.length cap0, .int .i64 a1, .int .i64 a2, .slice A3 z3.length cap3, .slice A4 z4.length cap4, .int .i64 a5] w fun e w' => e = .returned (.bool true) ∧ Below w.heap.size w w' := by
  go_enter Tryz.func7, Tryz.ntmps7
  go_wp2
  go_ret
  exact ⟨rfl, by go_grown⟩

set_option maxRecDepth 100000 in
set_option maxHeartbeats 1000000 in
theorem lawExactSlopeAlong_1 (P0 : List Fn) (A0 : Option Addr) (cap0 : Nat) (a1 : Int) (a2 : Int) (A3 : Option Addr) (cap3 : Nat) (z3 : List Int) (A4 : Option Addr) (cap4 : Nat) (z4 : List Int) (a5 : Int) (w : World) (_h0 : FnSl w w.heap.size P0 A0) (_hl0 : P0.length ≤ cap0) (_hm0 : cap0 ≤ maxLen) (_w1 : (Lit.int .i64 a1).wf = true) (_w2 : (Lit.int .i64 a2).wf = true) (_h3 : Ints w A3 z3) (_h4 : Ints w A4 z4) (_w5 : (Lit.int .i64 a5).wf = true) (_c0 : z3.length ≤ 1048576) (_c1 : ¬ z4.length ≤ 1048576) :
    Calls Tryz.prog 7 #[prV A0 P0.length cap0, .int .i64 a1, .int .i64 a2, .slice A3 z3.length cap3, .slice A4 z4.length cap4, .int .i64 a5] w fun e w' => e = .returned (.bool true) ∧ Below w.heap.size w w' := by
  go_enter Tryz.func7, Tryz.ntmps7
  go_wp2
  go_ret
  exact ⟨rfl, by go_grown⟩

set_option maxRecDepth 100000 in
set_option maxHeartbeats 1000000 in
theorem lawExactSlopeAlong_2 (P0 : List Fn) (A0 : Option Addr) (cap0 : Nat) (a1 : Int) (a2 : Int) (A3 : Option Addr) (cap3 : Nat) (z3 : List Int) (A4 : Option Addr) (cap4 : Nat) (z4 : List Int) (a5 : Int) (w : World) (h0 : FnSl w w.heap.size P0 A0) (_hl0 : P0.length ≤ cap0) (hm0 : cap0 ≤ maxLen) (_w1 : (Lit.int .i64 a1).wf = true) (_w2 : (Lit.int .i64 a2).wf = true) (_h3 : Ints w A3 z3) (_h4 : Ints w A4 z4) (_w5 : (Lit.int .i64 a5).wf = true) (_c0 : z3.length ≤ 1048576) (_c1 : z4.length ≤ 1048576) (c2 : ¬ fnSize P0 ≤ 1048576) :
    Calls Tryz.prog 7 #[prV A0 P0.length cap0, .int .i64 a1, .int .i64 a2, .slice A3 z3.length cap3, .slice A4 z4.length cap4, .int .i64 a5] w fun e w' => e = .returned (.bool true) ∧ Below w.heap.size w w' := by
  have C2 := Lib.hid c2; clear c2
  have S0 := Lib.hid h0; clear h0
  have HM0 : cap0 ≤ 9223372036854775807 := by have := hm0; unfold maxLen at this; omega
  have HB0 : Hid (Below w.heap.size w (w.alloc (.cells #[.slice A0 P0.length cap0] 24))) := by show Below _ _ _; go_grown
  go_enter Tryz.func7, Tryz.ntmps7
  go_wp2_with fail
  refine (szProgram_any P0 A0 cap0 w.heap.size 1048576 _ (S0.out.below HB0.out) HB0.out.size (by omega) (by omega) (by omega)).mono ?_; rintro e w1 ⟨rfl, hb1⟩
  have HB1 := Lib.hid (bnext HB0.out hb1); clear hb1
  rw [szV_no (by have := C2.out; omega)]
  go_wp2
  go_ret
  exact ⟨rfl, HB1.out⟩

set_option maxRecDepth 100000 in
set_option maxHeartbeats 8000000 in
theorem lawExactSlopeAlong_ok (P0 : List Fn) (A0 : Option Addr) (cap0 : Nat) (a1 : Int) (a2 : Int) (A3 : Option Addr) (cap3 : Nat) (z3 : List Int) (A4 : Option Addr) (cap4 : Nat) (z4 : List Int) (a5 : Int) (w : World) (h0 : FnSl w w.heap.size P0 A0) (_hl0 : P0.length ≤ cap0) (_hm0 : cap0 ≤ maxLen) (_w1 : (Lit.int .i64 a1).wf = true) (_w2 : (Lit.int .i64 a2).wf = true) (h3 : Ints w A3 z3) (h4 : Ints w A4 z4) (_w5 : (Lit.int .i64 a5).wf = true) (_c0 : z3.length ≤ 1048576) (_c1 : z4.length ≤ 1048576) (c2 : fnSize P0 ≤ 1048576) :
    Calls Tryz.prog 7 #[prV A0 P0.length cap0, .int .i64 a1, .int .i64 a2, .slice A3 z3.length cap3, .slice A4 z4.length cap4, .int .i64 a5] w fun e w' => e = .returned (.bool true) ∧ Below w.heap.size w w' := by
  have C2 := Lib.hid c2; clear c2
  have S0 := Lib.hid h0; clear h0
  have Z0 : Hid (fnSize P0 ≤ 1048576) := by have := C2.out; show _ ≤ _; omega
  have pl0 : P0.length ≤ 1048576 := by have := Z0.out; unfold fnSize at this; omega
  have S3 := Lib.hid h3; clear h3
  have S4 := Lib.hid h4; clear h4
  obtain ⟨v0, hv0⟩ : ∃ v : List Int, v = (slopeV P0 a1 a2 z3 z4 a5).1 := ⟨_, rfl⟩
  obtain ⟨v1, hv1⟩ : ∃ v : Int, v = (slopeV P0 a1 a2 z3 z4 a5).2 := ⟨_, rfl⟩
  have n0 : v0.length ≤ 4194304 := by rw [hv0]; exact slopeV_len P0 a1 a2 z3 z4 a5
  have V0 := Lib.hid hv0; clear hv0
  have V1 := Lib.hid hv1; clear hv1
  have HB0 : Hid (Below w.heap.size w (w.alloc (.cells #[.slice A0 P0.length cap0] 24))) := by show Below _ _ _; go_grown
  have HS0 := Lib.hid HB0.out.size
  have BX0_0 : Hid (Reg (w.alloc (.cells #[.slice A0 P0.length cap0] 24)) (w.heap.size) (w.heap.size + 1) (fun w' => Cells w' (w.heap.size) 24 [.slice A0 P0.length cap0])) := regBox (Cells.new w 24 [.slice A0 P0.length cap0])
  have HQB0 := Lib.hid BX0_0.out.size
  go_enter Tryz.func7, Tryz.ntmps7
  have qBX0_0 : World.cell? (w.alloc (.cells #[.slice A0 P0.length cap0] 24)) ⟨w.heap.size, 0, none⟩ = some (.slice A0 P0.length cap0) := by rw [BX0_0.out.now.cell]; rfl
  go_wp2_with fail
  refine (szProgram_any P0 A0 cap0 w.heap.size 1048576 _ (S0.out.below HB0.out) HB0.out.size (by omega) (by omega) (by omega)).mono ?_; rintro e w1 ⟨rfl, hb1⟩
  clear qBX0_0
  have HB1 := Lib.hid (bnext HB0.out hb1)
  have BX0_1 := Lib.hid (BX0_0.out.below hb1); clear BX0_0
  have HS1 := Lib.hid hb1.size
  clear hb1
  rw [szV_yes (by have := C2.out; omega)]
  obtain ⟨l2, hl2⟩ : ∃ l2 : Int, l2 = 1048576 - fnSize P0 := ⟨_, rfl⟩
  rw [← hl2]
  have lo2 : 0 ≤ l2 := by have := C2.out; omega
  have hi2 : l2 ≤ 1048576 := by omega
  have HL2 := Lib.hid hl2; clear hl2
  have qBX0_0 : World.cell? w1 ⟨w.heap.size, 0, none⟩ = some (.slice A0 P0.length cap0) := by rw [BX0_1.out.now.cell]; rfl
  go_wp2_with fail
  refine (toProgR Z0.out cap0 (S0.out.below HB1.out) HB1.out.size).mono ?_; rintro e w2 ⟨g2, hg2, rfl, hX2, hb2⟩
  clear qBX0_0
  have HB2 := Lib.hid (bnext HB1.out hb2)
  have BX0_2 := Lib.hid (BX0_1.out.below hb2); clear BX0_1
  have HS2 := Lib.hid hb2.size
  clear hb2
  have HG2 := Lib.hid hg2; clear hg2
  have U0_2 := Lib.hid hX2; clear hX2
  have HQ2 := Lib.hid U0_2.out.le
  have qBX0_0 : World.cell? w2 ⟨w.heap.size, 0, none⟩ = some (.slice A0 P0.length cap0) := by rw [BX0_2.out.now.cell]; rfl
  go_wp2_with fail
  refine (toR A3 cap3 z3 _ (S3.out.below HB2.out) (by omega)).mono ?_; rintro e w3 ⟨rfl, hX3, hb3⟩
  clear qBX0_0
  have HB3 := Lib.hid (bnext HB2.out hb3)
  have BX0_3 := Lib.hid (BX0_2.out.below hb3); clear BX0_2
  have U0_3 := Lib.hid (U0_2.out.below hb3); clear U0_2
  have HS3 := Lib.hid hb3.size
  clear hb3
  have U3_3 := Lib.hid hX3; clear hX3
  have HQ3 := Lib.hid U3_3.out.le
  have qBX0_0 : World.cell? w3 ⟨w.heap.size, 0, none⟩ = some (.slice A0 P0.length cap0) := by rw [BX0_3.out.now.cell]; rfl
  go_wp2_with fail
  refine (toR A4 cap4 z4 _ (S4.out.below HB3.out) (by omega)).mono ?_; rintro e w4 ⟨rfl, hX4, hb4⟩
  clear qBX0_0
  have HB4 := Lib.hid (bnext HB3.out hb4)
  have BX0_4 := Lib.hid (BX0_3.out.below hb4); clear BX0_3
  have U0_4 := Lib.hid (U0_3.out.below hb4); clear U0_3
  have U3_4 := Lib.hid (U3_3.out.below hb4); clear U3_3
  have HS4 := Lib.hid hb4.size
  clear hb4
  have U4_4 := Lib.hid hX4; clear hX4
  have HQ4 := Lib.hid U4_4.out.le
  have qBX0_0 : World.cell? w4 ⟨w.heap.size, 0, none⟩ = some (.slice A0 P0.length cap0) := by rw [BX0_4.out.now.cell]; rfl
  go_wp2_with fail
  refine (slopeS P0 a1 a2 z3 z4 a5 _ (regPIn U0_4.out Z0.out) (regInts U3_4.out) (by omega) (regInts U4_4.out) (by omega)).mono ?_
  rw [← V0.out, ← V1.out]
  rintro e w5 ⟨hb5, AR0, cR0, rfl, hR5⟩
  clear U0_4
  clear U3_4
  clear U4_4
  clear qBX0_0
  have HB5 := Lib.hid (bnext HB4.out hb5)
  have BX0_5 := Lib.hid (BX0_4.out.below hb5); clear BX0_4
  have HS5 := Lib.hid hb5.size
  clear hb5
  have R0_5 := Lib.hid hR5; clear hR5
  have qBX0_0 : World.cell? w5 ⟨w.heap.size, 0, none⟩ = some (.slice A0 P0.length cap0) := by rw [BX0_5.out.now.cell]; rfl
  go_wp2_with fail
  refine (toProgR Z0.out cap0 (S0.out.below HB5.out) HB5.out.size).mono ?_; rintro e w6 ⟨g6, hg6, rfl, hX6, hb6⟩
  clear qBX0_0
  have HB6 := Lib.hid (bnext HB5.out hb6)
  have BX0_6 := Lib.hid (BX0_5.out.below hb6); clear BX0_5
  have R0_6 := Lib.hid (R0_5.out.below hb6); clear R0_5
  have HS6 := Lib.hid hb6.size
  clear hb6
  have HG6 := Lib.hid hg6; clear hg6
  have X0_6 := Lib.hid hX6; clear hX6
  have HQ6 := Lib.hid X0_6.out.le
  have qBX0_0 : World.cell? w6 ⟨w.heap.size, 0, none⟩ = some (.slice A0 P0.length cap0) := by rw [BX0_6.out.now.cell]; rfl
  go_wp2_with fail
  clear qBX0_0
  have hb7 : Below w6.heap.size w6 (w6.alloc (.cells #[.slice (some ⟨g6, 0, none⟩) P0.length P0.length] 31)) := by go_grown
  have BC7 : Hid (Cells (w6.alloc (.cells #[.slice (some ⟨g6, 0, none⟩) P0.length P0.length] 31)) w6.heap.size 31 [.slice (some ⟨g6, 0, none⟩) P0.length P0.length]) := Cells.new w6 31 [.slice (some ⟨g6, 0, none⟩) P0.length P0.length]
  change Calls _ _ _ (w6.alloc (.cells #[.slice (some ⟨g6, 0, none⟩) P0.length P0.length] 31)) _
  generalize (w6.alloc (.cells #[.slice (some ⟨g6, 0, none⟩) P0.length P0.length] 31)) = w7 at *
  have HB7 := Lib.hid (bnext HB6.out hb7)
  have BX0_7 := Lib.hid (BX0_6.out.below hb7); clear BX0_6
  have R0_7 := Lib.hid (R0_6.out.below hb7); clear R0_6
  have X0_7 := Lib.hid (X0_6.out.below hb7); clear X0_6
  have HS7 := Lib.hid hb7.size
  clear hb7
  have VX0_7 : Hid (Reg w7 w6.heap.size (w6.heap.size + 1) (fun w' => Cells w' w6.heap.size 31 [.slice (some ⟨g6, 0, none⟩) P0.length P0.length])) := regBox BC7.out
  clear BC7
  have HQ7 := Lib.hid VX0_7.out.size
  have qBX0_0 : World.cell? w7 ⟨w.heap.size, 0, none⟩ = some (.slice A0 P0.length cap0) := by rw [BX0_7.out.now.cell]; rfl
  have qVX0_0 : World.cell? w7 ⟨w6.heap.size, 0, none⟩ = some (.slice (some ⟨g6, 0, none⟩) P0.length P0.length) := by rw [VX0_7.out.now.cell]; rfl
  skip
  refine (toR A3 cap3 z3 _ (S3.out.below HB7.out) (by omega)).mono ?_; rintro e w8 ⟨rfl, hX8, hb8⟩
  clear qBX0_0 qVX0_0
  have HB8 := Lib.hid (bnext HB7.out hb8)
  have BX0_8 := Lib.hid (BX0_7.out.below hb8); clear BX0_7
  have R0_8 := Lib.hid (R0_7.out.below hb8); clear R0_7
  have X0_8 := Lib.hid (X0_7.out.below hb8); clear X0_7
  have VX0_8 := Lib.hid (VX0_7.out.below hb8); clear VX0_7
  have HS8 := Lib.hid hb8.size
  clear hb8
  have X3_8 := Lib.hid hX8; clear hX8
  have HQ8 := Lib.hid X3_8.out.le
  have qBX0_0 : World.cell? w8 ⟨w.heap.size, 0, none⟩ = some (.slice A0 P0.length cap0) := by rw [BX0_8.out.now.cell]; rfl
  have qVX0_0 : World.cell? w8 ⟨w6.heap.size, 0, none⟩ = some (.slice (some ⟨g6, 0, none⟩) P0.length P0.length) := by rw [VX0_8.out.now.cell]; rfl
  go_wp2_with fail
  refine (toR A4 cap4 z4 _ (S4.out.below HB8.out) (by omega)).mono ?_; rintro e w9 ⟨rfl, hX9, hb9⟩
  clear qBX0_0 qVX0_0
  have HB9 := Lib.hid (bnext HB8.out hb9)
  have BX0_9 := Lib.hid (BX0_8.out.below hb9); clear BX0_8
  have R0_9 := Lib.hid (R0_8.out.below hb9); clear R0_8
  have X0_9 := Lib.hid (X0_8.out.below hb9); clear X0_8
  have VX0_9 := Lib.hid (VX0_8.out.below hb9); clear VX0_8
  have X3_9 := Lib.hid (X3_8.out.below hb9); clear X3_8
  have HS9 := Lib.hid hb9.size
  clear hb9
  have X4_9 := Lib.hid hX9; clear hX9
  have HQ9 := Lib.hid X4_9.out.le
  have qBX0_0 : World.cell? w9 ⟨w.heap.size, 0, none⟩ = some (.slice A0 P0.length cap0) := by rw [BX0_9.out.now.cell]; rfl
  have qVX0_0 : World.cell? w9 ⟨w6.heap.size, 0, none⟩ = some (.slice (some ⟨g6, 0, none⟩) P0.length P0.length) := by rw [VX0_9.out.now.cell]; rfl
  go_wp2_with fail
  refine (slopeI P0 a1 a2 z3 z4 a5 _ (regPIn X0_9.out Z0.out) (regInts X3_9.out) (by omega) (regInts X4_9.out) (by omega)).mono ?_
  rw [← V0.out, ← V1.out]
  rintro e w10 ⟨hb10, AG0, cG0, rfl, hR10⟩
  clear qBX0_0 qVX0_0
  have HB10 := Lib.hid (bnext HB9.out hb10)
  have BX0_10 := Lib.hid (BX0_9.out.below hb10); clear BX0_9
  have R0_10 := Lib.hid (R0_9.out.below hb10); clear R0_9
  have X0_10 := Lib.hid (X0_9.out.below hb10); clear X0_9
  have VX0_10 := Lib.hid (VX0_9.out.below hb10); clear VX0_9
  have X3_10 := Lib.hid (X3_9.out.below hb10); clear X3_9
  have X4_10 := Lib.hid (X4_9.out.below hb10); clear X4_9
  have HS10 := Lib.hid hb10.size
  clear hb10
  have G0_10 := Lib.hid hR10; clear hR10
  have qBX0_0 : World.cell? w10 ⟨w.heap.size, 0, none⟩ = some (.slice A0 P0.length cap0) := by rw [BX0_10.out.now.cell]; rfl
  have qVX0_0 : World.cell? w10 ⟨w6.heap.size, 0, none⟩ = some (.slice (some ⟨g6, 0, none⟩) P0.length P0.length) := by rw [VX0_10.out.now.cell]; rfl
  go_wp2_with fail
  refine (eqR cG0 cR0 (regInts G0_10.out) (regInts R0_10.out) (by omega)).mono ?_; rintro e w11 ⟨rfl, hb11⟩
  clear qBX0_0 qVX0_0
  have HB11 := Lib.hid (bnext HB10.out hb11)
  have BX0_11 := Lib.hid (BX0_10.out.below hb11); clear BX0_10
  have R0_11 := Lib.hid (R0_10.out.below hb11); clear R0_10
  have X0_11 := Lib.hid (X0_10.out.below hb11); clear X0_10
  have VX0_11 := Lib.hid (VX0_10.out.below hb11); clear VX0_10
  have X3_11 := Lib.hid (X3_10.out.below hb11); clear X3_10
  have X4_11 := Lib.hid (X4_10.out.below hb11); clear X4_10
  have G0_11 := Lib.hid (G0_10.out.below hb11); clear G0_10
  have HS11 := Lib.hid hb11.size
  clear hb11
  have qBX0_0 : World.cell? w11 ⟨w.heap.size, 0, none⟩ = some (.slice A0 P0.length cap0) := by rw [BX0_11.out.now.cell]; rfl
  have qVX0_0 : World.cell? w11 ⟨w6.heap.size, 0, none⟩ = some (.slice (some ⟨g6, 0, none⟩) P0.length P0.length) := by rw [VX0_11.out.now.cell]; rfl
  go_wp2_with fail
  have KT12 : Hid (∀ wx, Below w11.heap.size w11 wx → Calls Tryz.prog 13 #[prV A0 P0.length cap0] wx fun e w' => ∃ g, wx.heap.size ≤ g ∧ e = .returned (prV (some ⟨g, 0, none⟩) P0.length P0.length) ∧ Reg w' g w'.heap.size (ProgR g w'.heap.size P0) ∧ Below wx.heap.size wx w') := fun wx hx => toProgR Z0.out cap0 (S0.out.below (bnext HB11.out hx)) (bnext HB11.out hx).size
  have KS12 := Lib.hid (And.intro qVX0_0 qBX0_0)
  go_region_held3 (fun wx => wx.cell? ⟨w6.heap.size, 0, none⟩ = some (.slice (some ⟨g6, 0, none⟩) P0.length P0.length) ∧ wx.cell? ⟨w.heap.size, 0, none⟩ = some (.slice A0 P0.length cap0)) (first | exact KS12.out | exact KS12.out | go_keep | exact keep2 KS12.out hb12 | exact keep2 KS12.out (hb12.trans (hb13.mono hb12.size)))
    (first
      | (go_at_call 17; have _tk := hX12; (with_reducible refine (eqProgR _ _ (X0_11.out.below hb12) hX12 Z0.out).mono ?_); rintro e w13 ⟨rfl, hb13⟩)
      | (go_at_call 13; refine (KT12.out _ (by first | exact (Below.refl _ _).drew | exact below_drewN' (Below.refl _ _) _ | exact Below.refl _ _)).mono ?_; rintro e w12 ⟨g12, hg12, rfl, hX12, hb12'⟩; have hb12 : Below w11.heap.size w11 w12 := by first | exact bdrew hb12' | exact bdrewN hb12' | exact hb12'))
  clear hX12 hg12 hb12' KS12 KT12
  clear qBX0_0 qVX0_0
  have HB12 := Lib.hid (bnext HB11.out hb12)
  have BX0_12 := Lib.hid (BX0_11.out.below hb12); clear BX0_11
  have R0_12 := Lib.hid (R0_11.out.below hb12); clear R0_11
  have X0_12 := Lib.hid (X0_11.out.below hb12); clear X0_11
  have VX0_12 := Lib.hid (VX0_11.out.below hb12); clear VX0_11
  have X3_12 := Lib.hid (X3_11.out.below hb12); clear X3_11
  have X4_12 := Lib.hid (X4_11.out.below hb12); clear X4_11
  have G0_12 := Lib.hid (G0_11.out.below hb12); clear G0_11
  have HS12 := Lib.hid hb12.size
  clear hb12
  have HB13 := Lib.hid (bnext HB12.out hb13)
  have BX0_13 := Lib.hid (BX0_12.out.below hb13); clear BX0_12
  have R0_13 := Lib.hid (R0_12.out.below hb13); clear R0_12
  have X0_13 := Lib.hid (X0_12.out.below hb13); clear X0_12
  have VX0_13 := Lib.hid (VX0_12.out.below hb13); clear VX0_12
  have X3_13 := Lib.hid (X3_12.out.below hb13); clear X3_12
  have X4_13 := Lib.hid (X4_12.out.below hb13); clear X4_12
  have G0_13 := Lib.hid (G0_12.out.below hb13); clear G0_12
  have HS13 := Lib.hid hb13.size
  clear hb13
  have qBX0_0 : World.cell? w13 ⟨w.heap.size, 0, none⟩ = some (.slice A0 P0.length cap0) := by rw [BX0_13.out.now.cell]; rfl
  have qVX0_0 : World.cell? w13 ⟨w6.heap.size, 0, none⟩ = some (.slice (some ⟨g6, 0, none⟩) P0.length P0.length) := by rw [VX0_13.out.now.cell]; rfl
  go_wp2_with fail
  refine (toR A3 cap3 z3 _ (S3.out.below HB13.out) (by omega)).mono ?_; rintro e w14 ⟨rfl, hX14, hb14⟩
  clear qBX0_0 qVX0_0
  have HB14 := Lib.hid (bnext HB13.out hb14)
  have BX0_14 := Lib.hid (BX0_13.out.below hb14); clear BX0_13
  have R0_14 := Lib.hid (R0_13.out.below hb14); clear R0_13
  have X0_14 := Lib.hid (X0_13.out.below hb14); clear X0_13
  have VX0_14 := Lib.hid (VX0_13.out.below hb14); clear VX0_13
  have X3_14 := Lib.hid (X3_13.out.below hb14); clear X3_13
  have X4_14 := Lib.hid (X4_13.out.below hb14); clear X4_13
  have G0_14 := Lib.hid (G0_13.out.below hb14); clear G0_13
  have HS14 := Lib.hid hb14.size
  clear hb14
  have Y3_14 := Lib.hid hX14; clear hX14
  have HQ14 := Lib.hid Y3_14.out.le
  have qBX0_0 : World.cell? w14 ⟨w.heap.size, 0, none⟩ = some (.slice A0 P0.length cap0) := by rw [BX0_14.out.now.cell]; rfl
  have qVX0_0 : World.cell? w14 ⟨w6.heap.size, 0, none⟩ = some (.slice (some ⟨g6, 0, none⟩) P0.length P0.length) := by rw [VX0_14.out.now.cell]; rfl
  go_wp2_with fail
  refine (eqR _ _ (regInts X3_14.out) (regInts Y3_14.out) (by omega)).mono ?_; rintro e w15 ⟨rfl, hb15⟩
  clear Y3_14
  clear qBX0_0 qVX0_0
  have HB15 := Lib.hid (bnext HB14.out hb15)
  have BX0_15 := Lib.hid (BX0_14.out.below hb15); clear BX0_14
  have R0_15 := Lib.hid (R0_14.out.below hb15); clear R0_14
  have X0_15 := Lib.hid (X0_14.out.below hb15); clear X0_14
  have VX0_15 := Lib.hid (VX0_14.out.below hb15); clear VX0_14
  have X3_15 := Lib.hid (X3_14.out.below hb15); clear X3_14
  have X4_15 := Lib.hid (X4_14.out.below hb15); clear X4_14
  have G0_15 := Lib.hid (G0_14.out.below hb15); clear G0_14
  have HS15 := Lib.hid hb15.size
  clear hb15
  have qBX0_0 : World.cell? w15 ⟨w.heap.size, 0, none⟩ = some (.slice A0 P0.length cap0) := by rw [BX0_15.out.now.cell]; rfl
  have qVX0_0 : World.cell? w15 ⟨w6.heap.size, 0, none⟩ = some (.slice (some ⟨g6, 0, none⟩) P0.length P0.length) := by rw [VX0_15.out.now.cell]; rfl
  go_wp2_with fail
  refine (toR A4 cap4 z4 _ (S4.out.below HB15.out) (by omega)).mono ?_; rintro e w16 ⟨rfl, hX16, hb16⟩
  clear qBX0_0 qVX0_0
  have HB16 := Lib.hid (bnext HB15.out hb16)
  have BX0_16 := Lib.hid (BX0_15.out.below hb16); clear BX0_15
  have R0_16 := Lib.hid (R0_15.out.below hb16); clear R0_15
  have X0_16 := Lib.hid (X0_15.out.below hb16); clear X0_15
  have VX0_16 := Lib.hid (VX0_15.out.below hb16); clear VX0_15
  have X3_16 := Lib.hid (X3_15.out.below hb16); clear X3_15
  have X4_16 := Lib.hid (X4_15.out.below hb16); clear X4_15
  have G0_16 := Lib.hid (G0_15.out.below hb16); clear G0_15
  have HS16 := Lib.hid hb16.size
  clear hb16
  have Y4_16 := Lib.hid hX16; clear hX16
  have HQ16 := Lib.hid Y4_16.out.le
  have qBX0_0 : World.cell? w16 ⟨w.heap.size, 0, none⟩ = some (.slice A0 P0.length cap0) := by rw [BX0_16.out.now.cell]; rfl
  have qVX0_0 : World.cell? w16 ⟨w6.heap.size, 0, none⟩ = some (.slice (some ⟨g6, 0, none⟩) P0.length P0.length) := by rw [VX0_16.out.now.cell]; rfl
  go_wp2_with fail
  refine (eqR _ _ (regInts X4_16.out) (regInts Y4_16.out) (by omega)).mono ?_; rintro e w17 ⟨rfl, hb17⟩
  clear Y4_16
  clear qBX0_0 qVX0_0
  have HB17 := Lib.hid (bnext HB16.out hb17)
  have BX0_17 := Lib.hid (BX0_16.out.below hb17); clear BX0_16
  have R0_17 := Lib.hid (R0_16.out.below hb17); clear R0_16
  have X0_17 := Lib.hid (X0_16.out.below hb17); clear X0_16
  have VX0_17 := Lib.hid (VX0_16.out.below hb17); clear VX0_16
  have X3_17 := Lib.hid (X3_16.out.below hb17); clear X3_16
  have X4_17 := Lib.hid (X4_16.out.below hb17); clear X4_16
  have G0_17 := Lib.hid (G0_16.out.below hb17); clear G0_16
  have HS17 := Lib.hid hb17.size
  clear hb17
  have qBX0_0 : World.cell? w17 ⟨w.heap.size, 0, none⟩ = some (.slice A0 P0.length cap0) := by rw [BX0_17.out.now.cell]; rfl
  have qVX0_0 : World.cell? w17 ⟨w6.heap.size, 0, none⟩ = some (.slice (some ⟨g6, 0, none⟩) P0.length P0.length) := by rw [VX0_17.out.now.cell]; rfl
  go_wp2_with fail
  refine (markProgR _ X0_17.out Z0.out (by omega) (by omega)).mono ?_; rintro e w18 ⟨k18, rfl, k018, k118, hO18⟩
  clear X0_17
  have k218 : 0 ≤ k18 := by omega
  have k318 : k18 ≤ 1 + 4194304 := by have := Z0.out; omega
  clear k018 k118
  clear qBX0_0 qVX0_0
  have hz18 : w.heap.size ≤ g6 ∧ g6 ≤ w6.heap.size ∧ w6.heap.size ≤ w17.heap.size := by have := HS0.out; have := HQB0.out; have := HS1.out; have := HS2.out; have := HG2.out; have := HQ2.out; have := HS3.out; have := HQ3.out; have := HS4.out; have := HQ4.out; have := HS5.out; have := HS6.out; have := HG6.out; have := HQ6.out; have := HS7.out; have := HQ7.out; have := HS8.out; have := HQ8.out; have := HS9.out; have := HQ9.out; have := HS10.out; have := HS11.out; have := HS12.out; have := HS13.out; have := HS14.out; have := HQ14.out; have := HS15.out; have := HS16.out; have := HQ16.out; have := HS17.out; omega
  have HB18 := Lib.hid (belowRegion HB17.out hO18 hz18.1)
  have BX0_18 := Lib.hid (BX0_17.out.apart hO18 (by have := HS0.out; have := HQB0.out; have := HS1.out; have := HS2.out; have := HG2.out; have := HQ2.out; have := HS3.out; have := HQ3.out; have := HS4.out; have := HQ4.out; have := HS5.out; have := HS6.out; have := HG6.out; have := HQ6.out; have := HS7.out; have := HQ7.out; have := HS8.out; have := HQ8.out; have := HS9.out; have := HQ9.out; have := HS10.out; have := HS11.out; have := HS12.out; have := HS13.out; have := HS14.out; have := HQ14.out; have := HS15.out; have := HS16.out; have := HQ16.out; have := HS17.out; omega)); clear BX0_17
  have R0_18 := Lib.hid (R0_17.out.apart hO18 (by have := HS0.out; have := HQB0.out; have := HS1.out; have := HS2.out; have := HG2.out; have := HQ2.out; have := HS3.out; have := HQ3.out; have := HS4.out; have := HQ4.out; have := HS5.out; have := HS6.out; have := HG6.out; have := HQ6.out; have := HS7.out; have := HQ7.out; have := HS8.out; have := HQ8.out; have := HS9.out; have := HQ9.out; have := HS10.out; have := HS11.out; have := HS12.out; have := HS13.out; have := HS14.out; have := HQ14.out; have := HS15.out; have := HS16.out; have := HQ16.out; have := HS17.out; omega)); clear R0_17
  have VX0_18 := Lib.hid (VX0_17.out.apart hO18 (by have := HS0.out; have := HQB0.out; have := HS1.out; have := HS2.out; have := HG2.out; have := HQ2.out; have := HS3.out; have := HQ3.out; have := HS4.out; have := HQ4.out; have := HS5.out; have := HS6.out; have := HG6.out; have := HQ6.out; have := HS7.out; have := HQ7.out; have := HS8.out; have := HQ8.out; have := HS9.out; have := HQ9.out; have := HS10.out; have := HS11.out; have := HS12.out; have := HS13.out; have := HS14.out; have := HQ14.out; have := HS15.out; have := HS16.out; have := HQ16.out; have := HS17.out; omega)); clear VX0_17
  have X3_18 := Lib.hid (X3_17.out.apart hO18 (by have := HS0.out; have := HQB0.out; have := HS1.out; have := HS2.out; have := HG2.out; have := HQ2.out; have := HS3.out; have := HQ3.out; have := HS4.out; have := HQ4.out; have := HS5.out; have := HS6.out; have := HG6.out; have := HQ6.out; have := HS7.out; have := HQ7.out; have := HS8.out; have := HQ8.out; have := HS9.out; have := HQ9.out; have := HS10.out; have := HS11.out; have := HS12.out; have := HS13.out; have := HS14.out; have := HQ14.out; have := HS15.out; have := HS16.out; have := HQ16.out; have := HS17.out; omega)); clear X3_17
  have X4_18 := Lib.hid (X4_17.out.apart hO18 (by have := HS0.out; have := HQB0.out; have := HS1.out; have := HS2.out; have := HG2.out; have := HQ2.out; have := HS3.out; have := HQ3.out; have := HS4.out; have := HQ4.out; have := HS5.out; have := HS6.out; have := HG6.out; have := HQ6.out; have := HS7.out; have := HQ7.out; have := HS8.out; have := HQ8.out; have := HS9.out; have := HQ9.out; have := HS10.out; have := HS11.out; have := HS12.out; have := HS13.out; have := HS14.out; have := HQ14.out; have := HS15.out; have := HS16.out; have := HQ16.out; have := HS17.out; omega)); clear X4_17
  have G0_18 := Lib.hid (G0_17.out.apart hO18 (by have := HS0.out; have := HQB0.out; have := HS1.out; have := HS2.out; have := HG2.out; have := HQ2.out; have := HS3.out; have := HQ3.out; have := HS4.out; have := HQ4.out; have := HS5.out; have := HS6.out; have := HG6.out; have := HQ6.out; have := HS7.out; have := HQ7.out; have := HS8.out; have := HQ8.out; have := HS9.out; have := HQ9.out; have := HS10.out; have := HS11.out; have := HS12.out; have := HS13.out; have := HS14.out; have := HQ14.out; have := HS15.out; have := HS16.out; have := HQ16.out; have := HS17.out; omega)); clear G0_17
  have HS18 := Lib.hid hO18.size
  clear hO18 hz18
  have qBX0_0 : World.cell? w18 ⟨w.heap.size, 0, none⟩ = some (.slice A0 P0.length cap0) := by rw [BX0_18.out.now.cell]; rfl
  have qVX0_0 : World.cell? w18 ⟨w6.heap.size, 0, none⟩ = some (.slice (some ⟨g6, 0, none⟩) P0.length P0.length) := by rw [VX0_18.out.now.cell]; rfl
  go_wp2_with fail
  refine (markR _ X3_18.out (by omega) (by omega) (by omega)).mono ?_; rintro e w19 ⟨rfl, _, hO19⟩
  clear X3_18
  obtain ⟨k19, hk19, k219, k319⟩ : ∃ k19 : Int, k19 = k18 + (z3.length : Nat) ∧ 0 ≤ k19 ∧ k19 ≤ k18 + 1048576 := ⟨_, rfl, by omega, by omega⟩
  rw [← hk19]
  clear hk19
  clear qBX0_0 qVX0_0
  have hz19 : w.heap.size ≤ w7.heap.size ∧ w7.heap.size ≤ w8.heap.size ∧ w8.heap.size ≤ w18.heap.size := by have := HS0.out; have := HQB0.out; have := HS1.out; have := HS2.out; have := HG2.out; have := HQ2.out; have := HS3.out; have := HQ3.out; have := HS4.out; have := HQ4.out; have := HS5.out; have := HS6.out; have := HG6.out; have := HQ6.out; have := HS7.out; have := HQ7.out; have := HS8.out; have := HQ8.out; have := HS9.out; have := HQ9.out; have := HS10.out; have := HS11.out; have := HS12.out; have := HS13.out; have := HS14.out; have := HQ14.out; have := HS15.out; have := HS16.out; have := HQ16.out; have := HS17.out; have := HS18.out; omega
  have HB19 := Lib.hid (belowRegion HB18.out hO19 hz19.1)
  have BX0_19 := Lib.hid (BX0_18.out.apart hO19 (by have := HS0.out; have := HQB0.out; have := HS1.out; have := HS2.out; have := HG2.out; have := HQ2.out; have := HS3.out; have := HQ3.out; have := HS4.out; have := HQ4.out; have := HS5.out; have := HS6.out; have := HG6.out; have := HQ6.out; have := HS7.out; have := HQ7.out; have := HS8.out; have := HQ8.out; have := HS9.out; have := HQ9.out; have := HS10.out; have := HS11.out; have := HS12.out; have := HS13.out; have := HS14.out; have := HQ14.out; have := HS15.out; have := HS16.out; have := HQ16.out; have := HS17.out; have := HS18.out; omega)); clear BX0_18
  have R0_19 := Lib.hid (R0_18.out.apart hO19 (by have := HS0.out; have := HQB0.out; have := HS1.out; have := HS2.out; have := HG2.out; have := HQ2.out; have := HS3.out; have := HQ3.out; have := HS4.out; have := HQ4.out; have := HS5.out; have := HS6.out; have := HG6.out; have := HQ6.out; have := HS7.out; have := HQ7.out; have := HS8.out; have := HQ8.out; have := HS9.out; have := HQ9.out; have := HS10.out; have := HS11.out; have := HS12.out; have := HS13.out; have := HS14.out; have := HQ14.out; have := HS15.out; have := HS16.out; have := HQ16.out; have := HS17.out; have := HS18.out; omega)); clear R0_18
  have VX0_19 := Lib.hid (VX0_18.out.apart hO19 (by have := HS0.out; have := HQB0.out; have := HS1.out; have := HS2.out; have := HG2.out; have := HQ2.out; have := HS3.out; have := HQ3.out; have := HS4.out; have := HQ4.out; have := HS5.out; have := HS6.out; have := HG6.out; have := HQ6.out; have := HS7.out; have := HQ7.out; have := HS8.out; have := HQ8.out; have := HS9.out; have := HQ9.out; have := HS10.out; have := HS11.out; have := HS12.out; have := HS13.out; have := HS14.out; have := HQ14.out; have := HS15.out; have := HS16.out; have := HQ16.out; have := HS17.out; have := HS18.out; omega)); clear VX0_18
  have X4_19 := Lib.hid (X4_18.out.apart hO19 (by have := HS0.out; have := HQB0.out; have := HS1.out; have := HS2.out; have := HG2.out; have := HQ2.out; have := HS3.out; have := HQ3.out; have := HS4.out; have := HQ4.out; have := HS5.out; have := HS6.out; have := HG6.out; have := HQ6.out; have := HS7.out; have := HQ7.out; have := HS8.out; have := HQ8.out; have := HS9.out; have := HQ9.out; have := HS10.out; have := HS11.out; have := HS12.out; have := HS13.out; have := HS14.out; have := HQ14.out; have := HS15.out; have := HS16.out; have := HQ16.out; have := HS17.out; have := HS18.out; omega)); clear X4_18
  have G0_19 := Lib.hid (G0_18.out.apart hO19 (by have := HS0.out; have := HQB0.out; have := HS1.out; have := HS2.out; have := HG2.out; have := HQ2.out; have := HS3.out; have := HQ3.out; have := HS4.out; have := HQ4.out; have := HS5.out; have := HS6.out; have := HG6.out; have := HQ6.out; have := HS7.out; have := HQ7.out; have := HS8.out; have := HQ8.out; have := HS9.out; have := HQ9.out; have := HS10.out; have := HS11.out; have := HS12.out; have := HS13.out; have := HS14.out; have := HQ14.out; have := HS15.out; have := HS16.out; have := HQ16.out; have := HS17.out; have := HS18.out; omega)); clear G0_18
  have HS19 := Lib.hid hO19.size
  clear hO19 hz19
  have qBX0_0 : World.cell? w19 ⟨w.heap.size, 0, none⟩ = some (.slice A0 P0.length cap0) := by rw [BX0_19.out.now.cell]; rfl
  have qVX0_0 : World.cell? w19 ⟨w6.heap.size, 0, none⟩ = some (.slice (some ⟨g6, 0, none⟩) P0.length P0.length) := by rw [VX0_19.out.now.cell]; rfl
  go_wp2_with fail
  refine (markR _ X4_19.out (by omega) (by omega) (by omega)).mono ?_; rintro e w20 ⟨rfl, _, hO20⟩
  clear X4_19
  obtain ⟨k20, hk20, k220, k320⟩ : ∃ k20 : Int, k20 = k19 + (z4.length : Nat) ∧ 0 ≤ k20 ∧ k20 ≤ k19 + 1048576 := ⟨_, rfl, by omega, by omega⟩
  rw [← hk20]
  clear hk20
  clear qBX0_0 qVX0_0
  have hz20 : w.heap.size ≤ w8.heap.size ∧ w8.heap.size ≤ w9.heap.size ∧ w9.heap.size ≤ w19.heap.size := by have := HS0.out; have := HQB0.out; have := HS1.out; have := HS2.out; have := HG2.out; have := HQ2.out; have := HS3.out; have := HQ3.out; have := HS4.out; have := HQ4.out; have := HS5.out; have := HS6.out; have := HG6.out; have := HQ6.out; have := HS7.out; have := HQ7.out; have := HS8.out; have := HQ8.out; have := HS9.out; have := HQ9.out; have := HS10.out; have := HS11.out; have := HS12.out; have := HS13.out; have := HS14.out; have := HQ14.out; have := HS15.out; have := HS16.out; have := HQ16.out; have := HS17.out; have := HS18.out; have := HS19.out; omega
  have HB20 := Lib.hid (belowRegion HB19.out hO20 hz20.1)
  have BX0_20 := Lib.hid (BX0_19.out.apart hO20 (by have := HS0.out; have := HQB0.out; have := HS1.out; have := HS2.out; have := HG2.out; have := HQ2.out; have := HS3.out; have := HQ3.out; have := HS4.out; have := HQ4.out; have := HS5.out; have := HS6.out; have := HG6.out; have := HQ6.out; have := HS7.out; have := HQ7.out; have := HS8.out; have := HQ8.out; have := HS9.out; have := HQ9.out; have := HS10.out; have := HS11.out; have := HS12.out; have := HS13.out; have := HS14.out; have := HQ14.out; have := HS15.out; have := HS16.out; have := HQ16.out; have := HS17.out; have := HS18.out; have := HS19.out; omega)); clear BX0_19
  have R0_20 := Lib.hid (R0_19.out.apart hO20 (by have := HS0.out; have := HQB0.out; have := HS1.out; have := HS2.out; have := HG2.out; have := HQ2.out; have := HS3.out; have := HQ3.out; have := HS4.out; have := HQ4.out; have := HS5.out; have := HS6.out; have := HG6.out; have := HQ6.out; have := HS7.out; have := HQ7.out; have := HS8.out; have := HQ8.out; have := HS9.out; have := HQ9.out; have := HS10.out; have := HS11.out; have := HS12.out; have := HS13.out; have := HS14.out; have := HQ14.out; have := HS15.out; have := HS16.out; have := HQ16.out; have := HS17.out; have := HS18.out; have := HS19.out; omega)); clear R0_19
  have VX0_20 := Lib.hid (VX0_19.out.apart hO20 (by have := HS0.out; have := HQB0.out; have := HS1.out; have := HS2.out; have := HG2.out; have := HQ2.out; have := HS3.out; have := HQ3.out; have := HS4.out; have := HQ4.out; have := HS5.out; have := HS6.out; have := HG6.out; have := HQ6.out; have := HS7.out; have := HQ7.out; have := HS8.out; have := HQ8.out; have := HS9.out; have := HQ9.out; have := HS10.out; have := HS11.out; have := HS12.out; have := HS13.out; have := HS14.out; have := HQ14.out; have := HS15.out; have := HS16.out; have := HQ16.out; have := HS17.out; have := HS18.out; have := HS19.out; omega)); clear VX0_19
  have G0_20 := Lib.hid (G0_19.out.apart hO20 (by have := HS0.out; have := HQB0.out; have := HS1.out; have := HS2.out; have := HG2.out; have := HQ2.out; have := HS3.out; have := HQ3.out; have := HS4.out; have := HQ4.out; have := HS5.out; have := HS6.out; have := HG6.out; have := HQ6.out; have := HS7.out; have := HQ7.out; have := HS8.out; have := HQ8.out; have := HS9.out; have := HQ9.out; have := HS10.out; have := HS11.out; have := HS12.out; have := HS13.out; have := HS14.out; have := HQ14.out; have := HS15.out; have := HS16.out; have := HQ16.out; have := HS17.out; have := HS18.out; have := HS19.out; omega)); clear G0_19
  have HS20 := Lib.hid hO20.size
  clear hO20 hz20
  have hkk : decide (k20 < 0) = false := by simpa using k220
  have qBX0_0 : World.cell? w20 ⟨w.heap.size, 0, none⟩ = some (.slice A0 P0.length cap0) := by rw [BX0_20.out.now.cell]; rfl
  have qVX0_0 : World.cell? w20 ⟨w6.heap.size, 0, none⟩ = some (.slice (some ⟨g6, 0, none⟩) P0.length P0.length) := by rw [VX0_20.out.now.cell]; rfl
  go_wp2_with fail
  refine (eqR cG0 cR0 (regInts G0_20.out) (regInts R0_20.out) (by omega)).mono ?_; rintro e w21 ⟨rfl, hb21⟩
  clear qBX0_0 qVX0_0
  have HB21 := Lib.hid (bnext HB20.out hb21)
  have BX0_21 := Lib.hid (BX0_20.out.below hb21); clear BX0_20
  have R0_21 := Lib.hid (R0_20.out.below hb21); clear R0_20
  have VX0_21 := Lib.hid (VX0_20.out.below hb21); clear VX0_20
  have G0_21 := Lib.hid (G0_20.out.below hb21); clear G0_20
  have HS21 := Lib.hid hb21.size
  clear hb21
  have qBX0_0 : World.cell? w21 ⟨w.heap.size, 0, none⟩ = some (.slice A0 P0.length cap0) := by rw [BX0_21.out.now.cell]; rfl
  have qVX0_0 : World.cell? w21 ⟨w6.heap.size, 0, none⟩ = some (.slice (some ⟨g6, 0, none⟩) P0.length P0.length) := by rw [VX0_21.out.now.cell]; rfl
  go_wp2_with fail
  refine (markR cG0 G0_21.out (by omega) (by omega) (by omega)).mono ?_; rintro e w22 ⟨rfl, hM22, hO22⟩
  clear G0_21
  clear qBX0_0 qVX0_0
  have hz22 : w.heap.size ≤ w9.heap.size ∧ w9.heap.size ≤ w10.heap.size ∧ w10.heap.size ≤ w21.heap.size := by have := HS0.out; have := HQB0.out; have := HS1.out; have := HS2.out; have := HG2.out; have := HQ2.out; have := HS3.out; have := HQ3.out; have := HS4.out; have := HQ4.out; have := HS5.out; have := HS6.out; have := HG6.out; have := HQ6.out; have := HS7.out; have := HQ7.out; have := HS8.out; have := HQ8.out; have := HS9.out; have := HQ9.out; have := HS10.out; have := HS11.out; have := HS12.out; have := HS13.out; have := HS14.out; have := HQ14.out; have := HS15.out; have := HS16.out; have := HQ16.out; have := HS17.out; have := HS18.out; have := HS19.out; have := HS20.out; have := HS21.out; omega
  have HB22 := Lib.hid (belowRegion HB21.out hO22 hz22.1)
  have BX0_22 := Lib.hid (BX0_21.out.apart hO22 (by have := HS0.out; have := HQB0.out; have := HS1.out; have := HS2.out; have := HG2.out; have := HQ2.out; have := HS3.out; have := HQ3.out; have := HS4.out; have := HQ4.out; have := HS5.out; have := HS6.out; have := HG6.out; have := HQ6.out; have := HS7.out; have := HQ7.out; have := HS8.out; have := HQ8.out; have := HS9.out; have := HQ9.out; have := HS10.out; have := HS11.out; have := HS12.out; have := HS13.out; have := HS14.out; have := HQ14.out; have := HS15.out; have := HS16.out; have := HQ16.out; have := HS17.out; have := HS18.out; have := HS19.out; have := HS20.out; have := HS21.out; omega)); clear BX0_21
  have R0_22 := Lib.hid (R0_21.out.apart hO22 (by have := HS0.out; have := HQB0.out; have := HS1.out; have := HS2.out; have := HG2.out; have := HQ2.out; have := HS3.out; have := HQ3.out; have := HS4.out; have := HQ4.out; have := HS5.out; have := HS6.out; have := HG6.out; have := HQ6.out; have := HS7.out; have := HQ7.out; have := HS8.out; have := HQ8.out; have := HS9.out; have := HQ9.out; have := HS10.out; have := HS11.out; have := HS12.out; have := HS13.out; have := HS14.out; have := HQ14.out; have := HS15.out; have := HS16.out; have := HQ16.out; have := HS17.out; have := HS18.out; have := HS19.out; have := HS20.out; have := HS21.out; omega)); clear R0_21
  have VX0_22 := Lib.hid (VX0_21.out.apart hO22 (by have := HS0.out; have := HQB0.out; have := HS1.out; have := HS2.out; have := HG2.out; have := HQ2.out; have := HS3.out; have := HQ3.out; have := HS4.out; have := HQ4.out; have := HS5.out; have := HS6.out; have := HG6.out; have := HQ6.out; have := HS7.out; have := HQ7.out; have := HS8.out; have := HQ8.out; have := HS9.out; have := HQ9.out; have := HS10.out; have := HS11.out; have := HS12.out; have := HS13.out; have := HS14.out; have := HQ14.out; have := HS15.out; have := HS16.out; have := HQ16.out; have := HS17.out; have := HS18.out; have := HS19.out; have := HS20.out; have := HS21.out; omega)); clear VX0_21
  have HS22 := Lib.hid hO22.size
  clear hO22 hz22
  have G0_22 := Lib.hid hM22; clear hM22
  have qBX0_0 : World.cell? w22 ⟨w.heap.size, 0, none⟩ = some (.slice A0 P0.length cap0) := by rw [BX0_22.out.now.cell]; rfl
  have qVX0_0 : World.cell? w22 ⟨w6.heap.size, 0, none⟩ = some (.slice (some ⟨g6, 0, none⟩) P0.length P0.length) := by rw [VX0_22.out.now.cell]; rfl
  go_wp2_with fail
  refine (heldR cG0 G0_22.out (by omega) (by omega) (by omega)).mono ?_; rintro e w' ⟨rfl, rfl⟩
  go_wp2_with fail
  clear VX0_22 qVX0_0
  refine (toProgR Z0.out cap0 (S0.out.below HB22.out) HB22.out.size).mono ?_; rintro e w23 ⟨g23, hg23, rfl, hX23, hb23⟩
  clear qBX0_0
  have HB23 := Lib.hid (bnext HB22.out hb23)
  have BX0_23 := Lib.hid (BX0_22.out.below hb23); clear BX0_22
  have R0_23 := Lib.hid (R0_22.out.below hb23); clear R0_22
  have G0_23 := Lib.hid (G0_22.out.below hb23); clear G0_22
  have HS23 := Lib.hid hb23.size
  clear hb23
  have HG23 := Lib.hid hg23; clear hg23
  have Q0_23 := Lib.hid hX23; clear hX23
  have HQ23 := Lib.hid Q0_23.out.le
  have qBX0_0 : World.cell? w23 ⟨w.heap.size, 0, none⟩ = some (.slice A0 P0.length cap0) := by rw [BX0_23.out.now.cell]; rfl
  go_wp2_with fail
  refine (toR A3 cap3 z3 _ (S3.out.below HB23.out) (by omega)).mono ?_; rintro e w24 ⟨rfl, hX24, hb24⟩
  clear qBX0_0
  have HB24 := Lib.hid (bnext HB23.out hb24)
  have BX0_24 := Lib.hid (BX0_23.out.below hb24); clear BX0_23
  have R0_24 := Lib.hid (R0_23.out.below hb24); clear R0_23
  have G0_24 := Lib.hid (G0_23.out.below hb24); clear G0_23
  have Q0_24 := Lib.hid (Q0_23.out.below hb24); clear Q0_23
  have HS24 := Lib.hid hb24.size
  clear hb24
  have Q3_24 := Lib.hid hX24; clear hX24
  have HQ24 := Lib.hid Q3_24.out.le
  have qBX0_0 : World.cell? w24 ⟨w.heap.size, 0, none⟩ = some (.slice A0 P0.length cap0) := by rw [BX0_24.out.now.cell]; rfl
  go_wp2_with fail
  refine (toR A4 cap4 z4 _ (S4.out.below HB24.out) (by omega)).mono ?_; rintro e w25 ⟨rfl, hX25, hb25⟩
  clear qBX0_0
  have HB25 := Lib.hid (bnext HB24.out hb25)
  have BX0_25 := Lib.hid (BX0_24.out.below hb25); clear BX0_24
  have R0_25 := Lib.hid (R0_24.out.below hb25); clear R0_24
  have G0_25 := Lib.hid (G0_24.out.below hb25); clear G0_24
  have Q0_25 := Lib.hid (Q0_24.out.below hb25); clear Q0_24
  have Q3_25 := Lib.hid (Q3_24.out.below hb25); clear Q3_24
  have HS25 := Lib.hid hb25.size
  clear hb25
  have Q4_25 := Lib.hid hX25; clear hX25
  have HQ25 := Lib.hid Q4_25.out.le
  have qBX0_0 : World.cell? w25 ⟨w.heap.size, 0, none⟩ = some (.slice A0 P0.length cap0) := by rw [BX0_25.out.now.cell]; rfl
  go_wp2_with fail
  refine (slopeI P0 a1 a2 z3 z4 a5 _ (regPIn Q0_25.out Z0.out) (regInts Q3_25.out) (by omega) (regInts Q4_25.out) (by omega)).mono ?_
  rw [← V0.out, ← V1.out]
  rintro e w26 ⟨hb26, AJ0, cJ0, rfl, hR26⟩
  clear Q0_25
  clear Q3_25
  clear Q4_25
  clear qBX0_0
  have HB26 := Lib.hid (bnext HB25.out hb26)
  have BX0_26 := Lib.hid (BX0_25.out.below hb26); clear BX0_25
  have R0_26 := Lib.hid (R0_25.out.below hb26); clear R0_25
  have G0_26 := Lib.hid (G0_25.out.below hb26); clear G0_25
  have HS26 := Lib.hid hb26.size
  clear hb26
  have J0_26 := Lib.hid hR26; clear hR26
  have qBX0_0 : World.cell? w26 ⟨w.heap.size, 0, none⟩ = some (.slice A0 P0.length cap0) := by rw [BX0_26.out.now.cell]; rfl
  go_wp2_with fail
  refine (eqR cJ0 cR0 (regInts J0_26.out) (regInts R0_26.out) (by omega)).mono ?_; rintro e w27 ⟨rfl, hb27⟩
  clear qBX0_0
  have HB27 := Lib.hid (bnext HB26.out hb27)
  have BX0_27 := Lib.hid (BX0_26.out.below hb27); clear BX0_26
  have R0_27 := Lib.hid (R0_26.out.below hb27); clear R0_26
  have G0_27 := Lib.hid (G0_26.out.below hb27); clear G0_26
  have J0_27 := Lib.hid (J0_26.out.below hb27); clear J0_26
  have HS27 := Lib.hid hb27.size
  clear hb27
  have qBX0_0 : World.cell? w27 ⟨w.heap.size, 0, none⟩ = some (.slice A0 P0.length cap0) := by rw [BX0_27.out.now.cell]; rfl
  go_wp2_with fail
  refine (heldR cG0 G0_27.out (by omega) (by omega) (by omega)).mono ?_; rintro e w' ⟨rfl, rfl⟩
  clear qBX0_0
  go_wp2
  go_ret
  exact ⟨rfl, HB27.out⟩

theorem lawExactSlopeAlong (P0 : List Fn) (A0 : Option Addr) (cap0 : Nat) (a1 : Int) (a2 : Int) (A3 : Option Addr) (cap3 : Nat) (z3 : List Int) (A4 : Option Addr) (cap4 : Nat) (z4 : List Int) (a5 : Int) (w : World) (h0 : FnSl w w.heap.size P0 A0) (hl0 : P0.length ≤ cap0) (hm0 : cap0 ≤ maxLen) (_w1 : (Lit.int .i64 a1).wf = true) (_w2 : (Lit.int .i64 a2).wf = true) (h3 : Ints w A3 z3) (h4 : Ints w A4 z4) (_w5 : (Lit.int .i64 a5).wf = true) :
    Calls Tryz.prog 7 #[prV A0 P0.length cap0, .int .i64 a1, .int .i64 a2, .slice A3 z3.length cap3, .slice A4 z4.length cap4, .int .i64 a5] w fun e w' => e = .returned (.bool true) ∧ Below w.heap.size w w' := by
  by_cases c0 : z3.length ≤ 1048576
  case neg => exact lawExactSlopeAlong_0 P0 A0 cap0 a1 a2 A3 cap3 z3 A4 cap4 z4 a5 w h0 hl0 hm0 _w1 _w2 h3 h4 _w5 c0
  by_cases c1 : z4.length ≤ 1048576
  case neg => exact lawExactSlopeAlong_1 P0 A0 cap0 a1 a2 A3 cap3 z3 A4 cap4 z4 a5 w h0 hl0 hm0 _w1 _w2 h3 h4 _w5 c0 c1
  by_cases c2 : fnSize P0 ≤ 1048576
  case neg => exact lawExactSlopeAlong_2 P0 A0 cap0 a1 a2 A3 cap3 z3 A4 cap4 z4 a5 w h0 hl0 hm0 _w1 _w2 h3 h4 _w5 c0 c1 c2
  exact lawExactSlopeAlong_ok P0 A0 cap0 a1 a2 A3 cap3 z3 A4 cap4 z4 a5 w h0 hl0 hm0 _w1 _w2 h3 h4 _w5 c0 c1 c2

end Go.Proofs.YtjohkheclglpjaaGreat

/- FnExactSlopeAlong: for every program, function, output, arguments, direction and number the program's SlopeAlong returns what the reference's returns, in memory of its own. No condition. -/
namespace Go.Proofs.YtjohkheclglpjaaGreat.fnExactSlopeAlong
open Go.ChangeShapes Go.WideShapes Go.ChangeAt Go.RowKit

theorem own : ownKnob Tryz.prog.godebug = none := by kernel_rfl
theorem laidOut : laidOutB Tryz.prog = true := by kernel_rfl

set_option maxRecDepth 100000 in
theorem lifted (os : Os) (started : os.Started) (H : Type) (enc : TypeId × Value → H) :
    ReturnsInHanded {} Tryz.checked os 7 .any (Rows.fnExactSlopeAlongSpec.pre6 enc Tryz.prog Tryz.f7 Rows.fnExactSlopeAlongRow.domain false) (Rows.fnExactSlopeAlongSpec.post enc Tryz.prog Tryz.f7 false true false false) := by
  refine returnsInHanded_of_change (C := Tryz.checked) own started (by kernel_rfl) Tryz.func7
    (ChangeSpec.witness6 (enc := enc) (C := Tryz.checked) false ⟨#[], #[.agg #[.slice none 0 0], .int .i64 0, .int .i64 0, .slice none 0 0, .slice none 0 0, .int .i64 0], []⟩ 8 (by kernel_rfl) (by kernel_rfl) (by kernel_rfl) (by kernel_rfl)) ?_
  intro W base args ds gs before hval0 hW hcnd _
  have hval : ∀ (j : Nat) t v, Tryz.f7.params[j]? = some t → args[j]? = some v → Value.okWide Tryz.prog W .any base t v := hval0
  have hW' := hW
  obtain ⟨p, q, hA0, hV, rfl, hfz, hnd⟩ := hW
  have hA : DataW.TrodAll enc Tryz.prog W 0 (fun _ => true) true Tryz.f7.params.toList args.toList ds p := hA0
  rw [Tryz.params7] at hA hval
  obtain ⟨v0, vs0, d0, ds0, p0, q0, hargs, rfl, rfl, h0, r0⟩ := trodAll_cons hA
  obtain ⟨v1, vs1, d1, ds1, p1, q1, rfl, rfl, rfl, h1, r1⟩ := trodAll_cons r0
  obtain ⟨v2, vs2, d2, ds2, p2, q2, rfl, rfl, rfl, h2, r2⟩ := trodAll_cons r1
  obtain ⟨v3, vs3, d3, ds3, p3, q3, rfl, rfl, rfl, h3, r3⟩ := trodAll_cons r2
  obtain ⟨v4, vs4, d4, ds4, p4, q4, rfl, rfl, rfl, h4, r4⟩ := trodAll_cons r3
  obtain ⟨v5, vs5, d5, ds5, p5, q5, rfl, rfl, rfl, h5, r5⟩ := trodAll_cons r4
  obtain ⟨rfl, rfl, rfl⟩ := trodAll_nil r5
  obtain rfl : args = #[v0, v1, v2, v3, v4, v5] := by cases args; simp_all
  obtain ⟨rfl, rfl⟩ := trodVars_none hV
  obtain ⟨cs0, rfl, _⟩ := okWide_struct Tryz.underlying24 (hval 0 24 v0 rfl rfl)
  have k0 := h0
  have lt0 : ∀ x ∈ p0, x.block < W.heap.size := by obtain ⟨m, hm⟩ := k0; exact DataW.trod_lt m _ _ _ hm
  obtain ⟨a0, cap0, z0, e0, b0, m0, w0⟩ : ∃ (A : Option Addr) (cap : Nat) (fs : List Fn), cs0 = #[.slice A fs.length cap] ∧ fs.length ≤ cap ∧ cap ≤ maxLen ∧ FnSl W W.heap.size fs A := by
    obtain ⟨fuel, hf⟩ := h0
    obtain ⟨A, cap, fs, hcs, h1, h2, h3⟩ := open_program hf
    exact ⟨A, cap, fs, by cases cs0; simpa [Value.cells] using hcs, h1, h2, h3⟩
  subst e0
  obtain ⟨a1, rfl, rfl, rfl, w1⟩ := open_int Tryz.underlying2 (hval 1 2 v1 rfl rfl) h1
  obtain ⟨a2, rfl, rfl, rfl, w2⟩ := open_int Tryz.underlying2 (hval 2 2 v2 rfl rfl) h2
  obtain ⟨a3, len3, cap3, rfl⟩ := okWide_slice Tryz.underlying25 (hval 3 25 v3 rfl rfl)
  have k3 := h3
  have lt3 : ∀ x ∈ p3, x.block < W.heap.size := by obtain ⟨m, hm⟩ := k3; exact DataW.trod_lt m _ _ _ hm
  obtain ⟨z3, e3, w3⟩ : ∃ zs : List Int, zs.length = len3 ∧ Ints W a3 zs := by
    obtain ⟨fuel, hf⟩ := h3
    rcases open_ints Tryz.underlying25 Tryz.underlying2 (by kernel_rfl) hf with ⟨hcs, _⟩ | ⟨x, l, c, zs, hcs, hl8, hl, hm, hz, _, hcell, hwz⟩
    · simp [Value.cells] at hcs
      obtain ⟨rfl, rfl, rfl⟩ := hcs
      exact ⟨[], rfl, Ints.nil _ _⟩
    · simp [Value.cells] at hcs
      obtain ⟨rfl, rfl, rfl⟩ := hcs
      exact ints_of_cells hl (by simpa using hz) hcell
  subst e3
  obtain ⟨a4, len4, cap4, rfl⟩ := okWide_slice Tryz.underlying25 (hval 4 25 v4 rfl rfl)
  have k4 := h4
  have lt4 : ∀ x ∈ p4, x.block < W.heap.size := by obtain ⟨m, hm⟩ := k4; exact DataW.trod_lt m _ _ _ hm
  obtain ⟨z4, e4, w4⟩ : ∃ zs : List Int, zs.length = len4 ∧ Ints W a4 zs := by
    obtain ⟨fuel, hf⟩ := h4
    rcases open_ints Tryz.underlying25 Tryz.underlying2 (by kernel_rfl) hf with ⟨hcs, _⟩ | ⟨x, l, c, zs, hcs, hl8, hl, hm, hz, _, hcell, hwz⟩
    · simp [Value.cells] at hcs
      obtain ⟨rfl, rfl, rfl⟩ := hcs
      exact ⟨[], rfl, Ints.nil _ _⟩
    · simp [Value.cells] at hcs
      obtain ⟨rfl, rfl, rfl⟩ := hcs
      exact ints_of_cells hl (by simpa using hz) hcell
  subst e4
  obtain ⟨a5, rfl, rfl, rfl, w5⟩ := open_int Tryz.underlying2 (hval 5 2 v5 rfl rfl) h5
  clear hA0 hval0
  refine (lawExactSlopeAlong z0 a0 cap0 a1 a2 a3 cap3 z3 a4 cap4 z4 a5 W w0 b0 m0 w1 w2 w3 w4 w5).mono fun e W' ⟨he, bel⟩ => ?_
  subst he
  exact ⟨_, rfl, _, _, _, [], _, [], hW', trodAll_mk1 (shut_bool Tryz.underlying4 _), (trodAll_cons_mk (Below.trod laidOut (by kernel_rfl) (of_decide_eq_true (by kernel_rfl)) k0 bel lt0) (trodAll_cons_mk (shut_int Tryz.underlying2 w1) (trodAll_cons_mk (shut_int Tryz.underlying2 w2) (trodAll_cons_mk (Below.trod laidOut (by kernel_rfl) (of_decide_eq_true (by kernel_rfl)) k3 bel lt3) (trodAll_cons_mk (Below.trod laidOut (by kernel_rfl) (of_decide_eq_true (by kernel_rfl)) k4 bel lt4) (trodAll_cons_mk (shut_int Tryz.underlying2 w5) trodAll_mk0)))))), rfl, bel.frame _, fun h => by cases h⟩

theorem over : Rows.fnExactSlopeAlongRow.holds Tryz.pinned (OpenSpec.ofChange Rows.fnExactSlopeAlongSpec) :=
  OpenClaim.holds_of_wide 7 Tryz.f7 rfl rfl rfl rfl rfl rfl rfl ⟨rfl, rfl, rfl, rfl, rfl⟩ rfl rfl rfl rfl rfl (by kernel_rfl) Tryz.func7 (by kernel_rfl)
    (of_decide_eq_true (by kernel_rfl)) (by unfold Func.isWrapper; first | (rw [if_pos (by decide +kernel)]; kernel_rfl) | (rw [if_neg (by decide +kernel)]; exact ⟨rfl, rfl⟩))
    (fun os started H enc _ => lifted os started H enc)

theorem proved : Rows.FnExactSlopeAlongSaid := over
#print axioms proved
end Go.Proofs.YtjohkheclglpjaaGreat.fnExactSlopeAlong
