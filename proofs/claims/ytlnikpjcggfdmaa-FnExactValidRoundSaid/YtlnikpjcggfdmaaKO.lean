/- Texts put together: WEval5, WEval6, WEval7. -/
import Derived.Test.YtlnikpjcggfdmaaKN

/- Walks: the arguments of an evaluation, in the spec. -/
namespace Go.Proofs.Ytlnikpjcggfdmaa
open Go.RowKit Plain

set_option maxHeartbeats 1000000 in
theorem numbersS_any (A : Option Addr) (cap : Nat) (zs : List Int) (w : World) (hA : Ints w A zs) (hl : zs.length ≤ 2000000) :
    Calls Try.prog 69 #[.slice A zs.length cap] w fun e w' => e = .returned (.bool (nums' zs)) ∧ w = w' := by
  have HA := Lib.hid hA; clear hA
  go_enter Try.func69, Try.ntmps69
  go_wp2
  go_loopw [3] (fun i wr => ∃ k : Nat, k ≤ zs.length ∧ i = .int .i64 (k : Int) ∧ w = wr ∧ Hid (nums' (zs.take k) = true)) (fun i _ => zs.length - (intOf i).toNat)
  case atStart => exact ⟨0, by omega, by go_num, rfl, by show _ = _; simp [nums']⟩
  case round =>
    obtain ⟨k, hk, rfl, rfl, HT⟩ := hrel
    by_cases hlt : k < zs.length
    · obtain ⟨b, o, x, rfl, hx, hc⟩ := HA.out.at_ hlt
      have hkl : (k : Int) < (zs.length : Int) := by omega
      have HX := Lib.hid hx
      clear hx
      obtain ⟨q, hq⟩ : ∃ q, q = inR x 0 1000002 := ⟨_, rfl⟩
      have hcl := isNumberS_any x w
      rw [← hq] at hcl
      have HQ := Lib.hid hq
      have HC := Lib.hid hcl
      clear hq hcl
      cases q
      · go_wp2_with (go_at_call 97; refine HC.out.mono ?_; rintro e w' ⟨rfl, rfl⟩)
        go_ret
        refine ⟨ret_bool ?_, rfl⟩
        have hm : x ∈ zs := List.mem_of_getElem? HX.out
        have : nums' zs = false := by
          unfold nums'
          rw [List.all_eq_false]
          exact ⟨x, hm, by rw [← HQ.out]; simp⟩
        exact this.symm
      · go_wp2_with (go_at_call 97; refine HC.out.mono ?_; rintro e w' ⟨rfl, rfl⟩)
        go_roundw
        case rel =>
          refine ⟨k + 1, by omega, by go_num, trivial, ?_⟩
          show nums' _ = true
          have hx := HX.out
          have ht := HT.out
          unfold nums' at *
          rw [List.take_add_one, hx, List.all_append, ht]
          simp [← HQ.out]
        case measure => simp [intOf]; omega
    · obtain rfl : k = zs.length := by omega
      go_wp2
      go_ret
      refine ⟨ret_bool ?_, rfl⟩
      have ht := HT.out
      rw [List.take_length] at ht
      exact ht.symm

/-- the code behind a function and its arguments -/
def argV (P : List Fn) (f : Int) (zs : List Int) : Int := if askV P f = 0 then (if (zs.length : Int) = ((P[f.toNat]?).map Fn.params).getD 0 ∧ nums' zs = true then 0 else 2) else askV P f

end Go.Proofs.Ytlnikpjcggfdmaa

/- Walks: the arguments of an evaluation, in the spec. -/
namespace Go.Proofs.Ytlnikpjcggfdmaa
open Go.RowKit Plain

theorem askV_zero {P : List Fn} {f : Int} (h : askV P f = 0) : progOk P = true ∧ ∃ (m : Nat) (g : Fn), f = (m : Int) ∧ P[m]? = some g := by
  unfold askV at h
  cases hp : progOk P with
  | false => rw [hp] at h; simp at h
  | true =>
    rw [hp] at h
    refine ⟨rfl, ?_⟩
    cases hi : inR f 0 ((P.length : Int) - 1) with
    | false => rw [hi] at h; simp at h
    | true =>
      have := inR_true.1 hi
      obtain ⟨m, rfl⟩ := Int.eq_ofNat_of_zero_le this.1
      have hm : m < P.length := by omega
      exact ⟨m, P[m], rfl, List.getElem?_eq_getElem hm⟩
theorem argV_some {P : List Fn} {m : Nat} {g : Fn} {zs : List Int} (h : askV P m = 0) (hg : P[m]? = some g) : argV P m zs = if (zs.length : Int) = g.params ∧ nums' zs = true then 0 else 2 := by
  unfold argV
  rw [if_pos h]
  simp [hg]

set_option maxHeartbeats 1000000 in
theorem argsS_any (P : List Fn) (f : Int) (A : Option Addr) (cap : Nat) (zs : List Int) (bp op B : Nat) (w : World) (hP : PrAt w B P bp op) (hB : B ≤ w.heap.size) (hsz : fnSize P ≤ 1048576) (hA : Ints w A zs) (hl : zs.length ≤ 2000000) :
    Calls Try.prog 30 #[ptr bp op, .int .i64 f, .slice A zs.length cap] w fun e w' => e = .returned (.int .i64 (argV P f zs)) ∧ Below w.heap.size w w' := by
  have hcl := askedS_any P f bp op B w hP hB hsz
  by_cases hv : askV P f = 0
  · obtain ⟨_, m, g, rfl, hg⟩ := askV_zero hv
    rw [argV_some hv hg]
    rw [hv] at hcl
    obtain ⟨hbp, PA, pcap, hp0, hPl, hPm, hFS⟩ := hP
    have hml : m < P.length := (List.getElem?_eq_some_iff.1 hg).1
    have hml2 : (m : Int) < (P.length : Int) := by omega
    have hPm' : pcap ≤ 9223372036854775807 := by unfold maxLen at hPm; omega
    obtain ⟨bP, oP, rfl, hbP, _, g1, _⟩ := hFS.get hg
    have HC := Lib.hid hcl
    have HA := Lib.hid hA
    have hbpw : bp < w.heap.size := by omega
    have hbPw : bP < w.heap.size := by omega
    clear hcl hA hv hFS hg
    obtain ⟨gp, hgp⟩ : ∃ gp, gp = g.params := ⟨_, rfl⟩
    rw [← hgp] at g1 ⊢
    clear hgp
    by_cases he : (zs.length : Int) = gp
    · obtain ⟨q, hq⟩ : ∃ q, q = nums' zs := ⟨_, rfl⟩
      have HN : Hid (∀ wx, Below w.heap.size w wx → Calls Try.prog 69 #[.slice A zs.length cap] wx fun e w' => e = .returned (.bool q) ∧ wx = w') := fun wx hx => by
        rw [hq]
        exact numbersS_any A cap zs wx (HA.out.below hx) hl
      have HR : Hid ((if (zs.length : Int) = gp ∧ nums' zs = true then 0 else 2) = (if q = true then (0 : Int) else 2)) := by
        show _ = _
        rw [hq]
        simp [he]
      rw [HR.out]
      have hne : (Value.int .i64 zs.length = Value.int .i64 gp) := by rw [he]
      subst he
      clear hq HR hne
      cases q
      · go_enter Try.func30, Try.ntmps30
        go_wp2_with (first | (go_at_call 68; refine HC.out.mono ?_; rintro e w1 ⟨rfl, hb1⟩; have y0 : w1.cell? ⟨bp, op, none⟩ = some (.slice (some ⟨bP, oP, none⟩) P.length pcap) := (hb1.cell (p := ⟨bp, _, none⟩) hbpw).trans hp0; have y1 : w1.cell? ⟨bP, oP + m * 3 + 1, none⟩ = some (.int .i64 zs.length) := (hb1.cell (p := ⟨bP, _, none⟩) hbPw).trans g1; have HB := Lib.hid hb1; clear hb1) | (go_at_call 69; refine (HN.out _ HB.out).mono ?_; rintro e w2 ⟨rfl, rfl⟩))
        go_ret
        exact ⟨rfl, HB.out⟩
      · go_enter Try.func30, Try.ntmps30
        go_wp2_with (first | (go_at_call 68; refine HC.out.mono ?_; rintro e w1 ⟨rfl, hb1⟩; have y0 : w1.cell? ⟨bp, op, none⟩ = some (.slice (some ⟨bP, oP, none⟩) P.length pcap) := (hb1.cell (p := ⟨bp, _, none⟩) hbpw).trans hp0; have y1 : w1.cell? ⟨bP, oP + m * 3 + 1, none⟩ = some (.int .i64 zs.length) := (hb1.cell (p := ⟨bP, _, none⟩) hbPw).trans g1; have HB := Lib.hid hb1; clear hb1) | (go_at_call 69; refine (HN.out _ HB.out).mono ?_; rintro e w2 ⟨rfl, rfl⟩))
        go_ret
        exact ⟨rfl, HB.out⟩
    · rw [if_neg (fun h => he h.1)]
      go_enter Try.func30, Try.ntmps30
      go_wp2_with (go_at_call 68; refine HC.out.mono ?_; rintro e w1 ⟨rfl, hb1⟩; have y0 : w1.cell? ⟨bp, op, none⟩ = some (.slice (some ⟨bP, oP, none⟩) P.length pcap) := (hb1.cell (p := ⟨bp, _, none⟩) hbpw).trans hp0; have y1 : w1.cell? ⟨bP, oP + m * 3 + 1, none⟩ = some (.int .i64 gp) := (hb1.cell (p := ⟨bP, _, none⟩) hbPw).trans g1; have HB := Lib.hid hb1; clear hb1)
      go_ret
      exact ⟨rfl, HB.out⟩
  · unfold argV
    rw [if_neg hv]
    generalize askV P f = V at *
    have HC := Lib.hid hcl
    clear hcl
    go_enter Try.func30, Try.ntmps30
    go_wp2_with (go_at_call 68; refine HC.out.mono ?_; rintro e w1 ⟨rfl, hb1⟩)
    go_wp2
    go_ret
    exact ⟨rfl, hb1⟩

end Go.Proofs.Ytlnikpjcggfdmaa

/- Walks: an evaluation, in the spec. -/
namespace Go.Proofs.Ytlnikpjcggfdmaa
open Go.RowKit Plain

/-- what an evaluation at numbers answers -/
def EvalSPost (R : Res (List (List Int))) (w : World) (e : Ending) (w' : World) : Prop :=
  Below w.heap.size w w' ∧ ∃ (zs : List Int) (A : Option Addr) (cp : Nat) (s c : Int), e = .returned (.tuple #[.slice A zs.length cp, .int .i64 s, .int .i64 c]) ∧ IntsT w' w.heap.size A zs ∧ match R with
    | .err x => zs = [] ∧ s = 0 ∧ c = x
    | .ok zss t => zs = heads zss ∧ s = (t : Int) ∧ c = 0

set_option maxRecDepth 100000 in
set_option maxHeartbeats 2000000 in
theorem evalS_any (P : List Fn) (m : Nat) (g : Fn) (A : Option Addr) (cap : Nat) (zs : List Int) (bp op B : Nat) (w : World) (hP : PrAt w B P bp op) (hB : B ≤ w.heap.size) (hok : progOk P = true) (hG : FnIn P m g) (hA : Ints w A zs) (hz : IsS zs) (hl : (zs.length : Int) = g.params) :
    Calls Try.prog 31 #[ptr bp op, .int .i64 m, .slice A zs.length cap] w (EvalSPost (evalR 1 P g.outs (ones zs)) w) := by
  obtain ⟨i0, hi, hz0, hz1, hz2⟩ := info_parts Try.infoIS
  obtain ⟨i1, hi1, hy0, hy1, hy2⟩ := info_parts Try.infoI
  have h12 := hG.p12
  have ho12 := hG.o12
  have hl6 : zs.length ≤ 1000000 := by omega
  obtain ⟨R, hR⟩ : ∃ R, R = evalR 1 P g.outs (ones zs) := ⟨_, rfl⟩
  rw [← hR]
  have HR := Lib.hid hR; clear hR
  have HP := Lib.hid hP; clear hP
  have HG := Lib.hid hG; clear hG
  have hC0 : Cells (w.alloc (.cells #[ptr bp op, .int .i64 1, .int .i64 0, .int .i64 0] 100)) w.heap.size 100 (hdS 1 bp op ++ [.int .i64 0, .int .i64 0]) := Cells.new w _ _
  have HC0 := Lib.hid hC0
  have HL := Lib.hid hl
  clear hC0 hl h12
  obtain ⟨w0, hw0⟩ : ∃ w0, w0 = w.alloc (.cells #[ptr bp op, .int .i64 1, .int .i64 0, .int .i64 0] 100) := ⟨_, rfl⟩
  have hs0 : w0.heap.size = w.heap.size + 1 := by rw [hw0]; simp
  have HA0 : Hid (Ints w0 A zs) := by show Ints _ _ _; rw [hw0]; exact hA.alloc _
  have hb0 : w.heap.size < w0.heap.size := by omega
  clear hA
  go_enter Try.func31, Try.ntmps31
  go_wp2
  go_loopw [10, 11] (fun o i wr => ∃ (k : Nat) (Av : Option Addr) (cp : Nat), i = .int .i64 (k : Int) ∧ o = .slice Av k cp ∧ k ≤ zs.length ∧ Hid (RowsRow wr w0.heap.size w.heap.size 1 (.slice Av k cp) (ones (zs.take k))) ∧ Hid (Below w0.heap.size w0 wr)) (fun _ i _ => zs.length - (intOf i).toNat)
  case atStart =>
    subst hw0
    exact ⟨0, some ⟨(w.alloc (.cells #[ptr bp op, .int .i64 1, .int .i64 0, .int .i64 0] 100)).heap.size, 0, none⟩, 0, by go_num, by simp, Nat.zero_le _, ⟨[], World.ownsRow_lit (w.alloc (.cells #[ptr bp op, .int .i64 1, .int .i64 0, .int .i64 0] 100)) #[] 0 (Nat.le_refl _) (by unfold maxLen; omega) (by rfl), fun i zs h => by simp [ones] at h⟩, by show Below _ _ _; go_grown⟩
  case round =>
    obtain ⟨k, Av, cp, rfl, rfl, hk, HRw, HB⟩ := hrel
    by_cases hlt : k < zs.length
    · obtain ⟨b, o, x, rfl, hx, hc⟩ := (HA0.out.below HB.out).at_ hlt
      have hxs := hz k
      rw [cf_get hx] at hxs
      obtain ⟨vs, hvs⟩ := onesVs x HRw.out hk hb0
      have HVS := Lib.hid hvs
      have HX := Lib.hid hx
      have hkl : (k : Int) < (zs.length : Int) := by omega
      clear hvs hx
      go_wp2_with (at_builtin; refine wpList_append_own _ rfl _ _ 61 rfl w0.heap.size 25 i0 (.slice none 0 0) 1 24 Try.underlying61 hi hz0 hz1 hz2 rfl (by decide) _ k _ rfl (HVS.out.1.alloc _) ⟨wr.heap.size + 1, 0, none⟩ 1 1 [.slice (some ⟨wr.heap.size, 0, none⟩) 1 1] rfl rfl ?c1 ?c2 ?c3 ?c4 ?c5 ?_)
      try (case c1 =>
        intro j u hj
        have hcc := Cells.new (wr.alloc (.cells #[.int .i64 x] 2)) 25 [.slice (some ⟨wr.heap.size, 0, none⟩) 1 1]
        rw [show (wr.alloc (.cells #[.int .i64 x] 2)).heap.size = wr.heap.size + 1 by simp] at hcc
        rw [addr_add, Nat.zero_add]
        exact (hcc.cell j).trans hj)
      try (case c2 => intro u hu; simp at hu; subst hu; rfl)
      case c3 => unfold maxLen; omega
      case c4 => omega
      try (case c5 => have := HB.out.size; simp; try omega)
      intro v2 w2 hown hg _
      first | rw [← hs0] at hown | skip
      obtain ⟨⟨A2, c2, rfl⟩, p1, p2⟩ := onesStep HRw.out hlt HX.out hxs.1 hxs.2 HB.out hb0 vs HVS.out hown hg
      have HR2 := Lib.hid p1
      have HB2 := Lib.hid p2
      clear hown hg p1 p2 HRw HB HVS hc
      go_wp2
      go_roundw
      case rel => exact ⟨k + 1, A2, c2, by go_num, rfl, by omega, HR2, HB2⟩
      case measure => simp [intOf]; omega
    · obtain rfl : k = zs.length := by omega
      have hr := HRw.out
      rw [List.take_length] at hr
      obtain ⟨e1, e2, e3⟩ := hr.env (by unfold ones; simp) hb0
      have hbw : Below w.heap.size w wr := by
        have h1 : Below w.heap.size w w0 := by rw [hw0]; go_grown
        exact h1.trans (HB.out.mono (by omega))
      have hcw : Cells wr w.heap.size 100 (hdS 1 bp op ++ [.int .i64 0, .int .i64 0]) := by
        have h1 := HC0.out
        rw [← hw0] at h1
        exact h1.below HB.out hb0
      have hpr := HP.out.below (hbw.mono hB)
      have hI : SvIn wr B w.heap.size 1 P bp op := ⟨hpr, hB, by have := HB.out.size; omega, hok, by omega, by omega⟩
      obtain ⟨hbp, PA, pcap, hp0, hPl, hPm, hFS⟩ := id hpr
      obtain ⟨bP, oP, rfl, hbP, _, g1, _, KF, cF, g2, hcF, hmF, hKo⟩ := hFS.get HG.out.fn
      have hol : (ones zs).length = zs.length := by unfold ones; simp
      have hml : m < P.length := (List.getElem?_eq_some_iff.1 HG.out.fn).1
      have hls := HG.out.ls hKo hcF hmF e3 (by rw [hol]; exact HL.out) (by rw [hol]; exact e1) e2 (by omega)
      have hcl := outs_any P 1 3001 g.outs (ones zs) 0 0 0 m KF cF bP (oP + m * 3) B w.heap.size Av cp bp op wr hI hcw (fun _ => ⟨rfl, by omega, by omega⟩) hls g2 hbP
      rw [hol] at hcl
      have HCL := Lib.hid hcl
      have HBW := Lib.hid hbw
      have hml2 : (m : Int) < (P.length : Int) := by omega
      have hPm' : pcap ≤ 9223372036854775807 := by unfold maxLen at hPm; omega
      have wl : w.heap.size < wr.heap.size := hI.lt
      clear hcl hls hKo hFS hI hpr hcw hbw hr e1 e2 e3 HRw hw0 hs0 HL
      go_wp2_with fail
      refine HCL.out.mono ?_; rintro e w1 ⟨A1, cp1, zss, s', c', rfl, hzl, hcp, hcm, hE1, hS1, hO1, hres⟩
      have c2 : w1.cell? ⟨w.heap.size, 2, none⟩ = some (.int .i64 s') := by rw [hS1.cell]; rfl
      have c3 : w1.cell? ⟨w.heap.size, 3, none⟩ = some (.int .i64 c') := by rw [hS1.cell]; rfl
      have hb1 : Below w.heap.size w w1 := HBW.out.trans (hO1.below (Nat.le_of_lt wl) (fun k hk => by omega))
      have cl : w.heap.size < w1.heap.size := hS1.lt
      by_cases hc : c' = 0
      · subst hc
        obtain ⟨_, t1, hs1, _, _, hev⟩ := evAC_next hres rfl
        subst hs1
        have HRE : Hid (R = .ok zss t1) := HR.out.trans hev
        have HB1 := Lib.hid hb1
        have HE1 := Lib.hid hE1
        have HZL := Lib.hid hzl
        clear hres hev hE1 hS1 hb1 hO1 HCL HBW HB HC0 HP HG HA0 hzl HR
        obtain ⟨wo, rfl⟩ : ∃ wo : World, wo = w1 := ⟨_, rfl⟩
        go_wp2
        go_loopw [13, 14] (fun o i wr => ∃ (k : Nat) (Av : Option Addr) (cp : Nat), k ≤ g.outs.len ∧ i = .int .i64 (k : Int) ∧ o = .slice Av k cp ∧ Hid (IntRow wr wo.heap.size (.slice Av k cp) (mk k fun k => cf (zss.getD k []) 0)) ∧ Hid (Below wo.heap.size wo wr)) (fun _ i _ => g.outs.len - (intOf i).toNat)
        case atStart => exact ⟨0, _, _, by omega, by go_num, rfl, rowStart wo _, by show Below _ _ _; go_grown⟩
        case round =>
          obtain ⟨k, Av, cp, hk, rfl, rfl, HRr, HB⟩ := hrel
          by_cases hlt : k < g.outs.len
          · have hkz : k < zss.length := by rw [HZL.out]; exact hlt
            obtain ⟨b1, o1, Az, cz, rfl, hb1, _, g0, hz0'⟩ := (HE1.out.only (Only.of_below HB.out)).sat hkz
            obtain ⟨b3, o3, c3', hv3, hb3, hc3⟩ := RowV.first (w := wr) (bv := w.heap.size) (n := 1) (v := .slice Az 1 cz) (zs := zss.getD k []) ⟨Az, cz, rfl, hz0'.len, hz0'.isAt, hz0'.isS⟩ (by omega)
            obtain ⟨rfl, rfl⟩ : Az = some ⟨b3, o3, none⟩ ∧ cz = c3' := by simpa using hv3
            have hkl : (k : Int) < (g.outs.len : Int) := by omega
            obtain ⟨z, hz'⟩ : ∃ z, z = cf (zss.getD k []) 0 := ⟨_, rfl⟩
            rw [← hz'] at hc3
            have HX : Hid (z = cf (zss.getD k []) 0) := hz'
            clear hz0' hv3 hz'
            go_wp2_with (at_builtin; refine wpList_append_own _ rfl _ _ 25 rfl wo.heap.size 2 i1 (.int .i64 0) 1 8 Try.underlying25 hi1 hy0 hy1 hy2 rfl (by decide) _ k _ rfl ((HRr.out.ownN (mk_length _ _).symm).alloc _) ⟨wr.heap.size, 0, none⟩ 1 1 [.int .i64 z] rfl rfl ?d1 ?d2 ?d3 ?d4 ?d5 ?_)
            try (case d1 => exact cell_one_new _ _ _)
            try (case d2 => first | rfl | (intro u hu; simp at hu; subst hu; rfl))
            case d3 => unfold maxLen; omega
            case d4 => omega
            case d5 => have := HB.out.size; simp; try omega
            intro v2 w2 hown hg _
            obtain ⟨⟨A2, c2', rfl⟩, hr2, hb2⟩ := rowNext HRr.out HB.out (by go_grown) HX.out hown hg
            have HR2 := Lib.hid hr2
            have HB2 := Lib.hid hb2
            clear hr2 hb2 hown hg HRr HB HX g0 hc3
            go_wp2
            go_roundw
            case rel => exact ⟨k + 1, A2, c2', by omega, by go_num, rfl, HR2.out, HB2.out⟩
            case measure => simp [intOf]; omega
          · obtain rfl : k = g.outs.len := by omega
            have HEnd := Lib.hid (rowEnd HRr.out HB.out)
            have c2r : wr.cell? ⟨w.heap.size, 2, none⟩ = some (.int .i64 t1) := (HB.out.cell (p := ⟨w.heap.size, 2, none⟩) cl).trans c2
            have clr : w.heap.size < wr.heap.size := by have := HB.out.size; omega
            go_wp2_with fail
            go_quiet (fail)
            rename Nat => nq
            have hlen : (heads zss).length = g.outs.len := by unfold heads; rw [mk_length]; exact HZL.out
            have hheads : heads zss = mk g.outs.len (fun k => cf (zss.getD k []) 0) := by unfold heads; rw [HZL.out]
            have HPF : Hid (EvalSPost R w (.returned (.tuple #[.slice Av g.outs.len cp, .int .i64 t1, .int .i64 0])) (wr.drewN nq)) := by
              have hh := HRE.out
              subst hh
              obtain ⟨A', c', he, hT, _⟩ := HEnd.out
              obtain ⟨rfl, rfl⟩ : Av = A' ∧ cp = c' := by simp at he; exact ⟨he.1, he.2.2⟩
              refine ⟨belowDrewN (HB1.out.trans (HB.out.mono HB1.out.size)) nq, heads zss, Av, cp, t1, 0, by rw [hlen], ?_, rfl, rfl, rfl⟩
              rw [hheads]
              intro h0
              obtain ⟨g', o', e1, z1, z2, z3, z4⟩ := hT h0
              exact ⟨g', o', e1, Nat.le_trans HB1.out.size z1, z2, z3, z4⟩
            have c2d : (wr.drewN nq).cell? ⟨w.heap.size, 2, none⟩ = some (.int .i64 t1) := c2r
            clear HEnd HRE hlen hheads
            generalize wr.drewN nq = W at *
            go_wp2
            go_ret3
            exact HPF.out
      · have hev : Hid (R = .err c') := HR.out.trans (evAC_bad hres hc rfl)
        have HB1 := Lib.hid hb1
        clear hres hE1 hS1 hb1 hO1 hzl HR HCL HBW HB HC0 HP HG HA0
        go_wp2_with fail
        go_region
        all_goals go_wp2
        all_goals go_ret3
        all_goals (have hh := hev.out; subst hh; exact ⟨HB1.out.trans ((show Below w1.heap.size w1 _ by go_grown).mono HB1.out.size), [], _, 0, _, _, rfl, fun h => absurd h (by simp), rfl, rfl, rfl⟩)

end Go.Proofs.Ytlnikpjcggfdmaa
