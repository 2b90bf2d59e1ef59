/- Texts put together: WLine, WTaylor, WUnit, WDirect, WPartial, WSeries, WEvSer. -/
import Derived.Test.YtlnikpjcggfdmaaGreatKQ
import Derived.Deep.RegionHeld3

/- Walks: codes of functions, arguments, directions and outputs, in the spec and in the program. -/
namespace Go.Proofs.YtlnikpjcggfdmaaGreat
open Go.RowKit Plain

/-- the code behind a function, arguments and a direction -/
def lineV (P : List Fn) (f : Int) (zs ds : List Int) : Int := if argV P f zs = 0 then (if ds.length = zs.length ∧ nums' ds = true then 0 else 2) else argV P f zs
/-- how many outputs there are -/
def outsN (P : List Fn) (f : Int) : Int := ((P[f.toNat]?).map fun g => (g.outs.len : Int)).getD 0
def pickV (P : List Fn) (f pick : Int) (zs ds : List Int) : Int := if lineV P f zs ds = 0 then (if inR pick 0 (outsN P f - 1) = true then 0 else 2) else lineV P f zs ds
theorem lineV_zero {P : List Fn} {f : Int} {zs ds : List Int} (h : lineV P f zs ds = 0) : argV P f zs = 0 ∧ ds.length = zs.length ∧ IsS ds := by
  unfold lineV at h
  split at h
  · rename_i h1
    split at h
    · rename_i h2
      exact ⟨h1, h2.1, isS_nums h2.2⟩
    · exact absurd h (by decide)
  · exact absurd h ‹_›
theorem lineV_same {P : List Fn} {f : Int} {zs : List Int} : lineV P f zs zs = argV P f zs := by
  unfold lineV
  split
  · rename_i h
    obtain ⟨h0, m, g, rfl, hin⟩ := argV_zero h
    have := argV_some (zs := zs) h0 hin.fn.fn
    rw [h] at this
    split at this
    · rename_i h2
      rw [if_pos ⟨rfl, h2.2⟩, h]
    · exact absurd this (by decide)
  · rfl
theorem pickV_zero {P : List Fn} {f pick : Int} {zs ds : List Int} (h : pickV P f pick zs ds = 0) : lineV P f zs ds = 0 ∧ inR pick 0 (outsN P f - 1) = true := by
  unfold pickV at h
  split at h
  · rename_i h1
    split at h
    · exact ⟨h1, ‹_›⟩
    · exact absurd h (by decide)
  · exact absurd h ‹_›
theorem lineV_ask {P : List Fn} {m : Nat} {g : Fn} {zs ds : List Int} (h : askV P m = 0) (hg : P[m]? = some g) :
    lineV P m zs ds = if ((decide ((zs.length : Int) = g.params) && nums' zs) && (decide ((ds.length : Int) = g.params) && nums' ds)) = true then 0 else 2 := by
  unfold lineV
  rw [argV_bad h hg]
  cases h1 : (decide ((zs.length : Int) = g.params) && nums' zs)
  · simp
  · simp only [if_pos, Bool.true_and]
    simp only [Bool.and_eq_true, decide_eq_true_eq] at h1
    congr 1
    simp only [Bool.and_eq_true, decide_eq_true_eq, eq_iff_iff]
    constructor
    · rintro ⟨a, b⟩; exact ⟨by omega, b⟩
    · rintro ⟨a, b⟩; exact ⟨by omega, b⟩
theorem lineV_no {P : List Fn} {f : Int} {zs ds : List Int} (h : askV P f ≠ 0) : lineV P f zs ds = askV P f := by
  have h1 : argV P f zs = askV P f := by unfold argV; rw [if_neg h]
  unfold lineV
  rw [h1, if_neg h]

set_option maxRecDepth 100000 in
set_option maxHeartbeats 2000000 in
theorem isLine_any (P : List Fn) (f : Int) {PA : Option Addr} {pcap : Nat} {A D : Option Addr} {cap dcap : Nat} (zs ds : List Int) (w : World) (hP : ProgIn w P PA pcap) (hA : Ints w A zs) (hl : zs.length ≤ 1048576) (hD : Ints w D ds) (hdl : ds.length ≤ 1048576) :
    Calls Tryz.prog 36 #[prV PA P.length pcap, .int .i64 f, .slice A zs.length cap, .slice D ds.length dcap] w fun e w' => e = .returned (.int .i64 (lineV P f zs ds)) ∧ Below w.heap.size w w' := by
  have hpm : pcap ≤ 9223372036854775807 := by have := hP.pm; unfold maxLen at this; omega
  have hAsk : Hid (∀ wx, Below w.heap.size w wx → Calls Tryz.prog 48 #[prV PA P.length pcap, .int .i64 f] wx fun e w' => e = .returned (.int .i64 (askV P f)) ∧ Below wx.heap.size wx w') := fun wx hx =>
    isFunc_any P f w.heap.size PA pcap wx (hP.fns.below hx) hP.pl hP.pm hx.size hP.sz
  have HP := Lib.hid hP
  have HA := Lib.hid hA
  have HD := Lib.hid hD
  by_cases hv : askV P f = 0
  · obtain ⟨hok, m, g, rfl, hg⟩ := askV_zero hv
    have hag := lineV_ask (zs := zs) (ds := ds) hv hg
    have hml : m < P.length := (List.getElem?_eq_some_iff.1 hg).1
    have hml2 : (m : Int) < (P.length : Int) := by omega
    obtain ⟨q1, hq1⟩ : ∃ q, q = (decide ((zs.length : Int) = g.params) && nums' zs) := ⟨_, rfl⟩
    obtain ⟨q2, hq2⟩ : ∃ q, q = (decide ((ds.length : Int) = g.params) && nums' ds) := ⟨_, rfl⟩
    have hN1 : Hid (∀ wx, Below w.heap.size w wx → Calls Tryz.prog 49 #[.slice A zs.length cap, .int .i64 g.params] wx fun e w' => e = .returned (.bool q1) ∧ wx = w') := fun wx hx => by
      rw [hq1]; exact areNumbers_any A cap zs g.params wx (HA.out.below hx) (by omega)
    have hN2 : Hid (∀ wx, Below w.heap.size w wx → Calls Tryz.prog 49 #[.slice D ds.length dcap, .int .i64 g.params] wx fun e w' => e = .returned (.bool q2) ∧ wx = w') := fun wx hx => by
      rw [hq2]; exact areNumbers_any D dcap ds g.params wx (HD.out.below hx) (by omega)
    rw [← hq1, ← hq2] at hag
    have HV := Lib.hid hag
    have HG := Lib.hid hg
    obtain ⟨bP, oP, rfl, hbP, _⟩ := hP.fns.get hg
    rw [hv] at hAsk
    rw [HV.out]
    have tok1 : True := trivial
    clear hq1 hq2 hag hg hv hP hA hD hok
    cases q1 <;> cases q2
    all_goals
      go_enter Tryz.func36, Tryz.ntmps36
      go_wp2_with fail
      refine (hAsk.out _ (by go_grown)).mono ?_; rintro e w1 ⟨rfl, hb1⟩
      obtain ⟨q1, q2⟩ := prBox (C := [Value.slice (some ⟨bP, oP, none⟩) P.length pcap]) hb1
      have Q2 := Lib.hid q2
      have a0 : w1.cell? ⟨w.heap.size, 0, none⟩ = some (.slice (some ⟨bP, oP, none⟩) P.length pcap) := by rw [q1.cell]; rfl
      obtain ⟨bP', oP', e', hbP2, _, g1, _⟩ := (HP.out.fns.below Q2.out).get HG.out
      obtain ⟨rfl, rfl⟩ : bP = bP' ∧ oP = oP' := by simpa using e'
      clear e' q1 q2 hb1
      go_wp2_with (first | (go_at_call 49; have _t := tok1; (with_reducible refine (hN1.out _ Q2.out).mono ?_); rintro e w' ⟨rfl, rfl⟩; clear tok1) | (go_at_call 49; (with_reducible refine (hN2.out _ Q2.out).mono ?_); rintro e w' ⟨rfl, rfl⟩))
      go_ret
      exact ⟨rfl, Q2.out⟩
  · rw [lineV_no hv]
    generalize askV P f = V at *
    have hv1 : (V == 0) = false := by simpa using hv
    go_enter Tryz.func36, Tryz.ntmps36
    go_wp2_with fail
    refine (hAsk.out _ (by go_grown)).mono ?_; rintro e w1 ⟨rfl, hb1⟩
    obtain ⟨q1, q2⟩ := prBox (C := [Value.slice PA P.length pcap]) hb1
    have Q2 := Lib.hid q2
    clear q1 q2 hb1
    go_wp2
    go_ret
    exact ⟨rfl, Q2.out⟩

set_option maxRecDepth 100000 in
set_option maxHeartbeats 2000000 in
theorem isPicked_any (P : List Fn) (f pick : Int) {PA : Option Addr} {pcap : Nat} {A D : Option Addr} {cap dcap : Nat} (zs ds : List Int) (w : World) (hP : ProgIn w P PA pcap) (hA : Ints w A zs) (hl : zs.length ≤ 1048576) (hD : Ints w D ds) (hdl : ds.length ≤ 1048576) :
    Calls Tryz.prog 41 #[prV PA P.length pcap, .int .i64 f, .int .i64 pick, .slice A zs.length cap, .slice D ds.length dcap] w fun e w' => e = .returned (.int .i64 (pickV P f pick zs ds)) ∧ Below w.heap.size w w' := by
  have hpm : pcap ≤ 9223372036854775807 := by have := hP.pm; unfold maxLen at this; omega
  obtain ⟨hC0, hg0⟩ : Cells (w.alloc (.cells #[.slice PA P.length pcap] 32)) w.heap.size 32 [.slice PA P.length pcap] ∧ Below w.heap.size w (w.alloc (.cells #[.slice PA P.length pcap] 32)) := ⟨Cells.new w _ _, by go_grown⟩
  have HC := Lib.hid (isLine_any P f zs ds (cap := cap) (dcap := dcap) _ (⟨(hP.fns.below hg0).mono (by simp), hP.pl, hP.pm, hP.sz⟩ : ProgIn (w.alloc (.cells #[.slice PA P.length pcap] 32)) P PA pcap) (hA.below hg0) hl (hD.below hg0) hdl)
  have HP := Lib.hid hP
  clear hC0 hg0
  by_cases hv : lineV P f zs ds = 0
  · have hav := (lineV_zero hv).1
    obtain ⟨_, m, g, rfl, hin⟩ := argV_zero hav
    have hg := hin.fn.fn
    have HV : Hid (pickV P m pick zs ds = if inR pick 0 ((g.outs.len : Int) - 1) = true then 0 else 2) := by
      show _ = _
      unfold pickV outsN
      rw [if_pos hv]
      simp [hg]
    have hml : m < P.length := (List.getElem?_eq_some_iff.1 hg).1
    have hml2 : (m : Int) < (P.length : Int) := by omega
    have HG := Lib.hid hg
    have ho12 := hin.fn.o12
    obtain ⟨bP, oP, rfl, hbP, _⟩ := hP.fns.get hg
    rw [hv] at HC
    rw [HV.out]
    clear hg hv hP hA hD hin hav
    cases hq : inR pick 0 ((g.outs.len : Int) - 1)
    all_goals
      have HQ := Lib.hid hq
      clear hq
      go_enter Tryz.func41, Tryz.ntmps41
      go_wp2_with fail
      refine HC.out.mono ?_; rintro e w1 ⟨rfl, hb1⟩
      obtain ⟨q1, q2⟩ := prBox (C := [Value.slice (some ⟨bP, oP, none⟩) P.length pcap]) hb1
      have Q2 := Lib.hid q2
      have a0 : w1.cell? ⟨w.heap.size, 0, none⟩ = some (.slice (some ⟨bP, oP, none⟩) P.length pcap) := by rw [q1.cell]; rfl
      obtain ⟨bP', oP', e', hbP2, _, _, _, KF, cF, g2, hcF, hmF, _⟩ := (HP.out.fns.below Q2.out).get HG.out
      obtain ⟨rfl, rfl⟩ : bP = bP' ∧ oP = oP' := by simpa using e'
      have hmF' : cF ≤ 9223372036854775807 := by unfold maxLen at hmF; omega
      clear e' q1 q2 hb1
      go_wp2_with (go_at_call 72; refine (within_any _ _ _ _).mono ?_; rintro e w2 ⟨rfl, rfl⟩; rw [HQ.out])
      go_ret
      exact ⟨rfl, Q2.out⟩
  · have HV : Hid (pickV P f pick zs ds = lineV P f zs ds) := by show _ = _; unfold pickV; rw [if_neg hv]
    rw [HV.out]
    generalize lineV P f zs ds = V at *
    have hv1 : (V == 0) = false := by simpa using hv
    go_enter Tryz.func41, Tryz.ntmps41
    go_wp2_with fail
    refine HC.out.mono ?_; rintro e w1 ⟨rfl, hb1⟩
    obtain ⟨q1, q2⟩ := prBox (C := [Value.slice PA P.length pcap]) hb1
    have Q2 := Lib.hid q2
    clear q1 q2 hb1
    go_wp2
    go_ret
    exact ⟨rfl, Q2.out⟩

set_option maxHeartbeats 1000000 in
theorem asked3S_any (P : List Fn) (f : Int) (A D : Option Addr) (cap dcap : Nat) (zs ds : List Int) (bp op B : Nat) (w : World) (hP : PrAt w B P bp op) (hB : B ≤ w.heap.size) (hsz : fnSize P ≤ 1048576) (hA : Ints w A zs) (hl : zs.length ≤ 2000000) (hD : Ints w D ds) (hdl : ds.length ≤ 2000000) :
    Calls Tryz.prog 70 #[ptr bp op, .int .i64 f, .slice A zs.length cap, .slice D ds.length dcap] w fun e w' => e = .returned (.int .i64 (lineV P f zs ds)) ∧ Below w.heap.size w w' := by
  have HC := Lib.hid (argsS_any P f A cap zs bp op B w hP hB hsz hA hl)
  have HD := Lib.hid hD
  clear hP hA hD
  by_cases hv : argV P f zs = 0
  · have HV : Hid (lineV P f zs ds = if ds.length = zs.length ∧ nums' ds = true then 0 else 2) := by show _ = _; unfold lineV; rw [if_pos hv]
    rw [hv] at HC
    rw [HV.out]
    clear hv
    by_cases he : ds.length = zs.length
    · have hne1 : ((ds.length : Int) == zs.length) = true := beq_iff_eq.2 (by omega)
      have hne2 : ((ds.length : Int) != zs.length) = false := by rw [bne, hne1]; rfl
      have HE := Lib.hid he
      obtain ⟨q, hq⟩ : ∃ q, q = nums' ds := ⟨_, rfl⟩
      have HN : Hid (∀ wx, Below w.heap.size w wx → Calls Tryz.prog 60 #[.slice D ds.length dcap] wx fun e w' => e = .returned (.bool q) ∧ wx = w') := fun wx hx => by
        rw [hq]; exact numbersS_any D dcap ds wx (HD.out.below hx) hdl
      have HR : Hid ((if ds.length = zs.length ∧ nums' ds = true then (0 : Int) else 2) = if q = true then 0 else 2) := by
        show _ = _
        rw [hq]; simp [HE.out]
      rw [HR.out]
      clear hq he
      cases q
      all_goals
        go_enter Tryz.func70, Tryz.ntmps70
        go_wp2_with fail
        refine HC.out.mono ?_; rintro e w1 ⟨rfl, hb1⟩
        have HB := Lib.hid hb1
        clear hb1
        go_wp2_with (go_at_call 60; refine (HN.out _ HB.out).mono ?_; rintro e w' ⟨rfl, rfl⟩)
        go_ret
        exact ⟨rfl, HB.out⟩
    · have hne1 : ((ds.length : Int) == zs.length) = false := beq_eq_false_iff_ne.2 (by omega)
      have hne2 : ((ds.length : Int) != zs.length) = true := by rw [bne, hne1]; rfl
      have HR : Hid ((if ds.length = zs.length ∧ nums' ds = true then (0 : Int) else 2) = 2) := if_neg (fun h => he h.1)
      rw [HR.out]
      clear he
      go_enter Tryz.func70, Tryz.ntmps70
      go_wp2_with fail
      refine HC.out.mono ?_; rintro e w1 ⟨rfl, hb1⟩
      have HB := Lib.hid hb1
      clear hb1
      go_wp2
      go_ret
      exact ⟨rfl, HB.out⟩
  · have HV : Hid (lineV P f zs ds = argV P f zs) := by show _ = _; unfold lineV; rw [if_neg hv]
    rw [HV.out]
    generalize argV P f zs = V at *
    have hv1 : (V == 0) = false := by simpa using hv
    go_enter Tryz.func70, Tryz.ntmps70
    go_wp2_with fail
    refine HC.out.mono ?_; rintro e w1 ⟨rfl, hb1⟩
    go_wp2
    go_ret
    exact ⟨rfl, hb1⟩

set_option maxHeartbeats 1000000 in
theorem pickedS_any (P : List Fn) (f pick : Int) (A D : Option Addr) (cap dcap : Nat) (zs ds : List Int) (bp op B : Nat) (w : World) (hP : PrAt w B P bp op) (hB : B ≤ w.heap.size) (hsz : fnSize P ≤ 1048576) (hA : Ints w A zs) (hl : zs.length ≤ 2000000) (hD : Ints w D ds) (hdl : ds.length ≤ 2000000) :
    Calls Tryz.prog 40 #[ptr bp op, .int .i64 f, .int .i64 pick, .slice A zs.length cap, .slice D ds.length dcap] w fun e w' => e = .returned (.int .i64 (pickV P f pick zs ds)) ∧ Below w.heap.size w w' := by
  have HC := Lib.hid (asked3S_any P f A D cap dcap zs ds bp op B w hP hB hsz hA hl hD hdl)
  by_cases hv : lineV P f zs ds = 0
  · have hav := (lineV_zero hv).1
    obtain ⟨_, m, g, rfl, hin⟩ := argV_zero hav
    have hg := hin.fn.fn
    have HV : Hid (pickV P m pick zs ds = if inR pick 0 ((g.outs.len : Int) - 1) = true then 0 else 2) := by
      show _ = _
      unfold pickV outsN
      rw [if_pos hv]
      simp [hg]
    have hml : m < P.length := (List.getElem?_eq_some_iff.1 hg).1
    have hml2 : (m : Int) < (P.length : Int) := by omega
    obtain ⟨hbp, PA, pcap, hp0, hPl, hPm, hFS⟩ := hP
    have hPm' : pcap ≤ 9223372036854775807 := by unfold maxLen at hPm; omega
    obtain ⟨bP, oP, rfl, hbP, _, _, _, KF, cF, g2, hcF, hmF, _⟩ := hFS.get hg
    have hmF' : cF ≤ 9223372036854775807 := by unfold maxLen at hmF; omega
    have ho12 := hin.fn.o12
    rw [hv] at HC
    rw [HV.out]
    have hbpw : bp < w.heap.size := by omega
    have hbPw : bP < w.heap.size := by omega
    clear hg hv hA hD hin hav hFS
    generalize g.outs.len = ol at *
    cases hq : inR pick 0 ((ol : Int) - 1)
    all_goals
      have HQ := Lib.hid hq
      clear hq
      go_enter Tryz.func40, Tryz.ntmps40
      go_wp2_with fail
      refine HC.out.mono ?_; rintro e w1 ⟨rfl, hb1⟩
      have p1 : w1.cell? ⟨bp, op, none⟩ = some (.slice (some ⟨bP, oP, none⟩) P.length pcap) := (hb1.cell (p := ⟨bp, op, none⟩) hbpw).trans hp0
      have p2 : w1.cell? ⟨bP, oP + m * 3 + 2, none⟩ = some (.slice KF ol cF) := (hb1.cell (p := ⟨bP, oP + m * 3 + 2, none⟩) hbPw).trans g2
      have HB := Lib.hid hb1
      clear hb1
      go_wp2_with (go_at_call 71; refine (in_any _ _ _ _).mono ?_; rintro e w' ⟨rfl, rfl⟩; rw [HQ.out])
      go_ret
      exact ⟨rfl, HB.out⟩
  · have HV : Hid (pickV P f pick zs ds = lineV P f zs ds) := by show _ = _; unfold pickV; rw [if_neg hv]
    rw [HV.out]
    generalize lineV P f zs ds = V at *
    have hv1 : (V == 0) = false := by simpa using hv
    clear hP hA hD
    go_enter Tryz.func40, Tryz.ntmps40
    go_wp2_with fail
    refine HC.out.mono ?_; rintro e w1 ⟨rfl, hb1⟩
    go_wp2
    go_ret
    exact ⟨rfl, hb1⟩

end Go.Proofs.YtlnikpjcggfdmaaGreat

/- Walks: TaylorOf of the spec and of the program. -/
namespace Go.Proofs.YtlnikpjcggfdmaaGreat
open Go.RowKit Plain

theorem ownsRow_at {w : World} {base e n cp : Nat} {A : Option Addr} {xs : List Value} (h : w.ownsRow base e 1 (.slice A n cp) n xs) (hn : 0 < n) : ∃ g, A = some ⟨g, 0, none⟩ ∧ base ≤ g ∧ g < w.heap.size ∧ Typed w g e ∧ ∀ i, i < n → w.cell? ⟨g, i, none⟩ = xs[i]? := by
  obtain ⟨g, cap, hv, hg, hlt⟩ := World.ownsRow.form h hn
  have hA : A = some ⟨g, 0, none⟩ := by injection hv
  have hc : cp = cap := by injection hv
  subst hA
  subst hc
  exact ⟨g, rfl, hg, hlt, own_typed h rfl, fun i hi => World.ownsRow.cellAt h i (by omega)⟩
/-- new rows are a region of their own -/
theorem NewRows.reg {w : World} {B n cp : Nat} {A : Option Addr} {zss : List (List Int)} (h : NewRows w B n (.slice A zss.length cp) zss) (hB : B ≤ w.heap.size) : RS w B w.heap.size A zss := by
  refine ⟨hB, Nat.le_refl _, fun hn => ?_, fun _ _ h hb => h.keep hb⟩
  obtain ⟨vs, bs, h1, h2, h3, h4, h5⟩ := h
  obtain ⟨g, rfl, hg, hlt, ht, hc⟩ := ownsRow_at h1 hn
  refine ⟨g, 0, fun i => bs.getD i 0, rfl, hg, hlt, fun i zs hz => ?_, fun i j zi zj hij hi hj _ _ => ?_⟩
  · have hi : i < zss.length := (List.getElem?_eq_some_iff.1 hz).1
    have hb := List.getElem?_eq_getElem (show i < bs.length by omega)
    obtain ⟨cap, q1, q2, q3, q4, q5⟩ := h5 i zs _ hz hb
    have hm := h4 _ (List.getElem_mem (show i < bs.length by omega))
    refine ⟨some ⟨bs[i], 0, none⟩, cap, by rw [Nat.zero_add, hc i hi, q1, q2], fun _ => ⟨0, ?_, ?_⟩⟩
    · simp [List.getD, hb]
    · simp only [List.getD, hb, Option.getD_some]
      exact ⟨hm.1, hm.2, q4.ne ht (by decide), fun j x hx => by rw [Nat.zero_add]; exact q5 j x hx⟩
  · have hil : i < bs.length := by have := (List.getElem?_eq_some_iff.1 hi).1; omega
    have hjl : j < bs.length := by have := (List.getElem?_eq_some_iff.1 hj).1; omega
    simp only [List.getD, List.getElem?_eq_getElem hil, List.getElem?_eq_getElem hjl, Option.getD_some]
    have := List.pairwise_iff_getElem.1 h3 i j hil hjl hij
    omega
theorem rowsNil {w : World} {B : Nat} {A : Option Addr} (h : B ≤ w.heap.size) : RS w B w.heap.size A [] := ⟨h, Nat.le_refl _, RowsR.nil _ _ _ _, fun _ _ h hb => h.keep hb⟩
theorem intsNil {w : World} {B : Nat} {A : Option Addr} (h : B ≤ w.heap.size) : RI w B w.heap.size A [] := (IntsM.nil _ _ _).reg h
/-- rows made behind a call -/
theorem rowsAfter {w w1 w2 : World} {n cp : Nat} {A : Option Addr} {zss : List (List Int)} (hb : Below w.heap.size w w1) (h : NewRows w2 w1.heap.size n (.slice A zss.length cp) zss) (hb2 : Below w1.heap.size w1 w2) : RS w2 w.heap.size w2.heap.size A zss :=
  (h.weaken hb.size).reg (by have := hb.size; have := hb2.size; omega)

def tayRes : Res (List (List Int)) → List (List Int) × Int
  | .err x => ([], x)
  | .ok zss _ => (zss, 0)
/-- what TaylorOf answers -/
def taylorV (P : List Fn) (f : Int) (zs ds : List Int) (o : Int) : List (List Int) × Int :=
  if lineV P f zs ds = 0 then (if inR o 0 12 = true then (match P[f.toNat]? with
    | none => ([], 0)
    | some g => tayRes (tayR (o.toNat + 1) P g.outs zs ds)) else ([], 2))
  else ([], lineV P f zs ds)
theorem RowsPost.si {n : Nat} {R : Res (List (List Int))} {w w1 w2 : World} {e : Ending} (hb : Below w.heap.size w w1) (h : RowsPost n R w1 e w2) : RetSi (tayRes R).1 (tayRes R).2 w e w2 := by
  obtain ⟨hb2, h⟩ := h
  have hbb := bnext hb hb2
  cases R with
  | err c =>
    obtain ⟨A, cp, rfl⟩ := h
    exact ⟨hbb, A, cp, rfl, rowsNil hbb.size⟩
  | ok zss t =>
    obtain ⟨A, cp, rfl, hN⟩ := h
    exact ⟨hbb, A, cp, rfl, rowsAfter hb hN hb2⟩

theorem ops_len (n : Nat) : OpsR (ops n) (ops n) (fun a b => a = b ∧ a.length ≤ n) where
  nil := ⟨rfl, Nat.zero_le _⟩
  num x := ⟨rfl, by simp [ops, mk_length]⟩
  add := by rintro a _ b _ ⟨rfl, ha⟩ ⟨rfl, _⟩; exact ⟨rfl, by show (addL a b).length ≤ n; rw [addL_length]; exact ha⟩
  sub := by rintro a _ b _ ⟨rfl, ha⟩ ⟨rfl, _⟩; exact ⟨rfl, by simpa [ops, mk_length] using ha⟩
  mul := by rintro a _ b _ ⟨rfl, ha⟩ ⟨rfl, _⟩; exact ⟨rfl, by show (mulL a b).length ≤ n; rw [mulL_length]; exact ha⟩
  neg := by rintro a _ ⟨rfl, ha⟩; exact ⟨rfl, by simpa [ops, mk_length] using ha⟩
  div := by rintro a _ b _ ⟨rfl, ha⟩ ⟨rfl, _⟩ _; exact ⟨rfl, by show (divL a b).length ≤ n; rw [divL_length]; exact ha⟩
  zero := by rintro a _ ⟨rfl, _⟩; rfl
theorem evalR_rows {n : Nat} {P : List Fn} {outs : Es} {args zss : List (List Int)} {t : Nat} (ha : ∀ a ∈ args, a.length ≤ n) (h : evalR n P outs args = .ok zss t) : ∀ z ∈ zss, z.length ≤ n := by
  have hE : EnvR (fun a b => a = b ∧ a.length ≤ n) args args := ⟨rfl, fun j => ⟨rfl, by
    by_cases hj : j < args.length
    · rw [show args.getD j [] = args[j] by simp [List.getD, hj]]; exact ha _ (List.getElem_mem hj)
    · rw [show args.getD j [] = [] by simp [List.getD, hj]]; simp⟩⟩
  have hr := evAll_rel (R := fun a b => a = b ∧ a.length ≤ n) (ops_len n).nil (fun x s => ev_rel (ops_len n) P 3001 x args args s hE) outs 0
  unfold evalR at h
  rw [h] at hr
  intro z hz
  obtain ⟨j, hj, rfl⟩ := List.getElem_of_mem hz
  have := (hr.2.2 j).2
  rwa [show zss.getD j [] = zss[j] by simp [List.getD, hj]] at this
theorem tot_le {zss : List (List Int)} {n : Nat} (hz : ∀ z ∈ zss, z.length ≤ n) : tot zss ≤ zss.length * n := by
  induction zss with
  | nil => simp [tot]
  | cons z r ih =>
    have h1 := hz z List.mem_cons_self
    have h2 := ih fun y hy => hz y (List.mem_cons_of_mem _ hy)
    simp only [tot, List.length_cons, Nat.add_mul]
    omega
theorem lineL_rows (n : Nat) (zs ds : List Int) (k : Nat) : ∀ a ∈ lineL n zs ds k, a.length ≤ n := fun a ha => by
  unfold lineL at ha
  obtain ⟨i, _, rfl⟩ := List.mem_map.1 ha
  rw [lineRow_length]
  exact Nat.le_refl _
theorem tayRes_tot {n : Nat} {P : List Fn} {m : Nat} {g : Fn} {zs ds : List Int} (hin : ArgIn P m g zs) (hn : n ≤ 13) : tot (tayRes (tayR n P g.outs zs ds)).1 ≤ 156 := by
  cases hr : tayR n P g.outs zs ds with
  | err c => simp [tayRes, tot]
  | ok zss t =>
    have h1 := evalR_len hr
    have h2 := hin.fn.o12
    have h3 := tot_le (evalR_rows (lineL_rows n zs ds zs.length) hr)
    simp only [tayRes]
    have : zss.length * n ≤ 12 * 13 := Nat.mul_le_mul (by omega) hn
    omega
theorem tayRes_len {n : Nat} {P : List Fn} {m : Nat} {g : Fn} {zs ds : List Int} (hin : ArgIn P m g zs) (_hn : n ≤ 13) : (tayRes (tayR n P g.outs zs ds)).1.length ≤ 12 := by
  cases hr : tayR n P g.outs zs ds with
  | err c => simp [tayRes]
  | ok zss t =>
    have h1 := evalR_len hr
    have h2 := hin.fn.o12
    simp only [tayRes]
    omega

theorem taylorV_of (P : List Fn) (f : Int) (zs ds : List Int) (o : Int) : (taylorV P f zs ds o).1 = [] ∨ ∃ m g q, ArgIn P m g zs ∧ q ≤ 13 ∧ (taylorV P f zs ds o).1 = (tayRes (tayR q P g.outs zs ds)).1 := by
  unfold taylorV
  split
  · rename_i h
    obtain ⟨_, m, g, rfl, hin⟩ := argV_zero (lineV_zero h).1
    split
    · rename_i hq
      have := inR_true.1 hq
      simp only [Int.toNat_natCast, hin.fn.fn]
      exact .inr ⟨m, g, _, hin, by omega, rfl⟩
    · exact .inl rfl
  · exact .inl rfl
theorem taylorV_len (P : List Fn) (f : Int) (zs ds : List Int) (o : Int) : (taylorV P f zs ds o).1.length ≤ 4194304 := by
  rcases taylorV_of P f zs ds o with h | ⟨m, g, q, hin, hq, h⟩ <;> rw [h]
  · simp
  · have := tayRes_len (ds := ds) hin hq; omega
theorem taylorV_tot (P : List Fn) (f : Int) (zs ds : List Int) (o : Int) : tot (taylorV P f zs ds o).1 ≤ 4194304 := by
  rcases taylorV_of P f zs ds o with h | ⟨m, g, q, hin, hq, h⟩ <;> rw [h]
  · simp [tot]
  · have := tayRes_tot (ds := ds) hin hq; omega

end Go.Proofs.YtlnikpjcggfdmaaGreat

/- Walks: sums of unit vectors, in the spec and in the program. -/
namespace Go.Proofs.YtlnikpjcggfdmaaGreat
open Go.RowKit Plain

/-- how often a place is named -/
def cntN (ps : List Int) (i : Nat) : Int := ((ps.filter fun p => p == (i : Int)).length : Nat)
/-- the sum of unit vectors -/
def unitL (n : Nat) (ps : List Int) : List Int := mk n (cntN ps)
theorem unitL_length (n : Nat) (ps : List Int) : (unitL n ps).length = n := mk_length _ _
theorem cntN_bd (ps : List Int) (i : Nat) : 0 ≤ cntN ps i ∧ cntN ps i ≤ ps.length := by
  unfold cntN
  have := List.length_filter_le (fun p => p == (i : Int)) ps
  omega
theorem cntN_snoc (ps : List Int) (j i : Nat) : cntN (ps ++ [(j : Int)]) i = if i = j then cntN ps i + 1 else cntN ps i := by
  unfold cntN
  rw [List.filter_append, List.length_append]
  by_cases h : i = j
  · subst h; simp
  · have : ((j : Int) == (i : Int)) = false := beq_eq_false_iff_ne.2 (by omega)
    simp [this, h]
theorem isS_unit {n : Nat} {ps : List Int} (hl : ps.length ≤ 1000) : IsS (unitL n ps) := IsS.mk_ fun k => by have := cntN_bd ps k; omega
theorem unit_set {n j : Nat} {ps : List Int} (hj : j < n) : (rowF n (cntN ps)).set j (.int .i64 (cntN ps j + 1)) = rowF n (cntN (ps ++ [(j : Int)])) := by
  apply List.ext_getElem?
  intro i
  unfold rowF mk
  by_cases h : i = j
  · subst h
    rw [List.getElem?_set_self (by simpa using hj)]
    simp [hj, cntN_snoc]
  · rw [List.getElem?_set_ne (by omega)]
    by_cases hi : i < n
    · simp [hi, cntN_snoc, h]
    · rw [List.getElem?_eq_none (by simpa using hi), List.getElem?_eq_none (by simpa using hi)]

set_option maxRecDepth 100000 in
set_option maxHeartbeats 1000000 in
theorem unit_any (n : Nat) (A : Option Addr) (cap : Nat) (ps : List Int) (w : World) (hA : Ints w A ps) (hp : ∀ p ∈ ps, 0 ≤ p ∧ p < n) (hl : ps.length ≤ 1000) (hn : n ≤ 1000000) :
    Calls Tryz.prog 66 #[.int .i64 n, .slice A ps.length cap] w (SerPost (unitL n ps) w) := by
  have hmk := run_make_row' (P := Tryz.prog) 25 2 (.int .i64 0) 8 Tryz.underlying25 Tryz.infoI rfl .i64 .i64 n (by omega) (by omega)
  rw [madeCells_one, rowF_zero] at hmk
  have HP := Lib.hid hp; clear hp
  go_enter Tryz.func66, Tryz.ntmps66
  go_wp2
  go_loopw [12] (fun i wr => ∃ k : Nat, k ≤ ps.length ∧ i = .int .i64 (k : Int) ∧ Hid (Cells wr w.heap.size 2 (rowF n (cntN (ps.take k)))) ∧ Hid (Below w.heap.size w wr)) (fun i _ => ps.length - (intOf i).toNat)
  case atStart => exact ⟨0, by omega, by go_num, Cells.new w _ _, by show Below _ _ _; go_grown⟩
  case round =>
    obtain ⟨k, hk, rfl, HC, HB⟩ := hrel
    by_cases hlt : k < ps.length
    · obtain ⟨b, o, x, rfl, hx, hc⟩ := (hA.below HB.out).at_ hlt
      have hxp := HP.out x (List.mem_of_getElem? hx)
      obtain ⟨j, rfl⟩ := Int.eq_ofNat_of_zero_le hxp.1
      have hj : j < n := by omega
      have hji : (j : Int) < (n : Int) := hxp.2
      have g3 := cell_row HC.out hj
      have z3 : wr.frozen? ⟨w.heap.size, j, none⟩ = false := HC.out.frozen _
      have hbd := cntN_bd (ps.take k) j
      have htl : (ps.take k).length ≤ 1000 := by simp; omega
      have HN : Hid (Cells (wr.setCell ⟨w.heap.size, j, none⟩ (.int .i64 (cntN (ps.take k) j + 1))) w.heap.size 2 (rowF n (cntN (ps.take (k + 1))))) := by
        have h := HC.out.set_ j (.int .i64 (cntN (ps.take k) j + 1))
        rw [unit_set hj] at h
        rw [take_snoc' ps k _ hx]
        exact h
      have hx0 : 0 ≤ cntN (ps.take k) j := hbd.1
      have hx1 : cntN (ps.take k) j ≤ 1000 := by omega
      have HM : Hid ((cntN (ps.take k) j + 1) % 1000003 = cntN (ps.take k) j + 1) := Int.emod_eq_of_lt (by omega) (by omega)
      have hkl : (k : Int) < (ps.length : Int) := by omega
      generalize cntN (ps.take k) j = c at *
      clear hbd htl hx hxp
      go_wp2
      go_roundw
      case rel => exact ⟨k + 1, by omega, by go_num, by rw [HM.out]; exact HN.out, HB.out.setCell (Nat.le_refl _) _⟩
      case measure => simp [intOf]; omega
    · obtain rfl : k = ps.length := by omega
      go_wp2
      go_ret
      have h := HC.out
      rw [List.take_length] at h
      exact ⟨by rw [unitL_length]; rfl, h, HB.out⟩

set_option maxHeartbeats 1000000 in
theorem unitS_any (n j : Nat) (w : World) (hj : j < n) (hn : n ≤ 1000000) :
    Calls Tryz.prog 63 #[.int .i64 n, .int .i64 j] w (SerPost (unitL n [(j : Int)]) w) := by
  have hmk := run_make_row' (P := Tryz.prog) 25 2 (.int .i64 0) 8 Tryz.underlying25 Tryz.infoI rfl .i64 .i64 n (by omega) (by omega)
  rw [madeCells_one, rowF_zero] at hmk
  have HC := Cells.new w 2 (rowF n fun _ => 0)
  have g3 := cell_row HC hj
  have z3 := HC.frozen j
  have hji : (j : Int) < (n : Int) := by omega
  have HN : Hid (Cells (w.alloc (.cells ((rowF n fun _ => 0).set j (.int .i64 1)).toArray 2)) w.heap.size 2 (rowF n (cntN [(j : Int)]))) := by
    have e : (rowF n fun _ => 0).set j (.int .i64 1) = rowF n (cntN [(j : Int)]) := by
      have h := unit_set (ps := []) hj
      rw [List.nil_append] at h
      rw [← h]
      rfl
    show Cells _ _ _ _
    rw [← e]
    exact Cells.new w _ _
  go_enter Tryz.func63, Tryz.ntmps63
  go_wp2
  go_ret
  exact ⟨by rw [unitL_length]; rfl, HN.out, by go_grown⟩

end Go.Proofs.YtlnikpjcggfdmaaGreat

/- Walks: columns of rows, directional of the program; Directional of the spec and of the program. -/
namespace Go.Proofs.YtlnikpjcggfdmaaGreat
open Go.RowKit Plain

/-- the numbers of an order -/
def colL (k : Nat) (env : List (List Int)) : List Int := mk env.length fun i => cf (env.getD i []) k
theorem colL_length (k : Nat) (env : List (List Int)) : (colL k env).length = env.length := mk_length _ _
theorem RowV.at_ {w : World} {bv n k : Nat} {v : Value} {zs : List Int} (h : RowV w bv n v zs) (hk : k < n) : ∃ b o cap, v = .slice (some ⟨b, o, none⟩) n cap ∧ b < w.heap.size ∧ w.cell? ⟨b, o + k, none⟩ = some (.int .i64 (cf zs k)) := by
  obtain ⟨A, cap, rfl, hl, hi, hs⟩ := h
  obtain ⟨b, o, rfl, hb, _, _, hc⟩ := hi (by omega)
  exact ⟨b, o, cap, rfl, hb, hc k _ (cf_some (by omega))⟩

/-- values and slopes -/
def DirPost (R : Res (List (List Int))) (w : World) (e : Ending) (w' : World) : Prop :=
  Below w.heap.size w w' ∧ match R with
    | .err c => ∃ A cp A' cp', e = .returned (.tuple #[.slice A 0 cp, .slice A' 0 cp', .int .i64 c])
    | .ok zss _ => ∃ A cp A' cp' m, e = .returned (.tuple #[.slice A zss.length cp, .slice A' zss.length cp', .int .i64 0]) ∧ RI w' m w'.heap.size A (heads zss) ∧ RI w' w.heap.size m A' (colL 1 zss) ∧ w.heap.size ≤ m ∧ m ≤ w'.heap.size
theorem heads_length (zss : List (List Int)) : (heads zss).length = zss.length := mk_length _ _

set_option maxRecDepth 100000 in
set_option maxHeartbeats 4000000 in
theorem directionalI (P : List Fn) (m : Nat) (g : Fn) (PA : Option Addr) (pcap : Nat) (A D : Option Addr) (cap dcap : Nat) (zs ds : List Int) (w : World) (hP : ProgIn w P PA pcap) (hin : ArgIn P m g zs) (hA : Ints w A zs) (hD : Ints w D ds) (hd : IsS ds) (hl : ds.length = zs.length) :
    Calls Tryz.prog 65 #[prV PA P.length pcap, .int .i64 m, .slice A zs.length cap, .slice D ds.length dcap] w (DirPost (tayR 2 P g.outs zs ds) w) := by
  obtain ⟨i0, hi, hz0, hz1, hz2⟩ := info_parts Tryz.infoI
  have hg0 : Below w.heap.size w (w.alloc (.cells #[.slice PA P.length pcap] 32)) := by go_grown
  have HC : Hid (Calls Tryz.prog 96 #[prV PA P.length pcap, .int .i64 m, .slice A zs.length cap, .slice D ds.length dcap, .int .i64 1] (w.alloc (.cells #[.slice PA P.length pcap] 32)) (RowsPost 2 (tayR 2 P g.outs zs ds) (w.alloc (.cells #[.slice PA P.length pcap] 32)))) :=
    alongI P m g 1 PA pcap A D cap dcap zs ds _ (hP.below hg0) hin (hA.below hg0) (hD.below hg0) hd hl (by omega)
  have hlen : ∀ zss t, tayR 2 P g.outs zs ds = .ok zss t → zss.length ≤ 12 := fun zss t h => by have h1 := evalR_len h; have h2 := hin.fn.o12; omega
  have herr : ∀ c, tayR 2 P g.outs zs ds = .err c → c ≠ 0 := fun c h => evalR_err h
  clear hP hin hA hD hd hl hg0
  generalize tayR 2 P g.outs zs ds = R at *
  cases R with
  | err c =>
    have hc := herr c rfl
    have hc1 : (c == 0) = false := by simpa using hc
    clear hlen herr
    go_enter Tryz.func65, Tryz.ntmps65
    go_wp2_with fail
    refine HC.out.mono ?_; rintro e w1 ⟨hb1, A', cp', rfl⟩
    have Q2 := Lib.hid (prBox (C := [Value.slice PA P.length pcap]) hb1).2
    clear hb1
    go_wp2
    go_ret3
    exact ⟨Q2.out, _, _, _, _, rfl⟩
  | ok zss t =>
    have hzl := hlen zss t rfl
    clear hlen herr
    go_enter Tryz.func65, Tryz.ntmps65
    go_wp2_with fail
    refine HC.out.mono ?_; rintro e w1 ⟨hb1, A', cp', rfl, hN⟩
    obtain ⟨q1, q2⟩ := prBox (C := [Value.slice PA P.length pcap]) hb1
    have Q2 := Lib.hid q2
    have HE := Lib.hid (hN.env (bv := w.heap.size) (by simp))
    have hwl : w.heap.size < w1.heap.size := q1.lt
    clear hb1 hN q1 q2 HC
    obtain ⟨F, hF⟩ : ∃ F : Nat → Int, F = fun i => cf (zss.getD i []) 1 := ⟨_, rfl⟩
    have HF := Lib.hid hF; clear hF
    obtain ⟨wo, rfl⟩ : ∃ wo : World, wo = w1 := ⟨_, rfl⟩
    go_wp2
    go_loopw [13, 30] (fun o i wr => ∃ (j : Nat) (Av : Option Addr) (cp : Nat), j ≤ zss.length ∧ i = .int .i64 (j : Int) ∧ o = .slice Av j cp ∧ Hid (IntRow wr wo.heap.size (.slice Av j cp) (mk j F)) ∧ Hid (Below wo.heap.size wo wr)) (fun _ i _ => zss.length - (intOf i).toNat)
    case atStart => exact ⟨0, _, _, by omega, by go_num, rfl, rowStart wo F, by show Below _ _ _; go_grown⟩
    case round =>
      obtain ⟨j, Av, cp, hj, rfl, rfl, HR, HB⟩ := hrel
      by_cases hlt : j < zss.length
      · obtain ⟨b1, o1, Az, cz, rfl, hb1, _, g0, hz0'⟩ := (HE.out.only (Only.of_below HB.out)).sat hlt
        obtain ⟨b3, o3, c3', hv3, hb3, hc3⟩ := RowV.at_ (k := 1) (w := wr) (bv := w.heap.size) (n := 2) (v := .slice Az 2 cz) (zs := zss.getD j []) ⟨Az, cz, rfl, hz0'.len, hz0'.isAt, hz0'.isS⟩ (by omega)
        obtain ⟨rfl, rfl⟩ : Az = some ⟨b3, o3, none⟩ ∧ cz = c3' := by simpa using hv3
        have HX : Hid (cf (zss.getD j []) 1 = F j) := (congrFun HF.out j).symm
        have hjl : (j : Int) < (zss.length : Int) := by omega
        clear hz0' hv3
        generalize cf (zss.getD j []) 1 = z at *
        go_wp2_with (at_builtin; refine wpList_append_own _ rfl _ _ 25 rfl wo.heap.size 2 i0 (.int .i64 0) 1 8 Tryz.underlying25 hi hz0 hz1 hz2 rfl (by decide) _ j _ rfl ((HR.out.ownN (mk_length _ _).symm).alloc _) ⟨wr.heap.size, 0, none⟩ 1 1 [.int .i64 z] rfl rfl ?c1 ?c2 ?c3 ?c4 ?c5 ?_)
        try (case c1 => exact cell_one_new _ _ _)
        try (case c2 => first | rfl | (intro u hu; simp at hu; subst hu; rfl))
        case c3 => unfold maxLen; omega
        case c4 => omega
        case c5 => have := HB.out.size; simp; try omega
        intro v2 w2 hown hg _
        obtain ⟨⟨A2, c2, rfl⟩, hr2, hb2⟩ := rowNext HR.out HB.out (by go_grown) HX.out hown hg
        have HR2 := Lib.hid hr2
        have HB2 := Lib.hid hb2
        clear hr2 hb2 hown hg HR HB HX g0 hc3
        go_wp2
        go_roundw
        case rel => exact ⟨j + 1, A2, c2, by omega, by go_num, rfl, HR2.out, HB2.out⟩
        case measure => simp [intOf]; omega
      · obtain rfl : j = zss.length := by omega
        obtain ⟨A2, c2, he2, hT2, hB2⟩ := rowEnd HR.out HB.out
        have HT2 : Hid (IntsT wr wo.heap.size Av (colL 1 zss)) := by
          rw [mk_length] at he2
          obtain ⟨rfl, _⟩ : Av = A2 ∧ cp = c2 := by simpa using he2
          have e : colL 1 zss = mk zss.length F := by rw [HF.out]; rfl
          show IntsT _ _ _ _
          rw [e]; exact hT2
        have HFC := Lib.hid (firsts_any w.heap.size 2 A' cp' zss wr (HE.out.only (Only.of_below HB.out)) (by omega) (by omega))
        clear he2 hT2 hB2 HR HE
        go_wp2_with fail
        refine HFC.out.mono ?_; rintro e w3 ⟨Ah, ch, rfl, hTh, hb3⟩
        have HTh := Lib.hid hTh
        have HB3 := Lib.hid hb3
        clear hTh hb3 HFC
        rw [heads_length]
        go_wp2
        go_ret3
        have h1 := Q2.out.size
        have h2 := HB.out.size
        have h3 := HB3.out.size
        refine ⟨Q2.out.trans ((HB.out.trans (HB3.out.mono h2)).mono h1), Ah, ch, Av, cp, wr.heap.size, rfl, HTh.out.m.reg h3, ?_, by omega, h3⟩
        have hr : RI wr w.heap.size wr.heap.size Av (colL 1 zss) := ⟨by omega, Nat.le_refl _, fun h0 => by
          obtain ⟨b, o, e1, e2, e3, _, e4⟩ := HT2.out h0
          exact ⟨b, o, e1, by omega, e3, e4⟩, fun _ _ h hk => h.keep hk⟩
        exact hr.below HB3.out

def dirRes : Res (List (List Int)) → List Int × List Int × Int
  | .err c => ([], [], c)
  | .ok zss _ => (heads zss, colL 1 zss, 0)
/-- what Directional answers -/
def dirV (P : List Fn) (f : Int) (zs ds : List Int) : List Int × List Int × Int :=
  if lineV P f zs ds = 0 then (match P[f.toNat]? with
    | none => ([], [], 0)
    | some g => dirRes (tayR 2 P g.outs zs ds))
  else ([], [], lineV P f zs ds)
theorem retIIi_nil {w w' : World} {A A' : Option Addr} {cp cp' : Nat} {c : Int} (hb : Below w.heap.size w w') : RetIIi [] [] c w (.returned (.tuple #[.slice A 0 cp, .slice A' 0 cp', .int .i64 c])) w' :=
  ⟨hb, A, cp, A', cp', w.heap.size, w.heap.size, w.heap.size, w'.heap.size, rfl, ⟨Nat.le_refl _, hb.size, fun h => absurd h (by simp), fun _ _ h hk => h.keep hk⟩, intsNil hb.size, Nat.le_refl _, Nat.le_refl _, hb.size, Nat.le_refl _, hb.size, Nat.le_refl _, .inl (Nat.le_refl _)⟩
theorem DirPost.iii {R : Res (List (List Int))} {w w1 w2 : World} {e : Ending} (hb : Below w.heap.size w w1) (h : DirPost R w1 e w2) : RetIIi (dirRes R).1 (dirRes R).2.1 (dirRes R).2.2 w e w2 := by
  obtain ⟨hb2, h⟩ := h
  have hbb := bnext hb hb2
  cases R with
  | err c =>
    obtain ⟨A, cp, A', cp', rfl⟩ := h
    exact retIIi_nil hbb
  | ok zss t =>
    obtain ⟨A, cp, A', cp', m, rfl, h1, h2, h3, h4⟩ := h
    have h5 := hb.size
    refine ⟨hbb, A, cp, A', cp', m, w2.heap.size, w1.heap.size, m, ?_, h1, h2, by omega, h4, Nat.le_refl _, h5, h3, h4, .inr (Nat.le_refl _)⟩
    show _ = Ending.returned (.tuple #[.slice A (heads zss).length cp, .slice A' (colL 1 zss).length cp', .int .i64 0])
    rw [heads_length, colL_length]

theorem dirV_of (P : List Fn) (f : Int) (zs ds : List Int) : (dirV P f zs ds).1.length ≤ 12 ∧ (dirV P f zs ds).2.1.length ≤ 12 := by
  unfold dirV
  split
  · rename_i h
    obtain ⟨_, m, g, rfl, hin⟩ := argV_zero (lineV_zero h).1
    simp only [Int.toNat_natCast, hin.fn.fn]
    cases hr : tayR 2 P g.outs zs ds with
    | err c => simp [dirRes]
    | ok zss t =>
      have h1 := evalR_len hr
      have h2 := hin.fn.o12
      simp only [dirRes, heads_length, colL_length]
      omega
  · simp
theorem dirV_len1 (P : List Fn) (f : Int) (zs ds : List Int) : (dirV P f zs ds).1.length ≤ 4194304 := by have := (dirV_of P f zs ds).1; omega
theorem dirV_len2 (P : List Fn) (f : Int) (zs ds : List Int) : (dirV P f zs ds).2.1.length ≤ 4194304 := by have := (dirV_of P f zs ds).2; omega

end Go.Proofs.YtlnikpjcggfdmaaGreat

/- Walks: Partial of the spec and of the program. -/
namespace Go.Proofs.YtlnikpjcggfdmaaGreat
open Go.RowKit Plain

def partRes : Res (List (List Int)) → List Int × Int
  | .err c => ([], c)
  | .ok zss _ => (colL 1 zss, 0)
/-- what Partial answers -/
def partV (P : List Fn) (f param : Int) (zs : List Int) : List Int × Int :=
  if argV P f zs = 0 then (if inR param 0 ((zs.length : Int) - 1) = true then (match P[f.toNat]? with
    | none => ([], 0)
    | some g => partRes (tayR 2 P g.outs zs (unitL zs.length [param]))) else ([], 2))
  else ([], argV P f zs)
theorem retIi_nil {w w' : World} {A : Option Addr} {cp : Nat} {c : Int} (hb : Below w.heap.size w w') : RetIi [] c w (.returned (.tuple #[.slice A 0 cp, .int .i64 c])) w' :=
  ⟨hb, A, cp, rfl, intsNil hb.size⟩
theorem riMono {w w' : World} {lo lo' hi : Nat} {A : Option Addr} {zs : List Int} (h : Reg w' lo hi (IntsR lo hi A zs)) (h1 : lo' ≤ lo) (h2 : hi ≤ w'.heap.size) (h3 : w.heap.size = lo') : RI w' w.heap.size w'.heap.size A zs := by
  subst h3
  have := h.le
  exact ⟨by omega, Nat.le_refl _, fun h0 => by
    obtain ⟨b, o, e1, e2, e3, e4⟩ := h.now h0
    exact ⟨b, o, e1, by omega, by omega, e4⟩, fun _ _ h hk => h.keep hk⟩

theorem newCell (w : World) (t : TypeId) (v : Value) : (w.alloc (.cells #[v] t)).cell? ⟨w.heap.size, 0, none⟩ = some v := by
  have h : Cells (w.alloc (.cells #[v] t)) w.heap.size t [v] := Cells.new w t [v]
  rw [h.cell]; rfl
theorem bnextG {w wx w2 : World} (hb : Below wx.heap.size wx w2) (hx : Below w.heap.size w wx) : Below w.heap.size w w2 := bnext hx hb

theorem partV_len (P : List Fn) (f param : Int) (zs : List Int) : (partV P f param zs).1.length ≤ 4194304 := by
  unfold partV
  split
  · rename_i h
    obtain ⟨_, m, g, rfl, hin⟩ := argV_zero h
    split
    · simp only [Int.toNat_natCast, hin.fn.fn]
      cases hr : tayR 2 P g.outs zs (unitL zs.length [param]) with
      | err c => simp [partRes]
      | ok zss t =>
        have h1 := evalR_len hr
        have h2 := hin.fn.o12
        simp only [partRes, colL_length]
        omega
    · simp
  · simp

end Go.Proofs.YtlnikpjcggfdmaaGreat

/- Walks: series as arguments; EvaluateSeries of the spec and of the program. -/
namespace Go.Proofs.YtlnikpjcggfdmaaGreat
open Go.RowKit Plain

/-- the length of the first list -/
def headN (zss : List (List Int)) : Nat := (zss.getD 0 []).length
def rowB (h : Nat) (zs : List Int) : Bool := serB zs && decide (zs.length = h)
def rowsB (zss : List (List Int)) : Bool := zss.all (rowB (headN zss))
/-- the number of coefficients -/
def sizeN (zss : List (List Int)) : Nat := if zss.length = 0 then 1 else headN zss
/-- the code behind a function and series -/
def pathV (P : List Fn) (f : Int) (zss : List (List Int)) : Int := if askV P f = 0 then (if (decide ((zss.length : Int) = ((P[f.toNat]?).map Fn.params).getD 0) && rowsB zss) = true then 0 else 2) else askV P f
theorem rowsB_get {zss : List (List Int)} (h : rowsB zss = true) {zs : List Int} (hz : zs ∈ zss) : serB zs = true ∧ zs.length = headN zss := by
  have := List.all_eq_true.1 h zs hz
  unfold rowB at this
  simpa using this
theorem serB_true {zs : List Int} (h : serB zs = true) : 1 ≤ zs.length ∧ zs.length ≤ 13 ∧ IsS zs := by
  unfold serB at h
  simp only [Bool.and_eq_true] at h
  have := inR_true.1 h.1
  exact ⟨by omega, by omega, isS_nums h.2⟩
/-- a function and series that may be evaluated -/
structure PathIn (P : List Fn) (m : Nat) (g : Fn) (zss : List (List Int)) : Prop where
  ok : progOk P = true
  fn : FnIn P m g
  len : (zss.length : Int) = g.params
  n0 : 1 ≤ sizeN zss
  n1 : sizeN zss ≤ 13
  rows : ∀ zs ∈ zss, zs.length = sizeN zss ∧ IsS zs
theorem pathV_ask {P : List Fn} {m : Nat} {g : Fn} {zss : List (List Int)} (h : askV P m = 0) (hg : P[m]? = some g) : pathV P m zss = if (decide ((zss.length : Int) = g.params) && rowsB zss) = true then 0 else 2 := by
  unfold pathV
  rw [if_pos h]
  simp [hg]
theorem pathV_no {P : List Fn} {f : Int} {zss : List (List Int)} (h : askV P f ≠ 0) : pathV P f zss = askV P f := by unfold pathV; rw [if_neg h]
theorem pathV_zero {P : List Fn} {f : Int} {zss : List (List Int)} (h : pathV P f zss = 0) : askV P f = 0 ∧ ∃ (m : Nat) (g : Fn), f = (m : Int) ∧ PathIn P m g zss := by
  by_cases hv : askV P f = 0
  · obtain ⟨hok, m, g, rfl, hg⟩ := askV_zero hv
    rw [pathV_ask hv hg] at h
    split at h
    · rename_i hc
      simp only [Bool.and_eq_true, decide_eq_true_eq] at hc
      have hrow := fun zs (hz : zs ∈ zss) => rowsB_get hc.2 hz
      have hs : ∀ zs ∈ zss, sizeN zss = headN zss := fun zs hz => by
        unfold sizeN
        rw [if_neg (by have := List.length_pos_of_mem hz; omega)]
      have hb : 1 ≤ sizeN zss ∧ sizeN zss ≤ 13 := by
        by_cases h0 : zss.length = 0
        · unfold sizeN; rw [if_pos h0]; omega
        · have hm : zss[0]'(by omega) ∈ zss := List.getElem_mem _
          have h1 := hrow _ hm
          have h2 := serB_true h1.1
          rw [hs _ hm, ← h1.2]
          omega
      exact ⟨hv, m, g, rfl, hok, fnIn hok hg, hc.1, hb.1, hb.2, fun zs hz => ⟨by rw [hs zs hz]; exact (hrow zs hz).2, (serB_true (hrow zs hz).1).2.2⟩⟩
    · exact absurd h (by decide)
  · rw [pathV_no hv] at h
    exact absurd h hv

theorem RowsAt.first {w : World} {A : Option Addr} {zss : List (List Int)} (h : RowsAt w A zss) (h0 : 0 < zss.length) : ∃ b o A0 cap0, A = some ⟨b, o, none⟩ ∧ w.cell? ⟨b, o, none⟩ = some (.slice A0 (headN zss) cap0) := by
  obtain ⟨b, o, zs, Ai, cap, e, _, hz, hc, _, _⟩ := h.at_ h0
  refine ⟨b, o, Ai, cap, e, ?_⟩
  have : headN zss = zs.length := by unfold headN; simp [List.getD, hz]
  rw [this]
  exact hc
theorem rowsB_not {zss : List (List Int)} {k : Nat} {zs : List Int} (hz : zss[k]? = some zs) (h : rowB (headN zss) zs = false) : rowsB zss = false := by
  unfold rowsB
  rw [List.all_eq_false]
  exact ⟨zs, List.mem_of_getElem? hz, by rw [h]; simp⟩
theorem rowsB_all {zss : List (List Int)} (h : ∀ j zs, j < zss.length → zss[j]? = some zs → rowB (headN zss) zs = true) : rowsB zss = true := by
  unfold rowsB
  rw [List.all_eq_true]
  intro zs hz
  obtain ⟨j, hj, rfl⟩ := List.getElem_of_mem hz
  exact h j _ hj (List.getElem?_eq_getElem hj)

end Go.Proofs.YtlnikpjcggfdmaaGreat

/- Walks: EvaluateSeries of the spec and of the program. -/
namespace Go.Proofs.YtlnikpjcggfdmaaGreat
open Go.RowKit Plain

/-- what EvaluateSeries answers -/
def evsV (P : List Fn) (f : Int) (zss : List (List Int)) : List (List Int) × Int :=
  if pathV P f zss = 0 then (match P[f.toNat]? with
    | none => ([], 0)
    | some g => tayRes (evalR (sizeN zss) P g.outs zss))
  else ([], pathV P f zss)

theorem RowsIn.lens {w : World} {A : Option Addr} {zss : List (List Int)} (h : RowsIn w A zss) : zss.length ≤ 1048576 ∧ tot zss ≤ 1048576 := by
  have := h.sz
  unfold ssSize at this
  omega

/-- evaluated, with the code alone -/
theorem EvalPost.si {n : Nat} {R : Res (List (List Int))} {w w1 w2 : World} {v c : Value} {s : Value} (hb : Below w.heap.size w w1) (h : EvalPost n R w1 (.returned (.tuple #[v, s, c])) w2) : RetSi (tayRes R).1 (tayRes R).2 w (.returned (.tuple #[v, c])) w2 := by
  obtain ⟨hb2, h⟩ := h
  have hbb := bnext hb hb2
  cases R with
  | err c' =>
    simp at h
    obtain ⟨rfl, rfl, rfl⟩ := h
    exact ⟨hbb, none, 0, rfl, rowsNil hbb.size⟩
  | ok zss t =>
    obtain ⟨A, cp, he, hN⟩ := h
    simp at he
    obtain ⟨rfl, rfl, rfl⟩ := he
    exact ⟨hbb, A, cp, rfl, rowsAfter hb hN hb2⟩

theorem evsV_of (P : List Fn) (f : Int) (zss : List (List Int)) : (evsV P f zss).1 = [] ∨ ((evsV P f zss).1.length ≤ 12 ∧ ∀ z ∈ (evsV P f zss).1, z.length ≤ 13) := by
  unfold evsV
  split
  · rename_i h
    obtain ⟨_, m, g, rfl, hin⟩ := pathV_zero h
    simp only [Int.toNat_natCast, hin.fn.fn]
    cases hr : evalR (sizeN zss) P g.outs zss with
    | err c => exact .inl rfl
    | ok zs t =>
      have h1 := evalR_len hr
      have h2 := hin.fn.o12
      have h3 := evalR_rows (fun a ha => by rw [(hin.rows a ha).1]; exact Nat.le_refl _) hr
      exact .inr ⟨by show zs.length ≤ 12; omega, fun z hz => Nat.le_trans (h3 z hz) hin.n1⟩
  · exact .inl rfl
theorem evsV_len (P : List Fn) (f : Int) (zss : List (List Int)) : (evsV P f zss).1.length ≤ 4194304 := by
  rcases evsV_of P f zss with h | ⟨h, _⟩
  · rw [h]; simp
  · omega
theorem evsV_tot (P : List Fn) (f : Int) (zss : List (List Int)) : tot (evsV P f zss).1 ≤ 4194304 := by
  rcases evsV_of P f zss with h | ⟨h, hz⟩
  · rw [h]; simp [tot]
  · have h1 := tot_le hz
    have : (evsV P f zss).1.length * 13 ≤ 12 * 13 := Nat.mul_le_mul h (Nat.le_refl _)
    omega

end Go.Proofs.YtlnikpjcggfdmaaGreat
