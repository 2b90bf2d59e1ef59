/- Texts put together: WLine, WTaylor, WUnit, WDirect, WPartial, WSeries, WEvSer. -/
import Derived.Test.YtjohkheclglpjaaGreatKQ
import Derived.Deep.RegionHeld3

/- Walks: codes of functions, arguments, directions and outputs, in the spec and in the program. -/
namespace Go.Proofs.YtjohkheclglpjaaGreat
open Go.RowKit Plain

/-- the code behind a function, arguments and a direction -/
def lineV (P : List Fn) (f : Int) (zs ds : List Int) : Int := if argV P f zs = 0 then (if ds.length = zs.length ∧ nums' ds = true then 0 else 2) else argV P f zs
/-- how many outputs there are -/
def outsN (P : List Fn) (f : Int) : Int := ((P[f.toNat]?).map fun g => (g.outs.len : Int)).getD 0
def pickV (P : List Fn) (f pick : Int) (zs ds : List Int) : Int := if lineV P f zs ds = 0 then (if inR pick 0 (outsN P f - 1) = true then 0 else 2) else lineV P f zs ds
theorem lineV_zero {P : List Fn} {f : Int} {zs ds : List Int} (h : lineV P f zs ds = 0) : argV P f zs = 0 ∧ ds.length = zs.length ∧ IsS ds := by
  unfold lineV at h
  split at h
  · rename_i h1
    split at h
    · rename_i h2
      exact ⟨h1, h2.1, isS_nums h2.2⟩
    · exact absurd h (by decide)
  · exact absurd h ‹_›
theorem lineV_same {P : List Fn} {f : Int} {zs : List Int} : lineV P f zs zs = argV P f zs := by
  unfold lineV
  split
  · rename_i h
    obtain ⟨h0, m, g, rfl, hin⟩ := argV_zero h
    have := argV_some (zs := zs) h0 hin.fn.fn
    rw [h] at this
    split at this
    · rename_i h2
      rw [if_pos ⟨rfl, h2.2⟩, h]
    · exact absurd this (by decide)
  · rfl
theorem pickV_zero {P : List Fn} {f pick : Int} {zs ds : List Int} (h : pickV P f pick zs ds = 0) : lineV P f zs ds = 0 ∧ inR pick 0 (outsN P f - 1) = true := by
  unfold pickV at h
  split at h
  · rename_i h1
    split at h
    · exact ⟨h1, ‹_›⟩
    · exact absurd h (by decide)
  · exact absurd h ‹_›
theorem lineV_ask {P : List Fn} {m : Nat} {g : Fn} {zs ds : List Int} (h : askV P m = 0) (hg : P[m]? = some g) :
    lineV P m zs ds = if ((decide ((zs.length : Int) = g.params) && nums' zs) && (decide ((ds.length : Int) = g.params) && nums' ds)) = true then 0 else 2 := by
  unfold lineV
  rw [argV_bad h hg]
  cases h1 : (decide ((zs.length : Int) = g.params) && nums' zs)
  · simp
  · simp only [if_pos, Bool.true_and]
    simp only [Bool.and_eq_true, decide_eq_true_eq] at h1
    congr 1
    simp only [Bool.and_eq_true, decide_eq_true_eq, eq_iff_iff]
    constructor
    · rintro ⟨a, b⟩; exact ⟨by omega, b⟩
    · rintro ⟨a, b⟩; exact ⟨by omega, b⟩
theorem lineV_no {P : List Fn} {f : Int} {zs ds : List Int} (h : askV P f ≠ 0) : lineV P f zs ds = askV P f := by
  have h1 : argV P f zs = askV P f := by unfold argV; rw [if_neg h]
  unfold lineV
  rw [h1, if_neg h]

set_option maxRecDepth 100000 in
set_option maxHeartbeats 2000000 in
theorem isLine_any (P : List Fn) (f : Int) {PA : Option Addr} {pcap : Nat} {A D : Option Addr} {cap dcap : Nat} (zs ds : List Int) (w : World) (hP : ProgIn w P PA pcap) (hA : Ints w A zs) (hl : zs.length ≤ 1048576) (hD : Ints w D ds) (hdl : ds.length ≤ 1048576) :
    Calls Tryz.prog 45 #[prV PA P.length pcap, .int .i64 f, .slice A zs.length cap, .slice D ds.length dcap] w fun e w' => e = .returned (.int .i64 (lineV P f zs ds)) ∧ Below w.heap.size w w' := by
  have hpm : pcap ≤ 9223372036854775807 := by have := hP.pm; unfold maxLen at this; omega
  have hAsk : Hid (∀ wx, Below w.heap.size w wx → Calls Tryz.prog 59 #[prV PA P.length pcap, .int .i64 f] wx fun e w' => e = .returned (.int .i64 (askV P f)) ∧ Below wx.heap.size wx w') := fun wx hx =>
    isFunc_any P f w.heap.size PA pcap wx (hP.fns.below hx) hP.pl hP.pm hx.size hP.sz
  have HP := Lib.hid hP
  have HA := Lib.hid hA
  have HD := Lib.hid hD
  by_cases hv : askV P f = 0
  · obtain ⟨hok, m, g, rfl, hg⟩ := askV_zero hv
    have hag := lineV_ask (zs := zs) (ds := ds) hv hg
    have hml : m < P.length := (List.getElem?_eq_some_iff.1 hg).1
    have hml2 : (m : Int) < (P.length : Int) := by omega
    obtain ⟨q1, hq1⟩ : ∃ q, q = (decide ((zs.length : Int) = g.params) && nums' zs) := ⟨_, rfl⟩
    obtain ⟨q2, hq2⟩ : ∃ q, q = (decide ((ds.length : Int) = g.params) && nums' ds) := ⟨_, rfl⟩
    have hN1 : Hid (∀ wx, Below w.heap.size w wx → Calls Tryz.prog 75 #[.slice A zs.length cap, .int .i64 g.params] wx fun e w' => e = .returned (.bool q1) ∧ wx = w') := fun wx hx => by
      rw [hq1]; exact areNumbers_any A cap zs g.params wx (HA.out.below hx) (by omega)
    have hN2 : Hid (∀ wx, Below w.heap.size w wx → Calls Tryz.prog 75 #[.slice D ds.length dcap, .int .i64 g.params] wx fun e w' => e = .returned (.bool q2) ∧ wx = w') := fun wx hx => by
      rw [hq2]; exact areNumbers_any D dcap ds g.params wx (HD.out.below hx) (by omega)
    rw [← hq1, ← hq2] at hag
    have HV := Lib.hid hag
    have HG := Lib.hid hg
    obtain ⟨bP, oP, rfl, hbP, _⟩ := hP.fns.get hg
    rw [hv] at hAsk
    rw [HV.out]
    have tok1 : True := trivial
    clear hq1 hq2 hag hg hv hP hA hD hok
    cases q1 <;> cases q2
    all_goals
      go_enter Tryz.func45, Tryz.ntmps45
      go_wp2_with fail
      refine (hAsk.out _ (by go_grown)).mono ?_; rintro e w1 ⟨rfl, hb1⟩
      obtain ⟨q1, q2⟩ := prBox (C := [Value.slice (some ⟨bP, oP, none⟩) P.length pcap]) hb1
      have Q2 := Lib.hid q2
      have a0 : w1.cell? ⟨w.heap.size, 0, none⟩ = some (.slice (some ⟨bP, oP, none⟩) P.length pcap) := by rw [q1.cell]; rfl
      obtain ⟨bP', oP', e', hbP2, _, g1, _⟩ := (HP.out.fns.below Q2.out).get HG.out
      obtain ⟨rfl, rfl⟩ : bP = bP' ∧ oP = oP' := by simpa using e'
      clear e' q1 q2 hb1
      go_wp2_with (first | (go_at_call 75; have _t := tok1; (with_reducible refine (hN1.out _ Q2.out).mono ?_); rintro e w' ⟨rfl, rfl⟩; clear tok1) | (go_at_call 75; (with_reducible refine (hN2.out _ Q2.out).mono ?_); rintro e w' ⟨rfl, rfl⟩))
      go_ret
      exact ⟨rfl, Q2.out⟩
  · rw [lineV_no hv]
    generalize askV P f = V at *
    have hv1 : (V == 0) = false := by simpa using hv
    go_enter Tryz.func45, Tryz.ntmps45
    go_wp2_with fail
    refine (hAsk.out _ (by go_grown)).mono ?_; rintro e w1 ⟨rfl, hb1⟩
    obtain ⟨q1, q2⟩ := prBox (C := [Value.slice PA P.length pcap]) hb1
    have Q2 := Lib.hid q2
    clear q1 q2 hb1
    go_wp2
    go_ret
    exact ⟨rfl, Q2.out⟩

set_option maxRecDepth 100000 in
set_option maxHeartbeats 2000000 in
theorem isPicked_any (P : List Fn) (f pick : Int) {PA : Option Addr} {pcap : Nat} {A D : Option Addr} {cap dcap : Nat} (zs ds : List Int) (w : World) (hP : ProgIn w P PA pcap) (hA : Ints w A zs) (hl : zs.length ≤ 1048576) (hD : Ints w D ds) (hdl : ds.length ≤ 1048576) :
    Calls Tryz.prog 66 #[prV PA P.length pcap, .int .i64 f, .int .i64 pick, .slice A zs.length cap, .slice D ds.length dcap] w fun e w' => e = .returned (.int .i64 (pickV P f pick zs ds)) ∧ Below w.heap.size w w' := by
  have hpm : pcap ≤ 9223372036854775807 := by have := hP.pm; unfold maxLen at this; omega
  obtain ⟨hC0, hg0⟩ : Cells (w.alloc (.cells #[.slice PA P.length pcap] 31)) w.heap.size 31 [.slice PA P.length pcap] ∧ Below w.heap.size w (w.alloc (.cells #[.slice PA P.length pcap] 31)) := ⟨Cells.new w _ _, by go_grown⟩
  have HC := Lib.hid (isLine_any P f zs ds (cap := cap) (dcap := dcap) _ (⟨(hP.fns.below hg0).mono (by simp), hP.pl, hP.pm, hP.sz⟩ : ProgIn (w.alloc (.cells #[.slice PA P.length pcap] 31)) P PA pcap) (hA.below hg0) hl (hD.below hg0) hdl)
  have HP := Lib.hid hP
  clear hC0 hg0
  by_cases hv : lineV P f zs ds = 0
  · have hav := (lineV_zero hv).1
    obtain ⟨_, m, g, rfl, hin⟩ := argV_zero hav
    have hg := hin.fn.fn
    have HV : Hid (pickV P m pick zs ds = if inR pick 0 ((g.outs.len : Int) - 1) = true then 0 else 2) := by
      show _ = _
      unfold pickV outsN
      rw [if_pos hv]
      simp [hg]
    have hml : m < P.length := (List.getElem?_eq_some_iff.1 hg).1
    have hml2 : (m : Int) < (P.length : Int) := by omega
    have HG := Lib.hid hg
    have ho12 := hin.fn.o12
    obtain ⟨bP, oP, rfl, hbP, _⟩ := hP.fns.get hg
    rw [hv] at HC
    rw [HV.out]
    clear hg hv hP hA hD hin hav
    cases hq : inR pick 0 ((g.outs.len : Int) - 1)
    all_goals
      have HQ := Lib.hid hq
      clear hq
      go_enter Tryz.func66, Tryz.ntmps66
      go_wp2_with fail
      refine HC.out.mono ?_; rintro e w1 ⟨rfl, hb1⟩
      obtain ⟨q1, q2⟩ := prBox (C := [Value.slice (some ⟨bP, oP, none⟩) P.length pcap]) hb1
      have Q2 := Lib.hid q2
      have a0 : w1.cell? ⟨w.heap.size, 0, none⟩ = some (.slice (some ⟨bP, oP, none⟩) P.length pcap) := by rw [q1.cell]; rfl
      obtain ⟨bP', oP', e', hbP2, _, _, _, KF, cF, g2, hcF, hmF, _⟩ := (HP.out.fns.below Q2.out).get HG.out
      obtain ⟨rfl, rfl⟩ : bP = bP' ∧ oP = oP' := by simpa using e'
      have hmF' : cF ≤ 9223372036854775807 := by unfold maxLen at hmF; omega
      clear e' q1 q2 hb1
      go_wp2_with (go_at_call 50; refine (within_any _ _ _ _).mono ?_; rintro e w2 ⟨rfl, rfl⟩; rw [HQ.out])
      go_ret
      exact ⟨rfl, Q2.out⟩
  · have HV : Hid (pickV P f pick zs ds = lineV P f zs ds) := by show _ = _; unfold pickV; rw [if_neg hv]
    rw [HV.out]
    generalize lineV P f zs ds = V at *
    have hv1 : (V == 0) = false := by simpa using hv
    go_enter Tryz.func66, Tryz.ntmps66
    go_wp2_with fail
    refine HC.out.mono ?_; rintro e w1 ⟨rfl, hb1⟩
    obtain ⟨q1, q2⟩ := prBox (C := [Value.slice PA P.length pcap]) hb1
    have Q2 := Lib.hid q2
    clear q1 q2 hb1
    go_wp2
    go_ret
    exact ⟨rfl, Q2.out⟩

set_option maxHeartbeats 1000000 in
theorem asked3S_any (P : List Fn) (f : Int) (A D : Option Addr) (cap dcap : Nat) (zs ds : List Int) (bp op B : Nat) (w : World) (hP : PrAt w B P bp op) (hB : B ≤ w.heap.size) (hsz : fnSize P ≤ 1048576) (hA : Ints w A zs) (hl : zs.length ≤ 2000000) (hD : Ints w D ds) (hdl : ds.length ≤ 2000000) :
    Calls Tryz.prog 41 #[ptr bp op, .int .i64 f, .slice A zs.length cap, .slice D ds.length dcap] w fun e w' => e = .returned (.int .i64 (lineV P f zs ds)) ∧ Below w.heap.size w w' := by
  have HC := Lib.hid (argsS_any P f A cap zs bp op B w hP hB hsz hA hl)
  have HD := Lib.hid hD
  clear hP hA hD
  by_cases hv : argV P f zs = 0
  · have HV : Hid (lineV P f zs ds = if ds.length = zs.length ∧ nums' ds = true then 0 else 2) := by show _ = _; unfold lineV; rw [if_pos hv]
    rw [hv] at HC
    rw [HV.out]
    clear hv
    by_cases he : ds.length = zs.length
    · have hne1 : ((ds.length : Int) == zs.length) = true := beq_iff_eq.2 (by omega)
      have hne2 : ((ds.length : Int) != zs.length) = false := by rw [bne, hne1]; rfl
      have HE := Lib.hid he
      obtain ⟨q, hq⟩ : ∃ q, q = nums' ds := ⟨_, rfl⟩
      have HN : Hid (∀ wx, Below w.heap.size w wx → Calls Tryz.prog 72 #[.slice D ds.length dcap] wx fun e w' => e = .returned (.bool q) ∧ wx = w') := fun wx hx => by
        rw [hq]; exact numbersS_any D dcap ds wx (HD.out.below hx) hdl
      have HR : Hid ((if ds.length = zs.length ∧ nums' ds = true then (0 : Int) else 2) = if q = true then 0 else 2) := by
        show _ = _
        rw [hq]; simp [HE.out]
      rw [HR.out]
      clear hq he
      cases q
      all_goals
        go_enter Tryz.func41, Tryz.ntmps41
        go_wp2_with fail
        refine HC.out.mono ?_; rintro e w1 ⟨rfl, hb1⟩
        have HB := Lib.hid hb1
        clear hb1
        go_wp2_with (go_at_call 72; refine (HN.out _ HB.out).mono ?_; rintro e w' ⟨rfl, rfl⟩)
        go_ret
        exact ⟨rfl, HB.out⟩
    · have hne1 : ((ds.length : Int) == zs.length) = false := beq_eq_false_iff_ne.2 (by omega)
      have hne2 : ((ds.length : Int) != zs.length) = true := by rw [bne, hne1]; rfl
      have HR : Hid ((if ds.length = zs.length ∧ nums' ds = true then (0 : Int) else 2) = 2) := if_neg (fun h => he h.1)
      rw [HR.out]
      clear he
      go_enter Tryz.func41, Tryz.ntmps41
      go_wp2_with fail
      refine HC.out.mono ?_; rintro e w1 ⟨rfl, hb1⟩
      have HB := Lib.hid hb1
      clear hb1
      go_wp2
      go_ret
      exact ⟨rfl, HB.out⟩
  · have HV : Hid (lineV P f zs ds = argV P f zs) := by show _ = _; unfold lineV; rw [if_neg hv]
    rw [HV.out]
    generalize argV P f zs = V at *
    have hv1 : (V == 0) = false := by simpa using hv
    go_enter Tryz.func41, Tryz.ntmps41
    go_wp2_with fail
    refine HC.out.mono ?_; rintro e w1 ⟨rfl, hb1⟩
    go_wp2
    go_ret
    exact ⟨rfl, hb1⟩

set_option maxHeartbeats 1000000 in
theorem pickedS_any (P : List Fn) (f pick : Int) (A D : Option Addr) (cap dcap : Nat) (zs ds : List Int) (bp op B : Nat) (w : World) (hP : PrAt w B P bp op) (hB : B ≤ w.heap.size) (hsz : fnSize P ≤ 1048576) (hA : Ints w A zs) (hl : zs.length ≤ 2000000) (hD : Ints w D ds) (hdl : ds.length ≤ 2000000) :
    Calls Tryz.prog 63 #[ptr bp op, .int .i64 f, .int .i64 pick, .slice A zs.length cap, .slice D ds.length dcap] w fun e w' => e = .returned (.int .i64 (pickV P f pick zs ds)) ∧ Below w.heap.size w w' := by
  have HC := Lib.hid (asked3S_any P f A D cap dcap zs ds bp op B w hP hB hsz hA hl hD hdl)
  by_cases hv : lineV P f zs ds = 0
  · have hav := (lineV_zero hv).1
    obtain ⟨_, m, g, rfl, hin⟩ := argV_zero hav
    have hg := hin.fn.fn
    have HV : Hid (pickV P m pick zs ds = if inR pick 0 ((g.outs.len : Int) - 1) = true then 0 else 2) := by
      show _ = _
      unfold pickV outsN
      rw [if_pos hv]
      simp [hg]
    have hml : m < P.length := (List.getElem?_eq_some_iff.1 hg).1
    have hml2 : (m : Int) < (P.length : Int) := by omega
    obtain ⟨hbp, PA, pcap, hp0, hPl, hPm, hFS⟩ := hP
    have hPm' : pcap ≤ 9223372036854775807 := by unfold maxLen at hPm; omega
    obtain ⟨bP, oP, rfl, hbP, _, _, _, KF, cF, g2, hcF, hmF, _⟩ := hFS.get hg
    have hmF' : cF ≤ 9223372036854775807 := by unfold maxLen at hmF; omega
    have ho12 := hin.fn.o12
    rw [hv] at HC
    rw [HV.out]
    have hbpw : bp < w.heap.size := by omega
    have hbPw : bP < w.heap.size := by omega
    clear hg hv hA hD hin hav hFS
    generalize g.outs.len = ol at *
    cases hq : inR pick 0 ((ol : Int) - 1)
    all_goals
      have HQ := Lib.hid hq
      clear hq
      go_enter Tryz.func63, Tryz.ntmps63
      go_wp2_with fail
      refine HC.out.mono ?_; rintro e w1 ⟨rfl, hb1⟩
      have p1 : w1.cell? ⟨bp, op, none⟩ = some (.slice (some ⟨bP, oP, none⟩) P.length pcap) := (hb1.cell (p := ⟨bp, op, none⟩) hbpw).trans hp0
      have p2 : w1.cell? ⟨bP, oP + m * 3 + 2, none⟩ = some (.slice KF ol cF) := (hb1.cell (p := ⟨bP, oP + m * 3 + 2, none⟩) hbPw).trans g2
      have HB := Lib.hid hb1
      clear hb1
      go_wp2_with (go_at_call 49; refine (in_any _ _ _ _).mono ?_; rintro e w' ⟨rfl, rfl⟩; rw [HQ.out])
      go_ret
      exact ⟨rfl, HB.out⟩
  · have HV : Hid (pickV P f pick zs ds = lineV P f zs ds) := by show _ = _; unfold pickV; rw [if_neg hv]
    rw [HV.out]
    generalize lineV P f zs ds = V at *
    have hv1 : (V == 0) = false := by simpa using hv
    clear hP hA hD
    go_enter Tryz.func63, Tryz.ntmps63
    go_wp2_with fail
    refine HC.out.mono ?_; rintro e w1 ⟨rfl, hb1⟩
    go_wp2
    go_ret
    exact ⟨rfl, hb1⟩

end Go.Proofs.YtjohkheclglpjaaGreat

/- Walks: TaylorOf of the spec and of the program. -/
namespace Go.Proofs.YtjohkheclglpjaaGreat
open Go.RowKit Plain

theorem ownsRow_at {w : World} {base e n cp : Nat} {A : Option Addr} {xs : List Value} (h : w.ownsRow base e 1 (.slice A n cp) n xs) (hn : 0 < n) : ∃ g, A = some ⟨g, 0, none⟩ ∧ base ≤ g ∧ g < w.heap.size ∧ Typed w g e ∧ ∀ i, i < n → w.cell? ⟨g, i, none⟩ = xs[i]? := by
  obtain ⟨g, cap, hv, hg, hlt⟩ := World.ownsRow.form h hn
  have hA : A = some ⟨g, 0, none⟩ := by injection hv
  have hc : cp = cap := by injection hv
  subst hA
  subst hc
  exact ⟨g, rfl, hg, hlt, own_typed h rfl, fun i hi => World.ownsRow.cellAt h i (by omega)⟩
/-- new rows are a region of their own -/
theorem NewRows.reg {w : World} {B n cp : Nat} {A : Option Addr} {zss : List (List Int)} (h : NewRows w B n (.slice A zss.length cp) zss) (hB : B ≤ w.heap.size) : RS w B w.heap.size A zss := by
  refine ⟨hB, Nat.le_refl _, fun hn => ?_, fun _ _ h hb => h.keep hb⟩
  obtain ⟨vs, bs, h1, h2, h3, h4, h5⟩ := h
  obtain ⟨g, rfl, hg, hlt, ht, hc⟩ := ownsRow_at h1 hn
  refine ⟨g, 0, fun i => bs.getD i 0, rfl, hg, hlt, fun i zs hz => ?_, fun i j zi zj hij hi hj _ _ => ?_⟩
  · have hi : i < zss.length := (List.getElem?_eq_some_iff.1 hz).1
    have hb := List.getElem?_eq_getElem (show i < bs.length by omega)
    obtain ⟨cap, q1, q2, q3, q4, q5⟩ := h5 i zs _ hz hb
    have hm := h4 _ (List.getElem_mem (show i < bs.length by omega))
    refine ⟨some ⟨bs[i], 0, none⟩, cap, by rw [Nat.zero_add, hc i hi, q1, q2], fun _ => ⟨0, ?_, ?_⟩⟩
    · simp [List.getD, hb]
    · simp only [List.getD, hb, Option.getD_some]
      exact ⟨hm.1, hm.2, q4.ne ht (by decide), fun j x hx => by rw [Nat.zero_add]; exact q5 j x hx⟩
  · have hil : i < bs.length := by have := (List.getElem?_eq_some_iff.1 hi).1; omega
    have hjl : j < bs.length := by have := (List.getElem?_eq_some_iff.1 hj).1; omega
    simp only [List.getD, List.getElem?_eq_getElem hil, List.getElem?_eq_getElem hjl, Option.getD_some]
    have := List.pairwise_iff_getElem.1 h3 i j hil hjl hij
    omega
theorem rowsNil {w : World} {B : Nat} {A : Option Addr} (h : B ≤ w.heap.size) : RS w B w.heap.size A [] := ⟨h, Nat.le_refl _, RowsR.nil _ _ _ _, fun _ _ h hb => h.keep hb⟩
theorem intsNil {w : World} {B : Nat} {A : Option Addr} (h : B ≤ w.heap.size) : RI w B w.heap.size A [] := (IntsM.nil _ _ _).reg h
/-- rows made behind a call -/
theorem rowsAfter {w w1 w2 : World} {n cp : Nat} {A : Option Addr} {zss : List (List Int)} (hb : Below w.heap.size w w1) (h : NewRows w2 w1.heap.size n (.slice A zss.length cp) zss) (hb2 : Below w1.heap.size w1 w2) : RS w2 w.heap.size w2.heap.size A zss :=
  (h.weaken hb.size).reg (by have := hb.size; have := hb2.size; omega)

def tayRes : Res (List (List Int)) → List (List Int) × Int
  | .err x => ([], x)
  | .ok zss _ => (zss, 0)
/-- what TaylorOf answers -/
def taylorV (P : List Fn) (f : Int) (zs ds : List Int) (o : Int) : List (List Int) × Int :=
  if lineV P f zs ds = 0 then (if inR o 0 12 = true then (match P[f.toNat]? with
    | none => ([], 0)
    | some g => tayRes (tayR (o.toNat + 1) P g.outs zs ds)) else ([], 2))
  else ([], lineV P f zs ds)
theorem RowsPost.si {n : Nat} {R : Res (List (List Int))} {w w1 w2 : World} {e : Ending} (hb : Below w.heap.size w w1) (h : RowsPost n R w1 e w2) : RetSi (tayRes R).1 (tayRes R).2 w e w2 := by
  obtain ⟨hb2, h⟩ := h
  have hbb := bnext hb hb2
  cases R with
  | err c =>
    obtain ⟨A, cp, rfl⟩ := h
    exact ⟨hbb, A, cp, rfl, rowsNil hbb.size⟩
  | ok zss t =>
    obtain ⟨A, cp, rfl, hN⟩ := h
    exact ⟨hbb, A, cp, rfl, rowsAfter hb hN hb2⟩

set_option maxHeartbeats 1000000 in
theorem taylorOfS (P : List Fn) (f : Int) (zs ds : List Int) (o : Int) {PA : Option Addr} {pcap : Nat} {A D : Option Addr} {cap dcap : Nat} (w : World) (hP : ProgIn w P PA pcap) (hA : Ints w A zs) (hl : zs.length ≤ 1048576) (hD : Ints w D ds) (hdl : ds.length ≤ 1048576) :
    Calls Tryz.prog 21 #[prV PA P.length pcap, .int .i64 f, .slice A zs.length cap, .slice D ds.length dcap, .int .i64 o] w (RetSi (taylorV P f zs ds o).1 (taylorV P f zs ds o).2 w) := by
  obtain ⟨hPr, hg⟩ := prBoxAt hP 31
  have HC := Lib.hid (asked3S_any P f A D cap dcap zs ds w.heap.size 0 (w.heap.size + 1) _ hPr (by simp) hP.sz (hA.below hg) (by omega) (hD.below hg) (by omega))
  have HG := Lib.hid hg
  by_cases hv : lineV P f zs ds = 0
  · obtain ⟨hav, hdz, hds⟩ := lineV_zero hv
    obtain ⟨_, m, g, rfl, hin⟩ := argV_zero hav
    rw [hv] at HC
    cases hq : inR o 0 12
    · have HV : Hid (taylorV P m zs ds o = ([], 2)) := by show _ = _; unfold taylorV; rw [if_pos hv, hq]; rfl
      rw [HV.out]
      have HQ := Lib.hid hq
      clear hv hq hPr hP hA hD hg hav hdz hds hin
      go_enter Tryz.func21, Tryz.ntmps21
      go_wp2_with fail
      refine HC.out.mono ?_; rintro e w1 ⟨rfl, hb1⟩
      have HB := Lib.hid hb1
      clear hb1
      go_wp2_with fail
      refine (in_any _ _ _ _).mono ?_; rintro e w' ⟨rfl, rfl⟩
      rw [HQ.out]
      go_wp2
      go_ret2
      have hb := HG.out.trans (HB.out.mono HG.out.size)
      have hb2 := hb.trans ((show Below w1.heap.size w1 (w1.alloc (.cells #[] 25)) by go_grown).mono hb.size)
      exact ⟨hb2, _, _, rfl, rowsNil hb2.size⟩
    · have ho := inR_true.1 hq
      obtain ⟨q, rfl⟩ := Int.eq_ofNat_of_zero_le ho.1
      have hq12 : q ≤ 12 := by omega
      have HV : Hid (taylorV P m zs ds q = tayRes (tayR (q + 1) P g.outs zs ds)) := by
        show _ = _
        unfold taylorV
        rw [if_pos hv, if_pos hq]
        simp only [Int.toNat_natCast, hin.fn.fn]
      have HT : Hid (∀ wx, Below (w.heap.size + 1) (w.alloc (.cells #[.slice PA P.length pcap] 31)) wx → Calls Tryz.prog 42 #[ptr w.heap.size 0, .int .i64 m, .slice A zs.length cap, .slice D ds.length dcap, .int .i64 q] wx (RowsPost (q + 1) (tayR (q + 1) P g.outs zs ds) wx)) := fun wx hx =>
        taylorS_any P m g q A D cap dcap zs ds w.heap.size 0 (w.heap.size + 1) wx (hPr.below hx) (by have := hx.size; simp at this; omega) hin ((hA.below hg).below (by simpa using hx)) ((hD.below hg).below (by simpa using hx)) hds hdz hq12
      rw [HV.out]
      have HQ := Lib.hid hq
      clear hv hq hPr hP hA hD hg hav hdz hds hin
      generalize tayR (q + 1) P g.outs zs ds = R at *
      go_enter Tryz.func21, Tryz.ntmps21
      go_wp2_with fail
      refine HC.out.mono ?_; rintro e w1 ⟨rfl, hb1⟩
      have HB := Lib.hid hb1
      clear hb1
      go_wp2_with fail
      refine (in_any _ _ _ _).mono ?_; rintro e w' ⟨rfl, rfl⟩
      rw [HQ.out]
      go_wp2_with fail
      refine (HT.out _ (HB.out.mono (by simp))).mono ?_; rintro e w2 hp
      have hp2 := Lib.hid (RowsPost.si (HG.out.trans (HB.out.mono HG.out.size)) hp)
      cases R with
      | err c =>
        obtain ⟨_, A', cp', rfl⟩ := hp
        go_wp2
        go_ret2
        exact hp2.out
      | ok zss t =>
        obtain ⟨_, A', cp', rfl, _⟩ := hp
        go_wp2
        go_ret2
        exact hp2.out
  · have HV : Hid (taylorV P f zs ds o = ([], lineV P f zs ds)) := by show _ = _; unfold taylorV; rw [if_neg hv]
    rw [HV.out]
    generalize lineV P f zs ds = V at *
    have hv1 : (V == 0) = false := by simpa using hv
    clear hPr hP hA hD hg
    go_enter Tryz.func21, Tryz.ntmps21
    go_wp2_with fail
    refine HC.out.mono ?_; rintro e w1 ⟨rfl, hb1⟩
    have HB := Lib.hid hb1
    clear hb1
    go_wp2
    go_ret2
    have hb := HG.out.trans (HB.out.mono HG.out.size)
    have hb2 := hb.trans ((show Below w1.heap.size w1 (w1.alloc (.cells #[] 25)) by go_grown).mono hb.size)
    exact ⟨hb2, _, _, rfl, rowsNil hb2.size⟩

set_option maxHeartbeats 1000000 in
theorem taylorOfI (P : List Fn) (f : Int) (zs ds : List Int) (o : Int) {PA : Option Addr} {pcap : Nat} {A D : Option Addr} {cap dcap : Nat} (w : World) (hP : ProgIn w P PA pcap) (hA : Ints w A zs) (hl : zs.length ≤ 1048576) (hD : Ints w D ds) (hdl : ds.length ≤ 1048576) :
    Calls Tryz.prog 22 #[prV PA P.length pcap, .int .i64 f, .slice A zs.length cap, .slice D ds.length dcap, .int .i64 o] w (RetSi (taylorV P f zs ds o).1 (taylorV P f zs ds o).2 w) := by
  have hg0 : Below w.heap.size w (w.alloc (.cells #[.slice PA P.length pcap] 31)) := by go_grown
  have HC := Lib.hid (isLine_any P f zs ds (cap := cap) (dcap := dcap) _ (hP.below hg0) (hA.below hg0) hl (hD.below hg0) hdl)
  have HP := Lib.hid hP
  by_cases hv : lineV P f zs ds = 0
  · obtain ⟨hav, hdz, hds⟩ := lineV_zero hv
    obtain ⟨_, m, g, rfl, hin⟩ := argV_zero hav
    rw [hv] at HC
    cases hq : inR o 0 12
    · have HV : Hid (taylorV P m zs ds o = ([], 2)) := by show _ = _; unfold taylorV; rw [if_pos hv, hq]; rfl
      rw [HV.out]
      have HQ := Lib.hid hq
      clear hv hq hP hA hD hg0 hav hdz hds hin
      go_enter Tryz.func22, Tryz.ntmps22
      go_wp2_with fail
      refine HC.out.mono ?_; rintro e w1 ⟨rfl, hb1⟩
      have Q2 := Lib.hid (prBox (C := [Value.slice PA P.length pcap]) hb1).2
      clear hb1
      go_wp2_with (go_at_call 50; refine (within_any _ _ _ _).mono ?_; rintro e w' ⟨rfl, rfl⟩; rw [HQ.out])
      go_ret2
      exact ⟨Q2.out, _, _, rfl, rowsNil Q2.out.size⟩
    · have ho := inR_true.1 hq
      obtain ⟨q, rfl⟩ := Int.eq_ofNat_of_zero_le ho.1
      have hq12 : q ≤ 12 := by omega
      have HV : Hid (taylorV P m zs ds q = tayRes (tayR (q + 1) P g.outs zs ds)) := by
        show _ = _
        unfold taylorV
        rw [if_pos hv, if_pos hq]
        simp only [Int.toNat_natCast, hin.fn.fn]
      have HT : Hid (∀ wx, Below w.heap.size w wx → Calls Tryz.prog 51 #[prV PA P.length pcap, .int .i64 m, .slice A zs.length cap, .slice D ds.length dcap, .int .i64 q] wx (RowsPost (q + 1) (tayR (q + 1) P g.outs zs ds) wx)) := fun wx hx =>
        alongI P m g q PA pcap A D cap dcap zs ds wx (HP.out.below hx) hin (hA.below hx) (hD.below hx) hds hdz hq12
      rw [HV.out]
      have HQ := Lib.hid hq
      clear hv hq hP hA hD hg0 hav hdz hds hin
      generalize tayR (q + 1) P g.outs zs ds = R at *
      go_enter Tryz.func22, Tryz.ntmps22
      go_wp2_with fail
      refine HC.out.mono ?_; rintro e w1 ⟨rfl, hb1⟩
      obtain ⟨q1, q2⟩ := prBox (C := [Value.slice PA P.length pcap]) hb1
      have Q2 := Lib.hid q2
      have a0 : w1.cell? ⟨w.heap.size, 0, none⟩ = some (.slice PA P.length pcap) := by rw [q1.cell]; rfl
      clear hb1 q1 q2
      go_wp2_with (go_at_call 50; refine (within_any _ _ _ _).mono ?_; rintro e w' ⟨rfl, rfl⟩; rw [HQ.out])
      refine (HT.out _ Q2.out).mono ?_; rintro e w2 hp
      have hp2 := Lib.hid (RowsPost.si Q2.out hp)
      cases R with
      | err c =>
        obtain ⟨_, A', cp', rfl⟩ := hp
        go_wp2
        go_ret2
        exact hp2.out
      | ok zss t =>
        obtain ⟨_, A', cp', rfl, _⟩ := hp
        go_wp2
        go_ret2
        exact hp2.out
  · have HV : Hid (taylorV P f zs ds o = ([], lineV P f zs ds)) := by show _ = _; unfold taylorV; rw [if_neg hv]
    rw [HV.out]
    generalize lineV P f zs ds = V at *
    have hv1 : (V == 0) = false := by simpa using hv
    clear hP hA hD hg0
    go_enter Tryz.func22, Tryz.ntmps22
    go_wp2_with fail
    refine HC.out.mono ?_; rintro e w1 ⟨rfl, hb1⟩
    have Q2 := Lib.hid (prBox (C := [Value.slice PA P.length pcap]) hb1).2
    clear hb1
    go_wp2
    go_ret2
    exact ⟨Q2.out, _, _, rfl, rowsNil Q2.out.size⟩

theorem ops_len (n : Nat) : OpsR (ops n) (ops n) (fun a b => a = b ∧ a.length ≤ n) where
  nil := ⟨rfl, Nat.zero_le _⟩
  num x := ⟨rfl, by simp [ops, mk_length]⟩
  add := by rintro a _ b _ ⟨rfl, ha⟩ ⟨rfl, _⟩; exact ⟨rfl, by show (addL a b).length ≤ n; rw [addL_length]; exact ha⟩
  sub := by rintro a _ b _ ⟨rfl, ha⟩ ⟨rfl, _⟩; exact ⟨rfl, by simpa [ops, mk_length] using ha⟩
  mul := by rintro a _ b _ ⟨rfl, ha⟩ ⟨rfl, _⟩; exact ⟨rfl, by show (mulL a b).length ≤ n; rw [mulL_length]; exact ha⟩
  neg := by rintro a _ ⟨rfl, ha⟩; exact ⟨rfl, by simpa [ops, mk_length] using ha⟩
  div := by rintro a _ b _ ⟨rfl, ha⟩ ⟨rfl, _⟩ _; exact ⟨rfl, by show (divL a b).length ≤ n; rw [divL_length]; exact ha⟩
  zero := by rintro a _ ⟨rfl, _⟩; rfl
theorem evalR_rows {n : Nat} {P : List Fn} {outs : Es} {args zss : List (List Int)} {t : Nat} (ha : ∀ a ∈ args, a.length ≤ n) (h : evalR n P outs args = .ok zss t) : ∀ z ∈ zss, z.length ≤ n := by
  have hE : EnvR (fun a b => a = b ∧ a.length ≤ n) args args := ⟨rfl, fun j => ⟨rfl, by
    by_cases hj : j < args.length
    · rw [show args.getD j [] = args[j] by simp [List.getD, hj]]; exact ha _ (List.getElem_mem hj)
    · rw [show args.getD j [] = [] by simp [List.getD, hj]]; simp⟩⟩
  have hr := evAll_rel (R := fun a b => a = b ∧ a.length ≤ n) (ops_len n).nil (fun x s => ev_rel (ops_len n) P 3001 x args args s hE) outs 0
  unfold evalR at h
  rw [h] at hr
  intro z hz
  obtain ⟨j, hj, rfl⟩ := List.getElem_of_mem hz
  have := (hr.2.2 j).2
  rwa [show zss.getD j [] = zss[j] by simp [List.getD, hj]] at this
theorem tot_le {zss : List (List Int)} {n : Nat} (hz : ∀ z ∈ zss, z.length ≤ n) : tot zss ≤ zss.length * n := by
  induction zss with
  | nil => simp [tot]
  | cons z r ih =>
    have h1 := hz z List.mem_cons_self
    have h2 := ih fun y hy => hz y (List.mem_cons_of_mem _ hy)
    simp only [tot, List.length_cons, Nat.add_mul]
    omega
theorem lineL_rows (n : Nat) (zs ds : List Int) (k : Nat) : ∀ a ∈ lineL n zs ds k, a.length ≤ n := fun a ha => by
  unfold lineL at ha
  obtain ⟨i, _, rfl⟩ := List.mem_map.1 ha
  rw [lineRow_length]
  exact Nat.le_refl _
theorem tayRes_tot {n : Nat} {P : List Fn} {m : Nat} {g : Fn} {zs ds : List Int} (hin : ArgIn P m g zs) (hn : n ≤ 13) : tot (tayRes (tayR n P g.outs zs ds)).1 ≤ 156 := by
  cases hr : tayR n P g.outs zs ds with
  | err c => simp [tayRes, tot]
  | ok zss t =>
    have h1 := evalR_len hr
    have h2 := hin.fn.o12
    have h3 := tot_le (evalR_rows (lineL_rows n zs ds zs.length) hr)
    simp only [tayRes]
    have : zss.length * n ≤ 12 * 13 := Nat.mul_le_mul (by omega) hn
    omega
theorem tayRes_len {n : Nat} {P : List Fn} {m : Nat} {g : Fn} {zs ds : List Int} (hin : ArgIn P m g zs) (_hn : n ≤ 13) : (tayRes (tayR n P g.outs zs ds)).1.length ≤ 12 := by
  cases hr : tayR n P g.outs zs ds with
  | err c => simp [tayRes]
  | ok zss t =>
    have h1 := evalR_len hr
    have h2 := hin.fn.o12
    simp only [tayRes]
    omega

theorem taylorV_of (P : List Fn) (f : Int) (zs ds : List Int) (o : Int) : (taylorV P f zs ds o).1 = [] ∨ ∃ m g q, ArgIn P m g zs ∧ q ≤ 13 ∧ (taylorV P f zs ds o).1 = (tayRes (tayR q P g.outs zs ds)).1 := by
  unfold taylorV
  split
  · rename_i h
    obtain ⟨_, m, g, rfl, hin⟩ := argV_zero (lineV_zero h).1
    split
    · rename_i hq
      have := inR_true.1 hq
      simp only [Int.toNat_natCast, hin.fn.fn]
      exact .inr ⟨m, g, _, hin, by omega, rfl⟩
    · exact .inl rfl
  · exact .inl rfl
theorem taylorV_len (P : List Fn) (f : Int) (zs ds : List Int) (o : Int) : (taylorV P f zs ds o).1.length ≤ 4194304 := by
  rcases taylorV_of P f zs ds o with h | ⟨m, g, q, hin, hq, h⟩ <;> rw [h]
  · simp
  · have := tayRes_len (ds := ds) hin hq; omega
theorem taylorV_tot (P : List Fn) (f : Int) (zs ds : List Int) (o : Int) : tot (taylorV P f zs ds o).1 ≤ 4194304 := by
  rcases taylorV_of P f zs ds o with h | ⟨m, g, q, hin, hq, h⟩ <;> rw [h]
  · simp [tot]
  · have := tayRes_tot (ds := ds) hin hq; omega

end Go.Proofs.YtjohkheclglpjaaGreat

/- Walks: sums of unit vectors, in the spec and in the program. -/
namespace Go.Proofs.YtjohkheclglpjaaGreat
open Go.RowKit Plain

/-- how often a place is named -/
def cntN (ps : List Int) (i : Nat) : Int := ((ps.filter fun p => p == (i : Int)).length : Nat)
/-- the sum of unit vectors -/
def unitL (n : Nat) (ps : List Int) : List Int := mk n (cntN ps)
theorem unitL_length (n : Nat) (ps : List Int) : (unitL n ps).length = n := mk_length _ _
theorem cntN_bd (ps : List Int) (i : Nat) : 0 ≤ cntN ps i ∧ cntN ps i ≤ ps.length := by
  unfold cntN
  have := List.length_filter_le (fun p => p == (i : Int)) ps
  omega
theorem cntN_snoc (ps : List Int) (j i : Nat) : cntN (ps ++ [(j : Int)]) i = if i = j then cntN ps i + 1 else cntN ps i := by
  unfold cntN
  rw [List.filter_append, List.length_append]
  by_cases h : i = j
  · subst h; simp
  · have : ((j : Int) == (i : Int)) = false := beq_eq_false_iff_ne.2 (by omega)
    simp [this, h]
theorem isS_unit {n : Nat} {ps : List Int} (hl : ps.length ≤ 1000) : IsS (unitL n ps) := IsS.mk_ fun k => by have := cntN_bd ps k; omega
theorem unit_set {n j : Nat} {ps : List Int} (hj : j < n) : (rowF n (cntN ps)).set j (.int .i64 (cntN ps j + 1)) = rowF n (cntN (ps ++ [(j : Int)])) := by
  apply List.ext_getElem?
  intro i
  unfold rowF mk
  by_cases h : i = j
  · subst h
    rw [List.getElem?_set_self (by simpa using hj)]
    simp [hj, cntN_snoc]
  · rw [List.getElem?_set_ne (by omega)]
    by_cases hi : i < n
    · simp [hi, cntN_snoc, h]
    · rw [List.getElem?_eq_none (by simpa using hi), List.getElem?_eq_none (by simpa using hi)]

set_option maxRecDepth 100000 in
set_option maxHeartbeats 1000000 in
theorem unit_any (n : Nat) (A : Option Addr) (cap : Nat) (ps : List Int) (w : World) (hA : Ints w A ps) (hp : ∀ p ∈ ps, 0 ≤ p ∧ p < n) (hl : ps.length ≤ 1000) (hn : n ≤ 1000000) :
    Calls Tryz.prog 54 #[.int .i64 n, .slice A ps.length cap] w (SerPost (unitL n ps) w) := by
  have hmk := run_make_row' (P := Tryz.prog) 25 2 (.int .i64 0) 8 Tryz.underlying25 Tryz.infoI rfl .i64 .i64 n (by omega) (by omega)
  rw [madeCells_one, rowF_zero] at hmk
  have HP := Lib.hid hp; clear hp
  go_enter Tryz.func54, Tryz.ntmps54
  go_wp2
  go_loopw [12] (fun i wr => ∃ k : Nat, k ≤ ps.length ∧ i = .int .i64 (k : Int) ∧ Hid (Cells wr w.heap.size 2 (rowF n (cntN (ps.take k)))) ∧ Hid (Below w.heap.size w wr)) (fun i _ => ps.length - (intOf i).toNat)
  case atStart => exact ⟨0, by omega, by go_num, Cells.new w _ _, by show Below _ _ _; go_grown⟩
  case round =>
    obtain ⟨k, hk, rfl, HC, HB⟩ := hrel
    by_cases hlt : k < ps.length
    · obtain ⟨b, o, x, rfl, hx, hc⟩ := (hA.below HB.out).at_ hlt
      have hxp := HP.out x (List.mem_of_getElem? hx)
      obtain ⟨j, rfl⟩ := Int.eq_ofNat_of_zero_le hxp.1
      have hj : j < n := by omega
      have hji : (j : Int) < (n : Int) := hxp.2
      have g3 := cell_row HC.out hj
      have z3 : wr.frozen? ⟨w.heap.size, j, none⟩ = false := HC.out.frozen _
      have hbd := cntN_bd (ps.take k) j
      have htl : (ps.take k).length ≤ 1000 := by simp; omega
      have HN : Hid (Cells (wr.setCell ⟨w.heap.size, j, none⟩ (.int .i64 (cntN (ps.take k) j + 1))) w.heap.size 2 (rowF n (cntN (ps.take (k + 1))))) := by
        have h := HC.out.set_ j (.int .i64 (cntN (ps.take k) j + 1))
        rw [unit_set hj] at h
        rw [take_snoc' ps k _ hx]
        exact h
      have hx0 : 0 ≤ cntN (ps.take k) j := hbd.1
      have hx1 : cntN (ps.take k) j ≤ 1000 := by omega
      have HM : Hid ((cntN (ps.take k) j + 1) % 1000003 = cntN (ps.take k) j + 1) := Int.emod_eq_of_lt (by omega) (by omega)
      have hkl : (k : Int) < (ps.length : Int) := by omega
      generalize cntN (ps.take k) j = c at *
      clear hbd htl hx hxp
      go_wp2
      go_roundw
      case rel => exact ⟨k + 1, by omega, by go_num, by rw [HM.out]; exact HN.out, HB.out.setCell (Nat.le_refl _) _⟩
      case measure => simp [intOf]; omega
    · obtain rfl : k = ps.length := by omega
      go_wp2
      go_ret
      have h := HC.out
      rw [List.take_length] at h
      exact ⟨by rw [unitL_length]; rfl, h, HB.out⟩

set_option maxHeartbeats 1000000 in
theorem unitS_any (n j : Nat) (w : World) (hj : j < n) (hn : n ≤ 1000000) :
    Calls Tryz.prog 53 #[.int .i64 n, .int .i64 j] w (SerPost (unitL n [(j : Int)]) w) := by
  have hmk := run_make_row' (P := Tryz.prog) 25 2 (.int .i64 0) 8 Tryz.underlying25 Tryz.infoI rfl .i64 .i64 n (by omega) (by omega)
  rw [madeCells_one, rowF_zero] at hmk
  have HC := Cells.new w 2 (rowF n fun _ => 0)
  have g3 := cell_row HC hj
  have z3 := HC.frozen j
  have hji : (j : Int) < (n : Int) := by omega
  have HN : Hid (Cells (w.alloc (.cells ((rowF n fun _ => 0).set j (.int .i64 1)).toArray 2)) w.heap.size 2 (rowF n (cntN [(j : Int)]))) := by
    have e : (rowF n fun _ => 0).set j (.int .i64 1) = rowF n (cntN [(j : Int)]) := by
      have h := unit_set (ps := []) hj
      rw [List.nil_append] at h
      rw [← h]
      rfl
    show Cells _ _ _ _
    rw [← e]
    exact Cells.new w _ _
  go_enter Tryz.func53, Tryz.ntmps53
  go_wp2
  go_ret
  exact ⟨by rw [unitL_length]; rfl, HN.out, by go_grown⟩

end Go.Proofs.YtjohkheclglpjaaGreat

/- Walks: columns of rows, directional of the program; Directional of the spec and of the program. -/
namespace Go.Proofs.YtjohkheclglpjaaGreat
open Go.RowKit Plain

/-- the numbers of an order -/
def colL (k : Nat) (env : List (List Int)) : List Int := mk env.length fun i => cf (env.getD i []) k
theorem colL_length (k : Nat) (env : List (List Int)) : (colL k env).length = env.length := mk_length _ _
theorem RowV.at_ {w : World} {bv n k : Nat} {v : Value} {zs : List Int} (h : RowV w bv n v zs) (hk : k < n) : ∃ b o cap, v = .slice (some ⟨b, o, none⟩) n cap ∧ b < w.heap.size ∧ w.cell? ⟨b, o + k, none⟩ = some (.int .i64 (cf zs k)) := by
  obtain ⟨A, cap, rfl, hl, hi, hs⟩ := h
  obtain ⟨b, o, rfl, hb, _, _, hc⟩ := hi (by omega)
  exact ⟨b, o, cap, rfl, hb, hc k _ (cf_some (by omega))⟩

set_option maxRecDepth 100000 in
set_option maxHeartbeats 2000000 in
theorem columnS_any (bv n k : Nat) (A : Option Addr) (cap : Nat) (env : List (List Int)) (w : World) (hE : EnvAt w bv n A env) (hk : k < n) (_hn : n ≤ 1000) (hl : env.length ≤ 1000000) :
    Calls Tryz.prog 43 #[.slice A env.length cap, .int .i64 k] w (SPost (colL k env) w) := by
  obtain ⟨i0, hi, hz0, hz1, hz2⟩ := info_parts Tryz.infoI
  have HE := Lib.hid hE; clear hE
  unfold colL
  obtain ⟨F, hF⟩ : ∃ F : Nat → Int, F = fun i => cf (env.getD i []) k := ⟨_, rfl⟩
  rw [← hF]
  have HF := Lib.hid hF; clear hF
  have hk2 : (k : Int) < (n : Int) := by omega
  go_enter Tryz.func43, Tryz.ntmps43
  go_wp2
  go_loopw [5, 6] (fun o i wr => ∃ (j : Nat) (Av : Option Addr) (cp : Nat), j ≤ env.length ∧ i = .int .i64 (j : Int) ∧ o = .slice Av j cp ∧ Hid (IntRow wr w.heap.size (.slice Av j cp) (mk j F)) ∧ Hid (Below w.heap.size w wr)) (fun _ i _ => env.length - (intOf i).toNat)
  case atStart => exact ⟨0, _, _, by omega, by go_num, rfl, rowStart w F, by show Below _ _ _; go_grown⟩
  case round =>
    obtain ⟨j, Av, cp, hj, rfl, rfl, HR, HB⟩ := hrel
    by_cases hlt : j < env.length
    · obtain ⟨b1, o1, Az, cz, rfl, hb1, _, g0, hz0'⟩ := (HE.out.only (Only.of_below HB.out)).sat hlt
      obtain ⟨b3, o3, c3', hv3, hb3, hc3⟩ := RowV.at_ (k := k) (w := wr) (bv := bv) (n := n) (v := .slice Az n cz) (zs := env.getD j []) ⟨Az, cz, rfl, hz0'.len, hz0'.isAt, hz0'.isS⟩ hk
      obtain ⟨rfl, rfl⟩ : Az = some ⟨b3, o3, none⟩ ∧ cz = c3' := by simpa using hv3
      have HX : Hid (cf (env.getD j []) k = F j) := (congrFun HF.out j).symm
      have hjl : (j : Int) < (env.length : Int) := by omega
      clear hz0' hv3
      generalize cf (env.getD j []) k = z at *
      go_wp2_with (at_builtin; refine wpList_append_own _ rfl _ _ 25 rfl w.heap.size 2 i0 (.int .i64 0) 1 8 Tryz.underlying25 hi hz0 hz1 hz2 rfl (by decide) _ j _ rfl ((HR.out.ownN (mk_length _ _).symm).alloc _) ⟨wr.heap.size, 0, none⟩ 1 1 [.int .i64 z] rfl rfl ?c1 ?c2 ?c3 ?c4 ?c5 ?_)
      try (case c1 => exact cell_one_new _ _ _)
      try (case c2 => first | rfl | (intro u hu; simp at hu; subst hu; rfl))
      case c3 => unfold maxLen; omega
      case c4 => omega
      case c5 => have := HB.out.size; simp; try omega
      intro v2 w2 hown hg _
      obtain ⟨⟨A2, c2, rfl⟩, hr2, hb2⟩ := rowNext HR.out HB.out (by go_grown) HX.out hown hg
      have HR2 := Lib.hid hr2
      have HB2 := Lib.hid hb2
      clear hr2 hb2 hown hg HR HB HX g0 hc3
      go_wp2
      go_roundw
      case rel => exact ⟨j + 1, A2, c2, by omega, by go_num, rfl, HR2.out, HB2.out⟩
      case measure => simp [intOf]; omega
    · obtain rfl : j = env.length := by omega
      have HE := Lib.hid (rowEnd HR.out HB.out)
      go_wp2
      go_ret
      exact HE.out

/-- values and slopes -/
def DirPost (R : Res (List (List Int))) (w : World) (e : Ending) (w' : World) : Prop :=
  Below w.heap.size w w' ∧ match R with
    | .err c => ∃ A cp A' cp', e = .returned (.tuple #[.slice A 0 cp, .slice A' 0 cp', .int .i64 c])
    | .ok zss _ => ∃ A cp A' cp' m, e = .returned (.tuple #[.slice A zss.length cp, .slice A' zss.length cp', .int .i64 0]) ∧ RI w' m w'.heap.size A (heads zss) ∧ RI w' w.heap.size m A' (colL 1 zss) ∧ w.heap.size ≤ m ∧ m ≤ w'.heap.size
theorem heads_length (zss : List (List Int)) : (heads zss).length = zss.length := mk_length _ _

set_option maxRecDepth 100000 in
set_option maxHeartbeats 4000000 in
theorem directionalI (P : List Fn) (m : Nat) (g : Fn) (PA : Option Addr) (pcap : Nat) (A D : Option Addr) (cap dcap : Nat) (zs ds : List Int) (w : World) (hP : ProgIn w P PA pcap) (hin : ArgIn P m g zs) (hA : Ints w A zs) (hD : Ints w D ds) (hd : IsS ds) (hl : ds.length = zs.length) :
    Calls Tryz.prog 46 #[prV PA P.length pcap, .int .i64 m, .slice A zs.length cap, .slice D ds.length dcap] w (DirPost (tayR 2 P g.outs zs ds) w) := by
  obtain ⟨i0, hi, hz0, hz1, hz2⟩ := info_parts Tryz.infoI
  have hg0 : Below w.heap.size w (w.alloc (.cells #[.slice PA P.length pcap] 31)) := by go_grown
  have HC : Hid (Calls Tryz.prog 51 #[prV PA P.length pcap, .int .i64 m, .slice A zs.length cap, .slice D ds.length dcap, .int .i64 1] (w.alloc (.cells #[.slice PA P.length pcap] 31)) (RowsPost 2 (tayR 2 P g.outs zs ds) (w.alloc (.cells #[.slice PA P.length pcap] 31)))) :=
    alongI P m g 1 PA pcap A D cap dcap zs ds _ (hP.below hg0) hin (hA.below hg0) (hD.below hg0) hd hl (by omega)
  have hlen : ∀ zss t, tayR 2 P g.outs zs ds = .ok zss t → zss.length ≤ 12 := fun zss t h => by have h1 := evalR_len h; have h2 := hin.fn.o12; omega
  have herr : ∀ c, tayR 2 P g.outs zs ds = .err c → c ≠ 0 := fun c h => evalR_err h
  clear hP hin hA hD hd hl hg0
  generalize tayR 2 P g.outs zs ds = R at *
  cases R with
  | err c =>
    have hc := herr c rfl
    have hc1 : (c == 0) = false := by simpa using hc
    clear hlen herr
    go_enter Tryz.func46, Tryz.ntmps46
    go_wp2_with fail
    refine HC.out.mono ?_; rintro e w1 ⟨hb1, A', cp', rfl⟩
    have Q2 := Lib.hid (prBox (C := [Value.slice PA P.length pcap]) hb1).2
    clear hb1
    go_wp2
    go_ret3
    exact ⟨Q2.out, _, _, _, _, rfl⟩
  | ok zss t =>
    have hzl := hlen zss t rfl
    clear hlen herr
    go_enter Tryz.func46, Tryz.ntmps46
    go_wp2_with fail
    refine HC.out.mono ?_; rintro e w1 ⟨hb1, A', cp', rfl, hN⟩
    obtain ⟨q1, q2⟩ := prBox (C := [Value.slice PA P.length pcap]) hb1
    have Q2 := Lib.hid q2
    have HE := Lib.hid (hN.env (bv := w.heap.size) (by simp))
    have hwl : w.heap.size < w1.heap.size := q1.lt
    clear hb1 hN q1 q2 HC
    obtain ⟨F, hF⟩ : ∃ F : Nat → Int, F = fun i => cf (zss.getD i []) 1 := ⟨_, rfl⟩
    have HF := Lib.hid hF; clear hF
    obtain ⟨wo, rfl⟩ : ∃ wo : World, wo = w1 := ⟨_, rfl⟩
    go_wp2
    go_loopw [13, 30] (fun o i wr => ∃ (j : Nat) (Av : Option Addr) (cp : Nat), j ≤ zss.length ∧ i = .int .i64 (j : Int) ∧ o = .slice Av j cp ∧ Hid (IntRow wr wo.heap.size (.slice Av j cp) (mk j F)) ∧ Hid (Below wo.heap.size wo wr)) (fun _ i _ => zss.length - (intOf i).toNat)
    case atStart => exact ⟨0, _, _, by omega, by go_num, rfl, rowStart wo F, by show Below _ _ _; go_grown⟩
    case round =>
      obtain ⟨j, Av, cp, hj, rfl, rfl, HR, HB⟩ := hrel
      by_cases hlt : j < zss.length
      · obtain ⟨b1, o1, Az, cz, rfl, hb1, _, g0, hz0'⟩ := (HE.out.only (Only.of_below HB.out)).sat hlt
        obtain ⟨b3, o3, c3', hv3, hb3, hc3⟩ := RowV.at_ (k := 1) (w := wr) (bv := w.heap.size) (n := 2) (v := .slice Az 2 cz) (zs := zss.getD j []) ⟨Az, cz, rfl, hz0'.len, hz0'.isAt, hz0'.isS⟩ (by omega)
        obtain ⟨rfl, rfl⟩ : Az = some ⟨b3, o3, none⟩ ∧ cz = c3' := by simpa using hv3
        have HX : Hid (cf (zss.getD j []) 1 = F j) := (congrFun HF.out j).symm
        have hjl : (j : Int) < (zss.length : Int) := by omega
        clear hz0' hv3
        generalize cf (zss.getD j []) 1 = z at *
        go_wp2_with (at_builtin; refine wpList_append_own _ rfl _ _ 25 rfl wo.heap.size 2 i0 (.int .i64 0) 1 8 Tryz.underlying25 hi hz0 hz1 hz2 rfl (by decide) _ j _ rfl ((HR.out.ownN (mk_length _ _).symm).alloc _) ⟨wr.heap.size, 0, none⟩ 1 1 [.int .i64 z] rfl rfl ?c1 ?c2 ?c3 ?c4 ?c5 ?_)
        try (case c1 => exact cell_one_new _ _ _)
        try (case c2 => first | rfl | (intro u hu; simp at hu; subst hu; rfl))
        case c3 => unfold maxLen; omega
        case c4 => omega
        case c5 => have := HB.out.size; simp; try omega
        intro v2 w2 hown hg _
        obtain ⟨⟨A2, c2, rfl⟩, hr2, hb2⟩ := rowNext HR.out HB.out (by go_grown) HX.out hown hg
        have HR2 := Lib.hid hr2
        have HB2 := Lib.hid hb2
        clear hr2 hb2 hown hg HR HB HX g0 hc3
        go_wp2
        go_roundw
        case rel => exact ⟨j + 1, A2, c2, by omega, by go_num, rfl, HR2.out, HB2.out⟩
        case measure => simp [intOf]; omega
      · obtain rfl : j = zss.length := by omega
        obtain ⟨A2, c2, he2, hT2, hB2⟩ := rowEnd HR.out HB.out
        have HT2 : Hid (IntsT wr wo.heap.size Av (colL 1 zss)) := by
          rw [mk_length] at he2
          obtain ⟨rfl, _⟩ : Av = A2 ∧ cp = c2 := by simpa using he2
          have e : colL 1 zss = mk zss.length F := by rw [HF.out]; rfl
          show IntsT _ _ _ _
          rw [e]; exact hT2
        have HFC := Lib.hid (firsts_any w.heap.size 2 A' cp' zss wr (HE.out.only (Only.of_below HB.out)) (by omega) (by omega))
        clear he2 hT2 hB2 HR HE
        go_wp2_with fail
        refine HFC.out.mono ?_; rintro e w3 ⟨Ah, ch, rfl, hTh, hb3⟩
        have HTh := Lib.hid hTh
        have HB3 := Lib.hid hb3
        clear hTh hb3 HFC
        rw [heads_length]
        go_wp2
        go_ret3
        have h1 := Q2.out.size
        have h2 := HB.out.size
        have h3 := HB3.out.size
        refine ⟨Q2.out.trans ((HB.out.trans (HB3.out.mono h2)).mono h1), Ah, ch, Av, cp, wr.heap.size, rfl, HTh.out.m.reg h3, ?_, by omega, h3⟩
        have hr : RI wr w.heap.size wr.heap.size Av (colL 1 zss) := ⟨by omega, Nat.le_refl _, fun h0 => by
          obtain ⟨b, o, e1, e2, e3, _, e4⟩ := HT2.out h0
          exact ⟨b, o, e1, by omega, e3, e4⟩, fun _ _ h hk => h.keep hk⟩
        exact hr.below HB3.out

def dirRes : Res (List (List Int)) → List Int × List Int × Int
  | .err c => ([], [], c)
  | .ok zss _ => (heads zss, colL 1 zss, 0)
/-- what Directional answers -/
def dirV (P : List Fn) (f : Int) (zs ds : List Int) : List Int × List Int × Int :=
  if lineV P f zs ds = 0 then (match P[f.toNat]? with
    | none => ([], [], 0)
    | some g => dirRes (tayR 2 P g.outs zs ds))
  else ([], [], lineV P f zs ds)
theorem retIIi_nil {w w' : World} {A A' : Option Addr} {cp cp' : Nat} {c : Int} (hb : Below w.heap.size w w') : RetIIi [] [] c w (.returned (.tuple #[.slice A 0 cp, .slice A' 0 cp', .int .i64 c])) w' :=
  ⟨hb, A, cp, A', cp', w.heap.size, w.heap.size, w.heap.size, w'.heap.size, rfl, ⟨Nat.le_refl _, hb.size, fun h => absurd h (by simp), fun _ _ h hk => h.keep hk⟩, intsNil hb.size, Nat.le_refl _, Nat.le_refl _, hb.size, Nat.le_refl _, hb.size, Nat.le_refl _, .inl (Nat.le_refl _)⟩
theorem DirPost.iii {R : Res (List (List Int))} {w w1 w2 : World} {e : Ending} (hb : Below w.heap.size w w1) (h : DirPost R w1 e w2) : RetIIi (dirRes R).1 (dirRes R).2.1 (dirRes R).2.2 w e w2 := by
  obtain ⟨hb2, h⟩ := h
  have hbb := bnext hb hb2
  cases R with
  | err c =>
    obtain ⟨A, cp, A', cp', rfl⟩ := h
    exact retIIi_nil hbb
  | ok zss t =>
    obtain ⟨A, cp, A', cp', m, rfl, h1, h2, h3, h4⟩ := h
    have h5 := hb.size
    refine ⟨hbb, A, cp, A', cp', m, w2.heap.size, w1.heap.size, m, ?_, h1, h2, by omega, h4, Nat.le_refl _, h5, h3, h4, .inr (Nat.le_refl _)⟩
    show _ = Ending.returned (.tuple #[.slice A (heads zss).length cp, .slice A' (colL 1 zss).length cp', .int .i64 0])
    rw [heads_length, colL_length]

set_option maxHeartbeats 1000000 in
theorem directionalOfI (P : List Fn) (f : Int) (zs ds : List Int) {PA : Option Addr} {pcap : Nat} {A D : Option Addr} {cap dcap : Nat} (w : World) (hP : ProgIn w P PA pcap) (hA : Ints w A zs) (hl : zs.length ≤ 1048576) (hD : Ints w D ds) (hdl : ds.length ≤ 1048576) :
    Calls Tryz.prog 15 #[prV PA P.length pcap, .int .i64 f, .slice A zs.length cap, .slice D ds.length dcap] w (RetIIi (dirV P f zs ds).1 (dirV P f zs ds).2.1 (dirV P f zs ds).2.2 w) := by
  have hg0 : Below w.heap.size w (w.alloc (.cells #[.slice PA P.length pcap] 31)) := by go_grown
  have HC := Lib.hid (isLine_any P f zs ds (cap := cap) (dcap := dcap) _ (hP.below hg0) (hA.below hg0) hl (hD.below hg0) hdl)
  have HP := Lib.hid hP
  by_cases hv : lineV P f zs ds = 0
  · obtain ⟨hav, hdz, hds⟩ := lineV_zero hv
    obtain ⟨_, m, g, rfl, hin⟩ := argV_zero hav
    rw [hv] at HC
    have HV : Hid (dirV P m zs ds = dirRes (tayR 2 P g.outs zs ds)) := by
      show _ = _
      unfold dirV
      rw [if_pos hv]
      simp only [Int.toNat_natCast, hin.fn.fn]
    have HT : Hid (∀ wx, Below w.heap.size w wx → Calls Tryz.prog 46 #[prV PA P.length pcap, .int .i64 m, .slice A zs.length cap, .slice D ds.length dcap] wx (DirPost (tayR 2 P g.outs zs ds) wx)) := fun wx hx =>
      directionalI P m g PA pcap A D cap dcap zs ds wx (HP.out.below hx) hin (hA.below hx) (hD.below hx) hds hdz
    rw [HV.out]
    clear hv hP hA hD hg0 hav hdz hds hin
    generalize tayR 2 P g.outs zs ds = R at *
    go_enter Tryz.func15, Tryz.ntmps15
    go_wp2_with fail
    refine HC.out.mono ?_; rintro e w1 ⟨rfl, hb1⟩
    obtain ⟨q1, q2⟩ := prBox (C := [Value.slice PA P.length pcap]) hb1
    have Q2 := Lib.hid q2
    have a0 : w1.cell? ⟨w.heap.size, 0, none⟩ = some (.slice PA P.length pcap) := by rw [q1.cell]; rfl
    clear hb1 q1 q2
    go_wp2_with fail
    refine (HT.out _ Q2.out).mono ?_; rintro e w2 hp
    have hp2 := Lib.hid (DirPost.iii Q2.out hp)
    cases R with
    | err c =>
      obtain ⟨_, A', cp', A2, c2, rfl⟩ := hp
      go_wp2
      go_ret3
      exact hp2.out
    | ok zss t =>
      obtain ⟨_, A', cp', A2, c2, m', rfl, _⟩ := hp
      go_wp2
      go_ret3
      exact hp2.out
  · have HV : Hid (dirV P f zs ds = ([], [], lineV P f zs ds)) := by show _ = _; unfold dirV; rw [if_neg hv]
    rw [HV.out]
    generalize lineV P f zs ds = V at *
    have hv1 : (V == 0) = false := by simpa using hv
    clear hP hA hD hg0
    go_enter Tryz.func15, Tryz.ntmps15
    go_wp2_with fail
    refine HC.out.mono ?_; rintro e w1 ⟨rfl, hb1⟩
    have Q2 := Lib.hid (prBox (C := [Value.slice PA P.length pcap]) hb1).2
    clear hb1
    go_wp2
    go_ret3
    exact retIIi_nil Q2.out

set_option maxHeartbeats 1000000 in
theorem directionalOfS (P : List Fn) (f : Int) (zs ds : List Int) {PA : Option Addr} {pcap : Nat} {A D : Option Addr} {cap dcap : Nat} (w : World) (hP : ProgIn w P PA pcap) (hA : Ints w A zs) (hl : zs.length ≤ 1048576) (hD : Ints w D ds) (hdl : ds.length ≤ 1048576) :
    Calls Tryz.prog 12 #[prV PA P.length pcap, .int .i64 f, .slice A zs.length cap, .slice D ds.length dcap] w (RetIIi (dirV P f zs ds).1 (dirV P f zs ds).2.1 (dirV P f zs ds).2.2 w) := by
  obtain ⟨hPr, hg⟩ := prBoxAt hP 31
  have HC := Lib.hid (asked3S_any P f A D cap dcap zs ds w.heap.size 0 (w.heap.size + 1) _ hPr (by simp) hP.sz (hA.below hg) (by omega) (hD.below hg) (by omega))
  have HG := Lib.hid hg
  by_cases hv : lineV P f zs ds = 0
  · obtain ⟨hav, hdz, hds⟩ := lineV_zero hv
    obtain ⟨_, m, g, rfl, hin⟩ := argV_zero hav
    rw [hv] at HC
    have HV : Hid (dirV P m zs ds = dirRes (tayR 2 P g.outs zs ds)) := by
      show _ = _
      unfold dirV
      rw [if_pos hv]
      simp only [Int.toNat_natCast, hin.fn.fn]
    have HT : Hid (∀ wx, Below (w.heap.size + 1) (w.alloc (.cells #[.slice PA P.length pcap] 31)) wx → Calls Tryz.prog 42 #[ptr w.heap.size 0, .int .i64 m, .slice A zs.length cap, .slice D ds.length dcap, .int .i64 1] wx (RowsPost 2 (tayR 2 P g.outs zs ds) wx)) := fun wx hx =>
      taylorS_any P m g 1 A D cap dcap zs ds w.heap.size 0 (w.heap.size + 1) wx (hPr.below hx) (by have := hx.size; simp at this; omega) hin ((hA.below hg).below (by simpa using hx)) ((hD.below hg).below (by simpa using hx)) hds hdz (by omega)
    have hlen : ∀ zss t, tayR 2 P g.outs zs ds = .ok zss t → zss.length ≤ 12 := fun zss t h => by have h1 := evalR_len h; have h2 := hin.fn.o12; omega
    have herr : ∀ c, tayR 2 P g.outs zs ds = .err c → c ≠ 0 := fun c h => evalR_err h
    rw [HV.out]
    clear hv hPr hP hA hD hg hav hdz hds hin
    generalize tayR 2 P g.outs zs ds = R at *
    cases R with
    | err c =>
      have hc := herr c rfl
      have hc1 : (c == 0) = false := by simpa using hc
      clear hlen herr
      go_enter Tryz.func12, Tryz.ntmps12
      go_wp2_with fail
      refine HC.out.mono ?_; rintro e w1 ⟨rfl, hb1⟩
      have HB := Lib.hid hb1
      clear hb1
      go_wp2_with fail
      refine (HT.out _ (HB.out.mono (by simp))).mono ?_; rintro e w2 ⟨hb2, A', cp', rfl⟩
      have HB2 := Lib.hid (bnext (HG.out.trans (HB.out.mono HG.out.size)) hb2)
      clear hb2
      go_wp2
      go_ret3
      exact retIIi_nil (HB2.out.trans ((show Below w2.heap.size w2 ((w2.alloc (.cells #[] 2)).alloc (.cells #[] 2)) by go_grown).mono HB2.out.size))
    | ok zss t =>
      have hzl := hlen zss t rfl
      clear hlen herr
      go_enter Tryz.func12, Tryz.ntmps12
      go_wp2_with fail
      refine HC.out.mono ?_; rintro e w1 ⟨rfl, hb1⟩
      have HB := Lib.hid hb1
      clear hb1
      go_wp2_with fail
      refine (HT.out _ (HB.out.mono (by simp))).mono ?_; rintro e w2 ⟨hb2, A', cp', rfl, hN⟩
      have hw1 := HB.out.size
      have HB1 := Lib.hid (HG.out.trans (HB.out.mono HG.out.size))
      have HB2 := Lib.hid (bnext HB1.out hb2)
      have HE := Lib.hid (hN.env (bv := w.heap.size) (by simp at hw1; omega))
      have hC0 : Hid (∀ wx, Below w2.heap.size w2 wx → Calls Tryz.prog 43 #[.slice A' zss.length cp', .int .i64 0] wx (SPost (colL 0 zss) wx)) := fun wx hx => columnS_any w.heap.size 2 0 A' cp' zss wx (HE.out.only (Only.of_below hx)) (by omega) (by omega) (by omega)
      have hC1 : Hid (∀ wx, Below w2.heap.size w2 wx → Calls Tryz.prog 43 #[.slice A' zss.length cp', .int .i64 1] wx (SPost (colL 1 zss) wx)) := fun wx hx => columnS_any w.heap.size 2 1 A' cp' zss wx (HE.out.only (Only.of_below hx)) (by omega) (by omega) (by omega)
      clear hb2 hN hw1
      go_wp2_with fail
      refine (hC0.out _ (Below.refl _ _)).mono ?_; rintro e w3 ⟨Ah, ch, rfl, hTh, hb3⟩
      rw [colL_length]
      have HTh := Lib.hid hTh
      have HB3 := Lib.hid hb3
      clear hTh hb3 hC0
      go_wp2_with fail
      refine (hC1.out _ HB3.out).mono ?_; rintro e w4 ⟨As, cs, rfl, hTs, hb4⟩
      rw [colL_length]
      have HTs := Lib.hid hTs
      have HB4 := Lib.hid hb4
      clear hTs hb4 hC1
      go_wp2
      go_ret3
      have h2 := HB2.out.size
      have h3 := HB3.out.size
      have h4 := HB4.out.size
      refine ⟨bnext (bnext HB2.out HB3.out) HB4.out, Ah, ch, As, cs, w2.heap.size, w3.heap.size, w3.heap.size, w4.heap.size, ?_, (HTh.out.m.reg h3).below HB4.out, HTs.out.m.reg h4, h2, h3, h4, by omega, h4, Nat.le_refl _, .inl (Nat.le_refl _)⟩
      show _ = Ending.returned (.tuple #[.slice Ah (heads zss).length ch, .slice As (colL 1 zss).length cs, .int .i64 0])
      rw [heads_length, colL_length]
      rfl
  · have HV : Hid (dirV P f zs ds = ([], [], lineV P f zs ds)) := by show _ = _; unfold dirV; rw [if_neg hv]
    rw [HV.out]
    generalize lineV P f zs ds = V at *
    have hv1 : (V == 0) = false := by simpa using hv
    clear hPr hP hA hD hg
    go_enter Tryz.func12, Tryz.ntmps12
    go_wp2_with fail
    refine HC.out.mono ?_; rintro e w1 ⟨rfl, hb1⟩
    have HB1 := Lib.hid (HG.out.trans (hb1.mono HG.out.size))
    clear hb1
    go_wp2
    go_ret3
    exact retIIi_nil (HB1.out.trans ((show Below w1.heap.size w1 ((w1.alloc (.cells #[] 2)).alloc (.cells #[] 2)) by go_grown).mono HB1.out.size))

theorem dirV_of (P : List Fn) (f : Int) (zs ds : List Int) : (dirV P f zs ds).1.length ≤ 12 ∧ (dirV P f zs ds).2.1.length ≤ 12 := by
  unfold dirV
  split
  · rename_i h
    obtain ⟨_, m, g, rfl, hin⟩ := argV_zero (lineV_zero h).1
    simp only [Int.toNat_natCast, hin.fn.fn]
    cases hr : tayR 2 P g.outs zs ds with
    | err c => simp [dirRes]
    | ok zss t =>
      have h1 := evalR_len hr
      have h2 := hin.fn.o12
      simp only [dirRes, heads_length, colL_length]
      omega
  · simp
theorem dirV_len1 (P : List Fn) (f : Int) (zs ds : List Int) : (dirV P f zs ds).1.length ≤ 4194304 := by have := (dirV_of P f zs ds).1; omega
theorem dirV_len2 (P : List Fn) (f : Int) (zs ds : List Int) : (dirV P f zs ds).2.1.length ≤ 4194304 := by have := (dirV_of P f zs ds).2; omega

end Go.Proofs.YtjohkheclglpjaaGreat

/- Walks: Partial of the spec and of the program. -/
namespace Go.Proofs.YtjohkheclglpjaaGreat
open Go.RowKit Plain

def partRes : Res (List (List Int)) → List Int × Int
  | .err c => ([], c)
  | .ok zss _ => (colL 1 zss, 0)
/-- what Partial answers -/
def partV (P : List Fn) (f param : Int) (zs : List Int) : List Int × Int :=
  if argV P f zs = 0 then (if inR param 0 ((zs.length : Int) - 1) = true then (match P[f.toNat]? with
    | none => ([], 0)
    | some g => partRes (tayR 2 P g.outs zs (unitL zs.length [param]))) else ([], 2))
  else ([], argV P f zs)
theorem retIi_nil {w w' : World} {A : Option Addr} {cp : Nat} {c : Int} (hb : Below w.heap.size w w') : RetIi [] c w (.returned (.tuple #[.slice A 0 cp, .int .i64 c])) w' :=
  ⟨hb, A, cp, rfl, intsNil hb.size⟩
theorem riMono {w w' : World} {lo lo' hi : Nat} {A : Option Addr} {zs : List Int} (h : Reg w' lo hi (IntsR lo hi A zs)) (h1 : lo' ≤ lo) (h2 : hi ≤ w'.heap.size) (h3 : w.heap.size = lo') : RI w' w.heap.size w'.heap.size A zs := by
  subst h3
  have := h.le
  exact ⟨by omega, Nat.le_refl _, fun h0 => by
    obtain ⟨b, o, e1, e2, e3, e4⟩ := h.now h0
    exact ⟨b, o, e1, by omega, by omega, e4⟩, fun _ _ h hk => h.keep hk⟩

theorem newCell (w : World) (t : TypeId) (v : Value) : (w.alloc (.cells #[v] t)).cell? ⟨w.heap.size, 0, none⟩ = some v := by
  have h : Cells (w.alloc (.cells #[v] t)) w.heap.size t [v] := Cells.new w t [v]
  rw [h.cell]; rfl
theorem bnextG {w wx w2 : World} (hb : Below wx.heap.size wx w2) (hx : Below w.heap.size w wx) : Below w.heap.size w w2 := bnext hx hb

set_option maxRecDepth 100000 in
set_option maxHeartbeats 2000000 in
theorem partialI (P : List Fn) (f param : Int) (zs : List Int) {PA : Option Addr} {pcap : Nat} {A : Option Addr} {cap : Nat} (w : World) (hP : ProgIn w P PA pcap) (hA : Ints w A zs) (hl : zs.length ≤ 1048576) :
    Calls Tryz.prog 27 #[prV PA P.length pcap, .int .i64 f, .int .i64 param, .slice A zs.length cap] w (RetIi (partV P f param zs).1 (partV P f param zs).2 w) := by
  have hg0 : Below w.heap.size w (w.alloc (.cells #[.slice PA P.length pcap] 31)) := by go_grown
  have hpm : pcap ≤ 9223372036854775807 := by have := hP.pm; unfold maxLen at this; omega
  have HC := isLine_any P f zs zs (cap := cap) (dcap := cap) _ (hP.below hg0) (hA.below hg0) hl (hA.below hg0) hl
  rw [lineV_same] at HC
  have HC := Lib.hid HC
  have HP := Lib.hid hP
  by_cases hv : argV P f zs = 0
  · obtain ⟨_, m, g, rfl, hin⟩ := argV_zero hv
    rw [hv] at HC
    have hml : m < P.length := (List.getElem?_eq_some_iff.1 hin.fn.fn).1
    have hml2 : (m : Int) < (P.length : Int) := by omega
    obtain ⟨bP, oP, rfl, hbP, _⟩ := hP.fns.get hin.fn.fn
    have hgp : g.params = (zs.length : Int) := hin.len.symm
    have hp12 := hin.fn.p12
    have HF : Hid (∀ wx, Below w.heap.size w wx → wx.cell? ⟨bP, oP + m * 3 + 1, none⟩ = some (.int .i64 (zs.length : Int))) := fun wx hx => by
      obtain ⟨bP', oP', e', _, _, g1, _⟩ := (HP.out.fns.below hx).get hin.fn.fn
      obtain ⟨rfl, rfl⟩ : bP = bP' ∧ oP = oP' := by simpa using e'
      rw [hgp] at g1
      exact g1
    cases hq : inR param 0 ((zs.length : Int) - 1)
    · have HV : Hid (partV P m param zs = ([], 2)) := by show _ = _; unfold partV; rw [if_pos hv, hq]; rfl
      rw [HV.out]
      have HQ := Lib.hid hq
      clear hv hq hP hA hg0 hin hgp
      go_enter Tryz.func27, Tryz.ntmps27
      go_wp2_with fail
      refine HC.out.mono ?_; rintro e w1 ⟨rfl, hb1⟩
      obtain ⟨q1, q2⟩ := prBox (C := [Value.slice (some ⟨bP, oP, none⟩) P.length pcap]) hb1
      have Q2 := Lib.hid q2
      have a0 : w1.cell? ⟨w.heap.size, 0, none⟩ = some (.slice (some ⟨bP, oP, none⟩) P.length pcap) := by rw [q1.cell]; rfl
      have g1 := HF.out w1 Q2.out
      clear hb1 q1 q2
      go_wp2_with (go_at_call 50; refine (within_any _ _ _ _).mono ?_; rintro e w' ⟨rfl, rfl⟩; rw [HQ.out])
      go_ret2
      exact retIi_nil Q2.out
    · have ho := inR_true.1 hq
      obtain ⟨j, rfl⟩ := Int.eq_ofNat_of_zero_le ho.1
      have hj : j < zs.length := by omega
      have HV : Hid (partV P m j zs = partRes (tayR 2 P g.outs zs (unitL zs.length [(j : Int)]))) := by
        show _ = _
        unfold partV
        rw [if_pos hv, if_pos hq]
        simp only [Int.toNat_natCast, hin.fn.fn]
      have HT : Hid (∀ wx D, Below w.heap.size w wx → Ints wx D (unitL zs.length [(j : Int)]) → Calls Tryz.prog 46 #[prV (some ⟨bP, oP, none⟩) P.length pcap, .int .i64 m, .slice A zs.length cap, .slice D zs.length zs.length] wx (DirPost (tayR 2 P g.outs zs (unitL zs.length [(j : Int)])) wx)) := fun wx D hx hD => by
        have h := directionalI P m g (some ⟨bP, oP, none⟩) pcap A D cap zs.length zs (unitL zs.length [(j : Int)]) wx (HP.out.below hx) hin (hA.below hx) hD (isS_unit (by simp)) (unitL_length _ _)
        rw [unitL_length] at h
        exact h
      have HU : Hid (∀ wx b, wx.cell? ⟨b, 0, none⟩ = some (.int .i64 (j : Int)) → Calls Tryz.prog 54 #[.int .i64 zs.length, .slice (some ⟨b, 0, none⟩) 1 1] wx fun e w' => ∃ gu, e = .returned (.slice (some ⟨gu, 0, none⟩) zs.length zs.length) ∧ Ints w' (some ⟨gu, 0, none⟩) (unitL zs.length [(j : Int)]) ∧ Below wx.heap.size wx w') := fun wx b hc => by
        have hI : Ints wx (some ⟨b, 0, none⟩) [(j : Int)] := fun _ => ⟨b, 0, rfl, World.block_lt_of_cell? _ _ hc, fun i x hx => by
          match i, hx with
          | 0, hx => simp at hx; subst hx; exact hc⟩
        refine (unit_any zs.length (some ⟨b, 0, none⟩) 1 [(j : Int)] wx hI (fun p hp => by simp at hp; subst hp; omega) (by simp) (by omega)).mono fun e w' ⟨he, hC, hb⟩ => ?_
        rw [unitL_length] at he
        exact ⟨wx.heap.size, he, (hC.intsM' (Nat.le_refl _)).ints, hb⟩
      have herr : ∀ c, tayR 2 P g.outs zs (unitL zs.length [(j : Int)]) = .err c → c ≠ 0 := fun c h => evalR_err h
      rw [HV.out]
      have HQ := Lib.hid hq
      clear hv hq hP hA hg0 hin hgp
      generalize hR : tayR 2 P g.outs zs (unitL zs.length [(j : Int)]) = R at *
      clear hR
      cases R with
      | err c =>
        have hc := herr c rfl
        have hc1 : (c == 0) = false := by simpa using hc
        clear herr
        go_enter Tryz.func27, Tryz.ntmps27
        go_wp2_with fail
        refine HC.out.mono ?_; rintro e w1 ⟨rfl, hb1⟩
        obtain ⟨q1, q2⟩ := prBox (C := [Value.slice (some ⟨bP, oP, none⟩) P.length pcap]) hb1
        have Q2 := Lib.hid q2
        have a0 : w1.cell? ⟨w.heap.size, 0, none⟩ = some (.slice (some ⟨bP, oP, none⟩) P.length pcap) := by rw [q1.cell]; rfl
        have g1 := HF.out w1 Q2.out
        clear hb1 q1 q2
        go_wp2_with (go_at_call 50; refine (within_any _ _ _ _).mono ?_; rintro e w' ⟨rfl, rfl⟩; rw [HQ.out])
        have A0 := Lib.hid a0
        have al : w.heap.size < w1.heap.size := World.block_lt_of_cell? _ _ a0
        go_region_held3 (fun wx => wx.cell? ⟨w.heap.size, 0, none⟩ = some (.slice (some ⟨bP, oP, none⟩) P.length pcap))
          (first | exact A0.out | go_keep | exact keepC A0.out hb2 | exact keepC A0.out (hb2.trans (hb3.mono hb2.size)))
          (first
            | (go_at_call 46; have _tk := hI2; (with_reducible refine (HT.out _ _ (Q2.out.trans (hb2.mono Q2.out.size)) hI2).mono ?_); rintro e w3 ⟨hb3, A', cp', A2, c2, rfl⟩)
            | (go_at_call 54; refine (HU.out _ _ (by first | exact newCell _ _ _ | simp)).mono ?_; rintro e w2 ⟨gu, rfl, hI2, hb2'⟩; have hb2 : Below w1.heap.size w1 w2 := bnextG hb2' (by first | go_grown | exact ((Below.refl _ _).drew).alloc (Nat.le_refl _) _ | exact (below_drewN' (Below.refl _ _) _).alloc (Nat.le_refl _) _ | exact ((Below.refl _ _).alloc (Nat.le_refl _) _).drew | exact below_drewN' ((Below.refl _ _).alloc (Nat.le_refl _) _) _)))
        have HPF := Lib.hid (Q2.out.trans ((hb2.trans (hb3.mono hb2.size)).mono Q2.out.size))
        clear hb2' hb2 hb3 hI2 a0 g1
        go_wp2
        go_ret2
        exact retIi_nil HPF.out
      | ok zss t =>
        clear herr
        go_enter Tryz.func27, Tryz.ntmps27
        go_wp2_with fail
        refine HC.out.mono ?_; rintro e w1 ⟨rfl, hb1⟩
        obtain ⟨q1, q2⟩ := prBox (C := [Value.slice (some ⟨bP, oP, none⟩) P.length pcap]) hb1
        have Q2 := Lib.hid q2
        have a0 : w1.cell? ⟨w.heap.size, 0, none⟩ = some (.slice (some ⟨bP, oP, none⟩) P.length pcap) := by rw [q1.cell]; rfl
        have g1 := HF.out w1 Q2.out
        clear hb1 q1 q2
        go_wp2_with (go_at_call 50; refine (within_any _ _ _ _).mono ?_; rintro e w' ⟨rfl, rfl⟩; rw [HQ.out])
        have A0 := Lib.hid a0
        have al : w.heap.size < w1.heap.size := World.block_lt_of_cell? _ _ a0
        go_region_held3 (fun wx => wx.cell? ⟨w.heap.size, 0, none⟩ = some (.slice (some ⟨bP, oP, none⟩) P.length pcap))
          (first | exact A0.out | go_keep | exact keepC A0.out hb2 | exact keepC A0.out (hb2.trans (hb3.mono hb2.size)))
          (first
            | (go_at_call 46; have _tk := hI2; (with_reducible refine (HT.out _ _ (Q2.out.trans (hb2.mono Q2.out.size)) hI2).mono ?_); rintro e w3 ⟨hb3, A', cp', A2, c2, mm, rfl, _, hs3, hm1, hm2⟩)
            | (go_at_call 54; refine (HU.out _ _ (by first | exact newCell _ _ _ | simp)).mono ?_; rintro e w2 ⟨gu, rfl, hI2, hb2'⟩; have hb2 : Below w1.heap.size w1 w2 := bnextG hb2' (by first | go_grown | exact ((Below.refl _ _).drew).alloc (Nat.le_refl _) _ | exact (below_drewN' (Below.refl _ _) _).alloc (Nat.le_refl _) _ | exact ((Below.refl _ _).alloc (Nat.le_refl _) _).drew | exact below_drewN' ((Below.refl _ _).alloc (Nat.le_refl _) _) _)))
        have HB2 := Lib.hid (Q2.out.trans (hb2.mono Q2.out.size))
        have HB3 := Lib.hid hb3
        have HS3 := Lib.hid hs3
        have HM := Lib.hid (And.intro hm1 hm2)
        clear hb2' hb2 hb3 hI2 a0 g1 hs3 hm1 hm2
        go_wp2
        go_ret2
        have h1 := HB2.out.size
        have h2 := HB3.out.size
        have h3 := HM.out
        refine ⟨bnext HB2.out HB3.out, A2, c2, ?_, riMono (w := w) HS3.out h1 h3.2 rfl⟩
        show _ = Ending.returned (.tuple #[.slice A2 (colL 1 zss).length c2, .int .i64 0])
        rw [colL_length]
        rfl
  · have HV : Hid (partV P f param zs = ([], argV P f zs)) := by show _ = _; unfold partV; rw [if_neg hv]
    rw [HV.out]
    generalize argV P f zs = V at *
    have hv1 : (V == 0) = false := by simpa using hv
    clear hP hA hg0
    go_enter Tryz.func27, Tryz.ntmps27
    go_wp2_with fail
    refine HC.out.mono ?_; rintro e w1 ⟨rfl, hb1⟩
    have Q2 := Lib.hid (prBox (C := [Value.slice PA P.length pcap]) hb1).2
    clear hb1
    go_wp2
    go_ret2
    exact retIi_nil Q2.out

set_option maxRecDepth 100000 in
set_option maxHeartbeats 2000000 in
theorem partialS (P : List Fn) (f param : Int) (zs : List Int) {PA : Option Addr} {pcap : Nat} {A : Option Addr} {cap : Nat} (w : World) (hP : ProgIn w P PA pcap) (hA : Ints w A zs) (hl : zs.length ≤ 1048576) :
    Calls Tryz.prog 26 #[prV PA P.length pcap, .int .i64 f, .int .i64 param, .slice A zs.length cap] w (RetIi (partV P f param zs).1 (partV P f param zs).2 w) := by
  obtain ⟨hPr, hg⟩ := prBoxAt hP 31
  have HC := Lib.hid (argsS_any P f A cap zs w.heap.size 0 (w.heap.size + 1) _ hPr (by simp) hP.sz (hA.below hg) (by omega))
  have HG := Lib.hid hg
  by_cases hv : argV P f zs = 0
  · obtain ⟨_, m, g, rfl, hin⟩ := argV_zero hv
    rw [hv] at HC
    have hp12 := hin.fn.p12
    have hgp := hin.len
    have hzl : zs.length ≤ 12 := by omega
    clear hgp
    cases hq : inR param 0 ((zs.length : Int) - 1)
    · have HV : Hid (partV P m param zs = ([], 2)) := by show _ = _; unfold partV; rw [if_pos hv, hq]; rfl
      rw [HV.out]
      have HQ := Lib.hid hq
      clear hv hq hPr hP hA hg hin
      go_enter Tryz.func26, Tryz.ntmps26
      go_wp2_with fail
      refine HC.out.mono ?_; rintro e w1 ⟨rfl, hb1⟩
      have HB := Lib.hid (HG.out.trans (hb1.mono HG.out.size))
      clear hb1
      go_wp2_with (go_at_call 49; refine (in_any _ _ _ _).mono ?_; rintro e w' ⟨rfl, rfl⟩; rw [HQ.out])
      go_ret2
      exact retIi_nil (HB.out.trans ((show Below w1.heap.size w1 (w1.alloc (.cells #[] 2)) by go_grown).mono HB.out.size))
    · have ho := inR_true.1 hq
      obtain ⟨j, rfl⟩ := Int.eq_ofNat_of_zero_le ho.1
      have hj : j < zs.length := by omega
      have HV : Hid (partV P m j zs = partRes (tayR 2 P g.outs zs (unitL zs.length [(j : Int)]))) := by
        show _ = _
        unfold partV
        rw [if_pos hv, if_pos hq]
        simp only [Int.toNat_natCast, hin.fn.fn]
      have HT : Hid (∀ wx D, Below (w.heap.size + 1) (w.alloc (.cells #[.slice PA P.length pcap] 31)) wx → Ints wx D (unitL zs.length [(j : Int)]) → Calls Tryz.prog 42 #[ptr w.heap.size 0, .int .i64 m, .slice A zs.length cap, .slice D zs.length zs.length, .int .i64 1] wx (RowsPost 2 (tayR 2 P g.outs zs (unitL zs.length [(j : Int)])) wx)) := fun wx D hx hD => by
        have h := taylorS_any P m g 1 A D cap zs.length zs (unitL zs.length [(j : Int)]) w.heap.size 0 (w.heap.size + 1) wx (hPr.below hx) (by have := hx.size; simp at this; omega) hin ((hA.below hg).below (by simpa using hx)) hD (isS_unit (by simp)) (unitL_length _ _) (by omega)
        rw [unitL_length] at h
        exact h
      have HU : Hid (∀ wx, Calls Tryz.prog 53 #[.int .i64 zs.length, .int .i64 j] wx fun e w' => ∃ gu, e = .returned (.slice (some ⟨gu, 0, none⟩) zs.length zs.length) ∧ Ints w' (some ⟨gu, 0, none⟩) (unitL zs.length [(j : Int)]) ∧ Below wx.heap.size wx w') := fun wx =>
        (unitS_any zs.length j wx hj (by omega)).mono fun e w' ⟨he, hC, hb⟩ => by
          rw [unitL_length] at he
          exact ⟨wx.heap.size, he, (hC.intsM' (Nat.le_refl _)).ints, hb⟩
      have herr : ∀ c, tayR 2 P g.outs zs (unitL zs.length [(j : Int)]) = .err c → c ≠ 0 := fun c h => evalR_err h
      have hlen : ∀ zss t, tayR 2 P g.outs zs (unitL zs.length [(j : Int)]) = .ok zss t → zss.length ≤ 12 := fun zss t h => by have h1 := evalR_len h; have h2 := hin.fn.o12; omega
      rw [HV.out]
      have HQ := Lib.hid hq
      clear hv hq hPr hP hA hg hin
      generalize hR : tayR 2 P g.outs zs (unitL zs.length [(j : Int)]) = R at *
      clear hR
      cases R with
      | err c =>
        have hc := herr c rfl
        have hc1 : (c == 0) = false := by simpa using hc
        clear herr hlen
        go_enter Tryz.func26, Tryz.ntmps26
        go_wp2_with fail
        refine HC.out.mono ?_; rintro e w1 ⟨rfl, hb1⟩
        have HB := Lib.hid hb1
        clear hb1
        go_wp2_with (go_at_call 49; refine (in_any _ _ _ _).mono ?_; rintro e w' ⟨rfl, rfl⟩; rw [HQ.out])
        refine (HU.out _).mono ?_; rintro e w2 ⟨gu, rfl, hI2, hb2⟩
        have HB2 := Lib.hid (bnext HB.out hb2)
        have HI2 := Lib.hid hI2
        clear hI2 hb2
        go_wp2_with fail
        refine (HT.out _ _ (HB2.out.mono (by simp)) HI2.out).mono ?_; rintro e w3 ⟨hb3, A', cp', rfl⟩
        have HB3 := Lib.hid (bnext (HG.out.trans (HB2.out.mono HG.out.size)) hb3)
        clear hb3
        go_wp2
        go_ret2
        exact retIi_nil (HB3.out.trans ((show Below w3.heap.size w3 (w3.alloc (.cells #[] 2)) by go_grown).mono HB3.out.size))
      | ok zss t =>
        have hzs := hlen zss t rfl
        clear herr hlen
        go_enter Tryz.func26, Tryz.ntmps26
        go_wp2_with fail
        refine HC.out.mono ?_; rintro e w1 ⟨rfl, hb1⟩
        have HB := Lib.hid hb1
        clear hb1
        go_wp2_with (go_at_call 49; refine (in_any _ _ _ _).mono ?_; rintro e w' ⟨rfl, rfl⟩; rw [HQ.out])
        refine (HU.out _).mono ?_; rintro e w2 ⟨gu, rfl, hI2, hb2⟩
        have HB2 := Lib.hid (bnext HB.out hb2)
        have HI2 := Lib.hid hI2
        clear hI2 hb2
        go_wp2_with fail
        refine (HT.out _ _ (HB2.out.mono (by simp)) HI2.out).mono ?_; rintro e w3 ⟨hb3, A', cp', rfl, hN⟩
        have hw1 := HB2.out.size
        have HB3 := Lib.hid (bnext (HG.out.trans (HB2.out.mono HG.out.size)) hb3)
        have HCL := Lib.hid (columnS_any w.heap.size 2 1 A' cp' zss w3 (hN.env (bv := w.heap.size) (by simp at hw1; omega)) (by omega) (by omega) (by omega))
        clear hb3 hN hw1
        have HCL1 : Hid (Calls Tryz.prog 43 #[.slice A' zss.length cp', .int .i64 1] w3 (SPost (colL 1 zss) w3)) := HCL.out
        clear HCL
        go_wp2_with fail
        refine HCL1.out.mono ?_; rintro e w4 ⟨As, cs, rfl, hTs, hb4⟩
        rw [colL_length]
        have HTs := Lib.hid hTs
        have HB4 := Lib.hid hb4
        clear hTs hb4 HCL1
        go_wp2
        go_ret2
        have h3 := HB3.out.size
        have h4 := HB4.out.size
        refine ⟨bnext HB3.out HB4.out, As, cs, ?_, riMono (w := w) (HTs.out.m.reg h4) h3 (Nat.le_refl _) rfl⟩
        show _ = Ending.returned (.tuple #[.slice As (colL 1 zss).length cs, .int .i64 0])
        rw [colL_length]
        rfl
  · have HV : Hid (partV P f param zs = ([], argV P f zs)) := by show _ = _; unfold partV; rw [if_neg hv]
    rw [HV.out]
    generalize argV P f zs = V at *
    have hv1 : (V == 0) = false := by simpa using hv
    clear hPr hP hA hg
    go_enter Tryz.func26, Tryz.ntmps26
    go_wp2_with fail
    refine HC.out.mono ?_; rintro e w1 ⟨rfl, hb1⟩
    have HB := Lib.hid (HG.out.trans (hb1.mono HG.out.size))
    clear hb1
    go_wp2
    go_ret2
    exact retIi_nil (HB.out.trans ((show Below w1.heap.size w1 (w1.alloc (.cells #[] 2)) by go_grown).mono HB.out.size))

theorem partV_len (P : List Fn) (f param : Int) (zs : List Int) : (partV P f param zs).1.length ≤ 4194304 := by
  unfold partV
  split
  · rename_i h
    obtain ⟨_, m, g, rfl, hin⟩ := argV_zero h
    split
    · simp only [Int.toNat_natCast, hin.fn.fn]
      cases hr : tayR 2 P g.outs zs (unitL zs.length [param]) with
      | err c => simp [partRes]
      | ok zss t =>
        have h1 := evalR_len hr
        have h2 := hin.fn.o12
        simp only [partRes, colL_length]
        omega
    · simp
  · simp

end Go.Proofs.YtjohkheclglpjaaGreat

/- Walks: series as arguments; EvaluateSeries of the spec and of the program. -/
namespace Go.Proofs.YtjohkheclglpjaaGreat
open Go.RowKit Plain

/-- the length of the first list -/
def headN (zss : List (List Int)) : Nat := (zss.getD 0 []).length
def rowB (h : Nat) (zs : List Int) : Bool := serB zs && decide (zs.length = h)
def rowsB (zss : List (List Int)) : Bool := zss.all (rowB (headN zss))
/-- the number of coefficients -/
def sizeN (zss : List (List Int)) : Nat := if zss.length = 0 then 1 else headN zss
/-- the code behind a function and series -/
def pathV (P : List Fn) (f : Int) (zss : List (List Int)) : Int := if askV P f = 0 then (if (decide ((zss.length : Int) = ((P[f.toNat]?).map Fn.params).getD 0) && rowsB zss) = true then 0 else 2) else askV P f
theorem rowsB_get {zss : List (List Int)} (h : rowsB zss = true) {zs : List Int} (hz : zs ∈ zss) : serB zs = true ∧ zs.length = headN zss := by
  have := List.all_eq_true.1 h zs hz
  unfold rowB at this
  simpa using this
theorem serB_true {zs : List Int} (h : serB zs = true) : 1 ≤ zs.length ∧ zs.length ≤ 13 ∧ IsS zs := by
  unfold serB at h
  simp only [Bool.and_eq_true] at h
  have := inR_true.1 h.1
  exact ⟨by omega, by omega, isS_nums h.2⟩
/-- a function and series that may be evaluated -/
structure PathIn (P : List Fn) (m : Nat) (g : Fn) (zss : List (List Int)) : Prop where
  ok : progOk P = true
  fn : FnIn P m g
  len : (zss.length : Int) = g.params
  n0 : 1 ≤ sizeN zss
  n1 : sizeN zss ≤ 13
  rows : ∀ zs ∈ zss, zs.length = sizeN zss ∧ IsS zs
theorem pathV_ask {P : List Fn} {m : Nat} {g : Fn} {zss : List (List Int)} (h : askV P m = 0) (hg : P[m]? = some g) : pathV P m zss = if (decide ((zss.length : Int) = g.params) && rowsB zss) = true then 0 else 2 := by
  unfold pathV
  rw [if_pos h]
  simp [hg]
theorem pathV_no {P : List Fn} {f : Int} {zss : List (List Int)} (h : askV P f ≠ 0) : pathV P f zss = askV P f := by unfold pathV; rw [if_neg h]
theorem pathV_zero {P : List Fn} {f : Int} {zss : List (List Int)} (h : pathV P f zss = 0) : askV P f = 0 ∧ ∃ (m : Nat) (g : Fn), f = (m : Int) ∧ PathIn P m g zss := by
  by_cases hv : askV P f = 0
  · obtain ⟨hok, m, g, rfl, hg⟩ := askV_zero hv
    rw [pathV_ask hv hg] at h
    split at h
    · rename_i hc
      simp only [Bool.and_eq_true, decide_eq_true_eq] at hc
      have hrow := fun zs (hz : zs ∈ zss) => rowsB_get hc.2 hz
      have hs : ∀ zs ∈ zss, sizeN zss = headN zss := fun zs hz => by
        unfold sizeN
        rw [if_neg (by have := List.length_pos_of_mem hz; omega)]
      have hb : 1 ≤ sizeN zss ∧ sizeN zss ≤ 13 := by
        by_cases h0 : zss.length = 0
        · unfold sizeN; rw [if_pos h0]; omega
        · have hm : zss[0]'(by omega) ∈ zss := List.getElem_mem _
          have h1 := hrow _ hm
          have h2 := serB_true h1.1
          rw [hs _ hm, ← h1.2]
          omega
      exact ⟨hv, m, g, rfl, hok, fnIn hok hg, hc.1, hb.1, hb.2, fun zs hz => ⟨by rw [hs zs hz]; exact (hrow zs hz).2, (serB_true (hrow zs hz).1).2.2⟩⟩
    · exact absurd h (by decide)
  · rw [pathV_no hv] at h
    exact absurd h hv

theorem RowsAt.first {w : World} {A : Option Addr} {zss : List (List Int)} (h : RowsAt w A zss) (h0 : 0 < zss.length) : ∃ b o A0 cap0, A = some ⟨b, o, none⟩ ∧ w.cell? ⟨b, o, none⟩ = some (.slice A0 (headN zss) cap0) := by
  obtain ⟨b, o, zs, Ai, cap, e, _, hz, hc, _, _⟩ := h.at_ h0
  refine ⟨b, o, Ai, cap, e, ?_⟩
  have : headN zss = zs.length := by unfold headN; simp [List.getD, hz]
  rw [this]
  exact hc
theorem rowsB_not {zss : List (List Int)} {k : Nat} {zs : List Int} (hz : zss[k]? = some zs) (h : rowB (headN zss) zs = false) : rowsB zss = false := by
  unfold rowsB
  rw [List.all_eq_false]
  exact ⟨zs, List.mem_of_getElem? hz, by rw [h]; simp⟩
theorem rowsB_all {zss : List (List Int)} (h : ∀ j zs, j < zss.length → zss[j]? = some zs → rowB (headN zss) zs = true) : rowsB zss = true := by
  unfold rowsB
  rw [List.all_eq_true]
  intro zs hz
  obtain ⟨j, hj, rfl⟩ := List.getElem_of_mem hz
  exact h j _ hj (List.getElem?_eq_getElem hj)

set_option maxRecDepth 100000 in
set_option maxHeartbeats 2000000 in
theorem areArgs_any (A : Option Addr) (cap : Nat) (zss : List (List Int)) (c : Int) (w : World) (hA : RowsAt w A zss) (hl : zss.length ≤ 1048576) (ht : tot zss ≤ 1048576) :
    Calls Tryz.prog 60 #[.slice A zss.length cap, .int .i64 c] w fun e w' => e = .returned (.bool (decide ((zss.length : Int) = c) && rowsB zss)) ∧ w = w' := by
  have HA := Lib.hid hA; clear hA
  have HT := Lib.hid ht; clear ht
  obtain ⟨hn, hhn⟩ : ∃ h, h = headN zss := ⟨_, rfl⟩
  have HN := Lib.hid hhn; clear hhn
  go_enter Tryz.func60, Tryz.ntmps60
  go_wp2
  go_loop [9] (fun i => ∃ k : Nat, k ≤ zss.length ∧ i = .int .i64 (k : Int) ∧ Hid (∀ j zs, j < k → zss[j]? = some zs → rowB (headN zss) zs = true)) (fun i => zss.length - (intOf i).toNat)
  case atStart => exact ⟨0, by omega, by go_num, fun j zs h => absurd h (by omega)⟩
  case round =>
    obtain ⟨k, hk, rfl, HR⟩ := hrel
    by_cases hlt : k < zss.length
    · obtain ⟨b, o, zs, Ai, ca, rfl, hb, hz, hc, hi, hm⟩ := HA.out.at_ hlt
      obtain ⟨b', o', A0, ca0, e', hc0⟩ := HA.out.first (by omega)
      obtain ⟨rfl, rfl⟩ : b = b' ∧ o = o' := by simpa using e'
      rw [← HN.out] at hc0
      have hzl : zs.length ≤ 1048576 := Nat.le_trans (len_le_tot hz) HT.out
      have hkl : (k : Int) < (zss.length : Int) := by omega
      have hk0 : (0 : Int) < (zss.length : Int) := by omega
      have hk0n : 0 < zss.length := by omega
      obtain ⟨sb, hsb⟩ : ∃ s, s = serB zs := ⟨_, rfl⟩
      have HV : Hid (Calls Tryz.prog 84 #[.slice Ai zs.length ca] w fun e w' => e = .returned (.bool sb) ∧ w = w') := by
        show Calls _ _ _ _ _
        rw [hsb]
        exact validSeries_any Ai ca zs w hi (by omega)
      have HZ := Lib.hid hz
      have HSB := Lib.hid hsb
      clear e' hi hz hsb hm
      cases sb
      · have HF : Hid (rowsB zss = false) := rowsB_not HZ.out (by unfold rowB; rw [← HSB.out]; rfl)
        go_wp2_with (go_at_call 84; refine HV.out.mono ?_; rintro e w' ⟨rfl, rfl⟩)
        go_ret
        exact ⟨ret_bool (by rw [HF.out, Bool.and_false]), rfl⟩
      · by_cases he : zs.length = hn
        · have hne1 : ((zs.length : Int) == hn) = true := beq_iff_eq.2 (by omega)
          have hne2 : ((zs.length : Int) != hn) = false := by rw [bne, hne1]; rfl
          have HX : Hid (rowB (headN zss) zs = true) := by show _ = _; unfold rowB; rw [← HSB.out, ← HN.out]; simp [he]
          clear he
          go_wp2_with (go_at_call 84; refine HV.out.mono ?_; rintro e w' ⟨rfl, rfl⟩)
          go_round
          case rel =>
            refine ⟨k + 1, by omega, by go_num, fun j y hj hy => ?_⟩
            by_cases hjk : j = k
            · subst hjk
              rw [HZ.out] at hy
              obtain rfl : zs = y := by simpa using hy
              exact HX.out
            · exact HR.out j y (by omega) hy
          case measure => simp [intOf]; omega
        · have hne1 : ((zs.length : Int) == hn) = false := beq_eq_false_iff_ne.2 (by omega)
          have hne2 : ((zs.length : Int) != hn) = true := by rw [bne, hne1]; rfl
          have HF : Hid (rowsB zss = false) := rowsB_not HZ.out (by unfold rowB; rw [← HN.out]; simp [he])
          clear he
          go_wp2_with (go_at_call 84; refine HV.out.mono ?_; rintro e w' ⟨rfl, rfl⟩)
          go_ret
          exact ⟨ret_bool (by rw [HF.out, Bool.and_false]), rfl⟩
    · obtain rfl : k = zss.length := by omega
      have HF : Hid (rowsB zss = true) := rowsB_all HR.out
      go_wp2
      go_ret
      exact ⟨ret_bool (by rw [HF.out, Bool.and_true, Bool.beq_eq_decide_eq]), rfl⟩

set_option maxHeartbeats 1000000 in
theorem okSer_any (A : Option Addr) (cap : Nat) (zs : List Int) (w : World) (hA : Ints w A zs) (hl : zs.length ≤ 1048576) :
    Calls Tryz.prog 81 #[.slice A zs.length cap] w fun e w' => e = .returned (.bool (serB zs)) ∧ w' = w := by
  have HN := Lib.hid (numbersS_any A cap zs w hA (by omega))
  clear hA
  cases h : inR zs.length 1 13
  · have HE : Hid (serB zs = false) := by show _ = _; unfold serB; rw [h]; rfl
    rw [HE.out]
    have H := Lib.hid h; clear h
    go_enter Tryz.func81, Tryz.ntmps81
    go_wp2_with fail
    refine (in_any _ _ _ _).mono ?_; rintro e w' ⟨rfl, rfl⟩
    rw [H.out]
    go_wp2
    go_ret
    exact ⟨rfl, rfl⟩
  · have HE : Hid (serB zs = nums' zs) := by show _ = _; unfold serB; rw [h]; simp
    rw [HE.out]
    have H := Lib.hid h; clear h
    generalize nums' zs = q at *
    go_enter Tryz.func81, Tryz.ntmps81
    go_wp2_with fail
    refine (in_any _ _ _ _).mono ?_; rintro e w' ⟨rfl, rfl⟩
    rw [H.out]
    go_wp2_with fail
    refine HN.out.mono ?_; rintro e w' ⟨rfl, rfl⟩
    go_wp2
    go_ret
    exact ⟨rfl, rfl⟩

set_option maxRecDepth 100000 in
set_option maxHeartbeats 4000000 in
theorem pathS_any (P : List Fn) (f : Int) (A : Option Addr) (cap : Nat) (zss : List (List Int)) (bp op B : Nat) (w : World) (hP : PrAt w B P bp op) (hB : B ≤ w.heap.size) (hsz : fnSize P ≤ 1048576) (hA : RowsAt w A zss) (hl : zss.length ≤ 1048576) (ht : tot zss ≤ 1048576) :
    Calls Tryz.prog 56 #[ptr bp op, .int .i64 f, .slice A zss.length cap] w fun e w' => e = .returned (.int .i64 (pathV P f zss)) ∧ Below w.heap.size w w' := by
  have HC := Lib.hid (askedS_any P f bp op B w hP hB hsz)
  have HA := Lib.hid hA; clear hA
  have HT := Lib.hid ht; clear ht
  by_cases hv : askV P f = 0
  · obtain ⟨_, m, g, rfl, hg⟩ := askV_zero hv
    have HV : Hid (pathV P m zss = if (decide ((zss.length : Int) = g.params) && rowsB zss) = true then 0 else 2) := pathV_ask hv hg
    obtain ⟨hbp, PA, pcap, hp0, hPl, hPm, hFS⟩ := hP
    have hml : m < P.length := (List.getElem?_eq_some_iff.1 hg).1
    have hml2 : (m : Int) < (P.length : Int) := by omega
    have hPm' : pcap ≤ 9223372036854775807 := by unfold maxLen at hPm; omega
    obtain ⟨bP, oP, rfl, hbP, _, g1, _⟩ := hFS.get hg
    have hbpw : bp < w.heap.size := by omega
    have hbPw : bP < w.heap.size := by omega
    rw [hv] at HC
    rw [HV.out]
    clear hv hFS hg
    obtain ⟨gp, hgp⟩ : ∃ gp, gp = g.params := ⟨_, rfl⟩
    rw [← hgp] at g1 ⊢
    clear hgp
    by_cases he : (zss.length : Int) = gp
    · have HR : Hid ((if (decide ((zss.length : Int) = gp) && rowsB zss) = true then (0 : Int) else 2) = if rowsB zss = true then 0 else 2) := by show _ = _; simp [he]
      rw [HR.out]
      obtain ⟨VV, hVV⟩ : ∃ V : Int, V = if rowsB zss = true then 0 else 2 := ⟨_, rfl⟩
      rw [← hVV]
      have HVV := Lib.hid hVV; clear hVV
      have hne1 : ((zss.length : Int) == gp) = true := beq_iff_eq.2 he
      have hne2 : ((zss.length : Int) != gp) = false := by rw [bne, hne1]; rfl
      clear he
      obtain ⟨hn, hhn⟩ : ∃ h, h = headN zss := ⟨_, rfl⟩
      have HN := Lib.hid hhn; clear hhn
      go_enter Tryz.func56, Tryz.ntmps56
      go_wp2_with fail
      refine HC.out.mono ?_; rintro e w1 ⟨rfl, hb1⟩
      have p1 : w1.cell? ⟨bp, op, none⟩ = some (.slice (some ⟨bP, oP, none⟩) P.length pcap) := (hb1.cell (p := ⟨bp, op, none⟩) hbpw).trans hp0
      have p2 : w1.cell? ⟨bP, oP + m * 3 + 1, none⟩ = some (.int .i64 gp) := (hb1.cell (p := ⟨bP, oP + m * 3 + 1, none⟩) hbPw).trans g1
      have HB := Lib.hid hb1
      clear hb1 HC
      go_wp2
      go_loopw [8] (fun i wr => ∃ (k : Nat), k ≤ zss.length ∧ i = .int .i64 (k : Int) ∧ Hid (Below w.heap.size w wr) ∧ Hid (∀ j zs, j < k → zss[j]? = some zs → rowB (headN zss) zs = true)) (fun i _ => zss.length - (intOf i).toNat)
      case atStart => exact ⟨0, by omega, by go_num, HB.out, fun j zs h => absurd h (by omega)⟩
      case round =>
        obtain ⟨k, hk, rfl, HBR, HRR⟩ := hrel
        by_cases hlt : k < zss.length
        · have hbd : Below w.heap.size w wr := HBR.out
          obtain ⟨b, o, zs, Ai, ca, rfl, hb, hz, hc, hi, hm⟩ := (HA.out.below hbd).at_ hlt
          obtain ⟨b', o', A0, ca0, e', hc0⟩ := (HA.out.below hbd).first (by omega)
          obtain ⟨rfl, rfl⟩ : b = b' ∧ o = o' := by simpa using e'
          rw [← HN.out] at hc0
          have hzl : zs.length ≤ 1048576 := Nat.le_trans (len_le_tot hz) HT.out
          have hkl : (k : Int) < (zss.length : Int) := by omega
          have hk0 : (0 : Int) < (zss.length : Int) := by omega
          have hk0n : 0 < zss.length := by omega
          obtain ⟨sb, hsb⟩ : ∃ s, s = serB zs := ⟨_, rfl⟩
          have HVS : Hid (∀ n', Calls Tryz.prog 81 #[.slice Ai zs.length ca] (wr.drewN n') fun e w' => e = .returned (.bool sb) ∧ w' = wr.drewN n') := fun n' => by
            rw [hsb]
            exact okSer_any Ai ca zs _ (hi.drewN n') hzl
          have HZ := Lib.hid hz
          have HSB := Lib.hid hsb
          clear e' hi hz hsb hm hbd
          cases sb
          · have HF : Hid (rowsB zss = false) := rowsB_not HZ.out (by unfold rowB; rw [← HSB.out]; rfl)
            go_wp2
            go_quiet ((go_at_call 81; exact Calls.quiet_of_same (HVS.out _)))
            go_wp2
            go_ret
            exact ⟨ret_int (by rw [HVV.out, HF.out]; rfl), by first | exact HBR.out | exact below_drewN' HBR.out _⟩
          · by_cases he : zs.length = hn
            · have hme1 : ((zs.length : Int) == hn) = true := beq_iff_eq.2 (by omega)
              have hme2 : ((zs.length : Int) != hn) = false := by rw [bne, hme1]; rfl
              have HX : Hid (rowB (headN zss) zs = true) := by show _ = _; unfold rowB; rw [← HSB.out, ← HN.out]; simp [he]
              clear he
              go_wp2
              go_quiet ((go_at_call 81; exact Calls.quiet_of_same (HVS.out _)))
              go_wp2
              go_roundw
              case rel =>
                refine ⟨k + 1, by omega, by go_num, below_drewN' HBR.out _, fun j y hj hy => ?_⟩
                by_cases hjk : j = k
                · subst hjk
                  rw [HZ.out] at hy
                  obtain rfl : zs = y := by simpa using hy
                  exact HX.out
                · exact HRR.out j y (by omega) hy
              case measure => simp [intOf]; omega
            · have hme1 : ((zs.length : Int) == hn) = false := beq_eq_false_iff_ne.2 (by omega)
              have hme2 : ((zs.length : Int) != hn) = true := by rw [bne, hme1]; rfl
              have HF : Hid (rowsB zss = false) := rowsB_not HZ.out (by unfold rowB; rw [← HN.out]; simp [he])
              clear he
              go_wp2
              go_quiet ((go_at_call 81; exact Calls.quiet_of_same (HVS.out _)))
              go_wp2
              go_ret
              exact ⟨ret_int (by rw [HVV.out, HF.out]; rfl), by first | exact HBR.out | exact below_drewN' HBR.out _⟩
        · obtain rfl : k = zss.length := by omega
          have HF : Hid (rowsB zss = true) := rowsB_all HRR.out
          go_wp2
          go_ret
          exact ⟨ret_int (by rw [HVV.out, HF.out]; rfl), by first | exact HBR.out | exact below_drewN' HBR.out _⟩
    · have HR : Hid ((if (decide ((zss.length : Int) = gp) && rowsB zss) = true then (0 : Int) else 2) = 2) := by show _ = _; simp [he]
      rw [HR.out]
      have hne1 : ((zss.length : Int) == gp) = false := beq_eq_false_iff_ne.2 he
      have hne2 : ((zss.length : Int) != gp) = true := by rw [bne, hne1]; rfl
      clear he
      go_enter Tryz.func56, Tryz.ntmps56
      go_wp2_with fail
      refine HC.out.mono ?_; rintro e w1 ⟨rfl, hb1⟩
      have p1 : w1.cell? ⟨bp, op, none⟩ = some (.slice (some ⟨bP, oP, none⟩) P.length pcap) := (hb1.cell (p := ⟨bp, op, none⟩) hbpw).trans hp0
      have p2 : w1.cell? ⟨bP, oP + m * 3 + 1, none⟩ = some (.int .i64 gp) := (hb1.cell (p := ⟨bP, oP + m * 3 + 1, none⟩) hbPw).trans g1
      have HB := Lib.hid hb1
      clear hb1 HC
      go_wp2
      go_ret
      exact ⟨rfl, HB.out⟩
  · rw [pathV_no hv]
    generalize askV P f = V at *
    have hv1 : (V == 0) = false := by simpa using hv
    go_enter Tryz.func56, Tryz.ntmps56
    go_wp2_with fail
    refine HC.out.mono ?_; rintro e w1 ⟨rfl, hb1⟩
    go_wp2
    go_ret
    exact ⟨rfl, hb1⟩

end Go.Proofs.YtjohkheclglpjaaGreat

/- Walks: EvaluateSeries of the spec and of the program. -/
namespace Go.Proofs.YtjohkheclglpjaaGreat
open Go.RowKit Plain

/-- what EvaluateSeries answers -/
def evsV (P : List Fn) (f : Int) (zss : List (List Int)) : List (List Int) × Int :=
  if pathV P f zss = 0 then (match P[f.toNat]? with
    | none => ([], 0)
    | some g => tayRes (evalR (sizeN zss) P g.outs zss))
  else ([], pathV P f zss)

set_option maxHeartbeats 400000 in
theorem orderOf_any (A : Option Addr) (cap : Nat) (zss : List (List Int)) (w : World) (hA : RowsAt w A zss) (hl : zss.length ≤ 1048576) (h13 : sizeN zss ≤ 13) :
    Calls Tryz.prog 62 #[.slice A zss.length cap] w fun e w' => e = .returned (.int .i64 ((sizeN zss : Int) - 1)) ∧ w = w' := by
  by_cases h0 : zss.length = 0
  · have HS : Hid ((sizeN zss : Int) - 1 = 0) := by show _ = _; unfold sizeN; rw [if_pos h0]; rfl
    rw [HS.out]
    have hne1 : ((zss.length : Int) == 0) = true := beq_iff_eq.2 (by omega)
    have H0 := Lib.hid h0; clear h0
    go_enter Tryz.func62, Tryz.ntmps62
    go_wp2
    go_ret
    exact ⟨rfl, rfl⟩
  · have hs : sizeN zss = headN zss := by unfold sizeN; rw [if_neg h0]
    rw [hs] at h13 ⊢
    clear hs
    obtain ⟨b, o, A0, ca0, rfl, hc0⟩ := hA.first (by omega)
    have hne1 : ((zss.length : Int) == 0) = false := beq_eq_false_iff_ne.2 (by omega)
    have hk0 : (0 : Int) < (zss.length : Int) := by omega
    have hk0n : 0 < zss.length := by omega
    generalize headN zss = hn at *
    clear hA h0
    go_enter Tryz.func62, Tryz.ntmps62
    go_wp2
    go_ret
    exact ⟨rfl, rfl⟩
set_option maxHeartbeats 400000 in
theorem sizeS_any (A : Option Addr) (cap : Nat) (zss : List (List Int)) (w : World) (hA : RowsAt w A zss) (hl : zss.length ≤ 1048576) (_h13 : sizeN zss ≤ 13) :
    Calls Tryz.prog 58 #[.slice A zss.length cap] w fun e w' => e = .returned (.int .i64 (sizeN zss : Int)) ∧ w = w' := by
  by_cases h0 : zss.length = 0
  · have HS : Hid ((sizeN zss : Int) = 1) := by show _ = _; unfold sizeN; rw [if_pos h0]; rfl
    rw [HS.out]
    have hne1 : ((zss.length : Int) == 0) = true := beq_iff_eq.2 (by omega)
    have H0 := Lib.hid h0; clear h0
    go_enter Tryz.func58, Tryz.ntmps58
    go_wp2
    go_ret
    exact ⟨rfl, rfl⟩
  · have hs : sizeN zss = headN zss := by unfold sizeN; rw [if_neg h0]
    rw [hs]
    clear hs
    obtain ⟨b, o, A0, ca0, rfl, hc0⟩ := hA.first (by omega)
    have hne1 : ((zss.length : Int) == 0) = false := beq_eq_false_iff_ne.2 (by omega)
    have hk0 : (0 : Int) < (zss.length : Int) := by omega
    have hk0n : 0 < zss.length := by omega
    generalize headN zss = hn at *
    clear hA h0
    go_enter Tryz.func58, Tryz.ntmps58
    go_wp2
    go_ret
    exact ⟨rfl, rfl⟩

theorem RowsIn.lens {w : World} {A : Option Addr} {zss : List (List Int)} (h : RowsIn w A zss) : zss.length ≤ 1048576 ∧ tot zss ≤ 1048576 := by
  have := h.sz
  unfold ssSize at this
  omega

set_option maxHeartbeats 2000000 in
theorem evSeriesS (P : List Fn) (f : Int) (zss : List (List Int)) {PA : Option Addr} {pcap : Nat} {A : Option Addr} (w : World) (hP : ProgIn w P PA pcap) (hA : RowsIn w A zss) :
    Calls Tryz.prog 29 #[prV PA P.length pcap, .int .i64 f, .slice A zss.length zss.length] w (RetSi (evsV P f zss).1 (evsV P f zss).2 w) := by
  obtain ⟨hPr, hg⟩ := prBoxAt hP 31
  have hzl := hA.lens.1
  have hzt := hA.lens.2
  have HC := Lib.hid (pathS_any P f A zss.length zss w.heap.size 0 (w.heap.size + 1) _ hPr (by simp) hP.sz (hA.rows.below hg) hzl hzt)
  have HG := Lib.hid hg
  by_cases hv : pathV P f zss = 0
  · obtain ⟨_, m, g, rfl, hin⟩ := pathV_zero hv
    rw [hv] at HC
    have HV : Hid (evsV P m zss = tayRes (evalR (sizeN zss) P g.outs zss)) := by
      show _ = _
      unfold evsV
      rw [if_pos hv]
      simp only [Int.toNat_natCast, hin.fn.fn]
    have hn1 := hin.n1
    have HT : Hid (∀ wx, Below (w.heap.size + 1) (w.alloc (.cells #[.slice PA P.length pcap] 31)) wx → Calls Tryz.prog 57 #[ptr w.heap.size 0, .int .i64 m, .slice A zss.length zss.length, .int .i64 (sizeN zss : Int)] wx (RowsPost (sizeN zss) (evalR (sizeN zss) P g.outs zss) wx)) := fun wx hx =>
      l03EvalS_any P m g (sizeN zss) A zss.length w.heap.size zss w.heap.size 0 (w.heap.size + 1) wx (hPr.below hx) (by have := hx.size; simp at this; omega) hin.ok hin.fn
        ((hA.env (sizeN zss) w.heap.size (Nat.le_refl _) hin.rows).only (Only.of_below (hg.trans (hx.mono (by omega))))) hin.len (Nat.le_refl _) (by unfold maxLen; omega) hin.n0 hin.n1
    have HS : Hid (∀ wx, Below w.heap.size w wx → Calls Tryz.prog 58 #[.slice A zss.length zss.length] wx fun e w' => e = .returned (.int .i64 (sizeN zss : Int)) ∧ wx = w') := fun wx hx =>
      sizeS_any A zss.length zss wx (hA.rows.below hx) hzl hn1
    rw [HV.out]
    clear hv hPr hP hA hg hin
    generalize evalR (sizeN zss) P g.outs zss = R at *
    generalize sizeN zss = n at *
    go_enter Tryz.func29, Tryz.ntmps29
    go_wp2_with fail
    refine HC.out.mono ?_; rintro e w1 ⟨rfl, hb1⟩
    have HB := Lib.hid hb1
    have HB1 := Lib.hid (HG.out.trans (hb1.mono HG.out.size))
    clear hb1
    go_wp2_with fail
    refine (HS.out _ HB1.out).mono ?_; rintro e w' ⟨rfl, rfl⟩
    go_wp2_with fail
    refine (HT.out _ (HB.out.mono (by simp))).mono ?_; rintro e w2 hp
    have hp2 := Lib.hid (RowsPost.si HB1.out hp)
    cases R with
    | err c =>
      obtain ⟨_, A', cp', rfl⟩ := hp
      go_wp2
      go_ret2
      exact hp2.out
    | ok zs t =>
      obtain ⟨_, A', cp', rfl, _⟩ := hp
      go_wp2
      go_ret2
      exact hp2.out
  · have HV : Hid (evsV P f zss = ([], pathV P f zss)) := by show _ = _; unfold evsV; rw [if_neg hv]
    rw [HV.out]
    generalize pathV P f zss = V at *
    have hv1 : (V == 0) = false := by simpa using hv
    clear hPr hP hA hg
    go_enter Tryz.func29, Tryz.ntmps29
    go_wp2_with fail
    refine HC.out.mono ?_; rintro e w1 ⟨rfl, hb1⟩
    have HB := Lib.hid hb1
    clear hb1
    go_wp2
    go_ret2
    have hb := HG.out.trans (HB.out.mono HG.out.size)
    have hb2 := hb.trans ((show Below w1.heap.size w1 (w1.alloc (.cells #[] 25)) by go_grown).mono hb.size)
    exact ⟨hb2, _, _, rfl, rowsNil hb2.size⟩

/-- evaluated, with the code alone -/
theorem EvalPost.si {n : Nat} {R : Res (List (List Int))} {w w1 w2 : World} {v c : Value} {s : Value} (hb : Below w.heap.size w w1) (h : EvalPost n R w1 (.returned (.tuple #[v, s, c])) w2) : RetSi (tayRes R).1 (tayRes R).2 w (.returned (.tuple #[v, c])) w2 := by
  obtain ⟨hb2, h⟩ := h
  have hbb := bnext hb hb2
  cases R with
  | err c' =>
    simp at h
    obtain ⟨rfl, rfl, rfl⟩ := h
    exact ⟨hbb, none, 0, rfl, rowsNil hbb.size⟩
  | ok zss t =>
    obtain ⟨A, cp, he, hN⟩ := h
    simp at he
    obtain ⟨rfl, rfl, rfl⟩ := he
    exact ⟨hbb, A, cp, rfl, rowsAfter hb hN hb2⟩

set_option maxRecDepth 100000 in
set_option maxHeartbeats 4000000 in
theorem evSeriesI (P : List Fn) (f : Int) (zss : List (List Int)) {PA : Option Addr} {pcap : Nat} {A : Option Addr} (w : World) (hP : ProgIn w P PA pcap) (hA : RowsIn w A zss) :
    Calls Tryz.prog 31 #[prV PA P.length pcap, .int .i64 f, .slice A zss.length zss.length] w (RetSi (evsV P f zss).1 (evsV P f zss).2 w) := by
  have hpm : pcap ≤ 9223372036854775807 := by have := hP.pm; unfold maxLen at this; omega
  have hAsk : Hid (∀ wx, Below w.heap.size w wx → Calls Tryz.prog 59 #[prV PA P.length pcap, .int .i64 f] wx fun e w' => e = .returned (.int .i64 (askV P f)) ∧ Below wx.heap.size wx w') := fun wx hx =>
    isFunc_any P f w.heap.size PA pcap wx (hP.fns.below hx) hP.pl hP.pm hx.size hP.sz
  have hzl := hA.lens.1
  have hzt := hA.lens.2
  have HP := Lib.hid hP
  have HA := Lib.hid hA
  by_cases hv : askV P f = 0
  · obtain ⟨hok, m, g, rfl, hg⟩ := askV_zero hv
    have hag := pathV_ask (zss := zss) hv hg
    have hml : m < P.length := (List.getElem?_eq_some_iff.1 hg).1
    have hml2 : (m : Int) < (P.length : Int) := by omega
    have hNum : Hid (∀ wx, Below w.heap.size w wx → Calls Tryz.prog 60 #[.slice A zss.length zss.length, .int .i64 g.params] wx fun e w' => e = .returned (.bool (decide ((zss.length : Int) = g.params) && rowsB zss)) ∧ wx = w') := fun wx hx =>
      areArgs_any A zss.length zss g.params wx (HA.out.rows.below hx) hzl hzt
    have HG := Lib.hid hg
    obtain ⟨bP, oP, rfl, hbP, _⟩ := hP.fns.get hg
    rw [hv] at hAsk
    cases hq : (decide ((zss.length : Int) = g.params) && rowsB zss)
    · rw [hq] at hag hNum
      have HV : Hid (evsV P m zss = ([], 2)) := by
        show _ = _
        unfold evsV
        rw [hag]
        rfl
      rw [HV.out]
      clear hq hag hg hv hP hA hok
      go_enter Tryz.func31, Tryz.ntmps31
      go_wp2_with fail
      refine (hAsk.out _ (by go_grown)).mono ?_; rintro e w1 ⟨rfl, hb1⟩
      obtain ⟨q1, q2⟩ := prBox (C := [Value.slice (some ⟨bP, oP, none⟩) P.length pcap]) hb1
      have Q2 := Lib.hid q2
      have a0 : w1.cell? ⟨w.heap.size, 0, none⟩ = some (.slice (some ⟨bP, oP, none⟩) P.length pcap) := by rw [q1.cell]; rfl
      obtain ⟨bP', oP', e', hbP2, _, g1, _⟩ := (HP.out.fns.below Q2.out).get HG.out
      obtain ⟨rfl, rfl⟩ : bP = bP' ∧ oP = oP' := by simpa using e'
      clear e' q1 q2 hb1
      go_wp2_with (go_at_call 60; refine (hNum.out _ Q2.out).mono ?_; rintro e w' ⟨rfl, rfl⟩)
      go_ret2
      exact ⟨Q2.out, _, _, rfl, rowsNil Q2.out.size⟩
    · rw [hq] at hag hNum
      rw [if_pos rfl] at hag
      obtain ⟨m', g', hm', hin⟩ := (pathV_zero hag).2
      obtain rfl : m = m' := by omega
      obtain rfl : g = g' := by have := hin.fn.fn; rw [hg] at this; simpa using this
      have HIN := Lib.hid hin
      have hn1 := hin.n1
      obtain ⟨oo, hoo⟩ : ∃ o : Int, o = (sizeN zss : Int) - 1 := ⟨_, rfl⟩
      have HOF : Hid (∀ wx, Below w.heap.size w wx → Calls Tryz.prog 62 #[.slice A zss.length zss.length] wx fun e w' => e = .returned (.int .i64 oo) ∧ wx = w') := fun wx hx => by
        rw [hoo]
        exact orderOf_any A zss.length zss wx (HA.out.rows.below hx) hzl hn1
      have HEV : Hid (∀ wx, Below w.heap.size w wx → Calls Tryz.prog 61 #[prV (some ⟨bP, oP, none⟩) P.length pcap, .int .i64 m, .slice A zss.length zss.length, .int .i64 oo] wx (EvalPost (sizeN zss) (evalR (sizeN zss) P g.outs zss) wx)) := fun wx hx => by
        rw [hoo]
        exact evaluated_any P m g (sizeN zss) A zss.length w.heap.size zss w.heap.size (some ⟨bP, oP, none⟩) pcap wx (HP.out.fns.below hx) HP.out.pl HP.out.pm hx.size HIN.out.ok HIN.out.fn
          ((HA.out.env (sizeN zss) w.heap.size (Nat.le_refl _) HIN.out.rows).only (Only.of_below hx)) HIN.out.len (Nat.le_refl _) (by unfold maxLen; omega) HIN.out.n0 HIN.out.n1
      have HV : Hid (evsV P m zss = tayRes (evalR (sizeN zss) P g.outs zss)) := by
        show _ = _
        unfold evsV
        rw [if_pos hag]
        simp only [Int.toNat_natCast, hg]
      rw [HV.out]
      clear hq hag hg hv hP hA hok hin hm' hoo
      generalize evalR (sizeN zss) P g.outs zss = R at *
      generalize sizeN zss = n at *
      cases R with
      | err c =>
        go_enter Tryz.func31, Tryz.ntmps31
        go_wp2_with fail
        refine (hAsk.out _ (by go_grown)).mono ?_; rintro e w1 ⟨rfl, hb1⟩
        obtain ⟨q1, q2⟩ := prBox (C := [Value.slice (some ⟨bP, oP, none⟩) P.length pcap]) hb1
        have Q2 := Lib.hid q2
        have a0 : w1.cell? ⟨w.heap.size, 0, none⟩ = some (.slice (some ⟨bP, oP, none⟩) P.length pcap) := by rw [q1.cell]; rfl
        obtain ⟨bP', oP', e', hbP2, _, g1, _⟩ := (HP.out.fns.below Q2.out).get HG.out
        obtain ⟨rfl, rfl⟩ : bP = bP' ∧ oP = oP' := by simpa using e'
        clear e' q1 q2 hb1
        go_wp2_with (go_at_call 60; refine (hNum.out _ Q2.out).mono ?_; rintro e w' ⟨rfl, rfl⟩)
        have A0 := Lib.hid a0
        have HQ : Hid (∀ wx, Below w1.heap.size w1 wx → Below w.heap.size w wx) := fun wx hx => bnext Q2.out hx
        go_region_held3 (fun wx => wx.cell? ⟨w.heap.size, 0, none⟩ = some (.slice (some ⟨bP, oP, none⟩) P.length pcap))
          (first | exact A0.out | go_keep | exact keepC A0.out hb3)
          (first
            | (go_at_call 62; refine (HOF.out _ (HQ.out _ (by first | exact (Below.refl _ _).drew | exact below_drewN' (Below.refl _ _) _ | exact Below.refl _ _))).mono ?_; rintro e w' ⟨rfl, rfl⟩)
            | (go_at_call 61; refine (HEV.out _ (HQ.out _ (by first | exact (Below.refl _ _).drew | exact below_drewN' (Below.refl _ _) _ | exact Below.refl _ _))).mono ?_; rintro e w3 ⟨hb3', rfl⟩; have hb3 : Below w1.heap.size w1 w3 := by first | exact bdrew hb3' | exact bdrewN hb3' | exact hb3'))
        have HPF := Lib.hid (HQ.out _ hb3)
        clear hb3' hb3 a0 g1
        go_wp2
        go_ret2
        exact ⟨HPF.out, none, 0, rfl, rowsNil HPF.out.size⟩
      | ok zs t =>
        go_enter Tryz.func31, Tryz.ntmps31
        go_wp2_with fail
        refine (hAsk.out _ (by go_grown)).mono ?_; rintro e w1 ⟨rfl, hb1⟩
        obtain ⟨q1, q2⟩ := prBox (C := [Value.slice (some ⟨bP, oP, none⟩) P.length pcap]) hb1
        have Q2 := Lib.hid q2
        have a0 : w1.cell? ⟨w.heap.size, 0, none⟩ = some (.slice (some ⟨bP, oP, none⟩) P.length pcap) := by rw [q1.cell]; rfl
        obtain ⟨bP', oP', e', hbP2, _, g1, _⟩ := (HP.out.fns.below Q2.out).get HG.out
        obtain ⟨rfl, rfl⟩ : bP = bP' ∧ oP = oP' := by simpa using e'
        clear e' q1 q2 hb1
        go_wp2_with (go_at_call 60; refine (hNum.out _ Q2.out).mono ?_; rintro e w' ⟨rfl, rfl⟩)
        have A0 := Lib.hid a0
        have HQ : Hid (∀ wx, Below w1.heap.size w1 wx → Below w.heap.size w wx) := fun wx hx => bnext Q2.out hx
        go_region_held3 (fun wx => wx.cell? ⟨w.heap.size, 0, none⟩ = some (.slice (some ⟨bP, oP, none⟩) P.length pcap))
          (first | exact A0.out | go_keep | exact keepC A0.out hb3)
          (first
            | (go_at_call 62; refine (HOF.out _ (HQ.out _ (by first | exact (Below.refl _ _).drew | exact below_drewN' (Below.refl _ _) _ | exact Below.refl _ _))).mono ?_; rintro e w' ⟨rfl, rfl⟩)
            | (go_at_call 61; refine (HEV.out _ (HQ.out _ (by first | exact (Below.refl _ _).drew | exact below_drewN' (Below.refl _ _) _ | exact Below.refl _ _))).mono ?_; rintro e w3 ⟨hb3', Ao, cpo, rfl, hNew⟩; have hb3 : Below w1.heap.size w1 w3 := by first | exact bdrew hb3' | exact bdrewN hb3' | exact hb3'))
        have HPF := Lib.hid (HQ.out _ hb3)
        have HNW : Hid (NewRows w3 w1.heap.size n (.slice Ao zs.length cpo) zs) := hNew
        have HB3 := Lib.hid hb3
        clear hb3' hb3 a0 g1 hNew
        go_wp2
        go_ret2
        exact ⟨HPF.out, Ao, cpo, rfl, rowsAfter Q2.out HNW.out HB3.out⟩
  · have HV : Hid (evsV P f zss = ([], askV P f)) := by
      show _ = _
      have h1 := pathV_no (zss := zss) hv
      unfold evsV
      rw [h1, if_neg hv]
    rw [HV.out]
    generalize askV P f = V at *
    have hv1 : (V == 0) = false := by simpa using hv
    go_enter Tryz.func31, Tryz.ntmps31
    go_wp2_with fail
    refine (hAsk.out _ (by go_grown)).mono ?_; rintro e w1 ⟨rfl, hb1⟩
    have Q2 := Lib.hid (prBox (C := [Value.slice PA P.length pcap]) hb1).2
    clear hb1
    go_wp2
    go_ret2
    exact ⟨Q2.out, _, _, rfl, rowsNil Q2.out.size⟩

theorem evsV_of (P : List Fn) (f : Int) (zss : List (List Int)) : (evsV P f zss).1 = [] ∨ ((evsV P f zss).1.length ≤ 12 ∧ ∀ z ∈ (evsV P f zss).1, z.length ≤ 13) := by
  unfold evsV
  split
  · rename_i h
    obtain ⟨_, m, g, rfl, hin⟩ := pathV_zero h
    simp only [Int.toNat_natCast, hin.fn.fn]
    cases hr : evalR (sizeN zss) P g.outs zss with
    | err c => exact .inl rfl
    | ok zs t =>
      have h1 := evalR_len hr
      have h2 := hin.fn.o12
      have h3 := evalR_rows (fun a ha => by rw [(hin.rows a ha).1]; exact Nat.le_refl _) hr
      exact .inr ⟨by show zs.length ≤ 12; omega, fun z hz => Nat.le_trans (h3 z hz) hin.n1⟩
  · exact .inl rfl
theorem evsV_len (P : List Fn) (f : Int) (zss : List (List Int)) : (evsV P f zss).1.length ≤ 4194304 := by
  rcases evsV_of P f zss with h | ⟨h, _⟩
  · rw [h]; simp
  · omega
theorem evsV_tot (P : List Fn) (f : Int) (zss : List (List Int)) : tot (evsV P f zss).1 ≤ 4194304 := by
  rcases evsV_of P f zss with h | ⟨h, hz⟩
  · rw [h]; simp [tot]
  · have h1 := tot_le hz
    have : (evsV P f zss).1.length * 13 ≤ 12 * 13 := Nat.mul_le_mul h (Nat.le_refl _)
    omega

end Go.Proofs.YtjohkheclglpjaaGreat
