/- Texts put together: WHigh, PSlope. -/
import Derived.Test.YtlnikpjcggfdmaaKR

/- Walks: coefficients, factorials, HigherDerivative of the spec and of the program. -/
namespace Go.Proofs.Ytlnikpjcggfdmaa
open Go.RowKit Plain

/-- the product of the numbers from 1 to n -/
def facN : Nat → Int
  | 0 => 1
  | k + 1 => tm (facN k) ((k : Int) + 1)
theorem facN_bd (k : Nat) : 0 ≤ facN k ∧ facN k ≤ 1000002 := by
  cases k with
  | zero => simp [facN]
  | succ k => exact tm_bd _ _
theorem facN_one : facN 1 = 1 := rfl

set_option maxHeartbeats 1000000 in
theorem factorialI (q : Nat) (w : World) (hq : q ≤ 12) : Calls Try.prog 48 #[.int .i64 q] w fun e w' => e = .returned (.int .i64 (facN q)) ∧ w = w' := by
  go_enter Try.func48, Try.ntmps48
  go_wp2
  go_loop [3, 4] (fun o k => ∃ j : Nat, 1 ≤ j ∧ (j ≤ q ∨ j = 1) ∧ k = .int .i64 ((j : Int) + 1) ∧ o = .int .i64 (facN j)) (fun _ k => (q + 2) - (intOf k).toNat)
  case atStart => exact ⟨1, by omega, .inr rfl, rfl, rfl⟩
  case round =>
    obtain ⟨j, hj, hjq, rfl, rfl⟩ := hrel
    have hb := facN_bd j
    have hj12 : j ≤ 12 := by omega
    by_cases hlt : j + 1 ≤ q
    · have hltI : (j : Int) + 1 ≤ (q : Int) := by omega
      obtain ⟨m0, m1⟩ := mul_bd hb.1 hb.2 (show (0 : Int) ≤ (j : Int) + 1 by omega) (show (j : Int) + 1 ≤ 1000002 by omega)
      have HX : Hid (facN (j + 1) = (facN j * ((j : Int) + 1)) % 1000003) := rfl
      generalize facN j = x at *
      go_wp2
      go_round
      case rel => exact ⟨j + 1, by omega, .inl hlt, by go_num, by rw [HX.out]⟩
      case measure => simp [intOf]; omega
    · have hge : ¬ (j : Int) + 1 ≤ (q : Int) := by omega
      have HX : Hid (facN j = facN q) := by
        show _ = _
        rcases hjq with h | h
        · rw [show j = q by omega]
        · subst h
          rcases (show q = 0 ∨ q = 1 by omega) with rfl | rfl <;> rfl
      go_wp2
      go_ret
      exact ⟨ret_int HX.out, rfl⟩
set_option maxHeartbeats 1000000 in
theorem factorialS (q : Nat) (w : World) (hq : q ≤ 12) : Calls Try.prog 44 #[.int .i64 q] w fun e w' => e = .returned (.int .i64 (facN q)) ∧ w' = w := by
  go_enter Try.func44, Try.ntmps44
  go_wp2
  go_loop [3, 4] (fun o k => ∃ j : Nat, 1 ≤ j ∧ (j ≤ q ∨ j = 1) ∧ k = .int .i64 ((j : Int) + 1) ∧ o = .int .i64 (facN j)) (fun _ k => (q + 2) - (intOf k).toNat)
  case atStart => exact ⟨1, by omega, .inr rfl, rfl, rfl⟩
  case round =>
    obtain ⟨j, hj, hjq, rfl, rfl⟩ := hrel
    have hj12 : j ≤ 12 := by omega
    by_cases hlt : j + 1 ≤ q
    · have hltI : (j : Int) + 1 ≤ (q : Int) := by omega
      have HX : Hid (facN (j + 1) = tm (facN j) ((j : Int) + 1)) := rfl
      generalize facN j = x at *
      go_wp2_with fail
      refine (timesS_any _ _ _).mono ?_; rintro e w' ⟨rfl, rfl⟩
      generalize tm x ((j : Int) + 1) = y at *
      go_wp2
      go_round
      case rel => exact ⟨j + 1, by omega, .inl hlt, by go_num, by rw [HX.out]⟩
      case measure => simp [intOf]; omega
    · have hge : ¬ (j : Int) + 1 ≤ (q : Int) := by omega
      have HX : Hid (facN j = facN q) := by
        show _ = _
        rcases hjq with h | h
        · rw [show j = q by omega]
        · subst h
          rcases (show q = 0 ∨ q = 1 by omega) with rfl | rfl <;> rfl
      go_wp2
      go_ret
      exact ⟨ret_int HX.out, rfl⟩

/-- one coefficient -/
def coRes (R : Res (List (List Int))) (pk k : Nat) : Int × Int :=
  match R with
  | .err c => (0, c)
  | .ok zss _ => (cf (zss.getD pk []) k, 0)
theorem RowV.num_ {w : World} {bv n k : Nat} {v : Value} {zs : List Int} (h : RowV w bv n v zs) (hk : k < n) : ∃ b o cap, v = .slice (some ⟨b, o, none⟩) n cap ∧ b < w.heap.size ∧ w.cell? ⟨b, o + k, none⟩ = some (.int .i64 (cf zs k)) := by
  obtain ⟨A, cap, rfl, hl, hi, hs⟩ := h
  obtain ⟨b, o, rfl, hb, _, _, hc⟩ := hi (by omega)
  exact ⟨b, o, cap, rfl, hb, hc k _ (cf_some (by omega))⟩
/-- a number of new rows -/
theorem newAt {w : World} {B n cp pk k : Nat} {A : Option Addr} {zss : List (List Int)} (h : NewRows w B n (.slice A zss.length cp) zss) (h0 : 0 < B) (hp : pk < zss.length) (hk : k < n) :
    ∃ b o b' o' cap, A = some ⟨b, o, none⟩ ∧ w.cell? ⟨b, o + pk, none⟩ = some (.slice (some ⟨b', o', none⟩) n cap) ∧ w.cell? ⟨b', o' + k, none⟩ = some (.int .i64 (cf (zss.getD pk []) k)) ∧ 0 ≤ cf (zss.getD pk []) k ∧ cf (zss.getD pk []) k ≤ 1000002 := by
  obtain ⟨b, o, A', cap, e, _, _, hc, hz⟩ := (h.env (bv := 0) h0).sat hp
  obtain ⟨b3, o3, c3, hv3, hb3, hc3⟩ := RowV.num_ (k := k) (w := w) (bv := 0) (n := n) (v := .slice A' n cap) (zs := zss.getD pk []) ⟨A', cap, rfl, hz.len, hz.isAt, hz.isS⟩ hk
  obtain ⟨rfl, rfl⟩ : A' = some ⟨b3, o3, none⟩ ∧ cap = c3 := by simpa using hv3
  exact ⟨b, o, b3, o3, cap, e, hc, hc3, hz.isS k⟩

set_option maxRecDepth 100000 in
set_option maxHeartbeats 2000000 in
theorem coefI (P : List Fn) (m : Nat) (g : Fn) (q pk : Nat) (PA : Option Addr) (pcap : Nat) (A D : Option Addr) (cap dcap : Nat) (zs ds : List Int) (w : World) (hP : ProgIn w P PA pcap) (hin : ArgIn P m g zs) (hA : Ints w A zs) (hD : Ints w D ds) (hd : IsS ds) (hl : ds.length = zs.length) (hq : q ≤ 12) (hpk : pk < g.outs.len) :
    Calls Try.prog 47 #[prV PA P.length pcap, .int .i64 m, .int .i64 pk, .slice A zs.length cap, .slice D ds.length dcap, .int .i64 q] w fun e w' => Below w.heap.size w w' ∧ e = .returned (.tuple #[.int .i64 (coRes (tayR (q + 1) P g.outs zs ds) pk q).1, .int .i64 (coRes (tayR (q + 1) P g.outs zs ds) pk q).2]) ∧ 0 ≤ (coRes (tayR (q + 1) P g.outs zs ds) pk q).1 ∧ (coRes (tayR (q + 1) P g.outs zs ds) pk q).1 ≤ 1000002 := by
  have hg0 : Below w.heap.size w (w.alloc (.cells #[.slice PA P.length pcap] 31)) := by go_grown
  have HC := Lib.hid (alongI P m g q PA pcap A D cap dcap zs ds _ (hP.below hg0) hin (hA.below hg0) (hD.below hg0) hd hl hq)
  have hlen : ∀ zss t, tayR (q + 1) P g.outs zs ds = .ok zss t → zss.length = g.outs.len := fun zss t h => evalR_len h
  have herr : ∀ c, tayR (q + 1) P g.outs zs ds = .err c → c ≠ 0 := fun c h => evalR_err h
  have ho12 := hin.fn.o12
  clear hP hin hA hD hd hl hg0
  generalize tayR (q + 1) P g.outs zs ds = R at *
  cases R with
  | err c =>
    have hc := herr c rfl
    have hc1 : (c == 0) = false := by simpa using hc
    clear hlen herr
    simp only [coRes]
    go_enter Try.func47, Try.ntmps47
    go_wp2_with fail
    refine HC.out.mono ?_; rintro e w1 ⟨hb1, A', cp', rfl⟩
    have Q2 := Lib.hid (prBox (C := [Value.slice PA P.length pcap]) hb1).2
    clear hb1
    go_wp2
    go_ret2
    exact ⟨Q2.out, rfl, by omega, by omega⟩
  | ok zss t =>
    have hzl := hlen zss t rfl
    have hpz : pk < zss.length := by omega
    have hz12 : zss.length ≤ 12 := by omega
    clear hlen herr hzl hpk ho12
    simp only [coRes]
    go_enter Try.func47, Try.ntmps47
    go_wp2_with fail
    refine HC.out.mono ?_; rintro e w1 ⟨hb1, A', cp', rfl, hN⟩
    have Q2 := Lib.hid (prBox (C := [Value.slice PA P.length pcap]) hb1).2
    obtain ⟨b, o, b', o', ca, rfl, g1, g2, gb⟩ := newAt (k := q) hN (by simp) hpz (by omega)
    have hpzI : (pk : Int) < (zss.length : Int) := by omega
    have hqI : (q : Int) < ((q + 1 : Nat) : Int) := by omega
    have hqI2 : (q : Int) < (q : Int) + 1 := by omega
    have hqN : q < q + 1 := by omega
    have GB := Lib.hid gb
    obtain ⟨x, hx⟩ : ∃ x, x = cf (zss.getD pk []) q := ⟨_, rfl⟩
    rw [← hx] at g2
    have HX := Lib.hid hx
    clear hb1 hN gb hx
    go_wp2
    go_ret2
    exact ⟨Q2.out, by rw [← HX.out]; rfl, GB.out⟩

def hiRes (R : Res (List (List Int))) (pk k : Nat) : Int × Int :=
  match R with
  | .err c => (0, c)
  | .ok zss _ => (tm (cf (zss.getD pk []) k) (facN k), 0)
/-- what HigherDerivative answers -/
def highV (P : List Fn) (f pick : Int) (zs ds : List Int) (o : Int) : Int × Int :=
  if pickV P f pick zs ds = 0 then (if inR o 0 12 = true then (match P[f.toNat]? with
    | none => (0, 0)
    | some g => hiRes (tayR (o.toNat + 1) P g.outs zs ds) pick.toNat o.toNat) else (0, 2))
  else (0, pickV P f pick zs ds)
theorem hiRes_co (R : Res (List (List Int))) (pk k : Nat) : hiRes R pk k = (tm (coRes R pk k).1 (facN k), (coRes R pk k).2) := by
  cases R with
  | err c => show (0, c) = (tm 0 _, c); unfold tm; simp
  | ok zss t => rfl

set_option maxRecDepth 100000 in
set_option maxHeartbeats 2000000 in
theorem highI (P : List Fn) (f pick : Int) (zs ds : List Int) (o : Int) {PA : Option Addr} {pcap : Nat} {A D : Option Addr} {cap dcap : Nat} (w : World) (hP : ProgIn w P PA pcap) (hA : Ints w A zs) (hl : zs.length ≤ 1048576) (hD : Ints w D ds) (hdl : ds.length ≤ 1048576) :
    Calls Try.prog 19 #[prV PA P.length pcap, .int .i64 f, .int .i64 pick, .slice A zs.length cap, .slice D ds.length dcap, .int .i64 o] w (Retii (highV P f pick zs ds o).1 (highV P f pick zs ds o).2 w) := by
  have hg0 : Below w.heap.size w (w.alloc (.cells #[.slice PA P.length pcap] 31)) := by go_grown
  have HC := Lib.hid (isPicked_any P f pick zs ds (cap := cap) (dcap := dcap) _ (hP.below hg0) (hA.below hg0) hl (hD.below hg0) hdl)
  have HP := Lib.hid hP
  by_cases hv : pickV P f pick zs ds = 0
  · have hlv := (pickV_zero hv).1
    have hpi := inR_true.1 (pickV_zero hv).2
    obtain ⟨hav, hdz, hds⟩ := lineV_zero hlv
    obtain ⟨_, m, g, rfl, hin⟩ := argV_zero hav
    obtain ⟨pk, rfl⟩ := Int.eq_ofNat_of_zero_le hpi.1
    have hpk : pk < g.outs.len := by
      have h := hpi.2
      unfold outsN at h
      simp [hin.fn.fn] at h
      omega
    rw [hv] at HC
    cases hq : inR o 0 12
    · have HV : Hid (highV P m pk zs ds o = (0, 2)) := by show _ = _; unfold highV; rw [if_pos hv, hq]; rfl
      rw [HV.out]
      have HQ := Lib.hid hq
      clear hv hq hP hA hD hg0 hav hdz hds hin hlv hpi hpk
      go_enter Try.func19, Try.ntmps19
      go_wp2_with fail
      refine HC.out.mono ?_; rintro e w1 ⟨rfl, hb1⟩
      have Q2 := Lib.hid (prBox (C := [Value.slice PA P.length pcap]) hb1).2
      clear hb1
      go_wp2_with (go_at_call 46; refine (within_any _ _ _ _).mono ?_; rintro e w' ⟨rfl, rfl⟩; rw [HQ.out])
      go_ret2
      exact ⟨Q2.out, rfl⟩
    · have ho := inR_true.1 hq
      obtain ⟨q, rfl⟩ := Int.eq_ofNat_of_zero_le ho.1
      have hq12 : q ≤ 12 := by omega
      have HV : Hid (highV P m pk zs ds q = (tm (coRes (tayR (q + 1) P g.outs zs ds) pk q).1 (facN q), (coRes (tayR (q + 1) P g.outs zs ds) pk q).2)) := by
        show _ = _
        unfold highV
        rw [if_pos hv, if_pos hq, ← hiRes_co]
        simp only [Int.toNat_natCast, hin.fn.fn]
      have HT : Hid (∀ wx, Below w.heap.size w wx → Calls Try.prog 47 #[prV PA P.length pcap, .int .i64 m, .int .i64 pk, .slice A zs.length cap, .slice D ds.length dcap, .int .i64 q] wx fun e w' => Below wx.heap.size wx w' ∧ e = .returned (.tuple #[.int .i64 (coRes (tayR (q + 1) P g.outs zs ds) pk q).1, .int .i64 (coRes (tayR (q + 1) P g.outs zs ds) pk q).2]) ∧ 0 ≤ (coRes (tayR (q + 1) P g.outs zs ds) pk q).1 ∧ (coRes (tayR (q + 1) P g.outs zs ds) pk q).1 ≤ 1000002) := fun wx hx =>
        coefI P m g q pk PA pcap A D cap dcap zs ds wx (HP.out.below hx) hin (hA.below hx) (hD.below hx) hds hdz hq12 hpk
      rw [HV.out]
      have HQ := Lib.hid hq
      clear hv hq hP hA hD hg0 hav hdz hds hin hlv hpi hpk
      generalize (coRes (tayR (q + 1) P g.outs zs ds) pk q).1 = x at *
      generalize (coRes (tayR (q + 1) P g.outs zs ds) pk q).2 = c at *
      have hfb := facN_bd q
      go_enter Try.func19, Try.ntmps19
      go_wp2_with fail
      refine HC.out.mono ?_; rintro e w1 ⟨rfl, hb1⟩
      obtain ⟨q1, q2⟩ := prBox (C := [Value.slice PA P.length pcap]) hb1
      have Q2 := Lib.hid q2
      have a0 : w1.cell? ⟨w.heap.size, 0, none⟩ = some (.slice PA P.length pcap) := by rw [q1.cell]; rfl
      clear hb1 q1 q2
      go_wp2_with (go_at_call 46; refine (within_any _ _ _ _).mono ?_; rintro e w' ⟨rfl, rfl⟩; rw [HQ.out])
      refine (HT.out _ Q2.out).mono ?_; rintro e w2 ⟨hb2, rfl, x0, x1⟩
      have HB2 := Lib.hid (bnext Q2.out hb2)
      obtain ⟨m0, m1⟩ := mul_bd x0 x1 hfb.1 hfb.2
      have HF := Lib.hid (factorialI q w2 hq12)
      have HTM : Hid (tm x (facN q) = (x * facN q) % 1000003) := rfl
      generalize facN q = y at *
      clear hb2
      go_wp2_with fail
      refine HF.out.mono ?_; rintro e w' ⟨rfl, rfl⟩
      go_wp2
      go_ret2
      exact ⟨HB2.out, by rw [HTM.out]; rfl⟩
  · have HV : Hid (highV P f pick zs ds o = (0, pickV P f pick zs ds)) := by show _ = _; unfold highV; rw [if_neg hv]
    rw [HV.out]
    generalize pickV P f pick zs ds = V at *
    have hv1 : (V == 0) = false := by simpa using hv
    clear hP hA hD hg0
    go_enter Try.func19, Try.ntmps19
    go_wp2_with fail
    refine HC.out.mono ?_; rintro e w1 ⟨rfl, hb1⟩
    have Q2 := Lib.hid (prBox (C := [Value.slice PA P.length pcap]) hb1).2
    clear hb1
    go_wp2
    go_ret2
    exact ⟨Q2.out, rfl⟩

set_option maxRecDepth 100000 in
set_option maxHeartbeats 2000000 in
theorem highS (P : List Fn) (f pick : Int) (zs ds : List Int) (o : Int) {PA : Option Addr} {pcap : Nat} {A D : Option Addr} {cap dcap : Nat} (w : World) (hP : ProgIn w P PA pcap) (hA : Ints w A zs) (hl : zs.length ≤ 1048576) (hD : Ints w D ds) (hdl : ds.length ≤ 1048576) :
    Calls Try.prog 18 #[prV PA P.length pcap, .int .i64 f, .int .i64 pick, .slice A zs.length cap, .slice D ds.length dcap, .int .i64 o] w (Retii (highV P f pick zs ds o).1 (highV P f pick zs ds o).2 w) := by
  obtain ⟨hPr, hg⟩ := prBoxAt hP 31
  have HC := Lib.hid (pickedS_any P f pick A D cap dcap zs ds w.heap.size 0 (w.heap.size + 1) _ hPr (by simp) hP.sz (hA.below hg) (by omega) (hD.below hg) (by omega))
  have HG := Lib.hid hg
  by_cases hv : pickV P f pick zs ds = 0
  · have hlv := (pickV_zero hv).1
    have hpi := inR_true.1 (pickV_zero hv).2
    obtain ⟨hav, hdz, hds⟩ := lineV_zero hlv
    obtain ⟨_, m, g, rfl, hin⟩ := argV_zero hav
    obtain ⟨pk, rfl⟩ := Int.eq_ofNat_of_zero_le hpi.1
    have hpk : pk < g.outs.len := by
      have h := hpi.2
      unfold outsN at h
      simp [hin.fn.fn] at h
      omega
    rw [hv] at HC
    cases hq : inR o 0 12
    · have HV : Hid (highV P m pk zs ds o = (0, 2)) := by show _ = _; unfold highV; rw [if_pos hv, hq]; rfl
      rw [HV.out]
      have HQ := Lib.hid hq
      clear hv hq hPr hP hA hD hg hav hdz hds hin hlv hpi hpk
      go_enter Try.func18, Try.ntmps18
      go_wp2_with fail
      refine HC.out.mono ?_; rintro e w1 ⟨rfl, hb1⟩
      have HB := Lib.hid (HG.out.trans (hb1.mono HG.out.size))
      clear hb1
      go_wp2_with (go_at_call 41; refine (in_any _ _ _ _).mono ?_; rintro e w' ⟨rfl, rfl⟩; rw [HQ.out])
      go_ret2
      exact ⟨HB.out, rfl⟩
    · have ho := inR_true.1 hq
      obtain ⟨q, rfl⟩ := Int.eq_ofNat_of_zero_le ho.1
      have hq12 : q ≤ 12 := by omega
      have HV : Hid (highV P m pk zs ds q = hiRes (tayR (q + 1) P g.outs zs ds) pk q) := by
        show _ = _
        unfold highV
        rw [if_pos hv, if_pos hq]
        simp only [Int.toNat_natCast, hin.fn.fn]
      have HT : Hid (∀ wx, Below (w.heap.size + 1) (w.alloc (.cells #[.slice PA P.length pcap] 31)) wx → Calls Try.prog 42 #[ptr w.heap.size 0, .int .i64 m, .slice A zs.length cap, .slice D ds.length dcap, .int .i64 q] wx (RowsPost (q + 1) (tayR (q + 1) P g.outs zs ds) wx)) := fun wx hx =>
        taylorS_any P m g q A D cap dcap zs ds w.heap.size 0 (w.heap.size + 1) wx (hPr.below hx) (by have := hx.size; simp at this; omega) hin ((hA.below hg).below (by simpa using hx)) ((hD.below hg).below (by simpa using hx)) hds hdz hq12
      have hlen : ∀ zss t, tayR (q + 1) P g.outs zs ds = .ok zss t → zss.length = g.outs.len := fun zss t h => evalR_len h
      have herr : ∀ c, tayR (q + 1) P g.outs zs ds = .err c → c ≠ 0 := fun c h => evalR_err h
      have ho12 := hin.fn.o12
      rw [HV.out]
      have HQ := Lib.hid hq
      clear hv hq hPr hP hA hD hg hav hdz hds hin hlv hpi
      generalize tayR (q + 1) P g.outs zs ds = R at *
      cases R with
      | err c =>
        have hc := herr c rfl
        have hc1 : (c == 0) = false := by simpa using hc
        clear hlen herr
        simp only [hiRes]
        go_enter Try.func18, Try.ntmps18
        go_wp2_with fail
        refine HC.out.mono ?_; rintro e w1 ⟨rfl, hb1⟩
        have HB := Lib.hid hb1
        clear hb1
        go_wp2_with (go_at_call 41; refine (in_any _ _ _ _).mono ?_; rintro e w' ⟨rfl, rfl⟩; rw [HQ.out])
        refine (HT.out _ (HB.out.mono (by simp))).mono ?_; rintro e w2 ⟨hb2, A', cp', rfl⟩
        have HB2 := Lib.hid (bnext (HG.out.trans (HB.out.mono HG.out.size)) hb2)
        clear hb2
        go_wp2
        go_ret2
        exact ⟨HB2.out, rfl⟩
      | ok zss t =>
        have hzl := hlen zss t rfl
        have hpz : pk < zss.length := by omega
        have hz12 : zss.length ≤ 12 := by omega
        clear hlen herr hzl hpk ho12
        simp only [hiRes]
        go_enter Try.func18, Try.ntmps18
        go_wp2_with fail
        refine HC.out.mono ?_; rintro e w1 ⟨rfl, hb1⟩
        have HB := Lib.hid hb1
        clear hb1
        go_wp2_with (go_at_call 41; refine (in_any _ _ _ _).mono ?_; rintro e w' ⟨rfl, rfl⟩; rw [HQ.out])
        refine (HT.out _ (HB.out.mono (by simp))).mono ?_; rintro e w2 ⟨hb2, A', cp', rfl, hN⟩
        have hw1 := HB.out.size
        have HB2 := Lib.hid (bnext (HG.out.trans (HB.out.mono HG.out.size)) hb2)
        obtain ⟨b, o, b', o', ca, rfl, g1, g2, _⟩ := newAt (k := q) hN (by simp at hw1; omega) hpz (by omega)
        have hpzI : (pk : Int) < (zss.length : Int) := by omega
        have hqI : (q : Int) < ((q + 1 : Nat) : Int) := by omega
        have hqI2 : (q : Int) < (q : Int) + 1 := by omega
        have hqN : q < q + 1 := by omega
        obtain ⟨x, hx⟩ : ∃ x, x = cf (zss.getD pk []) q := ⟨_, rfl⟩
        obtain ⟨y, hy⟩ : ∃ y, y = facN q := ⟨_, rfl⟩
        rw [← hx] at g2
        have HF : Hid (∀ wx, Calls Try.prog 44 #[.int .i64 q] wx fun e w' => e = .returned (.int .i64 y) ∧ w' = wx) := fun wx => by rw [hy]; exact factorialS q wx hq12
        have HM : Hid (∀ wx, Calls Try.prog 43 #[.int .i64 x, .int .i64 y] wx fun e w' => e = .returned (.int .i64 (tm x y)) ∧ w' = wx) := fun wx => (timesS_any x y wx).mono fun _ _ ⟨h1, h2⟩ => ⟨h1, h2.symm⟩
        have HX := Lib.hid (And.intro hx hy)
        clear hb2 hN hw1 hx hy
        go_wp2
        go_quiet (first | (go_at_call 44; exact Calls.quiet_of_same (HF.out _)) | (go_at_call 43; exact Calls.quiet_of_same (HM.out _)))
        go_wp2
        go_ret2
        exact ⟨below_drewN' HB2.out _, by rw [← HX.out.1, ← HX.out.2]; rfl⟩
  · have HV : Hid (highV P f pick zs ds o = (0, pickV P f pick zs ds)) := by show _ = _; unfold highV; rw [if_neg hv]
    rw [HV.out]
    generalize pickV P f pick zs ds = V at *
    have hv1 : (V == 0) = false := by simpa using hv
    clear hPr hP hA hD hg
    go_enter Try.func18, Try.ntmps18
    go_wp2_with fail
    refine HC.out.mono ?_; rintro e w1 ⟨rfl, hb1⟩
    have HB := Lib.hid (HG.out.trans (hb1.mono HG.out.size))
    clear hb1
    go_wp2
    go_ret2
    exact ⟨HB.out, rfl⟩

end Go.Proofs.Ytlnikpjcggfdmaa

/- Slopes along a line, plainly: points, the first error. No program here. -/
namespace Go.Proofs.Ytlnikpjcggfdmaa
open Plain

/-- the point args + k dir -/
def pointL (zs ds : List Int) (k : Int) : List Int := mk zs.length fun i => (cf zs i + k * cf ds i) % 1000003
theorem pointL_length (zs ds : List Int) (k : Int) : (pointL zs ds k).length = zs.length := mk_length _ _
theorem isS_point (zs ds : List Int) (k : Int) : IsS (pointL zs ds k) := IsS.mk_ fun i => by omega
theorem point_zero {zs ds : List Int} (hz : IsS zs) : pointL zs ds 0 = zs := by
  apply list_ext
  · exact pointL_length _ _ _
  · intro i hi
    rw [pointL_length] at hi
    unfold pointL
    rw [cf_mk hi, Int.zero_mul, Int.add_zero]
    exact Int.emod_eq_of_lt (hz i).1 (by have := (hz i).2; omega)
theorem point_next {zs ds : List Int} (k : Int) : addL (pointL zs ds k) ds = pointL zs ds (k + 1) := by
  apply list_ext
  · rw [addL_length, pointL_length, pointL_length]
  · intro i hi
    rw [addL_length, pointL_length] at hi
    rw [cf_add (by rw [pointL_length]; exact hi)]
    unfold pointL
    rw [cf_mk hi, cf_mk hi]
    unfold pl
    rw [Int.add_mul, Int.one_mul]
    omega
/-- the code of the first error -/
def fstErr (F : Nat → Int) : Nat → Int
  | 0 => 0
  | k + 1 => if fstErr F k = 0 then F k else fstErr F k
theorem fstErr_at {F : Nat → Int} {k : Nat} (h0 : fstErr F k = 0) (hk : F k ≠ 0) : ∀ n, k < n → fstErr F n = F k := by
  intro n
  induction n with
  | zero => intro h; omega
  | succ n ih =>
    intro h
    unfold fstErr
    by_cases hn : k < n
    · rw [ih hn, if_neg hk]
    · obtain rfl : k = n := by omega
      rw [if_pos h0]
theorem fstErr_next {F : Nat → Int} {k : Nat} (h0 : fstErr F k = 0) (hk : F k = 0) : fstErr F (k + 1) = 0 := by
  unfold fstErr
  rw [if_pos h0, hk]

/-- one number of values -/
def numRes (R : Res (List (List Int))) (pk k : Nat) : Int :=
  match R with
  | .err _ => 0
  | .ok zss _ => cf (zss.getD pk []) k
def codeRes (R : Res (List (List Int))) : Int :=
  match R with
  | .err c => c
  | .ok _ _ => 0
/-- what SlopeAlong answers -/
def slopeV (P : List Fn) (f pick : Int) (zs ds : List Int) (n : Int) : List Int × Int :=
  if pickV P f pick zs ds = 0 then (if inR n 0 12 = true then (match P[f.toNat]? with
    | none => ([], 0)
    | some g =>
      if fstErr (fun k => codeRes (tayR 2 P g.outs (pointL zs ds k) ds)) n.toNat = 0
      then (mk n.toNat fun k => numRes (tayR 2 P g.outs (pointL zs ds k) ds) pick.toNat 1, 0)
      else ([], fstErr (fun k => codeRes (tayR 2 P g.outs (pointL zs ds k) ds)) n.toNat)) else ([], 2))
  else ([], pickV P f pick zs ds)
theorem slopeV_len (P : List Fn) (f pick : Int) (zs ds : List Int) (n : Int) : (slopeV P f pick zs ds n).1.length ≤ 4194304 := by
  unfold slopeV
  split
  · rename_i h
    obtain ⟨_, m, g, rfl, hin⟩ := argV_zero (lineV_zero (pickV_zero h).1).1
    split
    · rename_i hq
      have := inR_true.1 hq
      simp only [Int.toNat_natCast, hin.fn.fn]
      split
      · simp only [mk_length]; omega
      · simp
    · simp
  · simp

end Go.Proofs.Ytlnikpjcggfdmaa
