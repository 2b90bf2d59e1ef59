/- FnExactPathDerivative: for every program, function, output and list of series the program's PathDerivative returns what the reference's returns, in memory of its own. No condition. -/
import Derived.Test.YtjohkheclglpjaaGreatKR
import Derived.Test.YtjohkheclglpjaaGreatKA
import Derived.Test.YtjohkheclglpjaaGreatKP
import Derived.Deep.RegionHeld3
import Derived.WalkKit
import Derived.ProofKit
import Derived.OpenShut
import Derived.ShutString
import Derived.ChangeOld
import Derived.Below

/- Walks: derivatives of series, in the spec and in the program; PathDerivative. -/
namespace Go.Proofs.YtjohkheclglpjaaGreat
open Go.RowKit Plain

theorem mul_bd2 {a b : Int} (ha : 0 ≤ a) (ha' : a ≤ 1000000) (hb : 0 ≤ b) (hb' : b ≤ 1000002) : 0 ≤ a * b ∧ a * b ≤ 1000004000004 := mul_bd ha (by omega) hb hb'

set_option maxHeartbeats 1000000 in
theorem derivative_any (A : Option Addr) (cap : Nat) (a : List Int) (w : World) (hA : Ints w A a) (h0 : 0 < a.length) (hn : a.length ≤ 100000) (ha : IsS a) :
    Calls Tryz.prog 68 #[.slice A a.length cap] w (SerPost (dvL a) w) := by
  have hmk := run_make_row' (P := Tryz.prog) 25 2 (.int .i64 0) 8 Tryz.underlying25 Tryz.infoI rfl .i64 .i64 a.length (by omega) (by omega)
  rw [madeCells_one, rowF_zero, upTo_zero (f := fun k => if k + 1 < a.length then tm ((k + 1 : Nat) : Int) (cf a (k + 1)) else 0)] at hmk
  go_enter Tryz.func68, Tryz.ntmps68
  go_wp2
  go_loopw [4, 11] (fun _ i wr => ∃ k : Nat, k + 1 ≤ a.length ∧ i = .int .i64 (k : Int) ∧ Hid (Cells wr w.heap.size 2 (rowF a.length (upTo (fun k => if k + 1 < a.length then tm ((k + 1 : Nat) : Int) (cf a (k + 1)) else 0) k 0))) ∧ Hid (Below w.heap.size w wr)) (fun _ i _ => a.length - (intOf i).toNat)
  case atStart => exact ⟨0, by omega, by go_num, Cells.new w _ _, by show Below _ _ _; go_grown⟩
  case round =>
    obtain ⟨k, hk, rfl, HC, HB⟩ := hrel
    by_cases hlt : k + 1 < a.length
    · obtain ⟨b1, o1, rfl, _, hc1⟩ := (hA.below HB.out).cfAt (by omega)
      have g1 := hc1 (k + 1) hlt
      have g3 := cell_row HC.out (show k < a.length by omega)
      have z3 : wr.frozen? ⟨w.heap.size, k, none⟩ = false := HC.out.frozen _
      have a1 := ha (k + 1)
      have m1 := mul_bd2 (a := (k : Int) + 1) (by omega) (by omega) a1.1 a1.2
      have HN : Hid (Cells (wr.setCell ⟨w.heap.size, k, none⟩ (.int .i64 (((k : Int) + 1) * cf a (k + 1) % 1000003))) w.heap.size 2 (rowF a.length (upTo (fun k => if k + 1 < a.length then tm ((k + 1 : Nat) : Int) (cf a (k + 1)) else 0) (k + 1) 0))) := by
        have h := HC.out.set_ k (.int .i64 (((k : Int) + 1) * cf a (k + 1) % 1000003))
        rw [upTo_set] at h
        rw [← upTo_next]
        simp only [if_pos hlt]
        exact h
      clear hc1
      generalize cf a (k + 1) = x at *
      have hkl : (k : Int) + 1 < (a.length : Int) := by omega
      go_wp2
      go_roundw
      case rel => exact ⟨k + 1, by omega, by go_num, HN.out, HB.out.setCell (Nat.le_refl _) _⟩
      case measure => simp [intOf]; omega
    · have HE : Hid (Cells wr w.heap.size 2 ((dvL a).map (Value.int .i64))) := by
        show Cells _ _ _ _
        have h := HC.out
        have e : rowF a.length (upTo (fun k => if k + 1 < a.length then tm ((k + 1 : Nat) : Int) (cf a (k + 1)) else 0) k 0) = (dvL a).map (Value.int .i64) := by
          unfold dvL
          refine rowF_congr fun j hj => ?_
          unfold upTo
          by_cases h1 : j < k
          · rw [if_pos h1]
          · rw [if_neg h1]
            have : ¬ j + 1 < a.length := by omega
            simp [this]
        rw [e] at h; exact h
      have hd : ¬ ((k : Int) < (a.length : Int) - 1) := by omega
      go_wp2
      go_ret
      unfold SerPost
      rw [dvL_length]
      exact ⟨rfl, HE.out, HB.out⟩

/-- the first k numbers of a derivative, zeros behind -/
def dvP (a : List Int) (k : Nat) : List Int := mk a.length fun j => if j < k then cf (dvL a) j else 0
theorem dvP_length (a : List Int) (k : Nat) : (dvP a k).length = a.length := mk_length _ _
theorem dvP_set {a : List Int} {k : Nat} (hk : k + 1 < a.length) : (dvP a k).set k (tm ((k : Int) + 1) (cf a (k + 1))) = dvP a (k + 1) := by
  apply list_ext
  · simp [dvP_length]
  · intro j hj
    rw [List.length_set, dvP_length] at hj
    by_cases h : j = k
    · subst h
      have h1 : ((dvP a j).set j (tm ((j : Int) + 1) (cf a (j + 1))))[j]? = some (tm ((j : Int) + 1) (cf a (j + 1))) := List.getElem?_set_self (by rw [dvP_length]; exact hj)
      rw [cf_get h1]
      unfold dvP
      rw [cf_mk hj, if_pos (by omega)]
      unfold dvL
      rw [cf_mk hj, if_pos hk]
      congr 1
    · have h1 : ((dvP a k).set k (tm ((k : Int) + 1) (cf a (k + 1))))[j]? = (dvP a k)[j]? := List.getElem?_set_ne (by omega)
      have e : cf ((dvP a k).set k (tm ((k : Int) + 1) (cf a (k + 1)))) j = cf (dvP a k) j := by
        generalize tm ((k : Int) + 1) (cf a (k + 1)) = x at h1 ⊢
        unfold cf List.getD; rw [h1]
      rw [e]
      unfold dvP
      rw [cf_mk hj, cf_mk hj]
      by_cases h2 : j < k
      · rw [if_pos h2, if_pos (by omega)]
      · rw [if_neg h2, if_neg (by omega)]
theorem dvP_zero (a : List Int) : (ops a.length).num 0 = dvP a 0 := by
  show mk _ _ = mk _ _
  exact mk_congr fun k _ => by simp
theorem dvP_end {a : List Int} {k : Nat} (h : ¬ k + 1 < a.length) (hk : k + 1 ≤ a.length) : dvP a k = dvL a := by
  apply list_ext
  · rw [dvP_length, dvL_length]
  · intro j hj
    rw [dvP_length] at hj
    unfold dvP
    rw [cf_mk hj]
    by_cases h2 : j < k
    · rw [if_pos h2]
    · rw [if_neg h2]
      unfold dvL
      rw [cf_mk hj, if_neg (by omega)]

set_option maxRecDepth 100000 in
set_option maxHeartbeats 1000000 in
theorem deriveS_any (A : Option Addr) (cap : Nat) (a : List Int) (w : World) (hA : Ints w A a) (h0 : 0 < a.length) (hn : a.length ≤ 1000) :
    Calls Tryz.prog 67 #[.slice A a.length cap] w (SPost (dvL a) w) := by
  have HC := Lib.hid (constS_any 0 a.length w h0 (by omega))
  have hN : Hid (((ops a.length).num 0).length = a.length) := by show _ = _; simp [ops, mk_length]
  go_enter Tryz.func67, Tryz.ntmps67
  go_wp2_with fail
  refine HC.out.mono ?_; rintro e w1 ⟨As, cs, rfl, hT, hb1⟩
  rw [hN.out]
  obtain ⟨b, o, rfl, hbs, _⟩ := hT (by rw [hN.out]; exact h0)
  have HB1 := Lib.hid hb1
  have HT0 : Hid (IntsT w1 w.heap.size (some ⟨b, o, none⟩) (dvP a 0)) := by show IntsT _ _ _ _; rw [← dvP_zero]; exact hT
  clear hT hb1 HC hN
  go_wp2
  go_loopw [4] (fun i wr => ∃ k : Nat, k + 1 ≤ a.length ∧ i = .int .i64 (k : Int) ∧ Hid (IntsT wr w.heap.size (some ⟨b, o, none⟩) (dvP a k)) ∧ Hid (Below w.heap.size w wr)) (fun i _ => a.length - (intOf i).toNat)
  case atStart => exact ⟨0, by omega, by go_num, HT0.out, HB1.out⟩
  case round =>
    obtain ⟨k, hk, rfl, HT, HB⟩ := hrel
    by_cases hlt : k + 1 < a.length
    · obtain ⟨b1, o1, rfl, hl1, hc1⟩ := (hA.below HB.out).cfAt h0
      have g1 := hc1 (k + 1) hlt
      have HS := Lib.hid (HT.out.setAt (j := k) (by rw [dvP_length]; omega) (tm ((k : Int) + 1) (cf a (k + 1))))
      rw [dvP_set hlt] at HS
      obtain ⟨b2, o2, e2, _, _, _, hcc⟩ := HT.out (by rw [dvP_length]; exact h0)
      obtain ⟨rfl, rfl⟩ : b = b2 ∧ o = o2 := by simpa using e2
      obtain ⟨u1, u2⟩ := hcc k _ (cf_some (by rw [dvP_length]; omega))
      have hkl : (k : Int) + 1 < (a.length : Int) := by omega
      have hkl2 : (k : Int) < (a.length : Int) := by omega
      have hkn : k < a.length := by omega
      have HSB : Hid (Below w.heap.size w (wr.setCell ⟨b, o + k, none⟩ (.int .i64 (tm ((k : Int) + 1) (cf a (k + 1)))))) := HB.out.setCell (p := ⟨b, o + k, none⟩) hbs _
      have HM := Lib.hid (timesS_any ((k : Int) + 1) (cf a (k + 1)) wr)
      clear hc1 e2 hcc HT
      generalize tm ((k : Int) + 1) (cf a (k + 1)) = y at *
      go_wp2_with fail
      refine HM.out.mono ?_; rintro e w' ⟨rfl, rfl⟩
      go_wp2
      go_roundw
      case rel => exact ⟨k + 1, by omega, by go_num, HS.out, HSB.out⟩
      case measure => simp [intOf]; omega
    · have hge : ¬ (k : Int) + 1 < (a.length : Int) := by omega
      have HE : Hid (IntsT wr w.heap.size (some ⟨b, o, none⟩) (dvL a)) := by
        have h := HT.out
        rw [dvP_end hlt hk] at h
        exact h
      go_wp2
      go_ret
      exact ⟨some ⟨b, o, none⟩, cs, by rw [dvL_length]; rfl, HE.out, HB.out⟩

/-- what PathDerivative answers -/
def pathdRes (R : Res (List (List Int))) (pk : Nat) : List Int × Int :=
  match R with
  | .err c => ([], c)
  | .ok zss _ => (dvL (zss.getD pk []), 0)
def pathpV (P : List Fn) (f pick : Int) (zss : List (List Int)) : Int := if pathV P f zss = 0 then (if inR pick 0 (outsN P f - 1) = true then 0 else 2) else pathV P f zss
def pathdV (P : List Fn) (f pick : Int) (zss : List (List Int)) : List Int × Int :=
  if pathpV P f pick zss = 0 then (match P[f.toNat]? with
    | none => ([], 0)
    | some g => pathdRes (evalR (sizeN zss) P g.outs zss) pick.toNat)
  else ([], pathpV P f pick zss)
theorem pathpV_zero {P : List Fn} {f pick : Int} {zss : List (List Int)} (h : pathpV P f pick zss = 0) : pathV P f zss = 0 ∧ inR pick 0 (outsN P f - 1) = true := by
  unfold pathpV at h
  split at h
  · rename_i h1
    split at h
    · exact ⟨h1, ‹_›⟩
    · exact absurd h (by decide)
  · exact absurd h ‹_›
theorem outsN_of {P : List Fn} {m : Nat} {g : Fn} (hg : P[m]? = some g) : outsN P m = (g.outs.len : Int) := by unfold outsN; simp [hg]
/-- a row of new rows -/
theorem newRow {w : World} {B n cp pk : Nat} {A : Option Addr} {zss : List (List Int)} (h : NewRows w B n (.slice A zss.length cp) zss) (h0 : 0 < B) (hp : pk < zss.length) (hn : 1 ≤ n) :
    ∃ b o b' o' cap, A = some ⟨b, o, none⟩ ∧ w.cell? ⟨b, o + pk, none⟩ = some (.slice (some ⟨b', o', none⟩) n cap) ∧ Ints w (some ⟨b', o', none⟩) (zss.getD pk []) ∧ (zss.getD pk []).length = n ∧ IsS (zss.getD pk []) := by
  obtain ⟨b, o, A', cap, e, _, _, hc, hz⟩ := (h.env (bv := 0) h0).sat hp
  obtain ⟨b3, o3, e3, _⟩ := hz.isAt (by rw [hz.len]; omega)
  subst e3
  exact ⟨b, o, b3, o3, cap, e, hc, hz.isAt.ints, hz.len, hz.isS⟩

set_option maxRecDepth 100000 in
set_option maxHeartbeats 2000000 in
theorem pathDerS (P : List Fn) (f pick : Int) (zss : List (List Int)) {PA : Option Addr} {pcap : Nat} {A : Option Addr} (w : World) (hP : ProgIn w P PA pcap) (hA : RowsIn w A zss) :
    Calls Tryz.prog 34 #[prV PA P.length pcap, .int .i64 f, .int .i64 pick, .slice A zss.length zss.length] w (RetIi (pathdV P f pick zss).1 (pathdV P f pick zss).2 w) := by
  obtain ⟨hPr, hg⟩ := prBoxAt hP 31
  have hzl := hA.lens.1
  have hzt := hA.lens.2
  have hpm : pcap ≤ 9223372036854775807 := by have := hP.pm; unfold maxLen at this; omega
  have HC := Lib.hid (pathS_any P f A zss.length zss w.heap.size 0 (w.heap.size + 1) _ hPr (by simp) hP.sz (hA.rows.below hg) hzl hzt)
  have HG := Lib.hid hg
  have HP := Lib.hid hP
  by_cases hv : pathV P f zss = 0
  · obtain ⟨_, m, g, rfl, hin⟩ := pathV_zero hv
    rw [hv] at HC
    have hn1 := hin.n1
    have hn0 := hin.n0
    have hgm := hin.fn.fn
    have hml : m < P.length := (List.getElem?_eq_some_iff.1 hgm).1
    have hml2 : (m : Int) < (P.length : Int) := by omega
    have ho12 := hin.fn.o12
    obtain ⟨bP, oP, rfl, hbP, _⟩ := hP.fns.get hgm
    have HF : Hid (∀ wx, Below w.heap.size w wx → ∃ KF cF, wx.cell? ⟨bP, oP + m * 3 + 2, none⟩ = some (.slice KF g.outs.len cF) ∧ cF ≤ 9223372036854775807) := fun wx hx => by
      obtain ⟨bP', oP', e', _, _, _, _, KF, cF, g2, _, hmF, _⟩ := (HP.out.fns.below hx).get hgm
      obtain ⟨rfl, rfl⟩ : bP = bP' ∧ oP = oP' := by simpa using e'
      unfold maxLen at hmF
      exact ⟨KF, cF, g2, by omega⟩
    cases hq : inR pick 0 ((g.outs.len : Int) - 1)
    · have HV : Hid (pathdV P m pick zss = ([], 2)) := by
        show _ = _
        have h2 : pathpV P m pick zss = 2 := by unfold pathpV; rw [if_pos hv, outsN_of hgm, hq]; rfl
        unfold pathdV
        rw [h2]; rfl
      rw [HV.out]
      have HQ := Lib.hid hq
      clear hv hq hPr hP hA hg hin hgm
      go_enter Tryz.func34, Tryz.ntmps34
      go_wp2_with fail
      refine HC.out.mono ?_; rintro e w1 ⟨rfl, hb1⟩
      obtain ⟨q1, q2⟩ := prBox (C := [Value.slice (some ⟨bP, oP, none⟩) P.length pcap]) hb1
      have Q2 := Lib.hid q2
      have a0 : w1.cell? ⟨w.heap.size, 0, none⟩ = some (.slice (some ⟨bP, oP, none⟩) P.length pcap) := by rw [q1.cell]; rfl
      obtain ⟨KF, cF, g2, hcF⟩ := HF.out w1 Q2.out
      clear hb1 q1 q2
      go_wp2_with (go_at_call 49; refine (in_any _ _ _ _).mono ?_; rintro e w' ⟨rfl, rfl⟩; rw [HQ.out])
      go_ret2
      exact retIi_nil (Q2.out.trans ((show Below w1.heap.size w1 (w1.alloc (.cells #[] 2)) by go_grown).mono Q2.out.size))
    · have hpi := inR_true.1 hq
      obtain ⟨pk, rfl⟩ := Int.eq_ofNat_of_zero_le hpi.1
      have hpk : pk < g.outs.len := by omega
      have HV : Hid (pathdV P m pk zss = pathdRes (evalR (sizeN zss) P g.outs zss) pk) := by
        show _ = _
        have h2 : pathpV P m pk zss = 0 := by unfold pathpV; rw [if_pos hv, outsN_of hgm, hq]; rfl
        unfold pathdV
        rw [if_pos h2]
        simp only [Int.toNat_natCast, hgm]
      have HT : Hid (∀ wx, Below (w.heap.size + 1) (w.alloc (.cells #[.slice (some ⟨bP, oP, none⟩) P.length pcap] 31)) wx → Calls Tryz.prog 57 #[ptr w.heap.size 0, .int .i64 m, .slice A zss.length zss.length, .int .i64 (sizeN zss : Int)] wx (RowsPost (sizeN zss) (evalR (sizeN zss) P g.outs zss) wx)) := fun wx hx =>
        l03EvalS_any P m g (sizeN zss) A zss.length w.heap.size zss w.heap.size 0 (w.heap.size + 1) wx (hPr.below hx) (by have := hx.size; simp at this; omega) hin.ok hin.fn
          ((hA.env (sizeN zss) w.heap.size (Nat.le_refl _) hin.rows).only (Only.of_below (hg.trans (hx.mono (by omega))))) hin.len (Nat.le_refl _) (by unfold maxLen; omega) hin.n0 hin.n1
      have HS : Hid (∀ wx, Below w.heap.size w wx → Calls Tryz.prog 58 #[.slice A zss.length zss.length] wx fun e w' => e = .returned (.int .i64 (sizeN zss : Int)) ∧ wx = w') := fun wx hx =>
        sizeS_any A zss.length zss wx (hA.rows.below hx) hzl hn1
      have hlen : ∀ zs t, evalR (sizeN zss) P g.outs zss = .ok zs t → zs.length = g.outs.len := fun zs t h => evalR_len h
      have herr : ∀ c, evalR (sizeN zss) P g.outs zss = .err c → c ≠ 0 := fun c h => evalR_err h
      rw [HV.out]
      have HQ := Lib.hid hq
      clear hv hq hPr hP hA hg hin hgm hpi
      generalize evalR (sizeN zss) P g.outs zss = R at *
      generalize sizeN zss = n at *
      cases R with
      | err c =>
        have hc := herr c rfl
        have hc1 : (c == 0) = false := by simpa using hc
        clear hlen herr
        simp only [pathdRes]
        go_enter Tryz.func34, Tryz.ntmps34
        go_wp2_with fail
        refine HC.out.mono ?_; rintro e w1 ⟨rfl, hb1⟩
        obtain ⟨q1, q2⟩ := prBox (C := [Value.slice (some ⟨bP, oP, none⟩) P.length pcap]) hb1
        have Q2 := Lib.hid q2
        have HB := Lib.hid hb1
        have a0 : w1.cell? ⟨w.heap.size, 0, none⟩ = some (.slice (some ⟨bP, oP, none⟩) P.length pcap) := by rw [q1.cell]; rfl
        obtain ⟨KF, cF, g2, hcF⟩ := HF.out w1 Q2.out
        clear hb1 q1 q2
        go_wp2_with (go_at_call 49; refine (in_any _ _ _ _).mono ?_; rintro e w' ⟨rfl, rfl⟩; rw [HQ.out])
        refine (HS.out _ Q2.out).mono ?_; rintro e w' ⟨rfl, rfl⟩
        go_wp2_with fail
        refine (HT.out _ (HB.out.mono (by simp))).mono ?_; rintro e w2 ⟨hb2, A', cp', rfl⟩
        have HB2 := Lib.hid (bnext Q2.out hb2)
        clear hb2
        go_wp2
        go_ret2
        exact retIi_nil (HB2.out.trans ((show Below w2.heap.size w2 (w2.alloc (.cells #[] 2)) by go_grown).mono HB2.out.size))
      | ok zs t =>
        have hzl' := hlen zs t rfl
        have hpz : pk < zs.length := by omega
        have hz12 : zs.length ≤ 12 := by omega
        clear hlen herr hzl'
        simp only [pathdRes]
        go_enter Tryz.func34, Tryz.ntmps34
        go_wp2_with fail
        refine HC.out.mono ?_; rintro e w1 ⟨rfl, hb1⟩
        obtain ⟨q1, q2⟩ := prBox (C := [Value.slice (some ⟨bP, oP, none⟩) P.length pcap]) hb1
        have Q2 := Lib.hid q2
        have HB := Lib.hid hb1
        have a0 : w1.cell? ⟨w.heap.size, 0, none⟩ = some (.slice (some ⟨bP, oP, none⟩) P.length pcap) := by rw [q1.cell]; rfl
        have al : w.heap.size < w1.heap.size := q1.lt
        obtain ⟨KF, cF, g2, hcF⟩ := HF.out w1 Q2.out
        clear hb1 q1 q2
        go_wp2_with (go_at_call 49; refine (in_any _ _ _ _).mono ?_; rintro e w' ⟨rfl, rfl⟩; rw [HQ.out])
        refine (HS.out _ Q2.out).mono ?_; rintro e w' ⟨rfl, rfl⟩
        go_wp2_with fail
        refine (HT.out _ (HB.out.mono (by simp))).mono ?_; rintro e w2 ⟨hb2, A', cp', rfl, hN⟩
        have HB2 := Lib.hid (bnext Q2.out hb2)
        obtain ⟨b, o, b', o', ca, rfl, h1, hI, hrl, hrs⟩ := newRow hN (by omega) hpz hn0
        have HD := deriveS_any (some ⟨b', o', none⟩) ca (zs.getD pk []) w2 hI (by omega) (by omega)
        have hdl : (dvL (zs.getD pk [])).length = n := by rw [dvL_length]; exact hrl
        rw [hrl] at HD
        have HD := Lib.hid HD
        have HDL := Lib.hid hdl
        have hpzI : (pk : Int) < (zs.length : Int) := by omega
        clear hb2 hN hI hrl hrs hdl g2 a0
        generalize dvL (zs.getD pk []) = dv at *
        go_wp2_with fail
        refine HD.out.mono ?_; rintro e w3 ⟨Ad, cd, rfl, hTd, hb3⟩
        have HTd := Lib.hid hTd
        have HB3 := Lib.hid hb3
        clear hTd hb3
        go_wp2
        go_ret2
        exact ⟨bnext HB2.out HB3.out, Ad, cd, rfl, riMono (w := w) (HTd.out.m.reg HB3.out.size) HB2.out.size (Nat.le_refl _) rfl⟩
  · have h2 : pathpV P f pick zss = pathV P f zss := by unfold pathpV; rw [if_neg hv]
    have HV : Hid (pathdV P f pick zss = ([], pathV P f zss)) := by show _ = _; unfold pathdV; rw [h2, if_neg hv]
    rw [HV.out]
    generalize pathV P f zss = V at *
    have hv1 : (V == 0) = false := by simpa using hv
    clear hPr hP hA hg h2
    go_enter Tryz.func34, Tryz.ntmps34
    go_wp2_with fail
    refine HC.out.mono ?_; rintro e w1 ⟨rfl, hb1⟩
    have HB := Lib.hid (HG.out.trans (hb1.mono HG.out.size))
    clear hb1
    go_wp2
    go_ret2
    exact retIi_nil (HB.out.trans ((show Below w1.heap.size w1 (w1.alloc (.cells #[] 2)) by go_grown).mono HB.out.size))

set_option maxRecDepth 100000 in
set_option maxHeartbeats 4000000 in
theorem pathDerI (P : List Fn) (f pick : Int) (zss : List (List Int)) {PA : Option Addr} {pcap : Nat} {A : Option Addr} (w : World) (hP : ProgIn w P PA pcap) (hA : RowsIn w A zss) :
    Calls Tryz.prog 35 #[prV PA P.length pcap, .int .i64 f, .int .i64 pick, .slice A zss.length zss.length] w (RetIi (pathdV P f pick zss).1 (pathdV P f pick zss).2 w) := by
  have hpm : pcap ≤ 9223372036854775807 := by have := hP.pm; unfold maxLen at this; omega
  have hAsk : Hid (∀ wx, Below w.heap.size w wx → Calls Tryz.prog 59 #[prV PA P.length pcap, .int .i64 f] wx fun e w' => e = .returned (.int .i64 (askV P f)) ∧ Below wx.heap.size wx w') := fun wx hx =>
    isFunc_any P f w.heap.size PA pcap wx (hP.fns.below hx) hP.pl hP.pm hx.size hP.sz
  have hzl := hA.lens.1
  have hzt := hA.lens.2
  have HP := Lib.hid hP
  have HA := Lib.hid hA
  by_cases hv : askV P f = 0
  · obtain ⟨hok, m, g, rfl, hg⟩ := askV_zero hv
    have hag := pathV_ask (zss := zss) hv hg
    have hml : m < P.length := (List.getElem?_eq_some_iff.1 hg).1
    have hml2 : (m : Int) < (P.length : Int) := by omega
    have ho12 := (fnIn hok hg).o12
    obtain ⟨qa, hqa⟩ : ∃ q, q = (decide ((zss.length : Int) = g.params) && rowsB zss) := ⟨_, rfl⟩
    have hNum : Hid (∀ wx, Below w.heap.size w wx → Calls Tryz.prog 60 #[.slice A zss.length zss.length, .int .i64 g.params] wx fun e w' => e = .returned (.bool qa) ∧ wx = w') := fun wx hx => by
      rw [hqa]; exact areArgs_any A zss.length zss g.params wx (HA.out.rows.below hx) hzl hzt
    rw [← hqa] at hag
    have HG := Lib.hid hg
    obtain ⟨bP, oP, rfl, hbP, _⟩ := hP.fns.get hg
    have HF : Hid (∀ wx, Below w.heap.size w wx → ∃ KF cF, wx.cell? ⟨bP, oP + m * 3 + 1, none⟩ = some (.int .i64 g.params) ∧ wx.cell? ⟨bP, oP + m * 3 + 2, none⟩ = some (.slice KF g.outs.len cF) ∧ cF ≤ 9223372036854775807) := fun wx hx => by
      obtain ⟨bP', oP', e', _, _, g1, _, KF, cF, g2, _, hmF, _⟩ := (HP.out.fns.below hx).get HG.out
      obtain ⟨rfl, rfl⟩ : bP = bP' ∧ oP = oP' := by simpa using e'
      unfold maxLen at hmF
      exact ⟨KF, cF, g1, g2, by omega⟩
    rw [hv] at hAsk
    obtain ⟨qb, hqb⟩ : ∃ q, q = inR pick 0 ((g.outs.len : Int) - 1) := ⟨_, rfl⟩
    have hIn : Hid (∀ wx, Calls Tryz.prog 50 #[.int .i64 pick, .int .i64 0, .int .i64 ((g.outs.len : Int) - 1)] wx fun e w' => e = .returned (.bool qb) ∧ wx = w') := fun wx => by
      rw [hqb]; exact within_any _ _ _ _
    by_cases hboth : qa = true ∧ qb = true
    · obtain ⟨rfl, rfl⟩ := hboth
      rw [if_pos rfl] at hag
      obtain ⟨m', g', hm', hin⟩ := (pathV_zero hag).2
      obtain rfl : m = m' := by omega
      obtain rfl : g = g' := by have := hin.fn.fn; rw [hg] at this; simpa using this
      have HIN := Lib.hid hin
      have hn1 := hin.n1
      have hn0 := hin.n0
      have hpi := inR_true.1 hqb.symm
      obtain ⟨pk, rfl⟩ := Int.eq_ofNat_of_zero_le hpi.1
      have hpk : pk < g.outs.len := by omega
      obtain ⟨oo, hoo⟩ : ∃ o : Int, o = (sizeN zss : Int) - 1 := ⟨_, rfl⟩
      have HOF : Hid (∀ wx, Below w.heap.size w wx → Calls Tryz.prog 62 #[.slice A zss.length zss.length] wx fun e w' => e = .returned (.int .i64 oo) ∧ wx = w') := fun wx hx => by
        rw [hoo]
        exact orderOf_any A zss.length zss wx (HA.out.rows.below hx) hzl hn1
      have HEV : Hid (∀ wx, Below w.heap.size w wx → Calls Tryz.prog 61 #[prV (some ⟨bP, oP, none⟩) P.length pcap, .int .i64 m, .slice A zss.length zss.length, .int .i64 oo] wx (EvalPost (sizeN zss) (evalR (sizeN zss) P g.outs zss) wx)) := fun wx hx => by
        rw [hoo]
        exact evaluated_any P m g (sizeN zss) A zss.length w.heap.size zss w.heap.size (some ⟨bP, oP, none⟩) pcap wx (HP.out.fns.below hx) HP.out.pl HP.out.pm hx.size HIN.out.ok HIN.out.fn
          ((HA.out.env (sizeN zss) w.heap.size (Nat.le_refl _) HIN.out.rows).only (Only.of_below hx)) HIN.out.len (Nat.le_refl _) (by unfold maxLen; omega) HIN.out.n0 HIN.out.n1
      have HV : Hid (pathdV P m pk zss = pathdRes (evalR (sizeN zss) P g.outs zss) pk) := by
        show _ = _
        have h2 : pathpV P m pk zss = 0 := by unfold pathpV; rw [if_pos hag, outsN_of hg, ← hqb]; rfl
        unfold pathdV
        rw [if_pos h2]
        simp only [Int.toNat_natCast, hg]
      have hlen : ∀ zs t, evalR (sizeN zss) P g.outs zss = .ok zs t → zs.length = g.outs.len := fun zs t h => evalR_len h
      have herr : ∀ c, evalR (sizeN zss) P g.outs zss = .err c → c ≠ 0 := fun c h => evalR_err h
      rw [HV.out]
      clear hag hg hv hP hA hok hin hm' hoo hqa hqb hpi
      generalize evalR (sizeN zss) P g.outs zss = R at *
      generalize sizeN zss = n at *
      cases R with
      | err c =>
        have hc := herr c rfl
        have hc1 : (c == 0) = false := by simpa using hc
        clear hlen herr
        simp only [pathdRes]
        go_enter Tryz.func35, Tryz.ntmps35
        go_wp2_with fail
        refine (hAsk.out _ (by go_grown)).mono ?_; rintro e w1 ⟨rfl, hb1⟩
        obtain ⟨q1, q2⟩ := prBox (C := [Value.slice (some ⟨bP, oP, none⟩) P.length pcap]) hb1
        have Q2 := Lib.hid q2
        have a0 : w1.cell? ⟨w.heap.size, 0, none⟩ = some (.slice (some ⟨bP, oP, none⟩) P.length pcap) := by rw [q1.cell]; rfl
        obtain ⟨KF, cF, g1, g2, hcF⟩ := HF.out w1 Q2.out
        clear q1 q2 hb1
        go_wp2_with (first | (go_at_call 60; refine (hNum.out _ Q2.out).mono ?_; rintro e w' ⟨rfl, rfl⟩) | (go_at_call 50; refine (hIn.out _).mono ?_; rintro e w' ⟨rfl, rfl⟩))
        have A0 := Lib.hid a0
        have HQ : Hid (∀ wx, Below w1.heap.size w1 wx → Below w.heap.size w wx) := fun wx hx => bnext Q2.out hx
        go_region_held3 (fun wx => wx.cell? ⟨w.heap.size, 0, none⟩ = some (.slice (some ⟨bP, oP, none⟩) P.length pcap))
          (first | exact A0.out | go_keep | exact keepC A0.out hb3)
          (first
            | (go_at_call 62; refine (HOF.out _ (HQ.out _ (by first | exact (Below.refl _ _).drew | exact below_drewN' (Below.refl _ _) _ | exact Below.refl _ _))).mono ?_; rintro e w' ⟨rfl, rfl⟩)
            | (go_at_call 61; refine (HEV.out _ (HQ.out _ (by first | exact (Below.refl _ _).drew | exact below_drewN' (Below.refl _ _) _ | exact Below.refl _ _))).mono ?_; rintro e w3 ⟨hb3', rfl⟩; have hb3 : Below w1.heap.size w1 w3 := by first | exact bdrew hb3' | exact bdrewN hb3' | exact hb3'))
        have HPF := Lib.hid (HQ.out _ hb3)
        clear hb3' hb3 a0 g1 g2
        go_wp2
        go_ret2
        exact retIi_nil HPF.out
      | ok zs t =>
        have hzl' := hlen zs t rfl
        have hpz : pk < zs.length := by omega
        have hz12 : zs.length ≤ 12 := by omega
        clear hlen herr hzl'
        simp only [pathdRes]
        go_enter Tryz.func35, Tryz.ntmps35
        go_wp2_with fail
        refine (hAsk.out _ (by go_grown)).mono ?_; rintro e w1 ⟨rfl, hb1⟩
        obtain ⟨q1, q2⟩ := prBox (C := [Value.slice (some ⟨bP, oP, none⟩) P.length pcap]) hb1
        have Q2 := Lib.hid q2
        have a0 : w1.cell? ⟨w.heap.size, 0, none⟩ = some (.slice (some ⟨bP, oP, none⟩) P.length pcap) := by rw [q1.cell]; rfl
        have al : w.heap.size < w1.heap.size := q1.lt
        obtain ⟨KF, cF, g1, g2, hcF⟩ := HF.out w1 Q2.out
        clear q1 q2 hb1
        go_wp2_with (first | (go_at_call 60; refine (hNum.out _ Q2.out).mono ?_; rintro e w' ⟨rfl, rfl⟩) | (go_at_call 50; refine (hIn.out _).mono ?_; rintro e w' ⟨rfl, rfl⟩))
        have A0 := Lib.hid a0
        have HQ : Hid (∀ wx, Below w1.heap.size w1 wx → Below w.heap.size w wx) := fun wx hx => bnext Q2.out hx
        go_region_held3 (fun wx => wx.cell? ⟨w.heap.size, 0, none⟩ = some (.slice (some ⟨bP, oP, none⟩) P.length pcap))
          (first | exact A0.out | go_keep | exact keepC A0.out hb3)
          (first
            | (go_at_call 62; refine (HOF.out _ (HQ.out _ (by first | exact (Below.refl _ _).drew | exact below_drewN' (Below.refl _ _) _ | exact Below.refl _ _))).mono ?_; rintro e w' ⟨rfl, rfl⟩)
            | (go_at_call 61; refine (HEV.out _ (HQ.out _ (by first | exact (Below.refl _ _).drew | exact below_drewN' (Below.refl _ _) _ | exact Below.refl _ _))).mono ?_; rintro e w3 ⟨hb3', Ao, cpo, rfl, hNew⟩; have hb3 : Below w1.heap.size w1 w3 := by first | exact bdrew hb3' | exact bdrewN hb3' | exact hb3'))
        have HPF := Lib.hid (HQ.out _ hb3)
        have hN : NewRows w3 w1.heap.size n (.slice Ao zs.length cpo) zs := hNew
        obtain ⟨b, o, b', o', ca, rfl, h1, hI, hrl, hrs⟩ := newRow hN (by omega) hpz hn0
        have HD := derivative_any (some ⟨b', o', none⟩) ca (zs.getD pk []) w3 hI (by omega) (by omega) hrs
        have hdl : (dvL (zs.getD pk [])).length = n := by rw [dvL_length]; exact hrl
        rw [hrl] at HD
        have HD := Lib.hid HD
        have HDL := Lib.hid hdl
        have hpzI : (pk : Int) < (zs.length : Int) := by omega
        clear hb3' hb3 a0 g1 g2 hNew hN hI hrl hrs hdl
        generalize dvL (zs.getD pk []) = dv at *
        go_wp2_with fail
        refine HD.out.mono ?_; rintro e w4 ⟨rfl, hCd, hb4⟩
        have HI4 : Hid (IntsM w4 w3.heap.size (some ⟨w3.heap.size, 0, none⟩) dv) := hCd.intsM' (Nat.le_refl _)
        have HB4 := Lib.hid hb4
        clear hCd hb4
        go_wp2
        go_ret2
        exact ⟨bnext HPF.out HB4.out, some ⟨w3.heap.size, 0, none⟩, _, rfl, riMono (w := w) (HI4.out.reg HB4.out.size) HPF.out.size (Nat.le_refl _) rfl⟩
    · have HV : Hid (pathdV P m pick zss = ([], 2)) := by
        show _ = _
        have h2 : pathpV P m pick zss = 2 := by
          unfold pathpV
          cases qa
          · rw [hag, if_neg (by decide)]; rfl
          · rw [hag, if_pos (by rfl), outsN_of hg, ← hqb]
            cases qb
            · rfl
            · exact absurd ⟨rfl, rfl⟩ hboth
        unfold pathdV
        rw [h2]; rfl
      rw [HV.out]
      clear hag hg hv hP hA hok hqa hqb
      cases qa
      · go_enter Tryz.func35, Tryz.ntmps35
        go_wp2_with fail
        refine (hAsk.out _ (by go_grown)).mono ?_; rintro e w1 ⟨rfl, hb1⟩
        obtain ⟨q1, q2⟩ := prBox (C := [Value.slice (some ⟨bP, oP, none⟩) P.length pcap]) hb1
        have Q2 := Lib.hid q2
        have a0 : w1.cell? ⟨w.heap.size, 0, none⟩ = some (.slice (some ⟨bP, oP, none⟩) P.length pcap) := by rw [q1.cell]; rfl
        obtain ⟨KF, cF, g1, g2, hcF⟩ := HF.out w1 Q2.out
        clear q1 q2 hb1
        go_wp2_with (first | (go_at_call 60; refine (hNum.out _ Q2.out).mono ?_; rintro e w' ⟨rfl, rfl⟩) | (go_at_call 50; refine (hIn.out _).mono ?_; rintro e w' ⟨rfl, rfl⟩))
        go_ret2
        exact retIi_nil Q2.out
      · cases qb
        · go_enter Tryz.func35, Tryz.ntmps35
          go_wp2_with fail
          refine (hAsk.out _ (by go_grown)).mono ?_; rintro e w1 ⟨rfl, hb1⟩
          obtain ⟨q1, q2⟩ := prBox (C := [Value.slice (some ⟨bP, oP, none⟩) P.length pcap]) hb1
          have Q2 := Lib.hid q2
          have a0 : w1.cell? ⟨w.heap.size, 0, none⟩ = some (.slice (some ⟨bP, oP, none⟩) P.length pcap) := by rw [q1.cell]; rfl
          obtain ⟨KF, cF, g1, g2, hcF⟩ := HF.out w1 Q2.out
          clear q1 q2 hb1
          go_wp2_with (first | (go_at_call 60; refine (hNum.out _ Q2.out).mono ?_; rintro e w' ⟨rfl, rfl⟩) | (go_at_call 50; refine (hIn.out _).mono ?_; rintro e w' ⟨rfl, rfl⟩))
          go_ret2
          exact retIi_nil Q2.out
        · exact absurd ⟨rfl, rfl⟩ hboth
  · have h1 := pathV_no (zss := zss) hv
    have h2 : pathpV P f pick zss = askV P f := by unfold pathpV; rw [h1, if_neg hv]
    have HV : Hid (pathdV P f pick zss = ([], askV P f)) := by show _ = _; unfold pathdV; rw [h2, if_neg hv]
    rw [HV.out]
    clear h1 h2
    generalize askV P f = V at *
    have hv1 : (V == 0) = false := by simpa using hv
    go_enter Tryz.func35, Tryz.ntmps35
    go_wp2_with fail
    refine (hAsk.out _ (by go_grown)).mono ?_; rintro e w1 ⟨rfl, hb1⟩
    have Q2 := Lib.hid (prBox (C := [Value.slice PA P.length pcap]) hb1).2
    clear hb1
    go_wp2
    go_ret2
    exact retIi_nil Q2.out

theorem pathdV_len (P : List Fn) (f pick : Int) (zss : List (List Int)) : (pathdV P f pick zss).1.length ≤ 4194304 := by
  unfold pathdV
  split
  · rename_i h
    obtain ⟨_, m, g, rfl, hin⟩ := pathV_zero (pathpV_zero h).1
    simp only [Int.toNat_natCast, hin.fn.fn]
    cases hr : evalR (sizeN zss) P g.outs zss with
    | err c => simp [pathdRes]
    | ok zs t =>
      have h3 := evalR_rows (fun a ha => by rw [(hin.rows a ha).1]; exact Nat.le_refl _) hr
      have hn1 := hin.n1
      simp only [pathdRes, dvL_length]
      by_cases hp : pick.toNat < zs.length
      · rw [show zs.getD pick.toNat [] = zs[pick.toNat] by simp [List.getD, hp]]
        have := h3 _ (List.getElem_mem hp)
        omega
      · rw [show zs.getD pick.toNat [] = [] by simp [List.getD, hp]]; simp
  · simp

end Go.Proofs.YtjohkheclglpjaaGreat

/- The walk of the law FnExactPathDerivative. -/
namespace Go.Proofs.YtjohkheclglpjaaGreat
open Go.RowKit Plain

set_option maxRecDepth 100000 in
set_option maxHeartbeats 1000000 in
theorem lawExactPathDerivative_0 (P0 : List Fn) (A0 : Option Addr) (cap0 : Nat) (a1 : Int) (a2 : Int) (A3 : Option Addr) (cap3 : Nat) (z3 : List (List Int)) (w : World) (h0 : FnSl w w.heap.size P0 A0) (_hl0 : P0.length ≤ cap0) (hm0 : cap0 ≤ maxLen) (_w1 : (Lit.int .i64 a1).wf = true) (_w2 : (Lit.int .i64 a2).wf = true) (h3 : RowsAt w A3 z3) (hm3 : z3.length ≤ 9223372036854775807)  (c0 : ¬ fnSize P0 ≤ 1048576) :
    Calls Tryz.prog 8 #[prV A0 P0.length cap0, .int .i64 a1, .int .i64 a2, .slice A3 z3.length cap3] w fun e w' => e = .returned (.bool true) ∧ Below w.heap.size w w' := by
  have C0 := Lib.hid c0; clear c0
  have S0 := Lib.hid h0; clear h0
  have HM0 : cap0 ≤ 9223372036854775807 := by have := hm0; unfold maxLen at this; omega
  have S3 := Lib.hid h3; clear h3
  have HM3 : z3.length ≤ 9223372036854775807 := by have := hm3; omega
  have HB0 : Hid (Below w.heap.size w (w.alloc (.cells #[.slice A0 P0.length cap0] 24))) := by show Below _ _ _; go_grown
  go_enter Tryz.func8, Tryz.ntmps8
  go_wp2_with fail
  refine (szProgram_any P0 A0 cap0 w.heap.size 1048576 _ (S0.out.below HB0.out) HB0.out.size (by omega) (by omega) (by omega)).mono ?_; rintro e w1 ⟨rfl, hb1⟩
  have HB1 := Lib.hid (bnext HB0.out hb1); clear hb1
  rw [szV_no (by have := C0.out; omega)]
  go_wp2
  go_ret
  exact ⟨rfl, HB1.out⟩

set_option maxRecDepth 100000 in
set_option maxHeartbeats 1000000 in
theorem lawExactPathDerivative_1 (P0 : List Fn) (A0 : Option Addr) (cap0 : Nat) (a1 : Int) (a2 : Int) (A3 : Option Addr) (cap3 : Nat) (z3 : List (List Int)) (w : World) (h0 : FnSl w w.heap.size P0 A0) (hl0 : P0.length ≤ cap0) (hm0 : cap0 ≤ maxLen) (_w1 : (Lit.int .i64 a1).wf = true) (_w2 : (Lit.int .i64 a2).wf = true) (h3 : RowsAt w A3 z3) (hm3 : z3.length ≤ 9223372036854775807) (c0 : fnSize P0 ≤ 1048576) (c1 : ¬ (ssSize z3 : Int) ≤ 1048576 - (fnSize P0 : Int)) :
    Calls Tryz.prog 8 #[prV A0 P0.length cap0, .int .i64 a1, .int .i64 a2, .slice A3 z3.length cap3] w fun e w' => e = .returned (.bool true) ∧ Below w.heap.size w w' := by
  have C0 := Lib.hid c0; clear c0
  have C1 := Lib.hid c1; clear c1
  have S0 := Lib.hid h0; clear h0
  have HM0 : cap0 ≤ 9223372036854775807 := by have := hm0; unfold maxLen at this; omega
  have S3 := Lib.hid h3; clear h3
  have HM3 : z3.length ≤ 9223372036854775807 := by have := hm3; omega
  have HB0 : Hid (Below w.heap.size w (w.alloc (.cells #[.slice A0 P0.length cap0] 24))) := by show Below _ _ _; go_grown
  go_enter Tryz.func8, Tryz.ntmps8
  go_wp2_with fail
  refine (szProgram_any P0 A0 cap0 w.heap.size 1048576 _ (S0.out.below HB0.out) HB0.out.size (by omega) (by omega) (by omega)).mono ?_; rintro e w1 ⟨rfl, hb1⟩
  have HB1 := Lib.hid (bnext HB0.out hb1); clear hb1
  rw [szV_yes (by have := C0.out; omega)]
  obtain ⟨l0, hl0⟩ : ∃ l0 : Int, l0 = 1048576 - fnSize P0 := ⟨_, rfl⟩
  rw [← hl0]
  have lo0 : 0 ≤ l0 := by have := C0.out; omega
  have hi0 : l0 ≤ 1048576 := by omega
  have HL0 := Lib.hid hl0; clear hl0
  go_wp2_with fail
  refine (szSS_any A3 cap3 z3 l0 _ (S3.out.below HB1.out) (by omega) (by omega) (by omega)).mono ?_; rintro e w2 ⟨rfl, hb2⟩
  have HB2 := Lib.hid (bnext HB1.out hb2); clear hb2
  rw [szV_no (by have := C1.out; have := HL0.out; omega)]
  go_wp2
  go_ret
  exact ⟨rfl, HB2.out⟩

set_option maxRecDepth 100000 in
set_option maxHeartbeats 8000000 in
theorem lawExactPathDerivative_ok (P0 : List Fn) (A0 : Option Addr) (cap0 : Nat) (a1 : Int) (a2 : Int) (A3 : Option Addr) (cap3 : Nat) (z3 : List (List Int)) (w : World) (h0 : FnSl w w.heap.size P0 A0) (_hl0 : P0.length ≤ cap0) (_hm0 : cap0 ≤ maxLen) (_w1 : (Lit.int .i64 a1).wf = true) (_w2 : (Lit.int .i64 a2).wf = true) (h3 : RowsAt w A3 z3) (_hm3 : z3.length ≤ 9223372036854775807) (c0 : fnSize P0 ≤ 1048576) (c1 : (ssSize z3 : Int) ≤ 1048576 - (fnSize P0 : Int)) :
    Calls Tryz.prog 8 #[prV A0 P0.length cap0, .int .i64 a1, .int .i64 a2, .slice A3 z3.length cap3] w fun e w' => e = .returned (.bool true) ∧ Below w.heap.size w w' := by
  have C0 := Lib.hid c0; clear c0
  have C1 := Lib.hid c1; clear c1
  have S0 := Lib.hid h0; clear h0
  have Z0 : Hid (fnSize P0 ≤ 1048576) := by have := C0.out; show _ ≤ _; omega
  have pl0 : P0.length ≤ 1048576 := by have := Z0.out; unfold fnSize at this; omega
  have S3 := Lib.hid h3; clear h3
  have Z3 : Hid (ssSize z3 ≤ 1048576) := by have := C1.out; show _ ≤ _; omega
  have ll3 : z3.length ≤ 1048576 := by have := Z3.out; unfold ssSize at this; omega
  have tt3 : tot z3 ≤ 1048576 := by have := Z3.out; unfold ssSize at this; omega
  obtain ⟨v0, hv0⟩ : ∃ v : List Int, v = (pathdV P0 a1 a2 z3).1 := ⟨_, rfl⟩
  obtain ⟨v1, hv1⟩ : ∃ v : Int, v = (pathdV P0 a1 a2 z3).2 := ⟨_, rfl⟩
  have n0 : v0.length ≤ 4194304 := by rw [hv0]; exact pathdV_len P0 a1 a2 z3
  have V0 := Lib.hid hv0; clear hv0
  have V1 := Lib.hid hv1; clear hv1
  have HB0 : Hid (Below w.heap.size w (w.alloc (.cells #[.slice A0 P0.length cap0] 24))) := by show Below _ _ _; go_grown
  have HS0 := Lib.hid HB0.out.size
  have BX0_0 : Hid (Reg (w.alloc (.cells #[.slice A0 P0.length cap0] 24)) (w.heap.size) (w.heap.size + 1) (fun w' => Cells w' (w.heap.size) 24 [.slice A0 P0.length cap0])) := regBox (Cells.new w 24 [.slice A0 P0.length cap0])
  have HQB0 := Lib.hid BX0_0.out.size
  go_enter Tryz.func8, Tryz.ntmps8
  have qBX0_0 : World.cell? (w.alloc (.cells #[.slice A0 P0.length cap0] 24)) ⟨w.heap.size, 0, none⟩ = some (.slice A0 P0.length cap0) := by rw [BX0_0.out.now.cell]; rfl
  go_wp2_with fail
  refine (szProgram_any P0 A0 cap0 w.heap.size 1048576 _ (S0.out.below HB0.out) HB0.out.size (by omega) (by omega) (by omega)).mono ?_; rintro e w1 ⟨rfl, hb1⟩
  clear qBX0_0
  have HB1 := Lib.hid (bnext HB0.out hb1)
  have BX0_1 := Lib.hid (BX0_0.out.below hb1); clear BX0_0
  have HS1 := Lib.hid hb1.size
  clear hb1
  rw [szV_yes (by have := C0.out; omega)]
  obtain ⟨l0, hl0⟩ : ∃ l0 : Int, l0 = 1048576 - fnSize P0 := ⟨_, rfl⟩
  rw [← hl0]
  have lo0 : 0 ≤ l0 := by have := C0.out; omega
  have hi0 : l0 ≤ 1048576 := by omega
  have HL0 := Lib.hid hl0; clear hl0
  have qBX0_0 : World.cell? w1 ⟨w.heap.size, 0, none⟩ = some (.slice A0 P0.length cap0) := by rw [BX0_1.out.now.cell]; rfl
  go_wp2_with fail
  refine (szSS_any A3 cap3 z3 l0 _ (S3.out.below HB1.out) (by omega) (by omega) (by omega)).mono ?_; rintro e w2 ⟨rfl, hb2⟩
  clear qBX0_0
  have HB2 := Lib.hid (bnext HB1.out hb2)
  have BX0_2 := Lib.hid (BX0_1.out.below hb2); clear BX0_1
  have HS2 := Lib.hid hb2.size
  clear hb2
  rw [szV_yes (by have := C1.out; have := HL0.out; omega)]
  obtain ⟨l1, hl1⟩ : ∃ l1 : Int, l1 = l0 - ssSize z3 := ⟨_, rfl⟩
  rw [← hl1]
  have lo1 : 0 ≤ l1 := by have := C1.out; have := HL0.out; omega
  have hi1 : l1 ≤ 1048576 := by omega
  have HL1 := Lib.hid hl1; clear hl1
  have qBX0_0 : World.cell? w2 ⟨w.heap.size, 0, none⟩ = some (.slice A0 P0.length cap0) := by rw [BX0_2.out.now.cell]; rfl
  go_wp2_with fail
  refine (toProgR Z0.out cap0 (S0.out.below HB2.out) HB2.out.size).mono ?_; rintro e w3 ⟨g3, hg3, rfl, hX3, hb3⟩
  clear qBX0_0
  have HB3 := Lib.hid (bnext HB2.out hb3)
  have BX0_3 := Lib.hid (BX0_2.out.below hb3); clear BX0_2
  have HS3 := Lib.hid hb3.size
  clear hb3
  have HG3 := Lib.hid hg3; clear hg3
  have U0_3 := Lib.hid hX3; clear hX3
  have HQ3 := Lib.hid U0_3.out.le
  have qBX0_0 : World.cell? w3 ⟨w.heap.size, 0, none⟩ = some (.slice A0 P0.length cap0) := by rw [BX0_3.out.now.cell]; rfl
  go_wp2_with fail
  refine (toSSR A3 cap3 z3 _ (S3.out.below HB3.out) (by omega) (by omega)).mono ?_; rintro e w4 ⟨C4, gs4, rfl, hX4, hb4⟩
  clear qBX0_0
  have HB4 := Lib.hid (bnext HB3.out hb4)
  have BX0_4 := Lib.hid (BX0_3.out.below hb4); clear BX0_3
  have U0_4 := Lib.hid (U0_3.out.below hb4); clear U0_3
  have HS4 := Lib.hid hb4.size
  clear hb4
  have R4 := Lib.hid hX4
  have U3_4 := Lib.hid hX4.rows; clear hX4
  have HQ4 := Lib.hid U3_4.out.le
  have qBX0_0 : World.cell? w4 ⟨w.heap.size, 0, none⟩ = some (.slice A0 P0.length cap0) := by rw [BX0_4.out.now.cell]; rfl
  go_wp2_with fail
  refine (pathDerS P0 a1 a2 z3 _ (regPIn U0_4.out Z0.out) (R4.out.rowsIn Z3.out)).mono ?_
  rw [← V0.out, ← V1.out]
  rintro e w5 ⟨hb5, AR0, cR0, rfl, hR5⟩
  clear U0_4
  clear U3_4
  clear R4
  clear qBX0_0
  have HB5 := Lib.hid (bnext HB4.out hb5)
  have BX0_5 := Lib.hid (BX0_4.out.below hb5); clear BX0_4
  have HS5 := Lib.hid hb5.size
  clear hb5
  have R0_5 := Lib.hid hR5; clear hR5
  have qBX0_0 : World.cell? w5 ⟨w.heap.size, 0, none⟩ = some (.slice A0 P0.length cap0) := by rw [BX0_5.out.now.cell]; rfl
  go_wp2_with fail
  refine (toProgR Z0.out cap0 (S0.out.below HB5.out) HB5.out.size).mono ?_; rintro e w6 ⟨g6, hg6, rfl, hX6, hb6⟩
  clear qBX0_0
  have HB6 := Lib.hid (bnext HB5.out hb6)
  have BX0_6 := Lib.hid (BX0_5.out.below hb6); clear BX0_5
  have R0_6 := Lib.hid (R0_5.out.below hb6); clear R0_5
  have HS6 := Lib.hid hb6.size
  clear hb6
  have HG6 := Lib.hid hg6; clear hg6
  have X0_6 := Lib.hid hX6; clear hX6
  have HQ6 := Lib.hid X0_6.out.le
  have qBX0_0 : World.cell? w6 ⟨w.heap.size, 0, none⟩ = some (.slice A0 P0.length cap0) := by rw [BX0_6.out.now.cell]; rfl
  go_wp2_with fail
  clear qBX0_0
  have hb7 : Below w6.heap.size w6 (w6.alloc (.cells #[.slice (some ⟨g6, 0, none⟩) P0.length P0.length] 31)) := by go_grown
  have BC7 : Hid (Cells (w6.alloc (.cells #[.slice (some ⟨g6, 0, none⟩) P0.length P0.length] 31)) w6.heap.size 31 [.slice (some ⟨g6, 0, none⟩) P0.length P0.length]) := Cells.new w6 31 [.slice (some ⟨g6, 0, none⟩) P0.length P0.length]
  change Calls _ _ _ (w6.alloc (.cells #[.slice (some ⟨g6, 0, none⟩) P0.length P0.length] 31)) _
  generalize (w6.alloc (.cells #[.slice (some ⟨g6, 0, none⟩) P0.length P0.length] 31)) = w7 at *
  have HB7 := Lib.hid (bnext HB6.out hb7)
  have BX0_7 := Lib.hid (BX0_6.out.below hb7); clear BX0_6
  have R0_7 := Lib.hid (R0_6.out.below hb7); clear R0_6
  have X0_7 := Lib.hid (X0_6.out.below hb7); clear X0_6
  have HS7 := Lib.hid hb7.size
  clear hb7
  have VX0_7 : Hid (Reg w7 w6.heap.size (w6.heap.size + 1) (fun w' => Cells w' w6.heap.size 31 [.slice (some ⟨g6, 0, none⟩) P0.length P0.length])) := regBox BC7.out
  clear BC7
  have HQ7 := Lib.hid VX0_7.out.size
  have qBX0_0 : World.cell? w7 ⟨w.heap.size, 0, none⟩ = some (.slice A0 P0.length cap0) := by rw [BX0_7.out.now.cell]; rfl
  have qVX0_0 : World.cell? w7 ⟨w6.heap.size, 0, none⟩ = some (.slice (some ⟨g6, 0, none⟩) P0.length P0.length) := by rw [VX0_7.out.now.cell]; rfl
  skip
  refine (toSSR A3 cap3 z3 _ (S3.out.below HB7.out) (by omega) (by omega)).mono ?_; rintro e w8 ⟨C8, gs8, rfl, hX8, hb8⟩
  clear qBX0_0 qVX0_0
  have HB8 := Lib.hid (bnext HB7.out hb8)
  have BX0_8 := Lib.hid (BX0_7.out.below hb8); clear BX0_7
  have R0_8 := Lib.hid (R0_7.out.below hb8); clear R0_7
  have X0_8 := Lib.hid (X0_7.out.below hb8); clear X0_7
  have VX0_8 := Lib.hid (VX0_7.out.below hb8); clear VX0_7
  have HS8 := Lib.hid hb8.size
  clear hb8
  have R8 := Lib.hid hX8
  have X3_8 := Lib.hid hX8.rows; clear hX8
  have HQ8 := Lib.hid X3_8.out.le
  have qBX0_0 : World.cell? w8 ⟨w.heap.size, 0, none⟩ = some (.slice A0 P0.length cap0) := by rw [BX0_8.out.now.cell]; rfl
  have qVX0_0 : World.cell? w8 ⟨w6.heap.size, 0, none⟩ = some (.slice (some ⟨g6, 0, none⟩) P0.length P0.length) := by rw [VX0_8.out.now.cell]; rfl
  go_wp2_with fail
  refine (pathDerI P0 a1 a2 z3 _ (regPIn X0_8.out Z0.out) (R8.out.rowsIn Z3.out)).mono ?_
  rw [← V0.out, ← V1.out]
  rintro e w9 ⟨hb9, AG0, cG0, rfl, hR9⟩
  clear qBX0_0 qVX0_0
  have HB9 := Lib.hid (bnext HB8.out hb9)
  have BX0_9 := Lib.hid (BX0_8.out.below hb9); clear BX0_8
  have R0_9 := Lib.hid (R0_8.out.below hb9); clear R0_8
  have X0_9 := Lib.hid (X0_8.out.below hb9); clear X0_8
  have VX0_9 := Lib.hid (VX0_8.out.below hb9); clear VX0_8
  have X3_9 := Lib.hid (X3_8.out.below hb9); clear X3_8
  have HS9 := Lib.hid hb9.size
  clear hb9
  have G0_9 := Lib.hid hR9; clear hR9
  clear R8
  have qBX0_0 : World.cell? w9 ⟨w.heap.size, 0, none⟩ = some (.slice A0 P0.length cap0) := by rw [BX0_9.out.now.cell]; rfl
  have qVX0_0 : World.cell? w9 ⟨w6.heap.size, 0, none⟩ = some (.slice (some ⟨g6, 0, none⟩) P0.length P0.length) := by rw [VX0_9.out.now.cell]; rfl
  go_wp2_with fail
  refine (eqR cG0 cR0 (regInts G0_9.out) (regInts R0_9.out) (by omega)).mono ?_; rintro e w10 ⟨rfl, hb10⟩
  clear qBX0_0 qVX0_0
  have HB10 := Lib.hid (bnext HB9.out hb10)
  have BX0_10 := Lib.hid (BX0_9.out.below hb10); clear BX0_9
  have R0_10 := Lib.hid (R0_9.out.below hb10); clear R0_9
  have X0_10 := Lib.hid (X0_9.out.below hb10); clear X0_9
  have VX0_10 := Lib.hid (VX0_9.out.below hb10); clear VX0_9
  have X3_10 := Lib.hid (X3_9.out.below hb10); clear X3_9
  have G0_10 := Lib.hid (G0_9.out.below hb10); clear G0_9
  have HS10 := Lib.hid hb10.size
  clear hb10
  have qBX0_0 : World.cell? w10 ⟨w.heap.size, 0, none⟩ = some (.slice A0 P0.length cap0) := by rw [BX0_10.out.now.cell]; rfl
  have qVX0_0 : World.cell? w10 ⟨w6.heap.size, 0, none⟩ = some (.slice (some ⟨g6, 0, none⟩) P0.length P0.length) := by rw [VX0_10.out.now.cell]; rfl
  go_wp2_with fail
  have KT11 : Hid (∀ wx, Below w10.heap.size w10 wx → Calls Tryz.prog 13 #[prV A0 P0.length cap0] wx fun e w' => ∃ g, wx.heap.size ≤ g ∧ e = .returned (prV (some ⟨g, 0, none⟩) P0.length P0.length) ∧ Reg w' g w'.heap.size (ProgR g w'.heap.size P0) ∧ Below wx.heap.size wx w') := fun wx hx => toProgR Z0.out cap0 (S0.out.below (bnext HB10.out hx)) (bnext HB10.out hx).size
  have KS11 := Lib.hid (And.intro qVX0_0 qBX0_0)
  go_region_held3 (fun wx => wx.cell? ⟨w6.heap.size, 0, none⟩ = some (.slice (some ⟨g6, 0, none⟩) P0.length P0.length) ∧ wx.cell? ⟨w.heap.size, 0, none⟩ = some (.slice A0 P0.length cap0)) (first | exact KS11.out | exact KS11.out | go_keep | exact keep2 KS11.out hb11 | exact keep2 KS11.out (hb11.trans (hb12.mono hb11.size)))
    (first
      | (go_at_call 17; have _tk := hX11; (with_reducible refine (eqProgR _ _ (X0_10.out.below hb11) hX11 Z0.out).mono ?_); rintro e w12 ⟨rfl, hb12⟩)
      | (go_at_call 13; refine (KT11.out _ (by first | exact (Below.refl _ _).drew | exact below_drewN' (Below.refl _ _) _ | exact Below.refl _ _)).mono ?_; rintro e w11 ⟨g11, hg11, rfl, hX11, hb11'⟩; have hb11 : Below w10.heap.size w10 w11 := by first | exact bdrew hb11' | exact bdrewN hb11' | exact hb11'))
  clear hX11 hg11 hb11' KS11 KT11
  clear qBX0_0 qVX0_0
  have HB11 := Lib.hid (bnext HB10.out hb11)
  have BX0_11 := Lib.hid (BX0_10.out.below hb11); clear BX0_10
  have R0_11 := Lib.hid (R0_10.out.below hb11); clear R0_10
  have X0_11 := Lib.hid (X0_10.out.below hb11); clear X0_10
  have VX0_11 := Lib.hid (VX0_10.out.below hb11); clear VX0_10
  have X3_11 := Lib.hid (X3_10.out.below hb11); clear X3_10
  have G0_11 := Lib.hid (G0_10.out.below hb11); clear G0_10
  have HS11 := Lib.hid hb11.size
  clear hb11
  have HB12 := Lib.hid (bnext HB11.out hb12)
  have BX0_12 := Lib.hid (BX0_11.out.below hb12); clear BX0_11
  have R0_12 := Lib.hid (R0_11.out.below hb12); clear R0_11
  have X0_12 := Lib.hid (X0_11.out.below hb12); clear X0_11
  have VX0_12 := Lib.hid (VX0_11.out.below hb12); clear VX0_11
  have X3_12 := Lib.hid (X3_11.out.below hb12); clear X3_11
  have G0_12 := Lib.hid (G0_11.out.below hb12); clear G0_11
  have HS12 := Lib.hid hb12.size
  clear hb12
  have qBX0_0 : World.cell? w12 ⟨w.heap.size, 0, none⟩ = some (.slice A0 P0.length cap0) := by rw [BX0_12.out.now.cell]; rfl
  have qVX0_0 : World.cell? w12 ⟨w6.heap.size, 0, none⟩ = some (.slice (some ⟨g6, 0, none⟩) P0.length P0.length) := by rw [VX0_12.out.now.cell]; rfl
  go_wp2_with fail
  refine (toSSR A3 cap3 z3 _ (S3.out.below HB12.out) (by omega) (by omega)).mono ?_; rintro e w13 ⟨C13, gs13, rfl, hX13, hb13⟩
  clear qBX0_0 qVX0_0
  have HB13 := Lib.hid (bnext HB12.out hb13)
  have BX0_13 := Lib.hid (BX0_12.out.below hb13); clear BX0_12
  have R0_13 := Lib.hid (R0_12.out.below hb13); clear R0_12
  have X0_13 := Lib.hid (X0_12.out.below hb13); clear X0_12
  have VX0_13 := Lib.hid (VX0_12.out.below hb13); clear VX0_12
  have X3_13 := Lib.hid (X3_12.out.below hb13); clear X3_12
  have G0_13 := Lib.hid (G0_12.out.below hb13); clear G0_12
  have HS13 := Lib.hid hb13.size
  clear hb13
  have R13 := Lib.hid hX13
  have Y3_13 := Lib.hid hX13.rows; clear hX13
  have HQ13 := Lib.hid Y3_13.out.le
  have qBX0_0 : World.cell? w13 ⟨w.heap.size, 0, none⟩ = some (.slice A0 P0.length cap0) := by rw [BX0_13.out.now.cell]; rfl
  have qVX0_0 : World.cell? w13 ⟨w6.heap.size, 0, none⟩ = some (.slice (some ⟨g6, 0, none⟩) P0.length P0.length) := by rw [VX0_13.out.now.cell]; rfl
  go_wp2_with fail
  refine (eqSS_any _ _ _ _ z3 _ (regRows X3_13.out (by omega)) (regRows Y3_13.out (by omega)) (by omega) (by omega)).mono ?_; rintro e w14 ⟨rfl, hb14⟩
  clear Y3_13
  clear R13
  clear qBX0_0 qVX0_0
  have HB14 := Lib.hid (bnext HB13.out hb14)
  have BX0_14 := Lib.hid (BX0_13.out.below hb14); clear BX0_13
  have R0_14 := Lib.hid (R0_13.out.below hb14); clear R0_13
  have X0_14 := Lib.hid (X0_13.out.below hb14); clear X0_13
  have VX0_14 := Lib.hid (VX0_13.out.below hb14); clear VX0_13
  have X3_14 := Lib.hid (X3_13.out.below hb14); clear X3_13
  have G0_14 := Lib.hid (G0_13.out.below hb14); clear G0_13
  have HS14 := Lib.hid hb14.size
  clear hb14
  have qBX0_0 : World.cell? w14 ⟨w.heap.size, 0, none⟩ = some (.slice A0 P0.length cap0) := by rw [BX0_14.out.now.cell]; rfl
  have qVX0_0 : World.cell? w14 ⟨w6.heap.size, 0, none⟩ = some (.slice (some ⟨g6, 0, none⟩) P0.length P0.length) := by rw [VX0_14.out.now.cell]; rfl
  go_wp2_with fail
  refine (markProgR _ X0_14.out Z0.out (by omega) (by omega)).mono ?_; rintro e w15 ⟨k15, rfl, k015, k115, hO15⟩
  clear X0_14
  have k215 : 0 ≤ k15 := by omega
  have k315 : k15 ≤ 1 + 4194304 := by have := Z0.out; omega
  clear k015 k115
  clear qBX0_0 qVX0_0
  have hz15 : w.heap.size ≤ g6 ∧ g6 ≤ w6.heap.size ∧ w6.heap.size ≤ w14.heap.size := by have := HS0.out; have := HQB0.out; have := HS1.out; have := HS2.out; have := HS3.out; have := HG3.out; have := HQ3.out; have := HS4.out; have := HQ4.out; have := HS5.out; have := HS6.out; have := HG6.out; have := HQ6.out; have := HS7.out; have := HQ7.out; have := HS8.out; have := HQ8.out; have := HS9.out; have := HS10.out; have := HS11.out; have := HS12.out; have := HS13.out; have := HQ13.out; have := HS14.out; omega
  have HB15 := Lib.hid (belowRegion HB14.out hO15 hz15.1)
  have BX0_15 := Lib.hid (BX0_14.out.apart hO15 (by have := HS0.out; have := HQB0.out; have := HS1.out; have := HS2.out; have := HS3.out; have := HG3.out; have := HQ3.out; have := HS4.out; have := HQ4.out; have := HS5.out; have := HS6.out; have := HG6.out; have := HQ6.out; have := HS7.out; have := HQ7.out; have := HS8.out; have := HQ8.out; have := HS9.out; have := HS10.out; have := HS11.out; have := HS12.out; have := HS13.out; have := HQ13.out; have := HS14.out; omega)); clear BX0_14
  have R0_15 := Lib.hid (R0_14.out.apart hO15 (by have := HS0.out; have := HQB0.out; have := HS1.out; have := HS2.out; have := HS3.out; have := HG3.out; have := HQ3.out; have := HS4.out; have := HQ4.out; have := HS5.out; have := HS6.out; have := HG6.out; have := HQ6.out; have := HS7.out; have := HQ7.out; have := HS8.out; have := HQ8.out; have := HS9.out; have := HS10.out; have := HS11.out; have := HS12.out; have := HS13.out; have := HQ13.out; have := HS14.out; omega)); clear R0_14
  have VX0_15 := Lib.hid (VX0_14.out.apart hO15 (by have := HS0.out; have := HQB0.out; have := HS1.out; have := HS2.out; have := HS3.out; have := HG3.out; have := HQ3.out; have := HS4.out; have := HQ4.out; have := HS5.out; have := HS6.out; have := HG6.out; have := HQ6.out; have := HS7.out; have := HQ7.out; have := HS8.out; have := HQ8.out; have := HS9.out; have := HS10.out; have := HS11.out; have := HS12.out; have := HS13.out; have := HQ13.out; have := HS14.out; omega)); clear VX0_14
  have X3_15 := Lib.hid (X3_14.out.apart hO15 (by have := HS0.out; have := HQB0.out; have := HS1.out; have := HS2.out; have := HS3.out; have := HG3.out; have := HQ3.out; have := HS4.out; have := HQ4.out; have := HS5.out; have := HS6.out; have := HG6.out; have := HQ6.out; have := HS7.out; have := HQ7.out; have := HS8.out; have := HQ8.out; have := HS9.out; have := HS10.out; have := HS11.out; have := HS12.out; have := HS13.out; have := HQ13.out; have := HS14.out; omega)); clear X3_14
  have G0_15 := Lib.hid (G0_14.out.apart hO15 (by have := HS0.out; have := HQB0.out; have := HS1.out; have := HS2.out; have := HS3.out; have := HG3.out; have := HQ3.out; have := HS4.out; have := HQ4.out; have := HS5.out; have := HS6.out; have := HG6.out; have := HQ6.out; have := HS7.out; have := HQ7.out; have := HS8.out; have := HQ8.out; have := HS9.out; have := HS10.out; have := HS11.out; have := HS12.out; have := HS13.out; have := HQ13.out; have := HS14.out; omega)); clear G0_14
  have HS15 := Lib.hid hO15.size
  clear hO15 hz15
  have qBX0_0 : World.cell? w15 ⟨w.heap.size, 0, none⟩ = some (.slice A0 P0.length cap0) := by rw [BX0_15.out.now.cell]; rfl
  have qVX0_0 : World.cell? w15 ⟨w6.heap.size, 0, none⟩ = some (.slice (some ⟨g6, 0, none⟩) P0.length P0.length) := by rw [VX0_15.out.now.cell]; rfl
  go_wp2_with fail
  refine (markSSR _ X3_15.out (by omega) (by omega) (by omega) (by omega)).mono ?_; rintro e w16 ⟨rfl, _, hO16⟩
  clear X3_15
  obtain ⟨k16, hk16, k216, k316⟩ : ∃ k16 : Int, k16 = k15 + (tot z3 : Nat) ∧ 0 ≤ k16 ∧ k16 ≤ k15 + 1048576 := ⟨_, rfl, by omega, by omega⟩
  rw [← hk16]
  clear hk16
  clear qBX0_0 qVX0_0
  have hz16 : w.heap.size ≤ w7.heap.size ∧ w7.heap.size ≤ w8.heap.size ∧ w8.heap.size ≤ w15.heap.size := by have := HS0.out; have := HQB0.out; have := HS1.out; have := HS2.out; have := HS3.out; have := HG3.out; have := HQ3.out; have := HS4.out; have := HQ4.out; have := HS5.out; have := HS6.out; have := HG6.out; have := HQ6.out; have := HS7.out; have := HQ7.out; have := HS8.out; have := HQ8.out; have := HS9.out; have := HS10.out; have := HS11.out; have := HS12.out; have := HS13.out; have := HQ13.out; have := HS14.out; have := HS15.out; omega
  have HB16 := Lib.hid (belowRegion HB15.out hO16 hz16.1)
  have BX0_16 := Lib.hid (BX0_15.out.apart hO16 (by have := HS0.out; have := HQB0.out; have := HS1.out; have := HS2.out; have := HS3.out; have := HG3.out; have := HQ3.out; have := HS4.out; have := HQ4.out; have := HS5.out; have := HS6.out; have := HG6.out; have := HQ6.out; have := HS7.out; have := HQ7.out; have := HS8.out; have := HQ8.out; have := HS9.out; have := HS10.out; have := HS11.out; have := HS12.out; have := HS13.out; have := HQ13.out; have := HS14.out; have := HS15.out; omega)); clear BX0_15
  have R0_16 := Lib.hid (R0_15.out.apart hO16 (by have := HS0.out; have := HQB0.out; have := HS1.out; have := HS2.out; have := HS3.out; have := HG3.out; have := HQ3.out; have := HS4.out; have := HQ4.out; have := HS5.out; have := HS6.out; have := HG6.out; have := HQ6.out; have := HS7.out; have := HQ7.out; have := HS8.out; have := HQ8.out; have := HS9.out; have := HS10.out; have := HS11.out; have := HS12.out; have := HS13.out; have := HQ13.out; have := HS14.out; have := HS15.out; omega)); clear R0_15
  have VX0_16 := Lib.hid (VX0_15.out.apart hO16 (by have := HS0.out; have := HQB0.out; have := HS1.out; have := HS2.out; have := HS3.out; have := HG3.out; have := HQ3.out; have := HS4.out; have := HQ4.out; have := HS5.out; have := HS6.out; have := HG6.out; have := HQ6.out; have := HS7.out; have := HQ7.out; have := HS8.out; have := HQ8.out; have := HS9.out; have := HS10.out; have := HS11.out; have := HS12.out; have := HS13.out; have := HQ13.out; have := HS14.out; have := HS15.out; omega)); clear VX0_15
  have G0_16 := Lib.hid (G0_15.out.apart hO16 (by have := HS0.out; have := HQB0.out; have := HS1.out; have := HS2.out; have := HS3.out; have := HG3.out; have := HQ3.out; have := HS4.out; have := HQ4.out; have := HS5.out; have := HS6.out; have := HG6.out; have := HQ6.out; have := HS7.out; have := HQ7.out; have := HS8.out; have := HQ8.out; have := HS9.out; have := HS10.out; have := HS11.out; have := HS12.out; have := HS13.out; have := HQ13.out; have := HS14.out; have := HS15.out; omega)); clear G0_15
  have HS16 := Lib.hid hO16.size
  clear hO16 hz16
  have hkk : decide (k16 < 0) = false := by simpa using k216
  have qBX0_0 : World.cell? w16 ⟨w.heap.size, 0, none⟩ = some (.slice A0 P0.length cap0) := by rw [BX0_16.out.now.cell]; rfl
  have qVX0_0 : World.cell? w16 ⟨w6.heap.size, 0, none⟩ = some (.slice (some ⟨g6, 0, none⟩) P0.length P0.length) := by rw [VX0_16.out.now.cell]; rfl
  go_wp2_with fail
  refine (eqR cG0 cR0 (regInts G0_16.out) (regInts R0_16.out) (by omega)).mono ?_; rintro e w17 ⟨rfl, hb17⟩
  clear qBX0_0 qVX0_0
  have HB17 := Lib.hid (bnext HB16.out hb17)
  have BX0_17 := Lib.hid (BX0_16.out.below hb17); clear BX0_16
  have R0_17 := Lib.hid (R0_16.out.below hb17); clear R0_16
  have VX0_17 := Lib.hid (VX0_16.out.below hb17); clear VX0_16
  have G0_17 := Lib.hid (G0_16.out.below hb17); clear G0_16
  have HS17 := Lib.hid hb17.size
  clear hb17
  have qBX0_0 : World.cell? w17 ⟨w.heap.size, 0, none⟩ = some (.slice A0 P0.length cap0) := by rw [BX0_17.out.now.cell]; rfl
  have qVX0_0 : World.cell? w17 ⟨w6.heap.size, 0, none⟩ = some (.slice (some ⟨g6, 0, none⟩) P0.length P0.length) := by rw [VX0_17.out.now.cell]; rfl
  go_wp2_with fail
  refine (markR cG0 G0_17.out (by omega) (by omega) (by omega)).mono ?_; rintro e w18 ⟨rfl, hM18, hO18⟩
  clear G0_17
  clear qBX0_0 qVX0_0
  have hz18 : w.heap.size ≤ w8.heap.size ∧ w8.heap.size ≤ w9.heap.size ∧ w9.heap.size ≤ w17.heap.size := by have := HS0.out; have := HQB0.out; have := HS1.out; have := HS2.out; have := HS3.out; have := HG3.out; have := HQ3.out; have := HS4.out; have := HQ4.out; have := HS5.out; have := HS6.out; have := HG6.out; have := HQ6.out; have := HS7.out; have := HQ7.out; have := HS8.out; have := HQ8.out; have := HS9.out; have := HS10.out; have := HS11.out; have := HS12.out; have := HS13.out; have := HQ13.out; have := HS14.out; have := HS15.out; have := HS16.out; have := HS17.out; omega
  have HB18 := Lib.hid (belowRegion HB17.out hO18 hz18.1)
  have BX0_18 := Lib.hid (BX0_17.out.apart hO18 (by have := HS0.out; have := HQB0.out; have := HS1.out; have := HS2.out; have := HS3.out; have := HG3.out; have := HQ3.out; have := HS4.out; have := HQ4.out; have := HS5.out; have := HS6.out; have := HG6.out; have := HQ6.out; have := HS7.out; have := HQ7.out; have := HS8.out; have := HQ8.out; have := HS9.out; have := HS10.out; have := HS11.out; have := HS12.out; have := HS13.out; have := HQ13.out; have := HS14.out; have := HS15.out; have := HS16.out; have := HS17.out; omega)); clear BX0_17
  have R0_18 := Lib.hid (R0_17.out.apart hO18 (by have := HS0.out; have := HQB0.out; have := HS1.out; have := HS2.out; have := HS3.out; have := HG3.out; have := HQ3.out; have := HS4.out; have := HQ4.out; have := HS5.out; have := HS6.out; have := HG6.out; have := HQ6.out; have := HS7.out; have := HQ7.out; have := HS8.out; have := HQ8.out; have := HS9.out; have := HS10.out; have := HS11.out; have := HS12.out; have := HS13.out; have := HQ13.out; have := HS14.out; have := HS15.out; have := HS16.out; have := HS17.out; omega)); clear R0_17
  have VX0_18 := Lib.hid (VX0_17.out.apart hO18 (by have := HS0.out; have := HQB0.out; have := HS1.out; have := HS2.out; have := HS3.out; have := HG3.out; have := HQ3.out; have := HS4.out; have := HQ4.out; have := HS5.out; have := HS6.out; have := HG6.out; have := HQ6.out; have := HS7.out; have := HQ7.out; have := HS8.out; have := HQ8.out; have := HS9.out; have := HS10.out; have := HS11.out; have := HS12.out; have := HS13.out; have := HQ13.out; have := HS14.out; have := HS15.out; have := HS16.out; have := HS17.out; omega)); clear VX0_17
  have HS18 := Lib.hid hO18.size
  clear hO18 hz18
  have G0_18 := Lib.hid hM18; clear hM18
  have qBX0_0 : World.cell? w18 ⟨w.heap.size, 0, none⟩ = some (.slice A0 P0.length cap0) := by rw [BX0_18.out.now.cell]; rfl
  have qVX0_0 : World.cell? w18 ⟨w6.heap.size, 0, none⟩ = some (.slice (some ⟨g6, 0, none⟩) P0.length P0.length) := by rw [VX0_18.out.now.cell]; rfl
  go_wp2_with fail
  refine (heldR cG0 G0_18.out (by omega) (by omega) (by omega)).mono ?_; rintro e w' ⟨rfl, rfl⟩
  go_wp2_with fail
  clear VX0_18 qVX0_0
  refine (toProgR Z0.out cap0 (S0.out.below HB18.out) HB18.out.size).mono ?_; rintro e w19 ⟨g19, hg19, rfl, hX19, hb19⟩
  clear qBX0_0
  have HB19 := Lib.hid (bnext HB18.out hb19)
  have BX0_19 := Lib.hid (BX0_18.out.below hb19); clear BX0_18
  have R0_19 := Lib.hid (R0_18.out.below hb19); clear R0_18
  have G0_19 := Lib.hid (G0_18.out.below hb19); clear G0_18
  have HS19 := Lib.hid hb19.size
  clear hb19
  have HG19 := Lib.hid hg19; clear hg19
  have Q0_19 := Lib.hid hX19; clear hX19
  have HQ19 := Lib.hid Q0_19.out.le
  have qBX0_0 : World.cell? w19 ⟨w.heap.size, 0, none⟩ = some (.slice A0 P0.length cap0) := by rw [BX0_19.out.now.cell]; rfl
  go_wp2_with fail
  refine (toSSR A3 cap3 z3 _ (S3.out.below HB19.out) (by omega) (by omega)).mono ?_; rintro e w20 ⟨C20, gs20, rfl, hX20, hb20⟩
  clear qBX0_0
  have HB20 := Lib.hid (bnext HB19.out hb20)
  have BX0_20 := Lib.hid (BX0_19.out.below hb20); clear BX0_19
  have R0_20 := Lib.hid (R0_19.out.below hb20); clear R0_19
  have G0_20 := Lib.hid (G0_19.out.below hb20); clear G0_19
  have Q0_20 := Lib.hid (Q0_19.out.below hb20); clear Q0_19
  have HS20 := Lib.hid hb20.size
  clear hb20
  have R20 := Lib.hid hX20
  have Q3_20 := Lib.hid hX20.rows; clear hX20
  have HQ20 := Lib.hid Q3_20.out.le
  have qBX0_0 : World.cell? w20 ⟨w.heap.size, 0, none⟩ = some (.slice A0 P0.length cap0) := by rw [BX0_20.out.now.cell]; rfl
  go_wp2_with fail
  refine (pathDerI P0 a1 a2 z3 _ (regPIn Q0_20.out Z0.out) (R20.out.rowsIn Z3.out)).mono ?_
  rw [← V0.out, ← V1.out]
  rintro e w21 ⟨hb21, AJ0, cJ0, rfl, hR21⟩
  clear Q0_20
  clear Q3_20
  clear R20
  clear qBX0_0
  have HB21 := Lib.hid (bnext HB20.out hb21)
  have BX0_21 := Lib.hid (BX0_20.out.below hb21); clear BX0_20
  have R0_21 := Lib.hid (R0_20.out.below hb21); clear R0_20
  have G0_21 := Lib.hid (G0_20.out.below hb21); clear G0_20
  have HS21 := Lib.hid hb21.size
  clear hb21
  have J0_21 := Lib.hid hR21; clear hR21
  have qBX0_0 : World.cell? w21 ⟨w.heap.size, 0, none⟩ = some (.slice A0 P0.length cap0) := by rw [BX0_21.out.now.cell]; rfl
  go_wp2_with fail
  refine (eqR cJ0 cR0 (regInts J0_21.out) (regInts R0_21.out) (by omega)).mono ?_; rintro e w22 ⟨rfl, hb22⟩
  clear qBX0_0
  have HB22 := Lib.hid (bnext HB21.out hb22)
  have BX0_22 := Lib.hid (BX0_21.out.below hb22); clear BX0_21
  have R0_22 := Lib.hid (R0_21.out.below hb22); clear R0_21
  have G0_22 := Lib.hid (G0_21.out.below hb22); clear G0_21
  have J0_22 := Lib.hid (J0_21.out.below hb22); clear J0_21
  have HS22 := Lib.hid hb22.size
  clear hb22
  have qBX0_0 : World.cell? w22 ⟨w.heap.size, 0, none⟩ = some (.slice A0 P0.length cap0) := by rw [BX0_22.out.now.cell]; rfl
  go_wp2_with fail
  refine (heldR cG0 G0_22.out (by omega) (by omega) (by omega)).mono ?_; rintro e w' ⟨rfl, rfl⟩
  clear qBX0_0
  go_wp2
  go_ret
  exact ⟨rfl, HB22.out⟩

theorem lawExactPathDerivative (P0 : List Fn) (A0 : Option Addr) (cap0 : Nat) (a1 : Int) (a2 : Int) (A3 : Option Addr) (cap3 : Nat) (z3 : List (List Int)) (w : World) (h0 : FnSl w w.heap.size P0 A0) (hl0 : P0.length ≤ cap0) (hm0 : cap0 ≤ maxLen) (_w1 : (Lit.int .i64 a1).wf = true) (_w2 : (Lit.int .i64 a2).wf = true) (h3 : RowsAt w A3 z3) (hm3 : z3.length ≤ 9223372036854775807) :
    Calls Tryz.prog 8 #[prV A0 P0.length cap0, .int .i64 a1, .int .i64 a2, .slice A3 z3.length cap3] w fun e w' => e = .returned (.bool true) ∧ Below w.heap.size w w' := by
  by_cases c0 : fnSize P0 ≤ 1048576
  case neg => exact lawExactPathDerivative_0 P0 A0 cap0 a1 a2 A3 cap3 z3 w h0 hl0 hm0 _w1 _w2 h3 hm3 c0
  by_cases c1 : (ssSize z3 : Int) ≤ 1048576 - (fnSize P0 : Int)
  case neg => exact lawExactPathDerivative_1 P0 A0 cap0 a1 a2 A3 cap3 z3 w h0 hl0 hm0 _w1 _w2 h3 hm3 c0 c1
  exact lawExactPathDerivative_ok P0 A0 cap0 a1 a2 A3 cap3 z3 w h0 hl0 hm0 _w1 _w2 h3 hm3 c0 c1

end Go.Proofs.YtjohkheclglpjaaGreat

/- FnExactPathDerivative: for every program, function, output and list of series the program's PathDerivative returns what the reference's returns, in memory of its own. No condition. -/
namespace Go.Proofs.YtjohkheclglpjaaGreat.fnExactPathDerivative
open Go.ChangeShapes Go.WideShapes Go.ChangeAt Go.RowKit

theorem own : ownKnob Tryz.prog.godebug = none := by kernel_rfl
theorem laidOut : laidOutB Tryz.prog = true := by kernel_rfl

set_option maxRecDepth 100000 in
theorem lifted (os : Os) (started : os.Started) (H : Type) (enc : TypeId × Value → H) :
    ReturnsInHanded {} Tryz.checked os 8 .any (Rows.fnExactPathDerivativeSpec.pre6 enc Tryz.prog Tryz.f8 Rows.fnExactPathDerivativeRow.domain false) (Rows.fnExactPathDerivativeSpec.post enc Tryz.prog Tryz.f8 false true false false) := by
  refine returnsInHanded_of_change (C := Tryz.checked) own started (by kernel_rfl) Tryz.func8
    (ChangeSpec.witness6 (enc := enc) (C := Tryz.checked) false ⟨#[], #[.agg #[.slice none 0 0], .int .i64 0, .int .i64 0, .slice none 0 0], []⟩ 8 (by kernel_rfl) (by kernel_rfl) (by kernel_rfl) (by kernel_rfl)) ?_
  intro W base args ds gs before hval0 hW hcnd _
  have hval : ∀ (j : Nat) t v, Tryz.f8.params[j]? = some t → args[j]? = some v → Value.okWide Tryz.prog W .any base t v := hval0
  have hW' := hW
  obtain ⟨p, q, hA0, hV, rfl, hfz, hnd⟩ := hW
  have hA : DataW.TrodAll enc Tryz.prog W 0 (fun _ => true) true Tryz.f8.params.toList args.toList ds p := hA0
  rw [Tryz.params8] at hA hval
  obtain ⟨v0, vs0, d0, ds0, p0, q0, hargs, rfl, rfl, h0, r0⟩ := trodAll_cons hA
  obtain ⟨v1, vs1, d1, ds1, p1, q1, rfl, rfl, rfl, h1, r1⟩ := trodAll_cons r0
  obtain ⟨v2, vs2, d2, ds2, p2, q2, rfl, rfl, rfl, h2, r2⟩ := trodAll_cons r1
  obtain ⟨v3, vs3, d3, ds3, p3, q3, rfl, rfl, rfl, h3, r3⟩ := trodAll_cons r2
  obtain ⟨rfl, rfl, rfl⟩ := trodAll_nil r3
  obtain rfl : args = #[v0, v1, v2, v3] := by cases args; simp_all
  obtain ⟨rfl, rfl⟩ := trodVars_none hV
  obtain ⟨cs0, rfl, _⟩ := okWide_struct Tryz.underlying24 (hval 0 24 v0 rfl rfl)
  have k0 := h0
  have lt0 : ∀ x ∈ p0, x.block < W.heap.size := by obtain ⟨m, hm⟩ := k0; exact DataW.trod_lt m _ _ _ hm
  obtain ⟨a0, cap0, z0, e0, b0, m0, w0⟩ : ∃ (A : Option Addr) (cap : Nat) (fs : List Fn), cs0 = #[.slice A fs.length cap] ∧ fs.length ≤ cap ∧ cap ≤ maxLen ∧ FnSl W W.heap.size fs A := by
    obtain ⟨fuel, hf⟩ := h0
    obtain ⟨A, cap, fs, hcs, h1, h2, h3⟩ := open_program hf
    exact ⟨A, cap, fs, by cases cs0; simpa [Value.cells] using hcs, h1, h2, h3⟩
  subst e0
  obtain ⟨a1, rfl, rfl, rfl, w1⟩ := open_int Tryz.underlying2 (hval 1 2 v1 rfl rfl) h1
  obtain ⟨a2, rfl, rfl, rfl, w2⟩ := open_int Tryz.underlying2 (hval 2 2 v2 rfl rfl) h2
  obtain ⟨a3, len3, cap3, rfl⟩ := okWide_slice Tryz.underlying39 (hval 3 39 v3 rfl rfl)
  have k3 := h3
  have lt3 : ∀ x ∈ p3, x.block < W.heap.size := by obtain ⟨m, hm⟩ := k3; exact DataW.trod_lt m _ _ _ hm
  obtain ⟨z3, e3, m3, w3⟩ : ∃ zss : List (List Int), zss.length = len3 ∧ zss.length ≤ 9223372036854775807 ∧ RowsAt W a3 zss := by
    obtain ⟨fuel, hf⟩ := h3
    obtain ⟨A, cap, zss, hcs, h1, h2⟩ := open_lists hf
    simp [Value.cells] at hcs
    obtain ⟨rfl, rfl, rfl⟩ := hcs
    exact ⟨zss, rfl, h1, h2⟩
  subst e3
  clear hA0 hval0
  refine (lawExactPathDerivative z0 a0 cap0 a1 a2 a3 cap3 z3 W w0 b0 m0 w1 w2 w3 m3).mono fun e W' ⟨he, bel⟩ => ?_
  subst he
  exact ⟨_, rfl, _, _, _, [], _, [], hW', trodAll_mk1 (shut_bool Tryz.underlying4 _), (trodAll_cons_mk (Below.trod laidOut (by kernel_rfl) (of_decide_eq_true (by kernel_rfl)) k0 bel lt0) (trodAll_cons_mk (shut_int Tryz.underlying2 w1) (trodAll_cons_mk (shut_int Tryz.underlying2 w2) (trodAll_cons_mk (Below.trod laidOut (by kernel_rfl) (of_decide_eq_true (by kernel_rfl)) k3 bel lt3) trodAll_mk0)))), rfl, bel.frame _, fun h => by cases h⟩

theorem over : Rows.fnExactPathDerivativeRow.holds Tryz.pinned (OpenSpec.ofChange Rows.fnExactPathDerivativeSpec) :=
  OpenClaim.holds_of_wide 8 Tryz.f8 rfl rfl rfl rfl rfl rfl rfl ⟨rfl, rfl, rfl, rfl, rfl⟩ rfl rfl rfl rfl rfl (by kernel_rfl) Tryz.func8 (by kernel_rfl)
    (of_decide_eq_true (by kernel_rfl)) (by unfold Func.isWrapper; first | (rw [if_pos (by decide +kernel)]; kernel_rfl) | (rw [if_neg (by decide +kernel)]; exact ⟨rfl, rfl⟩))
    (fun os started H enc _ => lifted os started H enc)

theorem proved : Rows.FnExactPathDerivativeSaid := over
#print axioms proved
end Go.Proofs.YtjohkheclglpjaaGreat.fnExactPathDerivative
