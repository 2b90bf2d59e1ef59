/- Texts put together: WSv4, WSv5, WSv6, WSv7. -/
import Derived.Test.YtlnikpjcggfdmaaKK

/- Walks of the reference's evaluator: all outputs of a function, calls and loops. -/
namespace Go.Proofs.Ytlnikpjcggfdmaa
open Go.RowKit Plain

theorem elNext {w w' : World} {B bv n : Nat} {P : List Fn} {fn : Int} {es : Es} {K : Option Addr} {cap : Nat} {A : Option Addr} {env : List (List Int)} {ecap j b o : Nat} {x : Nd} (h : LsIn w B bv n P fn es K cap A env ecap) (ho : Only (fun q => q = bv) w w') (hx : es.get? j = some x) (he : ElAt w' B x.k x.n x.p x.c x.ks b o) : SdIn w' B bv n P fn x b o A env ecap :=
  ⟨he, h.envA.only ho, h.el, h.em, by have := h.big; have := Es.get?_depth hx; omega, by have := h.size; have := Es.get?_size hx; omega, h.form j _ hx, h.f0, h.f1⟩
def OutsC (P : List Fn) (n f : Nat) : Prop := ∀ (es : Es) (env : List (List Int)) (s : Int) (t : Nat) (c0 fn : Int) (K : Option Addr) (cap bf of_ B bv : Nat) (A : Option Addr) (ecap bp op : Nat) (w : World), SvIn w B bv n P bp op → Cells w bv 100 (hdS n bp op ++ [.int .i64 s, .int .i64 c0]) → (c0 = 0 → s = (t : Int) ∧ t ≤ 3000 ∧ 3001 ≤ t + f) →
  LsIn w B bv n P fn es K cap A env ecap → w.cell? ⟨bf, of_ + 2, none⟩ = some (.slice K es.len cap) → bf < B →
  Calls Try.prog 70 #[.pointer (some ⟨bv, 0, none⟩), ptr bf of_, .slice A env.length ecap] w (APost bv n es.len 100 (hdS n bp op) (evAC n P f c0 es env t) w)

set_option maxRecDepth 100000 in
set_option maxHeartbeats 2000000 in
theorem outs_of (P : List Fn) (n f : Nat) (IH : ExprC P n f) : OutsC P n f := by
  intro es env s t c0 fn K cap bf of_ B bv A ecap bp op w hI hst hf hN hsrc hbf
  obtain ⟨i0, hi, hz0, hz1, hz2⟩ := info_parts Try.infoIS
  have HIH := Lib.hid IH; clear IH
  obtain ⟨R, hR⟩ : ∃ R, R = evAC n P f c0 es env t := ⟨_, rfl⟩
  rw [← hR]
  have hM0 : MidR n P f R es env [] s c0 := by rw [hR]; exact MidR.start hf
  have HM0 := Lib.hid hM0
  clear hR hM0 hf
  have n0 := hI.n0
  have al := hI.lt
  have hB := hI.blow
  have hsw : bf < w.heap.size := by omega
  obtain ⟨bk, ok, hK, hks⟩ := hN.kids
  have HKS := Lib.hid hks
  have hls := Es.len_le_size es
  have hsz := hN.size
  have hkl := hN.kl
  have hkm : cap ≤ 9223372036854775807 := by have := hN.km; unfold maxLen at this; omega
  have HI := Lib.hid hI
  have HN := Lib.hid hN
  have HST := Lib.hid hst
  have HSRC := Lib.hid hsrc
  clear hI hN hst hks hsrc
  go_enter Try.func70, Try.ntmps70
  go_wp2
  go_loopw [7, 8] (fun o_ i wr => ∃ (j : Nat) (es' : Es) (Av : Option Addr) (cp : Nat) (zss : List (List Int)) (s' c' : Int), i = .int .i64 (j : Int) ∧ o_ = .slice Av j cp ∧ j + es'.len = es.len ∧ Hid (zss.length = j) ∧ Hid (es'.size ≤ es.size) ∧ Hid (∀ i, es'.get? i = es.get? (j + i)) ∧ Hid (ExsAt wr B es' bk (ok + j * 5)) ∧
      Hid (RowsRow wr w.heap.size bv n (.slice Av j cp) zss) ∧ Hid (Cells wr bv 100 (hdS n bp op ++ [.int .i64 s', .int .i64 c'])) ∧ Hid (Only (fun q => q = bv) w wr) ∧ Hid (MidR n P f R es' env zss s' c')) (fun _ i _ => es.len - (intOf i).toNat)
  case atStart =>
    have hg : Below w.heap.size w (w.alloc (.cells #[] 25)) := by go_grown
    refine ⟨0, es, some ⟨w.heap.size, 0, none⟩, 0, [], s, c0, by go_num, rfl, by omega, rfl, Nat.le_refl _, fun i => by rw [Nat.zero_add], ?_, ⟨[], World.ownsRow_lit w #[] 0 (Nat.le_refl _) (by unfold maxLen; omega) (by rfl), fun i zs h => by simp at h⟩, HST.out.next hg, Only.of_below hg, HM0.out⟩
    show ExsAt _ _ _ _ _; rw [Nat.zero_mul, Nat.add_zero]; exact HKS.out.below (hg.mono (by omega))
  case round =>
    obtain ⟨j, es', Av, cp, zss, s', c', rfl, rfl, hj, hzl, hsz2, hget, HE, HR, HS, HO, HM⟩ := hrel
    have src' : wr.cell? ⟨bf, of_ + 2, none⟩ = some (.slice K es.len cap) := (HO.out.cell (a := ⟨bf, of_ + 2, none⟩) hsw (show ¬ bf = bv by omega)).trans HSRC.out
    cases es' with
    | nil =>
      simp only [Es.len] at hj
      obtain rfl : j = es.len := by omega
      obtain ⟨q1, q2, q3⟩ := HR.out.env hzl.out (by omega)
      have HP : Hid (APost bv n es.len 100 (hdS n bp op) R w (.returned (.slice Av es.len cp)) wr) := ⟨Av, cp, zss, s', c', rfl, hzl.out, q1, q2, q3, HS.out, HO.out, HM.out.end_⟩
      clear q1 q2 q3
      go_wp2
      go_ret
      exact HP.out
    | cons kk m' p' c1 ks' r =>
      simp only [Es.len] at hj
      have hK := hK (by omega)
      subst hK
      obtain ⟨hel, hr⟩ := HE.out
      have HRE := Lib.hid hr
      have hget0 : es.get? j = some ⟨kk, m', p', c1, ks'⟩ := by have := hget.out 0; rw [Nat.add_zero] at this; rw [← this]; rfl
      have hgetr : Hid (∀ i, r.get? i = es.get? (j + 1 + i)) := fun i => by have := hget.out (i + 1); rw [show j + 1 + i = j + (i + 1) by omega, ← this]; rfl
      have hrs : Hid (r.size ≤ es.size) := by have := hsz2.out; simp only [Es.size] at this; show _ ≤ _; omega
      have HNK := Lib.hid (elNext HN.out HO.out hget0 (x := ⟨kk, m', p', c1, ks'⟩) hel)
      have hjl : (j : Int) < (es.len : Int) := by omega
      clear hr hget0 hel HE hget hsz2
      go_wp2_with fail
      refine (HIH.out ⟨kk, m', p', c1, ks'⟩ env s' s'.toNat c' fn bk (ok + j * 5) B bv A ecap bp op wr (HI.out.only HO.out) HS.out HM.out.now HNK.out).mono ?_; rintro e w1 ⟨v, zs, s2, cc2, rfl, hrv, hS1, hO2, hres⟩
      obtain ⟨Az, cz, hvz⟩ : ∃ Az cz, v = .slice Az n cz := by obtain ⟨Az, cz, h, _⟩ := hrv; exact ⟨Az, cz, h⟩
      subst hvz
      have HR1 := Lib.hid (HR.out.only (by omega) hO2)
      have HM1 := Lib.hid (HM.out.step hres)
      have HO1 := Lib.hid (HO.out.trans hO2)
      have HE1 : Hid (ExsAt w1 B r bk (ok + (j + 1) * 5)) := by
        have := HRE.out.below (only_below hO2 hB (by have := HO.out.size; omega))
        rwa [show ok + j * 5 + 5 = ok + (j + 1) * 5 by omega] at this
      have HRV := Lib.hid hrv
      have HS1 := Lib.hid hS1
      obtain ⟨vs, hvs⟩ := HR1.out
      rw [hzl.out] at hvs
      have HVS := Lib.hid hvs
      have hw1 : w.heap.size ≤ w1.heap.size := HO1.out.size
      clear hrv hS1 hO2 hres hvs HR HM HO HS HRE HNK src'
      go_wp2_with (at_builtin; refine wpList_append_own _ rfl _ _ 61 rfl w.heap.size 25 i0 (.slice none 0 0) 1 24 Try.underlying61 hi hz0 hz1 hz2 rfl (by decide) _ j _ rfl (HVS.out.1.alloc _) ⟨w1.heap.size, 0, none⟩ 1 1 [.slice Az n cz] rfl rfl ?c1 ?c2 ?c3 ?c4 ?c5 ?_)
      try (case c1 => exact cell_one_new _ _ _)
      try (case c2 => intro u hu; simp at hu; subst hu; rfl)
      case c3 => unfold maxLen; omega
      case c4 => omega
      try (case c5 => simp; try omega)
      intro v2 w2 hown hg _
      obtain ⟨⟨A2, c2, rfl⟩, q1, q2, q3⟩ := RowsRow.push HR1.out hzl.out HRV.out vs HVS.out hown hg (by omega) (by omega)
      have HR2 := Lib.hid q1
      have HO2 := Lib.hid (only_or (_B := B) q2 HO1.out (Nat.le_refl _))
      have HS2 : Hid (Cells w2 bv 100 (hdS n bp op ++ [.int .i64 s2, .int .i64 cc2])) := q3.trans HS1.out
      have HE2 : Hid (ExsAt w2 B r bk (ok + (j + 1) * 5)) := HE1.out.below ⟨q2.os, q2.tape, q2.output, q2.size, fun k hk => q2.block k (by omega) (by omega)⟩
      clear hown hg q1 q2 q3
      go_wp2
      go_roundw
      case rel => exact ⟨j + 1, r, A2, c2, zss ++ [zs], s2, cc2, by go_num, rfl, by omega, by show _ = _; rw [List.length_append, hzl.out]; rfl, hrs, hgetr, HE2, HR2, HS2, HO2, HM1⟩
      case measure => simp [intOf]; omega

end Go.Proofs.Ytlnikpjcggfdmaa

/- Walks of the reference's evaluator: calls and loops. -/
namespace Go.Proofs.Ytlnikpjcggfdmaa
open Go.RowKit Plain

theorem LoopR.step2 {n : Nat} {P : List Fn} {f : Nat} {outs : Es} {R : Res (List (List Int))} {q : Nat} {zs zs' : List (List Int)} {s s' c c' : Int} (h : LoopR n P f outs R (q + 1) zs s c) (hr : ResIs (evAC n P f c outs zs s.toNat) zs' s' c') : LoopR n P f outs R q zs' s' c' := by
  by_cases hc : c = 0
  · subst hc
    exact h.step hr
  · unfold evAC at hr
    rw [if_neg hc] at hr
    have : c' = c := hr
    subst this
    exact ⟨fun h0 => absurd h0 hc, fun _ => h.2 hc⟩
/-- a function's place in memory -/
theorem fnAt {w : World} {B : Nat} {P : List Fn} {bp op m : Nat} {g : Fn} (h : PrAt w B P bp op) (hf : P[m]? = some g) : ∃ bP oP pcap KF cF, bp < B ∧ w.cell? ⟨bp, op, none⟩ = some (.slice (some ⟨bP, oP, none⟩) P.length pcap) ∧ bP < B ∧ w.cell? ⟨bP, oP + m * 3 + 2, none⟩ = some (.slice KF g.outs.len cF) ∧ g.outs.len ≤ cF ∧ cF ≤ maxLen ∧ ExSl w B g.outs KF ∧ pcap ≤ 9223372036854775807 := by
  obtain ⟨h0, A, cap, h1, h2, h3, h4⟩ := h
  obtain ⟨bP, oP, rfl, hb, _, _, _, KF, cF, g2, hc, hm, hk⟩ := h4.get hf
  exact ⟨bP, oP, cap, KF, cF, h0, h1, hb, g2, hc, hm, hk, by unfold maxLen at h3; omega⟩

set_option maxRecDepth 100000 in
set_option maxHeartbeats 4000000 in
theorem call10_of (P : List Fn) (n f : Nat) (IH : ExprC P n f) (m pi : Nat) (xc : Int) (es : Es) (g : Fn) (y : Nd) (env : List (List Int)) (t : Nat) (fn : Int) (b o B bv : Nat) (A : Option Addr) (ecap bp op : Nat) (w : World) (hI : SvIn w B bv n P bp op) (hst : Cells w bv 100 (hdS n bp op ++ [.int .i64 t, .int .i64 0])) (ht : t ≤ 3000) (htf : 3001 ≤ t + f)
    (hS : SdIn w B bv n P fn ⟨10, m, pi, xc, es⟩ b o A env ecap) (hC : CallIn P m pi xc es 10 g y) :
    Calls Try.prog 117 #[.pointer (some ⟨bv, 0, none⟩), ptr b o, .slice A env.length ecap] w (VPost bv n 100 (hdS n bp op) (match evAll (ev (ops n) P f) env es t with | .err e => .err e | .ok zs s1 => ev (ops n) P f y zs s1) w) := by
  obtain ⟨i0, hi, hz0, hz1, hz2⟩ := info_parts Try.infoIS
  have HIH := Lib.hid IH
  obtain ⟨rr, hrr⟩ : ∃ rr : Res (List Int), rr = match evAll (ev (ops n) P f) env es t with | .err e => .err e | .ok zs s1 => ev (ops n) P f y zs s1 := ⟨_, rfl⟩
  rw [← hrr]
  have HRR := Lib.hid hrr
  obtain ⟨s, hs⟩ : ∃ s : Int, s = t := ⟨_, rfl⟩
  rw [← hs] at hst
  obtain ⟨c0, hc0⟩ : ∃ c0 : Int, c0 = 0 := ⟨_, rfl⟩
  rw [← hc0] at hst
  obtain ⟨R, hR⟩ : ∃ R, R = evAC n P f c0 es env t := ⟨_, rfl⟩
  have hM0 : MidR n P f R es env [] s c0 := by rw [hR]; exact MidR.start fun _ => ⟨hs, ht, htf⟩
  have HM0 := Lib.hid hM0
  have HR0 : Hid (R = evAll (ev (ops n) P f) env es t) := by show _ = _; rw [hR]; unfold evAC; rw [if_pos hc0]
  clear hR hM0 hs hc0 hrr IH
  have n0 := hI.n0
  have n1 := hI.n1
  have al := hI.lt
  have hB := hI.blow
  obtain ⟨hbB, u0, u1, u2, u3, K, cap, bk, ok, u4, hkl, hkm0, hK, hks⟩ := hS.node
  have HKS := Lib.hid hks
  have hsw : b < w.heap.size := by omega
  have hls := Es.len_le_size es
  have hsz := hS.size
  have hkm : cap ≤ 9223372036854775807 := by unfold maxLen at hkm0; omega
  have hN : LsIn w B bv n P fn es K cap A env ecap := ⟨⟨bk, ok, hK, hks⟩, hkl, hkm0, hS.envA, hS.el, hS.em, hS.big, hS.size, fun j z hz => by have := formed_kids hS.form hz; rwa [kidVars_ne (by show (10 : Int) ≠ 9; omega)] at this, hS.f0, hS.f1⟩
  have HI := Lib.hid hI
  have HN := Lib.hid hN
  have HST := Lib.hid hst
  have HSRC := Lib.hid u4
  have HU := Lib.hid (And.intro u0 (And.intro u1 (And.intro u2 u3)))
  have HC := Lib.hid hC
  clear hI hN hst hks hS hC u0 u1 u2 u3 u4
  go_enter Try.func117, Try.ntmps117
  go_wp2
  go_loopw [7, 8] (fun o_ i wr => ∃ (j : Nat) (es' : Es) (Av : Option Addr) (cp : Nat) (zss : List (List Int)) (s' c' : Int), i = .int .i64 (j : Int) ∧ o_ = .slice Av j cp ∧ j + es'.len = es.len ∧ Hid (zss.length = j) ∧ Hid (es'.size ≤ es.size) ∧ Hid (∀ i, es'.get? i = es.get? (j + i)) ∧ Hid (ExsAt wr B es' bk (ok + j * 5)) ∧
      Hid (RowsRow wr w.heap.size bv n (.slice Av j cp) zss) ∧ Hid (Cells wr bv 100 (hdS n bp op ++ [.int .i64 s', .int .i64 c'])) ∧ Hid (Only (fun q => q = bv) w wr) ∧ Hid (MidR n P f R es' env zss s' c')) (fun _ i _ => es.len - (intOf i).toNat)
  case atStart =>
    have hg : Below w.heap.size w (w.alloc (.cells #[] 25)) := by go_grown
    refine ⟨0, es, some ⟨w.heap.size, 0, none⟩, 0, [], s, c0, by go_num, rfl, by omega, rfl, Nat.le_refl _, fun i => by rw [Nat.zero_add], ?_, ⟨[], World.ownsRow_lit w #[] 0 (Nat.le_refl _) (by unfold maxLen; omega) (by rfl), fun i zs h => by simp at h⟩, HST.out.next hg, Only.of_below hg, HM0.out⟩
    show ExsAt _ _ _ _ _; rw [Nat.zero_mul, Nat.add_zero]; exact HKS.out.below (hg.mono (by omega))
  case round =>
    obtain ⟨j, es', Av, cp, zss, s', c', rfl, rfl, hj, hzl, hsz2, hget, HE, HR, HS, HO, HM⟩ := hrel
    have src' : wr.cell? ⟨b, o + 4, none⟩ = some (.slice K es.len cap) := (HO.out.cell (a := ⟨b, o + 4, none⟩) hsw (show ¬ b = bv by omega)).trans HSRC.out
    cases es' with
    | nil =>
      simp only [Es.len] at hj
      obtain rfl : j = es.len := by omega
      have hp12 := HC.out.p12
      obtain ⟨e1, e2, e3⟩ := HR.out.env hzl.out (by omega)
      have HRES := Lib.hid HM.out.end_
      have HNOW : Hid (c' = 0 → ∃ t1 : Nat, s' = t1 ∧ t1 ≤ 3000 ∧ 3001 ≤ t1 + f) := fun h => by
        obtain ⟨t1, h1, h2, h3, _⟩ := HM.out.1 h
        exact ⟨t1, h1, h2, h3⟩
      have HNZ : Hid (∀ e, R = .err e → e ≠ 0) := fun e h => by
        have hg := evAll_good (ev_good (n := n) (P := P) f) es env t
        rw [← HR0.out, h] at hg
        exact hg
      have hIr := HI.out.only HO.out
      obtain ⟨bP, oP, pcap, KF, cF, hbp, v0, hbP, v2, hcF, hmF, hKo, hpcap⟩ := fnAt hIr.prog HC.out.fn
      have c0' : wr.cell? ⟨bv, 0, none⟩ = some (ptr bp op) := by rw [HS.out.cell]; rfl
      have clr := HS.out.lt
      have hbnb : b ≠ bv := by omega
      have y0 : wr.cell? ⟨b, o, none⟩ = some (.int .i64 10) := (HO.out.cell (a := ⟨b, _, none⟩) hsw hbnb).trans HU.out.1
      have y1 : wr.cell? ⟨b, o + 1, none⟩ = some (.int .i64 m) := (HO.out.cell (a := ⟨b, _, none⟩) hsw hbnb).trans HU.out.2.1
      have y2 : wr.cell? ⟨b, o + 2, none⟩ = some (.int .i64 pi) := (HO.out.cell (a := ⟨b, _, none⟩) hsw hbnb).trans HU.out.2.2.1
      have y3 : wr.cell? ⟨b, o + 3, none⟩ = some (.int .i64 xc) := (HO.out.cell (a := ⟨b, _, none⟩) hsw hbnb).trans HU.out.2.2.2
      have hml : m < P.length := (List.getElem?_eq_some_iff.1 HC.out.fn).1
      have hml2 : (m : Int) < (P.length : Int) := by omega
      have hpl : pi < g.outs.len := Es.get?_lt HC.out.out
      have hpl2 : (pi : Int) < (g.outs.len : Int) := by omega
      have hbr : b < wr.heap.size := by have := HO.out.size; omega
      have HE3 := Lib.hid e3
      have HKO := Lib.hid hKo
      have HIR := Lib.hid hIr
      have HV2 := Lib.hid v2
      have HEE := Lib.hid (And.intro e1 e2)
      have he1 : es.len ≤ cp := e1
      have hcpp : cp ≤ 9223372036854775807 := by unfold maxLen at e2; omega
      clear hIr hKo v2 e1 e2 e3 HM HR HE hget hsz2 hj
      go_wp2_with fail
      go_quiet (fail)
      rename Nat => nq
      have hd : Only (fun q => q = bv) wr (wr.drewN nq) := (Only.refl _ wr).drewN nq
      have HD := Lib.hid hd
      have HS2 : Hid (Cells (wr.drewN nq) bv 100 (hdS n bp op ++ [.int .i64 s', .int .i64 c'])) := HS.out.drewN nq
      have w0 : (wr.drewN nq).cell? ⟨b, o, none⟩ = some (.int .i64 10) := y0
      have w2' : (wr.drewN nq).cell? ⟨b, o + 2, none⟩ = some (.int .i64 pi) := y2
      have w3 : (wr.drewN nq).cell? ⟨b, o + 3, none⟩ = some (.int .i64 xc) := y3
      have w4 : (wr.drewN nq).cell? ⟨bP, oP + m * 3 + 2, none⟩ = some (.slice KF g.outs.len cF) := HV2.out
      have wl : wr.heap.size ≤ (wr.drewN nq).heap.size := hd.size
      clear y0 y1 y2 y3 c0' v0 hd src'
      generalize wr.drewN nq = W at *
      obtain ⟨by_, oy, hKF, hEy⟩ := (HKO.out.below (only_below HD.out hB clr)).get HC.out.out
      subst hKF
      have hYF := HC.out.each pi y HC.out.out
      have hIW := HIR.out.only HD.out
      have HCALL : Hid (Calls Try.prog 98 #[.pointer (some ⟨bv, 0, none⟩), ptr by_ (oy + pi * 5), .slice Av es.len cp] W.drew (VPost bv n 100 (hdS n bp op) rr w)) := by
        have hd2 : Only (fun q => q = bv) W W.drew := (Only.refl _ W).drewN 1
        have hz := HIH.out y zss s' s'.toNat c' m by_ (oy + pi * 5) B bv Av cp bp op W.drew (hIW.only hd2) (HS2.out.drewN 1) (fun h => by
          obtain ⟨t1, h1, h2, h3⟩ : ∃ t1 : Nat, s' = t1 ∧ t1 ≤ 3000 ∧ 3001 ≤ t1 + f := HNOW.out h
          subst h1
          simp only [Int.toNat_natCast]
          exact ⟨trivial, h2, h3⟩) ⟨hEy.below (only_below hd2 hB (by omega)), (HE3.out.only HD.out).only hd2, by rw [hzl.out]; exact HEE.out.1, HEE.out.2, by rw [hzl.out]; have := HC.out.p12; omega, by omega, by rw [hzl.out]; exact hYF.1, by omega, by omega⟩
        rw [hzl.out] at hz
        refine Calls.mono hz fun e w3 h => VPost.from ((HO.out.trans HD.out).trans hd2) h ?_
        rw [HRR.out, ← HR0.out]
        by_cases hc1 : c' = 0
        · obtain ⟨t1, h1, _, _⟩ := HNOW.out hc1
          have hr := HRES.out
          unfold evC
          rw [if_pos hc1]
          subst h1
          simp only [Int.toNat_natCast]
          revert hr
          cases R with
          | err e => intro hr; exact absurd (hc1.symm.trans hr).symm (HNZ.out e rfl)
          | ok z0 t0 => rintro ⟨rfl, h3, _⟩; have : t0 = t1 := by omega
                        subst this; rfl
        · have hr := HRES.out
          unfold evC
          rw [if_neg hc1]
          revert hr
          cases R with
          | err e => intro hr; exact congrArg _ hr
          | ok z0 t0 => rintro ⟨_, _, h3⟩; exact absurd h3 hc1
      clear hEy hYF hIW
      go_wp2_with fail
      go_still_tail 11, (by kernel_rfl)
      change wpList _ _ _ _ _ W.drew
      go_wp2_with fail
      refine HCALL.out.mono ?_; rintro e w2 h
      have HP := Lib.hid h
      obtain ⟨v, _, _, _, rfl, _⟩ := h
      go_wp2
      go_ret
      exact HP.out
    | cons kk m' p' c1 ks' r =>
      simp only [Es.len] at hj
      have hK := hK (by omega)
      subst hK
      obtain ⟨hel, hr⟩ := HE.out
      have HRE := Lib.hid hr
      have hget0 : es.get? j = some ⟨kk, m', p', c1, ks'⟩ := by have := hget.out 0; rw [Nat.add_zero] at this; rw [← this]; rfl
      have hgetr : Hid (∀ i, r.get? i = es.get? (j + 1 + i)) := fun i => by have := hget.out (i + 1); rw [show j + 1 + i = j + (i + 1) by omega, ← this]; rfl
      have hrs : Hid (r.size ≤ es.size) := by have := hsz2.out; simp only [Es.size] at this; show _ ≤ _; omega
      have HNK := Lib.hid (elNext HN.out HO.out hget0 (x := ⟨kk, m', p', c1, ks'⟩) hel)
      have hjl : (j : Int) < (es.len : Int) := by omega
      clear hr hget0 hel HE hget hsz2
      go_wp2_with fail
      refine (HIH.out ⟨kk, m', p', c1, ks'⟩ env s' s'.toNat c' fn bk (ok + j * 5) B bv A ecap bp op wr (HI.out.only HO.out) HS.out HM.out.now HNK.out).mono ?_; rintro e w1 ⟨v, zs, s2, cc2, rfl, hrv, hS1, hO2, hres⟩
      obtain ⟨Az, cz, hvz⟩ : ∃ Az cz, v = .slice Az n cz := by obtain ⟨Az, cz, h, _⟩ := hrv; exact ⟨Az, cz, h⟩
      subst hvz
      have HR1 := Lib.hid (HR.out.only (by omega) hO2)
      have HM1 := Lib.hid (HM.out.step hres)
      have HO1 := Lib.hid (HO.out.trans hO2)
      have HE1 : Hid (ExsAt w1 B r bk (ok + (j + 1) * 5)) := by
        have := HRE.out.below (only_below hO2 hB (by have := HO.out.size; omega))
        rwa [show ok + j * 5 + 5 = ok + (j + 1) * 5 by omega] at this
      have HRV := Lib.hid hrv
      have HS1 := Lib.hid hS1
      obtain ⟨vs, hvs⟩ := HR1.out
      rw [hzl.out] at hvs
      have HVS := Lib.hid hvs
      have hw1 : w.heap.size ≤ w1.heap.size := HO1.out.size
      clear hrv hS1 hO2 hres hvs HR HM HO HS HRE HNK src'
      go_wp2_with (at_builtin; refine wpList_append_own _ rfl _ _ 61 rfl w.heap.size 25 i0 (.slice none 0 0) 1 24 Try.underlying61 hi hz0 hz1 hz2 rfl (by decide) _ j _ rfl (HVS.out.1.alloc _) ⟨w1.heap.size, 0, none⟩ 1 1 [.slice Az n cz] rfl rfl ?c1 ?c2 ?c3 ?c4 ?c5 ?_)
      try (case c1 => exact cell_one_new _ _ _)
      try (case c2 => intro u hu; simp at hu; subst hu; rfl)
      case c3 => unfold maxLen; omega
      case c4 => omega
      try (case c5 => simp; try omega)
      intro v2 w2 hown hg _
      obtain ⟨⟨A2, c2, rfl⟩, q1, q2, q3⟩ := RowsRow.push HR1.out hzl.out HRV.out vs HVS.out hown hg (by omega) (by omega)
      have HR2 := Lib.hid q1
      have HO2 := Lib.hid (only_or (_B := B) q2 HO1.out (Nat.le_refl _))
      have HS2 : Hid (Cells w2 bv 100 (hdS n bp op ++ [.int .i64 s2, .int .i64 cc2])) := q3.trans HS1.out
      have HE2 : Hid (ExsAt w2 B r bk (ok + (j + 1) * 5)) := HE1.out.below ⟨q2.os, q2.tape, q2.output, q2.size, fun k hk => q2.block k (by omega) (by omega)⟩
      clear hown hg q1 q2 q3
      go_wp2
      go_roundw
      case rel => exact ⟨j + 1, r, A2, c2, zss ++ [zs], s2, cc2, by go_num, rfl, by omega, by show _ = _; rw [List.length_append, hzl.out]; rfl, hrs, hgetr, HE2, HR2, HS2, HO2, HM1⟩
      case measure => simp [intOf]; omega

end Go.Proofs.Ytlnikpjcggfdmaa

/- Walks of the reference's evaluator: loops. -/
namespace Go.Proofs.Ytlnikpjcggfdmaa
open Go.RowKit Plain

set_option maxRecDepth 100000 in
set_option maxHeartbeats 4000000 in
theorem call11_of (P : List Fn) (n f : Nat) (IH : ExprC P n f) (m pi C : Nat) (es : Es) (g : Fn) (y : Nd) (env : List (List Int)) (t : Nat) (fn : Int) (b o B bv : Nat) (A : Option Addr) (ecap bp op : Nat) (w : World) (hI : SvIn w B bv n P bp op) (hst : Cells w bv 100 (hdS n bp op ++ [.int .i64 t, .int .i64 0])) (ht : t ≤ 3000) (htf : 3001 ≤ t + f)
    (hS : SdIn w B bv n P fn ⟨11, m, pi, (C : Int), es⟩ b o A env ecap) (hC : CallIn P m pi (C : Int) es 11 g y) :
    Calls Try.prog 117 #[.pointer (some ⟨bv, 0, none⟩), ptr b o, .slice A env.length ecap] w (VPost bv n 100 (hdS n bp op) (match evAll (ev (ops n) P f) env es t with | .err e => .err e | .ok zs s1 => pickR pi (evLoop (ev (ops n) P f) g.outs C zs s1)) w) := by
  obtain ⟨i0, hi, hz0, hz1, hz2⟩ := info_parts Try.infoIS
  have HIH := Lib.hid IH
  obtain ⟨rr, hrr⟩ : ∃ rr : Res (List Int), rr = match evAll (ev (ops n) P f) env es t with | .err e => .err e | .ok zs s1 => pickR pi (evLoop (ev (ops n) P f) g.outs C zs s1) := ⟨_, rfl⟩
  rw [← hrr]
  have HRR := Lib.hid hrr
  obtain ⟨s, hs⟩ : ∃ s : Int, s = t := ⟨_, rfl⟩
  rw [← hs] at hst
  obtain ⟨c0, hc0⟩ : ∃ c0 : Int, c0 = 0 := ⟨_, rfl⟩
  rw [← hc0] at hst
  obtain ⟨R, hR⟩ : ∃ R, R = evAC n P f c0 es env t := ⟨_, rfl⟩
  have hM0 : MidR n P f R es env [] s c0 := by rw [hR]; exact MidR.start fun _ => ⟨hs, ht, htf⟩
  have HM0 := Lib.hid hM0
  have HR0 : Hid (R = evAll (ev (ops n) P f) env es t) := by show _ = _; rw [hR]; unfold evAC; rw [if_pos hc0]
  clear hR hM0 hs hc0 hrr IH
  have n0 := hI.n0
  have n1 := hI.n1
  have al := hI.lt
  have hB := hI.blow
  obtain ⟨hbB, u0, u1, u2, u3, K, cap, bk, ok, u4, hkl, hkm0, hK, hks⟩ := hS.node
  have HKS := Lib.hid hks
  have hsw : b < w.heap.size := by omega
  have hls := Es.len_le_size es
  have hsz := hS.size
  have hkm : cap ≤ 9223372036854775807 := by unfold maxLen at hkm0; omega
  have hN : LsIn w B bv n P fn es K cap A env ecap := ⟨⟨bk, ok, hK, hks⟩, hkl, hkm0, hS.envA, hS.el, hS.em, hS.big, hS.size, fun j z hz => by have := formed_kids hS.form hz; rwa [kidVars_ne (by show (11 : Int) ≠ 9; omega)] at this, hS.f0, hS.f1⟩
  have HI := Lib.hid hI
  have HN := Lib.hid hN
  have HST := Lib.hid hst
  have HSRC := Lib.hid u4
  have HU := Lib.hid (And.intro u0 (And.intro u1 (And.intro u2 u3)))
  have HC := Lib.hid hC
  clear hI hN hst hks hS hC u0 u1 u2 u3 u4
  go_enter Try.func117, Try.ntmps117
  go_wp2
  go_loopw [7, 8] (fun o_ i wr => ∃ (j : Nat) (es' : Es) (Av : Option Addr) (cp : Nat) (zss : List (List Int)) (s' c' : Int), i = .int .i64 (j : Int) ∧ o_ = .slice Av j cp ∧ j + es'.len = es.len ∧ Hid (zss.length = j) ∧ Hid (es'.size ≤ es.size) ∧ Hid (∀ i, es'.get? i = es.get? (j + i)) ∧ Hid (ExsAt wr B es' bk (ok + j * 5)) ∧
      Hid (RowsRow wr w.heap.size bv n (.slice Av j cp) zss) ∧ Hid (Cells wr bv 100 (hdS n bp op ++ [.int .i64 s', .int .i64 c'])) ∧ Hid (Only (fun q => q = bv) w wr) ∧ Hid (MidR n P f R es' env zss s' c')) (fun _ i _ => es.len - (intOf i).toNat)
  case atStart =>
    have hg : Below w.heap.size w (w.alloc (.cells #[] 25)) := by go_grown
    refine ⟨0, es, some ⟨w.heap.size, 0, none⟩, 0, [], s, c0, by go_num, rfl, by omega, rfl, Nat.le_refl _, fun i => by rw [Nat.zero_add], ?_, ⟨[], World.ownsRow_lit w #[] 0 (Nat.le_refl _) (by unfold maxLen; omega) (by rfl), fun i zs h => by simp at h⟩, HST.out.next hg, Only.of_below hg, HM0.out⟩
    show ExsAt _ _ _ _ _; rw [Nat.zero_mul, Nat.add_zero]; exact HKS.out.below (hg.mono (by omega))
  case round =>
    obtain ⟨j, es', Av, cp, zss, s', c', rfl, rfl, hj, hzl, hsz2, hget, HE, HR, HS, HO, HM⟩ := hrel
    have src' : wr.cell? ⟨b, o + 4, none⟩ = some (.slice K es.len cap) := (HO.out.cell (a := ⟨b, o + 4, none⟩) hsw (show ¬ b = bv by omega)).trans HSRC.out
    cases es' with
    | nil =>
      simp only [Es.len] at hj
      obtain rfl : j = es.len := by omega
      have hp12 := HC.out.p12
      obtain ⟨e1, e2, e3⟩ := HR.out.env hzl.out (by omega)
      have HRES := Lib.hid HM.out.end_
      have HNOW : Hid (c' = 0 → ∃ t1 : Nat, s' = t1 ∧ t1 ≤ 3000 ∧ 3001 ≤ t1 + f) := fun h => by
        obtain ⟨t1, h1, h2, h3, _⟩ := HM.out.1 h
        exact ⟨t1, h1, h2, h3⟩
      have HNZ : Hid (∀ e, R = .err e → e ≠ 0) := fun e h => by
        have hg := evAll_good (ev_good (n := n) (P := P) f) es env t
        rw [← HR0.out, h] at hg
        exact hg
      have hIr := HI.out.only HO.out
      obtain ⟨bP, oP, pcap, KF, cF, hbp, v0, hbP, v2, hcF, hmF, hKo, hpcap⟩ := fnAt hIr.prog HC.out.fn
      have c0' : wr.cell? ⟨bv, 0, none⟩ = some (ptr bp op) := by rw [HS.out.cell]; rfl
      have clr := HS.out.lt
      have hbnb : b ≠ bv := by omega
      have y0 : wr.cell? ⟨b, o, none⟩ = some (.int .i64 11) := (HO.out.cell (a := ⟨b, _, none⟩) hsw hbnb).trans HU.out.1
      have y1 : wr.cell? ⟨b, o + 1, none⟩ = some (.int .i64 m) := (HO.out.cell (a := ⟨b, _, none⟩) hsw hbnb).trans HU.out.2.1
      have y2 : wr.cell? ⟨b, o + 2, none⟩ = some (.int .i64 pi) := (HO.out.cell (a := ⟨b, _, none⟩) hsw hbnb).trans HU.out.2.2.1
      have y3 : wr.cell? ⟨b, o + 3, none⟩ = some (.int .i64 (C : Int)) := (HO.out.cell (a := ⟨b, _, none⟩) hsw hbnb).trans HU.out.2.2.2
      have hml : m < P.length := (List.getElem?_eq_some_iff.1 HC.out.fn).1
      have hml2 : (m : Int) < (P.length : Int) := by omega
      have hpl : pi < g.outs.len := Es.get?_lt HC.out.out
      have hpl2 : (pi : Int) < (g.outs.len : Int) := by omega
      have hbr : b < wr.heap.size := by have := HO.out.size; omega
      have HE3 := Lib.hid e3
      have HKO := Lib.hid hKo
      have HIR := Lib.hid hIr
      have HV2 := Lib.hid v2
      have HEE := Lib.hid (And.intro e1 e2)
      have he1 : es.len ≤ cp := e1
      have hcpp : cp ≤ 9223372036854775807 := by unfold maxLen at e2; omega
      clear hIr hKo v2 e1 e2 e3 HM HR HE hget hsz2 hj
      go_wp2_with fail
      go_quiet (fail)
      rename Nat => nq
      have hd : Only (fun q => q = bv) wr (wr.drewN nq) := (Only.refl _ wr).drewN nq
      have HD := Lib.hid hd
      have HS2 : Hid (Cells (wr.drewN nq) bv 100 (hdS n bp op ++ [.int .i64 s', .int .i64 c'])) := HS.out.drewN nq
      have w0 : (wr.drewN nq).cell? ⟨b, o, none⟩ = some (.int .i64 11) := y0
      have w2' : (wr.drewN nq).cell? ⟨b, o + 2, none⟩ = some (.int .i64 pi) := y2
      have w3 : (wr.drewN nq).cell? ⟨b, o + 3, none⟩ = some (.int .i64 (C : Int)) := y3
      have w4 : (wr.drewN nq).cell? ⟨bP, oP + m * 3 + 2, none⟩ = some (.slice KF g.outs.len cF) := HV2.out
      have wl : wr.heap.size ≤ (wr.drewN nq).heap.size := hd.size
      clear y0 y1 y2 y3 c0' v0 hd src'
      generalize wr.drewN nq = W at *
      have hpi : pi < es.len := by have := (HC.out.loop rfl).2.2; omega
      have hpi2 : (pi : Int) < (es.len : Int) := by omega
      have hC8 : C ≤ 8 := by have := (HC.out.loop rfl).2.1; omega
      have hol : g.outs.len = es.len := (HC.out.loop rfl).2.2
      have HOL := Lib.hid hol
      obtain ⟨R2, hR2⟩ : ∃ R2 : Res (List (List Int)), R2 = (match R with | .err e => .err e | .ok zs s1 => evLoop (ev (ops n) P f) g.outs C zs s1) := ⟨_, rfl⟩
      have HRW : Hid (rr = pickR pi R2) := by
        show _ = _
        rw [HRR.out, ← HR0.out, hR2]
        cases R <;> rfl
      have HLR : Hid (LoopR n P f g.outs R2 (C - 0) zss s' c') := by
        constructor
        · intro hc1
          obtain ⟨t1, h1, h2, h3⟩ := HNOW.out hc1
          refine ⟨t1, h1, h2, h3, ?_⟩
          have hr := HRES.out
          revert hr hR2
          cases R with
          | err e => intro _ hr; exact absurd (hc1.symm.trans hr).symm (HNZ.out e rfl)
          | ok z0 t0 => rintro hR2 ⟨rfl, h4, _⟩; have : t0 = t1 := by omega
                        subst this; exact hR2
        · intro hc1
          have hr := HRES.out
          revert hr hR2
          cases R with
          | err e => intro hR2 hr; rw [hR2]; exact (congrArg _ hr).symm
          | ok z0 t0 => rintro _ ⟨_, _, h4⟩; exact absurd h4 hc1
      have HOUTS := Lib.hid (outs_of P n f HIH.out)
      have HO1 := Lib.hid (HO.out.trans HD.out)
      have HEW := Lib.hid (HE3.out.only HD.out)
      have HIW := Lib.hid (HIR.out.only HD.out)
      have HKW := Lib.hid (HKO.out.below (only_below HD.out hB clr))
      have HW0 := Lib.hid w0
      have HW2 := Lib.hid w2'
      have HW3 := Lib.hid w3
      have HW4 := Lib.hid w4
      have hbW : b < W.heap.size := by omega
      have hbPW : bP < W.heap.size := by omega
      clear hR2 hol HE3 HKO HIR
      go_wp2
      go_loopw [7, 10] (fun kd i wz => ∃ (q : Nat) (A1 : Option Addr) (cp : Nat) (zs : List (List Int)) (s' c' : Int), i = .int .i64 (q : Int) ∧ kd = .slice A1 es.len cp ∧ q ≤ C ∧ es.len ≤ cp ∧ cp ≤ maxLen ∧ Hid (zs.length = es.len) ∧ Hid (EnvAt wz bv n A1 zs) ∧ Hid (Cells wz bv 100 (hdS n bp op ++ [.int .i64 s', .int .i64 c'])) ∧ Hid (Only (fun q => q = bv) W wz) ∧
        Hid (LoopR n P f g.outs R2 (C - q) zs s' c')) (fun _ i _ => C - (intOf i).toNat)
      case atStart => exact ⟨0, Av, cp, zss, s', c', by go_num, rfl, Nat.zero_le _, he1, HEE.out.2, hzl, HEW, HS2, Only.refl _ _, HLR⟩
      case round =>
        clear HS HS2 HEW HLR hzl HRES HNOW w0 w2' w3 w4 hcpp he1 HEE
        obtain ⟨q, A1, cp, zs, s', c', rfl, rfl, hq, hcp, hcm, HL, HE, HS1, HO3, HLR⟩ := hrel
        have hcpp : cp ≤ 9223372036854775807 := by unfold maxLen at hcm; omega
        have w2' : wr.cell? ⟨b, o + 2, none⟩ = some (.int .i64 pi) := (HO3.out.cell (a := ⟨b, _, none⟩) hbW hbnb).trans HW2.out
        have w3 : wr.cell? ⟨b, o + 3, none⟩ = some (.int .i64 C) := (HO3.out.cell (a := ⟨b, _, none⟩) hbW hbnb).trans HW3.out
        have hclr : bv < wr.heap.size := HS1.out.lt
        by_cases hlt : q < C
        · have hltI : (q : Int) < (C : Int) := by omega
          have g4 : wr.cell? ⟨bP, oP + m * 3 + 2, none⟩ = some (.slice KF g.outs.len cF) := (HO3.out.cell (a := ⟨bP, _, none⟩) hbPW (show ¬ bP = bv by omega)).trans HW4.out
          have hls : LsIn wr B bv n P m g.outs KF cF A1 zs cp := ⟨HKW.out.below (only_below HO3.out hB (by omega)), hcF, hmF, HE.out, by rw [HL.out]; exact hcp, hcm, by rw [HL.out]; have := HC.out.p12; have := HC.out.dep; omega, HC.out.size, fun j z hz => by rw [HL.out]; exact (HC.out.each j z hz).1, by omega, by omega⟩
          have hcall := HOUTS.out g.outs zs s' s'.toNat c' m KF cF bP (oP + m * 3) B bv A1 cp bp op wr (HIW.out.only HO3.out) HS1.out HLR.out.now hls g4 hbP
          rw [HL.out, HOL.out] at hcall
          have HCALL := Lib.hid hcall
          have HLR1 : Hid (LoopR n P f g.outs R2 (C - (q + 1) + 1) zs s' c') := by have := HLR.out; rwa [show C - q = C - (q + 1) + 1 by omega] at this
          clear hcall hls HLR HE g4
          go_wp2_with fail
          refine HCALL.out.mono ?_; rintro e w2 ⟨A3, cp3, zs3, s3, c3', rfl, hl3, hcp3, hcm3, hE3, hS3, hO4, hres3⟩
          have HO5 : Hid (Only (fun q => q = bv) W w2) := HO3.out.trans hO4
          have HL5 := Lib.hid hl3
          have HE5 := Lib.hid hE3
          have HS5 := Lib.hid hS3
          have HLR5 := Lib.hid (HLR1.out.step2 hres3)
          clear hl3 hE3 hS3 hO4 hres3 HS1 HO3 HCALL HL HLR1 w2' w3
          go_wp2
          go_roundw
          case rel => exact ⟨q + 1, A3, cp3, zs3, s3, c3', by go_num, rfl, by omega, hcp3, hcm3, HL5, HE5, HS5, HO5, HLR5⟩
          case measure => simp [intOf]; omega
        · obtain rfl : q = C := by omega
          obtain ⟨b1, o1, Az, cz, rfl, hb1, _, g0, hz0⟩ := HE.out.sat (j := pi) (by rw [HL.out]; exact hpi)
          have hP := loopEnd (cp := cz) (HO1.out.trans HO3.out) HS1.out hz0 HLR.out (fun h => by omega) HRW.out
          have HP := Lib.hid hP
          clear hP hz0
          go_wp2
          go_ret
          exact HP.out
    | cons kk m' p' c1 ks' r =>
      simp only [Es.len] at hj
      have hK := hK (by omega)
      subst hK
      obtain ⟨hel, hr⟩ := HE.out
      have HRE := Lib.hid hr
      have hget0 : es.get? j = some ⟨kk, m', p', c1, ks'⟩ := by have := hget.out 0; rw [Nat.add_zero] at this; rw [← this]; rfl
      have hgetr : Hid (∀ i, r.get? i = es.get? (j + 1 + i)) := fun i => by have := hget.out (i + 1); rw [show j + 1 + i = j + (i + 1) by omega, ← this]; rfl
      have hrs : Hid (r.size ≤ es.size) := by have := hsz2.out; simp only [Es.size] at this; show _ ≤ _; omega
      have HNK := Lib.hid (elNext HN.out HO.out hget0 (x := ⟨kk, m', p', c1, ks'⟩) hel)
      have hjl : (j : Int) < (es.len : Int) := by omega
      clear hr hget0 hel HE hget hsz2
      go_wp2_with fail
      refine (HIH.out ⟨kk, m', p', c1, ks'⟩ env s' s'.toNat c' fn bk (ok + j * 5) B bv A ecap bp op wr (HI.out.only HO.out) HS.out HM.out.now HNK.out).mono ?_; rintro e w1 ⟨v, zs, s2, cc2, rfl, hrv, hS1, hO2, hres⟩
      obtain ⟨Az, cz, hvz⟩ : ∃ Az cz, v = .slice Az n cz := by obtain ⟨Az, cz, h, _⟩ := hrv; exact ⟨Az, cz, h⟩
      subst hvz
      have HR1 := Lib.hid (HR.out.only (by omega) hO2)
      have HM1 := Lib.hid (HM.out.step hres)
      have HO1 := Lib.hid (HO.out.trans hO2)
      have HE1 : Hid (ExsAt w1 B r bk (ok + (j + 1) * 5)) := by
        have := HRE.out.below (only_below hO2 hB (by have := HO.out.size; omega))
        rwa [show ok + j * 5 + 5 = ok + (j + 1) * 5 by omega] at this
      have HRV := Lib.hid hrv
      have HS1 := Lib.hid hS1
      obtain ⟨vs, hvs⟩ := HR1.out
      rw [hzl.out] at hvs
      have HVS := Lib.hid hvs
      have hw1 : w.heap.size ≤ w1.heap.size := HO1.out.size
      clear hrv hS1 hO2 hres hvs HR HM HO HS HRE HNK src'
      go_wp2_with (at_builtin; refine wpList_append_own _ rfl _ _ 61 rfl w.heap.size 25 i0 (.slice none 0 0) 1 24 Try.underlying61 hi hz0 hz1 hz2 rfl (by decide) _ j _ rfl (HVS.out.1.alloc _) ⟨w1.heap.size, 0, none⟩ 1 1 [.slice Az n cz] rfl rfl ?c1 ?c2 ?c3 ?c4 ?c5 ?_)
      try (case c1 => exact cell_one_new _ _ _)
      try (case c2 => intro u hu; simp at hu; subst hu; rfl)
      case c3 => unfold maxLen; omega
      case c4 => omega
      try (case c5 => simp; try omega)
      intro v2 w2 hown hg _
      obtain ⟨⟨A2, c2, rfl⟩, q1, q2, q3⟩ := RowsRow.push HR1.out hzl.out HRV.out vs HVS.out hown hg (by omega) (by omega)
      have HR2 := Lib.hid q1
      have HO2 := Lib.hid (only_or (_B := B) q2 HO1.out (Nat.le_refl _))
      have HS2 : Hid (Cells w2 bv 100 (hdS n bp op ++ [.int .i64 s2, .int .i64 cc2])) := q3.trans HS1.out
      have HE2 : Hid (ExsAt w2 B r bk (ok + (j + 1) * 5)) := HE1.out.below ⟨q2.os, q2.tape, q2.output, q2.size, fun k hk => q2.block k (by omega) (by omega)⟩
      clear hown hg q1 q2 q3
      go_wp2
      go_roundw
      case rel => exact ⟨j + 1, r, A2, c2, zss ++ [zs], s2, cc2, by go_num, rfl, by omega, by show _ = _; rw [List.length_append, hzl.out]; rfl, hrs, hgetr, HE2, HR2, HS2, HO2, HM1⟩
      case measure => simp [intOf]; omega

end Go.Proofs.Ytlnikpjcggfdmaa

/- The reference's evaluator, whole. -/
namespace Go.Proofs.Ytlnikpjcggfdmaa
open Go.RowKit Plain

set_option maxRecDepth 100000 in
set_option maxHeartbeats 1000000 in
theorem expr_call (P : List Fn) (k : Int) (n : Nat) (env : List (List Int)) (s : Nat) (b o B bv : Nat) (A : Option Addr) (ecap bp op : Nat) (w : World) (hI : SvIn w B bv n P bp op) (hst : Cells w bv 100 (hdS n bp op ++ [.int .i64 s, .int .i64 0])) (h0 : w.cell? ⟨b, o, none⟩ = some (.int .i64 k)) (hb : b < B) (hk : k = 10 ∨ k = 11) (hs : s < 3000) (rr : Res (List Int))
    (hcall : ∀ wx, Only (fun q => q = bv) w wx → Cells wx bv 100 (hdS n bp op ++ [.int .i64 ((s + 1 : Nat) : Int), .int .i64 0]) → Calls Try.prog 117 #[.pointer (some ⟨bv, 0, none⟩), ptr b o, .slice A env.length ecap] wx (VPost bv n 100 (hdS n bp op) rr wx)) :
    Calls Try.prog 98 #[.pointer (some ⟨bv, 0, none⟩), ptr b o, .slice A env.length ecap] w (VPost bv n 100 (hdS n bp op) rr w) := by
  have al := hI.lt
  have hB := hI.blow
  have a2 : w.cell? ⟨bv, 2, none⟩ = some (.int .i64 s) := by rw [hst.cell]; rfl
  have a3 : w.cell? ⟨bv, 3, none⟩ = some (.int .i64 0) := by rw [hst.cell]; rfl
  have z2 : w.frozen? ⟨bv, 2, none⟩ = false := hst.frozen _
  have e1 : ((s : Int) == 3000) = false := by simp; omega
  obtain ⟨hI1, hC1, hO1⟩ := svStep hI hst
  have hc := hcall _ hO1 hC1
  have HC := Lib.hid hc
  have HO := Lib.hid hO1
  have hbn : b ≠ bv := by omega
  have hbw : b < w.heap.size := by omega
  have k0 : (svW w bv s).cell? ⟨b, o, none⟩ = some (.int .i64 k) := (hO1.cell (a := ⟨b, _, none⟩) hbw hbn).trans h0
  clear hI hst hI1 hC1 hO1 hc hcall
  rcases hk with rfl | rfl
  all_goals
    go_enter Try.func98, Try.ntmps98
    go_wp2_with fail
    refine HC.out.mono ?_; rintro e w1 h
    have HP := Lib.hid (VPost.from HO.out h rfl)
    obtain ⟨v, _, _, _, rfl, _⟩ := h
    go_wp2
    go_ret
    exact HP.out

theorem expr_any (P : List Fn) (n : Nat) : ∀ f : Nat, ExprC P n f := by
  intro f
  induction f with
  | zero =>
    intro x env s t c0 fn b o B bv A ecap bp op w hI hst hf hN
    have hc : c0 ≠ 0 := fun h => by have := hf h; omega
    have hv := expr_dead P n env s c0 b o B bv A ecap bp op w hI hst hc
    unfold evC
    rw [if_neg hc]
    exact hv
  | succ f IH =>
    intro x env s t c0 fn b o B bv A ecap bp op w hI hst hf hN
    by_cases hc : c0 = 0
    · obtain ⟨rfl, ht, hft⟩ := hf hc
      subst hc
      unfold evC
      rw [if_pos rfl]
      by_cases hs : t < 3000
      · have hk := formed_kinds hN.form
        have hform := hN.form
        obtain ⟨xk, xn, xp, xc, xks⟩ := x
        simp only at hk hform hN ⊢
        by_cases k1 : xk = 1
        · subst k1
          have h1 := hform
          unfold formed at h1
          rw [Bool.and_eq_true] at h1
          simp only at h1
          rw [nodeOk_leaf1] at h1
          simp only [Bool.and_eq_true] at h1
          have hb := inR_true.1 h1.1.2.2
          have hv := expr_num P ⟨1, xn, xp, xc, xks⟩ n env t b o B bv A ecap bp op w hI hst hN.node rfl hs hb.1 hb.2
          rw [ev, if_neg (by omega), if_pos rfl]
          exact hv
        by_cases k2 : xk = 2
        · subst k2
          have h1 := hform
          unfold formed at h1
          rw [Bool.and_eq_true] at h1
          simp only at h1
          rw [nodeOk_leaf2] at h1
          simp only [Bool.and_eq_true] at h1
          have hb := inR_true.1 h1.1.2.2
          obtain ⟨j, rfl⟩ := Int.eq_ofNat_of_zero_le hb.1
          have hj : j < env.length := by omega
          have hem := hN.em
          have hel := hN.el
          have hv := expr_var P ⟨2, j, xp, xc, xks⟩ n env t j env[j] b o B bv A ecap bp op w hI hst hN.node hN.envA (by unfold maxLen at hem; omega) rfl rfl hs (List.getElem?_eq_getElem hj)
          rw [ev, if_neg (by omega), if_neg (by show ¬ (2 : Int) = 1; omega), if_pos rfl]
          have e : env.getD (j : Int).toNat [] = env[j] := by simp [List.getD, hj]
          simp only
          rw [e]
          exact hv
        by_cases k8 : xk = 8
        · exact expr_if P _ n f IH env t fn b o B bv A ecap bp op w hI hst hN k8 hs hft
        by_cases k9 : xk = 9
        · exact expr_let P _ n f IH env t fn b o B bv A ecap bp op w hI hst hN k9 hs hft
        by_cases k3 : xk = 3
        · exact expr_op3 P _ n f IH env t fn b o B bv A ecap bp op w hI hst hN k3 hs hft
        by_cases k4 : xk = 4
        · exact expr_op4 P _ n f IH env t fn b o B bv A ecap bp op w hI hst hN k4 hs hft
        by_cases k5 : xk = 5
        · exact expr_op5 P _ n f IH env t fn b o B bv A ecap bp op w hI hst hN k5 hs hft
        by_cases k6 : xk = 6
        · exact expr_op6 P _ n f IH env t fn b o B bv A ecap bp op w hI hst hN k6 hs hft
        by_cases k7 : xk = 7
        · exact expr_neg P _ n f IH env t fn b o B bv A ecap bp op w hI hst hN k7 hs hft
        obtain ⟨m, pi, g, y, hn, hp, _, hC⟩ := callIn hI.ok hform (by omega) hN.f1
        subst hn hp
        have hnb := hN.node
        obtain ⟨hbB, h0, _⟩ := hnb
        have hmv : ∀ wx, Only (fun q => q = bv) w wx → SvIn wx B bv n P bp op := fun wx ho => hI.only ho
        by_cases k10 : xk = 10
        · subst k10
          refine expr_call P 10 n env t b o B bv A ecap bp op w hI hst h0 hbB (.inl rfl) hs _ fun wx ho hcx => ?_
          have hz := call10_of P n f IH m pi xc xks g y env (t + 1) fn b o B bv A ecap bp op wx (hmv wx ho) hcx (by omega) (by omega) ⟨hN.node.below (only_below ho hI.blow hI.lt), hN.envA.only ho, hN.el, hN.em, hN.big, hN.size, hN.form, hN.f0, hN.f1⟩ hC
          rw [ev, if_neg (by omega), if_neg (by show ¬ (10 : Int) = 1; omega), if_neg (by show ¬ (10 : Int) = 2; omega), if_neg (by show ¬ (10 : Int) = 8; omega), if_neg (by show ¬ (10 : Int) = 9; omega)]
          simp only
          rw [show P[(m : Int).toNat]? = some g from hC.fn]
          simp only [Int.toNat_natCast, hC.out, if_pos]
          exact hz
        · obtain rfl : xk = 11 := by omega
          obtain ⟨C, rfl⟩ := Int.eq_ofNat_of_zero_le (hC.loop rfl).1
          refine expr_call P 11 n env t b o B bv A ecap bp op w hI hst h0 hbB (.inr rfl) hs _ fun wx ho hcx => ?_
          have hz := call11_of P n f IH m pi C xks g y env (t + 1) fn b o B bv A ecap bp op wx (hmv wx ho) hcx (by omega) (by omega) ⟨hN.node.below (only_below ho hI.blow hI.lt), hN.envA.only ho, hN.el, hN.em, hN.big, hN.size, hN.form, hN.f0, hN.f1⟩ hC
          rw [ev, if_neg (by omega), if_neg (by show ¬ (11 : Int) = 1; omega), if_neg (by show ¬ (11 : Int) = 2; omega), if_neg (by show ¬ (11 : Int) = 8; omega), if_neg (by show ¬ (11 : Int) = 9; omega)]
          simp only
          rw [show P[(m : Int).toNat]? = some g from hC.fn]
          simp only [Int.toNat_natCast, if_neg (show ¬ (11 : Int) = 10 by omega), if_pos]
          refine Calls.mono hz fun e1 w1 h => VPost.from (Only.refl _ _) h ?_
          cases evAll (ev (ops n) P f) env xks (t + 1) with
          | err e => rfl
          | ok zs s1 => simp only; cases evLoop (ev (ops n) P f) g.outs C zs s1 <;> rfl
      · obtain rfl : t = 3000 := by omega
        have hv := expr_full P n env b o B bv A ecap bp op w hI hst
        rw [ev, if_pos (by omega)]
        exact hv
    · have hv := expr_dead P n env s c0 b o B bv A ecap bp op w hI hst hc
      unfold evC
      rw [if_neg hc]
      exact hv
theorem outs_any (P : List Fn) (n f : Nat) : OutsC P n f := outs_of P n f (expr_any P n f)

end Go.Proofs.Ytlnikpjcggfdmaa
