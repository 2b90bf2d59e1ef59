/- Texts put together: WEval8, WTay1, WTay2, WTay3. -/
import Derived.Test.YtlnikpjcggfdmaaGreatKP

/- Walks: Evaluate of the spec and of the program. -/
namespace Go.Proofs.YtlnikpjcggfdmaaGreat
open Go.RowKit Plain

def evaRes : Res (List (List Int)) → List Int × Int × Int
  | .err x => ([], 0, x)
  | .ok zss t => (heads zss, (t : Int), 0)
/-- what Evaluate answers -/
def evaV (P : List Fn) (f : Int) (zs : List Int) : List Int × Int × Int :=
  if argV P f zs = 0 then (match P[f.toNat]? with
    | none => ([], 0, 0)
    | some g => evaRes (evalR 1 P g.outs (ones zs)))
  else ([], 0, argV P f zs)
/-- a function and arguments that may be evaluated -/
structure ArgIn (P : List Fn) (m : Nat) (g : Fn) (zs : List Int) : Prop where
  ok : progOk P = true
  fn : FnIn P m g
  len : (zs.length : Int) = g.params
  isS : IsS zs
theorem isS_nums {zs : List Int} (h : nums' zs = true) : IsS zs := fun k => by
  by_cases hk : k < zs.length
  · have := List.all_eq_true.1 h zs[k] (List.getElem_mem hk)
    have := inR_true.1 this
    rw [cf_get (List.getElem?_eq_getElem hk)]
    omega
  · rw [cf_big (by omega)]; omega
theorem argV_zero {P : List Fn} {f : Int} {zs : List Int} (h : argV P f zs = 0) : askV P f = 0 ∧ ∃ (m : Nat) (g : Fn), f = (m : Int) ∧ ArgIn P m g zs := by
  by_cases hv : askV P f = 0
  · obtain ⟨hok, m, g, rfl, hg⟩ := askV_zero hv
    rw [argV_some hv hg] at h
    split at h
    · rename_i hc
      exact ⟨hv, m, g, rfl, hok, fnIn hok hg, hc.1, isS_nums hc.2⟩
    · exact absurd h (by decide)
  · unfold argV at h
    rw [if_neg hv] at h
    exact absurd h hv
theorem prBoxAt {w : World} {P : List Fn} {A : Option Addr} {cap : Nat} (h : ProgIn w P A cap) (t : TypeId) : PrAt (w.alloc (.cells #[.slice A P.length cap] t)) (w.heap.size + 1) P w.heap.size 0 ∧ Below w.heap.size w (w.alloc (.cells #[.slice A P.length cap] t)) := by
  have hg : Below w.heap.size w (w.alloc (.cells #[.slice A P.length cap] t)) := by go_grown
  have hc : Cells (w.alloc (.cells #[.slice A P.length cap] t)) w.heap.size t [.slice A P.length cap] := Cells.new w _ _
  exact ⟨⟨by omega, A, cap, by rw [hc.cell]; rfl, h.pl, h.pm, (h.fns.below hg).mono (by omega)⟩, hg⟩
theorem regOfT {w w0 : World} {A : Option Addr} {zs : List Int} (h : IntsT w w0.heap.size A zs) (hs : w0.heap.size ≤ w.heap.size) : RI w w0.heap.size w.heap.size A zs := h.m.reg hs

set_option maxHeartbeats 1000000 in
theorem evaluateS (P : List Fn) (f : Int) (zs : List Int) {PA : Option Addr} {pcap : Nat} {A : Option Addr} {cap : Nat} (w : World) (hP : ProgIn w P PA pcap) (hA : Ints w A zs) (hl : zs.length ≤ 1048576) :
    Calls Tryz.prog 46 #[prV PA P.length pcap, .int .i64 f, .slice A zs.length cap] w (RetIii (evaV P f zs).1 (evaV P f zs).2.1 (evaV P f zs).2.2 w) := by
  obtain ⟨hPr, hg⟩ := prBoxAt hP 32
  have hsz := hP.sz
  have HC := Lib.hid (argsS_any P f A cap zs w.heap.size 0 (w.heap.size + 1) _ hPr (by simp) hsz (hA.below hg) (by omega))
  have HG := Lib.hid hg
  by_cases hv : argV P f zs = 0
  · obtain ⟨_, m, g, rfl, hin⟩ := argV_zero hv
    have hE : Hid (∀ wx, Below (w.alloc (.cells #[.slice PA P.length pcap] 32)).heap.size (w.alloc (.cells #[.slice PA P.length pcap] 32)) wx → Calls Tryz.prog 61 #[ptr w.heap.size 0, .int .i64 m, .slice A zs.length cap] wx (EvalSPost (evalR 1 P g.outs (ones zs)) wx)) := fun wx hx =>
      evalS_any P m g A cap zs w.heap.size 0 (w.heap.size + 1) wx (hPr.below (hx.mono (by simp))) (by have := hx.size; simp at this; omega) hin.ok hin.fn ((hA.below hg).below hx) hin.isS hin.len
    have hpost : Hid (∀ wx w2 e, Below w.heap.size w wx → EvalSPost (evalR 1 P g.outs (ones zs)) wx e w2 → RetIii (evaV P m zs).1 (evaV P m zs).2.1 (evaV P m zs).2.2 w e w2) := by
      intro wx w2 e hb ⟨hb2, os, A2, cp, s, c, he, hT, hm⟩
      have hev : evaV P m zs = (os, s, c) := by
        unfold evaV
        rw [if_pos hv]
        simp only [Int.toNat_natCast, hin.fn.fn]
        cases hr : evalR 1 P g.outs (ones zs) with
        | err x => rw [hr] at hm; obtain ⟨rfl, rfl, rfl⟩ := hm; rfl
        | ok zss t => rw [hr] at hm; obtain ⟨rfl, rfl, rfl⟩ := hm; rfl
      rw [hev]
      refine ⟨bnext hb hb2, A2, cp, he, ?_⟩
      have h1 := hb.size
      have h2 := hb2.size
      refine ⟨by omega, Nat.le_refl _, fun h0 => ?_, fun _ _ h hk => h.keep hk⟩
      obtain ⟨b, o, e1, e2, e3, _, e4⟩ := hT h0
      exact ⟨b, o, e1, by omega, e3, e4⟩
    rw [hv] at HC
    clear hv hin hPr hP hA hg
    go_enter Tryz.func46, Tryz.ntmps46
    go_wp2_with fail
    refine HC.out.mono ?_; rintro e w1 ⟨rfl, hb1⟩
    have HB := Lib.hid hb1
    clear hb1
    go_wp2_with fail
    refine (hE.out _ HB.out).mono ?_; rintro e w2 hp
    have hp2 := Lib.hid (hpost.out _ _ _ (HG.out.trans (HB.out.mono HG.out.size)) hp)
    obtain ⟨_, os, A2, cp, s, c, rfl, _, _⟩ := hp
    clear hpost hE
    go_wp2
    go_ret3
    exact hp2.out
  · have hev : Hid (evaV P f zs = ([], 0, argV P f zs)) := by show _ = _; unfold evaV; rw [if_neg hv]
    rw [hev.out]
    generalize argV P f zs = V at *
    clear hPr hP hA hg
    go_enter Tryz.func46, Tryz.ntmps46
    go_wp2_with fail
    refine HC.out.mono ?_; rintro e w1 ⟨rfl, hb1⟩
    have HB := Lib.hid hb1
    clear hb1
    go_wp2
    go_ret3
    have hb := HG.out.trans (HB.out.mono HG.out.size)
    have hb2 := hb.trans ((show Below w1.heap.size w1 (w1.alloc (.cells #[] 2)) by go_grown).mono hb.size)
    exact ⟨hb2, _, _, rfl, (IntsM.nil _ _ _).reg hb2.size⟩

/-- the codes of the program's look at a function and its arguments -/
theorem argV_bad {P : List Fn} {m : Nat} {g : Fn} {zs : List Int} (h : askV P m = 0) (hg : P[m]? = some g) : argV P m zs = if (decide ((zs.length : Int) = g.params) && nums' zs) = true then 0 else 2 := by
  rw [argV_some h hg]
  simp
theorem evalR_err {n : Nat} {P : List Fn} {outs : Es} {args : List (List Int)} {x : Int} (h : evalR n P outs args = .err x) : x ≠ 0 := by
  have := evAll_good (ev_good (n := n) (P := P) 3001) outs args 0
  unfold evalR at h
  rw [h] at this
  exact this

theorem evAll_len {g : Nd → List (List Int) → Nat → Res (List Int)} {env : List (List Int)} : ∀ (es : Es) (s : Nat) (zs : List (List Int)) (t : Nat), evAll g env es s = .ok zs t → zs.length = es.len := by
  intro es
  induction es with
  | nil => intro s zs t h; simp only [evAll, Res.ok.injEq] at h; rw [← h.1]; rfl
  | cons k n p c ks r _ ih =>
    intro s zs t h
    simp only [evAll] at h
    cases h1 : g ⟨k, n, p, c, ks⟩ env s with
    | err e => rw [h1] at h; simp at h
    | ok z s1 =>
      rw [h1] at h
      simp only at h
      cases h2 : evAll g env r s1 with
      | err e => rw [h2] at h; simp at h
      | ok zs' s2 =>
        rw [h2] at h
        simp only [Res.ok.injEq] at h
        rw [← h.1, List.length_cons, ih s1 zs' s2 h2]
        rfl
theorem evalR_len {n : Nat} {P : List Fn} {outs : Es} {args zss : List (List Int)} {t : Nat} (h : evalR n P outs args = .ok zss t) : zss.length = outs.len := evAll_len _ _ _ _ h
theorem evaV_len (P : List Fn) (f : Int) (zs : List Int) : (evaV P f zs).1.length ≤ 4194304 := by
  unfold evaV
  split
  · rename_i h
    obtain ⟨_, m, g, rfl, hin⟩ := argV_zero h
    simp only [Int.toNat_natCast, hin.fn.fn]
    cases hr : evalR 1 P g.outs (ones zs) with
    | err x => simp [evaRes]
    | ok zss t =>
      have h1 := evalR_len hr
      have h2 := hin.fn.o12
      simp only [evaRes, heads, mk_length]
      omega
  · simp

end Go.Proofs.YtlnikpjcggfdmaaGreat

/- Walks: the spec's evaluation with series: l00Own, l03Eval. -/
namespace Go.Proofs.YtlnikpjcggfdmaaGreat
open Go.RowKit Plain

/-- what an evaluation with series comes to -/
def RowsPost (n : Nat) (R : Res (List (List Int))) (w : World) (e : Ending) (w' : World) : Prop :=
  Below w.heap.size w w' ∧ match R with
    | .err c => ∃ A cp, e = .returned (.tuple #[.slice A 0 cp, .int .i64 c])
    | .ok zs _ => ∃ A cp, e = .returned (.tuple #[.slice A zs.length cp, .int .i64 0]) ∧ NewRows w' w.heap.size n (.slice A zs.length cp) zs

set_option maxRecDepth 100000 in
set_option maxHeartbeats 1000000 in
theorem ownS_any (b o cap : Nat) (zs : List Int) (w : World) (hc : ∀ j x, zs[j]? = some x → w.cell? ⟨b, o + j, none⟩ = some (.int .i64 x)) (hb : b < w.heap.size) (hl : zs.length ≤ 1000000) (hl1 : 1 ≤ zs.length) :
    Calls Tryz.prog 115 #[.slice (some ⟨b, o, none⟩) zs.length cap] w (fun e w' => ∃ g c, e = .returned (.slice (some ⟨g, 0, none⟩) zs.length c) ∧ IntsT w' w.heap.size (some ⟨g, 0, none⟩) zs ∧ Below w.heap.size w w') := by
  obtain ⟨i0, hi, hz0, hz1, hz2⟩ := info_parts Tryz.infoI
  have hown : IntRow (w.alloc (.cells #[] 2)) w.heap.size (.slice (some ⟨w.heap.size, 0, none⟩) 0 0) [] := rowStart w (fun _ => 0)
  have hg : Below w.heap.size w (w.alloc (.cells #[] 2)) := by go_grown
  have HN : Hid (∀ (j : Nat) u, (zs.map (Value.int .i64))[j]? = some u → (w.alloc (.cells #[] 2)).cell? ((Addr.mk b o none).add j) = some u) := by
    intro j u hu
    rw [List.getElem?_map] at hu
    obtain ⟨x, hx, rfl⟩ := Option.map_eq_some_iff.1 hu
    rw [addr_add]
    exact (hg.cell (p := ⟨b, o + j, none⟩) hb).trans (hc j x hx)
  have H1 : Hid (∀ u ∈ zs.map (Value.int .i64), u.oneCell' = true) := by
    intro u hu
    obtain ⟨x, _, rfl⟩ := List.mem_map.1 hu
    rfl
  have HO := Lib.hid hown
  have HG := Lib.hid hg
  clear hc hown hg
  go_enter Tryz.func115, Tryz.ntmps115
  go_wp2_with (at_builtin; refine wpList_append_own _ rfl _ _ 25 rfl w.heap.size 2 i0 (.int .i64 0) 1 8 Tryz.underlying25 hi hz0 hz1 hz2 rfl (by decide) _ 0 _ rfl HO.out ⟨b, o, none⟩ zs.length cap (zs.map (Value.int .i64)) rfl ?c0 HN.out H1.out ?c3 ?c4 ?c5 ?_)
  try (case c0 => simp)
  case c3 => unfold maxLen; omega
  case c4 => omega
  try (case c5 => simp; try omega)
  intro v2 w2 hown hg _
  have hr : IntRow w2 w.heap.size v2 zs := by
    unfold IntRow
    simpa using hown
  obtain ⟨g2, c2, hv, _⟩ := World.ownsRow.form hown (by omega)
  have hv2 : v2 = .slice (some ⟨g2, 0, none⟩) zs.length c2 := by first | exact hv | (rw [hv]; simp)
  subst hv2
  have hb2 : Below w.heap.size w w2 := HG.out.grown hg HG.out.size (fun q hq => (HO.out.lt hq).1)
  have HP : Hid (IntsT w2 w.heap.size (some ⟨g2, 0, none⟩) zs ∧ Below w.heap.size w w2) := ⟨hr.intsT, hb2⟩
  clear hown hg hr hb2 hv
  go_wp2
  go_ret
  exact ⟨g2, c2, rfl, HP.out⟩

set_option maxRecDepth 100000 in
set_option maxHeartbeats 2000000 in
theorem l03EvalS_any (P : List Fn) (m : Nat) (g : Fn) (n : Nat) (A : Option Addr) (acap bv0 : Nat) (args : List (List Int)) (bp op B : Nat) (w : World) (hP : PrAt w B P bp op) (hB : B ≤ w.heap.size) (hok : progOk P = true) (hG : FnIn P m g) (hE : EnvAt w bv0 n A args) (hl : (args.length : Int) = g.params) (hac : args.length ≤ acap) (ham : acap ≤ maxLen) (n0 : 1 ≤ n) (n1 : n ≤ 13) :
    Calls Tryz.prog 93 #[ptr bp op, .int .i64 m, .slice A args.length acap, .int .i64 (n : Int)] w (RowsPost n (evalR n P g.outs args) w) := by
  obtain ⟨i0, hi, hz0, hz1, hz2⟩ := info_parts Tryz.infoIS
  have ho12 := hG.o12
  obtain ⟨R, hR⟩ : ∃ R, R = evalR n P g.outs args := ⟨_, rfl⟩
  rw [← hR]
  have HR := Lib.hid hR; clear hR
  have hC0 : Cells (w.alloc (.cells #[ptr bp op, .int .i64 n, .int .i64 0, .int .i64 0] 131)) w.heap.size 131 (hdS n bp op ++ [.int .i64 0, .int .i64 0]) := Cells.new w _ _
  have hbw : Below w.heap.size w (w.alloc (.cells #[ptr bp op, .int .i64 n, .int .i64 0, .int .i64 0] 131)) := by go_grown
  have hpr := hP.below (hbw.mono hB)
  have hI : SvIn (w.alloc (.cells #[ptr bp op, .int .i64 n, .int .i64 0, .int .i64 0] 131)) B w.heap.size n P bp op := ⟨hpr, hB, by simp, hok, n0, n1⟩
  obtain ⟨hbp, PA, pcap, hp0, hPl, hPm, hFS⟩ := id hpr
  obtain ⟨bP, oP, rfl, hbP, _, g1, _, KF, cF, g2, hcF, hmF, hKo⟩ := hFS.get hG.fn
  have hml : m < P.length := (List.getElem?_eq_some_iff.1 hG.fn).1
  have hls := hG.ls hKo hcF hmF ((hE.rebase (bv' := w.heap.size) (by omega)).only (Only.of_below hbw)) hl hac ham (by omega)
  have hcl := outs_any P n 3001 g.outs args 0 0 0 m KF cF bP (oP + m * 3) B w.heap.size A acap bp op _ hI hC0 (fun _ => ⟨rfl, by omega, by omega⟩) hls g2 hbP
  have HCL := Lib.hid hcl
  have HBW := Lib.hid hbw
  have hml2 : (m : Int) < (P.length : Int) := by omega
  have hPm' : pcap ≤ 9223372036854775807 := by unfold maxLen at hPm; omega
  have hbpw : bp < w.heap.size := by omega
  have hbPw : bP < w.heap.size + 1 := by omega
  clear hcl hls hKo hFS hI hpr hC0 hbw hE hG hP hl
  go_enter Tryz.func93, Tryz.ntmps93
  go_wp2_with fail
  refine HCL.out.mono ?_; rintro e w1 ⟨A1, cp1, zss, s', c', rfl, hzl, hcp, hcm, hE1, hS1, hO1, hres⟩
  have c3 : w1.cell? ⟨w.heap.size, 3, none⟩ = some (.int .i64 c') := by rw [hS1.cell]; rfl
  have hb1 : Below w.heap.size w w1 := HBW.out.trans (hO1.below (by have := HBW.out.size; omega) (fun k hk => by omega))
  have cl : w.heap.size < w1.heap.size := hS1.lt
  by_cases hc : c' = 0
  · subst hc
    obtain ⟨_, t1, hs1, _, _, hev⟩ := evAC_next hres rfl
    subst hs1
    have HRE : Hid (R = .ok zss t1) := HR.out.trans hev
    have HB1 := Lib.hid hb1
    have HE1 := Lib.hid hE1
    have HZL := Lib.hid hzl
    clear hres hev hE1 hS1 hb1 hO1 HCL HBW hzl HR
    obtain ⟨wo, rfl⟩ : ∃ wo : World, wo = w1 := ⟨_, rfl⟩
    go_wp2
    go_loopw [12, 13] (fun o i wr => ∃ (k : Nat) (Av : Option Addr) (cq : Nat), i = .int .i64 (k : Int) ∧ o = .slice Av k cq ∧ k ≤ g.outs.len ∧ Hid (NewRows wr wo.heap.size n (.slice Av k cq) (zss.take k)) ∧ Hid (Below wo.heap.size wo wr)) (fun _ i _ => g.outs.len - (intOf i).toNat)
    case atStart => exact ⟨0, _, _, by go_num, rfl, Nat.zero_le _, NewRows.start wo n, by show Below _ _ _; go_grown⟩
    case round =>
      obtain ⟨k, Av, cq, rfl, rfl, hk, HN, HB⟩ := hrel
      by_cases hlt : k < g.outs.len
      · have hkz : k < zss.length := by rw [HZL.out]; exact hlt
        obtain ⟨b1, o1, Az, cz, rfl, hb1, _, g0, hzz⟩ := (HE1.out.only (Only.of_below HB.out)).sat hkz
        have hget : zss.getD k [] = zss[k] := by simp [List.getD, hkz]
        rw [hget] at hzz
        obtain ⟨b3, o3, e3, hb3, _, _, hc3⟩ := hzz.isAt (by rw [hzz.len]; omega)
        subst e3
        have hcl := ownS_any b3 o3 cz zss[k] wr hc3 hb3 (by rw [hzz.len]; omega) (by rw [hzz.len]; omega)
        rw [hzz.len] at hcl
        have HCL := Lib.hid hcl
        have HZZ := Lib.hid hzz
        have hkl : (k : Int) < (g.outs.len : Int) := by omega
        clear hzz hcl hc3 hget
        go_wp2_with fail
        refine HCL.out.mono ?_; rintro e w2 ⟨gc, cc, rfl, hT, hb2⟩
        have htl : (zss.take k).length = k := by simp; omega
        obtain ⟨vs, bs, hpa⟩ := HN.out.parts htl hb2
        have HPA := Lib.hid hpa
        have HT := Lib.hid hT
        have HB2 := Lib.hid hb2
        clear hT hb2 hpa
        go_wp2_with (at_builtin; refine wpList_append_own _ rfl _ _ 27 rfl wo.heap.size 25 i0 (.slice none 0 0) 1 24 Tryz.underlying27 hi hz0 hz1 hz2 rfl (by decide) _ k _ rfl (HPA.out.1.alloc _) ⟨w2.heap.size, 0, none⟩ 1 1 [.slice (some ⟨gc, 0, none⟩) n cc] rfl rfl ?c1 ?c2 ?c3 ?c4 ?c5 ?_)
        try (case c1 => exact cell_one_new _ _ _)
        try (case c2 => intro u hu; simp at hu; subst hu; rfl)
        case c3 => unfold maxLen; omega
        case c4 => omega
        try (case c5 => have := HB.out.size; have := HB2.out.size; simp; try omega)
        intro v2 w3 hown hg _
        obtain ⟨⟨A2, c2, rfl⟩, p1, p2⟩ := HN.out.push htl HB2.out HB.out.size HT.out HZZ.out.len HZZ.out.isS n0 vs bs HPA.out hown hg
        rw [show zss.take k ++ [zss[k]] = zss.take (k + 1) by simp] at p1
        have HN2 := Lib.hid p1
        have HB3 := Lib.hid (HB.out.trans p2)
        clear hown hg p1 p2 HN HB HT HPA HZZ HB2
        go_wp2
        go_roundw
        case rel => exact ⟨k + 1, A2, c2, by go_num, rfl, by omega, HN2, HB3⟩
        case measure => simp [intOf]; omega
      · obtain rfl : k = g.outs.len := by omega
        have hn := HN.out
        rw [show zss.take g.outs.len = zss by rw [← HZL.out]; exact List.take_length] at hn
        have HNF := Lib.hid hn
        clear hn
        go_wp2
        go_ret2
        have hh := HRE.out
        subst hh
        refine ⟨HB1.out.trans (HB.out.mono HB1.out.size), Av, cq, ?_, ?_⟩
        · rw [HZL.out]; rfl
        · rw [HZL.out]; exact HNF.out.weaken HB1.out.size
  · have hev : Hid (R = .err c') := HR.out.trans (evAC_bad hres hc rfl)
    have HB1 := Lib.hid hb1
    clear hres hE1 hS1 hb1 hO1 hzl HR HCL HBW
    go_wp2_with fail
    go_region
    all_goals go_wp2
    all_goals go_ret2
    all_goals (have hh := hev.out; subst hh; exact ⟨HB1.out.trans ((show Below w1.heap.size w1 _ by go_grown).mono HB1.out.size), _, _, rfl⟩)

end Go.Proofs.YtlnikpjcggfdmaaGreat

/- Walks: lines of series args + dir t, in the spec and in the program. -/
namespace Go.Proofs.YtlnikpjcggfdmaaGreat
open Go.RowKit Plain

/-- the series x + d t -/
def lineRow (n : Nat) (x d : Int) : List Int := mk n fun k => if k = 0 then x else if k = 1 then d else 0
/-- the first k series of a line -/
def lineL (n : Nat) (zs ds : List Int) (k : Nat) : List (List Int) := (List.range k).map fun i => lineRow n (cf zs i) (cf ds i)
theorem lineL_length (n : Nat) (zs ds : List Int) (k : Nat) : (lineL n zs ds k).length = k := by simp [lineL]
theorem lineL_succ (n : Nat) (zs ds : List Int) (k : Nat) : lineL n zs ds (k + 1) = lineL n zs ds k ++ [lineRow n (cf zs k) (cf ds k)] := by unfold lineL; rw [List.range_succ, List.map_append]; rfl
theorem lineRow_length (n : Nat) (x d : Int) : (lineRow n x d).length = n := mk_length _ _
theorem isS_line {n : Nat} {x d : Int} (hx : 0 ≤ x ∧ x ≤ 1000002) (hd : 0 ≤ d ∧ d ≤ 1000002) : IsS (lineRow n x d) := IsS.mk_ fun k => by split <;> (try split) <;> omega
theorem lineRow_set {n : Nat} {x d : Int} (_hn : 2 ≤ n) : ((ops n).num x).set 1 d = lineRow n x d := by
  apply list_ext
  · simp [ops, lineRow, mk_length]
  · intro k hk
    simp [ops, mk_length] at hk
    by_cases h1 : k = 1
    · subst h1
      have : (((ops n).num x).set 1 d)[1]? = some d := List.getElem?_set_self (by simp [ops, mk_length]; omega)
      rw [cf_get this]
      unfold lineRow
      rw [cf_mk (by omega)]; simp
    · have : (((ops n).num x).set 1 d)[k]? = ((ops n).num x)[k]? := List.getElem?_set_ne (by omega)
      have e : cf (((ops n).num x).set 1 d) k = cf ((ops n).num x) k := by simp [cf, List.getD, this]
      rw [e]
      unfold lineRow ops
      rw [cf_mk hk, cf_mk hk]
      simp [h1]
theorem lineRow_one {x d : Int} : (ops 1).num x = lineRow 1 x d := by
  show mk _ _ = mk _ _
  exact mk_congr fun k hk => by obtain rfl : k = 0 := by omega
                                rfl

theorem lineStep {w wr W w2 : World} {bv n k cp : Nat} {Av : Option Addr} {zs ds : List Int} {v2 u : Value} {t : TypeId} (hR : RowsRow wr w.heap.size bv n (.slice Av k cp) (lineL n zs ds k)) (hW : Below wr.heap.size wr W) (hu : RowV W bv n u (lineRow n (cf zs k) (cf ds k))) (hB : Below w.heap.size w wr) (hb : bv < w.heap.size) (vs : List Value)
    (hvs : W.ownsRow w.heap.size 25 1 (.slice Av k cp) k vs ∧ ∀ (i : Nat) z, (lineL n zs ds k)[i]? = some z → ∃ u, vs[i]? = some u ∧ RowV W bv n u z)
    (hown : w2.ownsRow w.heap.size 25 1 v2 (k + 1) (vs ++ [u])) (hg : (W.alloc (.cells #[u] t)).grownBy w2 (Value.slice Av k cp).ownBlock) :
    (∃ A2 c2, v2 = .slice A2 (k + 1) c2) ∧ RowsRow w2 w.heap.size bv n v2 (lineL n zs ds (k + 1)) ∧ Below w.heap.size w w2 := by
  rw [lineL_succ]
  exact rowStep (hR.only hb (Only.of_below hW)) (lineL_length _ _ _ _) hu vs hvs hown hg hb (bnext hB hW)
theorem lineVs {w wr W : World} {bv n k cp : Nat} {Av : Option Addr} {zs ds : List Int} (hR : RowsRow wr w.heap.size bv n (.slice Av k cp) (lineL n zs ds k)) (hW : Below wr.heap.size wr W) (hb : bv < w.heap.size) :
    ∃ vs, W.ownsRow w.heap.size 25 1 (.slice Av k cp) k vs ∧ ∀ (i : Nat) z, (lineL n zs ds k)[i]? = some z → ∃ u, vs[i]? = some u ∧ RowV W bv n u z := by
  obtain ⟨vs, h1, h2⟩ := hR.only hb (Only.of_below hW)
  rw [lineL_length] at h1
  exact ⟨vs, h1, h2⟩
theorem lineStart (w : World) (bv n : Nat) (zs ds : List Int) : RowsRow (w.alloc (.cells #[] 25)) w.heap.size bv n (.slice (some ⟨w.heap.size, 0, none⟩) 0 0) (lineL n zs ds 0) :=
  ⟨[], World.ownsRow_lit w #[] 0 (Nat.le_refl _) (by unfold maxLen; omega) (by rfl), fun i zs h => by simp [lineL] at h⟩
/-- one number of a new list is set -/
theorem IntsT.setAt {w : World} {B b o j : Nat} {zs : List Int} (h : IntsT w B (some ⟨b, o, none⟩) zs) (hj : j < zs.length) (d : Int) : IntsT (w.setCell ⟨b, o + j, none⟩ (.int .i64 d)) B (some ⟨b, o, none⟩) (zs.set j d) := fun hn => by
  obtain ⟨b', o', e, h1, h2, ⟨cs, ht⟩, hc⟩ := h (by omega)
  obtain ⟨rfl, rfl⟩ : b = b' ∧ o = o' := by simpa using e
  refine ⟨b, o, rfl, h1, by simpa [World.setCell] using h2, ?_, fun i x hx => ?_⟩
  · unfold Typed
    simp [World.setCell, Array.getElem?_modify, ht]
  · by_cases hij : i = j
    · subst hij
      rw [List.getElem?_set_self hj] at hx
      obtain rfl : d = x := by simpa using hx
      exact ⟨World.cell?_setCell_same _ _ _ (hc i _ (List.getElem?_eq_getElem hj)).1, by rw [World.frozen?_setCell]; exact (hc i _ (List.getElem?_eq_getElem hj)).2⟩
    · rw [List.getElem?_set_ne (fun h => hij h.symm)] at hx
      exact ⟨(World.cell?_setCell_other _ _ _ _ (fun e => by injection e with _ h _; omega)).trans (hc i x hx).1, by rw [World.frozen?_setCell]; exact (hc i x hx).2⟩

theorem ints_cf {w : World} {A : Option Addr} {zs : List Int} {k : Nat} (h : Ints w A zs) (hk : k < zs.length) : ∃ b o, A = some ⟨b, o, none⟩ ∧ b < w.heap.size ∧ w.cell? ⟨b, o + k, none⟩ = some (.int .i64 (cf zs k)) := by
  obtain ⟨b, o, e, hl, hc⟩ := h (by omega)
  exact ⟨b, o, e, hl, hc k _ (cf_some hk)⟩

set_option maxRecDepth 100000 in
set_option maxHeartbeats 2000000 in
theorem lineS_any (q bv : Nat) (A D : Option Addr) (cap dcap : Nat) (zs ds : List Int) (w : World) (hA : Ints w A zs) (hD : Ints w D ds) (hz : IsS zs) (hd : IsS ds) (hl : ds.length = zs.length) (hzl : zs.length ≤ 1000000) (hq : q ≤ 12) (hb : bv < w.heap.size) :
    Calls Tryz.prog 94 #[.slice A zs.length cap, .slice D ds.length dcap, .int .i64 q] w fun e w' => ∃ A2 c2, e = .returned (.slice A2 zs.length c2) ∧ zs.length ≤ c2 ∧ c2 ≤ maxLen ∧ EnvAt w' bv (q + 1) A2 (lineL (q + 1) zs ds zs.length) ∧ Below w.heap.size w w' := by
  obtain ⟨i0, hi, hz0, hz1, hz2⟩ := info_parts Tryz.infoIS
  have HL := Lib.hid hl; clear hl
  have hcon : Hid (∀ (x : Int) wx, Calls Tryz.prog 116 #[.int .i64 x, .int .i64 ((q : Int) + 1)] wx (SPost ((ops (q + 1)).num x) wx)) := fun x wx => by
    have h := constS_any x (q + 1) wx (by omega) (by omega)
    rw [show ((q + 1 : Nat) : Int) = (q : Int) + 1 by omega] at h
    exact h
  by_cases h0 : q = 0
  · subst h0
    rw [show ((0 : Nat) : Int) = 0 from rfl]
    rw [show ((0 : Nat) : Int) + 1 = 1 from rfl] at hcon
    go_enter Tryz.func94, Tryz.ntmps94
    go_wp2
    go_loopw [7, 8] (fun o i wr => ∃ (k : Nat) (Av : Option Addr) (cp : Nat), i = .int .i64 (k : Int) ∧ o = .slice Av k cp ∧ k ≤ zs.length ∧ Hid (RowsRow wr w.heap.size bv 1 (.slice Av k cp) (lineL 1 zs ds k)) ∧ Hid (Below w.heap.size w wr)) (fun _ i _ => zs.length - (intOf i).toNat)
    case atStart => exact ⟨0, _, _, by go_num, rfl, Nat.zero_le _, lineStart w bv 1 zs ds, by show Below _ _ _; go_grown⟩
    case round =>
      obtain ⟨k, Av, cp, rfl, rfl, hk, HR, HB⟩ := hrel
      by_cases hlt : k < zs.length
      · obtain ⟨b, o, rfl, _, hc⟩ := ints_cf (hA.below HB.out) hlt
        have hkl : (k : Int) < (zs.length : Int) := by omega
        have HC : Hid (Calls Tryz.prog 116 #[.int .i64 (cf zs k), .int .i64 1] wr (SPost ((ops 1).num (cf zs k)) wr)) := hcon.out (cf zs k) wr
        have HI := Lib.hid (isS_line (n := 1) (hz k) (hd k))
        have HE : Hid ((ops 1).num (cf zs k) = lineRow 1 (cf zs k) (cf ds k)) := lineRow_one
        go_wp2_with fail
        refine HC.out.mono ?_; rintro e w1 ⟨As, cs, rfl, hT, hb1⟩
        rw [HE.out] at hT
        rw [HE.out, lineRow_length]
        have HU : Hid (RowV w1 bv 1 (.slice As 1 cs) (lineRow 1 (cf zs k) (cf ds k))) := ⟨As, cs, rfl, lineRow_length _ _ _, hT.isAt (by have := HB.out.size; omega), HI.out⟩
        obtain ⟨vs, hvs⟩ := lineVs HR.out hb1 hb
        have HVS := Lib.hid hvs
        have HB1 := Lib.hid hb1
        have hs1 := hb1.size
        clear hT hvs hb1 HC HE HI hc
        go_wp2_with (at_builtin; refine wpList_append_own _ rfl _ _ 27 rfl w.heap.size 25 i0 (.slice none 0 0) 1 24 Tryz.underlying27 hi hz0 hz1 hz2 rfl (by decide) _ k _ rfl (HVS.out.1.alloc _) ⟨w1.heap.size, 0, none⟩ 1 1 [.slice As 1 cs] rfl rfl ?c1 ?c2 ?c3 ?c4 ?c5 ?_)
        try (case c1 => exact cell_one_new _ _ _)
        try (case c2 => intro u hu; simp at hu; subst hu; rfl)
        case c3 => unfold maxLen; omega
        case c4 => omega
        try (case c5 => have := HB.out.size; simp; try omega)
        intro v2 w2 hown hg _
        obtain ⟨⟨A2, c2, rfl⟩, p1, p2⟩ := lineStep HR.out HB1.out HU.out HB.out hb vs HVS.out hown hg
        have HR2 := Lib.hid p1
        have HB2 := Lib.hid p2
        clear hown hg p1 p2 HR HB HVS HU HB1
        go_wp2
        go_roundw
        case rel => exact ⟨k + 1, A2, c2, by go_num, rfl, by omega, HR2, HB2⟩
        case measure => simp [intOf]; omega
      · obtain rfl : k = zs.length := by omega
        obtain ⟨e1, e2, e3⟩ := HR.out.env (lineL_length _ _ _ _) hb
        have HE := Lib.hid (And.intro e1 (And.intro e2 e3))
        clear e1 e2 e3
        go_wp2
        go_ret
        exact ⟨Av, cp, rfl, HE.out.1, HE.out.2.1, HE.out.2.2, HB.out⟩
  · have hq1 : 1 ≤ q := by omega
    have hq0 : (0 : Int) < (q : Int) := by omega
    clear h0
    go_enter Tryz.func94, Tryz.ntmps94
    go_wp2
    go_loopw [7, 8] (fun o i wr => ∃ (k : Nat) (Av : Option Addr) (cp : Nat), i = .int .i64 (k : Int) ∧ o = .slice Av k cp ∧ k ≤ zs.length ∧ Hid (RowsRow wr w.heap.size bv (q + 1) (.slice Av k cp) (lineL (q + 1) zs ds k)) ∧ Hid (Below w.heap.size w wr)) (fun _ i _ => zs.length - (intOf i).toNat)
    case atStart => exact ⟨0, _, _, by go_num, rfl, Nat.zero_le _, lineStart w bv _ zs ds, by show Below _ _ _; go_grown⟩
    case round =>
      obtain ⟨k, Av, cp, rfl, rfl, hk, HR, HB⟩ := hrel
      by_cases hlt : k < zs.length
      · obtain ⟨b, o, rfl, _, hc⟩ := ints_cf (hA.below HB.out) hlt
        obtain ⟨b', o', rfl, hbd, hcd⟩ := ints_cf (hD.below HB.out) (show k < ds.length by rw [HL.out]; exact hlt)
        have hkl : (k : Int) < (zs.length : Int) := by omega
        have hkd : (k : Int) < (ds.length : Int) := by rw [HL.out]; exact hkl
        have hkdn : k < ds.length := by rw [HL.out]; exact hlt
        have HC := Lib.hid (hcon.out (cf zs k) wr)
        have HI := Lib.hid (isS_line (n := q + 1) (hz k) (hd k))
        have HNL : Hid (((ops (q + 1)).num (cf zs k)).length = q + 1) := by show _ = _; simp [ops, mk_length]
        go_wp2_with fail
        refine HC.out.mono ?_; rintro e w1 ⟨As, cs, rfl, hT, hb1⟩
        rw [HNL.out]
        obtain ⟨bs, os, rfl, hbs1, hbs2, _, hcs⟩ := hT (by rw [HNL.out]; omega)
        have hT2 := hT.setAt (j := 1) (by rw [HNL.out]; omega) (cf ds k)
        rw [lineRow_set (by omega)] at hT2
        obtain ⟨c1old, hc1⟩ : ∃ x, ((ops (q + 1)).num (cf zs k))[1]? = some x := ⟨_, List.getElem?_eq_getElem (by rw [HNL.out]; omega)⟩
        have hs1 := (hcs 1 _ hc1).1
        have hs2 := (hcs 1 _ hc1).2
        have hcd1 : w1.cell? ⟨b', o' + k, none⟩ = some (.int .i64 (cf ds k)) := (hb1.cell (p := ⟨b', o' + k, none⟩) hbd).trans hcd
        have hW : Below wr.heap.size wr (w1.setCell ⟨bs, os + 1, none⟩ (.int .i64 (cf ds k))) := hb1.setCell (p := ⟨bs, os + 1, none⟩) hbs1 _
        have HU : Hid (RowV (w1.setCell ⟨bs, os + 1, none⟩ (.int .i64 (cf ds k))) bv (q + 1) (.slice (some ⟨bs, os, none⟩) (q + 1) cs) (lineRow (q + 1) (cf zs k) (cf ds k))) := ⟨_, cs, rfl, lineRow_length _ _ _, hT2.isAt (by have := HB.out.size; omega), HI.out⟩
        obtain ⟨vs, hvs⟩ := lineVs HR.out hW hb
        have HVS := Lib.hid hvs
        have HW := Lib.hid hW
        have hsz := hb1.size
        have hsW : (w1.setCell ⟨bs, os + 1, none⟩ (.int .i64 (cf ds k))).heap.size = w1.heap.size := by simp [World.setCell]
        have HSW := Lib.hid hsW
        clear hT hT2 hvs hb1 HC HI hc hcs hc1 hW hcd HNL hsW
        go_wp2_with (at_builtin; refine wpList_append_own _ rfl _ _ 27 rfl w.heap.size 25 i0 (.slice none 0 0) 1 24 Tryz.underlying27 hi hz0 hz1 hz2 rfl (by decide) _ k _ rfl (HVS.out.1.alloc _) ⟨w1.heap.size, 0, none⟩ 1 1 [.slice (some ⟨bs, os, none⟩) (q + 1) cs] rfl rfl ?d1 ?d2 ?d3 ?d4 ?d5 ?_)
        try (case d1 => (have h := cell_one_new (w1.setCell ⟨bs, os + 1, none⟩ (.int .i64 (cf ds k))) (.slice (some ⟨bs, os, none⟩) (q + 1) cs) 25; rw [HSW.out] at h; exact h))
        try (case d2 => intro u hu; simp at hu; subst hu; rfl)
        case d3 => unfold maxLen; omega
        case d4 => omega
        try (case d5 => have := HB.out.size; simp [World.setCell]; try omega)
        intro v2 w2 hown hg _
        obtain ⟨⟨A2, c2, rfl⟩, p1, p2⟩ := lineStep HR.out HW.out HU.out HB.out hb vs HVS.out hown hg
        have HR2 := Lib.hid p1
        have HB2 := Lib.hid p2
        clear hown hg p1 p2 HR HB HVS HU HW hs1 hs2 hcd1
        go_wp2
        go_roundw
        case rel => exact ⟨k + 1, A2, c2, by go_num, rfl, by omega, HR2, HB2⟩
        case measure => simp [intOf]; omega
      · obtain rfl : k = zs.length := by omega
        obtain ⟨e1, e2, e3⟩ := HR.out.env (lineL_length _ _ _ _) hb
        have HE := Lib.hid (And.intro e1 (And.intro e2 e3))
        clear e1 e2 e3
        go_wp2
        go_ret
        exact ⟨Av, cp, rfl, HE.out.1, HE.out.2.1, HE.out.2.2, HB.out⟩

/-- the values along a line -/
def tayR (n : Nat) (P : List Fn) (outs : Es) (zs ds : List Int) : Res (List (List Int)) := evalR n P outs (lineL n zs ds zs.length)

set_option maxHeartbeats 1000000 in
theorem taylorS_any (P : List Fn) (m : Nat) (g : Fn) (q : Nat) (A D : Option Addr) (cap dcap : Nat) (zs ds : List Int) (bp op B : Nat) (w : World) (hP : PrAt w B P bp op) (hB : B ≤ w.heap.size) (hin : ArgIn P m g zs) (hA : Ints w A zs) (hD : Ints w D ds) (hd : IsS ds) (hl : ds.length = zs.length) (hq : q ≤ 12) :
    Calls Tryz.prog 62 #[ptr bp op, .int .i64 m, .slice A zs.length cap, .slice D ds.length dcap, .int .i64 q] w (RowsPost (q + 1) (tayR (q + 1) P g.outs zs ds) w) := by
  have hlen := hin.len
  have hp12 := hin.fn.p12
  have hbp : bp < w.heap.size := by have := hP.1; omega
  have HL := Lib.hid (lineS_any q bp A D cap dcap zs ds w hA hD hin.isS hd hl (by omega) hq hbp)
  have HP := Lib.hid hP
  have HIN := Lib.hid hin
  have HT : Hid (∀ wx A2 c2, Below w.heap.size w wx → EnvAt wx bp (q + 1) A2 (lineL (q + 1) zs ds zs.length) → zs.length ≤ c2 → c2 ≤ maxLen → Calls Tryz.prog 93 #[ptr bp op, .int .i64 m, .slice A2 zs.length c2, .int .i64 ((q : Int) + 1)] wx (RowsPost (q + 1) (tayR (q + 1) P g.outs zs ds) wx)) := fun wx A2 c2 hx hE h1 h2 => by
    have h := l03EvalS_any P m g (q + 1) A2 c2 bp (lineL (q + 1) zs ds zs.length) bp op B wx (HP.out.below (hx.mono hB)) (by have := hx.size; omega) HIN.out.ok HIN.out.fn hE (by rw [lineL_length]; exact HIN.out.len) (by rw [lineL_length]; exact h1) h2 (by omega) (by omega)
    rw [lineL_length, show ((q + 1 : Nat) : Int) = (q : Int) + 1 by omega] at h
    exact h
  clear hA hD hd hin hP hl
  generalize tayR (q + 1) P g.outs zs ds = R at *
  go_enter Tryz.func62, Tryz.ntmps62
  go_wp2_with fail
  refine HL.out.mono ?_; rintro e w1 ⟨A2, c2, rfl, h1, h2, hE, hb1⟩
  have HC := Lib.hid (HT.out w1 A2 c2 hb1 hE h1 h2)
  have HB := Lib.hid hb1
  clear hE hb1 HT HL
  cases R with
  | err c =>
    go_wp2_with fail
    refine HC.out.mono ?_; rintro e w2 ⟨hb2, A3, c3, rfl⟩
    go_wp2
    go_ret2
    exact ⟨bnext HB.out hb2, A3, c3, rfl⟩
  | ok zss t =>
    go_wp2_with fail
    refine HC.out.mono ?_; rintro e w2 ⟨hb2, A3, c3, rfl, hN⟩
    have HN := Lib.hid hN
    clear hN
    go_wp2
    go_ret2
    exact ⟨bnext HB.out hb2, A3, c3, rfl, HN.out.weaken HB.out.size⟩

end Go.Proofs.YtlnikpjcggfdmaaGreat

/- Walks: along of the program. -/
namespace Go.Proofs.YtlnikpjcggfdmaaGreat
open Go.RowKit Plain

/-- the cells of a series of a line -/
theorem line_cells {n : Nat} (h2 : 2 ≤ n) (x d : Int) : ((List.replicate n (Value.int .i64 0)).set 0 (.int .i64 x)).set 1 (.int .i64 d) = (lineRow n x d).map (Value.int .i64) := by
  apply List.ext_getElem?
  intro i
  unfold lineRow mk
  match i with
  | 0 => rw [List.getElem?_set_ne (by omega), List.getElem?_set_self (by simp; omega)]; simp [show 0 < n by omega]
  | 1 => rw [List.getElem?_set_self (by simp; omega)]; simp [show 1 < n by omega]
  | i + 2 =>
    rw [List.getElem?_set_ne (by omega), List.getElem?_set_ne (by omega)]
    by_cases h : i + 2 < n
    · simp [h]
    · rw [List.getElem?_eq_none (by simpa using h), List.getElem?_eq_none (by simpa using h)]
theorem line_cells1 (x d : Int) : (List.replicate 1 (Value.int .i64 0)).set 0 (.int .i64 x) = (lineRow 1 x d).map (Value.int .i64) := by
  simp [lineRow, mk, List.range_succ]

set_option maxRecDepth 100000 in
set_option maxHeartbeats 4000000 in
theorem alongI (P : List Fn) (m : Nat) (g : Fn) (q : Nat) (PA : Option Addr) (pcap : Nat) (A D : Option Addr) (cap dcap : Nat) (zs ds : List Int) (w : World) (hP : ProgIn w P PA pcap) (hin : ArgIn P m g zs) (hA : Ints w A zs) (hD : Ints w D ds) (hd : IsS ds) (hl : ds.length = zs.length) (hq : q ≤ 12) :
    Calls Tryz.prog 96 #[prV PA P.length pcap, .int .i64 m, .slice A zs.length cap, .slice D ds.length dcap, .int .i64 q] w (RowsPost (q + 1) (tayR (q + 1) P g.outs zs ds) w) := by
  obtain ⟨i0, hi, hz0, hz1, hz2⟩ := info_parts Tryz.infoIS
  have hlen := hin.len
  have hp12 := hin.fn.p12
  have HIN := Lib.hid hin
  have HP := Lib.hid hP
  have HL := Lib.hid hl
  have hz := hin.isS
  have hmk := run_make_row' (P := Tryz.prog) 25 2 (.int .i64 0) 8 Tryz.underlying25 Tryz.infoI rfl .i64 .i64 (q + 1) (by omega) (by omega)
  rw [madeCells_one, show ((q + 1 : Nat) : Int) = (q : Int) + 1 by omega] at hmk
  obtain ⟨w0, hw0⟩ : ∃ w0, w0 = w.alloc (.cells #[.slice PA P.length pcap] 32) := ⟨_, rfl⟩
  have hs0 : w0.heap.size = w.heap.size + 1 := by rw [hw0]; simp
  have hC0 : Hid (Cells w0 w.heap.size 32 [.slice PA P.length pcap]) := by show Cells _ _ _ _; rw [hw0]; exact Cells.new w _ _
  have hB0 : Hid (Below w.heap.size w w0) := by show Below _ _ _; rw [hw0]; go_grown
  have HA0 : Hid (Ints w0 A zs) := by show Ints _ _ _; rw [hw0]; exact hA.alloc _
  have HD0 : Hid (Ints w0 D ds) := by show Ints _ _ _; rw [hw0]; exact hD.alloc _
  have hb0 : w.heap.size < w0.heap.size := by omega
  clear hs0
  have HT : Hid (∀ wx A2 c2, Below w.heap.size w wx → EnvAt wx w.heap.size (q + 1) A2 (lineL (q + 1) zs ds zs.length) → zs.length ≤ c2 → c2 ≤ maxLen → Calls Tryz.prog 118 #[prV PA P.length pcap, .int .i64 m, .slice A2 zs.length c2, .int .i64 q] wx (EvalPost (q + 1) (tayR (q + 1) P g.outs zs ds) wx)) := fun wx A2 c2 hx hE h1 h2 => by
    have h := evaluated_any P m g (q + 1) A2 c2 w.heap.size (lineL (q + 1) zs ds zs.length) w.heap.size PA pcap wx (HP.out.fns.below hx) HP.out.pl HP.out.pm hx.size HIN.out.ok HIN.out.fn hE (by rw [lineL_length]; exact HIN.out.len) (by rw [lineL_length]; exact h1) h2 (by omega) (by omega)
    rw [lineL_length, show (((q + 1 : Nat) : Int) - 1) = (q : Int) by omega] at h
    exact h
  clear hA hD hP hin hl
  generalize hR : tayR (q + 1) P g.outs zs ds = R at HT ⊢
  clear hR
  by_cases h0 : q = 0
  · subst h0
    rw [show ((0 : Nat) : Int) = 0 from rfl] at HT ⊢
    rw [show ((0 : Nat) : Int) + 1 = 1 from rfl] at hmk
    simp only [Nat.zero_add] at hmk HT
    go_enter Tryz.func96, Tryz.ntmps96
    go_wp2
    go_loopw [12, 22] (fun o i wr => ∃ (k : Nat) (Av : Option Addr) (cp : Nat), i = .int .i64 (k : Int) ∧ o = .slice Av k cp ∧ k ≤ zs.length ∧ Hid (RowsRow wr w0.heap.size w.heap.size 1 (.slice Av k cp) (lineL 1 zs ds k)) ∧ Hid (Below w0.heap.size w0 wr)) (fun _ i _ => zs.length - (intOf i).toNat)
    case atStart =>
      subst hw0
      exact ⟨0, _, _, by go_num, by first | rfl | simp, Nat.zero_le _, lineStart _ w.heap.size _ zs ds, by show Below _ _ _; go_grown⟩
    case round =>
      obtain ⟨k, Av, cp, rfl, rfl, hk, HR, HB⟩ := hrel
      clear hw0
      by_cases hlt : k < zs.length
      · obtain ⟨b, o, rfl, hbb, hc⟩ := ints_cf (HA0.out.below HB.out) hlt
        obtain ⟨b', o', rfl, hbd, hcd⟩ := ints_cf (HD0.out.below HB.out) (show k < ds.length by rw [HL.out]; exact hlt)
        have hkl : (k : Int) < (zs.length : Int) := by omega
        have hkd : (k : Int) < (ds.length : Int) := by rw [HL.out]; exact hkl
        have hkdn : k < ds.length := by rw [HL.out]; exact hlt
        have HI := Lib.hid (isS_line (n := 1) (hz k) (hd k))
        have HX := Lib.hid (line_cells1 (cf zs k) (cf ds k))
        generalize hx : cf zs k = x at *
        generalize hy : cf ds k = y at *
        have HXY := Lib.hid (And.intro hx hy)
        clear hx hy
        obtain ⟨row0, hrow0⟩ : ∃ r : List Value, r = List.replicate 1 (Value.int .i64 0) := ⟨_, rfl⟩
        have hcW : ∀ C : List Value, Cells (wr.alloc (.cells C.toArray 2)) wr.heap.size 2 C := fun C => Cells.new wr _ _
        have u0 : (wr.alloc (.cells row0.toArray 2)).cell? ⟨wr.heap.size, 0, none⟩ = some (.int .i64 0) := by rw [(hcW row0).cell, hrow0]; simp
        have z0 : (wr.alloc (.cells row0.toArray 2)).frozen? ⟨wr.heap.size, 0, none⟩ = false := (hcW row0).frozen 0
        have hRW : Below wr.heap.size wr (wr.alloc (.cells (row0.set 0 (.int .i64 x)).toArray 2)) := by go_grown
        have HU : Hid (RowV (wr.alloc (.cells (row0.set 0 (.int .i64 x)).toArray 2)) w.heap.size 1 (.slice (some ⟨wr.heap.size, 0, none⟩) 1 1) (lineRow 1 x y)) := by
          have hcc := hcW (row0.set 0 (.int .i64 x))
          rw [hrow0, HX.out] at hcc
          rw [hrow0, HX.out]
          exact ⟨_, 1, rfl, lineRow_length _ _ _, (hcc.intsT (B := wr.heap.size) (Nat.le_refl _)).isAt (by have := HB.out.size; omega), HI.out⟩
        obtain ⟨vs, hvs⟩ := lineVs HR.out hRW hb0
        have HVS := Lib.hid hvs
        have HRW := Lib.hid hRW
        have hmk2 := hmk
        rw [← hrow0] at hmk2
        clear hvs hRW hcW HX HI hrow0 hmk
        go_wp2_with (at_builtin; refine wpList_append_own _ rfl _ _ 27 rfl w0.heap.size 25 i0 (.slice none 0 0) 1 24 Tryz.underlying27 hi hz0 hz1 hz2 rfl (by decide) _ k _ rfl (HVS.out.1.alloc _) ⟨wr.heap.size + 1, 0, none⟩ 1 1 [.slice (some ⟨wr.heap.size, 0, none⟩) 1 1] rfl rfl ?c1 ?c2 ?c3 ?c4 ?c5 ?_)
        try (case c1 => (have h := cell_one_new (wr.alloc (.cells (row0.set 0 (.int .i64 x)).toArray 2)) (.slice (some ⟨wr.heap.size, 0, none⟩) 1 1) 25; rw [show ((wr.alloc (.cells (row0.set 0 (.int .i64 x)).toArray 2))).heap.size = wr.heap.size + 1 by simp] at h; exact h))
        try (case c2 => intro u hu; simp at hu; subst hu; rfl)
        case c3 => unfold maxLen; omega
        case c4 => omega
        try (case c5 => have := HB.out.size; simp; try omega)
        intro v2 w2 hown hg _
        obtain ⟨⟨A2, c2, rfl⟩, p1, p2⟩ := lineStep (zs := zs) (ds := ds) HR.out HRW.out (by rw [HXY.out.1, HXY.out.2]; exact HU.out) HB.out hb0 vs HVS.out hown hg
        have HR2 := Lib.hid p1
        have HB2 := Lib.hid p2
        clear hown hg p1 p2 HR HB HVS HU HRW HXY hmk2
        go_wp2
        go_roundw
        case rel => exact ⟨k + 1, A2, c2, by go_num, rfl, by omega, HR2, HB2⟩
        case measure => simp [intOf]; omega
      · obtain rfl : k = zs.length := by omega
        obtain ⟨e1, e2, e3⟩ := HR.out.env (lineL_length _ _ _ _) hb0
        have hbw : Below w.heap.size w wr := hB0.out.trans (HB.out.mono (by omega))
        have hcw := hC0.out.below HB.out hb0
        have a0 : wr.cell? ⟨w.heap.size, 0, none⟩ = some (.slice PA P.length pcap) := by rw [hcw.cell]; rfl
        have HC := Lib.hid (HT.out wr Av cp hbw e3 e1 e2)
        have HBW := Lib.hid hbw
        clear e1 e2 e3 hbw hcw HT HB HR
        cases R with
        | err c =>
          go_wp2_with fail
          refine HC.out.mono ?_; rintro e w2 ⟨hb2, rfl⟩
          go_wp2
          go_ret2
          exact ⟨bnext HBW.out hb2, none, 0, rfl⟩
        | ok zss t =>
          go_wp2_with fail
          refine HC.out.mono ?_; rintro e w2 ⟨hb2, Ao, co, rfl, hN⟩
          have HN := Lib.hid hN
          clear hN
          go_wp2
          go_ret2
          exact ⟨bnext HBW.out hb2, Ao, co, rfl, HN.out.weaken HBW.out.size⟩
  · have hq1 : 1 ≤ q := by omega
    have hq0 : (0 : Int) < (q : Int) := by omega
    clear h0
    go_enter Tryz.func96, Tryz.ntmps96
    go_wp2
    go_loopw [12, 22] (fun o i wr => ∃ (k : Nat) (Av : Option Addr) (cp : Nat), i = .int .i64 (k : Int) ∧ o = .slice Av k cp ∧ k ≤ zs.length ∧ Hid (RowsRow wr w0.heap.size w.heap.size (q + 1) (.slice Av k cp) (lineL (q + 1) zs ds k)) ∧ Hid (Below w0.heap.size w0 wr)) (fun _ i _ => zs.length - (intOf i).toNat)
    case atStart =>
      subst hw0
      exact ⟨0, _, _, by go_num, by first | rfl | simp, Nat.zero_le _, lineStart _ w.heap.size _ zs ds, by show Below _ _ _; go_grown⟩
    case round =>
      obtain ⟨k, Av, cp, rfl, rfl, hk, HR, HB⟩ := hrel
      clear hw0
      by_cases hlt : k < zs.length
      · obtain ⟨b, o, rfl, hbb, hc⟩ := ints_cf (HA0.out.below HB.out) hlt
        obtain ⟨b', o', rfl, hbd, hcd⟩ := ints_cf (HD0.out.below HB.out) (show k < ds.length by rw [HL.out]; exact hlt)
        have hkl : (k : Int) < (zs.length : Int) := by omega
        have hkd : (k : Int) < (ds.length : Int) := by rw [HL.out]; exact hkl
        have hkdn : k < ds.length := by rw [HL.out]; exact hlt
        have HI := Lib.hid (isS_line (n := (q + 1)) (hz k) (hd k))
        have HX := Lib.hid (line_cells (n := q + 1) (by omega) (cf zs k) (cf ds k))
        generalize hx : cf zs k = x at *
        generalize hy : cf ds k = y at *
        have HXY := Lib.hid (And.intro hx hy)
        clear hx hy
        obtain ⟨row0, hrow0⟩ : ∃ r : List Value, r = List.replicate (q + 1) (Value.int .i64 0) := ⟨_, rfl⟩
        have hcW : ∀ C : List Value, Cells (wr.alloc (.cells C.toArray 2)) wr.heap.size 2 C := fun C => Cells.new wr _ _
        have u0 : (wr.alloc (.cells row0.toArray 2)).cell? ⟨wr.heap.size, 0, none⟩ = some (.int .i64 0) := by rw [(hcW row0).cell, hrow0]; simp
        have z0 : (wr.alloc (.cells row0.toArray 2)).frozen? ⟨wr.heap.size, 0, none⟩ = false := (hcW row0).frozen 0
        have u1 : (wr.alloc (.cells (row0.set 0 (.int .i64 x)).toArray 2)).cell? ⟨wr.heap.size, 1, none⟩ = some (.int .i64 0) := by rw [(hcW _).cell, List.getElem?_set_ne (by omega), hrow0]; simp [show 1 < q + 1 by omega]
        have z1 : (wr.alloc (.cells (row0.set 0 (.int .i64 x)).toArray 2)).frozen? ⟨wr.heap.size, 1, none⟩ = false := (hcW _).frozen 1
        have hcd1 : (wr.alloc (.cells (row0.set 0 (.int .i64 x)).toArray 2)).cell? ⟨b', o' + k, none⟩ = some (.int .i64 y) := ((show Below wr.heap.size wr _ by go_grown).cell (p := ⟨b', o' + k, none⟩) hbd).trans hcd
        have hRW : Below wr.heap.size wr (wr.alloc (.cells ((row0.set 0 (.int .i64 x)).set 1 (.int .i64 y)).toArray 2)) := by go_grown
        have HU : Hid (RowV (wr.alloc (.cells ((row0.set 0 (.int .i64 x)).set 1 (.int .i64 y)).toArray 2)) w.heap.size (q + 1) (.slice (some ⟨wr.heap.size, 0, none⟩) (q + 1) (q + 1)) (lineRow (q + 1) x y)) := by
          have hcc := hcW ((row0.set 0 (.int .i64 x)).set 1 (.int .i64 y))
          rw [hrow0, HX.out] at hcc
          rw [hrow0, HX.out]
          exact ⟨_, (q + 1), rfl, lineRow_length _ _ _, (hcc.intsT (B := wr.heap.size) (Nat.le_refl _)).isAt (by have := HB.out.size; omega), HI.out⟩
        obtain ⟨vs, hvs⟩ := lineVs HR.out hRW hb0
        have HVS := Lib.hid hvs
        have HRW := Lib.hid hRW
        have hmk2 := hmk
        rw [← hrow0] at hmk2
        clear hvs hRW hcW HX HI hrow0 hmk
        go_wp2_with (at_builtin; refine wpList_append_own _ rfl _ _ 27 rfl w0.heap.size 25 i0 (.slice none 0 0) 1 24 Tryz.underlying27 hi hz0 hz1 hz2 rfl (by decide) _ k _ rfl (HVS.out.1.alloc _) ⟨wr.heap.size + 1, 0, none⟩ 1 1 [.slice (some ⟨wr.heap.size, 0, none⟩) (q + 1) (q + 1)] rfl rfl ?d1 ?d2 ?d3 ?d4 ?d5 ?_)
        try (case d1 => (have h := cell_one_new (wr.alloc (.cells ((row0.set 0 (.int .i64 x)).set 1 (.int .i64 y)).toArray 2)) (.slice (some ⟨wr.heap.size, 0, none⟩) (q + 1) (q + 1)) 25; rw [show ((wr.alloc (.cells ((row0.set 0 (.int .i64 x)).set 1 (.int .i64 y)).toArray 2))).heap.size = wr.heap.size + 1 by simp] at h; exact h))
        try (case d2 => intro u hu; simp at hu; subst hu; rfl)
        case d3 => unfold maxLen; omega
        case d4 => omega
        try (case d5 => have := HB.out.size; simp; try omega)
        intro v2 w2 hown hg _
        obtain ⟨⟨A2, c2, rfl⟩, p1, p2⟩ := lineStep (zs := zs) (ds := ds) HR.out HRW.out (by rw [HXY.out.1, HXY.out.2]; exact HU.out) HB.out hb0 vs HVS.out hown hg
        have HR2 := Lib.hid p1
        have HB2 := Lib.hid p2
        clear hown hg p1 p2 HR HB HVS HU HRW HXY hmk2
        go_wp2
        go_roundw
        case rel => exact ⟨k + 1, A2, c2, by go_num, rfl, by omega, HR2, HB2⟩
        case measure => simp [intOf]; omega
      · obtain rfl : k = zs.length := by omega
        obtain ⟨e1, e2, e3⟩ := HR.out.env (lineL_length _ _ _ _) hb0
        have hbw : Below w.heap.size w wr := hB0.out.trans (HB.out.mono (by omega))
        have hcw := hC0.out.below HB.out hb0
        have a0 : wr.cell? ⟨w.heap.size, 0, none⟩ = some (.slice PA P.length pcap) := by rw [hcw.cell]; rfl
        have HC := Lib.hid (HT.out wr Av cp hbw e3 e1 e2)
        have HBW := Lib.hid hbw
        clear e1 e2 e3 hbw hcw HT HB HR
        cases R with
        | err c =>
          go_wp2_with fail
          refine HC.out.mono ?_; rintro e w2 ⟨hb2, rfl⟩
          go_wp2
          go_ret2
          exact ⟨bnext HBW.out hb2, none, 0, rfl⟩
        | ok zss t =>
          go_wp2_with fail
          refine HC.out.mono ?_; rintro e w2 ⟨hb2, Ao, co, rfl, hN⟩
          have HN := Lib.hid hN
          clear hN
          go_wp2
          go_ret2
          exact ⟨bnext HBW.out hb2, Ao, co, rfl, HN.out.weaken HBW.out.size⟩

end Go.Proofs.YtlnikpjcggfdmaaGreat
