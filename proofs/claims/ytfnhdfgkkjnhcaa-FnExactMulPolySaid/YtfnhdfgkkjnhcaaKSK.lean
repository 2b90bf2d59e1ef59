/- Texts put together: WMulS2, WMulI, WMulS3. -/
import Derived.Test.YtfnhdfgkkjnhcaaKSJ
import Derived.Test.YtfnhdfgkkjnhcaaKSH
import Derived.Test.YtfnhdfgkkjnhcaaKSI

/- Walks: l05Mul: the product of two valid polynomials. -/
namespace Go.Proofs.Ytfnhdfgkkjnhcaa
open Go.RowKit Plain

open Classical in
/-- the product of two, and whether there is one -/
noncomputable def mulP (ts us : List Term') : List Term' × Bool := if bigP ts us then ([], false) else (nfT (prods ts us), true)
theorem mulP_big {ts us : List Term'} (h : bigP ts us) : mulP ts us = ([], false) := by unfold mulP; rw [if_pos h]
theorem mulP_ok {ts us : List Term'} (h : ¬ bigP ts us) : mulP ts us = (nfT (prods ts us), true) := by unfold mulP; rw [if_neg h]
/-- what l05Mul returns -/
def MulR (u : Int) (ts us : List Term') (w : World) (e : Ending) (w' : World) : Prop :=
  ∃ A cp R ok, mulP ts us = (R, ok) ∧ e = .returned (.tuple #[poV u A R.length cp, .bool ok]) ∧ TRow w' w.heap.size (.slice A R.length cp) R ∧ Below w.heap.size w w'
theorem mulEnd {w W0 wx : World} {u : Int} {n m cp : Nat} {A : Option Addr} {L R ts us : List Term'} {ok : Bool} (hb0 : Below w.heap.size w W0) (hs : W0.heap.size = w.heap.size + 1 + 1) (h : DSt W0 (w.heap.size + 1) (w.heap.size + 1 + 1) u L n R m cp A wx) (hm : mulP ts us = (R, ok)) :
    MulR u ts us w (.returned (.tuple #[poV u A m cp, .bool ok])) ((wx.setCell ⟨w.heap.size, 0, none⟩ (.int .i64 u)).setCell ⟨w.heap.size, 1, none⟩ (.slice A m cp)) := by
  have hlen := h.len
  have hO2 : Only (fun q => q = w.heap.size) wx ((wx.setCell ⟨w.heap.size, 0, none⟩ (.int .i64 u)).setCell ⟨w.heap.size, 1, none⟩ (.slice A m cp)) :=
    ⟨rfl, rfl, rfl, by simp [World.setCell], fun q _ hq => (Below.heap_setCell _ _ _ _ hq).trans (Below.heap_setCell _ _ _ _ hq)⟩
  have hrow := h.row'.only hO2 (fun q hq e => by have e' : q = w.heap.size := e; omega)
  have hbw : Below w.heap.size w wx := hb0.trans (h.only.below (by omega) (fun k hk => by omega))
  exact ⟨A, cp, R, ok, hm, by rw [hlen], hrow.lower (by omega), (hbw.setCell (p := ⟨w.heap.size, 0, none⟩) (Nat.le_refl _) _).setCell (p := ⟨w.heap.size, 1, none⟩) (Nat.le_refl _) _⟩
/-- the exponents, so many of them added -/
def mixE (n : Nat) (E F : List Int) (v : Nat) : List Int := mk n (fun k => if k < v then cf E k + cf F k else cf E k)
theorem mixE_len (n : Nat) (E F : List Int) (v : Nat) : (mixE n E F v).length = n := mk_length _ _
theorem mixE_zero {n : Nat} {E F : List Int} (h : E.length = n) : mixE n E F 0 = E := by
  refine List.ext_getElem (by rw [mixE_len, h]) fun k h1 h2 => ?_
  simp only [mixE, mk, List.getElem_map, List.getElem_range, Nat.not_lt_zero, if_false]
  exact (getElem_cf h2).symm
theorem mixE_at {n v : Nat} {E F : List Int} (h : v < n) : cf (mixE n E F v) v = cf E v := by
  unfold mixE; rw [cf_mk h, if_neg (Nat.lt_irrefl v)]
theorem mixE_set {n v : Nat} {E F : List Int} (h : v < n) : (mixE n E F v).set v (cf E v + cf F v) = mixE n E F (v + 1) := by
  refine List.ext_getElem (by rw [List.length_set, mixE_len, mixE_len]) fun k h1 h2 => ?_
  rw [List.getElem_set]
  by_cases e : v = k
  · subst e
    rw [if_pos rfl, getElem_cf h2]
    unfold mixE; rw [cf_mk h, if_pos (Nat.lt_succ_self v)]
  · rw [if_neg e]
    rw [mixE_len] at h2
    rw [getElem_cf (by rw [mixE_len]; exact h2), getElem_cf (by rw [mixE_len]; exact h2)]
    unfold mixE
    rw [cf_mk h2, cf_mk h2]
    by_cases hk : k < v
    · rw [if_pos hk, if_pos (by omega)]
    · rw [if_neg hk, if_neg (by omega)]
theorem mixE_all {n : Nat} {E F : List Int} (h1 : E.length = n) (h2 : F.length = n) : mixE n E F n = addL E F := by
  rw [← mk_addL h1 h2]
  unfold mixE mk
  refine List.map_congr_left fun k hk => ?_
  rw [if_pos (List.mem_range.1 hk)]
theorem keep5b {w w' : World} {B b1 b2 b3 b4 b5 o1 o2 o3 o4 o5 : Nat} {x1 x2 x3 x4 x5 : Value} (h : w.cell? ⟨b1, o1, none⟩ = some x1 ∧ w.cell? ⟨b2, o2, none⟩ = some x2 ∧ w.cell? ⟨b3, o3, none⟩ = some x3 ∧ w.cell? ⟨b4, o4, none⟩ = some x4 ∧ w.cell? ⟨b5, o5, none⟩ = some x5) (hl : b1 < B ∧ b2 < B ∧ b3 < B ∧ b4 < B ∧ b5 < B) (hb : Below B w w') :
    w'.cell? ⟨b1, o1, none⟩ = some x1 ∧ w'.cell? ⟨b2, o2, none⟩ = some x2 ∧ w'.cell? ⟨b3, o3, none⟩ = some x3 ∧ w'.cell? ⟨b4, o4, none⟩ = some x4 ∧ w'.cell? ⟨b5, o5, none⟩ = some x5 :=
  ⟨(hb.cell (p := ⟨b1, o1, none⟩) hl.1).trans h.1, (hb.cell (p := ⟨b2, o2, none⟩) hl.2.1).trans h.2.1, (hb.cell (p := ⟨b3, o3, none⟩) hl.2.2.1).trans h.2.2.1, (hb.cell (p := ⟨b4, o4, none⟩) hl.2.2.2.1).trans h.2.2.2.1, (hb.cell (p := ⟨b5, o5, none⟩) hl.2.2.2.2).trans h.2.2.2.2⟩

set_option maxRecDepth 100000 in
set_option maxHeartbeats 8000000 in
theorem l05Mul_any (b1 o1 b2 o2 : Nat) (u : Int) (A1 A2 : Option Addr) (c1 c2 : Nat) (ts us : List Term') (w : World) (h00 : w.cell? ⟨b1, o1, none⟩ = some (.int .i64 u)) (h01 : w.cell? ⟨b1, o1 + 1, none⟩ = some (.slice A1 ts.length c1))
    (h11 : w.cell? ⟨b2, o2 + 1, none⟩ = some (.slice A2 us.length c2)) (hT : TmsAt w A1 ts) (hU : TmsAt w A2 us) (hok : polyOk u ts = true) (hok2 : polyOk u us = true) :
    Calls Try.prog 45 #[ptr b1 o1, ptr b2 o2] w (MulR u ts us w) := by
  have hl1 := (polyOk_size hok).2.2
  have hl2 := (polyOk_size hok2).2.2
  obtain ⟨n, hn⟩ : ∃ n, n = u.toNat := ⟨_, rfl⟩
  have hn12 : n ≤ 12 := by have := polyOk_size hok; omega
  have HN1 : Hid (LenT n ts) := by rw [hn]; exact polyOk_len' hok
  have HN2 : Hid (LenT n us) := by rw [hn]; exact polyOk_len' hok2
  have HOK1 := Lib.hid hok
  have HOK2 := Lib.hid hok2
  have HLN : Hid (∀ i j, i ≤ ts.length → j ≤ us.length → (prods (ts.take i) us ++ (us.take j).map (prodT (tmAt ts i))).length ≤ 20000) := fun i j h1 h2 => by
    rw [List.length_append, prods_len, List.length_map, List.length_take, List.length_take]
    have : (min i ts.length) * us.length ≤ 120 * 120 := Nat.mul_le_mul (by omega) hl2
    omega
  have hb1w : b1 < w.heap.size := World.block_lt_of_cell? _ _ h00
  have hb2w : b2 < w.heap.size := World.block_lt_of_cell? _ _ h11
  obtain ⟨W0, hW0⟩ : ∃ W0, W0 = (w.alloc (.cells #[.int .i64 0, .slice none 0 0] 28)).alloc (.cells #[.int .i64 u, .slice none 0 0] 28) := ⟨_, rfl⟩
  have hW0s : W0.heap.size = w.heap.size + 1 + 1 := by rw [hW0]; simp
  have HB0 : Hid (Below w.heap.size w W0) := by show Below _ _ _; rw [hW0]; go_grown
  have HBX : Hid (Cells W0 w.heap.size 28 [.int .i64 0, .slice none 0 0]) := by
    show Cells _ _ _ _
    rw [hW0]
    exact (Cells.new w 28 [.int .i64 0, .slice none 0 0]).next (by go_grown)
  have HST : Hid (DSt W0 (w.heap.size + 1) (w.heap.size + 1 + 1) u [] n [] 0 0 none W0) := by
    refine ⟨?_, rfl, TRow.nilv _ _, Canon.nil, fun e => rfl, fun t ht => by simp at ht, Only.refl _ _, by omega, hW0s.symm⟩
    rw [hW0]
    have := Cells.new (w.alloc (.cells #[.int .i64 0, .slice none 0 0] 28)) 28 [.int .i64 u, .slice none 0 0]
    simpa using this
  have HT := Lib.hid hT
  have HU := Lib.hid hU
  have HD1 := Lib.hid (fun wx (h : Below W0.heap.size W0 wx) => degreeS_any b1 o1 u A1 c1 ts wx (keepC (keepC h01 HB0.out) h) ((HT.out.below HB0.out).below h) hok)
  have HD2 := Lib.hid (fun wx (h : Below W0.heap.size W0 wx) => degreeS_any b2 o2 u A2 c2 us wx (keepC (keepC h11 HB0.out) h) ((HU.out.below HB0.out).below h) hok2)
  have HQ : Hid (W0.cell? ⟨b1, o1 + 1, none⟩ = some (.slice A1 ts.length c1) ∧ W0.cell? ⟨b2, o2 + 1, none⟩ = some (.slice A2 us.length c2)) := ⟨keepC h01 HB0.out, keepC h11 HB0.out⟩
  have q1 := HQ.out.1
  have q2 := HQ.out.2
  have p0 : W0.cell? ⟨w.heap.size + 1, 0, none⟩ = some (.int .i64 u) := by rw [HST.out.box.cell]; rfl
  have p1 : W0.cell? ⟨w.heap.size + 1, 1, none⟩ = some (.slice none 0 0) := by rw [HST.out.box.cell]; rfl
  have y0 : W0.cell? ⟨w.heap.size, 0, none⟩ = some (.int .i64 0) := by rw [HBX.out.cell]; rfl
  have y1 : W0.cell? ⟨w.heap.size, 1, none⟩ = some (.slice none 0 0) := by rw [HBX.out.cell]; rfl
  have f0 : W0.frozen? ⟨w.heap.size, 0, none⟩ = false := HBX.out.frozen _
  have f1 : W0.frozen? ⟨w.heap.size, 1, none⟩ = false := HBX.out.frozen _
  have z0 := (HBX.out.set_ 0 (.int .i64 u)).cell 0
  have z1 := ((HBX.out.set_ 0 (.int .i64 u)).set_ 1 (.slice none 0 0)).cell 1
  simp only [List.set_cons_zero, List.set_cons_succ, List.getElem?_cons_zero, List.getElem?_cons_succ] at z0 z1
  have HWS := Lib.hid hW0s
  have HW0 := Lib.hid hW0
  have HQW : Hid (w.cell? ⟨b1, o1, none⟩ = some (.int .i64 u) ∧ w.cell? ⟨b1, o1 + 1, none⟩ = some (.slice A1 ts.length c1) ∧ w.cell? ⟨b2, o2 + 1, none⟩ = some (.slice A2 us.length c2)) := ⟨h00, h01, h11⟩
  clear hT hU hok hok2 hW0 hW0s hn h01 h11
  by_cases ht0 : ts.length = 0
  · have HE := mulEnd (ts := ts) (us := us) HB0.out HWS.out HST.out (ok := true) (by
      have e : ts = [] := List.length_eq_zero_iff.1 ht0
      rw [mulP_ok (fun h => h.1 e), e, show prods [] us = [] from rfl, nfT_self Canon.nil])
    have HE := Lib.hid HE
    have htz : (ts.length : Int) = 0 := by omega
    have h01 := HQW.out.2.1
    go_enter Try.func45, Try.ntmps45
    go_upto_region 2 with fail
    rw [← HW0.out]
    go_wp2
    refine bodyPost_ret (v := .tuple #[poV u none 0 0, .bool true]) (by simp [results, Try.results45, go_sem, z0, z1]) rfl ?_
    exact HE.out
  by_cases hu0 : us.length = 0
  · have HE := mulEnd (ts := ts) (us := us) HB0.out HWS.out HST.out (ok := true) (by
      have e : us = [] := List.length_eq_zero_iff.1 hu0
      have e2 : prods ts [] = [] := List.length_eq_zero_iff.1 (by rw [prods_len]; rfl)
      rw [mulP_ok (fun h => h.2.1 e), e, e2, nfT_self Canon.nil])
    have HE := Lib.hid HE
    have htz : (us.length : Int) = 0 := by omega
    have htn : ¬ (ts.length : Int) = 0 := by omega
    go_enter Try.func45, Try.ntmps45
    go_upto_region 2 with fail
    rw [← HW0.out]
    go_wp2
    refine bodyPost_ret (v := .tuple #[poV u none 0 0, .bool true]) (by simp [results, Try.results45, go_sem, z0, z1]) rfl ?_
    exact HE.out
  have hd1 := mdgL_bd HOK1.out ts.length (Nat.le_refl _)
  have hd2 := mdgL_bd HOK2.out us.length (Nat.le_refl _)
  have HBP : Hid (bigP ts us ↔ 12 < mdgL ts ts.length + mdgL us us.length) := ⟨fun h => h.2.2, fun h => ⟨fun e => ht0 (by rw [e]; rfl), fun e => hu0 (by rw [e]; rfl), h⟩⟩
  obtain ⟨e1, he1⟩ : ∃ e1, e1 = mdgL ts ts.length := ⟨_, rfl⟩
  obtain ⟨e2, he2⟩ : ∃ e2, e2 = mdgL us us.length := ⟨_, rfl⟩
  rw [← he1] at hd1 HD1 HBP
  rw [← he2] at hd2 HD2 HBP
  have hw12 : IntKind.i64.wrap (e1 + e2) = e1 + e2 := by rw [IntKind.wrap_i64]; omega
  have htn : ¬ (ts.length : Int) = 0 := by omega
  have hun : ¬ (us.length : Int) = 0 := by omega
  have htb : ((ts.length : Int) == 0) = false := beq_eq_false_iff_ne.2 htn
  have hub : ((us.length : Int) == 0) = false := beq_eq_false_iff_ne.2 hun
  clear he1 he2
  by_cases hbig : 12 < e1 + e2
  · have HE := Lib.hid (mulEnd (ts := ts) (us := us) HB0.out HWS.out HST.out (ok := false) (mulP_big (HBP.out.2 hbig)))
    go_enter Try.func45, Try.ntmps45
    go_upto_region 2 with fail
    rw [← HW0.out]
    go_wp2_with fail
    refine (HD1.out _ (Below.refl _ _)).mono ?_
    rintro e w' ⟨rfl, rfl⟩
    go_wp2_with fail
    refine (HD2.out _ (Below.refl _ _)).mono ?_
    rintro e w' ⟨rfl, rfl⟩
    go_wp2
    refine bodyPost_ret (v := .tuple #[poV u none 0 0, .bool false]) (by simp [results, Try.results45, go_sem, z0, z1]) rfl ?_
    exact HE.out
  have HMO : Hid (mulP ts us = (nfT (prods ts us), true)) := mulP_ok (fun h => hbig (HBP.out.1 h))
  have hbig' : e1 + e2 ≤ 12 := by omega
  go_enter Try.func45, Try.ntmps45
  go_upto_region 2 with fail
  rw [← HW0.out]
  go_wp2_with fail
  refine (HD1.out _ (Below.refl _ _)).mono ?_
  rintro e w' ⟨rfl, rfl⟩
  go_wp2_with fail
  refine (HD2.out _ (Below.refl _ _)).mono ?_
  rintro e w' ⟨rfl, rfl⟩
  clear y0 y1 f0 f1 z0 z1 p0 p1
  go_wp2_with fail
  clear HD1 HD2 hd1 hd2 HBP hbig hbig' hw12 q1 q2 h00
  go_loopg [7] (ts.length + 1) (fun kx s7 wr => ∃ (i : Nat) (out : List Term') (m cp : Nat) (A' : Option Addr), s7 = .int .i64 (i : Int) ∧ i ≤ ts.length ∧ ts.length - i < kx ∧ Hid (m ≤ (prods (ts.take i) us).length) ∧ Hid (DSt W0 (w.heap.size + 1) (w.heap.size + 1 + 1) u (prods (ts.take i) us) n out m cp A' wr))
  case atStart => exact ⟨0, [], 0, 0, none, by first | rfl | go_num, by omega, by omega, Nat.zero_le _, HST⟩
  case round =>
    clear HST
    obtain ⟨i, out, m, cp, A', rfl, hin, hkx, HM, HG⟩ := hrel
    obtain ⟨wo, rfl⟩ : ∃ x, x = wr := ⟨_, rfl⟩
    have HBW : Hid (Below w.heap.size w wo) := HB0.out.trans (HG.out.only.below (by have := HWS.out; omega) (fun k hk => by omega))
    have q1 : wo.cell? ⟨b1, o1 + 1, none⟩ = some (.slice A1 ts.length c1) := keepC HQW.out.2.1 HBW.out
    have q2 : wo.cell? ⟨b2, o2 + 1, none⟩ = some (.slice A2 us.length c2) := keepC HQW.out.2.2 HBW.out
    by_cases hlt : i < ts.length
    · have hiz : (i : Int) < (ts.length : Int) := by omega
      obtain ⟨bt, ot, Ai, ci, rfl, hbt, t0', t1', tI, _⟩ := HT.out.at_ hlt
      have hlen : (tmAt ts i).1.length = n := HN1.out _ (tmAt_mem hlt)
      have hok1 := termOk_parts (polyOk_mem HOK1.out (tmAt_mem hlt))
      rw [hlen] at t0'
      obtain ⟨c, hc⟩ : ∃ c, c = (tmAt ts i).2 := ⟨_, rfl⟩
      obtain ⟨E, hE⟩ : ∃ E, E = (tmAt ts i).1 := ⟨_, rfl⟩
      rw [← hc] at t1'
      have HEB : Hid (∀ k, 0 ≤ cf E k ∧ cf E k ≤ 12) := fun k => by rw [hE]; exact expsOk_bd hok1.2.2.2.1 k
      have HIE : Hid (Ints w Ai E) := by rw [hE]; exact tI
      have HEL : Hid (E.length = n) := by rw [hE]; exact hlen
      have HE : Hid ((E, c) = tmAt ts i) := by show _ = _; rw [hE, hc]
      have HTQ : Hid (w.cell? ⟨bt, ot + i * 2, none⟩ = some (.slice Ai n ci) ∧ w.cell? ⟨bt, ot + i * 2 + 1, none⟩ = some (.int .i64 c)) := ⟨t0', t1'⟩
      clear hok1 hlen tI hc hE t0' t1'
      have HLE0 : Hid (m ≤ (prods (ts.take i) us ++ (us.take 0).map (prodT (tmAt ts i))).length) := by show _ ≤ _; have := HM.out; simpa using this
      have HG0 : Hid (DSt W0 (w.heap.size + 1) (w.heap.size + 1 + 1) u (prods (ts.take i) us ++ (us.take 0).map (prodT (tmAt ts i))) n out m cp A' wo) := HG.out.same (by simp)
      clear HM HG
      go_wp2_with fail
      go_loopg [8] (us.length + 1) (fun ky s8 wr => ∃ (k : Nat) (out : List Term') (m cp : Nat) (A' : Option Addr), s8 = .int .i64 (k : Int) ∧ k ≤ us.length ∧ us.length - k < ky ∧ Hid (m ≤ (prods (ts.take i) us ++ (us.take k).map (prodT (tmAt ts i))).length) ∧ Hid (DSt W0 (w.heap.size + 1) (w.heap.size + 1 + 1) u (prods (ts.take i) us ++ (us.take k).map (prodT (tmAt ts i))) n out m cp A' wr))
      case atStart => exact ⟨0, out, m, cp, A', by first | rfl | go_num, by omega, by omega, HLE0, HG0⟩
      case round =>
        clear HLE0 HG0 q1 q2 HBW
        obtain ⟨k, out, m, cp, A', rfl, hkn, hky, HM, HG⟩ := hrel
        obtain ⟨wi, rfl⟩ : ∃ x, x = wr := ⟨_, rfl⟩
        have HBW : Hid (Below w.heap.size w wi) := HB0.out.trans (HG.out.only.below (by have := HWS.out; omega) (fun k hk => by omega))
        have q1 : wi.cell? ⟨b1, o1 + 1, none⟩ = some (.slice (some ⟨bt, ot, none⟩) ts.length c1) := keepC HQW.out.2.1 HBW.out
        have q2 : wi.cell? ⟨b2, o2 + 1, none⟩ = some (.slice A2 us.length c2) := keepC HQW.out.2.2 HBW.out
        have t0 := keepC HTQ.out.1 HBW.out
        by_cases hklt : k < us.length
        · have hkz : (k : Int) < (us.length : Int) := by omega
          obtain ⟨bu, ou, Aj, cj, rfl, hbu, t2', t3', tJ, _⟩ := HU.out.at_ hklt
          have hlen : (tmAt us k).1.length = n := HN2.out _ (tmAt_mem hklt)
          have hok1 := termOk_parts (polyOk_mem HOK2.out (tmAt_mem hklt))
          rw [hlen] at t2'
          obtain ⟨d, hd⟩ : ∃ d, d = (tmAt us k).2 := ⟨_, rfl⟩
          obtain ⟨F, hF⟩ : ∃ F, F = (tmAt us k).1 := ⟨_, rfl⟩
          rw [← hd] at t3'
          have HFB : Hid (∀ k, 0 ≤ cf F k ∧ cf F k ≤ 12) := fun k => by rw [hF]; exact expsOk_bd hok1.2.2.2.1 k
          have HIF : Hid (Ints w Aj F) := by rw [hF]; exact tJ
          have HFL : Hid (F.length = n) := by rw [hF]; exact hlen
          have HPT : Hid ((addL E F, tm c d) = prodT (tmAt ts i) (tmAt us k)) := by
            show _ = _
            rw [← HE.out, hF, hd]; rfl
          have HUQ : Hid (w.cell? ⟨bu, ou + k * 2, none⟩ = some (.slice Aj n cj) ∧ w.cell? ⟨bu, ou + k * 2 + 1, none⟩ = some (.int .i64 d)) := ⟨t2', t3'⟩
          clear hok1 hlen tJ hd hF t2' t3'
          have HOW : Hid (Calls Try.prog 70 #[.slice Ai n ci] wi fun e w' => ∃ Ae ce, e = .returned (.slice Ae n ce) ∧ IntRow w' wi.heap.size (.slice Ae n ce) (mixE n E F 0) ∧ Below wi.heap.size wi w') := by
            have h := ownR_any Ai ci E wi (HIE.out.below HBW.out) (by rw [HEL.out]; omega)
            rw [HEL.out] at h
            refine h.mono fun e w' ⟨Ac, cc, h1, h2, h3⟩ => ⟨Ac, cc, by rw [HEL.out] at h1; exact h1, ?_, h3⟩
            rw [mixE_zero HEL.out]
            rw [HEL.out] at h2; exact h2
          go_wp2_with fail
          refine HOW.out.mono ?_
          rintro e w2 ⟨Ae, ce, rfl, hrow, hb2⟩
          have HROW := Lib.hid hrow
          have HB2 := Lib.hid hb2
          clear hrow hb2 HOW q1 q2 t0
          go_wp2_with fail
          go_loopg [10] (n + 1) (fun kz s10 wr => ∃ (v : Nat), s10 = .int .i64 (v : Int) ∧ v ≤ n ∧ n - v < kz ∧ Hid (IntRow wr wi.heap.size (.slice Ae n ce) (mixE n E F v)) ∧ Hid (Below wi.heap.size wi wr))
          case atStart => exact ⟨0, by first | rfl | go_num, by omega, by omega, HROW, HB2⟩
          case round =>
            clear HROW HB2
            obtain ⟨v, rfl, hvn, hkz2, HR, HB⟩ := hrel
            have HBX : Hid (Below w.heap.size w wr) := bnext HBW.out HB.out
            have r2 : wr.cell? ⟨b2, o2 + 1, none⟩ = some (.slice (some ⟨bu, ou, none⟩) us.length c2) := keepC HQW.out.2.2 HBX.out
            by_cases hvlt : v < n
            · have hvz : (v : Int) < (n : Int) := by omega
              have hRl : IntRow wr wi.heap.size (.slice Ae (mixE n E F v).length ce) (mixE n E F v) := by rw [mixE_len]; exact HR.out
              obtain ⟨ge, rfl, hg1, hg2, hg3, hg4⟩ := hRl.at_ (n := n) (mixE_len n E F v).symm hvlt
              rw [mixE_at hvlt] at hg3
              obtain ⟨bf, of_, rfl, hbf, hcf⟩ := (HIF.out.below HBX.out).cfAt (by rw [HFL.out]; omega)
              have e1 := hcf v (by rw [HFL.out]; exact hvlt)
              have t2 := keepC HUQ.out.1 HBX.out
              have hx := HEB.out v
              have hy := HFB.out v
              have HNX : Hid (IntRow (wr.setCell ⟨ge, v, none⟩ (.int .i64 (cf E v + cf F v))) wi.heap.size (.slice (some ⟨ge, 0, none⟩) n ce) (mixE n E F (v + 1))) := by
                have h := hRl.setAt v (cf E v + cf F v)
                rw [mixE_set hvlt, mixE_len] at h; exact h
              obtain ⟨x, hxx⟩ : ∃ x, x = cf E v := ⟨_, rfl⟩
              obtain ⟨y, hyy⟩ : ∃ y, y = cf F v := ⟨_, rfl⟩
              rw [← hxx] at hx hg3 HNX
              rw [← hyy] at e1 hy HNX
              have hws : IntKind.i64.wrap (x + y) = x + y := by rw [IntKind.wrap_i64]; omega
              have HBN : Hid (Below wi.heap.size wi (wr.setCell ⟨ge, v, none⟩ (.int .i64 (x + y)))) := HB.out.setCell (p := ⟨ge, v, none⟩) hg1 _
              have HS0 : Hid (wr.cell? ⟨ge, v, none⟩ = some (.int .i64 x) ∧ wr.cell? ⟨b2, o2 + 1, none⟩ = some (.slice (some ⟨bu, ou, none⟩) us.length c2) ∧ wr.cell? ⟨bu, ou + k * 2, none⟩ = some (.slice (some ⟨bf, of_, none⟩) n cj) ∧ wr.cell? ⟨bf, of_ + v, none⟩ = some (.int .i64 y)) := ⟨hg3, r2, t2, e1⟩
              clear hRl hcf hxx hyy HR HB
              go_wp2_with fail
              refine RegE.start (S := (fun wx => wx.cell? ⟨ge, v, none⟩ = some (.int .i64 x) ∧ wx.cell? ⟨b2, o2 + 1, none⟩ = some (.slice (some ⟨bu, ou, none⟩) us.length c2) ∧ wx.cell? ⟨bu, ou + k * 2, none⟩ = some (.slice (some ⟨bf, of_, none⟩) n cj) ∧ wx.cell? ⟨bf, of_ + v, none⟩ = some (.int .i64 y))) 17 (by kernel_rfl) (by kernel_rfl) ?S0 (fun hHeld hB => ?_)
              case S0 => ((try dsimp only); exact HS0.out)
              refine RegE.take (i := 0) (v := ?v0) hB rfl (by decide) (by kernel_rfl) (by kernel_rfl) (fun _ _ _ h => h) (Or.inl ⟨by rfl, ?y0⟩) hHeld ?r0
              case y0 => ((intro w hSw; (try dsimp only at hSw); go_simp) <;> with_reducible rfl)
              (try simp only [Act.put, List.setIfInBounds_toArray])
              refine RegE.take (i := 1) (v := ?v1) hB rfl (by decide) (by kernel_rfl) (by kernel_rfl) (fun _ _ _ h => h) (Or.inl ⟨by rfl, ?y1⟩) hHeld ?r1
              case y1 => ((intro w hSw; (try dsimp only at hSw); go_simp) <;> with_reducible rfl)
              (try simp only [Act.put])
              refine RegE.take (i := 2) (v := ?v2) hB rfl (by decide) (by kernel_rfl) (by kernel_rfl) (fun _ _ _ h => h) (Or.inl ⟨by rfl, ?y2⟩) hHeld ?r2
              case y2 => ((intro w hSw; (try dsimp only at hSw); go_simp) <;> with_reducible rfl)
              (try simp only [Act.put])
              refine RegE.take (i := 3) (v := ?v3) hB rfl (by decide) (by kernel_rfl) (by kernel_rfl) (fun _ _ _ h => h) (Or.inl ⟨by rfl, ?y3⟩) hHeld ?r3
              case y3 => ((intro w hSw; (try dsimp only at hSw); go_simp) <;> with_reducible rfl)
              (try simp only [Act.put])
              refine RegE.take (i := 4) (v := ?v4) hB rfl (by decide) (by kernel_rfl) (by kernel_rfl) (fun _ _ _ h => h) (Or.inl ⟨by rfl, ?y4⟩) hHeld ?r4
              case y4 => ((intro w hSw; (try dsimp only at hSw); go_simp) <;> with_reducible rfl)
              (try simp only [Act.put])
              refine RegE.take (i := 5) (v := ?v5) hB rfl (by decide) (by kernel_rfl) (by kernel_rfl) (fun _ _ _ h => h) (Or.inl ⟨by rfl, ?y5⟩) hHeld ?r5
              case y5 => ((intro w hSw; (try dsimp only at hSw); go_simp) <;> with_reducible rfl)
              (try simp only [Act.put])
              refine RegE.take (i := 6) (v := ?v6) hB rfl (by decide) (by kernel_rfl) (by kernel_rfl) (fun _ _ _ h => h) (Or.inl ⟨by rfl, ?y6⟩) hHeld ?r6
              case y6 => ((intro w hSw; (try dsimp only at hSw); go_simp) <;> with_reducible rfl)
              (try simp only [Act.put])
              refine RegE.take (i := 7) (v := ?v7) hB rfl (by decide) (by kernel_rfl) (by kernel_rfl) (fun _ _ _ h => h) (Or.inl ⟨by rfl, ?y7⟩) hHeld ?r7
              case y7 => ((intro w hSw; (try dsimp only at hSw); go_simp) <;> with_reducible rfl)
              (try simp only [Act.put])
              refine RegE.take (i := 8) (v := ?v8) hB rfl (by decide) (by kernel_rfl) (by kernel_rfl) (fun _ _ _ h => h) (Or.inl ⟨by rfl, ?y8⟩) hHeld ?r8
              case y8 => ((intro w hSw; (try dsimp only at hSw); go_simp) <;> with_reducible rfl)
              (try simp only [Act.put])
              refine RegE.take (i := 9) (v := ?v9) hB rfl (by decide) (by kernel_rfl) (by kernel_rfl) (fun _ _ _ h => h) (Or.inl ⟨by rfl, ?y9⟩) hHeld ?r9
              case y9 => ((intro w hSw; (try dsimp only at hSw); go_simp) <;> with_reducible rfl)
              (try simp only [Act.put])
              refine RegE.take (i := 10) (v := ?v10) hB rfl (by decide) (by kernel_rfl) (by kernel_rfl) (fun _ _ _ h => h) (Or.inl ⟨by rfl, ?y10⟩) hHeld ?r10
              case y10 => ((intro w hSw; (try dsimp only at hSw); go_simp) <;> with_reducible rfl)
              (try simp only [Act.put])
              refine RegE.take (i := 11) (v := ?v11) hB rfl (by decide) (by kernel_rfl) (by kernel_rfl) (fun _ _ _ h => h) (Or.inl ⟨by rfl, ?y11⟩) hHeld ?r11
              case y11 => ((intro w hSw; (try dsimp only at hSw); go_simp) <;> with_reducible rfl)
              (try simp only [Act.put])
              refine RegE.take (i := 12) (v := ?v12) hB rfl (by decide) (by kernel_rfl) (by kernel_rfl) (fun _ _ _ h => h) (Or.inl ⟨by rfl, ?y12⟩) hHeld ?r12
              case y12 => ((intro w hSw; (try dsimp only at hSw); go_simp) <;> with_reducible rfl)
              (try simp only [Act.put])
              refine RegE.take (i := 13) (v := ?v13) hB rfl (by decide) (by kernel_rfl) (by kernel_rfl) (fun _ _ _ h => h) (Or.inl ⟨by rfl, ?y13⟩) hHeld ?r13
              case y13 => ((intro w hSw; (try dsimp only at hSw); go_simp) <;> with_reducible rfl)
              (try simp only [Act.put])
              refine RegE.take (i := 14) (v := ?v14) hB rfl (by decide) (by kernel_rfl) (by kernel_rfl) (fun _ _ _ h => h) (Or.inl ⟨by rfl, ?y14⟩) hHeld ?r14
              case y14 => ((intro w hSw; (try dsimp only at hSw); go_simp) <;> with_reducible rfl)
              (try simp only [Act.put])
              refine RegE.take (i := 15) (v := ?v15) hB rfl (by decide) (by kernel_rfl) (by kernel_rfl) (fun _ _ _ h => h) (Or.inl ⟨by rfl, ?y15⟩) hHeld ?r15
              case y15 => ((intro w hSw; (try dsimp only at hSw); go_simp) <;> with_reducible rfl)
              (try simp only [Act.put])
              refine RegE.take (i := 16) (v := ?v16) hB rfl (by decide) (by kernel_rfl) (by kernel_rfl) (fun _ _ _ h => h) (Or.inl ⟨by rfl, ?y16⟩) hHeld ?r16
              case y16 => ((intro w hSw; (try dsimp only at hSw); go_simp) <;> with_reducible rfl)
              (try simp only [Act.put])
              refine RegE.last rfl (by kernel_rfl) (by kernel_rfl) (fun K hK => ?_)
              go_simp
              refine hK.out _ _ ?_
              clear hK K
              have HNX2 : Hid (IntRow (wr.setCell ⟨ge, v, none⟩ (.int .i64 (x + y))).drew wi.heap.size (.slice (some ⟨ge, 0, none⟩) n ce) (mixE n E F (v + 1))) := HNX.out
              have HBN2 : Hid (Below wi.heap.size wi (wr.setCell ⟨ge, v, none⟩ (.int .i64 (x + y))).drew) := HBN.out.drew
              clear HNX HBN hHeld
              go_wp2
              go_roundg (n - (v + 1) + 1)
              case measure => omega
              case rel => exact ⟨v + 1, by first | rfl | go_num, by omega, by omega, HNX2, HBN2⟩
            · obtain rfl : v = n := by omega
              have hvz : ¬ (v : Int) < (v : Int) := by omega
              have r1 : wr.cell? ⟨b1, o1 + 1, none⟩ = some (.slice (some ⟨bt, ot, none⟩) ts.length c1) := keepC HQW.out.2.1 HBX.out
              have t1 := keepC HTQ.out.2 HBX.out
              have t3 := keepC HUQ.out.2 HBX.out
              have HG2 := Lib.hid (HG.out.next HB.out)
              have hp1 : wr.cell? ⟨w.heap.size + 1, 1, none⟩ = some (.slice A' m cp) := by rw [HG2.out.box.cell]; rfl
              have hpf : wr.frozen? ⟨w.heap.size + 1, 1, none⟩ = false := HG2.out.box.frozen _
              have HPL : Hid (w.heap.size + 1 < wr.heap.size) := HG2.out.box.lt
              have HTK : Hid (prods (ts.take i) us ++ (us.take k).map (prodT (tmAt ts i)) ++ [(addL E F, tm c d)] = prods (ts.take i) us ++ (us.take (k + 1)).map (prodT (tmAt ts i))) := by
                show _ = _; rw [HPT.out, List.append_assoc, map_take_succ' hklt]
              have HTM := Lib.hid (fun wx => timesS_any c d wx)
              have hbd := tm_bd c d
              have HMX : Hid (m ≤ 20000) := Nat.le_trans HM.out (HLN.out i k (by omega) (by omega))
              have HPUT : Hid (Calls Try.prog 71 #[.slice A' m cp, .slice Ae v ce, .int .i64 (tm c d)] wr.drew fun e w4 => ∃ A4 c4 ts4, e = .returned (.slice A4 ts4.length c4) ∧ Below wr.heap.size wr w4 ∧ Hid (ts4.length ≤ (prods (ts.take i) us ++ (us.take (k + 1)).map (prodT (tmAt ts i))).length) ∧ DSt W0 (w.heap.size + 1) (w.heap.size + 1 + 1) u (prods (ts.take i) us ++ (us.take (k + 1)).map (prodT (tmAt ts i))) v ts4 ts4.length c4 A4 (w4.setCell ⟨w.heap.size + 1, 1, none⟩ (.slice A4 ts4.length c4))) := by
                have hm : out.length = m := HG2.out.len
                have hlenA : (addL E F).length = v := by rw [addL_length (by rw [HEL.out, HFL.out]), HEL.out]
                have hR2 : IntRow wr wi.heap.size (.slice Ae (addL E F).length ce) (addL E F) := by
                  have h := HR.out
                  rw [mixE_all HEL.out HFL.out] at h
                  rw [hlenA]; exact h
                have hRI : Ints wr Ae (addL E F) := hR2.intsM.ints
                have hmx := HMX.out
                have h := put_any (w.heap.size + 1 + 1) A' Ae cp ce out (addL E F) (tm c d) wr.drew (HG2.out.row'.below (Below.refl _ _).drew) (show w.heap.size + 1 + 1 ≤ wr.drew.heap.size from HG2.out.size) (hRI.below (Below.refl _ _).drew) HG2.out.canon (by rw [hlenA]; exact HG2.out.lenT) hbd.1 hbd.2 (by omega) (by omega)
                rw [hlenA, hm] at h
                refine h.mono fun e w4 ⟨A4, c4, ts4, h1, h2, h3, h4, h5, h6, h7⟩ => ⟨A4, c4, ts4, h1, ⟨h7.os, h7.tape, h7.output, h7.size, h7.block⟩, ?_, ?_⟩
                · show _ ≤ _
                  rw [← HTK.out, List.length_append]
                  have := HM.out
                  simp only [List.length_cons, List.length_nil]; omega
                · exact (DSt.put (c := tm c d) HG2.out hlenA h2 h3 h4 h5 (⟨h7.os, h7.tape, h7.output, h7.size, h7.block⟩ : Below wr.heap.size wr w4)).same HTK.out
              obtain ⟨z, hz⟩ : ∃ z, z = tm c d := ⟨_, rfl⟩
              rw [← hz] at HPUT HTM
              have HS0 : Hid (wr.cell? ⟨w.heap.size + 1, 1, none⟩ = some (.slice A' m cp) ∧ wr.cell? ⟨b1, o1 + 1, none⟩ = some (.slice (some ⟨bt, ot, none⟩) ts.length c1) ∧ wr.cell? ⟨bt, ot + i * 2 + 1, none⟩ = some (.int .i64 c) ∧ wr.cell? ⟨b2, o2 + 1, none⟩ = some (.slice (some ⟨bu, ou, none⟩) us.length c2) ∧ wr.cell? ⟨bu, ou + k * 2 + 1, none⟩ = some (.int .i64 d)) := ⟨hp1, r1, t1, r2, t3⟩
              have HLL : Hid (w.heap.size + 1 < wr.heap.size ∧ b1 < wr.heap.size ∧ bt < wr.heap.size ∧ b2 < wr.heap.size ∧ bu < wr.heap.size) := by
                have := HBX.out.size
                exact ⟨HPL.out, by omega, by omega, by omega, by omega⟩
              clear hz hbd HTK HR HG HG2 HM HPT HMX
              go_wp2_with fail
              refine RegE.start (S := (fun wx => wx.cell? ⟨w.heap.size + 1, 1, none⟩ = some (.slice A' m cp) ∧ wx.cell? ⟨b1, o1 + 1, none⟩ = some (.slice (some ⟨bt, ot, none⟩) ts.length c1) ∧ wx.cell? ⟨bt, ot + i * 2 + 1, none⟩ = some (.int .i64 c) ∧ wx.cell? ⟨b2, o2 + 1, none⟩ = some (.slice (some ⟨bu, ou, none⟩) us.length c2) ∧ wx.cell? ⟨bu, ou + k * 2 + 1, none⟩ = some (.int .i64 d))) 22 (by kernel_rfl) (by kernel_rfl) ?Sq0 (fun hHeld hB => ?_)
              case Sq0 => ((try dsimp only); exact HS0.out)
              refine RegE.take (i := 0) (v := ?vq0) hB rfl (by decide) (by kernel_rfl) (by kernel_rfl) (fun _ _ _ h => h) (Or.inl ⟨by rfl, ?yq0⟩) hHeld ?rq0
              case yq0 => ((intro w hSw; (try dsimp only at hSw); go_simp) <;> with_reducible rfl)
              (try simp only [Act.put, List.setIfInBounds_toArray])
              refine RegE.take (i := 1) (v := ?vq1) hB rfl (by decide) (by kernel_rfl) (by kernel_rfl) (fun _ _ _ h => h) (Or.inl ⟨by rfl, ?yq1⟩) hHeld ?rq1
              case yq1 => ((intro w hSw; (try dsimp only at hSw); go_simp) <;> with_reducible rfl)
              (try simp only [Act.put])
              refine RegE.take (i := 2) (v := ?vq2) hB rfl (by decide) (by kernel_rfl) (by kernel_rfl) (fun _ _ _ h => h) (Or.inl ⟨by rfl, ?yq2⟩) hHeld ?rq2
              case yq2 => ((intro w hSw; (try dsimp only at hSw); go_simp) <;> with_reducible rfl)
              (try simp only [Act.put])
              refine RegE.take (i := 3) (v := ?vq3) hB rfl (by decide) (by kernel_rfl) (by kernel_rfl) (fun _ _ _ h => h) (Or.inl ⟨by rfl, ?yq3⟩) hHeld ?rq3
              case yq3 => ((intro w hSw; (try dsimp only at hSw); go_simp) <;> with_reducible rfl)
              (try simp only [Act.put])
              refine RegE.take (i := 4) (v := ?vq4) hB rfl (by decide) (by kernel_rfl) (by kernel_rfl) (fun _ _ _ h => h) (Or.inl ⟨by rfl, ?yq4⟩) hHeld ?rq4
              case yq4 => ((intro w hSw; (try dsimp only at hSw); go_simp) <;> with_reducible rfl)
              (try simp only [Act.put])
              refine RegE.take (i := 5) (v := ?vq5) hB rfl (by decide) (by kernel_rfl) (by kernel_rfl) (fun _ _ _ h => h) (Or.inl ⟨by rfl, ?yq5⟩) hHeld ?rq5
              case yq5 => ((intro w hSw; (try dsimp only at hSw); go_simp) <;> with_reducible rfl)
              (try simp only [Act.put])
              refine RegE.take (i := 6) (v := ?vq6) hB rfl (by decide) (by kernel_rfl) (by kernel_rfl) (fun _ _ _ h => h) (Or.inl ⟨by rfl, ?yq6⟩) hHeld ?rq6
              case yq6 => ((intro w hSw; (try dsimp only at hSw); go_simp) <;> with_reducible rfl)
              (try simp only [Act.put])
              refine RegE.take (i := 7) (v := ?vq7) hB rfl (by decide) (by kernel_rfl) (by kernel_rfl) (fun _ _ _ h => h) (Or.inl ⟨by rfl, ?yq7⟩) hHeld ?rq7
              case yq7 => ((intro w hSw; (try dsimp only at hSw); go_simp) <;> with_reducible rfl)
              (try simp only [Act.put])
              refine RegE.take (i := 8) (v := ?vq8) hB rfl (by decide) (by kernel_rfl) (by kernel_rfl) (fun _ _ _ h => h) (Or.inl ⟨by rfl, ?yq8⟩) hHeld ?rq8
              case yq8 => ((intro w hSw; (try dsimp only at hSw); go_simp) <;> with_reducible rfl)
              (try simp only [Act.put])
              refine RegE.take (i := 9) (v := ?vq9) hB rfl (by decide) (by kernel_rfl) (by kernel_rfl) (fun _ _ _ h => h) (Or.inl ⟨by rfl, ?yq9⟩) hHeld ?rq9
              case yq9 => ((intro w hSw; (try dsimp only at hSw); go_simp) <;> with_reducible rfl)
              (try simp only [Act.put])
              refine RegE.take (i := 10) (v := ?vq10) hB rfl (by decide) (by kernel_rfl) (by kernel_rfl) (fun _ _ _ h => h) (Or.inl ⟨by rfl, ?yq10⟩) hHeld ?rq10
              case yq10 => ((intro w hSw; (try dsimp only at hSw); go_simp) <;> with_reducible rfl)
              (try simp only [Act.put])
              refine RegE.take (i := 11) (v := ?vq11) hB rfl (by decide) (by kernel_rfl) (by kernel_rfl) (fun _ _ _ h => h) (Or.inl ⟨by rfl, ?yq11⟩) hHeld ?rq11
              case yq11 => ((intro w hSw; (try dsimp only at hSw); go_simp) <;> with_reducible rfl)
              (try simp only [Act.put])
              refine RegE.take (i := 12) (v := ?vq12) hB rfl (by decide) (by kernel_rfl) (by kernel_rfl) (fun _ _ _ h => h) (Or.inl ⟨by rfl, ?yq12⟩) hHeld ?rq12
              case yq12 => ((intro w hSw; (try dsimp only at hSw); go_simp) <;> with_reducible rfl)
              (try simp only [Act.put])
              refine RegE.take (i := 13) (v := ?vq13) hB rfl (by decide) (by kernel_rfl) (by kernel_rfl) (fun _ _ _ h => h) (Or.inl ⟨by rfl, ?yq13⟩) hHeld ?rq13
              case yq13 => ((intro w hSw; (try dsimp only at hSw); go_simp) <;> with_reducible rfl)
              (try simp only [Act.put])
              refine RegE.take (i := 14) (v := ?vq14) hB rfl (by decide) (by kernel_rfl) (by kernel_rfl) (fun _ _ _ h => h) (Or.inl ⟨by rfl, ?yq14⟩) hHeld ?rq14
              case yq14 => ((intro w hSw; (try dsimp only at hSw); go_simp) <;> with_reducible rfl)
              (try simp only [Act.put])
              refine RegE.take (i := 15) (v := ?vq15) hB rfl (by decide) (by kernel_rfl) (by kernel_rfl) (fun _ _ _ h => h) (Or.inl ⟨by rfl, ?yq15⟩) hHeld ?rq15
              case yq15 => ((intro w hSw; (try dsimp only at hSw); go_simp) <;> with_reducible rfl)
              (try simp only [Act.put])
              refine RegE.take (i := 16) (v := ?vq16) hB rfl (by decide) (by kernel_rfl) (by kernel_rfl) (fun _ _ _ h => h) (Or.inl ⟨by rfl, ?yq16⟩) hHeld ?rq16
              case yq16 => ((intro w hSw; (try dsimp only at hSw); go_simp) <;> with_reducible rfl)
              (try simp only [Act.put])
              refine RegE.take (i := 17) (v := ?vq17) hB rfl (by decide) (by kernel_rfl) (by kernel_rfl) (fun _ _ _ h => h) (Or.inl ⟨by rfl, ?yq17⟩) hHeld ?rq17
              case yq17 => ((intro w hSw; (try dsimp only at hSw); go_simp) <;> with_reducible rfl)
              (try simp only [Act.put])
              refine RegE.take (i := 18) (v := ?vq18) hB rfl (by decide) (by kernel_rfl) (by kernel_rfl) (fun _ _ _ h => h) (Or.inl ⟨by rfl, ?yq18⟩) hHeld ?rq18
              case yq18 => ((intro w hSw; (try dsimp only at hSw); go_simp) <;> with_reducible rfl)
              (try simp only [Act.put])
              refine RegE.step (i := 19) rfl (by decide) (by kernel_rfl) (fun K hK => ?_)
              go_simp
              go_at_call 72
              refine (HTM.out _).mono ?_
              rintro e w' ⟨rfl, rfl⟩
              go_wp2_with fail
              refine hK.out _ _ ?Sq19 (fun hHeldN => ?_)
              case Sq19 => ((try dsimp only); exact hHeld)
              clear hK K hHeld
              have hHeld := hHeldN
              clear hHeldN
              (try simp only [Act.put, List.setIfInBounds_toArray, List.set_cons_zero, List.set_cons_succ])
              refine RegE.step (i := 20) rfl (by decide) (by kernel_rfl) (fun K hK => ?_)
              go_simp
              go_at_call 71
              refine HPUT.out.mono ?_
              rintro e w4 ⟨A4, c4, ts4, rfl, hb4, HM4, hD4⟩
              go_wp2_with fail
              refine hK.out _ _ ?Sq20 (fun hHeldN => ?_)
              case Sq20 => ((try dsimp only); exact keep5b HS0.out HLL.out hb4)
              clear hK K hHeld
              have hHeld := hHeldN
              clear hHeldN
              (try simp only [Act.put, List.setIfInBounds_toArray, List.set_cons_zero, List.set_cons_succ])
              refine RegE.take (i := 21) (v := ?vq21) hB rfl (by decide) (by kernel_rfl) (by kernel_rfl) (fun _ _ _ h => h) (Or.inl ⟨by rfl, ?yq21⟩) hHeld ?rq21
              case yq21 => ((intro w hSw; (try dsimp only at hSw); go_simp) <;> with_reducible rfl)
              (try simp only [Act.put, List.setIfInBounds_toArray])
              have z1 := (hb4.cell (p := ⟨w.heap.size + 1, 1, none⟩) HPL.out).trans hp1
              have z2 := (hb4.frozen (p := ⟨w.heap.size + 1, 1, none⟩) HPL.out).trans hpf
              refine RegE.last rfl (by kernel_rfl) (by kernel_rfl) (fun K hK => ?_)
              go_simp
              refine hK.out _ _ ?_
              clear hK K
              have HD4 := Lib.hid hD4
              clear hD4 hb4 hHeld
              go_wp2
              go_roundg (us.length - (k + 1) + 1)
              case measure => omega
              case rel => exact ⟨k + 1, ts4, _, c4, A4, by first | rfl | go_num, by omega, by omega, HM4, HD4⟩
        · obtain rfl : k = us.length := by omega
          have hkz : ¬ (us.length : Int) < (us.length : Int) := by omega
          have HM2 : Hid (m ≤ (prods (ts.take (i + 1)) us).length) := by show _ ≤ _; have h := HM.out; rwa [List.take_length, prods_take hlt] at h
          have HG2 : Hid (DSt W0 (w.heap.size + 1) (w.heap.size + 1 + 1) u (prods (ts.take (i + 1)) us) n out m cp A' wi) := HG.out.same (by rw [List.take_length, prods_take hlt])
          clear HM HG
          go_wp2
          go_roundg (ts.length - (i + 1) + 1)
          case measure => omega
          case rel => exact ⟨i + 1, out, m, cp, A', by first | rfl | go_num, by omega, by omega, HM2, HG2⟩
    · obtain rfl : i = ts.length := by omega
      have hb := HG.out.box
      have x0 : wo.cell? ⟨w.heap.size + 1, 0, none⟩ = some (.int .i64 u) := by rw [hb.cell]; rfl
      have x1 : wo.cell? ⟨w.heap.size + 1, 1, none⟩ = some (.slice A' m cp) := by rw [hb.cell]; rfl
      have hC : Cells wo w.heap.size 28 [.int .i64 0, .slice none 0 0] := (HG.out.only.block w.heap.size (by have := HWS.out; omega) (by omega)).trans HBX.out
      have y0 : wo.cell? ⟨w.heap.size, 0, none⟩ = some (.int .i64 0) := by rw [hC.cell]; rfl
      have y1 : wo.cell? ⟨w.heap.size, 1, none⟩ = some (.slice none 0 0) := by rw [hC.cell]; rfl
      have f0 : wo.frozen? ⟨w.heap.size, 0, none⟩ = false := hC.frozen _
      have f1 : wo.frozen? ⟨w.heap.size, 1, none⟩ = false := hC.frozen _
      have hD1 := hC.set_ 0 (.int .i64 u)
      have hD2 := hD1.set_ 1 (.slice A' m cp)
      have z0 := hD1.cell 0
      have z1 := hD2.cell 1
      simp only [List.set_cons_zero, List.set_cons_succ, List.getElem?_cons_zero, List.getElem?_cons_succ] at z0 z1
      have HE := Lib.hid (mulEnd (ts := ts) (us := us) HB0.out HWS.out HG.out (ok := true) (by
        have hcofs := HG.out.cofs
        rw [List.take_length] at hcofs
        rw [HMO.out, ← nfT_eq HG.out.canon hcofs]))
      have hz : ¬ (ts.length : Int) < (ts.length : Int) := by omega
      clear hb hC hD1 hD2 HG
      go_wp2
      refine bodyPost_ret (v := .tuple #[poV u A' m cp, .bool true]) (by simp [results, Try.results45, go_sem, z0, z1]) rfl ?_
      exact HE.out

end Go.Proofs.Ytfnhdfgkkjnhcaa

/- Walks: ofTwo with Poly.times; MulPoly of the program. Printed by gen_two.py. -/
namespace Go.Proofs.Ytfnhdfgkkjnhcaa
open Go.RowKit Plain

set_option maxRecDepth 100000 in
set_option maxHeartbeats 4000000 in
theorem ofTwoMul_any (u v : Int) (A1 A2 : Option Addr) (c1 c2 : Nat) (ts us : List Term') (w : World) (hT : TmsAt w A1 ts) (hU : TmsAt w A2 us) (tl : ts.length ≤ 1048576) (tt : totT ts ≤ 1048576) (ul : us.length ≤ 1048576) (ut : totT us ≤ 1048576) :
    Calls Try.prog 43 #[poV u A1 ts.length c1, poV v A2 us.length c2, .func (.func 46) #[] #[]] w (RetQi (twoV u ts v us (nfT (prods ts us))).1 (twoV u ts v us (nfT (prods ts us))).2 w) := by
  obtain ⟨W0, hW0⟩ : ∃ W0, W0 = ((w.alloc (.cells #[.int .i64 u, .slice A1 ts.length c1] 28)).alloc (.cells #[.int .i64 v, .slice A2 us.length c2] 28)).alloc (.cells #[.int .i64 0, .slice none 0 0] 28) := ⟨_, rfl⟩
  obtain ⟨hB0, hQ1, hQ2, hQ3⟩ := boxes3 hW0
  have HAF : Hid (∀ w1, Below W0.heap.size W0 w1 → Below w.heap.size w w1 ∧ w.heap.size + 2 < w1.heap.size ∧ Cells w1 w.heap.size 28 [.int .i64 u, .slice A1 ts.length c1] ∧ Cells w1 (w.heap.size + 1) 28 [.int .i64 v, .slice A2 us.length c2] ∧ Cells w1 (w.heap.size + 2) 28 [.int .i64 0, .slice none 0 0]) := fun w1 hb =>
    ⟨hB0.trans (hb.mono hB0.size), Nat.lt_of_lt_of_le hQ3.lt hb.size, hQ1.next hb, hQ2.next hb, hQ3.next hb⟩
  have HC1 := Lib.hid (polyI_any u A1 c1 ts W0 (hT.below hB0) tl tt)
  have HC2 : Hid (∀ wx, Below w.heap.size w wx → Calls Try.prog 34 #[poV v A2 us.length c2] wx fun e w' => e = .returned (.bool (polyOk v us)) ∧ Below wx.heap.size wx w') := fun wx hb => polyI_any v A2 c2 us wx (hU.below hb) ul ut
  have HT := Lib.hid hT
  have HU := Lib.hid hU
  have HW0 := Lib.hid hW0
  have x0 : W0.cell? ⟨w.heap.size, 0, none⟩ = some (.int .i64 u) := by rw [hQ1.cell]; rfl
  have x1 : W0.cell? ⟨w.heap.size, 1, none⟩ = some (.slice A1 ts.length c1) := by rw [hQ1.cell]; rfl
  clear hT hU hW0 hB0 hQ1 hQ2 hQ3
  cases hok : polyOk u ts
  · rw [twoV_bad1 hok]
    rw [hok] at HC1
    clear hok
    go_enter Try.func43, Try.ntmps43
    go_wp2_with fail
    rw [← HW0.out]
    refine HC1.out.mono ?_; rintro e w1 ⟨rfl, hb1⟩
    obtain ⟨hb, hlt, hq1, hq2, hr⟩ := HAF.out w1 hb1
    have hD1 := hr.set_ 0 (.int .i64 0)
    have hD2 := hD1.set_ 1 (.slice none 0 0)
    have z0 := hD1.cell 0
    have z1 := hD2.cell 1
    simp only [List.set_cons_zero, List.set_cons_succ, List.getElem?_cons_zero, List.getElem?_cons_succ] at z0 z1
    have y0 : w1.cell? ⟨w.heap.size + 2, 0, none⟩ = some (.int .i64 0) := by rw [hr.cell]; rfl
    have y1 : w1.cell? ⟨w.heap.size + 2, 1, none⟩ = some (.slice none 0 0) := by rw [hr.cell]; rfl
    have f0 : w1.frozen? ⟨w.heap.size + 2, 0, none⟩ = false := hr.frozen _
    have f1 : w1.frozen? ⟨w.heap.size + 2, 1, none⟩ = false := hr.frozen _
    have HB := Lib.hid hb
    clear hb hq1 hq2 hr hD1 hD2 hb1
    go_wp2
    refine bodyPost_ret (v := .tuple #[poV 0 none 0 0, .int .i64 1]) (by simp [results, Try.results43, go_sem, z0, z1]) rfl ?_
    exact retQ2 (R := []) HB.out (RT.empty _ _ (Nat.le_refl _) _) hlt _ _
  have HOK := Lib.hid hok
  rw [hok] at HC1
  clear hok
  cases hok2 : polyOk v us
  · rw [twoV_bad2 hok2]
    rw [hok2] at HC2
    clear hok2
    go_enter Try.func43, Try.ntmps43
    go_wp2_with fail
    rw [← HW0.out]
    refine HC1.out.mono ?_; rintro e wa ⟨rfl, hba⟩
    obtain ⟨hb, _, hq1, hq2, hr⟩ := HAF.out wa hba
    have k0 : wa.cell? ⟨w.heap.size + 1, 0, none⟩ = some (.int .i64 v) := by rw [hq2.cell]; rfl
    have k1 : wa.cell? ⟨w.heap.size + 1, 1, none⟩ = some (.slice A2 us.length c2) := by rw [hq2.cell]; rfl
    have HCX := Lib.hid (HC2.out wa hb)
    have HBA := Lib.hid hba
    clear hb hq1 hq2 hr hba
    go_wp2_with fail
    refine HCX.out.mono ?_; rintro e w1 ⟨rfl, hbx⟩
    have hb1 : Below W0.heap.size W0 w1 := bnext HBA.out hbx
    obtain ⟨hb, hlt, hq1, hq2, hr⟩ := HAF.out w1 hb1
    clear hbx
    have hD1 := hr.set_ 0 (.int .i64 0)
    have hD2 := hD1.set_ 1 (.slice none 0 0)
    have z0 := hD1.cell 0
    have z1 := hD2.cell 1
    simp only [List.set_cons_zero, List.set_cons_succ, List.getElem?_cons_zero, List.getElem?_cons_succ] at z0 z1
    have y0 : w1.cell? ⟨w.heap.size + 2, 0, none⟩ = some (.int .i64 0) := by rw [hr.cell]; rfl
    have y1 : w1.cell? ⟨w.heap.size + 2, 1, none⟩ = some (.slice none 0 0) := by rw [hr.cell]; rfl
    have f0 : w1.frozen? ⟨w.heap.size + 2, 0, none⟩ = false := hr.frozen _
    have f1 : w1.frozen? ⟨w.heap.size + 2, 1, none⟩ = false := hr.frozen _
    have HB := Lib.hid hb
    clear hb hq1 hq2 hr hD1 hD2 hb1
    go_wp2
    refine bodyPost_ret (v := .tuple #[poV 0 none 0 0, .int .i64 1]) (by simp [results, Try.results43, go_sem, z0, z1]) rfl ?_
    exact retQ2 (R := []) HB.out (RT.empty _ _ (Nat.le_refl _) _) hlt _ _
  have HOK2 := Lib.hid hok2
  rw [hok2] at HC2
  clear hok2
  by_cases hv : u = v
  · subst hv
    obtain ⟨n, hn⟩ : ∃ n, n = u.toNat := ⟨_, rfl⟩
    have hsz1 := polyOk_size HOK.out
    have hsz2 := polyOk_size HOK2.out
    have hn12 : n ≤ 12 := by omega
    have HPL : Hid (∀ wx, Below w.heap.size w wx → Calls Try.prog 46 #[poV u A1 ts.length c1, poV u A2 us.length c2] wx (PolyR u (nfT (prods ts us)) wx)) := fun wx hb => polyTimes_any u A1 A2 c1 c2 ts us wx (HT.out.below hb) (HU.out.below hb) HOK.out HOK2.out
    have HBR := Lib.hid (bdMul (u := u) HOK.out HOK2.out)
    obtain ⟨R, hR⟩ : ∃ R, R = (nfT (prods ts us)) := ⟨_, rfl⟩
    rw [← hR] at HPL HBR ⊢
    have hRl := HBR.out.1
    have HC3 : Hid (∀ A3 c3 lo w3, RT w3 lo w3.heap.size A3 R → ∀ wx, Below w3.heap.size w3 wx → Calls Try.prog 34 #[poV u A3 R.length c3] wx fun e w' => e = .returned (.bool (polyOk u R)) ∧ Below wx.heap.size wx w') := fun A3 c3 lo w3 h wx hb => polyI_any u A3 c3 R wx ((regTms h (by have := HBR.out.2; omega)).below hb) (by omega) HBR.out.2
    clear hn hn12 hsz1 hsz2 hR
    obtain ⟨V, hV⟩ : ∃ V, V = twoV u ts u us R := ⟨_, rfl⟩
    rw [← hV]
    have HV := Lib.hid hV
    clear hV
    go_enter Try.func43, Try.ntmps43
    go_wp2_with fail
    rw [← HW0.out]
    refine HC1.out.mono ?_; rintro e wa ⟨rfl, hba⟩
    obtain ⟨hb, _, hq1, hq2, hr⟩ := HAF.out wa hba
    have k0 : wa.cell? ⟨w.heap.size + 1, 0, none⟩ = some (.int .i64 u) := by rw [hq2.cell]; rfl
    have k1 : wa.cell? ⟨w.heap.size + 1, 1, none⟩ = some (.slice A2 us.length c2) := by rw [hq2.cell]; rfl
    have HCX := Lib.hid (HC2.out wa hb)
    have HBA := Lib.hid hba
    clear hb hq1 hq2 hr hba
    go_wp2_with fail
    refine HCX.out.mono ?_; rintro e w1 ⟨rfl, hbx⟩
    have hb1 : Below W0.heap.size W0 w1 := bnext HBA.out hbx
    obtain ⟨hb, hlt, hq1, hq2, hr⟩ := HAF.out w1 hb1
    have l0 : w1.cell? ⟨w.heap.size, 0, none⟩ = some (.int .i64 u) := by rw [hq1.cell]; rfl
    have l1 : w1.cell? ⟨w.heap.size, 1, none⟩ = some (.slice A1 ts.length c1) := by rw [hq1.cell]; rfl
    have l2 : w1.cell? ⟨w.heap.size + 1, 0, none⟩ = some (.int .i64 u) := by rw [hq2.cell]; rfl
    have l3 : w1.cell? ⟨w.heap.size + 1, 1, none⟩ = some (.slice A2 us.length c2) := by rw [hq2.cell]; rfl
    have HPX := Lib.hid (HPL.out w1 hb)
    have HB := Lib.hid hb
    have HB1 := Lib.hid hb1
    clear hbx hb hq1 hq2 hr hb1 HPL
    go_wp2_with fail
    refine HPX.out.mono ?_; rintro e w2 ⟨A3, c3, rfl, hRT, hb2⟩
    have hbn : Below w2.heap.size w2 (w2.alloc (.cells #[.int .i64 u, .slice A3 R.length c3] 28)) := by go_grown
    have hqn := Cells.new w2 28 [.int .i64 u, .slice A3 R.length c3]
    have HVX := Lib.hid (HC3.out A3 c3 _ w2 hRT)
    have HRT := Lib.hid hRT
    have HB2 := Lib.hid hb2
    have HQN := Lib.hid hqn
    have HBN := Lib.hid hbn
    have m0 : (w2.alloc (.cells #[.int .i64 u, .slice A3 R.length c3] 28)).cell? ⟨w2.heap.size, 0, none⟩ = some (.int .i64 u) := by rw [hqn.cell]; rfl
    have m1 : (w2.alloc (.cells #[.int .i64 u, .slice A3 R.length c3] 28)).cell? ⟨w2.heap.size, 1, none⟩ = some (.slice A3 R.length c3) := by rw [hqn.cell]; rfl
    clear hRT hb2 hqn hbn
    go_wp2_with fail
    refine (HVX.out _ HBN.out).mono ?_; rintro e w5 ⟨rfl, hb5⟩
    have hw5 : Below w2.heap.size w2 w5 := bnext HBN.out hb5
    have hbW := bnext (bnext HB1.out HB2.out) hw5
    obtain ⟨hb, hlt5, hq1, hq2, hr⟩ := HAF.out w5 hbW
    have hq5 := HQN.out.next hb5
    have n0 : w5.cell? ⟨w2.heap.size, 0, none⟩ = some (.int .i64 u) := by rw [hq5.cell]; rfl
    have n1 : w5.cell? ⟨w2.heap.size, 1, none⟩ = some (.slice A3 R.length c3) := by rw [hq5.cell]; rfl
    have y0 : w5.cell? ⟨w.heap.size + 2, 0, none⟩ = some (.int .i64 0) := by rw [hr.cell]; rfl
    have y1 : w5.cell? ⟨w.heap.size + 2, 1, none⟩ = some (.slice none 0 0) := by rw [hr.cell]; rfl
    have f0 : w5.frozen? ⟨w.heap.size + 2, 0, none⟩ = false := hr.frozen _
    have f1 : w5.frozen? ⟨w.heap.size + 2, 1, none⟩ = false := hr.frozen _
    have HR5 := Lib.hid (RT.lowerR (HRT.out.only (Only.of_below (S := fun _ => False) hw5) (fun _ _ _ h => h)) (Nat.le_refl _) hw5.size)
    have HB5 := Lib.hid hb
    have HRB := Lib.hid hr
    clear hw5 hbW hb hq1 hq2 hr hq5 hb5 m0 m1 l0 l1 l2 l3 k0 k1 x0 x1
    cases hres : polyOk u R
    · have hE : V = ((0, []), 3) := by rw [HV.out]; exact twoV_big HOK.out HOK2.out hres
      subst hE
      have hD1 := HRB.out.set_ 0 (.int .i64 0)
      have hD2 := hD1.set_ 1 (.slice none 0 0)
      have z0 := hD1.cell 0
      have z1 := hD2.cell 1
      simp only [List.set_cons_zero, List.set_cons_succ, List.getElem?_cons_zero, List.getElem?_cons_succ] at z0 z1
      clear hres hD1 hD2
      go_wp2
      refine bodyPost_ret (v := .tuple #[poV 0 none 0 0, .int .i64 3]) (by simp [results, Try.results43, go_sem, z0, z1]) rfl ?_
      exact retQ2 (R := []) HB5.out (RT.empty _ _ (Nat.le_refl _) _) hlt5 _ _
    · have hE : V = ((u, R), 0) := by rw [HV.out]; exact twoV_ok HOK.out HOK2.out hres
      subst hE
      have hD1 := HRB.out.set_ 0 (.int .i64 u)
      have hD2 := hD1.set_ 1 (.slice A3 R.length c3)
      have z0 := hD1.cell 0
      have z1 := hD2.cell 1
      simp only [List.set_cons_zero, List.set_cons_succ, List.getElem?_cons_zero, List.getElem?_cons_succ] at z0 z1
      clear hres hD1 hD2
      go_wp2
      refine bodyPost_ret (v := .tuple #[poV u A3 R.length c3, .int .i64 0]) (by simp [results, Try.results43, go_sem, z0, z1]) rfl ?_
      exact retQ2 HB5.out HR5.out hlt _ _
  · rw [twoV_vars HOK.out HOK2.out hv]
    go_enter Try.func43, Try.ntmps43
    go_wp2_with fail
    rw [← HW0.out]
    refine HC1.out.mono ?_; rintro e wa ⟨rfl, hba⟩
    obtain ⟨hb, _, hq1, hq2, hr⟩ := HAF.out wa hba
    have k0 : wa.cell? ⟨w.heap.size + 1, 0, none⟩ = some (.int .i64 v) := by rw [hq2.cell]; rfl
    have k1 : wa.cell? ⟨w.heap.size + 1, 1, none⟩ = some (.slice A2 us.length c2) := by rw [hq2.cell]; rfl
    have HCX := Lib.hid (HC2.out wa hb)
    have HBA := Lib.hid hba
    clear hb hq1 hq2 hr hba
    go_wp2_with fail
    refine HCX.out.mono ?_; rintro e w1 ⟨rfl, hbx⟩
    have hb1 : Below W0.heap.size W0 w1 := bnext HBA.out hbx
    obtain ⟨hb, hlt, hq1, hq2, hr⟩ := HAF.out w1 hb1
    have l0 : w1.cell? ⟨w.heap.size, 0, none⟩ = some (.int .i64 u) := by rw [hq1.cell]; rfl
    have l1 : w1.cell? ⟨w.heap.size + 1, 0, none⟩ = some (.int .i64 v) := by rw [hq2.cell]; rfl
    clear hbx
    have hD1 := hr.set_ 0 (.int .i64 0)
    have hD2 := hD1.set_ 1 (.slice none 0 0)
    have z0 := hD1.cell 0
    have z1 := hD2.cell 1
    simp only [List.set_cons_zero, List.set_cons_succ, List.getElem?_cons_zero, List.getElem?_cons_succ] at z0 z1
    have y0 : w1.cell? ⟨w.heap.size + 2, 0, none⟩ = some (.int .i64 0) := by rw [hr.cell]; rfl
    have y1 : w1.cell? ⟨w.heap.size + 2, 1, none⟩ = some (.slice none 0 0) := by rw [hr.cell]; rfl
    have f0 : w1.frozen? ⟨w.heap.size + 2, 0, none⟩ = false := hr.frozen _
    have f1 : w1.frozen? ⟨w.heap.size + 2, 1, none⟩ = false := hr.frozen _
    have HB := Lib.hid hb
    clear hb hq1 hq2 hr hD1 hD2 hb1
    go_wp2
    refine bodyPost_ret (v := .tuple #[poV 0 none 0 0, .int .i64 2]) (by simp [results, Try.results43, go_sem, z0, z1]) rfl ?_
    exact retQ2 (R := []) HB.out (RT.empty _ _ (Nat.le_refl _) _) hlt _ _

set_option maxRecDepth 100000 in
set_option maxHeartbeats 2000000 in
theorem mulPolyI (u v : Int) (A1 A2 : Option Addr) (c1 c2 : Nat) (ts us : List Term') (w : World) (hT : TmsAt w A1 ts) (hU : TmsAt w A2 us) (tl : ts.length ≤ 1048576) (tt : totT ts ≤ 1048576) (ul : us.length ≤ 1048576) (ut : totT us ≤ 1048576) :
    Calls Try.prog 18 #[poV u A1 ts.length c1, poV v A2 us.length c2] w (RetQi (twoV u ts v us (nfT (prods ts us))).1 (twoV u ts v us (nfT (prods ts us))).2 w) := by
  obtain ⟨W0, hW0⟩ : ∃ W0, W0 = ((w.alloc (.cells #[.int .i64 u, .slice A1 ts.length c1] 28)).alloc (.cells #[.int .i64 v, .slice A2 us.length c2] 28)).alloc (.cells #[.int .i64 0, .slice none 0 0] 28) := ⟨_, rfl⟩
  obtain ⟨hB0, hQ1, hQ2, hQ3⟩ := boxes3 hW0
  have HC := Lib.hid (ofTwoMul_any u v A1 A2 c1 c2 ts us W0 (hT.below hB0) (hU.below hB0) tl tt ul ut)
  obtain ⟨V, hV⟩ : ∃ V, V = twoV u ts v us (nfT (prods ts us)) := ⟨_, rfl⟩
  rw [← hV] at HC ⊢
  obtain ⟨⟨v0, R⟩, c⟩ := V
  have x0 : W0.cell? ⟨w.heap.size, 0, none⟩ = some (.int .i64 u) := by rw [hQ1.cell]; rfl
  have x1 : W0.cell? ⟨w.heap.size, 1, none⟩ = some (.slice A1 ts.length c1) := by rw [hQ1.cell]; rfl
  have x2 : W0.cell? ⟨w.heap.size + 1, 0, none⟩ = some (.int .i64 v) := by rw [hQ2.cell]; rfl
  have x3 : W0.cell? ⟨w.heap.size + 1, 1, none⟩ = some (.slice A2 us.length c2) := by rw [hQ2.cell]; rfl
  have HB0 := Lib.hid hB0
  have HQ3 := Lib.hid hQ3
  have HW0 := Lib.hid hW0
  clear hV hT hU hW0 hB0 hQ1 hQ2 hQ3
  go_enter Try.func18, Try.ntmps18
  go_wp2_with fail
  rw [← HW0.out]
  go_wp2_with fail
  refine HC.out.mono ?_; rintro e w1 ⟨hb1, A3, c3, rfl, hRT⟩
  have hr := HQ3.out.next hb1
  have y0 : w1.cell? ⟨w.heap.size + 2, 0, none⟩ = some (.int .i64 0) := by rw [hr.cell]; rfl
  have y1 : w1.cell? ⟨w.heap.size + 2, 1, none⟩ = some (.slice none 0 0) := by rw [hr.cell]; rfl
  have f0 : w1.frozen? ⟨w.heap.size + 2, 0, none⟩ = false := hr.frozen _
  have f1 : w1.frozen? ⟨w.heap.size + 2, 1, none⟩ = false := hr.frozen _
  have hD1 := hr.set_ 0 (.int .i64 v0)
  have hD2 := hD1.set_ 1 (.slice A3 R.length c3)
  have z0 := hD1.cell 0
  have z1 := hD2.cell 1
  simp only [List.set_cons_zero, List.set_cons_succ, List.getElem?_cons_zero, List.getElem?_cons_succ] at z0 z1
  have HB1 : Hid (Below w.heap.size w w1) := HB0.out.trans (hb1.mono HB0.out.size)
  have HRT := Lib.hid hRT
  have hl0 : w.heap.size + 2 < W0.heap.size := HQ3.out.lt
  clear hr hb1 hRT hD1 hD2
  go_wp2
  refine bodyPost_ret (v := .tuple #[poV v0 A3 R.length c3, .int .i64 c]) (by simp [results, Try.results18, go_sem, z0, z1]) rfl ?_
  exact retQ2 HB1.out HRT.out hl0 _ _

end Go.Proofs.Ytfnhdfgkkjnhcaa

/- Walks: MulPoly of the reference; both contracts in the law's form. -/
namespace Go.Proofs.Ytfnhdfgkkjnhcaa
open Go.RowKit Plain

set_option maxRecDepth 100000 in
set_option maxHeartbeats 4000000 in
theorem mulPolyS (u v : Int) (A1 A2 : Option Addr) (c1 c2 : Nat) (ts us : List Term') (w : World) (hT : TmsAt w A1 ts) (hU : TmsAt w A2 us) (tl : ts.length ≤ 1048576) (tt : totT ts ≤ 1048576) (ul : us.length ≤ 1048576) (ut : totT us ≤ 1048576) :
    Calls Try.prog 17 #[poV u A1 ts.length c1, poV v A2 us.length c2] w (RetQi (twoV u ts v us (nfT (prods ts us))).1 (twoV u ts v us (nfT (prods ts us))).2 w) := by
  obtain ⟨W0, hW0⟩ : ∃ W0, W0 = ((w.alloc (.cells #[.int .i64 u, .slice A1 ts.length c1] 28)).alloc (.cells #[.int .i64 v, .slice A2 us.length c2] 28)).alloc (.cells #[.int .i64 0, .slice none 0 0] 28) := ⟨_, rfl⟩
  obtain ⟨hB0, hQ1, hQ2, hQ3⟩ := boxes3 hW0
  have HAF : Hid (∀ w1, Below W0.heap.size W0 w1 → Below w.heap.size w w1 ∧ w.heap.size + 2 < w1.heap.size ∧ Cells w1 w.heap.size 28 [.int .i64 u, .slice A1 ts.length c1] ∧ Cells w1 (w.heap.size + 1) 28 [.int .i64 v, .slice A2 us.length c2] ∧ Cells w1 (w.heap.size + 2) 28 [.int .i64 0, .slice none 0 0]) := fun w1 hb =>
    ⟨hB0.trans (hb.mono hB0.size), Nat.lt_of_lt_of_le hQ3.lt hb.size, hQ1.next hb, hQ2.next hb, hQ3.next hb⟩
  have HC := Lib.hid (l05Two_any w.heap.size 0 (w.heap.size + 1) 0 u v A1 A2 c1 c2 ts us W0 (by rw [hQ1.cell]; rfl) (by rw [hQ1.cell]; rfl) (by rw [hQ2.cell]; rfl) (by rw [hQ2.cell]; rfl) (hT.below hB0) (hU.below hB0) tl tt ul ut)
  have HT := Lib.hid hT
  have HU := Lib.hid hU
  have HW0 := Lib.hid hW0
  clear hT hU hW0 hB0 hQ1 hQ2 hQ3
  by_cases h0 : twoC u ts v us = 0
  · have hok : polyOk u ts = true := by cases h : polyOk u ts with | true => rfl | false => exfalso; unfold twoC at h0; rw [if_neg (by rw [h]; simp)] at h0; omega
    have hok2 : polyOk v us = true := by cases h : polyOk v us with | true => rfl | false => exfalso; unfold twoC at h0; rw [if_neg (by rw [h]; simp)] at h0; omega
    have huv : u = v := by
      unfold twoC at h0
      rw [if_pos ⟨hok, hok2⟩] at h0
      by_cases h : u = v
      · exact h
      · rw [if_neg h] at h0; omega
    subst huv
    rw [h0] at HC
    have HAD : Hid (∀ w1, Below W0.heap.size W0 w1 → Calls Try.prog 45 #[ptr w.heap.size 0, ptr (w.heap.size + 1) 0] w1 (MulR u ts us w1)) := fun w1 hb => by
      obtain ⟨hb', _, q1, q2, _⟩ := HAF.out w1 hb
      exact l05Mul_any w.heap.size 0 (w.heap.size + 1) 0 u A1 A2 c1 c2 ts us w1 (by rw [q1.cell]; rfl) (by rw [q1.cell]; rfl) (by rw [q2.cell]; rfl) (HT.out.below hb') (HU.out.below hb') hok hok2
    have HVB : Hid (∀ R ok, mulP ts us = (R, ok) → R.length ≤ 14400 ∧ (ok = false → twoV u ts u us (nfT (prods ts us)) = ((0, []), 3)) ∧ (ok = true → ¬ R.length ≤ 120 → twoV u ts u us (nfT (prods ts us)) = ((0, []), 3)) ∧ (ok = true → R.length ≤ 120 → twoV u ts u us (nfT (prods ts us)) = ((u, R), 0))) := fun R ok hm => by
      by_cases hb : bigP ts us
      · rw [mulP_big hb] at hm
        injection hm with e1 e2
        subst e1; subst e2
        exact ⟨by simp, fun _ => twoV_big hok hok2 (mulBig hok hok2 hb), fun h => (by cases h), fun h => (by cases h)⟩
      · rw [mulP_ok hb] at hm
        injection hm with e1 e2
        subst e2
        rw [e1]
        have hv := mulOk hok hok2 hb
        rw [e1] at hv
        refine ⟨by rw [← e1]; exact (bdMul hok hok2).1, fun h => (by cases h), fun _ h => twoV_big hok hok2 (by rw [hv]; exact decide_eq_false h), fun _ h => twoV_ok hok hok2 (by rw [hv]; exact decide_eq_true h)⟩
    obtain ⟨V, hV⟩ : ∃ V, V = twoV u ts u us (nfT (prods ts us)) := ⟨_, rfl⟩
    rw [← hV] at HVB ⊢
    clear hV hok hok2 h0
    go_enter Try.func17, Try.ntmps17
    go_wp2_with fail
    rw [← HW0.out]
    refine HC.out.mono ?_; rintro e w1 ⟨rfl, hb1⟩
    have HAX := Lib.hid (HAD.out w1 hb1)
    have HB1 := Lib.hid hb1
    clear hb1 HAD
    go_wp2_with fail
    refine HAX.out.mono ?_; rintro e w2 ⟨A3, c3, R, ok, hm, rfl, hrow, hb2⟩
    obtain ⟨hRl, hv1, hv2, hv3⟩ := HVB.out R ok hm
    have HV1 := Lib.hid hv1
    have HV2 := Lib.hid hv2
    have HV3 := Lib.hid hv3
    have hbn : Below w2.heap.size w2 (w2.alloc (.cells #[.int .i64 u, .slice A3 R.length c3] 28)) := by go_grown
    have hqn := Cells.new w2 28 [.int .i64 u, .slice A3 R.length c3]
    have hRT : RT w2 w1.heap.size w2.heap.size A3 R := hrow.rt hb2.size
    have m0 : (w2.alloc (.cells #[.int .i64 u, .slice A3 R.length c3] 28)).cell? ⟨w2.heap.size, 0, none⟩ = some (.int .i64 u) := by rw [hqn.cell]; rfl
    have m1 : (w2.alloc (.cells #[.int .i64 u, .slice A3 R.length c3] 28)).cell? ⟨w2.heap.size, 1, none⟩ = some (.slice A3 R.length c3) := by rw [hqn.cell]; rfl
    have hbW := bnext (bnext HB1.out hb2) hbn
    obtain ⟨hb, hlt5, hq1, hq2, hr⟩ := HAF.out _ hbW
    have y0 : (w2.alloc (.cells #[.int .i64 u, .slice A3 R.length c3] 28)).cell? ⟨w.heap.size + 2, 0, none⟩ = some (.int .i64 0) := by rw [hr.cell]; rfl
    have y1 : (w2.alloc (.cells #[.int .i64 u, .slice A3 R.length c3] 28)).cell? ⟨w.heap.size + 2, 1, none⟩ = some (.slice none 0 0) := by rw [hr.cell]; rfl
    have f0 : (w2.alloc (.cells #[.int .i64 u, .slice A3 R.length c3] 28)).frozen? ⟨w.heap.size + 2, 0, none⟩ = false := hr.frozen _
    have f1 : (w2.alloc (.cells #[.int .i64 u, .slice A3 R.length c3] 28)).frozen? ⟨w.heap.size + 2, 1, none⟩ = false := hr.frozen _
    have HR5 := Lib.hid (RT.lowerR (hRT.only (Only.of_below (S := fun _ => False) hbn) (fun _ _ _ h => h)) (Nat.le_refl _) hbn.size)
    have HB5 := Lib.hid hb
    have HRB := Lib.hid hr
    have hlt1 : w.heap.size + 2 < w1.heap.size := (HAF.out w1 HB1.out).2.1
    clear hbn hqn hRT hbW hb hq1 hq2 hr hrow hb2 hv1 hv2 hv3 hm HVB
    cases ok with
    | false =>
      have hE : V = ((0, []), 3) := HV1.out rfl
      subst hE
      have hD1 := HRB.out.set_ 0 (.int .i64 0)
      have hD2 := hD1.set_ 1 (.slice none 0 0)
      have z0 := hD1.cell 0
      have z1 := hD2.cell 1
      simp only [List.set_cons_zero, List.set_cons_succ, List.getElem?_cons_zero, List.getElem?_cons_succ] at z0 z1
      clear hD1 hD2
      go_wp2
      refine bodyPost_ret (v := .tuple #[poV 0 none 0 0, .int .i64 3]) (by simp [results, Try.results17, go_sem, z0, z1]) rfl ?_
      exact retQ2 (R := []) HB5.out (RT.empty _ _ (Nat.le_refl _) _) hlt5 _ _
    | true =>
    by_cases hlen : R.length ≤ 120
    · have hE : V = ((u, R), 0) := HV3.out rfl hlen
      subst hE
      have hD1 := HRB.out.set_ 0 (.int .i64 u)
      have hD2 := hD1.set_ 1 (.slice A3 R.length c3)
      have z0 := hD1.cell 0
      have z1 := hD2.cell 1
      simp only [List.set_cons_zero, List.set_cons_succ, List.getElem?_cons_zero, List.getElem?_cons_succ] at z0 z1
      have hg : ¬ (120 : Int) < (R.length : Int) := by omega
      have hgb : decide ((120 : Int) < (R.length : Int)) = false := decide_eq_false hg
      clear hD1 hD2
      go_wp2
      refine bodyPost_ret (v := .tuple #[poV u A3 R.length c3, .int .i64 0]) (by simp [results, Try.results17, go_sem, z0, z1]) rfl ?_
      exact retQ2 HB5.out HR5.out hlt1 _ _
    · have hE : V = ((0, []), 3) := HV2.out rfl hlen
      subst hE
      have hD1 := HRB.out.set_ 0 (.int .i64 0)
      have hD2 := hD1.set_ 1 (.slice none 0 0)
      have z0 := hD1.cell 0
      have z1 := hD2.cell 1
      simp only [List.set_cons_zero, List.set_cons_succ, List.getElem?_cons_zero, List.getElem?_cons_succ] at z0 z1
      have hg : (120 : Int) < (R.length : Int) := by omega
      have hgb : decide ((120 : Int) < (R.length : Int)) = true := decide_eq_true hg
      clear hD1 hD2
      go_wp2
      refine bodyPost_ret (v := .tuple #[poV 0 none 0 0, .int .i64 3]) (by simp [results, Try.results17, go_sem, z0, z1]) rfl ?_
      exact retQ2 (R := []) HB5.out (RT.empty _ _ (Nat.le_refl _) _) hlt5 _ _
  · have HV : Hid (twoV u ts v us (nfT (prods ts us)) = ((0, []), twoC u ts v us)) := by
      show _ = _
      unfold twoV twoC
      unfold twoC at h0
      by_cases h : polyOk u ts = true ∧ polyOk v us = true
      · rw [if_pos h] at h0 ⊢
        rw [if_pos h]
        by_cases huv : u = v
        · rw [if_pos huv] at h0; exact absurd rfl h0
        · rw [if_neg huv, if_neg huv]
      · rw [if_neg h, if_neg h]
    rw [HV.out]
    obtain ⟨cc, hcc⟩ : ∃ cc, cc = twoC u ts v us := ⟨_, rfl⟩
    rw [← hcc] at HC h0 ⊢
    clear hcc HV
    go_enter Try.func17, Try.ntmps17
    go_wp2_with fail
    rw [← HW0.out]
    refine HC.out.mono ?_; rintro e w1 ⟨rfl, hb1⟩
    obtain ⟨hb, hlt, hq1, hq2, hr⟩ := HAF.out w1 hb1
    have hD1 := hr.set_ 0 (.int .i64 0)
    have hD2 := hD1.set_ 1 (.slice none 0 0)
    have z0 := hD1.cell 0
    have z1 := hD2.cell 1
    simp only [List.set_cons_zero, List.set_cons_succ, List.getElem?_cons_zero, List.getElem?_cons_succ] at z0 z1
    have y0 : w1.cell? ⟨w.heap.size + 2, 0, none⟩ = some (.int .i64 0) := by rw [hr.cell]; rfl
    have y1 : w1.cell? ⟨w.heap.size + 2, 1, none⟩ = some (.slice none 0 0) := by rw [hr.cell]; rfl
    have f0 : w1.frozen? ⟨w.heap.size + 2, 0, none⟩ = false := hr.frozen _
    have f1 : w1.frozen? ⟨w.heap.size + 2, 1, none⟩ = false := hr.frozen _
    have HB := Lib.hid hb
    clear hb hq1 hq2 hr hD1 hD2 hb1
    go_wp2
    refine bodyPost_ret (v := .tuple #[poV 0 none 0 0, .int .i64 cc]) (by simp [results, Try.results17, go_sem, z0, z1]) rfl ?_
    exact retQ2 (R := []) HB.out (RT.empty _ _ (Nat.le_refl _) _) hlt _ _

/-- the product of two polynomials, or why there is none -/
noncomputable def mulV (u : Int) (ts : List Term') (v : Int) (us : List Term') : (Int × List Term') × Int := twoV u ts v us (nfT (prods ts us))
theorem mulV_bd (u : Int) (ts : List Term') (v : Int) (us : List Term') : (mulV u ts v us).1.2.length ≤ 120 ∧ totT (mulV u ts v us).1.2 ≤ 1440 := twoV_bd _ _ _ _ _
theorem mulI {A1 A2 : Option Addr} {c1 c2 : Nat} (u : Int) (ts : List Term') (v : Int) (us : List Term') (w : World) (hT : TmsAt w A1 ts) (tl : ts.length ≤ 1048576) (tt : totT ts ≤ 1048576) (hU : TmsAt w A2 us) (ul : us.length ≤ 1048576) (ut : totT us ≤ 1048576) :
    Calls Try.prog 18 #[poV u A1 ts.length c1, poV v A2 us.length c2] w (RetQi (mulV u ts v us).1 (mulV u ts v us).2 w) := mulPolyI u v A1 A2 c1 c2 ts us w hT hU tl tt ul ut
theorem mulS {A1 A2 : Option Addr} {c1 c2 : Nat} (u : Int) (ts : List Term') (v : Int) (us : List Term') (w : World) (hT : TmsAt w A1 ts) (tl : ts.length ≤ 1048576) (tt : totT ts ≤ 1048576) (hU : TmsAt w A2 us) (ul : us.length ≤ 1048576) (ut : totT us ≤ 1048576) :
    Calls Try.prog 17 #[poV u A1 ts.length c1, poV v A2 us.length c2] w (RetQi (mulV u ts v us).1 (mulV u ts v us).2 w) := mulPolyS u v A1 A2 c1 c2 ts us w hT hU tl tt ul ut

end Go.Proofs.Ytfnhdfgkkjnhcaa
