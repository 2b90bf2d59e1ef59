/- Texts put together: WDerI, WDerB. -/
import Derived.Test.YtfnhdfgkkjnhcaaKSF
import Derived.Test.YtfnhdfgkkjnhcaaKSE
import Derived.Test.YtfnhdfgkkjnhcaaKY
import Derived.Test.YtfnhdfgkkjnhcaaKB

/- Walks: DerivePoly of the program. -/
namespace Go.Proofs.Ytfnhdfgkkjnhcaa
open Go.RowKit Plain

/-- an own row of terms as a row to be sorted -/
theorem TRow.rowO {w : World} {B n cap : Nat} {A : Option Addr} {ts : List Term'} (h : TRow w B (.slice A ts.length cap) ts) (hn : LenT n ts) : RowO w w.heap.size A n ts := fun h0 => by
  obtain ⟨us, h⟩ := h
  obtain ⟨g, c, hv, hg1, hg2⟩ := World.ownsRow.form h.own h0
  have hA : A = some ⟨g, 0, none⟩ := by injection hv
  have hc : cap = c := by injection hv
  subst hA; subst hc
  have hgt := own2_typed h.own (g := g) rfl
  refine ⟨g, rfl, hg2, fun i t ht => ?_⟩
  have hi : i < ts.length := (List.getElem?_eq_some_iff.1 ht).1
  obtain ⟨x, hx⟩ : ∃ x, us[i]? = some x := ⟨us[i]'(by rw [h.len]; exact hi), List.getElem?_eq_getElem (by rw [h.len]; exact hi)⟩
  obtain ⟨h1, h2⟩ := h.row i _ t hx ht
  obtain ⟨Ai, ca, hu⟩ := h2.form
  have hcg := cellsT_get (l := us) (i := i) (u := x.1) (c := x.2) hx
  have c0 := (World.ownsRow.cellAt h.own (i * 2) (by omega)).trans hcg.1
  have c1 := (World.ownsRow.cellAt h.own (i * 2 + 1) (by omega)).trans hcg.2
  rw [hu] at c0 h2
  rw [h1] at c1
  refine ⟨Ai, ca, by rw [Nat.zero_add]; exact c0, by rw [Nat.zero_add]; exact c1, World.ownsRow.frozenAt h.own _, World.ownsRow.frozenAt h.own _, h2.intsM.ints, fun q hq => ?_, hn t (List.mem_of_getElem? ht)⟩
  obtain ⟨hq0, oq, e⟩ := hq
  have e' : Ai = some ⟨q, oq, none⟩ := e
  exact (own_typed h2 (g := q) (by rw [e']; rfl)).ne hgt (by decide)
/-- the terms of a derivative, as they are made -/
structure LSt (w0 : World) (B n : Nat) (L : List Term') (m cp : Nat) (A : Option Addr) (wr : World) : Prop where
  len : L.length = m
  row : TRow wr B (.slice A m cp) L
  lenT : LenT n L
  below : Below w0.heap.size w0 wr
  B0 : w0.heap.size ≤ B
  B1 : B ≤ wr.heap.size
theorem LSt.next {w0 wr w1 : World} {B n m cp : Nat} {L : List Term'} {A : Option Addr} (h : LSt w0 B n L m cp A wr) (hb : Below wr.heap.size wr w1) : LSt w0 B n L m cp A w1 :=
  ⟨h.len, h.row.below hb, h.lenT, bnext h.below hb, h.B0, Nat.le_trans h.B1 hb.size⟩
/-- a term is appended, its exponents just made -/
theorem LSt.push {w0 wr w1 w2 : World} {B n m cp : Nat} {L : List Term'} {A : Option Addr} {v2 u : Value} {E : List Int} {c : Int} {us : List (Value × Int)} (h : LSt w0 B n L m cp A wr) (hp : TParts wr B (.slice A m cp) L us) (hE : E.length = n)
    (hb : Below wr.heap.size wr w1) (hu : IntRow w1 wr.heap.size u E) (hown : w2.ownsRow B 66 2 v2 (m + 1) (cellsT us ++ [u, .int .i64 c])) (hg : w1.grownBy w2 (Value.slice A m cp).ownBlock) :
    ∃ A2 c2, v2 = .slice A2 (m + 1) c2 ∧ LSt w0 B n (L ++ [(E, c)]) (m + 1) c2 A2 w2 := by
  have hl := h.len
  subst hl
  obtain ⟨h1, h2⟩ := TParts.push (t := (E, c)) hp h.B1 hb hu hown hg
  obtain ⟨A2, c2, hv⟩ := h1.form
  have hv' : v2 = .slice A2 (L.length + 1) c2 := by rw [hv]; simp
  subst hv'
  refine ⟨A2, c2, rfl, by simp, h1, fun t ht => ?_, h.below.trans (h2.mono h.B0), h.B0, Nat.le_trans h.B1 h2.size⟩
  rcases List.mem_append.1 ht with ht | ht
  · exact h.lenT t ht
  · simp at ht; rw [ht]; exact hE


set_option maxRecDepth 100000 in
set_option maxHeartbeats 4000000 in
theorem derivePolyI {A : Option Addr} {cap : Nat} (u : Int) (ts : List Term') (a : Int) (w : World) (hT : TmsAt w A ts) (tl : ts.length ≤ 1048576) (tt : totT ts ≤ 1048576) :
    Calls Try.prog 11 #[poV u A ts.length cap, .int .i64 a] w (RetQi (derV u ts a).1 (derV u ts a).2 w) := by
  obtain ⟨i0, hi, hz0, hz1, hz2⟩ := info_parts Try.infoT
  obtain ⟨W0, hW0⟩ : ∃ W0, W0 = (w.alloc (.cells #[.int .i64 u, .slice A ts.length cap] 28)).alloc (.cells #[.int .i64 0, .slice none 0 0] 28) := ⟨_, rfl⟩
  have HB0 : Hid (Below w.heap.size w W0) := by show Below _ _ _; rw [hW0]; go_grown
  have HQ0 : Hid (Cells W0 w.heap.size 28 [.int .i64 u, .slice A ts.length cap]) := by
    show Cells _ _ _ _
    rw [hW0]; exact (Cells.new w 28 [.int .i64 u, .slice A ts.length cap]).next (by go_grown)
  have HR0 : Hid (Cells W0 (w.heap.size + 1) 28 [.int .i64 0, .slice none 0 0]) := by
    show Cells _ _ _ _
    rw [hW0]
    have := Cells.new (w.alloc (.cells #[.int .i64 u, .slice A ts.length cap] 28)) 28 [.int .i64 0, .slice none 0 0]
    simpa using this
  have HC := Lib.hid (polyI_any u A cap ts W0 (hT.below HB0.out) tl tt)
  have HT := Lib.hid hT
  have HW0 := Lib.hid hW0
  clear hT hW0
  have HAF : Hid (∀ w1, Below W0.heap.size W0 w1 → Below w.heap.size w w1 ∧ w.heap.size + 1 < w1.heap.size ∧ Cells w1 w.heap.size 28 [.int .i64 u, .slice A ts.length cap] ∧ Cells w1 (w.heap.size + 1) 28 [.int .i64 0, .slice none 0 0]) := fun w1 hb =>
    ⟨HB0.out.trans (hb.mono HB0.out.size), Nat.lt_of_lt_of_le HR0.out.lt hb.size, HQ0.out.next hb, HR0.out.next hb⟩
  cases hok : polyOk u ts
  · have HV := Lib.hid (derV_bad (a := a) hok)
    rw [HV.out]
    rw [hok] at HC
    clear hok
    go_enter Try.func11, Try.ntmps11
    go_wp2_with fail
    rw [← HW0.out]
    refine HC.out.mono ?_; rintro e w1 ⟨rfl, hb1⟩
    obtain ⟨hb, hlt, hq, hr⟩ := HAF.out w1 hb1
    have y0 : w1.cell? ⟨w.heap.size + 1, 0, none⟩ = some (.int .i64 0) := by rw [hr.cell]; rfl
    have y1 : w1.cell? ⟨w.heap.size + 1, 1, none⟩ = some (.slice none 0 0) := by rw [hr.cell]; rfl
    have f0 : w1.frozen? ⟨w.heap.size + 1, 0, none⟩ = false := hr.frozen _
    have f1 : w1.frozen? ⟨w.heap.size + 1, 1, none⟩ = false := hr.frozen _
    have hD1 := hr.set_ 0 (.int .i64 0)
    have hD2 := hD1.set_ 1 (.slice none 0 0)
    have z0 := hD1.cell 0
    have z1 := hD2.cell 1
    simp only [List.set_cons_zero, List.set_cons_succ, List.getElem?_cons_zero, List.getElem?_cons_succ] at z0 z1
    have HB := Lib.hid hb
    clear hb hq hr hD1 hD2 hb1
    go_wp2
    refine bodyPost_ret (v := .tuple #[poV 0 none 0 0, .int .i64 1]) (by simp [results, Try.results11, go_sem, z0, z1]) rfl ?_
    exact retQ (R := []) HB.out (RT.empty _ _ (Nat.le_refl _) _) hlt _ _
  have HOK := Lib.hid hok
  rw [hok] at HC
  clear hok
  have hu := polyOk_size HOK.out
  have hu0 := hu.1
  have hu1 := hu.2.1
  have hl120 := hu.2.2
  have hwu : IntKind.i64.wrap (u - 1) = u - 1 := by rw [IntKind.wrap_i64]; omega
  have HIN := Lib.hid (fun wx => within_any a 0 (u - 1) wx)
  cases hin : inR a 0 (u - 1)
  · have HV := Lib.hid (derV_range HOK.out hin)
    rw [HV.out]
    rw [hin] at HIN
    clear hin hu
    go_enter Try.func11, Try.ntmps11
    go_wp2_with fail
    rw [← HW0.out]
    refine HC.out.mono ?_; rintro e w1 ⟨rfl, hb1⟩
    obtain ⟨hb, hlt, hq, hr⟩ := HAF.out w1 hb1
    have x0 : w1.cell? ⟨w.heap.size, 0, none⟩ = some (.int .i64 u) := by rw [hq.cell]; rfl
    have y0 : w1.cell? ⟨w.heap.size + 1, 0, none⟩ = some (.int .i64 0) := by rw [hr.cell]; rfl
    have y1 : w1.cell? ⟨w.heap.size + 1, 1, none⟩ = some (.slice none 0 0) := by rw [hr.cell]; rfl
    have f0 : w1.frozen? ⟨w.heap.size + 1, 0, none⟩ = false := hr.frozen _
    have f1 : w1.frozen? ⟨w.heap.size + 1, 1, none⟩ = false := hr.frozen _
    have hD1 := hr.set_ 0 (.int .i64 0)
    have hD2 := hD1.set_ 1 (.slice none 0 0)
    have z0 := hD1.cell 0
    have z1 := hD2.cell 1
    simp only [List.set_cons_zero, List.set_cons_succ, List.getElem?_cons_zero, List.getElem?_cons_succ] at z0 z1
    have HB := Lib.hid hb
    clear hb hq hr hD1 hD2 hb1
    go_wp2_with (go_at_call 35; refine (HIN.out _).mono ?_; rintro e w' ⟨rfl, rfl⟩)
    refine bodyPost_ret (v := .tuple #[poV 0 none 0 0, .int .i64 2]) (by simp [results, Try.results11, go_sem, z0, z1]) rfl ?_
    exact retQ (R := []) HB.out (RT.empty _ _ (Nat.le_refl _) _) hlt _ _
  · have HV := Lib.hid (derV_ok HOK.out hin)
    rw [HV.out]
    have hr2 := inR_true.1 hin
    obtain ⟨v, rfl⟩ := Int.eq_ofNat_of_zero_le hr2.1
    obtain ⟨n, hn⟩ : ∃ n, n = u.toNat := ⟨_, rfl⟩
    have hvn : v < n := by omega
    have hn12 : n ≤ 12 := by omega
    have HLT : Hid (LenT n ts) := by rw [hn]; exact polyOk_len' HOK.out
    rw [hin] at HIN
    clear hin hu hr2 hn
    have hvz : (v : Int) < (n : Int) := by omega
    go_enter Try.func11, Try.ntmps11
    go_wp2_with fail
    rw [← HW0.out]
    refine HC.out.mono ?_; rintro e w1 ⟨rfl, hb1⟩
    obtain ⟨hb, hlt1, hq, hr⟩ := HAF.out w1 hb1
    have x0 : w1.cell? ⟨w.heap.size, 0, none⟩ = some (.int .i64 u) := by rw [hq.cell]; rfl
    have x1 : w1.cell? ⟨w.heap.size, 1, none⟩ = some (.slice A ts.length cap) := by rw [hq.cell]; rfl
    have HB := Lib.hid hb
    have HR := Lib.hid hr
    have HQ := Lib.hid hq
    clear hb hq hr hb1
    have x1' : (w1.alloc (.cells #[] 66)).cell? ⟨w.heap.size, 1, none⟩ = some (.slice A ts.length cap) := keepC x1 (by go_grown)
    go_wp2_with (first | (go_at_call 35; refine (HIN.out _).mono ?_; rintro e w' ⟨rfl, rfl⟩))
    have hst : LSt w1 w1.heap.size n (derL (ts.take 0) v) 0 0 (some ⟨w1.heap.size, 0, none⟩) (w1.alloc (.cells #[] 66)) :=
      ⟨by simp [derL], by have := TRow.start w1; simpa [derL] using this, fun t ht => by simp [derL] at ht, by go_grown, Nat.le_refl _, by simp⟩
    have HST := Lib.hid hst
    clear hst x0 x1 x1'
    generalize w1.alloc (.cells #[] 66) = W1 at *
    go_loopg [6, 28] (ts.length + 1) (fun kx s6 s28 wr => ∃ (i : Nat) (L : List Term') (m cp : Nat) (A' : Option Addr), s6 = .slice A' m cp ∧ s28 = .int .i64 (i : Int) ∧ i ≤ ts.length ∧ ts.length - i < kx ∧ m ≤ i ∧ Hid (L = derL (ts.take i) v) ∧ Hid (LSt w1 w1.heap.size n L m cp A' wr))
    case atStart => exact ⟨0, _, 0, 0, _, rfl, by first | rfl | go_num, by omega, by omega, by omega, (by show _ = _; rfl), HST⟩
    case round =>
      clear HST
      obtain ⟨i, L, m, cp, A', rfl, rfl, hin, hkx, hmi, HLL, HG⟩ := hrel
      obtain ⟨wo, rfl⟩ : ∃ x, x = wr := ⟨_, rfl⟩
      have HBW : Hid (Below w.heap.size w wo) := bnext HB.out HG.out.below
      by_cases hlt : i < ts.length
      · have hiz : (i : Int) < (ts.length : Int) := by omega
        obtain ⟨bt, ot, Ai, ci, rfl, hbt, t0, t1, tI, _⟩ := (HT.out.below HBW.out).at_ hlt
        have hlen : (tmAt ts i).1.length = n := HLT.out _ (tmAt_mem hlt)
        have hok1 := termOk_parts (polyOk_mem HOK.out (tmAt_mem hlt))
        have hx12 := expsOk_bd hok1.2.2.2.1 v
        have hc1 := hok1.2.1
        have hc2 := hok1.2.2.1
        rw [hlen] at t0
        obtain ⟨be, oe, rfl, hbe, hce⟩ := tI.cfAt (by omega)
        have e0 := hce v (by omega)
        have HTI := Lib.hid tI
        have HLN := Lib.hid hlen
        obtain ⟨x, hx⟩ : ∃ x, x = cf (tmAt ts i).1 v := ⟨_, rfl⟩
        obtain ⟨c, hc⟩ : ∃ c, c = (tmAt ts i).2 := ⟨_, rfl⟩
        rw [← hx] at e0 hx12
        rw [← hc] at t1 hc1 hc2
        have HX := Lib.hid hx
        have HC2 := Lib.hid hc
        have hx0 := hx12.1
        have hx1 := hx12.2
        clear hce hok1 hx hc hx12 hlen tI
        go_upto_region 9 with fail
        have hbn : Below wo.heap.size wo (wo.alloc (.cells #[.slice (some ⟨be, oe, none⟩) n ci, .int .i64 c] 66)) := by go_grown
        have hqn := Cells.new wo 66 [.slice (some ⟨be, oe, none⟩) n ci, .int .i64 c]
        generalize wo.alloc (.cells #[.slice (some ⟨be, oe, none⟩) n ci, .int .i64 c] 66) = W2 at *
        have e0' := keepC e0 hbn
        have HKS : Hid (W2.cell? ⟨wo.heap.size, 0, none⟩ = some (.slice (some ⟨be, oe, none⟩) n ci) ∧ W2.cell? ⟨be, oe + v, none⟩ = some (.int .i64 x)) := ⟨by rw [hqn.cell]; rfl, e0'⟩
        have HQN := Lib.hid hqn
        have HBN := Lib.hid hbn
        have HCL : Hid (Calls Try.prog 36 #[.slice (some ⟨be, oe, none⟩) n ci] W2.drew fun e w' => ∃ g c', e = .returned (.slice (some ⟨g, 0, none⟩) n c') ∧ IntRow w' W2.heap.size (.slice (some ⟨g, 0, none⟩) (tmAt ts i).1.length c') (tmAt ts i).1 ∧ w'.cell? ⟨g, v, none⟩ = some (.int .i64 x) ∧ w'.frozen? ⟨g, v, none⟩ = false ∧ W2.heap.size ≤ g ∧ Below W2.heap.size W2 w') := by
          have h := cloneR_any (some ⟨be, oe, none⟩) ci (tmAt ts i).1 W2.drew ((HTI.out.below HBN.out).below (Below.refl _ _).drew) (by rw [HLN.out]; omega)
          rw [HLN.out] at h
          refine h.mono fun e w' ⟨Ac, cc, h1, h2, h3⟩ => ?_
          obtain ⟨g, hg, hg1, hg2, hg3, hg4⟩ := h2.at_ (n := n) HLN.out.symm hvn
          subst hg
          rw [HLN.out] at h1
          exact ⟨g, cc, h1, h2, by rw [HX.out]; exact hg3, hg4, hg1, ⟨h3.os, h3.tape, h3.output, h3.size, h3.block⟩⟩
        clear t0 t1 e0 e0' hbn hqn
        go_region_held3 (fun wx => wx.cell? ⟨wo.heap.size, 0, none⟩ = some (.slice (some ⟨be, oe, none⟩) n ci) ∧ wx.cell? ⟨be, oe + v, none⟩ = some (.int .i64 x))
          (first | exact HKS.out | go_keep | exact keep2 HKS.out hb3)
          (first | (go_at_call 36; (with_reducible refine HCL.out.mono ?_); rintro e w3 ⟨ge, ce, rfl, hrow, g0, gf, hge, hb3⟩))
        have HROW := Lib.hid hrow
        have HB3 := Lib.hid hb3
        have HBO : Hid (Below wo.heap.size wo w3) := bnext HBN.out hb3
        have hq3 := HQN.out.next hb3
        have r1 : w3.cell? ⟨wo.heap.size, 1, none⟩ = some (.int .i64 c) := by rw [hq3.cell]; rfl
        have hwo2 : wo.heap.size < W2.heap.size := HQN.out.lt
        clear hrow hb3 hq3 HCL HKS
        by_cases hpos : 0 < x
        · have hwx : IntKind.i64.wrap (x - 1) = x - 1 := by rw [IntKind.wrap_i64]; omega
          obtain ⟨W4, hW4⟩ : ∃ W4, W4 = w3.setCell ⟨ge, v, none⟩ (.int .i64 (x - 1)) := ⟨_, rfl⟩
          have hne : wo.heap.size ≠ ge := by omega
          have s1 : W4.cell? ⟨wo.heap.size, 1, none⟩ = some (.int .i64 c) := by rw [hW4, World.cell?_setCell_other _ _ _ _ (fun e => hne (congrArg Addr.block e).symm)]; exact r1
          have HB4 : Hid (Below wo.heap.size wo W4) := by show Below _ _ _; rw [hW4]; exact HBO.out.setCell (p := ⟨ge, v, none⟩) (by simp only; omega) _
          have HG4 := Lib.hid (HG.out.next HB4.out)
          have HR4 : Hid (IntRow W4 W2.heap.size (.slice (some ⟨ge, 0, none⟩) ((tmAt ts i).1.set v (x - 1)).length ce) ((tmAt ts i).1.set v (x - 1))) := by
            show IntRow _ _ _ _; rw [hW4]; exact HROW.out.setAt v (x - 1)
          have HW4 := Lib.hid hW4
          obtain ⟨us, hTP⟩ := HG.out.row
          have hlenL := HG.out.len
          subst hlenL
          have HOWN : Hid (W4.ownsRow w1.heap.size 66 2 (.slice A' L.length cp) L.length (cellsT us)) := ownsRow_keep2 hTP.own fun g hg => HB4.out.block g (World.ownsRow.lt hTP.own g hg).2
          have HTP := Lib.hid hTP
          have hb2 := mul_bd (a := c) (b := x) (by omega) hc2 hx0 (by omega)
          have hmx : 0 ≤ c * x := hb2.1
          have hmx2 : c * x ≤ 1000004000004 := hb2.2
          have hwm : IntKind.i64.wrap (c * x) = c * x := by rw [IntKind.wrap_i64]; omega
          have hrem : (c * x).tmod 1000003 = tm c x := by unfold tm; rw [Int.tmod_eq_emod_of_nonneg hmx]
          have HR5 : Hid (IntRow W4 wo.heap.size (.slice (some ⟨ge, 0, none⟩) n ce) ((tmAt ts i).1.set v (x - 1))) := by
            have h := World.ownsRow.mono HR4.out (show wo.heap.size ≤ W2.heap.size by omega)
            rw [List.length_set, HLN.out] at h
            show IntRow _ _ _ _
            unfold IntRow
            rw [List.length_set, HLN.out]; exact h
          have HLE : Hid (L ++ [((tmAt ts i).1.set v (x - 1), tm c x)] = derL (ts.take (i + 1)) v) := by
            show _ = _
            rw [derL_yes hlt (by rw [← HX.out]; exact hpos)]
            simp only [derT]
            rw [← HX.out, ← HC2.out, HLL.out]
          have HSZ : Hid (w1.heap.size ≤ W4.heap.size) := by have := HG4.out.B1; exact this
          clear hTP hW4 r1 hb2 HR4
          go_upto_region 12 with fail
          rw [← HW4.out]
          go_wp2_with (at_builtin; refine wpList_append_own _ rfl _ _ 26 rfl w1.heap.size 66 i0 (tmV none 0 0 0) 2 32 Try.underlying26 hi hz0 hz1 hz2 rfl (by decide) _ L.length _ rfl (HOWN.out.alloc _) ⟨W4.heap.size, 0, none⟩ 1 1 [.slice (some ⟨ge, 0, none⟩) n ce, .int .i64 (tm c x)] rfl rfl ?c1 ?c2 ?c3 ?c4 ?c5 ?_)
          try (case c1 => exact cell_tmn _ _ _ _)
          try (case c2 => intro u hu; simp at hu; rcases hu with rfl | rfl <;> rfl)
          case c3 => unfold maxLen; omega
          case c4 => omega
          case c5 => first | (have := HSZ.out; simp; omega)
          intro v2 w5 hown hg _
          obtain ⟨A2, c2, rfl, hL⟩ := HG.out.push (c := tm c x) HTP.out (by rw [List.length_set]; exact HLN.out) (HB4.out.alloc HB4.out.size _) (HR5.out.keep fun g hg => ((Below.refl _ _).alloc (Nat.le_refl _) _).block g (HR5.out.lt hg).2) hown hg
          have HL5 := Lib.hid hL
          clear hown hg hL HOWN HTP HG4
          go_wp2
          go_roundg (ts.length - (i + 1) + 1)
          case measure => omega
          case rel => exact ⟨i + 1, _, L.length + 1, c2, A2, rfl, by first | rfl | go_num, by omega, by omega, by omega, HLE, HL5⟩
        · have HG3 := Lib.hid (HG.out.next HBO.out)
          have HLL3 : Hid (L = derL (ts.take (i + 1)) v) := by show _ = _; rw [derL_no hlt (by rw [← HX.out]; exact hpos)]; exact HLL.out
          go_wp2
          go_roundg (ts.length - (i + 1) + 1)
          case measure => omega
          case rel => exact ⟨i + 1, L, m, cp, A', rfl, by first | rfl | go_num, by omega, by omega, by omega, HLL3, HG3⟩
      · obtain rfl : i = ts.length := by omega
        have hlenL := HG.out.len
        subst hlenL
        have hHR := (HR.out.next HG.out.below)
        have q0 : wo.cell? ⟨w.heap.size, 0, none⟩ = some (.int .i64 u) := by rw [(HQ.out.next HG.out.below).cell]; rfl
        have HGA := Lib.hid (gathered_any u A' cp n L wo (by omega) (by omega) (HG.out.row.rowO HG.out.lenT))
        have HRB := Lib.hid hHR
        have HBK : Hid (∀ q, InB L.length A' q → w1.heap.size ≤ q) := fun q ⟨h0, oq, e⟩ => by
          obtain ⟨us, hTP⟩ := HG.out.row
          have := (World.ownsRow.lt hTP.own q (by rw [e]; rfl)).1
          exact this
        have HCF : Hid (∀ R, Canon R → (∀ e, cof R e = cof L e) → R = nfT (derL ts v)) := fun R h1 h2 => nfT_eq h1 (fun e => by rw [h2, HLL.out, List.take_length])
        have hwo : w1.heap.size ≤ wo.heap.size := HG.out.B1
        have hzz : ¬ (ts.length : Int) < (ts.length : Int) := by omega
        clear hHR
        go_wp2_with fail
        refine HGA.out.mono ?_
        rintro e w2 ⟨A2, cp2, R, rfl, hRT, hcan, hcof, _, _, hO⟩
        have hRE := HCF.out R hcan hcof
        have hblk : w2.heap[w.heap.size + 1]? = wo.heap[w.heap.size + 1]? := hO.block _ (by omega) (fun h => by have := HBK.out _ h; omega)
        have hr : Cells w2 (w.heap.size + 1) 28 [.int .i64 0, .slice none 0 0] := hblk.trans HRB.out
        have y0 : w2.cell? ⟨w.heap.size + 1, 0, none⟩ = some (.int .i64 0) := by rw [hr.cell]; rfl
        have y1 : w2.cell? ⟨w.heap.size + 1, 1, none⟩ = some (.slice none 0 0) := by rw [hr.cell]; rfl
        have f0 : w2.frozen? ⟨w.heap.size + 1, 0, none⟩ = false := hr.frozen _
        have f1 : w2.frozen? ⟨w.heap.size + 1, 1, none⟩ = false := hr.frozen _
        have hD1 := hr.set_ 0 (.int .i64 u)
        have hD2 := hD1.set_ 1 (.slice A2 R.length cp2)
        have z0 := hD1.cell 0
        have z1 := hD2.cell 1
        simp only [List.set_cons_zero, List.set_cons_succ, List.getElem?_cons_zero, List.getElem?_cons_succ] at z0 z1
        have HB2 : Hid (Below w.heap.size w w2) := HBW.out.trans (hO.below (by omega) (fun k hk => by have := HBK.out k hk; omega))
        have HRT := Lib.hid hRT
        have HRR : Hid (nfT (derL ts ((v : Int)).toNat) = R) := by show _ = _; rw [Int.toNat_natCast]; exact hRE.symm
        clear hRT hcan hcof hO hRE hblk hr hD1 hD2
        go_wp2
        refine bodyPost_ret (v := .tuple #[poV u A2 R.length cp2, .int .i64 0]) (by simp [results, Try.results11, go_sem, z0, z1]) rfl ?_
        rw [HRR.out]
        exact retQ HB2.out HRT.out (by omega) _ _

end Go.Proofs.Ytfnhdfgkkjnhcaa

/- Bounds of polynomials that are returned. -/
namespace Go.Proofs.Ytfnhdfgkkjnhcaa
open Plain

theorem nfT_spec (L : List Term') : (∀ t ∈ nfT L, ∃ u ∈ L, u.1 = t.1) ∧ (nfT L).length ≤ L.length := by
  by_cases hx : ∃ R, Canon R ∧ ∀ e, cof R e = cof L e
  · obtain ⟨R, h1, h2⟩ := hx
    have hn := nfT_eq h1 h2
    rw [← hn]
    refine ⟨fun t ht => h1.stems h2 ht, ?_⟩
    have hsub : ∀ (R : List Term'), R.Pairwise (fun s t => cmpL s.1 t.1 < 0) → ∀ (K : List (List Int)), (∀ t ∈ R, t.1 ∈ K) → R.length ≤ K.length := by
      intro R
      induction R with
      | nil => intro _ K _; simp
      | cons t R ih =>
        intro hp K hK
        have hp' := List.pairwise_cons.1 hp
        have hm := hK t (List.mem_cons_self ..)
        have h3 := ih hp'.2 (K.erase t.1) (fun s hs => by
          have hne : s.1 ≠ t.1 := (lt_ne (hp'.1 s hs)).symm
          exact (List.mem_erase_of_ne hne).2 (hK s (List.mem_cons_of_mem _ hs)))
        rw [List.length_erase_of_mem hm] at h3
        have : 0 < K.length := List.length_pos_of_mem hm
        simp only [List.length_cons]
        omega
    have := hsub R h1.asc (L.map (·.1)) (fun t ht => by
      obtain ⟨u, hu, e⟩ := h1.stems h2 ht
      exact List.mem_map.2 ⟨u, hu, e⟩)
    simpa using this
  · have : nfT L = [] := by unfold nfT; rw [dif_neg hx]
    rw [this]; simp
theorem totT_le_mul {n : Nat} {ts : List Term'} (h : LenT n ts) : totT ts ≤ ts.length * n := by
  induction ts with
  | nil => simp [totT, tot]
  | cons t r ih =>
    have h1 := h t (List.mem_cons_self ..)
    have h2 := ih fun s hs => h s (List.mem_cons_of_mem _ hs)
    rw [totT_cons, List.length_cons, Nat.add_mul, Nat.one_mul, h1]
    omega
theorem derV_bd (u : Int) (ts : List Term') (a : Int) : (derV u ts a).1.2.length ≤ 120 ∧ totT (derV u ts a).1.2 ≤ 1440 := by
  unfold derV
  split
  · rename_i h
    have hsz := polyOk_size h
    split
    · obtain ⟨h1, h2⟩ := nfT_spec (derL ts a.toNat)
      have h3 := derL_length ts a.toNat
      have hl : LenT u.toNat (nfT (derL ts a.toNat)) := fun t ht => by
        obtain ⟨s, hs, e⟩ := h1 t ht
        rw [← e]; exact derL_len (polyOk_len' h) s hs
      have h4 := totT_le_mul hl
      refine ⟨by show (nfT _).length ≤ 120; omega, ?_⟩
      show totT (nfT (derL ts a.toNat)) ≤ 1440
      have h5 : (nfT (derL ts a.toNat)).length * u.toNat ≤ 120 * 12 := Nat.mul_le_mul (by omega) (by omega)
      omega
    · simp [totT, tot]
  · simp [totT, tot]

end Go.Proofs.Ytfnhdfgkkjnhcaa
