/- Texts put together: WPolyE5, WPolyE6. -/
import Derived.Test.YtnomnaojondffaaKZA
import Derived.Test.YtnomnaojondffaaKY
import Derived.Test.YtnomnaojondffaaKX

/- Walks: PolyExpr of the program. -/
namespace Go.Proofs.Ytnomnaojondffaa
open Go.RowKit Plain

/-- an expression in a box, its kids in blocks below m -/
structure BoxM (w : World) (b : Nat) (x : Nd) (K : Option Addr) (c m : Nat) : Prop where
  box : Cells w b 39 (exC x K c)
  cl : x.ks.len ≤ c
  cm : c ≤ maxLen
  tree : TreeR (b + 1) m x.ks K w
  lt : m ≤ w.heap.size
theorem BoxM.next {w w' : World} {b : Nat} {x : Nd} {K : Option Addr} {c m : Nat} (h : BoxM w b x K c m) (hb : Below w.heap.size w w') : BoxM w' b x K c m :=
  ⟨h.box.next hb, h.cl, h.cm, h.tree.below hb h.lt, Nat.le_trans h.lt hb.size⟩
theorem BoxM.put {w : World} {b bo : Nat} {x : Nd} {K : Option Addr} {c m : Nat} {k n p d : Int} {v : Value} (h : BoxM w b x K c m) (h1 : b < bo) (h2 : m ≤ bo) : BoxM (putX w bo k n p d v) b x K c m :=
  ⟨putX_far h.box (by omega), h.cl, h.cm, h.tree.keep (fun q _ h4 => putX_block (by omega)), by rw [putX_size]; exact h.lt⟩

set_option maxRecDepth 100000 in
set_option maxHeartbeats 8000000 in
theorem polyExprI {A : Option Addr} {cap : Nat} (u : Int) (ts : List Term') (w : World) (hT : TmsAt w A ts) (tl : ts.length ≤ 1048576) (tt : totT ts ≤ 1048576) :
    Calls Try.prog 18 #[poV u A ts.length cap] w (RetNi (polyX u ts).1 (polyX u ts).2 w) := by
  obtain ⟨hs, hP, hR, hb⟩ := twoBx w (.int .i64 u) (.slice A ts.length cap) 31 39
  obtain ⟨W, hW⟩ : ∃ W, W = (w.alloc (.cells #[.int .i64 u, .slice A ts.length cap] 31)).alloc (.cells #[.int .i64 0, .int .i64 0, .int .i64 0, .int .i64 0, .slice none 0 0] 39) := ⟨_, rfl⟩
  rw [← hW] at hs hP hR hb
  have HC := Lib.hid (polyI_any u A cap ts W (hT.below hb) tl tt)
  have HT := Lib.hid hT
  have HW := Lib.hid hW
  have p0 : W.cell? ⟨w.heap.size, 0, none⟩ = some (.int .i64 u) := by rw [hP.cell]; rfl
  have p1 : W.cell? ⟨w.heap.size, 1, none⟩ = some (.slice A ts.length cap) := by rw [hP.cell]; rfl
  have HP := Lib.hid hP
  have HR := Lib.hid hR
  have HB := Lib.hid hb
  clear hW hP hR hb hT
  cases hok : polyOk u ts
  · have HV := Lib.hid (polyX_bad hok)
    rw [HV.out]
    rw [hok] at HC
    clear hok
    go_enter Try.func18, Try.ntmps18
    go_wp2_with fail
    rw [← HW.out]
    refine HC.out.mono ?_; rintro e w1 ⟨rfl, hb1⟩
    have HR1 := Lib.hid (HR.out.next hb1)
    have HB1 := Lib.hid (bnext HB.out hb1)
    obtain ⟨⟨j0, j1, j2, j3, j4⟩, ⟨f0, f1, f2, f3, f4⟩, x0, x1, x2, x3, x4⟩ := resBox (x := ⟨0, 0, 0, 0, .nil⟩) (K := none) (c := 0) HR1.out
    simp only [Es.len] at x0 x1 x2 x3 x4
    clear hb1
    go_wp2
    refine bodyPost_ret (v := .tuple #[exV 0 0 0 0 none 0 0, .int .i64 1]) (by simp [results, Try.results18, go_sem, x0, x1, x2, x3, x4]) rfl ?_
    refine ⟨putX_below (b := w.heap.size + 1) HB1.out (by omega), none, 0, rfl, Nat.le_refl _, by unfold maxLen; omega, TreeR.reg (TreeR.nil _ _ ?_)⟩
    have := HB1.out.size
    simp [World.setCell]
    omega
  have HOK := Lib.hid hok
  rw [hok] at HC
  have hsz := polyOk_size hok
  have ht120 := hsz.2.2
  have HBIG := Lib.hid (sumN_big hok)
  clear hok hsz
  go_enter Try.func18, Try.ntmps18
  go_wp2_with fail
  rw [← HW.out]
  refine HC.out.mono ?_; rintro e w1 ⟨rfl, hb1⟩
  have HR1 := Lib.hid (HR.out.next hb1)
  have HP1 := Lib.hid (HP.out.next hb1)
  have HB1 := Lib.hid (bnext HB.out hb1)
  have hs1 := hb1.size
  clear hb1 HR HP HB HC HW p0 p1
  go_wp2_with fail
  refine (numI_any 0 w1).mono ?_; rintro e w2 ⟨rfl, hb2⟩
  have hs2 := hb2.size
  obtain ⟨be, hbe⟩ : ∃ be, be = w2.heap.size := ⟨_, rfl⟩
  have hg2 : Below w2.heap.size w2 (w2.alloc (.cells #[.int .i64 1, .int .i64 0, .int .i64 0, .int .i64 0, .slice none 0 0] 39)) := by go_grown
  have HX0 : Hid (BoxT (w2.alloc (.cells #[.int .i64 1, .int .i64 0, .int .i64 0, .int .i64 0, .slice none 0 0] 39)) be (sumN ts 0) none 0) :=
    ⟨by rw [hbe]; exact Cells.new w2 _ _, Nat.le_refl _, by unfold maxLen; omega, TreeR.nil _ _ (by simp [hbe])⟩
  have HR2 := Lib.hid ((HR1.out.next hb2).next hg2)
  have hP2 := (HP1.out.next hb2).next hg2
  have p1 : (w2.alloc (.cells #[.int .i64 1, .int .i64 0, .int .i64 0, .int .i64 0, .slice none 0 0] 39)).cell? ⟨w.heap.size, 1, none⟩ = some (.slice A ts.length cap) := by rw [hP2.cell]; rfl
  have HB2 := Lib.hid (bnext (bnext HB1.out hb2) hg2)
  have hbe2 : w.heap.size + 1 < be := by omega
  clear hb2 hg2 HR1 HP1 HB1 hP2
  go_wp2
  rw [← hbe]
  generalize (w2.alloc (.cells #[.int .i64 1, .int .i64 0, .int .i64 0, .int .i64 0, .slice none 0 0] 39)) = W2 at *
  clear hs1 hs2 hs hbe
  go_loopw [18] (fun i wr => ∃ (k : Nat) (K : Option Addr) (cp : Nat), k ≤ ts.length ∧ i = .int .i64 (k : Int) ∧ Hid (BoxT wr be (sumN ts k) K cp) ∧ Hid (Cells wr (w.heap.size + 1) 39 [.int .i64 0, .int .i64 0, .int .i64 0, .int .i64 0, .slice none 0 0]) ∧ Hid (Below w.heap.size w wr)) (fun i _ => ts.length - (intOf i).toNat)
  case atStart => exact ⟨0, none, 0, by omega, by go_num, HX0.out, HR2.out, HB2.out⟩
  case round =>
    obtain ⟨k, K0, e0, hk, rfl, HX, HR, HB⟩ := hrel
    by_cases hlt : k < ts.length
    · obtain ⟨bt, ot, Ai, ca, hAe, hbt, hc0, hc20, hi, _⟩ := HT.out.at_ hlt
      subst hAe
      have hc : wr.cell? ⟨bt, ot + k * 2, none⟩ = some (.slice Ai (tmAt ts k).1.length ca) := (HB.out.cell (p := ⟨bt, _, none⟩) hbt).trans hc0
      have hc2 : wr.cell? ⟨bt, ot + k * 2 + 1, none⟩ = some (.int .i64 (tmAt ts k).2) := (HB.out.cell (p := ⟨bt, _, none⟩) hbt).trans hc20
      clear hc0 hc20
      have hp := termOk_parts (polyOk_term HOK.out hlt)
      have hl12 : (tmAt ts k).1.length ≤ 12 := by have := polyOk_size HOK.out; omega
      have hkl : (k : Int) < (ts.length : Int) := by omega
      have HS : Hid (sumN ts (k + 1) = if k = 0 then prodN (tmAt ts k).2 (tmAt ts k).1 (tmAt ts k).1.length else opXN 3 (sumN ts k) (prodN (tmAt ts k).2 (tmAt ts k).1 (tmAt ts k).1.length)) := rfl
      obtain ⟨y, hy⟩ : ∃ y, y = sumN ts k := ⟨_, rfl⟩
      rw [← hy] at HS HX
      have hok := hp.2.2.2.1
      obtain ⟨es, hes⟩ : ∃ es, es = (tmAt ts k).1 := ⟨_, rfl⟩
      rw [← hes] at HS hi hc hl12 hok
      generalize (tmAt ts k).2 = c at *
      have HEO := Lib.hid hok
      clear hy hes hp hok
      have hg3 : Below wr.heap.size wr (wr.alloc (.cells #[.slice Ai es.length ca, .int .i64 c] 82)) := by go_grown
      have hTB : Cells (wr.alloc (.cells #[.slice Ai es.length ca, .int .i64 c] 82)) wr.heap.size 82 [.slice Ai es.length ca, .int .i64 c] := Cells.new wr _ _
      have hwb := HX.out.box.lt
      have hww := HB.out.size
      go_wp2_with fail
      refine (numI_any c _).mono ?_; rintro e w3 ⟨rfl, hb3⟩
      have hb3' := bnext hg3 hb3
      obtain ⟨bo, hbo⟩ : ∃ bo, bo = w3.heap.size := ⟨_, rfl⟩
      obtain ⟨W4, hW4⟩ : ∃ W4, W4 = (w3.alloc (.cells #[.int .i64 1, .int .i64 c, .int .i64 0, .int .i64 0, .slice none 0 0] 39)) := ⟨_, rfl⟩
      have hg4 : Below w3.heap.size w3 W4 := by rw [hW4]; go_grown
      have hb4 := bnext hb3' hg4
      have y0 : W4.cell? ⟨wr.heap.size, 0, none⟩ = some (.slice Ai es.length ca) := by rw [((hTB.next hb3).next hg4).cell]; rfl
      have y0x := y0
      rw [hW4] at y0x
      have HO0 : Hid (BoxT W4 bo (prodN c es 0) none 0) := ⟨by rw [hbo, hW4]; exact Cells.new w3 _ _, Nat.le_refl _, by unfold maxLen; omega, TreeR.nil _ _ (by rw [hW4]; simp [hbo])⟩
      have HXM : Hid (BoxM W4 be y K0 e0 wr.heap.size) := ⟨HX.out.box.next hb4, HX.out.cl, HX.out.cm, HX.out.tree.below hb4 (Nat.le_refl _), hb4.size⟩
      have HR4 := Lib.hid (HR.out.next hb4)
      have HB4 := Lib.hid (bnext HB.out hb4)
      have HI0 := Lib.hid hi
      have hbo1 : wr.heap.size < bo := by have := hb3.size; simp at this; omega
      have hbo2 : be < bo := by omega
      have HW4 := Lib.hid hW4
      obtain ⟨m0, hm0⟩ : ∃ m0, m0 = wr.heap.size := ⟨_, rfl⟩
      have hww0 : Hid (Below W4.heap.size W4 W4) := Below.refl _ _
      rw [← hm0] at HXM hbo1
      clear hb3 hb3' hb4 hg3 hg4 hTB hW4 hi HR HB hc hc2 HX
      go_wp2
      clear y0x
      rw [← HW4.out, ← hbo]
      clear HW4 hbo hm0
      rename World => wo
      go_loopw [29] (fun i wr => ∃ (v : Nat) (K : Option Addr) (cp : Nat), v ≤ es.length ∧ i = .int .i64 (v : Int) ∧ Hid (BoxT wr bo (prodN c es v) K cp) ∧ Hid (BoxM wr be y K0 e0 m0) ∧ Hid (Cells wr (w.heap.size + 1) 39 [.int .i64 0, .int .i64 0, .int .i64 0, .int .i64 0, .slice none 0 0]) ∧ Hid (Below w.heap.size w wr)) (fun i _ => es.length - (intOf i).toNat)
      case atStart => exact ⟨0, none, 0, by omega, by go_num, HO0.out, HXM.out, HR4.out, HB4.out⟩
      case round =>
        obtain ⟨v, K, cp, hv, rfl, HO, HM, HR, HB⟩ := hrel
        by_cases hvl : v < es.length
        · obtain ⟨ba, oa, rfl, _, hca⟩ := (HI0.out.below HB.out).cfAt (by omega)
          have hc1 := hca v hvl
          have hvl' : (v : Int) < (es.length : Int) := by omega
          have heb := expsOk_bd HEO.out v
          obtain ⟨N, hN⟩ : ∃ N : Nat, (N : Int) = cf es v := ⟨(cf es v).toNat, by omega⟩
          have HN : Hid (prodN c es (v + 1) = powN (prodN c es v) v N) := by show _ = _; rw [show N = (cf es v).toNat by omega]; rfl
          have hN12 : N ≤ 12 := by omega
          rw [← hN] at hc1
          clear hca heb hN
          generalize prodN c es v = x0 at *
          go_wp2
          rename World => wp
          go_loopw [35] (fun n wr => ∃ (m : Nat) (K : Option Addr) (cp : Nat), m ≤ N ∧ n = .int .i64 (m : Int) ∧ Hid (BoxT wr bo (powN x0 v m) K cp) ∧ Hid (BoxM wr be y K0 e0 m0) ∧ Hid (Cells wr (w.heap.size + 1) 39 [.int .i64 0, .int .i64 0, .int .i64 0, .int .i64 0, .slice none 0 0]) ∧ Hid (Below w.heap.size w wr)) (fun n _ => N - (intOf n).toNat)
          case atStart => exact ⟨0, K, cp, by omega, by go_num, HO.out, HM.out, HR.out, HB.out⟩
          case round =>
            obtain ⟨m, K2, cp2, hm2, rfl, HX2, HM2, HR2, HB2⟩ := hrel
            by_cases hml : m < N
            · obtain ⟨z, hz⟩ : ∃ z, z = powN x0 v m := ⟨_, rfl⟩
              rw [← hz] at HX2
              have HY : Hid (powN x0 v (m + 1) = opXN 5 z (varN v)) := by rw [hz]; exact rfl
              have hbx := HX2.out.box
              have c0 : wr.cell? ⟨bo, 0, none⟩ = some (.int .i64 z.k) := by rw [hbx.cell]; rfl
              have c1 : wr.cell? ⟨bo, 1, none⟩ = some (.int .i64 z.n) := by rw [hbx.cell]; rfl
              have c2 : wr.cell? ⟨bo, 2, none⟩ = some (.int .i64 z.p) := by rw [hbx.cell]; rfl
              have c3 : wr.cell? ⟨bo, 3, none⟩ = some (.int .i64 z.c) := by rw [hbx.cell]; rfl
              have c4 : wr.cell? ⟨bo, 4, none⟩ = some (.slice K2 z.ks.len cp2) := by rw [hbx.cell]; rfl
              have hNm : (m : Int) < (N : Int) := by omega
              clear hz hbx
              go_wp2
              go_region_with (first
                | (go_at_call 56; refine (varI_any _ _).mono ?_; rintro e wv ⟨rfl, hbv⟩
                   have hbv' : Below wr.heap.size wr wv := by first | exact bdrew hbv | exact bdrewN hbv | exact hbv
                   have HXv := HX2.out.next hbv'
                   have d0 : wv.cell? ⟨bo, 0, none⟩ = some (.int .i64 z.k) := by rw [HXv.box.cell]; rfl
                   have d1 : wv.cell? ⟨bo, 1, none⟩ = some (.int .i64 z.n) := by rw [HXv.box.cell]; rfl
                   have d2 : wv.cell? ⟨bo, 2, none⟩ = some (.int .i64 z.p) := by rw [HXv.box.cell]; rfl
                   have d3 : wv.cell? ⟨bo, 3, none⟩ = some (.int .i64 z.c) := by rw [HXv.box.cell]; rfl
                   have d4 : wv.cell? ⟨bo, 4, none⟩ = some (.slice K2 z.ks.len cp2) := by rw [HXv.box.cell]; rfl)
                | (go_at_call 55; refine (nodeI_any _ _ _ _ _).mono ?_; rintro e w3 ⟨rfl, hb3⟩
                   have hb3' : Below wv.heap.size wv w3 := bnext (by go_grown) hb3
                   have hC3 : Cells w3 wv.heap.size 39 (twoC z K2 cp2 (varN v) none 0) := (Cells.new wv 39 (twoC z K2 cp2 (varN v) none 0)).next hb3
                   have hbw3 := bnext hbv' hb3'
                   have HX3 := HX2.out.next hbw3
                   have k0 : w3.cell? ⟨bo, 0, none⟩ = some (.int .i64 z.k) := by rw [HX3.box.cell]; rfl
                   have k1 : w3.cell? ⟨bo, 1, none⟩ = some (.int .i64 z.n) := by rw [HX3.box.cell]; rfl
                   have k2 : w3.cell? ⟨bo, 2, none⟩ = some (.int .i64 z.p) := by rw [HX3.box.cell]; rfl
                   have k3 : w3.cell? ⟨bo, 3, none⟩ = some (.int .i64 z.c) := by rw [HX3.box.cell]; rfl
                   have k4 : w3.cell? ⟨bo, 4, none⟩ = some (.slice K2 z.ks.len cp2) := by rw [HX3.box.cell]; rfl
                   have f0 : w3.frozen? ⟨bo, 0, none⟩ = false := HX3.box.frozen _
                   have f1 : w3.frozen? ⟨bo, 1, none⟩ = false := HX3.box.frozen _
                   have f2 : w3.frozen? ⟨bo, 2, none⟩ = false := HX3.box.frozen _
                   have f3 : w3.frozen? ⟨bo, 3, none⟩ = false := HX3.box.frozen _
                   have f4 : w3.frozen? ⟨bo, 4, none⟩ = false := HX3.box.frozen _))
              all_goals
                have hg2 : wv.heap.size < w3.heap.size := hC3.lt
                have hy2 : wr.heap.size ≤ wv.heap.size := hbv'.size
                have HX4 : Hid (BoxT (putX w3 bo 5 0 0 0 (.slice (some ⟨wv.heap.size, 0, none⟩) 2 2)) bo (opXN 5 z (varN v)) (some ⟨wv.heap.size, 0, none⟩) 2) :=
                  BoxT.put (opXN 5 z (varN v)) HX3.box (Nat.le_refl 2) (by unfold maxLen; omega) ((treeTwo (y := varN v) (K' := none) (c' := 0) (hi := wr.heap.size) (HX2.out.tree.below hbw3 (Nat.le_refl _)) (TreeR.nil _ _ (Nat.le_refl _)) hy2 HX2.out.cl HX2.out.cm (Nat.le_refl 0) (by unfold maxLen; omega) hC3).wide (Nat.le_refl _) hg2)
                have HM4 : Hid (BoxM (putX w3 bo 5 0 0 0 (.slice (some ⟨wv.heap.size, 0, none⟩) 2 2)) be y K0 e0 m0) := (HM2.out.next hbw3).put hbo2 (by omega)
                have HR4 : Hid (Cells (putX w3 bo 5 0 0 0 (.slice (some ⟨wv.heap.size, 0, none⟩) 2 2)) (w.heap.size + 1) 39 [.int .i64 0, .int .i64 0, .int .i64 0, .int .i64 0, .slice none 0 0]) := putX_far (HR2.out.next hbw3) (by omega)
                have HB4 : Hid (Below w.heap.size w (putX w3 bo 5 0 0 0 (.slice (some ⟨wv.heap.size, 0, none⟩) 2 2))) := putX_below (bnext HB2.out hbw3) (by omega)
                rw [← HY.out] at HX4
                unfold putX at HX4 HR4 HB4 HM4
                clear c0 c1 c2 c3 c4 d0 d1 d2 d3 d4 k0 k1 k2 k3 k4 f0 f1 f2 f3 f4 hC3 HX3 HXv hbw3 hb3' hbv' hb3 hbv HX2 HR2 HB2 HM2
                go_wp2
                go_roundw
                case rel => exact ⟨m + 1, some ⟨wv.heap.size, 0, none⟩, 2, by omega, by go_num, HX4, HM4, HR4, HB4⟩
                case measure => simp [intOf]; omega
            · obtain rfl : m = N := by omega
              go_wp2
              go_roundw
              case rel => exact ⟨v + 1, K2, cp2, by omega, by go_num, by rw [HN.out]; exact HX2, HM2.out, HR2.out, HB2.out⟩
              case measure => simp [intOf]; omega
        · obtain rfl : v = es.length := by omega
          generalize prodN c es es.length = x at *
          have hox := HO.out.box
          have hmx := HM.out.box
          have c0 : wr.cell? ⟨bo, 0, none⟩ = some (.int .i64 x.k) := by rw [hox.cell]; rfl
          have c1 : wr.cell? ⟨bo, 1, none⟩ = some (.int .i64 x.n) := by rw [hox.cell]; rfl
          have c2 : wr.cell? ⟨bo, 2, none⟩ = some (.int .i64 x.p) := by rw [hox.cell]; rfl
          have c3 : wr.cell? ⟨bo, 3, none⟩ = some (.int .i64 x.c) := by rw [hox.cell]; rfl
          have c4 : wr.cell? ⟨bo, 4, none⟩ = some (.slice K x.ks.len cp) := by rw [hox.cell]; rfl
          have d0 : wr.cell? ⟨be, 0, none⟩ = some (.int .i64 y.k) := by rw [hmx.cell]; rfl
          have d1 : wr.cell? ⟨be, 1, none⟩ = some (.int .i64 y.n) := by rw [hmx.cell]; rfl
          have d2 : wr.cell? ⟨be, 2, none⟩ = some (.int .i64 y.p) := by rw [hmx.cell]; rfl
          have d3 : wr.cell? ⟨be, 3, none⟩ = some (.int .i64 y.c) := by rw [hmx.cell]; rfl
          have d4 : wr.cell? ⟨be, 4, none⟩ = some (.slice K0 y.ks.len e0) := by rw [hmx.cell]; rfl
          clear hox hmx
          rcases Nat.eq_zero_or_pos k with hk0 | hk0
          · subst hk0
            have HS2 : Hid (sumN ts (0 + 1) = x) := by show _ = _; rw [HS.out, if_pos rfl]
            have f0 : wr.frozen? ⟨be, 0, none⟩ = false := HM.out.box.frozen _
            have f1 : wr.frozen? ⟨be, 1, none⟩ = false := HM.out.box.frozen _
            have f2 : wr.frozen? ⟨be, 2, none⟩ = false := HM.out.box.frozen _
            have f3 : wr.frozen? ⟨be, 3, none⟩ = false := HM.out.box.frozen _
            have f4 : wr.frozen? ⟨be, 4, none⟩ = false := HM.out.box.frozen _
            have HX4 : Hid (BoxT (putX wr be x.k x.n x.p x.c (.slice K x.ks.len cp)) be x K cp) := BoxT.put x HM.out.box HO.out.cl HO.out.cm (HO.out.tree.wide (by omega) (Nat.le_refl _))
            have HR4 : Hid (Cells (putX wr be x.k x.n x.p x.c (.slice K x.ks.len cp)) (w.heap.size + 1) 39 [.int .i64 0, .int .i64 0, .int .i64 0, .int .i64 0, .slice none 0 0]) := putX_far HR.out (by omega)
            have HB4 : Hid (Below w.heap.size w (putX wr be x.k x.n x.p x.c (.slice K x.ks.len cp))) := putX_below HB.out (by omega)
            have HX5 : Hid (BoxT (putX wr be x.k x.n x.p x.c (.slice K x.ks.len cp)) be (sumN ts (0 + 1)) K cp) := by
              show BoxT _ _ _ _ _
              rw [HS2.out]
              exact HX4.out
            unfold putX at HX5 HR4 HB4
            clear HX4 HO HM HR HB
            go_wp2
            go_roundw
            case rel => exact ⟨0 + 1, K, cp, by omega, by go_num, HX5, HR4, HB4⟩
            case measure => simp [intOf]; omega
          · have HS2 : Hid (sumN ts (k + 1) = opXN 3 y x) := by show _ = _; rw [HS.out, if_neg (by omega)]
            have hk1 : ((k : Int) == 0) = false := by simp; omega
            go_wp2_with fail
            refine (nodeI_any _ _ _ _ _).mono ?_; rintro e w3 ⟨rfl, hb3⟩
            have hb3' : Below wr.heap.size wr w3 := bnext (by go_grown) hb3
            have hC3 : Cells w3 wr.heap.size 39 (twoC y K0 e0 x K cp) := (Cells.new wr 39 (twoC y K0 e0 x K cp)).next hb3
            have hg2 : wr.heap.size < w3.heap.size := hC3.lt
            have HM3 := HM.out.next hb3'
            clear c0 c1 c2 c3 c4 d0 d1 d2 d3 d4
            have k0 : w3.cell? ⟨be, 0, none⟩ = some (.int .i64 y.k) := by rw [HM3.box.cell]; rfl
            have k1 : w3.cell? ⟨be, 1, none⟩ = some (.int .i64 y.n) := by rw [HM3.box.cell]; rfl
            have k2 : w3.cell? ⟨be, 2, none⟩ = some (.int .i64 y.p) := by rw [HM3.box.cell]; rfl
            have k3 : w3.cell? ⟨be, 3, none⟩ = some (.int .i64 y.c) := by rw [HM3.box.cell]; rfl
            have k4 : w3.cell? ⟨be, 4, none⟩ = some (.slice K0 y.ks.len e0) := by rw [HM3.box.cell]; rfl
            have f0 : w3.frozen? ⟨be, 0, none⟩ = false := HM3.box.frozen _
            have f1 : w3.frozen? ⟨be, 1, none⟩ = false := HM3.box.frozen _
            have f2 : w3.frozen? ⟨be, 2, none⟩ = false := HM3.box.frozen _
            have f3 : w3.frozen? ⟨be, 3, none⟩ = false := HM3.box.frozen _
            have f4 : w3.frozen? ⟨be, 4, none⟩ = false := HM3.box.frozen _
            have hxt : TreeR m0 wr.heap.size x.ks K w3 := (HO.out.tree.below hb3' (Nat.le_refl _)).wide (by omega) (Nat.le_refl _)
            have HX4 : Hid (BoxT (putX w3 be 3 0 0 0 (.slice (some ⟨wr.heap.size, 0, none⟩) 2 2)) be (opXN 3 y x) (some ⟨wr.heap.size, 0, none⟩) 2) :=
              BoxT.put (opXN 3 y x) HM3.box (Nat.le_refl 2) (by unfold maxLen; omega) ((treeTwo HM3.tree hxt (Nat.le_refl _) HM.out.cl HM.out.cm HO.out.cl HO.out.cm hC3).wide (Nat.le_refl _) hg2)
            have HR4 : Hid (Cells (putX w3 be 3 0 0 0 (.slice (some ⟨wr.heap.size, 0, none⟩) 2 2)) (w.heap.size + 1) 39 [.int .i64 0, .int .i64 0, .int .i64 0, .int .i64 0, .slice none 0 0]) := putX_far (HR.out.next hb3') (by omega)
            have HB4 : Hid (Below w.heap.size w (putX w3 be 3 0 0 0 (.slice (some ⟨wr.heap.size, 0, none⟩) 2 2))) := putX_below (bnext HB.out hb3') (by omega)
            rw [← HS2.out] at HX4
            unfold putX at HX4 HR4 HB4
            clear HM3 HO HM HR HB hb3 hb3' hC3 hxt
            go_wp2
            go_roundw
            case rel => exact ⟨k + 1, some ⟨wr.heap.size, 0, none⟩, 2, by omega, by go_num, HX4, HR4, HB4⟩
            case measure => simp [intOf]; omega
    · obtain rfl : k = ts.length := by omega
      obtain ⟨x, hx⟩ : ∃ x, x = sumN ts ts.length := ⟨_, rfl⟩
      rw [← hx] at HX HBIG
      have HSZ := Lib.hid (size_any (x.ks.size + 1) x.ks (by omega) x.k x.n x.p x.c K0 e0 wr.heap.size wr (HX.out.tree.sl (Nat.le_refl _)) HX.out.cl HX.out.cm (Nat.le_refl _) (by have := HBIG.out; omega))
      have HDP : Hid (∀ wx, Below wr.heap.size wr wx → Calls Try.prog 58 #[exV x.k x.n x.p x.c K0 x.ks.len e0] wx fun e w' => e = .returned (.int .i64 ((x.ks.depth + 1 : Nat) : Int)) ∧ Below wx.heap.size wx w') := fun wx hb =>
        dep_any (x.ks.size + 1) x.ks (by omega) x.k x.n x.p x.c K0 e0 wx.heap.size wx ((HX.out.next hb).tree.sl (Nat.le_refl _)) HX.out.cl HX.out.cm (Nat.le_refl _) (by have := HBIG.out; omega)
      have hbx0 := HX.out.box
      have a0 : wr.cell? ⟨be, 0, none⟩ = some (.int .i64 x.k) := by rw [hbx0.cell]; rfl
      have a1 : wr.cell? ⟨be, 1, none⟩ = some (.int .i64 x.n) := by rw [hbx0.cell]; rfl
      have a2 : wr.cell? ⟨be, 2, none⟩ = some (.int .i64 x.p) := by rw [hbx0.cell]; rfl
      have a3 : wr.cell? ⟨be, 3, none⟩ = some (.int .i64 x.c) := by rw [hbx0.cell]; rfl
      have a4 : wr.cell? ⟨be, 4, none⟩ = some (.slice K0 x.ks.len e0) := by rw [hbx0.cell]; rfl
      clear hbx0
      have hsb : x.ks.size ≤ 3120 := HBIG.out
      have hdb := Es.depth_le x.ks
      have HFIN : Hid (∀ (c : Int) (K' : Option Addr) (cp' : Nat) (W : World), True) := fun _ _ _ _ => trivial
      by_cases hs4 : x.ks.size ≤ 399
      · by_cases hd6 : x.ks.depth ≤ 59
        · have HV := Lib.hid (polyX_ok HOK.out (by rw [← hx]; exact ⟨hs4, hd6⟩))
          have HXX := Lib.hid hx
          clear hx
          generalize x.ks.size = sz at *
          generalize x.ks.depth = dp at *
          go_wp2_with fail
          refine HSZ.out.mono ?_; rintro e w3 ⟨rfl, hb3⟩
          have hby := (HX.out.next hb3).box
          have y0 : w3.cell? ⟨be, 0, none⟩ = some (.int .i64 x.k) := by rw [hby.cell]; rfl
          have y1 : w3.cell? ⟨be, 1, none⟩ = some (.int .i64 x.n) := by rw [hby.cell]; rfl
          have y2 : w3.cell? ⟨be, 2, none⟩ = some (.int .i64 x.p) := by rw [hby.cell]; rfl
          have y3 : w3.cell? ⟨be, 3, none⟩ = some (.int .i64 x.c) := by rw [hby.cell]; rfl
          have y4 : w3.cell? ⟨be, 4, none⟩ = some (.slice K0 x.ks.len e0) := by rw [hby.cell]; rfl
          clear hby a0 a1 a2 a3 a4
          go_wp2_with fail
          refine (HDP.out w3 hb3).mono ?_; rintro e w4 ⟨rfl, hb4⟩
          have hb34 := bnext hb3 hb4
          have HX4 := Lib.hid (HX.out.next hb34)
          have HR4 := Lib.hid (HR.out.next hb34)
          have HB4 := Lib.hid (bnext HB.out hb34)
          have hbx := HX4.out.box
          have c0 : w4.cell? ⟨be, 0, none⟩ = some (.int .i64 x.k) := by rw [hbx.cell]; rfl
          have c1 : w4.cell? ⟨be, 1, none⟩ = some (.int .i64 x.n) := by rw [hbx.cell]; rfl
          have c2 : w4.cell? ⟨be, 2, none⟩ = some (.int .i64 x.p) := by rw [hbx.cell]; rfl
          have c3 : w4.cell? ⟨be, 3, none⟩ = some (.int .i64 x.c) := by rw [hbx.cell]; rfl
          have c4 : w4.cell? ⟨be, 4, none⟩ = some (.slice K0 x.ks.len e0) := by rw [hbx.cell]; rfl
          obtain ⟨⟨j0, j1, j2, j3, j4⟩, ⟨f0, f1, f2, f3, f4⟩, x0, x1, x2, x3, x4⟩ := resBox (x := x) (K := K0) (c := e0) HR4.out
          clear hbx hb3 hb4 hb34
          go_wp2
          refine bodyPost_ret (v := .tuple #[exV x.k x.n x.p x.c K0 x.ks.len e0, .int .i64 0]) (by simp [results, Try.results18, go_sem, x0, x1, x2, x3, x4]) rfl ?_
          rw [HV.out, ← HXX.out]
          exact ⟨putX_below (b := w.heap.size + 1) HB4.out (by omega), K0, e0, rfl, HX4.out.cl, HX4.out.cm, TreeR.reg ((resTree (b := w.heap.size + 1) HX4.out hbe2).wide (by omega) (Nat.le_refl _))⟩
        · have HV := Lib.hid (polyX_big HOK.out (by rw [← hx]; exact fun h => hd6 h.2))
          clear hx
          generalize x.ks.size = sz at *
          generalize x.ks.depth = dp at *
          go_wp2_with fail
          refine HSZ.out.mono ?_; rintro e w3 ⟨rfl, hb3⟩
          have hby := (HX.out.next hb3).box
          have y0 : w3.cell? ⟨be, 0, none⟩ = some (.int .i64 x.k) := by rw [hby.cell]; rfl
          have y1 : w3.cell? ⟨be, 1, none⟩ = some (.int .i64 x.n) := by rw [hby.cell]; rfl
          have y2 : w3.cell? ⟨be, 2, none⟩ = some (.int .i64 x.p) := by rw [hby.cell]; rfl
          have y3 : w3.cell? ⟨be, 3, none⟩ = some (.int .i64 x.c) := by rw [hby.cell]; rfl
          have y4 : w3.cell? ⟨be, 4, none⟩ = some (.slice K0 x.ks.len e0) := by rw [hby.cell]; rfl
          clear hby a0 a1 a2 a3 a4
          go_wp2_with fail
          refine (HDP.out w3 hb3).mono ?_; rintro e w4 ⟨rfl, hb4⟩
          have hb34 := bnext hb3 hb4
          have HR4 := Lib.hid (HR.out.next hb34)
          have HB4 := Lib.hid (bnext HB.out hb34)
          obtain ⟨⟨j0, j1, j2, j3, j4⟩, ⟨f0, f1, f2, f3, f4⟩, x0, x1, x2, x3, x4⟩ := resBox (x := ⟨0, 0, 0, 0, .nil⟩) (K := none) (c := 0) HR4.out
          simp only [Es.len] at x0 x1 x2 x3 x4
          clear hb3 hb4 hb34
          go_wp2
          refine bodyPost_ret (v := .tuple #[exV 0 0 0 0 none 0 0, .int .i64 3]) (by simp [results, Try.results18, go_sem, x0, x1, x2, x3, x4]) rfl ?_
          rw [HV.out]
          refine ⟨putX_below (b := w.heap.size + 1) HB4.out (by omega), none, 0, rfl, Nat.le_refl _, by unfold maxLen; omega, TreeR.reg (TreeR.nil _ _ ?_)⟩
          have := HB4.out.size
          simp [World.setCell]
          omega
      · have HV := Lib.hid (polyX_big HOK.out (by rw [← hx]; exact fun h => hs4 h.1))
        clear hx
        generalize x.ks.size = sz at *
        go_wp2_with fail
        refine HSZ.out.mono ?_; rintro e w4 ⟨rfl, hb34⟩
        have HR4 := Lib.hid (HR.out.next hb34)
        have HB4 := Lib.hid (bnext HB.out hb34)
        obtain ⟨⟨j0, j1, j2, j3, j4⟩, ⟨f0, f1, f2, f3, f4⟩, x0, x1, x2, x3, x4⟩ := resBox (x := ⟨0, 0, 0, 0, .nil⟩) (K := none) (c := 0) HR4.out
        simp only [Es.len] at x0 x1 x2 x3 x4
        clear hb34
        go_wp2
        refine bodyPost_ret (v := .tuple #[exV 0 0 0 0 none 0 0, .int .i64 3]) (by simp [results, Try.results18, go_sem, x0, x1, x2, x3, x4]) rfl ?_
        rw [HV.out]
        refine ⟨putX_below (b := w.heap.size + 1) HB4.out (by omega), none, 0, rfl, Nat.le_refl _, by unfold maxLen; omega, TreeR.reg (TreeR.nil _ _ ?_)⟩
        have := HB4.out.size
        simp [World.setCell]
        omega

end Go.Proofs.Ytnomnaojondffaa

/- Walks: marks of polynomials that were arguments; marks of expressions returned. -/
namespace Go.Proofs.Ytnomnaojondffaa
open Go.RowKit Plain

set_option maxRecDepth 100000 in
set_option maxHeartbeats 2000000 in
theorem markTermsR {lo hi : Nat} {A : Option Addr} (cap : Nat) {ts : List Term'} {k : Int} {w : World} (h : RT w lo hi A ts) (hl : ts.length ≤ 1048576) (ht : totT ts ≤ 1048576) (k0 : 0 ≤ k) (k1 : k ≤ 1000000000) :
    Calls Try.prog 60 #[.slice A ts.length cap, .int .i64 k] w fun e w' => e = .returned (.int .i64 (k + tmSize ts)) ∧ Only (fun q => lo ≤ q ∧ q < hi) w w' := by
  by_cases h0 : ts.length = 0
  · obtain rfl : ts = [] := List.length_eq_zero_iff.1 h0
    go_enter Try.func60, Try.ntmps60
    go_wp2
    go_loopw [1, 5] (fun kk i wr => kk = .int .i64 k ∧ i = .int .i64 0 ∧ w = wr) (fun _ _ _ => 0)
    case atStart => exact ⟨rfl, rfl, rfl⟩
    case round =>
      obtain ⟨rfl, rfl, rfl⟩ := hrel
      go_wp2
      go_ret
      exact ⟨ret_int (by simp [tmSize, totT, tot]), Only.refl _ _⟩
  obtain ⟨b, o, g, rfl, b1, b2, hc, hd⟩ := h.now (by omega)
  have hhi := h.size
  have hsz : Hid (tmSize ts = ts.length + totT ts) := rfl
  have HC : Hid (∀ i t, ts[i]? = some t → _) := hc
  have HD : Hid (∀ i j ti tj, i < j → ts[i]? = some ti → ts[j]? = some tj → 0 < ti.1.length → 0 < tj.1.length → g i ≠ g j) := hd
  have HTT := Lib.hid ht
  clear h hc hd ht
  go_enter Try.func60, Try.ntmps60
  go_wp2
  go_loopw [1, 5] (fun kk i wr => ∃ (j : Nat) (y : Int), j ≤ ts.length ∧ i = .int .i64 (j : Int) ∧ kk = .int .i64 y ∧ Hid (y = k + j + totT (ts.take j)) ∧
      Hid (∀ i t, ts[i]? = some t → wr.cell? ⟨b, o + i * 2, none⟩ = w.cell? ⟨b, o + i * 2, none⟩ ∧ (∃ u, wr.cell? ⟨b, o + i * 2 + 1, none⟩ = some u) ∧ wr.frozen? ⟨b, o + i * 2 + 1, none⟩ = false) ∧
      Hid (∀ i t, j ≤ i → ts[i]? = some t → 0 < t.1.length → wr.heap[g i]? = w.heap[g i]?) ∧ Hid (Only (fun q => lo ≤ q ∧ q < hi) w wr)) (fun _ i _ => ts.length - (intOf i).toNat)
  case atStart =>
    refine ⟨0, k, by omega, by go_num, rfl, by show _ = _; simp [totT, tot], ?_, fun i t _ _ _ => rfl, Only.refl _ _⟩
    intro i t hi
    obtain ⟨Ai, ca, c1, c2, c3, _⟩ := HC.out i t hi
    exact ⟨rfl, ⟨_, c2⟩, c3⟩
  case round =>
    obtain ⟨j, y, hj, rfl, rfl, hy, HX, HG, HO⟩ := hrel
    have htl := totT_le ts j
    have ht1 := HTT.out
    have hyb : 0 ≤ y ∧ y ≤ 1100000000 := by have := hy.out; omega
    have hy0 := hyb.1
    have hy1 := hyb.2
    by_cases hlt : j < ts.length
    · have hjl : (j : Int) < (ts.length : Int) := by omega
      obtain ⟨Ai, ca, c1, c2, c3, c4⟩ := HC.out j _ (tm_get hlt)
      obtain ⟨x1, ⟨u, x2⟩, x3⟩ := HX.out j _ (tm_get hlt)
      rw [c1] at x1
      have hll := exps_le_tot hlt
      have HS : Hid (totT (ts.take (j + 1)) = totT (ts.take j) + (tmAt ts j).1.length) := totT_succ hlt
      have hIM : IntsM wr lo Ai (tmAt ts j).1 := fun hn => by
        obtain ⟨oi, e1, e2, e3, _, e5⟩ := c4 hn
        have hb := HG.out j _ (Nat.le_refl _) (tm_get hlt) hn
        exact ⟨g j, oi, e1, e2, Nat.lt_of_lt_of_le e3 (Nat.le_trans hhi HO.out.size), fun i x hx => ⟨(World.cell?_of_block (a := ⟨g j, _, none⟩) hb).trans (e5 i x hx).1, (World.frozen?_of_block (a := ⟨g j, _, none⟩) hb).trans (e5 i x hx).2⟩⟩
      have HK : Hid (∀ q, InB (tmAt ts j).1.length Ai q → q = g j ∧ lo ≤ q ∧ q < hi ∧ q ≠ b ∧ 0 < (tmAt ts j).1.length) := fun q ⟨hn, oq, eq⟩ => by
        obtain ⟨oi, e1, e2, e3, e4, _⟩ := c4 hn
        rw [e1] at eq
        obtain ⟨rfl, _⟩ : g j = q ∧ oi = oq := by simpa using eq
        exact ⟨rfl, e2, e3, e4, hn⟩
      have HM := Lib.hid (mark_any lo Ai ca (tmAt ts j).1 y wr hIM (by omega) hy0 (by omega))
      have hbw : b < wr.heap.size := Nat.lt_of_lt_of_le b2 (Nat.le_trans hhi HO.out.size)
      obtain ⟨n, hn⟩ : ∃ n, n = (tmAt ts j).1.length := ⟨_, rfl⟩
      rw [← hn] at x1 HM HS HK hll
      have HNN := Lib.hid hn
      clear hn
      clear c1 c2 c3 c4 hIM hyb
      go_wp2_with fail
      refine HM.out.mono ?_; rintro e w1 ⟨rfl, _, hO1⟩
      have z2 : w1.cell? ⟨b, o + j * 2 + 1, none⟩ = some u := (hO1.cell (a := ⟨b, _, none⟩) hbw (fun hb => (HK.out b hb).2.2.2.1 rfl)).trans x2
      have z3 : w1.frozen? ⟨b, o + j * 2 + 1, none⟩ = false := (World.frozen?_of_block (a := ⟨b, _, none⟩) (hO1.block b hbw (fun hb => (HK.out b hb).2.2.2.1 rfl))).trans x3
      obtain ⟨y', hy'⟩ : ∃ y', y' = y + (n : Int) := ⟨_, rfl⟩
      rw [← hy']
      have HX2 : Hid (∀ i t, ts[i]? = some t → (w1.setCell ⟨b, o + j * 2 + 1, none⟩ (.int .i64 y')).cell? ⟨b, o + i * 2, none⟩ = w.cell? ⟨b, o + i * 2, none⟩ ∧ (∃ u, (w1.setCell ⟨b, o + j * 2 + 1, none⟩ (.int .i64 y')).cell? ⟨b, o + i * 2 + 1, none⟩ = some u) ∧ (w1.setCell ⟨b, o + j * 2 + 1, none⟩ (.int .i64 y')).frozen? ⟨b, o + i * 2 + 1, none⟩ = false) := fun i t hi => by
        obtain ⟨q1, ⟨u', q2⟩, q3⟩ := HX.out i t hi
        have hbk := hO1.block b hbw (fun hb => (HK.out b hb).2.2.2.1 rfl)
        refine ⟨by rw [cs_ne _ _ _ _ _ (by omega)]; exact (World.cell?_of_block (a := ⟨b, _, none⟩) hbk).trans q1, ?_, (World.frozen?_setCell _ _ _ _).trans ((World.frozen?_of_block (a := ⟨b, _, none⟩) hbk).trans q3)⟩
        by_cases e : i = j
        · subst e; exact ⟨_, cs_eq _ z2⟩
        · exact ⟨u', by rw [cs_ne _ _ _ _ _ (by omega)]; exact (World.cell?_of_block (a := ⟨b, _, none⟩) hbk).trans q2⟩
      have HG2 : Hid (∀ i t, j + 1 ≤ i → ts[i]? = some t → 0 < t.1.length → (w1.setCell ⟨b, o + j * 2 + 1, none⟩ (.int .i64 y')).heap[g i]? = w.heap[g i]?) := fun i t hij hi hn0 => by
        obtain ⟨_, _, _, _, _, c4⟩ := HC.out i t hi
        obtain ⟨_, _, _, e3, e4, _⟩ := c4 hn0
        refine (Below.heap_setCell _ _ _ _ e4).trans ((hO1.block (g i) (Nat.lt_of_lt_of_le e3 (Nat.le_trans hhi HO.out.size)) (fun hb => ?_)).trans (HG.out i t (by omega) hi hn0))
        have hk := HK.out _ hb
        exact HD.out j i _ t (by omega) (tm_get hlt) hi (by have := HNN.out; have := hk.2.2.2.2; omega) hn0 hk.1.symm
      have HO2 : Hid (Only (fun q => lo ≤ q ∧ q < hi) w (w1.setCell ⟨b, o + j * 2 + 1, none⟩ (.int .i64 y'))) :=
        (HO.out.chain hO1 (fun q _ hq => by have := HK.out q hq; exact ⟨this.2.1, this.2.2.1⟩)).chain (show Only (fun q => q = b) w1 (w1.setCell ⟨b, o + j * 2 + 1, none⟩ (.int .i64 y')) from ⟨rfl, rfl, rfl, by simp [World.setCell], fun q _ hq => Below.heap_setCell _ _ _ _ hq⟩) (fun q _ hq => by have hq' : q = b := hq; rw [hq']; exact ⟨b1, b2⟩)
      have hyb0 : 0 ≤ y' ∧ y' ≤ 1200000000 := by omega
      have hyb1 := hyb0.1
      have hyb2 := hyb0.2
      have HY : Hid (y' + 1 = k + (j + 1 : Nat) + totT (ts.take (j + 1))) := by have := hy.out; have := HS.out; show _ = _; omega
      clear hO1 HX HG HO HM hy' hyb0 hy
      go_wp2
      go_roundw
      case rel => exact ⟨j + 1, y' + 1, by omega, by go_num, rfl, HY, HX2, HG2, HO2⟩
      case measure => simp [intOf]; omega
    · obtain rfl : j = ts.length := by omega
      have HY : Hid (y = k + tmSize ts) := by
        have := hy.out
        rw [List.take_length] at this
        have := hsz.out
        show _ = _
        omega
      clear hy hyb
      go_wp2
      go_ret
      exact ⟨ret_int HY.out, HO.out⟩

set_option maxHeartbeats 1000000 in
theorem markPolyR {lo hi : Nat} {A : Option Addr} (v : Int) (cap : Nat) {ts : List Term'} {k : Int} {w : World} (h : RT w lo hi A ts) (hl : ts.length ≤ 1048576) (ht : totT ts ≤ 1048576) (k0 : 0 ≤ k) (k1 : k ≤ 1000000000) :
    Calls Try.prog 20 #[poV v A ts.length cap, .int .i64 k] w fun e w' => e = .returned (.int .i64 (k + tmSize ts)) ∧ Only (fun q => lo ≤ q ∧ q < hi) w w' := by
  have hg : Below w.heap.size w (w.alloc (.cells #[.int .i64 v, .slice A ts.length cap] 31)) := by go_grown
  have HM := Lib.hid (markTermsR cap (h.below hg) hl ht k0 k1)
  have HO : Hid (Only (fun q => lo ≤ q ∧ q < hi) w (w.alloc (.cells #[.int .i64 v, .slice A ts.length cap] 31))) := Only.of_below hg
  clear h hg
  go_enter Try.func20, Try.ntmps20
  go_wp2_with fail
  refine HM.out.mono ?_; rintro e w1 ⟨rfl, hO1⟩
  have HO1 := Lib.hid (HO.out.chain hO1 (fun q _ h => h))
  clear hO1 HM HO
  go_wp2
  go_ret
  exact ⟨rfl, HO1.out⟩

set_option maxHeartbeats 1000000 in
theorem markExprR {lo hi : Nat} {K : Option Addr} {ks : Es} (k n p c : Int) (cap : Nat) {y : Int} {w : World} (h : Reg w lo hi (TreeR lo hi ks K)) (hz : ks.size ≤ 1048576) (y0 : 0 ≤ y) (y1 : y ≤ 1000000000) :
    Calls Try.prog 21 #[exV k n p c K ks.len cap, .int .i64 y] w fun e w' => e = .returned (.int .i64 (y + 4 * ks.size)) ∧ Reg w' lo hi (TreeR lo hi (mkEs ks y) K) ∧ Only (fun q => lo ≤ q ∧ q < hi) w w' := by
  have hg : Below w.heap.size w (w.alloc (.cells #[.int .i64 k, .int .i64 n, .int .i64 p, .int .i64 c, .slice K ks.len cap] 39)) := by go_grown
  have h2 := h.below hg
  obtain ⟨b, hb, he⟩ := h2.now
  have hs := h2.size
  have hle := h2.le
  have HM := Lib.hid (markG_any (ks.size + 1) ks (by omega) K cap b lo hi y _ (fun hn => ⟨(hb hn).1, by have := hb hn; omega⟩) he hs hz y0 (by omega))
  have HO : Hid (Only (fun q => lo ≤ q ∧ q < hi) w (w.alloc (.cells #[.int .i64 k, .int .i64 n, .int .i64 p, .int .i64 c, .slice K ks.len cap] 39))) := Only.of_below hg
  have HB := Lib.hid hb
  have HS := Lib.hid hs
  clear h h2 hg hb he hs
  go_enter Try.func21, Try.ntmps21
  go_wp2_with fail
  refine HM.out.mono ?_; rintro e w1 ⟨rfl, hE, hO1⟩
  have HO1 := Lib.hid (HO.out.chain hO1 (fun q _ h => by
    rcases h with ⟨hn, rfl⟩ | h
    · exact (HB.out hn).2
    · exact h))
  have HR1 : Hid (Reg w1 lo hi (TreeR lo hi (mkEs ks y) K)) := ⟨hle, Nat.le_trans HS.out hO1.size, ⟨b, fun hn => HB.out (by rwa [mkEs_len] at hn), hE⟩, fun _ _ h hb => h.keep hb⟩
  clear hO1 HM HO hE
  go_wp2
  go_ret
  exact ⟨rfl, HR1.out, HO1.out⟩

set_option maxHeartbeats 1000000 in
theorem heldExprR {lo hi : Nat} {K : Option Addr} {ks : Es} (k n p c : Int) (cap : Nat) {y : Int} {w : World} (h : Reg w lo hi (TreeR lo hi (mkEs ks y) K)) (hz : ks.size ≤ 1048576) (y0 : 0 ≤ y) (y1 : y ≤ 1000000000) :
    Calls Try.prog 22 #[exV k n p c K ks.len cap, .int .i64 y] w fun e w' => e = .returned (.int .i64 (y + 4 * ks.size)) ∧ Below w.heap.size w w' := by
  have hg : Below w.heap.size w (w.alloc (.cells #[.int .i64 k, .int .i64 n, .int .i64 p, .int .i64 c, .slice K ks.len cap] 39)) := by go_grown
  have h2 := h.below hg
  obtain ⟨b, o, hb, he⟩ := h2.now.sl h2.size
  rw [mkEs_len] at hb
  have HM := Lib.hid (heldExprS_any (ks.size + 1) ks (by omega) K cap b o _ y _ hb he (Nat.le_refl _) hz y0 (by omega))
  have HG := Lib.hid hg
  have hzz : (0 : Int) ≤ y + 4 * ks.size := by omega
  obtain ⟨z, hz2⟩ : ∃ z, z = y + 4 * (ks.size : Int) := ⟨_, rfl⟩
  rw [← hz2] at HM hzz
  have HZ := Lib.hid hz2
  clear h h2 hg hb he hz2
  go_enter Try.func22, Try.ntmps22
  go_wp2_with fail
  refine HM.out.mono ?_; rintro e w1 ⟨rfl, rfl⟩
  go_wp2
  go_ret
  exact ⟨ret_int HZ.out, HG.out⟩
theorem eqExprR {lo hi lo' hi' : Nat} {K K' : Option Addr} {ks : Es} (k n p c : Int) (cap cap' : Nat) {w : World} (h : Reg w lo hi (TreeR lo hi ks K)) (h' : Reg w lo' hi' (TreeR lo' hi' ks K')) (hz : ks.size ≤ 1048576) :
    Calls Try.prog 19 #[exV k n p c K ks.len cap, exV k n p c K' ks.len cap'] w fun e w' => e = .returned (.bool true) ∧ Below w.heap.size w w' :=
  eqExpr_of (eqExprS_any (ks.size + 1) ks (by omega)) k n p c K K' cap cap' w.heap.size w (h.now.sl h.size) (h'.now.sl h'.size) (Nat.le_refl _) hz

end Go.Proofs.Ytnomnaojondffaa
