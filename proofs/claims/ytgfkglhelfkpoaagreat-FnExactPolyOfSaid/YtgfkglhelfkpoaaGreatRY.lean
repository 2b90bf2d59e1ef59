/- Texts put together: WPoly5, WPoly6, WPoly7, WPoly8, WPoly9. -/
import Derived.Test.YtgfkglhelfkpoaaGreatRX
import Derived.Test.YtgfkglhelfkpoaaGreatRH
import Derived.Test.YtgfkglhelfkpoaaGreatRO
import Derived.Test.YtgfkglhelfkpoaaGreatRD

/- Walks: the values of polynomials, both sides; PolyValue of the spec. -/
namespace Go.Proofs.YtgfkglhelfkpoaaGreat
open Go.RowKit Plain

set_option maxRecDepth 100000 in
set_option maxHeartbeats 2000000 in
theorem valueS_any (b o : Nat) (v : Int) (A : Option Addr) (cap : Nat) (ts : List Term') (Z : Option Addr) (cz : Nat) (zs : List Int) (w : World) (h0 : w.cell? ⟨b, o + 1, none⟩ = some (.slice A ts.length cap)) (hT : TmsAt w A ts) (hok : polyOk v ts = true) (hZ : Ints w Z zs) (hl : (zs.length : Int) = v) :
    Calls Tryz.prog 60 #[ptr b o, .slice Z zs.length cz] w fun e w' => e = .returned (.int .i64 (pvL ts zs ts.length)) ∧ Below w.heap.size w w' := by
  have HT := Lib.hid hT; clear hT
  have HZ := Lib.hid hZ; clear hZ
  have HOK := Lib.hid hok; clear hok
  have HL := Lib.hid hl; clear hl
  have hsz := polyOk_size HOK.out
  have hl12 : zs.length ≤ 12 := by have := HL.out; omega
  have ht120 := hsz.2.2
  clear hsz
  have hbl := World.block_lt_of_cell? _ _ h0
  simp only at hbl
  go_enter Tryz.func60, Tryz.ntmps60
  go_wp2
  go_loopw [5, 6] (fun s i wr => ∃ (k : Nat), k ≤ ts.length ∧ i = .int .i64 (k : Int) ∧ s = .int .i64 (pvL ts zs k) ∧ Hid (Below w.heap.size w wr)) (fun _ i _ => ts.length - (intOf i).toNat)
  case atStart => exact ⟨0, by omega, by go_num, rfl, Below.refl _ _⟩
  case round =>
    obtain ⟨k, hk, rfl, rfl, HB⟩ := hrel
    have h0' : wr.cell? ⟨b, o + 1, none⟩ = some (.slice A ts.length cap) := (HB.out.cell (p := ⟨b, _, none⟩) hbl).trans h0
    by_cases hlt : k < ts.length
    · obtain ⟨bt, ot, Ai, ca, rfl, hbt, hc, hc2, hi, _⟩ := HT.out.at_ hlt
      have hp := termOk_parts (polyOk_term HOK.out hlt)
      have hel : (tmAt ts k).1.length = zs.length := by have := hp.1; have := HL.out; omega
      have heo := hp.2.2.2.1
      have hkl : (k : Int) < (ts.length : Int) := by omega
      have HP : Hid (pvL ts zs (k + 1) = pl (pvL ts zs k) (tvL (tmAt ts k).2 (tmAt ts k).1 zs zs.length)) := by show _ = _; rw [← hel]; rfl
      have hc' : w.cell? ⟨bt, ot + k * 2, none⟩ = some (.slice Ai zs.length ca) := by rw [← hel]; exact hc
      have hcw : wr.cell? ⟨bt, ot + k * 2, none⟩ = some (.slice Ai zs.length ca) := (HB.out.cell (p := ⟨bt, _, none⟩) hbt).trans hc'
      have hc2' : wr.cell? ⟨bt, ot + k * 2 + 1, none⟩ = some (.int .i64 (tmAt ts k).2) := (HB.out.cell (p := ⟨bt, _, none⟩) hbt).trans hc2
      obtain ⟨es, hes⟩ : ∃ es, es = (tmAt ts k).1 := ⟨_, rfl⟩
      rw [← hes] at HP hi heo hel
      have HI := Lib.hid hi
      have HE := Lib.hid heo
      have HEL := Lib.hid hel
      obtain ⟨s0, hs0⟩ : ∃ s0, s0 = pvL ts zs k := ⟨_, rfl⟩
      rw [← hs0] at HP ⊢
      clear hp hi heo hel hc hc2 hes hs0
      generalize (tmAt ts k).2 = c at *
      go_wp2
      rename World => wo
      go_loopw [7, 8] (fun x u wr2 => ∃ (j : Nat), j ≤ zs.length ∧ u = .int .i64 (j : Int) ∧ x = .int .i64 (tvL c es zs j) ∧ Hid (Below w.heap.size w wr2)) (fun _ u _ => zs.length - (intOf u).toNat)
      case atStart => exact ⟨0, by omega, by go_num, rfl, HB.out⟩
      case round =>
        obtain ⟨j, hj, rfl, rfl, HB2⟩ := hrel
        by_cases hjl : j < zs.length
        · obtain ⟨bz, oz, rfl, _, hcz⟩ := (HZ.out.below HB2.out).cfAt (by omega)
          obtain ⟨be, oe, rfl, _, hce⟩ := (HI.out.below HB2.out).cfAt (by have := HEL.out; omega)
          have hz1 := hcz j hjl
          have he1 := hce j (by have := HEL.out; omega)
          have h0'' : wr.cell? ⟨b, o + 1, none⟩ = some (.slice (some ⟨bt, ot, none⟩) ts.length cap) := (HB2.out.cell (p := ⟨b, _, none⟩) hbl).trans h0
          have hc'' : wr.cell? ⟨bt, ot + k * 2, none⟩ = some (.slice (some ⟨be, oe, none⟩) zs.length ca) := (HB2.out.cell (p := ⟨bt, _, none⟩) hbt).trans hc'
          have hjl' : (j : Int) < (zs.length : Int) := by omega
          have heb := expsOk_bd HE.out j
          obtain ⟨m, hm⟩ : ∃ m : Nat, (m : Int) = cf es j := ⟨(cf es j).toNat, by omega⟩
          have HM : Hid (tvL c es zs (j + 1) = tm (tvL c es zs j) (pw (cf zs j) m)) := by show _ = _; rw [show m = (cf es j).toNat by omega]; rfl
          have hm12 : m ≤ 12 := by omega
          rw [← hm] at he1
          clear hcz hce heb hm
          generalize cf zs j = x at *
          obtain ⟨y, hy⟩ : ∃ y, y = tvL c es zs j := ⟨_, rfl⟩
          rw [← hy] at HM ⊢
          clear hy
          have HPW : Hid (∀ n, Calls Tryz.prog 126 #[.int .i64 x, .int .i64 m] (wr.drewN n) fun e w' => e = .returned (.int .i64 (pw x m)) ∧ w' = wr.drewN n) := fun n =>
            (powerS_any x m _ (by omega)).mono fun e w' ⟨h1, h2⟩ => ⟨h1, h2.symm⟩
          have HTM : Hid (∀ n, Calls Tryz.prog 125 #[.int .i64 y, .int .i64 (pw x m)] (wr.drewN n) fun e w' => e = .returned (.int .i64 (tm y (pw x m))) ∧ w' = wr.drewN n) := fun n =>
            (timesS_any y (pw x m) _).mono fun e w' ⟨h1, h2⟩ => ⟨h1, h2.symm⟩
          generalize pw x m = pz at *
          generalize tm y pz = tz at *
          go_wp2
          go_quiet (first | (go_at_call 126; exact Calls.quiet_of_same (HPW.out _)) | (go_at_call 125; exact Calls.quiet_of_same (HTM.out _)))
          go_wp2
          go_roundw
          case rel => exact ⟨j + 1, by omega, by go_num, by rw [HM.out], below_drewN' HB2.out _⟩
          case measure => simp [intOf]; omega
        · obtain rfl : j = zs.length := by omega
          generalize tvL c es zs zs.length = y at *
          have HPL := Lib.hid (plusS_any s0 y wr)
          generalize pl s0 y = pz at *
          go_wp2_with (go_at_call 127; refine HPL.out.mono ?_; rintro e w' ⟨rfl, rfl⟩)
          go_roundw
          case rel => exact ⟨k + 1, by omega, by go_num, by rw [HP.out], HB2.out⟩
          case measure => simp [intOf]; omega
    · obtain rfl : k = ts.length := by omega
      go_wp2
      go_ret
      exact ⟨rfl, HB.out⟩

end Go.Proofs.YtgfkglhelfkpoaaGreat

/- Walks: the order of exponents and the validity of polynomials, in the program. -/
namespace Go.Proofs.YtgfkglhelfkpoaaGreat
open Go.RowKit Plain

def cmpI (x y : Int) : Int := if x < y then -1 else if y < x then 1 else 0
theorem cmpI_any (x y : Int) (w : World) : Calls Tryz.prog 238 #[.int .i64 x, .int .i64 y] w fun e w' => e = .returned (.int .i64 (cmpI x y)) ∧ w = w' := by
  by_cases h1 : x < y
  · have HV : Hid (cmpI x y = -1) := if_pos h1
    rw [HV.out]
    go_enter Tryz.func238, Tryz.ntmps238
    go_wp2
    go_ret
    exact ⟨rfl, rfl⟩
  · by_cases h2 : y < x
    · have HV : Hid (cmpI x y = 1) := by show _ = _; unfold cmpI; rw [if_neg h1, if_pos h2]
      rw [HV.out]
      go_enter Tryz.func238, Tryz.ntmps238
      go_wp2
      go_ret
      exact ⟨rfl, rfl⟩
    · have HV : Hid (cmpI x y = 0) := by show _ = _; unfold cmpI; rw [if_neg h1, if_neg h2]
      rw [HV.out]
      go_enter Tryz.func238, Tryz.ntmps238
      go_wp2
      go_ret
      exact ⟨rfl, rfl⟩
theorem cmpL_stepI {a b : List Int} {k : Nat} (hk : k < a.length) (hb : k < b.length) : cmpL (a.drop k) (b.drop k) = if cmpI (cf a k) (cf b k) = 0 then cmpL (a.drop (k + 1)) (b.drop (k + 1)) else cmpI (cf a k) (cf b k) := by
  rw [cmpL_step hk hb]
  unfold cmpI
  split
  · rfl
  · split
    · rfl
    · rfl

set_option maxHeartbeats 1000000 in
theorem compare_any (A B : Option Addr) (ca cb : Nat) (a b : List Int) (w : World) (hA : Ints w A a) (hB : Ints w B b) (hl : b.length = a.length) (ha : a.length ≤ 9223372036854775807) :
    Calls Tryz.prog 179 #[.slice A a.length ca, .slice B a.length cb] w fun e w' => e = .returned (.int .i64 (cmpL a b)) ∧ w = w' := by
  have HA := Lib.hid hA; clear hA
  have HB := Lib.hid hB; clear hB
  have HL := Lib.hid hl; clear hl
  go_enter Tryz.func179, Tryz.ntmps179
  go_wp2
  go_loop [11] (fun i => ∃ (k : Nat), k ≤ a.length ∧ i = .int .i64 (k : Int) ∧ Hid (cmpL (a.drop k) (b.drop k) = cmpL a b)) (fun i => a.length - (intOf i).toNat)
  case atStart => exact ⟨0, by omega, by go_num, rfl⟩
  case round =>
    obtain ⟨k, hk, rfl, HR⟩ := hrel
    by_cases hlt : k < a.length
    · obtain ⟨ba, oa, rfl, _, hca⟩ := HA.out.cfAt (by omega)
      obtain ⟨bb, ob, rfl, _, hcb⟩ := HB.out.cfAt (by have := HL.out; omega)
      have hc1 := hca k hlt
      have hc2 := hcb k (by have := HL.out; omega)
      have HS := Lib.hid (cmpL_stepI hlt (by have := HL.out; omega : k < b.length))
      have hkl : (k : Int) < (a.length : Int) := by omega
      clear hca hcb
      generalize cf a k = x at *
      generalize cf b k = y at *
      have HC := Lib.hid (cmpI_any x y w)
      by_cases h1 : cmpI x y = 0
      · have HV : Hid (cmpL (a.drop (k + 1)) (b.drop (k + 1)) = cmpL a b) := by show _ = _; rw [← HR.out, HS.out, if_pos h1]
        rw [h1] at HC
        clear HS HR h1
        go_wp2_with (go_at_call 238; refine HC.out.mono ?_; rintro e w' ⟨rfl, rfl⟩)
        go_round
        case rel => exact ⟨k + 1, by omega, by go_num, HV.out⟩
        case measure => simp [intOf]; omega
      · have HV : Hid (cmpL a b = cmpI x y) := by show _ = _; rw [← HR.out, HS.out, if_neg h1]
        generalize cmpI x y = z at *
        have hz : (z == (0 : Int)) = false := by simpa using h1
        clear HS HR h1
        go_wp2_with (go_at_call 238; refine HC.out.mono ?_; rintro e w' ⟨rfl, rfl⟩)
        go_ret
        exact ⟨ret_int HV.out.symm, rfl⟩
    · obtain rfl : k = a.length := by omega
      have HV : Hid (cmpL a b = 0) := by
        show _ = _
        rw [← HR.out, List.drop_length, ← HL.out, List.drop_length]; rfl
      clear HR
      go_wp2
      go_ret
      exact ⟨ret_int HV.out.symm, rfl⟩

set_option maxHeartbeats 1000000 in
theorem degree_any (A : Option Addr) (cap : Nat) (a : List Int) (c : Int) (w : World) (hA : Ints w A a) (ha : a.length ≤ 12) (hok : expsOk a = true) :
    Calls Tryz.prog 280 #[.agg #[.slice A a.length cap, .int .i64 c]] w fun e w' => e = .returned (.int .i64 (degL a a.length)) ∧ Below w.heap.size w w' := by
  have HG : Hid (Below w.heap.size w (w.alloc (.cells #[.slice A a.length cap, .int .i64 c] 173))) := by show Below _ _ _; go_grown
  have HA := Lib.hid (hA.below HG.out)
  have HOK := Lib.hid hok
  clear hA hok
  go_enter Tryz.func280, Tryz.ntmps280
  go_wp2
  go_loop [3, 9] (fun s i => ∃ (k : Nat), k ≤ a.length ∧ i = .int .i64 (k : Int) ∧ s = .int .i64 (degL a k)) (fun _ i => a.length - (intOf i).toNat)
  case atStart => exact ⟨0, by omega, by go_num, rfl⟩
  case round =>
    obtain ⟨k, hk, rfl, rfl⟩ := hrel
    have hb := degL_bd HOK.out k
    have hb0 := hb.1
    have hb1 : degL a k ≤ 144 := by omega
    by_cases hlt : k < a.length
    · obtain ⟨ba, oa, rfl, _, hca⟩ := HA.out.cfAt (by omega)
      have hc1 := hca k hlt
      have hx := expsOk_bd HOK.out k
      have hx0 := hx.1
      have hx1 := hx.2
      have hkl : (k : Int) < (a.length : Int) := by omega
      have HD : Hid (degL a (k + 1) = degL a k + cf a k) := rfl
      clear hca hb hx
      generalize cf a k = x at *
      generalize degL a k = d at *
      go_wp2
      go_round
      case rel => exact ⟨k + 1, by omega, by go_num, by rw [HD.out]⟩
      case measure => simp [intOf]; omega
    · obtain rfl : k = a.length := by omega
      clear hb
      go_wp2
      go_ret
      exact ⟨rfl, HG.out⟩

theorem notExp (x : Int) (w : World) : Calls Tryz.prog 281 #[.int .i64 x] w fun e w' => e = .returned (.bool (!inR x 0 12)) ∧ w = w' := by
  go_enter Tryz.func281, Tryz.ntmps281
  go_wp2_with fail
  refine (within_any _ _ _ _).mono ?_; rintro e w' ⟨rfl, rfl⟩
  go_wp2
  all_goals (go_ret; exact ⟨by simp [*], rfl⟩)
theorem any_notE {zs : List Int} : zs.any (fun x => !inR x 0 12) = !expsOk zs := by
  unfold expsOk
  induction zs with
  | nil => rfl
  | cons x l ih => simp only [List.any_cons, List.all_cons, ih, Bool.not_and]
theorem termOk_full {v : Int} {t : Term'} (h : (t.1.length : Int) = v) (h2 : inR t.2 1 1000002 = true) : termOk v t = (expsOk t.1 && decide (degL t.1 t.1.length ≤ 12)) := by unfold termOk; simp [h, h2]

end Go.Proofs.YtgfkglhelfkpoaaGreat

/- Walks: the validity of polynomials, in the program. -/
namespace Go.Proofs.YtgfkglhelfkpoaaGreat
open Go.RowKit Plain

set_option maxRecDepth 100000 in
set_option maxHeartbeats 4000000 in
theorem polyI_any (v : Int) (A : Option Addr) (cap : Nat) (ts : List Term') (w : World) (hT : TmsAt w A ts) (hm : ts.length ≤ 1048576) (ht : totT ts ≤ 1048576) :
    Calls Tryz.prog 266 #[poV v A ts.length cap] w fun e w' => e = .returned (.bool (polyOk v ts)) ∧ Below w.heap.size w w' := by
  have HG : Hid (Below w.heap.size w (w.alloc (.cells #[.int .i64 v, .slice A ts.length cap] 86))) := by show Below _ _ _; go_grown
  have HBX : Hid (Cells (w.alloc (.cells #[.int .i64 v, .slice A ts.length cap] 86)) w.heap.size 86 [.int .i64 v, .slice A ts.length cap]) := Cells.new w _ _
  have HT := Lib.hid (hT.below HG.out)
  have HTT := Lib.hid ht; clear ht hT
  cases hv : inR v 0 12
  · have HE := Lib.hid (polyOk_vars (ts := ts) hv)
    rw [HE.out]
    have HV := Lib.hid hv
    clear hv HE
    go_enter Tryz.func266, Tryz.ntmps266
    go_wp2_with (go_at_call 90; refine (within_any _ _ _ _).mono ?_; rintro e w' ⟨rfl, rfl⟩; rw [HV.out])
    go_ret
    exact ⟨rfl, HG.out⟩
  have HV := Lib.hid hv
  by_cases hl : ts.length ≤ 120
  case neg =>
    have HE := Lib.hid (polyOk_len (v := v) hl)
    rw [HE.out]
    clear hv HE
    go_enter Tryz.func266, Tryz.ntmps266
    go_wp2_with (go_at_call 90; refine (within_any _ _ _ _).mono ?_; rintro e w' ⟨rfl, rfl⟩; rw [HV.out])
    go_ret
    exact ⟨rfl, HG.out⟩
  have HE := Lib.hid (polyOk_up hv hl)
  rw [HE.out]
  have hv12 := inR_true.1 hv
  have hv0 := hv12.1
  have hv1 := hv12.2
  clear hv HE hv12
  obtain ⟨W0, hW0⟩ : ∃ W0, W0 = (w.alloc (.cells #[.int .i64 v, .slice A ts.length cap] 86)) := ⟨_, rfl⟩
  have HW0 := Lib.hid hW0
  go_enter Tryz.func266, Tryz.ntmps266
  go_wp2_with (go_at_call 90; refine (within_any _ _ _ _).mono ?_; rintro e w' ⟨rfl, rfl⟩; rw [HV.out])
  rw [← HW0.out]
  rw [← hW0] at HBX HT HG
  clear hW0
  go_loopw [18] (fun i wr => ∃ k : Nat, k ≤ ts.length ∧ i = .int .i64 (k : Int) ∧ Hid (polyUp v ts k = true) ∧ Hid (Below W0.heap.size W0 wr)) (fun i _ => ts.length - (intOf i).toNat)
  case atStart => exact ⟨0, by omega, by go_num, rfl, Below.refl _ _⟩
  case round =>
    obtain ⟨k, hk, rfl, HU, HB⟩ := hrel
    by_cases hlt : k < ts.length
    · obtain ⟨bt, ot, Ai, ca, rfl, hbt, hc, hc2, hi, _⟩ := (HT.out.below HB.out).at_ hlt
      have hkl : (k : Int) < (ts.length : Int) := by omega
      have hBX := HBX.out.below HB.out (by have := HBX.out.lt; omega)
      have hzl : (tmAt ts k).1.length ≤ 1048576 := Nat.le_trans (exps_le_tot hlt) HTT.out
      obtain ⟨x, hx⟩ : ∃ x, x = tmAt ts k := ⟨_, rfl⟩
      rw [← hx] at hc hc2 hi hzl
      obtain ⟨es, c⟩ := x
      simp only at hc hc2 hi hzl
      have HX := Lib.hid hx
      -- the term's box
      have hg2 : Below wr.heap.size wr (wr.alloc (.cells #[.slice Ai es.length ca, .int .i64 c] 173)) := by go_grown
      have hBX2 := hBX.below hg2 (by have := hBX.lt; omega)
      have p0 : (wr.alloc (.cells #[.slice Ai es.length ca, .int .i64 c] 173)).cell? ⟨w.heap.size, 0, none⟩ = some (.int .i64 v) := by rw [hBX2.cell]; rfl
      have p1 : (wr.alloc (.cells #[.slice Ai es.length ca, .int .i64 c] 173)).cell? ⟨w.heap.size, 1, none⟩ = some (.slice (some ⟨bt, ot, none⟩) ts.length cap) := by rw [hBX2.cell]; rfl
      have HB2 := Lib.hid (bnext HB.out hg2)
      have HI2 := Lib.hid (hi.below hg2)
      have HUK := HU.out
      clear hi hx
      obtain ⟨W2, hW2⟩ : ∃ W2, W2 = (wr.alloc (.cells #[.slice Ai es.length ca, .int .i64 c] 173)) := ⟨_, rfl⟩
      have HW2 := Lib.hid hW2
      have hC := Cells.new wr 173 [.slice Ai es.length ca, .int .i64 c]
      rw [← hW2] at p0 p1 HB2 HI2
      have t0 : W2.cell? ⟨wr.heap.size, 0, none⟩ = some (.slice Ai es.length ca) := by rw [hW2, hC.cell]; rfl
      have t1 : W2.cell? ⟨wr.heap.size, 1, none⟩ = some (.int .i64 c) := by rw [hW2, hC.cell]; rfl
      have hcz : k = 0 → wr.cell? ⟨bt, ot, none⟩ = some (.slice Ai es.length ca) ∧ wr.cell? ⟨bt, ot + 1, none⟩ = some (.int .i64 c) := fun h => by subst h; simpa using And.intro hc hc2
      clear hBX hBX2 hg2 hW2 hC HUK
      by_cases hel : (es.length : Int) = v
      case neg =>
        have hd : ((es.length : Int) != v) = true := by simpa using hel
        have HF := Lib.hid (polyUp_term (v := v) (ts := ts) (k := k) (by rw [← HX.out]; exact termOk_len hel) hlt)
        clear hel
        rcases Nat.eq_zero_or_pos k with hk0 | hk0
        · subst hk0
          have z0 := (hcz rfl).1
          have z1 := (hcz rfl).2
          clear hc hc2 hcz
          go_wp2
          rw [← HW2.out]
          go_quiet (fail)
          go_wp2
          go_ret
          exact ⟨ret_bool HF.out.symm, bnext HG.out (below_drewN' HB2.out _)⟩
        · clear hcz
          go_wp2
          rw [← HW2.out]
          go_quiet (fail)
          go_wp2
          go_ret
          exact ⟨ret_bool HF.out.symm, bnext HG.out (below_drewN' HB2.out _)⟩
      have hd : ((es.length : Int) != v) = false := by simpa using hel
      have HWI0 : Hid (∀ n, Calls Tryz.prog 90 #[.int .i64 c, .int .i64 1, .int .i64 1000002] (W2.drewN n) fun e w' => e = .returned (.bool (inR c 1 1000002)) ∧ w' = W2.drewN n) := fun n =>
        (within_any c 1 1000002 (W2.drewN n)).mono fun e w' ⟨h1, h2⟩ => ⟨h1, h2.symm⟩
      cases hcc : inR c 1 1000002
      · have HF := Lib.hid (polyUp_term (v := v) (ts := ts) (k := k) (by rw [← HX.out]; exact termOk_coef hcc) hlt)
        have HWI : Hid _ := HWI0
        rw [hcc] at HWI
        clear hel hcc HWI0
        rcases Nat.eq_zero_or_pos k with hk0 | hk0
        · subst hk0
          have z0 := (hcz rfl).1
          have z1 := (hcz rfl).2
          clear hc hc2 hcz
          go_wp2
          rw [← HW2.out]
          go_quiet (first | (go_at_call 90; exact Calls.quiet_of_same (HWI.out _)))
          go_wp2
          go_ret
          exact ⟨ret_bool HF.out.symm, bnext HG.out (below_drewN' HB2.out _)⟩
        · clear hcz
          go_wp2
          rw [← HW2.out]
          go_quiet (first | (go_at_call 90; exact Calls.quiet_of_same (HWI.out _)))
          go_wp2
          go_ret
          exact ⟨ret_bool HF.out.symm, bnext HG.out (below_drewN' HB2.out _)⟩
      have HWI : Hid _ := HWI0
      rw [hcc] at HWI
      have HTF : Hid (termOk v (tmAt ts k) = (expsOk es && decide (degL es es.length ≤ 12))) := by show _ = _; rw [← HX.out]; exact termOk_full hel hcc
      have hp : Hid (∀ x, Calls Tryz.prog 281 (#[.int .i64 x] ++ #[]) W2 fun e w' => e = .returned (.bool ((fun x => !inR x 0 12) x)) ∧ W2 = w') := fun x => notExp x W2
      have HCF : Hid (∀ n, Calls Tryz.prog 130 #[.slice Ai es.length ca, .func (.func 281) #[] #[]] (W2.drewN n) fun e w' => e = .returned (.bool (!expsOk es)) ∧ W2.drewN n = w') := fun n =>
        (containsFuncI Ai ca es (W2.drewN n) HI2.out (by omega) 281 (enters Tryz.func281 (by kernel_rfl) rfl) #[] (fun x => !inR x 0 12) (fun x => notExp x _)).mono fun e w' ⟨h1, h2⟩ => ⟨by rw [h1, any_notE], h2⟩
      have HDG : Hid (∀ n, expsOk es = true → Calls Tryz.prog 280 #[.agg #[.slice Ai es.length ca, .int .i64 c]] (W2.drewN n) fun e w' => e = .returned (.int .i64 (degL es es.length)) ∧ Below (W2.drewN n).heap.size (W2.drewN n) w') := fun n h =>
        degree_any Ai ca es c (W2.drewN n) HI2.out (by omega) h
      clear hp HWI0 hcc
      obtain ⟨eo, heo⟩ : ∃ eo, eo = expsOk es := ⟨_, rfl⟩
      obtain ⟨dg, hdg⟩ : ∃ dg, dg = degL es es.length := ⟨_, rfl⟩
      rw [← heo] at HTF HCF HDG
      rw [← hdg] at HTF HDG
      have HDB : Hid (eo = true → 0 ≤ dg ∧ dg ≤ 144) := fun h => by
        have := degL_bd (a := es) (by rw [← heo]; exact h) es.length
        rw [hdg]; omega
      clear heo hdg
      rcases Nat.eq_zero_or_pos k with hk0 | hk0
      · subst hk0
        have z0 := (hcz rfl).1
        have z1 := (hcz rfl).2
        clear hc hc2 hcz
        have HNX : Hid (termOk v (tmAt ts 0) = true → polyUp v ts (0 + 1) = true) := fun h => polyUp_next HU.out h (Or.inl rfl)
        clear hel
        cases eo
        · have HF := Lib.hid (polyUp_term (v := v) (ts := ts) (k := 0) (by rw [HTF.out]; rfl) hlt)
          go_wp2
          rw [← HW2.out]
          go_quiet (first | (go_at_call 90; exact Calls.quiet_of_same (HWI.out _)))
          have HCF1 := Lib.hid (HCF.out nq)
          go_wp2_with (go_at_call 130; refine HCF1.out.mono ?_; rintro e w' ⟨rfl, rfl⟩)
          go_ret
          exact ⟨ret_bool HF.out.symm, bnext HG.out (below_drewN' HB2.out _)⟩
        · have hdb := HDB.out rfl
          have hdb0 := hdb.1
          have hdb1 := hdb.2
          clear hdb
          by_cases hd12 : dg ≤ 12
          · have HNX2 := Lib.hid (HNX.out (by rw [HTF.out]; simpa using hd12))
            have hdd : decide (12 < dg) = false := by simp; omega
            go_wp2
            rw [← HW2.out]
            go_quiet (first | (go_at_call 90; exact Calls.quiet_of_same (HWI.out _)))
            have t0' : (W2.drewN nq).cell? ⟨wr.heap.size, 0, none⟩ = some (.slice Ai es.length ca) := t0
            have t1' : (W2.drewN nq).cell? ⟨wr.heap.size, 1, none⟩ = some (.int .i64 c) := t1
            have HCF1 := Lib.hid (HCF.out nq)
            have HDG1 := Lib.hid (HDG.out nq (by simp))
            go_wp2_with (first | (go_at_call 130; refine HCF1.out.mono ?_; rintro e w' ⟨rfl, rfl⟩) | (go_at_call 280; refine HDG1.out.mono ?_; rintro e w3 ⟨rfl, hb3⟩))
            have HB3 := Lib.hid (bnext (below_drewN' HB2.out nq) hb3)
            go_roundw
            case rel => exact ⟨0 + 1, by omega, by go_num, HNX2.out, HB3.out⟩
            case measure => simp [intOf]; omega
          · have HF := Lib.hid (polyUp_term (v := v) (ts := ts) (k := 0) (by rw [HTF.out]; simpa using hd12) hlt)
            have hdd : decide (12 < dg) = true := by simp; omega
            go_wp2
            rw [← HW2.out]
            go_quiet (first | (go_at_call 90; exact Calls.quiet_of_same (HWI.out _)))
            have t0' : (W2.drewN nq).cell? ⟨wr.heap.size, 0, none⟩ = some (.slice Ai es.length ca) := t0
            have t1' : (W2.drewN nq).cell? ⟨wr.heap.size, 1, none⟩ = some (.int .i64 c) := t1
            have HCF1 := Lib.hid (HCF.out nq)
            have HDG1 := Lib.hid (HDG.out nq (by simp))
            go_wp2_with (first | (go_at_call 130; refine HCF1.out.mono ?_; rintro e w' ⟨rfl, rfl⟩) | (go_at_call 280; refine HDG1.out.mono ?_; rintro e w3 ⟨rfl, hb3⟩))
            go_ret
            exact ⟨ret_bool HF.out.symm, bnext HG.out (bnext (below_drewN' HB2.out nq) hb3)⟩
      · obtain ⟨bt', ot', Aj, cj, hAe, hbt', hdj, hdj2, hj, _⟩ := (HT.out.below HB.out).at_ (show k - 1 < ts.length by omega)
        obtain ⟨rfl, rfl⟩ : bt = bt' ∧ ot = ot' := by simpa using hAe
        have hpk : termOk v (tmAt ts (k - 1)) = true := by
          have h3 := HU.out
          obtain ⟨j, rfl⟩ : ∃ j, k = j + 1 := ⟨k - 1, by omega⟩
          simp only [polyUp, Bool.and_eq_true] at h3
          exact h3.2.1
        obtain ⟨i, hi1, hi2, hi3⟩ : ∃ i : Nat, ((k : Int) - 1 = i) ∧ i = k - 1 ∧ i < ts.length := ⟨k - 1, by omega, rfl, by omega⟩
        have hkw : IntKind.i64.wrap ((k : Int) - 1) = i := by rw [IntKind.wrap_i64]; omega
        have hk1 : 0 < (k : Int) := by omega
        rw [← hi2] at hdj hj hpk
        have hlj : es.length = (tmAt ts i).1.length := by have := (termOk_parts hpk).1; omega
        obtain ⟨pe, hpe⟩ : ∃ pe, pe = (tmAt ts i).1 := ⟨_, rfl⟩
        rw [← hpe] at hdj hj hlj
        have HPE := Lib.hid hpe
        have hdj' : W2.cell? ⟨bt, ot + i * 2, none⟩ = some (.slice Aj es.length cj) := by
          rw [HW2.out, World.cell?_alloc_lt _ _ _ (World.block_lt_of_cell? _ _ hdj), hlj]; exact hdj
        have HI2J : Hid (Ints W2 Aj pe) := by
          have hg3 : Below wr.heap.size wr W2 := by rw [HW2.out]; go_grown
          exact hj.below hg3
        have HCP : Hid (∀ n, Calls Tryz.prog 179 #[.slice Aj es.length cj, .slice Ai es.length ca] (W2.drewN n) fun e w' => e = .returned (.int .i64 (cmpL pe es)) ∧ w' = W2.drewN n) := fun n => by
          have h1 := compare_any Aj Ai cj ca pe es (W2.drewN n) HI2J.out HI2.out hlj (by omega)
          rw [← hlj] at h1
          exact h1.mono fun e w' ⟨h1, h2⟩ => ⟨h1, h2.symm⟩
        obtain ⟨z, hz⟩ : ∃ z, z = cmpL pe es := ⟨_, rfl⟩
        rw [← hz] at HCP
        have HZ : Hid (z = cmpL (tmAt ts (k - 1)).1 (tmAt ts k).1) := by show _ = _; rw [hz, HPE.out, hi2, ← HX.out]
        clear hcz hj hlj hpe hpk hdj hdj2 hz HPE HI2J hel hi1 hi2
        by_cases hz0 : z < 0
        · have HNX : Hid (termOk v (tmAt ts k) = true → polyUp v ts (k + 1) = true) := fun h => polyUp_next HU.out h (Or.inr (by rw [← HZ.out]; exact hz0))
          have hzd : decide (0 ≤ z) = false := by simp; omega
          clear HZ
          cases eo
          · have HF := Lib.hid (polyUp_term (v := v) (ts := ts) (k := k) (by rw [HTF.out]; rfl) hlt)
            go_wp2
            rw [← HW2.out]
            go_quiet (first | (go_at_call 90; exact Calls.quiet_of_same (HWI.out _)) | (go_at_call 179; exact Calls.quiet_of_same (HCP.out _)))
            have HCF1 := Lib.hid (HCF.out nq)
            go_wp2_with (go_at_call 130; refine HCF1.out.mono ?_; rintro e w' ⟨rfl, rfl⟩)
            go_ret
            exact ⟨ret_bool HF.out.symm, bnext HG.out (below_drewN' HB2.out _)⟩
          · have hdb := HDB.out rfl
            have hdb0 := hdb.1
            have hdb1 := hdb.2
            clear hdb
            by_cases hd12 : dg ≤ 12
            · have HNX2 := Lib.hid (HNX.out (by rw [HTF.out]; simpa using hd12))
              have hdd : decide (12 < dg) = false := by simp; omega
              go_wp2
              rw [← HW2.out]
              go_quiet (first | (go_at_call 90; exact Calls.quiet_of_same (HWI.out _)) | (go_at_call 179; exact Calls.quiet_of_same (HCP.out _)))
              have t0' : (W2.drewN nq).cell? ⟨wr.heap.size, 0, none⟩ = some (.slice Ai es.length ca) := t0
              have t1' : (W2.drewN nq).cell? ⟨wr.heap.size, 1, none⟩ = some (.int .i64 c) := t1
              have HCF1 := Lib.hid (HCF.out nq)
              have HDG1 := Lib.hid (HDG.out nq (by simp))
              go_wp2_with (first | (go_at_call 130; refine HCF1.out.mono ?_; rintro e w' ⟨rfl, rfl⟩) | (go_at_call 280; refine HDG1.out.mono ?_; rintro e w3 ⟨rfl, hb3⟩))
              have HB3 := Lib.hid (bnext (below_drewN' HB2.out nq) hb3)
              go_roundw
              case rel => exact ⟨k + 1, by omega, by go_num, HNX2.out, HB3.out⟩
              case measure => simp [intOf]; omega
            · have HF := Lib.hid (polyUp_term (v := v) (ts := ts) (k := k) (by rw [HTF.out]; simpa using hd12) hlt)
              have hdd : decide (12 < dg) = true := by simp; omega
              go_wp2
              rw [← HW2.out]
              go_quiet (first | (go_at_call 90; exact Calls.quiet_of_same (HWI.out _)) | (go_at_call 179; exact Calls.quiet_of_same (HCP.out _)))
              have t0' : (W2.drewN nq).cell? ⟨wr.heap.size, 0, none⟩ = some (.slice Ai es.length ca) := t0
              have t1' : (W2.drewN nq).cell? ⟨wr.heap.size, 1, none⟩ = some (.int .i64 c) := t1
              have HCF1 := Lib.hid (HCF.out nq)
              have HDG1 := Lib.hid (HDG.out nq (by simp))
              go_wp2_with (first | (go_at_call 130; refine HCF1.out.mono ?_; rintro e w' ⟨rfl, rfl⟩) | (go_at_call 280; refine HDG1.out.mono ?_; rintro e w3 ⟨rfl, hb3⟩))
              go_ret
              exact ⟨ret_bool HF.out.symm, bnext HG.out (bnext (below_drewN' HB2.out nq) hb3)⟩
        · have HN := Lib.hid (polyUp_ord (v := v) hk0 (by rw [← HZ.out]; exact hz0) hlt)
          have hzd : decide (0 ≤ z) = true := by simp; omega
          clear HZ
          go_wp2
          rw [← HW2.out]
          go_quiet (first | (go_at_call 90; exact Calls.quiet_of_same (HWI.out _)) | (go_at_call 179; exact Calls.quiet_of_same (HCP.out _)))
          go_wp2
          go_ret
          exact ⟨ret_bool HN.out.symm, bnext HG.out (below_drewN' HB2.out _)⟩
    · obtain rfl : k = ts.length := by omega
      go_wp2
      go_ret
      exact ⟨ret_bool HU.out.symm, bnext HG.out HB.out⟩

end Go.Proofs.YtgfkglhelfkpoaaGreat

/- Walks: PolyValue of both sides. -/
namespace Go.Proofs.YtgfkglhelfkpoaaGreat
open Go.RowKit Plain

end Go.Proofs.YtgfkglhelfkpoaaGreat

/- Walks: values of polynomials in the program; PolyValue of the program. -/
namespace Go.Proofs.YtgfkglhelfkpoaaGreat
open Go.RowKit Plain

end Go.Proofs.YtgfkglhelfkpoaaGreat
