/- Walks of AdvancesOf of both sides. -/
import Derived.Test.YtkeamefifjmabaaWFirst
import Derived.Test.YtkeamefifjmabaaWMark
namespace Go.Proofs.Ytkeamefifjmabaa
open Go.RowKit Plain

/-- what AdvancesOf returns -/
def avL (l : List (Int × Int)) (n slots : Int) : List Int := if planC l n slots = 0 then (if badV l n.toNat slots.toNat < 0 then (badC l (newC n.toNat slots.toNat) 0).1.over else []) else []
def avC (l : List (Int × Int)) (n slots : Int) : Int := if planC l n slots = 0 then (if badV l n.toNat slots.toNat < 0 then 0 else 4) else planC l n slots
def AdvPost (zs : List Int) (code : Int) (w : World) (e : Ending) (w' : World) : Prop :=
  ∃ A cap, e = .returned (.tuple #[.slice A zs.length cap, vi code]) ∧ IntsM w' w.heap.size A zs ∧ Below w.heap.size w w' ∧ zs.length ≤ 40

theorem Cells.intsM {w : World} {g B : Nat} {t : TypeId} {zs : List Int} (h : Cells w g t (zs.map vi)) (hB : B ≤ g) : IntsM w B (some ⟨g, 0, none⟩) zs :=
  fun _ => ⟨g, 0, rfl, hB, h.lt, fun j x hx => ⟨by rw [h.cell, Nat.zero_add]; simp [hx], h.frozen _⟩⟩
theorem Acts.get {w : World} {l : List (Int × Int)} {b o k : Nat} {x y : Int} (h : Acts w (some ⟨b, o, none⟩) l) (hx : l[k]? = some (x, y)) :
    w.cell? ⟨b, o + k * 2, none⟩ = some (.int .i64 x) ∧ w.cell? ⟨b, o + k * 2 + 1, none⟩ = some (.int .i64 y) := by
  have hk : k < l.length := (List.getElem?_eq_some_iff.1 hx).1
  obtain ⟨b', o', e, _, hc⟩ := h (by omega)
  obtain ⟨rfl, rfl⟩ : b = b' ∧ o = o' := by simpa using e
  exact hc k _ hx

set_option maxHeartbeats 1000000 in
theorem advancesI (A : Option Addr) (cap : Nat) (l : List (Int × Int)) (n slots : Int) (w : World) (hA : Acts w A l) (hn : l.length ≤ 4611686018427387904) :
    Calls Try.prog 44 #[.slice A l.length cap, .int .i64 n, .int .i64 slots] w (AdvPost (avL l n slots) (avC l n slots) w) := by
  by_cases h0 : planC l n slots = 0
  · obtain ⟨hs, n0, n40, s0, s8⟩ := planC_ok h0
    obtain ⟨m, rfl⟩ := Int.eq_ofNat_of_zero_le n0
    obtain ⟨s, rfl⟩ := Int.eq_ofNat_of_zero_le s0
    have HV : Hid (avL l m s = (if badV l m s < 0 then (badC l (newC m s) 0).1.over else []) ∧ avC l m s = (if badV l m s < 0 then 0 else 4)) := by show _ ∧ _; simp [avL, avC, h0]
    have H0 := Lib.hid h0; clear h0
    have HS := Lib.hid hs; clear hs
    go_enter Try.func44, Try.ntmps44
    go_wp2_with fail
    refine (isPlan_any A cap l m s w hA hn).mono ?_; rintro e w1 ⟨rfl, hb⟩
    rw [H0.out]
    have HB := Lib.hid hb; clear hb
    go_wp2_with fail
    refine (firstBad_any A cap l m s w1 (hA.below HB.out) HS.out (by omega) (by omega)).mono ?_
    rintro e w2 ⟨rfl, hb2, v, hC, j, _, hI⟩
    have HC := Lib.hid hC; clear hC
    have HI := Lib.hid hI; clear hI
    have f3 : w2.cell? ⟨w1.heap.size + 2, 3, none⟩ = some (.slice (some ⟨w1.heap.size, 0, none⟩) m m) := by rw [HC.out.cells.cell]; rfl
    generalize badV l m s = q at *
    by_cases hq : q < 0
    · go_wp2
      go_ret2
      rw [HV.out.1, HV.out.2, if_pos hq, if_pos hq]
      refine ⟨some ⟨w1.heap.size, 0, none⟩, m, ?_, HC.out.over.intsM HB.out.size, bnext HB.out hb2, ?_⟩
      · rw [HI.out.ol]; rfl
      · rw [HI.out.ol]; omega
    · go_wp2
      go_ret2
      rw [HV.out.1, HV.out.2, if_neg (by omega), if_neg (by omega)]
      exact ⟨none, 0, rfl, IntsM.nil _ _ _, bnext HB.out hb2, by simp⟩
  · have HV : Hid (avL l n slots = [] ∧ avC l n slots = planC l n slots) := by show _ ∧ _; simp [avL, avC, h0]
    have hd : (planC l n slots == 0) = false := by simpa using h0
    clear h0
    go_enter Try.func44, Try.ntmps44
    go_wp2_with fail
    refine (isPlan_any A cap l n slots w hA hn).mono ?_; rintro e w1 ⟨rfl, hb⟩
    go_wp2
    go_ret2
    rw [HV.out.1, HV.out.2]
    exact ⟨none, 0, rfl, IntsM.nil _ _ _, hb, by simp⟩

/-- the reference's run behind p with counts in block g -/
structure AdvSt (w wr : World) (g p : Nat) (v : Value) (c : Ch) (ov : List Int) : Prop where
  run : RunAt wr p (p + 1) v c
  over : Cells wr g 2 (ov.map vi)
  below : Below w.heap.size w wr
  gp : g < p
  wg : w.heap.size ≤ g
theorem AdvSt.next {w wr w' : World} {g p : Nat} {v : Value} {c : Ch} {ov : List Int} (h : AdvSt w wr g p v c ov) (hb : Below wr.heap.size wr w') : AdvSt w w' g p v c ov :=
  ⟨h.run.next hb, h.over.next hb, bnext h.below hb, h.gp, h.wg⟩
theorem AdvSt.store {w wr : World} {g p : Nat} {v : Value} {c : Ch} {ov : List Int} (h : AdvSt w wr g p v c ov) (i : Nat) (x : Int) : AdvSt w (wr.setCell ⟨g, i, none⟩ (vi x)) g p v c (ov.set i x) := by
  have := h.gp
  refine ⟨⟨h.run.cells.far (p := ⟨g, i, none⟩) (by show p ≠ g; omega) _, h.run.slots.keep fun q hq => Below.heap_setCell _ _ _ _ (by have := (World.ownsRow.lt h.run.slots q hq).1; show q ≠ g; omega), h.run.lt⟩, ?_, h.below.setCell (p := ⟨g, i, none⟩) h.wg _, h.gp, h.wg⟩
  rw [List.map_set]; exact h.over.set_ i _
theorem AdvSt.acted {w wr w' : World} {g p : Nat} {v : Value} {c c' : Ch} {ov : List Int} (h : AdvSt w wr g p v c ov) (hR : RunAt w' p (p + 1) v c') (hb : Below p wr w') : AdvSt w w' g p v c' ov :=
  ⟨hR, (hb.block g h.gp).trans h.over, h.below.trans (hb.mono (by have := h.gp; have := h.wg; omega)), h.gp, h.wg⟩
theorem step_over {c : Ch} {x y : Int} (h : x ≠ 1) : (stepC c x y).over = c.over := by
  unfold stepC; rw [if_neg h]; split <;> (try split) <;> rfl
theorem poss_of {l : List (Int × Int)} {m s k : Nat} {c : Ch} {x y : Int} (hq : badV l m s < 0) (hE : badC l (newC m s) 0 = badC (l.drop k) c k) (hx : l[k]? = some (x, y)) : poss c x y = true := by
  cases hp : poss c x y
  · have : badV l m s = k := by unfold badV; rw [hE, badC_no hx hp]
    omega
  · rfl

set_option maxRecDepth 100000 in
set_option maxHeartbeats 2000000 in
theorem advancesS (A : Option Addr) (cap : Nat) (l : List (Int × Int)) (n slots : Int) (w : World) (hA : Acts w A l) (hn : l.length ≤ 4611686018427387904) :
    Calls Try.prog 43 #[.slice A l.length cap, .int .i64 n, .int .i64 slots] w (AdvPost (avL l n slots) (avC l n slots) w) := by
  by_cases h0 : planC l n slots = 0
  · obtain ⟨hs, n0, n40, s0, s8⟩ := planC_ok h0
    obtain ⟨m, rfl⟩ := Int.eq_ofNat_of_zero_le n0
    obtain ⟨s, rfl⟩ := Int.eq_ofNat_of_zero_le s0
    obtain ⟨hl4, hac⟩ := isSched_act hs
    have HAC := Lib.hid hac; clear hac
    have HV : Hid (avL l m s = (if badV l m s < 0 then (badC l (newC m s) 0).1.over else []) ∧ avC l m s = (if badV l m s < 0 then 0 else 4)) := by show _ ∧ _; simp [avL, avC, h0]
    have H0 := Lib.hid h0; clear h0
    have HS := Lib.hid hs; clear hs
    have hmk := run_make_row' (P := Try.prog) 25 2 (.int .i64 0) 8 Try.underlying25 Try.infoI rfl .i64 .i64 m (by omega) (by omega)
    rw [madeCells_one] at hmk
    go_enter Try.func43, Try.ntmps43
    go_wp2_with fail
    refine (l06Asked_any A cap l m s w hA hn).mono ?_; rintro e w1 ⟨rfl, hb⟩
    rw [H0.out]
    have HB := Lib.hid hb; clear hb
    go_wp2_with fail
    refine (l06Bad_any A cap l m s w1 (hA.below HB.out) HS.out (by omega) (by omega)).mono ?_
    rintro e w2 ⟨rfl, hb2⟩
    have HB2 := Lib.hid (bnext HB.out hb2); clear hb2
    by_cases hq : badV l m s < 0
    · have e1 : badB l m s = false := by unfold badB; simpa using hq
      rw [e1]
      have HQ := Lib.hid hq; clear hq e1
      go_wp2_with fail
      have hbA : Below w2.heap.size w2 (w2.alloc (.cells (Array.replicate m (.int .i64 0)) 2)) := by go_grown
      have hCA : Cells (w2.alloc (.cells (Array.replicate m (.int .i64 0)) 2)) w2.heap.size 2 ((newC m s).over.map vi) := by
        have := Cells.new w2 2 (List.replicate m (vi 0))
        simpa [newC] using this
      have hsz : w2.heap.size < (w2.alloc (.cells (Array.replicate m (.int .i64 0)) 2)).heap.size := by simp
      refine (begin_any m s _ (by omega) (by omega)).mono ?_
      rintro e w3 ⟨rfl, v, hR, hB⟩
      generalize w2.alloc (.cells (Array.replicate m (.int .i64 0)) 2) = W0 at *
      have hst : AdvSt w w3 w2.heap.size W0.heap.size v (newC m s) (newC m s).over := ⟨hR, hCA.next hB, bnext (bnext HB2.out hbA) hB, hsz, HB2.out.size⟩
      have HST := Lib.hid hst
      clear hst hR hCA hB hbA hsz hmk
      generalize W0.heap.size = p at *
      generalize w2.heap.size = g at *
      go_wp2_with fail
      go_loopw [13] (fun i wr => ∃ (k : Nat) (c : Ch), k ≤ l.length ∧ i = .int .i64 (k : Int) ∧ Hid (AdvSt w wr g p v c c.over) ∧ Hid (InvC m s k c) ∧ Hid (badC l (newC m s) 0 = badC (l.drop k) c k)) (fun i _ => (l.length - intOf i).toNat)
      case atStart => exact ⟨0, _, by omega, by go_num, HST, InvC.new (by omega) (by omega), rfl⟩
      case round =>
        obtain ⟨k, c, hk, rfl, HSr, HI, HE⟩ := hrel
        by_cases hlt : k < l.length
        · obtain ⟨b, o, x, y, rfl, hx, hc1, hc2⟩ := (hA.below HSr.out.below).at_ hlt
          have HX := Lib.hid hx; clear hx
          have HACT := Lib.hid (HAC.out (x, y) (List.mem_of_getElem? HX.out))
          have HP := Lib.hid (poss_of HQ.out HE.out HX.out)
          by_cases h1 : x = 1
          · subst h1
            obtain ⟨y1, y40⟩ : 1 ≤ y ∧ y ≤ 40 := by rcases isAct_cases HACT.out with h | h | h | h <;> omega
            obtain ⟨t, ht⟩ : ∃ t : Nat, c.state = (t : Int) := Int.eq_ofNat_of_zero_le HI.out.s0
            have hpl : (t : Int) + y < c.left := by have h := HP.out; rw [← ht]; simpa [poss] using h
            have hln := HI.out.ln
            have HT := Lib.hid ht; clear ht
            have f0 : wr.cell? ⟨p, 0, none⟩ = some (vi (t : Int)) := by rw [HSr.out.run.cells.cell, ← HT.out]; rfl
            obtain ⟨wo, rfl⟩ : ∃ wo : World, wo = wr := ⟨_, rfl⟩
            go_wp2_with fail
            go_loopw [14] (fun kk wi => ∃ q : Nat, (q : Int) ≤ y ∧ kk = .int .i64 ((t + q : Nat) : Int) ∧ Hid (AdvSt w wi g p v c (advN c q).over)) (fun kk _ => ((t : Int) + y - intOf kk).toNat)
            case atStart => exact ⟨0, by omega, by go_num, HSr.out⟩
            case round =>
              obtain ⟨q, hqy, rfl, HSi⟩ := hrel
              have hcs := Lib.hid ((hA.below HSi.out.below).get HX.out)
              have g1 := hcs.out.1
              have g2 := hcs.out.2
              have f0 : wr.cell? ⟨p, 0, none⟩ = some (vi (t : Int)) := by rw [HSi.out.run.cells.cell, ← HT.out]; rfl
              by_cases hlt2 : (q : Int) < y
              · obtain ⟨-, e2, -, e4, -⟩ := advN_facts c m HI.out.s0 HI.out.ol q
                have hbd := advN_over_bd c m k HI.out.s0 HI.out.ol HI.out.ob q
                have hx := List.getElem?_eq_getElem (l := (advN c q).over) (i := t + q) (by omega)
                generalize (advN c q).over[t + q] = z at hx
                obtain ⟨x0, x1⟩ := hbd _ z hx
                have g3 : wr.cell? ⟨g, t + q, none⟩ = some (.int .i64 z) := by rw [HSi.out.over.cell]; simp [hx]
                have z3 : wr.frozen? ⟨g, t + q, none⟩ = false := HSi.out.over.frozen _
                have hst2 := fun u => (HSi.out.next (below_drewN' (Below.refl wr.heap.size wr) u)).store (t + q) (z + 1)
                have hst3 : ∀ u, AdvSt w ((wr.drewN u).setCell ⟨g, t + q, none⟩ (vi (z + 1))) g p v c (advN c (q + 1)).over := by
                  intro u
                  have h := hst2 u
                  have e : (advN c (q + 1)).over = (advN c q).over.set (t + q) (z + 1) := by
                    simp only [advN, adv1]
                    rw [e2, HT.out, show ((t : Int) + (q : Int)).toNat = t + q by omega]
                    congr 1
                    simp [List.getD, hx]
                  rw [e]; exact h
                have HST3 := Lib.hid hst3
                clear hst2 hst3 hx hbd e2 e4
                have hmm : m ≤ 40 := by omega
                have hol := HI.out.ol
                have htq : t + q < m := by omega
                go_wp2
                go_quiet (fail)
                rename Nat => nq
                go_wp2
                go_roundw
                case rel => exact ⟨q + 1, by omega, by go_num, HST3.out nq⟩
                case measure => simp [intOf]; omega
              · obtain rfl : y = (q : Int) := by omega
                go_wp2
                go_quiet (fail)
                rename Nat => nq
                have HSn := Lib.hid (HSi.out.next (below_drewN' (Below.refl wr.heap.size wr) nq))
                generalize wr.drewN nq = wn at *
                clear g1 g2 f0 hc1 hc2
                have hcn := Lib.hid ((hA.below HSn.out.below).get HX.out)
                have g1 := hcn.out.1
                have g2 := hcn.out.2
                go_wp2_with fail
                have hbx : Below wn.heap.size wn (wn.alloc (.cells #[vi 1, vi (q : Int)] 57)) := by go_grown
                refine (act_any m s k p (p + 1) v c 1 q _ HI.out HACT.out HP.out HSn.out.run).mono ?_
                rintro e w4 ⟨rfl, hR4, hB4⟩
                have hs4 := HSn.out.acted hR4 hB4
                have e5 : (stepC c 1 (q : Int)).over = (advN c q).over := by simp [stepC]
                rw [← e5] at hs4
                have HS4 := Lib.hid hs4
                clear hs4 hR4 hB4 g1 g2 e5
                go_wp2
                go_roundw
                case rel => exact ⟨k + 1, _, by omega, by go_num, HS4.out, HI.out.step HACT.out HP.out, by show _ = _; rw [HE.out, badC_yes HX.out HP.out]⟩
                case measure => simp [intOf]; omega
          · have hd : (x == 1) = false := by simpa using h1
            have e5 := step_over (c := c) (y := y) h1
            have HE5 := Lib.hid e5; clear e5 h1
            go_wp2_with fail
            refine (act_any m s k p (p + 1) v c x y _ HI.out HACT.out HP.out HSr.out.run).mono ?_
            rintro e w4 ⟨rfl, hR4, hB4⟩
            have hs4 := HSr.out.acted hR4 hB4
            rw [← HE5.out] at hs4
            have HS4 := Lib.hid hs4
            clear hs4 hR4 hB4 hc1 hc2
            go_wp2
            go_roundw
            case rel => exact ⟨k + 1, _, by omega, by go_num, HS4.out, HI.out.step HACT.out HP.out, by show _ = _; rw [HE.out, badC_yes HX.out HP.out]⟩
            case measure => simp [intOf]; omega
        · obtain rfl : k = l.length := by omega
          have hE := HE.out
          rw [badC_end] at hE
          have HF := Lib.hid hE; clear hE
          go_wp2
          go_ret2
          rw [HV.out.1, HV.out.2, if_pos HQ.out, if_pos HQ.out]
          refine ⟨some ⟨g, 0, none⟩, m, ?_, ?_, HSr.out.below, ?_⟩
          · rw [HF.out, HI.out.ol]; rfl
          · rw [HF.out]; exact HSr.out.over.intsM HSr.out.wg
          · rw [HF.out, HI.out.ol]; omega
    · have e1 : badB l m s = true := by unfold badB; simpa using hq
      rw [e1]
      have HQ := Lib.hid hq; clear hq e1
      go_wp2
      go_ret2
      have hq := HQ.out
      rw [HV.out.1, HV.out.2, if_neg (by omega), if_neg (by omega)]
      exact ⟨_, _, rfl, IntsM.nil _ _ _, HB2.out.alloc HB2.out.size _, by simp⟩
  · have HV : Hid (avL l n slots = [] ∧ avC l n slots = planC l n slots) := by show _ ∧ _; simp [avL, avC, h0]
    have hd : (planC l n slots == 0) = false := by simpa using h0
    clear h0
    go_enter Try.func43, Try.ntmps43
    go_wp2_with fail
    refine (l06Asked_any A cap l n slots w hA hn).mono ?_; rintro e w1 ⟨rfl, hb⟩
    go_wp2
    go_ret2
    rw [HV.out.1, HV.out.2]
    exact ⟨_, _, rfl, IntsM.nil _ _ _, hb.alloc hb.size _, by simp⟩

end Go.Proofs.Ytkeamefifjmabaa
