/- Walk of l06Used of the reference. -/
import Derived.Test.YtkeamefifjmabaaWUsed
namespace Go.Proofs.Ytkeamefifjmabaa
open Go.RowKit Plain

/-- a usage -/
def usg (a b c d e : Int) : Value := .agg #[vi a, vi b, vi c, vi d, vi e]

structure UsedSt (w wr : World) (p n0 : Nat) (v vI : Value) (c : Ch) (into : List Int) (cost adv st lo : Int) : Prop where
  run : RunAt wr p (p + 1) v c
  u : Cells wr (w.heap.size + 1) 47 [vi cost, vi adv, vi st, vi lo, vi 0]
  res : Cells wr w.heap.size 47 [vi 0, vi 0, vi 0, vi 0, vi 0]
  into : SlotsAt wr n0 vI into
  low : ∀ q, v.ownBlock = some q → q < n0
  below : Below w.heap.size w wr
  up : w.heap.size + 1 < p
  pn : p < n0
  sz : n0 ≤ wr.heap.size
section
variable {w wr w' : World} {p n0 : Nat} {v vI : Value} {c c' : Ch} {into : List Int} {cost adv st lo : Int}
theorem UsedSt.next (h : UsedSt w wr p n0 v vI c into cost adv st lo) (hb : Below wr.heap.size wr w') : UsedSt w w' p n0 v vI c into cost adv st lo :=
  ⟨h.run.next hb, h.u.next hb, h.res.next hb, h.into.next hb, h.low, bnext h.below hb, h.up, h.pn, Nat.le_trans h.sz hb.size⟩
theorem UsedSt.setU (h : UsedSt w wr p n0 v vI c into cost adv st lo) (i : Nat) (x : Int) {cost' adv' st' lo' : Int}
    (hc : [vi cost', vi adv', vi st', vi lo', vi 0] = [vi cost, vi adv, vi st, vi lo, vi 0].set i (vi x)) : UsedSt w (wr.setCell ⟨w.heap.size + 1, i, none⟩ (vi x)) p n0 v vI c into cost' adv' st' lo' := by
  have h1 := h.up
  have h2 := h.pn
  refine ⟨⟨h.run.cells.far (p := ⟨w.heap.size + 1, i, none⟩) (by show p ≠ w.heap.size + 1; omega) _, h.run.slots.keep fun q hq => Below.heap_setCell _ _ _ _ (by have := (World.ownsRow.lt h.run.slots q hq).1; show q ≠ w.heap.size + 1; omega), h.run.lt⟩,
    by rw [hc]; exact h.u.set_ i _, h.res.far (p := ⟨w.heap.size + 1, i, none⟩) (by show w.heap.size ≠ w.heap.size + 1; omega) _,
    h.into.keep fun q hq => Below.heap_setCell _ _ _ _ (by have := (World.ownsRow.lt h.into q hq).1; show q ≠ w.heap.size + 1; omega), h.low, h.below.setCell (p := ⟨w.heap.size + 1, i, none⟩) (by show w.heap.size ≤ w.heap.size + 1; omega) _, h.up, h.pn, by simpa [World.setCell] using h.sz⟩
theorem UsedSt.acted (h : UsedSt w wr p n0 v vI c into cost adv st lo) (hR : RunAt w' p (p + 1) v c') (hb : Below p wr w') (ho : Only (RunBlk p v) wr w') : UsedSt w w' p n0 v vI c' into cost adv st lo := by
  have h1 := h.up
  have h2 := h.pn
  refine ⟨hR, (hb.block _ (by omega)).trans h.u, (hb.block _ (by omega)).trans h.res, h.into.keep fun q hq => ?_, h.low, h.below.trans (hb.mono (by omega)), h.up, h.pn, Nat.le_trans h.sz ho.size⟩
  have hq2 := World.ownsRow.lt h.into q hq
  refine ho.block q hq2.2 ?_
  rintro (rfl | hv)
  · omega
  · have := h.low q hv; omega
theorem UsedSt.put (h : UsedSt w wr p n0 v vI c into cost adv st lo) {v2 : Value} {into2 : List Int} (hS : SlotsAt w' wr.heap.size v2 into2) (hb : Below wr.heap.size wr w') : UsedSt w w' p n0 v v2 c into2 cost adv st lo := by
  have h' := h.next hb
  exact ⟨h'.run, h'.u, h'.res, hS.mono h.sz, h'.low, h'.below, h'.up, h'.pn, h'.sz⟩
end

def UsedPost (c : Ch) (ws : List Int) (w : World) (e : Ending) (w' : World) : Prop :=
  e = .returned (usg (dot c.over ws) c.adv c.stores c.loads c.used.length) ∧ Below w.heap.size w w'

theorem wts_mem {ws : List Int} (h : wts ws = true) : ws.length ≤ 40 ∧ ∀ y ∈ ws, 0 ≤ y ∧ y ≤ 1000 := by
  unfold wts at h
  simp only [Bool.and_eq_true, decide_eq_true_eq, List.all_eq_true] at h
  exact ⟨h.1, fun y hy => by have := inR_true.1 (h.2 y hy); omega⟩
theorem InvC.dot_bd {n ns j : Nat} {c : Ch} {ws : List Int} (h : InvC n ns j c) (hj : j ≤ 400) (hw : ∀ y ∈ ws, 0 ≤ y ∧ y ≤ 1000) : 0 ≤ dot c.over ws ∧ dot c.over ws ≤ 16040000 := by
  have := Go.Proofs.Ytkeamefifjmabaa.dot_bd (xs := c.over) (ys := ws) (fun x hx => by
    obtain ⟨i, hi, rfl⟩ := List.getElem_of_mem hx
    have := h.ob i _ (List.getElem?_eq_getElem hi); omega) hw
  have := h.ol
  have := h.n40
  omega
theorem Ints.get {w : World} {l : List Int} {b o k : Nat} {x : Int} (h : Ints w (some ⟨b, o, none⟩) l) (hx : l[k]? = some x) : w.cell? ⟨b, o + k, none⟩ = some (.int .i64 x) := by
  have hk : k < l.length := (List.getElem?_eq_some_iff.1 hx).1
  obtain ⟨b', o', e, _, hc⟩ := h (by omega)
  obtain ⟨rfl, rfl⟩ : b = b' ∧ o = o' := by simpa using e
  exact hc k _ hx

set_option maxRecDepth 100000 in
set_option maxHeartbeats 4000000 in
theorem used_any (A : Option Addr) (cap : Nat) (l : List (Int × Int)) (Aw : Option Addr) (cw : Nat) (ws : List Int) (s : Nat) (w : World) (hA : Acts w A l) (hW : Ints w Aw ws) (hs : isSched l = true) (hw : wts ws = true) (s8 : s ≤ 8) (hq : badV l ws.length s < 0) :
    Calls Try.prog 78 #[.slice A l.length cap, .slice Aw ws.length cw, .int .i64 s] w (UsedPost (badC l (newC ws.length s) 0).1 ws w) := by
  obtain ⟨hl4, hac⟩ := isSched_act hs
  obtain ⟨hw40, hwm⟩ := wts_mem hw
  have HAC := Lib.hid hac; clear hac hs hw
  have HWM := Lib.hid hwm; clear hwm
  have HQ := Lib.hid hq; clear hq
  go_enter Try.func78, Try.ntmps78
  go_wp2_with fail
  have hb0 : Below w.heap.size w ((w.alloc (.cells #[vi 0, vi 0, vi 0, vi 0, vi 0] 47)).alloc (.cells #[vi 0, vi 0, vi 0, vi 0, vi 0] 47)) := by go_grown
  have hsz0 : ((w.alloc (.cells #[vi 0, vi 0, vi 0, vi 0, vi 0] 47)).alloc (.cells #[vi 0, vi 0, vi 0, vi 0, vi 0] 47)).heap.size = w.heap.size + 2 := by simp
  have hc0 : Cells ((w.alloc (.cells #[vi 0, vi 0, vi 0, vi 0, vi 0] 47)).alloc (.cells #[vi 0, vi 0, vi 0, vi 0, vi 0] 47)) w.heap.size 47 [vi 0, vi 0, vi 0, vi 0, vi 0] :=
    (Cells.new w _ [vi 0, vi 0, vi 0, vi 0, vi 0]).next (by go_grown)
  have hc1 : Cells ((w.alloc (.cells #[vi 0, vi 0, vi 0, vi 0, vi 0] 47)).alloc (.cells #[vi 0, vi 0, vi 0, vi 0, vi 0] 47)) (w.heap.size + 1) 47 [vi 0, vi 0, vi 0, vi 0, vi 0] := by
    have := Cells.new (w.alloc (.cells #[vi 0, vi 0, vi 0, vi 0, vi 0] 47)) 47 [vi 0, vi 0, vi 0, vi 0, vi 0]
    simpa using this
  refine (begin_any ws.length s _ hw40 s8).mono ?_
  rintro e w3 ⟨rfl, v, hR, hB⟩
  generalize (w.alloc (.cells #[vi 0, vi 0, vi 0, vi 0, vi 0] 47)).alloc (.cells #[vi 0, vi 0, vi 0, vi 0, vi 0] 47) = W0 at *
  have hst : UsedSt w (w3.alloc (.cells #[] 2)) W0.heap.size w3.heap.size v (.slice (some ⟨w3.heap.size, 0, none⟩) 0 0) (newC ws.length s) [] (dot (newC ws.length s).over ws) (newC ws.length s).adv (newC ws.length s).stores (newC ws.length s).loads := by
    have ha : Below w3.heap.size w3 (w3.alloc (.cells #[] 2)) := by go_grown
    refine ⟨hR.next ha, ?_, (hc0.next hB).next ha, World.ownsRow_made (e := 2) (size := 1) w3 #[] 0 (Nat.le_refl _) (by unfold maxLen; omega) rfl, fun q hq => (World.ownsRow.lt hR.slots q hq).2, bnext (bnext hb0 hB) ha, by omega, hR.size, by simp⟩
    have : dot (newC ws.length s).over ws = 0 := dot_zero _ _
    rw [this]
    exact (hc1.next hB).next ha
  have HST := Lib.hid hst
  clear hst hR hB hb0 hc0 hc1 hsz0
  generalize W0.heap.size = p at *
  go_wp2_with fail
  generalize w3.alloc (.cells #[] 2) = w4 at *
  generalize w3.heap.size = n0 at *
  go_loopw [9, 10] (fun io i wr => ∃ (k : Nat) (c : Ch) (Ai : Option Addr) (ci : Nat) (into : List Int), k ≤ l.length ∧ i = .int .i64 (k : Int) ∧ io = .slice Ai into.length ci ∧ into.length ≤ k ∧ Hid (UsedSt w wr p n0 v (.slice Ai into.length ci) c into (dot c.over ws) c.adv c.stores c.loads) ∧ Hid (InvC ws.length s k c) ∧ Hid (UsedRel into c.used) ∧ Hid (badC l (newC ws.length s) 0 = badC (l.drop k) c k)) (fun _ i _ => (l.length - intOf i).toNat)
  case atStart => exact ⟨0, _, some ⟨n0, 0, none⟩, 0, [], by omega, by go_num, rfl, by simp, HST.out, InvC.new hw40 s8, UsedRel.nil, rfl⟩
  case round =>
    obtain ⟨k, c, Ai, ci, into, hk, rfl, rfl, hik, HS, HI, HU, HE⟩ := hrel
    by_cases hlt : k < l.length
    · obtain ⟨b, o, x, y, rfl, hx, hc1, hc2⟩ := (hA.below HS.out.below).at_ hlt
      have HX := Lib.hid hx; clear hx
      have HACT := Lib.hid (HAC.out (x, y) (List.mem_of_getElem? HX.out))
      have HP := Lib.hid (poss_of HQ.out HE.out HX.out)
      have hE2 := badC_yes HX.out HP.out
      rw [← HE.out] at hE2
      have HE2 := Lib.hid hE2; clear hE2
      have HI2 := Lib.hid (HI.out.step HACT.out HP.out)
      have s1 : w.heap.size + 1 < wr.heap.size := HS.out.u.lt
      have s2 : p < wr.heap.size := HS.out.run.size
      have hal := alloc_cell wr (w.heap.size + 1) s1
      have hfr := alloc_frozen wr (w.heap.size + 1) s1
      have halp := alloc_cell wr p s2
      have hbx : Below wr.heap.size wr (wr.alloc (.cells #[vi x, vi y] 57)) := by go_grown
      have HSX := Lib.hid (HS.out.next hbx)
      have hCX : Cells (wr.alloc (.cells #[vi x, vi y] 57)) wr.heap.size 57 [vi x, vi y] := Cells.new wr _ [vi x, vi y]
      have HCX := Lib.hid hCX; clear hCX
      have HBX := Lib.hid hbx; clear hbx
      have a0 := HI.out.a0
      have aj := HI.out.aj
      have t0 := HI.out.t0
      have tj := HI.out.tj
      have d0 := HI.out.d0
      have dj := HI.out.dj
      by_cases h1 : x = 1
      · subst h1
        obtain ⟨y1, y40⟩ : 1 ≤ y ∧ y ≤ 40 := by rcases isAct_cases HACT.out with h | h | h | h <;> omega
        obtain ⟨t, ht⟩ : ∃ t : Nat, c.state = (t : Int) := Int.eq_ofNat_of_zero_le HI.out.s0
        have hpl : (t : Int) + y < c.left := by have h := HP.out; rw [← ht]; simpa [poss] using h
        have hln := HI.out.ln
        have HT := Lib.hid ht; clear ht
        have f0 : wr.cell? ⟨p, 0, none⟩ = some (vi (t : Int)) := by rw [HS.out.run.cells.cell, ← HT.out]; rfl
        obtain ⟨wo, rfl⟩ : ∃ wo : World, wo = wr := ⟨_, rfl⟩
        have hbw : w.heap.size + 1 < wo.heap.size := s1
        have HWX : Hid (Below w.heap.size w (wo.alloc (.cells #[vi 1, vi y] 57))) := bnext HS.out.below HBX.out
        go_wp2_with fail
        generalize wo.alloc (.cells #[vi 1, vi y] 57) = wx at *
        clear hal hfr halp hc1 hc2 f0
        go_loopw [12] (fun kk wi => ∃ q : Nat, (q : Int) ≤ y ∧ kk = .int .i64 ((t + q : Nat) : Int) ∧ Hid (UsedSt w wi p n0 v (.slice Ai into.length ci) c into (dot (advN c q).over ws) c.adv c.stores c.loads) ∧ Hid (Cells wi wo.heap.size 57 [vi 1, vi y])) (fun kk _ => ((t : Int) + y - intOf kk).toNat)
        case atStart => exact ⟨0, by omega, by go_num, HSX.out, HCX.out⟩
        case round =>
          obtain ⟨q, hqy, rfl, HSi, HCi⟩ := hrel
          have f0 : wr.cell? ⟨p, 0, none⟩ = some (vi (t : Int)) := by rw [HSi.out.run.cells.cell, ← HT.out]; rfl
          have b1 : wr.cell? ⟨wo.heap.size, 1, none⟩ = some (vi y) := by rw [HCi.out.cell]; rfl
          by_cases hlt2 : (q : Int) < y
          · obtain ⟨-, e2, -, e4, -⟩ := advN_facts c ws.length HI.out.s0 HI.out.ol q
            have hbd := advN_over_bd c ws.length k HI.out.s0 HI.out.ol HI.out.ob q
            have hx := List.getElem?_eq_getElem (l := (advN c q).over) (i := t + q) (by omega)
            generalize (advN c q).over[t + q] = z at hx
            have hwx := List.getElem?_eq_getElem (l := ws) (i := t + q) (by omega)
            have hum := HWM.out ws[t + q] (List.getElem_mem _)
            generalize ws[t + q] = u at hwx hum
            obtain ⟨u0, u1⟩ := hum
            have hdb := dot_bd (xs := (advN c q).over) (ys := ws) (fun x hx => by
              obtain ⟨i, hi, rfl⟩ := List.getElem_of_mem hx
              have := hbd i _ (List.getElem?_eq_getElem hi); omega) HWM.out
            have hdd : dot (advN c (q + 1)).over ws = dot (advN c q).over ws + u := by
              have e : (advN c (q + 1)).over = (advN c q).over.set (t + q) (z + 1) := by
                simp only [advN, adv1]
                rw [e2, HT.out, show ((t : Int) + (q : Int)).toNat = t + q by omega]
                congr 1
                simp [List.getD, hx]
              rw [e, dot_set hx hwx, show z + 1 - z = 1 by omega, Int.one_mul]
            rw [e4] at hdb
            obtain ⟨D, hD⟩ : ∃ D, dot (advN c q).over ws = D := ⟨_, rfl⟩
            rw [hD] at HSi hdb hdd
            have HDD := Lib.hid hdd
            have q0 : wr.cell? ⟨w.heap.size + 1, 0, none⟩ = some (.int .i64 D) := by rw [HSi.out.u.cell]; rfl
            have z0 : wr.frozen? ⟨w.heap.size + 1, 0, none⟩ = false := HSi.out.u.frozen _
            obtain ⟨bw, ow, uu, rfl, hux, hcw⟩ := (hW.below HSi.out.below).at_ (k := t + q) (by omega)
            rw [hwx] at hux
            obtain rfl : u = uu := by simpa using hux
            have hst3 : ∀ r, UsedSt w (((wr.drewN r).drew).setCell ⟨w.heap.size + 1, 0, none⟩ (vi (D + u))) p n0 v (.slice Ai into.length ci) c into (dot (advN c (q + 1)).over ws) c.adv c.stores c.loads := by
              intro r
              rw [HDD.out]
              exact ((HSi.out.next (below_drewN' (Below.refl wr.heap.size wr) r)).next ((Below.refl _ _).drew)).setU 0 (D + u) rfl
            have hbx3 : ∀ r, Cells (((wr.drewN r).drew).setCell ⟨w.heap.size + 1, 0, none⟩ (vi (D + u))) wo.heap.size 57 [vi 1, vi y] := by
              intro r
              exact Cells.far (p := ⟨w.heap.size + 1, 0, none⟩) (((HCi.out.next (below_drewN' (Below.refl wr.heap.size wr) r)).next ((Below.refl _ _).drew))) (by show wo.heap.size ≠ w.heap.size + 1; omega) _
            have HST3 := Lib.hid hst3
            have HBX3 := Lib.hid hbx3
            have htq : t + q < ws.length := by omega
            have hd0 := hdb.1
            have hd1 := hdb.2
            clear hst3 hbx3 hx hbd e2 e4 hdd hD hwx hux hdb HDD
            go_wp2
            go_quiet (fail)
            rename Nat => nq
            go_wp2
            go_region
            go_wp2
            go_roundw
            case rel => exact ⟨q + 1, by omega, by go_num, HST3.out nq, HBX3.out nq⟩
            case measure => simp [intOf]; omega
          · obtain rfl : y = (q : Int) := by omega
            go_wp2
            go_quiet (fail)
            rename Nat => nq
            have HSn := Lib.hid (HSi.out.next (below_drewN' (Below.refl wr.heap.size wr) nq))
            have HCn := Lib.hid (HCi.out.next (below_drewN' (Below.refl wr.heap.size wr) nq))
            generalize wr.drewN nq = wn at *
            clear b1 f0
            have b0 : wn.cell? ⟨wo.heap.size, 0, none⟩ = some (vi 1) := by rw [HCn.out.cell]; rfl
            have b1 : wn.cell? ⟨wo.heap.size, 1, none⟩ = some (vi (q : Int)) := by rw [HCn.out.cell]; rfl
            have q1 : wn.cell? ⟨w.heap.size + 1, 1, none⟩ = some (vi c.adv) := by rw [HSn.out.u.cell]; rfl
            have z1 : wn.frozen? ⟨w.heap.size + 1, 1, none⟩ = false := HSn.out.u.frozen _
            have hst := HSn.out.setU 1 (c.adv + q) (cost' := dot (advN c q).over ws) (adv' := c.adv + q) (st' := c.stores) (lo' := c.loads) rfl
            have HST2 := Lib.hid hst
            clear hst
            go_wp2_with fail
            refine (act_only ws.length s k p (p + 1) v c 1 q _ HI.out HACT.out HP.out HST2.out.run).mono ?_
            rintro e w6 ⟨⟨rfl, hR6, hB6⟩, hO6⟩
            have hst6 := HST2.out.acted hR6 hB6 hO6
            have HST6 := Lib.hid hst6
            clear hR6 hB6 hO6 hst6 q1 z1 b0 b1
            go_wp2
            go_roundw
            case rel =>
              have e1 : stepC c 1 (q : Int) = advN c q := by simp [stepC]
              obtain ⟨-, -, -, -, g5, g6, g7, g8, -⟩ := advN_facts c ws.length HI.out.s0 HI.out.ol q
              refine ⟨k + 1, stepC c 1 q, Ai, ci, into, by omega, by go_num, rfl, by omega, ?_, HI2.out, ?_, HE2.out⟩
              · have h := HST6.out
                rw [e1] at h ⊢
                show UsedSt _ _ _ _ _ _ _ _ _ _ _ _
                rw [g5, g6, g7]
                exact h
              · show UsedRel _ _
                rw [e1, g8]; exact HU.out
            case measure => simp [intOf]; omega
      · by_cases h2 : x = 2
        · subst h2
          have y0 : 0 ≤ y := by rcases isAct_cases HACT.out with h | h | h | h <;> omega
          have u2 : wr.cell? ⟨w.heap.size + 1, 2, none⟩ = some (vi c.stores) := by rw [HS.out.u.cell]; rfl
          have z2 : wr.frozen? ⟨w.heap.size + 1, 2, none⟩ = false := HS.out.u.frozen _
          have hst0 := HS.out.setU 2 (c.stores + 1) (cost' := dot c.over ws) (adv' := c.adv) (st' := c.stores + 1) (lo' := c.loads) rfl
          have hss : (wr.setCell ⟨w.heap.size + 1, 2, none⟩ (vi (c.stores + 1))).heap.size = wr.heap.size := by simp [World.setCell]
          have hst := hst0.next (w' := (wr.setCell ⟨w.heap.size + 1, 2, none⟩ (vi (c.stores + 1))).alloc (.cells #[vi 2, vi y] 57)) ((Below.refl _ _).alloc (Nat.le_refl _) _)
          have hbox := Cells.new (wr.setCell ⟨w.heap.size + 1, 2, none⟩ (vi (c.stores + 1))) 57 [vi 2, vi y]
          rw [hss] at hbox
          clear hst0 hss
          have hints := hst.into.ints
          have HST2 := Lib.hid hst
          have HBOX2 := Lib.hid hbox
          have HIN2 := Lib.hid hints
          clear hst hbox hints
          have hi400 : into.length ≤ 400 := by omega
          go_wp2_with fail
          refine (put_any Ai ci into y _ HIN2.out hi400).mono ?_
          rintro e w5 ⟨A5, c5, rfl, hS5, hB5⟩
          have hst5 := HST2.out.put hS5 hB5
          have hbox5 := HBOX2.out.next hB5
          have HB5 := Lib.hid hbox5
          have HST5 := Lib.hid hst5
          have b0 : w5.cell? ⟨wr.heap.size, 0, none⟩ = some (vi 2) := by rw [hbox5.cell]; rfl
          have b1 : w5.cell? ⟨wr.heap.size, 1, none⟩ = some (vi y) := by rw [hbox5.cell]; rfl
          clear hS5 hB5 hst5 hbox5 u2 z2 hal hfr halp hc1 hc2
          go_wp2_with fail
          refine (act_only ws.length s k p (p + 1) v c 2 y _ HI.out HACT.out HP.out HST5.out.run).mono ?_
          rintro e w6 ⟨⟨rfl, hR6, hB6⟩, hO6⟩
          have hst6 := HST5.out.acted hR6 hB6 hO6
          have HST6 := Lib.hid hst6
          have hpl : (putS y into).length ≤ k + 1 := by rw [putS_len HU.out.sorted]; split <;> omega
          have HUN := Lib.hid (HU.out.put y)
          clear hR6 hB6 hO6 hst6 b0 b1
          go_wp2
          go_roundw
          case rel =>
            have e1 : stepC c 2 y = { c with slots := c.slots.set y.toNat c.state, used := putE y (.bool true) c.used, stores := c.stores + 1 } := by simp [stepC]
            refine ⟨k + 1, stepC c 2 y, A5, c5, putS y into, by omega, by go_num, rfl, hpl, ?_, HI2.out, ?_, HE2.out⟩
            · have h := HST6.out
              rw [e1] at h ⊢
              exact h
            · show UsedRel _ _
              rw [e1]; exact HUN.out
          case measure => simp [intOf]; omega
        · by_cases h3 : x = 3
          · subst h3
            have u3 : wr.cell? ⟨w.heap.size + 1, 3, none⟩ = some (vi c.loads) := by rw [HS.out.u.cell]; rfl
            have z3 : wr.frozen? ⟨w.heap.size + 1, 3, none⟩ = false := HS.out.u.frozen _
            have hst0 := HS.out.setU 3 (c.loads + 1) (cost' := dot c.over ws) (adv' := c.adv) (st' := c.stores) (lo' := c.loads + 1) rfl
            have hst := hst0.next (w' := (wr.setCell ⟨w.heap.size + 1, 3, none⟩ (vi (c.loads + 1))).alloc (.cells #[vi 3, vi y] 57)) ((Below.refl _ _).alloc (Nat.le_refl _) _)
            clear hst0
            have HST2 := Lib.hid hst
            clear hst
            go_wp2_with fail
            refine (act_only ws.length s k p (p + 1) v c 3 y _ HI.out HACT.out HP.out HST2.out.run).mono ?_
            rintro e w6 ⟨⟨rfl, hR6, hB6⟩, hO6⟩
            have hst6 := HST2.out.acted hR6 hB6 hO6
            have HST6 := Lib.hid hst6
            clear hR6 hB6 hO6 hst6 u3 z3 hal hfr halp hc1 hc2
            go_wp2
            go_roundw
            case rel =>
              have e1 : stepC c 3 y = { c with state := c.slots.getD y.toNat 0, loads := c.loads + 1 } := by simp [stepC]
              refine ⟨k + 1, stepC c 3 y, Ai, ci, into, by omega, by go_num, rfl, by omega, ?_, HI2.out, ?_, HE2.out⟩
              · have h := HST6.out
                rw [e1] at h ⊢
                exact h
              · show UsedRel _ _
                rw [e1]; exact HU.out
            case measure => simp [intOf]; omega
          · obtain ⟨rfl, rfl⟩ : x = 4 ∧ y = 0 := by rcases isAct_cases HACT.out with h | h | h | h <;> omega
            clear h1 h2 h3
            go_wp2_with fail
            refine (act_only ws.length s k p (p + 1) v c 4 0 _ HI.out HACT.out HP.out HSX.out.run).mono ?_
            rintro e w6 ⟨⟨rfl, hR6, hB6⟩, hO6⟩
            have hst6 := HSX.out.acted hR6 hB6 hO6
            have HST6 := Lib.hid hst6
            clear hR6 hB6 hO6 hst6 hal hfr halp hc1 hc2
            go_wp2
            go_roundw
            case rel =>
              have e1 : stepC c 4 0 = { c with left := c.left - 1 } := by simp [stepC]
              refine ⟨k + 1, stepC c 4 0, Ai, ci, into, by omega, by go_num, rfl, by omega, ?_, HI2.out, ?_, HE2.out⟩
              · have h := HST6.out
                rw [e1] at h ⊢
                exact h
              · show UsedRel _ _
                rw [e1]; exact HU.out
            case measure => simp [intOf]; omega
    · obtain rfl : k = l.length := by omega
      have hE := HE.out
      rw [badC_end] at hE
      have HF := Lib.hid hE; clear hE
      have u0 : wr.cell? ⟨w.heap.size + 1, 0, none⟩ = some (vi (dot c.over ws)) := by rw [HS.out.u.cell]; rfl
      have u1 : wr.cell? ⟨w.heap.size + 1, 1, none⟩ = some (vi c.adv) := by rw [HS.out.u.cell]; rfl
      have u2 : wr.cell? ⟨w.heap.size + 1, 2, none⟩ = some (vi c.stores) := by rw [HS.out.u.cell]; rfl
      have u3 : wr.cell? ⟨w.heap.size + 1, 3, none⟩ = some (vi c.loads) := by rw [HS.out.u.cell]; rfl
      have u4 : wr.cell? ⟨w.heap.size + 1, 4, none⟩ = some (vi 0) := by rw [HS.out.u.cell]; rfl
      have z4 : wr.frozen? ⟨w.heap.size + 1, 4, none⟩ = false := HS.out.u.frozen _
      have r0 : wr.cell? ⟨w.heap.size, 0, none⟩ = some (vi 0) := by rw [HS.out.res.cell]; rfl
      have r1 : wr.cell? ⟨w.heap.size, 1, none⟩ = some (vi 0) := by rw [HS.out.res.cell]; rfl
      have r2 : wr.cell? ⟨w.heap.size, 2, none⟩ = some (vi 0) := by rw [HS.out.res.cell]; rfl
      have r3 : wr.cell? ⟨w.heap.size, 3, none⟩ = some (vi 0) := by rw [HS.out.res.cell]; rfl
      have r4 : wr.cell? ⟨w.heap.size, 4, none⟩ = some (vi 0) := by rw [HS.out.res.cell]; rfl
      have q0 : wr.frozen? ⟨w.heap.size, 0, none⟩ = false := HS.out.res.frozen _
      have q1 : wr.frozen? ⟨w.heap.size, 1, none⟩ = false := HS.out.res.frozen _
      have q2 : wr.frozen? ⟨w.heap.size, 2, none⟩ = false := HS.out.res.frozen _
      have q3 : wr.frozen? ⟨w.heap.size, 3, none⟩ = false := HS.out.res.frozen _
      have q4 : wr.frozen? ⟨w.heap.size, 4, none⟩ = false := HS.out.res.frozen _
      obtain ⟨D, hD⟩ : ∃ D, dot c.over ws = D := ⟨_, rfl⟩
      rw [hD] at u0 HS
      have HD := Lib.hid hD; clear hD
      have HK := Lib.hid ((((((HS.out.res.far (p := ⟨w.heap.size + 1, 4, none⟩) (by show w.heap.size ≠ w.heap.size + 1; omega) (vi (into.length : Int))).set_ 0 (vi D)).set_ 1 (vi c.adv)).set_ 2 (vi c.stores)).set_ 3 (vi c.loads)).set_ 4 (vi (into.length : Int)))
      go_wp2
      have hK := HK.out
      have hb : Below w.heap.size w ((((((wr.setCell ⟨w.heap.size + 1, 4, none⟩ (vi (into.length : Int))).setCell ⟨w.heap.size, 0, none⟩ (vi D)).setCell ⟨w.heap.size, 1, none⟩ (vi c.adv)).setCell ⟨w.heap.size, 2, none⟩ (vi c.stores)).setCell ⟨w.heap.size, 3, none⟩ (vi c.loads)).setCell ⟨w.heap.size, 4, none⟩ (vi (into.length : Int))) :=
        (((((HS.out.below.setCell (p := ⟨w.heap.size + 1, 4, none⟩) (by show w.heap.size ≤ w.heap.size + 1; omega) _).setCell (p := ⟨w.heap.size, 0, none⟩) (Nat.le_refl _) _).setCell (p := ⟨w.heap.size, 1, none⟩) (Nat.le_refl _) _).setCell (p := ⟨w.heap.size, 2, none⟩) (Nat.le_refl _) _).setCell (p := ⟨w.heap.size, 3, none⟩) (Nat.le_refl _) _).setCell (p := ⟨w.heap.size, 4, none⟩) (Nat.le_refl _) _
      generalize (((((wr.setCell ⟨w.heap.size + 1, 4, none⟩ (vi (into.length : Int))).setCell ⟨w.heap.size, 0, none⟩ (vi D)).setCell ⟨w.heap.size, 1, none⟩ (vi c.adv)).setCell ⟨w.heap.size, 2, none⟩ (vi c.stores)).setCell ⟨w.heap.size, 3, none⟩ (vi c.loads)).setCell ⟨w.heap.size, 4, none⟩ (vi (into.length : Int)) = W5 at hK hb ⊢
      have g0 := (hK.cell 0).trans (rfl : _ = some (vi D))
      have g1 := (hK.cell 1).trans (rfl : _ = some (vi c.adv))
      have g2 := (hK.cell 2).trans (rfl : _ = some (vi c.stores))
      have g3 := (hK.cell 3).trans (rfl : _ = some (vi c.loads))
      have g4 := (hK.cell 4).trans (rfl : _ = some (vi (into.length : Int)))
      refine bodyPost_ret (v := usg D c.adv c.stores c.loads into.length) (by simp [results, Try.results78, go_sem, g0, g1, g2, g3, g4, usg]) rfl ⟨?_, hb⟩
      rw [HF.out, HD.out, HU.out.len]

end Go.Proofs.Ytkeamefifjmabaa
