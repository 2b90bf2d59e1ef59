/- Walks of the program's chain: take, firstBad. -/
import Derived.Test.YtnbpcdcdfkfmiaaWChain
namespace Go.Proofs.Ytnbpcdcdfkfmiaa
open Go.RowKit Plain

def TakePost (B n : Nat) (v : Value) (c : Ch) (k a : Int) (w : World) (e : Ending) (w' : World) : Prop :=
  e = .returned (.bool (poss c k a)) ∧ ChainAt w' B n v (if poss c k a then stepC c k a else c) ∧ Below B w w'

theorem ChainAt.lo {w : World} {B n : Nat} {v : Value} {c : Ch} (h : ChainAt w B n v c) : B + 2 < w.heap.size := h.cells.lt

/-- a number in a field of the chain is set -/
theorem ChainAt.field {w : World} {B n : Nat} {v : Value} {c : Ch} (h : ChainAt w B n v c) (i : Nat) (x : Int) {c' : Ch}
    (hc : [vi c'.left, vi c'.state, v, .slice (some ⟨B, 0, none⟩) n n, vi 0, vi c'.adv, vi c'.stores, vi c'.loads, vi 0, .map (some (B + 1))] = [vi c.left, vi c.state, v, .slice (some ⟨B, 0, none⟩) n n, vi 0, vi c.adv, vi c.stores, vi c.loads, vi 0, .map (some (B + 1))].set i (vi x) := by rfl)
    (ho : c'.over = c.over := by rfl) (hu : c'.used = c.used := by rfl) (hs : c'.slots = c.slots := by rfl) : ChainAt (w.setCell ⟨B + 2, i, none⟩ (vi x)) B n v c' := by
  have hq : ∀ q, v.ownBlock = some q → B + 3 ≤ q := fun q hq => (World.ownsRow.lt h.slots q hq).1
  refine ⟨?_, ?_, ?_, ?_⟩
  · rw [hc]; exact h.cells.set_ i _
  · rw [ho]; exact h.over.far (p := ⟨B + 2, i, none⟩) (by show B ≠ B + 2; omega) _
  · rw [hu]; exact (Below.heap_setCell _ _ _ _ (by show B + 1 ≠ B + 2; omega)).trans h.map
  · rw [hs]; exact h.slots.keep fun q h' => Below.heap_setCell _ _ _ _ (by have := hq q h'; show q ≠ B + 2; omega)

/-- the counts and fields behind one step of an advance -/
theorem ChainAt.adv {w : World} {B n : Nat} {v : Value} {c : Ch} (h : ChainAt w B n v c) :
    ChainAt (((w.setCell ⟨B, c.state.toNat, none⟩ (vi (c.over.getD c.state.toNat 0 + 1))).setCell ⟨B + 2, 5, none⟩ (vi (c.adv + 1))).setCell ⟨B + 2, 1, none⟩ (vi (c.state + 1))) B n v (adv1 c) := by
  have hs : ∀ q, v.ownBlock = some q → B + 3 ≤ q := fun q hq => (World.ownsRow.lt h.slots q hq).1
  refine ⟨?_, ?_, ?_, ?_⟩
  · exact ((h.cells.far (p := ⟨B, _, none⟩) (by show B + 2 ≠ B; omega) _).set_ 5 _).set_ 1 _
  · have h1 := h.over.set_ c.state.toNat (vi (c.over.getD c.state.toNat 0 + 1))
    have h2 := (h1.far (p := ⟨B + 2, 5, none⟩) (by show B ≠ B + 2; omega) (vi (c.adv + 1))).far (p := ⟨B + 2, 1, none⟩) (by show B ≠ B + 2; omega) (vi (c.state + 1))
    unfold adv1
    simp only [List.map_set]
    exact h2
  · exact (Below.heap_setCell _ _ _ _ (by show B + 1 ≠ B + 2; omega)).trans ((Below.heap_setCell _ _ _ _ (by show B + 1 ≠ B + 2; omega)).trans ((Below.heap_setCell _ _ _ _ (by show B + 1 ≠ B; omega)).trans h.map))
  · exact ((h.slots.keep fun q hq => Below.heap_setCell w ⟨B, c.state.toNat, none⟩ _ _ (by have := hs q hq; show q ≠ B; omega)).keep fun q hq => Below.heap_setCell _ ⟨B + 2, 5, none⟩ _ _ (by have := hs q hq; show q ≠ B + 2; omega)).keep fun q hq => Below.heap_setCell _ ⟨B + 2, 1, none⟩ _ _ (by have := hs q hq; show q ≠ B + 2; omega)

section
variable (n ns j B : Nat) (v : Value) (c : Ch) (a : Int) (w : World) (hI : InvC n ns j c) (h : ChainAt w B n v c) (hj : j ≤ 400)
include hI h hj

set_option maxRecDepth 100000 in
set_option maxHeartbeats 2000000 in
theorem take_adv (h1 : 1 ≤ a) (h2 : a ≤ 40) : Calls Try.prog 63 #[.pointer (some ⟨B + 2, 0, none⟩), act 1 a] w (TakePost B n v c 1 a w) := by
  have f0 : w.cell? ⟨B + 2, 0, none⟩ = some (vi c.left) := by rw [h.cells.cell]; rfl
  have f1 : w.cell? ⟨B + 2, 1, none⟩ = some (vi c.state) := by rw [h.cells.cell]; rfl
  have hal := alloc_cell w (B + 2) h.lo
  have i1 := hI.n40
  have i3 := hI.l0
  have i4 := hI.ln
  have i5 := hI.s0
  have i6 := hI.sn
  have HC := Lib.hid h
  have HI := Lib.hid hI
  by_cases hq : c.state + a < c.left
  · have HP : Hid (poss c 1 a = true) := by show _ = _; simp [poss, hq]
    have HE : Hid (stepC c 1 a = advN c a.toNat) := by show _ = _; simp [stepC]
    clear hI h
    go_enter Try.func63, Try.ntmps63
    go_wp2
    go_quiet (fail)
    go_wp2
    rename Nat => nq
    have hb1 : Below w.heap.size w ((w.alloc (.cells #[vi 1, vi a] 68)).drewN nq) := below_drewN' (by go_grown) _
    have HC1 := Lib.hid (HC.out.next hb1)
    have HB1 : Hid (Below B w ((w.alloc (.cells #[vi 1, vi a] 68)).drewN nq)) := hb1.mono (by have := HC.out.lo; omega)
    have hbox : Cells ((w.alloc (.cells #[vi 1, vi a] 68)).drewN nq) w.heap.size 68 [vi 1, vi a] := Cells.new w _ [vi 1, vi a]
    have HBOX := Lib.hid hbox
    generalize (w.alloc (.cells #[vi 1, vi a] 68)).drewN nq = W1 at HC1 HB1 HBOX ⊢
    clear hb1 hbox f0 f1 hal
    go_loopw [23] (fun i wr => ∃ q : Nat, (q : Int) ≤ a ∧ i = .int .i64 (q : Int) ∧ Hid (ChainAt wr B n v (advN c q)) ∧ Hid (Below B W1 wr)) (fun i _ => (a - intOf i).toNat)
    case atStart => exact ⟨0, by omega, by go_num, HC1, Below.refl _ _⟩
    case round =>
      obtain ⟨q, hqa, rfl, HCr, HBr⟩ := hrel
      by_cases hlt : (q : Int) < a
      · obtain ⟨g1, g2, g3, g4, g5, g6, g7, g8, g9⟩ := advN_facts c n HI.out.s0 HI.out.ol q
        have hbd := advN_over_bd c n j HI.out.s0 HI.out.ol HI.out.ob q
        obtain ⟨s, hs⟩ : ∃ s : Nat, (advN c q).state = (s : Int) := ⟨(c.state + q).toNat, by rw [g2]; omega⟩
        have hsn : s < n := by omega
        have hx := List.getElem?_eq_getElem (l := (advN c q).over) (i := s) (by omega)
        generalize (advN c q).over[s] = x at hx
        obtain ⟨x0, x1⟩ := hbd s x hx
        have a0 : 0 ≤ (advN c q).adv := by rw [g5]; have := HI.out.a0; omega
        have a1 : (advN c q).adv ≤ 20000 := by rw [g5]; have := HI.out.aj; omega
        have e0 : wr.cell? ⟨B + 2, 3, none⟩ = some (.slice (some ⟨B, 0, none⟩) n n) := by rw [HCr.out.cells.cell]; rfl
        have e1 : wr.cell? ⟨B + 2, 1, none⟩ = some (.int .i64 (s : Int)) := by rw [HCr.out.cells.cell, ← hs]; rfl
        have e2 : wr.cell? ⟨B + 2, 5, none⟩ = some (.int .i64 (advN c q).adv) := by rw [HCr.out.cells.cell]; rfl
        have e3 : wr.cell? ⟨B, s, none⟩ = some (.int .i64 x) := by rw [HCr.out.over.cell]; simp [hx]
        have z1 : wr.frozen? ⟨B + 2, 1, none⟩ = false := HCr.out.cells.frozen 1
        have z2 : wr.frozen? ⟨B + 2, 5, none⟩ = false := HCr.out.cells.frozen 5
        have z3 : wr.frozen? ⟨B, s, none⟩ = false := HCr.out.over.frozen s
        have hadv := (HCr.out.next ((Below.refl _ _).drew)).adv
        have hst : (advN c q).state.toNat = s := by rw [hs]; omega
        have hgx : (advN c q).over.getD s 0 = x := by simp [List.getD, hx]
        rw [hst, hgx, hs] at hadv
        have HADV : Hid (ChainAt (((wr.drew.setCell ⟨B, s, none⟩ (.int .i64 (x + 1))).setCell ⟨B + 2, 5, none⟩ (.int .i64 ((advN c q).adv + 1))).setCell ⟨B + 2, 1, none⟩ (.int .i64 ((s : Int) + 1))) B n v (advN c (q + 1))) := hadv
        clear hadv hst hgx hx hbd g1 g2 g3 g4 g5 g6 g7 g8 g9 hs
        generalize (advN c q).adv = ad at *
        go_wp2
        go_region
        go_wp2
        go_roundw
        case rel => exact ⟨q + 1, by omega, by go_num, HADV, (((HBr.out.drew.setCell (p := ⟨B, s, none⟩) (Nat.le_refl _) _).setCell (p := ⟨B + 2, 5, none⟩) (by show B ≤ B + 2; omega) _).setCell (p := ⟨B + 2, 1, none⟩) (by show B ≤ B + 2; omega) _)⟩
        case measure => simp [intOf]; omega
      · obtain rfl : a = (q : Int) := by omega
        go_wp2
        go_ret
        refine ⟨ret_bool HP.out.symm, ?_, HB1.out.trans HBr.out⟩
        rw [if_pos HP.out, HE.out]
        exact HCr.out
  · have HP : Hid (poss c 1 a = false) := by show _ = _; simp [poss, hq]
    clear hI h
    go_enter Try.func63, Try.ntmps63
    go_wp2
    go_quiet (fail)
    go_wp2
    go_ret
    have hb1 : Below w.heap.size w (w.alloc (.cells #[vi 1, vi a] 68)) := by go_grown
    refine ⟨ret_bool HP.out.symm, ?_, below_drewN' (hb1.mono (by have := HC.out.lo; omega)) _⟩
    rw [HP.out]
    exact HC.out.next (below_drewN' hb1 _)

omit hj in
set_option maxRecDepth 100000 in
set_option maxHeartbeats 2000000 in
theorem take_rev : Calls Try.prog 63 #[.pointer (some ⟨B + 2, 0, none⟩), act 4 0] w (TakePost B n v c 4 0 w) := by
  have f0 : w.cell? ⟨B + 2, 0, none⟩ = some (vi c.left) := by rw [h.cells.cell]; rfl
  have f1 : w.cell? ⟨B + 2, 1, none⟩ = some (vi c.state) := by rw [h.cells.cell]; rfl
  have z0 : w.frozen? ⟨B + 2, 0, none⟩ = false := h.cells.frozen 0
  have hal := alloc_cell w (B + 2) h.lo
  have hfr := alloc_frozen w (B + 2) h.lo
  have i1 := hI.n40
  have i3 := hI.l0
  have i4 := hI.ln
  have i5 := hI.s0
  have i6 := hI.sn
  have HC := Lib.hid h
  have HPP : Hid (poss c 4 0 = (c.state == c.left - 1)) := by show _ = _; simp [poss]
  have hb1 : Hid (Below w.heap.size w (w.alloc (.cells #[vi 4, vi 0] 68))) := by show Below _ _ _; go_grown
  by_cases hq : c.state = c.left - 1
  · have HE : Hid (stepC c 4 0 = { c with left := c.left - 1 }) := by show _ = _; simp [stepC]
    have hd : (c.state != c.left - 1) = false := by simp [hq]
    have HQ := Lib.hid hq
    clear hI h hq
    go_enter Try.func63, Try.ntmps63
    go_wp2
    go_quiet (fail)
    rename Nat => nq
    go_wp2
    go_ret
    have hC1 := HC.out.next (below_drewN' hb1.out nq)
    have HP : poss c 4 0 = true := by rw [HPP.out]; simpa using HQ.out
    refine ⟨ret_bool HP.symm, ?_, (below_drewN' (hb1.out.mono (by have := HC.out.lo; omega)) nq).setCell (p := ⟨B + 2, 0, none⟩) (by show B ≤ B + 2; omega) _⟩
    rw [if_pos HP, HE.out]
    exact hC1.field 0 (c.left - 1)
  · have hd : (c.state != c.left - 1) = true := by simpa using hq
    have HP : Hid (poss c 4 0 = false) := by show _ = _; rw [HPP.out]; simpa using hq
    clear hI h hq
    go_enter Try.func63, Try.ntmps63
    go_wp2
    go_quiet (fail)
    go_wp2
    go_ret
    refine ⟨ret_bool HP.out.symm, ?_, below_drewN' (hb1.out.mono (by have := HC.out.lo; omega)) _⟩
    rw [HP.out]
    exact HC.out.next (below_drewN' hb1.out _)

set_option maxRecDepth 100000 in
set_option maxHeartbeats 2000000 in
theorem take_load (h1 : 0 ≤ a) (h2 : a ≤ 7) : Calls Try.prog 63 #[.pointer (some ⟨B + 2, 0, none⟩), act 3 a] w (TakePost B n v c 3 a w) := by
  have f2 : w.cell? ⟨B + 2, 2, none⟩ = some v := by rw [h.cells.cell]; rfl
  have f1 : w.cell? ⟨B + 2, 1, none⟩ = some (vi c.state) := by rw [h.cells.cell]; rfl
  have f7 : w.cell? ⟨B + 2, 7, none⟩ = some (vi c.loads) := by rw [h.cells.cell]; rfl
  have z1 : w.frozen? ⟨B + 2, 1, none⟩ = false := h.cells.frozen 1
  have z7 : w.frozen? ⟨B + 2, 7, none⟩ = false := h.cells.frozen 7
  have hal := alloc_cell w (B + 2) h.lo
  have hfr := alloc_frozen w (B + 2) h.lo
  have hS := h.slots
  have i2 := hI.ns8
  have i7 : c.slots.length ≤ 8 := by rw [hI.sl]; exact i2
  have i8 := hI.d0
  have i9 := hI.dj
  obtain ⟨A, cap, rfl⟩ := hS.form
  have HC := Lib.hid h
  have hb1 : Hid (Below w.heap.size w (w.alloc (.cells #[vi 3, vi a] 68))) := by show Below _ _ _; go_grown
  by_cases hlt : a < (c.slots.length : Int)
  · obtain ⟨g, x, rfl, _, hgl, hx, hcx, _⟩ := hS.at_ (k := a.toNat) (by omega)
    have hxd : c.slots.getD a.toNat 0 = x := by simp [List.getD, hx]
    have hal2 := alloc_cell w g hgl
    have HPP : Hid (poss c 3 a = decide (0 ≤ x)) := by
      show _ = _
      simp only [poss]
      rw [if_neg (by omega), if_neg (by omega), if_pos trivial, hxd]
      simp [hlt]
    have HE : Hid (stepC c 3 a = { c with state := x, loads := c.loads + 1 }) := by
      show _ = _; unfold stepC; rw [if_neg (by omega), if_neg (by omega), if_pos rfl, hxd]
    have hlt' : ¬ (c.slots.length : Int) ≤ a := by omega
    clear hS hI h hx hxd
    by_cases h0 : 0 ≤ x
    · have HP : Hid (poss c 3 a = true) := by show _ = _; rw [HPP.out]; simpa using h0
      go_enter Try.func63, Try.ntmps63
      go_wp2
      go_quiet (fail)
      rename Nat => nq
      go_wp2
      go_region
      go_wp2
      go_ret
      have hC1 := (HC.out.next (below_drewN' hb1.out nq)).next ((Below.refl _ _).drew)
      refine ⟨ret_bool HP.out.symm, ?_, ((((below_drewN' (hb1.out.mono (by have := HC.out.lo; omega)) nq).drew).setCell (p := ⟨B + 2, 1, none⟩) (by show B ≤ B + 2; omega) _).setCell (p := ⟨B + 2, 7, none⟩) (by show B ≤ B + 2; omega) _)⟩
      rw [if_pos HP.out, HE.out]
      exact (hC1.field 1 x (c' := { c with state := x })).field 7 (c.loads + 1)
    · have HP : Hid (poss c 3 a = false) := by show _ = _; rw [HPP.out]; simpa using h0
      go_enter Try.func63, Try.ntmps63
      go_wp2
      go_quiet (fail)
      rename Nat => nq
      go_wp2
      go_ret
      refine ⟨ret_bool HP.out.symm, ?_, below_drewN' (hb1.out.mono (by have := HC.out.lo; omega)) _⟩
      rw [HP.out]
      exact HC.out.next (below_drewN' hb1.out _)
  · have HP : Hid (poss c 3 a = false) := by
      show _ = _
      simp only [poss]
      rw [if_neg (by omega), if_neg (by omega), if_pos trivial]
      simp [hlt]
    have hd : decide ((c.slots.length : Int) ≤ a) = true := by simpa using hlt
    clear hS hI h
    go_enter Try.func63, Try.ntmps63
    go_wp2
    go_quiet (fail)
    rename Nat => nq
    go_wp2
    go_ret
    refine ⟨ret_bool HP.out.symm, ?_, below_drewN' (hb1.out.mono (by have := HC.out.lo; omega)) _⟩
    rw [HP.out]
    exact HC.out.next (below_drewN' hb1.out _)


set_option maxRecDepth 100000 in
set_option maxHeartbeats 2000000 in
theorem take_store (h1 : 0 ≤ a) (h2 : a ≤ 7) : Calls Try.prog 63 #[.pointer (some ⟨B + 2, 0, none⟩), act 2 a] w (TakePost B n v c 2 a w) := by
  have f2 : w.cell? ⟨B + 2, 2, none⟩ = some v := by rw [h.cells.cell]; rfl
  have f1 : w.cell? ⟨B + 2, 1, none⟩ = some (vi c.state) := by rw [h.cells.cell]; rfl
  have hal := alloc_cell w (B + 2) h.lo
  have hfr := alloc_frozen w (B + 2) h.lo
  have hS := h.slots
  have i2 := hI.ns8
  have i7 : c.slots.length ≤ 8 := by rw [hI.sl]; exact i2
  have i8 := hI.t0
  have i9 := hI.tj
  obtain ⟨A, cap, rfl⟩ := hS.form
  have HC := Lib.hid h
  have hb1 : Hid (Below w.heap.size w (w.alloc (.cells #[vi 2, vi a] 68))) := by show Below _ _ _; go_grown
  by_cases hlt : a < (c.slots.length : Int)
  · have HP : Hid (poss c 2 a = true) := by show _ = _; simp [poss, hlt]
    have HE : Hid (stepC c 2 a = { c with slots := c.slots.set a.toNat c.state, used := putE a (.bool true) c.used, stores := c.stores + 1 }) := by show _ = _; simp [stepC]
    have hlt' : ¬ (c.slots.length : Int) ≤ a := by omega
    clear hS hI h
    go_enter Try.func63, Try.ntmps63
    go_wp2
    go_quiet (fail)
    rename Nat => nq
    go_wp2
    have HC1 := Lib.hid (HC.out.next (below_drewN' hb1.out nq))
    have HB1 : Hid (Below B w ((w.alloc (.cells #[vi 2, vi a] 68)).drewN nq)) := (below_drewN' hb1.out nq).mono (by have := HC.out.lo; omega)
    have HBOX : Hid (Cells ((w.alloc (.cells #[vi 2, vi a] 68)).drewN nq) w.heap.size 68 [vi 2, vi a]) := Cells.new w _ [vi 2, vi a]
    have HLT : Hid (B + 2 < w.heap.size) := HC.out.lo
    generalize (w.alloc (.cells #[vi 2, vi a] 68)).drewN nq = W1 at HC1 HB1 HBOX ⊢
    clear f1 f2 hal hfr hb1
    obtain ⟨g, x, rfl, hbg, hgl, hx, hcx, hfx⟩ := HC1.out.slots.at_ (k := a.toNat) (by omega)
    have e1 : W1.cell? ⟨B + 2, 1, none⟩ = some (vi c.state) := by rw [HC1.out.cells.cell]; rfl
    have e2 : W1.cell? ⟨B + 2, 2, none⟩ = some (.slice (some ⟨g, 0, none⟩) c.slots.length cap) := by rw [HC1.out.cells.cell]; rfl
    have e6 : W1.cell? ⟨B + 2, 6, none⟩ = some (vi c.stores) := by rw [HC1.out.cells.cell]; rfl
    have e9 : W1.cell? ⟨B + 2, 9, none⟩ = some (.map (some (B + 1))) := by rw [HC1.out.cells.cell]; rfl
    have eb : W1.cell? ⟨w.heap.size, 1, none⟩ = some (vi a) := by rw [HBOX.out.cell]; rfl
    have hs1 : ChainAt ((W1.setCell ⟨g, a.toNat, none⟩ (vi c.state)).drew) B n (.slice (some ⟨g, 0, none⟩) c.slots.length cap) { c with slots := c.slots.set a.toNat c.state } := by
      have h0 := HC1.out.next ((Below.refl _ _).drew)
      refine ⟨h0.cells.far (p := ⟨g, _, none⟩) (by show B + 2 ≠ g; omega) _, h0.over.far (p := ⟨g, _, none⟩) (by show B ≠ g; omega) _, (Below.heap_setCell _ _ _ _ (by show B + 1 ≠ g; omega)).trans h0.map, ?_⟩
      have h0 := SlotsAt.store h0.slots a.toNat c.state
      unfold SlotsAt at h0 ⊢
      simp only [List.length_set] at h0 ⊢
      exact h0
    obtain ⟨v1, i1, m1, q1, q2, q3⟩ := run_mapEntry lawI Try.underlying61 zeroB hs1.map a
    have at1 : MapAt encI (setM encI ((W1.setCell ⟨g, a.toNat, none⟩ (vi c.state)).drew) (B + 1) m1) (B + 1) m1 := setM_at m1 hs1.map.lt
    have q4 := run_entryStore (T := 61) at1 i1 a (.bool true) v1 q2
    rw [q3, setM_setM] at q4
    have c1 : ∀ q i, q ≠ B + 1 → (setM encI ((W1.setCell ⟨g, a.toNat, none⟩ (vi c.state)).drew) (B + 1) m1).cell? ⟨q, i, none⟩ = ((W1.setCell ⟨g, a.toNat, none⟩ (vi c.state)).drew).cell? ⟨q, i, none⟩ := fun q i h => setM_cell (a := ⟨q, i, none⟩) m1 h
    have ne1 : w.heap.size ≠ g := fun e => by
      have h1 := Cells.typed HBOX.out
      have h2 : Typed W1 g 2 := own_typed HC1.out.slots rfl
      rw [e] at h1
      exact h1.ne h2 (by decide) rfl
    have hD : ChainAt (setM encI ((W1.setCell ⟨g, a.toNat, none⟩ (vi c.state)).drew) (B + 1) (putE a (.bool true) c.used)) B n (.slice (some ⟨g, 0, none⟩) c.slots.length cap) { c with slots := c.slots.set a.toNat c.state, used := putE a (.bool true) c.used } := by
      refine ⟨(setM_other _ (by omega)).trans hs1.cells, (setM_other _ (by omega)).trans hs1.over, setM_at _ hs1.map.lt, hs1.slots.keep fun q hq => setM_other _ (by
        have := (World.ownsRow.lt hs1.slots q hq).1; omega)⟩
    have hBd : Below B W1 (setM encI ((W1.setCell ⟨g, a.toNat, none⟩ (vi c.state)).drew) (B + 1) (putE a (.bool true) c.used)) := by
      have h1 : Only (fun k => B ≤ k) W1 (setM encI ((W1.setCell ⟨g, a.toNat, none⟩ (vi c.state)).drew) (B + 1) (putE a (.bool true) c.used)) := by
        have h0 : Only (fun k => B ≤ k) W1 ((W1.setCell ⟨g, a.toNat, none⟩ (vi c.state)).drew) :=
          ⟨rfl, rfl, rfl, by simp [World.setCell, World.drew], fun k _ hk => Below.heap_setCell W1 ⟨g, a.toNat, none⟩ _ k (by have : ¬ B ≤ k := hk; show k ≠ g; omega)⟩
        exact h0.setM encI (r := B + 1) (by show B ≤ B + 1; omega) _
      exact h1.below (Nat.le_of_lt HC1.out.over.lt) (fun k hk => hk)
    have HD := Lib.hid hD
    have HBd := Lib.hid hBd
    have d6 : (setM encI ((W1.setCell ⟨g, a.toNat, none⟩ (vi c.state)).drew) (B + 1) (putE a (.bool true) c.used)).cell? ⟨B + 2, 6, none⟩ = some (vi c.stores) := by rw [hD.cells.cell]; rfl
    have z6 : (setM encI ((W1.setCell ⟨g, a.toNat, none⟩ (vi c.state)).drew) (B + 1) (putE a (.bool true) c.used)).frozen? ⟨B + 2, 6, none⟩ = false := hD.cells.frozen 6
    have gb : (setM encI ((W1.setCell ⟨g, a.toNat, none⟩ (vi c.state)).drew) (B + 1) m1).cell? ⟨w.heap.size, 1, none⟩ = some (vi a) := by
      rw [c1 _ _ (by have := HLT.out; omega)]
      exact (World.cell?_setCell_other W1 _ _ _ (fun e => ne1 (by injection e with h; exact h.symm))).trans eb
    simp only [encI] at q1
    clear hs1 at1 c1 hD hBd q2 q3 hx
    generalize setM encI ((W1.setCell ⟨g, a.toNat, none⟩ (vi c.state)).drew) (B + 1) (putE a (.bool true) c.used) = Wd at q4 d6 z6 HD HBd
    generalize setM encI ((W1.setCell ⟨g, a.toNat, none⟩ (vi c.state)).drew) (B + 1) m1 = Wa at q1 q4 gb
    have NE := Lib.hid ne1
    go_region
    go_wp2
    go_ret
    refine ⟨ret_bool HP.out.symm, ?_, (HB1.out.trans HBd.out).setCell (p := ⟨B + 2, 6, none⟩) (by show B ≤ B + 2; omega) _⟩
    rw [if_pos HP.out, HE.out]
    exact HD.out.field 6 (c.stores + 1)
  · have HP : Hid (poss c 2 a = false) := by show _ = _; simp [poss, hlt]
    have hd : decide ((c.slots.length : Int) ≤ a) = true := by simpa using hlt
    clear hS hI h
    go_enter Try.func63, Try.ntmps63
    go_wp2
    go_quiet (fail)
    rename Nat => nq
    go_wp2
    go_ret
    refine ⟨ret_bool HP.out.symm, ?_, below_drewN' (hb1.out.mono (by have := HC.out.lo; omega)) _⟩
    rw [HP.out]
    exact HC.out.next (below_drewN' hb1.out _)
end

theorem take_any (n ns j B : Nat) (v : Value) (c : Ch) (k a : Int) (w : World) (hI : InvC n ns j c) (ha : isAct k a = true) (h : ChainAt w B n v c) (hj : j ≤ 400) :
    Calls Try.prog 63 #[.pointer (some ⟨B + 2, 0, none⟩), act k a] w (TakePost B n v c k a w) := by
  rcases isAct_cases ha with ⟨rfl, h1, h2⟩ | ⟨rfl, h1, h2⟩ | ⟨rfl, h1, h2⟩ | ⟨rfl, rfl⟩
  · exact take_adv n ns j B v c a w hI h hj h1 h2
  · exact take_store n ns j B v c a w hI h hj h1 h2
  · exact take_load n ns j B v c a w hI h hj h1 h2
  · exact take_rev n ns j B v c w hI h

end Go.Proofs.Ytnbpcdcdfkfmiaa
