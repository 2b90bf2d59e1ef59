/- Walks of AdvancesOf of both sides. -/
import Derived.Test.YtnbpcdcdfkfmiaaWFirst
import Derived.Test.YtnbpcdcdfkfmiaaWMark
namespace Go.Proofs.Ytnbpcdcdfkfmiaa
open Go.RowKit Plain

/-- what AdvancesOf returns -/
def avL (l : List (Int × Int)) (n slots : Int) : List Int := if planC l n slots = 0 then (if badV l n.toNat slots.toNat < 0 then (badC l (newC n.toNat slots.toNat) 0).1.over else []) else []
def avC (l : List (Int × Int)) (n slots : Int) : Int := if planC l n slots = 0 then (if badV l n.toNat slots.toNat < 0 then 0 else 4) else planC l n slots
def AdvPost (zs : List Int) (code : Int) (w : World) (e : Ending) (w' : World) : Prop :=
  ∃ A cap, e = .returned (.tuple #[.slice A zs.length cap, vi code]) ∧ IntsM w' w.heap.size A zs ∧ Below w.heap.size w w' ∧ zs.length ≤ 40

theorem Cells.intsM {w : World} {g B : Nat} {t : TypeId} {zs : List Int} (h : Cells w g t (zs.map vi)) (hB : B ≤ g) : IntsM w B (some ⟨g, 0, none⟩) zs :=
  fun _ => ⟨g, 0, rfl, hB, h.lt, fun j x hx => ⟨by rw [h.cell, Nat.zero_add]; simp [hx], h.frozen _⟩⟩
theorem Acts.get {w : World} {l : List (Int × Int)} {b o k : Nat} {x y : Int} (h : Acts w (some ⟨b, o, none⟩) l) (hx : l[k]? = some (x, y)) :
    w.cell? ⟨b, o + k * 2, none⟩ = some (.int .i64 x) ∧ w.cell? ⟨b, o + k * 2 + 1, none⟩ = some (.int .i64 y) := by
  have hk : k < l.length := (List.getElem?_eq_some_iff.1 hx).1
  obtain ⟨b', o', e, _, hc⟩ := h (by omega)
  obtain ⟨rfl, rfl⟩ : b = b' ∧ o = o' := by simpa using e
  exact hc k _ hx

set_option maxHeartbeats 1000000 in
theorem advancesI (A : Option Addr) (cap : Nat) (l : List (Int × Int)) (n slots : Int) (w : World) (hA : Acts w A l) (hn : l.length ≤ 4611686018427387904) :
    Calls Try.prog 17 #[.slice A l.length cap, .int .i64 n, .int .i64 slots] w (AdvPost (avL l n slots) (avC l n slots) w) := by
  by_cases h0 : planC l n slots = 0
  · obtain ⟨hs, n0, n40, s0, s8⟩ := planC_ok h0
    obtain ⟨m, rfl⟩ := Int.eq_ofNat_of_zero_le n0
    obtain ⟨s, rfl⟩ := Int.eq_ofNat_of_zero_le s0
    have HV : Hid (avL l m s = (if badV l m s < 0 then (badC l (newC m s) 0).1.over else []) ∧ avC l m s = (if badV l m s < 0 then 0 else 4)) := by show _ ∧ _; simp [avL, avC, h0]
    have H0 := Lib.hid h0; clear h0
    have HS := Lib.hid hs; clear hs
    go_enter Try.func17, Try.ntmps17
    go_wp2_with fail
    refine (isPlan_any A cap l m s w hA hn).mono ?_; rintro e w1 ⟨rfl, hb⟩
    rw [H0.out]
    have HB := Lib.hid hb; clear hb
    go_wp2_with fail
    refine (firstBad_any A cap l m s w1 (hA.below HB.out) HS.out (by omega) (by omega)).mono ?_
    rintro e w2 ⟨rfl, hb2, v, hC, j, _, hI⟩
    have HC := Lib.hid hC; clear hC
    have HI := Lib.hid hI; clear hI
    have f3 : w2.cell? ⟨w1.heap.size + 2, 3, none⟩ = some (.slice (some ⟨w1.heap.size, 0, none⟩) m m) := by rw [HC.out.cells.cell]; rfl
    generalize badV l m s = q at *
    by_cases hq : q < 0
    · go_wp2
      go_ret2
      rw [HV.out.1, HV.out.2, if_pos hq, if_pos hq]
      refine ⟨some ⟨w1.heap.size, 0, none⟩, m, ?_, HC.out.over.intsM HB.out.size, bnext HB.out hb2, ?_⟩
      · rw [HI.out.ol]; rfl
      · rw [HI.out.ol]; omega
    · go_wp2
      go_ret2
      rw [HV.out.1, HV.out.2, if_neg (by omega), if_neg (by omega)]
      exact ⟨none, 0, rfl, IntsM.nil _ _ _, bnext HB.out hb2, by simp⟩
  · have HV : Hid (avL l n slots = [] ∧ avC l n slots = planC l n slots) := by show _ ∧ _; simp [avL, avC, h0]
    have hd : (planC l n slots == 0) = false := by simpa using h0
    clear h0
    go_enter Try.func17, Try.ntmps17
    go_wp2_with fail
    refine (isPlan_any A cap l n slots w hA hn).mono ?_; rintro e w1 ⟨rfl, hb⟩
    go_wp2
    go_ret2
    rw [HV.out.1, HV.out.2]
    exact ⟨none, 0, rfl, IntsM.nil _ _ _, hb, by simp⟩

/-- the reference's run behind p with counts in block g -/
structure AdvSt (w wr : World) (g p : Nat) (v : Value) (c : Ch) (ov : List Int) : Prop where
  run : RunAt wr p (p + 1) v c
  over : Cells wr g 2 (ov.map vi)
  below : Below w.heap.size w wr
  gp : g < p
  wg : w.heap.size ≤ g
theorem AdvSt.next {w wr w' : World} {g p : Nat} {v : Value} {c : Ch} {ov : List Int} (h : AdvSt w wr g p v c ov) (hb : Below wr.heap.size wr w') : AdvSt w w' g p v c ov :=
  ⟨h.run.next hb, h.over.next hb, bnext h.below hb, h.gp, h.wg⟩
theorem AdvSt.store {w wr : World} {g p : Nat} {v : Value} {c : Ch} {ov : List Int} (h : AdvSt w wr g p v c ov) (i : Nat) (x : Int) : AdvSt w (wr.setCell ⟨g, i, none⟩ (vi x)) g p v c (ov.set i x) := by
  have := h.gp
  refine ⟨⟨h.run.cells.far (p := ⟨g, i, none⟩) (by show p ≠ g; omega) _, h.run.slots.keep fun q hq => Below.heap_setCell _ _ _ _ (by have := (World.ownsRow.lt h.run.slots q hq).1; show q ≠ g; omega), h.run.lt⟩, ?_, h.below.setCell (p := ⟨g, i, none⟩) h.wg _, h.gp, h.wg⟩
  rw [List.map_set]; exact h.over.set_ i _
theorem AdvSt.acted {w wr w' : World} {g p : Nat} {v : Value} {c c' : Ch} {ov : List Int} (h : AdvSt w wr g p v c ov) (hR : RunAt w' p (p + 1) v c') (hb : Below p wr w') : AdvSt w w' g p v c' ov :=
  ⟨hR, (hb.block g h.gp).trans h.over, h.below.trans (hb.mono (by have := h.gp; have := h.wg; omega)), h.gp, h.wg⟩
theorem step_over {c : Ch} {x y : Int} (h : x ≠ 1) : (stepC c x y).over = c.over := by
  unfold stepC; rw [if_neg h]; split <;> (try split) <;> rfl
theorem poss_of {l : List (Int × Int)} {m s k : Nat} {c : Ch} {x y : Int} (hq : badV l m s < 0) (hE : badC l (newC m s) 0 = badC (l.drop k) c k) (hx : l[k]? = some (x, y)) : poss c x y = true := by
  cases hp : poss c x y
  · have : badV l m s = k := by unfold badV; rw [hE, badC_no hx hp]
    omega
  · rfl

end Go.Proofs.Ytnbpcdcdfkfmiaa
