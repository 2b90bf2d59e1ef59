/- Walks: one action done and added to a list: l06Do. -/
import Derived.Test.YtdhicgdcjfcomaaWRun
import Derived.Test.YtdhicgdcjfcomaaWPlan4
namespace Go.Proofs.Ytdhicgdcjfcomaa
open Go.RowKit Plain

theorem Only.ofB {B : Nat} {w w' : World} (h : Below B w w') (hs : w.heap.size ≤ w'.heap.size) : Only (fun q => B ≤ q) w w' :=
  ⟨h.os, h.tape, h.output, hs, fun k _ hk => h.block k (by omega)⟩

/-- what an action that may be done leaves: the chain, the list -/
def DoR (c : Ch) (l : List (Int × Int)) (k a : Int) (c' : Ch) (l' : List (Int × Int)) : Prop :=
  (isAct k a = true ∧ poss c k a = true ∧ c' = stepC c k a ∧ l' = l ++ [(k, a)]) ∨ ((isAct k a && poss c k a) = false ∧ c' = c ∧ l' = l)
def DoPost (n ns r base0 base : Nat) (v : Value) (c : Ch) (l : List (Int × Int)) (k a : Int) (w : World) (e : Ending) (w' : World) : Prop :=
  ∃ c' l' Av' cp', e = .returned (.slice Av' l'.length cp') ∧ DoR c l k a c' l' ∧ InvC n ns l'.length c' ∧ RunAt w' r base0 v c' ∧ ActRow w' base (.slice Av' l'.length cp') l' ∧ Below r w w' ∧ w.heap.size ≤ w'.heap.size ∧ l'.length ≤ l.length + 1

set_option maxRecDepth 100000 in
set_option maxHeartbeats 1000000 in
theorem do_any (n ns r base0 base cp : Nat) (v : Value) (c : Ch) (l : List (Int × Int)) (Av : Option Addr) (k a : Int) (w : World) (hI : InvC n ns l.length c) (hR : RunAt w r base0 v c) (hL : ActRow w base (.slice Av l.length cp) l)
    (hl : l.length ≤ 1000) (hrb : r < base) (hvb : ∀ q, v.ownBlock = some q → q < base) (hbw : base ≤ w.heap.size) :
    Calls Try.prog 28 #[.pointer (some ⟨r, 0, none⟩), .slice Av l.length cp, .int .i64 k, .int .i64 a] w (DoPost n ns r base0 base v c l k a w) := by
  obtain ⟨i0, hi, hz0, hz1, hz2⟩ := info_parts Try.infoA
  have HI := Lib.hid hI
  have HR := Lib.hid hR
  have HL := Lib.hid hL
  clear hI hR hL
  have hb1 : Below w.heap.size w (w.alloc (.cells #[.int .i64 k, .int .i64 a] 61)) := by go_grown
  have hrw := HR.out.size
  cases ha : isAct k a
  · have HA := Lib.hid ha
    have HAC := Lib.hid (l06Action_b false k a ha)
    clear ha
    go_enter Try.func28, Try.ntmps28
    go_wp2_with (go_at_call 29; refine (HAC.out _).mono ?_; rintro e w1 ⟨rfl, hb2⟩)
    go_ret
    have hb := bnext hb1 hb2
    exact ⟨c, l, Av, cp, rfl, .inr ⟨by rw [HA.out]; rfl, rfl, rfl⟩, HI.out, HR.out.next hb, HL.out.next hb, hb.mono (Nat.le_of_lt hrw), hb.size, by omega⟩
  · have HA := Lib.hid ha
    have HAC := Lib.hid (l06Action_b true k a ha)
    clear ha
    have hBX : Cells (w.alloc (.cells #[.int .i64 k, .int .i64 a] 61)) w.heap.size 61 [.int .i64 k, .int .i64 a] := Cells.new w _ _
    cases hp : poss c k a
    · have HP := Lib.hid hp
      clear hp
      go_enter Try.func28, Try.ntmps28
      go_wp2_with fail
      refine (HAC.out _).mono ?_; rintro e w1 ⟨rfl, hb2⟩
      have hb := bnext hb1 hb2
      have y0 : w1.cell? ⟨w.heap.size, 0, none⟩ = some (.int .i64 k) := by rw [(hBX.next hb2).cell]; rfl
      have y1 : w1.cell? ⟨w.heap.size, 1, none⟩ = some (.int .i64 a) := by rw [(hBX.next hb2).cell]; rfl
      have HR1 := Lib.hid (HR.out.next hb)
      have HL1 := Lib.hid (HL.out.next hb)
      have HB := Lib.hid hb
      have HPO := Lib.hid (possible_any n ns l.length r base0 v c k a w1 HI.out HA.out HR1.out)
      rw [HP.out] at HPO
      clear hb2 hb hb1 hBX
      go_wp2_with fail
      refine HPO.out.mono ?_; rintro e w2 ⟨rfl, hb2⟩
      have hb := bnext HB.out hb2
      clear y0 y1
      go_wp2
      go_ret
      exact ⟨c, l, Av, cp, rfl, .inr ⟨by rw [HP.out, HA.out]; rfl, rfl, rfl⟩, HI.out, HR.out.next hb, HL.out.next hb, hb.mono (Nat.le_of_lt hrw), hb.size, by omega⟩
    · have HP := Lib.hid hp
      clear hp
      go_enter Try.func28, Try.ntmps28
      go_wp2_with fail
      refine (HAC.out _).mono ?_; rintro e w1 ⟨rfl, hb2⟩
      have hb := bnext hb1 hb2
      have HBX := Lib.hid (hBX.next hb2)
      have y0 : w1.cell? ⟨w.heap.size, 0, none⟩ = some (.int .i64 k) := by rw [HBX.out.cell]; rfl
      have y1 : w1.cell? ⟨w.heap.size, 1, none⟩ = some (.int .i64 a) := by rw [HBX.out.cell]; rfl
      have HR1 := Lib.hid (HR.out.next hb)
      have HL1 := Lib.hid (HL.out.next hb)
      have HB := Lib.hid hb
      have hw1 : w.heap.size < w1.heap.size := HBX.out.lt
      have HPO := Lib.hid (possible_any n ns l.length r base0 v c k a w1 HI.out HA.out HR1.out)
      rw [HP.out] at HPO
      clear hb2 hb hb1 hBX
      go_wp2_with fail
      refine HPO.out.mono ?_; rintro e w2 ⟨rfl, hb2⟩
      have hb := bnext HB.out hb2
      have HBX2 := Lib.hid (HBX.out.next hb2)
      clear y0 y1 HPO
      have y0 : w2.cell? ⟨w.heap.size, 0, none⟩ = some (.int .i64 k) := by rw [HBX2.out.cell]; rfl
      have y1 : w2.cell? ⟨w.heap.size, 1, none⟩ = some (.int .i64 a) := by rw [HBX2.out.cell]; rfl
      have HR2 := Lib.hid (HR1.out.next hb2)
      have HL2 := Lib.hid (HL1.out.next hb2)
      have HB2 := Lib.hid hb
      have hw2 := hb2.size
      clear hb2 hb HB HR1 HL1 HBX
      go_wp2_with fail
      refine (act_only n ns l.length r base0 v c k a w2 HI.out HA.out HP.out HR2.out).mono ?_
      rintro e w3 ⟨⟨rfl, hR3, hb3⟩, ho3⟩
      have hne : w.heap.size ≠ r := by omega
      have hbk : ¬ RunBlk r v w.heap.size := fun h => by
        rcases h with h | h
        · omega
        · have := hvb _ h; omega
      have hL3 : ActRow w3 base (.slice Av l.length cp) l := HL2.out.keep fun g hg => by
        have hgl := HL2.out.lt hg
        exact ho3.block g hgl.2 (fun h => by
          rcases h with h | h
          · omega
          · have := hvb _ h; omega)
      have hBX3 : Cells w3 w.heap.size 61 [.int .i64 k, .int .i64 a] := (ho3.block _ HBX2.out.lt hbk).trans HBX2.out
      clear y0 y1
      have y0 : w3.cell? ⟨w.heap.size, 0, none⟩ = some (.int .i64 k) := by rw [hBX3.cell]; rfl
      have y1 : w3.cell? ⟨w.heap.size, 1, none⟩ = some (.int .i64 a) := by rw [hBX3.cell]; rfl
      have HI3 := Lib.hid (HI.out.step HA.out HP.out)
      have HR3 := Lib.hid hR3
      have HL3 := Lib.hid hL3
      have hs3 := ho3.size
      have HB3 : Hid (Below r w w3) := (HB2.out.mono (Nat.le_of_lt hrw)).trans hb3
      clear hR3 hL3 hb3 ho3 hBX3 HR2 HL2 HB2 HBX2 hbk hne
      go_wp2_with (at_builtin; refine wpList_append_own _ rfl _ _ 24 rfl base 61 i0 (act 0 0) 2 16 Try.underlying24 hi hz0 hz1 hz2 rfl (by decide) _ l.length _ rfl (HL3.out.own.alloc _) ⟨w3.heap.size, 0, none⟩ 1 1 [.int .i64 k, .int .i64 a] rfl rfl ?c1 ?c2 ?c3 ?c4 ?c5 ?_)
      try (case c1 => exact cell_two_new _ _ _ _)
      try (case c2 => intro u hu; simp at hu; rcases hu with rfl | rfl <;> rfl)
      case c3 => unfold maxLen; omega
      case c4 => omega
      case c5 => first | omega | (simp; omega) | (simp; done)
      intro v2 w4 hown hg _
      obtain ⟨hR4, hO4⟩ := ActRow.push _ rfl hown hg
      obtain ⟨A2, cp2, hv2⟩ := hR4.form
      subst hv2
      have hb4 : Below base w3 w4 := hO4.below (by omega) (fun q hq => (HL3.out.lt hq).1)
      have HR4 : Hid (RunAt w4 r base0 v (stepC c k a)) := ⟨(hb4.block r hrb).trans HR3.out.cells, HR3.out.slots.keep fun g hg => hb4.block g (hvb g hg), HR3.out.lt⟩
      have HL4 := Lib.hid hR4
      have HB4 : Hid (Below r w w4) := HB3.out.trans (hb4.mono (Nat.le_of_lt hrb))
      have hs4 := hO4.size
      rw [show (l ++ [(k, a)]).length = l.length + 1 by simp]
      clear hown hg hR4 hO4 hb4
      go_wp2
      go_ret
      exact ⟨_, l ++ [(k, a)], A2, cp2, by rw [show (l ++ [(k, a)]).length = l.length + 1 by simp]; rfl, .inl ⟨HA.out, HP.out, rfl, rfl⟩, by rw [show (l ++ [(k, a)]).length = l.length + 1 by simp]; exact HI3.out, HR4.out, HL4.out, HB4.out, by omega, by simp⟩

end Go.Proofs.Ytdhicgdcjfcomaa
