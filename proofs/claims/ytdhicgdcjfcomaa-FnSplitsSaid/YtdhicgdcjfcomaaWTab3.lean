/- The walk of l06Table. -/
import Derived.Test.YtdhicgdcjfcomaaWTab2
namespace Go.Proofs.Ytdhicgdcjfcomaa
open Go.RowKit Plain

theorem Try.infoR : (Try.prog.info? 25).map (fun i => (i.zero, i.size, i.bytes)) = some (some (.slice none 0 0), 1, 24) := by kernel_rfl
theorem Try.infoL : (Try.prog.info? 65).map (fun i => (i.zero, i.size, i.bytes)) = some (some (.slice none 0 0), 1, 24) := by kernel_rfl

def TablePost (ws : List Int) (s : Nat) (w : World) (e : Ending) (w' : World) : Prop := ∃ g cp lb lc rb,
  e = .returned (.slice (some ⟨g, 0, none⟩) (s + 1) cp) ∧ TabSt w w' ws.length (.slice (some ⟨g, 0, none⟩) (s + 1) cp) (s + 1) lb lc rb (fun i x y => lcost ws x y i)

set_option maxRecDepth 100000 in
set_option maxHeartbeats 2000000 in
theorem table_any (A : Option Addr) (cap : Nat) (ws : List Int) (s : Nat) (w : World) (hA : Ints w A ws) (hw : IsW ws) (h40 : ws.length ≤ 40) (hs : s ≤ 8) :
    Calls Try.prog 25 #[.slice A ws.length cap, .int .i64 s] w (TablePost ws s w) := by
  go_enter Try.func25, Try.ntmps25
  go_wp2
  obtain ⟨iR, hiR, hzR0, hzR1, hzR2⟩ := info_parts Try.infoR
  obtain ⟨iL, hiL, hzL0, hzL1, hzL2⟩ := info_parts Try.infoL
  have hmk := run_make_row' (P := Try.prog) 25 2 (.int .i64 0) 8 Try.underlying25 Try.infoI rfl .i64 .i64 (ws.length + 1) (by omega) (by omega)
  rw [show ((ws.length + 1 : Nat) : Int) = (ws.length : Int) + 1 by omega, madeCells_one, nums_zero] at hmk
  go_loopw [6, 7] (fun o i wr => ∃ (c : Nat) (vo : Value) (lb lc : Nat → Nat) (rb : Nat → Nat → Nat), c ≤ s + 1 ∧ i = .int .i64 (c : Int) ∧ o = vo ∧ Hid (TabSt w wr ws.length vo c lb lc rb (fun i x y => lcost ws x y i))) (fun _ i _ => (s + 1 - intOf i).toNat)
  case atStart => exact ⟨0, _, _, _, _, by omega, by go_num, rfl, TabSt.start w ws.length _⟩
  case round =>
    obtain ⟨c, vo, lb, lc, rb, hc, rfl, rfl, HT⟩ := hrel
    by_cases hlt : (c : Int) ≤ (s : Int)
    · obtain ⟨wo, rfl⟩ : ∃ wo : World, wo = wr := ⟨_, rfl⟩
      go_wp2
      go_loopw [8, 9] (fun l i wi => ∃ (k : Nat) (vl : Value) (r : Nat → Nat), k ≤ ws.length + 1 ∧ i = .int .i64 (k : Int) ∧ l = vl ∧ Hid (LvlSt wo wi ws.length k vl r)) (fun _ i _ => (ws.length + 1 - intOf i).toNat)
      case atStart => exact ⟨0, _, _, by omega, by go_num, rfl, LvlSt.start wo ws.length⟩
      case round =>
        obtain ⟨k, vl, r, hk, rfl, rfl, HL⟩ := hrel
        by_cases hlt2 : (k : Int) ≤ (ws.length : Int)
        · go_wp2_with (at_builtin; refine wpList_append_own _ rfl _ _ 65 rfl wo.heap.size 25 iR (.slice none 0 0) 1 24 Try.underlying65 hiR hzR0 hzR1 hzR2 rfl (by decide) _ _ _ rfl ((HL.out.own.alloc _).alloc _) ⟨wr.heap.size + 1, 0, none⟩ 1 1 [hdr ws.length wr.heap.size] rfl rfl ?c1 ?c2 ?c3 ?c4 ?c5 ?_)
          case c1 =>
            have h := cell_one_new (wr.alloc (.cells (nums ws.length fun _ => 0).toArray 2)) (hdr ws.length wr.heap.size) 25
            simpa using h
          case c2 => intro u hu; simp at hu; subst hu; rfl
          case c3 => unfold maxLen; omega
          case c4 => omega
          case c5 => have := HL.out.below.size; simp; omega
          · intro v' w2 hown hg _
            have HS := Lib.hid (HL.out.step _ hown hg); clear hown hg
            go_wp2
            go_roundw
            case rel => exact ⟨k + 1, _, _, by omega, by go_num, rfl, HS.out⟩
            case measure => simp [intOf]; omega
        · obtain rfl : k = ws.length + 1 := by omega
          obtain ⟨g, cp, rfl⟩ : ∃ g cp, u8 = Value.slice (some ⟨g, 0, none⟩) (ws.length + 1) cp := by
            rcases HL.out.own.2 with ⟨_, h0⟩ | ⟨g, cp, _, hv, _⟩
            · omega
            · exact ⟨g, cp, hv⟩
          go_wp2_with (at_builtin; refine wpList_append_own _ rfl _ _ 49 rfl w.heap.size 65 iL (.slice none 0 0) 1 24 Try.underlying49 hiL hzL0 hzL1 hzL2 rfl (by decide) _ _ _ rfl (((HT.out.next HL.out.below).out).alloc _) ⟨wr.heap.size, 0, none⟩ 1 1 [.slice (some ⟨g, 0, none⟩) (ws.length + 1) cp] rfl rfl ?d1 ?d2 ?d3 ?d4 ?d5 ?_)
          case d2 => rfl
          case d3 => unfold maxLen; omega
          case d4 => omega
          case d5 => have := (HT.out.next HL.out.below).below.size; simp; omega
          · intro v' w2 hown hg _
            obtain ⟨lb2, lc2, rb2, hg2, HQ⟩ : ∃ lb2 lc2 rb2, lb2 c = g ∧ Hid (TabSt w w2 ws.length v' (c + 1) lb2 lc2 rb2 (vAt ws c 2 0)) :=
              ⟨_, _, _, by simp, (HT.out.push HL.out _ hown hg).congr (vAt_start ws c ws.length)⟩
            clear hown hg HT HL
            obtain ⟨g2, cp2, rfl⟩ : ∃ g cp, v' = Value.slice (some ⟨g, 0, none⟩) (c + 1) cp := by
              rcases HQ.out.out.2 with ⟨_, h0⟩ | ⟨g, cp, _, hv, _⟩
              · omega
              · exact ⟨g, cp, hv⟩
            subst hg2
            clear hmk
            go_wp2
            obtain ⟨wo2, rfl⟩ : ∃ wo2 : World, wo2 = wr := ⟨_, rfl⟩
            go_loopw [10] (fun i wi => ∃ size : Nat, 2 ≤ size ∧ (size ≤ ws.length + 1 ∨ size = 2) ∧ i = .int .i64 (size : Int) ∧ Hid (TabSt w wi ws.length (.slice (some ⟨g2, 0, none⟩) (c + 1) cp2) (c + 1) lb2 lc2 rb2 (vAt ws c size 0))) (fun i _ => (ws.length + 2 - intOf i).toNat)
            case atStart => exact ⟨2, by omega, .inr rfl, by go_num, HQ⟩
            case round =>
              obtain ⟨size, hs2, hsz, rfl, HQ3⟩ := hrel
              clear HQ
              by_cases hlt3 : (size : Int) ≤ (ws.length : Int)
              · go_wp2
                obtain ⟨wo3, rfl⟩ : ∃ wo3 : World, wo3 = wr := ⟨_, rfl⟩
                go_loopw [11] (fun i wi => ∃ a : Nat, a + size ≤ ws.length + 1 ∧ i = .int .i64 (a : Int) ∧ Hid (TabSt w wi ws.length (.slice (some ⟨g2, 0, none⟩) (c + 1) cp2) (c + 1) lb2 lc2 rb2 (vAt ws c size a))) (fun i _ => (ws.length + 1 - intOf i).toNat)
                case atStart => exact ⟨0, by omega, by go_num, HQ3⟩
                case round =>
                  obtain ⟨a, ha, rfl, HQ4⟩ := hrel
                  clear HQ3
                  by_cases hlt4 : (a : Int) + (size : Int) ≤ (ws.length : Int)
                  · have hT := HQ4.out
                    have f1 : wr.cell? ⟨lb2 c, a, none⟩ = some (hdr ws.length (rb2 c a)) := hT.lvl c a (by omega) (by omega)
                    have hrow := hT.row c a (by omega) (by omega)
                    have f2 : wr.cell? ⟨rb2 c a, a + size, none⟩ = some (.int .i64 (vAt ws c size a c a (a + size))) := by rw [hrow.cell, nums_get (by omega)]
                    have f3 : wr.frozen? ⟨rb2 c a, a + size, none⟩ = false := hrow.frozen _
                    have hsp := fun W (hW : Drawn wr W) => split_any A cap ws g2 (c + 1) cp2 lb2 lc2 rb2 size a (a + size) c ((a : Int) + (size : Int)) W (by obtain ⟨q, rfl⟩ := hW; exact (hA.below hT.below).drewN q) (by obtain ⟨q, rfl⟩ := hW; exact hT.rd.drewN q) hw h40 rfl (by omega) hs2 (by omega) (by omega) (by omega)
                    generalize vAt ws c size a c a (a + size) = old at f2
                    have HSP := Lib.hid hsp
                    clear hT hrow hsp
                    go_wp2_with fail
                    have hdw : Drawn wr wr.drew := ⟨1, rfl⟩
                    have HDW := Lib.hid (HSP.out _ hdw)
                    clear hdw
                    have q1 : IntKind.i64.wrap ((a : Int) + (size : Int)) = (a : Int) + (size : Int) := IntWalk.i64_in _ (by omega)
                    have q2 : 0 ≤ (a : Int) + (size : Int) := by omega
                    have q3 : ((a : Int) + (size : Int)).toNat = a + size := by omega
                    have q4 : (a : Int) < (ws.length : Int) + 1 := by omega
                    have q5 : (a : Int) + (size : Int) < (ws.length : Int) + 1 := by omega
                    have HQ5 : Hid (TabSt w (wr.drew.setCell ⟨rb2 c a, a + size, none⟩ (.int .i64 (lcost ws a (a + size) c))) ws.length (.slice (some ⟨g2, 0, none⟩) (c + 1) cp2) (c + 1) lb2 lc2 rb2 (vAt ws c size (a + 1))) :=
                      (((HQ4.out.next ((Below.refl _ _).drew)).set_ (i := c) (x := a) (y := a + size) (by omega) (by omega) (lcost ws a (a + size) c)).congr (vAt_set ws c ws.length size a))
                    clear HSP
                    go_region_with (go_at_call 24; (with_reducible refine HDW.out.mono ?_); rintro e w' ⟨rfl, rfl⟩)
                    all_goals
                      clear q1 q2 q3 q4 q5 HDW f1 f2 f3
                      go_wp2
                      go_roundw
                      case rel => exact ⟨a + 1, by omega, by go_num, HQ5.out⟩
                      case measure => simp [intOf]; omega
                  · go_wp2
                    go_roundw
                    case rel => exact ⟨size + 1, by omega, by omega, by go_num, HQ4.out.congr (vAt_row ws c ws.length size a (by omega))⟩
                    case measure => simp [intOf]; omega
              · go_wp2
                go_roundw
                case rel => exact ⟨c + 1, _, _, _, _, by omega, by go_num, rfl, HQ3.out.congr (vAt_end ws c ws.length size (by omega))⟩
                case measure => simp [intOf]; omega
    · obtain rfl : c = s + 1 := by omega
      obtain ⟨g2, cp2, rfl⟩ : ∃ g cp, u6 = Value.slice (some ⟨g, 0, none⟩) (s + 1) cp := by
        rcases HT.out.out.2 with ⟨_, h0⟩ | ⟨g, cp, _, hv, _⟩
        · omega
        · exact ⟨g, cp, hv⟩
      go_wp2
      go_ret
      exact ⟨g2, cp2, lb, lc, rb, rfl, HT.out⟩

end Go.Proofs.Ytdhicgdcjfcomaa
