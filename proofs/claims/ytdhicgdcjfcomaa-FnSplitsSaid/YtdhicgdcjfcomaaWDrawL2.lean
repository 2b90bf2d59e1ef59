/- Walks: the drawing of a schedule: l06DrawList, its loop. -/
import Derived.Test.YtdhicgdcjfcomaaWDrawL
import Derived.StillTailTactics
import Derived.BigQuiet
import Derived.Deep.LoopGhost
import Derived.Deep.CutRange
import Derived.Deep.CutBlock
namespace Go.Proofs.Ytdhicgdcjfcomaa
open Go.RowKit Plain

theorem slot0_new {n ns : Nat} {c : Ch} {l : List (Int × Int)} (h : DoR (newC n ns) [] 2 0 c l) : Slot0 ns c := fun hn => by
  have ha : isAct 2 0 = true := by decide
  have hp : poss (newC n ns) 2 0 = true := by
    unfold poss
    rw [if_neg (by omega), if_pos rfl]
    exact decide_eq_true (by simp [newC]; omega)
  rcases h with ⟨_, _, rfl, _⟩ | ⟨h, _, _⟩
  · simp [stepC, newC]
    cases ns with
    | zero => omega
    | succ k => simp [List.replicate_succ]
  · rw [ha, hp] at h; cases h
def ListD (p N : Nat) (w : World) (e : Ending) (w' : World) : Prop :=
  ∃ l Av cp at' s', e = .returned (.slice Av l.length cp) ∧ ActRow w' w.heap.size (.slice Av l.length cp) l ∧ l.length ≤ 400 ∧ SrcN w' p N at' s' ∧ at' ≤ 1100000000000000000 ∧ Only (fun q => q = p) w w'

set_option maxRecDepth 100000 in
set_option maxHeartbeats 4000000 in
theorem drawList_any (p N n ns at0 : Nat) (s0 : Int) (w : World) (hS : SrcN w p N at0 s0) (ha0 : at0 ≤ 1000) (hN : N ≤ 4096) (hn : n ≤ 40) (hns : ns ≤ 8) :
    Calls Try.prog 16 #[.pointer (some ⟨p, 0, none⟩), .int .i64 n, .int .i64 ns] w (ListD p N w) := by
  have HS := Lib.hid hS
  have hpw := hS.lt
  clear hS
  go_enter Try.func16, Try.ntmps16
  go_wp2_with fail
  refine (begin_any n ns w hn hns).mono ?_
  rintro e w1 ⟨rfl, v, hR, hB⟩
  have hrl := hR.size
  have hg1 : Below w1.heap.size w1 (w1.alloc (.cells #[] 61)) := by go_grown
  have HST : Hid (StD w p N n ns w.heap.size w1.heap.size v (w1.alloc (.cells #[] 61)) (newC n ns) [] (some ⟨w1.heap.size, 0, none⟩) 0 at0 s0) :=
    ⟨hR.next hg1, World.ownsRow_lit w1 #[] 0 (Nat.le_refl _) (by unfold maxLen; omega) (by rfl), InvC.new hn hns, HS.out.below (hB.trans (hg1.mono hB.size)),
      Only.of_below (hB.trans (hg1.mono hB.size)), by simp, hpw, Nat.le_refl _, hrl, fun q hq => World.ownsRow.lt hR.slots q hq⟩
  have HD := Lib.hid (doD HST.out 2 0 (by simp))
  clear hR hB hg1 hrl
  go_wp2_with fail
  refine HD.out.mono ?_
  rintro e w2 ⟨c1, l1, A1, cp1, rfl, hd, hl1, hst⟩
  have HS1 := Lib.hid (slot0_new hd)
  have HST1 := Lib.hid hst
  have hl1' : l1.length ≤ 1 := hl1
  clear hd hl1 hst HST HD HS
  go_upto_block 0 with fail
  go_cut [8] (fun s8 wc => ∃ l Av cp c at_ s, s8 = .slice Av l.length cp ∧ Hid (StD w p N n ns w.heap.size w1.heap.size v wc c l Av cp at_ s) ∧ at_ ≤ 1000000000000000010 ∧ l.length ≤ 310)
  case first =>
    go_wp2_with fail
    go_loopg [8] (300 * bbN N + bbN N) (fun g o wr => ∃ l Av cp c at_ s, o = .slice Av l.length cp ∧ Hid (StD w p N n ns w.heap.size w1.heap.size v wr c l Av cp at_ s) ∧ Hid (Slot0 ns c) ∧ Hid (Budget ns N at_ s l.length g) ∧ l.length ≤ 310)
    case atStart =>
      refine ⟨l1, A1, cp1, c1, at0, s0, rfl, HST1, HS1, ?_, by omega⟩
      have hB := bbN_eq N
      have hf := Slack.fresh (stride_ok ns) N at0 s0
      rw [two48] at hf
      have e : (300 - l1.length) * bbN N ≤ 300 * bbN N := Nat.mul_le_mul_right _ (by omega)
      exact ⟨N + 281474976710656, hf, by omega, by omega, by omega⟩
    case round =>
      obtain ⟨l, Av, cp, c, at_, s, rfl, HST, HSL, HBU, hll⟩ := hrel
      obtain ⟨M, hM1, hM2, hM3, hM4⟩ := HBU.out
      have HM1 := Lib.hid hM1
      have HM3 := Lib.hid hM3
      clear hM1 hM3
      have hat : at_ ≤ 4000000000000000000 := by omega
      have i1 := HST.out.inv.n40
      have i3 := HST.out.inv.l0
      have i4 := HST.out.inv.ln
      have i5 := HST.out.inv.s0
      have i6 := HST.out.inv.sn
      have f0 : wr.cell? ⟨w.heap.size, 0, none⟩ = some (vi c.state) := by rw [HST.out.run.cells.cell]; rfl
      have f1 : wr.cell? ⟨w.heap.size, 1, none⟩ = some (vi c.left) := by rw [HST.out.run.cells.cell]; rfl
      by_cases hlen : l.length < 300
      · have hlenz : (l.length : Int) < 300 := by omega
        by_cases hleft : 0 < c.left
        · go_wp2_with fail
          refine (pickD HST.out ns (by omega) (by omega)).mono ?_
          rintro e w3 ⟨x, at1, s1, rfl, hp, hst⟩
          have HP1 := Lib.hid hp
          have HST2 := Lib.hid hst
          clear hp hst f0 f1
          go_wp2_with fail
          refine (doD HST2.out 3 x (by omega)).mono ?_
          rintro e w4 ⟨c3, l3, A3, cp3, rfl, hd, hl3, hst⟩
          have HD3 := Lib.hid hd
          have HST3 := Lib.hid hst
          clear hd hst HST2
          have j1 := HST3.out.inv.l0
          have j2 := HST3.out.inv.ln
          have j3 := HST3.out.inv.s0
          have j4 := HST3.out.inv.sn
          have f0 : w4.cell? ⟨w.heap.size, 0, none⟩ = some (vi c3.state) := by rw [HST3.out.run.cells.cell]; rfl
          have f1 : w4.cell? ⟨w.heap.size, 1, none⟩ = some (vi c3.left) := by rw [HST3.out.run.cells.cell]; rfl
          go_wp2_with fail
          go_quiet (fail)
          rename Nat => nq
          have HST4 := Lib.hid (HST3.out.drewN nq)
          generalize w4.drewN nq = w5 at *
          have HI1 := Lib.hid HST3.out.inv
          clear HST3 f0 f1
          go_upto_if 40 with fail
          go_cut [8] from 16 to 103 (fun s8 wc => ∃ c4 l4 A4 cp4, s8 = .slice A4 l4.length cp4 ∧ Hid (StD w p N n ns w.heap.size w1.heap.size v wc c4 l4 A4 cp4 at1 s1) ∧ Hid ((c3.left ≤ c3.state ∧ DoR c3 l3 3 0 c4 l4) ∨ (c3.state < c3.left ∧ c4 = c3 ∧ l4 = l3)) ∧ l4.length ≤ l3.length + 1)
          case first =>
            by_cases hge : c3.left ≤ c3.state
            · go_wp2_with fail
              refine (doD HST4.out 3 0 (by omega)).mono ?_
              rintro e w6 ⟨c4, l4, A4, cp4, rfl, hd, hl4, hst⟩
              have HD4 := Lib.hid hd
              have HST5 := Lib.hid hst
              clear hd hst HST4
              go_wp2_with fail
              go_meet
              case rel => exact ⟨c4, l4, A4, cp4, rfl, HST5, .inl ⟨hge, HD4.out⟩, hl4⟩
            · have hlt : c3.state < c3.left := by omega
              go_wp2_with fail
              go_meet
              case rel => exact ⟨c3, l3, A3, cp3, rfl, HST4, .inr ⟨hlt, rfl, rfl⟩, by omega⟩
          case rest =>
            obtain ⟨c4, l4, A4, cp4, rfl, HST5, HW, hl4⟩ := hcut
            clear HST4
            have HF := Lib.hid (few_load HST.out.inv HSL.out HP1.out HD3.out HI1.out HW.out)
            have HSL4 : Hid (Slot0 ns c4) := by
              have h3 := HSL.out.step HD3.out (fun h => by omega)
              rcases HW.out with ⟨_, h⟩ | ⟨_, rfl, _⟩
              · exact h3.step h (fun h => by omega)
              · exact h3
            have hat1 := HP1.out.at_
            clear j1 j2 j3 j4
            have j1 := HST5.out.inv.l0
            have j2 := HST5.out.inv.ln
            have j3 := HST5.out.inv.s0
            have j4 := HST5.out.inv.sn
            go_wp2_with fail
            refine (oneD HST5.out 2 (by omega) (by omega)).mono ?_
            rintro e w7 ⟨y, at2, s2, rfl, hp, hst⟩
            have HP2 := Lib.hid hp
            have HST6 := Lib.hid hst
            have hat2 := hp.at_
            clear hp hst
            have HLT := Lib.hid HF.out.2
            go_upto_if 45 with fail
            go_cut [8] from 16 to 103 (fun s8 wc => ∃ c6 l6 A6 cp6 at4 s4, s8 = .slice A6 l6.length cp6 ∧ Hid (StD w p N n ns w.heap.size w1.heap.size v wc c6 l6 A6 cp6 at4 s4) ∧ Hid (Few ns N c l at_ s ((if ns = 0 then 0 else 1) + 1) c6 l6 at4 s4) ∧ Hid (Slot0 ns c6) ∧ Hid (0 < ns → l6.length = l.length → c6.state < c6.left) ∧ at4 ≤ at_ + 4 ∧ l6.length ≤ l.length + 4)
            case first =>
              have HN1 : Hid (ns = 1 → l.length < l4.length) := fun h => by
                have hF1 := HF.out.1
                rcases hF1 with hF1 | ⟨e, _, ea, _⟩
                · exact hF1
                · exfalso
                  rw [h] at ea
                  obtain ⟨_, hp⟩ := HP1.out
                  rcases hp with ⟨_, _, e2, _⟩ | ⟨h2, _⟩
                  · simp at ea; omega
                  · omega
              by_cases hy : y = 0
              · subst hy
                have f0 : w7.cell? ⟨w.heap.size, 0, none⟩ = some (vi c4.state) := by rw [HST6.out.run.cells.cell]; rfl
                have f1 : w7.cell? ⟨w.heap.size, 1, none⟩ = some (vi c4.left) := by rw [HST6.out.run.cells.cell]; rfl
                have HPK : Hid (∀ wx, StD w p N n ns w.heap.size w1.heap.size v wx c4 l4 A4 cp4 at2 s2 → Calls Try.prog 13 #[.pointer (some ⟨p, 0, none⟩), .int .i64 (c4.left - 1 - c4.state)] wx (PickD w p N n ns w.heap.size w1.heap.size v c4 l4 A4 cp4 at2 s2 (c4.left - 1 - c4.state))) := fun wx h => pickD h _ (by omega) (by omega)
                have hwA : IntKind.i64.wrap (c4.left - 1) = c4.left - 1 := by rw [IntKind.wrap_i64]; omega
                have hwB : IntKind.i64.wrap (c4.left - 1 - c4.state) = c4.left - 1 - c4.state := by rw [IntKind.wrap_i64]; omega
                go_upto_region 9 with fail
                go_cut [8] from 16 to 103 (fun s8 wc => ∃ c5 l5 A5 cp5 at3 s3 x3, s8 = .slice A5 l5.length cp5 ∧ Hid (StD w p N n ns w.heap.size w1.heap.size v wc c5 l5 A5 cp5 at3 s3) ∧ Hid (PickR (c4.left - 1 - c4.state) N at2 s2 at3 s3 x3) ∧ Hid (DoR c4 l4 1 (1 + x3) c5 l5) ∧ l5.length ≤ l4.length + 1)
                case first =>
                  go_wp2_with fail
                  go_region_with (first
                    | (go_at_call 28; (with_reducible refine (doD HST8.out 1 (1 + x3) (by omega)).mono ?_); rintro e w10 ⟨c5, l5, A5, cp5, rfl, hd, hl5, hst⟩; have HD5 := Lib.hid hd; have HST9 := Lib.hid hst; clear hd hst)
                    | (go_at_call 13; refine (HPK.out _ (by first | exact HST6.out | exact HST6.out.drewN 1 | exact (HST6.out.drewN 1).drewN 1 | exact HST6.out.drewN _)).mono ?_; rintro e w9 ⟨x3, at3, s3, rfl, hp, hst'⟩; have HP3 := Lib.hid hp; have HST8 := Lib.hid hst'; have hx30 : 0 ≤ x3 := hp.1; have hx31 : x3 ≤ 40 := (by obtain ⟨z0, hp⟩ := hp; rcases hp with ⟨_, e, _⟩ | ⟨_, e, _⟩ <;> omega); have hwC : IntKind.i64.wrap (1 + x3) = 1 + x3 := (by rw [IntKind.wrap_i64]; omega); clear hp hst'))
                  all_goals
                    go_wp2_with fail
                    go_meet
                    case rel => exact ⟨c5, l5, A5, cp5, at3, s3, x3, rfl, HST9, HP3, HD5, hl5⟩
                case rest =>
                obtain ⟨c5, l5, A5, cp5, at3, s3, x3, rfl, HST9, HP3, HD5, hl5⟩ := hcut
                have hat3 := HP3.out.at_
                have hd := HD5.out
                have HSL5 := Lib.hid (HSL4.out.step hd (fun h => by omega))
                have hlm5 := hd.len
                clear hd f0 f1 HPK HST6 hwA hwB
                by_cases hn1 : 1 < ns
                · have hn1z : (1 : Int) < (ns : Int) := by omega
                  go_wp2_with fail
                  refine (pickD HST9.out ((ns : Int) - 1) (by omega) (by omega)).mono ?_
                  rintro e w11 ⟨x4, at4, s4, rfl, hp, hst⟩
                  have HP4 := Lib.hid hp
                  have HST10 := Lib.hid hst
                  have hat4 := hp.at_
                  have hx4 : 0 ≤ x4 ∧ x4 ≤ 40 := by
                    obtain ⟨z0, hp⟩ := hp
                    rcases hp with ⟨_, e, _⟩ | ⟨_, e, _⟩ <;> omega
                  obtain ⟨hx40, hx41⟩ := hx4
                  clear hp hst HST9
                  go_wp2_with fail
                  refine (doD HST10.out 2 (1 + x4) (by omega)).mono ?_
                  rintro e w12 ⟨c6, l6, A6, cp6, rfl, hd, hl6, hst⟩
                  have HD6 := Lib.hid hd
                  have HST11 := Lib.hid hst
                  have HSL6 := Lib.hid (HSL5.out.step hd (fun h => by omega))
                  have hlm6 := hd.len
                  clear hd hst
                  have HFW := Lib.hid (few_adv HST5.out.inv HST10.out.inv HF.out.1 HP2.out (.inl ⟨rfl, HP3.out, HD5.out, .inl ⟨hn1, HP4.out, HD6.out⟩⟩) HN1.out HLT.out)
                  have HL6 : Hid (0 < ns → l6.length = l.length → c6.state < c6.left) := fun h1 h2 => by
                    have hlf := HF.out.1.len
                    have hs := HLT.out h1 (by omega)
                    obtain ⟨e5, _⟩ := HD5.out.same (by omega)
                    obtain ⟨e6, _⟩ := HD6.out.same (by omega)
                    rw [e6, e5]; exact hs
                  clear HST10
                  go_wp2_with fail
                  go_meet
                  case rel => exact ⟨c6, l6, A6, cp6, at4, s4, rfl, HST11, HFW, HSL6, HL6, by omega, by omega⟩
                · have hn1z : ¬ (1 : Int) < (ns : Int) := by omega
                  have HFW := Lib.hid (few_adv (x4 := 0) HST5.out.inv HST9.out.inv HF.out.1 HP2.out (.inl ⟨rfl, HP3.out, HD5.out, .inr ⟨by omega, rfl, rfl, rfl, rfl⟩⟩) HN1.out HLT.out)
                  have HL6 : Hid (0 < ns → l5.length = l.length → c5.state < c5.left) := fun h1 h2 => by
                    have hlf := HF.out.1.len
                    have hs := HLT.out h1 (by omega)
                    obtain ⟨e5, _⟩ := HD5.out.same (by omega)
                    rw [e5]; exact hs
                  go_wp2_with fail
                  go_meet
                  case rel => exact ⟨c5, l5, A5, cp5, at3, s3, rfl, HST9, HFW, HSL5, HL6, by omega, by omega⟩
              · have hyb : (y == 0) = false := by simpa using hy
                have HFW := Lib.hid (few_adv (x3 := 0) (x4 := 0) (at3 := at2) (s3 := s2) (c3 := c4) (l3 := l4) HST5.out.inv HST5.out.inv HF.out.1 HP2.out (.inr ⟨hy, rfl, rfl, rfl, rfl⟩) HN1.out HLT.out)
                go_wp2_with fail
                go_meet
                case rel => exact ⟨c4, l4, A4, cp4, at2, s2, rfl, HST6, HFW, HSL4, HLT, by omega, by omega⟩
            case rest =>
              obtain ⟨c6, l6, A6, cp6, at4, s4, rfl, HST7, HFW, HSL6, HL6, hat4, hl6⟩ := hcut
              clear HST6
              have HLG := Lib.hid HFW.out.len
              clear HP1 HD3 HST5 HF HW HLT
              go_wp2_with fail
              refine (oneD HST7.out 5 (by omega) (by omega)).mono ?_
              rintro e w13 ⟨z, at5, s5, rfl, hp, hst⟩
              have HP5 := Lib.hid hp
              have HST8 := Lib.hid hst
              have hat5 := hp.at_
              clear hp hst HST7
              by_cases hz : z = 0
              · have HB2 : Hid (0 < gk ∧ Budget ns N at5 s5 l6.length (gk - 1)) := by
                  rcases few_cont HFW.out HP5.out hz HM1.out with h | ⟨e, h, hS⟩
                  · exact budget_grown HM3.out hM4 hlen h (by omega)
                  · rw [e]; exact budget_waits hM2 HM3.out hM4 h hS (by omega)
                have hzb : (z == 0) = true := by simp [hz]
                go_wp2_with fail
                go_roundg (gk - 1)
                case measure => have := HB2.out.1; omega
                case rel => exact ⟨l6, A6, cp6, c6, at5, s5, rfl, HST8, HSL6, HB2.out.2, by omega⟩
              · have hzb : (z == 0) = false := by simpa using hz
                have j1 := HST8.out.inv.l0
                have j2 := HST8.out.inv.ln
                have j3 := HST8.out.inv.s0
                have j4 := HST8.out.inv.sn
                have f0 : w13.cell? ⟨w.heap.size, 0, none⟩ = some (vi c6.state) := by rw [HST8.out.run.cells.cell]; rfl
                have f1 : w13.cell? ⟨w.heap.size, 1, none⟩ = some (vi c6.left) := by rw [HST8.out.run.cells.cell]; rfl
                have hwA : IntKind.i64.wrap (c6.left - 1) = c6.left - 1 := by rw [IntKind.wrap_i64]; omega
                have hwB : IntKind.i64.wrap (c6.left - 1 - c6.state) = c6.left - 1 - c6.state := by rw [IntKind.wrap_i64]; omega
                go_upto_region 13 with fail
                go_cut [8] from 16 to 103 (fun s8 wc => ∃ c7 l7 A7 cp7, s8 = .slice A7 l7.length cp7 ∧ Hid (StD w p N n ns w.heap.size w1.heap.size v wc c7 l7 A7 cp7 at5 s5) ∧ Hid (DoR c6 l6 1 (c6.left - 1 - c6.state) c7 l7) ∧ l7.length ≤ l6.length + 1)
                case first =>
                  have HDD : Hid (∀ wx, StD w p N n ns w.heap.size w1.heap.size v wx c6 l6 A6 cp6 at5 s5 → Calls Try.prog 28 #[.pointer (some ⟨w.heap.size, 0, none⟩), .slice A6 l6.length cp6, .int .i64 1, .int .i64 (c6.left - 1 - c6.state)] wx (DoD w p N n ns w.heap.size w1.heap.size v c6 l6 at5 s5 1 (c6.left - 1 - c6.state))) := fun wx h => doD h _ _ (by omega)
                  go_wp2_with fail
                  go_region_with (go_at_call 28; refine (HDD.out _ (by first | exact HST8.out | exact HST8.out.drewN 1 | exact (HST8.out.drewN 1).drewN 1 | exact HST8.out.drewN _)).mono ?_; rintro e w14 ⟨c7, l7, A7, cp7, rfl, hd, hl7, hst⟩; have HD7 := Lib.hid hd; have HST9 := Lib.hid hst; clear hd hst)
                  all_goals
                    go_wp2_with fail
                    go_meet
                    case rel => exact ⟨c7, l7, A7, cp7, rfl, HST9, HD7, hl7⟩
                case rest =>
                obtain ⟨c7, l7, A7, cp7, rfl, HST9, HD7, hl7⟩ := hcut
                clear f0 f1 j1 j2 j3 j4 hwA hwB
                go_wp2_with fail
                refine (doD HST9.out 4 0 (by omega)).mono ?_
                rintro e w15 ⟨c8, l8, A8, cp8, rfl, hd, hl8, hst⟩
                have HD8 := Lib.hid hd
                have HST10 := Lib.hid hst
                have HSL8 := Lib.hid ((HSL6.out.step HD7.out (fun h => by omega)).step hd (fun h => by omega))
                clear hd hst
                have j1 := HST10.out.inv.l0
                have j2 := HST10.out.inv.ln
                have j3 := HST10.out.inv.s0
                have j4 := HST10.out.inv.sn
                have f0 : w15.cell? ⟨w.heap.size, 0, none⟩ = some (vi c8.state) := by rw [HST10.out.run.cells.cell]; rfl
                have f1 : w15.cell? ⟨w.heap.size, 1, none⟩ = some (vi c8.left) := by rw [HST10.out.run.cells.cell]; rfl
                have HGR : Hid ((ns = 0 → c8.state ≤ c8.left - 1) → 0 < gk ∧ Budget ns N at5 s5 l8.length (gk - 1)) := fun h =>
                  budget_grown HM3.out hM4 hlen (end_grow HST8.out.inv HD7.out HD8.out HLG.out HL6.out h) (by omega)
                have HST11 : Hid (∀ q, StD w p N n ns w.heap.size w1.heap.size v (w15.drewN q) c8 l8 A8 cp8 at5 s5) := fun q => HST10.out.drewN q
                clear HST8 HST9
                by_cases hn0 : ns = 0
                · have hn0z : ((ns : Int) == 0) = true := by simp [hn0]
                  clear hn0
                  by_cases hbr : c8.left - 1 < c8.state
                  · have hd : decide (c8.left - 1 < c8.state) = true := by simpa using hbr
                    go_wp2_with fail
                    go_quiet (fail)
                    rename Nat => nq
                    go_wp2_with fail
                    go_meet
                    case rel => exact ⟨l8, A8, cp8, c8, at5, s5, rfl, HST11.out nq, by omega, by omega⟩
                  · have hd : decide (c8.left - 1 < c8.state) = false := by simpa using hbr
                    have HG2 := Lib.hid (HGR.out (fun _ => by omega))
                    go_wp2_with fail
                    go_quiet (fail)
                    rename Nat => nq
                    go_wp2_with fail
                    go_roundg (gk - 1)
                    case measure => have := HG2.out.1; omega
                    case rel => exact ⟨l8, A8, cp8, c8, at5, s5, rfl, HST11.out nq, HSL8, HG2.out.2, by omega⟩
                · have hn0z : ((ns : Int) == 0) = false := by simp [hn0]
                  have HG2 := Lib.hid (HGR.out (fun h => absurd h hn0))
                  go_wp2_with fail
                  go_quiet (fail)
                  rename Nat => nq
                  go_wp2_with fail
                  go_roundg (gk - 1)
                  case measure => have := HG2.out.1; omega
                  case rel => exact ⟨l8, A8, cp8, c8, at5, s5, rfl, HST11.out nq, HSL8, HG2.out.2, by omega⟩
        · go_wp2_with fail
          go_meet
          case rel => exact ⟨l, Av, cp, c, at_, s, rfl, HST, by omega, hll⟩
      · have hlenz : ¬ (l.length : Int) < 300 := by omega
        go_wp2_with fail
        go_meet
        case rel => exact ⟨l, Av, cp, c, at_, s, rfl, HST, by omega, hll⟩
  case rest =>
    obtain ⟨l, Av, cp, c, at_, s, rfl, HST, hat, hll⟩ := hcut
    clear HST1
    by_cases hn0 : 0 < ns
    · have hn0z : (0 : Int) < (ns : Int) := by omega
      go_wp2_with fail
      refine (oneD HST.out 3 (by omega) (by omega)).mono ?_
      rintro e w3 ⟨z, at1, s1, rfl, hp, hst⟩
      have hat1 := hp.at_
      have HST1 := Lib.hid hst
      clear hp hst HST
      by_cases hz : z = 0
      · have hzb : (z == 0) = true := by simp [hz]
        go_wp2_with fail
        refine (pickD HST1.out ns (by omega) (by omega)).mono ?_
        rintro e w4 ⟨x, at2, s2, rfl, hp, hst⟩
        have hat2 := hp.at_
        have HST2 := Lib.hid hst
        clear hp hst HST1
        go_wp2_with fail
        refine (doD HST2.out 2 x (by omega)).mono ?_
        rintro e w5 ⟨c3, l3, A3, cp3, rfl, _, hl3, hst⟩
        have HST3 := Lib.hid hst
        clear hst HST2
        go_wp2_with fail
        refine (doD HST3.out 3 0 (by omega)).mono ?_
        rintro e w6 ⟨c4, l4, A4, cp4, rfl, _, hl4, hst⟩
        have HST4 := Lib.hid hst
        clear hst HST3
        go_wp2
        go_ret
        exact ⟨l4, A4, cp4, at2, s2, rfl, HST4.out.row.mono (Nat.le_trans HST4.out.wr0 (Nat.le_of_lt HST4.out.rb)), by omega, HST4.out.src, by omega, HST4.out.only⟩
      · have hzb : (z == 0) = false := by simpa using hz
        go_wp2
        go_ret
        exact ⟨l, Av, cp, at1, s1, rfl, HST1.out.row.mono (Nat.le_trans HST1.out.wr0 (Nat.le_of_lt HST1.out.rb)), by omega, HST1.out.src, by omega, HST1.out.only⟩
    · have hn0z : ¬ (0 : Int) < (ns : Int) := by omega
      clear hn0
      go_wp2
      go_ret
      exact ⟨l, Av, cp, at_, s, rfl, HST.out.row.mono (Nat.le_trans HST.out.wr0 (Nat.le_of_lt HST.out.rb)), by omega, HST.out.src, by omega, HST.out.only⟩

end Go.Proofs.Ytdhicgdcjfcomaa
