/- Walks of isIdle and l06Idle. -/
import Derived.Test.YtnbpcdcdfkfmiaaPTrim
import Derived.Lib.SliceRun
import Derived.Test.YtnbpcdcdfkfmiaaWPlan4
namespace Go.Proofs.Ytnbpcdcdfkfmiaa
open Go.RowKit Plain

theorem Acts.drop {w : World} {b o : Nat} {l : List (Int × Int)} (h : Acts w (some ⟨b, o, none⟩) l) (i : Nat) : Acts w (some ⟨b, o + i * 2, none⟩) (l.drop i) := by
  intro hn
  simp at hn
  obtain ⟨b', o', e, hl, hc⟩ := h (by omega)
  obtain ⟨rfl, rfl⟩ : b = b' ∧ o = o' := by simpa using e
  refine ⟨b, _, rfl, hl, fun j x hx => ?_⟩
  have := hc (i + j) x (by simpa using hx)
  rw [show o + i * 2 + j * 2 = o + (i + j) * 2 by omega]
  exact this

set_option maxHeartbeats 1000000 in
theorem isIdle_any (b o cap : Nat) (l : List (Int × Int)) (i : Nat) (w : World) (hA : Acts w (some ⟨b, o, none⟩) l) (hi : i < l.length) (hcap : l.length ≤ cap) (hm : cap ≤ 9223372036854775807) (hl4 : l.length ≤ 4611686018427387904) :
    Calls Try.prog 47 #[.slice (some ⟨b, o, none⟩) l.length cap, .int .i64 i] w fun e w' => e = .returned (.bool (idle l i)) ∧ Below w.heap.size w w' := by
  obtain ⟨b1, o1, k, x, e, hx, hc1, hc2⟩ := hA.at_ hi
  obtain ⟨rfl, rfl⟩ : b = b1 ∧ o = o1 := by simpa using e
  clear e
  have HI := Lib.hid (idle_eq hx)
  have hd1 : (w.alloc (.cells #[.int .i64 0, .int .i64 0] 68)).cell? ⟨b, o + i * 2, none⟩ = some (.int .i64 k) := Lib.cell?_alloc_some _ hc1
  have hd2 : (w.alloc (.cells #[.int .i64 0, .int .i64 0] 68)).cell? ⟨b, o + i * 2 + 1, none⟩ = some (.int .i64 x) := Lib.cell?_alloc_some _ hc2
  have hwr : IntKind.i64.wrap ((i : Int) + 1) = (i : Int) + 1 := by rw [IntKind.wrap_i64]; omega
  have hp0 : (0 : Int) ≤ (i : Int) + 1 := by omega
  have hp1 : (i : Int) + 1 ≤ (l.length : Int) := by omega
  have hp2 : ((i : Int) + 1).toNat = i + 1 := by omega
  have hi' : (i : Int) < (l.length : Int) := by omega
  have hA2 := hA.drop (i + 1)
  have hlen : (l.drop (i + 1)).length = l.length - (i + 1) := by simp
  obtain ⟨R, hRe, hRA⟩ : ∃ R : Addr, (if cap = i + 1 then some (⟨b, o, none⟩ : Addr) else some ⟨b, o + (i + 1) * 2, none⟩) = some R ∧ Acts w (some R) (l.drop (i + 1)) := by
    by_cases h : cap = i + 1
    · exact ⟨_, by rw [if_pos h], fun hn => by simp at hn; omega⟩
    · exact ⟨_, by rw [if_neg h], hA2⟩
  have HRA := Lib.hid hRA
  have HA2 := Lib.hid hA2
  clear hA hA2 hRA hx
  have HLen := Lib.hid hlen; clear hlen
  have hn' : l.length ≤ 4611686018427387904 := by omega
  by_cases h2 : k = 2
  · subst h2
    have HJ : Hid (idle l i = idleS x (l.drop (i + 1))) := HI.out
    clear HI
    go_enter Try.func47, Try.ntmps47
    go_wp2
    go_region
    all_goals go_wp2
    have HC : Hid (Cells (w.alloc (.cells #[.int .i64 2, .int .i64 x] 68)).drew w.heap.size 68 [.int .i64 2, .int .i64 x]) := (Cells.new w _ _).drewN 1
    have HB1 : Hid (Below w.heap.size w (w.alloc (.cells #[.int .i64 2, .int .i64 x] 68)).drew) := by show Below _ _ _; go_grown
    have HRB := Lib.hid (HRA.out.below (HB1.out))
    have hwl : w.heap.size < (w.alloc (.cells #[.int .i64 2, .int .i64 x] 68)).drew.heap.size := HC.out.lt
    generalize (w.alloc (.cells #[.int .i64 2, .int .i64 x] 68)).drew = w1 at *
    clear hc1 hc2 hd1 hd2 hRe hwr hp0 hp1 hp2
    obtain ⟨m, hm', hmm⟩ : ∃ m : Nat, l.length - (i + 1) = m ∧ m ≤ 4611686018427387904 := ⟨_, rfl, by omega⟩
    have HM := Lib.hid hm'
    rw [hm']
    clear hm'
    go_loopw [8, 23] (fun _ q wr => ∃ j : Nat, j ≤ m ∧ q = .int .i64 (j : Int) ∧ Hid (Below w1.heap.size w1 wr) ∧ Hid (idle l i = idleS x ((l.drop (i + 1)).drop j))) (fun _ q _ => m - (intOf q).toNat)
    case atStart => exact ⟨0, by omega, by go_num, Below.refl _ _, HJ.out⟩
    case round =>
      obtain ⟨j, hj, rfl, HB, HE⟩ := hrel
      by_cases hlt : j < m
      · obtain ⟨b', o', k', y, e', hx, hc1, hc2⟩ := (HRB.out.below HB.out).at_ (k := j) (by rw [HLen.out, HM.out]; exact hlt)
        obtain rfl : R = ⟨b', o', none⟩ := Option.some.inj e'
        clear e'
        have HS := Lib.hid (idleS_step (x := x) hx)
        clear hx
        have hcy := (HC.out.below HB.out hwl).cell 1
        simp only [List.getElem?_cons_succ, List.getElem?_cons_zero] at hcy
        have hwr' : w.heap.size < wr.heap.size := Nat.lt_of_lt_of_le hwl HB.out.size
        have hne : ¬ wr.heap.size = w.heap.size := by omega
        by_cases hy : y = x
        · subst hy
          by_cases hk3 : k' = 3
          · subst hk3
            have HS' : Hid (idleS y ((l.drop (i + 1)).drop j) = false) := by show _ = _; rw [HS.out, if_pos ⟨rfl, rfl⟩]
            go_wp2
            go_ret
            exact ⟨ret_bool (by rw [HE.out, HS'.out]), (HB1.out.trans ((HB.out.mono HB1.out.size).alloc (Nat.le_trans HB1.out.size HB.out.size) _))⟩
          · have hkb : (k' == 3) = false := by simpa using hk3
            by_cases hk2 : k' = 2
            · subst hk2
              have HS' : Hid (idleS y ((l.drop (i + 1)).drop j) = true) := by show _ = _; rw [HS.out, if_neg (by omega), if_pos ⟨rfl, rfl⟩]
              go_wp2
              go_ret
              exact ⟨ret_bool (by rw [HE.out, HS'.out]), (HB1.out.trans ((HB.out.mono HB1.out.size).alloc (Nat.le_trans HB1.out.size HB.out.size) _))⟩
            · have hkb2 : (k' == 2) = false := by simpa using hk2
              have HS' : Hid (idleS y ((l.drop (i + 1)).drop j) = idleS y ((l.drop (i + 1)).drop (j + 1))) := by
                show _ = _; rw [HS.out, if_neg (fun h => hk3 h.2), if_neg (fun h => hk2 h.2)]
              go_wp2
              go_roundw
              case rel => exact ⟨j + 1, by omega, by go_num, HB.out.alloc HB.out.size _, by show _ = _; rw [HE.out, HS'.out]⟩
              case measure => simp [intOf]; omega
        · have hyb : (y == x) = false := by simpa using hy
          have HS' : Hid (idleS x ((l.drop (i + 1)).drop j) = idleS x ((l.drop (i + 1)).drop (j + 1))) := by
            show _ = _; rw [HS.out, if_neg (fun h => hy h.1), if_neg (fun h => hy h.1)]
          go_wp2
          go_roundw
          case rel => exact ⟨j + 1, by omega, by go_num, HB.out.alloc HB.out.size _, by show _ = _; rw [HE.out, HS'.out]⟩
          case measure => simp [intOf]; omega
      · obtain rfl : j = m := by omega
        have HF := Lib.hid (idleS_end x (l.drop (i + 1)) j (by rw [HLen.out, HM.out]; exact Nat.le_refl _))
        go_wp2
        go_ret
        exact ⟨ret_bool (by rw [HE.out, HF.out]), HB1.out.trans (HB.out.mono HB1.out.size)⟩
  · have h2b : (k == 2) = false := by simpa using h2
    by_cases h13 : k = 1 ∨ k = 3
    · have HJ : Hid (idle l i = nextL (l.drop (i + 1))) := by show _ = _; rw [HI.out]; unfold idleA; rw [if_neg h2, if_pos h13]
      clear HI
      have hk : ((k == 1) = true ∧ k = 1) ∨ ((k == 1) = false ∧ (k == 3) = true ∧ k = 3) := by rcases h13 with rfl | rfl <;> decide
      clear h13 h2 h2b
      by_cases hlast : l.length = i + 1
      · have HN : Hid (nextL (l.drop (i + 1)) = true) := by show _ = _; rw [List.drop_of_length_le (by omega)]; rfl
        have hz : l.length - (i + 1) = 0 := by omega
        rcases hk with ⟨_, rfl⟩ | ⟨_, _, rfl⟩
        all_goals
          go_enter Try.func47, Try.ntmps47
          go_wp2
          go_region
          all_goals go_wp2
          all_goals (go_ret; exact ⟨ret_bool (by rw [HJ.out, HN.out]), by go_grown⟩)
      · obtain ⟨b', o', k', y, e', hx', hc1', hc2'⟩ := HA2.out.at_ (k := 0) (by rw [HLen.out]; omega)
        obtain ⟨rfl, rfl⟩ : b = b' ∧ o + (i + 1) * 2 = o' := by simpa using e'
        have hcc : ¬ cap = i + 1 := by omega
        clear e' hRe
        have HN : Hid (nextL (l.drop (i + 1)) = (k' == 3)) := by
          show _ = _
          cases hl' : l.drop (i + 1) with
          | nil => rw [hl'] at hx'; simp at hx'
          | cons z r => rw [hl'] at hx'; obtain rfl : z = (k', y) := by simpa using hx'
                        rfl
        clear hx' hc2'
        have hz : (((l.length - (i + 1) : Nat) : Int) == 0) = false := by simp; omega
        have hz1 : (0 : Int) < ((l.length - (i + 1) : Nat) : Int) := by omega
        simp only [Nat.zero_mul, Nat.add_zero] at hc1'
        have hbl : b < w.heap.size := World.block_lt_of_cell? _ _ hc1'
        rcases hk with ⟨_, rfl⟩ | ⟨_, _, rfl⟩
        all_goals
          go_enter Try.func47, Try.ntmps47
          go_wp2
          go_region
          all_goals go_wp2
          all_goals (go_ret; exact ⟨ret_bool (by rw [HJ.out, HN.out]), by go_grown⟩)
    · have HJ : Hid (idle l i = false) := by show _ = _; rw [HI.out]; unfold idleA; rw [if_neg h2, if_neg h13]
      have h1b : (k == 1) = false := by simp; omega
      have h3b : (k == 3) = false := by simp; omega
      clear HI h13 h2
      go_enter Try.func47, Try.ntmps47
      go_wp2
      go_region
      all_goals go_wp2
      all_goals (go_ret; exact ⟨ret_bool (by rw [HJ.out]), by go_grown⟩)

end Go.Proofs.Ytnbpcdcdfkfmiaa
