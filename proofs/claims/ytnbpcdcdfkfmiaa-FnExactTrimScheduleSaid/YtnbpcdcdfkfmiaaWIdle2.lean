/- Walk of l06Idle. -/
import Derived.Test.YtnbpcdcdfkfmiaaWIdle
namespace Go.Proofs.Ytnbpcdcdfkfmiaa
open Go.RowKit Plain

set_option maxRecDepth 100000 in
set_option maxHeartbeats 1000000 in
theorem l06Idle_any (A : Option Addr) (cap : Nat) (l : List (Int × Int)) (i : Nat) (w : World) (hA : Acts w A l) (hi : i < l.length) (hm : l.length ≤ 4611686018427387904) :
    Calls Try.prog 45 #[.slice A l.length cap, .int .i64 i] w fun e w' => e = .returned (.bool (idle l i)) ∧ Below w.heap.size w w' := by
  obtain ⟨b, o, k, x, rfl, hx, hc1, hc2⟩ := hA.at_ hi
  have HI := Lib.hid (idle_eq hx)
  have hi' : (i : Int) < (l.length : Int) := by omega
  have HA := Lib.hid hA; clear hA hx
  by_cases h2 : k = 2
  · subst h2
    have HJ : Hid (idle l i = idleS x (l.drop (i + 1))) := HI.out
    clear HI
    go_enter Try.func45, Try.ntmps45
    go_wp2
    have HC : Hid (Cells (w.alloc (.cells #[.int .i64 2, .int .i64 x] 68)) w.heap.size 68 [.int .i64 2, .int .i64 x]) := Cells.new w _ _
    have HB1 : Hid (Below w.heap.size w (w.alloc (.cells #[.int .i64 2, .int .i64 x] 68))) := by show Below _ _ _; go_grown
    have HA1 := Lib.hid (HA.out.below (HB1.out))
    have hwl : w.heap.size < (w.alloc (.cells #[.int .i64 2, .int .i64 x] 68)).heap.size := HC.out.lt
    generalize (w.alloc (.cells #[.int .i64 2, .int .i64 x] 68)) = w1 at *
    clear hc1 hc2
    go_loopw [6] (fun q wr => ∃ j : Nat, i + 1 ≤ j ∧ j ≤ l.length ∧ q = .int .i64 (j : Int) ∧ Hid (Below w1.heap.size w1 wr) ∧ Hid (idle l i = idleS x (l.drop j))) (fun q _ => l.length - (intOf q).toNat)
    case atStart => exact ⟨i + 1, by omega, by omega, by go_num, Below.refl _ _, HJ.out⟩
    case round =>
      obtain ⟨j, hj1, hj, rfl, HB, HE⟩ := hrel
      by_cases hlt : j < l.length
      · obtain ⟨b', o', k', y, e', hx, hc1, hc2⟩ := (HA1.out.below HB.out).at_ hlt
        obtain ⟨rfl, rfl⟩ : b = b' ∧ o = o' := by simpa using e'
        clear e'
        have HS := Lib.hid (idleS_step (x := x) hx)
        clear hx
        have hcy := (HC.out.below HB.out hwl).cell 1
        simp only [List.getElem?_cons_succ, List.getElem?_cons_zero] at hcy
        have hjl : (j : Int) < (l.length : Int) := by omega
        have hj0 : (0 : Int) ≤ (j : Int) := by omega
        by_cases hy : y = x
        · subst hy
          by_cases hk3 : k' = 3
          · subst hk3
            have HS' : Hid (idleS y (l.drop j) = false) := by show _ = _; rw [HS.out, if_pos ⟨rfl, rfl⟩]
            go_wp2
            go_quiet (fail)
            go_wp2
            go_ret
            exact ⟨ret_bool (by rw [HE.out, HS'.out]), below_drewN' (HB1.out.trans (HB.out.mono HB1.out.size)) _⟩
          · have hkb : (k' == 3) = false := by simpa using hk3
            by_cases hk2 : k' = 2
            · subst hk2
              have HS' : Hid (idleS y (l.drop j) = true) := by show _ = _; rw [HS.out, if_neg (by omega), if_pos ⟨rfl, rfl⟩]
              go_wp2
              go_quiet (fail)
              rename Nat => nq
              go_wp2
              go_quiet (fail)
              go_wp2
              go_ret
              exact ⟨ret_bool (by rw [HE.out, HS'.out]), below_drewN' (below_drewN' (HB1.out.trans (HB.out.mono HB1.out.size)) _) _⟩
            · have hkb2 : (k' == 2) = false := by simpa using hk2
              have HS' : Hid (idleS y (l.drop j) = idleS y (l.drop (j + 1))) := by
                show _ = _; rw [HS.out, if_neg (fun h => hk3 h.2), if_neg (fun h => hk2 h.2)]
              go_wp2
              go_quiet (fail)
              rename Nat => nq
              go_wp2
              go_quiet (fail)
              rename Nat => nq2
              go_wp2
              go_roundw
              case rel => exact ⟨j + 1, by omega, by omega, by go_num, below_drewN' HB.out _, by show _ = _; rw [HE.out, HS'.out]⟩
              case measure => simp [intOf]; omega
        · have hyb : (y == x) = false := by simpa using hy
          have HS' : Hid (idleS x (l.drop j) = idleS x (l.drop (j + 1))) := by
            show _ = _; rw [HS.out, if_neg (fun h => hy h.1), if_neg (fun h => hy h.1)]
          go_wp2
          go_quiet (fail)
          rename Nat => nq
          go_wp2
          go_quiet (fail)
          rename Nat => nq2
          go_wp2
          go_roundw
          case rel => exact ⟨j + 1, by omega, by omega, by go_num, below_drewN' HB.out _, by show _ = _; rw [HE.out, HS'.out]⟩
          case measure => simp [intOf]; omega
      · obtain rfl : j = l.length := by omega
        have HF := Lib.hid (idleS_end x l l.length (Nat.le_refl _))
        go_wp2
        go_ret
        exact ⟨ret_bool (by rw [HE.out, HF.out]), HB1.out.trans (HB.out.mono HB1.out.size)⟩
  · have h2b : (k == 2) = false := by simpa using h2
    by_cases h13 : k = 1 ∨ k = 3
    · have HJ : Hid (idle l i = nextL (l.drop (i + 1))) := by show _ = _; rw [HI.out]; unfold idleA; rw [if_neg h2, if_pos h13]
      clear HI
      have hk : ((k == 1) = true ∧ k = 1) ∨ ((k == 1) = false ∧ (k == 3) = true ∧ k = 3) := by rcases h13 with rfl | rfl <;> decide
      clear h13 h2 h2b
      by_cases hlast : l.length = i + 1
      · have HN : Hid (nextL (l.drop (i + 1)) = true) := by show _ = _; rw [List.drop_of_length_le (by omega)]; rfl
        have hz : ((i : Int) == (l.length : Int) - 1) = true := by simp; omega
        have HL := Lib.hid hlast; clear hlast
        rcases hk with ⟨_, rfl⟩ | ⟨_, _, rfl⟩
        all_goals
          go_enter Try.func45, Try.ntmps45
          go_wp2
          all_goals (go_ret; exact ⟨ret_bool (by rw [HJ.out, HN.out]), by go_grown⟩)
      · obtain ⟨b', o', k', y, e', hx', hc1', hc2'⟩ := HA.out.at_ (k := i + 1) (by omega)
        obtain ⟨rfl, rfl⟩ : b = b' ∧ o = o' := by simpa using e'
        clear e'
        have HN : Hid (nextL (l.drop (i + 1)) = (k' == 3)) := by
          show _ = _
          obtain ⟨hj, e⟩ := List.getElem?_eq_some_iff.1 hx'
          rw [List.drop_eq_getElem_cons hj, e]; rfl
        clear hx' hc2'
        have hz : ((i : Int) == (l.length : Int) - 1) = false := by simp; omega
        have hz1 : (i : Int) + 1 < (l.length : Int) := by omega
        have hbl : b < w.heap.size := World.block_lt_of_cell? _ _ hc1'
        rcases hk with ⟨_, rfl⟩ | ⟨_, _, rfl⟩
        all_goals
          go_enter Try.func45, Try.ntmps45
          go_wp2
          all_goals (go_ret; exact ⟨ret_bool (by rw [HJ.out, HN.out]), by go_grown⟩)
    · have HJ : Hid (idle l i = false) := by show _ = _; rw [HI.out]; unfold idleA; rw [if_neg h2, if_neg h13]
      have h1b : (k == 1) = false := by simp; omega
      have h3b : (k == 3) = false := by simp; omega
      clear HI h13 h2
      go_enter Try.func45, Try.ntmps45
      go_wp2
      all_goals (go_ret; exact ⟨ret_bool (by rw [HJ.out]), by go_grown⟩)

end Go.Proofs.Ytnbpcdcdfkfmiaa
