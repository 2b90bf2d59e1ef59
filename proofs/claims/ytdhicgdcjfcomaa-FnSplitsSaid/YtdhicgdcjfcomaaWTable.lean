/- Walks of the reference's table of least costs: l06Split, l06Table, l06Cost. -/
import Derived.Test.YtdhicgdcjfcomaaWCost
namespace Go.Proofs.Ytdhicgdcjfcomaa
open Go.RowKit Plain

/-- a table of C levels, each of n + 1 rows of n + 1 numbers, lies behind block g -/
structure TabRd (w : World) (g C n : Nat) (lb lc : Nat → Nat) (rb : Nat → Nat → Nat) (V : Nat → Nat → Nat → Int) : Prop where
  c0 : ∀ i, i < C → w.cell? ⟨g, i, none⟩ = some (.slice (some ⟨lb i, 0, none⟩) (n + 1) (lc i))
  c1 : ∀ i x, i < C → x ≤ n → w.cell? ⟨lb i, x, none⟩ = some (.slice (some ⟨rb i x, 0, none⟩) (n + 1) (n + 1))
  c2 : ∀ i x y, i < C → x ≤ n → y ≤ n → w.cell? ⟨rb i x, y, none⟩ = some (.int .i64 (V i x y))

set_option maxHeartbeats 1000000 in
theorem split_none (A : Option Addr) (cap : Nat) (ws : List Int) (T : Value) (a b : Nat) (w : World) (hab : a + 1 < b) :
    Calls Try.prog 24 #[.slice A ws.length cap, T, .int .i64 a, .int .i64 b, .int .i64 0] w fun e w' =>
      e = .returned (.tuple #[.int .i64 (lsplit ws a b 0), .int .i64 (lcost ws a b 0)]) ∧ w = w' := by
  have H1 := Lib.hid (lcost_none (ws := ws) hab)
  have H2 := Lib.hid (lsplit_none (ws := ws) hab)
  go_enter Try.func24, Try.ntmps24
  go_wp2
  go_ret2
  exact ⟨by rw [H1.out, H2.out]; rfl, rfl⟩

set_option maxHeartbeats 1000000 in
theorem split_some (A : Option Addr) (cap : Nat) (ws : List Int) (g C cap2 n : Nat) (lb lc : Nat → Nat) (rb : Nat → Nat → Nat) (V : Nat → Nat → Nat → Int) (a b c : Nat) (w : World)
    (hA : Ints w A ws) (hT : TabRd w g C n lb lc rb V) (hw : IsW ws) (hl : ws.length = n) (h40 : n ≤ 40) (hab : a + 1 < b) (hbn : b ≤ n) (hc : 0 < c) (hcC : c < C) (hC : C ≤ 9)
    (hR : ∀ m, a < m → m + 1 < b → V (c - 1) m b = lcost ws m b (c - 1)) (hL : ∀ m, a < m → m < b → V c a m = lcost ws a m c) :
    Calls Try.prog 24 #[.slice A ws.length cap, .slice (some ⟨g, 0, none⟩) C cap2, .int .i64 a, .int .i64 b, .int .i64 c] w fun e w' =>
      e = .returned (.tuple #[.int .i64 (lsplit ws a b c), .int .i64 (lcost ws a b c)]) ∧ w = w' := by
  have H1 := Lib.hid (lcost_eq (ws := ws) hab hc)
  have H2 := Lib.hid (lsplit_eq (ws := ws) hab hc)
  have HL := Lib.hid hL; clear hL
  have HR := Lib.hid hR; clear hR
  have HN := Lib.hid hl; clear hl
  have hn1 : n = n := rfl
  have hn0 : ws.length ≤ 40 := by rw [HN.out]; exact h40
  have hd : ((c : Int) == 0) = false := by simp; omega
  go_enter Try.func24, Try.ntmps24
  go_wp2
  go_loop [12, 13, 14, 15] (fun sp best far m => ∃ (k : Nat) (xw xb xs : Int), a ≤ k ∧ k + 1 ≤ b ∧ m = .int .i64 ((k : Int) + 1) ∧ best = .int .i64 xb ∧ sp = .int .i64 xs ∧ far = .int .i64 xw ∧
      Hid (lstate ws a b c (k - a) = (xw, xb, xs))) (fun _ _ _ m => (b - intOf m).toNat)
  case atStart => exact ⟨a, 0, -1, 0, by omega, by omega, by go_num, rfl, rfl, rfl, lstate_zero ws a b c⟩
  case round =>
    obtain ⟨k, xw, xb, xs, hak, hkb', rfl, rfl, rfl, rfl, HST⟩ := hrel
    by_cases hlt : k + 1 < b
    · obtain ⟨bb, oo, x, rfl, hx, hcx⟩ := hA.at_ (k := k) (by rw [HN.out]; omega)
      have hkl : k < ws.length := by rw [HN.out]; omega
      have hbd := lstate_bd40 hw a b c (k - a) (by omega) (by omega)
      rw [HST.out] at hbd
      obtain ⟨b1, b2, b3, b4, b5, b6⟩ := hbd
      simp only [] at b1 b2 b3 b4 b5 b6
      obtain ⟨x1, x2⟩ := hw.at_ hx
      have HX := Lib.hid hx; clear hx
      have t1 := hT.c0 (c - 1) (by omega)
      have t2 := hT.c1 (c - 1) (k + 1) (by omega) (by omega)
      have t3 := hT.c2 (c - 1) (k + 1) b (by omega) (by omega) (by omega)
      have t4 := hT.c0 c (by omega)
      have t5 := hT.c1 c a (by omega) (by omega)
      have t6 := hT.c2 c a (k + 1) (by omega) (by omega) (by omega)
      rw [HL.out (k + 1) (by omega) hlt] at t6
      obtain ⟨r1, r2⟩ := lcost_bd40 hw (k + 1) b (c - 1) (by omega)
      obtain ⟨l1, l2⟩ := lcost_bd40 hw a (k + 1) c (by omega)
      have HY := Lib.hid (fun hc => lstate_yes hak HST.out HX.out hc)
      have HNo := Lib.hid (fun hc => lstate_no hak HST.out HX.out hc)
      have hi1 : ((c : Int) - 1).toNat = c - 1 := by omega
      by_cases hsh : b = k + 2
      · subst hsh
        have hr0 : lcost ws (k + 1) (k + 2) (c - 1) = 0 := lcost_short (by omega)
        rw [hr0] at HY HNo
        clear hr0 HST HX r1 r2
        generalize V (c - 1) (k + 1) (k + 2) = right at *
        generalize lcost ws a (k + 1) c = left at *
        by_cases h2 : 0 ≤ left
        · by_cases h3 : xb < 0
          · have HB := Lib.hid (HY.out ⟨by omega, h2, .inl h3⟩); clear HY HNo
            simp only [Int.add_zero] at HB
            go_wp2
            go_round
            case rel => exact ⟨k + 1, _, _, _, by omega, by omega, by go_num, by rfl, by rfl, by rfl, HB.out⟩
            case measure => simp [intOf]; omega
          · by_cases h4 : xw + x + left < xb
            · have HB := Lib.hid (HY.out ⟨by omega, h2, .inr (by omega)⟩); clear HY HNo
              simp only [Int.add_zero] at HB
              go_wp2
              go_round
              case rel => exact ⟨k + 1, _, _, _, by omega, by omega, by go_num, by rfl, by rfl, by rfl, HB.out⟩
              case measure => simp [intOf]; omega
            · have HB := Lib.hid (HNo.out (by rintro ⟨_, _, h | h⟩ <;> omega)); clear HY HNo
              go_wp2
              go_round
              case rel => exact ⟨k + 1, _, _, _, by omega, by omega, by go_num, by rfl, by rfl, by rfl, HB.out⟩
              case measure => simp [intOf]; omega
        · have HB := Lib.hid (HNo.out (by rintro ⟨_, h, _⟩; omega)); clear HY HNo
          go_wp2
          go_round
          case rel => exact ⟨k + 1, _, _, _, by omega, by omega, by go_num, by rfl, by rfl, by rfl, HB.out⟩
          case measure => simp [intOf]; omega
      · rw [HR.out (k + 1) (by omega) (by omega)] at t3
        have hgt : ¬ (b : Int) - ((k : Int) + 1) ≤ 1 := by omega
        clear HST HX
        generalize lcost ws (k + 1) b (c - 1) = right at *
        generalize lcost ws a (k + 1) c = left at *
        by_cases h1 : 0 ≤ right
        · by_cases h2 : 0 ≤ left
          · by_cases h3 : xb < 0
            · have HB := Lib.hid (HY.out ⟨h1, h2, .inl h3⟩); clear HY HNo
              go_wp2
              go_round
              case rel => exact ⟨k + 1, _, _, _, by omega, by omega, by go_num, by rfl, by rfl, by rfl, HB.out⟩
              case measure => simp [intOf]; omega
            · by_cases h4 : xw + x + right + left < xb
              · have HB := Lib.hid (HY.out ⟨h1, h2, .inr h4⟩); clear HY HNo
                go_wp2
                go_round
                case rel => exact ⟨k + 1, _, _, _, by omega, by omega, by go_num, by rfl, by rfl, by rfl, HB.out⟩
                case measure => simp [intOf]; omega
              · have HB := Lib.hid (HNo.out (by rintro ⟨_, _, h | h⟩ <;> omega)); clear HY HNo
                go_wp2
                go_round
                case rel => exact ⟨k + 1, _, _, _, by omega, by omega, by go_num, by rfl, by rfl, by rfl, HB.out⟩
                case measure => simp [intOf]; omega
          · have HB := Lib.hid (HNo.out (by rintro ⟨_, h, _⟩; omega)); clear HY HNo
            go_wp2
            go_round
            case rel => exact ⟨k + 1, _, _, _, by omega, by omega, by go_num, by rfl, by rfl, by rfl, HB.out⟩
            case measure => simp [intOf]; omega
        · have HB := Lib.hid (HNo.out (by rintro ⟨h, _⟩; omega)); clear HY HNo
          go_wp2
          go_round
          case rel => exact ⟨k + 1, _, _, _, by omega, by omega, by go_num, by rfl, by rfl, by rfl, HB.out⟩
          case measure => simp [intOf]; omega
    · obtain rfl : b = k + 1 := by omega
      go_wp2
      go_ret2
      exact ⟨by rw [H1.out, H2.out, show k + 1 - a - 1 = k - a by omega, HST.out]; rfl, rfl⟩

end Go.Proofs.Ytdhicgdcjfcomaa
