/- Plain: the best schedule. No program is named here. -/
import Derived.Test.YtdhicgdcjfcomaaPLeast
namespace Go.Proofs.Ytdhicgdcjfcomaa.Plain

theorem lstate_sp (ws : List Int) (a b c : Nat) : ∀ j, 0 ≤ (lstate ws a b c j).2.1 → ∃ m : Nat, (lstate ws a b c j).2.2 = (m : Int) ∧ a < m ∧ m ≤ a + j ∧ 0 ≤ lcost ws m b (c - 1) ∧ 0 ≤ lcost ws a m c := by
  intro j
  induction j with
  | zero => intro h; simp [lstate, bsTo] at h
  | succ j ih =>
    intro h
    have hs : lstate ws a b c (j + 1) = if 0 ≤ lcost ws (a + j + 1) b (c - 1) ∧ 0 ≤ lcost ws a (a + j + 1) c ∧ ((lstate ws a b c j).2.1 < 0 ∨ (lstate ws a b c j).1 + ws.getD (a + j) 0 + lcost ws (a + j + 1) b (c - 1) + lcost ws a (a + j + 1) c < (lstate ws a b c j).2.1) then
      ((lstate ws a b c j).1 + ws.getD (a + j) 0, (lstate ws a b c j).1 + ws.getD (a + j) 0 + lcost ws (a + j + 1) b (c - 1) + lcost ws a (a + j + 1) c, ((a + j + 1 : Nat) : Int))
      else ((lstate ws a b c j).1 + ws.getD (a + j) 0, (lstate ws a b c j).2.1, (lstate ws a b c j).2.2) := rfl
    rw [hs] at h ⊢
    split at h
    · rename_i hc
      rw [if_pos hc]
      exact ⟨a + j + 1, rfl, by omega, by omega, hc.1, hc.2.1⟩
    · rename_i hc
      rw [if_neg hc]
      obtain ⟨m, h1, h2, h3, h4⟩ := ih h
      exact ⟨m, h1, h2, by omega, h4⟩

theorem split_at {ws : List Int} {a b c : Nat} (h : a + 1 < b) (h0 : 0 ≤ lcost ws a b c) :
    0 < c ∧ ∃ m : Nat, lsplit ws a b c = (m : Int) ∧ a < m ∧ m < b ∧ 0 ≤ lcost ws m b (c - 1) ∧ 0 ≤ lcost ws a m c := by
  have hc : 0 < c := by
    rcases Nat.eq_zero_or_pos c with rfl | hc
    · rw [lcost_none h] at h0; omega
    · exact hc
  refine ⟨hc, ?_⟩
  rw [lcost_eq h hc] at h0
  obtain ⟨m, h1, h2, h3, h4, h5⟩ := lstate_sp ws a b c (b - a - 1) h0
  exact ⟨m, by rw [lsplit_eq h hc]; exact h1, h2, by omega, h4, h5⟩

/-- the best schedule of the steps a to b - 1 with c of S slots -/
def planL (ws : List Int) (S : Nat) : Nat → Nat → Nat → Nat → Bool → List (Int × Int)
  | 0, _, _, _, _ => []
  | f + 1, a, b, c, held =>
    if a = b then [] else if b = a + 1 then [(4, 0)] else
      (if held then [] else [(2, (S : Int) - (c : Int))]) ++ ([(1, lsplit ws a b c - (a : Int))] ++ (planL ws S f (lsplit ws a b c).toNat b (c - 1) false ++ ([(3, (S : Int) - (c : Int))] ++ planL ws S f a (lsplit ws a b c).toNat c true)))

theorem planL_len (ws : List Int) (S : Nat) : ∀ (f a b c : Nat) (held : Bool), a < b → b - a ≤ f → 0 ≤ lcost ws a b c → (planL ws S f a b c held).length + 3 ≤ 4 * (b - a) := by
  intro f
  induction f with
  | zero => intro a b c held h1 h2; omega
  | succ f ih =>
    intro a b c held h1 h2 h3
    simp only [planL]
    rw [if_neg (by omega)]
    split
    · simp; omega
    · obtain ⟨hc, m, hm, m1, m2, m3, m4⟩ := split_at (by omega) h3
      rw [hm, Int.toNat_natCast]
      have r := ih m b (c - 1) false m2 (by omega) m3
      have l := ih a m c true m1 (by omega) m4
      cases held <;> simp <;> omega

end Go.Proofs.Ytdhicgdcjfcomaa.Plain
