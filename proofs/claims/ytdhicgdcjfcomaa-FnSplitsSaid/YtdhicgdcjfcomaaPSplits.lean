/- Plain: what FnSplits asks of the split. No program here. -/
import Derived.Test.YtdhicgdcjfcomaaPSlots
namespace Go.Proofs.Ytdhicgdcjfcomaa
open Plain

theorem way_bd {ws : List Int} (h1 : wts ws = true) : ∀ m, way ws 0 m ≤ 1000 * m := by
  have hg : ∀ i, ws.getD i 0 ≤ 1000 := fun i => by
    unfold wts at h1
    simp only [Bool.and_eq_true, decide_eq_true_eq, List.all_eq_true] at h1
    by_cases hi : i < ws.length
    · have := inR_true.1 (h1.2 _ (List.getElem_mem hi))
      rw [List.getD_eq_getElem?_getD, List.getElem?_eq_getElem hi]; simp; omega
    · rw [List.getD_eq_getElem?_getD, List.getElem?_eq_none (by omega)]; simp
  intro m
  induction m with
  | zero => simp [way]
  | succ m ih => have := hg (0 + m); rw [way]; omega
/-- what the law finds at one place of the chain -/
def PlaceOk (ws : List Int) (s at_ : Nat) (cost : Int) (m : Nat) : Prop :=
  ∃ L, lcV (ws.take m) s = L ∧ lcC (ws.take m) s = 0 ∧ 0 ≤ L ∧ L ≤ 1600000 ∧
    ((lcV (ws.drop m) ((s : Int) - 1) = 0 ∧ lcC (ws.drop m) ((s : Int) - 1) = 4 ∧ m ≠ at_) ∨
     ∃ R, lcV (ws.drop m) ((s : Int) - 1) = R ∧ lcC (ws.drop m) ((s : Int) - 1) = 0 ∧ 0 ≤ R ∧ R ≤ 1600000 ∧ cost ≤ way ws 0 m + R + L ∧ (m < at_ → cost < way ws 0 m + R + L) ∧ (m = at_ → cost = way ws 0 m + R + L))
theorem split_places {ws : List Int} {s : Nat} (h1 : wts ws = true) (hs : s ≤ 8) (h2 : 2 ≤ ws.length) (h : 0 ≤ lcost ws 0 ws.length s) :
    ∃ at_ : Nat, soV ws s = at_ ∧ soC ws s = 0 ∧ 1 ≤ at_ ∧ at_ < ws.length ∧ 1 ≤ s ∧ ∀ m, 1 ≤ m → m < ws.length → PlaceOk ws s at_ (lcost ws 0 ws.length s) m := by
  obtain ⟨hw, h40⟩ := isW_of h1
  obtain ⟨hc, at_, e1, a1, a2, a3, a4, a5⟩ := least_is hw (by omega : 0 + 1 < ws.length) h
  have hin : inR (s : Int) 0 8 = true := inR_yes (by omega) (by omega)
  have h0 : costC ws s = 0 := by simp [costC, h1, hin]
  refine ⟨at_, ?_, ?_, a1, a2, hc, fun m m1 m2 => ?_⟩
  · have h' : 2 ≤ ws.length := h2
    simp [soV, h0, h', h, e1]
  · have h'' : ¬ ws.length < 2 := by omega
    have : ¬ lcost ws 0 ws.length s < 0 := by omega
    simp [soC, h0, h'', this]
  · have eL : lcost (ws.take m) 0 (ws.take m).length s = lcost ws 0 m s := by
      rw [List.length_take, Nat.min_eq_left (by omega), lcost_take]
    have eR : lcost (ws.drop m) 0 (ws.drop m).length (s - 1) = lcost ws m ws.length (s - 1) := by
      rw [List.length_drop, lcost_drop ws m (ws.length - m) (s - 1) (by omega)]
    have hL := lcost_pos hw m 0 m s (by omega) hc
    have bL := lcost_bd40 hw 0 m s (by omega)
    have bR := lcost_bd40 hw m ws.length (s - 1) (by omega)
    obtain ⟨l1, l2⟩ := lc_yes (wts_take h1 m) hs (by rw [eL]; exact hL)
    rw [eL] at l1
    have es : (s : Int) - 1 = ((s - 1 : Nat) : Int) := by omega
    refine ⟨_, l1, l2, hL, bL.2, ?_⟩
    rw [es]
    by_cases hR : lcost ws m ws.length (s - 1) < 0
    · obtain ⟨r1, r2⟩ := lc_no (wts_drop h1 m) (by omega : s - 1 ≤ 8) (by rw [eR]; exact hR)
      refine .inl ⟨r1, r2, fun e => ?_⟩
      rw [e] at hR
      have := a3.1; omega
    · obtain ⟨r1, r2⟩ := lc_yes (wts_drop h1 m) (by omega : s - 1 ≤ 8) (by rw [eR]; omega)
      rw [eR] at r1
      have hcan : can ws 0 ws.length s m := ⟨by omega, hL⟩
      have ec : cand ws 0 ws.length s m = way ws 0 m + lcost ws m ws.length (s - 1) + lcost ws 0 m s := by unfold cand; rw [Nat.sub_zero]
      refine .inr ⟨_, r1, r2, by omega, bR.2, ?_, fun hm => ?_, fun hm => ?_⟩
      · rw [← ec]; exact (least_le hw hc m1 m2 hcan).2
      · rw [← ec]; exact a5 m m1 hm hcan
      · rw [← ec, hm]; exact a4
theorem so_no {ws : List Int} {s : Nat} (h1 : wts ws = true) (hs : s ≤ 8) (h : ¬ (2 ≤ ws.length ∧ 0 ≤ lcost ws 0 ws.length s)) :
    soV ws s = 0 ∧ ((soC ws s = 9 ∧ ws.length < 2) ∨ (soC ws s = 4 ∧ 2 ≤ ws.length ∧ s = 0)) := by
  have hin : inR (s : Int) 0 8 = true := inR_yes (by omega) (by omega)
  have h0 : costC ws s = 0 := by simp [costC, h1, hin]
  by_cases h2 : ws.length < 2
  · have h' : ¬ 2 ≤ ws.length := by omega
    exact ⟨by simp [soV, h0, h'], .inl ⟨by simp [soC, h0, h2], h2⟩⟩
  · have h' : 2 ≤ ws.length := by omega
    have hl : lcost ws 0 ws.length s < 0 := by omega
    have hl' : ¬ 0 ≤ lcost ws 0 ws.length s := by omega
    exact ⟨by simp [soV, h0, h', hl'], .inr ⟨by simp [soC, h0, h2, hl], h', (none_slots h1 hl).1⟩⟩

end Go.Proofs.Ytdhicgdcjfcomaa
