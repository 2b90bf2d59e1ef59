/- Plain: the rounds of the drawing of a schedule come to an end. -/
import Derived.Test.YtdhicgdcjfcomaaPLcg
import Derived.Test.YtdhicgdcjfcomaaWSrc3
import Derived.Test.YtdhicgdcjfcomaaWDo
namespace Go.Proofs.Ytdhicgdcjfcomaa
open Plain

theorem DoR.len {c c' : Ch} {l l' : List (Int × Int)} {k a : Int} (h : DoR c l k a c' l') : l.length ≤ l'.length := by
  rcases h with ⟨_, _, _, rfl⟩ | ⟨_, _, rfl⟩
  · simp
  · exact Nat.le_refl _
theorem DoR.same {c c' : Ch} {l l' : List (Int × Int)} {k a : Int} (h : DoR c l k a c' l') (he : l'.length = l.length) : c' = c ∧ (isAct k a && poss c k a) = false := by
  rcases h with ⟨_, _, _, rfl⟩ | ⟨h, rfl, rfl⟩
  · simp at he
  · exact ⟨rfl, h⟩
/-- the first slot holds the first state -/
def Slot0 (ns : Nat) (c : Ch) : Prop := 0 < ns → c.slots.getD 0 0 = 0
theorem Slot0.step {ns : Nat} {c c' : Ch} {l l' : List (Int × Int)} {k a : Int} (h : Slot0 ns c) (hd : DoR c l k a c' l') (hk : k = 2 → 1 ≤ a) : Slot0 ns c' := fun hn => by
  have h0 := h hn
  rcases hd with ⟨ha, _, rfl, _⟩ | ⟨_, rfl, _⟩
  · rcases isAct_cases ha with ⟨rfl, h1, h2⟩ | ⟨rfl, h1, h2⟩ | ⟨rfl, h1, h2⟩ | ⟨rfl, rfl⟩
    · have e : stepC c 1 a = advN c a.toNat := by simp [stepC]
      rw [e]
      have : ∀ j, (advN c j).slots = c.slots := fun j => by
        induction j with
        | zero => rfl
        | succ j ih => simp [advN, adv1, ih]
      rw [this]; exact h0
    · have e : (stepC c 2 a).slots = c.slots.set a.toNat c.state := by simp [stepC]
      rw [e]
      have := hk rfl
      obtain ⟨i, hi⟩ : ∃ i, a.toNat = i + 1 := ⟨a.toNat - 1, by omega⟩
      rw [hi]
      cases hs : c.slots with
      | nil => rw [hs] at h0; exact h0
      | cons x r => rw [hs] at h0; simpa using h0
    · have e : (stepC c 3 a).slots = c.slots := by simp [stepC]
      rw [e]; exact h0
    · have e : (stepC c 4 0).slots = c.slots := by simp [stepC]
      rw [e]; exact h0
  · exact h0
theorem load0 {n ns j : Nat} {c c' : Ch} {l l' : List (Int × Int)} (hI : InvC n ns j c) (h0 : Slot0 ns c) (hn : 0 < ns) (hd : DoR c l 3 0 c' l') : l.length < l'.length := by
  rcases hd with ⟨_, _, _, rfl⟩ | ⟨h, _, _⟩
  · simp
  · exfalso
    have ha : isAct 3 0 = true := by decide
    have hp : poss c 3 0 = true := by
      have e := h0 hn
      have hs := hI.sl
      unfold poss
      rw [if_neg (by omega), if_neg (by omega), if_pos rfl, show (0 : Int).toNat = 0 from rfl, e, hs]
      simp [hn]
    rw [ha, hp] at h
    cases h
/-- a step or more lies ahead: the way is gone and the step reversed -/
theorem reverse1 {n ns j : Nat} {c c1 c2 : Ch} {l l1 l2 : List (Int × Int)} (hI : InvC n ns j c) (hlt : c.state < c.left) (h1 : DoR c l 1 (c.left - 1 - c.state) c1 l1) (h2 : DoR c1 l1 4 0 c2 l2) : l.length < l2.length := by
  have a1 := h1.len
  have a2 := h2.len
  rcases Nat.lt_or_ge l.length l2.length with h | h
  · exact h
  · exfalso
    obtain ⟨e1, f1⟩ := h1.same (by omega)
    obtain ⟨e2, f2⟩ := h2.same (by omega)
    subst e1
    have i1 := hI.n40
    have i2 := hI.ln
    have i3 := hI.s0
    by_cases hm : c1.state = c1.left - 1
    · have ha : isAct 4 0 = true := by decide
      have hp : poss c1 4 0 = true := by simp [poss, hm]
      rw [ha, hp] at f2; cases f2
    · have ha : isAct 1 (c1.left - 1 - c1.state) = true := by
        unfold isAct
        rw [if_pos rfl]
        exact inR_true.2 ⟨by omega, by omega⟩
      have hp : poss c1 1 (c1.left - 1 - c1.state) = true := by
        unfold poss
        rw [if_pos rfl]
        exact decide_eq_true (by omega)
      rw [ha, hp] at f1; cases f1
theorem store1 {n ns j : Nat} {c c' : Ch} {l l' : List (Int × Int)} {x : Int} (hI : InvC n ns j c) (h1 : 1 ≤ x) (h2 : x < ns) (hd : DoR c l 2 x c' l') : l.length < l'.length := by
  rcases hd with ⟨_, _, _, rfl⟩ | ⟨h, _, _⟩
  · simp
  · exfalso
    have i2 := hI.ns8
    have ha : isAct 2 x = true := by
      unfold isAct
      rw [if_neg (by omega), if_pos (.inl rfl)]
      exact inR_true.2 ⟨by omega, by omega⟩
    have hp : poss c 2 x = true := by
      unfold poss
      rw [if_neg (by omega), if_pos rfl, hI.sl]
      exact decide_eq_true (by omega)
    rw [ha, hp] at h; cases h
theorem adv_one {n ns j : Nat} {c c' : Ch} {l l' : List (Int × Int)} {x : Int} (hI : InvC n ns j c) (h1 : 1 ≤ x) (h2 : c.state + x < c.left) (hd : DoR c l 1 x c' l') : l.length < l'.length := by
  rcases hd with ⟨_, _, _, rfl⟩ | ⟨h, _, _⟩
  · simp
  · exfalso
    have i1 := hI.n40
    have i2 := hI.ln
    have i3 := hI.s0
    have ha : isAct 1 x = true := by
      unfold isAct
      rw [if_pos rfl]
      exact inR_true.2 ⟨by omega, by omega⟩
    have hp : poss c 1 x = true := by
      unfold poss
      rw [if_pos rfl]
      exact decide_eq_true h2
    rw [ha, hp] at h; cases h

/-- the choices that a round takes before the last: the stride of the rounds that add nothing -/
def strideOf (ns : Nat) : Nat := if ns = 0 then 2 else 3
theorem stride_ok (ns : Nat) : strideOf ns = 2 ∨ strideOf ns = 3 := by unfold strideOf; split <;> simp

/-- what a round has come to: the list has grown, or nothing was added and the choices were few -/
def Few (ns N : Nat) (c : Ch) (l : List (Int × Int)) (at_ : Nat) (s : Int) (m : Nat) (c' : Ch) (l' : List (Int × Int)) (at' : Nat) (s' : Int) : Prop :=
  l.length < l'.length ∨ (l'.length = l.length ∧ c' = c ∧ at' = at_ + m ∧ (N ≤ at_ → s' = nxN m s))

theorem nx_snoc (m : Nat) (s : Int) : nxS (nxN m s) = nxN (m + 1) s := by
  rw [nxN_add]; rfl
/-- behind the load (and the second load): slots = 0: no draw; 1: grown; 2 and more: one draw -/
theorem few_load {n ns N at_ at1 : Nat} {c c1 c2 : Ch} {l l1 l2 : List (Int × Int)} {s s1 x : Int} (hI : InvC n ns l.length c) (h0 : Slot0 ns c)
    (hp : PickR (ns : Int) N at_ s at1 s1 x) (h1 : DoR c l 3 x c1 l1) (hI1 : InvC n ns l1.length c1)
    (h2 : (c1.left ≤ c1.state ∧ DoR c1 l1 3 0 c2 l2) ∨ (c1.state < c1.left ∧ c2 = c1 ∧ l2 = l1)) :
    Few ns N c l at_ s (if ns = 0 then 0 else 1) c2 l2 at1 s1 ∧ (0 < ns → l2.length = l.length → c2.state < c2.left) := by
  have a1 := h1.len
  have hs1 : Slot0 ns c1 := h0.step h1 (fun h => by omega)
  have a2 : l1.length ≤ l2.length := by
    rcases h2 with ⟨_, h2⟩ | ⟨_, _, rfl⟩
    · exact h2.len
    · exact Nat.le_refl _
  have hg : 0 < ns → l2.length = l.length → c2.state < c2.left := fun hn he => by
    rcases h2 with ⟨_, h2⟩ | ⟨hlt, rfl, rfl⟩
    · have := load0 hI1 hs1 hn h2; omega
    · exact hlt
  refine ⟨?_, hg⟩
  rcases Nat.lt_or_ge l.length l2.length with h | h
  · exact .inl h
  · right
    obtain ⟨e1, _⟩ := h1.same (by omega)
    have e2 : c2 = c1 := by
      rcases h2 with ⟨_, h2⟩ | ⟨_, rfl, _⟩
      · exact (h2.same (by omega)).1
      · rfl
    refine ⟨by omega, by rw [e2, e1], ?_⟩
    obtain ⟨x0, hx⟩ := hp
    rcases Nat.lt_trichotomy ns 1 with hn | hn | hn
    · rcases hx with ⟨_, _, e, e'⟩ | ⟨h, _⟩
      · rw [if_pos (by omega)]; exact ⟨e, fun _ => e'⟩
      · omega
    · exfalso
      rcases hx with ⟨_, rfl, _, _⟩ | ⟨h, _⟩
      · have := load0 hI h0 (by omega) h1; omega
      · omega
    · rcases hx with ⟨h, _⟩ | ⟨_, _, e, e'⟩
      · omega
      · rw [if_neg (by omega)]; exact ⟨e, fun h => (e' h).1⟩
/-- behind the second choice -/
theorem few_adv {n ns N at_ at1 at2 at3 at4 : Nat} {c c2 c3 c4 : Ch} {l l2 l3 l4 : List (Int × Int)} {s s1 s2 s3 s4 y x3 x4 : Int} {m : Nat} (hI2 : InvC n ns l2.length c2) (hI3 : InvC n ns l3.length c3)
    (hF : Few ns N c l at_ s m c2 l2 at1 s1) (hy : PickR 2 N at1 s1 at2 s2 y) 
    (h : (y = 0 ∧ PickR (c2.left - 1 - c2.state) N at2 s2 at3 s3 x3 ∧ DoR c2 l2 1 (1 + x3) c3 l3 ∧
        ((1 < ns ∧ PickR ((ns : Int) - 1) N at3 s3 at4 s4 x4 ∧ DoR c3 l3 2 (1 + x4) c4 l4) ∨ (ns ≤ 1 ∧ at4 = at3 ∧ s4 = s3 ∧ c4 = c3 ∧ l4 = l3))) ∨ (y ≠ 0 ∧ at4 = at2 ∧ s4 = s2 ∧ c4 = c2 ∧ l4 = l2))
    (hns : ns = 1 → l.length < l2.length) (hst : 0 < ns → l2.length = l.length → c2.state < c2.left) :
    Few ns N c l at_ s (m + 1) c4 l4 at4 s4 := by
  have hstep : ∀ {a b : Nat} {t u z : Int} {M : Int}, 1 < M → PickR M N a t b u z → b = a + 1 ∧ (N ≤ a → u = nxS t) := fun hM hp => by
    obtain ⟨_, hp⟩ := hp
    rcases hp with ⟨h, _⟩ | ⟨_, _, e, e'⟩
    · omega
    · exact ⟨e, fun h => (e' h).1⟩
  have y2 := hstep (by omega) hy
  rcases hF with hF | ⟨f1, f2, f3, f4⟩
  · left
    rcases h with ⟨_, _, h3, h4⟩ | ⟨_, _, _, _, rfl⟩
    · have := h3.len
      rcases h4 with ⟨_, _, h4⟩ | ⟨_, _, _, _, rfl⟩
      · have := h4.len; omega
      · omega
    · exact hF
  · rcases h with ⟨_, hp3, h3, h4⟩ | ⟨_, rfl, rfl, rfl, rfl⟩
    · have a3 := h3.len
      rcases h4 with ⟨hn, hp4, h4⟩ | ⟨hn, rfl, rfl, rfl, rfl⟩
      · left
        have hx : 0 ≤ x4 ∧ x4 < (ns : Int) - 1 := by
          obtain ⟨z0, hp4⟩ := hp4
          rcases hp4 with ⟨h, e, _⟩ | ⟨_, e, _⟩
          · omega
          · omega
        have := store1 hI3 (by omega) (by omega) h4
        omega
      · obtain ⟨z0, hp3⟩ := hp3
        have hn0 : ns = 0 := by
          rcases Nat.lt_or_ge 0 ns with h | h
          · have := hns (by omega); omega
          · omega
        rcases Nat.lt_or_ge l.length l4.length with hg | hg
        · exact .inl hg
        · right
          rcases hp3 with ⟨hm, _, rfl, rfl⟩ | ⟨hm, hx, _, _⟩
          · obtain ⟨e3, _⟩ := h3.same (by omega)
            refine ⟨by omega, by rw [e3, f2], by omega, fun hN => ?_⟩
            rw [y2.2 (by omega), f4 hN, nx_snoc]
          · have := adv_one hI2 (by omega) (by omega) h3
            omega
    · exact .inr ⟨f1, f2, by omega, fun hN => by rw [y2.2 (by omega), f4 hN, nx_snoc]⟩
/-- a round that goes on at once: the list has grown, or the wait is shorter -/
theorem few_cont {ns N at_ at4 at5 : Nat} {c c4 : Ch} {l l4 : List (Int × Int)} {s s4 s5 z : Int} {M : Nat}
    (hF : Few ns N c l at_ s ((if ns = 0 then 0 else 1) + 1) c4 l4 at4 s4) (hz : PickR 5 N at4 s4 at5 s5 z) (h0 : z = 0) (hS : Slack (strideOf ns) N at_ s M) :
    l.length < l4.length ∨ (l4.length = l.length ∧ 0 < M ∧ Slack (strideOf ns) N at5 s5 (M - 1)) := by
  rcases hF with hF | ⟨f1, f2, f3, f4⟩
  · exact .inl hF
  · right
    obtain ⟨_, hz⟩ := hz
    rcases hz with ⟨h, _⟩ | ⟨_, _, e, e'⟩
    · omega
    · have hd : at5 = at_ + strideOf ns := by unfold strideOf; split <;> simp_all <;> omega
      have hk := hS.stuck (s' := s5) (stride_ok ns) (fun hN => by
        obtain ⟨g1, g2⟩ := e' (by omega)
        refine ⟨?_, by rw [← g2]; exact h0⟩
        rw [g1, f4 hN, nx_snoc]
        congr 1
        unfold strideOf
        split <;> rfl)
      rw [← hd] at hk
      exact ⟨f1, hk⟩

theorem Few.len {ns N at_ at' m : Nat} {c c' : Ch} {l l' : List (Int × Int)} {s s' : Int} (h : Few ns N c l at_ s m c' l' at' s') : l.length ≤ l'.length := by
  rcases h with h | ⟨h, _⟩ <;> omega
/-- a round that comes to its end without a break has made the list longer -/
theorem end_grow {n ns : Nat} {c6 c7 c8 : Ch} {l l6 l7 l8 : List (Int × Int)} (hI : InvC n ns l6.length c6) (h7 : DoR c6 l6 1 (c6.left - 1 - c6.state) c7 l7) (h8 : DoR c7 l7 4 0 c8 l8)
    (hl : l.length ≤ l6.length) (hst : 0 < ns → l6.length = l.length → c6.state < c6.left) (hnb : ns = 0 → c8.state ≤ c8.left - 1) : l.length < l8.length := by
  have a7 := h7.len
  have a8 := h8.len
  rcases Nat.lt_or_ge l.length l8.length with h | h
  · exact h
  · exfalso
    obtain ⟨e7, _⟩ := h7.same (by omega)
    obtain ⟨e8, _⟩ := h8.same (by omega)
    have hlt : c6.state < c6.left := by
      rcases Nat.eq_zero_or_pos ns with hn | hn
      · have := hnb hn; rw [e8, e7] at this; omega
      · exact hst hn (by omega)
    have := reverse1 hI hlt h7 h8
    omega

end Go.Proofs.Ytdhicgdcjfcomaa
