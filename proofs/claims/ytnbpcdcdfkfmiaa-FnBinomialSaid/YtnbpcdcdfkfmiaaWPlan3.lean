/- Walk of the program's plan. -/
import Derived.Test.YtnbpcdcdfkfmiaaWPlan2
namespace Go.Proofs.Ytnbpcdcdfkfmiaa
open Go.RowKit Plain

section
variable (p : Nat) (A : Option Addr) (cap : Nat) (ws : List Int) (S : Nat) (rc rs base : Nat)

theorem ActRow.two {w w' : World} {base rc rs : Nat} {v : Value} {l : List (Int × Int)} (h : ActRow w base v l) (ho : Only (Two rc rs) w w') (hc : rc < base) (hs : rs < base) : ActRow w' base v l :=
  h.keep fun g hg => ho.block g (h.lt hg).2 (by have := (h.lt hg).1; rintro (e | e) <;> omega)

set_option maxRecDepth 100000 in
set_option maxHeartbeats 4000000 in
theorem plan_step (f : Nat) (ih : Hid (∀ (a b c : Nat) (ai bi ci : Int) (held : Bool) (Av : Option Addr) (cv : Nat) (n : Nat) (out : List (Int × Int)) (w : World) (mc ms : List ((Int × Int × Int) × Value)),
      ai = a → bi = b → ci = c → n = out.length → b - a ≤ f → a < b → b ≤ ws.length → c ≤ S → 0 ≤ lcost ws a b c → PlanAt w p A cap ws S rc rs mc ms → ActRow w base (.slice Av n cv) out → out.length + 4 * (b - a) ≤ 1000 → base ≤ w.heap.size →
      Calls Try.prog 40 #[.pointer (some ⟨p, 0, none⟩), .int .i64 ai, .int .i64 bi, .int .i64 ci, .bool held, .slice Av n cv] w (PlanPost p A cap ws S rc rs base (out ++ planL ws S f a b c held) w)))
    (hws : IsW ws) (hl : ws.length ≤ 40) (hS : S ≤ 8) (hp : p < base) (hc : rc < base) (hs : rs < base) (hA : ∀ q, InB ws.length A q → q < base)
    (a b c : Nat) (held : Bool) (Av : Option Addr) (cv : Nat) (out : List (Int × Int)) (w : World) (mc ms : List ((Int × Int × Int) × Value))
    (hf : b - a ≤ f + 1) (hab : a + 1 < b) (hb : b ≤ ws.length) (hcS : c ≤ S) (h0 : 0 ≤ lcost ws a b c) (hP : PlanAt w p A cap ws S rc rs mc ms) (hR : ActRow w base (.slice Av out.length cv) out) (ho : out.length + 4 * (b - a) ≤ 1000) (hbs : base ≤ w.heap.size) :
    Calls Try.prog 40 #[.pointer (some ⟨p, 0, none⟩), .int .i64 a, .int .i64 b, .int .i64 c, .bool held, .slice Av out.length cv] w
      (PlanPost p A cap ws S rc rs base (out ++ planL ws S (f + 1) a b c held) w) := by
  obtain ⟨i0, hi, hz0, hz1, hz2⟩ := info_parts Try.infoA
  obtain ⟨hc0, m, hm, m1, m2, m3, m4⟩ := split_at hab h0
  have HL : Hid (planL ws S (f + 1) a b c held = (if held then [] else [(2, (S : Int) - (c : Int))]) ++ ([(1, (m : Int) - (a : Int))] ++ (planL ws S f m b (c - 1) false ++ ([(3, (S : Int) - (c : Int))] ++ planL ws S f a m c true)))) := by
    show _ = _
    simp only [planL]
    rw [if_neg (by omega), if_neg (by omega), hm, Int.toNat_natCast]
  have hl1 := planL_len ws S f m b (c - 1) false m2 (by omega) m3
  have HM := Lib.hid hm; clear hm
  have HR := Lib.hid hR; clear hR
  have HP := Lib.hid hP; clear hP
  have hd0 : ((b : Int) - (a : Int) == 0) = false := by simp; omega
  have hd1 : ((b : Int) - (a : Int) == 1) = false := by simp; omega
  go_enter Try.func40, Try.ntmps40
  go_wp2_with fail
  refine (least_any p A cap ws S rc rs hws hl (b - a) a b c a b c w mc ms rfl rfl rfl (Nat.le_refl _) (by omega) hb (by omega) HP.out).mono ?_
  rintro e w1 ⟨rfl, mc1, ms1, hP1, hO1, hg⟩
  have hg1 := hg hab hc0
  have HP1 := Lib.hid hP1
  have HR1 := Lib.hid (HR.out.two hO1 hc hs)
  have HO1 : Hid (Only (TwoB rc rs base) w w1) := hO1.of_two
  have hsz1 := hO1.size
  have f3 := hP1.f3
  have f1 := hP1.f1
  have hlk : ∀ nq, (Instr.lookup 78 (.map (some rs)) (.agg #[.int .i64 a, .int .i64 b, .int .i64 c]) false).run Try.prog (w1.drewN nq) = .ok (.int .i64 (m : Int)) (w1.drewN nq) := by
    intro nq
    have h := run_lookup_plain law3 Try.underlying78 zeroI (w := w1.drewN nq) (r := rs) (m := ms1) HP1.out.maps ((a : Int), (b : Int), (c : Int))
    rw [hg1, HM.out] at h
    simpa [enc3] using h
  clear hg hg1 hP1 hO1
  go_wp2
  go_quiet (fail)
  rename Nat => nq
  clear hlk f1 f3
  have HP2 := Lib.hid (HP1.out.below (below_drewN' (Below.refl w1.heap.size w1) nq))
  have HR2 := Lib.hid (HR1.out.next (below_drewN' (Below.refl w1.heap.size w1) nq))
  have HO2 : Hid (Only (TwoB rc rs base) w (w1.drewN nq)) := HO1.out.drewN nq
  have hs2 : base ≤ (w1.drewN nq).heap.size := Nat.le_trans hbs hsz1
  generalize w1.drewN nq = w2 at *
  clear HP1 HR1 HO1 hsz1
  cases held
  · simp only [Bool.false_eq_true, if_false] at HL
    go_wp2_with (at_builtin; refine wpList_append_own _ rfl _ _ 30 rfl base 68 i0 (act 0 0) 2 16 Try.underlying30 hi hz0 hz1 hz2 rfl (by decide) _ out.length _ rfl ((HR2.out.ownN (n := out.length) (by simp)).alloc _) ⟨w2.heap.size, 0, none⟩ 1 1 [.int .i64 2, .int .i64 ((S : Int) - (c : Int))] rfl rfl ?s1 ?s2 ?s3 ?s4 ?s5 ?_)
    try (case s1 => intro j u hj; match j with | 0 => (simp at hj; subst hj; simp [addr_add]) | 1 => (simp at hj; subst hj; simp [addr_add]) | j + 2 => simp at hj)
    try (case s2 => first | rfl | exact ⟨rfl, rfl⟩ | (intro u hu; simp at hu; rcases hu with rfl | rfl <;> rfl) | (simp; done) | (constructor <;> rfl))
    case s3 => unfold maxLen; omega
    case s4 => omega
    case s5 => first | omega | (simp; omega) | (simp; done)
    intro v3 w3 hown hg _
    obtain ⟨hR3, hO3⟩ := ActRow.push _ (by simp) hown hg
    have HP3 := Lib.hid (HP2.out.pushed HR2.out hO3 hp hc hs hA)
    have HO3 := Lib.hid (HO2.out.pushed HR2.out hO3)
    have hs3 : base ≤ w3.heap.size := Nat.le_trans hs2 hO3.size
    obtain ⟨g3, cp3, rfl, _, _⟩ := World.ownsRow.form hown (by omega)
    have HR3 := Lib.hid hR3
    clear hown hg hR3 hO3 HP2 HR2 HO2
    go_wp2_with (at_builtin; refine wpList_append_own _ rfl _ _ 30 rfl base 68 i0 (act 0 0) 2 16 Try.underlying30 hi hz0 hz1 hz2 rfl (by decide) _ (out.length + 1) _ rfl ((HR3.out.ownN (n := (out.length + 1)) (by simp)).alloc _) ⟨w3.heap.size, 0, none⟩ 1 1 [.int .i64 1, .int .i64 ((m : Int) - (a : Int))] rfl rfl ?fa1 ?fa2 ?fa3 ?fa4 ?fa5 ?_)
    try (case fa1 => intro j u hj; match j with | 0 => (simp at hj; subst hj; simp [addr_add]) | 1 => (simp at hj; subst hj; simp [addr_add]) | j + 2 => simp at hj)
    try (case fa2 => first | rfl | exact ⟨rfl, rfl⟩ | (intro u hu; simp at hu; rcases hu with rfl | rfl <;> rfl) | (simp; done) | (constructor <;> rfl))
    case fa3 => unfold maxLen; omega
    case fa4 => omega
    case fa5 => first | omega | (simp; omega) | (simp; done)
    intro v4 w4 hown hg _
    obtain ⟨hR4, hO4⟩ := ActRow.push _ (by simp) hown hg
    have HP4 := Lib.hid (HP3.out.pushed HR3.out hO4 hp hc hs hA)
    have HO4 := Lib.hid (HO3.out.pushed HR3.out hO4)
    have hs4 : base ≤ w4.heap.size := Nat.le_trans hs3 hO4.size
    obtain ⟨g4, cp4, rfl, _, _⟩ := World.ownsRow.form hown (by omega)
    have HR4 := Lib.hid hR4
    clear hown hg hR4 hO4 HP3 HR3 HO3
    go_wp2_with fail
    have h4 := ih.out m b (c - 1) m b ((c : Int) - 1) false _ _ ((out.length + 1) + 1) ((out ++ [(2, (S : Int) - (c : Int))]) ++ [(1, (m : Int) - (a : Int))]) w4 _ _ rfl rfl (by omega) (by simp) (by omega) (by omega) hb (by omega) m3 HP4.out HR4.out (by simp; omega) hs4
    generalize hl4 : ((out ++ [(2, (S : Int) - (c : Int))]) ++ [(1, (m : Int) - (a : Int))]) ++ planL ws S f m b (c - 1) false = l4 at h4
    have hn4 : l4.length + 4 * (m - a) + 1 ≤ 1000 := by rw [← hl4]; simp; omega
    have HL4 := Lib.hid hl4; clear hl4
    refine h4.mono ?_; clear h4
    rintro e w5 ⟨A4, c4, rfl, hR4, ⟨mc4, ms4, hP4⟩, hO4⟩
    have HR5 := Lib.hid hR4
    have HP5 := Lib.hid hP4
    have HO5 := Lib.hid (HO4.out.trans hO4)
    have hs5 : base ≤ w5.heap.size := Nat.le_trans hs4 hO4.size
    clear hR4 hP4 hO4 HP4 HR4 HO4
    go_wp2_with (at_builtin; refine wpList_append_own _ rfl _ _ 30 rfl base 68 i0 (act 0 0) 2 16 Try.underlying30 hi hz0 hz1 hz2 rfl (by decide) _ l4.length _ rfl ((HR5.out.ownN (n := l4.length) (by simp)).alloc _) ⟨w5.heap.size, 0, none⟩ 1 1 [.int .i64 3, .int .i64 ((S : Int) - (c : Int))] rfl rfl ?fb1 ?fb2 ?fb3 ?fb4 ?fb5 ?_)
    try (case fb1 => intro j u hj; match j with | 0 => (simp at hj; subst hj; simp [addr_add]) | 1 => (simp at hj; subst hj; simp [addr_add]) | j + 2 => simp at hj)
    try (case fb2 => first | rfl | exact ⟨rfl, rfl⟩ | (intro u hu; simp at hu; rcases hu with rfl | rfl <;> rfl) | (simp; done) | (constructor <;> rfl))
    case fb3 => unfold maxLen; omega
    case fb4 => omega
    case fb5 => first | omega | (simp; omega) | (simp; done)
    intro v6 w6 hown hg _
    obtain ⟨hR6, hO6⟩ := ActRow.push _ (by simp) hown hg
    have HP6 := Lib.hid (HP5.out.pushed HR5.out hO6 hp hc hs hA)
    have HO6 := Lib.hid (HO5.out.pushed HR5.out hO6)
    have hs6 : base ≤ w6.heap.size := Nat.le_trans hs5 hO6.size
    obtain ⟨g6, cp6, rfl, _, _⟩ := World.ownsRow.form hown (by omega)
    have HR6 := Lib.hid hR6
    clear hown hg hR6 hO6 HP5 HR5 HO5
    go_wp2_with fail
    have h6 := ih.out a m c a m c true _ _ (l4.length + 1) (l4 ++ [(3, (S : Int) - (c : Int))]) w6 _ _ rfl rfl rfl (by simp) (by omega) (by omega) (by omega) (by omega) m4 HP6.out HR6.out (by simp; omega) hs6
    have HE : Hid ((l4 ++ [(3, (S : Int) - (c : Int))]) ++ planL ws S f a m c true = out ++ planL ws S (f + 1) a b c false) := by show _ = _; rw [HL.out, ← HL4.out]; simp
    rw [HE.out] at h6
    refine h6.mono ?_; clear h6
    rintro e w7 ⟨A6, c6, rfl, hR6, hP6, hO6⟩
    have HF := Lib.hid (HO6.out.trans hO6)
    have HR6 := Lib.hid hR6; clear hR6
    have HP6 : Hid (∃ mc ms, PlanAt w7 p A cap ws S rc rs mc ms) := hP6; clear hP6 hO6
    generalize out ++ planL ws S (f + 1) a b c false = lf at *
    go_wp2
    go_ret
    exact ⟨_, _, rfl, HR6.out, HP6.out, HF.out⟩
  · simp only [if_true] at HL
    go_wp2_with (at_builtin; refine wpList_append_own _ rfl _ _ 30 rfl base 68 i0 (act 0 0) 2 16 Try.underlying30 hi hz0 hz1 hz2 rfl (by decide) _ out.length _ rfl ((HR2.out.ownN (n := out.length) (by simp)).alloc _) ⟨w2.heap.size, 0, none⟩ 1 1 [.int .i64 1, .int .i64 ((m : Int) - (a : Int))] rfl rfl ?ta1 ?ta2 ?ta3 ?ta4 ?ta5 ?_)
    try (case ta1 => intro j u hj; match j with | 0 => (simp at hj; subst hj; simp [addr_add]) | 1 => (simp at hj; subst hj; simp [addr_add]) | j + 2 => simp at hj)
    try (case ta2 => first | rfl | exact ⟨rfl, rfl⟩ | (intro u hu; simp at hu; rcases hu with rfl | rfl <;> rfl) | (simp; done) | (constructor <;> rfl))
    case ta3 => unfold maxLen; omega
    case ta4 => omega
    case ta5 => first | omega | (simp; omega) | (simp; done)
    intro v3 w3 hown hg _
    obtain ⟨hR3, hO3⟩ := ActRow.push _ (by simp) hown hg
    have HP3 := Lib.hid (HP2.out.pushed HR2.out hO3 hp hc hs hA)
    have HO3 := Lib.hid (HO2.out.pushed HR2.out hO3)
    have hs3 : base ≤ w3.heap.size := Nat.le_trans hs2 hO3.size
    obtain ⟨g3, cp3, rfl, _, _⟩ := World.ownsRow.form hown (by omega)
    have HR3 := Lib.hid hR3
    clear hown hg hR3 hO3 HP2 HR2 HO2
    go_wp2_with fail
    have h4 := ih.out m b (c - 1) m b ((c : Int) - 1) false _ _ (out.length + 1) (out ++ [(1, (m : Int) - (a : Int))]) w3 _ _ rfl rfl (by omega) (by simp) (by omega) (by omega) hb (by omega) m3 HP3.out HR3.out (by simp; omega) hs3
    generalize hl4 : (out ++ [(1, (m : Int) - (a : Int))]) ++ planL ws S f m b (c - 1) false = l4 at h4
    have hn4 : l4.length + 4 * (m - a) + 1 ≤ 1000 := by rw [← hl4]; simp; omega
    have HL4 := Lib.hid hl4; clear hl4
    refine h4.mono ?_; clear h4
    rintro e w4 ⟨A4, c4, rfl, hR4, ⟨mc4, ms4, hP4⟩, hO4⟩
    have HR4 := Lib.hid hR4
    have HP4 := Lib.hid hP4
    have HO4 := Lib.hid (HO3.out.trans hO4)
    have hs4 : base ≤ w4.heap.size := Nat.le_trans hs3 hO4.size
    clear hR4 hP4 hO4 HP3 HR3 HO3
    go_wp2_with (at_builtin; refine wpList_append_own _ rfl _ _ 30 rfl base 68 i0 (act 0 0) 2 16 Try.underlying30 hi hz0 hz1 hz2 rfl (by decide) _ l4.length _ rfl ((HR4.out.ownN (n := l4.length) (by simp)).alloc _) ⟨w4.heap.size, 0, none⟩ 1 1 [.int .i64 3, .int .i64 ((S : Int) - (c : Int))] rfl rfl ?tb1 ?tb2 ?tb3 ?tb4 ?tb5 ?_)
    try (case tb1 => intro j u hj; match j with | 0 => (simp at hj; subst hj; simp [addr_add]) | 1 => (simp at hj; subst hj; simp [addr_add]) | j + 2 => simp at hj)
    try (case tb2 => first | rfl | exact ⟨rfl, rfl⟩ | (intro u hu; simp at hu; rcases hu with rfl | rfl <;> rfl) | (simp; done) | (constructor <;> rfl))
    case tb3 => unfold maxLen; omega
    case tb4 => omega
    case tb5 => first | omega | (simp; omega) | (simp; done)
    intro v5 w5 hown hg _
    obtain ⟨hR5, hO5⟩ := ActRow.push _ (by simp) hown hg
    have HP5 := Lib.hid (HP4.out.pushed HR4.out hO5 hp hc hs hA)
    have HO5 := Lib.hid (HO4.out.pushed HR4.out hO5)
    have hs5 : base ≤ w5.heap.size := Nat.le_trans hs4 hO5.size
    obtain ⟨g5, cp5, rfl, _, _⟩ := World.ownsRow.form hown (by omega)
    have HR5 := Lib.hid hR5
    clear hown hg hR5 hO5 HP4 HR4 HO4
    go_wp2_with fail
    have h6 := ih.out a m c a m c true _ _ (l4.length + 1) (l4 ++ [(3, (S : Int) - (c : Int))]) w5 _ _ rfl rfl rfl (by simp) (by omega) (by omega) (by omega) (by omega) m4 HP5.out HR5.out (by simp; omega) hs5
    have HE : Hid ((l4 ++ [(3, (S : Int) - (c : Int))]) ++ planL ws S f a m c true = out ++ planL ws S (f + 1) a b c true) := by show _ = _; rw [HL.out, ← HL4.out]; simp
    rw [HE.out] at h6
    refine h6.mono ?_; clear h6
    rintro e w6 ⟨A6, c6, rfl, hR6, hP6, hO6⟩
    have HF := Lib.hid (HO5.out.trans hO6)
    have HR6 := Lib.hid hR6; clear hR6
    have HP6 : Hid (∃ mc ms, PlanAt w6 p A cap ws S rc rs mc ms) := hP6; clear hP6 hO6
    generalize out ++ planL ws S (f + 1) a b c true = lf at *
    go_wp2
    go_ret
    exact ⟨_, _, rfl, HR6.out, HP6.out, HF.out⟩
end

end Go.Proofs.Ytnbpcdcdfkfmiaa
