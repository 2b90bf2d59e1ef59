/- Walk of the reference's plan. -/
import Derived.Test.YtkeamefifjmabaaWPlan4
namespace Go.Proofs.Ytkeamefifjmabaa
open Go.RowKit Plain

section
variable (A : Option Addr) (cap : Nat) (ws : List Int) (S g C cap2 : Nat) (lb lc : Nat → Nat) (rb : Nat → Nat → Nat)

set_option maxRecDepth 100000 in
set_option maxHeartbeats 4000000 in
theorem l06Plan_step (f : Nat) (ih : Hid (∀ (a b c : Nat) (d : Int) (ai bi ci di : Int) (held : Bool) (w : World),
      ai = a → bi = b → ci = c → di = d → b - a ≤ f → a < b → b ≤ ws.length → c ≤ S → 0 ≤ lcost ws a b c → d = (S : Int) - (c : Int) → Ints w A ws → TabRd w g C ws.length lb lc rb (fun i x y => lcost ws x y i) →
      Calls Try.prog 74 #[.slice A ws.length cap, .slice (some ⟨g, 0, none⟩) C cap2, .int .i64 ai, .int .i64 bi, .int .i64 ci, .int .i64 di, .bool held] w (RowPost (planL ws S f a b c held) w)))
    (hws : IsW ws) (hl : ws.length ≤ 40) (hS : S < C) (hC : C ≤ 9)
    (a b c : Nat) (d : Int) (held : Bool) (w : World)
    (hf : b - a ≤ f + 1) (hab : a + 1 < b) (hb : b ≤ ws.length) (hcS : c ≤ S) (h0 : 0 ≤ lcost ws a b c) (hdd : d = (S : Int) - (c : Int)) (hA : Ints w A ws) (hT : TabRd w g C ws.length lb lc rb (fun i x y => lcost ws x y i)) :
    Calls Try.prog 74 #[.slice A ws.length cap, .slice (some ⟨g, 0, none⟩) C cap2, .int .i64 a, .int .i64 b, .int .i64 c, .int .i64 d, .bool held] w (RowPost (planL ws S (f + 1) a b c held) w) := by
  obtain ⟨i0, hi, hz0, hz1, hz2⟩ := info_parts Try.infoA
  obtain ⟨hc0, m, hm, m1, m2, m3, m4⟩ := split_at hab h0
  have HL : Hid (planL ws S (f + 1) a b c held = (if held then [] else [(2, (S : Int) - (c : Int))]) ++ ([(1, (m : Int) - (a : Int))] ++ (planL ws S f m b (c - 1) false ++ ([(3, (S : Int) - (c : Int))] ++ planL ws S f a m c true)))) := by
    show _ = _
    simp only [planL]
    rw [if_neg (by omega), if_neg (by omega), hm, Int.toNat_natCast]
  have HM := Lib.hid hm; clear hm
  have HT := Lib.hid hT; clear hT
  have hd0 : ((a : Int) == (b : Int)) = false := by simp; omega
  have hd1 : ((b : Int) - (a : Int) == 1) = false := by simp; omega
  have hdl : 0 ≤ d := by omega
  have hdh : d ≤ 9 := by omega
  have hdc : d + 1 = (S : Int) - ((c - 1 : Nat) : Int) := by omega
  have HDD := Lib.hid hdd; clear hdd
  have HDC := Lib.hid hdc; clear hdc
  go_enter Try.func74, Try.ntmps74
  go_wp2_with fail
  refine (split_some A cap ws g C cap2 ws.length lb lc rb _ a b c w hA HT.out hws rfl hl hab hb hc0 (by omega) hC (fun _ _ _ => rfl) (fun _ _ _ => rfl)).mono ?_
  rintro e w1 ⟨rfl, rfl⟩
  rw [HM.out]
  have HR2 : Hid (ActRow (w.alloc (.cells #[] 57)) w.heap.size (.slice (some ⟨w.heap.size, 0, none⟩) 0 0) []) := World.ownsRow_lit _ #[] 0 (Nat.le_refl _) (by unfold maxLen; omega) (by rfl)
  have HB2 : Hid (Below w.heap.size w (w.alloc (.cells #[] 57))) := by show Below _ _ _; go_grown
  cases held
  · simp only [Bool.false_eq_true, if_false] at HL
    go_wp2_with (at_builtin; refine wpList_append_own _ rfl _ _ 32 rfl w.heap.size 57 i0 (act 0 0) 2 16 Try.underlying32 hi hz0 hz1 hz2 rfl (by decide) _ 0 _ rfl ((HR2.out.ownN (n := 0) (by first | (simp; done) | (simp; omega))).alloc _) ⟨(w.heap.size + 1), 0, none⟩ 1 1 [.int .i64 2, .int .i64 d] rfl rfl ?s1 ?s2 ?s3 ?s4 ?s5 ?_)
    try (case s1 => intro j u hj; match j with | 0 => (simp at hj; subst hj; simp [addr_add]) | 1 => (simp at hj; subst hj; simp [addr_add]) | j + 2 => simp at hj)
    try (case s2 => first | rfl | exact ⟨rfl, rfl⟩ | (intro u hu; simp at hu; rcases hu with rfl | rfl <;> rfl) | (simp; done) | (constructor <;> rfl))
    case s3 => unfold maxLen; omega
    case s4 => omega
    case s5 => first | omega | (simp; omega) | (simp; done)
    intro v3 w3 hown hg _
    obtain ⟨hR3, _⟩ := ActRow.push _ (by first | (simp; done) | (simp; omega)) hown hg
    have HB3 := Lib.hid (ActRow.grownB HB2.out HR2.out (by first | exact HB2.out.size | (simp; done)) _ hg)
    obtain ⟨g3, cp3, rfl, _, _⟩ := World.ownsRow.form hown (by omega)
    have HR3 := Lib.hid hR3
    have hs3 : w.heap.size ≤ w3.heap.size := HB3.out.size
    clear hown hg hR3
    go_wp2_with (at_builtin; refine wpList_append_own _ rfl _ _ 32 rfl w.heap.size 57 i0 (act 0 0) 2 16 Try.underlying32 hi hz0 hz1 hz2 rfl (by decide) _ (0 + 1) _ rfl ((HR3.out.ownN (n := (0 + 1)) (by first | (simp; done) | (simp; omega))).alloc _) ⟨w3.heap.size, 0, none⟩ 1 1 [.int .i64 1, .int .i64 ((m : Int) - (a : Int))] rfl rfl ?fa1 ?fa2 ?fa3 ?fa4 ?fa5 ?_)
    try (case fa1 => intro j u hj; match j with | 0 => (simp at hj; subst hj; simp [addr_add]) | 1 => (simp at hj; subst hj; simp [addr_add]) | j + 2 => simp at hj)
    try (case fa2 => first | rfl | exact ⟨rfl, rfl⟩ | (intro u hu; simp at hu; rcases hu with rfl | rfl <;> rfl) | (simp; done) | (constructor <;> rfl))
    case fa3 => unfold maxLen; omega
    case fa4 => omega
    case fa5 => first | omega | (simp; omega) | (simp; done)
    intro v4 w4 hown hg _
    obtain ⟨hR4, _⟩ := ActRow.push _ (by first | (simp; done) | (simp; omega)) hown hg
    have HB4 := Lib.hid (ActRow.grownB HB3.out HR3.out (by first | exact HB3.out.size | (simp; done)) _ hg)
    obtain ⟨g4, cp4, rfl, _, _⟩ := World.ownsRow.form hown (by omega)
    have HR4 := Lib.hid hR4
    have hs4 : w.heap.size ≤ w4.heap.size := HB4.out.size
    clear hown hg hR4
    go_wp2_with fail
    have h4 := ih.out m b (c - 1) (d + 1) m b ((c : Int) - 1) (d + 1) false w4 rfl rfl (by omega) rfl (by omega) (by omega) (by omega) (by omega) m3 HDC.out (hA.below HB4.out) (HT.out.below HB4.out)
    generalize hlfb : planL ws S f m b (c - 1) false = l4 at h4
    have hnfb : 0 < l4.length := by rw [← hlfb]; exact planL_pos (by omega) (by omega)
    have hmfb : l4.length + 3 ≤ 4 * (b - m) := by rw [← hlfb]; exact planL_len ws S f m b (c - 1) false (by omega) (by omega) m3
    have HLfb := Lib.hid hlfb; clear hlfb
    refine h4.mono ?_; clear h4
    rintro e w5 ⟨Afb, cfb, rfl, hR, hb⟩
    obtain ⟨gfb, rfl, hnews⟩ := hR.news hnfb
    have HNfb := Lib.hid hnews; clear hnews
    have HB5 := Lib.hid (bnext HB4.out hb)
    have HR5 := Lib.hid (HR4.out.next hb)
    have hs5 : w.heap.size ≤ w5.heap.size := HB5.out.size
    clear hR hb HR4 HB4
    go_wp2_with (at_builtin; refine wpList_append_own _ rfl _ _ 32 rfl w.heap.size 57 i0 (act 0 0) 2 16 Try.underlying32 hi hz0 hz1 hz2 rfl (by decide) _ ((0 + 1) + 1) _ rfl (HR5.out.ownN (n := ((0 + 1) + 1)) (by first | (simp; done) | (simp; omega))) ⟨gfb, 0, none⟩ l4.length cfb (flatA l4) rfl (flatA_length l4) HNfb.out flatA_one ?fb3 ?fb4 ?fb5 ?_)
    case fb3 => unfold maxLen; omega
    case fb4 => omega
    case fb5 => first | omega | (simp; omega) | (simp; done)
    intro v6 w6 hown hg _
    have hR := ActRow.pushL (out := (([] ++ [(2, d)]) ++ [(1, (m : Int) - (a : Int))])) (l := l4) (by first | (simp; done) | (simp; omega)) rfl hown
    have HB6 := Lib.hid (ActRow.grownB' HB5.out HR5.out HB5.out.size hg)
    obtain ⟨g6, cp6, rfl, _, _⟩ := World.ownsRow.form hown (by omega)
    have HR6 := Lib.hid hR
    have hs6 : w.heap.size ≤ w6.heap.size := HB6.out.size
    clear hown hg hR HNfb HR5 HB5
    go_wp2_with (at_builtin; refine wpList_append_own _ rfl _ _ 32 rfl w.heap.size 57 i0 (act 0 0) 2 16 Try.underlying32 hi hz0 hz1 hz2 rfl (by decide) _ (((0 + 1) + 1) + l4.length) _ rfl ((HR6.out.ownN (n := (((0 + 1) + 1) + l4.length)) (by first | (simp; done) | (simp; omega))).alloc _) ⟨w6.heap.size, 0, none⟩ 1 1 [.int .i64 3, .int .i64 d] rfl rfl ?fc1 ?fc2 ?fc3 ?fc4 ?fc5 ?_)
    try (case fc1 => intro j u hj; match j with | 0 => (simp at hj; subst hj; simp [addr_add]) | 1 => (simp at hj; subst hj; simp [addr_add]) | j + 2 => simp at hj)
    try (case fc2 => first | rfl | exact ⟨rfl, rfl⟩ | (intro u hu; simp at hu; rcases hu with rfl | rfl <;> rfl) | (simp; done) | (constructor <;> rfl))
    case fc3 => unfold maxLen; omega
    case fc4 => omega
    case fc5 => first | omega | (simp; omega) | (simp; done)
    intro v7 w7 hown hg _
    obtain ⟨hR7, _⟩ := ActRow.push _ (by first | (simp; done) | (simp; omega)) hown hg
    have HB7 := Lib.hid (ActRow.grownB HB6.out HR6.out (by first | exact HB6.out.size | (simp; done)) _ hg)
    obtain ⟨g7, cp7, rfl, _, _⟩ := World.ownsRow.form hown (by omega)
    have HR7 := Lib.hid hR7
    have hs7 : w.heap.size ≤ w7.heap.size := HB7.out.size
    clear hown hg hR7
    go_wp2_with fail
    have h4 := ih.out a m c d a m c d true w7 rfl rfl (by omega) rfl (by omega) (by omega) (by omega) (by omega) m4 HDD.out (hA.below HB7.out) (HT.out.below HB7.out)
    generalize hlfd : planL ws S f a m c true = l6 at h4
    have hnfd : 0 < l6.length := by rw [← hlfd]; exact planL_pos (by omega) (by omega)
    have hmfd : l6.length + 3 ≤ 4 * (m - a) := by rw [← hlfd]; exact planL_len ws S f a m c true (by omega) (by omega) m4
    have HLfd := Lib.hid hlfd; clear hlfd
    refine h4.mono ?_; clear h4
    rintro e w8 ⟨Afd, cfd, rfl, hR, hb⟩
    obtain ⟨gfd, rfl, hnews⟩ := hR.news hnfd
    have HNfd := Lib.hid hnews; clear hnews
    have HB8 := Lib.hid (bnext HB7.out hb)
    have HR8 := Lib.hid (HR7.out.next hb)
    have hs8 : w.heap.size ≤ w8.heap.size := HB8.out.size
    clear hR hb HR7 HB7
    go_wp2_with (at_builtin; refine wpList_append_own _ rfl _ _ 32 rfl w.heap.size 57 i0 (act 0 0) 2 16 Try.underlying32 hi hz0 hz1 hz2 rfl (by decide) _ ((((0 + 1) + 1) + l4.length) + 1) _ rfl (HR8.out.ownN (n := ((((0 + 1) + 1) + l4.length) + 1)) (by first | (simp; done) | (simp; omega))) ⟨gfd, 0, none⟩ l6.length cfd (flatA l6) rfl (flatA_length l6) HNfd.out flatA_one ?fd3 ?fd4 ?fd5 ?_)
    case fd3 => unfold maxLen; omega
    case fd4 => omega
    case fd5 => first | omega | (simp; omega) | (simp; done)
    intro v9 w9 hown hg _
    have hR := ActRow.pushL (out := (((([] ++ [(2, d)]) ++ [(1, (m : Int) - (a : Int))]) ++ l4) ++ [(3, d)])) (l := l6) (by first | (simp; done) | (simp; omega)) rfl hown
    have HB9 := Lib.hid (ActRow.grownB' HB8.out HR8.out HB8.out.size hg)
    obtain ⟨g9, cp9, rfl, _, _⟩ := World.ownsRow.form hown (by omega)
    have HR9 := Lib.hid hR
    have hs9 : w.heap.size ≤ w9.heap.size := HB9.out.size
    clear hown hg hR HNfd HR8 HB8
    go_wp2
    go_ret
    have HE : planL ws S (f + 1) a b c false = (((([] ++ [(2, d)]) ++ [(1, (m : Int) - (a : Int))]) ++ l4) ++ [(3, d)]) ++ l6 := by rw [HL.out, ← HLfb.out, ← HLfd.out, ← HDD.out]; simp
    have HLen : (((((((0 + 1) + 1) + l4.length) + 1) + l6.length) : Nat)) = ((((([] ++ [(2, d)]) ++ [(1, (m : Int) - (a : Int))]) ++ l4) ++ [(3, d)]) ++ l6).length := by simp; try omega
    have hRf := HR9.out
    rw [HLen] at hRf
    rw [HE, HLen]
    exact ⟨_, _, rfl, hRf, HB9.out⟩
  · simp only [if_true] at HL
    go_wp2_with (at_builtin; refine wpList_append_own _ rfl _ _ 32 rfl w.heap.size 57 i0 (act 0 0) 2 16 Try.underlying32 hi hz0 hz1 hz2 rfl (by decide) _ 0 _ rfl ((HR2.out.ownN (n := 0) (by first | (simp; done) | (simp; omega))).alloc _) ⟨(w.heap.size + 1), 0, none⟩ 1 1 [.int .i64 1, .int .i64 ((m : Int) - (a : Int))] rfl rfl ?ta1 ?ta2 ?ta3 ?ta4 ?ta5 ?_)
    try (case ta1 => intro j u hj; match j with | 0 => (simp at hj; subst hj; simp [addr_add]) | 1 => (simp at hj; subst hj; simp [addr_add]) | j + 2 => simp at hj)
    try (case ta2 => first | rfl | exact ⟨rfl, rfl⟩ | (intro u hu; simp at hu; rcases hu with rfl | rfl <;> rfl) | (simp; done) | (constructor <;> rfl))
    case ta3 => unfold maxLen; omega
    case ta4 => omega
    case ta5 => first | omega | (simp; omega) | (simp; done)
    intro v3 w3 hown hg _
    obtain ⟨hR3, _⟩ := ActRow.push _ (by first | (simp; done) | (simp; omega)) hown hg
    have HB3 := Lib.hid (ActRow.grownB HB2.out HR2.out (by first | exact HB2.out.size | (simp; done)) _ hg)
    obtain ⟨g3, cp3, rfl, _, _⟩ := World.ownsRow.form hown (by omega)
    have HR3 := Lib.hid hR3
    have hs3 : w.heap.size ≤ w3.heap.size := HB3.out.size
    clear hown hg hR3
    go_wp2_with fail
    have h4 := ih.out m b (c - 1) (d + 1) m b ((c : Int) - 1) (d + 1) false w3 rfl rfl (by omega) rfl (by omega) (by omega) (by omega) (by omega) m3 HDC.out (hA.below HB3.out) (HT.out.below HB3.out)
    generalize hltb : planL ws S f m b (c - 1) false = l4 at h4
    have hntb : 0 < l4.length := by rw [← hltb]; exact planL_pos (by omega) (by omega)
    have hmtb : l4.length + 3 ≤ 4 * (b - m) := by rw [← hltb]; exact planL_len ws S f m b (c - 1) false (by omega) (by omega) m3
    have HLtb := Lib.hid hltb; clear hltb
    refine h4.mono ?_; clear h4
    rintro e w4 ⟨Atb, ctb, rfl, hR, hb⟩
    obtain ⟨gtb, rfl, hnews⟩ := hR.news hntb
    have HNtb := Lib.hid hnews; clear hnews
    have HB4 := Lib.hid (bnext HB3.out hb)
    have HR4 := Lib.hid (HR3.out.next hb)
    have hs4 : w.heap.size ≤ w4.heap.size := HB4.out.size
    clear hR hb HR3 HB3
    go_wp2_with (at_builtin; refine wpList_append_own _ rfl _ _ 32 rfl w.heap.size 57 i0 (act 0 0) 2 16 Try.underlying32 hi hz0 hz1 hz2 rfl (by decide) _ (0 + 1) _ rfl (HR4.out.ownN (n := (0 + 1)) (by first | (simp; done) | (simp; omega))) ⟨gtb, 0, none⟩ l4.length ctb (flatA l4) rfl (flatA_length l4) HNtb.out flatA_one ?tb3 ?tb4 ?tb5 ?_)
    case tb3 => unfold maxLen; omega
    case tb4 => omega
    case tb5 => first | omega | (simp; omega) | (simp; done)
    intro v5 w5 hown hg _
    have hR := ActRow.pushL (out := (([] : List (Int × Int)) ++ [(1, (m : Int) - (a : Int))])) (l := l4) (by first | (simp; done) | (simp; omega)) rfl hown
    have HB5 := Lib.hid (ActRow.grownB' HB4.out HR4.out HB4.out.size hg)
    obtain ⟨g5, cp5, rfl, _, _⟩ := World.ownsRow.form hown (by omega)
    have HR5 := Lib.hid hR
    have hs5 : w.heap.size ≤ w5.heap.size := HB5.out.size
    clear hown hg hR HNtb HR4 HB4
    go_wp2_with (at_builtin; refine wpList_append_own _ rfl _ _ 32 rfl w.heap.size 57 i0 (act 0 0) 2 16 Try.underlying32 hi hz0 hz1 hz2 rfl (by decide) _ ((0 + 1) + l4.length) _ rfl ((HR5.out.ownN (n := ((0 + 1) + l4.length)) (by first | (simp; done) | (simp; omega))).alloc _) ⟨w5.heap.size, 0, none⟩ 1 1 [.int .i64 3, .int .i64 d] rfl rfl ?tc1 ?tc2 ?tc3 ?tc4 ?tc5 ?_)
    try (case tc1 => intro j u hj; match j with | 0 => (simp at hj; subst hj; simp [addr_add]) | 1 => (simp at hj; subst hj; simp [addr_add]) | j + 2 => simp at hj)
    try (case tc2 => first | rfl | exact ⟨rfl, rfl⟩ | (intro u hu; simp at hu; rcases hu with rfl | rfl <;> rfl) | (simp; done) | (constructor <;> rfl))
    case tc3 => unfold maxLen; omega
    case tc4 => omega
    case tc5 => first | omega | (simp; omega) | (simp; done)
    intro v6 w6 hown hg _
    obtain ⟨hR6, _⟩ := ActRow.push _ (by first | (simp; done) | (simp; omega)) hown hg
    have HB6 := Lib.hid (ActRow.grownB HB5.out HR5.out (by first | exact HB5.out.size | (simp; done)) _ hg)
    obtain ⟨g6, cp6, rfl, _, _⟩ := World.ownsRow.form hown (by omega)
    have HR6 := Lib.hid hR6
    have hs6 : w.heap.size ≤ w6.heap.size := HB6.out.size
    clear hown hg hR6
    go_wp2_with fail
    have h4 := ih.out a m c d a m c d true w6 rfl rfl (by omega) rfl (by omega) (by omega) (by omega) (by omega) m4 HDD.out (hA.below HB6.out) (HT.out.below HB6.out)
    generalize hltd : planL ws S f a m c true = l6 at h4
    have hntd : 0 < l6.length := by rw [← hltd]; exact planL_pos (by omega) (by omega)
    have hmtd : l6.length + 3 ≤ 4 * (m - a) := by rw [← hltd]; exact planL_len ws S f a m c true (by omega) (by omega) m4
    have HLtd := Lib.hid hltd; clear hltd
    refine h4.mono ?_; clear h4
    rintro e w7 ⟨Atd, ctd, rfl, hR, hb⟩
    obtain ⟨gtd, rfl, hnews⟩ := hR.news hntd
    have HNtd := Lib.hid hnews; clear hnews
    have HB7 := Lib.hid (bnext HB6.out hb)
    have HR7 := Lib.hid (HR6.out.next hb)
    have hs7 : w.heap.size ≤ w7.heap.size := HB7.out.size
    clear hR hb HR6 HB6
    go_wp2_with (at_builtin; refine wpList_append_own _ rfl _ _ 32 rfl w.heap.size 57 i0 (act 0 0) 2 16 Try.underlying32 hi hz0 hz1 hz2 rfl (by decide) _ (((0 + 1) + l4.length) + 1) _ rfl (HR7.out.ownN (n := (((0 + 1) + l4.length) + 1)) (by first | (simp; done) | (simp; omega))) ⟨gtd, 0, none⟩ l6.length ctd (flatA l6) rfl (flatA_length l6) HNtd.out flatA_one ?td3 ?td4 ?td5 ?_)
    case td3 => unfold maxLen; omega
    case td4 => omega
    case td5 => first | omega | (simp; omega) | (simp; done)
    intro v8 w8 hown hg _
    have hR := ActRow.pushL (out := (((([] : List (Int × Int)) ++ [(1, (m : Int) - (a : Int))]) ++ l4) ++ [(3, d)])) (l := l6) (by first | (simp; done) | (simp; omega)) rfl hown
    have HB8 := Lib.hid (ActRow.grownB' HB7.out HR7.out HB7.out.size hg)
    obtain ⟨g8, cp8, rfl, _, _⟩ := World.ownsRow.form hown (by omega)
    have HR8 := Lib.hid hR
    have hs8 : w.heap.size ≤ w8.heap.size := HB8.out.size
    clear hown hg hR HNtd HR7 HB7
    go_wp2
    go_ret
    have HE : planL ws S (f + 1) a b c true = (((([] : List (Int × Int)) ++ [(1, (m : Int) - (a : Int))]) ++ l4) ++ [(3, d)]) ++ l6 := by rw [HL.out, ← HLtb.out, ← HLtd.out, ← HDD.out]; simp
    have HLen : ((((((0 + 1) + l4.length) + 1) + l6.length) : Nat)) = ((((([] : List (Int × Int)) ++ [(1, (m : Int) - (a : Int))]) ++ l4) ++ [(3, d)]) ++ l6).length := by simp; try omega
    have hRf := HR8.out
    rw [HLen] at hRf
    rw [HE, HLen]
    exact ⟨_, _, rfl, hRf, HB8.out⟩
end

end Go.Proofs.Ytkeamefifjmabaa
