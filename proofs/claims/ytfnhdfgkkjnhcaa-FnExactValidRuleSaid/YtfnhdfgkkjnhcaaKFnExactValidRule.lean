/- FnExactValidRule: for every rule the program's ValidRule returns what the reference's returns. No condition. -/
import Derived.Test.YtfnhdfgkkjnhcaaKSQ
import Derived.Test.YtfnhdfgkkjnhcaaKSN
import Derived.WalkKit
import Derived.ProofKit
import Derived.OpenShut
import Derived.ShutString
import Derived.ChangeOld
import Derived.Below

/- The reference's ValidRule; the walk of the law FnExactValidRule (printed by gen_ruleX.py). -/
namespace Go.Proofs.Ytfnhdfgkkjnhcaa
open Go.RowKit Plain

set_option maxRecDepth 100000 in
/-- the reference's ValidRule -/
theorem ruleP_any (v : Int) (l r : Nd) (KL KR : Option Addr) (cl cr B : Nat) (w : World) (hL : ExSl w B l.ks KL) (hcl : l.ks.len ≤ cl) (hml : cl ≤ maxLen) (hR : ExSl w B r.ks KR) (hcr : r.ks.len ≤ cr) (hmr : cr ≤ maxLen) (hB : B ≤ w.heap.size) (hl : l.ks.size ≤ 1048576) (hr : r.ks.size ≤ 1048576) :
    Calls Try.prog 20 #[ruV v l KL cl r KR cr] w (FPost (ruleOk v l r) w) := by
  obtain ⟨W0, hW0⟩ : ∃ W0, W0 = w.alloc (.cells #[.int .i64 v, .int .i64 l.k, .int .i64 l.n, .int .i64 l.p, .int .i64 l.c, .slice KL l.ks.len cl, .int .i64 r.k, .int .i64 r.n, .int .i64 r.p, .int .i64 r.c, .slice KR r.ks.len cr] 48) := ⟨_, rfl⟩
  have hb0 : Below w.heap.size w W0 := by rw [hW0]; go_grown
  have hs0 : W0.heap.size = w.heap.size + 1 := by rw [hW0]; simp
  have hq : Cells W0 w.heap.size 48 [.int .i64 v, .int .i64 l.k, .int .i64 l.n, .int .i64 l.p, .int .i64 l.c, .slice KL l.ks.len cl, .int .i64 r.k, .int .i64 r.n, .int .i64 r.p, .int .i64 r.c, .slice KR r.ks.len cr] := by rw [hW0]; exact Cells.new w 48 _
  have hRA : RuleAt W0 (w.heap.size + 1) v l r w.heap.size 0 := by
    have hb1 : Below B w W0 := hb0.mono hB
    obtain ⟨b1, o1, e1, x1⟩ := hL.below hb1
    obtain ⟨b2, o2, e2, x2⟩ := hR.below hb1
    refine ⟨by rw [hq.cell]; rfl, ⟨by omega, ?_, ?_, ?_, ?_, KL, cl, b1, o1, ?_, hcl, hml, e1, x1.mono (by omega)⟩, ⟨by omega, ?_, ?_, ?_, ?_, KR, cr, b2, o2, ?_, hcr, hmr, e2, x2.mono (by omega)⟩⟩ <;> rw [hq.cell] <;> rfl
  have HR := Lib.hid (ruleS_any v l r w.heap.size 0 (w.heap.size + 1) W0 hRA (by omega) hl hr)
  have HB0 := Lib.hid hb0
  have HW0 := Lib.hid hW0
  obtain ⟨rr, hrr⟩ : ∃ rr, rr = ruleOk v l r := ⟨_, rfl⟩
  rw [← hrr] at HR ⊢
  clear hL hR hb0 hs0 hq hRA hW0 hrr
  go_enter Try.func20, Try.ntmps20
  go_wp2_with fail
  rw [← HW0.out]
  refine HR.out.mono ?_; rintro e w1 ⟨rfl, hb1⟩
  have HB1 : Hid (Below w.heap.size w w1) := HB0.out.trans (hb1.mono HB0.out.size)
  clear hb1
  go_wp2
  go_ret
  exact ⟨rfl, HB1.out⟩

theorem keep11 {w w' : World} {p0 p1 p2 p3 p4 p5 p6 p7 p8 p9 p10 : Addr} {u0 u1 u2 u3 u4 u5 u6 u7 u8 u9 u10 : Value} (h : w.cell? p0 = some u0 ∧ w.cell? p1 = some u1 ∧ w.cell? p2 = some u2 ∧ w.cell? p3 = some u3 ∧ w.cell? p4 = some u4 ∧ w.cell? p5 = some u5 ∧ w.cell? p6 = some u6 ∧ w.cell? p7 = some u7 ∧ w.cell? p8 = some u8 ∧ w.cell? p9 = some u9 ∧ w.cell? p10 = some u10) (hb : Below w.heap.size w w') : w'.cell? p0 = some u0 ∧ w'.cell? p1 = some u1 ∧ w'.cell? p2 = some u2 ∧ w'.cell? p3 = some u3 ∧ w'.cell? p4 = some u4 ∧ w'.cell? p5 = some u5 ∧ w'.cell? p6 = some u6 ∧ w'.cell? p7 = some u7 ∧ w'.cell? p8 = some u8 ∧ w'.cell? p9 = some u9 ∧ w'.cell? p10 = some u10 :=
  ⟨keepC h.1 hb, keepC h.2.1 hb, keepC h.2.2.1 hb, keepC h.2.2.2.1 hb, keepC h.2.2.2.2.1 hb, keepC h.2.2.2.2.2.1 hb, keepC h.2.2.2.2.2.2.1 hb, keepC h.2.2.2.2.2.2.2.1 hb, keepC h.2.2.2.2.2.2.2.2.1 hb, keepC h.2.2.2.2.2.2.2.2.2.1 hb, keepC h.2.2.2.2.2.2.2.2.2.2 hb⟩

set_option maxRecDepth 100000 in
set_option maxHeartbeats 1000000 in
theorem lawValidRule_no (v : Int) (l r : Nd) (KL KR : Option Addr) (cl cr : Nat) (w : World) (hL : ExSl w w.heap.size l.ks KL) (hcl : l.ks.len ≤ cl) (hml : cl ≤ maxLen) (hR : ExSl w w.heap.size r.ks KR) (hcr : r.ks.len ≤ cr) (hmr : cr ≤ maxLen) (c0 : ¬ l.ks.size + r.ks.size ≤ 1048576) :
    Calls Try.prog 6 #[ruV v l KL cl r KR cr] w fun e w' => e = .returned (.bool true) ∧ Below w.heap.size w w' := by
  obtain ⟨W0, hW0⟩ : ∃ W0, W0 = w.alloc (.cells #[.int .i64 v, .int .i64 l.k, .int .i64 l.n, .int .i64 l.p, .int .i64 l.c, .slice KL l.ks.len cl, .int .i64 r.k, .int .i64 r.n, .int .i64 r.p, .int .i64 r.c, .slice KR r.ks.len cr] 41) := ⟨_, rfl⟩
  have hb0 : Below w.heap.size w W0 := by rw [hW0]; go_grown
  have HC := szRule_any v l r KL KR cl cr w.heap.size 1048576 W0 (hL.below hb0) (by unfold maxLen at hml; omega) (hR.below hb0) (by unfold maxLen at hmr; omega) hb0.size (by omega) (by omega)
  rw [szV_no (by omega)] at HC
  have HC := Lib.hid HC
  have HB0 := Lib.hid hb0
  have HW0 := Lib.hid hW0
  clear hL hR hb0 hW0 c0
  go_enter Try.func6, Try.ntmps6
  go_wp2_with fail
  rw [← HW0.out]
  refine HC.out.mono ?_; rintro e w1 ⟨rfl, hb1⟩
  have HB1 : Hid (Below w.heap.size w w1) := HB0.out.trans (hb1.mono HB0.out.size)
  clear hb1
  go_wp2
  go_ret
  exact ⟨rfl, HB1.out⟩

set_option maxRecDepth 100000 in
set_option maxHeartbeats 4000000 in
theorem lawValidRule_ok (v : Int) (l r : Nd) (KL KR : Option Addr) (cl cr : Nat) (w : World) (hL : ExSl w w.heap.size l.ks KL) (hcl : l.ks.len ≤ cl) (hml : cl ≤ maxLen) (hR : ExSl w w.heap.size r.ks KR) (hcr : r.ks.len ≤ cr) (hmr : cr ≤ maxLen) (c0 : l.ks.size + r.ks.size ≤ 1048576) :
    Calls Try.prog 6 #[ruV v l KL cl r KR cr] w fun e w' => e = .returned (.bool true) ∧ Below w.heap.size w w' := by
  have hl : l.ks.size ≤ 1048576 := by omega
  have hr : r.ks.size ≤ 1048576 := by omega
  have hll : l.ks.len ≤ maxLen := by omega
  have hlr : r.ks.len ≤ maxLen := by omega
  obtain ⟨W0, hW0⟩ : ∃ W0, W0 = w.alloc (.cells #[.int .i64 v, .int .i64 l.k, .int .i64 l.n, .int .i64 l.p, .int .i64 l.c, .slice KL l.ks.len cl, .int .i64 r.k, .int .i64 r.n, .int .i64 r.p, .int .i64 r.c, .slice KR r.ks.len cr] 41) := ⟨_, rfl⟩
  have hb0 : Below w.heap.size w W0 := by rw [hW0]; go_grown
  have hq : Cells W0 w.heap.size 41 [.int .i64 v, .int .i64 l.k, .int .i64 l.n, .int .i64 l.p, .int .i64 l.c, .slice KL l.ks.len cl, .int .i64 r.k, .int .i64 r.n, .int .i64 r.p, .int .i64 r.c, .slice KR r.ks.len cr] := by rw [hW0]; exact Cells.new w 41 _
  have HC := szRule_any v l r KL KR cl cr w.heap.size 1048576 W0 (hL.below hb0) (by unfold maxLen at hml; omega) (hR.below hb0) (by unfold maxLen at hmr; omega) hb0.size (by omega) (by omega)
  rw [szV_yes (by omega)] at HC
  obtain ⟨y, hy⟩ : ∃ y : Int, y = 1048576 - ((l.ks.size + r.ks.size : Nat) : Int) := ⟨_, rfl⟩
  rw [← hy] at HC
  have hy0 : ¬ y < 0 := by omega
  clear hy
  have HC := Lib.hid HC
  have HT : Hid (∀ wx, Below w.heap.size w wx → Calls Try.prog 21 #[ruV v l KL cl r KR cr] wx fun e w' => ∃ g1 g2, e = .returned (ruV v l (some ⟨g1, 0, none⟩) l.ks.len r (some ⟨g2, 0, none⟩) r.ks.len) ∧ RulR (wx.heap.size + 3) w'.heap.size l r g1 g2 w' ∧ Below wx.heap.size wx w') := fun wx h =>
    toRule_any v l r KL KR cl cr w.heap.size wx (hL.below h) (hR.below h) h.size hl hr
  obtain ⟨rr, hrr⟩ : ∃ rr, rr = ruleOk v l r := ⟨_, rfl⟩
  have HRR := Lib.hid hrr
  have HB0 := Lib.hid hb0
  have HW0 := Lib.hid hW0
  clear hL hR hb0 hW0 c0 hrr
  have HQ0 := Lib.hid hq; clear hq
  have q0 : W0.cell? ⟨w.heap.size, 0, none⟩ = some (.int .i64 v) := by rw [HQ0.out.cell]; rfl
  have q1 : W0.cell? ⟨w.heap.size, 1, none⟩ = some (.int .i64 l.k) := by rw [HQ0.out.cell]; rfl
  have q2 : W0.cell? ⟨w.heap.size, 2, none⟩ = some (.int .i64 l.n) := by rw [HQ0.out.cell]; rfl
  have q3 : W0.cell? ⟨w.heap.size, 3, none⟩ = some (.int .i64 l.p) := by rw [HQ0.out.cell]; rfl
  have q4 : W0.cell? ⟨w.heap.size, 4, none⟩ = some (.int .i64 l.c) := by rw [HQ0.out.cell]; rfl
  have q5 : W0.cell? ⟨w.heap.size, 5, none⟩ = some (.slice KL l.ks.len cl) := by rw [HQ0.out.cell]; rfl
  have q6 : W0.cell? ⟨w.heap.size, 6, none⟩ = some (.int .i64 r.k) := by rw [HQ0.out.cell]; rfl
  have q7 : W0.cell? ⟨w.heap.size, 7, none⟩ = some (.int .i64 r.n) := by rw [HQ0.out.cell]; rfl
  have q8 : W0.cell? ⟨w.heap.size, 8, none⟩ = some (.int .i64 r.p) := by rw [HQ0.out.cell]; rfl
  have q9 : W0.cell? ⟨w.heap.size, 9, none⟩ = some (.int .i64 r.c) := by rw [HQ0.out.cell]; rfl
  have q10 : W0.cell? ⟨w.heap.size, 10, none⟩ = some (.slice KR r.ks.len cr) := by rw [HQ0.out.cell]; rfl
  go_enter Try.func6, Try.ntmps6
  go_wp2_with fail
  rw [← HW0.out]
  refine HC.out.mono ?_; rintro e w1 ⟨rfl, hb1⟩
  have HB1 : Hid (Below w.heap.size w w1) := HB0.out.trans (hb1.mono HB0.out.size)
  have HQ1 := Lib.hid (HQ0.out.next hb1)
  clear q0 q1 q2 q3 q4 q5 q6 q7 q8 q9 q10
  clear hb1 HC
  have q0 : w1.cell? ⟨w.heap.size, 0, none⟩ = some (.int .i64 v) := by rw [HQ1.out.cell]; rfl
  have q1 : w1.cell? ⟨w.heap.size, 1, none⟩ = some (.int .i64 l.k) := by rw [HQ1.out.cell]; rfl
  have q2 : w1.cell? ⟨w.heap.size, 2, none⟩ = some (.int .i64 l.n) := by rw [HQ1.out.cell]; rfl
  have q3 : w1.cell? ⟨w.heap.size, 3, none⟩ = some (.int .i64 l.p) := by rw [HQ1.out.cell]; rfl
  have q4 : w1.cell? ⟨w.heap.size, 4, none⟩ = some (.int .i64 l.c) := by rw [HQ1.out.cell]; rfl
  have q5 : w1.cell? ⟨w.heap.size, 5, none⟩ = some (.slice KL l.ks.len cl) := by rw [HQ1.out.cell]; rfl
  have q6 : w1.cell? ⟨w.heap.size, 6, none⟩ = some (.int .i64 r.k) := by rw [HQ1.out.cell]; rfl
  have q7 : w1.cell? ⟨w.heap.size, 7, none⟩ = some (.int .i64 r.n) := by rw [HQ1.out.cell]; rfl
  have q8 : w1.cell? ⟨w.heap.size, 8, none⟩ = some (.int .i64 r.p) := by rw [HQ1.out.cell]; rfl
  have q9 : w1.cell? ⟨w.heap.size, 9, none⟩ = some (.int .i64 r.c) := by rw [HQ1.out.cell]; rfl
  have q10 : w1.cell? ⟨w.heap.size, 10, none⟩ = some (.slice KR r.ks.len cr) := by rw [HQ1.out.cell]; rfl
  go_wp2_with fail
  refine (HT.out w1 HB1.out).mono ?_; rintro e w2 ⟨g1, g2, rfl, hR2, hb2⟩
  have HB2 := Lib.hid (bnext HB1.out hb2)
  have HQ2 := Lib.hid (HQ1.out.next hb2)
  have HP := ruleP_any v l r (some ⟨g1, 0, none⟩) (some ⟨g2, 0, none⟩) l.ks.len r.ks.len w2.heap.size w2 (hR2.left (Nat.le_refl _)) (Nat.le_refl _) hll (hR2.right (Nat.le_refl _)) (Nat.le_refl _) hlr (Nat.le_refl _) hl hr
  rw [← HRR.out] at HP
  have HP := Lib.hid HP
  clear q0 q1 q2 q3 q4 q5 q6 q7 q8 q9 q10
  clear hb2 hR2
  go_wp2_with fail
  refine HP.out.mono ?_; rintro e w3 ⟨rfl, hb3⟩
  have HB3 := Lib.hid (bnext HB2.out hb3)
  have HQ3 := Lib.hid (HQ2.out.next hb3)
  clear hb3 HP
  have q0 : w3.cell? ⟨w.heap.size, 0, none⟩ = some (.int .i64 v) := by rw [HQ3.out.cell]; rfl
  have q1 : w3.cell? ⟨w.heap.size, 1, none⟩ = some (.int .i64 l.k) := by rw [HQ3.out.cell]; rfl
  have q2 : w3.cell? ⟨w.heap.size, 2, none⟩ = some (.int .i64 l.n) := by rw [HQ3.out.cell]; rfl
  have q3 : w3.cell? ⟨w.heap.size, 3, none⟩ = some (.int .i64 l.p) := by rw [HQ3.out.cell]; rfl
  have q4 : w3.cell? ⟨w.heap.size, 4, none⟩ = some (.int .i64 l.c) := by rw [HQ3.out.cell]; rfl
  have q5 : w3.cell? ⟨w.heap.size, 5, none⟩ = some (.slice KL l.ks.len cl) := by rw [HQ3.out.cell]; rfl
  have q6 : w3.cell? ⟨w.heap.size, 6, none⟩ = some (.int .i64 r.k) := by rw [HQ3.out.cell]; rfl
  have q7 : w3.cell? ⟨w.heap.size, 7, none⟩ = some (.int .i64 r.n) := by rw [HQ3.out.cell]; rfl
  have q8 : w3.cell? ⟨w.heap.size, 8, none⟩ = some (.int .i64 r.p) := by rw [HQ3.out.cell]; rfl
  have q9 : w3.cell? ⟨w.heap.size, 9, none⟩ = some (.int .i64 r.c) := by rw [HQ3.out.cell]; rfl
  have q10 : w3.cell? ⟨w.heap.size, 10, none⟩ = some (.slice KR r.ks.len cr) := by rw [HQ3.out.cell]; rfl
  go_wp2_with fail
  refine (HT.out w3 HB3.out).mono ?_; rintro e w4 ⟨g3, g4, rfl, hR4, hb4⟩
  have HB4 := Lib.hid (bnext HB3.out hb4)
  have HQ4 := Lib.hid (HQ3.out.next hb4)
  have HR4 := Lib.hid hR4
  clear q0 q1 q2 q3 q4 q5 q6 q7 q8 q9 q10
  clear hb4 hR4
  obtain ⟨W5, hW5⟩ : ∃ W5, W5 = (w4.alloc (.cells #[.int .i64 v, .int .i64 l.k, .int .i64 l.n, .int .i64 l.p, .int .i64 l.c, .slice (some ⟨g3, 0, none⟩) l.ks.len l.ks.len, .int .i64 r.k, .int .i64 r.n, .int .i64 r.p, .int .i64 r.c, .slice (some ⟨g4, 0, none⟩) r.ks.len r.ks.len] 48)) := ⟨_, rfl⟩
  have hb5 : Below w4.heap.size w4 W5 := by rw [hW5]; go_grown
  have hx5 : Cells W5 w4.heap.size 48 [.int .i64 v, .int .i64 l.k, .int .i64 l.n, .int .i64 l.p, .int .i64 l.c, .slice (some ⟨g3, 0, none⟩) l.ks.len l.ks.len, .int .i64 r.k, .int .i64 r.n, .int .i64 r.p, .int .i64 r.c, .slice (some ⟨g4, 0, none⟩) r.ks.len r.ks.len] := by rw [hW5]; exact Cells.new w4 48 _
  have HB5 := Lib.hid (bnext HB4.out hb5)
  have HQ5 := Lib.hid (HQ4.out.next hb5)
  have HR5 := Lib.hid (HR4.out.keep (fun q _ h => hb5.block q h))
  have HS5 := Lib.hid hb5.size
  have HX5 := Lib.hid hx5
  have HW5 := Lib.hid hW5
  have HI := ruleI_any v l r (some ⟨g3, 0, none⟩) (some ⟨g4, 0, none⟩) l.ks.len r.ks.len W5.heap.size W5 (HR5.out.left HS5.out) (Nat.le_refl _) hll (HR5.out.right HS5.out) (Nat.le_refl _) hlr (Nat.le_refl _) (by omega) (by omega)
  rw [← HRR.out] at HI
  have HI := Lib.hid HI
  clear hb5 hx5 hW5
  have x0 : W5.cell? ⟨w4.heap.size, 0, none⟩ = some (.int .i64 v) := by rw [HX5.out.cell]; rfl
  have x1 : W5.cell? ⟨w4.heap.size, 1, none⟩ = some (.int .i64 l.k) := by rw [HX5.out.cell]; rfl
  have x2 : W5.cell? ⟨w4.heap.size, 2, none⟩ = some (.int .i64 l.n) := by rw [HX5.out.cell]; rfl
  have x3 : W5.cell? ⟨w4.heap.size, 3, none⟩ = some (.int .i64 l.p) := by rw [HX5.out.cell]; rfl
  have x4 : W5.cell? ⟨w4.heap.size, 4, none⟩ = some (.int .i64 l.c) := by rw [HX5.out.cell]; rfl
  have x5 : W5.cell? ⟨w4.heap.size, 5, none⟩ = some (.slice (some ⟨g3, 0, none⟩) l.ks.len l.ks.len) := by rw [HX5.out.cell]; rfl
  have x6 : W5.cell? ⟨w4.heap.size, 6, none⟩ = some (.int .i64 r.k) := by rw [HX5.out.cell]; rfl
  have x7 : W5.cell? ⟨w4.heap.size, 7, none⟩ = some (.int .i64 r.n) := by rw [HX5.out.cell]; rfl
  have x8 : W5.cell? ⟨w4.heap.size, 8, none⟩ = some (.int .i64 r.p) := by rw [HX5.out.cell]; rfl
  have x9 : W5.cell? ⟨w4.heap.size, 9, none⟩ = some (.int .i64 r.c) := by rw [HX5.out.cell]; rfl
  have x10 : W5.cell? ⟨w4.heap.size, 10, none⟩ = some (.slice (some ⟨g4, 0, none⟩) r.ks.len r.ks.len) := by rw [HX5.out.cell]; rfl
  go_upto_region 7 with fail
  rw [← HW5.out]
  go_wp2_with fail
  refine HI.out.mono ?_; rintro e w6 ⟨rfl, hb6⟩
  have HB6 := Lib.hid (bnext HB5.out hb6)
  have HQ6 := Lib.hid (HQ5.out.next hb6)
  have HX6 := Lib.hid (HX5.out.next hb6)
  have HR6 := Lib.hid (HR5.out.keep (fun q _ h => hb6.block q (Nat.lt_of_lt_of_le h HS5.out)))
  have HS6 := Lib.hid (Nat.le_trans HS5.out hb6.size)
  clear x0 x1 x2 x3 x4 x5 x6 x7 x8 x9 x10
  clear hb6 HI
  have HSV : Hid ((w6.cell? ⟨w4.heap.size, 0, none⟩ = some (.int .i64 v) ∧ w6.cell? ⟨w4.heap.size, 1, none⟩ = some (.int .i64 l.k) ∧ w6.cell? ⟨w4.heap.size, 2, none⟩ = some (.int .i64 l.n) ∧ w6.cell? ⟨w4.heap.size, 3, none⟩ = some (.int .i64 l.p) ∧ w6.cell? ⟨w4.heap.size, 4, none⟩ = some (.int .i64 l.c) ∧ w6.cell? ⟨w4.heap.size, 5, none⟩ = some (.slice (some ⟨g3, 0, none⟩) l.ks.len l.ks.len) ∧ w6.cell? ⟨w4.heap.size, 6, none⟩ = some (.int .i64 r.k) ∧ w6.cell? ⟨w4.heap.size, 7, none⟩ = some (.int .i64 r.n) ∧ w6.cell? ⟨w4.heap.size, 8, none⟩ = some (.int .i64 r.p) ∧ w6.cell? ⟨w4.heap.size, 9, none⟩ = some (.int .i64 r.c) ∧ w6.cell? ⟨w4.heap.size, 10, none⟩ = some (.slice (some ⟨g4, 0, none⟩) r.ks.len r.ks.len)) ∧ (w6.cell? ⟨w.heap.size, 0, none⟩ = some (.int .i64 v) ∧ w6.cell? ⟨w.heap.size, 1, none⟩ = some (.int .i64 l.k) ∧ w6.cell? ⟨w.heap.size, 2, none⟩ = some (.int .i64 l.n) ∧ w6.cell? ⟨w.heap.size, 3, none⟩ = some (.int .i64 l.p) ∧ w6.cell? ⟨w.heap.size, 4, none⟩ = some (.int .i64 l.c) ∧ w6.cell? ⟨w.heap.size, 5, none⟩ = some (.slice KL l.ks.len cl) ∧ w6.cell? ⟨w.heap.size, 6, none⟩ = some (.int .i64 r.k) ∧ w6.cell? ⟨w.heap.size, 7, none⟩ = some (.int .i64 r.n) ∧ w6.cell? ⟨w.heap.size, 8, none⟩ = some (.int .i64 r.p) ∧ w6.cell? ⟨w.heap.size, 9, none⟩ = some (.int .i64 r.c) ∧ w6.cell? ⟨w.heap.size, 10, none⟩ = some (.slice KR r.ks.len cr))) := ⟨⟨by rw [HX6.out.cell]; rfl, by rw [HX6.out.cell]; rfl, by rw [HX6.out.cell]; rfl, by rw [HX6.out.cell]; rfl, by rw [HX6.out.cell]; rfl, by rw [HX6.out.cell]; rfl, by rw [HX6.out.cell]; rfl, by rw [HX6.out.cell]; rfl, by rw [HX6.out.cell]; rfl, by rw [HX6.out.cell]; rfl, by rw [HX6.out.cell]; rfl⟩, ⟨by rw [HQ6.out.cell]; rfl, by rw [HQ6.out.cell]; rfl, by rw [HQ6.out.cell]; rfl, by rw [HQ6.out.cell]; rfl, by rw [HQ6.out.cell]; rfl, by rw [HQ6.out.cell]; rfl, by rw [HQ6.out.cell]; rfl, by rw [HQ6.out.cell]; rfl, by rw [HQ6.out.cell]; rfl, by rw [HQ6.out.cell]; rfl, by rw [HQ6.out.cell]; rfl⟩⟩
  have HSD : Hid ((w6.drew.cell? ⟨w4.heap.size, 0, none⟩ = some (.int .i64 v) ∧ w6.drew.cell? ⟨w4.heap.size, 1, none⟩ = some (.int .i64 l.k) ∧ w6.drew.cell? ⟨w4.heap.size, 2, none⟩ = some (.int .i64 l.n) ∧ w6.drew.cell? ⟨w4.heap.size, 3, none⟩ = some (.int .i64 l.p) ∧ w6.drew.cell? ⟨w4.heap.size, 4, none⟩ = some (.int .i64 l.c) ∧ w6.drew.cell? ⟨w4.heap.size, 5, none⟩ = some (.slice (some ⟨g3, 0, none⟩) l.ks.len l.ks.len) ∧ w6.drew.cell? ⟨w4.heap.size, 6, none⟩ = some (.int .i64 r.k) ∧ w6.drew.cell? ⟨w4.heap.size, 7, none⟩ = some (.int .i64 r.n) ∧ w6.drew.cell? ⟨w4.heap.size, 8, none⟩ = some (.int .i64 r.p) ∧ w6.drew.cell? ⟨w4.heap.size, 9, none⟩ = some (.int .i64 r.c) ∧ w6.drew.cell? ⟨w4.heap.size, 10, none⟩ = some (.slice (some ⟨g4, 0, none⟩) r.ks.len r.ks.len)) ∧ (w6.drew.cell? ⟨w.heap.size, 0, none⟩ = some (.int .i64 v) ∧ w6.drew.cell? ⟨w.heap.size, 1, none⟩ = some (.int .i64 l.k) ∧ w6.drew.cell? ⟨w.heap.size, 2, none⟩ = some (.int .i64 l.n) ∧ w6.drew.cell? ⟨w.heap.size, 3, none⟩ = some (.int .i64 l.p) ∧ w6.drew.cell? ⟨w.heap.size, 4, none⟩ = some (.int .i64 l.c) ∧ w6.drew.cell? ⟨w.heap.size, 5, none⟩ = some (.slice KL l.ks.len cl) ∧ w6.drew.cell? ⟨w.heap.size, 6, none⟩ = some (.int .i64 r.k) ∧ w6.drew.cell? ⟨w.heap.size, 7, none⟩ = some (.int .i64 r.n) ∧ w6.drew.cell? ⟨w.heap.size, 8, none⟩ = some (.int .i64 r.p) ∧ w6.drew.cell? ⟨w.heap.size, 9, none⟩ = some (.int .i64 r.c) ∧ w6.drew.cell? ⟨w.heap.size, 10, none⟩ = some (.slice KR r.ks.len cr))) := HSV.out
  have HT7 : Hid (∀ wx, Below w6.heap.size w6 wx → Calls Try.prog 21 #[ruV v l KL cl r KR cr] wx fun e w' => ∃ g1 g2, e = .returned (ruV v l (some ⟨g1, 0, none⟩) l.ks.len r (some ⟨g2, 0, none⟩) r.ks.len) ∧ RulR (wx.heap.size + 3) w'.heap.size l r g1 g2 w' ∧ Below wx.heap.size wx w') := fun wx h => HT.out wx (bnext HB6.out h)
  go_upto_region 10 with fail
  refine RegE.start (S := fun wx => (wx.cell? ⟨w4.heap.size, 0, none⟩ = some (.int .i64 v) ∧ wx.cell? ⟨w4.heap.size, 1, none⟩ = some (.int .i64 l.k) ∧ wx.cell? ⟨w4.heap.size, 2, none⟩ = some (.int .i64 l.n) ∧ wx.cell? ⟨w4.heap.size, 3, none⟩ = some (.int .i64 l.p) ∧ wx.cell? ⟨w4.heap.size, 4, none⟩ = some (.int .i64 l.c) ∧ wx.cell? ⟨w4.heap.size, 5, none⟩ = some (.slice (some ⟨g3, 0, none⟩) l.ks.len l.ks.len) ∧ wx.cell? ⟨w4.heap.size, 6, none⟩ = some (.int .i64 r.k) ∧ wx.cell? ⟨w4.heap.size, 7, none⟩ = some (.int .i64 r.n) ∧ wx.cell? ⟨w4.heap.size, 8, none⟩ = some (.int .i64 r.p) ∧ wx.cell? ⟨w4.heap.size, 9, none⟩ = some (.int .i64 r.c) ∧ wx.cell? ⟨w4.heap.size, 10, none⟩ = some (.slice (some ⟨g4, 0, none⟩) r.ks.len r.ks.len)) ∧ (wx.cell? ⟨w.heap.size, 0, none⟩ = some (.int .i64 v) ∧ wx.cell? ⟨w.heap.size, 1, none⟩ = some (.int .i64 l.k) ∧ wx.cell? ⟨w.heap.size, 2, none⟩ = some (.int .i64 l.n) ∧ wx.cell? ⟨w.heap.size, 3, none⟩ = some (.int .i64 l.p) ∧ wx.cell? ⟨w.heap.size, 4, none⟩ = some (.int .i64 l.c) ∧ wx.cell? ⟨w.heap.size, 5, none⟩ = some (.slice KL l.ks.len cl) ∧ wx.cell? ⟨w.heap.size, 6, none⟩ = some (.int .i64 r.k) ∧ wx.cell? ⟨w.heap.size, 7, none⟩ = some (.int .i64 r.n) ∧ wx.cell? ⟨w.heap.size, 8, none⟩ = some (.int .i64 r.p) ∧ wx.cell? ⟨w.heap.size, 9, none⟩ = some (.int .i64 r.c) ∧ wx.cell? ⟨w.heap.size, 10, none⟩ = some (.slice KR r.ks.len cr))) 4 (by kernel_rfl) (by kernel_rfl) ?Sz0 (fun hHeld hB => ?_)
  case Sz0 => ((try dsimp only); exact HSD.out)
  refine RegE.takeL (i := 0) (v := ?vz0) hB rfl (by decide) (by kernel_rfl) (by kernel_rfl) (fun _ _ _ h => h) (Or.inl ⟨by rfl, ?yz0⟩) hHeld ?rz0
  case yz0 => ((intro w hSw; (try dsimp only at hSw); go_simp) <;> with_reducible rfl)
  (try simp only [Act.put, List.setIfInBounds_toArray, List.set_cons_zero, List.set_cons_succ])
  refine RegE.takeL (i := 1) (v := ?vz1) hB rfl (by decide) (by kernel_rfl) (by kernel_rfl) (fun _ _ _ h => h) (Or.inl ⟨by rfl, ?yz1⟩) hHeld ?rz1
  case yz1 => ((intro w hSw; (try dsimp only at hSw); go_simp) <;> with_reducible rfl)
  (try simp only [Act.put, List.setIfInBounds_toArray, List.set_cons_zero, List.set_cons_succ])
  refine RegE.stepL (i := 2) rfl (by decide) (by kernel_rfl) (fun K hK => ?_)
  go_simp
  go_at_call 21
  refine (HT7.out _ (Below.refl _ _).drew).mono ?_
  rintro e w7 ⟨g5, g6, rfl, hR7, hb7⟩
  have HB7 := Lib.hid (Below.trans (Below.refl _ _).drew (hb7.mono (Nat.le_refl _)) : Below w6.heap.size w6 w7)
  have HR7 := Lib.hid hR7
  clear hR7 hb7
  go_wp2_with fail
  refine hK.out _ _ ?Sz2 (fun hHeldN => ?_)
  case Sz2 => ((try dsimp only); exact ⟨keep11 HSV.out.1 HB7.out, keep11 HSV.out.2 HB7.out⟩)
  clear hK K hHeld
  have hHeld := hHeldN
  clear hHeldN
  (try simp only [Act.put, List.setIfInBounds_toArray, List.set_cons_zero, List.set_cons_succ])
  have HQE := Lib.hid (eqRule_any v l r (some ⟨g3, 0, none⟩) (some ⟨g4, 0, none⟩) (some ⟨g5, 0, none⟩) (some ⟨g6, 0, none⟩) l.ks.len r.ks.len l.ks.len r.ks.len w7.heap.size w7 ((HR6.out.left HS6.out).below HB7.out |>.mono HB7.out.size) ((HR6.out.right HS6.out).below HB7.out |>.mono HB7.out.size) (HR7.out.left (Nat.le_refl _)) (HR7.out.right (Nat.le_refl _)) (Nat.le_refl _) hl hr)
  refine RegE.stepL (i := 3) rfl (by decide) (by kernel_rfl) (fun K hK => ?_)
  go_simp
  go_at_call 23
  refine HQE.out.mono ?_
  rintro e w8 ⟨rfl, hb8⟩
  have HB8 := Lib.hid (bnext HB7.out hb8)
  clear hb8
  go_wp2_with fail
  refine hK.out _ _ ?Sz3 (fun hHeldN => ?_)
  case Sz3 => ((try dsimp only); exact ⟨keep11 HSV.out.1 HB8.out, keep11 HSV.out.2 HB8.out⟩)
  clear hK K hHeld
  have hHeld := hHeldN
  clear hHeldN
  (try simp only [Act.put, List.setIfInBounds_toArray, List.set_cons_zero, List.set_cons_succ])
  refine RegE.lastL rfl (by kernel_rfl) (by kernel_rfl) (fun K hK => ?_)
  go_simp
  refine hK.out _ _ ?_
  clear hK K
  clear hHeld
  go_wp2
  go_ret
  exact ⟨rfl, bnext HB6.out HB8.out⟩

theorem lawExactValidRule (v : Int) (l r : Nd) (KL KR : Option Addr) (cl cr : Nat) (w : World) (hL : ExSl w w.heap.size l.ks KL) (hcl : l.ks.len ≤ cl) (hml : cl ≤ maxLen) (hR : ExSl w w.heap.size r.ks KR) (hcr : r.ks.len ≤ cr) (hmr : cr ≤ maxLen) :
    Calls Try.prog 6 #[ruV v l KL cl r KR cr] w fun e w' => e = .returned (.bool true) ∧ Below w.heap.size w w' := by
  by_cases c0 : l.ks.size + r.ks.size ≤ 1048576
  · exact lawValidRule_ok v l r KL KR cl cr w hL hcl hml hR hcr hmr c0
  · exact lawValidRule_no v l r KL KR cl cr w hL hcl hml hR hcr hmr c0

end Go.Proofs.Ytfnhdfgkkjnhcaa

/- A rule given to a law, opened. -/
namespace Go.Proofs.Ytfnhdfgkkjnhcaa
open Go.RowKit Plain

theorem Try.cellsRu : Try.prog.cellsOf 41 = 11 := by kernel_rfl
set_option maxRecDepth 100000 in
theorem open_expr {H : Type} {enc : TypeId × Value → H} {w : World} {fuel : Nat} {cs : List Value} {x : DataW H × List MemPlace} (h : DataW.trod enc Try.prog w 0 (fun _ => true) true fuel 39 cs = some x) :
    ∃ (y : Nd) (A : Option Addr) (cap : Nat), cs = [.int .i64 y.k, .int .i64 y.n, .int .i64 y.p, .int .i64 y.c, .slice A y.ks.len cap] ∧ y.ks.len ≤ cap ∧ cap ≤ maxLen ∧ ExSl w w.heap.size y.ks A := by
  obtain ⟨ys, n', _, _, hcl, hlen, hf⟩ := DataW.trod_struct Try.underlying39 h
  rw [Try.cellsLE] at hcl
  match cs, hcl, ys, hlen with
  | [c0, c1, c2, c3, c4], _, [y0, y1, y2, y3, y4], _ =>
    have h0 : DataW.trod enc Try.prog w 0 (fun _ => true) true n' 2 (([c0, c1, c2, c3, c4].drop 0).take (Try.prog.cellsOf 2)) = some y0 := hf 0 _ rfl
    have h1 : DataW.trod enc Try.prog w 0 (fun _ => true) true n' 2 (([c0, c1, c2, c3, c4].drop 1).take (Try.prog.cellsOf 2)) = some y1 := hf 1 _ rfl
    have h2 : DataW.trod enc Try.prog w 0 (fun _ => true) true n' 2 (([c0, c1, c2, c3, c4].drop 2).take (Try.prog.cellsOf 2)) = some y2 := hf 2 _ rfl
    have h3 : DataW.trod enc Try.prog w 0 (fun _ => true) true n' 2 (([c0, c1, c2, c3, c4].drop 3).take (Try.prog.cellsOf 2)) = some y3 := hf 3 _ rfl
    have h4 : DataW.trod enc Try.prog w 0 (fun _ => true) true n' 37 (([c0, c1, c2, c3, c4].drop 4).take (Try.prog.cellsOf 37)) = some y4 := hf 4 _ rfl
    rw [Try.cellsI] at h0 h1 h2 h3
    rw [Try.cellsES] at h4
    obtain ⟨n0, e0, _⟩ := DataW.trod_int Try.underlying2 (x := y0) h0
    obtain ⟨n1, e1, _⟩ := DataW.trod_int Try.underlying2 (x := y1) h1
    obtain ⟨n2, e2, _⟩ := DataW.trod_int Try.underlying2 (x := y2) h2
    obtain ⟨n3, e3, _⟩ := DataW.trod_int Try.underlying2 (x := y3) h3
    obtain ⟨A, cap, es, e4, hcap, hmx, hsl⟩ := open_exprs _ _ _ h4
    simp at e0 e1 e2 e3 e4
    subst e0 e1 e2 e3 e4
    exact ⟨⟨n0, n1, n2, n3, es⟩, A, cap, rfl, hcap, hmx, hsl⟩
set_option maxRecDepth 100000 in
theorem open_rule {H : Type} {enc : TypeId × Value → H} {w : World} {fuel : Nat} {cs : List Value} {x : DataW H × List MemPlace} (h : DataW.trod enc Try.prog w 0 (fun _ => true) true fuel 41 cs = some x) :
    ∃ (v : Int) (l r : Nd) (KL KR : Option Addr) (cl cr : Nat), cs = [.int .i64 v, .int .i64 l.k, .int .i64 l.n, .int .i64 l.p, .int .i64 l.c, .slice KL l.ks.len cl, .int .i64 r.k, .int .i64 r.n, .int .i64 r.p, .int .i64 r.c, .slice KR r.ks.len cr] ∧
      ExSl w w.heap.size l.ks KL ∧ l.ks.len ≤ cl ∧ cl ≤ maxLen ∧ ExSl w w.heap.size r.ks KR ∧ r.ks.len ≤ cr ∧ cr ≤ maxLen := by
  obtain ⟨ys, n', _, _, hcl, hlen, hf⟩ := DataW.trod_struct Try.underlying41 h
  rw [Try.cellsRu] at hcl
  match cs, hcl, ys, hlen with
  | [c0, c1, c2, c3, c4, c5, c6, c7, c8, c9, c10], _, [y0, y1, y2], _ =>
    have h0 : DataW.trod enc Try.prog w 0 (fun _ => true) true n' 2 (([c0, c1, c2, c3, c4, c5, c6, c7, c8, c9, c10].drop 0).take (Try.prog.cellsOf 2)) = some y0 := hf 0 _ rfl
    have h1 : DataW.trod enc Try.prog w 0 (fun _ => true) true n' 39 (([c0, c1, c2, c3, c4, c5, c6, c7, c8, c9, c10].drop 1).take (Try.prog.cellsOf 39)) = some y1 := hf 1 _ rfl
    have h2 : DataW.trod enc Try.prog w 0 (fun _ => true) true n' 39 (([c0, c1, c2, c3, c4, c5, c6, c7, c8, c9, c10].drop 6).take (Try.prog.cellsOf 39)) = some y2 := hf 2 _ rfl
    rw [Try.cellsI] at h0
    rw [Try.cellsLE] at h1 h2
    obtain ⟨n0, e0, _⟩ := DataW.trod_int Try.underlying2 (x := y0) h0
    obtain ⟨l, KL, cl, e1, a1, a2, a3⟩ := open_expr h1
    obtain ⟨r, KR, cr, e2, b1, b2, b3⟩ := open_expr h2
    simp at e0 e1 e2
    obtain ⟨rfl, rfl, rfl, rfl, rfl⟩ := e1
    obtain ⟨rfl, rfl, rfl, rfl, rfl⟩ := e2
    subst e0
    exact ⟨n0, l, r, KL, KR, cl, cr, rfl, a3, a1, a2, b3, b1, b2⟩

end Go.Proofs.Ytfnhdfgkkjnhcaa

/- FnExactValidRule: for every rule the program's ValidRule returns what the reference's returns. No condition. -/
namespace Go.Proofs.Ytfnhdfgkkjnhcaa.fnExactValidRule
open Go.ChangeShapes Go.WideShapes Go.ChangeAt Go.RowKit

theorem own : ownKnob Try.prog.godebug = none := by kernel_rfl
theorem laidOut : laidOutB Try.prog = true := by kernel_rfl

set_option maxRecDepth 100000 in
theorem lifted (os : Os) (started : os.Started) (H : Type) (enc : TypeId × Value → H) :
    ReturnsInHanded {} Try.checked os 6 .any (Rows.fnExactValidRuleSpec.pre6 enc Try.prog Try.f6 Rows.fnExactValidRuleRow.domain false) (Rows.fnExactValidRuleSpec.post enc Try.prog Try.f6 false true false false) := by
  refine returnsInHanded_of_change (C := Try.checked) own started (by kernel_rfl) Try.func6
    (ChangeSpec.witness6 (enc := enc) (C := Try.checked) false ⟨#[], #[.agg #[.int .i64 0, .int .i64 0, .int .i64 0, .int .i64 0, .int .i64 0, .slice none 0 0, .int .i64 0, .int .i64 0, .int .i64 0, .int .i64 0, .slice none 0 0]], []⟩ 8 (by kernel_rfl) (by kernel_rfl) (by kernel_rfl) (by kernel_rfl)) ?_
  intro W base args ds gs before hval0 hW hcnd _
  have hval : ∀ (j : Nat) t v, Try.f6.params[j]? = some t → args[j]? = some v → Value.okWide Try.prog W .any base t v := hval0
  have hW' := hW
  obtain ⟨p, q, hA0, hV, rfl, hfz, hnd⟩ := hW
  have hA : DataW.TrodAll enc Try.prog W 0 (fun _ => true) true Try.f6.params.toList args.toList ds p := hA0
  rw [Try.params6] at hA hval
  obtain ⟨v0, vs0, d0, ds0, p0, q0, hargs, rfl, rfl, h0, r0⟩ := trodAll_cons hA
  obtain ⟨rfl, rfl, rfl⟩ := trodAll_nil r0
  obtain rfl : args = #[v0] := by cases args; simp_all
  obtain ⟨rfl, rfl⟩ := trodVars_none hV
  obtain ⟨cs0, rfl, _⟩ := okWide_struct Try.underlying41 (hval 0 41 v0 rfl rfl)
  have k0 := h0
  have lt0 : ∀ x ∈ p0, x.block < W.heap.size := by obtain ⟨m, hm⟩ := k0; exact DataW.trod_lt m _ _ _ hm
  obtain ⟨u0, l0, z0, a0, b0, c0, d0, e0, w0, m0, n0, w0', m0', n0'⟩ : ∃ (v : Int) (l r : Nd) (KL KR : Option Addr) (cl cr : Nat), cs0 = #[.int .i64 v, .int .i64 l.k, .int .i64 l.n, .int .i64 l.p, .int .i64 l.c, .slice KL l.ks.len cl, .int .i64 r.k, .int .i64 r.n, .int .i64 r.p, .int .i64 r.c, .slice KR r.ks.len cr] ∧ ExSl W W.heap.size l.ks KL ∧ l.ks.len ≤ cl ∧ cl ≤ maxLen ∧ ExSl W W.heap.size r.ks KR ∧ r.ks.len ≤ cr ∧ cr ≤ maxLen := by
    obtain ⟨fuel, hf⟩ := h0
    obtain ⟨v, l, r, KL, KR, cl, cr, hcs, h1⟩ := open_rule hf
    exact ⟨v, l, r, KL, KR, cl, cr, by cases cs0; simpa [Value.cells] using hcs, h1⟩
  subst e0
  clear hA0 hval0
  refine (lawExactValidRule u0 l0 z0 a0 b0 c0 d0 W w0 m0 n0 w0' m0' n0').mono fun e W' ⟨he, bel⟩ => ?_
  subst he
  exact ⟨_, rfl, _, _, _, [], _, [], hW', trodAll_mk1 (shut_bool Try.underlying4 _), (trodAll_cons_mk (Below.trod laidOut (by kernel_rfl) (of_decide_eq_true (by kernel_rfl)) k0 bel lt0) trodAll_mk0), rfl, bel.frame _, fun h => by cases h⟩

theorem over : Rows.fnExactValidRuleRow.holds Try.pinned (OpenSpec.ofChange Rows.fnExactValidRuleSpec) :=
  OpenClaim.holds_of_wide 6 Try.f6 rfl rfl rfl rfl rfl rfl rfl ⟨rfl, rfl, rfl, rfl, rfl⟩ rfl rfl rfl rfl rfl (by kernel_rfl) Try.func6 (by kernel_rfl)
    (of_decide_eq_true (by kernel_rfl)) (by unfold Func.isWrapper; first | (rw [if_pos (by decide +kernel)]; kernel_rfl) | (rw [if_neg (by decide +kernel)]; exact ⟨rfl, rfl⟩))
    (fun os started H enc _ => lifted os started H enc)

theorem proved : Rows.FnExactValidRuleSaid := over
#print axioms proved
end Go.Proofs.Ytfnhdfgkkjnhcaa.fnExactValidRule
