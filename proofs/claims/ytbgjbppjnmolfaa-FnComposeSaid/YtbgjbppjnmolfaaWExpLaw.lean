/- The walk of the law FnExp. -/
import Derived.Test.YtbgjbppjnmolfaaWExp4
import Derived.Test.YtbgjbppjnmolfaaPConv
namespace Go.Proofs.Ytbgjbppjnmolfaa
open Go.RowKit Plain

theorem isS_set0 {a : List Int} (h : IsS a) : IsS (a.set 0 0) := fun k => by
  cases a with
  | nil => exact h k
  | cons x l =>
    cases k with
    | zero => simp [cf]
    | succ k => have := h (k + 1); simpa [cf] using this
theorem cf_set0 (a : List Int) : cf (a.set 0 0) 0 = 0 := by cases a <;> simp [cf]
theorem cf_add0 {a b : List Int} (h0 : 0 < a.length) (ha : cf a 0 = 0) (hb : cf b 0 = 0) : cf (addL a b) 0 = 0 := by rw [cf_add h0, ha, hb]; rfl
theorem begin2N (A : Option Addr) (cap n : Nat) (a : List Int) (w : World) (hA : Ser w A n a) :
    Calls Try.prog 19 #[.slice A n cap, .int .i64 0] w fun e w' => ∃ A' cp, e = .returned (.slice A' n cp) ∧ Ser w' A' n (a.set 0 0) ∧ Below w.heap.size w w' := by
  obtain ⟨n0, n13⟩ := hA.bd
  refine (begin2_any A cap n a 0 w hA.ints hA.len n0 (by omega)).mono ?_
  rintro e w' ⟨A', cp, he, hm, hb⟩
  have hl := hA.len
  exact ⟨A', cp, he, ⟨hm.ints, by simpa using hl, serB_of (by simp; omega) (by simp; omega) (isS_set0 (serB_isS hA.ok).2.2)⟩, hb⟩
theorem add2N (A B : Option Addr) (cap cap' n : Nat) (a b : List Int) (w : World) (hA : Ser w A n a) (hB : Ser w B n b) :
    Calls Try.prog 26 #[.slice A n cap, .slice B n cap'] w fun e w' => ∃ A' cp, e = .returned (.slice A' n cp) ∧ Ser w' A' n (addL a b) ∧ Below w.heap.size w w' := by
  obtain ⟨n0, n13⟩ := hA.bd
  refine (add2_any A B cap cap' n a b w hA.ints hB.ints hA.len hB.len (by omega)).mono ?_
  rintro e w' ⟨A', cp, he, hm, hb⟩
  have hl := hA.len
  have hal := addL_length a b
  exact ⟨A', cp, he, ⟨hm.ints, by omega, serB_of (by omega) (by omega) (isS_add a b)⟩, hb⟩
theorem frontN (A B : Option Addr) (n : Nat) (mi : Int) (a b : List Int) (w : World) (hA : Ser w A n a) (hB : Ser w B n b) (hmi : mi = (n : Int) - 1) (he : ∀ k, k + 1 < n → cf a k = cf b k) :
    Calls Try.prog 22 #[.slice A n n, .slice B n n, .int .i64 mi] w fun e w' => e = .returned (.bool true) ∧ Below w.heap.size w w' := by
  obtain ⟨n0, n13⟩ := hA.bd
  exact front_any A B n n n (n - 1) a b w hA.ints hB.ints hA.len hB.len (by omega) (by omega) (by omega) (by omega) (by omega) (by omega) mi (by omega) fun k hk => he k (by omega)

set_option maxRecDepth 100000 in
set_option maxHeartbeats 4000000 in
theorem lawExp (A : Option Addr) (cap n : Nat) (A' : Option Addr) (cap' n' : Nat) (w : World) (hA : Byt w A n) (hn : n ≤ 9223372036854775807) (_hA' : Byt w A' n') (hn' : n' ≤ 9223372036854775807) :
    Calls Try.prog 6 #[.slice A n cap, .slice A' n' cap'] w fun e w' => e = .returned (.bool true) ∧ Below w.heap.size w w' := by
  cases hL : (decide (3000 < n) || decide (3000 < n'))
  · have hn3 : n ≤ 4611686018427387904 := by simp at hL; omega
    have HL := Lib.hid hL; clear hL
    go_enter Try.func6, Try.ntmps6
    go_wp2_with fail
    refine (long_any A A' n n' cap cap' w hn hn').mono ?_; rintro e w' ⟨rfl, rfl⟩
    rw [HL.out]
    go_wp2_with fail
    refine (series3_any A n cap w hA hn3).mono ?_
    rintro e w1 ⟨m, x, y, z, A1, A2, A3, c1, c2, c3, rfl, m1, m13, la, lb, lc, ia, ib, ic, ha, hb', hc, hb⟩
    have Ha0_ : Hid (Ser w1 A1 m x) := ⟨ha, la, serB_of (by omega) (by omega) ia⟩
    have Hb0_ : Hid (Ser w1 A2 m y) := ⟨hb', lb, serB_of (by omega) (by omega) ib⟩
    have HB1 := Lib.hid hb
    clear ha hb' hc hb
    have hlx : (x.set 0 0).length = m := by simpa using la
    have hly : (y.set 0 0).length = m := by simpa using lb
    have hix := isS_set0 ia
    have hiy := isS_set0 ib
    have hzx := cf_set0 x
    have hzy := cf_set0 y
    have HZX := Lib.hid hzx
    have HZY := Lib.hid hzy
    have HZS := Lib.hid (cf_add0 (by omega) hzx hzy)
    have HE0 := Lib.hid (exp_zero (a := x.set 0 0) (by omega))
    have HSUM := Lib.hid (exp_sum (a := x.set 0 0) (b := y.set 0 0) (by omega) (by omega) (by omega) hix hiy)
    have HLOG := Lib.hid (log_exp hix hzx (by omega) (by omega))
    have HINT := Lib.hid (int_dv hix hzx (by omega))
    have HFR : Hid (∀ k, k + 1 < m → cf (dvL (expL (x.set 0 0))) k = cf (mulL (dvL (x.set 0 0)) (expL (x.set 0 0))) k) := fun k hk => exp_front (by omega) (by omega)
    have hm1 : (1 : Int) ≤ (m : Int) := by omega
    clear ia ib ic la lb lc hix hiy hzx hzy
    go_wp2_with fail
    refine (begin2N A1 c1 m x w1 Ha0_.out).mono ?_
    rintro e w2 ⟨Aa, ca, rfl, hs, hb⟩
    have HB2 := Lib.hid (bnext HB1.out hb)
    have Ha0_2 := Lib.hid (Ha0_.out.below hb)
    clear Ha0_
    have Hb0_2 := Lib.hid (Hb0_.out.below hb)
    clear Hb0_
    have Ha_2 := Lib.hid hs
    clear hs
    clear hb
    go_wp2_with fail
    refine (begin2N A2 c2 m y w2 Hb0_2.out).mono ?_
    rintro e w3 ⟨Ab, cb, rfl, hs, hb⟩
    have HB3 := Lib.hid (bnext HB2.out hb)
    have Ha0_3 := Lib.hid (Ha0_2.out.below hb)
    clear Ha0_2
    have Hb0_3 := Lib.hid (Hb0_2.out.below hb)
    clear Hb0_2
    have Ha_3 := Lib.hid (Ha_2.out.below hb)
    clear Ha_2
    have Hb_3 := Lib.hid hs
    clear hs
    clear hb
    generalize x.set 0 0 = xx at *
    generalize y.set 0 0 = yy at *
    go_wp2_with fail
    refine (expN _ _ m xx w3 Ha_3.out HZX.out).mono ?_
    rintro e w4 ⟨g1, rfl, hs, _, hb⟩
    have HB4 := Lib.hid (bnext HB3.out hb)
    have Ha_4 := Lib.hid (Ha_3.out.below hb)
    clear Ha_3
    have Hb_4 := Lib.hid (Hb_3.out.below hb)
    clear Hb_3
    have Hea_4 := Lib.hid hs
    clear hs
    clear hb
    go_wp2_with fail
    refine (expN _ _ m yy w4 Hb_4.out HZY.out).mono ?_
    rintro e w5 ⟨g2, rfl, hs, _, hb⟩
    have HB5 := Lib.hid (bnext HB4.out hb)
    have Ha_5 := Lib.hid (Ha_4.out.below hb)
    clear Ha_4
    have Hb_5 := Lib.hid (Hb_4.out.below hb)
    clear Hb_4
    have Hea_5 := Lib.hid (Hea_4.out.below hb)
    clear Hea_4
    have Heb_5 := Lib.hid hs
    clear hs
    clear hb
    go_wp2_with fail
    refine (add2N _ _ _ _ m xx yy w5 Ha_5.out Hb_5.out).mono ?_
    rintro e w6 ⟨As, cs, rfl, hs, hb⟩
    have HB6 := Lib.hid (bnext HB5.out hb)
    have Ha_6 := Lib.hid (Ha_5.out.below hb)
    clear Ha_5
    have Hb_6 := Lib.hid (Hb_5.out.below hb)
    clear Hb_5
    have Hea_6 := Lib.hid (Hea_5.out.below hb)
    clear Hea_5
    have Heb_6 := Lib.hid (Heb_5.out.below hb)
    clear Heb_5
    have Hs_6 := Lib.hid hs
    clear hs
    clear hb
    go_wp2_with fail
    refine (expN _ _ m _ w6 Hs_6.out HZS.out).mono ?_
    rintro e w7 ⟨g3, rfl, hs, _, hb⟩
    have HB7 := Lib.hid (bnext HB6.out hb)
    have Ha_7 := Lib.hid (Ha_6.out.below hb)
    clear Ha_6
    have Hb_7 := Lib.hid (Hb_6.out.below hb)
    clear Hb_6
    have Hea_7 := Lib.hid (Hea_6.out.below hb)
    clear Hea_6
    have Heb_7 := Lib.hid (Heb_6.out.below hb)
    clear Heb_6
    have Hs_7 := Lib.hid (Hs_6.out.below hb)
    clear Hs_6
    have Hboth_7 := Lib.hid hs
    clear hs
    clear hb
    go_wp2_with fail
    refine (mulN _ _ _ _ m _ _ w7 Hea_7.out Heb_7.out).mono ?_
    rintro e w8 ⟨g4, rfl, hs, _, hb⟩
    have HB8 := Lib.hid (bnext HB7.out hb)
    have Ha_8 := Lib.hid (Ha_7.out.below hb)
    clear Ha_7
    have Hb_8 := Lib.hid (Hb_7.out.below hb)
    clear Hb_7
    have Hea_8 := Lib.hid (Hea_7.out.below hb)
    clear Hea_7
    have Heb_8 := Lib.hid (Heb_7.out.below hb)
    clear Heb_7
    have Hs_8 := Lib.hid (Hs_7.out.below hb)
    clear Hs_7
    have Hboth_8 := Lib.hid (Hboth_7.out.below hb)
    clear Hboth_7
    have Hprod_8 := Lib.hid hs
    clear hs
    clear hb
    go_wp2_with fail
    refine (logN _ _ m _ w8 Hea_8.out HE0.out).mono ?_
    rintro e w9 ⟨g5, rfl, hs, _, hb⟩
    have HB9 := Lib.hid (bnext HB8.out hb)
    have Ha_9 := Lib.hid (Ha_8.out.below hb)
    clear Ha_8
    have Hb_9 := Lib.hid (Hb_8.out.below hb)
    clear Hb_8
    have Hea_9 := Lib.hid (Hea_8.out.below hb)
    clear Hea_8
    have Heb_9 := Lib.hid (Heb_8.out.below hb)
    clear Heb_8
    have Hs_9 := Lib.hid (Hs_8.out.below hb)
    clear Hs_8
    have Hboth_9 := Lib.hid (Hboth_8.out.below hb)
    clear Hboth_8
    have Hprod_9 := Lib.hid (Hprod_8.out.below hb)
    clear Hprod_8
    have Hback_9 := Lib.hid hs
    clear hs
    clear hb
    go_wp2_with fail
    refine (sameN _ _ _ _ m _ _ w9 Hprod_9.out Hboth_9.out HSUM.out).mono ?_
    rintro e w10 ⟨rfl, hb⟩
    have HB10 := Lib.hid (bnext HB9.out hb)
    have Ha_10 := Lib.hid (Ha_9.out.below hb)
    clear Ha_9
    have Hb_10 := Lib.hid (Hb_9.out.below hb)
    clear Hb_9
    have Hea_10 := Lib.hid (Hea_9.out.below hb)
    clear Hea_9
    have Heb_10 := Lib.hid (Heb_9.out.below hb)
    clear Heb_9
    have Hs_10 := Lib.hid (Hs_9.out.below hb)
    clear Hs_9
    have Hboth_10 := Lib.hid (Hboth_9.out.below hb)
    clear Hboth_9
    have Hprod_10 := Lib.hid (Hprod_9.out.below hb)
    clear Hprod_9
    have Hback_10 := Lib.hid (Hback_9.out.below hb)
    clear Hback_9
    clear hb
    go_wp2_with fail
    refine (sameN _ _ _ _ m _ _ w10 Hback_10.out Ha_10.out HLOG.out).mono ?_
    rintro e w11 ⟨rfl, hb⟩
    have HB11 := Lib.hid (bnext HB10.out hb)
    have Ha_11 := Lib.hid (Ha_10.out.below hb)
    clear Ha_10
    have Hb_11 := Lib.hid (Hb_10.out.below hb)
    clear Hb_10
    have Hea_11 := Lib.hid (Hea_10.out.below hb)
    clear Hea_10
    have Heb_11 := Lib.hid (Heb_10.out.below hb)
    clear Heb_10
    have Hs_11 := Lib.hid (Hs_10.out.below hb)
    clear Hs_10
    have Hboth_11 := Lib.hid (Hboth_10.out.below hb)
    clear Hboth_10
    have Hprod_11 := Lib.hid (Hprod_10.out.below hb)
    clear Hprod_10
    have Hback_11 := Lib.hid (Hback_10.out.below hb)
    clear Hback_10
    clear hb
    go_wp2_with fail
    refine (derivN _ _ m _ w11 Ha_11.out).mono ?_
    rintro e w12 ⟨g6, rfl, hs, _, hb⟩
    have HB12 := Lib.hid (bnext HB11.out hb)
    have Ha_12 := Lib.hid (Ha_11.out.below hb)
    clear Ha_11
    have Hb_12 := Lib.hid (Hb_11.out.below hb)
    clear Hb_11
    have Hea_12 := Lib.hid (Hea_11.out.below hb)
    clear Hea_11
    have Heb_12 := Lib.hid (Heb_11.out.below hb)
    clear Heb_11
    have Hs_12 := Lib.hid (Hs_11.out.below hb)
    clear Hs_11
    have Hboth_12 := Lib.hid (Hboth_11.out.below hb)
    clear Hboth_11
    have Hprod_12 := Lib.hid (Hprod_11.out.below hb)
    clear Hprod_11
    have Hback_12 := Lib.hid (Hback_11.out.below hb)
    clear Hback_11
    have Hda_12 := Lib.hid hs
    clear hs
    clear hb
    go_wp2_with fail
    refine (derivN _ _ m _ w12 Hea_12.out).mono ?_
    rintro e w13 ⟨g7, rfl, hs, _, hb⟩
    have HB13 := Lib.hid (bnext HB12.out hb)
    have Ha_13 := Lib.hid (Ha_12.out.below hb)
    clear Ha_12
    have Hb_13 := Lib.hid (Hb_12.out.below hb)
    clear Hb_12
    have Hea_13 := Lib.hid (Hea_12.out.below hb)
    clear Hea_12
    have Heb_13 := Lib.hid (Heb_12.out.below hb)
    clear Heb_12
    have Hs_13 := Lib.hid (Hs_12.out.below hb)
    clear Hs_12
    have Hboth_13 := Lib.hid (Hboth_12.out.below hb)
    clear Hboth_12
    have Hprod_13 := Lib.hid (Hprod_12.out.below hb)
    clear Hprod_12
    have Hback_13 := Lib.hid (Hback_12.out.below hb)
    clear Hback_12
    have Hda_13 := Lib.hid (Hda_12.out.below hb)
    clear Hda_12
    have Hde_13 := Lib.hid hs
    clear hs
    clear hb
    go_wp2_with fail
    refine (mulN _ _ _ _ m _ _ w13 Hda_13.out Hea_13.out).mono ?_
    rintro e w14 ⟨g8, rfl, hs, _, hb⟩
    have HB14 := Lib.hid (bnext HB13.out hb)
    have Ha_14 := Lib.hid (Ha_13.out.below hb)
    clear Ha_13
    have Hb_14 := Lib.hid (Hb_13.out.below hb)
    clear Hb_13
    have Hea_14 := Lib.hid (Hea_13.out.below hb)
    clear Hea_13
    have Heb_14 := Lib.hid (Heb_13.out.below hb)
    clear Heb_13
    have Hs_14 := Lib.hid (Hs_13.out.below hb)
    clear Hs_13
    have Hboth_14 := Lib.hid (Hboth_13.out.below hb)
    clear Hboth_13
    have Hprod_14 := Lib.hid (Hprod_13.out.below hb)
    clear Hprod_13
    have Hback_14 := Lib.hid (Hback_13.out.below hb)
    clear Hback_13
    have Hda_14 := Lib.hid (Hda_13.out.below hb)
    clear Hda_13
    have Hde_14 := Lib.hid (Hde_13.out.below hb)
    clear Hde_13
    have Hslope_14 := Lib.hid hs
    clear hs
    clear hb
    go_wp2_with fail
    refine (integN _ _ m _ w14 Hda_14.out).mono ?_
    rintro e w15 ⟨g9, rfl, hs, _, hb⟩
    have HB15 := Lib.hid (bnext HB14.out hb)
    have Ha_15 := Lib.hid (Ha_14.out.below hb)
    clear Ha_14
    have Hb_15 := Lib.hid (Hb_14.out.below hb)
    clear Hb_14
    have Hea_15 := Lib.hid (Hea_14.out.below hb)
    clear Hea_14
    have Heb_15 := Lib.hid (Heb_14.out.below hb)
    clear Heb_14
    have Hs_15 := Lib.hid (Hs_14.out.below hb)
    clear Hs_14
    have Hboth_15 := Lib.hid (Hboth_14.out.below hb)
    clear Hboth_14
    have Hprod_15 := Lib.hid (Hprod_14.out.below hb)
    clear Hprod_14
    have Hback_15 := Lib.hid (Hback_14.out.below hb)
    clear Hback_14
    have Hda_15 := Lib.hid (Hda_14.out.below hb)
    clear Hda_14
    have Hde_15 := Lib.hid (Hde_14.out.below hb)
    clear Hde_14
    have Hslope_15 := Lib.hid (Hslope_14.out.below hb)
    clear Hslope_14
    have Hwhole_15 := Lib.hid hs
    clear hs
    clear hb
    go_wp2_with fail
    refine (frontN _ _ m _ _ _ w15 Hde_15.out Hslope_15.out (by omega) HFR.out).mono ?_
    rintro e w16 ⟨rfl, hb⟩
    have HB16 := Lib.hid (bnext HB15.out hb)
    have Ha_16 := Lib.hid (Ha_15.out.below hb)
    clear Ha_15
    have Hb_16 := Lib.hid (Hb_15.out.below hb)
    clear Hb_15
    have Hea_16 := Lib.hid (Hea_15.out.below hb)
    clear Hea_15
    have Heb_16 := Lib.hid (Heb_15.out.below hb)
    clear Heb_15
    have Hs_16 := Lib.hid (Hs_15.out.below hb)
    clear Hs_15
    have Hboth_16 := Lib.hid (Hboth_15.out.below hb)
    clear Hboth_15
    have Hprod_16 := Lib.hid (Hprod_15.out.below hb)
    clear Hprod_15
    have Hback_16 := Lib.hid (Hback_15.out.below hb)
    clear Hback_15
    have Hda_16 := Lib.hid (Hda_15.out.below hb)
    clear Hda_15
    have Hde_16 := Lib.hid (Hde_15.out.below hb)
    clear Hde_15
    have Hslope_16 := Lib.hid (Hslope_15.out.below hb)
    clear Hslope_15
    have Hwhole_16 := Lib.hid (Hwhole_15.out.below hb)
    clear Hwhole_15
    clear hb
    go_wp2_with fail
    refine (sameN _ _ _ _ m _ _ w16 Hwhole_16.out Ha_16.out HINT.out).mono ?_
    rintro e w17 ⟨rfl, hb⟩
    have HB17 := Lib.hid (bnext HB16.out hb)
    have Ha_17 := Lib.hid (Ha_16.out.below hb)
    clear Ha_16
    have Hb_17 := Lib.hid (Hb_16.out.below hb)
    clear Hb_16
    have Hea_17 := Lib.hid (Hea_16.out.below hb)
    clear Hea_16
    have Heb_17 := Lib.hid (Heb_16.out.below hb)
    clear Heb_16
    have Hs_17 := Lib.hid (Hs_16.out.below hb)
    clear Hs_16
    have Hboth_17 := Lib.hid (Hboth_16.out.below hb)
    clear Hboth_16
    have Hprod_17 := Lib.hid (Hprod_16.out.below hb)
    clear Hprod_16
    have Hback_17 := Lib.hid (Hback_16.out.below hb)
    clear Hback_16
    have Hda_17 := Lib.hid (Hda_16.out.below hb)
    clear Hda_16
    have Hde_17 := Lib.hid (Hde_16.out.below hb)
    clear Hde_16
    have Hslope_17 := Lib.hid (Hslope_16.out.below hb)
    clear Hslope_16
    have Hwhole_17 := Lib.hid (Hwhole_16.out.below hb)
    clear Hwhole_16
    clear hb
    go_wp2
    go_ret
    exact ⟨rfl, HB17.out⟩
  · have HL := Lib.hid hL; clear hL
    go_enter Try.func6, Try.ntmps6
    go_wp2_with fail
    refine (long_any A A' n n' cap cap' w hn hn').mono ?_; rintro e w' ⟨rfl, rfl⟩
    rw [HL.out]
    go_wp2_with fail
    go_ret
    exact ⟨rfl, Below.refl _ _⟩

end Go.Proofs.Ytbgjbppjnmolfaa
