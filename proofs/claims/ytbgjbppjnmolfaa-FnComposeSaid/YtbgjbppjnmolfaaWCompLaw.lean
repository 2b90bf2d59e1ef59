/- The walk of the law FnCompose. -/
import Derived.Test.YtbgjbppjnmolfaaWExpLaw
import Derived.Test.YtbgjbppjnmolfaaWRev
namespace Go.Proofs.Ytbgjbppjnmolfaa
open Go.RowKit Plain

set_option maxRecDepth 100000 in
set_option maxHeartbeats 4000000 in
theorem lawCompose (A : Option Addr) (cap n : Nat) (A' : Option Addr) (cap' n' : Nat) (w : World) (hA : Byt w A n) (hn : n ≤ 9223372036854775807) (_hA' : Byt w A' n') (hn' : n' ≤ 9223372036854775807) :
    Calls Try.prog 5 #[.slice A n cap, .slice A' n' cap'] w fun e w' => e = .returned (.bool true) ∧ Below w.heap.size w w' := by
  cases hL : (decide (3000 < n) || decide (3000 < n'))
  · have hn3 : n ≤ 4611686018427387904 := by simp at hL; omega
    have HL := Lib.hid hL; clear hL
    go_enter Try.func5, Try.ntmps5
    go_wp2_with fail
    refine (long_any A A' n n' cap cap' w hn hn').mono ?_; rintro e w' ⟨rfl, rfl⟩
    rw [HL.out]
    go_wp2_with fail
    refine (series3_any A n cap w hA hn3).mono ?_
    rintro e w1 ⟨m, x, y, z, A1, A2, A3, c1, c2, c3, rfl, m1, m13, la, lb, lc, ia, ib, ic, ha, hb', hc, hb⟩
    have Ha0_ : Hid (Ser w1 A1 m x) := ⟨ha, la, serB_of (by omega) (by omega) ia⟩
    have Hb0_ : Hid (Ser w1 A2 m y) := ⟨hb', lb, serB_of (by omega) (by omega) ib⟩
    have Hc0_ : Hid (Ser w1 A3 m z) := ⟨hc, lc, serB_of (by omega) (by omega) ic⟩
    have HB1 := Lib.hid hb
    clear ha hb' hc hb
    have hly : (y.set 0 0).length = m := by simpa using lb
    have hlz : (z.set 0 0).length = m := by simpa using lc
    have hiy := isS_set0 ib
    have hzy := cf_set0 y
    have hzz := cf_set0 z
    have HZY := Lib.hid hzy
    have HZZ := Lib.hid hzz
    have HZBC := Lib.hid (comp_first (a := y.set 0 0) (b := z.set 0 0) (by omega) hzy hzz)
    have HASS := Lib.hid (compL_assoc (a := x) (b := y.set 0 0) (c := z.set 0 0) (by omega) (by omega) (by omega) hzz)
    have HCH : Hid (∀ k, k + 1 < m → cf (dvL (compL x (y.set 0 0))) k = cf (mulL (compL (dvL x) (y.set 0 0)) (dvL (y.set 0 0))) k) := fun k hk => compL_chain (by omega) hzy (by omega)
    have HRR : Hid (2 ≤ m → cf (y.set 0 0) 1 ≠ 0 → compL (y.set 0 0) (revL (y.set 0 0)) = ttL m ∧ compL (revL (y.set 0 0)) (y.set 0 0) = ttL m ∧ cf (revL (y.set 0 0)) 0 = 0) := fun h2 h1 => by
      have e1 := rev_compL (a := y.set 0 0) (by omega) hiy hzy h1
      have e2 := rev_left (a := y.set 0 0) (by omega) hiy hzy h1
      rw [hly] at e1 e2
      refine ⟨e1, e2, ?_⟩
      unfold revL
      rw [cf_mk (by omega), revF_zero]
    have hm1 : (1 : Int) ≤ (m : Int) := by omega
    clear ia ib ic la lb lc hiy hzy hzz
    go_wp2_with fail
    refine (begin2N A2 c2 m y w1 Hb0_.out).mono ?_
    rintro e w2 ⟨Ab, cb, rfl, hs, hb⟩
    have HB2 := Lib.hid (bnext HB1.out hb)
    have Ha0_2 := Lib.hid (Ha0_.out.below hb)
    clear Ha0_
    have Hb0_2 := Lib.hid (Hb0_.out.below hb)
    clear Hb0_
    have Hc0_2 := Lib.hid (Hc0_.out.below hb)
    clear Hc0_
    have Hb_2 := Lib.hid hs
    clear hs
    clear hb
    go_wp2_with fail
    refine (begin2N A3 c3 m z w2 Hc0_2.out).mono ?_
    rintro e w3 ⟨Ac, cc, rfl, hs, hb⟩
    have HB3 := Lib.hid (bnext HB2.out hb)
    have Ha0_3 := Lib.hid (Ha0_2.out.below hb)
    clear Ha0_2
    have Hb0_3 := Lib.hid (Hb0_2.out.below hb)
    clear Hb0_2
    have Hc0_3 := Lib.hid (Hc0_2.out.below hb)
    clear Hc0_2
    have Hb_3 := Lib.hid (Hb_2.out.below hb)
    clear Hb_2
    have Hc_3 := Lib.hid hs
    clear hs
    clear hb
    generalize y.set 0 0 = yy at *
    generalize z.set 0 0 = zz at *
    go_wp2_with fail
    refine (compN _ _ _ _ m x yy w3 Ha0_3.out Hb_3.out HZY.out).mono ?_
    rintro e w4 ⟨g1, rfl, hs, _, hb⟩
    have HB4 := Lib.hid (bnext HB3.out hb)
    have Ha0_4 := Lib.hid (Ha0_3.out.below hb)
    clear Ha0_3
    have Hb_4 := Lib.hid (Hb_3.out.below hb)
    clear Hb_3
    have Hc_4 := Lib.hid (Hc_3.out.below hb)
    clear Hc_3
    have Hab_4 := Lib.hid hs
    clear hs
    clear hb
    go_wp2_with fail
    refine (compN _ _ _ _ m yy zz w4 Hb_4.out Hc_4.out HZZ.out).mono ?_
    rintro e w5 ⟨g2, rfl, hs, _, hb⟩
    have HB5 := Lib.hid (bnext HB4.out hb)
    have Ha0_5 := Lib.hid (Ha0_4.out.below hb)
    clear Ha0_4
    have Hb_5 := Lib.hid (Hb_4.out.below hb)
    clear Hb_4
    have Hc_5 := Lib.hid (Hc_4.out.below hb)
    clear Hc_4
    have Hab_5 := Lib.hid (Hab_4.out.below hb)
    clear Hab_4
    have Hbc_5 := Lib.hid hs
    clear hs
    clear hb
    go_wp2_with fail
    refine (compN _ _ _ _ m _ zz w5 Hab_5.out Hc_5.out HZZ.out).mono ?_
    rintro e w6 ⟨g3, rfl, hs, _, hb⟩
    have HB6 := Lib.hid (bnext HB5.out hb)
    have Ha0_6 := Lib.hid (Ha0_5.out.below hb)
    clear Ha0_5
    have Hb_6 := Lib.hid (Hb_5.out.below hb)
    clear Hb_5
    have Hc_6 := Lib.hid (Hc_5.out.below hb)
    clear Hc_5
    have Hab_6 := Lib.hid (Hab_5.out.below hb)
    clear Hab_5
    have Hbc_6 := Lib.hid (Hbc_5.out.below hb)
    clear Hbc_5
    have Hleft_6 := Lib.hid hs
    clear hs
    clear hb
    go_wp2_with fail
    refine (compN _ _ _ _ m x _ w6 Ha0_6.out Hbc_6.out HZBC.out).mono ?_
    rintro e w7 ⟨g4, rfl, hs, _, hb⟩
    have HB7 := Lib.hid (bnext HB6.out hb)
    have Ha0_7 := Lib.hid (Ha0_6.out.below hb)
    clear Ha0_6
    have Hb_7 := Lib.hid (Hb_6.out.below hb)
    clear Hb_6
    have Hc_7 := Lib.hid (Hc_6.out.below hb)
    clear Hc_6
    have Hab_7 := Lib.hid (Hab_6.out.below hb)
    clear Hab_6
    have Hbc_7 := Lib.hid (Hbc_6.out.below hb)
    clear Hbc_6
    have Hleft_7 := Lib.hid (Hleft_6.out.below hb)
    clear Hleft_6
    have Hright_7 := Lib.hid hs
    clear hs
    clear hb
    go_wp2_with fail
    refine (sameN _ _ _ _ m _ _ w7 Hleft_7.out Hright_7.out HASS.out).mono ?_
    rintro e w8 ⟨rfl, hb⟩
    have HB8 := Lib.hid (bnext HB7.out hb)
    have Ha0_8 := Lib.hid (Ha0_7.out.below hb)
    clear Ha0_7
    have Hb_8 := Lib.hid (Hb_7.out.below hb)
    clear Hb_7
    have Hc_8 := Lib.hid (Hc_7.out.below hb)
    clear Hc_7
    have Hab_8 := Lib.hid (Hab_7.out.below hb)
    clear Hab_7
    have Hbc_8 := Lib.hid (Hbc_7.out.below hb)
    clear Hbc_7
    have Hleft_8 := Lib.hid (Hleft_7.out.below hb)
    clear Hleft_7
    have Hright_8 := Lib.hid (Hright_7.out.below hb)
    clear Hright_7
    clear hb
    go_wp2_with fail
    refine (derivN _ _ m x w8 Ha0_8.out).mono ?_
    rintro e w9 ⟨g5, rfl, hs, _, hb⟩
    have HB9 := Lib.hid (bnext HB8.out hb)
    have Ha0_9 := Lib.hid (Ha0_8.out.below hb)
    clear Ha0_8
    have Hb_9 := Lib.hid (Hb_8.out.below hb)
    clear Hb_8
    have Hab_9 := Lib.hid (Hab_8.out.below hb)
    clear Hab_8
    have Hda_9 := Lib.hid hs
    clear hs
    clear hb
    go_wp2_with fail
    refine (derivN _ _ m yy w9 Hb_9.out).mono ?_
    rintro e w10 ⟨g6, rfl, hs, _, hb⟩
    have HB10 := Lib.hid (bnext HB9.out hb)
    have Ha0_10 := Lib.hid (Ha0_9.out.below hb)
    clear Ha0_9
    have Hb_10 := Lib.hid (Hb_9.out.below hb)
    clear Hb_9
    have Hab_10 := Lib.hid (Hab_9.out.below hb)
    clear Hab_9
    have Hda_10 := Lib.hid (Hda_9.out.below hb)
    clear Hda_9
    have Hdb_10 := Lib.hid hs
    clear hs
    clear hb
    go_wp2_with fail
    refine (derivN _ _ m _ w10 Hab_10.out).mono ?_
    rintro e w11 ⟨g7, rfl, hs, _, hb⟩
    have HB11 := Lib.hid (bnext HB10.out hb)
    have Ha0_11 := Lib.hid (Ha0_10.out.below hb)
    clear Ha0_10
    have Hb_11 := Lib.hid (Hb_10.out.below hb)
    clear Hb_10
    have Hab_11 := Lib.hid (Hab_10.out.below hb)
    clear Hab_10
    have Hda_11 := Lib.hid (Hda_10.out.below hb)
    clear Hda_10
    have Hdb_11 := Lib.hid (Hdb_10.out.below hb)
    clear Hdb_10
    have Hdab_11 := Lib.hid hs
    clear hs
    clear hb
    go_wp2_with fail
    refine (compN _ _ _ _ m _ yy w11 Hda_11.out Hb_11.out HZY.out).mono ?_
    rintro e w12 ⟨g8, rfl, hs, _, hb⟩
    have HB12 := Lib.hid (bnext HB11.out hb)
    have Ha0_12 := Lib.hid (Ha0_11.out.below hb)
    clear Ha0_11
    have Hb_12 := Lib.hid (Hb_11.out.below hb)
    clear Hb_11
    have Hab_12 := Lib.hid (Hab_11.out.below hb)
    clear Hab_11
    have Hda_12 := Lib.hid (Hda_11.out.below hb)
    clear Hda_11
    have Hdb_12 := Lib.hid (Hdb_11.out.below hb)
    clear Hdb_11
    have Hdab_12 := Lib.hid (Hdab_11.out.below hb)
    clear Hdab_11
    have Hinner_12 := Lib.hid hs
    clear hs
    clear hb
    go_wp2_with fail
    refine (mulN _ _ _ _ m _ _ w12 Hinner_12.out Hdb_12.out).mono ?_
    rintro e w13 ⟨g9, rfl, hs, _, hb⟩
    have HB13 := Lib.hid (bnext HB12.out hb)
    have Ha0_13 := Lib.hid (Ha0_12.out.below hb)
    clear Ha0_12
    have Hb_13 := Lib.hid (Hb_12.out.below hb)
    clear Hb_12
    have Hab_13 := Lib.hid (Hab_12.out.below hb)
    clear Hab_12
    have Hda_13 := Lib.hid (Hda_12.out.below hb)
    clear Hda_12
    have Hdb_13 := Lib.hid (Hdb_12.out.below hb)
    clear Hdb_12
    have Hdab_13 := Lib.hid (Hdab_12.out.below hb)
    clear Hdab_12
    have Hinner_13 := Lib.hid (Hinner_12.out.below hb)
    clear Hinner_12
    have Hchain_13 := Lib.hid hs
    clear hs
    clear hb
    go_wp2_with fail
    refine (frontN _ _ m _ _ _ w13 Hdab_13.out Hchain_13.out (by omega) HCH.out).mono ?_
    rintro e w14 ⟨rfl, hb⟩
    have HB14 := Lib.hid (bnext HB13.out hb)
    have Ha0_14 := Lib.hid (Ha0_13.out.below hb)
    clear Ha0_13
    have Hb_14 := Lib.hid (Hb_13.out.below hb)
    clear Hb_13
    have Hab_14 := Lib.hid (Hab_13.out.below hb)
    clear Hab_13
    have Hda_14 := Lib.hid (Hda_13.out.below hb)
    clear Hda_13
    have Hdb_14 := Lib.hid (Hdb_13.out.below hb)
    clear Hdb_13
    have Hdab_14 := Lib.hid (Hdab_13.out.below hb)
    clear Hdab_13
    have Hinner_14 := Lib.hid (Hinner_13.out.below hb)
    clear Hinner_13
    have Hchain_14 := Lib.hid (Hchain_13.out.below hb)
    clear Hchain_13
    clear hb
    by_cases hm : m = 1
    · subst hm
      go_wp2_with fail
      refine (revN1 _ _ yy w14 Hb_14.out).mono ?_
      rintro e w' ⟨rfl, rfl⟩
      go_wp2
      go_ret
      exact ⟨rfl, HB14.out⟩
    · have h2 : 2 ≤ m := by omega
      have hd1 : ((m : Int) == 1) = false := by simp; omega
      have hm2 : (1 : Int) < (m : Int) := by omega
      obtain ⟨bb, oo, hAb, hbl, q0, q1⟩ := Hb_14.out.second h2
      subst hAb
      by_cases hz1 : cf yy 1 = 0
      · have HZ1 := Lib.hid hz1
        rw [hz1] at q1
        clear hz1
        go_wp2_with fail
        refine (revN0 _ _ m yy w14 Hb_14.out h2 HZY.out HZ1.out).mono ?_
        rintro e w' ⟨rfl, rfl⟩
        go_wp2
        go_ret
        exact ⟨rfl, HB14.out⟩
      · have hd2 : (cf yy 1 == 0) = false := by simpa using hz1
        obtain ⟨e1, e2, e3⟩ := HRR.out h2 hz1
        have HE1 := Lib.hid e1
        have HE2 := Lib.hid e2
        have HE3 := Lib.hid e3
        have HZ1 := Lib.hid hz1
        clear e1 e2 e3 hz1
        go_wp2_with fail
        refine (revN _ _ m yy w14 Hb_14.out h2 HZY.out HZ1.out).mono ?_
        rintro e w15 ⟨g10, rfl, hs, _, hb⟩
        have HB15 := Lib.hid (bnext HB14.out hb)
        have Hb_15 := Lib.hid (Hb_14.out.below hb)
        clear Hb_14
        have Hr_15 := Lib.hid hs
        clear hs
        have BB := hb; clear hb
        have q2 := (World.cell?_of_block (w := w14) (w' := w15) (a := ⟨bb, oo + 1, none⟩) (BB.block bb hbl)).trans q1
        clear q0 q1 BB
        go_wp2_with fail
        refine (compN _ _ _ _ m yy _ w15 Hb_15.out Hr_15.out HE3.out).mono ?_
        rintro e w16 ⟨g11, rfl, hs, _, hb⟩
        have HB16 := Lib.hid (bnext HB15.out hb)
        have Hb_16 := Lib.hid (Hb_15.out.below hb)
        clear Hb_15
        have Hr_16 := Lib.hid (Hr_15.out.below hb)
        clear Hr_15
        have Hx_16 := Lib.hid hs
        clear hs
        clear hb
        go_wp2_with fail
        refine (compN _ _ _ _ m _ yy w16 Hr_16.out Hb_16.out HZY.out).mono ?_
        rintro e w17 ⟨g12, rfl, hs, _, hb⟩
        have HB17 := Lib.hid (bnext HB16.out hb)
        have Hb_17 := Lib.hid (Hb_16.out.below hb)
        clear Hb_16
        have Hr_17 := Lib.hid (Hr_16.out.below hb)
        clear Hr_16
        have Hx_17 := Lib.hid (Hx_16.out.below hb)
        clear Hx_16
        have Hy_17 := Lib.hid hs
        clear hs
        clear hb
        go_wp2_with fail
        refine (unitN m w17 (by omega) (by omega)).mono ?_
        rintro e w18 ⟨At, ct, rfl, hs, hb⟩
        have HB18 := Lib.hid (bnext HB17.out hb)
        have Hb_18 := Lib.hid (Hb_17.out.below hb)
        clear Hb_17
        have Hr_18 := Lib.hid (Hr_17.out.below hb)
        clear Hr_17
        have Hx_18 := Lib.hid (Hx_17.out.below hb)
        clear Hx_17
        have Hy_18 := Lib.hid (Hy_17.out.below hb)
        clear Hy_17
        have Ht_18 := Lib.hid hs
        clear hs
        clear hb
        go_wp2_with fail
        refine (sameN _ _ _ _ m _ _ w18 Hx_18.out Ht_18.out HE1.out).mono ?_
        rintro e w19 ⟨rfl, hb⟩
        have HB19 := Lib.hid (bnext HB18.out hb)
        have Hb_19 := Lib.hid (Hb_18.out.below hb)
        clear Hb_18
        have Hr_19 := Lib.hid (Hr_18.out.below hb)
        clear Hr_18
        have Hx_19 := Lib.hid (Hx_18.out.below hb)
        clear Hx_18
        have Hy_19 := Lib.hid (Hy_18.out.below hb)
        clear Hy_18
        have Ht_19 := Lib.hid (Ht_18.out.below hb)
        clear Ht_18
        clear hb
        go_wp2_with fail
        refine (sameN _ _ _ _ m _ _ w19 Hy_19.out Ht_19.out HE2.out).mono ?_
        rintro e w20 ⟨rfl, hb⟩
        have HB20 := Lib.hid (bnext HB19.out hb)
        have Hb_20 := Lib.hid (Hb_19.out.below hb)
        clear Hb_19
        have Hr_20 := Lib.hid (Hr_19.out.below hb)
        clear Hr_19
        have Hx_20 := Lib.hid (Hx_19.out.below hb)
        clear Hx_19
        have Hy_20 := Lib.hid (Hy_19.out.below hb)
        clear Hy_19
        have Ht_20 := Lib.hid (Ht_19.out.below hb)
        clear Ht_19
        clear hb
        go_wp2
        go_ret
        exact ⟨rfl, HB20.out⟩
  · have HL := Lib.hid hL; clear hL
    go_enter Try.func5, Try.ntmps5
    go_wp2_with fail
    refine (long_any A A' n n' cap cap' w hn hn').mono ?_; rintro e w' ⟨rfl, rfl⟩
    rw [HL.out]
    go_wp2_with fail
    go_ret
    exact ⟨rfl, Below.refl _ _⟩

end Go.Proofs.Ytbgjbppjnmolfaa
