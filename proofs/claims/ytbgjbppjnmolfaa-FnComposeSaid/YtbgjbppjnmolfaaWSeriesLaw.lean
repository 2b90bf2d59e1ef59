/- The walk of the law FnSeries. -/
import Derived.Test.YtbgjbppjnmolfaaWDraw
import Derived.Test.YtbgjbppjnmolfaaPSeriesLaw
namespace Go.Proofs.Ytbgjbppjnmolfaa
open Go.RowKit Plain

/-- a series of order n - 1 in memory -/
structure Ser (w : World) (A : Option Addr) (n : Nat) (zs : List Int) : Prop where
  ints : Ints w A zs
  len : zs.length = n
  ok : serB zs = true
theorem Ser.below {w w' : World} {A : Option Addr} {n : Nat} {zs : List Int} (h : Ser w A n zs) (hb : Below w.heap.size w w') : Ser w' A n zs := ⟨h.ints.below hb, h.len, h.ok⟩
/-- what an operation of series comes to -/
def OpPost (n : Nat) (zs : List Int) (code : Int) (w : World) (e : Ending) (w' : World) : Prop :=
  ∃ g, e = .returned (.tuple #[.slice (some ⟨g, 0, none⟩) n n, .int .i64 code]) ∧ Ser w' (some ⟨g, 0, none⟩) n zs ∧ IntsM w' w.heap.size (some ⟨g, 0, none⟩) zs ∧ Below w.heap.size w w'
theorem OpPost.of {n : Nat} {zs : List Int} {code : Int} {w : World} {e : Ending} {w' : World} (h : SerPost2 zs code w e w') (hl : zs.length = n) (hz : IsS zs) (h0 : 0 < n) (h13 : n ≤ 13) : OpPost n zs code w e w' := by
  obtain ⟨g, he, hm, hb⟩ := h
  exact ⟨g, by rw [he, hl], ⟨hm.ints, hl, serB_of (by omega) (by omega) hz⟩, hm, hb⟩

theorem Ser.bd {w : World} {A : Option Addr} {n : Nat} {zs : List Int} (h : Ser w A n zs) : 0 < n ∧ n ≤ 13 := by
  have := serB_isS h.ok; have := h.len; omega
theorem addN (A B : Option Addr) (cap cap' n : Nat) (a b : List Int) (w : World) (hA : Ser w A n a) (hB : Ser w B n b) :
    Calls Try.prog 15 #[.slice A n cap, .slice B n cap'] w (OpPost n (addL a b) 0 w) := by
  have h := addSeries_yes A B cap cap' a b w hA.ints hB.ints (by rw [hA.len, hB.len]) hA.ok hB.ok
  rw [hA.len, hB.len] at h
  exact h.mono fun _ _ h => OpPost.of h (by rw [addL_length, hA.len]) (isS_add a b) hA.bd.1 hA.bd.2
theorem mulN (A B : Option Addr) (cap cap' n : Nat) (a b : List Int) (w : World) (hA : Ser w A n a) (hB : Ser w B n b) :
    Calls Try.prog 16 #[.slice A n cap, .slice B n cap'] w (OpPost n (mulL a b) 0 w) := by
  have h := mulSeries_yes A B cap cap' a b w hA.ints hB.ints (by rw [hA.len, hB.len]) hA.ok hB.ok
  rw [hA.len, hB.len] at h
  exact h.mono fun _ _ h => OpPost.of h (by rw [mulL_length, hA.len]) (isS_mul a b) hA.bd.1 hA.bd.2
theorem divN (A B : Option Addr) (cap cap' n : Nat) (a b : List Int) (w : World) (hA : Ser w A n a) (hB : Ser w B n b) (h0 : cf b 0 ≠ 0) :
    Calls Try.prog 18 #[.slice A n cap, .slice B n cap'] w (OpPost n (divL a b) 0 w) := by
  have h := divSeries_yes A B cap cap' a b w hA.ints hB.ints (by rw [hA.len, hB.len]) hA.ok hB.ok h0
  rw [hA.len, hB.len] at h
  exact h.mono fun _ _ h => OpPost.of h (by rw [divL_length, hA.len]) (isS_div a b) hA.bd.1 hA.bd.2
theorem divN0 (A B : Option Addr) (cap cap' n : Nat) (a b : List Int) (w : World) (hA : Ser w A n a) (hB : Ser w B n b) (h0 : cf b 0 = 0) :
    Calls Try.prog 18 #[.slice A n cap, .slice B n cap'] w fun e w' => e = .returned (.tuple #[.slice none 0 0, .int .i64 6]) ∧ w = w' := by
  have h := divSeries_no A B cap cap' a b w hA.ints hB.ints (by rw [hA.len, hB.len]) hA.ok hB.ok h0
  rw [hA.len, hB.len] at h
  exact h
theorem sameN (A B : Option Addr) (cap cap' n : Nat) (a b : List Int) (w : World) (hA : Ser w A n a) (hB : Ser w B n b) (he : a = b) :
    Calls Try.prog 17 #[.slice A n cap, .slice B n cap'] w fun e w' => e = .returned (.bool true) ∧ Below w.heap.size w w' := by
  subst he
  have hl := hA.bd
  have h := same_any A B cap cap' a w hA.ints hB.ints (by rw [hA.len]; omega)
  rw [hA.len] at h
  exact h.mono fun _ _ ⟨h1, h2⟩ => ⟨h1, h2.below _⟩
theorem Ser.first {w : World} {A : Option Addr} {n : Nat} {zs : List Int} (h : Ser w A n zs) : ∃ b o, A = some ⟨b, o, none⟩ ∧ b < w.heap.size ∧ w.cell? ⟨b, o, none⟩ = some (.int .i64 (cf zs 0)) := by
  obtain ⟨b, o, e, hl, hc⟩ := h.ints.cfAt (by have := h.bd; have := h.len; omega)
  exact ⟨b, o, e, hl, by have := hc 0 (by have := h.bd; have := h.len; omega); simpa using this⟩

set_option maxRecDepth 100000 in
set_option maxHeartbeats 2000000 in
theorem lawSeries (A : Option Addr) (cap n : Nat) (A' : Option Addr) (cap' n' : Nat) (w : World) (hA : Byt w A n) (hn : n ≤ 9223372036854775807) (_hA' : Byt w A' n') (hn' : n' ≤ 9223372036854775807) :
    Calls Try.prog 4 #[.slice A n cap, .slice A' n' cap'] w fun e w' => e = .returned (.bool true) ∧ Below w.heap.size w w' := by
  cases hL : (decide (3000 < n) || decide (3000 < n'))
  · have hn3 : n ≤ 4611686018427387904 := by simp at hL; omega
    have HL := Lib.hid hL; clear hL
    go_enter Try.func4, Try.ntmps4
    go_wp2_with fail
    refine (long_any A A' n n' cap cap' w hn hn').mono ?_; rintro e w' ⟨rfl, rfl⟩
    rw [HL.out]
    go_wp2_with fail
    refine (series3_any A n cap w hA hn3).mono ?_
    rintro e w1 ⟨m, a, b, c, A1, A2, A3, c1, c2, c3, rfl, m1, m13, la, lb, lc, ia, ib, ic, ha, hb, hc, hb1⟩
    have Ha1 : Hid (Ser w1 A1 m a) := ⟨ha, la, serB_of (by omega) (by omega) ia⟩
    have Hb1 : Hid (Ser w1 A2 m b) := ⟨hb, lb, serB_of (by omega) (by omega) ib⟩
    have Hc1 : Hid (Ser w1 A3 m c) := ⟨hc, lc, serB_of (by omega) (by omega) ic⟩
    have HB1 := Lib.hid hb1
    have HD := Lib.hid (ring_dist (a := a) (b := b) (c := c) (by omega) (by omega))
    have HV := Lib.hid (fun h0 => div_mul (a := a) (b := b) ia ib (by omega) h0)
    clear ha hb hc la lb lc ia ib ic hb1
    go_wp2_with fail
    refine (addN A2 A3 c2 c3 m b c w1 Hb1.out Hc1.out).mono ?_
    rintro e w2 ⟨g1, rfl, hs, _, hb2⟩
    have HS1 := Lib.hid hs
    have HB2 := Lib.hid (bnext HB1.out hb2)
    have Ha2 := Lib.hid (Ha1.out.below hb2)
    have Hb2 := Lib.hid (Hb1.out.below hb2)
    have Hc2 := Lib.hid (Hc1.out.below hb2)
    clear hs hb2
    go_wp2_with fail
    refine (mulN A1 _ c1 _ m a _ w2 Ha2.out HS1.out).mono ?_
    rintro e w3 ⟨g2, rfl, hs, _, hb3⟩
    have HS2 := Lib.hid hs
    have HB3 := Lib.hid (bnext HB2.out hb3)
    have Ha3 := Lib.hid (Ha2.out.below hb3)
    have Hb3 := Lib.hid (Hb2.out.below hb3)
    have Hc3 := Lib.hid (Hc2.out.below hb3)
    clear hs hb3
    go_wp2_with fail
    refine (mulN A1 A2 c1 c2 m a b w3 Ha3.out Hb3.out).mono ?_
    rintro e w4 ⟨g3, rfl, hs, _, hb4⟩
    have HS3 := Lib.hid hs
    have HB4 := Lib.hid (bnext HB3.out hb4)
    have Ha4 := Lib.hid (Ha3.out.below hb4)
    have Hb4 := Lib.hid (Hb3.out.below hb4)
    have Hc4 := Lib.hid (Hc3.out.below hb4)
    have HS24 := Lib.hid (HS2.out.below hb4)
    clear hs hb4
    go_wp2_with fail
    refine (mulN A3 A1 c3 c1 m c a w4 Hc4.out Ha4.out).mono ?_
    rintro e w5 ⟨g4, rfl, hs, _, hb5⟩
    have HS4 := Lib.hid hs
    have HB5 := Lib.hid (bnext HB4.out hb5)
    have Ha5 := Lib.hid (Ha4.out.below hb5)
    have Hb5 := Lib.hid (Hb4.out.below hb5)
    have HS25 := Lib.hid (HS24.out.below hb5)
    have HS35 := Lib.hid (HS3.out.below hb5)
    clear hs hb5
    go_wp2_with fail
    refine (addN _ _ _ _ m _ _ w5 HS4.out HS35.out).mono ?_
    rintro e w6 ⟨g5, rfl, hs, _, hb6⟩
    have HS5 := Lib.hid hs
    have HB6 := Lib.hid (bnext HB5.out hb6)
    have Ha6 := Lib.hid (Ha5.out.below hb6)
    have Hb6 := Lib.hid (Hb5.out.below hb6)
    have HS26 := Lib.hid (HS25.out.below hb6)
    clear hs hb6
    go_wp2_with fail
    refine (sameN _ _ _ _ m _ _ w6 HS26.out HS5.out HD.out).mono ?_
    rintro e w7 ⟨rfl, hb7⟩
    have HB7 := Lib.hid (bnext HB6.out hb7)
    have Ha7 := Lib.hid (Ha6.out.below hb7)
    have Hb7 := Lib.hid (Hb6.out.below hb7)
    clear hb7
    by_cases h0 : cf b 0 = 0
    · have H0 := Lib.hid h0
      obtain ⟨bb, oo, rfl, hbl, g0⟩ := Hb7.out.first
      rw [h0] at g0
      have hm0 : (0 : Int) < (m : Int) := by omega
      clear h0
      go_wp2_with fail
      refine (divN0 A1 _ c1 c2 m a b w7 Ha7.out Hb7.out H0.out).mono ?_
      rintro e w8 ⟨rfl, rfl⟩
      go_wp2
      go_ret
      exact ⟨rfl, HB7.out⟩
    · have HVV := Lib.hid (HV.out h0)
      have H0 := Lib.hid h0
      go_wp2_with fail
      refine (divN A1 A2 c1 c2 m a b w7 Ha7.out Hb7.out H0.out).mono ?_
      rintro e w8 ⟨g6, rfl, hs, _, hb8⟩
      have HS6 := Lib.hid hs
      have HB8 := Lib.hid (bnext HB7.out hb8)
      have Ha8 := Lib.hid (Ha7.out.below hb8)
      have Hb8 := Lib.hid (Hb7.out.below hb8)
      clear hs hb8
      obtain ⟨bb, oo, rfl, hbl, g0⟩ := Hb8.out.first
      have hz : (cf b 0 == 0) = false := by simpa using h0
      have hm0 : (0 : Int) < (m : Int) := by omega
      clear h0
      go_wp2_with fail
      refine (mulN _ _ _ _ m _ b w8 HS6.out Hb8.out).mono ?_
      rintro e w9 ⟨g7, rfl, hs, _, hb9⟩
      have HS7 := Lib.hid hs
      have HB9 := Lib.hid (bnext HB8.out hb9)
      have Ha9 := Lib.hid (Ha8.out.below hb9)
      clear hs hb9 g0
      go_wp2_with fail
      refine (sameN _ _ _ _ m _ _ w9 HS7.out Ha9.out HVV.out).mono ?_
      rintro e w10 ⟨rfl, hb10⟩
      go_wp2
      go_ret
      exact ⟨rfl, bnext HB9.out hb10⟩
  · have HL := Lib.hid hL; clear hL
    go_enter Try.func4, Try.ntmps4
    go_wp2_with fail
    refine (long_any A A' n n' cap cap' w hn hn').mono ?_; rintro e w' ⟨rfl, rfl⟩
    rw [HL.out]
    go_wp2_with fail
    go_ret
    exact ⟨rfl, Below.refl _ _⟩

end Go.Proofs.Ytbgjbppjnmolfaa
