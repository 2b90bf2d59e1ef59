/- The walk of the law FnRing. -/
import Derived.Test.YtbgjbppjnmolfaaWSrc2
namespace Go.Proofs.Ytbgjbppjnmolfaa
open Go.RowKit Plain

theorem someInts_new (w : World) (t : TypeId) (zs : List Int) : SomeInts (w.alloc (intsObj t zs)) (some ⟨w.heap.size, 0, none⟩) zs.length := by
  have hb : (w.alloc (intsObj t zs)).heap[w.heap.size]? = some (intsObj t zs) := heap_alloc_new w _
  refine ⟨_, _, rfl, by simp, fun j hj => ⟨zs[j], ?_⟩⟩
  rw [cell_of_row _ _ _ _ _ _ hb]
  simp [hj]

set_option maxHeartbeats 1000000 in
theorem raw_any (p B : Nat) (w : World) (h : Src w p B) (hB : B ≤ 2000000000000000000) :
    Calls Try.prog 30 #[.pointer (some ⟨p, 0, none⟩)] w fun e w' => ∃ x : Int, e = .returned (.int .i64 x) ∧ Src w' p (B + 18) ∧ Only (fun q => q = p) w w' := by
  have H := Lib.hid h; clear h
  go_enter Try.func30, Try.ntmps30
  go_wp2_with fail
  refine (pick_any p B 5 w H.out (by omega)).mono ?_
  rintro e w1 ⟨x, rfl, ⟨x0, _, x1⟩, hs, ho⟩
  have HS := Lib.hid hs
  have HO := Lib.hid ho
  have x5 := x1 (by omega)
  clear hs ho x1
  by_cases e0 : x = 0
  · subst e0
    have hb : Below w1.heap.size w1 (w1.alloc (intsObj 2 [-9223372036854775808, 9223372036854775807, 1000003, -1000003, 1000006000009, -1, 0])) := by go_grown
    have HSB := Lib.hid (HS.out.below hb)
    have HOB := Lib.hid (HO.out.trans (Only.of_below hb))
    have HSI := Lib.hid (someInts_new w1 2 [-9223372036854775808, 9223372036854775807, 1000003, -1000003, 1000006000009, -1, 0])
    have hpl := HS.out.lt
    clear hb
    go_wp2_with fail
    refine (among_any p (B + 2) _ 7 7 _ HSB.out (by omega) (by omega) (by omega) HSI.out (by rintro o e; injection e with e; injection e with e; omega)).mono ?_
    rintro e w2 ⟨y, rfl, _, hs, ho⟩
    have HS2 := Lib.hid hs
    have HO2 := Lib.hid (HOB.out.trans ho)
    clear hs ho
    go_wp2
    go_ret
    exact ⟨_, rfl, HS2.out.mono (by omega), HO2.out⟩
  · have b0 : (x == 0) = false := by simpa using e0
    by_cases e1 : x = 1
    · subst e1
      go_wp2_with fail
      refine (any_any p (B + 2) w1 HS.out (by omega)).mono ?_
      rintro e w2 ⟨y, rfl, ⟨y0, y1⟩, hs, ho⟩
      have HS2 := Lib.hid hs
      have HO2 := Lib.hid (HO.out.trans ho)
      clear hs ho
      go_wp2
      go_ret
      exact ⟨_, rfl, HS2.out.mono (by omega), HO2.out⟩
    · have b1 : (x == 1) = false := by simpa using e1
      by_cases e2 : x = 2
      · subst e2
        go_wp2_with fail
        refine (any_any p (B + 2) w1 HS.out (by omega)).mono ?_
        rintro e w2 ⟨y, rfl, ⟨y0, y1⟩, hs, ho⟩
        have HS2 := Lib.hid hs
        have HO2 := Lib.hid (HO.out.trans ho)
        clear hs ho
        go_wp2_with fail
        refine (any_any p (B + 2 + 8) w2 HS2.out (by omega)).mono ?_
        rintro e w3 ⟨z, rfl, ⟨z0, z1⟩, hs, ho⟩
        have HS3 := Lib.hid hs
        have HO3 := Lib.hid (HO2.out.trans ho)
        clear hs ho
        go_wp2
        go_ret
        exact ⟨_, rfl, HS3.out, HO3.out⟩
      · have b2 : (x == 2) = false := by simpa using e2
        go_wp2_with fail
        refine (any_any p (B + 2) w1 HS.out (by omega)).mono ?_
        rintro e w2 ⟨y, rfl, ⟨y0, y1⟩, hs, ho⟩
        have HS2 := Lib.hid hs
        have HO2 := Lib.hid (HO.out.trans ho)
        clear hs ho
        go_wp2
        go_ret
        exact ⟨_, rfl, HS2.out.mono (by omega), HO2.out⟩

theorem numbers_any (A : Option Addr) (n cap : Nat) (w : World) (hA : Byt w A n) (hn : n ≤ 4611686018427387904) :
    Calls Try.prog 8 #[.slice A n cap] w fun e w' => ∃ a b c : Int, e = .returned (.tuple #[.int .i64 a, .int .i64 b, .int .i64 c]) ∧ Below w.heap.size w w' := by
  go_enter Try.func8, Try.ntmps8
  go_wp2_with fail
  refine (from_any A n cap w hA hn).mono ?_
  rintro e w1 ⟨rfl, hs, hb, hlt⟩
  have HS := Lib.hid hs
  have HB := Lib.hid hb
  clear hs hb
  go_wp2_with fail
  refine (raw_any w.heap.size 0 w1 HS.out (by omega)).mono ?_
  rintro e w2 ⟨a, rfl, hs, ho⟩
  have HS2 := Lib.hid hs
  have HO2 := Lib.hid ho
  clear hs ho
  go_wp2_with fail
  refine (raw_any w.heap.size (0 + 18) w2 HS2.out (by omega)).mono ?_
  rintro e w3 ⟨b, rfl, hs, ho⟩
  have HS3 := Lib.hid hs
  have HO3 := Lib.hid (HO2.out.trans ho)
  clear hs ho
  go_wp2_with fail
  refine (raw_any w.heap.size (0 + 18 + 18) w3 HS3.out (by omega)).mono ?_
  rintro e w4 ⟨c, rfl, hs, ho⟩
  have HO4 := Lib.hid (HO3.out.trans ho)
  clear hs ho
  go_wp2
  go_ret3
  exact ⟨a, b, c, rfl, HB.out.trans (HO4.out.below HB.out.size (fun q hq => by omega))⟩

theorem ring_add (a b c : Int) : pl a (pl b c) = pl (pl c a) b := by unfold pl; omega
theorem ring_mul (a b c : Int) : tm a (pl b c) = pl (tm b a) (tm a c) := by
  unfold tm pl
  rw [mulr, Int.mul_add, Int.mul_comm b a]
  omega
theorem ring_inv {a : Int} (h : rs a ≠ 0) : tm a (iv a) = 1 ∧ pw a 1000001 = iv a ∧ pw (tm a a) 1000001 = tm (iv a) (iv a) :=
  ⟨iv_mul h, rfl, pw_tm a a 1000001⟩
theorem ring_zero {a : Int} (h : rs a = 0) : pl (rs a) 1 = 1 := by rw [h]; rfl

set_option maxRecDepth 100000 in
set_option maxHeartbeats 1000000 in
theorem lawRing (A : Option Addr) (cap n : Nat) (A' : Option Addr) (cap' n' : Nat) (w : World) (hA : Byt w A n) (hn : n ≤ 9223372036854775807) (_hA' : Byt w A' n') (hn' : n' ≤ 9223372036854775807) :
    Calls Try.prog 3 #[.slice A n cap, .slice A' n' cap'] w fun e w' => e = .returned (.bool true) ∧ Below w.heap.size w w' := by
  cases hL : (decide (3000 < n) || decide (3000 < n'))
  · have hn3 : n ≤ 4611686018427387904 := by simp at hL; omega
    have HL := Lib.hid hL; clear hL
    go_enter Try.func3, Try.ntmps3
    go_wp2_with fail
    refine (long_any A A' n n' cap cap' w hn hn').mono ?_; rintro e w' ⟨rfl, rfl⟩
    rw [HL.out]
    go_wp2_with fail
    refine (numbers_any A n cap w hA hn3).mono ?_; rintro e w1 ⟨a, b, c, rfl, hb⟩
    have HB := Lib.hid hb; clear hb
    have hr1 : (pl a (pl b c) != pl (pl c a) b) = false := by rw [ring_add a b c]; simp
    have hr2 : (tm a (pl b c) != pl (tm b a) (tm a c)) = false := by rw [ring_mul a b c]; simp
    have HI := Lib.hid (inverseI_any a)
    by_cases h0 : rs a = 0
    · have hz : (pl (rs a) 1 == 1) = true := by rw [ring_zero h0]; rfl
      have hz0 : (rs a == 0) = true := by rw [h0]; rfl
      have H0 := Lib.hid h0
      clear h0
      go_wp2_with (first | (go_at_call 9; refine (plus_any _ _ _).mono ?_; rintro e w' ⟨rfl, rfl⟩) | (go_at_call 10; refine (times_any _ _ _).mono ?_; rintro e w' ⟨rfl, rfl⟩) | (go_at_call 13; refine (power_any _ 1000001 _ (by omega)).mono ?_; rintro e w' ⟨rfl, rfl⟩) | (go_at_call 12; refine (residue_any _ _).mono ?_; rintro e w' ⟨rfl, rfl⟩))
      refine (HI.out _).mono ?_
      rw [if_pos H0.out, if_pos H0.out]
      rintro e w' ⟨rfl, rfl⟩
      go_wp2_with (first | (go_at_call 9; refine (plus_any _ _ _).mono ?_; rintro e w' ⟨rfl, rfl⟩) | (go_at_call 10; refine (times_any _ _ _).mono ?_; rintro e w' ⟨rfl, rfl⟩) | (go_at_call 13; refine (power_any _ 1000001 _ (by omega)).mono ?_; rintro e w' ⟨rfl, rfl⟩) | (go_at_call 12; refine (residue_any _ _).mono ?_; rintro e w' ⟨rfl, rfl⟩))
      all_goals (go_ret; exact ⟨rfl, HB.out⟩)
    · have hz0 : (rs a == 0) = false := by simpa using h0
      obtain ⟨i1, i2, i3⟩ := ring_inv h0
      have hi1 : (tm a (iv a) == 1) = true := by rw [i1]; rfl
      have hi2 : (pw a 1000001 == iv a) = true := by rw [i2]; simp
      have hi3 : (pw (tm a a) 1000001 == tm (iv a) (iv a)) = true := by rw [i3]; simp
      have H0 := Lib.hid h0
      clear h0 i1 i2 i3
      go_wp2_with (first | (go_at_call 9; refine (plus_any _ _ _).mono ?_; rintro e w' ⟨rfl, rfl⟩) | (go_at_call 10; refine (times_any _ _ _).mono ?_; rintro e w' ⟨rfl, rfl⟩) | (go_at_call 13; refine (power_any _ 1000001 _ (by omega)).mono ?_; rintro e w' ⟨rfl, rfl⟩) | (go_at_call 12; refine (residue_any _ _).mono ?_; rintro e w' ⟨rfl, rfl⟩))
      refine (HI.out _).mono ?_
      rw [if_neg H0.out, if_neg H0.out]
      rintro e w' ⟨rfl, rfl⟩
      go_wp2_with (first | (go_at_call 9; refine (plus_any _ _ _).mono ?_; rintro e w' ⟨rfl, rfl⟩) | (go_at_call 10; refine (times_any _ _ _).mono ?_; rintro e w' ⟨rfl, rfl⟩) | (go_at_call 13; refine (power_any _ 1000001 _ (by omega)).mono ?_; rintro e w' ⟨rfl, rfl⟩) | (go_at_call 12; refine (residue_any _ _).mono ?_; rintro e w' ⟨rfl, rfl⟩))
      all_goals (go_ret; exact ⟨rfl, HB.out⟩)
  · have HL := Lib.hid hL; clear hL
    go_enter Try.func3, Try.ntmps3
    go_wp2_with fail
    refine (long_any A A' n n' cap cap' w hn hn').mono ?_; rintro e w' ⟨rfl, rfl⟩
    rw [HL.out]
    go_wp2_with fail
    go_ret
    exact ⟨rfl, Below.refl _ _⟩

end Go.Proofs.Ytbgjbppjnmolfaa
