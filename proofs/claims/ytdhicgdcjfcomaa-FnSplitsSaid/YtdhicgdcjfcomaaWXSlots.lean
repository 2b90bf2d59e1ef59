/- The walk of the law FnSlots. -/
import Derived.Test.YtdhicgdcjfcomaaPSlots
import Derived.Test.YtdhicgdcjfcomaaWLawCh
namespace Go.Proofs.Ytdhicgdcjfcomaa
open Go.RowKit Plain

theorem big_st (A : Option Addr) (n cap : Nat) (w : World) (hn : n ≤ 9223372036854775807) :
    Calls Try.prog 5 #[.slice A n cap] w fun e w' => e = .returned (.bool (decide (4096 < n))) ∧ w = w' := by
  by_cases h : 4096 < n
  · have HE : Hid (decide (4096 < n) = true) := by show _ = _; simp [h]
    have hd : decide ((4096 : Int) < (n : Int)) = true := by simp; omega
    rw [HE.out]
    go_enter Try.func5, Try.ntmps5
    go_wp2
    go_ret
    exact ⟨rfl, rfl⟩
  · have HE : Hid (decide (4096 < n) = false) := by show _ = _; simp [h]
    have hd : decide ((4096 : Int) < (n : Int)) = false := by simp; omega
    rw [HE.out]
    go_enter Try.func5, Try.ntmps5
    go_wp2
    go_ret
    exact ⟨rfl, rfl⟩

/-- LeastCost of the program, its results named -/
theorem lcI {ws : List Int} {sl v c : Int} (hv : lcV ws sl = v) (hc : lcC ws sl = c) (A : Option Addr) (cap n : Nat) (hn : n = ws.length) (w : World) (hA : Ints w A ws) (hl : ws.length ≤ 1000) :
    Calls Try.prog 7 #[.slice A n cap, .int .i64 sl] w fun e w' => e = .returned (.tuple #[.int .i64 v, .int .i64 c]) ∧ Below w.heap.size w w' := by
  subst hn hv hc
  exact leastCostI A cap ws sl w hA (by omega)
theorem lcS {ws : List Int} {sl v c : Int} (hv : lcV ws sl = v) (hc : lcC ws sl = c) (A : Option Addr) (cap n : Nat) (hn : n = ws.length) (w : World) (hA : Ints w A ws) (hl : ws.length ≤ 1000) :
    Calls Try.prog 8 #[.slice A n cap, .int .i64 sl] w fun e w' => e = .returned (.tuple #[.int .i64 v, .int .i64 c]) ∧ Below w.heap.size w w' := by
  subst hn hv hc
  exact leastCostS A cap ws sl w hA (by omega)
theorem lsI {ws : List Int} {cost v c : Int} (hv : lsV ws cost = v) (hc : lsC ws cost = c) (A : Option Addr) (cap n : Nat) (hn : n = ws.length) (w : World) (hA : Ints w A ws) (hl : ws.length ≤ 1000) :
    Calls Try.prog 9 #[.slice A n cap, .int .i64 cost] w fun e w' => e = .returned (.tuple #[.int .i64 v, .int .i64 c]) ∧ Below w.heap.size w w' := by
  subst hn hv hc
  exact leastSlotsI A cap ws cost w hA (by omega)
theorem ints_take {w : World} {A : Option Addr} {ws : List Int} (h : Ints w A ws) (k : Nat) : Ints w A (ws.take k) := fun hn => by
  rw [List.length_take] at hn
  obtain ⟨b, o, e, hb, hc⟩ := h (by omega)
  refine ⟨b, o, e, hb, fun j x hx => hc j x ?_⟩
  rw [List.getElem?_take] at hx
  split at hx
  · exact hx
  · cases hx
theorem ints_drop {w : World} {b o : Nat} {ws : List Int} (h : Ints w (some ⟨b, o, none⟩) ws) (k cap : Nat) (hk : k ≤ ws.length) (hc : ws.length ≤ cap) (ad : Addr) (had : (if cap = k then some (⟨b, o, none⟩ : Addr) else some ⟨b, o + k, none⟩) = some ad) : Ints w (some ad) (ws.drop k) := fun hn => by
  rw [List.length_drop] at hn
  rw [if_neg (by omega)] at had
  obtain rfl : (⟨b, o + k, none⟩ : Addr) = ad := by injection had
  obtain ⟨b', o', e, hb, hc⟩ := h (by omega)
  injection e with e; injection e with e1 e2
  subst e1; subst e2
  refine ⟨b, o + k, rfl, hb, fun j x hx => ?_⟩
  rw [List.getElem?_drop] at hx
  rw [Nat.add_assoc]
  exact hc _ x hx

set_option maxRecDepth 100000 in
set_option maxHeartbeats 4000000 in
theorem lawSlots (A : Option Addr) (cap n : Nat) (w : World) (hA : Byt w A n) (hn : n ≤ 9223372036854775807) (_hc : n ≤ cap) :
    Calls Try.prog 3 #[.slice A n cap] w fun e w' => e = .returned (.bool true) ∧ Below w.heap.size w w' := by
  have HBG := Lib.hid (big_st A n cap w hn)
  by_cases hbig : 4096 < n
  · have e : decide (4096 < n) = true := by simp [hbig]
    rw [e] at HBG
    clear e hbig
    go_enter Try.func3, Try.ntmps3
    go_wp2_with fail
    refine HBG.out.mono ?_
    rintro e w1 ⟨rfl, rfl⟩
    go_wp2
    go_ret
    exact ⟨rfl, Below.refl _ _⟩
  have e : decide (4096 < n) = false := by simp; omega
  rw [e] at HBG
  clear e
  have HA := Lib.hid hA
  clear hA
  go_enter Try.func3, Try.ntmps3
  go_wp2_with fail
  refine HBG.out.mono ?_
  rintro e w1 ⟨rfl, rfl⟩
  go_wp2_with fail
  refine (lawChain_any A n cap w HA.out (by omega)).mono ?_
  rintro e w1 ⟨lv, Av, cp, ws, s, rfl, hI, hW, hl, hs4, hcp, hb⟩
  have HI := Lib.hid hI
  have HW := Lib.hid hW
  have HB := Lib.hid hb
  clear hI hW hb HBG HA
  by_cases hL : lcost ws 0 ws.length s < 0
  · obtain ⟨hs0, hl1⟩ := none_slots HW.out hL
    obtain ⟨e1, e2⟩ := lc_no HW.out (by omega : s ≤ 8) hL
    have HK1 : Hid (∀ wx, Ints wx Av ws → Calls Try.prog 7 #[.slice Av ws.length cp, .int .i64 (s : Int)] wx fun e w' => e = .returned (.tuple #[.int .i64 0, .int .i64 4]) ∧ Below wx.heap.size wx w') := fun wx h => lcI e1 e2 Av cp _ rfl wx h (by omega)
    have HK2 : Hid (∀ wx, Ints wx Av ws → Calls Try.prog 8 #[.slice Av ws.length cp, .int .i64 (s : Int)] wx fun e w' => e = .returned (.tuple #[.int .i64 0, .int .i64 4]) ∧ Below wx.heap.size wx w') := fun wx h => lcS e1 e2 Av cp _ rfl wx h (by omega)
    have hs0b : ((s : Int) == 0) = true := by simp [hs0]
    have hl1z : (1 : Int) < (ws.length : Int) := by omega
    clear e1 e2 hL hs0
    go_wp2_with fail
    refine (HK1.out w1 HI.out).mono ?_
    rintro e w2 ⟨rfl, hb2⟩
    have HI2 := Lib.hid (HI.out.below hb2)
    have HB2 := Lib.hid (bnext HB.out hb2)
    clear hb2
    go_wp2_with fail
    refine (HK2.out w2 HI2.out).mono ?_
    rintro e w3 ⟨rfl, hb3⟩
    have HB3 := Lib.hid (bnext HB2.out hb3)
    clear hb3
    go_wp2
    go_ret
    exact ⟨ret_bool (by simp), HB3.out⟩
  · obtain ⟨e1, e2⟩ := lc_yes HW.out (by omega : s ≤ 8) (by omega)
    obtain ⟨c1, m1, m2, m3⟩ := more_slots HW.out (by omega : s + 1 ≤ 8) (by omega : 0 ≤ lcost ws 0 ws.length s)
    obtain ⟨c2, h1, h2, h3⟩ := head_cost HW.out (by omega : s ≤ 8) (by omega : 0 ≤ lcost ws 0 ws.length s)
    obtain ⟨lm, l1, l2, l3, ⟨c4, l4, l5, l6⟩, l7⟩ := least_slots HW.out (by omega : s ≤ 8) (by omega : 0 ≤ lcost ws 0 ws.length s)
    have HT := Lib.hid (fun h0 => tail_cost HW.out (by omega : s ≤ 8) h0 (by omega : 0 ≤ lcost ws 0 ws.length s))
    generalize lcost ws 0 ws.length s = cost at *
    rw [show (((s + 1 : Nat) : Int)) = (s : Int) + 1 by omega] at m1 m2
    have HK1 : Hid (∀ wx, Ints wx Av ws → Calls Try.prog 7 #[.slice Av ws.length cp, .int .i64 (s : Int)] wx fun e w' => e = .returned (.tuple #[.int .i64 cost, .int .i64 0]) ∧ Below wx.heap.size wx w') := fun wx h => lcI e1 e2 Av cp _ rfl wx h (by omega)
    have HK2 : Hid (∀ wx, Ints wx Av ws → Calls Try.prog 8 #[.slice Av ws.length cp, .int .i64 (s : Int)] wx fun e w' => e = .returned (.tuple #[.int .i64 cost, .int .i64 0]) ∧ Below wx.heap.size wx w') := fun wx h => lcS e1 e2 Av cp _ rfl wx h (by omega)
    have HK3 : Hid (∀ wx, Ints wx Av ws → Calls Try.prog 7 #[.slice Av ws.length cp, .int .i64 ((s : Int) + 1)] wx fun e w' => e = .returned (.tuple #[.int .i64 c1, .int .i64 0]) ∧ Below wx.heap.size wx w') := fun wx h => lcI m1 m2 Av cp _ rfl wx h (by omega)
    have HK4 : Hid (∀ wx, Ints wx Av ws → Calls Try.prog 7 #[.slice Av (ws.length - 1) cp, .int .i64 (s : Int)] wx fun e w' => e = .returned (.tuple #[.int .i64 c2, .int .i64 0]) ∧ Below wx.heap.size wx w') := fun wx h => lcI h1 h2 Av cp _ (by simp) wx (ints_take h _) (by simp; omega)
    have HK6 : Hid (∀ wx, Ints wx Av ws → Calls Try.prog 9 #[.slice Av ws.length cp, .int .i64 cost] wx fun e w' => e = .returned (.tuple #[.int .i64 (lm : Int), .int .i64 0]) ∧ Below wx.heap.size wx w') := fun wx h => lsI l1 l2 Av cp _ rfl wx h (by omega)
    have HK7 : Hid (∀ wx, Ints wx Av ws → Calls Try.prog 7 #[.slice Av ws.length cp, .int .i64 (lm : Int)] wx fun e w' => e = .returned (.tuple #[.int .i64 c4, .int .i64 0]) ∧ Below wx.heap.size wx w') := fun wx h => lcI l4 l5 Av cp _ rfl wx h (by omega)
    have HK8 : Hid (0 < lm → ∃ c d, (∀ wx, Ints wx Av ws → Calls Try.prog 7 #[.slice Av ws.length cp, .int .i64 ((lm : Int) - 1)] wx fun e w' => e = .returned (.tuple #[.int .i64 c, .int .i64 d]) ∧ Below wx.heap.size wx w') ∧ (d = 4 ∨ (d = 0 ∧ cost < c))) := fun h0 => by
      obtain ⟨c, d, g1, g2, g3⟩ := l7 h0
      exact ⟨c, d, fun wx h => lcI g1 g2 Av cp _ rfl wx h (by omega), g3⟩
    clear e1 e2 m1 m2 h1 h2 l1 l2 l4 l5 l7 hL
    go_wp2_with fail
    refine (HK1.out w1 HI.out).mono ?_
    rintro e w2 ⟨rfl, hb2⟩
    have HI2 := Lib.hid (HI.out.below hb2)
    have HB2 := Lib.hid (bnext HB.out hb2)
    clear hb2 HI HB
    go_wp2_with fail
    refine (HK2.out w2 HI2.out).mono ?_
    rintro e w3 ⟨rfl, hb3⟩
    have HI3 := Lib.hid (HI2.out.below hb3)
    have HB3 := Lib.hid (bnext HB2.out hb3)
    clear hb3 HI2 HB2
    go_wp2_with fail
    refine (HK3.out w3 HI3.out).mono ?_
    rintro e w4 ⟨rfl, hb4⟩
    have HI4 := Lib.hid (HI3.out.below hb4)
    have HB4 := Lib.hid (bnext HB3.out hb4)
    clear hb4 HI3 HB3
    go_upto_if 75 with fail
    go_cut [] (fun wc => Hid (Ints wc Av ws) ∧ Hid (Below w.heap.size w wc))
    case first =>
      by_cases h0 : 0 < ws.length
      · obtain ⟨c3, t1, t2, t3⟩ := HT.out h0
        obtain ⟨b, o, rfl, _, _⟩ := HI4.out h0
        obtain ⟨ad, had⟩ : ∃ ad : Addr, (if cp = 1 then some (⟨b, o, none⟩ : Addr) else some ⟨b, o + 1, none⟩) = some ad := by
          split
          · exact ⟨_, rfl⟩
          · exact ⟨_, rfl⟩
        have HK5 : Hid (∀ wx, Ints wx (some ⟨b, o, none⟩) ws → Calls Try.prog 7 #[.slice (some ad) (ws.length - 1) (cp - 1), .int .i64 (s : Int)] wx fun e w' => e = .returned (.tuple #[.int .i64 c3, .int .i64 0]) ∧ Below wx.heap.size wx w') := fun wx h => lcI t1 t2 (some ad) (cp - 1) _ (by simp) wx (ints_drop h 1 cp (by omega) hcp ad had) (by simp; omega)
        have h0z : (0 : Int) < (ws.length : Int) := by omega
        have h1z : (1 : Int) ≤ (ws.length : Int) := by omega
        have h2z : (ws.length : Int) - 1 ≤ (cp : Int) := by omega
        have h3z : (0 : Int) ≤ (ws.length : Int) - 1 := by omega
        have h4z : ((ws.length : Int) - 1).toNat = ws.length - 1 := by omega
        have h5z : (ws.length : Int) ≤ (cp : Int) := by omega
        clear t1 t2
        go_wp2_with fail
        refine (HK4.out w4 HI4.out).mono ?_
        rintro e w5 ⟨rfl, hb5⟩
        have HI5 := Lib.hid (HI4.out.below hb5)
        have HB5 := Lib.hid (bnext HB4.out hb5)
        clear hb5 HI4 HB4
        go_wp2_with fail
        refine (HK5.out w5 HI5.out).mono ?_
        rintro e w6 ⟨rfl, hb6⟩
        have HI6 := Lib.hid (HI5.out.below hb6)
        have HB6 := Lib.hid (bnext HB5.out hb6)
        clear hb6 HI5 HB5
        go_wp2_with fail
        go_meet
        case rel => exact ⟨HI6, HB6⟩
      · have h0z : ¬ (0 : Int) < (ws.length : Int) := by omega
        go_wp2_with fail
        go_meet
        case rel => exact ⟨HI4, HB4⟩
    case rest =>
    obtain ⟨HI5, HB5⟩ := hcut
    clear HI4 HB4 HT h3 HK4 HK3 HK2 HK1 m3
    have hlmz : (lm : Int) ≤ (s : Int) := by omega
    have hlm0 : decide ((lm : Int) < 0) = false := by simp
    go_wp2_with fail
    refine (HK6.out wc HI5.out).mono ?_
    rintro e w6 ⟨rfl, hb6⟩
    have HI6 := Lib.hid (HI5.out.below hb6)
    have HB6 := Lib.hid (bnext HB5.out hb6)
    clear hb6 HI5 HB5
    go_wp2_with fail
    refine (HK7.out w6 HI6.out).mono ?_
    rintro e w7 ⟨rfl, hb7⟩
    have HI7 := Lib.hid (HI6.out.below hb7)
    have HB7 := Lib.hid (bnext HB6.out hb7)
    clear hb7 HI6 HB6
    by_cases hl0 : lm = 0
    · have hl0b : ((lm : Int) == 0) = true := by simp [hl0]
      clear hl0 
      go_wp2_with fail
      go_ret
      exact ⟨rfl, HB7.out⟩
    · have hl0b : ((lm : Int) == 0) = false := by simp; omega
      obtain ⟨c, d, hK, hd⟩ := HK8.out (by omega)
      have HKE := Lib.hid hK
      clear hK
      have hwl : IntKind.i64.wrap ((lm : Int) - 1) = (lm : Int) - 1 := by rw [IntKind.wrap_i64]; omega
      clear hl0
      go_wp2_with fail
      refine (HKE.out w7 HI7.out).mono ?_
      rintro e w8 ⟨rfl, hb8⟩
      have HB8 := Lib.hid (bnext HB7.out hb8)
      clear hb8
      rcases hd with rfl | ⟨rfl, hd⟩
      · go_wp2_with fail
        go_ret
        exact ⟨rfl, HB8.out⟩
      · go_wp2_with fail
        go_ret
        exact ⟨rfl, HB8.out⟩

end Go.Proofs.Ytdhicgdcjfcomaa
