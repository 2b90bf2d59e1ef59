/- The walk of the law FnSplits. -/
import Derived.Test.YtdhicgdcjfcomaaPSplits
import Derived.Test.YtdhicgdcjfcomaaWXSlots
namespace Go.Proofs.Ytdhicgdcjfcomaa
open Go.RowKit Plain

theorem soI {ws : List Int} {sl v c : Int} (hv : soV ws sl = v) (hc : soC ws sl = c) (A : Option Addr) (cap n : Nat) (hn : n = ws.length) (w : World) (hA : Ints w A ws) (hl : ws.length ≤ 1000) :
    Calls Try.prog 10 #[.slice A n cap, .int .i64 sl] w fun e w' => e = .returned (.tuple #[.int .i64 v, .int .i64 c]) ∧ Below w.heap.size w w' := by
  subst hn hv hc
  exact splitOfI A cap ws sl w hA (by omega)
theorem soS {ws : List Int} {sl v c : Int} (hv : soV ws sl = v) (hc : soC ws sl = c) (A : Option Addr) (cap n : Nat) (hn : n = ws.length) (w : World) (hA : Ints w A ws) (hl : ws.length ≤ 1000) :
    Calls Try.prog 11 #[.slice A n cap, .int .i64 sl] w fun e w' => e = .returned (.tuple #[.int .i64 v, .int .i64 c]) ∧ Below w.heap.size w w' := by
  subst hn hv hc
  exact splitOfS A cap ws sl w hA (by omega)
/-- what stands in the loop -/
structure SplitSt (w0 : World) (b o : Nat) (ws : List Int) (wr : World) : Prop where
  ints : Ints wr (some ⟨b, o, none⟩) ws
  below : Below w0.heap.size w0 wr
theorem SplitSt.next {w0 w1 w2 : World} {b o : Nat} {ws : List Int} (h : SplitSt w0 b o ws w1) (hb : Below w1.heap.size w1 w2) : SplitSt w0 b o ws w2 := ⟨h.ints.below hb, bnext h.below hb⟩
/-- one round, its calls -/
structure PlaceC (b o cp : Nat) (ws : List Int) (s at_ : Nat) (cost : Int) (m : Nat) (ad : Addr) (L : Int) : Prop where
  left : ∀ wx, Ints wx (some ⟨b, o, none⟩) ws → Calls Try.prog 7 #[.slice (some ⟨b, o, none⟩) m cp, .int .i64 (s : Int)] wx fun e w' => e = .returned (.tuple #[.int .i64 L, .int .i64 0]) ∧ Below wx.heap.size wx w'
  right : ((∀ wx, Ints wx (some ⟨b, o, none⟩) ws → Calls Try.prog 7 #[.slice (some ad) (ws.length - m) (cp - m), .int .i64 ((s : Int) - 1)] wx fun e w' => e = .returned (.tuple #[.int .i64 0, .int .i64 4]) ∧ Below wx.heap.size wx w') ∧ m ≠ at_) ∨
    ∃ R : Int, (∀ wx, Ints wx (some ⟨b, o, none⟩) ws → Calls Try.prog 7 #[.slice (some ad) (ws.length - m) (cp - m), .int .i64 ((s : Int) - 1)] wx fun e w' => e = .returned (.tuple #[.int .i64 R, .int .i64 0]) ∧ Below wx.heap.size wx w') ∧ 0 ≤ R ∧ R ≤ 1600000 ∧ cost ≤ way ws 0 m + R + L ∧ (m < at_ → cost < way ws 0 m + R + L) ∧ (m = at_ → cost = way ws 0 m + R + L)
theorem placeC {b o cp : Nat} {ws : List Int} {s at_ : Nat} {cost : Int} {m : Nat} {ad : Addr} (h : PlaceOk ws s at_ cost m) (hl : ws.length ≤ 1000) (hcp : ws.length ≤ cp) (hm : m ≤ ws.length) (had : (if cp = m then some (⟨b, o, none⟩ : Addr) else some ⟨b, o + m, none⟩) = some ad) :
    ∃ L, PlaceC b o cp ws s at_ cost m ad L ∧ 0 ≤ L ∧ L ≤ 1600000 := by
  obtain ⟨L, l1, l2, l3, l4, hr⟩ := h
  refine ⟨L, ⟨fun wx h => lcI l1 l2 _ cp _ (by rw [List.length_take]; omega) wx (ints_take h _) (by rw [List.length_take]; omega), ?_⟩, l3, l4⟩
  rcases hr with ⟨r1, r2, r3⟩ | ⟨R, r1, r2, r3⟩
  · exact .inl ⟨fun wx h => lcI r1 r2 _ _ _ (by rw [List.length_drop]) wx (ints_drop h m cp hm hcp ad had) (by rw [List.length_drop]; omega), r3⟩
  · exact .inr ⟨R, fun wx h => lcI r1 r2 _ _ _ (by rw [List.length_drop]) wx (ints_drop h m cp hm hcp ad had) (by rw [List.length_drop]; omega), r3⟩

set_option maxRecDepth 100000 in
set_option maxHeartbeats 4000000 in
theorem lawSplits (A : Option Addr) (cap n : Nat) (w : World) (hA : Byt w A n) (hn : n ≤ 9223372036854775807) (_hc : n ≤ cap) :
    Calls Try.prog 4 #[.slice A n cap] w fun e w' => e = .returned (.bool true) ∧ Below w.heap.size w w' := by
  have HBG := Lib.hid (big_st A n cap w hn)
  by_cases hbig : 4096 < n
  · have e : decide (4096 < n) = true := by simp [hbig]
    rw [e] at HBG
    clear e hbig
    go_enter Try.func4, Try.ntmps4
    go_wp2_with fail
    refine HBG.out.mono ?_
    rintro e w1 ⟨rfl, rfl⟩
    go_wp2
    go_ret
    exact ⟨rfl, Below.refl _ _⟩
  have e : decide (4096 < n) = false := by simp; omega
  rw [e] at HBG
  clear e
  have HA := Lib.hid hA
  clear hA
  go_enter Try.func4, Try.ntmps4
  go_wp2_with fail
  refine HBG.out.mono ?_
  rintro e w1 ⟨rfl, rfl⟩
  go_wp2_with fail
  refine (lawChain_any A n cap w HA.out (by omega)).mono ?_
  rintro e w1 ⟨lv, Av, cp, ws, s, rfl, hI, hW, hl, hs4, hcp, hb⟩
  have HI := Lib.hid hI
  have HW := Lib.hid hW
  have HB := Lib.hid hb
  clear hI hW hb HBG HA
  by_cases hL : 2 ≤ ws.length ∧ 0 ≤ lcost ws 0 ws.length s
  · obtain ⟨at_, e1, e2, at1, at2, hs1, hM⟩ := split_places HW.out (by omega : s ≤ 8) hL.1 hL.2
    obtain ⟨c1, c2⟩ := lc_yes HW.out (by omega : s ≤ 8) hL.2
    obtain ⟨b, o, rfl, _, _⟩ := HI.out (by omega)
    have hl2 := hL.1
    generalize lcost ws 0 ws.length s = cost at *
    have HM := Lib.hid hM
    have HK1 : Hid (∀ wx, Ints wx (some ⟨b, o, none⟩) ws → Calls Try.prog 10 #[.slice (some ⟨b, o, none⟩) ws.length cp, .int .i64 (s : Int)] wx fun e w' => e = .returned (.tuple #[.int .i64 (at_ : Int), .int .i64 0]) ∧ Below wx.heap.size wx w') := fun wx h => soI e1 e2 _ cp _ rfl wx h (by omega)
    have HK2 : Hid (∀ wx, Ints wx (some ⟨b, o, none⟩) ws → Calls Try.prog 11 #[.slice (some ⟨b, o, none⟩) ws.length cp, .int .i64 (s : Int)] wx fun e w' => e = .returned (.tuple #[.int .i64 (at_ : Int), .int .i64 0]) ∧ Below wx.heap.size wx w') := fun wx h => soS e1 e2 _ cp _ rfl wx h (by omega)
    have HK3 : Hid (∀ wx, Ints wx (some ⟨b, o, none⟩) ws → Calls Try.prog 7 #[.slice (some ⟨b, o, none⟩) ws.length cp, .int .i64 (s : Int)] wx fun e w' => e = .returned (.tuple #[.int .i64 cost, .int .i64 0]) ∧ Below wx.heap.size wx w') := fun wx h => lcI c1 c2 _ cp _ rfl wx h (by omega)
    have hlz : (ws.length : Int) ≤ 17 := by omega
    clear e1 e2 c1 c2 hM hL
    have HS : Hid (SplitSt w b o ws w1) := ⟨HI.out, HB.out⟩
    clear HI HB
    go_wp2_with fail
    refine (HK1.out w1 HS.out.ints).mono ?_
    rintro e w2 ⟨rfl, hb2⟩
    have HS2 := Lib.hid (HS.out.next hb2)
    clear hb2 HS
    go_wp2_with fail
    refine (HK2.out w2 HS2.out.ints).mono ?_
    rintro e w3 ⟨rfl, hb3⟩
    have HS3 := Lib.hid (HS2.out.next hb3)
    clear hb3 HS2
    go_wp2_with fail
    refine (HK3.out w3 HS3.out.ints).mono ?_
    rintro e w4 ⟨rfl, hb4⟩
    have HS4 := Lib.hid (HS3.out.next hb4)
    clear hb4 HS3 HK1 HK2 HK3
    go_wp2_with fail
    go_loopg [13, 14, 15] (ws.length + 1) (fun gk far met i wr => ∃ (m : Nat) (F : Int) (bm : Bool), 1 ≤ m ∧ m ≤ ws.length ∧ far = .int .i64 F ∧ met = .bool bm ∧ i = .int .i64 (m : Int) ∧ Hid (F = way ws 0 (m - 1)) ∧ Hid (bm = decide (at_ < m)) ∧ Hid (SplitSt w b o ws wr) ∧ ws.length - m < gk)
    case atStart => exact ⟨1, 0, false, by omega, by omega, rfl, rfl, by rfl, by show _ = _; rfl, by show _ = _; simp; omega, HS4, by omega⟩
    case round =>
      obtain ⟨m, F, bm, hm1, hm2, rfl, rfl, rfl, HF, HM2, HSr, hgk⟩ := hrel
      by_cases hlt : m < ws.length
      · have hltz : (m : Int) < (ws.length : Int) := by omega
        have hm1z : (1 : Int) ≤ (m : Int) := by omega
        obtain ⟨L, hP, hL0, hL1⟩ := placeC (ad := ⟨b, o + m, none⟩) (HM.out m hm1 hlt) (by omega) hcp (by omega) (by rw [if_neg (by omega)])
        have HP := Lib.hid hP
        obtain ⟨x, hx⟩ : ∃ x, ws[m - 1]? = some x := ⟨_, List.getElem?_eq_getElem (by omega)⟩
        have hwy : Hid (way ws 0 m = F + x) := by
          show _ = _
          have : way ws 0 (m - 1 + 1) = way ws 0 (m - 1) + ws.getD (0 + (m - 1)) 0 := rfl
          rw [show m - 1 + 1 = m by omega] at this
          rw [this, ← HF.out, Nat.zero_add, List.getD_eq_getElem?_getD, hx]; rfl
        have hF0 : 0 ≤ F := by rw [HF.out]; exact way_nonneg (isW_of HW.out).1 _ _
        have hF1 : F ≤ 1000 * (m - 1 : Nat) := by rw [HF.out]; exact way_bd HW.out _
        have hG0 : 0 ≤ F + x := by rw [← hwy.out]; exact way_nonneg (isW_of HW.out).1 _ _
        have hG1 : F + x ≤ 1000 * m := by rw [← hwy.out]; exact way_bd HW.out _
        have hcell : wr.cell? ⟨b, o + (m - 1), none⟩ = some (.int .i64 x) := by
          obtain ⟨b', o', e, _, hc⟩ := HSr.out.ints (by omega)
          injection e with e; injection e with e1 e2
          subst e1; subst e2
          exact hc _ _ hx
        have hmn : ((m : Int) - 1).toNat = m - 1 := by omega
        have hw1 : IntKind.i64.wrap (F + x) = F + x := by rw [IntKind.wrap_i64]; omega
        have hsp : (1 : Int) ≤ (s : Int) := by omega
        clear hP hx
        go_wp2_with fail
        have HLF := Lib.hid HP.out.left
        rcases HP.out.right with ⟨hR, hne⟩ | ⟨R, hR, hR0, hR1, hle, hlt2, heq⟩
        · refine (hR wr HSr.out.ints).mono ?_
          rintro e w5 ⟨rfl, hb5⟩
          have HS5 := Lib.hid (HSr.out.next hb5)
          clear hb5 HSr hR HP
          go_wp2_with fail
          refine (HLF.out w5 HS5.out.ints).mono ?_
          rintro e w6 ⟨rfl, hb6⟩
          have HS6 := Lib.hid (HS5.out.next hb6)
          clear hb6 HS5 HLF
          go_wp2
          go_roundg (gk - 1)
          case measure => omega
          case rel => exact ⟨m + 1, F + x, bm, by omega, by omega, rfl, rfl, by first | rfl | go_num, hwy.out.symm, (by show _ = _; rw [HM2.out]; simp; omega), HS6, by omega⟩
        · have hA0 : 0 ≤ F + x + R + L := by omega
          rw [hwy.out] at hle hlt2 heq
          have hs1 : IntKind.i64.wrap (F + x + R) = F + x + R := by rw [IntKind.wrap_i64]; omega
          have hs2 : IntKind.i64.wrap (F + x + R + L) = F + x + R + L := by rw [IntKind.wrap_i64]; omega
          have hlb : decide (F + x + R + L < cost) = false := by simp; omega
          refine (hR wr HSr.out.ints).mono ?_
          rintro e w5 ⟨rfl, hb5⟩
          have HS5 := Lib.hid (HSr.out.next hb5)
          clear hb5 HSr hR HP
          go_wp2_with fail
          refine (HLF.out w5 HS5.out.ints).mono ?_
          rintro e w6 ⟨rfl, hb6⟩
          have HS6 := Lib.hid (HS5.out.next hb6)
          clear hb6 HS5 HLF
          have HEQ := Lib.hid heq
          have HLT := Lib.hid hlt2
          clear heq hlt2
          by_cases hma : m = at_
          · have he : (F + x + R + L == cost) = true := by have := HEQ.out hma; simp; omega
            have hmb : ((m : Int) == (at_ : Int)) = true := by simp [hma]
            have hml : decide ((m : Int) < (at_ : Int)) = false := by simp; omega
            have hml2 : ¬ m < at_ := by omega
            have HMA := Lib.hid hma
            clear hma
            go_wp2
            go_roundg (gk - 1)
            case measure => omega
            case rel => exact ⟨m + 1, F + x, true, by omega, by omega, rfl, rfl, by first | rfl | go_num, hwy.out.symm, (by show _ = _; simp; have := HMA.out; omega), HS6, by omega⟩
          · have hmb : ((m : Int) == (at_ : Int)) = false := by simp; omega
            have HMA := Lib.hid hma
            have HR : Hid (bm = decide (at_ < m + 1)) := by show _ = _; rw [HM2.out]; simp; omega
            clear hma
            by_cases he0 : F + x + R + L = cost
            · have he : (F + x + R + L == cost) = true := by simp [he0]
              have hml : decide ((m : Int) < (at_ : Int)) = false := by
                simp
                rcases Nat.lt_or_ge m at_ with h | h
                · have := HLT.out h; omega
                · omega
              have hml2 : ¬ m < at_ := by simp at hml; omega
              have HE0 := Lib.hid he0
              clear he0
              go_wp2
              go_roundg (gk - 1)
              case measure => omega
              case rel => exact ⟨m + 1, F + x, bm, by omega, by omega, rfl, rfl, by first | rfl | go_num, hwy.out.symm, HR, HS6, by omega⟩
            · have he : (F + x + R + L == cost) = false := by simp [he0]
              clear he0
              go_wp2
              go_roundg (gk - 1)
              case measure => omega
              case rel => exact ⟨m + 1, F + x, bm, by omega, by omega, rfl, rfl, by first | rfl | go_num, hwy.out.symm, HR, HS6, by omega⟩
      · have hltz : ¬ (m : Int) < (ws.length : Int) := by omega
        have hbm : bm = true := by rw [HM2.out]; simp; omega
        subst hbm
        go_wp2
        go_ret
        exact ⟨rfl, HSr.out.below⟩
  · obtain ⟨e1, e2⟩ := so_no HW.out (by omega : s ≤ 8) hL
    rcases e2 with ⟨e2, h2⟩ | ⟨e2, h2, h0⟩
    · have HK1 : Hid (∀ wx, Ints wx Av ws → Calls Try.prog 10 #[.slice Av ws.length cp, .int .i64 (s : Int)] wx fun e w' => e = .returned (.tuple #[.int .i64 0, .int .i64 9]) ∧ Below wx.heap.size wx w') := fun wx h => soI e1 e2 _ cp _ rfl wx h (by omega)
      have HK2 : Hid (∀ wx, Ints wx Av ws → Calls Try.prog 11 #[.slice Av ws.length cp, .int .i64 (s : Int)] wx fun e w' => e = .returned (.tuple #[.int .i64 0, .int .i64 9]) ∧ Below wx.heap.size wx w') := fun wx h => soS e1 e2 _ cp _ rfl wx h (by omega)
      have h2z : (ws.length : Int) < 2 := by omega
      clear e1 e2 hL
      go_wp2_with fail
      refine (HK1.out w1 HI.out).mono ?_
      rintro e w2 ⟨rfl, hb2⟩
      have HI2 := Lib.hid (HI.out.below hb2)
      have HB2 := Lib.hid (bnext HB.out hb2)
      clear hb2
      go_wp2_with fail
      refine (HK2.out w2 HI2.out).mono ?_
      rintro e w3 ⟨rfl, hb3⟩
      have HB3 := Lib.hid (bnext HB2.out hb3)
      clear hb3
      go_wp2
      go_ret
      exact ⟨ret_bool (by first | rfl | (simp; done) | (simp; omega)), HB3.out⟩
    · have HK1 : Hid (∀ wx, Ints wx Av ws → Calls Try.prog 10 #[.slice Av ws.length cp, .int .i64 (s : Int)] wx fun e w' => e = .returned (.tuple #[.int .i64 0, .int .i64 4]) ∧ Below wx.heap.size wx w') := fun wx h => soI e1 e2 _ cp _ rfl wx h (by omega)
      have HK2 : Hid (∀ wx, Ints wx Av ws → Calls Try.prog 11 #[.slice Av ws.length cp, .int .i64 (s : Int)] wx fun e w' => e = .returned (.tuple #[.int .i64 0, .int .i64 4]) ∧ Below wx.heap.size wx w') := fun wx h => soS e1 e2 _ cp _ rfl wx h (by omega)
      have h2z : ¬ (ws.length : Int) < 2 := by omega
      have h0z : ((s : Int) == 0) = true := by simp [h0]
      clear e1 e2 hL h0
      go_wp2_with fail
      refine (HK1.out w1 HI.out).mono ?_
      rintro e w2 ⟨rfl, hb2⟩
      have HI2 := Lib.hid (HI.out.below hb2)
      have HB2 := Lib.hid (bnext HB.out hb2)
      clear hb2
      go_wp2_with fail
      refine (HK2.out w2 HI2.out).mono ?_
      rintro e w3 ⟨rfl, hb3⟩
      have HB3 := Lib.hid (bnext HB2.out hb3)
      clear hb3
      go_wp2
      go_ret
      exact ⟨ret_bool (by first | rfl | (simp; done) | (simp; omega)), HB3.out⟩

end Go.Proofs.Ytdhicgdcjfcomaa
