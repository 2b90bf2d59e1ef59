/- Texts put together: WText2. -/
import Derived.Test.YtnomnaojondffaaDoorKTA
import Derived.Test.YtnomnaojondffaaDoorKY
import Derived.Test.YtnomnaojondffaaDoorKE

/- Walks: PolyText of the spec. -/
namespace Go.Proofs.YtnomnaojondffaaDoor
open Go.RowKit Plain

/-- a text returned -/
def Rett (s : ByteArray) (w : World) (e : Ending) (w' : World) : Prop := Below w.heap.size w w' ∧ e = .returned (.string s)
theorem notEmpty {x : ByteArray} (h : 0 < x.size) : x.toList.isEmpty = false := by
  cases x with
  | mk a =>
    rw [ByteArray.toList_eq]
    show a.toList.isEmpty = false
    have h2 : 0 < a.toList.length := by rw [Array.length_toList]; exact h
    cases hx : a.toList with
    | nil => rw [hx] at h2; exact absurd h2 (by simp)
    | cons _ _ => rfl
theorem polyB_bad {v : Int} {ts : List Term'} (h : polyOk v ts = false) : polyB v ts = ⟨#[]⟩ := by unfold polyB; rw [if_neg (by rw [h]; simp)]
theorem polyB_zero {v : Int} {ts : List Term'} (h : polyOk v ts = true) (h0 : ts.length = 0) : polyB v ts = ⟨#[48]⟩ := by unfold polyB; rw [if_pos h, if_pos h0]
theorem polyB_ok {v : Int} {ts : List Term'} (h : polyOk v ts = true) (h0 : 0 < ts.length) : polyB v ts = outB ts ts.length := by unfold polyB; rw [if_pos h, if_neg (by omega)]

set_option maxRecDepth 100000 in
set_option maxHeartbeats 1000000 in
theorem polyTextS {A : Option Addr} {cap : Nat} (u : Int) (ts : List Term') (w : World) (hT : TmsAt w A ts) (tl : ts.length ≤ 1048576) (tt : totT ts ≤ 1048576) :
    Calls Tryd.prog 6 #[poV u A ts.length cap] w (Rett (polyB u ts) w) := by
  have hg : Below w.heap.size w (w.alloc (.cells #[.int .i64 u, .slice A ts.length cap] 29)) := by go_grown
  have hB := Cells.new w 29 [.int .i64 u, .slice A ts.length cap]
  have HC := Lib.hid (polyS_any w.heap.size 0 u A cap ts (w.alloc (.cells #[.int .i64 u, .slice A ts.length cap] 29)) (by rw [hB.cell]; rfl) (by rw [hB.cell]; rfl) (hT.below hg) tl tt)
  have HT := Lib.hid hT
  clear hB hT
  cases hok : polyOk u ts
  · have HV := Lib.hid (polyB_bad hok)
    rw [HV.out]
    rw [hok] at HC
    clear hok hg
    go_enter Tryd.func6, Tryd.ntmps6
    go_wp2_with (go_at_call 18; refine HC.out.mono ?_; rintro e w1 ⟨rfl, hb1⟩)
    go_ret
    exact ⟨(poBox hb1).2.2, rfl⟩
  have HOK := Lib.hid hok
  have ht120 := (polyOk_size hok).2.2
  rw [hok] at HC
  clear hok hg
  go_enter Tryd.func6, Tryd.ntmps6
  go_wp2_with fail
  refine HC.out.mono ?_; rintro e w1 ⟨rfl, hb1⟩
  obtain ⟨q0, q1, hb⟩ := poBox hb1
  have HB1 := Lib.hid hb
  have hwl : w.heap.size < w1.heap.size := World.block_lt_of_cell? _ _ q0
  clear hb1 HC hb
  go_wp2
  go_loopw [3, 4] (fun t i wr => ∃ (k : Nat), k ≤ ts.length ∧ i = .int .i64 (k : Int) ∧ t = .string (outB ts k) ∧ Hid (Below w1.heap.size w1 wr)) (fun _ i _ => ts.length - (intOf i).toNat)
  case atStart => exact ⟨0, by omega, by go_num, rfl, Below.refl _ _⟩
  case round =>
    obtain ⟨k, hk, rfl, rfl, HB⟩ := hrel
    have p1 : wr.cell? ⟨w.heap.size, 1, none⟩ = some (.slice A ts.length cap) := (HB.out.cell (p := ⟨w.heap.size, _, none⟩) hwl).trans q1
    have hoz := outB_size HOK.out k hk
    have hsz : (outB ts k).size ≤ 30000 := by omega
    have HPOS : Hid (0 < k → 0 < (outB ts k).size) := hoz.2
    clear hoz
    by_cases hlt : k < ts.length
    · obtain ⟨bt, ot, Ai, ca, rfl, hbt, hc, hc2, hi, _⟩ := (HT.out.below (bnext HB1.out HB.out)).at_ hlt
      have hp := termOk_parts (polyOk_term HOK.out hlt)
      have hl12 : (tmAt ts k).1.length ≤ 12 := by have := polyOk_size HOK.out; omega
      have hkl : (k : Int) < (ts.length : Int) := by omega
      have hts := (tmB_size HOK.out hlt).1
      have HTX := Lib.hid (termTextS_any bt (ot + k * 2) (tmAt ts k).2 (tmAt ts k).1 Ai ca wr hc hc2 hi hp.2.2.2.1 hl12 (by omega) hp.2.2.1)
      have HO : Hid (outB ts (k + 1) = if k = 0 then tmB (tmAt ts 0) else (outB ts k ++ ⟨#[32, 43, 32]⟩) ++ tmB (tmAt ts k)) := rfl
      rcases Nat.eq_zero_or_pos k with hk0 | hk0
      · subst hk0
        have HO2 : Hid (outB ts (0 + 1) = (⟨#[]⟩ : ByteArray) ++ tmB (tmAt ts 0)) := by show _ = ByteArray.empty ++ _; rw [HO.out, if_pos rfl, ByteArray.empty_append]
        have HX0 : Hid (outB ts 0 = ⟨#[]⟩) := rfl
        rw [Nat.zero_mul, Nat.add_zero] at HTX
        change Hid (Calls _ _ _ _ fun e w' => e = .returned (.string (tmB (tmAt ts 0))) ∧ _) at HTX
        generalize tmB (tmAt ts 0) = s at *
        rw [HX0.out] at hsz ⊢
        clear hc hc2 hi hp hl12
        go_wp2_with fail
        refine HTX.out.mono ?_; rintro e w3 ⟨rfl, hb3⟩
        have HB3 := Lib.hid (bnext HB.out hb3)
        clear hb3
        go_wp2
        go_roundw
        case rel => exact ⟨1, by omega, by go_num, by rw [HO2.out], HB3.out⟩
        case measure => simp [intOf]; omega
      · have hk1 : 0 < (k : Int) := by omega
        have HO2 : Hid (outB ts (k + 1) = (outB ts k ++ ⟨#[32, 43, 32]⟩) ++ tmB (tmAt ts k)) := by show _ = _; rw [HO.out, if_neg (by omega)]
        change Hid (Calls _ _ _ _ fun e w' => e = .returned (.string (tmB (tmAt ts k))) ∧ _) at HTX
        generalize tmB (tmAt ts k) = s at *
        generalize outB ts k = x at *
        have ez : (⟨#[32, 43, 32]⟩ : ByteArray).size = 3 := rfl
        clear hc hc2 hi hp hl12 HO
        go_wp2_with fail
        refine HTX.out.mono ?_; rintro e w3 ⟨rfl, hb3⟩
        have HB3 := Lib.hid (bnext HB.out hb3)
        clear hb3
        go_wp2
        go_roundw
        case rel => exact ⟨k + 1, by omega, by go_num, by rw [HO2.out], HB3.out⟩
        case measure => simp [intOf]; omega
    · obtain rfl : k = ts.length := by omega
      rcases Nat.eq_zero_or_pos ts.length with hz | hz
      · have HV := Lib.hid (polyB_zero HOK.out hz)
        have HX0 : Hid (outB ts ts.length = ⟨#[]⟩) := by show _ = _; rw [hz]; rfl
        rw [HX0.out]
        go_wp2
        go_ret
        exact ⟨bnext HB1.out HB.out, by rw [HV.out]; rfl⟩
      · have HV := Lib.hid (polyB_ok HOK.out hz)
        have hpos := HPOS.out hz
        generalize outB ts ts.length = x at *
        have hne := notEmpty hpos
        go_wp2
        go_ret
        exact ⟨bnext HB1.out HB.out, by rw [HV.out]; rfl⟩

end Go.Proofs.YtnomnaojondffaaDoor
