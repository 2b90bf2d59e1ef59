/- The walk of the law FnExactTrimSchedule. -/
import Derived.Test.YtnbpcdcdfkfmiaaWTrim2
import Derived.Test.YtnbpcdcdfkfmiaaWLawAid
namespace Go.Proofs.Ytnbpcdcdfkfmiaa
open Go.RowKit Plain

set_option maxHeartbeats 1000000 in
theorem lawFnExactTrimSchedule (A : Option Addr) (cap : Nat) (l : List (Int × Int)) (n : Int) (slots : Int) (w : World) (hA : Acts w A l) (hm : l.length ≤ 9223372036854775807) (_w0 : (Lit.int .i64 n).wf = true) (_w1 : (Lit.int .i64 slots).wf = true) :
    Calls Try.prog 4 #[.slice A l.length cap, .int .i64 n, .int .i64 slots] w fun e w' => e = .returned (.bool true) ∧ Below w.heap.size w w' := by
  by_cases h : l.length ≤ 1048576
  · have hn : l.length ≤ 4611686018427387904 := by omega
    go_enter Try.func4, Try.ntmps4
    go_wp2_with fail
    refine (szActs_ok A cap _ w h).mono ?_; rintro e w' ⟨rfl, rfl⟩
    go_wp2_with fail
    refine (toActsM A cap l w hA h).mono ?_; rintro e w1 ⟨rfl, hI1, hb1, _⟩
    go_wp2_with fail
    refine (trimS _ _ l n slots _ hI1.acts hn).mono ?_; rintro e w2 ⟨AS, cS, rfl, hS2, hb2, hlen⟩
    generalize hzs : trL l n slots = zs at *
    generalize hcd : trC l n slots = code at *
    have HZ := Lib.hid hzs; clear hzs
    have HCD := Lib.hid hcd; clear hcd
    have HB2 := Lib.hid (bnext hb1 hb2)
    have HS2 := Lib.hid (hS2)
    clear hS2 hb2 hI1
    go_wp2_with fail
    refine (toActsM A cap l _ (hA.below HB2.out) h).mono ?_; rintro e w3 ⟨rfl, hX3, hb3, hlt3⟩
    have HX3 := Lib.hid hX3
    have HB3 := Lib.hid (bnext HB2.out hb3)
    have HS3 := Lib.hid (HS2.out.below hb3)
    clear hX3
    go_wp2_with fail
    refine (trimI _ _ l n slots _ HX3.out.acts hn).mono ?_
    rw [HZ.out, HCD.out]
    rintro e w4 ⟨AI, cI, rfl, hI4, hb4, _⟩
    have HI4 := Lib.hid hI4
    have HB4 := Lib.hid (bnext HB3.out hb4)
    have HS4 := Lib.hid (HS3.out.below hb4)
    have HX4 := Lib.hid (HX3.out.below hb4)
    clear hI4
    go_wp2_with fail
    refine (eqActs AI AS _ _ zs _ HI4.out.acts HS4.out.acts (by omega)).mono ?_; rintro e w5 ⟨rfl, hb5⟩
    have HI5 := Lib.hid (HI4.out.below hb5)
    have HB5 := Lib.hid (bnext HB4.out hb5)
    have HS5 := Lib.hid (HS4.out.below hb5)
    have HX5 := Lib.hid (HX4.out.below hb5)
    go_wp2_with fail
    refine (toActsM A cap l _ (hA.below HB5.out) h).mono ?_; rintro e w6 ⟨rfl, hI6, hb6, _⟩
    have HI6 := Lib.hid (HI5.out.below hb6)
    have HB6 := Lib.hid (bnext HB5.out hb6)
    have HS6 := Lib.hid (HS5.out.below hb6)
    have HX6 := Lib.hid (HX5.out.below hb6)
    go_wp2_with fail
    refine (eqActs _ _ _ _ l _ HX6.out.acts hI6.acts hn).mono ?_; rintro e w7 ⟨rfl, hb7⟩
    have HI7 := Lib.hid (HI6.out.below hb7)
    have HB7 := Lib.hid (bnext HB6.out hb7)
    have HS7 := Lib.hid (HS6.out.below hb7)
    have HX7 := Lib.hid (HX6.out.below hb7)
    clear hI6
    go_wp2_with fail
    refine (markA_any w2.heap.size _ _ l 1 _ HX7.out (by omega) (by omega) (by omega)).mono ?_; rintro e w8 ⟨rfl, hX8, hO8⟩
    have hX : ∀ q, InB l.length (some ⟨w2.heap.size, 0, none⟩) q → q = w2.heap.size := by
      rintro q ⟨_, o, e⟩; simpa using (congrArg Addr.block (Option.some.inj e)).symm
    have HI8 := Lib.hid (HI7.out.only hO8 (fun q _ hq hs => by have := HI7.out.blk hq; have := hX q hs; omega))
    have HS8 := Lib.hid (HS7.out.only hO8 (fun q _ hq hs => by have := HS2.out.blk hq; have := hX q hs; omega))
    have HB8 : Hid (Below w.heap.size w w8) := HB7.out.trans (hO8.below (HB7.out.size) (fun q hq => by have := hX q hq; have := HB2.out.size; omega))
    clear hX8 hO8
    obtain ⟨mk, hmk, hmk0⟩ : ∃ mk : Int, 1 + 2 * (l.length : Int) = mk ∧ 0 ≤ mk := ⟨_, rfl, by omega⟩
    rw [hmk]
    have hmk1 : decide (mk < 0) = false := by simpa using hmk0
    clear hmk
    go_wp2_with fail
    refine (eqActs AI AS _ _ zs _ HI8.out.acts HS8.out.acts (by omega)).mono ?_; rintro e w9 ⟨rfl, hb9⟩
    have HI9 := Lib.hid (HI8.out.below hb9)
    have HB9 := Lib.hid (bnext HB8.out hb9)
    have HS9 := Lib.hid (HS8.out.below hb9)
    go_wp2_with fail
    refine (markA_any w3.heap.size AI _ zs 1 _ HI9.out (by omega) (by omega) (by omega)).mono ?_; rintro e w10 ⟨rfl, hI10, hO10⟩
    have HI10 := Lib.hid hI10
    have HS10 := Lib.hid (HS9.out.only hO10 (fun q _ hq hs => by have := HS2.out.blk hq; have := HI9.out.blk hs; have := hb3.size; omega))
    have HB10 : Hid (Below w.heap.size w w10) := HB9.out.trans (hO10.below (HB9.out.size) (fun q hq => by have := HI9.out.blk hq; have := HB3.out.size; omega))
    clear hI10 hO10
    go_wp2_with fail
    refine (heldA_any AI _ zs.length 1 _ HI10.out.acts (by omega) (by omega) (by omega)).mono ?_; rintro e w11 ⟨rfl, rfl⟩
    go_wp2_with fail
    refine (toActsM A cap l _ (hA.below HB10.out) h).mono ?_; rintro e w12 ⟨rfl, hI12, hb12, _⟩
    have HI12 := Lib.hid (HI10.out.below hb12)
    have HB12 := Lib.hid (bnext HB10.out hb12)
    have HS12 := Lib.hid (HS10.out.below hb12)
    go_wp2_with fail
    refine (trimI _ _ l n slots _ hI12.acts hn).mono ?_
    rw [HZ.out, HCD.out]
    rintro e w13 ⟨AJ, cJ, rfl, hJ13, hb13, _⟩
    have HI13 := Lib.hid (HI12.out.below hb13)
    have HB13 := Lib.hid (bnext HB12.out hb13)
    have HS13 := Lib.hid (HS12.out.below hb13)
    go_wp2_with fail
    refine (eqActs AJ AS _ _ zs _ hJ13.acts HS13.out.acts (by omega)).mono ?_; rintro e w14 ⟨rfl, hb14⟩
    have HI14 := Lib.hid (HI13.out.below hb14)
    have HB14 := Lib.hid (bnext HB13.out hb14)
    clear hJ13 hI12
    go_wp2_with fail
    refine (heldA_any AI _ zs.length 1 _ HI14.out.acts (by omega) (by omega) (by omega)).mono ?_; rintro e w15 ⟨rfl, rfl⟩
    go_wp2
    go_ret
    exact ⟨rfl, HB14.out⟩
  · go_enter Try.func4, Try.ntmps4
    go_wp2_with fail
    refine (szActs_no A cap _ w h hm).mono ?_; rintro e w' ⟨rfl, rfl⟩
    go_wp2_with fail
    go_ret
    exact ⟨rfl, Below.refl _ _⟩

end Go.Proofs.Ytnbpcdcdfkfmiaa
