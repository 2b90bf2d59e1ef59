/- Walks: composed, ComposeSeries, ReverseSeries, a2Unit. -/
import Derived.Test.YtbgjbppjnmolfaaWExp4
import Derived.Test.YtbgjbppjnmolfaaPCompL
namespace Go.Proofs.Ytbgjbppjnmolfaa
open Go.RowKit Plain

/-- what a call that makes a series anywhere comes to -/
def SerPostG (zs : List Int) (w : World) (e : Ending) (w' : World) : Prop :=
  ∃ g, e = .returned (.slice (some ⟨g, 0, none⟩) zs.length zs.length) ∧ Cells w' g 2 (zs.map (Value.int .i64)) ∧ w.heap.size ≤ g ∧ Below w.heap.size w w'

theorem cells_get {w : World} {g k : Nat} {t : TypeId} {zs : List Int} (h : Cells w g t (zs.map (Value.int .i64))) (hk : k < zs.length) : w.cell? ⟨g, k, none⟩ = some (.int .i64 (cf zs k)) := by
  rw [h.cell]; simp [cf_some hk]
theorem Cells.ints {w : World} {g : Nat} {t : TypeId} {zs : List Int} (h : Cells w g t (zs.map (Value.int .i64))) : Ints w (some ⟨g, 0, none⟩) zs := (h.intsM' (Nat.zero_le _)).ints

set_option maxRecDepth 100000 in
set_option maxHeartbeats 1000000 in
theorem composed_any (A B : Option Addr) (cap cap' : Nat) (a b : List Int) (w : World) (hA : Ints w A a) (hB : Ints w B b) (hl : b.length = a.length) (h0 : 0 < a.length) (hn : a.length ≤ 1000000) (ha : IsS a) (hb : IsS b) :
    Calls Try.prog 38 #[.slice A a.length cap, .slice B a.length cap'] w (SerPostG (compL a b) w) := by
  have hmk := run_make_row' (P := Try.prog) 30 2 (.int .i64 0) 8 Try.underlying30 Try.infoI rfl .i64 .i64 a.length (by omega) (by omega)
  have e0 : (List.replicate a.length (Value.int .i64 0)) = (hornT a b 0).map (Value.int .i64) := by rw [rowF_zero]; rfl
  rw [madeCells_one, e0] at hmk
  clear e0
  have HL := Lib.hid hl; clear hl
  go_enter Try.func38, Try.ntmps38
  go_wp2
  go_loopw [5, 6] (fun o i wr => ∃ (j g : Nat), j ≤ a.length ∧ i = .int .i64 ((a.length : Int) - 1 - (j : Int)) ∧ o = .slice (some ⟨g, 0, none⟩) a.length a.length ∧ w.heap.size ≤ g ∧ Hid (Cells wr g 2 ((hornT a b j).map (Value.int .i64))) ∧ Hid (Below w.heap.size w wr)) (fun _ i _ => (intOf i + 1).toNat)
  case atStart => exact ⟨0, _, by omega, by go_num, rfl, Nat.le_refl _, Cells.new w _ _, by show Below _ _ _; go_grown⟩
  case round =>
    obtain ⟨j, g, hj, rfl, rfl, hg, HC, HB'⟩ := hrel
    by_cases hlt : j < a.length
    · have hge : (0 : Int) ≤ (a.length : Int) - 1 - (j : Int) := by omega
      have hP := product_any (some ⟨g, 0, none⟩) B a.length cap' (hornT a b j) b wr HC.out.ints (hB.below HB'.out) (by rw [HL.out, hornT_length]) (by rw [hornT_length]; exact hn) (isS_horn a b j) hb
      rw [hornT_length] at hP
      have HP := Lib.hid hP; clear hP
      go_wp2_with fail
      refine HP.out.mono ?_
      rintro e w1 ⟨rfl, hc, hb1⟩
      have hlm : (mulL (hornT a b j) b).length = a.length := by rw [mulL_length, hornT_length]
      have HB1 := Lib.hid (bnext HB'.out hb1)
      have HC1 := Lib.hid hc
      have hwg : w.heap.size ≤ wr.heap.size := HB'.out.size
      have hA1 := hA.below HB1.out
      obtain ⟨b1, o1, rfl, _, hc1⟩ := hA1.cfAt h0
      have g1 := hc1 (a.length - 1 - j) (by omega)
      have g3 := cells_get HC1.out (k := 0) (by rw [hlm]; exact h0)
      have z3 : w1.frozen? ⟨wr.heap.size, 0, none⟩ = false := HC1.out.frozen _
      have a1 := ha (a.length - 1 - j)
      have b1' := isS_mul (hornT a b j) b 0
      have HN : Hid (∀ q, Cells ((w1.drewN q).setCell ⟨wr.heap.size, 0, none⟩ (.int .i64 ((cf (mulL (hornT a b j) b) 0 + cf a (a.length - 1 - j)) % 1000003))) wr.heap.size 2 ((hornT a b (j + 1)).map (Value.int .i64))) := by
        intro q
        have h := (HC1.out.drewN q).set_ 0 (.int .i64 ((cf (mulL (hornT a b j) b) 0 + cf a (a.length - 1 - j)) % 1000003))
        have e : (hornT a b (j + 1)).map (Value.int .i64) = ((mulL (hornT a b j) b).map (Value.int .i64)).set 0 (.int .i64 ((cf (mulL (hornT a b j) b) 0 + cf a (a.length - 1 - j)) % 1000003)) := by
          simp only [hornT, List.map_set]
        rw [e]; exact h
      have HLM := Lib.hid hlm
      rw [hlm]
      clear hc hb1 hc1 hA1 hlm
      generalize cf a (a.length - 1 - j) = x at *
      generalize cf (mulL (hornT a b j) b) 0 = y at *
      have hs1 : (a.length : Int) - 1 - (j : Int) < (a.length : Int) := by omega
      have hs2 : ((a.length : Int) - 1 - (j : Int)).toNat = a.length - 1 - j := by omega
      have h0' : (0 : Int) < (a.length : Int) := by omega
      go_wp2
      go_region
      all_goals
        go_wp2
        go_roundw
        case rel => exact ⟨j + 1, _, by omega, by go_num, rfl, hwg, HN.out 1, (below_drewN' HB1.out 1).setCell hwg _⟩
        case measure => simp [intOf]; omega
    · obtain rfl : j = a.length := by omega
      have HE : Hid (Cells wr g 2 ((compL a b).map (Value.int .i64))) := HC.out
      have HLn := Lib.hid (compL_length a b)
      go_wp2
      go_ret
      unfold SerPostG
      rw [HLn.out]
      exact ⟨g, rfl, HE.out, hg, HB'.out⟩

theorem compN (A B : Option Addr) (cap cap' n : Nat) (a b : List Int) (w : World) (hA : Ser w A n a) (hB : Ser w B n b) (hz : cf b 0 = 0) :
    Calls Try.prog 20 #[.slice A n cap, .slice B n cap'] w (OpPost n (compL a b) 0 w) := by
  obtain ⟨n0, n13⟩ := hA.bd
  have hS := areSeries_yes A B cap cap' a b w hA.ints hB.ints (by rw [hA.len, hB.len]) hA.ok hB.ok
  have hF := composed_any A B cap cap' a b w hA.ints hB.ints (by rw [hA.len, hB.len]) (by rw [hA.len]; exact n0) (by rw [hA.len]; omega) (serB_isS hA.ok).2.2 (serB_isS hB.ok).2.2
  rw [hA.len, hB.len] at hS
  rw [hA.len] at hF
  have HS := Lib.hid hS
  have HF := Lib.hid hF
  have HLn := Lib.hid ((compL_length a b).trans hA.len)
  obtain ⟨bb, oo, rfl, hbl, g0⟩ := hB.first
  rw [hz] at g0
  have hm0 : (0 : Int) < (n : Int) := by omega
  clear hS hF hz
  go_enter Try.func20, Try.ntmps20
  go_wp2_with fail
  refine HS.out.mono ?_; rintro e w' ⟨rfl, rfl⟩
  go_wp2_with fail
  refine HF.out.mono ?_
  rintro e w1 ⟨g, rfl, hc, hg, hb1⟩
  have HC := Lib.hid hc
  have HB1 := Lib.hid hb1
  rw [HLn.out]
  clear hc hb1
  go_wp2
  go_ret2
  exact ⟨g, rfl, ⟨HC.out.ints, HLn.out, serB_of (by rw [HLn.out]; exact n0) (by rw [HLn.out]; exact n13) (isS_comp a b)⟩, HC.out.intsM' hg, HB1.out⟩

end Go.Proofs.Ytbgjbppjnmolfaa
