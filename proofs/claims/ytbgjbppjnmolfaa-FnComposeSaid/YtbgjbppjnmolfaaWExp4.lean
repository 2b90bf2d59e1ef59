/- Walks: the reference's sums of residues; a2Add, a2Front. -/
import Derived.Test.YtbgjbppjnmolfaaWExp3
import Derived.Deep.RegionLaw
import Derived.Test.YtbgjbppjnmolfaaWStep
namespace Go.Proofs.Ytbgjbppjnmolfaa
open Go.RowKit Plain

theorem tmod_cases (a : Int) : (a.tmod 1000003 < 0 ∧ a.tmod 1000003 + 1000003 = rs a) ∨ (0 ≤ a.tmod 1000003 ∧ a.tmod 1000003 = rs a) := by
  obtain ⟨h1, h2, h3⟩ := tmod_bd a
  have := rs_bd a
  omega
theorem residueS (a : Int) (w : World) : Calls Try.prog 49 #[.int .i64 a] w fun e w' => e = .returned (.int .i64 (rs a)) ∧ w = w' := by
  obtain ⟨h1, h2, _⟩ := tmod_bd a
  rcases tmod_cases a with ⟨h3, h4⟩ | ⟨h3, h4⟩
  · have H := Lib.hid h4; clear h4
    go_enter Try.func49, Try.ntmps49
    go_wp2
    go_ret
    exact ⟨ret_int H.out, rfl⟩
  · have H := Lib.hid h4; clear h4
    go_enter Try.func49, Try.ntmps49
    go_wp2
    go_ret
    exact ⟨ret_int H.out, rfl⟩
theorem plusS (a b : Int) (w : World) : Calls Try.prog 42 #[.int .i64 a, .int .i64 b] w fun e w' => e = .returned (.int .i64 (pl a b)) ∧ w' = w := by
  have ha := rs_bd a
  have hb := rs_bd b
  have H := Lib.hid (pl_rs a b)
  go_enter Try.func42, Try.ntmps42
  go_wp2_with fail
  refine (residueS a _).mono ?_; rintro e w' ⟨rfl, rfl⟩
  go_wp2_with fail
  refine (residueS b _).mono ?_; rintro e w' ⟨rfl, rfl⟩
  generalize rs a = x at *
  generalize rs b = y at *
  go_wp2
  go_ret
  exact ⟨ret_int H.out, rfl⟩

set_option maxRecDepth 100000 in
set_option maxHeartbeats 1000000 in
theorem add2_any (A B : Option Addr) (cap cap' n : Nat) (a b : List Int) (w : World) (hA : Ints w A a) (hB : Ints w B b) (hla : a.length = n) (hlb : b.length = n) (hn : n ≤ 1000000) :
    Calls Try.prog 26 #[.slice A n cap, .slice B n cap'] w fun e w' => ∃ A' cp, e = .returned (.slice A' n cp) ∧ IntsM w' w.heap.size A' (addL a b) ∧ Below w.heap.size w w' := by
  obtain ⟨i0, hi, hz0, hz1, hz2⟩ := info_parts Try.infoI
  have HLA := Lib.hid hla; clear hla
  have HLB := Lib.hid hlb; clear hlb
  go_enter Try.func26, Try.ntmps26
  go_wp2
  go_loopw [5, 6] (fun o i wr => ∃ (k : Nat) (Av : Option Addr) (cp : Nat), k ≤ n ∧ i = .int .i64 (k : Int) ∧ o = .slice Av k cp ∧ Hid (IntRow wr w.heap.size (.slice Av k cp) (mk k fun k => pl (cf a k) (cf b k))) ∧ Hid (Below w.heap.size w wr)) (fun _ i _ => n - (intOf i).toNat)
  case atStart =>
    refine ⟨0, _, _, by omega, by go_num, rfl, ?_, by show Below _ _ _; go_grown⟩
    exact World.ownsRow_lit w #[] 0 (Nat.le_refl _) (by unfold maxLen; omega) (by rfl)
  case round =>
    obtain ⟨k, Av, cp, hk, rfl, rfl, HR, HB'⟩ := hrel
    by_cases hlt : k < n
    · obtain ⟨b1, o1, rfl, hl1, hc1⟩ := (hA.below HB'.out).cfAt (by rw [HLA.out]; omega)
      obtain ⟨b2, o2, rfl, hl2, hc2⟩ := (hB.below HB'.out).cfAt (by rw [HLB.out]; omega)
      have g1 := hc1 k (by rw [HLA.out]; exact hlt)
      have g2 := hc2 k (by rw [HLB.out]; exact hlt)
      clear hc1 hc2
      generalize hx : cf a k = x at *
      generalize hy : cf b k = y at *
      have HX := Lib.hid hx
      have HY := Lib.hid hy
      clear hx hy
      have hkn : (k : Int) < (n : Int) := by omega
      have hb1 : Below wr.heap.size wr (wr.alloc (.cells #[.int .i64 (pl x y)] 2)).drew := by go_grown
      have HR1 : Hid ((wr.alloc (.cells #[.int .i64 (pl x y)] 2)).drew.ownsRow w.heap.size 2 1 (.slice Av k cp) k ((mk k fun k => pl (cf a k) (cf b k)).map (Value.int .i64))) := by
        have h := HR.out.keep (w' := (wr.alloc (.cells #[.int .i64 (pl x y)] 2)).drew) fun g hg => hb1.block g (HR.out.lt hg).2
        exact h.ownN (mk_length _ _).symm
      have HB1 := Lib.hid (bnext HB'.out hb1)
      have hN1 : Hid (∀ j u, [Value.int .i64 (pl x y)][j]? = some u → (wr.alloc (.cells #[.int .i64 (pl x y)] 2)).drew.cell? ((Addr.mk wr.heap.size 0 none).add j) = some u) := by
        intro j u hj
        have hc : Cells (wr.alloc (.cells #[.int .i64 (pl x y)] 2)) wr.heap.size 2 [.int .i64 (pl x y)] := Cells.new wr _ _
        rw [addr_add, Nat.zero_add]
        exact ((hc.drewN 1).cell j).trans hj
      have hO1 : Hid (∀ u ∈ [Value.int .i64 (pl x y)], u.oneCell' = true) := by intro u hu; simp at hu; subst hu; rfl
      have HF : Hid (∀ v2 w2, w2.ownsRow w.heap.size 2 1 v2 (k + 1) ((mk k fun k => pl (cf a k) (cf b k)).map (Value.int .i64) ++ [.int .i64 (pl x y)]) → (wr.alloc (.cells #[.int .i64 (pl x y)] 2)).drew.grownBy w2 (Value.slice Av k cp).ownBlock →
          (∃ A2 c2, v2 = .slice A2 (k + 1) c2) ∧ IntRow w2 w.heap.size v2 (mk (k + 1) fun k => pl (cf a k) (cf b k)) ∧ Below w.heap.size w w2) := by
        intro v2 w2 hown hg
        have h1 : IntRow w2 w.heap.size v2 ((mk k fun k => pl (cf a k) (cf b k)) ++ [pl x y]) := IntRow.push (mk_length _ _).symm hown
        have e : (mk (k + 1) fun k => pl (cf a k) (cf b k)) = (mk k fun k => pl (cf a k) (cf b k)) ++ [pl x y] := by
          unfold mk; rw [List.range_succ, List.map_append, ← HX.out, ← HY.out]; rfl
        rw [← e] at h1
        obtain ⟨A2, c2, hv⟩ := h1.form
        refine ⟨⟨A2, c2, by rw [hv, mk_length]⟩, h1, HB1.out.grown hg HB1.out.size (fun q hq => (World.ownsRow.lt HR1.out q hq).1)⟩
      clear hb1
      go_wp2
      go_region_law (first | (refine step_append_own rfl (.tmp 20) (.tmp 30) 30 rfl w.heap.size 2 i0 (.int .i64 0) 1 8 Try.underlying30 hi hz0 hz1 hz2 rfl (by decide) (.slice Av k cp) k _ (by simp [Act.eval, Act.put]) HR1.out ⟨wr.heap.size, 0, none⟩ 1 1 [.int .i64 (pl x y)] (by simp [Act.eval, Act.put]) rfl hN1.out hO1.out (by unfold maxLen; omega) (by omega) HB1.out.size ?_; intro v2 w2 hown hg) | (go_simp; go_at_call 42; refine (plusS _ _ _).mono ?_; rintro e w' ⟨rfl, rfl⟩))
      all_goals
        obtain ⟨⟨A2, c2, rfl⟩, hr2, hb2⟩ := HF.out _ _ hown hg
        have HR2 := Lib.hid hr2
        have HB2 := Lib.hid hb2
        clear hr2 hb2 hown hg
        go_wp2
        go_roundw
        case rel => exact ⟨k + 1, A2, c2, by omega, by go_num, rfl, HR2.out, HB2.out⟩
        case measure => simp [intOf]; omega
    · obtain rfl : k = n := by omega
      have hr := HR.out
      have e : (mk k fun k => pl (cf a k) (cf b k)) = addL a b := by unfold addL; rw [HLA.out]
      have hlen : (addL a b).length = k := by rw [addL_length, HLA.out]
      rw [e] at hr
      have HL := Lib.hid hlen
      rw [← hlen] at hr
      have HM := Lib.hid hr.intsM
      clear hr e hlen
      go_wp2
      go_ret
      exact ⟨Av, cp, rfl, HM.out, HB'.out⟩

theorem front_any (A B : Option Addr) (cap cap' n m : Nat) (a b : List Int) (w : World) (hA : Ints w A a) (hB : Ints w B b) (hla : a.length = n) (hlb : b.length = n) (hm : m ≤ n) (hn : n ≤ 1000000) (hc : n ≤ cap) (hc' : n ≤ cap') (hk : cap ≤ 9223372036854775807) (hk' : cap' ≤ 9223372036854775807) (mi : Int) (hmi : mi = m) (he : ∀ k, k < m → cf a k = cf b k) :
    Calls Try.prog 22 #[.slice A n cap, .slice B n cap', .int .i64 mi] w fun e w' => e = .returned (.bool true) ∧ Below w.heap.size w w' := by
  subst hmi
  have hA2 : Ints w A (a.take m) := fun h0 => by
    obtain ⟨bb, o, e, hl, hcc⟩ := hA (by simp at h0; omega)
    refine ⟨bb, o, e, hl, fun j x hx => hcc j x ?_⟩
    rw [List.getElem?_take] at hx
    split at hx
    · exact hx
    · cases hx
  have hB2 : Ints w B (a.take m) := fun h0 => by
    obtain ⟨bb, o, e, hl, hcc⟩ := hB (by simp at h0; omega)
    refine ⟨bb, o, e, hl, fun j x hx => hcc j x ?_⟩
    rw [List.getElem?_take] at hx
    split at hx
    · rename_i hj
      have h1 := cf_some (a := b) (k := j) (by omega)
      rw [h1, ← he j hj]
      have h2 := cf_some (a := a) (k := j) (by omega)
      rw [← h2]; exact hx
    · cases hx
  have hlen : (a.take m).length = m := by simp; omega
  have h1 : ¬ ((n : Int) < (m : Int)) := by omega
  have HS : Hid (∀ q, Calls Try.prog 17 #[.slice A m cap, .slice B m cap'] (w.drewN q) fun e w' => e = .returned (.bool true) ∧ Drawn (w.drewN q) w') := by
    intro q
    have h := same_any A B cap cap' (a.take m) (w.drewN q) hA2 hB2 (by omega)
    rw [hlen] at h
    exact h
  clear hA2 hB2 hlen
  go_enter Try.func22, Try.ntmps22
  go_wp2
  go_region_with (go_at_call 17; refine (HS.out 1).mono ?_; rintro e w1 ⟨rfl, hd⟩)
  all_goals
    go_wp2
    go_ret
    exact ⟨rfl, (((Below.refl _ w).drew)).trans (hd.below _)⟩

end Go.Proofs.Ytbgjbppjnmolfaa
