/- Texts put together: WStdI1, WStdI2. -/
import Derived.Test.YtmcaphbngfdfiaaKSY

/- The closures of the program's StandardRules (printed by gen_stdc.py). -/
namespace Go.Proofs.Ytmcaphbngfdfiaa
open Go.RowKit Plain

set_option maxHeartbeats 1000000 in
theorem negI_any (k1 n1 p1 c1 : Int) (K1 : Option Addr) (l1 a1 : Nat) (w : World) :
    Calls Try.prog 13 #[exV k1 n1 p1 c1 K1 l1 a1] w fun e w' => ∃ g, e = .returned (exV 7 0 0 0 (some ⟨g, 0, none⟩) 1 1) ∧ w.heap.size ≤ g ∧ g < w'.heap.size ∧ Below w.heap.size w w' ∧
      Cells w' g 29 [.int .i64 k1, .int .i64 n1, .int .i64 p1, .int .i64 c1, .slice K1 l1 a1] := by
  go_enter Try.func13, Try.ntmps13
  go_wp2_with fail
  have hC : Cells (((w.alloc (.cells #[.int .i64 k1, .int .i64 n1, .int .i64 p1, .int .i64 c1, .slice K1 l1 a1] 29)).alloc (.cells #[.int .i64 0, .int .i64 0, .int .i64 0, .int .i64 0, .slice none 0 0] 29)).alloc (.cells #[.int .i64 k1, .int .i64 n1, .int .i64 p1, .int .i64 c1, .slice K1 l1 a1] 29)) (w.heap.size + 1 + 1) 29 [.int .i64 k1, .int .i64 n1, .int .i64 p1, .int .i64 c1, .slice K1 l1 a1] := by
    have := Cells.new ((w.alloc (.cells #[.int .i64 k1, .int .i64 n1, .int .i64 p1, .int .i64 c1, .slice K1 l1 a1] 29)).alloc (.cells #[.int .i64 0, .int .i64 0, .int .i64 0, .int .i64 0, .slice none 0 0] 29)) 29 [.int .i64 k1, .int .i64 n1, .int .i64 p1, .int .i64 c1, .slice K1 l1 a1]
    simpa using this
  have hZ : Cells (((w.alloc (.cells #[.int .i64 k1, .int .i64 n1, .int .i64 p1, .int .i64 c1, .slice K1 l1 a1] 29)).alloc (.cells #[.int .i64 0, .int .i64 0, .int .i64 0, .int .i64 0, .slice none 0 0] 29)).alloc (.cells #[.int .i64 k1, .int .i64 n1, .int .i64 p1, .int .i64 c1, .slice K1 l1 a1] 29)) (w.heap.size + 1) 29 [.int .i64 0, .int .i64 0, .int .i64 0, .int .i64 0, .slice none 0 0] := by
    have := (Cells.new (w.alloc (.cells #[.int .i64 k1, .int .i64 n1, .int .i64 p1, .int .i64 c1, .slice K1 l1 a1] 29)) 29 [.int .i64 0, .int .i64 0, .int .i64 0, .int .i64 0, .slice none 0 0]).next (w' := (((w.alloc (.cells #[.int .i64 k1, .int .i64 n1, .int .i64 p1, .int .i64 c1, .slice K1 l1 a1] 29)).alloc (.cells #[.int .i64 0, .int .i64 0, .int .i64 0, .int .i64 0, .slice none 0 0] 29)).alloc (.cells #[.int .i64 k1, .int .i64 n1, .int .i64 p1, .int .i64 c1, .slice K1 l1 a1] 29))) (by go_grown)
    simpa using this
  have hB : Below w.heap.size w (((w.alloc (.cells #[.int .i64 k1, .int .i64 n1, .int .i64 p1, .int .i64 c1, .slice K1 l1 a1] 29)).alloc (.cells #[.int .i64 0, .int .i64 0, .int .i64 0, .int .i64 0, .slice none 0 0] 29)).alloc (.cells #[.int .i64 k1, .int .i64 n1, .int .i64 p1, .int .i64 c1, .slice K1 l1 a1] 29)) := by go_grown
  change Calls _ _ _ (((w.alloc (.cells #[.int .i64 k1, .int .i64 n1, .int .i64 p1, .int .i64 c1, .slice K1 l1 a1] 29)).alloc (.cells #[.int .i64 0, .int .i64 0, .int .i64 0, .int .i64 0, .slice none 0 0] 29)).alloc (.cells #[.int .i64 k1, .int .i64 n1, .int .i64 p1, .int .i64 c1, .slice K1 l1 a1] 29)) _
  generalize (((w.alloc (.cells #[.int .i64 k1, .int .i64 n1, .int .i64 p1, .int .i64 c1, .slice K1 l1 a1] 29)).alloc (.cells #[.int .i64 0, .int .i64 0, .int .i64 0, .int .i64 0, .slice none 0 0] 29)).alloc (.cells #[.int .i64 k1, .int .i64 n1, .int .i64 p1, .int .i64 c1, .slice K1 l1 a1] 29)) = W at hC hZ hB ⊢
  refine (nodeI_any _ _ _ _ W).mono ?_; rintro e w1 ⟨rfl, hb⟩
  have hC1 := hC.next hb
  have hZ1 := hZ.next hb
  have hB1 : Below w.heap.size w w1 := hB.trans (hb.mono hB.size)
  clear hC hZ hB hb
  have j0 : w1.cell? ⟨w.heap.size + 1, 0, none⟩ = some (.int .i64 0) := by rw [hZ1.cell]; rfl
  have g0 : w1.frozen? ⟨w.heap.size + 1, 0, none⟩ = false := hZ1.frozen _
  have j1 : w1.cell? ⟨w.heap.size + 1, 1, none⟩ = some (.int .i64 0) := by rw [hZ1.cell]; rfl
  have g1 : w1.frozen? ⟨w.heap.size + 1, 1, none⟩ = false := hZ1.frozen _
  have j2 : w1.cell? ⟨w.heap.size + 1, 2, none⟩ = some (.int .i64 0) := by rw [hZ1.cell]; rfl
  have g2 : w1.frozen? ⟨w.heap.size + 1, 2, none⟩ = false := hZ1.frozen _
  have j3 : w1.cell? ⟨w.heap.size + 1, 3, none⟩ = some (.int .i64 0) := by rw [hZ1.cell]; rfl
  have g3 : w1.frozen? ⟨w.heap.size + 1, 3, none⟩ = false := hZ1.frozen _
  have j4 : w1.cell? ⟨w.heap.size + 1, 4, none⟩ = some (.slice none 0 0) := by rw [hZ1.cell]; rfl
  have g4 : w1.frozen? ⟨w.heap.size + 1, 4, none⟩ = false := hZ1.frozen _
  have d0 := hZ1
  have d1 := d0.set_ 0 (.int .i64 7)
  have d2 := d1.set_ 1 (.int .i64 0)
  have d3 := d2.set_ 2 (.int .i64 0)
  have d4 := d3.set_ 3 (.int .i64 0)
  have d5 := d4.set_ 4 (.slice (some ⟨w.heap.size + 1 + 1, 0, none⟩) 1 1)
  have x0 := d1.cell 0
  have x1 := d2.cell 1
  have x2 := d3.cell 2
  have x3 := d4.cell 3
  have x4 := d5.cell 4
  simp only [List.set_cons_zero, List.set_cons_succ, List.getElem?_cons_zero, List.getElem?_cons_succ] at x0 x1 x2 x3 x4
  have hFC := (((((hC1.far (p := ⟨w.heap.size + 1, 0, none⟩) (by (try dsimp only); omega) (.int .i64 7)).far (p := ⟨w.heap.size + 1, 1, none⟩) (by (try dsimp only); omega) (.int .i64 0)).far (p := ⟨w.heap.size + 1, 2, none⟩) (by (try dsimp only); omega) (.int .i64 0)).far (p := ⟨w.heap.size + 1, 3, none⟩) (by (try dsimp only); omega) (.int .i64 0)).far (p := ⟨w.heap.size + 1, 4, none⟩) (by (try dsimp only); omega) (.slice (some ⟨w.heap.size + 1 + 1, 0, none⟩) 1 1))
  have hFB := (((((hB1.setCell (p := ⟨w.heap.size + 1, 0, none⟩) (by (try dsimp only); omega) (.int .i64 7)).setCell (p := ⟨w.heap.size + 1, 1, none⟩) (by (try dsimp only); omega) (.int .i64 0)).setCell (p := ⟨w.heap.size + 1, 2, none⟩) (by (try dsimp only); omega) (.int .i64 0)).setCell (p := ⟨w.heap.size + 1, 3, none⟩) (by (try dsimp only); omega) (.int .i64 0)).setCell (p := ⟨w.heap.size + 1, 4, none⟩) (by (try dsimp only); omega) (.slice (some ⟨w.heap.size + 1 + 1, 0, none⟩) 1 1))
  have HF := Lib.hid (And.intro hFC hFB)
  have HL := Lib.hid hC1.lt
  clear hC1 hZ1 hB1 hFC hFB d0 d1 d2 d3 d4 d5
  go_wp2
  refine bodyPost_ret (v := exV 7 0 0 0 (some ⟨w.heap.size + 1 + 1, 0, none⟩) 1 1) (by simp [results, Try.results13, go_sem, x0, x1, x2, x3, x4]) rfl ?_
  exact ⟨w.heap.size + 1 + 1, rfl, by omega, HF.out.1.lt, HF.out.2, HF.out.1⟩

set_option maxHeartbeats 1000000 in
theorem addI'_any (k1 n1 p1 c1 : Int) (K1 : Option Addr) (l1 a1 : Nat) (k2 n2 p2 c2 : Int) (K2 : Option Addr) (l2 a2 : Nat) (w : World) :
    Calls Try.prog 15 #[exV k1 n1 p1 c1 K1 l1 a1, exV k2 n2 p2 c2 K2 l2 a2] w fun e w' => ∃ g, e = .returned (exV 3 0 0 0 (some ⟨g, 0, none⟩) 2 2) ∧ w.heap.size ≤ g ∧ g < w'.heap.size ∧ Below w.heap.size w w' ∧
      Cells w' g 29 [.int .i64 k1, .int .i64 n1, .int .i64 p1, .int .i64 c1, .slice K1 l1 a1, .int .i64 k2, .int .i64 n2, .int .i64 p2, .int .i64 c2, .slice K2 l2 a2] := by
  go_enter Try.func15, Try.ntmps15
  go_wp2_with fail
  have hC : Cells ((((w.alloc (.cells #[.int .i64 k1, .int .i64 n1, .int .i64 p1, .int .i64 c1, .slice K1 l1 a1] 29)).alloc (.cells #[.int .i64 k2, .int .i64 n2, .int .i64 p2, .int .i64 c2, .slice K2 l2 a2] 29)).alloc (.cells #[.int .i64 0, .int .i64 0, .int .i64 0, .int .i64 0, .slice none 0 0] 29)).alloc (.cells #[.int .i64 k1, .int .i64 n1, .int .i64 p1, .int .i64 c1, .slice K1 l1 a1, .int .i64 k2, .int .i64 n2, .int .i64 p2, .int .i64 c2, .slice K2 l2 a2] 29)) (w.heap.size + 1 + 1 + 1) 29 [.int .i64 k1, .int .i64 n1, .int .i64 p1, .int .i64 c1, .slice K1 l1 a1, .int .i64 k2, .int .i64 n2, .int .i64 p2, .int .i64 c2, .slice K2 l2 a2] := by
    have := Cells.new (((w.alloc (.cells #[.int .i64 k1, .int .i64 n1, .int .i64 p1, .int .i64 c1, .slice K1 l1 a1] 29)).alloc (.cells #[.int .i64 k2, .int .i64 n2, .int .i64 p2, .int .i64 c2, .slice K2 l2 a2] 29)).alloc (.cells #[.int .i64 0, .int .i64 0, .int .i64 0, .int .i64 0, .slice none 0 0] 29)) 29 [.int .i64 k1, .int .i64 n1, .int .i64 p1, .int .i64 c1, .slice K1 l1 a1, .int .i64 k2, .int .i64 n2, .int .i64 p2, .int .i64 c2, .slice K2 l2 a2]
    simpa using this
  have hZ : Cells ((((w.alloc (.cells #[.int .i64 k1, .int .i64 n1, .int .i64 p1, .int .i64 c1, .slice K1 l1 a1] 29)).alloc (.cells #[.int .i64 k2, .int .i64 n2, .int .i64 p2, .int .i64 c2, .slice K2 l2 a2] 29)).alloc (.cells #[.int .i64 0, .int .i64 0, .int .i64 0, .int .i64 0, .slice none 0 0] 29)).alloc (.cells #[.int .i64 k1, .int .i64 n1, .int .i64 p1, .int .i64 c1, .slice K1 l1 a1, .int .i64 k2, .int .i64 n2, .int .i64 p2, .int .i64 c2, .slice K2 l2 a2] 29)) (w.heap.size + 1 + 1) 29 [.int .i64 0, .int .i64 0, .int .i64 0, .int .i64 0, .slice none 0 0] := by
    have := (Cells.new ((w.alloc (.cells #[.int .i64 k1, .int .i64 n1, .int .i64 p1, .int .i64 c1, .slice K1 l1 a1] 29)).alloc (.cells #[.int .i64 k2, .int .i64 n2, .int .i64 p2, .int .i64 c2, .slice K2 l2 a2] 29)) 29 [.int .i64 0, .int .i64 0, .int .i64 0, .int .i64 0, .slice none 0 0]).next (w' := ((((w.alloc (.cells #[.int .i64 k1, .int .i64 n1, .int .i64 p1, .int .i64 c1, .slice K1 l1 a1] 29)).alloc (.cells #[.int .i64 k2, .int .i64 n2, .int .i64 p2, .int .i64 c2, .slice K2 l2 a2] 29)).alloc (.cells #[.int .i64 0, .int .i64 0, .int .i64 0, .int .i64 0, .slice none 0 0] 29)).alloc (.cells #[.int .i64 k1, .int .i64 n1, .int .i64 p1, .int .i64 c1, .slice K1 l1 a1, .int .i64 k2, .int .i64 n2, .int .i64 p2, .int .i64 c2, .slice K2 l2 a2] 29))) (by go_grown)
    simpa using this
  have hB : Below w.heap.size w ((((w.alloc (.cells #[.int .i64 k1, .int .i64 n1, .int .i64 p1, .int .i64 c1, .slice K1 l1 a1] 29)).alloc (.cells #[.int .i64 k2, .int .i64 n2, .int .i64 p2, .int .i64 c2, .slice K2 l2 a2] 29)).alloc (.cells #[.int .i64 0, .int .i64 0, .int .i64 0, .int .i64 0, .slice none 0 0] 29)).alloc (.cells #[.int .i64 k1, .int .i64 n1, .int .i64 p1, .int .i64 c1, .slice K1 l1 a1, .int .i64 k2, .int .i64 n2, .int .i64 p2, .int .i64 c2, .slice K2 l2 a2] 29)) := by go_grown
  change Calls _ _ _ ((((w.alloc (.cells #[.int .i64 k1, .int .i64 n1, .int .i64 p1, .int .i64 c1, .slice K1 l1 a1] 29)).alloc (.cells #[.int .i64 k2, .int .i64 n2, .int .i64 p2, .int .i64 c2, .slice K2 l2 a2] 29)).alloc (.cells #[.int .i64 0, .int .i64 0, .int .i64 0, .int .i64 0, .slice none 0 0] 29)).alloc (.cells #[.int .i64 k1, .int .i64 n1, .int .i64 p1, .int .i64 c1, .slice K1 l1 a1, .int .i64 k2, .int .i64 n2, .int .i64 p2, .int .i64 c2, .slice K2 l2 a2] 29)) _
  generalize ((((w.alloc (.cells #[.int .i64 k1, .int .i64 n1, .int .i64 p1, .int .i64 c1, .slice K1 l1 a1] 29)).alloc (.cells #[.int .i64 k2, .int .i64 n2, .int .i64 p2, .int .i64 c2, .slice K2 l2 a2] 29)).alloc (.cells #[.int .i64 0, .int .i64 0, .int .i64 0, .int .i64 0, .slice none 0 0] 29)).alloc (.cells #[.int .i64 k1, .int .i64 n1, .int .i64 p1, .int .i64 c1, .slice K1 l1 a1, .int .i64 k2, .int .i64 n2, .int .i64 p2, .int .i64 c2, .slice K2 l2 a2] 29)) = W at hC hZ hB ⊢
  refine (nodeI_any _ _ _ _ W).mono ?_; rintro e w1 ⟨rfl, hb⟩
  have hC1 := hC.next hb
  have hZ1 := hZ.next hb
  have hB1 : Below w.heap.size w w1 := hB.trans (hb.mono hB.size)
  clear hC hZ hB hb
  have j0 : w1.cell? ⟨w.heap.size + 1 + 1, 0, none⟩ = some (.int .i64 0) := by rw [hZ1.cell]; rfl
  have g0 : w1.frozen? ⟨w.heap.size + 1 + 1, 0, none⟩ = false := hZ1.frozen _
  have j1 : w1.cell? ⟨w.heap.size + 1 + 1, 1, none⟩ = some (.int .i64 0) := by rw [hZ1.cell]; rfl
  have g1 : w1.frozen? ⟨w.heap.size + 1 + 1, 1, none⟩ = false := hZ1.frozen _
  have j2 : w1.cell? ⟨w.heap.size + 1 + 1, 2, none⟩ = some (.int .i64 0) := by rw [hZ1.cell]; rfl
  have g2 : w1.frozen? ⟨w.heap.size + 1 + 1, 2, none⟩ = false := hZ1.frozen _
  have j3 : w1.cell? ⟨w.heap.size + 1 + 1, 3, none⟩ = some (.int .i64 0) := by rw [hZ1.cell]; rfl
  have g3 : w1.frozen? ⟨w.heap.size + 1 + 1, 3, none⟩ = false := hZ1.frozen _
  have j4 : w1.cell? ⟨w.heap.size + 1 + 1, 4, none⟩ = some (.slice none 0 0) := by rw [hZ1.cell]; rfl
  have g4 : w1.frozen? ⟨w.heap.size + 1 + 1, 4, none⟩ = false := hZ1.frozen _
  have d0 := hZ1
  have d1 := d0.set_ 0 (.int .i64 3)
  have d2 := d1.set_ 1 (.int .i64 0)
  have d3 := d2.set_ 2 (.int .i64 0)
  have d4 := d3.set_ 3 (.int .i64 0)
  have d5 := d4.set_ 4 (.slice (some ⟨w.heap.size + 1 + 1 + 1, 0, none⟩) 2 2)
  have x0 := d1.cell 0
  have x1 := d2.cell 1
  have x2 := d3.cell 2
  have x3 := d4.cell 3
  have x4 := d5.cell 4
  simp only [List.set_cons_zero, List.set_cons_succ, List.getElem?_cons_zero, List.getElem?_cons_succ] at x0 x1 x2 x3 x4
  have hFC := (((((hC1.far (p := ⟨w.heap.size + 1 + 1, 0, none⟩) (by (try dsimp only); omega) (.int .i64 3)).far (p := ⟨w.heap.size + 1 + 1, 1, none⟩) (by (try dsimp only); omega) (.int .i64 0)).far (p := ⟨w.heap.size + 1 + 1, 2, none⟩) (by (try dsimp only); omega) (.int .i64 0)).far (p := ⟨w.heap.size + 1 + 1, 3, none⟩) (by (try dsimp only); omega) (.int .i64 0)).far (p := ⟨w.heap.size + 1 + 1, 4, none⟩) (by (try dsimp only); omega) (.slice (some ⟨w.heap.size + 1 + 1 + 1, 0, none⟩) 2 2))
  have hFB := (((((hB1.setCell (p := ⟨w.heap.size + 1 + 1, 0, none⟩) (by (try dsimp only); omega) (.int .i64 3)).setCell (p := ⟨w.heap.size + 1 + 1, 1, none⟩) (by (try dsimp only); omega) (.int .i64 0)).setCell (p := ⟨w.heap.size + 1 + 1, 2, none⟩) (by (try dsimp only); omega) (.int .i64 0)).setCell (p := ⟨w.heap.size + 1 + 1, 3, none⟩) (by (try dsimp only); omega) (.int .i64 0)).setCell (p := ⟨w.heap.size + 1 + 1, 4, none⟩) (by (try dsimp only); omega) (.slice (some ⟨w.heap.size + 1 + 1 + 1, 0, none⟩) 2 2))
  have HF := Lib.hid (And.intro hFC hFB)
  have HL := Lib.hid hC1.lt
  clear hC1 hZ1 hB1 hFC hFB d0 d1 d2 d3 d4 d5
  go_wp2
  refine bodyPost_ret (v := exV 3 0 0 0 (some ⟨w.heap.size + 1 + 1 + 1, 0, none⟩) 2 2) (by simp [results, Try.results15, go_sem, x0, x1, x2, x3, x4]) rfl ?_
  exact ⟨w.heap.size + 1 + 1 + 1, rfl, by omega, HF.out.1.lt, HF.out.2, HF.out.1⟩

set_option maxHeartbeats 1000000 in
theorem subI'_any (k1 n1 p1 c1 : Int) (K1 : Option Addr) (l1 a1 : Nat) (k2 n2 p2 c2 : Int) (K2 : Option Addr) (l2 a2 : Nat) (w : World) :
    Calls Try.prog 16 #[exV k1 n1 p1 c1 K1 l1 a1, exV k2 n2 p2 c2 K2 l2 a2] w fun e w' => ∃ g, e = .returned (exV 4 0 0 0 (some ⟨g, 0, none⟩) 2 2) ∧ w.heap.size ≤ g ∧ g < w'.heap.size ∧ Below w.heap.size w w' ∧
      Cells w' g 29 [.int .i64 k1, .int .i64 n1, .int .i64 p1, .int .i64 c1, .slice K1 l1 a1, .int .i64 k2, .int .i64 n2, .int .i64 p2, .int .i64 c2, .slice K2 l2 a2] := by
  go_enter Try.func16, Try.ntmps16
  go_wp2_with fail
  have hC : Cells ((((w.alloc (.cells #[.int .i64 k1, .int .i64 n1, .int .i64 p1, .int .i64 c1, .slice K1 l1 a1] 29)).alloc (.cells #[.int .i64 k2, .int .i64 n2, .int .i64 p2, .int .i64 c2, .slice K2 l2 a2] 29)).alloc (.cells #[.int .i64 0, .int .i64 0, .int .i64 0, .int .i64 0, .slice none 0 0] 29)).alloc (.cells #[.int .i64 k1, .int .i64 n1, .int .i64 p1, .int .i64 c1, .slice K1 l1 a1, .int .i64 k2, .int .i64 n2, .int .i64 p2, .int .i64 c2, .slice K2 l2 a2] 29)) (w.heap.size + 1 + 1 + 1) 29 [.int .i64 k1, .int .i64 n1, .int .i64 p1, .int .i64 c1, .slice K1 l1 a1, .int .i64 k2, .int .i64 n2, .int .i64 p2, .int .i64 c2, .slice K2 l2 a2] := by
    have := Cells.new (((w.alloc (.cells #[.int .i64 k1, .int .i64 n1, .int .i64 p1, .int .i64 c1, .slice K1 l1 a1] 29)).alloc (.cells #[.int .i64 k2, .int .i64 n2, .int .i64 p2, .int .i64 c2, .slice K2 l2 a2] 29)).alloc (.cells #[.int .i64 0, .int .i64 0, .int .i64 0, .int .i64 0, .slice none 0 0] 29)) 29 [.int .i64 k1, .int .i64 n1, .int .i64 p1, .int .i64 c1, .slice K1 l1 a1, .int .i64 k2, .int .i64 n2, .int .i64 p2, .int .i64 c2, .slice K2 l2 a2]
    simpa using this
  have hZ : Cells ((((w.alloc (.cells #[.int .i64 k1, .int .i64 n1, .int .i64 p1, .int .i64 c1, .slice K1 l1 a1] 29)).alloc (.cells #[.int .i64 k2, .int .i64 n2, .int .i64 p2, .int .i64 c2, .slice K2 l2 a2] 29)).alloc (.cells #[.int .i64 0, .int .i64 0, .int .i64 0, .int .i64 0, .slice none 0 0] 29)).alloc (.cells #[.int .i64 k1, .int .i64 n1, .int .i64 p1, .int .i64 c1, .slice K1 l1 a1, .int .i64 k2, .int .i64 n2, .int .i64 p2, .int .i64 c2, .slice K2 l2 a2] 29)) (w.heap.size + 1 + 1) 29 [.int .i64 0, .int .i64 0, .int .i64 0, .int .i64 0, .slice none 0 0] := by
    have := (Cells.new ((w.alloc (.cells #[.int .i64 k1, .int .i64 n1, .int .i64 p1, .int .i64 c1, .slice K1 l1 a1] 29)).alloc (.cells #[.int .i64 k2, .int .i64 n2, .int .i64 p2, .int .i64 c2, .slice K2 l2 a2] 29)) 29 [.int .i64 0, .int .i64 0, .int .i64 0, .int .i64 0, .slice none 0 0]).next (w' := ((((w.alloc (.cells #[.int .i64 k1, .int .i64 n1, .int .i64 p1, .int .i64 c1, .slice K1 l1 a1] 29)).alloc (.cells #[.int .i64 k2, .int .i64 n2, .int .i64 p2, .int .i64 c2, .slice K2 l2 a2] 29)).alloc (.cells #[.int .i64 0, .int .i64 0, .int .i64 0, .int .i64 0, .slice none 0 0] 29)).alloc (.cells #[.int .i64 k1, .int .i64 n1, .int .i64 p1, .int .i64 c1, .slice K1 l1 a1, .int .i64 k2, .int .i64 n2, .int .i64 p2, .int .i64 c2, .slice K2 l2 a2] 29))) (by go_grown)
    simpa using this
  have hB : Below w.heap.size w ((((w.alloc (.cells #[.int .i64 k1, .int .i64 n1, .int .i64 p1, .int .i64 c1, .slice K1 l1 a1] 29)).alloc (.cells #[.int .i64 k2, .int .i64 n2, .int .i64 p2, .int .i64 c2, .slice K2 l2 a2] 29)).alloc (.cells #[.int .i64 0, .int .i64 0, .int .i64 0, .int .i64 0, .slice none 0 0] 29)).alloc (.cells #[.int .i64 k1, .int .i64 n1, .int .i64 p1, .int .i64 c1, .slice K1 l1 a1, .int .i64 k2, .int .i64 n2, .int .i64 p2, .int .i64 c2, .slice K2 l2 a2] 29)) := by go_grown
  change Calls _ _ _ ((((w.alloc (.cells #[.int .i64 k1, .int .i64 n1, .int .i64 p1, .int .i64 c1, .slice K1 l1 a1] 29)).alloc (.cells #[.int .i64 k2, .int .i64 n2, .int .i64 p2, .int .i64 c2, .slice K2 l2 a2] 29)).alloc (.cells #[.int .i64 0, .int .i64 0, .int .i64 0, .int .i64 0, .slice none 0 0] 29)).alloc (.cells #[.int .i64 k1, .int .i64 n1, .int .i64 p1, .int .i64 c1, .slice K1 l1 a1, .int .i64 k2, .int .i64 n2, .int .i64 p2, .int .i64 c2, .slice K2 l2 a2] 29)) _
  generalize ((((w.alloc (.cells #[.int .i64 k1, .int .i64 n1, .int .i64 p1, .int .i64 c1, .slice K1 l1 a1] 29)).alloc (.cells #[.int .i64 k2, .int .i64 n2, .int .i64 p2, .int .i64 c2, .slice K2 l2 a2] 29)).alloc (.cells #[.int .i64 0, .int .i64 0, .int .i64 0, .int .i64 0, .slice none 0 0] 29)).alloc (.cells #[.int .i64 k1, .int .i64 n1, .int .i64 p1, .int .i64 c1, .slice K1 l1 a1, .int .i64 k2, .int .i64 n2, .int .i64 p2, .int .i64 c2, .slice K2 l2 a2] 29)) = W at hC hZ hB ⊢
  refine (nodeI_any _ _ _ _ W).mono ?_; rintro e w1 ⟨rfl, hb⟩
  have hC1 := hC.next hb
  have hZ1 := hZ.next hb
  have hB1 : Below w.heap.size w w1 := hB.trans (hb.mono hB.size)
  clear hC hZ hB hb
  have j0 : w1.cell? ⟨w.heap.size + 1 + 1, 0, none⟩ = some (.int .i64 0) := by rw [hZ1.cell]; rfl
  have g0 : w1.frozen? ⟨w.heap.size + 1 + 1, 0, none⟩ = false := hZ1.frozen _
  have j1 : w1.cell? ⟨w.heap.size + 1 + 1, 1, none⟩ = some (.int .i64 0) := by rw [hZ1.cell]; rfl
  have g1 : w1.frozen? ⟨w.heap.size + 1 + 1, 1, none⟩ = false := hZ1.frozen _
  have j2 : w1.cell? ⟨w.heap.size + 1 + 1, 2, none⟩ = some (.int .i64 0) := by rw [hZ1.cell]; rfl
  have g2 : w1.frozen? ⟨w.heap.size + 1 + 1, 2, none⟩ = false := hZ1.frozen _
  have j3 : w1.cell? ⟨w.heap.size + 1 + 1, 3, none⟩ = some (.int .i64 0) := by rw [hZ1.cell]; rfl
  have g3 : w1.frozen? ⟨w.heap.size + 1 + 1, 3, none⟩ = false := hZ1.frozen _
  have j4 : w1.cell? ⟨w.heap.size + 1 + 1, 4, none⟩ = some (.slice none 0 0) := by rw [hZ1.cell]; rfl
  have g4 : w1.frozen? ⟨w.heap.size + 1 + 1, 4, none⟩ = false := hZ1.frozen _
  have d0 := hZ1
  have d1 := d0.set_ 0 (.int .i64 4)
  have d2 := d1.set_ 1 (.int .i64 0)
  have d3 := d2.set_ 2 (.int .i64 0)
  have d4 := d3.set_ 3 (.int .i64 0)
  have d5 := d4.set_ 4 (.slice (some ⟨w.heap.size + 1 + 1 + 1, 0, none⟩) 2 2)
  have x0 := d1.cell 0
  have x1 := d2.cell 1
  have x2 := d3.cell 2
  have x3 := d4.cell 3
  have x4 := d5.cell 4
  simp only [List.set_cons_zero, List.set_cons_succ, List.getElem?_cons_zero, List.getElem?_cons_succ] at x0 x1 x2 x3 x4
  have hFC := (((((hC1.far (p := ⟨w.heap.size + 1 + 1, 0, none⟩) (by (try dsimp only); omega) (.int .i64 4)).far (p := ⟨w.heap.size + 1 + 1, 1, none⟩) (by (try dsimp only); omega) (.int .i64 0)).far (p := ⟨w.heap.size + 1 + 1, 2, none⟩) (by (try dsimp only); omega) (.int .i64 0)).far (p := ⟨w.heap.size + 1 + 1, 3, none⟩) (by (try dsimp only); omega) (.int .i64 0)).far (p := ⟨w.heap.size + 1 + 1, 4, none⟩) (by (try dsimp only); omega) (.slice (some ⟨w.heap.size + 1 + 1 + 1, 0, none⟩) 2 2))
  have hFB := (((((hB1.setCell (p := ⟨w.heap.size + 1 + 1, 0, none⟩) (by (try dsimp only); omega) (.int .i64 4)).setCell (p := ⟨w.heap.size + 1 + 1, 1, none⟩) (by (try dsimp only); omega) (.int .i64 0)).setCell (p := ⟨w.heap.size + 1 + 1, 2, none⟩) (by (try dsimp only); omega) (.int .i64 0)).setCell (p := ⟨w.heap.size + 1 + 1, 3, none⟩) (by (try dsimp only); omega) (.int .i64 0)).setCell (p := ⟨w.heap.size + 1 + 1, 4, none⟩) (by (try dsimp only); omega) (.slice (some ⟨w.heap.size + 1 + 1 + 1, 0, none⟩) 2 2))
  have HF := Lib.hid (And.intro hFC hFB)
  have HL := Lib.hid hC1.lt
  clear hC1 hZ1 hB1 hFC hFB d0 d1 d2 d3 d4 d5
  go_wp2
  refine bodyPost_ret (v := exV 4 0 0 0 (some ⟨w.heap.size + 1 + 1 + 1, 0, none⟩) 2 2) (by simp [results, Try.results16, go_sem, x0, x1, x2, x3, x4]) rfl ?_
  exact ⟨w.heap.size + 1 + 1 + 1, rfl, by omega, HF.out.1.lt, HF.out.2, HF.out.1⟩

set_option maxHeartbeats 1000000 in
theorem mulI'_any (k1 n1 p1 c1 : Int) (K1 : Option Addr) (l1 a1 : Nat) (k2 n2 p2 c2 : Int) (K2 : Option Addr) (l2 a2 : Nat) (w : World) :
    Calls Try.prog 17 #[exV k1 n1 p1 c1 K1 l1 a1, exV k2 n2 p2 c2 K2 l2 a2] w fun e w' => ∃ g, e = .returned (exV 5 0 0 0 (some ⟨g, 0, none⟩) 2 2) ∧ w.heap.size ≤ g ∧ g < w'.heap.size ∧ Below w.heap.size w w' ∧
      Cells w' g 29 [.int .i64 k1, .int .i64 n1, .int .i64 p1, .int .i64 c1, .slice K1 l1 a1, .int .i64 k2, .int .i64 n2, .int .i64 p2, .int .i64 c2, .slice K2 l2 a2] := by
  go_enter Try.func17, Try.ntmps17
  go_wp2_with fail
  have hC : Cells ((((w.alloc (.cells #[.int .i64 k1, .int .i64 n1, .int .i64 p1, .int .i64 c1, .slice K1 l1 a1] 29)).alloc (.cells #[.int .i64 k2, .int .i64 n2, .int .i64 p2, .int .i64 c2, .slice K2 l2 a2] 29)).alloc (.cells #[.int .i64 0, .int .i64 0, .int .i64 0, .int .i64 0, .slice none 0 0] 29)).alloc (.cells #[.int .i64 k1, .int .i64 n1, .int .i64 p1, .int .i64 c1, .slice K1 l1 a1, .int .i64 k2, .int .i64 n2, .int .i64 p2, .int .i64 c2, .slice K2 l2 a2] 29)) (w.heap.size + 1 + 1 + 1) 29 [.int .i64 k1, .int .i64 n1, .int .i64 p1, .int .i64 c1, .slice K1 l1 a1, .int .i64 k2, .int .i64 n2, .int .i64 p2, .int .i64 c2, .slice K2 l2 a2] := by
    have := Cells.new (((w.alloc (.cells #[.int .i64 k1, .int .i64 n1, .int .i64 p1, .int .i64 c1, .slice K1 l1 a1] 29)).alloc (.cells #[.int .i64 k2, .int .i64 n2, .int .i64 p2, .int .i64 c2, .slice K2 l2 a2] 29)).alloc (.cells #[.int .i64 0, .int .i64 0, .int .i64 0, .int .i64 0, .slice none 0 0] 29)) 29 [.int .i64 k1, .int .i64 n1, .int .i64 p1, .int .i64 c1, .slice K1 l1 a1, .int .i64 k2, .int .i64 n2, .int .i64 p2, .int .i64 c2, .slice K2 l2 a2]
    simpa using this
  have hZ : Cells ((((w.alloc (.cells #[.int .i64 k1, .int .i64 n1, .int .i64 p1, .int .i64 c1, .slice K1 l1 a1] 29)).alloc (.cells #[.int .i64 k2, .int .i64 n2, .int .i64 p2, .int .i64 c2, .slice K2 l2 a2] 29)).alloc (.cells #[.int .i64 0, .int .i64 0, .int .i64 0, .int .i64 0, .slice none 0 0] 29)).alloc (.cells #[.int .i64 k1, .int .i64 n1, .int .i64 p1, .int .i64 c1, .slice K1 l1 a1, .int .i64 k2, .int .i64 n2, .int .i64 p2, .int .i64 c2, .slice K2 l2 a2] 29)) (w.heap.size + 1 + 1) 29 [.int .i64 0, .int .i64 0, .int .i64 0, .int .i64 0, .slice none 0 0] := by
    have := (Cells.new ((w.alloc (.cells #[.int .i64 k1, .int .i64 n1, .int .i64 p1, .int .i64 c1, .slice K1 l1 a1] 29)).alloc (.cells #[.int .i64 k2, .int .i64 n2, .int .i64 p2, .int .i64 c2, .slice K2 l2 a2] 29)) 29 [.int .i64 0, .int .i64 0, .int .i64 0, .int .i64 0, .slice none 0 0]).next (w' := ((((w.alloc (.cells #[.int .i64 k1, .int .i64 n1, .int .i64 p1, .int .i64 c1, .slice K1 l1 a1] 29)).alloc (.cells #[.int .i64 k2, .int .i64 n2, .int .i64 p2, .int .i64 c2, .slice K2 l2 a2] 29)).alloc (.cells #[.int .i64 0, .int .i64 0, .int .i64 0, .int .i64 0, .slice none 0 0] 29)).alloc (.cells #[.int .i64 k1, .int .i64 n1, .int .i64 p1, .int .i64 c1, .slice K1 l1 a1, .int .i64 k2, .int .i64 n2, .int .i64 p2, .int .i64 c2, .slice K2 l2 a2] 29))) (by go_grown)
    simpa using this
  have hB : Below w.heap.size w ((((w.alloc (.cells #[.int .i64 k1, .int .i64 n1, .int .i64 p1, .int .i64 c1, .slice K1 l1 a1] 29)).alloc (.cells #[.int .i64 k2, .int .i64 n2, .int .i64 p2, .int .i64 c2, .slice K2 l2 a2] 29)).alloc (.cells #[.int .i64 0, .int .i64 0, .int .i64 0, .int .i64 0, .slice none 0 0] 29)).alloc (.cells #[.int .i64 k1, .int .i64 n1, .int .i64 p1, .int .i64 c1, .slice K1 l1 a1, .int .i64 k2, .int .i64 n2, .int .i64 p2, .int .i64 c2, .slice K2 l2 a2] 29)) := by go_grown
  change Calls _ _ _ ((((w.alloc (.cells #[.int .i64 k1, .int .i64 n1, .int .i64 p1, .int .i64 c1, .slice K1 l1 a1] 29)).alloc (.cells #[.int .i64 k2, .int .i64 n2, .int .i64 p2, .int .i64 c2, .slice K2 l2 a2] 29)).alloc (.cells #[.int .i64 0, .int .i64 0, .int .i64 0, .int .i64 0, .slice none 0 0] 29)).alloc (.cells #[.int .i64 k1, .int .i64 n1, .int .i64 p1, .int .i64 c1, .slice K1 l1 a1, .int .i64 k2, .int .i64 n2, .int .i64 p2, .int .i64 c2, .slice K2 l2 a2] 29)) _
  generalize ((((w.alloc (.cells #[.int .i64 k1, .int .i64 n1, .int .i64 p1, .int .i64 c1, .slice K1 l1 a1] 29)).alloc (.cells #[.int .i64 k2, .int .i64 n2, .int .i64 p2, .int .i64 c2, .slice K2 l2 a2] 29)).alloc (.cells #[.int .i64 0, .int .i64 0, .int .i64 0, .int .i64 0, .slice none 0 0] 29)).alloc (.cells #[.int .i64 k1, .int .i64 n1, .int .i64 p1, .int .i64 c1, .slice K1 l1 a1, .int .i64 k2, .int .i64 n2, .int .i64 p2, .int .i64 c2, .slice K2 l2 a2] 29)) = W at hC hZ hB ⊢
  refine (nodeI_any _ _ _ _ W).mono ?_; rintro e w1 ⟨rfl, hb⟩
  have hC1 := hC.next hb
  have hZ1 := hZ.next hb
  have hB1 : Below w.heap.size w w1 := hB.trans (hb.mono hB.size)
  clear hC hZ hB hb
  have j0 : w1.cell? ⟨w.heap.size + 1 + 1, 0, none⟩ = some (.int .i64 0) := by rw [hZ1.cell]; rfl
  have g0 : w1.frozen? ⟨w.heap.size + 1 + 1, 0, none⟩ = false := hZ1.frozen _
  have j1 : w1.cell? ⟨w.heap.size + 1 + 1, 1, none⟩ = some (.int .i64 0) := by rw [hZ1.cell]; rfl
  have g1 : w1.frozen? ⟨w.heap.size + 1 + 1, 1, none⟩ = false := hZ1.frozen _
  have j2 : w1.cell? ⟨w.heap.size + 1 + 1, 2, none⟩ = some (.int .i64 0) := by rw [hZ1.cell]; rfl
  have g2 : w1.frozen? ⟨w.heap.size + 1 + 1, 2, none⟩ = false := hZ1.frozen _
  have j3 : w1.cell? ⟨w.heap.size + 1 + 1, 3, none⟩ = some (.int .i64 0) := by rw [hZ1.cell]; rfl
  have g3 : w1.frozen? ⟨w.heap.size + 1 + 1, 3, none⟩ = false := hZ1.frozen _
  have j4 : w1.cell? ⟨w.heap.size + 1 + 1, 4, none⟩ = some (.slice none 0 0) := by rw [hZ1.cell]; rfl
  have g4 : w1.frozen? ⟨w.heap.size + 1 + 1, 4, none⟩ = false := hZ1.frozen _
  have d0 := hZ1
  have d1 := d0.set_ 0 (.int .i64 5)
  have d2 := d1.set_ 1 (.int .i64 0)
  have d3 := d2.set_ 2 (.int .i64 0)
  have d4 := d3.set_ 3 (.int .i64 0)
  have d5 := d4.set_ 4 (.slice (some ⟨w.heap.size + 1 + 1 + 1, 0, none⟩) 2 2)
  have x0 := d1.cell 0
  have x1 := d2.cell 1
  have x2 := d3.cell 2
  have x3 := d4.cell 3
  have x4 := d5.cell 4
  simp only [List.set_cons_zero, List.set_cons_succ, List.getElem?_cons_zero, List.getElem?_cons_succ] at x0 x1 x2 x3 x4
  have hFC := (((((hC1.far (p := ⟨w.heap.size + 1 + 1, 0, none⟩) (by (try dsimp only); omega) (.int .i64 5)).far (p := ⟨w.heap.size + 1 + 1, 1, none⟩) (by (try dsimp only); omega) (.int .i64 0)).far (p := ⟨w.heap.size + 1 + 1, 2, none⟩) (by (try dsimp only); omega) (.int .i64 0)).far (p := ⟨w.heap.size + 1 + 1, 3, none⟩) (by (try dsimp only); omega) (.int .i64 0)).far (p := ⟨w.heap.size + 1 + 1, 4, none⟩) (by (try dsimp only); omega) (.slice (some ⟨w.heap.size + 1 + 1 + 1, 0, none⟩) 2 2))
  have hFB := (((((hB1.setCell (p := ⟨w.heap.size + 1 + 1, 0, none⟩) (by (try dsimp only); omega) (.int .i64 5)).setCell (p := ⟨w.heap.size + 1 + 1, 1, none⟩) (by (try dsimp only); omega) (.int .i64 0)).setCell (p := ⟨w.heap.size + 1 + 1, 2, none⟩) (by (try dsimp only); omega) (.int .i64 0)).setCell (p := ⟨w.heap.size + 1 + 1, 3, none⟩) (by (try dsimp only); omega) (.int .i64 0)).setCell (p := ⟨w.heap.size + 1 + 1, 4, none⟩) (by (try dsimp only); omega) (.slice (some ⟨w.heap.size + 1 + 1 + 1, 0, none⟩) 2 2))
  have HF := Lib.hid (And.intro hFC hFB)
  have HL := Lib.hid hC1.lt
  clear hC1 hZ1 hB1 hFC hFB d0 d1 d2 d3 d4 d5
  go_wp2
  refine bodyPost_ret (v := exV 5 0 0 0 (some ⟨w.heap.size + 1 + 1 + 1, 0, none⟩) 2 2) (by simp [results, Try.results17, go_sem, x0, x1, x2, x3, x4]) rfl ?_
  exact ⟨w.heap.size + 1 + 1 + 1, rfl, by omega, HF.out.1.lt, HF.out.2, HF.out.1⟩

end Go.Proofs.Ytmcaphbngfdfiaa

/- A stack of trees made by a program: each in blocks behind those of the trees beneath it. -/
namespace Go.Proofs.Ytmcaphbngfdfiaa
open Go.RowKit Plain

/-- trees in blocks from lo on, below hi; the first of the list lies last -/
def Stk (w : World) : List (Nd × Option Addr × Nat) → Nat → Nat → Prop
  | [], lo, hi => lo ≤ hi
  | x :: r, lo, hi => ∃ m, Stk w r lo m ∧ TreeR m hi x.1.ks x.2.1 w ∧ x.1.ks.len ≤ x.2.2 ∧ x.2.2 ≤ maxLen
theorem Stk.le {w : World} : ∀ {s : List (Nd × Option Addr × Nat)} {lo hi : Nat}, Stk w s lo hi → lo ≤ hi
  | [], _, _, h => h
  | _ :: _, _, _, ⟨_, h, t, _, _⟩ => Nat.le_trans h.le t.le
theorem Stk.keep {w w' : World} : ∀ {s : List (Nd × Option Addr × Nat)} {lo hi : Nat}, Stk w s lo hi → (∀ q, lo ≤ q → q < hi → w'.heap[q]? = w.heap[q]?) → Stk w' s lo hi
  | [], _, _, h, _ => h
  | _ :: _, _, _, ⟨m, h, t, a, b⟩, hb => by
    have h1 := h.le
    have h2 := t.le
    exact ⟨m, Stk.keep h (fun q q1 q2 => hb q q1 (by omega)), t.keep (fun q q1 q2 => hb q (by omega) q2), a, b⟩
theorem Stk.wide {w : World} : ∀ {s : List (Nd × Option Addr × Nat)} {lo hi hi' : Nat}, Stk w s lo hi → hi ≤ hi' → Stk w s lo hi'
  | [], _, _, _, h, h1 => Nat.le_trans h h1
  | _ :: _, _, _, _, ⟨m, h, t, a, b⟩, h1 => ⟨m, h, t.wide (Nat.le_refl _) h1, a, b⟩
/-- a call on the two trees on top -/
theorem Stk.call2 {w w' : World} {s : List (Nd × Option Addr × Nat)} {x y : Nd} {K K' : Option Addr} {c c' lo g : Nat} {t : TypeId} (k : Int) (h : Stk w ((y, K', c') :: (x, K, c) :: s) lo w.heap.size) (hb : Below w.heap.size w w') (hg : w.heap.size ≤ g) (hg' : g < w'.heap.size) (hC : Cells w' g t (twoC x K c y K' c')) :
    Stk w' ((opXN k x y, some ⟨g, 0, none⟩, 2) :: s) lo w'.heap.size := by
  have h2 : Stk w' ((y, K', c') :: (x, K, c) :: s) lo w.heap.size := h.keep (fun q _ q2 => hb.block q q2)
  obtain ⟨m, ⟨m', h0, t0, a0, b0⟩, t1, a1, b1⟩ := h2
  exact ⟨m', h0, (treeTwo t0 t1 hg a0 b0 a1 b1 hC).wide (Nat.le_refl _) hg', by simp [opXN, twoEs, Es.len], show (2 : Nat) ≤ maxLen by unfold maxLen; omega⟩
theorem Stk.below {w w' : World} {s : List (Nd × Option Addr × Nat)} {lo hi : Nat} (h : Stk w s lo hi) (hb : Below w.heap.size w w') (hh : hi ≤ w.heap.size) : Stk w' s lo hi :=
  h.keep (fun q _ h2 => hb.block q (by omega))
theorem Stk.leaf {w : World} {s : List (Nd × Option Addr × Nat)} {lo hi : Nat} (h : Stk w s lo hi) (x : Nd) (hx : x.ks = .nil) : Stk w ((x, none, 0) :: s) lo hi :=
  ⟨hi, h, by rw [hx]; exact TreeR.nil none w (Nat.le_refl _), by rw [hx]; simp [Es.len], Nat.zero_le _⟩
theorem Stk.two {w : World} {s : List (Nd × Option Addr × Nat)} {x y : Nd} {K K' : Option Addr} {c c' lo hi g : Nat} {t : TypeId} (k : Int) (h : Stk w ((y, K', c') :: (x, K, c) :: s) lo hi) (hg : hi ≤ g) (hC : Cells w g t (twoC x K c y K' c')) :
    Stk w ((opXN k x y, some ⟨g, 0, none⟩, 2) :: s) lo (g + 1) := by
  obtain ⟨m, ⟨m', h0, t0, a0, b0⟩, t1, a1, b1⟩ := h
  exact ⟨m', h0, treeTwo t0 t1 hg a0 b0 a1 b1 hC, by simp [opXN, twoEs, Es.len], (show (2 : Nat) ≤ maxLen by unfold maxLen; omega)⟩
theorem Stk.one {w : World} {s : List (Nd × Option Addr × Nat)} {x : Nd} {K : Option Addr} {c lo hi g : Nat} {t : TypeId} (h : Stk w ((x, K, c) :: s) lo hi) (hg : hi ≤ g) (hC : Cells w g t [.int .i64 x.k, .int .i64 x.n, .int .i64 x.p, .int .i64 x.c, .slice K x.ks.len c]) :
    Stk w ((ngN x, some ⟨g, 0, none⟩, 1) :: s) lo (g + 1) := by
  obtain ⟨m, h0, ⟨b, hb, he⟩, a1, b1⟩ := h
  have h1 := he.le
  refine ⟨m, h0, ⟨g, fun _ => ⟨rfl, by omega, by omega⟩, ?_⟩, by simp [ngN, Es.len], (show (1 : Nat) ≤ maxLen by unfold maxLen; omega)⟩
  exact ⟨K, c, b, m, hi, cellsExM hC rfl rfl rfl rfl rfl, a1, b1, hb, Nat.le_refl _, .inr hg, he, by show hi ≤ g + 1; omega⟩

end Go.Proofs.Ytmcaphbngfdfiaa
