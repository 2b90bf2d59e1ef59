/- Texts put together: WStdI3. -/
import Derived.Test.YtmcaphbngfdfiaaKSZ
import Derived.Test.YtmcaphbngfdfiaaKSU

/- Walk of the program's StandardRules (printed by gen_stdi.py). -/
namespace Go.Proofs.Ytmcaphbngfdfiaa
open Go.RowKit Plain

abbrev xC5 (k n : Int) : List Value := [.int .i64 k, .int .i64 n, .int .i64 0, .int .i64 0, .slice none 0 0]
/-- the boxes of the leaves -/
def Std5 (w : World) (b : Nat) : Prop :=
  Cells w b 29 (xC5 2 0) ∧ Cells w (b + 1) 29 (xC5 2 1) ∧ Cells w (b + 1 + 1) 29 (xC5 2 2) ∧ Cells w (b + 1 + 1 + 1) 29 (xC5 1 0) ∧ Cells w (b + 1 + 1 + 1 + 1) 29 (xC5 1 1)
theorem Std5.next {w w' : World} {b : Nat} (h : Std5 w b) (hb : Below w.heap.size w w') : Std5 w' b :=
  ⟨h.1.next hb, h.2.1.next hb, h.2.2.1.next hb, h.2.2.2.1.next hb, h.2.2.2.2.next hb⟩
theorem xC5_cells {w : World} {b : Nat} {k n : Int} (h : Cells w b 29 (xC5 k n)) : w.cell? ⟨b, 0, none⟩ = some (.int .i64 k) ∧ w.cell? ⟨b, 1, none⟩ = some (.int .i64 n) ∧ w.cell? ⟨b, 2, none⟩ = some (.int .i64 0) ∧ w.cell? ⟨b, 3, none⟩ = some (.int .i64 0) ∧ w.cell? ⟨b, 4, none⟩ = some (.slice none 0 0) :=
  ⟨by rw [h.cell]; rfl, by rw [h.cell]; rfl, by rw [h.cell]; rfl, by rw [h.cell]; rfl, by rw [h.cell]; rfl⟩
/-- a call on the tree on top -/
theorem Stk.call1 {w w' : World} {s : List (Nd × Option Addr × Nat)} {x : Nd} {K : Option Addr} {c lo g : Nat} {t : TypeId} (h : Stk w ((x, K, c) :: s) lo w.heap.size) (hb : Below w.heap.size w w') (hg : w.heap.size ≤ g) (hg' : g < w'.heap.size) (hC : Cells w' g t [.int .i64 x.k, .int .i64 x.n, .int .i64 x.p, .int .i64 x.c, .slice K x.ks.len c]) :
    Stk w' ((ngN x, some ⟨g, 0, none⟩, 1) :: s) lo w'.heap.size :=
  ((h.below hb (Nat.le_refl _)).one hg hC).wide hg'

/-- a rule with its sides' trees -/
abbrev RuP := Int × (Nd × Option Addr × Nat) × (Nd × Option Addr × Nat)
def RuP.ru (p : RuP) : Int × Nd × Nd := (p.1, p.2.1.1, p.2.2.1)
def ruC (p : RuP) : List Value := [.int .i64 p.1, .int .i64 p.2.1.1.k, .int .i64 p.2.1.1.n, .int .i64 p.2.1.1.p, .int .i64 p.2.1.1.c, .slice p.2.1.2.1 p.2.1.1.ks.len p.2.1.2.2,
  .int .i64 p.2.2.1.k, .int .i64 p.2.2.1.n, .int .i64 p.2.2.1.p, .int .i64 p.2.2.1.c, .slice p.2.2.2.1 p.2.2.1.ks.len p.2.2.2.2]
def stkOf : List RuP → List (Nd × Option Addr × Nat)
  | [] => []
  | p :: r => p.2.2 :: p.2.1 :: stkOf r
theorem stk_rus {w : World} {b : Nat} {t : TypeId} {C : List Value} (hC : Cells w b t C) : ∀ (ps : List RuP) {lo hi : Nat}, Stk w (stkOf ps) lo hi → (∀ i p, ps.reverse[i]? = some p → ∀ j, j < 11 → C[i * 11 + j]? = (ruC p)[j]?) → RusG w (ps.reverse.map RuP.ru) lo hi b 0
  | [], _, _, h, _ => h
  | p :: r, lo, hi, ⟨m, ⟨m', h0, t1, a1, b1⟩, t2, a2, b2⟩, hq => by
    have ih := stk_rus hC r h0 (fun i q hi => hq i q (by rw [List.reverse_cons, List.getElem?_append_left (List.getElem?_eq_some_iff.1 hi).1]; exact hi))
    have hp := hq r.length p (by rw [List.reverse_cons, List.getElem?_append_right (by simp)]; simp)
    rw [List.reverse_cons, List.map_append]
    refine ih.app ?_
    have e : 0 + (r.reverse.map RuP.ru).length * 11 = r.length * 11 := by simp
    rw [e]
    have cl : ∀ j v, j < 11 → (ruC p)[j]? = some v → w.cell? ⟨b, r.length * 11 + j, none⟩ = some v := fun j v hj hv => by rw [hC.cell, hp j hj]; exact hv
    refine ⟨p.2.1.2.1, p.2.1.2.2, p.2.2.2.1, p.2.2.2.2, m, hi, ⟨⟨cl 0 _ (by omega) rfl, ⟨⟨cl 1 _ (by omega) rfl, cl 2 _ (by omega) rfl, cl 3 _ (by omega) rfl, cl 4 _ (by omega) rfl, cl 5 _ (by omega) rfl⟩, fun i _ => hC.frozen _⟩, ⟨⟨cl 6 _ (by omega) rfl, cl 7 _ (by omega) rfl, cl 8 _ (by omega) rfl, cl 9 _ (by omega) rfl, cl 10 _ (by omega) rfl⟩, fun i _ => hC.frozen _⟩⟩, hC.frozen _⟩, ⟨a1, b1⟩, ⟨a2, b2⟩, t1, t2, Nat.le_refl _⟩

theorem ld5 {a : Act} {o : Oper} {x : Operand} {w : World} {b : Nat} {k n : Int} (ho : o.op = .load 29 x) (hx : a.eval x = .pointer (some ⟨b, 0, none⟩)) (h : Cells w b 29 (xC5 k n)) : (execOp a.eval o).run Try.prog w = .ok (.value (exV k n 0 0 none 0 0)) w := by
  obtain ⟨x0, x1, x2, x3, x4⟩ := xC5_cells h
  unfold execOp
  rw [ho]
  simp only [hx]
  go_simp
theorem flatR_get : ∀ {l : List RuP} {i : Nat} {p : RuP} {j : Nat}, l[i]? = some p → j < 11 → ((l.map ruC).flatten)[i * 11 + j]? = (ruC p)[j]?
  | [], _, _, _, h, _ => by simp at h
  | q :: l, 0, p, j, h, hj => by
    simp only [List.getElem?_cons_zero, Option.some.injEq] at h
    subst h
    rw [List.map_cons, List.flatten_cons, Nat.zero_mul, Nat.zero_add, List.getElem?_append_left (by simpa [ruC] using hj)]
  | q :: l, i + 1, p, j, h, hj => by
    rw [List.map_cons, List.flatten_cons, List.getElem?_append_right (by simp [ruC]; omega), show (i + 1) * 11 + j - (ruC q).length = i * 11 + j by simp [ruC]; omega]
    exact flatR_get h hj
theorem stdEnd {w u : World} {ps : List RuP} {rs : List (Int × Nd × Nd)} {lo : Nat} (hK : Stk u (stkOf ps) lo u.heap.size) (hB : Below w.heap.size w u) (hL : w.heap.size ≤ lo) (hr : ps.reverse.map RuP.ru = rs) :
    RetRu rs w (.returned (.slice (some ⟨u.heap.size, 0, none⟩) rs.length rs.length)) (u.alloc (.cells ((ps.reverse.map ruC).flatten).toArray 31)) := by
  subst hr
  have hC := Cells.new u 31 ((ps.reverse.map ruC).flatten)
  have hb : Below u.heap.size u (u.alloc (.cells ((ps.reverse.map ruC).flatten).toArray 31)) := by go_grown
  exact ⟨_, u.heap.size, lo, u.heap.size, rfl, stk_rus hC ps (hK.below hb (Nat.le_refl _)) (fun i p hi j hj => flatR_get hi hj), .inr (Nat.le_refl _), hB.size, hC.lt, hL, hb.size, bnext hB hb⟩

set_option maxRecDepth 100000 in
set_option maxHeartbeats 8000000 in
theorem stdI_any (w : World) : Calls Try.prog 5 #[] w (RetRu stdRules w) := by
  obtain ⟨rs, hrs⟩ : ∃ rs, rs = stdRules := ⟨_, rfl⟩
  rw [← hrs]
  have HRS := Lib.hid hrs
  clear hrs
  go_enter Try.func5, Try.ntmps5
  go_wp2_with fail
  refine (varI_any 0 w).mono ?_; rintro e w1 ⟨rfl, hb1⟩
  have HB1 := Lib.hid hb1
  clear hb1
  go_wp2_with fail
  refine (varI_any 1 w1).mono ?_; rintro e w2 ⟨rfl, hb2⟩
  have HB2 := Lib.hid (bnext HB1.out hb2)
  clear hb2
  go_wp2_with fail
  refine (varI_any 2 w2).mono ?_; rintro e w3 ⟨rfl, hb3⟩
  have HB3 := Lib.hid (bnext HB2.out hb3)
  clear hb3
  go_wp2_with fail
  refine (numI_any 0 w3).mono ?_; rintro e w4 ⟨rfl, hb4⟩
  have HB4 := Lib.hid (bnext HB3.out hb4)
  clear hb4
  go_wp2_with fail
  refine (numI_any 1 w4).mono ?_; rintro e w5 ⟨rfl, hb5⟩
  have HB5 := Lib.hid (bnext HB4.out hb5)
  clear hb5
  go_upto_region 6 with fail
  have hX : Std5 (((((w5.alloc (.cells #[.int .i64 2, .int .i64 0, .int .i64 0, .int .i64 0, .slice none 0 0] 29)).alloc (.cells #[.int .i64 2, .int .i64 1, .int .i64 0, .int .i64 0, .slice none 0 0] 29)).alloc (.cells #[.int .i64 2, .int .i64 2, .int .i64 0, .int .i64 0, .slice none 0 0] 29)).alloc (.cells #[.int .i64 1, .int .i64 0, .int .i64 0, .int .i64 0, .slice none 0 0] 29)).alloc (.cells #[.int .i64 1, .int .i64 1, .int .i64 0, .int .i64 0, .slice none 0 0] 29)) w5.heap.size := by
    refine ⟨?_, ?_, ?_, ?_, ?_⟩
    · have := (Cells.new w5 29 (xC5 2 0)).next (w' := (((((w5.alloc (.cells #[.int .i64 2, .int .i64 0, .int .i64 0, .int .i64 0, .slice none 0 0] 29)).alloc (.cells #[.int .i64 2, .int .i64 1, .int .i64 0, .int .i64 0, .slice none 0 0] 29)).alloc (.cells #[.int .i64 2, .int .i64 2, .int .i64 0, .int .i64 0, .slice none 0 0] 29)).alloc (.cells #[.int .i64 1, .int .i64 0, .int .i64 0, .int .i64 0, .slice none 0 0] 29)).alloc (.cells #[.int .i64 1, .int .i64 1, .int .i64 0, .int .i64 0, .slice none 0 0] 29))) (by go_grown)
      simpa using this
    · have := (Cells.new (w5.alloc (.cells #[.int .i64 2, .int .i64 0, .int .i64 0, .int .i64 0, .slice none 0 0] 29)) 29 (xC5 2 1)).next (w' := (((((w5.alloc (.cells #[.int .i64 2, .int .i64 0, .int .i64 0, .int .i64 0, .slice none 0 0] 29)).alloc (.cells #[.int .i64 2, .int .i64 1, .int .i64 0, .int .i64 0, .slice none 0 0] 29)).alloc (.cells #[.int .i64 2, .int .i64 2, .int .i64 0, .int .i64 0, .slice none 0 0] 29)).alloc (.cells #[.int .i64 1, .int .i64 0, .int .i64 0, .int .i64 0, .slice none 0 0] 29)).alloc (.cells #[.int .i64 1, .int .i64 1, .int .i64 0, .int .i64 0, .slice none 0 0] 29))) (by go_grown)
      simpa using this
    · have := (Cells.new ((w5.alloc (.cells #[.int .i64 2, .int .i64 0, .int .i64 0, .int .i64 0, .slice none 0 0] 29)).alloc (.cells #[.int .i64 2, .int .i64 1, .int .i64 0, .int .i64 0, .slice none 0 0] 29)) 29 (xC5 2 2)).next (w' := (((((w5.alloc (.cells #[.int .i64 2, .int .i64 0, .int .i64 0, .int .i64 0, .slice none 0 0] 29)).alloc (.cells #[.int .i64 2, .int .i64 1, .int .i64 0, .int .i64 0, .slice none 0 0] 29)).alloc (.cells #[.int .i64 2, .int .i64 2, .int .i64 0, .int .i64 0, .slice none 0 0] 29)).alloc (.cells #[.int .i64 1, .int .i64 0, .int .i64 0, .int .i64 0, .slice none 0 0] 29)).alloc (.cells #[.int .i64 1, .int .i64 1, .int .i64 0, .int .i64 0, .slice none 0 0] 29))) (by go_grown)
      simpa using this
    · have := (Cells.new (((w5.alloc (.cells #[.int .i64 2, .int .i64 0, .int .i64 0, .int .i64 0, .slice none 0 0] 29)).alloc (.cells #[.int .i64 2, .int .i64 1, .int .i64 0, .int .i64 0, .slice none 0 0] 29)).alloc (.cells #[.int .i64 2, .int .i64 2, .int .i64 0, .int .i64 0, .slice none 0 0] 29)) 29 (xC5 1 0)).next (w' := (((((w5.alloc (.cells #[.int .i64 2, .int .i64 0, .int .i64 0, .int .i64 0, .slice none 0 0] 29)).alloc (.cells #[.int .i64 2, .int .i64 1, .int .i64 0, .int .i64 0, .slice none 0 0] 29)).alloc (.cells #[.int .i64 2, .int .i64 2, .int .i64 0, .int .i64 0, .slice none 0 0] 29)).alloc (.cells #[.int .i64 1, .int .i64 0, .int .i64 0, .int .i64 0, .slice none 0 0] 29)).alloc (.cells #[.int .i64 1, .int .i64 1, .int .i64 0, .int .i64 0, .slice none 0 0] 29))) (by go_grown)
      simpa using this
    · have := Cells.new ((((w5.alloc (.cells #[.int .i64 2, .int .i64 0, .int .i64 0, .int .i64 0, .slice none 0 0] 29)).alloc (.cells #[.int .i64 2, .int .i64 1, .int .i64 0, .int .i64 0, .slice none 0 0] 29)).alloc (.cells #[.int .i64 2, .int .i64 2, .int .i64 0, .int .i64 0, .slice none 0 0] 29)).alloc (.cells #[.int .i64 1, .int .i64 0, .int .i64 0, .int .i64 0, .slice none 0 0] 29)) 29 (xC5 1 1)
      simpa using this
  have hY : Below w.heap.size w (((((w5.alloc (.cells #[.int .i64 2, .int .i64 0, .int .i64 0, .int .i64 0, .slice none 0 0] 29)).alloc (.cells #[.int .i64 2, .int .i64 1, .int .i64 0, .int .i64 0, .slice none 0 0] 29)).alloc (.cells #[.int .i64 2, .int .i64 2, .int .i64 0, .int .i64 0, .slice none 0 0] 29)).alloc (.cells #[.int .i64 1, .int .i64 0, .int .i64 0, .int .i64 0, .slice none 0 0] 29)).alloc (.cells #[.int .i64 1, .int .i64 1, .int .i64 0, .int .i64 0, .slice none 0 0] 29)) := bnext HB5.out (by go_grown)
  change Code.wp _ _ _ _ (((((w5.alloc (.cells #[.int .i64 2, .int .i64 0, .int .i64 0, .int .i64 0, .slice none 0 0] 29)).alloc (.cells #[.int .i64 2, .int .i64 1, .int .i64 0, .int .i64 0, .slice none 0 0] 29)).alloc (.cells #[.int .i64 2, .int .i64 2, .int .i64 0, .int .i64 0, .slice none 0 0] 29)).alloc (.cells #[.int .i64 1, .int .i64 0, .int .i64 0, .int .i64 0, .slice none 0 0] 29)).alloc (.cells #[.int .i64 1, .int .i64 1, .int .i64 0, .int .i64 0, .slice none 0 0] 29))
  generalize (((((w5.alloc (.cells #[.int .i64 2, .int .i64 0, .int .i64 0, .int .i64 0, .slice none 0 0] 29)).alloc (.cells #[.int .i64 2, .int .i64 1, .int .i64 0, .int .i64 0, .slice none 0 0] 29)).alloc (.cells #[.int .i64 2, .int .i64 2, .int .i64 0, .int .i64 0, .slice none 0 0] 29)).alloc (.cells #[.int .i64 1, .int .i64 0, .int .i64 0, .int .i64 0, .slice none 0 0] 29)).alloc (.cells #[.int .i64 1, .int .i64 1, .int .i64 0, .int .i64 0, .slice none 0 0] 29)) = u0 at hX hY ⊢
  obtain ⟨b, hb⟩ : ∃ b, b = w5.heap.size := ⟨_, rfl⟩
  rw [← hb] at hX ⊢
  clear hb HB1 HB2 HB3 HB4 HB5
  have HX := Lib.hid hX
  have HB := Lib.hid hY
  have HK : Hid (Stk u0 [] u0.heap.size u0.heap.size) := Nat.le_refl _
  have HZ := Lib.hid (show u0.heap.size ≤ u0.heap.size from Nat.le_refl _)
  clear hX hY HZ
  have HL : Hid (w.heap.size ≤ u0.heap.size) := HB.out.size
  obtain ⟨lo, hlo⟩ : ∃ lo, lo = u0.heap.size := ⟨_, rfl⟩
  replace HK : Hid (Stk u0 [] lo u0.heap.size) := by rw [hlo]; exact HK.out
  rw [← hlo] at HL
  clear hlo
  have HXD : Hid (Std5 u0.drew b) := ⟨HX.out.1.drewN 1, HX.out.2.1.drewN 1, HX.out.2.2.1.drewN 1, HX.out.2.2.2.1.drewN 1, HX.out.2.2.2.2.drewN 1⟩
  have HBD : Hid (Below w.heap.size w u0.drew) := HB.out.drew
  have HKD : Hid (Stk u0.drew [] lo u0.drew.heap.size) := HK.out
  obtain ⟨A0, hA0⟩ : ∃ A : Act, A = ⟨#[.slice none 0 0, .pointer (some ⟨b, 0, none⟩), .pointer (some ⟨b + 1, 0, none⟩), .pointer (some ⟨b + 1 + 1, 0, none⟩), .pointer (some ⟨b + 1 + 1 + 1, 0, none⟩), .pointer (some ⟨b + 1 + 1 + 1 + 1, 0, none⟩), .func (.func 13) #[] #[], .func (.func 15) #[] #[], .func (.func 16) #[] #[], .func (.func 17) #[] #[], exV 2 0 0 0 none 0 0, exV 2 1 0 0 none 0 0, exV 2 2 0 0 none 0 0, exV 1 0 0 0 none 0 0, exV 1 1 0 0 none 0 0, .func (.func 15) #[] #[], exV 2 0 0 0 none 0 0, exV 1 0 0 0 none 0 0, undef, exV 2 0 0 0 none 0 0, undef, .func (.func 15) #[] #[], exV 1 0 0 0 none 0 0, exV 2 0 0 0 none 0 0, undef, exV 2 0 0 0 none 0 0, undef, .func (.func 16) #[] #[], exV 2 0 0 0 none 0 0, exV 1 0 0 0 none 0 0, undef, exV 2 0 0 0 none 0 0, undef, .func (.func 16) #[] #[], exV 1 0 0 0 none 0 0, exV 2 0 0 0 none 0 0, undef, .func (.func 13) #[] #[], exV 2 0 0 0 none 0 0, undef, undef, .func (.func 17) #[] #[], exV 2 0 0 0 none 0 0, exV 1 1 0 0 none 0 0, undef, exV 2 0 0 0 none 0 0, undef, .func (.func 17) #[] #[], exV 1 1 0 0 none 0 0, exV 2 0 0 0 none 0 0, undef, exV 2 0 0 0 none 0 0, undef, .func (.func 17) #[] #[], exV 2 0 0 0 none 0 0, exV 1 0 0 0 none 0 0, undef, exV 1 0 0 0 none 0 0, undef, .func (.func 17) #[] #[], exV 1 0 0 0 none 0 0, exV 2 0 0 0 none 0 0, undef, exV 1 0 0 0 none 0 0, undef, .func (.func 13) #[] #[], .func (.func 13) #[] #[], exV 2 0 0 0 none 0 0, undef, undef, exV 2 0 0 0 none 0 0, undef, .func (.func 15) #[] #[], exV 2 0 0 0 none 0 0, .func (.func 13) #[] #[], exV 2 1 0 0 none 0 0, undef, undef, .func (.func 16) #[] #[], exV 2 0 0 0 none 0 0, exV 2 1 0 0 none 0 0, undef, undef, .func (.func 16) #[] #[], exV 2 0 0 0 none 0 0, .func (.func 13) #[] #[], exV 2 1 0 0 none 0 0, undef, undef, .func (.func 15) #[] #[], exV 2 0 0 0 none 0 0, exV 2 1 0 0 none 0 0, undef, undef, .func (.func 17) #[] #[], .func (.func 13) #[] #[], exV 2 0 0 0 none 0 0, undef, .func (.func 13) #[] #[], exV 2 1 0 0 none 0 0, undef, undef, .func (.func 17) #[] #[], exV 2 0 0 0 none 0 0, exV 2 1 0 0 none 0 0, undef, undef, .func (.func 16) #[] #[], exV 2 0 0 0 none 0 0, exV 2 0 0 0 none 0 0, undef, exV 1 0 0 0 none 0 0, undef, .func (.func 15) #[] #[], .func (.func 17) #[] #[], exV 2 0 0 0 none 0 0, exV 2 1 0 0 none 0 0, undef, .func (.func 17) #[] #[], exV 2 0 0 0 none 0 0, exV 2 2 0 0 none 0 0, undef, undef, .func (.func 17) #[] #[], exV 2 0 0 0 none 0 0, .func (.func 15) #[] #[], exV 2 1 0 0 none 0 0, exV 2 2 0 0 none 0 0, undef, undef, undef, .func (.func 15) #[] #[], .func (.func 17) #[] #[], exV 2 0 0 0 none 0 0, exV 2 2 0 0 none 0 0, undef, .func (.func 17) #[] #[], exV 2 1 0 0 none 0 0, exV 2 2 0 0 none 0 0, undef, undef, .func (.func 17) #[] #[], .func (.func 15) #[] #[], exV 2 0 0 0 none 0 0, exV 2 1 0 0 none 0 0, undef, exV 2 2 0 0 none 0 0, undef, undef, .func (.func 16) #[] #[], .func (.func 17) #[] #[], exV 2 0 0 0 none 0 0, exV 2 1 0 0 none 0 0, undef, .func (.func 17) #[] #[], exV 2 0 0 0 none 0 0, exV 2 2 0 0 none 0 0, undef, undef, .func (.func 17) #[] #[], exV 2 0 0 0 none 0 0, .func (.func 16) #[] #[], exV 2 1 0 0 none 0 0, exV 2 2 0 0 none 0 0, undef, undef, undef, undef], []⟩ := ⟨_, rfl⟩
  refine RegE.startAll (S := fun wx => Std5 wx b) 153 15 0 [(0, .func (.func 15) #[] #[]), (1, exV 2 0 0 0 none 0 0), (2, exV 1 0 0 0 none 0 0), (4, exV 2 0 0 0 none 0 0), (6, .func (.func 15) #[] #[]), (7, exV 1 0 0 0 none 0 0), (8, exV 2 0 0 0 none 0 0), (10, exV 2 0 0 0 none 0 0), (12, .func (.func 16) #[] #[]), (13, exV 2 0 0 0 none 0 0), (14, exV 1 0 0 0 none 0 0), (16, exV 2 0 0 0 none 0 0), (18, .func (.func 16) #[] #[]), (19, exV 1 0 0 0 none 0 0), (20, exV 2 0 0 0 none 0 0), (22, .func (.func 13) #[] #[]), (23, exV 2 0 0 0 none 0 0), (26, .func (.func 17) #[] #[]), (27, exV 2 0 0 0 none 0 0), (28, exV 1 1 0 0 none 0 0), (30, exV 2 0 0 0 none 0 0), (32, .func (.func 17) #[] #[]), (33, exV 1 1 0 0 none 0 0), (34, exV 2 0 0 0 none 0 0), (36, exV 2 0 0 0 none 0 0), (38, .func (.func 17) #[] #[]), (39, exV 2 0 0 0 none 0 0), (40, exV 1 0 0 0 none 0 0), (42, exV 1 0 0 0 none 0 0), (44, .func (.func 17) #[] #[]), (45, exV 1 0 0 0 none 0 0), (46, exV 2 0 0 0 none 0 0), (48, exV 1 0 0 0 none 0 0), (50, .func (.func 13) #[] #[]), (51, .func (.func 13) #[] #[]), (52, exV 2 0 0 0 none 0 0), (55, exV 2 0 0 0 none 0 0), (57, .func (.func 15) #[] #[]), (58, exV 2 0 0 0 none 0 0), (59, .func (.func 13) #[] #[]), (60, exV 2 1 0 0 none 0 0), (63, .func (.func 16) #[] #[]), (64, exV 2 0 0 0 none 0 0), (65, exV 2 1 0 0 none 0 0), (68, .func (.func 16) #[] #[]), (69, exV 2 0 0 0 none 0 0), (70, .func (.func 13) #[] #[]), (71, exV 2 1 0 0 none 0 0), (74, .func (.func 15) #[] #[]), (75, exV 2 0 0 0 none 0 0), (76, exV 2 1 0 0 none 0 0), (79, .func (.func 17) #[] #[]), (80, .func (.func 13) #[] #[]), (81, exV 2 0 0 0 none 0 0), (83, .func (.func 13) #[] #[]), (84, exV 2 1 0 0 none 0 0), (87, .func (.func 17) #[] #[]), (88, exV 2 0 0 0 none 0 0), (89, exV 2 1 0 0 none 0 0), (92, .func (.func 16) #[] #[]), (93, exV 2 0 0 0 none 0 0), (94, exV 2 0 0 0 none 0 0), (96, exV 1 0 0 0 none 0 0), (98, .func (.func 15) #[] #[]), (99, .func (.func 17) #[] #[]), (100, exV 2 0 0 0 none 0 0), (101, exV 2 1 0 0 none 0 0), (103, .func (.func 17) #[] #[]), (104, exV 2 0 0 0 none 0 0), (105, exV 2 2 0 0 none 0 0), (108, .func (.func 17) #[] #[]), (109, exV 2 0 0 0 none 0 0), (110, .func (.func 15) #[] #[]), (111, exV 2 1 0 0 none 0 0), (112, exV 2 2 0 0 none 0 0), (116, .func (.func 15) #[] #[]), (117, .func (.func 17) #[] #[]), (118, exV 2 0 0 0 none 0 0), (119, exV 2 2 0 0 none 0 0), (121, .func (.func 17) #[] #[]), (122, exV 2 1 0 0 none 0 0), (123, exV 2 2 0 0 none 0 0), (126, .func (.func 17) #[] #[]), (127, .func (.func 15) #[] #[]), (128, exV 2 0 0 0 none 0 0), (129, exV 2 1 0 0 none 0 0), (131, exV 2 2 0 0 none 0 0), (134, .func (.func 16) #[] #[]), (135, .func (.func 17) #[] #[]), (136, exV 2 0 0 0 none 0 0), (137, exV 2 1 0 0 none 0 0), (139, .func (.func 17) #[] #[]), (140, exV 2 0 0 0 none 0 0), (141, exV 2 2 0 0 none 0 0), (144, .func (.func 17) #[] #[]), (145, exV 2 0 0 0 none 0 0), (146, .func (.func 16) #[] #[]), (147, exV 2 1 0 0 none 0 0), (148, exV 2 2 0 0 none 0 0)] 55 #[true, true, true, false, true, false, true, true, true, false, true, false, true, true, true, false, true, false, true, true, true, false, true, true, false, false, true, true, true, false, true, false, true, true, true, false, true, false, true, true, true, false, true, false, true, true, true, false, true, false, true, true, true, false, false, true, false, true, true, true, true, false, false, true, true, true, false, false, true, true, true, true, false, false, true, true, true, false, false, true, true, true, false, true, true, false, false, true, true, true, false, false, true, true, true, false, true, false, true, true, true, true, false, true, true, true, false, false, true, true, true, true, true, false, false, false, true, true, true, true, false, true, true, true, false, false, true, true, true, true, false, true, false, false, true, true, true, true, false, true, true, true, false, false, true, true, true, true, true, false, false, false, false, false] A0 (by as_aux_lemma => kernel_rfl) (by as_aux_lemma => kernel_rfl) (by as_aux_lemma => kernel_rfl) (by as_aux_lemma => kernel_rfl) (by as_aux_lemma => kernel_rfl) (by as_aux_lemma => kernel_rfl) (by rw [hA0]; as_aux_lemma => kernel_rfl) (fun _ _ dst _ _ h => by cases dst <;> exact h) ?ya HXD.out (fun hHeld hB hA => ?_)
  case ya =>
    refine ⟨⟨_, rfl, Or.inl ⟨by as_aux_lemma => kernel_rfl, fun _ _ => by as_aux_lemma => kernel_rfl⟩⟩, ⟨_, rfl, Or.inl ⟨by as_aux_lemma => kernel_rfl, fun _ h => ld5 rfl (by as_aux_lemma => kernel_rfl) h.1⟩⟩, ⟨_, rfl, Or.inl ⟨by as_aux_lemma => kernel_rfl, fun _ h => ld5 rfl (by as_aux_lemma => kernel_rfl) h.2.2.2.1⟩⟩, ⟨_, rfl, Or.inl ⟨by as_aux_lemma => kernel_rfl, fun _ h => ld5 rfl (by as_aux_lemma => kernel_rfl) h.1⟩⟩, ⟨_, rfl, Or.inl ⟨by as_aux_lemma => kernel_rfl, fun _ _ => by as_aux_lemma => kernel_rfl⟩⟩, ⟨_, rfl, Or.inl ⟨by as_aux_lemma => kernel_rfl, fun _ h => ld5 rfl (by as_aux_lemma => kernel_rfl) h.2.2.2.1⟩⟩, ⟨_, rfl, Or.inl ⟨by as_aux_lemma => kernel_rfl, fun _ h => ld5 rfl (by as_aux_lemma => kernel_rfl) h.1⟩⟩, ⟨_, rfl, Or.inl ⟨by as_aux_lemma => kernel_rfl, fun _ h => ld5 rfl (by as_aux_lemma => kernel_rfl) h.1⟩⟩, ⟨_, rfl, Or.inl ⟨by as_aux_lemma => kernel_rfl, fun _ _ => by as_aux_lemma => kernel_rfl⟩⟩, ⟨_, rfl, Or.inl ⟨by as_aux_lemma => kernel_rfl, fun _ h => ld5 rfl (by as_aux_lemma => kernel_rfl) h.1⟩⟩, ⟨_, rfl, Or.inl ⟨by as_aux_lemma => kernel_rfl, fun _ h => ld5 rfl (by as_aux_lemma => kernel_rfl) h.2.2.2.1⟩⟩, ⟨_, rfl, Or.inl ⟨by as_aux_lemma => kernel_rfl, fun _ h => ld5 rfl (by as_aux_lemma => kernel_rfl) h.1⟩⟩, ⟨_, rfl, Or.inl ⟨by as_aux_lemma => kernel_rfl, fun _ _ => by as_aux_lemma => kernel_rfl⟩⟩, ⟨_, rfl, Or.inl ⟨by as_aux_lemma => kernel_rfl, fun _ h => ld5 rfl (by as_aux_lemma => kernel_rfl) h.2.2.2.1⟩⟩, ⟨_, rfl, Or.inl ⟨by as_aux_lemma => kernel_rfl, fun _ h => ld5 rfl (by as_aux_lemma => kernel_rfl) h.1⟩⟩, ⟨_, rfl, Or.inl ⟨by as_aux_lemma => kernel_rfl, fun _ _ => by as_aux_lemma => kernel_rfl⟩⟩, ⟨_, rfl, Or.inl ⟨by as_aux_lemma => kernel_rfl, fun _ h => ld5 rfl (by as_aux_lemma => kernel_rfl) h.1⟩⟩, ⟨_, rfl, Or.inl ⟨by as_aux_lemma => kernel_rfl, fun _ _ => by as_aux_lemma => kernel_rfl⟩⟩, ⟨_, rfl, Or.inl ⟨by as_aux_lemma => kernel_rfl, fun _ h => ld5 rfl (by as_aux_lemma => kernel_rfl) h.1⟩⟩, ⟨_, rfl, Or.inl ⟨by as_aux_lemma => kernel_rfl, fun _ h => ld5 rfl (by as_aux_lemma => kernel_rfl) h.2.2.2.2⟩⟩, ⟨_, rfl, Or.inl ⟨by as_aux_lemma => kernel_rfl, fun _ h => ld5 rfl (by as_aux_lemma => kernel_rfl) h.1⟩⟩, ⟨_, rfl, Or.inl ⟨by as_aux_lemma => kernel_rfl, fun _ _ => by as_aux_lemma => kernel_rfl⟩⟩, ⟨_, rfl, Or.inl ⟨by as_aux_lemma => kernel_rfl, fun _ h => ld5 rfl (by as_aux_lemma => kernel_rfl) h.2.2.2.2⟩⟩, ⟨_, rfl, Or.inl ⟨by as_aux_lemma => kernel_rfl, fun _ h => ld5 rfl (by as_aux_lemma => kernel_rfl) h.1⟩⟩, ⟨_, rfl, Or.inl ⟨by as_aux_lemma => kernel_rfl, fun _ h => ld5 rfl (by as_aux_lemma => kernel_rfl) h.1⟩⟩, ⟨_, rfl, Or.inl ⟨by as_aux_lemma => kernel_rfl, fun _ _ => by as_aux_lemma => kernel_rfl⟩⟩, ⟨_, rfl, Or.inl ⟨by as_aux_lemma => kernel_rfl, fun _ h => ld5 rfl (by as_aux_lemma => kernel_rfl) h.1⟩⟩, ⟨_, rfl, Or.inl ⟨by as_aux_lemma => kernel_rfl, fun _ h => ld5 rfl (by as_aux_lemma => kernel_rfl) h.2.2.2.1⟩⟩, ⟨_, rfl, Or.inl ⟨by as_aux_lemma => kernel_rfl, fun _ h => ld5 rfl (by as_aux_lemma => kernel_rfl) h.2.2.2.1⟩⟩, ⟨_, rfl, Or.inl ⟨by as_aux_lemma => kernel_rfl, fun _ _ => by as_aux_lemma => kernel_rfl⟩⟩, ⟨_, rfl, Or.inl ⟨by as_aux_lemma => kernel_rfl, fun _ h => ld5 rfl (by as_aux_lemma => kernel_rfl) h.2.2.2.1⟩⟩, ⟨_, rfl, Or.inl ⟨by as_aux_lemma => kernel_rfl, fun _ h => ld5 rfl (by as_aux_lemma => kernel_rfl) h.1⟩⟩, ⟨_, rfl, Or.inl ⟨by as_aux_lemma => kernel_rfl, fun _ h => ld5 rfl (by as_aux_lemma => kernel_rfl) h.2.2.2.1⟩⟩, ⟨_, rfl, Or.inl ⟨by as_aux_lemma => kernel_rfl, fun _ _ => by as_aux_lemma => kernel_rfl⟩⟩, ⟨_, rfl, Or.inl ⟨by as_aux_lemma => kernel_rfl, fun _ _ => by as_aux_lemma => kernel_rfl⟩⟩, ⟨_, rfl, Or.inl ⟨by as_aux_lemma => kernel_rfl, fun _ h => ld5 rfl (by as_aux_lemma => kernel_rfl) h.1⟩⟩, ⟨_, rfl, Or.inl ⟨by as_aux_lemma => kernel_rfl, fun _ h => ld5 rfl (by as_aux_lemma => kernel_rfl) h.1⟩⟩, ⟨_, rfl, Or.inl ⟨by as_aux_lemma => kernel_rfl, fun _ _ => by as_aux_lemma => kernel_rfl⟩⟩, ⟨_, rfl, Or.inl ⟨by as_aux_lemma => kernel_rfl, fun _ h => ld5 rfl (by as_aux_lemma => kernel_rfl) h.1⟩⟩, ⟨_, rfl, Or.inl ⟨by as_aux_lemma => kernel_rfl, fun _ _ => by as_aux_lemma => kernel_rfl⟩⟩, ⟨_, rfl, Or.inl ⟨by as_aux_lemma => kernel_rfl, fun _ h => ld5 rfl (by as_aux_lemma => kernel_rfl) h.2.1⟩⟩, ⟨_, rfl, Or.inl ⟨by as_aux_lemma => kernel_rfl, fun _ _ => by as_aux_lemma => kernel_rfl⟩⟩, ⟨_, rfl, Or.inl ⟨by as_aux_lemma => kernel_rfl, fun _ h => ld5 rfl (by as_aux_lemma => kernel_rfl) h.1⟩⟩, ⟨_, rfl, Or.inl ⟨by as_aux_lemma => kernel_rfl, fun _ h => ld5 rfl (by as_aux_lemma => kernel_rfl) h.2.1⟩⟩, ⟨_, rfl, Or.inl ⟨by as_aux_lemma => kernel_rfl, fun _ _ => by as_aux_lemma => kernel_rfl⟩⟩, ⟨_, rfl, Or.inl ⟨by as_aux_lemma => kernel_rfl, fun _ h => ld5 rfl (by as_aux_lemma => kernel_rfl) h.1⟩⟩, ⟨_, rfl, Or.inl ⟨by as_aux_lemma => kernel_rfl, fun _ _ => by as_aux_lemma => kernel_rfl⟩⟩, ⟨_, rfl, Or.inl ⟨by as_aux_lemma => kernel_rfl, fun _ h => ld5 rfl (by as_aux_lemma => kernel_rfl) h.2.1⟩⟩, ⟨_, rfl, Or.inl ⟨by as_aux_lemma => kernel_rfl, fun _ _ => by as_aux_lemma => kernel_rfl⟩⟩, ⟨_, rfl, Or.inl ⟨by as_aux_lemma => kernel_rfl, fun _ h => ld5 rfl (by as_aux_lemma => kernel_rfl) h.1⟩⟩, ⟨_, rfl, Or.inl ⟨by as_aux_lemma => kernel_rfl, fun _ h => ld5 rfl (by as_aux_lemma => kernel_rfl) h.2.1⟩⟩, ⟨_, rfl, Or.inl ⟨by as_aux_lemma => kernel_rfl, fun _ _ => by as_aux_lemma => kernel_rfl⟩⟩, ⟨_, rfl, Or.inl ⟨by as_aux_lemma => kernel_rfl, fun _ _ => by as_aux_lemma => kernel_rfl⟩⟩, ⟨_, rfl, Or.inl ⟨by as_aux_lemma => kernel_rfl, fun _ h => ld5 rfl (by as_aux_lemma => kernel_rfl) h.1⟩⟩, ⟨_, rfl, Or.inl ⟨by as_aux_lemma => kernel_rfl, fun _ _ => by as_aux_lemma => kernel_rfl⟩⟩, ⟨_, rfl, Or.inl ⟨by as_aux_lemma => kernel_rfl, fun _ h => ld5 rfl (by as_aux_lemma => kernel_rfl) h.2.1⟩⟩, ⟨_, rfl, Or.inl ⟨by as_aux_lemma => kernel_rfl, fun _ _ => by as_aux_lemma => kernel_rfl⟩⟩, ⟨_, rfl, Or.inl ⟨by as_aux_lemma => kernel_rfl, fun _ h => ld5 rfl (by as_aux_lemma => kernel_rfl) h.1⟩⟩, ⟨_, rfl, Or.inl ⟨by as_aux_lemma => kernel_rfl, fun _ h => ld5 rfl (by as_aux_lemma => kernel_rfl) h.2.1⟩⟩, ⟨_, rfl, Or.inl ⟨by as_aux_lemma => kernel_rfl, fun _ _ => by as_aux_lemma => kernel_rfl⟩⟩, ⟨_, rfl, Or.inl ⟨by as_aux_lemma => kernel_rfl, fun _ h => ld5 rfl (by as_aux_lemma => kernel_rfl) h.1⟩⟩, ⟨_, rfl, Or.inl ⟨by as_aux_lemma => kernel_rfl, fun _ h => ld5 rfl (by as_aux_lemma => kernel_rfl) h.1⟩⟩, ⟨_, rfl, Or.inl ⟨by as_aux_lemma => kernel_rfl, fun _ h => ld5 rfl (by as_aux_lemma => kernel_rfl) h.2.2.2.1⟩⟩, ⟨_, rfl, Or.inl ⟨by as_aux_lemma => kernel_rfl, fun _ _ => by as_aux_lemma => kernel_rfl⟩⟩, ⟨_, rfl, Or.inl ⟨by as_aux_lemma => kernel_rfl, fun _ _ => by as_aux_lemma => kernel_rfl⟩⟩, ⟨_, rfl, Or.inl ⟨by as_aux_lemma => kernel_rfl, fun _ h => ld5 rfl (by as_aux_lemma => kernel_rfl) h.1⟩⟩, ⟨_, rfl, Or.inl ⟨by as_aux_lemma => kernel_rfl, fun _ h => ld5 rfl (by as_aux_lemma => kernel_rfl) h.2.1⟩⟩, ⟨_, rfl, Or.inl ⟨by as_aux_lemma => kernel_rfl, fun _ _ => by as_aux_lemma => kernel_rfl⟩⟩, ⟨_, rfl, Or.inl ⟨by as_aux_lemma => kernel_rfl, fun _ h => ld5 rfl (by as_aux_lemma => kernel_rfl) h.1⟩⟩, ⟨_, rfl, Or.inl ⟨by as_aux_lemma => kernel_rfl, fun _ h => ld5 rfl (by as_aux_lemma => kernel_rfl) h.2.2.1⟩⟩, ⟨_, rfl, Or.inl ⟨by as_aux_lemma => kernel_rfl, fun _ _ => by as_aux_lemma => kernel_rfl⟩⟩, ⟨_, rfl, Or.inl ⟨by as_aux_lemma => kernel_rfl, fun _ h => ld5 rfl (by as_aux_lemma => kernel_rfl) h.1⟩⟩, ⟨_, rfl, Or.inl ⟨by as_aux_lemma => kernel_rfl, fun _ _ => by as_aux_lemma => kernel_rfl⟩⟩, ⟨_, rfl, Or.inl ⟨by as_aux_lemma => kernel_rfl, fun _ h => ld5 rfl (by as_aux_lemma => kernel_rfl) h.2.1⟩⟩, ⟨_, rfl, Or.inl ⟨by as_aux_lemma => kernel_rfl, fun _ h => ld5 rfl (by as_aux_lemma => kernel_rfl) h.2.2.1⟩⟩, ⟨_, rfl, Or.inl ⟨by as_aux_lemma => kernel_rfl, fun _ _ => by as_aux_lemma => kernel_rfl⟩⟩, ⟨_, rfl, Or.inl ⟨by as_aux_lemma => kernel_rfl, fun _ _ => by as_aux_lemma => kernel_rfl⟩⟩, ⟨_, rfl, Or.inl ⟨by as_aux_lemma => kernel_rfl, fun _ h => ld5 rfl (by as_aux_lemma => kernel_rfl) h.1⟩⟩, ⟨_, rfl, Or.inl ⟨by as_aux_lemma => kernel_rfl, fun _ h => ld5 rfl (by as_aux_lemma => kernel_rfl) h.2.2.1⟩⟩, ⟨_, rfl, Or.inl ⟨by as_aux_lemma => kernel_rfl, fun _ _ => by as_aux_lemma => kernel_rfl⟩⟩, ⟨_, rfl, Or.inl ⟨by as_aux_lemma => kernel_rfl, fun _ h => ld5 rfl (by as_aux_lemma => kernel_rfl) h.2.1⟩⟩, ⟨_, rfl, Or.inl ⟨by as_aux_lemma => kernel_rfl, fun _ h => ld5 rfl (by as_aux_lemma => kernel_rfl) h.2.2.1⟩⟩, ⟨_, rfl, Or.inl ⟨by as_aux_lemma => kernel_rfl, fun _ _ => by as_aux_lemma => kernel_rfl⟩⟩, ⟨_, rfl, Or.inl ⟨by as_aux_lemma => kernel_rfl, fun _ _ => by as_aux_lemma => kernel_rfl⟩⟩, ⟨_, rfl, Or.inl ⟨by as_aux_lemma => kernel_rfl, fun _ h => ld5 rfl (by as_aux_lemma => kernel_rfl) h.1⟩⟩, ⟨_, rfl, Or.inl ⟨by as_aux_lemma => kernel_rfl, fun _ h => ld5 rfl (by as_aux_lemma => kernel_rfl) h.2.1⟩⟩, ⟨_, rfl, Or.inl ⟨by as_aux_lemma => kernel_rfl, fun _ h => ld5 rfl (by as_aux_lemma => kernel_rfl) h.2.2.1⟩⟩, ⟨_, rfl, Or.inl ⟨by as_aux_lemma => kernel_rfl, fun _ _ => by as_aux_lemma => kernel_rfl⟩⟩, ⟨_, rfl, Or.inl ⟨by as_aux_lemma => kernel_rfl, fun _ _ => by as_aux_lemma => kernel_rfl⟩⟩, ⟨_, rfl, Or.inl ⟨by as_aux_lemma => kernel_rfl, fun _ h => ld5 rfl (by as_aux_lemma => kernel_rfl) h.1⟩⟩, ⟨_, rfl, Or.inl ⟨by as_aux_lemma => kernel_rfl, fun _ h => ld5 rfl (by as_aux_lemma => kernel_rfl) h.2.1⟩⟩, ⟨_, rfl, Or.inl ⟨by as_aux_lemma => kernel_rfl, fun _ _ => by as_aux_lemma => kernel_rfl⟩⟩, ⟨_, rfl, Or.inl ⟨by as_aux_lemma => kernel_rfl, fun _ h => ld5 rfl (by as_aux_lemma => kernel_rfl) h.1⟩⟩, ⟨_, rfl, Or.inl ⟨by as_aux_lemma => kernel_rfl, fun _ h => ld5 rfl (by as_aux_lemma => kernel_rfl) h.2.2.1⟩⟩, ⟨_, rfl, Or.inl ⟨by as_aux_lemma => kernel_rfl, fun _ _ => by as_aux_lemma => kernel_rfl⟩⟩, ⟨_, rfl, Or.inl ⟨by as_aux_lemma => kernel_rfl, fun _ h => ld5 rfl (by as_aux_lemma => kernel_rfl) h.1⟩⟩, ⟨_, rfl, Or.inl ⟨by as_aux_lemma => kernel_rfl, fun _ _ => by as_aux_lemma => kernel_rfl⟩⟩, ⟨_, rfl, Or.inl ⟨by as_aux_lemma => kernel_rfl, fun _ h => ld5 rfl (by as_aux_lemma => kernel_rfl) h.2.1⟩⟩, ⟨_, rfl, Or.inl ⟨by as_aux_lemma => kernel_rfl, fun _ h => ld5 rfl (by as_aux_lemma => kernel_rfl) h.2.2.1⟩⟩, trivial⟩
  clear HXD HX HB HK
  have HB := HBD
  have HK := HKD
  clear HBD HKD
  generalize u0.drew = u1 at *
  replace HK := Lib.hid (HK.out.leaf (vN 0) rfl)
  replace HK := Lib.hid (HK.out.leaf (cN 0) rfl)
  refine RegE.stepL (i := 3) rfl (by decide) (by as_aux_lemma => kernel_rfl) (fun K hK => ?_)
  refine step_enter (f := 15) (args := #[exV 2 0 0 0 none 0 0, exV 1 0 0 0 none 0 0]) (w' := u1) (by subst_vars; as_aux_lemma => kernel_rfl) (by subst_vars; as_aux_lemma => kernel_rfl) ?_
  refine (addI'_any _ _ _ _ _ _ _ _ _ _ _ _ _ _ u1).mono ?_; rintro e u2 ⟨g1, rfl, hg, hg', hb, hC⟩
  replace HK := Lib.hid (Stk.call2 3 HK.out hb hg hg' hC)
  have HX := Lib.hid (Std5.next hHeld hb)
  replace HB := Lib.hid (bnext HB.out hb)
  clear hb hg hg' hC
  refine ⟨_, rfl, hK.out _ _ ?S3 (fun hHeldN => ?_)⟩
  case S3 => exact HX.out
  clear hK K hHeld HX
  have hHeld := hHeldN
  clear hHeldN
  obtain ⟨A1, hA1⟩ : ∃ A, A = A0.put (some 18) (exV 3 0 0 0 (some ⟨g1, 0, none⟩) 2 2) := ⟨_, rfl⟩
  change RegE _ _ _ _ _ _ _ (A0.put (some 18) (exV 3 0 0 0 (some ⟨g1, 0, none⟩) 2 2)) _
  rw [← hA1]
  replace HK := Lib.hid (HK.out.leaf (vN 0) rfl)
  refine RegE.takeS (S := fun wx => Std5 wx b) (i := 5) (v := .agg #[.int .i64 1, .int .i64 3, .int .i64 0, .int .i64 0, .int .i64 0, .slice (some ⟨g1, 0, none⟩) 2 2, .int .i64 2, .int .i64 0, .int .i64 0, .int .i64 0, .slice none 0 0]) hB hA rfl (by decide) (by as_aux_lemma => kernel_rfl) (fun _ _ _ h => h) (Or.inl ⟨by subst_vars; as_aux_lemma => kernel_rfl, fun _ _ => by subst_vars; as_aux_lemma => kernel_rfl⟩) hHeld ?_
  obtain ⟨A2, hA2⟩ : ∃ A, A = A1.put (some 20) (.agg #[.int .i64 1, .int .i64 3, .int .i64 0, .int .i64 0, .int .i64 0, .slice (some ⟨g1, 0, none⟩) 2 2, .int .i64 2, .int .i64 0, .int .i64 0, .int .i64 0, .slice none 0 0]) := ⟨_, rfl⟩
  change RegE _ _ _ _ _ _ _ (A1.put (some 20) (.agg #[.int .i64 1, .int .i64 3, .int .i64 0, .int .i64 0, .int .i64 0, .slice (some ⟨g1, 0, none⟩) 2 2, .int .i64 2, .int .i64 0, .int .i64 0, .int .i64 0, .slice none 0 0])) _
  rw [← hA2]
  replace HK := Lib.hid (HK.out.leaf (cN 0) rfl)
  replace HK := Lib.hid (HK.out.leaf (vN 0) rfl)
  refine RegE.stepL (i := 9) rfl (by decide) (by as_aux_lemma => kernel_rfl) (fun K hK => ?_)
  refine step_enter (f := 15) (args := #[exV 1 0 0 0 none 0 0, exV 2 0 0 0 none 0 0]) (w' := u2) (by subst_vars; as_aux_lemma => kernel_rfl) (by subst_vars; as_aux_lemma => kernel_rfl) ?_
  refine (addI'_any _ _ _ _ _ _ _ _ _ _ _ _ _ _ u2).mono ?_; rintro e u3 ⟨g2, rfl, hg, hg', hb, hC⟩
  replace HK := Lib.hid (Stk.call2 3 HK.out hb hg hg' hC)
  have HX := Lib.hid (Std5.next hHeld hb)
  replace HB := Lib.hid (bnext HB.out hb)
  clear hb hg hg' hC
  refine ⟨_, rfl, hK.out _ _ ?S9 (fun hHeldN => ?_)⟩
  case S9 => exact HX.out
  clear hK K hHeld HX
  have hHeld := hHeldN
  clear hHeldN
  obtain ⟨A3, hA3⟩ : ∃ A, A = A2.put (some 24) (exV 3 0 0 0 (some ⟨g2, 0, none⟩) 2 2) := ⟨_, rfl⟩
  change RegE _ _ _ _ _ _ _ (A2.put (some 24) (exV 3 0 0 0 (some ⟨g2, 0, none⟩) 2 2)) _
  rw [← hA3]
  replace HK := Lib.hid (HK.out.leaf (vN 0) rfl)
  refine RegE.takeS (S := fun wx => Std5 wx b) (i := 11) (v := .agg #[.int .i64 1, .int .i64 3, .int .i64 0, .int .i64 0, .int .i64 0, .slice (some ⟨g2, 0, none⟩) 2 2, .int .i64 2, .int .i64 0, .int .i64 0, .int .i64 0, .slice none 0 0]) hB hA rfl (by decide) (by as_aux_lemma => kernel_rfl) (fun _ _ _ h => h) (Or.inl ⟨by subst_vars; as_aux_lemma => kernel_rfl, fun _ _ => by subst_vars; as_aux_lemma => kernel_rfl⟩) hHeld ?_
  obtain ⟨A4, hA4⟩ : ∃ A, A = A3.put (some 26) (.agg #[.int .i64 1, .int .i64 3, .int .i64 0, .int .i64 0, .int .i64 0, .slice (some ⟨g2, 0, none⟩) 2 2, .int .i64 2, .int .i64 0, .int .i64 0, .int .i64 0, .slice none 0 0]) := ⟨_, rfl⟩
  change RegE _ _ _ _ _ _ _ (A3.put (some 26) (.agg #[.int .i64 1, .int .i64 3, .int .i64 0, .int .i64 0, .int .i64 0, .slice (some ⟨g2, 0, none⟩) 2 2, .int .i64 2, .int .i64 0, .int .i64 0, .int .i64 0, .slice none 0 0])) _
  rw [← hA4]
  replace HK := Lib.hid (HK.out.leaf (vN 0) rfl)
  replace HK := Lib.hid (HK.out.leaf (cN 0) rfl)
  refine RegE.stepL (i := 15) rfl (by decide) (by as_aux_lemma => kernel_rfl) (fun K hK => ?_)
  refine step_enter (f := 16) (args := #[exV 2 0 0 0 none 0 0, exV 1 0 0 0 none 0 0]) (w' := u3) (by subst_vars; as_aux_lemma => kernel_rfl) (by subst_vars; as_aux_lemma => kernel_rfl) ?_
  refine (subI'_any _ _ _ _ _ _ _ _ _ _ _ _ _ _ u3).mono ?_; rintro e u4 ⟨g3, rfl, hg, hg', hb, hC⟩
  replace HK := Lib.hid (Stk.call2 4 HK.out hb hg hg' hC)
  have HX := Lib.hid (Std5.next hHeld hb)
  replace HB := Lib.hid (bnext HB.out hb)
  clear hb hg hg' hC
  refine ⟨_, rfl, hK.out _ _ ?S15 (fun hHeldN => ?_)⟩
  case S15 => exact HX.out
  clear hK K hHeld HX
  have hHeld := hHeldN
  clear hHeldN
  obtain ⟨A5, hA5⟩ : ∃ A, A = A4.put (some 30) (exV 4 0 0 0 (some ⟨g3, 0, none⟩) 2 2) := ⟨_, rfl⟩
  change RegE _ _ _ _ _ _ _ (A4.put (some 30) (exV 4 0 0 0 (some ⟨g3, 0, none⟩) 2 2)) _
  rw [← hA5]
  replace HK := Lib.hid (HK.out.leaf (vN 0) rfl)
  refine RegE.takeS (S := fun wx => Std5 wx b) (i := 17) (v := .agg #[.int .i64 1, .int .i64 4, .int .i64 0, .int .i64 0, .int .i64 0, .slice (some ⟨g3, 0, none⟩) 2 2, .int .i64 2, .int .i64 0, .int .i64 0, .int .i64 0, .slice none 0 0]) hB hA rfl (by decide) (by as_aux_lemma => kernel_rfl) (fun _ _ _ h => h) (Or.inl ⟨by subst_vars; as_aux_lemma => kernel_rfl, fun _ _ => by subst_vars; as_aux_lemma => kernel_rfl⟩) hHeld ?_
  obtain ⟨A6, hA6⟩ : ∃ A, A = A5.put (some 32) (.agg #[.int .i64 1, .int .i64 4, .int .i64 0, .int .i64 0, .int .i64 0, .slice (some ⟨g3, 0, none⟩) 2 2, .int .i64 2, .int .i64 0, .int .i64 0, .int .i64 0, .slice none 0 0]) := ⟨_, rfl⟩
  change RegE _ _ _ _ _ _ _ (A5.put (some 32) (.agg #[.int .i64 1, .int .i64 4, .int .i64 0, .int .i64 0, .int .i64 0, .slice (some ⟨g3, 0, none⟩) 2 2, .int .i64 2, .int .i64 0, .int .i64 0, .int .i64 0, .slice none 0 0])) _
  rw [← hA6]
  replace HK := Lib.hid (HK.out.leaf (cN 0) rfl)
  replace HK := Lib.hid (HK.out.leaf (vN 0) rfl)
  refine RegE.stepL (i := 21) rfl (by decide) (by as_aux_lemma => kernel_rfl) (fun K hK => ?_)
  refine step_enter (f := 16) (args := #[exV 1 0 0 0 none 0 0, exV 2 0 0 0 none 0 0]) (w' := u4) (by subst_vars; as_aux_lemma => kernel_rfl) (by subst_vars; as_aux_lemma => kernel_rfl) ?_
  refine (subI'_any _ _ _ _ _ _ _ _ _ _ _ _ _ _ u4).mono ?_; rintro e u5 ⟨g4, rfl, hg, hg', hb, hC⟩
  replace HK := Lib.hid (Stk.call2 4 HK.out hb hg hg' hC)
  have HX := Lib.hid (Std5.next hHeld hb)
  replace HB := Lib.hid (bnext HB.out hb)
  clear hb hg hg' hC
  refine ⟨_, rfl, hK.out _ _ ?S21 (fun hHeldN => ?_)⟩
  case S21 => exact HX.out
  clear hK K hHeld HX
  have hHeld := hHeldN
  clear hHeldN
  obtain ⟨A7, hA7⟩ : ∃ A, A = A6.put (some 36) (exV 4 0 0 0 (some ⟨g4, 0, none⟩) 2 2) := ⟨_, rfl⟩
  change RegE _ _ _ _ _ _ _ (A6.put (some 36) (exV 4 0 0 0 (some ⟨g4, 0, none⟩) 2 2)) _
  rw [← hA7]
  replace HK := Lib.hid (HK.out.leaf (vN 0) rfl)
  refine RegE.stepL (i := 24) rfl (by decide) (by as_aux_lemma => kernel_rfl) (fun K hK => ?_)
  refine step_enter (f := 13) (args := #[exV 2 0 0 0 none 0 0]) (w' := u5) (by subst_vars; as_aux_lemma => kernel_rfl) (by subst_vars; as_aux_lemma => kernel_rfl) ?_
  refine (negI_any _ _ _ _ _ _ _ u5).mono ?_; rintro e u6 ⟨g5, rfl, hg, hg', hb, hC⟩
  replace HK := Lib.hid (Stk.call1 HK.out hb hg hg' hC)
  have HX := Lib.hid (Std5.next hHeld hb)
  replace HB := Lib.hid (bnext HB.out hb)
  clear hb hg hg' hC
  refine ⟨_, rfl, hK.out _ _ ?S24 (fun hHeldN => ?_)⟩
  case S24 => exact HX.out
  clear hK K hHeld HX
  have hHeld := hHeldN
  clear hHeldN
  obtain ⟨A8, hA8⟩ : ∃ A, A = A7.put (some 39) (exV 7 0 0 0 (some ⟨g5, 0, none⟩) 1 1) := ⟨_, rfl⟩
  change RegE _ _ _ _ _ _ _ (A7.put (some 39) (exV 7 0 0 0 (some ⟨g5, 0, none⟩) 1 1)) _
  rw [← hA8]
  refine RegE.takeS (S := fun wx => Std5 wx b) (i := 25) (v := .agg #[.int .i64 1, .int .i64 4, .int .i64 0, .int .i64 0, .int .i64 0, .slice (some ⟨g4, 0, none⟩) 2 2, .int .i64 7, .int .i64 0, .int .i64 0, .int .i64 0, .slice (some ⟨g5, 0, none⟩) 1 1]) hB hA rfl (by decide) (by as_aux_lemma => kernel_rfl) (fun _ _ _ h => h) (Or.inl ⟨by subst_vars; as_aux_lemma => kernel_rfl, fun _ _ => by subst_vars; as_aux_lemma => kernel_rfl⟩) hHeld ?_
  obtain ⟨A9, hA9⟩ : ∃ A, A = A8.put (some 40) (.agg #[.int .i64 1, .int .i64 4, .int .i64 0, .int .i64 0, .int .i64 0, .slice (some ⟨g4, 0, none⟩) 2 2, .int .i64 7, .int .i64 0, .int .i64 0, .int .i64 0, .slice (some ⟨g5, 0, none⟩) 1 1]) := ⟨_, rfl⟩
  change RegE _ _ _ _ _ _ _ (A8.put (some 40) (.agg #[.int .i64 1, .int .i64 4, .int .i64 0, .int .i64 0, .int .i64 0, .slice (some ⟨g4, 0, none⟩) 2 2, .int .i64 7, .int .i64 0, .int .i64 0, .int .i64 0, .slice (some ⟨g5, 0, none⟩) 1 1])) _
  rw [← hA9]
  replace HK := Lib.hid (HK.out.leaf (vN 0) rfl)
  replace HK := Lib.hid (HK.out.leaf (cN 1) rfl)
  refine RegE.stepL (i := 29) rfl (by decide) (by as_aux_lemma => kernel_rfl) (fun K hK => ?_)
  refine step_enter (f := 17) (args := #[exV 2 0 0 0 none 0 0, exV 1 1 0 0 none 0 0]) (w' := u6) (by subst_vars; as_aux_lemma => kernel_rfl) (by subst_vars; as_aux_lemma => kernel_rfl) ?_
  refine (mulI'_any _ _ _ _ _ _ _ _ _ _ _ _ _ _ u6).mono ?_; rintro e u7 ⟨g6, rfl, hg, hg', hb, hC⟩
  replace HK := Lib.hid (Stk.call2 5 HK.out hb hg hg' hC)
  have HX := Lib.hid (Std5.next hHeld hb)
  replace HB := Lib.hid (bnext HB.out hb)
  clear hb hg hg' hC
  refine ⟨_, rfl, hK.out _ _ ?S29 (fun hHeldN => ?_)⟩
  case S29 => exact HX.out
  clear hK K hHeld HX
  have hHeld := hHeldN
  clear hHeldN
  obtain ⟨A10, hA10⟩ : ∃ A, A = A9.put (some 44) (exV 5 0 0 0 (some ⟨g6, 0, none⟩) 2 2) := ⟨_, rfl⟩
  change RegE _ _ _ _ _ _ _ (A9.put (some 44) (exV 5 0 0 0 (some ⟨g6, 0, none⟩) 2 2)) _
  rw [← hA10]
  replace HK := Lib.hid (HK.out.leaf (vN 0) rfl)
  refine RegE.takeS (S := fun wx => Std5 wx b) (i := 31) (v := .agg #[.int .i64 1, .int .i64 5, .int .i64 0, .int .i64 0, .int .i64 0, .slice (some ⟨g6, 0, none⟩) 2 2, .int .i64 2, .int .i64 0, .int .i64 0, .int .i64 0, .slice none 0 0]) hB hA rfl (by decide) (by as_aux_lemma => kernel_rfl) (fun _ _ _ h => h) (Or.inl ⟨by subst_vars; as_aux_lemma => kernel_rfl, fun _ _ => by subst_vars; as_aux_lemma => kernel_rfl⟩) hHeld ?_
  obtain ⟨A11, hA11⟩ : ∃ A, A = A10.put (some 46) (.agg #[.int .i64 1, .int .i64 5, .int .i64 0, .int .i64 0, .int .i64 0, .slice (some ⟨g6, 0, none⟩) 2 2, .int .i64 2, .int .i64 0, .int .i64 0, .int .i64 0, .slice none 0 0]) := ⟨_, rfl⟩
  change RegE _ _ _ _ _ _ _ (A10.put (some 46) (.agg #[.int .i64 1, .int .i64 5, .int .i64 0, .int .i64 0, .int .i64 0, .slice (some ⟨g6, 0, none⟩) 2 2, .int .i64 2, .int .i64 0, .int .i64 0, .int .i64 0, .slice none 0 0])) _
  rw [← hA11]
  replace HK := Lib.hid (HK.out.leaf (cN 1) rfl)
  replace HK := Lib.hid (HK.out.leaf (vN 0) rfl)
  refine RegE.stepL (i := 35) rfl (by decide) (by as_aux_lemma => kernel_rfl) (fun K hK => ?_)
  refine step_enter (f := 17) (args := #[exV 1 1 0 0 none 0 0, exV 2 0 0 0 none 0 0]) (w' := u7) (by subst_vars; as_aux_lemma => kernel_rfl) (by subst_vars; as_aux_lemma => kernel_rfl) ?_
  refine (mulI'_any _ _ _ _ _ _ _ _ _ _ _ _ _ _ u7).mono ?_; rintro e u8 ⟨g7, rfl, hg, hg', hb, hC⟩
  replace HK := Lib.hid (Stk.call2 5 HK.out hb hg hg' hC)
  have HX := Lib.hid (Std5.next hHeld hb)
  replace HB := Lib.hid (bnext HB.out hb)
  clear hb hg hg' hC
  refine ⟨_, rfl, hK.out _ _ ?S35 (fun hHeldN => ?_)⟩
  case S35 => exact HX.out
  clear hK K hHeld HX
  have hHeld := hHeldN
  clear hHeldN
  obtain ⟨A12, hA12⟩ : ∃ A, A = A11.put (some 50) (exV 5 0 0 0 (some ⟨g7, 0, none⟩) 2 2) := ⟨_, rfl⟩
  change RegE _ _ _ _ _ _ _ (A11.put (some 50) (exV 5 0 0 0 (some ⟨g7, 0, none⟩) 2 2)) _
  rw [← hA12]
  replace HK := Lib.hid (HK.out.leaf (vN 0) rfl)
  refine RegE.takeS (S := fun wx => Std5 wx b) (i := 37) (v := .agg #[.int .i64 1, .int .i64 5, .int .i64 0, .int .i64 0, .int .i64 0, .slice (some ⟨g7, 0, none⟩) 2 2, .int .i64 2, .int .i64 0, .int .i64 0, .int .i64 0, .slice none 0 0]) hB hA rfl (by decide) (by as_aux_lemma => kernel_rfl) (fun _ _ _ h => h) (Or.inl ⟨by subst_vars; as_aux_lemma => kernel_rfl, fun _ _ => by subst_vars; as_aux_lemma => kernel_rfl⟩) hHeld ?_
  obtain ⟨A13, hA13⟩ : ∃ A, A = A12.put (some 52) (.agg #[.int .i64 1, .int .i64 5, .int .i64 0, .int .i64 0, .int .i64 0, .slice (some ⟨g7, 0, none⟩) 2 2, .int .i64 2, .int .i64 0, .int .i64 0, .int .i64 0, .slice none 0 0]) := ⟨_, rfl⟩
  change RegE _ _ _ _ _ _ _ (A12.put (some 52) (.agg #[.int .i64 1, .int .i64 5, .int .i64 0, .int .i64 0, .int .i64 0, .slice (some ⟨g7, 0, none⟩) 2 2, .int .i64 2, .int .i64 0, .int .i64 0, .int .i64 0, .slice none 0 0])) _
  rw [← hA13]
  replace HK := Lib.hid (HK.out.leaf (vN 0) rfl)
  replace HK := Lib.hid (HK.out.leaf (cN 0) rfl)
  refine RegE.stepL (i := 41) rfl (by decide) (by as_aux_lemma => kernel_rfl) (fun K hK => ?_)
  refine step_enter (f := 17) (args := #[exV 2 0 0 0 none 0 0, exV 1 0 0 0 none 0 0]) (w' := u8) (by subst_vars; as_aux_lemma => kernel_rfl) (by subst_vars; as_aux_lemma => kernel_rfl) ?_
  refine (mulI'_any _ _ _ _ _ _ _ _ _ _ _ _ _ _ u8).mono ?_; rintro e u9 ⟨g8, rfl, hg, hg', hb, hC⟩
  replace HK := Lib.hid (Stk.call2 5 HK.out hb hg hg' hC)
  have HX := Lib.hid (Std5.next hHeld hb)
  replace HB := Lib.hid (bnext HB.out hb)
  clear hb hg hg' hC
  refine ⟨_, rfl, hK.out _ _ ?S41 (fun hHeldN => ?_)⟩
  case S41 => exact HX.out
  clear hK K hHeld HX
  have hHeld := hHeldN
  clear hHeldN
  obtain ⟨A14, hA14⟩ : ∃ A, A = A13.put (some 56) (exV 5 0 0 0 (some ⟨g8, 0, none⟩) 2 2) := ⟨_, rfl⟩
  change RegE _ _ _ _ _ _ _ (A13.put (some 56) (exV 5 0 0 0 (some ⟨g8, 0, none⟩) 2 2)) _
  rw [← hA14]
  replace HK := Lib.hid (HK.out.leaf (cN 0) rfl)
  refine RegE.takeS (S := fun wx => Std5 wx b) (i := 43) (v := .agg #[.int .i64 1, .int .i64 5, .int .i64 0, .int .i64 0, .int .i64 0, .slice (some ⟨g8, 0, none⟩) 2 2, .int .i64 1, .int .i64 0, .int .i64 0, .int .i64 0, .slice none 0 0]) hB hA rfl (by decide) (by as_aux_lemma => kernel_rfl) (fun _ _ _ h => h) (Or.inl ⟨by subst_vars; as_aux_lemma => kernel_rfl, fun _ _ => by subst_vars; as_aux_lemma => kernel_rfl⟩) hHeld ?_
  obtain ⟨A15, hA15⟩ : ∃ A, A = A14.put (some 58) (.agg #[.int .i64 1, .int .i64 5, .int .i64 0, .int .i64 0, .int .i64 0, .slice (some ⟨g8, 0, none⟩) 2 2, .int .i64 1, .int .i64 0, .int .i64 0, .int .i64 0, .slice none 0 0]) := ⟨_, rfl⟩
  change RegE _ _ _ _ _ _ _ (A14.put (some 58) (.agg #[.int .i64 1, .int .i64 5, .int .i64 0, .int .i64 0, .int .i64 0, .slice (some ⟨g8, 0, none⟩) 2 2, .int .i64 1, .int .i64 0, .int .i64 0, .int .i64 0, .slice none 0 0])) _
  rw [← hA15]
  replace HK := Lib.hid (HK.out.leaf (cN 0) rfl)
  replace HK := Lib.hid (HK.out.leaf (vN 0) rfl)
  refine RegE.stepL (i := 47) rfl (by decide) (by as_aux_lemma => kernel_rfl) (fun K hK => ?_)
  refine step_enter (f := 17) (args := #[exV 1 0 0 0 none 0 0, exV 2 0 0 0 none 0 0]) (w' := u9) (by subst_vars; as_aux_lemma => kernel_rfl) (by subst_vars; as_aux_lemma => kernel_rfl) ?_
  refine (mulI'_any _ _ _ _ _ _ _ _ _ _ _ _ _ _ u9).mono ?_; rintro e u10 ⟨g9, rfl, hg, hg', hb, hC⟩
  replace HK := Lib.hid (Stk.call2 5 HK.out hb hg hg' hC)
  have HX := Lib.hid (Std5.next hHeld hb)
  replace HB := Lib.hid (bnext HB.out hb)
  clear hb hg hg' hC
  refine ⟨_, rfl, hK.out _ _ ?S47 (fun hHeldN => ?_)⟩
  case S47 => exact HX.out
  clear hK K hHeld HX
  have hHeld := hHeldN
  clear hHeldN
  obtain ⟨A16, hA16⟩ : ∃ A, A = A15.put (some 62) (exV 5 0 0 0 (some ⟨g9, 0, none⟩) 2 2) := ⟨_, rfl⟩
  change RegE _ _ _ _ _ _ _ (A15.put (some 62) (exV 5 0 0 0 (some ⟨g9, 0, none⟩) 2 2)) _
  rw [← hA16]
  replace HK := Lib.hid (HK.out.leaf (cN 0) rfl)
  refine RegE.takeS (S := fun wx => Std5 wx b) (i := 49) (v := .agg #[.int .i64 1, .int .i64 5, .int .i64 0, .int .i64 0, .int .i64 0, .slice (some ⟨g9, 0, none⟩) 2 2, .int .i64 1, .int .i64 0, .int .i64 0, .int .i64 0, .slice none 0 0]) hB hA rfl (by decide) (by as_aux_lemma => kernel_rfl) (fun _ _ _ h => h) (Or.inl ⟨by subst_vars; as_aux_lemma => kernel_rfl, fun _ _ => by subst_vars; as_aux_lemma => kernel_rfl⟩) hHeld ?_
  obtain ⟨A17, hA17⟩ : ∃ A, A = A16.put (some 64) (.agg #[.int .i64 1, .int .i64 5, .int .i64 0, .int .i64 0, .int .i64 0, .slice (some ⟨g9, 0, none⟩) 2 2, .int .i64 1, .int .i64 0, .int .i64 0, .int .i64 0, .slice none 0 0]) := ⟨_, rfl⟩
  change RegE _ _ _ _ _ _ _ (A16.put (some 64) (.agg #[.int .i64 1, .int .i64 5, .int .i64 0, .int .i64 0, .int .i64 0, .slice (some ⟨g9, 0, none⟩) 2 2, .int .i64 1, .int .i64 0, .int .i64 0, .int .i64 0, .slice none 0 0])) _
  rw [← hA17]
  replace HK := Lib.hid (HK.out.leaf (vN 0) rfl)
  refine RegE.stepL (i := 53) rfl (by decide) (by as_aux_lemma => kernel_rfl) (fun K hK => ?_)
  refine step_enter (f := 13) (args := #[exV 2 0 0 0 none 0 0]) (w' := u10) (by subst_vars; as_aux_lemma => kernel_rfl) (by subst_vars; as_aux_lemma => kernel_rfl) ?_
  refine (negI_any _ _ _ _ _ _ _ u10).mono ?_; rintro e u11 ⟨g10, rfl, hg, hg', hb, hC⟩
  replace HK := Lib.hid (Stk.call1 HK.out hb hg hg' hC)
  have HX := Lib.hid (Std5.next hHeld hb)
  replace HB := Lib.hid (bnext HB.out hb)
  clear hb hg hg' hC
  refine ⟨_, rfl, hK.out _ _ ?S53 (fun hHeldN => ?_)⟩
  case S53 => exact HX.out
  clear hK K hHeld HX
  have hHeld := hHeldN
  clear hHeldN
  obtain ⟨A18, hA18⟩ : ∃ A, A = A17.put (some 68) (exV 7 0 0 0 (some ⟨g10, 0, none⟩) 1 1) := ⟨_, rfl⟩
  change RegE _ _ _ _ _ _ _ (A17.put (some 68) (exV 7 0 0 0 (some ⟨g10, 0, none⟩) 1 1)) _
  rw [← hA18]
  refine RegE.stepL (i := 54) rfl (by decide) (by as_aux_lemma => kernel_rfl) (fun K hK => ?_)
  refine step_enter (f := 13) (args := #[exV 7 0 0 0 (some ⟨g10, 0, none⟩) 1 1]) (w' := u11) (by subst_vars; as_aux_lemma => kernel_rfl) (by subst_vars; as_aux_lemma => kernel_rfl) ?_
  refine (negI_any _ _ _ _ _ _ _ u11).mono ?_; rintro e u12 ⟨g11, rfl, hg, hg', hb, hC⟩
  replace HK := Lib.hid (Stk.call1 HK.out hb hg hg' hC)
  have HX := Lib.hid (Std5.next hHeld hb)
  replace HB := Lib.hid (bnext HB.out hb)
  clear hb hg hg' hC
  refine ⟨_, rfl, hK.out _ _ ?S54 (fun hHeldN => ?_)⟩
  case S54 => exact HX.out
  clear hK K hHeld HX
  have hHeld := hHeldN
  clear hHeldN
  obtain ⟨A19, hA19⟩ : ∃ A, A = A18.put (some 69) (exV 7 0 0 0 (some ⟨g11, 0, none⟩) 1 1) := ⟨_, rfl⟩
  change RegE _ _ _ _ _ _ _ (A18.put (some 69) (exV 7 0 0 0 (some ⟨g11, 0, none⟩) 1 1)) _
  rw [← hA19]
  replace HK := Lib.hid (HK.out.leaf (vN 0) rfl)
  refine RegE.takeS (S := fun wx => Std5 wx b) (i := 56) (v := .agg #[.int .i64 1, .int .i64 7, .int .i64 0, .int .i64 0, .int .i64 0, .slice (some ⟨g11, 0, none⟩) 1 1, .int .i64 2, .int .i64 0, .int .i64 0, .int .i64 0, .slice none 0 0]) hB hA rfl (by decide) (by as_aux_lemma => kernel_rfl) (fun _ _ _ h => h) (Or.inl ⟨by subst_vars; as_aux_lemma => kernel_rfl, fun _ _ => by subst_vars; as_aux_lemma => kernel_rfl⟩) hHeld ?_
  obtain ⟨A20, hA20⟩ : ∃ A, A = A19.put (some 71) (.agg #[.int .i64 1, .int .i64 7, .int .i64 0, .int .i64 0, .int .i64 0, .slice (some ⟨g11, 0, none⟩) 1 1, .int .i64 2, .int .i64 0, .int .i64 0, .int .i64 0, .slice none 0 0]) := ⟨_, rfl⟩
  change RegE _ _ _ _ _ _ _ (A19.put (some 71) (.agg #[.int .i64 1, .int .i64 7, .int .i64 0, .int .i64 0, .int .i64 0, .slice (some ⟨g11, 0, none⟩) 1 1, .int .i64 2, .int .i64 0, .int .i64 0, .int .i64 0, .slice none 0 0])) _
  rw [← hA20]
  replace HK := Lib.hid (HK.out.leaf (vN 0) rfl)
  replace HK := Lib.hid (HK.out.leaf (vN 1) rfl)
  refine RegE.stepL (i := 61) rfl (by decide) (by as_aux_lemma => kernel_rfl) (fun K hK => ?_)
  refine step_enter (f := 13) (args := #[exV 2 1 0 0 none 0 0]) (w' := u12) (by subst_vars; as_aux_lemma => kernel_rfl) (by subst_vars; as_aux_lemma => kernel_rfl) ?_
  refine (negI_any _ _ _ _ _ _ _ u12).mono ?_; rintro e u13 ⟨g12, rfl, hg, hg', hb, hC⟩
  replace HK := Lib.hid (Stk.call1 HK.out hb hg hg' hC)
  have HX := Lib.hid (Std5.next hHeld hb)
  replace HB := Lib.hid (bnext HB.out hb)
  clear hb hg hg' hC
  refine ⟨_, rfl, hK.out _ _ ?S61 (fun hHeldN => ?_)⟩
  case S61 => exact HX.out
  clear hK K hHeld HX
  have hHeld := hHeldN
  clear hHeldN
  obtain ⟨A21, hA21⟩ : ∃ A, A = A20.put (some 76) (exV 7 0 0 0 (some ⟨g12, 0, none⟩) 1 1) := ⟨_, rfl⟩
  change RegE _ _ _ _ _ _ _ (A20.put (some 76) (exV 7 0 0 0 (some ⟨g12, 0, none⟩) 1 1)) _
  rw [← hA21]
  refine RegE.stepL (i := 62) rfl (by decide) (by as_aux_lemma => kernel_rfl) (fun K hK => ?_)
  refine step_enter (f := 15) (args := #[exV 2 0 0 0 none 0 0, exV 7 0 0 0 (some ⟨g12, 0, none⟩) 1 1]) (w' := u13) (by subst_vars; as_aux_lemma => kernel_rfl) (by subst_vars; as_aux_lemma => kernel_rfl) ?_
  refine (addI'_any _ _ _ _ _ _ _ _ _ _ _ _ _ _ u13).mono ?_; rintro e u14 ⟨g13, rfl, hg, hg', hb, hC⟩
  replace HK := Lib.hid (Stk.call2 3 HK.out hb hg hg' hC)
  have HX := Lib.hid (Std5.next hHeld hb)
  replace HB := Lib.hid (bnext HB.out hb)
  clear hb hg hg' hC
  refine ⟨_, rfl, hK.out _ _ ?S62 (fun hHeldN => ?_)⟩
  case S62 => exact HX.out
  clear hK K hHeld HX
  have hHeld := hHeldN
  clear hHeldN
  obtain ⟨A22, hA22⟩ : ∃ A, A = A21.put (some 77) (exV 3 0 0 0 (some ⟨g13, 0, none⟩) 2 2) := ⟨_, rfl⟩
  change RegE _ _ _ _ _ _ _ (A21.put (some 77) (exV 3 0 0 0 (some ⟨g13, 0, none⟩) 2 2)) _
  rw [← hA22]
  replace HK := Lib.hid (HK.out.leaf (vN 0) rfl)
  replace HK := Lib.hid (HK.out.leaf (vN 1) rfl)
  refine RegE.stepL (i := 66) rfl (by decide) (by as_aux_lemma => kernel_rfl) (fun K hK => ?_)
  refine step_enter (f := 16) (args := #[exV 2 0 0 0 none 0 0, exV 2 1 0 0 none 0 0]) (w' := u14) (by subst_vars; as_aux_lemma => kernel_rfl) (by subst_vars; as_aux_lemma => kernel_rfl) ?_
  refine (subI'_any _ _ _ _ _ _ _ _ _ _ _ _ _ _ u14).mono ?_; rintro e u15 ⟨g14, rfl, hg, hg', hb, hC⟩
  replace HK := Lib.hid (Stk.call2 4 HK.out hb hg hg' hC)
  have HX := Lib.hid (Std5.next hHeld hb)
  replace HB := Lib.hid (bnext HB.out hb)
  clear hb hg hg' hC
  refine ⟨_, rfl, hK.out _ _ ?S66 (fun hHeldN => ?_)⟩
  case S66 => exact HX.out
  clear hK K hHeld HX
  have hHeld := hHeldN
  clear hHeldN
  obtain ⟨A23, hA23⟩ : ∃ A, A = A22.put (some 81) (exV 4 0 0 0 (some ⟨g14, 0, none⟩) 2 2) := ⟨_, rfl⟩
  change RegE _ _ _ _ _ _ _ (A22.put (some 81) (exV 4 0 0 0 (some ⟨g14, 0, none⟩) 2 2)) _
  rw [← hA23]
  refine RegE.takeS (S := fun wx => Std5 wx b) (i := 67) (v := .agg #[.int .i64 2, .int .i64 3, .int .i64 0, .int .i64 0, .int .i64 0, .slice (some ⟨g13, 0, none⟩) 2 2, .int .i64 4, .int .i64 0, .int .i64 0, .int .i64 0, .slice (some ⟨g14, 0, none⟩) 2 2]) hB hA rfl (by decide) (by as_aux_lemma => kernel_rfl) (fun _ _ _ h => h) (Or.inl ⟨by subst_vars; as_aux_lemma => kernel_rfl, fun _ _ => by subst_vars; as_aux_lemma => kernel_rfl⟩) hHeld ?_
  obtain ⟨A24, hA24⟩ : ∃ A, A = A23.put (some 82) (.agg #[.int .i64 2, .int .i64 3, .int .i64 0, .int .i64 0, .int .i64 0, .slice (some ⟨g13, 0, none⟩) 2 2, .int .i64 4, .int .i64 0, .int .i64 0, .int .i64 0, .slice (some ⟨g14, 0, none⟩) 2 2]) := ⟨_, rfl⟩
  change RegE _ _ _ _ _ _ _ (A23.put (some 82) (.agg #[.int .i64 2, .int .i64 3, .int .i64 0, .int .i64 0, .int .i64 0, .slice (some ⟨g13, 0, none⟩) 2 2, .int .i64 4, .int .i64 0, .int .i64 0, .int .i64 0, .slice (some ⟨g14, 0, none⟩) 2 2])) _
  rw [← hA24]
  replace HK := Lib.hid (HK.out.leaf (vN 0) rfl)
  replace HK := Lib.hid (HK.out.leaf (vN 1) rfl)
  refine RegE.stepL (i := 72) rfl (by decide) (by as_aux_lemma => kernel_rfl) (fun K hK => ?_)
  refine step_enter (f := 13) (args := #[exV 2 1 0 0 none 0 0]) (w' := u15) (by subst_vars; as_aux_lemma => kernel_rfl) (by subst_vars; as_aux_lemma => kernel_rfl) ?_
  refine (negI_any _ _ _ _ _ _ _ u15).mono ?_; rintro e u16 ⟨g15, rfl, hg, hg', hb, hC⟩
  replace HK := Lib.hid (Stk.call1 HK.out hb hg hg' hC)
  have HX := Lib.hid (Std5.next hHeld hb)
  replace HB := Lib.hid (bnext HB.out hb)
  clear hb hg hg' hC
  refine ⟨_, rfl, hK.out _ _ ?S72 (fun hHeldN => ?_)⟩
  case S72 => exact HX.out
  clear hK K hHeld HX
  have hHeld := hHeldN
  clear hHeldN
  obtain ⟨A25, hA25⟩ : ∃ A, A = A24.put (some 87) (exV 7 0 0 0 (some ⟨g15, 0, none⟩) 1 1) := ⟨_, rfl⟩
  change RegE _ _ _ _ _ _ _ (A24.put (some 87) (exV 7 0 0 0 (some ⟨g15, 0, none⟩) 1 1)) _
  rw [← hA25]
  refine RegE.stepL (i := 73) rfl (by decide) (by as_aux_lemma => kernel_rfl) (fun K hK => ?_)
  refine step_enter (f := 16) (args := #[exV 2 0 0 0 none 0 0, exV 7 0 0 0 (some ⟨g15, 0, none⟩) 1 1]) (w' := u16) (by subst_vars; as_aux_lemma => kernel_rfl) (by subst_vars; as_aux_lemma => kernel_rfl) ?_
  refine (subI'_any _ _ _ _ _ _ _ _ _ _ _ _ _ _ u16).mono ?_; rintro e u17 ⟨g16, rfl, hg, hg', hb, hC⟩
  replace HK := Lib.hid (Stk.call2 4 HK.out hb hg hg' hC)
  have HX := Lib.hid (Std5.next hHeld hb)
  replace HB := Lib.hid (bnext HB.out hb)
  clear hb hg hg' hC
  refine ⟨_, rfl, hK.out _ _ ?S73 (fun hHeldN => ?_)⟩
  case S73 => exact HX.out
  clear hK K hHeld HX
  have hHeld := hHeldN
  clear hHeldN
  obtain ⟨A26, hA26⟩ : ∃ A, A = A25.put (some 88) (exV 4 0 0 0 (some ⟨g16, 0, none⟩) 2 2) := ⟨_, rfl⟩
  change RegE _ _ _ _ _ _ _ (A25.put (some 88) (exV 4 0 0 0 (some ⟨g16, 0, none⟩) 2 2)) _
  rw [← hA26]
  replace HK := Lib.hid (HK.out.leaf (vN 0) rfl)
  replace HK := Lib.hid (HK.out.leaf (vN 1) rfl)
  refine RegE.stepL (i := 77) rfl (by decide) (by as_aux_lemma => kernel_rfl) (fun K hK => ?_)
  refine step_enter (f := 15) (args := #[exV 2 0 0 0 none 0 0, exV 2 1 0 0 none 0 0]) (w' := u17) (by subst_vars; as_aux_lemma => kernel_rfl) (by subst_vars; as_aux_lemma => kernel_rfl) ?_
  refine (addI'_any _ _ _ _ _ _ _ _ _ _ _ _ _ _ u17).mono ?_; rintro e u18 ⟨g17, rfl, hg, hg', hb, hC⟩
  replace HK := Lib.hid (Stk.call2 3 HK.out hb hg hg' hC)
  have HX := Lib.hid (Std5.next hHeld hb)
  replace HB := Lib.hid (bnext HB.out hb)
  clear hb hg hg' hC
  refine ⟨_, rfl, hK.out _ _ ?S77 (fun hHeldN => ?_)⟩
  case S77 => exact HX.out
  clear hK K hHeld HX
  have hHeld := hHeldN
  clear hHeldN
  obtain ⟨A27, hA27⟩ : ∃ A, A = A26.put (some 92) (exV 3 0 0 0 (some ⟨g17, 0, none⟩) 2 2) := ⟨_, rfl⟩
  change RegE _ _ _ _ _ _ _ (A26.put (some 92) (exV 3 0 0 0 (some ⟨g17, 0, none⟩) 2 2)) _
  rw [← hA27]
  refine RegE.takeS (S := fun wx => Std5 wx b) (i := 78) (v := .agg #[.int .i64 2, .int .i64 4, .int .i64 0, .int .i64 0, .int .i64 0, .slice (some ⟨g16, 0, none⟩) 2 2, .int .i64 3, .int .i64 0, .int .i64 0, .int .i64 0, .slice (some ⟨g17, 0, none⟩) 2 2]) hB hA rfl (by decide) (by as_aux_lemma => kernel_rfl) (fun _ _ _ h => h) (Or.inl ⟨by subst_vars; as_aux_lemma => kernel_rfl, fun _ _ => by subst_vars; as_aux_lemma => kernel_rfl⟩) hHeld ?_
  obtain ⟨A28, hA28⟩ : ∃ A, A = A27.put (some 93) (.agg #[.int .i64 2, .int .i64 4, .int .i64 0, .int .i64 0, .int .i64 0, .slice (some ⟨g16, 0, none⟩) 2 2, .int .i64 3, .int .i64 0, .int .i64 0, .int .i64 0, .slice (some ⟨g17, 0, none⟩) 2 2]) := ⟨_, rfl⟩
  change RegE _ _ _ _ _ _ _ (A27.put (some 93) (.agg #[.int .i64 2, .int .i64 4, .int .i64 0, .int .i64 0, .int .i64 0, .slice (some ⟨g16, 0, none⟩) 2 2, .int .i64 3, .int .i64 0, .int .i64 0, .int .i64 0, .slice (some ⟨g17, 0, none⟩) 2 2])) _
  rw [← hA28]
  replace HK := Lib.hid (HK.out.leaf (vN 0) rfl)
  refine RegE.stepL (i := 82) rfl (by decide) (by as_aux_lemma => kernel_rfl) (fun K hK => ?_)
  refine step_enter (f := 13) (args := #[exV 2 0 0 0 none 0 0]) (w' := u18) (by subst_vars; as_aux_lemma => kernel_rfl) (by subst_vars; as_aux_lemma => kernel_rfl) ?_
  refine (negI_any _ _ _ _ _ _ _ u18).mono ?_; rintro e u19 ⟨g18, rfl, hg, hg', hb, hC⟩
  replace HK := Lib.hid (Stk.call1 HK.out hb hg hg' hC)
  have HX := Lib.hid (Std5.next hHeld hb)
  replace HB := Lib.hid (bnext HB.out hb)
  clear hb hg hg' hC
  refine ⟨_, rfl, hK.out _ _ ?S82 (fun hHeldN => ?_)⟩
  case S82 => exact HX.out
  clear hK K hHeld HX
  have hHeld := hHeldN
  clear hHeldN
  obtain ⟨A29, hA29⟩ : ∃ A, A = A28.put (some 97) (exV 7 0 0 0 (some ⟨g18, 0, none⟩) 1 1) := ⟨_, rfl⟩
  change RegE _ _ _ _ _ _ _ (A28.put (some 97) (exV 7 0 0 0 (some ⟨g18, 0, none⟩) 1 1)) _
  rw [← hA29]
  replace HK := Lib.hid (HK.out.leaf (vN 1) rfl)
  refine RegE.stepL (i := 85) rfl (by decide) (by as_aux_lemma => kernel_rfl) (fun K hK => ?_)
  refine step_enter (f := 13) (args := #[exV 2 1 0 0 none 0 0]) (w' := u19) (by subst_vars; as_aux_lemma => kernel_rfl) (by subst_vars; as_aux_lemma => kernel_rfl) ?_
  refine (negI_any _ _ _ _ _ _ _ u19).mono ?_; rintro e u20 ⟨g19, rfl, hg, hg', hb, hC⟩
  replace HK := Lib.hid (Stk.call1 HK.out hb hg hg' hC)
  have HX := Lib.hid (Std5.next hHeld hb)
  replace HB := Lib.hid (bnext HB.out hb)
  clear hb hg hg' hC
  refine ⟨_, rfl, hK.out _ _ ?S85 (fun hHeldN => ?_)⟩
  case S85 => exact HX.out
  clear hK K hHeld HX
  have hHeld := hHeldN
  clear hHeldN
  obtain ⟨A30, hA30⟩ : ∃ A, A = A29.put (some 100) (exV 7 0 0 0 (some ⟨g19, 0, none⟩) 1 1) := ⟨_, rfl⟩
  change RegE _ _ _ _ _ _ _ (A29.put (some 100) (exV 7 0 0 0 (some ⟨g19, 0, none⟩) 1 1)) _
  rw [← hA30]
  refine RegE.stepL (i := 86) rfl (by decide) (by as_aux_lemma => kernel_rfl) (fun K hK => ?_)
  refine step_enter (f := 17) (args := #[exV 7 0 0 0 (some ⟨g18, 0, none⟩) 1 1, exV 7 0 0 0 (some ⟨g19, 0, none⟩) 1 1]) (w' := u20) (by subst_vars; as_aux_lemma => kernel_rfl) (by subst_vars; as_aux_lemma => kernel_rfl) ?_
  refine (mulI'_any _ _ _ _ _ _ _ _ _ _ _ _ _ _ u20).mono ?_; rintro e u21 ⟨g20, rfl, hg, hg', hb, hC⟩
  replace HK := Lib.hid (Stk.call2 5 HK.out hb hg hg' hC)
  have HX := Lib.hid (Std5.next hHeld hb)
  replace HB := Lib.hid (bnext HB.out hb)
  clear hb hg hg' hC
  refine ⟨_, rfl, hK.out _ _ ?S86 (fun hHeldN => ?_)⟩
  case S86 => exact HX.out
  clear hK K hHeld HX
  have hHeld := hHeldN
  clear hHeldN
  obtain ⟨A31, hA31⟩ : ∃ A, A = A30.put (some 101) (exV 5 0 0 0 (some ⟨g20, 0, none⟩) 2 2) := ⟨_, rfl⟩
  change RegE _ _ _ _ _ _ _ (A30.put (some 101) (exV 5 0 0 0 (some ⟨g20, 0, none⟩) 2 2)) _
  rw [← hA31]
  replace HK := Lib.hid (HK.out.leaf (vN 0) rfl)
  replace HK := Lib.hid (HK.out.leaf (vN 1) rfl)
  refine RegE.stepL (i := 90) rfl (by decide) (by as_aux_lemma => kernel_rfl) (fun K hK => ?_)
  refine step_enter (f := 17) (args := #[exV 2 0 0 0 none 0 0, exV 2 1 0 0 none 0 0]) (w' := u21) (by subst_vars; as_aux_lemma => kernel_rfl) (by subst_vars; as_aux_lemma => kernel_rfl) ?_
  refine (mulI'_any _ _ _ _ _ _ _ _ _ _ _ _ _ _ u21).mono ?_; rintro e u22 ⟨g21, rfl, hg, hg', hb, hC⟩
  replace HK := Lib.hid (Stk.call2 5 HK.out hb hg hg' hC)
  have HX := Lib.hid (Std5.next hHeld hb)
  replace HB := Lib.hid (bnext HB.out hb)
  clear hb hg hg' hC
  refine ⟨_, rfl, hK.out _ _ ?S90 (fun hHeldN => ?_)⟩
  case S90 => exact HX.out
  clear hK K hHeld HX
  have hHeld := hHeldN
  clear hHeldN
  obtain ⟨A32, hA32⟩ : ∃ A, A = A31.put (some 105) (exV 5 0 0 0 (some ⟨g21, 0, none⟩) 2 2) := ⟨_, rfl⟩
  change RegE _ _ _ _ _ _ _ (A31.put (some 105) (exV 5 0 0 0 (some ⟨g21, 0, none⟩) 2 2)) _
  rw [← hA32]
  refine RegE.takeS (S := fun wx => Std5 wx b) (i := 91) (v := .agg #[.int .i64 2, .int .i64 5, .int .i64 0, .int .i64 0, .int .i64 0, .slice (some ⟨g20, 0, none⟩) 2 2, .int .i64 5, .int .i64 0, .int .i64 0, .int .i64 0, .slice (some ⟨g21, 0, none⟩) 2 2]) hB hA rfl (by decide) (by as_aux_lemma => kernel_rfl) (fun _ _ _ h => h) (Or.inl ⟨by subst_vars; as_aux_lemma => kernel_rfl, fun _ _ => by subst_vars; as_aux_lemma => kernel_rfl⟩) hHeld ?_
  obtain ⟨A33, hA33⟩ : ∃ A, A = A32.put (some 106) (.agg #[.int .i64 2, .int .i64 5, .int .i64 0, .int .i64 0, .int .i64 0, .slice (some ⟨g20, 0, none⟩) 2 2, .int .i64 5, .int .i64 0, .int .i64 0, .int .i64 0, .slice (some ⟨g21, 0, none⟩) 2 2]) := ⟨_, rfl⟩
  change RegE _ _ _ _ _ _ _ (A32.put (some 106) (.agg #[.int .i64 2, .int .i64 5, .int .i64 0, .int .i64 0, .int .i64 0, .slice (some ⟨g20, 0, none⟩) 2 2, .int .i64 5, .int .i64 0, .int .i64 0, .int .i64 0, .slice (some ⟨g21, 0, none⟩) 2 2])) _
  rw [← hA33]
  replace HK := Lib.hid (HK.out.leaf (vN 0) rfl)
  replace HK := Lib.hid (HK.out.leaf (vN 0) rfl)
  refine RegE.stepL (i := 95) rfl (by decide) (by as_aux_lemma => kernel_rfl) (fun K hK => ?_)
  refine step_enter (f := 16) (args := #[exV 2 0 0 0 none 0 0, exV 2 0 0 0 none 0 0]) (w' := u22) (by subst_vars; as_aux_lemma => kernel_rfl) (by subst_vars; as_aux_lemma => kernel_rfl) ?_
  refine (subI'_any _ _ _ _ _ _ _ _ _ _ _ _ _ _ u22).mono ?_; rintro e u23 ⟨g22, rfl, hg, hg', hb, hC⟩
  replace HK := Lib.hid (Stk.call2 4 HK.out hb hg hg' hC)
  have HX := Lib.hid (Std5.next hHeld hb)
  replace HB := Lib.hid (bnext HB.out hb)
  clear hb hg hg' hC
  refine ⟨_, rfl, hK.out _ _ ?S95 (fun hHeldN => ?_)⟩
  case S95 => exact HX.out
  clear hK K hHeld HX
  have hHeld := hHeldN
  clear hHeldN
  obtain ⟨A34, hA34⟩ : ∃ A, A = A33.put (some 110) (exV 4 0 0 0 (some ⟨g22, 0, none⟩) 2 2) := ⟨_, rfl⟩
  change RegE _ _ _ _ _ _ _ (A33.put (some 110) (exV 4 0 0 0 (some ⟨g22, 0, none⟩) 2 2)) _
  rw [← hA34]
  replace HK := Lib.hid (HK.out.leaf (cN 0) rfl)
  refine RegE.takeS (S := fun wx => Std5 wx b) (i := 97) (v := .agg #[.int .i64 1, .int .i64 4, .int .i64 0, .int .i64 0, .int .i64 0, .slice (some ⟨g22, 0, none⟩) 2 2, .int .i64 1, .int .i64 0, .int .i64 0, .int .i64 0, .slice none 0 0]) hB hA rfl (by decide) (by as_aux_lemma => kernel_rfl) (fun _ _ _ h => h) (Or.inl ⟨by subst_vars; as_aux_lemma => kernel_rfl, fun _ _ => by subst_vars; as_aux_lemma => kernel_rfl⟩) hHeld ?_
  obtain ⟨A35, hA35⟩ : ∃ A, A = A34.put (some 112) (.agg #[.int .i64 1, .int .i64 4, .int .i64 0, .int .i64 0, .int .i64 0, .slice (some ⟨g22, 0, none⟩) 2 2, .int .i64 1, .int .i64 0, .int .i64 0, .int .i64 0, .slice none 0 0]) := ⟨_, rfl⟩
  change RegE _ _ _ _ _ _ _ (A34.put (some 112) (.agg #[.int .i64 1, .int .i64 4, .int .i64 0, .int .i64 0, .int .i64 0, .slice (some ⟨g22, 0, none⟩) 2 2, .int .i64 1, .int .i64 0, .int .i64 0, .int .i64 0, .slice none 0 0])) _
  rw [← hA35]
  replace HK := Lib.hid (HK.out.leaf (vN 0) rfl)
  replace HK := Lib.hid (HK.out.leaf (vN 1) rfl)
  refine RegE.stepL (i := 102) rfl (by decide) (by as_aux_lemma => kernel_rfl) (fun K hK => ?_)
  refine step_enter (f := 17) (args := #[exV 2 0 0 0 none 0 0, exV 2 1 0 0 none 0 0]) (w' := u23) (by subst_vars; as_aux_lemma => kernel_rfl) (by subst_vars; as_aux_lemma => kernel_rfl) ?_
  refine (mulI'_any _ _ _ _ _ _ _ _ _ _ _ _ _ _ u23).mono ?_; rintro e u24 ⟨g23, rfl, hg, hg', hb, hC⟩
  replace HK := Lib.hid (Stk.call2 5 HK.out hb hg hg' hC)
  have HX := Lib.hid (Std5.next hHeld hb)
  replace HB := Lib.hid (bnext HB.out hb)
  clear hb hg hg' hC
  refine ⟨_, rfl, hK.out _ _ ?S102 (fun hHeldN => ?_)⟩
  case S102 => exact HX.out
  clear hK K hHeld HX
  have hHeld := hHeldN
  clear hHeldN
  obtain ⟨A36, hA36⟩ : ∃ A, A = A35.put (some 117) (exV 5 0 0 0 (some ⟨g23, 0, none⟩) 2 2) := ⟨_, rfl⟩
  change RegE _ _ _ _ _ _ _ (A35.put (some 117) (exV 5 0 0 0 (some ⟨g23, 0, none⟩) 2 2)) _
  rw [← hA36]
  replace HK := Lib.hid (HK.out.leaf (vN 0) rfl)
  replace HK := Lib.hid (HK.out.leaf (vN 2) rfl)
  refine RegE.stepL (i := 106) rfl (by decide) (by as_aux_lemma => kernel_rfl) (fun K hK => ?_)
  refine step_enter (f := 17) (args := #[exV 2 0 0 0 none 0 0, exV 2 2 0 0 none 0 0]) (w' := u24) (by subst_vars; as_aux_lemma => kernel_rfl) (by subst_vars; as_aux_lemma => kernel_rfl) ?_
  refine (mulI'_any _ _ _ _ _ _ _ _ _ _ _ _ _ _ u24).mono ?_; rintro e u25 ⟨g24, rfl, hg, hg', hb, hC⟩
  replace HK := Lib.hid (Stk.call2 5 HK.out hb hg hg' hC)
  have HX := Lib.hid (Std5.next hHeld hb)
  replace HB := Lib.hid (bnext HB.out hb)
  clear hb hg hg' hC
  refine ⟨_, rfl, hK.out _ _ ?S106 (fun hHeldN => ?_)⟩
  case S106 => exact HX.out
  clear hK K hHeld HX
  have hHeld := hHeldN
  clear hHeldN
  obtain ⟨A37, hA37⟩ : ∃ A, A = A36.put (some 121) (exV 5 0 0 0 (some ⟨g24, 0, none⟩) 2 2) := ⟨_, rfl⟩
  change RegE _ _ _ _ _ _ _ (A36.put (some 121) (exV 5 0 0 0 (some ⟨g24, 0, none⟩) 2 2)) _
  rw [← hA37]
  refine RegE.stepL (i := 107) rfl (by decide) (by as_aux_lemma => kernel_rfl) (fun K hK => ?_)
  refine step_enter (f := 15) (args := #[exV 5 0 0 0 (some ⟨g23, 0, none⟩) 2 2, exV 5 0 0 0 (some ⟨g24, 0, none⟩) 2 2]) (w' := u25) (by subst_vars; as_aux_lemma => kernel_rfl) (by subst_vars; as_aux_lemma => kernel_rfl) ?_
  refine (addI'_any _ _ _ _ _ _ _ _ _ _ _ _ _ _ u25).mono ?_; rintro e u26 ⟨g25, rfl, hg, hg', hb, hC⟩
  replace HK := Lib.hid (Stk.call2 3 HK.out hb hg hg' hC)
  have HX := Lib.hid (Std5.next hHeld hb)
  replace HB := Lib.hid (bnext HB.out hb)
  clear hb hg hg' hC
  refine ⟨_, rfl, hK.out _ _ ?S107 (fun hHeldN => ?_)⟩
  case S107 => exact HX.out
  clear hK K hHeld HX
  have hHeld := hHeldN
  clear hHeldN
  obtain ⟨A38, hA38⟩ : ∃ A, A = A37.put (some 122) (exV 3 0 0 0 (some ⟨g25, 0, none⟩) 2 2) := ⟨_, rfl⟩
  change RegE _ _ _ _ _ _ _ (A37.put (some 122) (exV 3 0 0 0 (some ⟨g25, 0, none⟩) 2 2)) _
  rw [← hA38]
  replace HK := Lib.hid (HK.out.leaf (vN 0) rfl)
  replace HK := Lib.hid (HK.out.leaf (vN 1) rfl)
  replace HK := Lib.hid (HK.out.leaf (vN 2) rfl)
  refine RegE.stepL (i := 113) rfl (by decide) (by as_aux_lemma => kernel_rfl) (fun K hK => ?_)
  refine step_enter (f := 15) (args := #[exV 2 1 0 0 none 0 0, exV 2 2 0 0 none 0 0]) (w' := u26) (by subst_vars; as_aux_lemma => kernel_rfl) (by subst_vars; as_aux_lemma => kernel_rfl) ?_
  refine (addI'_any _ _ _ _ _ _ _ _ _ _ _ _ _ _ u26).mono ?_; rintro e u27 ⟨g26, rfl, hg, hg', hb, hC⟩
  replace HK := Lib.hid (Stk.call2 3 HK.out hb hg hg' hC)
  have HX := Lib.hid (Std5.next hHeld hb)
  replace HB := Lib.hid (bnext HB.out hb)
  clear hb hg hg' hC
  refine ⟨_, rfl, hK.out _ _ ?S113 (fun hHeldN => ?_)⟩
  case S113 => exact HX.out
  clear hK K hHeld HX
  have hHeld := hHeldN
  clear hHeldN
  obtain ⟨A39, hA39⟩ : ∃ A, A = A38.put (some 128) (exV 3 0 0 0 (some ⟨g26, 0, none⟩) 2 2) := ⟨_, rfl⟩
  change RegE _ _ _ _ _ _ _ (A38.put (some 128) (exV 3 0 0 0 (some ⟨g26, 0, none⟩) 2 2)) _
  rw [← hA39]
  refine RegE.stepL (i := 114) rfl (by decide) (by as_aux_lemma => kernel_rfl) (fun K hK => ?_)
  refine step_enter (f := 17) (args := #[exV 2 0 0 0 none 0 0, exV 3 0 0 0 (some ⟨g26, 0, none⟩) 2 2]) (w' := u27) (by subst_vars; as_aux_lemma => kernel_rfl) (by subst_vars; as_aux_lemma => kernel_rfl) ?_
  refine (mulI'_any _ _ _ _ _ _ _ _ _ _ _ _ _ _ u27).mono ?_; rintro e u28 ⟨g27, rfl, hg, hg', hb, hC⟩
  replace HK := Lib.hid (Stk.call2 5 HK.out hb hg hg' hC)
  have HX := Lib.hid (Std5.next hHeld hb)
  replace HB := Lib.hid (bnext HB.out hb)
  clear hb hg hg' hC
  refine ⟨_, rfl, hK.out _ _ ?S114 (fun hHeldN => ?_)⟩
  case S114 => exact HX.out
  clear hK K hHeld HX
  have hHeld := hHeldN
  clear hHeldN
  obtain ⟨A40, hA40⟩ : ∃ A, A = A39.put (some 129) (exV 5 0 0 0 (some ⟨g27, 0, none⟩) 2 2) := ⟨_, rfl⟩
  change RegE _ _ _ _ _ _ _ (A39.put (some 129) (exV 5 0 0 0 (some ⟨g27, 0, none⟩) 2 2)) _
  rw [← hA40]
  refine RegE.takeS (S := fun wx => Std5 wx b) (i := 115) (v := .agg #[.int .i64 3, .int .i64 3, .int .i64 0, .int .i64 0, .int .i64 0, .slice (some ⟨g25, 0, none⟩) 2 2, .int .i64 5, .int .i64 0, .int .i64 0, .int .i64 0, .slice (some ⟨g27, 0, none⟩) 2 2]) hB hA rfl (by decide) (by as_aux_lemma => kernel_rfl) (fun _ _ _ h => h) (Or.inl ⟨by subst_vars; as_aux_lemma => kernel_rfl, fun _ _ => by subst_vars; as_aux_lemma => kernel_rfl⟩) hHeld ?_
  obtain ⟨A41, hA41⟩ : ∃ A, A = A40.put (some 130) (.agg #[.int .i64 3, .int .i64 3, .int .i64 0, .int .i64 0, .int .i64 0, .slice (some ⟨g25, 0, none⟩) 2 2, .int .i64 5, .int .i64 0, .int .i64 0, .int .i64 0, .slice (some ⟨g27, 0, none⟩) 2 2]) := ⟨_, rfl⟩
  change RegE _ _ _ _ _ _ _ (A40.put (some 130) (.agg #[.int .i64 3, .int .i64 3, .int .i64 0, .int .i64 0, .int .i64 0, .slice (some ⟨g25, 0, none⟩) 2 2, .int .i64 5, .int .i64 0, .int .i64 0, .int .i64 0, .slice (some ⟨g27, 0, none⟩) 2 2])) _
  rw [← hA41]
  replace HK := Lib.hid (HK.out.leaf (vN 0) rfl)
  replace HK := Lib.hid (HK.out.leaf (vN 2) rfl)
  refine RegE.stepL (i := 120) rfl (by decide) (by as_aux_lemma => kernel_rfl) (fun K hK => ?_)
  refine step_enter (f := 17) (args := #[exV 2 0 0 0 none 0 0, exV 2 2 0 0 none 0 0]) (w' := u28) (by subst_vars; as_aux_lemma => kernel_rfl) (by subst_vars; as_aux_lemma => kernel_rfl) ?_
  refine (mulI'_any _ _ _ _ _ _ _ _ _ _ _ _ _ _ u28).mono ?_; rintro e u29 ⟨g28, rfl, hg, hg', hb, hC⟩
  replace HK := Lib.hid (Stk.call2 5 HK.out hb hg hg' hC)
  have HX := Lib.hid (Std5.next hHeld hb)
  replace HB := Lib.hid (bnext HB.out hb)
  clear hb hg hg' hC
  refine ⟨_, rfl, hK.out _ _ ?S120 (fun hHeldN => ?_)⟩
  case S120 => exact HX.out
  clear hK K hHeld HX
  have hHeld := hHeldN
  clear hHeldN
  obtain ⟨A42, hA42⟩ : ∃ A, A = A41.put (some 135) (exV 5 0 0 0 (some ⟨g28, 0, none⟩) 2 2) := ⟨_, rfl⟩
  change RegE _ _ _ _ _ _ _ (A41.put (some 135) (exV 5 0 0 0 (some ⟨g28, 0, none⟩) 2 2)) _
  rw [← hA42]
  replace HK := Lib.hid (HK.out.leaf (vN 1) rfl)
  replace HK := Lib.hid (HK.out.leaf (vN 2) rfl)
  refine RegE.stepL (i := 124) rfl (by decide) (by as_aux_lemma => kernel_rfl) (fun K hK => ?_)
  refine step_enter (f := 17) (args := #[exV 2 1 0 0 none 0 0, exV 2 2 0 0 none 0 0]) (w' := u29) (by subst_vars; as_aux_lemma => kernel_rfl) (by subst_vars; as_aux_lemma => kernel_rfl) ?_
  refine (mulI'_any _ _ _ _ _ _ _ _ _ _ _ _ _ _ u29).mono ?_; rintro e u30 ⟨g29, rfl, hg, hg', hb, hC⟩
  replace HK := Lib.hid (Stk.call2 5 HK.out hb hg hg' hC)
  have HX := Lib.hid (Std5.next hHeld hb)
  replace HB := Lib.hid (bnext HB.out hb)
  clear hb hg hg' hC
  refine ⟨_, rfl, hK.out _ _ ?S124 (fun hHeldN => ?_)⟩
  case S124 => exact HX.out
  clear hK K hHeld HX
  have hHeld := hHeldN
  clear hHeldN
  obtain ⟨A43, hA43⟩ : ∃ A, A = A42.put (some 139) (exV 5 0 0 0 (some ⟨g29, 0, none⟩) 2 2) := ⟨_, rfl⟩
  change RegE _ _ _ _ _ _ _ (A42.put (some 139) (exV 5 0 0 0 (some ⟨g29, 0, none⟩) 2 2)) _
  rw [← hA43]
  refine RegE.stepL (i := 125) rfl (by decide) (by as_aux_lemma => kernel_rfl) (fun K hK => ?_)
  refine step_enter (f := 15) (args := #[exV 5 0 0 0 (some ⟨g28, 0, none⟩) 2 2, exV 5 0 0 0 (some ⟨g29, 0, none⟩) 2 2]) (w' := u30) (by subst_vars; as_aux_lemma => kernel_rfl) (by subst_vars; as_aux_lemma => kernel_rfl) ?_
  refine (addI'_any _ _ _ _ _ _ _ _ _ _ _ _ _ _ u30).mono ?_; rintro e u31 ⟨g30, rfl, hg, hg', hb, hC⟩
  replace HK := Lib.hid (Stk.call2 3 HK.out hb hg hg' hC)
  have HX := Lib.hid (Std5.next hHeld hb)
  replace HB := Lib.hid (bnext HB.out hb)
  clear hb hg hg' hC
  refine ⟨_, rfl, hK.out _ _ ?S125 (fun hHeldN => ?_)⟩
  case S125 => exact HX.out
  clear hK K hHeld HX
  have hHeld := hHeldN
  clear hHeldN
  obtain ⟨A44, hA44⟩ : ∃ A, A = A43.put (some 140) (exV 3 0 0 0 (some ⟨g30, 0, none⟩) 2 2) := ⟨_, rfl⟩
  change RegE _ _ _ _ _ _ _ (A43.put (some 140) (exV 3 0 0 0 (some ⟨g30, 0, none⟩) 2 2)) _
  rw [← hA44]
  replace HK := Lib.hid (HK.out.leaf (vN 0) rfl)
  replace HK := Lib.hid (HK.out.leaf (vN 1) rfl)
  refine RegE.stepL (i := 130) rfl (by decide) (by as_aux_lemma => kernel_rfl) (fun K hK => ?_)
  refine step_enter (f := 15) (args := #[exV 2 0 0 0 none 0 0, exV 2 1 0 0 none 0 0]) (w' := u31) (by subst_vars; as_aux_lemma => kernel_rfl) (by subst_vars; as_aux_lemma => kernel_rfl) ?_
  refine (addI'_any _ _ _ _ _ _ _ _ _ _ _ _ _ _ u31).mono ?_; rintro e u32 ⟨g31, rfl, hg, hg', hb, hC⟩
  replace HK := Lib.hid (Stk.call2 3 HK.out hb hg hg' hC)
  have HX := Lib.hid (Std5.next hHeld hb)
  replace HB := Lib.hid (bnext HB.out hb)
  clear hb hg hg' hC
  refine ⟨_, rfl, hK.out _ _ ?S130 (fun hHeldN => ?_)⟩
  case S130 => exact HX.out
  clear hK K hHeld HX
  have hHeld := hHeldN
  clear hHeldN
  obtain ⟨A45, hA45⟩ : ∃ A, A = A44.put (some 145) (exV 3 0 0 0 (some ⟨g31, 0, none⟩) 2 2) := ⟨_, rfl⟩
  change RegE _ _ _ _ _ _ _ (A44.put (some 145) (exV 3 0 0 0 (some ⟨g31, 0, none⟩) 2 2)) _
  rw [← hA45]
  replace HK := Lib.hid (HK.out.leaf (vN 2) rfl)
  refine RegE.stepL (i := 132) rfl (by decide) (by as_aux_lemma => kernel_rfl) (fun K hK => ?_)
  refine step_enter (f := 17) (args := #[exV 3 0 0 0 (some ⟨g31, 0, none⟩) 2 2, exV 2 2 0 0 none 0 0]) (w' := u32) (by subst_vars; as_aux_lemma => kernel_rfl) (by subst_vars; as_aux_lemma => kernel_rfl) ?_
  refine (mulI'_any _ _ _ _ _ _ _ _ _ _ _ _ _ _ u32).mono ?_; rintro e u33 ⟨g32, rfl, hg, hg', hb, hC⟩
  replace HK := Lib.hid (Stk.call2 5 HK.out hb hg hg' hC)
  have HX := Lib.hid (Std5.next hHeld hb)
  replace HB := Lib.hid (bnext HB.out hb)
  clear hb hg hg' hC
  refine ⟨_, rfl, hK.out _ _ ?S132 (fun hHeldN => ?_)⟩
  case S132 => exact HX.out
  clear hK K hHeld HX
  have hHeld := hHeldN
  clear hHeldN
  obtain ⟨A46, hA46⟩ : ∃ A, A = A45.put (some 147) (exV 5 0 0 0 (some ⟨g32, 0, none⟩) 2 2) := ⟨_, rfl⟩
  change RegE _ _ _ _ _ _ _ (A45.put (some 147) (exV 5 0 0 0 (some ⟨g32, 0, none⟩) 2 2)) _
  rw [← hA46]
  refine RegE.takeS (S := fun wx => Std5 wx b) (i := 133) (v := .agg #[.int .i64 3, .int .i64 3, .int .i64 0, .int .i64 0, .int .i64 0, .slice (some ⟨g30, 0, none⟩) 2 2, .int .i64 5, .int .i64 0, .int .i64 0, .int .i64 0, .slice (some ⟨g32, 0, none⟩) 2 2]) hB hA rfl (by decide) (by as_aux_lemma => kernel_rfl) (fun _ _ _ h => h) (Or.inl ⟨by subst_vars; as_aux_lemma => kernel_rfl, fun _ _ => by subst_vars; as_aux_lemma => kernel_rfl⟩) hHeld ?_
  obtain ⟨A47, hA47⟩ : ∃ A, A = A46.put (some 148) (.agg #[.int .i64 3, .int .i64 3, .int .i64 0, .int .i64 0, .int .i64 0, .slice (some ⟨g30, 0, none⟩) 2 2, .int .i64 5, .int .i64 0, .int .i64 0, .int .i64 0, .slice (some ⟨g32, 0, none⟩) 2 2]) := ⟨_, rfl⟩
  change RegE _ _ _ _ _ _ _ (A46.put (some 148) (.agg #[.int .i64 3, .int .i64 3, .int .i64 0, .int .i64 0, .int .i64 0, .slice (some ⟨g30, 0, none⟩) 2 2, .int .i64 5, .int .i64 0, .int .i64 0, .int .i64 0, .slice (some ⟨g32, 0, none⟩) 2 2])) _
  rw [← hA47]
  replace HK := Lib.hid (HK.out.leaf (vN 0) rfl)
  replace HK := Lib.hid (HK.out.leaf (vN 1) rfl)
  refine RegE.stepL (i := 138) rfl (by decide) (by as_aux_lemma => kernel_rfl) (fun K hK => ?_)
  refine step_enter (f := 17) (args := #[exV 2 0 0 0 none 0 0, exV 2 1 0 0 none 0 0]) (w' := u33) (by subst_vars; as_aux_lemma => kernel_rfl) (by subst_vars; as_aux_lemma => kernel_rfl) ?_
  refine (mulI'_any _ _ _ _ _ _ _ _ _ _ _ _ _ _ u33).mono ?_; rintro e u34 ⟨g33, rfl, hg, hg', hb, hC⟩
  replace HK := Lib.hid (Stk.call2 5 HK.out hb hg hg' hC)
  have HX := Lib.hid (Std5.next hHeld hb)
  replace HB := Lib.hid (bnext HB.out hb)
  clear hb hg hg' hC
  refine ⟨_, rfl, hK.out _ _ ?S138 (fun hHeldN => ?_)⟩
  case S138 => exact HX.out
  clear hK K hHeld HX
  have hHeld := hHeldN
  clear hHeldN
  obtain ⟨A48, hA48⟩ : ∃ A, A = A47.put (some 153) (exV 5 0 0 0 (some ⟨g33, 0, none⟩) 2 2) := ⟨_, rfl⟩
  change RegE _ _ _ _ _ _ _ (A47.put (some 153) (exV 5 0 0 0 (some ⟨g33, 0, none⟩) 2 2)) _
  rw [← hA48]
  replace HK := Lib.hid (HK.out.leaf (vN 0) rfl)
  replace HK := Lib.hid (HK.out.leaf (vN 2) rfl)
  refine RegE.stepL (i := 142) rfl (by decide) (by as_aux_lemma => kernel_rfl) (fun K hK => ?_)
  refine step_enter (f := 17) (args := #[exV 2 0 0 0 none 0 0, exV 2 2 0 0 none 0 0]) (w' := u34) (by subst_vars; as_aux_lemma => kernel_rfl) (by subst_vars; as_aux_lemma => kernel_rfl) ?_
  refine (mulI'_any _ _ _ _ _ _ _ _ _ _ _ _ _ _ u34).mono ?_; rintro e u35 ⟨g34, rfl, hg, hg', hb, hC⟩
  replace HK := Lib.hid (Stk.call2 5 HK.out hb hg hg' hC)
  have HX := Lib.hid (Std5.next hHeld hb)
  replace HB := Lib.hid (bnext HB.out hb)
  clear hb hg hg' hC
  refine ⟨_, rfl, hK.out _ _ ?S142 (fun hHeldN => ?_)⟩
  case S142 => exact HX.out
  clear hK K hHeld HX
  have hHeld := hHeldN
  clear hHeldN
  obtain ⟨A49, hA49⟩ : ∃ A, A = A48.put (some 157) (exV 5 0 0 0 (some ⟨g34, 0, none⟩) 2 2) := ⟨_, rfl⟩
  change RegE _ _ _ _ _ _ _ (A48.put (some 157) (exV 5 0 0 0 (some ⟨g34, 0, none⟩) 2 2)) _
  rw [← hA49]
  refine RegE.stepL (i := 143) rfl (by decide) (by as_aux_lemma => kernel_rfl) (fun K hK => ?_)
  refine step_enter (f := 16) (args := #[exV 5 0 0 0 (some ⟨g33, 0, none⟩) 2 2, exV 5 0 0 0 (some ⟨g34, 0, none⟩) 2 2]) (w' := u35) (by subst_vars; as_aux_lemma => kernel_rfl) (by subst_vars; as_aux_lemma => kernel_rfl) ?_
  refine (subI'_any _ _ _ _ _ _ _ _ _ _ _ _ _ _ u35).mono ?_; rintro e u36 ⟨g35, rfl, hg, hg', hb, hC⟩
  replace HK := Lib.hid (Stk.call2 4 HK.out hb hg hg' hC)
  have HX := Lib.hid (Std5.next hHeld hb)
  replace HB := Lib.hid (bnext HB.out hb)
  clear hb hg hg' hC
  refine ⟨_, rfl, hK.out _ _ ?S143 (fun hHeldN => ?_)⟩
  case S143 => exact HX.out
  clear hK K hHeld HX
  have hHeld := hHeldN
  clear hHeldN
  obtain ⟨A50, hA50⟩ : ∃ A, A = A49.put (some 158) (exV 4 0 0 0 (some ⟨g35, 0, none⟩) 2 2) := ⟨_, rfl⟩
  change RegE _ _ _ _ _ _ _ (A49.put (some 158) (exV 4 0 0 0 (some ⟨g35, 0, none⟩) 2 2)) _
  rw [← hA50]
  replace HK := Lib.hid (HK.out.leaf (vN 0) rfl)
  replace HK := Lib.hid (HK.out.leaf (vN 1) rfl)
  replace HK := Lib.hid (HK.out.leaf (vN 2) rfl)
  refine RegE.stepL (i := 149) rfl (by decide) (by as_aux_lemma => kernel_rfl) (fun K hK => ?_)
  refine step_enter (f := 16) (args := #[exV 2 1 0 0 none 0 0, exV 2 2 0 0 none 0 0]) (w' := u36) (by subst_vars; as_aux_lemma => kernel_rfl) (by subst_vars; as_aux_lemma => kernel_rfl) ?_
  refine (subI'_any _ _ _ _ _ _ _ _ _ _ _ _ _ _ u36).mono ?_; rintro e u37 ⟨g36, rfl, hg, hg', hb, hC⟩
  replace HK := Lib.hid (Stk.call2 4 HK.out hb hg hg' hC)
  have HX := Lib.hid (Std5.next hHeld hb)
  replace HB := Lib.hid (bnext HB.out hb)
  clear hb hg hg' hC
  refine ⟨_, rfl, hK.out _ _ ?S149 (fun hHeldN => ?_)⟩
  case S149 => exact HX.out
  clear hK K hHeld HX
  have hHeld := hHeldN
  clear hHeldN
  obtain ⟨A51, hA51⟩ : ∃ A, A = A50.put (some 164) (exV 4 0 0 0 (some ⟨g36, 0, none⟩) 2 2) := ⟨_, rfl⟩
  change RegE _ _ _ _ _ _ _ (A50.put (some 164) (exV 4 0 0 0 (some ⟨g36, 0, none⟩) 2 2)) _
  rw [← hA51]
  refine RegE.stepL (i := 150) rfl (by decide) (by as_aux_lemma => kernel_rfl) (fun K hK => ?_)
  refine step_enter (f := 17) (args := #[exV 2 0 0 0 none 0 0, exV 4 0 0 0 (some ⟨g36, 0, none⟩) 2 2]) (w' := u37) (by subst_vars; as_aux_lemma => kernel_rfl) (by subst_vars; as_aux_lemma => kernel_rfl) ?_
  refine (mulI'_any _ _ _ _ _ _ _ _ _ _ _ _ _ _ u37).mono ?_; rintro e u38 ⟨g37, rfl, hg, hg', hb, hC⟩
  replace HK := Lib.hid (Stk.call2 5 HK.out hb hg hg' hC)
  have HX := Lib.hid (Std5.next hHeld hb)
  replace HB := Lib.hid (bnext HB.out hb)
  clear hb hg hg' hC
  refine ⟨_, rfl, hK.out _ _ ?S150 (fun hHeldN => ?_)⟩
  case S150 => exact HX.out
  clear hK K hHeld HX
  have hHeld := hHeldN
  clear hHeldN
  obtain ⟨A52, hA52⟩ : ∃ A, A = A51.put (some 165) (exV 5 0 0 0 (some ⟨g37, 0, none⟩) 2 2) := ⟨_, rfl⟩
  change RegE _ _ _ _ _ _ _ (A51.put (some 165) (exV 5 0 0 0 (some ⟨g37, 0, none⟩) 2 2)) _
  rw [← hA52]
  refine RegE.takeS (S := fun wx => Std5 wx b) (i := 151) (v := .agg #[.int .i64 3, .int .i64 4, .int .i64 0, .int .i64 0, .int .i64 0, .slice (some ⟨g35, 0, none⟩) 2 2, .int .i64 5, .int .i64 0, .int .i64 0, .int .i64 0, .slice (some ⟨g37, 0, none⟩) 2 2]) hB hA rfl (by decide) (by as_aux_lemma => kernel_rfl) (fun _ _ _ h => h) (Or.inl ⟨by subst_vars; as_aux_lemma => kernel_rfl, fun _ _ => by subst_vars; as_aux_lemma => kernel_rfl⟩) hHeld ?_
  obtain ⟨A53, hA53⟩ : ∃ A, A = A52.put (some 166) (.agg #[.int .i64 3, .int .i64 4, .int .i64 0, .int .i64 0, .int .i64 0, .slice (some ⟨g35, 0, none⟩) 2 2, .int .i64 5, .int .i64 0, .int .i64 0, .int .i64 0, .slice (some ⟨g37, 0, none⟩) 2 2]) := ⟨_, rfl⟩
  change RegE _ _ _ _ _ _ _ (A52.put (some 166) (.agg #[.int .i64 3, .int .i64 4, .int .i64 0, .int .i64 0, .int .i64 0, .slice (some ⟨g35, 0, none⟩) 2 2, .int .i64 5, .int .i64 0, .int .i64 0, .int .i64 0, .slice (some ⟨g37, 0, none⟩) 2 2])) _
  rw [← hA53]
  have HE : Hid (RetRu rs w (.returned (.slice (some ⟨u38.heap.size, 0, none⟩) 16 16)) (u38.alloc (.cells (([(3, (opXN 4 (opXN 5 (vN 0) (vN 1)) (opXN 5 (vN 0) (vN 2)), some ⟨g35, 0, none⟩, 2), (opXN 5 (vN 0) (opXN 4 (vN 1) (vN 2)), some ⟨g37, 0, none⟩, 2)), (3, (opXN 3 (opXN 5 (vN 0) (vN 2)) (opXN 5 (vN 1) (vN 2)), some ⟨g30, 0, none⟩, 2), (opXN 5 (opXN 3 (vN 0) (vN 1)) (vN 2), some ⟨g32, 0, none⟩, 2)), (3, (opXN 3 (opXN 5 (vN 0) (vN 1)) (opXN 5 (vN 0) (vN 2)), some ⟨g25, 0, none⟩, 2), (opXN 5 (vN 0) (opXN 3 (vN 1) (vN 2)), some ⟨g27, 0, none⟩, 2)), (1, (opXN 4 (vN 0) (vN 0), some ⟨g22, 0, none⟩, 2), (cN 0, none, 0)), (2, (opXN 5 (ngN (vN 0)) (ngN (vN 1)), some ⟨g20, 0, none⟩, 2), (opXN 5 (vN 0) (vN 1), some ⟨g21, 0, none⟩, 2)), (2, (opXN 4 (vN 0) (ngN (vN 1)), some ⟨g16, 0, none⟩, 2), (opXN 3 (vN 0) (vN 1), some ⟨g17, 0, none⟩, 2)), (2, (opXN 3 (vN 0) (ngN (vN 1)), some ⟨g13, 0, none⟩, 2), (opXN 4 (vN 0) (vN 1), some ⟨g14, 0, none⟩, 2)), (1, (ngN (ngN (vN 0)), some ⟨g11, 0, none⟩, 1), (vN 0, none, 0)), (1, (opXN 5 (cN 0) (vN 0), some ⟨g9, 0, none⟩, 2), (cN 0, none, 0)), (1, (opXN 5 (vN 0) (cN 0), some ⟨g8, 0, none⟩, 2), (cN 0, none, 0)), (1, (opXN 5 (cN 1) (vN 0), some ⟨g7, 0, none⟩, 2), (vN 0, none, 0)), (1, (opXN 5 (vN 0) (cN 1), some ⟨g6, 0, none⟩, 2), (vN 0, none, 0)), (1, (opXN 4 (cN 0) (vN 0), some ⟨g4, 0, none⟩, 2), (ngN (vN 0), some ⟨g5, 0, none⟩, 1)), (1, (opXN 4 (vN 0) (cN 0), some ⟨g3, 0, none⟩, 2), (vN 0, none, 0)), (1, (opXN 3 (cN 0) (vN 0), some ⟨g2, 0, none⟩, 2), (vN 0, none, 0)), (1, (opXN 3 (vN 0) (cN 0), some ⟨g1, 0, none⟩, 2), (vN 0, none, 0))] : List RuP).reverse.map ruC).flatten.toArray 31))) := by
    show RetRu rs w _ _
    rw [HRS.out]
    exact stdEnd (ps := [(3, (opXN 4 (opXN 5 (vN 0) (vN 1)) (opXN 5 (vN 0) (vN 2)), some ⟨g35, 0, none⟩, 2), (opXN 5 (vN 0) (opXN 4 (vN 1) (vN 2)), some ⟨g37, 0, none⟩, 2)), (3, (opXN 3 (opXN 5 (vN 0) (vN 2)) (opXN 5 (vN 1) (vN 2)), some ⟨g30, 0, none⟩, 2), (opXN 5 (opXN 3 (vN 0) (vN 1)) (vN 2), some ⟨g32, 0, none⟩, 2)), (3, (opXN 3 (opXN 5 (vN 0) (vN 1)) (opXN 5 (vN 0) (vN 2)), some ⟨g25, 0, none⟩, 2), (opXN 5 (vN 0) (opXN 3 (vN 1) (vN 2)), some ⟨g27, 0, none⟩, 2)), (1, (opXN 4 (vN 0) (vN 0), some ⟨g22, 0, none⟩, 2), (cN 0, none, 0)), (2, (opXN 5 (ngN (vN 0)) (ngN (vN 1)), some ⟨g20, 0, none⟩, 2), (opXN 5 (vN 0) (vN 1), some ⟨g21, 0, none⟩, 2)), (2, (opXN 4 (vN 0) (ngN (vN 1)), some ⟨g16, 0, none⟩, 2), (opXN 3 (vN 0) (vN 1), some ⟨g17, 0, none⟩, 2)), (2, (opXN 3 (vN 0) (ngN (vN 1)), some ⟨g13, 0, none⟩, 2), (opXN 4 (vN 0) (vN 1), some ⟨g14, 0, none⟩, 2)), (1, (ngN (ngN (vN 0)), some ⟨g11, 0, none⟩, 1), (vN 0, none, 0)), (1, (opXN 5 (cN 0) (vN 0), some ⟨g9, 0, none⟩, 2), (cN 0, none, 0)), (1, (opXN 5 (vN 0) (cN 0), some ⟨g8, 0, none⟩, 2), (cN 0, none, 0)), (1, (opXN 5 (cN 1) (vN 0), some ⟨g7, 0, none⟩, 2), (vN 0, none, 0)), (1, (opXN 5 (vN 0) (cN 1), some ⟨g6, 0, none⟩, 2), (vN 0, none, 0)), (1, (opXN 4 (cN 0) (vN 0), some ⟨g4, 0, none⟩, 2), (ngN (vN 0), some ⟨g5, 0, none⟩, 1)), (1, (opXN 4 (vN 0) (cN 0), some ⟨g3, 0, none⟩, 2), (vN 0, none, 0)), (1, (opXN 3 (cN 0) (vN 0), some ⟨g2, 0, none⟩, 2), (vN 0, none, 0)), (1, (opXN 3 (vN 0) (cN 0), some ⟨g1, 0, none⟩, 2), (vN 0, none, 0))]) HK.out HB.out HL.out rfl
  clear HK HL
  refine RegE.stepL (i := 152) rfl (by decide) (by as_aux_lemma => kernel_rfl) (fun K hK => ?_)
  refine step_value (v := .slice (some ⟨u38.heap.size, 0, none⟩) 16 16) (w' := u38.alloc (.cells (([(3, (opXN 4 (opXN 5 (vN 0) (vN 1)) (opXN 5 (vN 0) (vN 2)), some ⟨g35, 0, none⟩, 2), (opXN 5 (vN 0) (opXN 4 (vN 1) (vN 2)), some ⟨g37, 0, none⟩, 2)), (3, (opXN 3 (opXN 5 (vN 0) (vN 2)) (opXN 5 (vN 1) (vN 2)), some ⟨g30, 0, none⟩, 2), (opXN 5 (opXN 3 (vN 0) (vN 1)) (vN 2), some ⟨g32, 0, none⟩, 2)), (3, (opXN 3 (opXN 5 (vN 0) (vN 1)) (opXN 5 (vN 0) (vN 2)), some ⟨g25, 0, none⟩, 2), (opXN 5 (vN 0) (opXN 3 (vN 1) (vN 2)), some ⟨g27, 0, none⟩, 2)), (1, (opXN 4 (vN 0) (vN 0), some ⟨g22, 0, none⟩, 2), (cN 0, none, 0)), (2, (opXN 5 (ngN (vN 0)) (ngN (vN 1)), some ⟨g20, 0, none⟩, 2), (opXN 5 (vN 0) (vN 1), some ⟨g21, 0, none⟩, 2)), (2, (opXN 4 (vN 0) (ngN (vN 1)), some ⟨g16, 0, none⟩, 2), (opXN 3 (vN 0) (vN 1), some ⟨g17, 0, none⟩, 2)), (2, (opXN 3 (vN 0) (ngN (vN 1)), some ⟨g13, 0, none⟩, 2), (opXN 4 (vN 0) (vN 1), some ⟨g14, 0, none⟩, 2)), (1, (ngN (ngN (vN 0)), some ⟨g11, 0, none⟩, 1), (vN 0, none, 0)), (1, (opXN 5 (cN 0) (vN 0), some ⟨g9, 0, none⟩, 2), (cN 0, none, 0)), (1, (opXN 5 (vN 0) (cN 0), some ⟨g8, 0, none⟩, 2), (cN 0, none, 0)), (1, (opXN 5 (cN 1) (vN 0), some ⟨g7, 0, none⟩, 2), (vN 0, none, 0)), (1, (opXN 5 (vN 0) (cN 1), some ⟨g6, 0, none⟩, 2), (vN 0, none, 0)), (1, (opXN 4 (cN 0) (vN 0), some ⟨g4, 0, none⟩, 2), (ngN (vN 0), some ⟨g5, 0, none⟩, 1)), (1, (opXN 4 (vN 0) (cN 0), some ⟨g3, 0, none⟩, 2), (vN 0, none, 0)), (1, (opXN 3 (cN 0) (vN 0), some ⟨g2, 0, none⟩, 2), (vN 0, none, 0)), (1, (opXN 3 (vN 0) (cN 0), some ⟨g1, 0, none⟩, 2), (vN 0, none, 0))] : List RuP).reverse.map ruC).flatten.toArray 31)) (by subst_vars; as_aux_lemma => kernel_rfl) (by subst_vars; as_aux_lemma => kernel_rfl) ?_
  refine hK.out _ _ ?S152 (fun hHeldN => ?_)
  case S152 => exact Std5.next hHeld (by go_grown)
  clear hK K hHeld hHeldN
  refine RegE.lastL rfl (by as_aux_lemma => kernel_rfl) (by as_aux_lemma => kernel_rfl) (fun K hK => ?_)
  refine step_value (v := .slice (some ⟨u38.heap.size, 0, none⟩) 16 16) (w' := u38.alloc (.cells (([(3, (opXN 4 (opXN 5 (vN 0) (vN 1)) (opXN 5 (vN 0) (vN 2)), some ⟨g35, 0, none⟩, 2), (opXN 5 (vN 0) (opXN 4 (vN 1) (vN 2)), some ⟨g37, 0, none⟩, 2)), (3, (opXN 3 (opXN 5 (vN 0) (vN 2)) (opXN 5 (vN 1) (vN 2)), some ⟨g30, 0, none⟩, 2), (opXN 5 (opXN 3 (vN 0) (vN 1)) (vN 2), some ⟨g32, 0, none⟩, 2)), (3, (opXN 3 (opXN 5 (vN 0) (vN 1)) (opXN 5 (vN 0) (vN 2)), some ⟨g25, 0, none⟩, 2), (opXN 5 (vN 0) (opXN 3 (vN 1) (vN 2)), some ⟨g27, 0, none⟩, 2)), (1, (opXN 4 (vN 0) (vN 0), some ⟨g22, 0, none⟩, 2), (cN 0, none, 0)), (2, (opXN 5 (ngN (vN 0)) (ngN (vN 1)), some ⟨g20, 0, none⟩, 2), (opXN 5 (vN 0) (vN 1), some ⟨g21, 0, none⟩, 2)), (2, (opXN 4 (vN 0) (ngN (vN 1)), some ⟨g16, 0, none⟩, 2), (opXN 3 (vN 0) (vN 1), some ⟨g17, 0, none⟩, 2)), (2, (opXN 3 (vN 0) (ngN (vN 1)), some ⟨g13, 0, none⟩, 2), (opXN 4 (vN 0) (vN 1), some ⟨g14, 0, none⟩, 2)), (1, (ngN (ngN (vN 0)), some ⟨g11, 0, none⟩, 1), (vN 0, none, 0)), (1, (opXN 5 (cN 0) (vN 0), some ⟨g9, 0, none⟩, 2), (cN 0, none, 0)), (1, (opXN 5 (vN 0) (cN 0), some ⟨g8, 0, none⟩, 2), (cN 0, none, 0)), (1, (opXN 5 (cN 1) (vN 0), some ⟨g7, 0, none⟩, 2), (vN 0, none, 0)), (1, (opXN 5 (vN 0) (cN 1), some ⟨g6, 0, none⟩, 2), (vN 0, none, 0)), (1, (opXN 4 (cN 0) (vN 0), some ⟨g4, 0, none⟩, 2), (ngN (vN 0), some ⟨g5, 0, none⟩, 1)), (1, (opXN 4 (vN 0) (cN 0), some ⟨g3, 0, none⟩, 2), (vN 0, none, 0)), (1, (opXN 3 (cN 0) (vN 0), some ⟨g2, 0, none⟩, 2), (vN 0, none, 0)), (1, (opXN 3 (vN 0) (cN 0), some ⟨g1, 0, none⟩, 2), (vN 0, none, 0))] : List RuP).reverse.map ruC).flatten.toArray 31)) (by subst_vars; as_aux_lemma => kernel_rfl) (by subst_vars; as_aux_lemma => kernel_rfl) ?_
  refine hK.out _ _ ?_
  clear hK K hB hA
  subst_vars
  (simp only [Act.put, List.setIfInBounds_toArray, List.set_cons_zero, List.set_cons_succ])
  go_wp2
  go_ret
  exact HE.out

end Go.Proofs.Ytmcaphbngfdfiaa
