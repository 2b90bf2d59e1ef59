/- Texts put together: WRuleI4, WRuleI5, WRuleL1. -/
import Derived.Test.YtmcaphbngfdfiaaKSO

/- Walks: VariablesOf at a side, occurring. -/
namespace Go.Proofs.Ytmcaphbngfdfiaa
open Go.RowKit Plain

theorem occ_bd {x : Nd} {v : Int} (hp : x.plain = true) (hf : formed [] 0 v x = true) : ∀ y ∈ x.occ, 0 ≤ y ∧ y < v := by
  unfold Nd.plain at hp
  simp only [Bool.and_eq_true] at hp
  unfold formed at hf
  simp only [Bool.and_eq_true] at hf
  have := occL_bd (vars := v) (.cons x.k x.n x.p x.c x.ks .nil) (k' := 1) (i := 0) (acc := []) (by
    simp only [formedL, Bool.and_eq_true]
    rw [show kidVars 1 v 0 = v from rfl]
    exact ⟨⟨hf.1, hf.2⟩, trivial⟩) (by simp only [plainL, hp.1, hp.2]; rfl) rfl (fun y hy => by simp at hy)
  exact this
theorem occ_len {x : Nd} {v : Int} (hp : x.plain = true) (hf : formed [] 0 v x = true) (hv0 : 0 ≤ v) (hv : v ≤ 12) : x.occ.length ≤ 12 := by
  have h := nodup_len (m := (List.range v.toNat).map Int.ofNat) (lt_nodup (occ_sorted x)) fun y hy => by
    obtain ⟨h0, h1⟩ := occ_bd hp hf y hy
    exact List.mem_map.2 ⟨y.toNat, List.mem_range.2 (by omega), by simp; omega⟩
  rw [List.length_map, List.length_range] at h
  omega

end Go.Proofs.Ytmcaphbngfdfiaa

/- Walk of the program's ValidRule (printed by gen_ruleI5.py). -/
namespace Go.Proofs.Ytmcaphbngfdfiaa
open Go.RowKit Plain

/-- a rule as a value -/
abbrev ruV (v : Int) (l : Nd) (KL : Option Addr) (cl : Nat) (r : Nd) (KR : Option Addr) (cr : Nat) : Value :=
  .agg #[.int .i64 v, .int .i64 l.k, .int .i64 l.n, .int .i64 l.p, .int .i64 l.c, .slice KL l.ks.len cl, .int .i64 r.k, .int .i64 r.n, .int .i64 r.p, .int .i64 r.c, .slice KR r.ks.len cr]

theorem any_not_all {l : List Int} {p : Int → Bool} : (!l.any fun y => !p y) = l.all p := by
  induction l with
  | nil => rfl
  | cons x xs ih => simp only [List.any_cons, List.all_cons, ← ih]; cases p x <;> simp

end Go.Proofs.Ytmcaphbngfdfiaa

/- Walks of the law's helpers on rules: szRule, toRule, eqRule. -/
namespace Go.Proofs.Ytmcaphbngfdfiaa
open Go.RowKit Plain

theorem szV_add (a b : Nat) (y : Int) : szV (a + b) y = if 0 ≤ szV a y then szV b (szV a y) else -1 := by
  by_cases h1 : (a : Int) ≤ y
  · rw [szV_yes h1, if_pos (show 0 ≤ y - a by omega)]
    by_cases h2 : (b : Int) ≤ y - a
    · rw [szV_yes h2, szV_yes (by omega)]; omega
    · rw [szV_no h2, szV_no (by omega)]
  · rw [szV_no h1, if_neg (by omega), szV_no (by omega)]

set_option maxRecDepth 100000 in
set_option maxHeartbeats 1000000 in
/-- two rules of the same parts -/
theorem eqRule_any (v : Int) (l r : Nd) (KL KR KL' KR' : Option Addr) (cl cr cl' cr' B : Nat) (w : World) (hL : ExSl w B l.ks KL) (hR : ExSl w B r.ks KR) (hL' : ExSl w B l.ks KL') (hR' : ExSl w B r.ks KR') (hB : B ≤ w.heap.size) (hl : l.ks.size ≤ 1048576) (hr : r.ks.size ≤ 1048576) :
    Calls Try.prog 18 #[ruV v l KL cl r KR cr, ruV v l KL' cl' r KR' cr'] w fun e w' => e = .returned (.bool true) ∧ Below w.heap.size w w' := by
  obtain ⟨C, hC⟩ : ∃ C : List Value, C = [.int .i64 v, .int .i64 l.k, .int .i64 l.n, .int .i64 l.p, .int .i64 l.c, .slice KL l.ks.len cl, .int .i64 r.k, .int .i64 r.n, .int .i64 r.p, .int .i64 r.c, .slice KR r.ks.len cr] := ⟨_, rfl⟩
  obtain ⟨C', hC'⟩ : ∃ C : List Value, C = [.int .i64 v, .int .i64 l.k, .int .i64 l.n, .int .i64 l.p, .int .i64 l.c, .slice KL' l.ks.len cl', .int .i64 r.k, .int .i64 r.n, .int .i64 r.p, .int .i64 r.c, .slice KR' r.ks.len cr'] := ⟨_, rfl⟩
  obtain ⟨W0, hW0⟩ : ∃ W0, W0 = (w.alloc (.cells #[.int .i64 v, .int .i64 l.k, .int .i64 l.n, .int .i64 l.p, .int .i64 l.c, .slice KL l.ks.len cl, .int .i64 r.k, .int .i64 r.n, .int .i64 r.p, .int .i64 r.c, .slice KR r.ks.len cr] 31)).alloc (.cells #[.int .i64 v, .int .i64 l.k, .int .i64 l.n, .int .i64 l.p, .int .i64 l.c, .slice KL' l.ks.len cl', .int .i64 r.k, .int .i64 r.n, .int .i64 r.p, .int .i64 r.c, .slice KR' r.ks.len cr'] 31) := ⟨_, rfl⟩
  have hb0 : Below w.heap.size w W0 := by rw [hW0]; go_grown
  have hq : Cells W0 w.heap.size 31 C := by rw [hW0, hC]; exact (Cells.new w 31 _).next (by go_grown)
  have hq' : Cells W0 (w.heap.size + 1) 31 C' := by
    rw [hW0, hC']
    have := Cells.new (w.alloc (.cells #[.int .i64 v, .int .i64 l.k, .int .i64 l.n, .int .i64 l.p, .int .i64 l.c, .slice KL l.ks.len cl, .int .i64 r.k, .int .i64 r.n, .int .i64 r.p, .int .i64 r.c, .slice KR r.ks.len cr] 31)) 31 [.int .i64 v, .int .i64 l.k, .int .i64 l.n, .int .i64 l.p, .int .i64 l.c, .slice KL' l.ks.len cl', .int .i64 r.k, .int .i64 r.n, .int .i64 r.p, .int .i64 r.c, .slice KR' r.ks.len cr']
    simpa using this
  have HC1 := Lib.hid (eqExpr_of (eqExprS_any (l.ks.size + 1) l.ks (by omega)) l.k l.n l.p l.c KL KL' cl cl' B W0 (hL.below (hb0.mono hB)) (hL'.below (hb0.mono hB)) (Nat.le_trans hB hb0.size) hl)
  have HC2 : Hid (∀ wx, Below W0.heap.size W0 wx → Calls Try.prog 26 #[exV r.k r.n r.p r.c KR r.ks.len cr, exV r.k r.n r.p r.c KR' r.ks.len cr'] wx fun e w' => e = .returned (.bool true) ∧ Below wx.heap.size wx w') := fun wx h =>
    eqExpr_of (eqExprS_any (r.ks.size + 1) r.ks (by omega)) r.k r.n r.p r.c KR KR' cr cr' B wx ((hR.below (hb0.mono hB)).below (h.mono (Nat.le_trans hB hb0.size))) ((hR'.below (hb0.mono hB)).below (h.mono (Nat.le_trans hB hb0.size))) (Nat.le_trans (Nat.le_trans hB hb0.size) h.size) hr
  subst hC hC'
  have q0 : W0.cell? ⟨w.heap.size, 0, none⟩ = some (.int .i64 v) := by rw [hq.cell]; rfl
  have p0 : W0.cell? ⟨w.heap.size + 1, 0, none⟩ = some (.int .i64 v) := by rw [hq'.cell]; rfl
  have q1 : W0.cell? ⟨w.heap.size, 1, none⟩ = some (.int .i64 l.k) := by rw [hq.cell]; rfl
  have p1 : W0.cell? ⟨w.heap.size + 1, 1, none⟩ = some (.int .i64 l.k) := by rw [hq'.cell]; rfl
  have q2 : W0.cell? ⟨w.heap.size, 2, none⟩ = some (.int .i64 l.n) := by rw [hq.cell]; rfl
  have p2 : W0.cell? ⟨w.heap.size + 1, 2, none⟩ = some (.int .i64 l.n) := by rw [hq'.cell]; rfl
  have q3 : W0.cell? ⟨w.heap.size, 3, none⟩ = some (.int .i64 l.p) := by rw [hq.cell]; rfl
  have p3 : W0.cell? ⟨w.heap.size + 1, 3, none⟩ = some (.int .i64 l.p) := by rw [hq'.cell]; rfl
  have q4 : W0.cell? ⟨w.heap.size, 4, none⟩ = some (.int .i64 l.c) := by rw [hq.cell]; rfl
  have p4 : W0.cell? ⟨w.heap.size + 1, 4, none⟩ = some (.int .i64 l.c) := by rw [hq'.cell]; rfl
  have q5 : W0.cell? ⟨w.heap.size, 5, none⟩ = some (.slice KL l.ks.len cl) := by rw [hq.cell]; rfl
  have p5 : W0.cell? ⟨w.heap.size + 1, 5, none⟩ = some (.slice KL' l.ks.len cl') := by rw [hq'.cell]; rfl
  have q6 : W0.cell? ⟨w.heap.size, 6, none⟩ = some (.int .i64 r.k) := by rw [hq.cell]; rfl
  have p6 : W0.cell? ⟨w.heap.size + 1, 6, none⟩ = some (.int .i64 r.k) := by rw [hq'.cell]; rfl
  have q7 : W0.cell? ⟨w.heap.size, 7, none⟩ = some (.int .i64 r.n) := by rw [hq.cell]; rfl
  have p7 : W0.cell? ⟨w.heap.size + 1, 7, none⟩ = some (.int .i64 r.n) := by rw [hq'.cell]; rfl
  have q8 : W0.cell? ⟨w.heap.size, 8, none⟩ = some (.int .i64 r.p) := by rw [hq.cell]; rfl
  have p8 : W0.cell? ⟨w.heap.size + 1, 8, none⟩ = some (.int .i64 r.p) := by rw [hq'.cell]; rfl
  have q9 : W0.cell? ⟨w.heap.size, 9, none⟩ = some (.int .i64 r.c) := by rw [hq.cell]; rfl
  have p9 : W0.cell? ⟨w.heap.size + 1, 9, none⟩ = some (.int .i64 r.c) := by rw [hq'.cell]; rfl
  have q10 : W0.cell? ⟨w.heap.size, 10, none⟩ = some (.slice KR r.ks.len cr) := by rw [hq.cell]; rfl
  have p10 : W0.cell? ⟨w.heap.size + 1, 10, none⟩ = some (.slice KR' r.ks.len cr') := by rw [hq'.cell]; rfl
  have HB0 := Lib.hid hb0
  have HW0 := Lib.hid hW0
  clear hL hR hL' hR' hb0 hW0 hq hq'
  go_enter Try.func18, Try.ntmps18
  go_upto_region 1 with fail
  rw [← HW0.out]
  go_wp2_with fail
  refine HC1.out.mono ?_; rintro e w1 ⟨rfl, hb1⟩
  have HB1 : Hid (Below w.heap.size w w1) := HB0.out.trans (hb1.mono HB0.out.size)
  have r6 := keepC q6 hb1
  have s6 := keepC p6 hb1
  have r7 := keepC q7 hb1
  have s7 := keepC p7 hb1
  have r8 := keepC q8 hb1
  have s8 := keepC p8 hb1
  have r9 := keepC q9 hb1
  have s9 := keepC p9 hb1
  have r10 := keepC q10 hb1
  have s10 := keepC p10 hb1
  clear q0 p0 q1 p1 q2 p2 q3 p3 q4 p4 q5 p5 q6 p6 q7 p7 q8 p8 q9 p9 q10 p10
  have HC4 := Lib.hid (HC2.out w1 hb1)
  clear hb1
  go_wp2_with fail
  refine HC4.out.mono ?_; rintro e w2 ⟨rfl, hb2⟩
  have HB2 := Lib.hid (bnext HB1.out hb2)
  clear hb2
  go_wp2
  go_ret
  exact ⟨rfl, HB2.out⟩

/-- a rule's sides, in blocks of their own -/
def RulR (lo hi : Nat) (l r : Nd) (g1 g2 : Nat) (w : World) : Prop := ∃ mid, lo ≤ g1 ∧ g1 < mid ∧ ExsM w l.ks (g1 + 1) mid g1 0 ∧ mid ≤ g2 ∧ g2 < hi ∧ ExsM w r.ks (g2 + 1) hi g2 0
theorem RulR.keep {lo hi : Nat} {l r : Nd} {g1 g2 : Nat} {w w' : World} (h : RulR lo hi l r g1 g2 w) (hb : ∀ q, lo ≤ q → q < hi → w'.heap[q]? = w.heap[q]?) : RulR lo hi l r g1 g2 w' := by
  obtain ⟨mid, h1, h2, h3, h4, h5, h6⟩ := h
  exact ⟨mid, h1, h2, h3.keep (SameCells.of_block (hb g1 h1 (by omega)) _ _) (fun q q1 q2 => hb q (by omega) (by omega)), h4, h5, h6.keep (SameCells.of_block (hb g2 (by omega) h5) _ _) (fun q q1 q2 => hb q (by omega) (by omega))⟩
theorem RulR.left {lo hi B : Nat} {l r : Nd} {g1 g2 : Nat} {w : World} (h : RulR lo hi l r g1 g2 w) (hB : hi ≤ B) : ExSl w B l.ks (some ⟨g1, 0, none⟩) := by
  obtain ⟨mid, h1, h2, h3, h4, h5, h6⟩ := h
  exact ⟨g1, 0, fun _ => rfl, h3.exs (by omega) (by omega)⟩
theorem RulR.right {lo hi B : Nat} {l r : Nd} {g1 g2 : Nat} {w : World} (h : RulR lo hi l r g1 g2 w) (hB : hi ≤ B) : ExSl w B r.ks (some ⟨g2, 0, none⟩) := by
  obtain ⟨mid, h1, h2, h3, h4, h5, h6⟩ := h
  exact ⟨g2, 0, fun _ => rfl, h6.exs hB (by omega)⟩

end Go.Proofs.Ytmcaphbngfdfiaa
