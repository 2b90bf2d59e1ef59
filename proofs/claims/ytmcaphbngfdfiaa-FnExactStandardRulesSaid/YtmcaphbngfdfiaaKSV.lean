/- Texts put together: WStdS1, WStdS2, WStdS3. -/
import Derived.Test.YtmcaphbngfdfiaaKSY
import Derived.Test.YtmcaphbngfdfiaaKSU
import Derived.Test.YtmcaphbngfdfiaaKB

/- Trees that share kids: kept while no block of expressions changes; the reference's l05Neg, l05Pair. -/
namespace Go.Proofs.Ytmcaphbngfdfiaa
open Go.RowKit Plain

/-- every block of expressions is as it was -/
def SameX (w w' : World) : Prop := w.heap.size ≤ w'.heap.size ∧ ∀ q, Typed w q 29 → w'.heap[q]? = w.heap[q]?
theorem SameX.trans {w w' w'' : World} (h : SameX w w') (k : SameX w' w'') : SameX w w'' :=
  ⟨Nat.le_trans h.1 k.1, fun q hq => (k.2 q (by obtain ⟨cs, hc⟩ := hq; exact ⟨cs, (h.2 q ⟨cs, hc⟩).trans hc⟩)).trans (h.2 q hq)⟩
theorem SameX.below {w w' : World} (hb : Below w.heap.size w w') : SameX w w' := ⟨hb.size, fun q hq => hb.block q hq.lt⟩
theorem SameX.of_ne {w w' : World} {g : Nat} (hg : ¬ Typed w g 29) (hs : w.heap.size ≤ w'.heap.size) (hb : ∀ q, q < w.heap.size → q ≠ g → w'.heap[q]? = w.heap[q]?) : SameX w w' :=
  ⟨hs, fun q hq => hb q hq.lt (fun e => hg (e ▸ hq))⟩
/-- expressions that can be read while no block of expressions changes -/
def ExT (w : World) (ks : Es) (K : Option Addr) : Prop := ∀ w', SameX w w' → ExSl w' w'.heap.size ks K
theorem ExT.next {w w' : World} {ks : Es} {K : Option Addr} (h : ExT w ks K) (hs : SameX w w') : ExT w' ks K := fun w2 h2 => h w2 (hs.trans h2)
theorem ExT.below {w w' : World} {ks : Es} {K : Option Addr} (h : ExT w ks K) (hb : Below w.heap.size w w') : ExT w' ks K := h.next (SameX.below hb)
theorem ExT.now {w : World} {ks : Es} {K : Option Addr} (h : ExT w ks K) : ExSl w w.heap.size ks K := h w ⟨Nat.le_refl _, fun _ _ => rfl⟩
theorem ExT.nil (w : World) (K : Option Addr) : ExT w .nil K := fun _ _ => ⟨0, 0, fun h => absurd h (by simp [Es.len]), trivial⟩
theorem ExT.outl {w : World} {ks : Es} {K : Option Addr} {g : Nat} (h : ExT w ks K) (hg : ¬ Typed w g 29) : Outl (fun w => ExT w ks K) w g := fun _ h1 h2 => h.next (SameX.of_ne hg h1 h2)
theorem cells_same {w w' : World} {g : Nat} {C : List Value} (h : Cells w g 29 C) (hs : SameX w w') : Cells w' g 29 C := (hs.2 g ⟨_, h⟩).trans h
theorem elAt_of {w : World} {g o : Nat} {C : List Value} {k n p c : Int} {ks : Es} {K : Option Addr} {cap : Nat} (h : Cells w g 29 C) (h0 : C[o]? = some (.int .i64 k)) (h1 : C[o + 1]? = some (.int .i64 n)) (h2 : C[o + 2]? = some (.int .i64 p)) (h3 : C[o + 3]? = some (.int .i64 c)) (h4 : C[o + 4]? = some (.slice K ks.len cap))
    (hc : ks.len ≤ cap) (hm : cap ≤ maxLen) (hK : ExSl w w.heap.size ks K) : ElAt w w.heap.size k n p c ks g o := by
  obtain ⟨b', o', e1, e2⟩ := hK
  exact ⟨h.lt, by rw [h.cell]; exact h0, by rw [h.cell]; exact h1, by rw [h.cell]; exact h2, by rw [h.cell]; exact h3, K, cap, b', o', by rw [h.cell]; exact h4, hc, hm, e1, e2⟩
theorem ExT.two {w w' : World} {x y : Nd} {K K' : Option Addr} {c c' g : Nat} (hx : ExT w x.ks K) (hy : ExT w y.ks K') (hb : Below w.heap.size w w') (hc : x.ks.len ≤ c) (hm : c ≤ maxLen) (hc' : y.ks.len ≤ c') (hm' : c' ≤ maxLen) (hC : Cells w' g 29 (twoC x K c y K' c')) :
    ExT w' (twoEs x y) (some ⟨g, 0, none⟩) := fun w2 h2 => by
  have hC2 := cells_same hC h2
  exact ⟨g, 0, fun _ => rfl, elAt_of hC2 rfl rfl rfl rfl rfl hc hm (hx w2 ((SameX.below hb).trans h2)), elAt_of hC2 rfl rfl rfl rfl rfl hc' hm' (hy w2 ((SameX.below hb).trans h2)), trivial⟩
theorem ExT.one {w w' : World} {x : Nd} {K : Option Addr} {c g : Nat} (hx : ExT w x.ks K) (hb : Below w.heap.size w w') (hc : x.ks.len ≤ c) (hm : c ≤ maxLen) (hC : Cells w' g 29 [.int .i64 x.k, .int .i64 x.n, .int .i64 x.p, .int .i64 x.c, .slice K x.ks.len c]) :
    ExT w' (.cons x.k x.n x.p x.c x.ks .nil) (some ⟨g, 0, none⟩) := fun w2 h2 => by
  have hC2 := cells_same hC h2
  exact ⟨g, 0, fun _ => rfl, elAt_of hC2 rfl rfl rfl rfl rfl hc hm (hx w2 ((SameX.below hb).trans h2)), trivial⟩

/-- an expression as a value, its kids shared -/
structure ExV (w : World) (x : Nd) (K : Option Addr) (c : Nat) : Prop where
  tree : ExT w x.ks K
  len : x.ks.len ≤ c
  cap : c ≤ maxLen
theorem ExV.below {w w' : World} {x : Nd} {K : Option Addr} {c : Nat} (h : ExV w x K c) (hb : Below w.heap.size w w') : ExV w' x K c := ⟨h.tree.below hb, h.len, h.cap⟩
theorem ExV.next {w w' : World} {x : Nd} {K : Option Addr} {c : Nat} (h : ExV w x K c) (hb : SameX w w') : ExV w' x K c := ⟨h.tree.next hb, h.len, h.cap⟩
theorem ExV.leaf (w : World) (x : Nd) (hx : x.ks = .nil) : ExV w x none 0 := ⟨by rw [hx]; exact ExT.nil w none, by rw [hx]; exact Nat.le_refl _, Nat.zero_le _⟩

set_option maxHeartbeats 1000000 in
theorem opX_any (k : Int) (x y : Nd) (K K' : Option Addr) (c c' : Nat) (w : World) (hx : ExV w x K c) (hy : ExV w y K' c') :
    Calls Try.prog 24 #[.int .i64 k, exV x.k x.n x.p x.c K x.ks.len c, exV y.k y.n y.p y.c K' y.ks.len c'] w fun e w' => ∃ g, e = .returned (exV k 0 0 0 (some ⟨g, 0, none⟩) 2 2) ∧ ExV w' (opXN k x y) (some ⟨g, 0, none⟩) 2 ∧ Below w.heap.size w w' := by
  refine (opS_any k x.k x.n x.p x.c y.k y.n y.p y.c K K' x.ks.len c y.ks.len c' w).mono ?_
  rintro e w' ⟨g, rfl, _, _, hb, hC⟩
  exact ⟨g, rfl, ⟨ExT.two hx.tree hy.tree hb hx.len hx.cap hy.len hy.cap hC, by simp [opXN, twoEs, Es.len], by unfold maxLen; omega⟩, hb⟩
set_option maxHeartbeats 1000000 in
theorem negX5_any (k1 n1 p1 c1 : Int) (K1 : Option Addr) (l1 a1 : Nat) (w : World) :
    Calls Try.prog 25 #[exV k1 n1 p1 c1 K1 l1 a1] w fun e w' => ∃ g, e = .returned (exV 7 0 0 0 (some ⟨g, 0, none⟩) 1 1) ∧ Below w.heap.size w w' ∧ Cells w' g 29 [.int .i64 k1, .int .i64 n1, .int .i64 p1, .int .i64 c1, .slice K1 l1 a1] := by
  go_enter Try.func25, Try.ntmps25
  go_wp2
  refine bodyPost_ret (v := exV 7 0 0 0 (some ⟨w.heap.size + 1 + 1, 0, none⟩) 1 1) (by simp [results, Try.results25, go_sem]) rfl ?_
  refine ⟨w.heap.size + 1 + 1, rfl, by go_grown, ?_⟩
  have h := Cells.new ((w.alloc (.cells #[.int .i64 k1, .int .i64 n1, .int .i64 p1, .int .i64 c1, .slice K1 l1 a1] 29)).alloc (.cells #[.int .i64 7, .int .i64 0, .int .i64 0, .int .i64 0, .slice (some ⟨w.heap.size + 1 + 1, 0, none⟩) 1 1] 29)) 29 [.int .i64 k1, .int .i64 n1, .int .i64 p1, .int .i64 c1, .slice K1 l1 a1]
  simpa using h
theorem negX_any (x : Nd) (K : Option Addr) (c : Nat) (w : World) (hx : ExV w x K c) :
    Calls Try.prog 25 #[exV x.k x.n x.p x.c K x.ks.len c] w fun e w' => ∃ g, e = .returned (exV 7 0 0 0 (some ⟨g, 0, none⟩) 1 1) ∧ ExV w' (ngN x) (some ⟨g, 0, none⟩) 1 ∧ Below w.heap.size w w' := by
  refine (negX5_any x.k x.n x.p x.c K x.ks.len c w).mono ?_
  rintro e w' ⟨g, rfl, hb, hC⟩
  exact ⟨g, rfl, ⟨ExT.one hx.tree hb hx.len hx.cap hC, by simp [ngN, Es.len], by unfold maxLen; omega⟩, hb⟩
set_option maxHeartbeats 1000000 in
theorem pairS_any (v : Int) (x y : Nd) (K K' : Option Addr) (c c' : Nat) (w : World) :
    Calls Try.prog 23 #[.int .i64 v, exV x.k x.n x.p x.c K x.ks.len c, exV y.k y.n y.p y.c K' y.ks.len c'] w fun e w' => e = .returned (ruV v x K c y K' c') ∧ Below w.heap.size w w' := by
  go_enter Try.func23, Try.ntmps23
  go_wp2
  refine bodyPost_ret (v := ruV v x K c y K' c') (by simp [results, Try.results23, go_sem]) rfl ?_
  exact ⟨rfl, by go_grown⟩

end Go.Proofs.Ytmcaphbngfdfiaa

/- An own row of rules whose sides' kids may be shared. -/
namespace Go.Proofs.Ytmcaphbngfdfiaa
open Go.RowKit Plain

theorem Try.infoRu : (Try.prog.info? 31).map (fun i => (i.zero, i.size, i.bytes)) = some (some (.agg #[.int .i64 0, .int .i64 0, .int .i64 0, .int .i64 0, .int .i64 0, .slice none 0 0, .int .i64 0, .int .i64 0, .int .i64 0, .int .i64 0, .slice none 0 0]), 11, 120) := by kernel_rfl

/-- a rule with its sides' kids -/
abbrev RuQ := Int × (Nd × Option Addr × Nat) × (Nd × Option Addr × Nat)
def ruE (p : RuQ) : Int × Nd × Nd := (p.1, p.2.1.1, p.2.2.1)
def ruD (p : RuQ) : List Value := [.int .i64 p.1, .int .i64 p.2.1.1.k, .int .i64 p.2.1.1.n, .int .i64 p.2.1.1.p, .int .i64 p.2.1.1.c, .slice p.2.1.2.1 p.2.1.1.ks.len p.2.1.2.2,
  .int .i64 p.2.2.1.k, .int .i64 p.2.2.1.n, .int .i64 p.2.2.1.p, .int .i64 p.2.2.1.c, .slice p.2.2.2.1 p.2.2.1.ks.len p.2.2.2.2]
def RuF (p : RuQ) (w : World) : Prop := ExV w p.2.1.1 p.2.1.2.1 p.2.1.2.2 ∧ ExV w p.2.2.1 p.2.2.2.1 p.2.2.2.2
abbrev ruEl (p : RuQ) : List Value × (World → Prop) := (ruD p, RuF p)
/-- the row at v holds these rules -/
def RRow (w : World) (B : Nat) (v : Value) (rs : List (Int × Nd × Nd)) : Prop := ∃ ps : List RuQ, GRow w B 31 11 v (ps.map ruEl) ∧ ps.map ruE = rs
theorem RRow.below {w w' : World} {B : Nat} {v : Value} {rs : List (Int × Nd × Nd)} (h : RRow w B v rs) (hb : Below w.heap.size w w') : RRow w' B v rs := by
  obtain ⟨ps, h1, h2⟩ := h
  exact ⟨ps, h1.below hb, h2⟩
theorem RRow.start (w : World) : RRow (w.alloc (.cells #[] 31)) w.heap.size (.slice (some ⟨w.heap.size, 0, none⟩) 0 0) [] := ⟨[], GRow.start w _ _, rfl⟩
theorem row_typed {w : World} {base e s n : Nat} {v : Value} {xs : List Value} (h : w.ownsRow base e s v n xs) {g : Nat} (hg : v.ownBlock = some g) : Typed w g e := by
  rcases h.2 with ⟨rfl, _⟩ | ⟨g', cap, cur, rfl, _, hh, _⟩
  · simp [Value.ownBlock] at hg
  · simp [Value.ownBlock] at hg; subst hg; exact ⟨cur, hh⟩
theorem typed_not {w : World} {g : Nat} {t t' : TypeId} (h : Typed w g t) (hne : t ≠ t') : ¬ Typed w g t' := fun h' => h.ne h' hne rfl
theorem ExV.outl {w : World} {x : Nd} {K : Option Addr} {c g : Nat} (h : ExV w x K c) (hg : ¬ Typed w g 29) : Outl (fun w => ExV w x K c) w g := fun _ h1 h2 => h.next (SameX.of_ne hg h1 h2)
/-- one rule more -/
theorem RRow.push {w w1 w1' w2 : World} {B : Nat} {v v2 : Value} {ps : List RuQ} {p : RuQ} (h : GRow w B 31 11 v (ps.map ruEl)) (hb : Below w.heap.size w w1) (hp : RuF p w1) (hb1 : Below w1.heap.size w1 w1')
    (hown : w2.ownsRow B 31 11 v2 ((ps.map ruEl).length + 1) ((ps.map ruEl).flatMap (·.1) ++ ruD p)) (hg : w1'.grownBy w2 v.ownBlock) (hat : v2.ownBlock = v.ownBlock ∨ v2.ownBlock = some w1'.heap.size) :
    RRow w2 B v2 (ps.map ruE ++ [ruE p]) ∧ Below B w w2 ∧ SameX w1' w2 := by
  have hty : ∀ g, v.ownBlock = some g → Typed w g 31 := fun g hg' => row_typed h.own hg'
  have hnx : ∀ (wx : World), Below w.heap.size w wx → ∀ g, (v.ownBlock = some g ∨ wx.heap.size ≤ g) → ¬ Typed wx g 29 := fun wx hbx g hgg => by
    rcases hgg with e | e
    · have ht := hty g e
      exact typed_not (by obtain ⟨cs, hc⟩ := ht; exact ⟨cs, (hbx.block g (Typed.lt ⟨cs, hc⟩)).trans hc⟩) (by decide)
    · intro ht; have := ht.lt; omega
  have hbb := bnext hb hb1
  obtain ⟨q1, q2⟩ := GRow.push (el := ruEl p) h hb (by rfl) (fun g hgg => (hp.1.outl (hnx w1 hb g hgg)).and (hp.2.outl (hnx w1 hb g hgg))) hb1 hown hg hat
  refine ⟨⟨ps ++ [p], by rw [List.map_append]; exact q1, by rw [List.map_append]; rfl⟩, q2, ⟨hg.size, fun q hq => hg.block q hq.lt fun e => ?_⟩⟩
  exact hnx w1' hbb q (.inl e.symm) hq
/-- the row, read -/
theorem RRow.sl {w : World} {B : Nat} {v : Value} {rs : List (Int × Nd × Nd)} (h : RRow w B v rs) : ∃ A cap, v = .slice A rs.length cap ∧ rs.length ≤ cap ∧ cap ≤ maxLen ∧ RusSl w w.heap.size rs A := by
  obtain ⟨ps, h1, rfl⟩ := h
  obtain ⟨A, cap, rfl, hc, hm⟩ := h1.form
  simp only [List.length_map] at *
  refine ⟨A, cap, rfl, hc, hm, ?_⟩
  by_cases h0 : 0 < ps.length
  · have h1' : GRow w B 31 11 (.slice A (ps.map ruEl).length cap) (ps.map ruEl) := by rw [List.length_map]; exact h1
    obtain ⟨b, rfl, _, hb, hel⟩ := h1'.read (by simpa using h0)
    refine ⟨b, 0, fun _ => rfl, ?_⟩
    have key : ∀ (qs : List RuQ) (i : Nat), (∀ j p, qs[j]? = some p → ps[i + j]? = some p) → RusAt w w.heap.size (qs.map ruE) b (i * 11) := by
      intro qs
      induction qs with
      | nil => intro i _; trivial
      | cons p qs ih =>
        intro i hi
        have hp := hi 0 p rfl
        obtain ⟨hF, hcell⟩ := hel i (ruEl p) (by rw [List.getElem?_map, show ps[i]? = some p from hp]; rfl)
        obtain ⟨b1, o1, e1, x1⟩ := hF.1.tree.now
        obtain ⟨b2, o2, e2, x2⟩ := hF.2.tree.now
        have cl : ∀ j u, j < 11 → (ruD p)[j]? = some u → w.cell? ⟨b, i * 11 + j, none⟩ = some u := fun j u hj hu => (hcell j hj).1.trans hu
        refine ⟨⟨cl 0 _ (by omega) rfl, ⟨hb, cl 1 _ (by omega) rfl, cl 2 _ (by omega) rfl, cl 3 _ (by omega) rfl, cl 4 _ (by omega) rfl, _, _, b1, o1, cl 5 _ (by omega) rfl, hF.1.len, hF.1.cap, e1, x1⟩, ⟨hb, cl 6 _ (by omega) rfl, cl 7 _ (by omega) rfl, cl 8 _ (by omega) rfl, cl 9 _ (by omega) rfl, _, _, b2, o2, cl 10 _ (by omega) rfl, hF.2.len, hF.2.cap, e2, x2⟩⟩, ?_⟩
        have := ih (i + 1) (fun j q hq => by have := hi (j + 1) q hq; rwa [show i + (j + 1) = i + 1 + j by omega] at this)
        rwa [show (i + 1) * 11 = i * 11 + 11 by omega] at this
    have := key ps 0 (fun j p hp => by rw [Nat.zero_add]; exact hp)
    rwa [Nat.zero_mul] at this
  · have : ps = [] := List.length_eq_zero_iff.1 (by omega)
    subst this
    exact ⟨0, 0, fun h => absurd h (by simp), trivial⟩

end Go.Proofs.Ytmcaphbngfdfiaa

/- Walk of the reference's l05Standard (printed by gen_stds.py). -/
namespace Go.Proofs.Ytmcaphbngfdfiaa
open Go.RowKit Plain

abbrev xD5 (k n : Int) : List Value := [.int .i64 k, .int .i64 n, .int .i64 0, .int .i64 0, .slice none 0 0]
/-- the boxes of the leaves -/
def Lf5 (w : World) (b : Nat) : Prop :=
  Cells w b 29 (xD5 2 0) ∧ Cells w (b + 1) 29 (xD5 2 1) ∧ Cells w (b + 1 + 1) 29 (xD5 2 2) ∧ Cells w (b + 1 + 1 + 1) 29 (xD5 1 0) ∧ Cells w (b + 1 + 1 + 1 + 1) 29 (xD5 1 1)
theorem Lf5.next {w w' : World} {b : Nat} (h : Lf5 w b) (hb : SameX w w') : Lf5 w' b :=
  ⟨cells_same h.1 hb, cells_same h.2.1 hb, cells_same h.2.2.1 hb, cells_same h.2.2.2.1 hb, cells_same h.2.2.2.2 hb⟩
theorem Lf5.below {w w' : World} {b : Nat} (h : Lf5 w b) (hb : Below w.heap.size w w') : Lf5 w' b := h.next (SameX.below hb)
theorem xD5_cells {w : World} {b : Nat} {k n : Int} (h : Cells w b 29 (xD5 k n)) : w.cell? ⟨b, 0, none⟩ = some (.int .i64 k) ∧ w.cell? ⟨b, 1, none⟩ = some (.int .i64 n) ∧ w.cell? ⟨b, 2, none⟩ = some (.int .i64 0) ∧ w.cell? ⟨b, 3, none⟩ = some (.int .i64 0) ∧ w.cell? ⟨b, 4, none⟩ = some (.slice none 0 0) :=
  ⟨by rw [h.cell]; rfl, by rw [h.cell]; rfl, by rw [h.cell]; rfl, by rw [h.cell]; rfl, by rw [h.cell]; rfl⟩
/-- a box of a tree -/
def BxV (w : World) (b : Nat) (x : Nd) (K : Option Addr) (c : Nat) : Prop := Cells w b 29 [.int .i64 x.k, .int .i64 x.n, .int .i64 x.p, .int .i64 x.c, .slice K x.ks.len c] ∧ ExV w x K c
theorem BxV.next {w w' : World} {b : Nat} {x : Nd} {K : Option Addr} {c : Nat} (h : BxV w b x K c) (hs : SameX w w') : BxV w' b x K c := ⟨cells_same h.1 hs, h.2.next hs⟩
theorem BxV.below {w w' : World} {b : Nat} {x : Nd} {K : Option Addr} {c : Nat} (h : BxV w b x K c) (hb : Below w.heap.size w w') : BxV w' b x K c := h.next (SameX.below hb)
theorem bxV_cells {w : World} {b : Nat} {x : Nd} {K : Option Addr} {c : Nat} (h : BxV w b x K c) : w.cell? ⟨b, 0, none⟩ = some (.int .i64 x.k) ∧ w.cell? ⟨b, 1, none⟩ = some (.int .i64 x.n) ∧ w.cell? ⟨b, 2, none⟩ = some (.int .i64 x.p) ∧ w.cell? ⟨b, 3, none⟩ = some (.int .i64 x.c) ∧ w.cell? ⟨b, 4, none⟩ = some (.slice K x.ks.len c) :=
  ⟨by rw [h.1.cell]; rfl, by rw [h.1.cell]; rfl, by rw [h.1.cell]; rfl, by rw [h.1.cell]; rfl, by rw [h.1.cell]; rfl⟩
/-- the three boxes of products -/
def Bx3 (w : World) (p q r : Nat) : Prop := (∃ K, BxV w p (opXN 5 (vN 0) (vN 1)) K 2) ∧ (∃ K, BxV w q (opXN 5 (vN 0) (vN 2)) K 2) ∧ (∃ K, BxV w r (opXN 5 (vN 1) (vN 2)) K 2)

/-- a box of zeros -/
abbrev zero5 : List Value := [.int .i64 0, .int .i64 0, .int .i64 0, .int .i64 0, .slice none 0 0]
theorem wp_intro {P : Program} {c : Code} {Q : Exit → Act → World → Prop} {A : Act} {w : World} (h : ∀ A0, A0 = A → Code.wp P c Q A0 w) : Code.wp P c Q A w := h A rfl
def put12 (A0 : Act) (a b c d e f g h i j k l : Value) : Act :=
  (((((((((((A0.put (some 131) a).put (some 132) b).put (some 133) c).put (some 134) d).put (some 135) e).put (some 136) f).put (some 137) g).put (some 138) h).put (some 139) i).put (some 7) j).put (some 8) k).put (some 9) l
/-- a product of two leaves that has been made -/
def TrC (u w : World) (v : Value) (x y : Nd) : Prop := ∃ g, v = exV 5 0 0 0 (some ⟨g, 0, none⟩) 2 2 ∧ u.heap.size ≤ g ∧ Cells w g 29 (twoC x none 0 y none 0)
def BxC (u w : World) (v : Value) : Prop := ∃ p, v = .pointer (some ⟨p, 0, none⟩) ∧ u.heap.size ≤ p ∧ Cells w p 29 zero5
theorem TrC.below {u w w' : World} {v : Value} {x y : Nd} (h : TrC u w v x y) (hb : Below w.heap.size w w') : TrC u w' v x y := by
  obtain ⟨g, h1, h2, h3⟩ := h; exact ⟨g, h1, h2, h3.next hb⟩
theorem BxC.below {u w w' : World} {v : Value} (h : BxC u w v) (hb : Below w.heap.size w w') : BxC u w' v := by
  obtain ⟨g, h1, h2, h3⟩ := h; exact ⟨g, h1, h2, h3.next hb⟩
theorem BxC.ne {u w : World} {v : Value} (h : BxC u w v) : v ≠ .pointer (some ⟨w.heap.size, 0, none⟩) := by
  obtain ⟨p, rfl, _, h3⟩ := h
  have := h3.lt
  intro e
  injection e with e; injection e with e; injection e with e
  omega
/-- what holds while the three products and their boxes are made -/
def Inv16 (u : World) (b : Nat) (A0 : Act) (l : Array Bool) (a : Act) (w : World) : Prop :=
  ∃ a1 a2 a3 a4 a5 a6 a7 a8 a9 b1 b2 b3 : Value, a = put12 A0 a1 a2 a3 a4 a5 a6 a7 a8 a9 b1 b2 b3 ∧ Below u.heap.size u w ∧ Lf5 w b ∧
    (l.getD 0 false = true → a1 = exV 2 0 0 0 none 0 0) ∧ (l.getD 1 false = true → a2 = exV 2 1 0 0 none 0 0) ∧ (l.getD 2 false = true → TrC u w a3 (vN 0) (vN 1)) ∧
    (l.getD 3 false = true → a4 = exV 2 0 0 0 none 0 0) ∧ (l.getD 4 false = true → a5 = exV 2 2 0 0 none 0 0) ∧ (l.getD 5 false = true → TrC u w a6 (vN 0) (vN 2)) ∧
    (l.getD 6 false = true → a7 = exV 2 1 0 0 none 0 0) ∧ (l.getD 7 false = true → a8 = exV 2 2 0 0 none 0 0) ∧ (l.getD 8 false = true → TrC u w a9 (vN 1) (vN 2)) ∧
    (l.getD 9 false = true → BxC u w b1) ∧ (l.getD 10 false = true → BxC u w b2) ∧ (l.getD 11 false = true → BxC u w b3) ∧
    (l.getD 9 false = true → l.getD 10 false = true → b1 ≠ b2) ∧ (l.getD 9 false = true → l.getD 11 false = true → b1 ≠ b3) ∧ (l.getD 10 false = true → l.getD 11 false = true → b2 ≠ b3)
theorem RegE.run {P : Program} {ops : Array Oper} {Q : Exit → Act → World → Prop} {S : World → Prop} {n fuel : Nat} {l : Array Bool} {a : Act} {w : World} (h : RegE P ops Q S n fuel l a w) (inv : HeadInv .any ops n l) : wpAnyE P .any ops Q S n fuel l a w := h inv
theorem step_skip {P : Program} {ops : Array Oper} {o : Oper} {a : Act} {w w' : World} {K : Act → World → Prop} {Q : Exit → Act → World → Prop} {E : Prop} (hw : Region.wanted o (yielded ops a.tmps) = true) (hr : (execOp a.eval o).run P w = .ok .skip w') (h : K (a.put o.dst undef) w') :
    if Region.wanted o (yielded ops a.tmps) = true then Oper.wp P o a w K Q else E := by
  rw [if_pos hw]
  unfold Oper.wp
  rw [hr]
  exact h
theorem ld5s {a : Act} {o : Oper} {x : Operand} {w : World} {b : Nat} {k n : Int} (ho : o.op = .load 29 x) (hx : a.eval x = .pointer (some ⟨b, 0, none⟩)) (h : Cells w b 29 (xD5 k n)) : (execOp a.eval o).run Try.prog w = .ok (.value (exV k n 0 0 none 0 0)) w := by
  obtain ⟨x0, x1, x2, x3, x4⟩ := xD5_cells h
  unfold execOp
  rw [ho]
  simp only [hx]
  go_simp
theorem st5s {a : Act} {o : Oper} {x y : Operand} {w : World} {b g : Nat} {k : Int} (ho : o.op = .store 29 x y) (hx : a.eval x = .pointer (some ⟨b, 0, none⟩)) (hy : a.eval y = exV k 0 0 0 (some ⟨g, 0, none⟩) 2 2) (h : Cells w b 29 zero5) : (execOp a.eval o).run Try.prog w = .ok .skip (set5 w b 0 k 0 0 0 (.slice (some ⟨g, 0, none⟩) 2 2)) := by
  have x0 : w.cell? ⟨b, 0, none⟩ = some (.int .i64 0) := by rw [h.cell]; rfl
  have x1 : w.cell? ⟨b, 1, none⟩ = some (.int .i64 0) := by rw [h.cell]; rfl
  have x2 : w.cell? ⟨b, 2, none⟩ = some (.int .i64 0) := by rw [h.cell]; rfl
  have x3 : w.cell? ⟨b, 3, none⟩ = some (.int .i64 0) := by rw [h.cell]; rfl
  have x4 : w.cell? ⟨b, 4, none⟩ = some (.slice none 0 0) := by rw [h.cell]; rfl
  have z0 : w.frozen? ⟨b, 0, none⟩ = false := h.frozen _
  have z1 : w.frozen? ⟨b, 1, none⟩ = false := h.frozen _
  have z2 : w.frozen? ⟨b, 2, none⟩ = false := h.frozen _
  have z3 : w.frozen? ⟨b, 3, none⟩ = false := h.frozen _
  have z4 : w.frozen? ⟨b, 4, none⟩ = false := h.frozen _
  unfold execOp
  rw [ho]
  simp only [hx, hy]
  go_simp
  rfl
theorem cells_off {w : World} {p q : Nat} {t : TypeId} {C : List Value} (h : Cells w q t C) (hne : q ≠ p) (k n pp c : Int) (v : Value) : Cells (set5 w p 0 k n pp c v) q t C := (set5_block k n pp c v hne).trans h
theorem cells_ne {w : World} {p q : Nat} {t t' : TypeId} {C C' : List Value} (h : Cells w p t C) (h' : Cells w q t' C') (hl : C.length ≠ C'.length) : p ≠ q := by
  rintro rfl
  have e := h.symm.trans h'
  injection e with e
  injection e with e
  exact hl (by have := congrArg Array.size e; simpa using this)
/-- the three stores -/
theorem stores16 {u wx : World} {g1 g2 g3 p1 p2 p3 : Nat} (hB : Below u.heap.size u wx) (q1 : u.heap.size ≤ p1) (q2 : u.heap.size ≤ p2) (q3 : u.heap.size ≤ p3) (c1 : Cells wx g1 29 (twoC (vN 0) none 0 (vN 1) none 0)) (c2 : Cells wx g2 29 (twoC (vN 0) none 0 (vN 2) none 0)) (c3 : Cells wx g3 29 (twoC (vN 1) none 0 (vN 2) none 0))
    (e1 : Cells wx p1 29 zero5) (e2 : Cells wx p2 29 zero5) (e3 : Cells wx p3 29 zero5) (n12 : p1 ≠ p2) (n13 : p1 ≠ p3) (n23 : p2 ≠ p3) (w1 w2 w3 : World) (h1 : w1 = set5 wx p1 0 5 0 0 0 (.slice (some ⟨g1, 0, none⟩) 2 2)) (h2 : w2 = set5 w1 p2 0 5 0 0 0 (.slice (some ⟨g2, 0, none⟩) 2 2)) (h3 : w3 = set5 w2 p3 0 5 0 0 0 (.slice (some ⟨g3, 0, none⟩) 2 2)) :
    Cells w1 p2 29 zero5 ∧ Cells w2 p3 29 zero5 ∧ Below u.heap.size u w3 ∧ BxV w3 p1 (opXN 5 (vN 0) (vN 1)) (some ⟨g1, 0, none⟩) 2 ∧ BxV w3 p2 (opXN 5 (vN 0) (vN 2)) (some ⟨g2, 0, none⟩) 2 ∧ BxV w3 p3 (opXN 5 (vN 1) (vN 2)) (some ⟨g3, 0, none⟩) 2 := by
  have l1 : ∀ {p g : Nat} {x y : Nd}, Cells wx p 29 zero5 → Cells wx g 29 (twoC x none 0 y none 0) → g ≠ p := fun h h' => (cells_ne h h' (by simp [twoC])).symm
  have m1 : ∀ {q : Nat} {C : List Value}, q ≠ p1 → Cells wx q 29 C → Cells w1 q 29 C := fun hq h => by rw [h1]; exact cells_off h hq _ _ _ _ _
  have m2 : ∀ {q : Nat} {C : List Value}, q ≠ p2 → Cells w1 q 29 C → Cells w2 q 29 C := fun hq h => by rw [h2]; exact cells_off h hq _ _ _ _ _
  have m3 : ∀ {q : Nat} {C : List Value}, q ≠ p3 → Cells w2 q 29 C → Cells w3 q 29 C := fun hq h => by rw [h3]; exact cells_off h hq _ _ _ _ _
  have tr : ∀ {p g : Nat} {x y : Nd}, x.ks = .nil → y.ks = .nil → Cells w3 p 29 [.int .i64 5, .int .i64 0, .int .i64 0, .int .i64 0, .slice (some ⟨g, 0, none⟩) 2 2] → Cells w3 g 29 (twoC x none 0 y none 0) → BxV w3 p (opXN 5 x y) (some ⟨g, 0, none⟩) 2 := fun hx hy h h' =>
    ⟨h, ExT.two (by rw [hx]; exact ExT.nil _ _) (by rw [hy]; exact ExT.nil _ _) (Below.refl _ _) (by rw [hx]; exact Nat.le_refl _) (Nat.zero_le _) (by rw [hy]; exact Nat.le_refl _) (Nat.zero_le _) h', by simp [opXN, twoEs, Es.len], by unfold maxLen; omega⟩
  refine ⟨m1 n12.symm e2, m2 n23.symm (m1 n13.symm e3), ?_, ?_, ?_, ?_⟩
  · rw [h3, h2, h1]; exact set5_below _ _ _ _ _ (set5_below _ _ _ _ _ (set5_below _ _ _ _ _ hB q1) q2) q3
  · refine tr rfl rfl (m3 n13 (m2 n12 ?_)) (m3 (l1 e3 c1) (m2 (l1 e2 c1) (m1 (l1 e1 c1) c1)))
    rw [h1]; exact set5_cells (o := 0) e1 5 0 0 0 (.slice (some ⟨g1, 0, none⟩) 2 2)
  · refine tr rfl rfl (m3 n23 ?_) (m3 (l1 e3 c2) (m2 (l1 e2 c2) (m1 (l1 e1 c2) c2)))
    rw [h2]; exact set5_cells (o := 0) (m1 n12.symm e2) 5 0 0 0 (.slice (some ⟨g2, 0, none⟩) 2 2)
  · refine tr rfl rfl ?_ (m3 (l1 e3 c3) (m2 (l1 e2 c3) (m1 (l1 e1 c3) c3)))
    rw [h3]; exact set5_cells (o := 0) (m2 n23.symm (m1 n13.symm e3)) 5 0 0 0 (.slice (some ⟨g3, 0, none⟩) 2 2)
/-- the boxes of leaves and of products -/
def Lf8 (w : World) (b p1 p2 p3 t1 t2 t3 : Nat) : Prop := Lf5 w b ∧ BxV w p1 (opXN 5 (vN 0) (vN 1)) (some ⟨t1, 0, none⟩) 2 ∧ BxV w p2 (opXN 5 (vN 0) (vN 2)) (some ⟨t2, 0, none⟩) 2 ∧ BxV w p3 (opXN 5 (vN 1) (vN 2)) (some ⟨t3, 0, none⟩) 2
theorem Lf8.next {w w' : World} {b p1 p2 p3 t1 t2 t3 : Nat} (h : Lf8 w b p1 p2 p3 t1 t2 t3) (hb : SameX w w') : Lf8 w' b p1 p2 p3 t1 t2 t3 := ⟨h.1.next hb, h.2.1.next hb, h.2.2.1.next hb, h.2.2.2.next hb⟩
theorem Lf8.below {w w' : World} {b p1 p2 p3 t1 t2 t3 : Nat} (h : Lf8 w b p1 p2 p3 t1 t2 t3) (hb : Below w.heap.size w w') : Lf8 w' b p1 p2 p3 t1 t2 t3 := h.next (SameX.below hb)
theorem norep {m j : Nat} (p : Prop) (h : (Array.replicate m false).getD j false = true) : p := by rw [getD_replicate_false] at h; cases h
theorem norep2 {m j k : Nat} (p : Prop) (h : (Array.replicate m false).getD j false = true) (_ : (Array.replicate m false).getD k false = true) : p := by rw [getD_replicate_false] at h; cases h
theorem listed_eq {listed : Array Bool} {n m : Nat} (hs : listed.size = n) (h1 : ∀ i, i < m → listed.getD i true = true) (h2 : ∀ t, m ≤ t → t < n → listed.getD t true = false) : listed = ((List.range n).map fun i => decide (i < m)).toArray := by
  refine Array.ext (by simp [hs]) fun i h3 h4 => ?_
  simp only [List.getElem_toArray, List.getElem_map, List.getElem_range]
  by_cases e : i < m
  · have := h1 i e
    rw [decide_eq_true e]
    simpa [h3] using this
  · have := h2 i (by omega) (by omega)
    rw [decide_eq_false e]
    simpa [h3] using this

set_option maxRecDepth 100000 in
set_option maxHeartbeats 8000000 in
theorem stdS_any (w : World) : Calls Try.prog 9 #[] w (SeeRu stdRules w) := by
  obtain ⟨i0, hi, hz0, hz1, hz2⟩ := info_parts Try.infoRu
  obtain ⟨RS, hRS⟩ : ∃ RS, RS = SeeRu stdRules w := ⟨_, rfl⟩
  rw [← hRS]
  have HRS := Lib.hid hRS
  clear hRS
  go_enter Try.func9, Try.ntmps9
  go_wp2_with fail
  refine (varS_any 0 w).mono ?_; rintro e w1 ⟨rfl, hb1⟩
  have HB1 := Lib.hid hb1
  clear hb1
  go_wp2_with fail
  refine (varS_any 1 w1).mono ?_; rintro e w2 ⟨rfl, hb2⟩
  have HB2 := Lib.hid (bnext HB1.out hb2)
  clear hb2
  go_wp2_with fail
  refine (varS_any 2 w2).mono ?_; rintro e w3 ⟨rfl, hb3⟩
  have HB3 := Lib.hid (bnext HB2.out hb3)
  clear hb3
  go_wp2_with fail
  refine (numS_any 0 w3).mono ?_; rintro e w4 ⟨rfl, hb4⟩
  have HB4 := Lib.hid (bnext HB3.out hb4)
  clear hb4
  go_wp2_with fail
  refine (numS_any 1 w4).mono ?_; rintro e w5 ⟨rfl, hb5⟩
  have HB5 := Lib.hid (bnext HB4.out hb5)
  clear hb5
  go_upto_region 2 with fail
  have hX : Lf5 (((((w5.alloc (.cells #[.int .i64 2, .int .i64 0, .int .i64 0, .int .i64 0, .slice none 0 0] 29)).alloc (.cells #[.int .i64 2, .int .i64 1, .int .i64 0, .int .i64 0, .slice none 0 0] 29)).alloc (.cells #[.int .i64 2, .int .i64 2, .int .i64 0, .int .i64 0, .slice none 0 0] 29)).alloc (.cells #[.int .i64 1, .int .i64 0, .int .i64 0, .int .i64 0, .slice none 0 0] 29)).alloc (.cells #[.int .i64 1, .int .i64 1, .int .i64 0, .int .i64 0, .slice none 0 0] 29)) w5.heap.size := by
    refine ⟨?_, ?_, ?_, ?_, ?_⟩
    · have := (Cells.new w5 29 (xD5 2 0)).next (w' := (((((w5.alloc (.cells #[.int .i64 2, .int .i64 0, .int .i64 0, .int .i64 0, .slice none 0 0] 29)).alloc (.cells #[.int .i64 2, .int .i64 1, .int .i64 0, .int .i64 0, .slice none 0 0] 29)).alloc (.cells #[.int .i64 2, .int .i64 2, .int .i64 0, .int .i64 0, .slice none 0 0] 29)).alloc (.cells #[.int .i64 1, .int .i64 0, .int .i64 0, .int .i64 0, .slice none 0 0] 29)).alloc (.cells #[.int .i64 1, .int .i64 1, .int .i64 0, .int .i64 0, .slice none 0 0] 29))) (by go_grown)
      simpa using this
    · have := (Cells.new (w5.alloc (.cells #[.int .i64 2, .int .i64 0, .int .i64 0, .int .i64 0, .slice none 0 0] 29)) 29 (xD5 2 1)).next (w' := (((((w5.alloc (.cells #[.int .i64 2, .int .i64 0, .int .i64 0, .int .i64 0, .slice none 0 0] 29)).alloc (.cells #[.int .i64 2, .int .i64 1, .int .i64 0, .int .i64 0, .slice none 0 0] 29)).alloc (.cells #[.int .i64 2, .int .i64 2, .int .i64 0, .int .i64 0, .slice none 0 0] 29)).alloc (.cells #[.int .i64 1, .int .i64 0, .int .i64 0, .int .i64 0, .slice none 0 0] 29)).alloc (.cells #[.int .i64 1, .int .i64 1, .int .i64 0, .int .i64 0, .slice none 0 0] 29))) (by go_grown)
      simpa using this
    · have := (Cells.new ((w5.alloc (.cells #[.int .i64 2, .int .i64 0, .int .i64 0, .int .i64 0, .slice none 0 0] 29)).alloc (.cells #[.int .i64 2, .int .i64 1, .int .i64 0, .int .i64 0, .slice none 0 0] 29)) 29 (xD5 2 2)).next (w' := (((((w5.alloc (.cells #[.int .i64 2, .int .i64 0, .int .i64 0, .int .i64 0, .slice none 0 0] 29)).alloc (.cells #[.int .i64 2, .int .i64 1, .int .i64 0, .int .i64 0, .slice none 0 0] 29)).alloc (.cells #[.int .i64 2, .int .i64 2, .int .i64 0, .int .i64 0, .slice none 0 0] 29)).alloc (.cells #[.int .i64 1, .int .i64 0, .int .i64 0, .int .i64 0, .slice none 0 0] 29)).alloc (.cells #[.int .i64 1, .int .i64 1, .int .i64 0, .int .i64 0, .slice none 0 0] 29))) (by go_grown)
      simpa using this
    · have := (Cells.new (((w5.alloc (.cells #[.int .i64 2, .int .i64 0, .int .i64 0, .int .i64 0, .slice none 0 0] 29)).alloc (.cells #[.int .i64 2, .int .i64 1, .int .i64 0, .int .i64 0, .slice none 0 0] 29)).alloc (.cells #[.int .i64 2, .int .i64 2, .int .i64 0, .int .i64 0, .slice none 0 0] 29)) 29 (xD5 1 0)).next (w' := (((((w5.alloc (.cells #[.int .i64 2, .int .i64 0, .int .i64 0, .int .i64 0, .slice none 0 0] 29)).alloc (.cells #[.int .i64 2, .int .i64 1, .int .i64 0, .int .i64 0, .slice none 0 0] 29)).alloc (.cells #[.int .i64 2, .int .i64 2, .int .i64 0, .int .i64 0, .slice none 0 0] 29)).alloc (.cells #[.int .i64 1, .int .i64 0, .int .i64 0, .int .i64 0, .slice none 0 0] 29)).alloc (.cells #[.int .i64 1, .int .i64 1, .int .i64 0, .int .i64 0, .slice none 0 0] 29))) (by go_grown)
      simpa using this
    · have := Cells.new ((((w5.alloc (.cells #[.int .i64 2, .int .i64 0, .int .i64 0, .int .i64 0, .slice none 0 0] 29)).alloc (.cells #[.int .i64 2, .int .i64 1, .int .i64 0, .int .i64 0, .slice none 0 0] 29)).alloc (.cells #[.int .i64 2, .int .i64 2, .int .i64 0, .int .i64 0, .slice none 0 0] 29)).alloc (.cells #[.int .i64 1, .int .i64 0, .int .i64 0, .int .i64 0, .slice none 0 0] 29)) 29 (xD5 1 1)
      simpa using this
  have hY : Below w.heap.size w (((((w5.alloc (.cells #[.int .i64 2, .int .i64 0, .int .i64 0, .int .i64 0, .slice none 0 0] 29)).alloc (.cells #[.int .i64 2, .int .i64 1, .int .i64 0, .int .i64 0, .slice none 0 0] 29)).alloc (.cells #[.int .i64 2, .int .i64 2, .int .i64 0, .int .i64 0, .slice none 0 0] 29)).alloc (.cells #[.int .i64 1, .int .i64 0, .int .i64 0, .int .i64 0, .slice none 0 0] 29)).alloc (.cells #[.int .i64 1, .int .i64 1, .int .i64 0, .int .i64 0, .slice none 0 0] 29)) := bnext HB5.out (by go_grown)
  change Code.wp _ _ _ _ (((((w5.alloc (.cells #[.int .i64 2, .int .i64 0, .int .i64 0, .int .i64 0, .slice none 0 0] 29)).alloc (.cells #[.int .i64 2, .int .i64 1, .int .i64 0, .int .i64 0, .slice none 0 0] 29)).alloc (.cells #[.int .i64 2, .int .i64 2, .int .i64 0, .int .i64 0, .slice none 0 0] 29)).alloc (.cells #[.int .i64 1, .int .i64 0, .int .i64 0, .int .i64 0, .slice none 0 0] 29)).alloc (.cells #[.int .i64 1, .int .i64 1, .int .i64 0, .int .i64 0, .slice none 0 0] 29))
  generalize (((((w5.alloc (.cells #[.int .i64 2, .int .i64 0, .int .i64 0, .int .i64 0, .slice none 0 0] 29)).alloc (.cells #[.int .i64 2, .int .i64 1, .int .i64 0, .int .i64 0, .slice none 0 0] 29)).alloc (.cells #[.int .i64 2, .int .i64 2, .int .i64 0, .int .i64 0, .slice none 0 0] 29)).alloc (.cells #[.int .i64 1, .int .i64 0, .int .i64 0, .int .i64 0, .slice none 0 0] 29)).alloc (.cells #[.int .i64 1, .int .i64 1, .int .i64 0, .int .i64 0, .slice none 0 0] 29)) = u0 at hX hY ⊢
  obtain ⟨b, hb⟩ : ∃ b, b = w5.heap.size := ⟨_, rfl⟩
  rw [← hb] at hX ⊢
  clear hb HB1 HB2 HB3 HB4 HB5
  have HX := Lib.hid hX
  have HB := Lib.hid hY
  clear hX hY
  go_upto_region 3 with fail
  have hg : Below u0.heap.size u0 (u0.alloc (.cells #[] 31)) := by go_grown
  have HR := Lib.hid (RRow.start u0)
  obtain ⟨q0, hq0⟩ : ∃ q, q = u0.heap.size := ⟨_, rfl⟩
  replace HX := Lib.hid (HX.out.below hg)
  have HL : Hid (w.heap.size ≤ u0.heap.size) := HB.out.size
  replace HB := Lib.hid (bnext HB.out hg)
  change Code.wp _ _ _ _ (u0.alloc (.cells #[] 31))
  generalize u0.alloc (.cells #[] 31) = u1 at hg HX HB HR ⊢
  obtain ⟨vv, hvv⟩ : ∃ vv, vv = Value.slice (some ⟨u0.heap.size, 0, none⟩) 0 0 := ⟨_, rfl⟩
  rw [← hvv, ← hq0] at HR
  rw [← hvv]
  rw [← hq0] at HL
  clear hg hvv hq0
  go_upto_region 3 with fail
  have HXD : Hid (Lf5 u1.drew b) := Lf5.below HX.out (Below.refl _ _).drew
  have HBD : Hid (Below w.heap.size w u1.drew) := HB.out.drew
  have HRD : Hid (RRow u1.drew q0 vv _) := HR.out.below (Below.refl _ _).drew
  refine RegE.start (S := fun wx => Lf5 wx b) 8 (by kernel_rfl) (by kernel_rfl) HXD.out (fun hHeld hB => ?_)
  clear HXD HX HB HR
  have HB := HBD
  have HR := HRD
  clear HBD HRD
  generalize u1.drew = u2 at *
  refine RegE.takeL (S := fun wx => Lf5 wx b) (i := 0) (v := ?v3x0) hB rfl (by decide) (by kernel_rfl) (by kernel_rfl) (fun _ _ _ h => h) (Or.inl ⟨by rfl, ?y3x0⟩) hHeld ?r3x0
  case y3x0 => ((intro wx _; go_simp) <;> with_reducible rfl)
  (try simp only [Act.put, List.setIfInBounds_toArray, List.set_cons_zero, List.set_cons_succ])
  refine RegE.takeL (S := fun wx => Lf5 wx b) (i := 1) (v := ?v3x1) hB rfl (by decide) (by kernel_rfl) (by kernel_rfl) (fun _ _ _ h => h) (Or.inl ⟨by rfl, ?y3x1⟩) hHeld ?r3x1
  case y3x1 => ((intro wx hSw; obtain ⟨⟨x0, x1, x2, x3, x4⟩, ⟨y0, y1, y2, y3, y4⟩, ⟨z0, z1, z2, z3, z4⟩, ⟨n0, n1, n2, n3, n4⟩, ⟨m0, m1, m2, m3, m4⟩⟩ := And.intro (xD5_cells hSw.1) (And.intro (xD5_cells hSw.2.1) (And.intro (xD5_cells hSw.2.2.1) (And.intro (xD5_cells hSw.2.2.2.1) (xD5_cells hSw.2.2.2.2)))); go_simp) <;> with_reducible rfl)
  (try simp only [Act.put, List.setIfInBounds_toArray, List.set_cons_zero, List.set_cons_succ])
  refine RegE.takeL (S := fun wx => Lf5 wx b) (i := 2) (v := ?v3x2) hB rfl (by decide) (by kernel_rfl) (by kernel_rfl) (fun _ _ _ h => h) (Or.inl ⟨by rfl, ?y3x2⟩) hHeld ?r3x2
  case y3x2 => ((intro wx hSw; obtain ⟨⟨x0, x1, x2, x3, x4⟩, ⟨y0, y1, y2, y3, y4⟩, ⟨z0, z1, z2, z3, z4⟩, ⟨n0, n1, n2, n3, n4⟩, ⟨m0, m1, m2, m3, m4⟩⟩ := And.intro (xD5_cells hSw.1) (And.intro (xD5_cells hSw.2.1) (And.intro (xD5_cells hSw.2.2.1) (And.intro (xD5_cells hSw.2.2.2.1) (xD5_cells hSw.2.2.2.2)))); go_simp) <;> with_reducible rfl)
  (try simp only [Act.put, List.setIfInBounds_toArray, List.set_cons_zero, List.set_cons_succ])
  refine RegE.takeL (S := fun wx => Lf5 wx b) (i := 4) (v := ?v3x4) hB rfl (by decide) (by kernel_rfl) (by kernel_rfl) (fun _ _ _ h => h) (Or.inl ⟨by rfl, ?y3x4⟩) hHeld ?r3x4
  case y3x4 => ((intro wx hSw; obtain ⟨⟨x0, x1, x2, x3, x4⟩, ⟨y0, y1, y2, y3, y4⟩, ⟨z0, z1, z2, z3, z4⟩, ⟨n0, n1, n2, n3, n4⟩, ⟨m0, m1, m2, m3, m4⟩⟩ := And.intro (xD5_cells hSw.1) (And.intro (xD5_cells hSw.2.1) (And.intro (xD5_cells hSw.2.2.1) (And.intro (xD5_cells hSw.2.2.2.1) (xD5_cells hSw.2.2.2.2)))); go_simp) <;> with_reducible rfl)
  (try simp only [Act.put, List.setIfInBounds_toArray, List.set_cons_zero, List.set_cons_succ])
  refine RegE.stepL (i := 3) rfl (by decide) (by kernel_rfl) (fun K hK => ?_)
  go_simp
  go_at_call 24
  refine (opX_any 3 (vN 0) (cN 0) _ _ _ _ u2 (ExV.leaf _ (vN 0) rfl) (ExV.leaf _ (cN 0) rfl)).mono ?_; rintro e u3 ⟨g1, rfl, hV, hb⟩
  have HVg1 := Lib.hid hV
  clear hV
  replace HB := Lib.hid (bnext HB.out hb)
  replace HR := Lib.hid (HR.out.below hb)
  have HX := Lib.hid (Lf5.below hHeld hb)
  clear hb
  refine hK.out _ _ ?S3x3 (fun hHeldN => ?_)
  case S3x3 => exact HX.out
  clear hK K hHeld HX
  have hHeld := hHeldN
  clear hHeldN
  (try simp only [Act.put, List.setIfInBounds_toArray, List.set_cons_zero, List.set_cons_succ])
  refine RegE.stepL (i := 5) rfl (by decide) (by kernel_rfl) (fun K hK => ?_)
  go_simp
  go_at_call 23
  refine (pairS_any 1 (opXN 3 (vN 0) (cN 0)) (vN 0) (some ⟨g1, 0, none⟩) none 2 0 u3).mono ?_; rintro e u4 ⟨rfl, hb⟩
  replace HVg1 := Lib.hid (HVg1.out.below hb)
  replace HB := Lib.hid (bnext HB.out hb)
  replace HR := Lib.hid (HR.out.below hb)
  have HX := Lib.hid (Lf5.below hHeld hb)
  clear hb
  refine hK.out _ _ ?S3x5 (fun hHeldN => ?_)
  case S3x5 => exact HX.out
  clear hK K hHeld HX
  have hHeld := hHeldN
  clear hHeldN
  (try simp only [Act.put, List.setIfInBounds_toArray, List.set_cons_zero, List.set_cons_succ])
  refine RegE.stepL (i := 6) rfl (by decide) (by kernel_rfl) (fun K hK => ?_)
  have HP : Hid (RuF ((1, (opXN 3 (vN 0) (cN 0), (some ⟨g1, 0, none⟩), 2), (vN 0, none, 0)) : RuQ) u4) := ⟨HVg1.out, ExV.leaf _ (vN 0) rfl⟩
  go_simp
  have hb : Below u4.heap.size u4 (u4.alloc (.cells (ruD ((1, (opXN 3 (vN 0) (cN 0), (some ⟨g1, 0, none⟩), 2), (vN 0, none, 0)) : RuQ)).toArray 31)) := by go_grown
  refine hK.out _ _ ?S3x6 (fun hHeldN => ?_)
  case S3x6 => exact Lf5.below hHeld hb
  clear hK K hHeld
  have hHeld := hHeldN
  clear hHeldN hb
  (try simp only [Act.put, List.setIfInBounds_toArray, List.set_cons_zero, List.set_cons_succ])
  refine RegE.stepL (i := 7) rfl (by decide) (by kernel_rfl) (fun K hK => ?_)
  obtain ⟨ps, hG, hps⟩ := HR.out
  have HG := Lib.hid hG
  clear hG HR
  obtain ⟨W1, hW1⟩ : ∃ W1, W1 = u4.alloc (.cells (ruD ((1, (opXN 3 (vN 0) (cN 0), (some ⟨g1, 0, none⟩), 2), (vN 0, none, 0)) : RuQ)).toArray 31) := ⟨_, rfl⟩
  have hb1 : Below u4.heap.size u4 W1 := by rw [hW1]; go_grown
  have hC1 : Cells W1 u4.heap.size 31 (ruD ((1, (opXN 3 (vN 0) (cN 0), (some ⟨g1, 0, none⟩), 2), (vN 0, none, 0)) : RuQ)) := by rw [hW1]; exact Cells.new _ _ _
  have HO := Lib.hid (HG.out.below hb1).own
  have hpl : ps.length = 0 := by have := congrArg List.length hps; simpa using this
  change if _ then Oper.wp _ _ _ (u4.alloc (.cells (ruD ((1, (opXN 3 (vN 0) (cN 0), (some ⟨g1, 0, none⟩), 2), (vN 0, none, 0)) : RuQ)).toArray 31)) _ _ else _
  rw [← hW1]
  refine step_append_at rfl (.tmp 16) (.tmp 22) 22 rfl q0 31 i0 _ 11 120 Try.underlying22 hi hz0 hz1 hz2 rfl (by decide) vv _ _ (by simp [Act.eval]) HO.out ⟨u4.heap.size, 0, none⟩ 1 1 (ruD ((1, (opXN 3 (vN 0) (cN 0), (some ⟨g1, 0, none⟩), 2), (vN 0, none, 0)) : RuQ)) (by simp [Act.eval]) rfl ?n3 ?o3 ?p3 ?q3 ?t3 ?_
  case n3 => intro j z hj; rw [addr_add, Nat.zero_add]; exact (hC1.cell j).trans hj
  case o3 => intro z hz; simp only [ruD, List.mem_cons, List.not_mem_nil, or_false] at hz; rcases hz with rfl | rfl | rfl | rfl | rfl | rfl | rfl | rfl | rfl | rfl | rfl <;> rfl
  case p3 => simp only [List.length_map]; unfold maxLen; omega
  case q3 => simp only [List.length_map]; omega
  case t3 => have := (HG.out.below hb1).size; exact this
  intro v3 u5 hown hg hat
  obtain ⟨h1, h2, h3⟩ := RRow.push HG.out (Below.refl _ _) HP.out hb1 hown hg hat
  rw [hps] at h1
  have HR : Hid (RRow u5 q0 v3 [(1, opXN 3 (vN 0) (cN 0), vN 0)]) := h1
  replace HB : Hid (Below w.heap.size w u5) := HB.out.trans (h2.mono HL.out)
  have HX := Lib.hid (Lf5.next (by rw [hW1]; exact hHeld) h3 : Lf5 u5 b)
  clear HVg1
  clear HG HO hpl hC1 hb1 h1 h2 h3 hown hg hat HP
  refine hK.out _ _ ?S3x7 (fun hHeldN => ?_)
  case S3x7 => exact HX.out
  clear hK K hHeld hHeldN hps hW1 W1
  (try simp only [Act.put, List.setIfInBounds_toArray, List.set_cons_zero, List.set_cons_succ])
  refine RegE.lastL rfl (by kernel_rfl) (by kernel_rfl) (fun K hK => ?_)
  go_simp
  refine hK.out _ _ ?_
  clear hK K hB
  (try simp only [Act.put, List.setIfInBounds_toArray, List.set_cons_zero, List.set_cons_succ])
  go_upto_region 4 with fail
  have HXD : Hid (Lf5 u5.drew b) := Lf5.below HX.out (Below.refl _ _).drew
  have HBD : Hid (Below w.heap.size w u5.drew) := HB.out.drew
  have HRD : Hid (RRow u5.drew q0 v3 _) := HR.out.below (Below.refl _ _).drew
  refine RegE.start (S := fun wx => Lf5 wx b) 8 (by kernel_rfl) (by kernel_rfl) HXD.out (fun hHeld hB => ?_)
  clear HXD HX HB HR
  have HB := HBD
  have HR := HRD
  clear HBD HRD
  generalize u5.drew = u6 at *
  refine RegE.takeL (S := fun wx => Lf5 wx b) (i := 0) (v := ?v4x0) hB rfl (by decide) (by kernel_rfl) (by kernel_rfl) (fun _ _ _ h => h) (Or.inl ⟨by rfl, ?y4x0⟩) hHeld ?r4x0
  case y4x0 => ((intro wx _; go_simp) <;> with_reducible rfl)
  (try simp only [Act.put, List.setIfInBounds_toArray, List.set_cons_zero, List.set_cons_succ])
  refine RegE.takeL (S := fun wx => Lf5 wx b) (i := 1) (v := ?v4x1) hB rfl (by decide) (by kernel_rfl) (by kernel_rfl) (fun _ _ _ h => h) (Or.inl ⟨by rfl, ?y4x1⟩) hHeld ?r4x1
  case y4x1 => ((intro wx hSw; obtain ⟨⟨x0, x1, x2, x3, x4⟩, ⟨y0, y1, y2, y3, y4⟩, ⟨z0, z1, z2, z3, z4⟩, ⟨n0, n1, n2, n3, n4⟩, ⟨m0, m1, m2, m3, m4⟩⟩ := And.intro (xD5_cells hSw.1) (And.intro (xD5_cells hSw.2.1) (And.intro (xD5_cells hSw.2.2.1) (And.intro (xD5_cells hSw.2.2.2.1) (xD5_cells hSw.2.2.2.2)))); go_simp) <;> with_reducible rfl)
  (try simp only [Act.put, List.setIfInBounds_toArray, List.set_cons_zero, List.set_cons_succ])
  refine RegE.takeL (S := fun wx => Lf5 wx b) (i := 2) (v := ?v4x2) hB rfl (by decide) (by kernel_rfl) (by kernel_rfl) (fun _ _ _ h => h) (Or.inl ⟨by rfl, ?y4x2⟩) hHeld ?r4x2
  case y4x2 => ((intro wx hSw; obtain ⟨⟨x0, x1, x2, x3, x4⟩, ⟨y0, y1, y2, y3, y4⟩, ⟨z0, z1, z2, z3, z4⟩, ⟨n0, n1, n2, n3, n4⟩, ⟨m0, m1, m2, m3, m4⟩⟩ := And.intro (xD5_cells hSw.1) (And.intro (xD5_cells hSw.2.1) (And.intro (xD5_cells hSw.2.2.1) (And.intro (xD5_cells hSw.2.2.2.1) (xD5_cells hSw.2.2.2.2)))); go_simp) <;> with_reducible rfl)
  (try simp only [Act.put, List.setIfInBounds_toArray, List.set_cons_zero, List.set_cons_succ])
  refine RegE.takeL (S := fun wx => Lf5 wx b) (i := 4) (v := ?v4x4) hB rfl (by decide) (by kernel_rfl) (by kernel_rfl) (fun _ _ _ h => h) (Or.inl ⟨by rfl, ?y4x4⟩) hHeld ?r4x4
  case y4x4 => ((intro wx hSw; obtain ⟨⟨x0, x1, x2, x3, x4⟩, ⟨y0, y1, y2, y3, y4⟩, ⟨z0, z1, z2, z3, z4⟩, ⟨n0, n1, n2, n3, n4⟩, ⟨m0, m1, m2, m3, m4⟩⟩ := And.intro (xD5_cells hSw.1) (And.intro (xD5_cells hSw.2.1) (And.intro (xD5_cells hSw.2.2.1) (And.intro (xD5_cells hSw.2.2.2.1) (xD5_cells hSw.2.2.2.2)))); go_simp) <;> with_reducible rfl)
  (try simp only [Act.put, List.setIfInBounds_toArray, List.set_cons_zero, List.set_cons_succ])
  refine RegE.stepL (i := 3) rfl (by decide) (by kernel_rfl) (fun K hK => ?_)
  go_simp
  go_at_call 24
  refine (opX_any 3 (cN 0) (vN 0) _ _ _ _ u6 (ExV.leaf _ (cN 0) rfl) (ExV.leaf _ (vN 0) rfl)).mono ?_; rintro e u7 ⟨g2, rfl, hV, hb⟩
  have HVg2 := Lib.hid hV
  clear hV
  replace HB := Lib.hid (bnext HB.out hb)
  replace HR := Lib.hid (HR.out.below hb)
  have HX := Lib.hid (Lf5.below hHeld hb)
  clear hb
  refine hK.out _ _ ?S4x3 (fun hHeldN => ?_)
  case S4x3 => exact HX.out
  clear hK K hHeld HX
  have hHeld := hHeldN
  clear hHeldN
  (try simp only [Act.put, List.setIfInBounds_toArray, List.set_cons_zero, List.set_cons_succ])
  refine RegE.stepL (i := 5) rfl (by decide) (by kernel_rfl) (fun K hK => ?_)
  go_simp
  go_at_call 23
  refine (pairS_any 1 (opXN 3 (cN 0) (vN 0)) (vN 0) (some ⟨g2, 0, none⟩) none 2 0 u7).mono ?_; rintro e u8 ⟨rfl, hb⟩
  replace HVg2 := Lib.hid (HVg2.out.below hb)
  replace HB := Lib.hid (bnext HB.out hb)
  replace HR := Lib.hid (HR.out.below hb)
  have HX := Lib.hid (Lf5.below hHeld hb)
  clear hb
  refine hK.out _ _ ?S4x5 (fun hHeldN => ?_)
  case S4x5 => exact HX.out
  clear hK K hHeld HX
  have hHeld := hHeldN
  clear hHeldN
  (try simp only [Act.put, List.setIfInBounds_toArray, List.set_cons_zero, List.set_cons_succ])
  refine RegE.stepL (i := 6) rfl (by decide) (by kernel_rfl) (fun K hK => ?_)
  have HP : Hid (RuF ((1, (opXN 3 (cN 0) (vN 0), (some ⟨g2, 0, none⟩), 2), (vN 0, none, 0)) : RuQ) u8) := ⟨HVg2.out, ExV.leaf _ (vN 0) rfl⟩
  go_simp
  have hb : Below u8.heap.size u8 (u8.alloc (.cells (ruD ((1, (opXN 3 (cN 0) (vN 0), (some ⟨g2, 0, none⟩), 2), (vN 0, none, 0)) : RuQ)).toArray 31)) := by go_grown
  refine hK.out _ _ ?S4x6 (fun hHeldN => ?_)
  case S4x6 => exact Lf5.below hHeld hb
  clear hK K hHeld
  have hHeld := hHeldN
  clear hHeldN hb
  (try simp only [Act.put, List.setIfInBounds_toArray, List.set_cons_zero, List.set_cons_succ])
  refine RegE.stepL (i := 7) rfl (by decide) (by kernel_rfl) (fun K hK => ?_)
  obtain ⟨ps, hG, hps⟩ := HR.out
  have HG := Lib.hid hG
  clear hG HR
  obtain ⟨W1, hW1⟩ : ∃ W1, W1 = u8.alloc (.cells (ruD ((1, (opXN 3 (cN 0) (vN 0), (some ⟨g2, 0, none⟩), 2), (vN 0, none, 0)) : RuQ)).toArray 31) := ⟨_, rfl⟩
  have hb1 : Below u8.heap.size u8 W1 := by rw [hW1]; go_grown
  have hC1 : Cells W1 u8.heap.size 31 (ruD ((1, (opXN 3 (cN 0) (vN 0), (some ⟨g2, 0, none⟩), 2), (vN 0, none, 0)) : RuQ)) := by rw [hW1]; exact Cells.new _ _ _
  have HO := Lib.hid (HG.out.below hb1).own
  have hpl : ps.length = 1 := by have := congrArg List.length hps; simpa using this
  change if _ then Oper.wp _ _ _ (u8.alloc (.cells (ruD ((1, (opXN 3 (cN 0) (vN 0), (some ⟨g2, 0, none⟩), 2), (vN 0, none, 0)) : RuQ)).toArray 31)) _ _ else _
  rw [← hW1]
  refine step_append_at rfl (.tmp 24) (.tmp 30) 22 rfl q0 31 i0 _ 11 120 Try.underlying22 hi hz0 hz1 hz2 rfl (by decide) v3 _ _ (by simp [Act.eval]) HO.out ⟨u8.heap.size, 0, none⟩ 1 1 (ruD ((1, (opXN 3 (cN 0) (vN 0), (some ⟨g2, 0, none⟩), 2), (vN 0, none, 0)) : RuQ)) (by simp [Act.eval]) rfl ?n4 ?o4 ?p4 ?q4 ?t4 ?_
  case n4 => intro j z hj; rw [addr_add, Nat.zero_add]; exact (hC1.cell j).trans hj
  case o4 => intro z hz; simp only [ruD, List.mem_cons, List.not_mem_nil, or_false] at hz; rcases hz with rfl | rfl | rfl | rfl | rfl | rfl | rfl | rfl | rfl | rfl | rfl <;> rfl
  case p4 => simp only [List.length_map]; unfold maxLen; omega
  case q4 => simp only [List.length_map]; omega
  case t4 => have := (HG.out.below hb1).size; exact this
  intro v4 u9 hown hg hat
  obtain ⟨h1, h2, h3⟩ := RRow.push HG.out (Below.refl _ _) HP.out hb1 hown hg hat
  rw [hps] at h1
  have HR : Hid (RRow u9 q0 v4 [(1, opXN 3 (vN 0) (cN 0), vN 0), (1, opXN 3 (cN 0) (vN 0), vN 0)]) := h1
  replace HB : Hid (Below w.heap.size w u9) := HB.out.trans (h2.mono HL.out)
  have HX := Lib.hid (Lf5.next (by rw [hW1]; exact hHeld) h3 : Lf5 u9 b)
  clear HVg2
  clear HG HO hpl hC1 hb1 h1 h2 h3 hown hg hat HP
  refine hK.out _ _ ?S4x7 (fun hHeldN => ?_)
  case S4x7 => exact HX.out
  clear hK K hHeld hHeldN hps hW1 W1
  (try simp only [Act.put, List.setIfInBounds_toArray, List.set_cons_zero, List.set_cons_succ])
  refine RegE.lastL rfl (by kernel_rfl) (by kernel_rfl) (fun K hK => ?_)
  go_simp
  refine hK.out _ _ ?_
  clear hK K hB
  (try simp only [Act.put, List.setIfInBounds_toArray, List.set_cons_zero, List.set_cons_succ])
  go_upto_region 5 with fail
  have HXD : Hid (Lf5 u9.drew b) := Lf5.below HX.out (Below.refl _ _).drew
  have HBD : Hid (Below w.heap.size w u9.drew) := HB.out.drew
  have HRD : Hid (RRow u9.drew q0 v4 _) := HR.out.below (Below.refl _ _).drew
  refine RegE.start (S := fun wx => Lf5 wx b) 8 (by kernel_rfl) (by kernel_rfl) HXD.out (fun hHeld hB => ?_)
  clear HXD HX HB HR
  have HB := HBD
  have HR := HRD
  clear HBD HRD
  generalize u9.drew = u10 at *
  refine RegE.takeL (S := fun wx => Lf5 wx b) (i := 0) (v := ?v5x0) hB rfl (by decide) (by kernel_rfl) (by kernel_rfl) (fun _ _ _ h => h) (Or.inl ⟨by rfl, ?y5x0⟩) hHeld ?r5x0
  case y5x0 => ((intro wx _; go_simp) <;> with_reducible rfl)
  (try simp only [Act.put, List.setIfInBounds_toArray, List.set_cons_zero, List.set_cons_succ])
  refine RegE.takeL (S := fun wx => Lf5 wx b) (i := 1) (v := ?v5x1) hB rfl (by decide) (by kernel_rfl) (by kernel_rfl) (fun _ _ _ h => h) (Or.inl ⟨by rfl, ?y5x1⟩) hHeld ?r5x1
  case y5x1 => ((intro wx hSw; obtain ⟨⟨x0, x1, x2, x3, x4⟩, ⟨y0, y1, y2, y3, y4⟩, ⟨z0, z1, z2, z3, z4⟩, ⟨n0, n1, n2, n3, n4⟩, ⟨m0, m1, m2, m3, m4⟩⟩ := And.intro (xD5_cells hSw.1) (And.intro (xD5_cells hSw.2.1) (And.intro (xD5_cells hSw.2.2.1) (And.intro (xD5_cells hSw.2.2.2.1) (xD5_cells hSw.2.2.2.2)))); go_simp) <;> with_reducible rfl)
  (try simp only [Act.put, List.setIfInBounds_toArray, List.set_cons_zero, List.set_cons_succ])
  refine RegE.takeL (S := fun wx => Lf5 wx b) (i := 2) (v := ?v5x2) hB rfl (by decide) (by kernel_rfl) (by kernel_rfl) (fun _ _ _ h => h) (Or.inl ⟨by rfl, ?y5x2⟩) hHeld ?r5x2
  case y5x2 => ((intro wx hSw; obtain ⟨⟨x0, x1, x2, x3, x4⟩, ⟨y0, y1, y2, y3, y4⟩, ⟨z0, z1, z2, z3, z4⟩, ⟨n0, n1, n2, n3, n4⟩, ⟨m0, m1, m2, m3, m4⟩⟩ := And.intro (xD5_cells hSw.1) (And.intro (xD5_cells hSw.2.1) (And.intro (xD5_cells hSw.2.2.1) (And.intro (xD5_cells hSw.2.2.2.1) (xD5_cells hSw.2.2.2.2)))); go_simp) <;> with_reducible rfl)
  (try simp only [Act.put, List.setIfInBounds_toArray, List.set_cons_zero, List.set_cons_succ])
  refine RegE.takeL (S := fun wx => Lf5 wx b) (i := 4) (v := ?v5x4) hB rfl (by decide) (by kernel_rfl) (by kernel_rfl) (fun _ _ _ h => h) (Or.inl ⟨by rfl, ?y5x4⟩) hHeld ?r5x4
  case y5x4 => ((intro wx hSw; obtain ⟨⟨x0, x1, x2, x3, x4⟩, ⟨y0, y1, y2, y3, y4⟩, ⟨z0, z1, z2, z3, z4⟩, ⟨n0, n1, n2, n3, n4⟩, ⟨m0, m1, m2, m3, m4⟩⟩ := And.intro (xD5_cells hSw.1) (And.intro (xD5_cells hSw.2.1) (And.intro (xD5_cells hSw.2.2.1) (And.intro (xD5_cells hSw.2.2.2.1) (xD5_cells hSw.2.2.2.2)))); go_simp) <;> with_reducible rfl)
  (try simp only [Act.put, List.setIfInBounds_toArray, List.set_cons_zero, List.set_cons_succ])
  refine RegE.stepL (i := 3) rfl (by decide) (by kernel_rfl) (fun K hK => ?_)
  go_simp
  go_at_call 24
  refine (opX_any 4 (vN 0) (cN 0) _ _ _ _ u10 (ExV.leaf _ (vN 0) rfl) (ExV.leaf _ (cN 0) rfl)).mono ?_; rintro e u11 ⟨g3, rfl, hV, hb⟩
  have HVg3 := Lib.hid hV
  clear hV
  replace HB := Lib.hid (bnext HB.out hb)
  replace HR := Lib.hid (HR.out.below hb)
  have HX := Lib.hid (Lf5.below hHeld hb)
  clear hb
  refine hK.out _ _ ?S5x3 (fun hHeldN => ?_)
  case S5x3 => exact HX.out
  clear hK K hHeld HX
  have hHeld := hHeldN
  clear hHeldN
  (try simp only [Act.put, List.setIfInBounds_toArray, List.set_cons_zero, List.set_cons_succ])
  refine RegE.stepL (i := 5) rfl (by decide) (by kernel_rfl) (fun K hK => ?_)
  go_simp
  go_at_call 23
  refine (pairS_any 1 (opXN 4 (vN 0) (cN 0)) (vN 0) (some ⟨g3, 0, none⟩) none 2 0 u11).mono ?_; rintro e u12 ⟨rfl, hb⟩
  replace HVg3 := Lib.hid (HVg3.out.below hb)
  replace HB := Lib.hid (bnext HB.out hb)
  replace HR := Lib.hid (HR.out.below hb)
  have HX := Lib.hid (Lf5.below hHeld hb)
  clear hb
  refine hK.out _ _ ?S5x5 (fun hHeldN => ?_)
  case S5x5 => exact HX.out
  clear hK K hHeld HX
  have hHeld := hHeldN
  clear hHeldN
  (try simp only [Act.put, List.setIfInBounds_toArray, List.set_cons_zero, List.set_cons_succ])
  refine RegE.stepL (i := 6) rfl (by decide) (by kernel_rfl) (fun K hK => ?_)
  have HP : Hid (RuF ((1, (opXN 4 (vN 0) (cN 0), (some ⟨g3, 0, none⟩), 2), (vN 0, none, 0)) : RuQ) u12) := ⟨HVg3.out, ExV.leaf _ (vN 0) rfl⟩
  go_simp
  have hb : Below u12.heap.size u12 (u12.alloc (.cells (ruD ((1, (opXN 4 (vN 0) (cN 0), (some ⟨g3, 0, none⟩), 2), (vN 0, none, 0)) : RuQ)).toArray 31)) := by go_grown
  refine hK.out _ _ ?S5x6 (fun hHeldN => ?_)
  case S5x6 => exact Lf5.below hHeld hb
  clear hK K hHeld
  have hHeld := hHeldN
  clear hHeldN hb
  (try simp only [Act.put, List.setIfInBounds_toArray, List.set_cons_zero, List.set_cons_succ])
  refine RegE.stepL (i := 7) rfl (by decide) (by kernel_rfl) (fun K hK => ?_)
  obtain ⟨ps, hG, hps⟩ := HR.out
  have HG := Lib.hid hG
  clear hG HR
  obtain ⟨W1, hW1⟩ : ∃ W1, W1 = u12.alloc (.cells (ruD ((1, (opXN 4 (vN 0) (cN 0), (some ⟨g3, 0, none⟩), 2), (vN 0, none, 0)) : RuQ)).toArray 31) := ⟨_, rfl⟩
  have hb1 : Below u12.heap.size u12 W1 := by rw [hW1]; go_grown
  have hC1 : Cells W1 u12.heap.size 31 (ruD ((1, (opXN 4 (vN 0) (cN 0), (some ⟨g3, 0, none⟩), 2), (vN 0, none, 0)) : RuQ)) := by rw [hW1]; exact Cells.new _ _ _
  have HO := Lib.hid (HG.out.below hb1).own
  have hpl : ps.length = 2 := by have := congrArg List.length hps; simpa using this
  change if _ then Oper.wp _ _ _ (u12.alloc (.cells (ruD ((1, (opXN 4 (vN 0) (cN 0), (some ⟨g3, 0, none⟩), 2), (vN 0, none, 0)) : RuQ)).toArray 31)) _ _ else _
  rw [← hW1]
  refine step_append_at rfl (.tmp 32) (.tmp 38) 22 rfl q0 31 i0 _ 11 120 Try.underlying22 hi hz0 hz1 hz2 rfl (by decide) v4 _ _ (by simp [Act.eval]) HO.out ⟨u12.heap.size, 0, none⟩ 1 1 (ruD ((1, (opXN 4 (vN 0) (cN 0), (some ⟨g3, 0, none⟩), 2), (vN 0, none, 0)) : RuQ)) (by simp [Act.eval]) rfl ?n5 ?o5 ?p5 ?q5 ?t5 ?_
  case n5 => intro j z hj; rw [addr_add, Nat.zero_add]; exact (hC1.cell j).trans hj
  case o5 => intro z hz; simp only [ruD, List.mem_cons, List.not_mem_nil, or_false] at hz; rcases hz with rfl | rfl | rfl | rfl | rfl | rfl | rfl | rfl | rfl | rfl | rfl <;> rfl
  case p5 => simp only [List.length_map]; unfold maxLen; omega
  case q5 => simp only [List.length_map]; omega
  case t5 => have := (HG.out.below hb1).size; exact this
  intro v5 u13 hown hg hat
  obtain ⟨h1, h2, h3⟩ := RRow.push HG.out (Below.refl _ _) HP.out hb1 hown hg hat
  rw [hps] at h1
  have HR : Hid (RRow u13 q0 v5 [(1, opXN 3 (vN 0) (cN 0), vN 0), (1, opXN 3 (cN 0) (vN 0), vN 0), (1, opXN 4 (vN 0) (cN 0), vN 0)]) := h1
  replace HB : Hid (Below w.heap.size w u13) := HB.out.trans (h2.mono HL.out)
  have HX := Lib.hid (Lf5.next (by rw [hW1]; exact hHeld) h3 : Lf5 u13 b)
  clear HVg3
  clear HG HO hpl hC1 hb1 h1 h2 h3 hown hg hat HP
  refine hK.out _ _ ?S5x7 (fun hHeldN => ?_)
  case S5x7 => exact HX.out
  clear hK K hHeld hHeldN hps hW1 W1
  (try simp only [Act.put, List.setIfInBounds_toArray, List.set_cons_zero, List.set_cons_succ])
  refine RegE.lastL rfl (by kernel_rfl) (by kernel_rfl) (fun K hK => ?_)
  go_simp
  refine hK.out _ _ ?_
  clear hK K hB
  (try simp only [Act.put, List.setIfInBounds_toArray, List.set_cons_zero, List.set_cons_succ])
  go_upto_region 6 with fail
  have HXD : Hid (Lf5 u13.drew b) := Lf5.below HX.out (Below.refl _ _).drew
  have HBD : Hid (Below w.heap.size w u13.drew) := HB.out.drew
  have HRD : Hid (RRow u13.drew q0 v5 _) := HR.out.below (Below.refl _ _).drew
  refine RegE.start (S := fun wx => Lf5 wx b) 9 (by kernel_rfl) (by kernel_rfl) HXD.out (fun hHeld hB => ?_)
  clear HXD HX HB HR
  have HB := HBD
  have HR := HRD
  clear HBD HRD
  generalize u13.drew = u14 at *
  refine RegE.takeL (S := fun wx => Lf5 wx b) (i := 0) (v := ?v6x0) hB rfl (by decide) (by kernel_rfl) (by kernel_rfl) (fun _ _ _ h => h) (Or.inl ⟨by rfl, ?y6x0⟩) hHeld ?r6x0
  case y6x0 => ((intro wx _; go_simp) <;> with_reducible rfl)
  (try simp only [Act.put, List.setIfInBounds_toArray, List.set_cons_zero, List.set_cons_succ])
  refine RegE.takeL (S := fun wx => Lf5 wx b) (i := 1) (v := ?v6x1) hB rfl (by decide) (by kernel_rfl) (by kernel_rfl) (fun _ _ _ h => h) (Or.inl ⟨by rfl, ?y6x1⟩) hHeld ?r6x1
  case y6x1 => ((intro wx hSw; obtain ⟨⟨x0, x1, x2, x3, x4⟩, ⟨y0, y1, y2, y3, y4⟩, ⟨z0, z1, z2, z3, z4⟩, ⟨n0, n1, n2, n3, n4⟩, ⟨m0, m1, m2, m3, m4⟩⟩ := And.intro (xD5_cells hSw.1) (And.intro (xD5_cells hSw.2.1) (And.intro (xD5_cells hSw.2.2.1) (And.intro (xD5_cells hSw.2.2.2.1) (xD5_cells hSw.2.2.2.2)))); go_simp) <;> with_reducible rfl)
  (try simp only [Act.put, List.setIfInBounds_toArray, List.set_cons_zero, List.set_cons_succ])
  refine RegE.takeL (S := fun wx => Lf5 wx b) (i := 2) (v := ?v6x2) hB rfl (by decide) (by kernel_rfl) (by kernel_rfl) (fun _ _ _ h => h) (Or.inl ⟨by rfl, ?y6x2⟩) hHeld ?r6x2
  case y6x2 => ((intro wx hSw; obtain ⟨⟨x0, x1, x2, x3, x4⟩, ⟨y0, y1, y2, y3, y4⟩, ⟨z0, z1, z2, z3, z4⟩, ⟨n0, n1, n2, n3, n4⟩, ⟨m0, m1, m2, m3, m4⟩⟩ := And.intro (xD5_cells hSw.1) (And.intro (xD5_cells hSw.2.1) (And.intro (xD5_cells hSw.2.2.1) (And.intro (xD5_cells hSw.2.2.2.1) (xD5_cells hSw.2.2.2.2)))); go_simp) <;> with_reducible rfl)
  (try simp only [Act.put, List.setIfInBounds_toArray, List.set_cons_zero, List.set_cons_succ])
  refine RegE.takeL (S := fun wx => Lf5 wx b) (i := 4) (v := ?v6x4) hB rfl (by decide) (by kernel_rfl) (by kernel_rfl) (fun _ _ _ h => h) (Or.inl ⟨by rfl, ?y6x4⟩) hHeld ?r6x4
  case y6x4 => ((intro wx hSw; obtain ⟨⟨x0, x1, x2, x3, x4⟩, ⟨y0, y1, y2, y3, y4⟩, ⟨z0, z1, z2, z3, z4⟩, ⟨n0, n1, n2, n3, n4⟩, ⟨m0, m1, m2, m3, m4⟩⟩ := And.intro (xD5_cells hSw.1) (And.intro (xD5_cells hSw.2.1) (And.intro (xD5_cells hSw.2.2.1) (And.intro (xD5_cells hSw.2.2.2.1) (xD5_cells hSw.2.2.2.2)))); go_simp) <;> with_reducible rfl)
  (try simp only [Act.put, List.setIfInBounds_toArray, List.set_cons_zero, List.set_cons_succ])
  refine RegE.stepL (i := 3) rfl (by decide) (by kernel_rfl) (fun K hK => ?_)
  go_simp
  go_at_call 24
  refine (opX_any 4 (cN 0) (vN 0) _ _ _ _ u14 (ExV.leaf _ (cN 0) rfl) (ExV.leaf _ (vN 0) rfl)).mono ?_; rintro e u15 ⟨g4, rfl, hV, hb⟩
  have HVg4 := Lib.hid hV
  clear hV
  replace HB := Lib.hid (bnext HB.out hb)
  replace HR := Lib.hid (HR.out.below hb)
  have HX := Lib.hid (Lf5.below hHeld hb)
  clear hb
  refine hK.out _ _ ?S6x3 (fun hHeldN => ?_)
  case S6x3 => exact HX.out
  clear hK K hHeld HX
  have hHeld := hHeldN
  clear hHeldN
  (try simp only [Act.put, List.setIfInBounds_toArray, List.set_cons_zero, List.set_cons_succ])
  refine RegE.stepL (i := 5) rfl (by decide) (by kernel_rfl) (fun K hK => ?_)
  go_simp
  go_at_call 25
  refine (negX_any (vN 0) _ _ u15 (ExV.leaf _ (vN 0) rfl)).mono ?_; rintro e u16 ⟨g5, rfl, hV, hb⟩
  replace HVg4 := Lib.hid (HVg4.out.below hb)
  have HVg5 := Lib.hid hV
  clear hV
  replace HB := Lib.hid (bnext HB.out hb)
  replace HR := Lib.hid (HR.out.below hb)
  have HX := Lib.hid (Lf5.below hHeld hb)
  clear hb
  refine hK.out _ _ ?S6x5 (fun hHeldN => ?_)
  case S6x5 => exact HX.out
  clear hK K hHeld HX
  have hHeld := hHeldN
  clear hHeldN
  (try simp only [Act.put, List.setIfInBounds_toArray, List.set_cons_zero, List.set_cons_succ])
  refine RegE.stepL (i := 6) rfl (by decide) (by kernel_rfl) (fun K hK => ?_)
  go_simp
  go_at_call 23
  refine (pairS_any 1 (opXN 4 (cN 0) (vN 0)) (ngN (vN 0)) (some ⟨g4, 0, none⟩) (some ⟨g5, 0, none⟩) 2 1 u16).mono ?_; rintro e u17 ⟨rfl, hb⟩
  replace HVg4 := Lib.hid (HVg4.out.below hb)
  replace HVg5 := Lib.hid (HVg5.out.below hb)
  replace HB := Lib.hid (bnext HB.out hb)
  replace HR := Lib.hid (HR.out.below hb)
  have HX := Lib.hid (Lf5.below hHeld hb)
  clear hb
  refine hK.out _ _ ?S6x6 (fun hHeldN => ?_)
  case S6x6 => exact HX.out
  clear hK K hHeld HX
  have hHeld := hHeldN
  clear hHeldN
  (try simp only [Act.put, List.setIfInBounds_toArray, List.set_cons_zero, List.set_cons_succ])
  refine RegE.stepL (i := 7) rfl (by decide) (by kernel_rfl) (fun K hK => ?_)
  have HP : Hid (RuF ((1, (opXN 4 (cN 0) (vN 0), (some ⟨g4, 0, none⟩), 2), (ngN (vN 0), (some ⟨g5, 0, none⟩), 1)) : RuQ) u17) := ⟨HVg4.out, HVg5.out⟩
  go_simp
  have hb : Below u17.heap.size u17 (u17.alloc (.cells (ruD ((1, (opXN 4 (cN 0) (vN 0), (some ⟨g4, 0, none⟩), 2), (ngN (vN 0), (some ⟨g5, 0, none⟩), 1)) : RuQ)).toArray 31)) := by go_grown
  refine hK.out _ _ ?S6x7 (fun hHeldN => ?_)
  case S6x7 => exact Lf5.below hHeld hb
  clear hK K hHeld
  have hHeld := hHeldN
  clear hHeldN hb
  (try simp only [Act.put, List.setIfInBounds_toArray, List.set_cons_zero, List.set_cons_succ])
  refine RegE.stepL (i := 8) rfl (by decide) (by kernel_rfl) (fun K hK => ?_)
  obtain ⟨ps, hG, hps⟩ := HR.out
  have HG := Lib.hid hG
  clear hG HR
  obtain ⟨W1, hW1⟩ : ∃ W1, W1 = u17.alloc (.cells (ruD ((1, (opXN 4 (cN 0) (vN 0), (some ⟨g4, 0, none⟩), 2), (ngN (vN 0), (some ⟨g5, 0, none⟩), 1)) : RuQ)).toArray 31) := ⟨_, rfl⟩
  have hb1 : Below u17.heap.size u17 W1 := by rw [hW1]; go_grown
  have hC1 : Cells W1 u17.heap.size 31 (ruD ((1, (opXN 4 (cN 0) (vN 0), (some ⟨g4, 0, none⟩), 2), (ngN (vN 0), (some ⟨g5, 0, none⟩), 1)) : RuQ)) := by rw [hW1]; exact Cells.new _ _ _
  have HO := Lib.hid (HG.out.below hb1).own
  have hpl : ps.length = 3 := by have := congrArg List.length hps; simpa using this
  change if _ then Oper.wp _ _ _ (u17.alloc (.cells (ruD ((1, (opXN 4 (cN 0) (vN 0), (some ⟨g4, 0, none⟩), 2), (ngN (vN 0), (some ⟨g5, 0, none⟩), 1)) : RuQ)).toArray 31)) _ _ else _
  rw [← hW1]
  refine step_append_at rfl (.tmp 40) (.tmp 47) 22 rfl q0 31 i0 _ 11 120 Try.underlying22 hi hz0 hz1 hz2 rfl (by decide) v5 _ _ (by simp [Act.eval]) HO.out ⟨u17.heap.size, 0, none⟩ 1 1 (ruD ((1, (opXN 4 (cN 0) (vN 0), (some ⟨g4, 0, none⟩), 2), (ngN (vN 0), (some ⟨g5, 0, none⟩), 1)) : RuQ)) (by simp [Act.eval]) rfl ?n6 ?o6 ?p6 ?q6 ?t6 ?_
  case n6 => intro j z hj; rw [addr_add, Nat.zero_add]; exact (hC1.cell j).trans hj
  case o6 => intro z hz; simp only [ruD, List.mem_cons, List.not_mem_nil, or_false] at hz; rcases hz with rfl | rfl | rfl | rfl | rfl | rfl | rfl | rfl | rfl | rfl | rfl <;> rfl
  case p6 => simp only [List.length_map]; unfold maxLen; omega
  case q6 => simp only [List.length_map]; omega
  case t6 => have := (HG.out.below hb1).size; exact this
  intro v6 u18 hown hg hat
  obtain ⟨h1, h2, h3⟩ := RRow.push HG.out (Below.refl _ _) HP.out hb1 hown hg hat
  rw [hps] at h1
  have HR : Hid (RRow u18 q0 v6 [(1, opXN 3 (vN 0) (cN 0), vN 0), (1, opXN 3 (cN 0) (vN 0), vN 0), (1, opXN 4 (vN 0) (cN 0), vN 0), (1, opXN 4 (cN 0) (vN 0), ngN (vN 0))]) := h1
  replace HB : Hid (Below w.heap.size w u18) := HB.out.trans (h2.mono HL.out)
  have HX := Lib.hid (Lf5.next (by rw [hW1]; exact hHeld) h3 : Lf5 u18 b)
  clear HVg4
  clear HVg5
  clear HG HO hpl hC1 hb1 h1 h2 h3 hown hg hat HP
  refine hK.out _ _ ?S6x8 (fun hHeldN => ?_)
  case S6x8 => exact HX.out
  clear hK K hHeld hHeldN hps hW1 W1
  (try simp only [Act.put, List.setIfInBounds_toArray, List.set_cons_zero, List.set_cons_succ])
  refine RegE.lastL rfl (by kernel_rfl) (by kernel_rfl) (fun K hK => ?_)
  go_simp
  refine hK.out _ _ ?_
  clear hK K hB
  (try simp only [Act.put, List.setIfInBounds_toArray, List.set_cons_zero, List.set_cons_succ])
  go_upto_region 7 with fail
  have HXD : Hid (Lf5 u18.drew b) := Lf5.below HX.out (Below.refl _ _).drew
  have HBD : Hid (Below w.heap.size w u18.drew) := HB.out.drew
  have HRD : Hid (RRow u18.drew q0 v6 _) := HR.out.below (Below.refl _ _).drew
  refine RegE.start (S := fun wx => Lf5 wx b) 8 (by kernel_rfl) (by kernel_rfl) HXD.out (fun hHeld hB => ?_)
  clear HXD HX HB HR
  have HB := HBD
  have HR := HRD
  clear HBD HRD
  generalize u18.drew = u19 at *
  refine RegE.takeL (S := fun wx => Lf5 wx b) (i := 0) (v := ?v7x0) hB rfl (by decide) (by kernel_rfl) (by kernel_rfl) (fun _ _ _ h => h) (Or.inl ⟨by rfl, ?y7x0⟩) hHeld ?r7x0
  case y7x0 => ((intro wx _; go_simp) <;> with_reducible rfl)
  (try simp only [Act.put, List.setIfInBounds_toArray, List.set_cons_zero, List.set_cons_succ])
  refine RegE.takeL (S := fun wx => Lf5 wx b) (i := 1) (v := ?v7x1) hB rfl (by decide) (by kernel_rfl) (by kernel_rfl) (fun _ _ _ h => h) (Or.inl ⟨by rfl, ?y7x1⟩) hHeld ?r7x1
  case y7x1 => ((intro wx hSw; obtain ⟨⟨x0, x1, x2, x3, x4⟩, ⟨y0, y1, y2, y3, y4⟩, ⟨z0, z1, z2, z3, z4⟩, ⟨n0, n1, n2, n3, n4⟩, ⟨m0, m1, m2, m3, m4⟩⟩ := And.intro (xD5_cells hSw.1) (And.intro (xD5_cells hSw.2.1) (And.intro (xD5_cells hSw.2.2.1) (And.intro (xD5_cells hSw.2.2.2.1) (xD5_cells hSw.2.2.2.2)))); go_simp) <;> with_reducible rfl)
  (try simp only [Act.put, List.setIfInBounds_toArray, List.set_cons_zero, List.set_cons_succ])
  refine RegE.takeL (S := fun wx => Lf5 wx b) (i := 2) (v := ?v7x2) hB rfl (by decide) (by kernel_rfl) (by kernel_rfl) (fun _ _ _ h => h) (Or.inl ⟨by rfl, ?y7x2⟩) hHeld ?r7x2
  case y7x2 => ((intro wx hSw; obtain ⟨⟨x0, x1, x2, x3, x4⟩, ⟨y0, y1, y2, y3, y4⟩, ⟨z0, z1, z2, z3, z4⟩, ⟨n0, n1, n2, n3, n4⟩, ⟨m0, m1, m2, m3, m4⟩⟩ := And.intro (xD5_cells hSw.1) (And.intro (xD5_cells hSw.2.1) (And.intro (xD5_cells hSw.2.2.1) (And.intro (xD5_cells hSw.2.2.2.1) (xD5_cells hSw.2.2.2.2)))); go_simp) <;> with_reducible rfl)
  (try simp only [Act.put, List.setIfInBounds_toArray, List.set_cons_zero, List.set_cons_succ])
  refine RegE.takeL (S := fun wx => Lf5 wx b) (i := 4) (v := ?v7x4) hB rfl (by decide) (by kernel_rfl) (by kernel_rfl) (fun _ _ _ h => h) (Or.inl ⟨by rfl, ?y7x4⟩) hHeld ?r7x4
  case y7x4 => ((intro wx hSw; obtain ⟨⟨x0, x1, x2, x3, x4⟩, ⟨y0, y1, y2, y3, y4⟩, ⟨z0, z1, z2, z3, z4⟩, ⟨n0, n1, n2, n3, n4⟩, ⟨m0, m1, m2, m3, m4⟩⟩ := And.intro (xD5_cells hSw.1) (And.intro (xD5_cells hSw.2.1) (And.intro (xD5_cells hSw.2.2.1) (And.intro (xD5_cells hSw.2.2.2.1) (xD5_cells hSw.2.2.2.2)))); go_simp) <;> with_reducible rfl)
  (try simp only [Act.put, List.setIfInBounds_toArray, List.set_cons_zero, List.set_cons_succ])
  refine RegE.stepL (i := 3) rfl (by decide) (by kernel_rfl) (fun K hK => ?_)
  go_simp
  go_at_call 24
  refine (opX_any 5 (vN 0) (cN 1) _ _ _ _ u19 (ExV.leaf _ (vN 0) rfl) (ExV.leaf _ (cN 1) rfl)).mono ?_; rintro e u20 ⟨g6, rfl, hV, hb⟩
  have HVg6 := Lib.hid hV
  clear hV
  replace HB := Lib.hid (bnext HB.out hb)
  replace HR := Lib.hid (HR.out.below hb)
  have HX := Lib.hid (Lf5.below hHeld hb)
  clear hb
  refine hK.out _ _ ?S7x3 (fun hHeldN => ?_)
  case S7x3 => exact HX.out
  clear hK K hHeld HX
  have hHeld := hHeldN
  clear hHeldN
  (try simp only [Act.put, List.setIfInBounds_toArray, List.set_cons_zero, List.set_cons_succ])
  refine RegE.stepL (i := 5) rfl (by decide) (by kernel_rfl) (fun K hK => ?_)
  go_simp
  go_at_call 23
  refine (pairS_any 1 (opXN 5 (vN 0) (cN 1)) (vN 0) (some ⟨g6, 0, none⟩) none 2 0 u20).mono ?_; rintro e u21 ⟨rfl, hb⟩
  replace HVg6 := Lib.hid (HVg6.out.below hb)
  replace HB := Lib.hid (bnext HB.out hb)
  replace HR := Lib.hid (HR.out.below hb)
  have HX := Lib.hid (Lf5.below hHeld hb)
  clear hb
  refine hK.out _ _ ?S7x5 (fun hHeldN => ?_)
  case S7x5 => exact HX.out
  clear hK K hHeld HX
  have hHeld := hHeldN
  clear hHeldN
  (try simp only [Act.put, List.setIfInBounds_toArray, List.set_cons_zero, List.set_cons_succ])
  refine RegE.stepL (i := 6) rfl (by decide) (by kernel_rfl) (fun K hK => ?_)
  have HP : Hid (RuF ((1, (opXN 5 (vN 0) (cN 1), (some ⟨g6, 0, none⟩), 2), (vN 0, none, 0)) : RuQ) u21) := ⟨HVg6.out, ExV.leaf _ (vN 0) rfl⟩
  go_simp
  have hb : Below u21.heap.size u21 (u21.alloc (.cells (ruD ((1, (opXN 5 (vN 0) (cN 1), (some ⟨g6, 0, none⟩), 2), (vN 0, none, 0)) : RuQ)).toArray 31)) := by go_grown
  refine hK.out _ _ ?S7x6 (fun hHeldN => ?_)
  case S7x6 => exact Lf5.below hHeld hb
  clear hK K hHeld
  have hHeld := hHeldN
  clear hHeldN hb
  (try simp only [Act.put, List.setIfInBounds_toArray, List.set_cons_zero, List.set_cons_succ])
  refine RegE.stepL (i := 7) rfl (by decide) (by kernel_rfl) (fun K hK => ?_)
  obtain ⟨ps, hG, hps⟩ := HR.out
  have HG := Lib.hid hG
  clear hG HR
  obtain ⟨W1, hW1⟩ : ∃ W1, W1 = u21.alloc (.cells (ruD ((1, (opXN 5 (vN 0) (cN 1), (some ⟨g6, 0, none⟩), 2), (vN 0, none, 0)) : RuQ)).toArray 31) := ⟨_, rfl⟩
  have hb1 : Below u21.heap.size u21 W1 := by rw [hW1]; go_grown
  have hC1 : Cells W1 u21.heap.size 31 (ruD ((1, (opXN 5 (vN 0) (cN 1), (some ⟨g6, 0, none⟩), 2), (vN 0, none, 0)) : RuQ)) := by rw [hW1]; exact Cells.new _ _ _
  have HO := Lib.hid (HG.out.below hb1).own
  have hpl : ps.length = 4 := by have := congrArg List.length hps; simpa using this
  change if _ then Oper.wp _ _ _ (u21.alloc (.cells (ruD ((1, (opXN 5 (vN 0) (cN 1), (some ⟨g6, 0, none⟩), 2), (vN 0, none, 0)) : RuQ)).toArray 31)) _ _ else _
  rw [← hW1]
  refine step_append_at rfl (.tmp 49) (.tmp 55) 22 rfl q0 31 i0 _ 11 120 Try.underlying22 hi hz0 hz1 hz2 rfl (by decide) v6 _ _ (by simp [Act.eval]) HO.out ⟨u21.heap.size, 0, none⟩ 1 1 (ruD ((1, (opXN 5 (vN 0) (cN 1), (some ⟨g6, 0, none⟩), 2), (vN 0, none, 0)) : RuQ)) (by simp [Act.eval]) rfl ?n7 ?o7 ?p7 ?q7 ?t7 ?_
  case n7 => intro j z hj; rw [addr_add, Nat.zero_add]; exact (hC1.cell j).trans hj
  case o7 => intro z hz; simp only [ruD, List.mem_cons, List.not_mem_nil, or_false] at hz; rcases hz with rfl | rfl | rfl | rfl | rfl | rfl | rfl | rfl | rfl | rfl | rfl <;> rfl
  case p7 => simp only [List.length_map]; unfold maxLen; omega
  case q7 => simp only [List.length_map]; omega
  case t7 => have := (HG.out.below hb1).size; exact this
  intro v7 u22 hown hg hat
  obtain ⟨h1, h2, h3⟩ := RRow.push HG.out (Below.refl _ _) HP.out hb1 hown hg hat
  rw [hps] at h1
  have HR : Hid (RRow u22 q0 v7 [(1, opXN 3 (vN 0) (cN 0), vN 0), (1, opXN 3 (cN 0) (vN 0), vN 0), (1, opXN 4 (vN 0) (cN 0), vN 0), (1, opXN 4 (cN 0) (vN 0), ngN (vN 0)), (1, opXN 5 (vN 0) (cN 1), vN 0)]) := h1
  replace HB : Hid (Below w.heap.size w u22) := HB.out.trans (h2.mono HL.out)
  have HX := Lib.hid (Lf5.next (by rw [hW1]; exact hHeld) h3 : Lf5 u22 b)
  clear HVg6
  clear HG HO hpl hC1 hb1 h1 h2 h3 hown hg hat HP
  refine hK.out _ _ ?S7x7 (fun hHeldN => ?_)
  case S7x7 => exact HX.out
  clear hK K hHeld hHeldN hps hW1 W1
  (try simp only [Act.put, List.setIfInBounds_toArray, List.set_cons_zero, List.set_cons_succ])
  refine RegE.lastL rfl (by kernel_rfl) (by kernel_rfl) (fun K hK => ?_)
  go_simp
  refine hK.out _ _ ?_
  clear hK K hB
  (try simp only [Act.put, List.setIfInBounds_toArray, List.set_cons_zero, List.set_cons_succ])
  go_upto_region 8 with fail
  have HXD : Hid (Lf5 u22.drew b) := Lf5.below HX.out (Below.refl _ _).drew
  have HBD : Hid (Below w.heap.size w u22.drew) := HB.out.drew
  have HRD : Hid (RRow u22.drew q0 v7 _) := HR.out.below (Below.refl _ _).drew
  refine RegE.start (S := fun wx => Lf5 wx b) 8 (by kernel_rfl) (by kernel_rfl) HXD.out (fun hHeld hB => ?_)
  clear HXD HX HB HR
  have HB := HBD
  have HR := HRD
  clear HBD HRD
  generalize u22.drew = u23 at *
  refine RegE.takeL (S := fun wx => Lf5 wx b) (i := 0) (v := ?v8x0) hB rfl (by decide) (by kernel_rfl) (by kernel_rfl) (fun _ _ _ h => h) (Or.inl ⟨by rfl, ?y8x0⟩) hHeld ?r8x0
  case y8x0 => ((intro wx _; go_simp) <;> with_reducible rfl)
  (try simp only [Act.put, List.setIfInBounds_toArray, List.set_cons_zero, List.set_cons_succ])
  refine RegE.takeL (S := fun wx => Lf5 wx b) (i := 1) (v := ?v8x1) hB rfl (by decide) (by kernel_rfl) (by kernel_rfl) (fun _ _ _ h => h) (Or.inl ⟨by rfl, ?y8x1⟩) hHeld ?r8x1
  case y8x1 => ((intro wx hSw; obtain ⟨⟨x0, x1, x2, x3, x4⟩, ⟨y0, y1, y2, y3, y4⟩, ⟨z0, z1, z2, z3, z4⟩, ⟨n0, n1, n2, n3, n4⟩, ⟨m0, m1, m2, m3, m4⟩⟩ := And.intro (xD5_cells hSw.1) (And.intro (xD5_cells hSw.2.1) (And.intro (xD5_cells hSw.2.2.1) (And.intro (xD5_cells hSw.2.2.2.1) (xD5_cells hSw.2.2.2.2)))); go_simp) <;> with_reducible rfl)
  (try simp only [Act.put, List.setIfInBounds_toArray, List.set_cons_zero, List.set_cons_succ])
  refine RegE.takeL (S := fun wx => Lf5 wx b) (i := 2) (v := ?v8x2) hB rfl (by decide) (by kernel_rfl) (by kernel_rfl) (fun _ _ _ h => h) (Or.inl ⟨by rfl, ?y8x2⟩) hHeld ?r8x2
  case y8x2 => ((intro wx hSw; obtain ⟨⟨x0, x1, x2, x3, x4⟩, ⟨y0, y1, y2, y3, y4⟩, ⟨z0, z1, z2, z3, z4⟩, ⟨n0, n1, n2, n3, n4⟩, ⟨m0, m1, m2, m3, m4⟩⟩ := And.intro (xD5_cells hSw.1) (And.intro (xD5_cells hSw.2.1) (And.intro (xD5_cells hSw.2.2.1) (And.intro (xD5_cells hSw.2.2.2.1) (xD5_cells hSw.2.2.2.2)))); go_simp) <;> with_reducible rfl)
  (try simp only [Act.put, List.setIfInBounds_toArray, List.set_cons_zero, List.set_cons_succ])
  refine RegE.takeL (S := fun wx => Lf5 wx b) (i := 4) (v := ?v8x4) hB rfl (by decide) (by kernel_rfl) (by kernel_rfl) (fun _ _ _ h => h) (Or.inl ⟨by rfl, ?y8x4⟩) hHeld ?r8x4
  case y8x4 => ((intro wx hSw; obtain ⟨⟨x0, x1, x2, x3, x4⟩, ⟨y0, y1, y2, y3, y4⟩, ⟨z0, z1, z2, z3, z4⟩, ⟨n0, n1, n2, n3, n4⟩, ⟨m0, m1, m2, m3, m4⟩⟩ := And.intro (xD5_cells hSw.1) (And.intro (xD5_cells hSw.2.1) (And.intro (xD5_cells hSw.2.2.1) (And.intro (xD5_cells hSw.2.2.2.1) (xD5_cells hSw.2.2.2.2)))); go_simp) <;> with_reducible rfl)
  (try simp only [Act.put, List.setIfInBounds_toArray, List.set_cons_zero, List.set_cons_succ])
  refine RegE.stepL (i := 3) rfl (by decide) (by kernel_rfl) (fun K hK => ?_)
  go_simp
  go_at_call 24
  refine (opX_any 5 (cN 1) (vN 0) _ _ _ _ u23 (ExV.leaf _ (cN 1) rfl) (ExV.leaf _ (vN 0) rfl)).mono ?_; rintro e u24 ⟨g7, rfl, hV, hb⟩
  have HVg7 := Lib.hid hV
  clear hV
  replace HB := Lib.hid (bnext HB.out hb)
  replace HR := Lib.hid (HR.out.below hb)
  have HX := Lib.hid (Lf5.below hHeld hb)
  clear hb
  refine hK.out _ _ ?S8x3 (fun hHeldN => ?_)
  case S8x3 => exact HX.out
  clear hK K hHeld HX
  have hHeld := hHeldN
  clear hHeldN
  (try simp only [Act.put, List.setIfInBounds_toArray, List.set_cons_zero, List.set_cons_succ])
  refine RegE.stepL (i := 5) rfl (by decide) (by kernel_rfl) (fun K hK => ?_)
  go_simp
  go_at_call 23
  refine (pairS_any 1 (opXN 5 (cN 1) (vN 0)) (vN 0) (some ⟨g7, 0, none⟩) none 2 0 u24).mono ?_; rintro e u25 ⟨rfl, hb⟩
  replace HVg7 := Lib.hid (HVg7.out.below hb)
  replace HB := Lib.hid (bnext HB.out hb)
  replace HR := Lib.hid (HR.out.below hb)
  have HX := Lib.hid (Lf5.below hHeld hb)
  clear hb
  refine hK.out _ _ ?S8x5 (fun hHeldN => ?_)
  case S8x5 => exact HX.out
  clear hK K hHeld HX
  have hHeld := hHeldN
  clear hHeldN
  (try simp only [Act.put, List.setIfInBounds_toArray, List.set_cons_zero, List.set_cons_succ])
  refine RegE.stepL (i := 6) rfl (by decide) (by kernel_rfl) (fun K hK => ?_)
  have HP : Hid (RuF ((1, (opXN 5 (cN 1) (vN 0), (some ⟨g7, 0, none⟩), 2), (vN 0, none, 0)) : RuQ) u25) := ⟨HVg7.out, ExV.leaf _ (vN 0) rfl⟩
  go_simp
  have hb : Below u25.heap.size u25 (u25.alloc (.cells (ruD ((1, (opXN 5 (cN 1) (vN 0), (some ⟨g7, 0, none⟩), 2), (vN 0, none, 0)) : RuQ)).toArray 31)) := by go_grown
  refine hK.out _ _ ?S8x6 (fun hHeldN => ?_)
  case S8x6 => exact Lf5.below hHeld hb
  clear hK K hHeld
  have hHeld := hHeldN
  clear hHeldN hb
  (try simp only [Act.put, List.setIfInBounds_toArray, List.set_cons_zero, List.set_cons_succ])
  refine RegE.stepL (i := 7) rfl (by decide) (by kernel_rfl) (fun K hK => ?_)
  obtain ⟨ps, hG, hps⟩ := HR.out
  have HG := Lib.hid hG
  clear hG HR
  obtain ⟨W1, hW1⟩ : ∃ W1, W1 = u25.alloc (.cells (ruD ((1, (opXN 5 (cN 1) (vN 0), (some ⟨g7, 0, none⟩), 2), (vN 0, none, 0)) : RuQ)).toArray 31) := ⟨_, rfl⟩
  have hb1 : Below u25.heap.size u25 W1 := by rw [hW1]; go_grown
  have hC1 : Cells W1 u25.heap.size 31 (ruD ((1, (opXN 5 (cN 1) (vN 0), (some ⟨g7, 0, none⟩), 2), (vN 0, none, 0)) : RuQ)) := by rw [hW1]; exact Cells.new _ _ _
  have HO := Lib.hid (HG.out.below hb1).own
  have hpl : ps.length = 5 := by have := congrArg List.length hps; simpa using this
  change if _ then Oper.wp _ _ _ (u25.alloc (.cells (ruD ((1, (opXN 5 (cN 1) (vN 0), (some ⟨g7, 0, none⟩), 2), (vN 0, none, 0)) : RuQ)).toArray 31)) _ _ else _
  rw [← hW1]
  refine step_append_at rfl (.tmp 57) (.tmp 63) 22 rfl q0 31 i0 _ 11 120 Try.underlying22 hi hz0 hz1 hz2 rfl (by decide) v7 _ _ (by simp [Act.eval]) HO.out ⟨u25.heap.size, 0, none⟩ 1 1 (ruD ((1, (opXN 5 (cN 1) (vN 0), (some ⟨g7, 0, none⟩), 2), (vN 0, none, 0)) : RuQ)) (by simp [Act.eval]) rfl ?n8 ?o8 ?p8 ?q8 ?t8 ?_
  case n8 => intro j z hj; rw [addr_add, Nat.zero_add]; exact (hC1.cell j).trans hj
  case o8 => intro z hz; simp only [ruD, List.mem_cons, List.not_mem_nil, or_false] at hz; rcases hz with rfl | rfl | rfl | rfl | rfl | rfl | rfl | rfl | rfl | rfl | rfl <;> rfl
  case p8 => simp only [List.length_map]; unfold maxLen; omega
  case q8 => simp only [List.length_map]; omega
  case t8 => have := (HG.out.below hb1).size; exact this
  intro v8 u26 hown hg hat
  obtain ⟨h1, h2, h3⟩ := RRow.push HG.out (Below.refl _ _) HP.out hb1 hown hg hat
  rw [hps] at h1
  have HR : Hid (RRow u26 q0 v8 [(1, opXN 3 (vN 0) (cN 0), vN 0), (1, opXN 3 (cN 0) (vN 0), vN 0), (1, opXN 4 (vN 0) (cN 0), vN 0), (1, opXN 4 (cN 0) (vN 0), ngN (vN 0)), (1, opXN 5 (vN 0) (cN 1), vN 0), (1, opXN 5 (cN 1) (vN 0), vN 0)]) := h1
  replace HB : Hid (Below w.heap.size w u26) := HB.out.trans (h2.mono HL.out)
  have HX := Lib.hid (Lf5.next (by rw [hW1]; exact hHeld) h3 : Lf5 u26 b)
  clear HVg7
  clear HG HO hpl hC1 hb1 h1 h2 h3 hown hg hat HP
  refine hK.out _ _ ?S8x7 (fun hHeldN => ?_)
  case S8x7 => exact HX.out
  clear hK K hHeld hHeldN hps hW1 W1
  (try simp only [Act.put, List.setIfInBounds_toArray, List.set_cons_zero, List.set_cons_succ])
  refine RegE.lastL rfl (by kernel_rfl) (by kernel_rfl) (fun K hK => ?_)
  go_simp
  refine hK.out _ _ ?_
  clear hK K hB
  (try simp only [Act.put, List.setIfInBounds_toArray, List.set_cons_zero, List.set_cons_succ])
  go_upto_region 9 with fail
  have HXD : Hid (Lf5 u26.drew b) := Lf5.below HX.out (Below.refl _ _).drew
  have HBD : Hid (Below w.heap.size w u26.drew) := HB.out.drew
  have HRD : Hid (RRow u26.drew q0 v8 _) := HR.out.below (Below.refl _ _).drew
  refine RegE.start (S := fun wx => Lf5 wx b) 8 (by kernel_rfl) (by kernel_rfl) HXD.out (fun hHeld hB => ?_)
  clear HXD HX HB HR
  have HB := HBD
  have HR := HRD
  clear HBD HRD
  generalize u26.drew = u27 at *
  refine RegE.takeL (S := fun wx => Lf5 wx b) (i := 0) (v := ?v9x0) hB rfl (by decide) (by kernel_rfl) (by kernel_rfl) (fun _ _ _ h => h) (Or.inl ⟨by rfl, ?y9x0⟩) hHeld ?r9x0
  case y9x0 => ((intro wx _; go_simp) <;> with_reducible rfl)
  (try simp only [Act.put, List.setIfInBounds_toArray, List.set_cons_zero, List.set_cons_succ])
  refine RegE.takeL (S := fun wx => Lf5 wx b) (i := 1) (v := ?v9x1) hB rfl (by decide) (by kernel_rfl) (by kernel_rfl) (fun _ _ _ h => h) (Or.inl ⟨by rfl, ?y9x1⟩) hHeld ?r9x1
  case y9x1 => ((intro wx hSw; obtain ⟨⟨x0, x1, x2, x3, x4⟩, ⟨y0, y1, y2, y3, y4⟩, ⟨z0, z1, z2, z3, z4⟩, ⟨n0, n1, n2, n3, n4⟩, ⟨m0, m1, m2, m3, m4⟩⟩ := And.intro (xD5_cells hSw.1) (And.intro (xD5_cells hSw.2.1) (And.intro (xD5_cells hSw.2.2.1) (And.intro (xD5_cells hSw.2.2.2.1) (xD5_cells hSw.2.2.2.2)))); go_simp) <;> with_reducible rfl)
  (try simp only [Act.put, List.setIfInBounds_toArray, List.set_cons_zero, List.set_cons_succ])
  refine RegE.takeL (S := fun wx => Lf5 wx b) (i := 2) (v := ?v9x2) hB rfl (by decide) (by kernel_rfl) (by kernel_rfl) (fun _ _ _ h => h) (Or.inl ⟨by rfl, ?y9x2⟩) hHeld ?r9x2
  case y9x2 => ((intro wx hSw; obtain ⟨⟨x0, x1, x2, x3, x4⟩, ⟨y0, y1, y2, y3, y4⟩, ⟨z0, z1, z2, z3, z4⟩, ⟨n0, n1, n2, n3, n4⟩, ⟨m0, m1, m2, m3, m4⟩⟩ := And.intro (xD5_cells hSw.1) (And.intro (xD5_cells hSw.2.1) (And.intro (xD5_cells hSw.2.2.1) (And.intro (xD5_cells hSw.2.2.2.1) (xD5_cells hSw.2.2.2.2)))); go_simp) <;> with_reducible rfl)
  (try simp only [Act.put, List.setIfInBounds_toArray, List.set_cons_zero, List.set_cons_succ])
  refine RegE.takeL (S := fun wx => Lf5 wx b) (i := 4) (v := ?v9x4) hB rfl (by decide) (by kernel_rfl) (by kernel_rfl) (fun _ _ _ h => h) (Or.inl ⟨by rfl, ?y9x4⟩) hHeld ?r9x4
  case y9x4 => ((intro wx hSw; obtain ⟨⟨x0, x1, x2, x3, x4⟩, ⟨y0, y1, y2, y3, y4⟩, ⟨z0, z1, z2, z3, z4⟩, ⟨n0, n1, n2, n3, n4⟩, ⟨m0, m1, m2, m3, m4⟩⟩ := And.intro (xD5_cells hSw.1) (And.intro (xD5_cells hSw.2.1) (And.intro (xD5_cells hSw.2.2.1) (And.intro (xD5_cells hSw.2.2.2.1) (xD5_cells hSw.2.2.2.2)))); go_simp) <;> with_reducible rfl)
  (try simp only [Act.put, List.setIfInBounds_toArray, List.set_cons_zero, List.set_cons_succ])
  refine RegE.stepL (i := 3) rfl (by decide) (by kernel_rfl) (fun K hK => ?_)
  go_simp
  go_at_call 24
  refine (opX_any 5 (vN 0) (cN 0) _ _ _ _ u27 (ExV.leaf _ (vN 0) rfl) (ExV.leaf _ (cN 0) rfl)).mono ?_; rintro e u28 ⟨g8, rfl, hV, hb⟩
  have HVg8 := Lib.hid hV
  clear hV
  replace HB := Lib.hid (bnext HB.out hb)
  replace HR := Lib.hid (HR.out.below hb)
  have HX := Lib.hid (Lf5.below hHeld hb)
  clear hb
  refine hK.out _ _ ?S9x3 (fun hHeldN => ?_)
  case S9x3 => exact HX.out
  clear hK K hHeld HX
  have hHeld := hHeldN
  clear hHeldN
  (try simp only [Act.put, List.setIfInBounds_toArray, List.set_cons_zero, List.set_cons_succ])
  refine RegE.stepL (i := 5) rfl (by decide) (by kernel_rfl) (fun K hK => ?_)
  go_simp
  go_at_call 23
  refine (pairS_any 1 (opXN 5 (vN 0) (cN 0)) (cN 0) (some ⟨g8, 0, none⟩) none 2 0 u28).mono ?_; rintro e u29 ⟨rfl, hb⟩
  replace HVg8 := Lib.hid (HVg8.out.below hb)
  replace HB := Lib.hid (bnext HB.out hb)
  replace HR := Lib.hid (HR.out.below hb)
  have HX := Lib.hid (Lf5.below hHeld hb)
  clear hb
  refine hK.out _ _ ?S9x5 (fun hHeldN => ?_)
  case S9x5 => exact HX.out
  clear hK K hHeld HX
  have hHeld := hHeldN
  clear hHeldN
  (try simp only [Act.put, List.setIfInBounds_toArray, List.set_cons_zero, List.set_cons_succ])
  refine RegE.stepL (i := 6) rfl (by decide) (by kernel_rfl) (fun K hK => ?_)
  have HP : Hid (RuF ((1, (opXN 5 (vN 0) (cN 0), (some ⟨g8, 0, none⟩), 2), (cN 0, none, 0)) : RuQ) u29) := ⟨HVg8.out, ExV.leaf _ (cN 0) rfl⟩
  go_simp
  have hb : Below u29.heap.size u29 (u29.alloc (.cells (ruD ((1, (opXN 5 (vN 0) (cN 0), (some ⟨g8, 0, none⟩), 2), (cN 0, none, 0)) : RuQ)).toArray 31)) := by go_grown
  refine hK.out _ _ ?S9x6 (fun hHeldN => ?_)
  case S9x6 => exact Lf5.below hHeld hb
  clear hK K hHeld
  have hHeld := hHeldN
  clear hHeldN hb
  (try simp only [Act.put, List.setIfInBounds_toArray, List.set_cons_zero, List.set_cons_succ])
  refine RegE.stepL (i := 7) rfl (by decide) (by kernel_rfl) (fun K hK => ?_)
  obtain ⟨ps, hG, hps⟩ := HR.out
  have HG := Lib.hid hG
  clear hG HR
  obtain ⟨W1, hW1⟩ : ∃ W1, W1 = u29.alloc (.cells (ruD ((1, (opXN 5 (vN 0) (cN 0), (some ⟨g8, 0, none⟩), 2), (cN 0, none, 0)) : RuQ)).toArray 31) := ⟨_, rfl⟩
  have hb1 : Below u29.heap.size u29 W1 := by rw [hW1]; go_grown
  have hC1 : Cells W1 u29.heap.size 31 (ruD ((1, (opXN 5 (vN 0) (cN 0), (some ⟨g8, 0, none⟩), 2), (cN 0, none, 0)) : RuQ)) := by rw [hW1]; exact Cells.new _ _ _
  have HO := Lib.hid (HG.out.below hb1).own
  have hpl : ps.length = 6 := by have := congrArg List.length hps; simpa using this
  change if _ then Oper.wp _ _ _ (u29.alloc (.cells (ruD ((1, (opXN 5 (vN 0) (cN 0), (some ⟨g8, 0, none⟩), 2), (cN 0, none, 0)) : RuQ)).toArray 31)) _ _ else _
  rw [← hW1]
  refine step_append_at rfl (.tmp 65) (.tmp 71) 22 rfl q0 31 i0 _ 11 120 Try.underlying22 hi hz0 hz1 hz2 rfl (by decide) v8 _ _ (by simp [Act.eval]) HO.out ⟨u29.heap.size, 0, none⟩ 1 1 (ruD ((1, (opXN 5 (vN 0) (cN 0), (some ⟨g8, 0, none⟩), 2), (cN 0, none, 0)) : RuQ)) (by simp [Act.eval]) rfl ?n9 ?o9 ?p9 ?q9 ?t9 ?_
  case n9 => intro j z hj; rw [addr_add, Nat.zero_add]; exact (hC1.cell j).trans hj
  case o9 => intro z hz; simp only [ruD, List.mem_cons, List.not_mem_nil, or_false] at hz; rcases hz with rfl | rfl | rfl | rfl | rfl | rfl | rfl | rfl | rfl | rfl | rfl <;> rfl
  case p9 => simp only [List.length_map]; unfold maxLen; omega
  case q9 => simp only [List.length_map]; omega
  case t9 => have := (HG.out.below hb1).size; exact this
  intro v9 u30 hown hg hat
  obtain ⟨h1, h2, h3⟩ := RRow.push HG.out (Below.refl _ _) HP.out hb1 hown hg hat
  rw [hps] at h1
  have HR : Hid (RRow u30 q0 v9 [(1, opXN 3 (vN 0) (cN 0), vN 0), (1, opXN 3 (cN 0) (vN 0), vN 0), (1, opXN 4 (vN 0) (cN 0), vN 0), (1, opXN 4 (cN 0) (vN 0), ngN (vN 0)), (1, opXN 5 (vN 0) (cN 1), vN 0), (1, opXN 5 (cN 1) (vN 0), vN 0), (1, opXN 5 (vN 0) (cN 0), cN 0)]) := h1
  replace HB : Hid (Below w.heap.size w u30) := HB.out.trans (h2.mono HL.out)
  have HX := Lib.hid (Lf5.next (by rw [hW1]; exact hHeld) h3 : Lf5 u30 b)
  clear HVg8
  clear HG HO hpl hC1 hb1 h1 h2 h3 hown hg hat HP
  refine hK.out _ _ ?S9x7 (fun hHeldN => ?_)
  case S9x7 => exact HX.out
  clear hK K hHeld hHeldN hps hW1 W1
  (try simp only [Act.put, List.setIfInBounds_toArray, List.set_cons_zero, List.set_cons_succ])
  refine RegE.lastL rfl (by kernel_rfl) (by kernel_rfl) (fun K hK => ?_)
  go_simp
  refine hK.out _ _ ?_
  clear hK K hB
  (try simp only [Act.put, List.setIfInBounds_toArray, List.set_cons_zero, List.set_cons_succ])
  go_upto_region 10 with fail
  have HXD : Hid (Lf5 u30.drew b) := Lf5.below HX.out (Below.refl _ _).drew
  have HBD : Hid (Below w.heap.size w u30.drew) := HB.out.drew
  have HRD : Hid (RRow u30.drew q0 v9 _) := HR.out.below (Below.refl _ _).drew
  refine RegE.start (S := fun wx => Lf5 wx b) 8 (by kernel_rfl) (by kernel_rfl) HXD.out (fun hHeld hB => ?_)
  clear HXD HX HB HR
  have HB := HBD
  have HR := HRD
  clear HBD HRD
  generalize u30.drew = u31 at *
  refine RegE.takeL (S := fun wx => Lf5 wx b) (i := 0) (v := ?v10x0) hB rfl (by decide) (by kernel_rfl) (by kernel_rfl) (fun _ _ _ h => h) (Or.inl ⟨by rfl, ?y10x0⟩) hHeld ?r10x0
  case y10x0 => ((intro wx _; go_simp) <;> with_reducible rfl)
  (try simp only [Act.put, List.setIfInBounds_toArray, List.set_cons_zero, List.set_cons_succ])
  refine RegE.takeL (S := fun wx => Lf5 wx b) (i := 1) (v := ?v10x1) hB rfl (by decide) (by kernel_rfl) (by kernel_rfl) (fun _ _ _ h => h) (Or.inl ⟨by rfl, ?y10x1⟩) hHeld ?r10x1
  case y10x1 => ((intro wx hSw; obtain ⟨⟨x0, x1, x2, x3, x4⟩, ⟨y0, y1, y2, y3, y4⟩, ⟨z0, z1, z2, z3, z4⟩, ⟨n0, n1, n2, n3, n4⟩, ⟨m0, m1, m2, m3, m4⟩⟩ := And.intro (xD5_cells hSw.1) (And.intro (xD5_cells hSw.2.1) (And.intro (xD5_cells hSw.2.2.1) (And.intro (xD5_cells hSw.2.2.2.1) (xD5_cells hSw.2.2.2.2)))); go_simp) <;> with_reducible rfl)
  (try simp only [Act.put, List.setIfInBounds_toArray, List.set_cons_zero, List.set_cons_succ])
  refine RegE.takeL (S := fun wx => Lf5 wx b) (i := 2) (v := ?v10x2) hB rfl (by decide) (by kernel_rfl) (by kernel_rfl) (fun _ _ _ h => h) (Or.inl ⟨by rfl, ?y10x2⟩) hHeld ?r10x2
  case y10x2 => ((intro wx hSw; obtain ⟨⟨x0, x1, x2, x3, x4⟩, ⟨y0, y1, y2, y3, y4⟩, ⟨z0, z1, z2, z3, z4⟩, ⟨n0, n1, n2, n3, n4⟩, ⟨m0, m1, m2, m3, m4⟩⟩ := And.intro (xD5_cells hSw.1) (And.intro (xD5_cells hSw.2.1) (And.intro (xD5_cells hSw.2.2.1) (And.intro (xD5_cells hSw.2.2.2.1) (xD5_cells hSw.2.2.2.2)))); go_simp) <;> with_reducible rfl)
  (try simp only [Act.put, List.setIfInBounds_toArray, List.set_cons_zero, List.set_cons_succ])
  refine RegE.takeL (S := fun wx => Lf5 wx b) (i := 4) (v := ?v10x4) hB rfl (by decide) (by kernel_rfl) (by kernel_rfl) (fun _ _ _ h => h) (Or.inl ⟨by rfl, ?y10x4⟩) hHeld ?r10x4
  case y10x4 => ((intro wx hSw; obtain ⟨⟨x0, x1, x2, x3, x4⟩, ⟨y0, y1, y2, y3, y4⟩, ⟨z0, z1, z2, z3, z4⟩, ⟨n0, n1, n2, n3, n4⟩, ⟨m0, m1, m2, m3, m4⟩⟩ := And.intro (xD5_cells hSw.1) (And.intro (xD5_cells hSw.2.1) (And.intro (xD5_cells hSw.2.2.1) (And.intro (xD5_cells hSw.2.2.2.1) (xD5_cells hSw.2.2.2.2)))); go_simp) <;> with_reducible rfl)
  (try simp only [Act.put, List.setIfInBounds_toArray, List.set_cons_zero, List.set_cons_succ])
  refine RegE.stepL (i := 3) rfl (by decide) (by kernel_rfl) (fun K hK => ?_)
  go_simp
  go_at_call 24
  refine (opX_any 5 (cN 0) (vN 0) _ _ _ _ u31 (ExV.leaf _ (cN 0) rfl) (ExV.leaf _ (vN 0) rfl)).mono ?_; rintro e u32 ⟨g9, rfl, hV, hb⟩
  have HVg9 := Lib.hid hV
  clear hV
  replace HB := Lib.hid (bnext HB.out hb)
  replace HR := Lib.hid (HR.out.below hb)
  have HX := Lib.hid (Lf5.below hHeld hb)
  clear hb
  refine hK.out _ _ ?S10x3 (fun hHeldN => ?_)
  case S10x3 => exact HX.out
  clear hK K hHeld HX
  have hHeld := hHeldN
  clear hHeldN
  (try simp only [Act.put, List.setIfInBounds_toArray, List.set_cons_zero, List.set_cons_succ])
  refine RegE.stepL (i := 5) rfl (by decide) (by kernel_rfl) (fun K hK => ?_)
  go_simp
  go_at_call 23
  refine (pairS_any 1 (opXN 5 (cN 0) (vN 0)) (cN 0) (some ⟨g9, 0, none⟩) none 2 0 u32).mono ?_; rintro e u33 ⟨rfl, hb⟩
  replace HVg9 := Lib.hid (HVg9.out.below hb)
  replace HB := Lib.hid (bnext HB.out hb)
  replace HR := Lib.hid (HR.out.below hb)
  have HX := Lib.hid (Lf5.below hHeld hb)
  clear hb
  refine hK.out _ _ ?S10x5 (fun hHeldN => ?_)
  case S10x5 => exact HX.out
  clear hK K hHeld HX
  have hHeld := hHeldN
  clear hHeldN
  (try simp only [Act.put, List.setIfInBounds_toArray, List.set_cons_zero, List.set_cons_succ])
  refine RegE.stepL (i := 6) rfl (by decide) (by kernel_rfl) (fun K hK => ?_)
  have HP : Hid (RuF ((1, (opXN 5 (cN 0) (vN 0), (some ⟨g9, 0, none⟩), 2), (cN 0, none, 0)) : RuQ) u33) := ⟨HVg9.out, ExV.leaf _ (cN 0) rfl⟩
  go_simp
  have hb : Below u33.heap.size u33 (u33.alloc (.cells (ruD ((1, (opXN 5 (cN 0) (vN 0), (some ⟨g9, 0, none⟩), 2), (cN 0, none, 0)) : RuQ)).toArray 31)) := by go_grown
  refine hK.out _ _ ?S10x6 (fun hHeldN => ?_)
  case S10x6 => exact Lf5.below hHeld hb
  clear hK K hHeld
  have hHeld := hHeldN
  clear hHeldN hb
  (try simp only [Act.put, List.setIfInBounds_toArray, List.set_cons_zero, List.set_cons_succ])
  refine RegE.stepL (i := 7) rfl (by decide) (by kernel_rfl) (fun K hK => ?_)
  obtain ⟨ps, hG, hps⟩ := HR.out
  have HG := Lib.hid hG
  clear hG HR
  obtain ⟨W1, hW1⟩ : ∃ W1, W1 = u33.alloc (.cells (ruD ((1, (opXN 5 (cN 0) (vN 0), (some ⟨g9, 0, none⟩), 2), (cN 0, none, 0)) : RuQ)).toArray 31) := ⟨_, rfl⟩
  have hb1 : Below u33.heap.size u33 W1 := by rw [hW1]; go_grown
  have hC1 : Cells W1 u33.heap.size 31 (ruD ((1, (opXN 5 (cN 0) (vN 0), (some ⟨g9, 0, none⟩), 2), (cN 0, none, 0)) : RuQ)) := by rw [hW1]; exact Cells.new _ _ _
  have HO := Lib.hid (HG.out.below hb1).own
  have hpl : ps.length = 7 := by have := congrArg List.length hps; simpa using this
  change if _ then Oper.wp _ _ _ (u33.alloc (.cells (ruD ((1, (opXN 5 (cN 0) (vN 0), (some ⟨g9, 0, none⟩), 2), (cN 0, none, 0)) : RuQ)).toArray 31)) _ _ else _
  rw [← hW1]
  refine step_append_at rfl (.tmp 73) (.tmp 79) 22 rfl q0 31 i0 _ 11 120 Try.underlying22 hi hz0 hz1 hz2 rfl (by decide) v9 _ _ (by simp [Act.eval]) HO.out ⟨u33.heap.size, 0, none⟩ 1 1 (ruD ((1, (opXN 5 (cN 0) (vN 0), (some ⟨g9, 0, none⟩), 2), (cN 0, none, 0)) : RuQ)) (by simp [Act.eval]) rfl ?n10 ?o10 ?p10 ?q10 ?t10 ?_
  case n10 => intro j z hj; rw [addr_add, Nat.zero_add]; exact (hC1.cell j).trans hj
  case o10 => intro z hz; simp only [ruD, List.mem_cons, List.not_mem_nil, or_false] at hz; rcases hz with rfl | rfl | rfl | rfl | rfl | rfl | rfl | rfl | rfl | rfl | rfl <;> rfl
  case p10 => simp only [List.length_map]; unfold maxLen; omega
  case q10 => simp only [List.length_map]; omega
  case t10 => have := (HG.out.below hb1).size; exact this
  intro v10 u34 hown hg hat
  obtain ⟨h1, h2, h3⟩ := RRow.push HG.out (Below.refl _ _) HP.out hb1 hown hg hat
  rw [hps] at h1
  have HR : Hid (RRow u34 q0 v10 [(1, opXN 3 (vN 0) (cN 0), vN 0), (1, opXN 3 (cN 0) (vN 0), vN 0), (1, opXN 4 (vN 0) (cN 0), vN 0), (1, opXN 4 (cN 0) (vN 0), ngN (vN 0)), (1, opXN 5 (vN 0) (cN 1), vN 0), (1, opXN 5 (cN 1) (vN 0), vN 0), (1, opXN 5 (vN 0) (cN 0), cN 0), (1, opXN 5 (cN 0) (vN 0), cN 0)]) := h1
  replace HB : Hid (Below w.heap.size w u34) := HB.out.trans (h2.mono HL.out)
  have HX := Lib.hid (Lf5.next (by rw [hW1]; exact hHeld) h3 : Lf5 u34 b)
  clear HVg9
  clear HG HO hpl hC1 hb1 h1 h2 h3 hown hg hat HP
  refine hK.out _ _ ?S10x7 (fun hHeldN => ?_)
  case S10x7 => exact HX.out
  clear hK K hHeld hHeldN hps hW1 W1
  (try simp only [Act.put, List.setIfInBounds_toArray, List.set_cons_zero, List.set_cons_succ])
  refine RegE.lastL rfl (by kernel_rfl) (by kernel_rfl) (fun K hK => ?_)
  go_simp
  refine hK.out _ _ ?_
  clear hK K hB
  (try simp only [Act.put, List.setIfInBounds_toArray, List.set_cons_zero, List.set_cons_succ])
  go_upto_region 11 with fail
  have HXD : Hid (Lf5 u34.drew b) := Lf5.below HX.out (Below.refl _ _).drew
  have HBD : Hid (Below w.heap.size w u34.drew) := HB.out.drew
  have HRD : Hid (RRow u34.drew q0 v10 _) := HR.out.below (Below.refl _ _).drew
  refine RegE.start (S := fun wx => Lf5 wx b) 8 (by kernel_rfl) (by kernel_rfl) HXD.out (fun hHeld hB => ?_)
  clear HXD HX HB HR
  have HB := HBD
  have HR := HRD
  clear HBD HRD
  generalize u34.drew = u35 at *
  refine RegE.takeL (S := fun wx => Lf5 wx b) (i := 0) (v := ?v11x0) hB rfl (by decide) (by kernel_rfl) (by kernel_rfl) (fun _ _ _ h => h) (Or.inl ⟨by rfl, ?y11x0⟩) hHeld ?r11x0
  case y11x0 => ((intro wx _; go_simp) <;> with_reducible rfl)
  (try simp only [Act.put, List.setIfInBounds_toArray, List.set_cons_zero, List.set_cons_succ])
  refine RegE.takeL (S := fun wx => Lf5 wx b) (i := 1) (v := ?v11x1) hB rfl (by decide) (by kernel_rfl) (by kernel_rfl) (fun _ _ _ h => h) (Or.inl ⟨by rfl, ?y11x1⟩) hHeld ?r11x1
  case y11x1 => ((intro wx hSw; obtain ⟨⟨x0, x1, x2, x3, x4⟩, ⟨y0, y1, y2, y3, y4⟩, ⟨z0, z1, z2, z3, z4⟩, ⟨n0, n1, n2, n3, n4⟩, ⟨m0, m1, m2, m3, m4⟩⟩ := And.intro (xD5_cells hSw.1) (And.intro (xD5_cells hSw.2.1) (And.intro (xD5_cells hSw.2.2.1) (And.intro (xD5_cells hSw.2.2.2.1) (xD5_cells hSw.2.2.2.2)))); go_simp) <;> with_reducible rfl)
  (try simp only [Act.put, List.setIfInBounds_toArray, List.set_cons_zero, List.set_cons_succ])
  refine RegE.takeL (S := fun wx => Lf5 wx b) (i := 4) (v := ?v11x4) hB rfl (by decide) (by kernel_rfl) (by kernel_rfl) (fun _ _ _ h => h) (Or.inl ⟨by rfl, ?y11x4⟩) hHeld ?r11x4
  case y11x4 => ((intro wx hSw; obtain ⟨⟨x0, x1, x2, x3, x4⟩, ⟨y0, y1, y2, y3, y4⟩, ⟨z0, z1, z2, z3, z4⟩, ⟨n0, n1, n2, n3, n4⟩, ⟨m0, m1, m2, m3, m4⟩⟩ := And.intro (xD5_cells hSw.1) (And.intro (xD5_cells hSw.2.1) (And.intro (xD5_cells hSw.2.2.1) (And.intro (xD5_cells hSw.2.2.2.1) (xD5_cells hSw.2.2.2.2)))); go_simp) <;> with_reducible rfl)
  (try simp only [Act.put, List.setIfInBounds_toArray, List.set_cons_zero, List.set_cons_succ])
  refine RegE.stepL (i := 2) rfl (by decide) (by kernel_rfl) (fun K hK => ?_)
  go_simp
  go_at_call 25
  refine (negX_any (vN 0) _ _ u35 (ExV.leaf _ (vN 0) rfl)).mono ?_; rintro e u36 ⟨g10, rfl, hV, hb⟩
  have HVg10 := Lib.hid hV
  clear hV
  replace HB := Lib.hid (bnext HB.out hb)
  replace HR := Lib.hid (HR.out.below hb)
  have HX := Lib.hid (Lf5.below hHeld hb)
  clear hb
  refine hK.out _ _ ?S11x2 (fun hHeldN => ?_)
  case S11x2 => exact HX.out
  clear hK K hHeld HX
  have hHeld := hHeldN
  clear hHeldN
  (try simp only [Act.put, List.setIfInBounds_toArray, List.set_cons_zero, List.set_cons_succ])
  refine RegE.stepL (i := 3) rfl (by decide) (by kernel_rfl) (fun K hK => ?_)
  go_simp
  go_at_call 25
  refine (negX_any (ngN (vN 0)) _ _ u36 (HVg10.out)).mono ?_; rintro e u37 ⟨g11, rfl, hV, hb⟩
  replace HVg10 := Lib.hid (HVg10.out.below hb)
  have HVg11 := Lib.hid hV
  clear hV
  replace HB := Lib.hid (bnext HB.out hb)
  replace HR := Lib.hid (HR.out.below hb)
  have HX := Lib.hid (Lf5.below hHeld hb)
  clear hb
  refine hK.out _ _ ?S11x3 (fun hHeldN => ?_)
  case S11x3 => exact HX.out
  clear hK K hHeld HX
  have hHeld := hHeldN
  clear hHeldN
  (try simp only [Act.put, List.setIfInBounds_toArray, List.set_cons_zero, List.set_cons_succ])
  refine RegE.stepL (i := 5) rfl (by decide) (by kernel_rfl) (fun K hK => ?_)
  go_simp
  go_at_call 23
  refine (pairS_any 1 (ngN (ngN (vN 0))) (vN 0) (some ⟨g11, 0, none⟩) none 1 0 u37).mono ?_; rintro e u38 ⟨rfl, hb⟩
  replace HVg10 := Lib.hid (HVg10.out.below hb)
  replace HVg11 := Lib.hid (HVg11.out.below hb)
  replace HB := Lib.hid (bnext HB.out hb)
  replace HR := Lib.hid (HR.out.below hb)
  have HX := Lib.hid (Lf5.below hHeld hb)
  clear hb
  refine hK.out _ _ ?S11x5 (fun hHeldN => ?_)
  case S11x5 => exact HX.out
  clear hK K hHeld HX
  have hHeld := hHeldN
  clear hHeldN
  (try simp only [Act.put, List.setIfInBounds_toArray, List.set_cons_zero, List.set_cons_succ])
  refine RegE.stepL (i := 6) rfl (by decide) (by kernel_rfl) (fun K hK => ?_)
  have HP : Hid (RuF ((1, (ngN (ngN (vN 0)), (some ⟨g11, 0, none⟩), 1), (vN 0, none, 0)) : RuQ) u38) := ⟨HVg11.out, ExV.leaf _ (vN 0) rfl⟩
  go_simp
  have hb : Below u38.heap.size u38 (u38.alloc (.cells (ruD ((1, (ngN (ngN (vN 0)), (some ⟨g11, 0, none⟩), 1), (vN 0, none, 0)) : RuQ)).toArray 31)) := by go_grown
  refine hK.out _ _ ?S11x6 (fun hHeldN => ?_)
  case S11x6 => exact Lf5.below hHeld hb
  clear hK K hHeld
  have hHeld := hHeldN
  clear hHeldN hb
  (try simp only [Act.put, List.setIfInBounds_toArray, List.set_cons_zero, List.set_cons_succ])
  refine RegE.stepL (i := 7) rfl (by decide) (by kernel_rfl) (fun K hK => ?_)
  obtain ⟨ps, hG, hps⟩ := HR.out
  have HG := Lib.hid hG
  clear hG HR
  obtain ⟨W1, hW1⟩ : ∃ W1, W1 = u38.alloc (.cells (ruD ((1, (ngN (ngN (vN 0)), (some ⟨g11, 0, none⟩), 1), (vN 0, none, 0)) : RuQ)).toArray 31) := ⟨_, rfl⟩
  have hb1 : Below u38.heap.size u38 W1 := by rw [hW1]; go_grown
  have hC1 : Cells W1 u38.heap.size 31 (ruD ((1, (ngN (ngN (vN 0)), (some ⟨g11, 0, none⟩), 1), (vN 0, none, 0)) : RuQ)) := by rw [hW1]; exact Cells.new _ _ _
  have HO := Lib.hid (HG.out.below hb1).own
  have hpl : ps.length = 8 := by have := congrArg List.length hps; simpa using this
  change if _ then Oper.wp _ _ _ (u38.alloc (.cells (ruD ((1, (ngN (ngN (vN 0)), (some ⟨g11, 0, none⟩), 1), (vN 0, none, 0)) : RuQ)).toArray 31)) _ _ else _
  rw [← hW1]
  refine step_append_at rfl (.tmp 81) (.tmp 87) 22 rfl q0 31 i0 _ 11 120 Try.underlying22 hi hz0 hz1 hz2 rfl (by decide) v10 _ _ (by simp [Act.eval]) HO.out ⟨u38.heap.size, 0, none⟩ 1 1 (ruD ((1, (ngN (ngN (vN 0)), (some ⟨g11, 0, none⟩), 1), (vN 0, none, 0)) : RuQ)) (by simp [Act.eval]) rfl ?n11 ?o11 ?p11 ?q11 ?t11 ?_
  case n11 => intro j z hj; rw [addr_add, Nat.zero_add]; exact (hC1.cell j).trans hj
  case o11 => intro z hz; simp only [ruD, List.mem_cons, List.not_mem_nil, or_false] at hz; rcases hz with rfl | rfl | rfl | rfl | rfl | rfl | rfl | rfl | rfl | rfl | rfl <;> rfl
  case p11 => simp only [List.length_map]; unfold maxLen; omega
  case q11 => simp only [List.length_map]; omega
  case t11 => have := (HG.out.below hb1).size; exact this
  intro v11 u39 hown hg hat
  obtain ⟨h1, h2, h3⟩ := RRow.push HG.out (Below.refl _ _) HP.out hb1 hown hg hat
  rw [hps] at h1
  have HR : Hid (RRow u39 q0 v11 [(1, opXN 3 (vN 0) (cN 0), vN 0), (1, opXN 3 (cN 0) (vN 0), vN 0), (1, opXN 4 (vN 0) (cN 0), vN 0), (1, opXN 4 (cN 0) (vN 0), ngN (vN 0)), (1, opXN 5 (vN 0) (cN 1), vN 0), (1, opXN 5 (cN 1) (vN 0), vN 0), (1, opXN 5 (vN 0) (cN 0), cN 0), (1, opXN 5 (cN 0) (vN 0), cN 0), (1, ngN (ngN (vN 0)), vN 0)]) := h1
  replace HB : Hid (Below w.heap.size w u39) := HB.out.trans (h2.mono HL.out)
  have HX := Lib.hid (Lf5.next (by rw [hW1]; exact hHeld) h3 : Lf5 u39 b)
  clear HVg10
  clear HVg11
  clear HG HO hpl hC1 hb1 h1 h2 h3 hown hg hat HP
  refine hK.out _ _ ?S11x7 (fun hHeldN => ?_)
  case S11x7 => exact HX.out
  clear hK K hHeld hHeldN hps hW1 W1
  (try simp only [Act.put, List.setIfInBounds_toArray, List.set_cons_zero, List.set_cons_succ])
  refine RegE.lastL rfl (by kernel_rfl) (by kernel_rfl) (fun K hK => ?_)
  go_simp
  refine hK.out _ _ ?_
  clear hK K hB
  (try simp only [Act.put, List.setIfInBounds_toArray, List.set_cons_zero, List.set_cons_succ])
  go_upto_region 12 with fail
  have HXD : Hid (Lf5 u39.drew b) := Lf5.below HX.out (Below.refl _ _).drew
  have HBD : Hid (Below w.heap.size w u39.drew) := HB.out.drew
  have HRD : Hid (RRow u39.drew q0 v11 _) := HR.out.below (Below.refl _ _).drew
  refine RegE.start (S := fun wx => Lf5 wx b) 11 (by kernel_rfl) (by kernel_rfl) HXD.out (fun hHeld hB => ?_)
  clear HXD HX HB HR
  have HB := HBD
  have HR := HRD
  clear HBD HRD
  generalize u39.drew = u40 at *
  refine RegE.takeL (S := fun wx => Lf5 wx b) (i := 0) (v := ?v12x0) hB rfl (by decide) (by kernel_rfl) (by kernel_rfl) (fun _ _ _ h => h) (Or.inl ⟨by rfl, ?y12x0⟩) hHeld ?r12x0
  case y12x0 => ((intro wx _; go_simp) <;> with_reducible rfl)
  (try simp only [Act.put, List.setIfInBounds_toArray, List.set_cons_zero, List.set_cons_succ])
  refine RegE.takeL (S := fun wx => Lf5 wx b) (i := 1) (v := ?v12x1) hB rfl (by decide) (by kernel_rfl) (by kernel_rfl) (fun _ _ _ h => h) (Or.inl ⟨by rfl, ?y12x1⟩) hHeld ?r12x1
  case y12x1 => ((intro wx hSw; obtain ⟨⟨x0, x1, x2, x3, x4⟩, ⟨y0, y1, y2, y3, y4⟩, ⟨z0, z1, z2, z3, z4⟩, ⟨n0, n1, n2, n3, n4⟩, ⟨m0, m1, m2, m3, m4⟩⟩ := And.intro (xD5_cells hSw.1) (And.intro (xD5_cells hSw.2.1) (And.intro (xD5_cells hSw.2.2.1) (And.intro (xD5_cells hSw.2.2.2.1) (xD5_cells hSw.2.2.2.2)))); go_simp) <;> with_reducible rfl)
  (try simp only [Act.put, List.setIfInBounds_toArray, List.set_cons_zero, List.set_cons_succ])
  refine RegE.takeL (S := fun wx => Lf5 wx b) (i := 2) (v := ?v12x2) hB rfl (by decide) (by kernel_rfl) (by kernel_rfl) (fun _ _ _ h => h) (Or.inl ⟨by rfl, ?y12x2⟩) hHeld ?r12x2
  case y12x2 => ((intro wx hSw; obtain ⟨⟨x0, x1, x2, x3, x4⟩, ⟨y0, y1, y2, y3, y4⟩, ⟨z0, z1, z2, z3, z4⟩, ⟨n0, n1, n2, n3, n4⟩, ⟨m0, m1, m2, m3, m4⟩⟩ := And.intro (xD5_cells hSw.1) (And.intro (xD5_cells hSw.2.1) (And.intro (xD5_cells hSw.2.2.1) (And.intro (xD5_cells hSw.2.2.2.1) (xD5_cells hSw.2.2.2.2)))); go_simp) <;> with_reducible rfl)
  (try simp only [Act.put, List.setIfInBounds_toArray, List.set_cons_zero, List.set_cons_succ])
  refine RegE.takeL (S := fun wx => Lf5 wx b) (i := 5) (v := ?v12x5) hB rfl (by decide) (by kernel_rfl) (by kernel_rfl) (fun _ _ _ h => h) (Or.inl ⟨by rfl, ?y12x5⟩) hHeld ?r12x5
  case y12x5 => ((intro wx hSw; obtain ⟨⟨x0, x1, x2, x3, x4⟩, ⟨y0, y1, y2, y3, y4⟩, ⟨z0, z1, z2, z3, z4⟩, ⟨n0, n1, n2, n3, n4⟩, ⟨m0, m1, m2, m3, m4⟩⟩ := And.intro (xD5_cells hSw.1) (And.intro (xD5_cells hSw.2.1) (And.intro (xD5_cells hSw.2.2.1) (And.intro (xD5_cells hSw.2.2.2.1) (xD5_cells hSw.2.2.2.2)))); go_simp) <;> with_reducible rfl)
  (try simp only [Act.put, List.setIfInBounds_toArray, List.set_cons_zero, List.set_cons_succ])
  refine RegE.takeL (S := fun wx => Lf5 wx b) (i := 6) (v := ?v12x6) hB rfl (by decide) (by kernel_rfl) (by kernel_rfl) (fun _ _ _ h => h) (Or.inl ⟨by rfl, ?y12x6⟩) hHeld ?r12x6
  case y12x6 => ((intro wx hSw; obtain ⟨⟨x0, x1, x2, x3, x4⟩, ⟨y0, y1, y2, y3, y4⟩, ⟨z0, z1, z2, z3, z4⟩, ⟨n0, n1, n2, n3, n4⟩, ⟨m0, m1, m2, m3, m4⟩⟩ := And.intro (xD5_cells hSw.1) (And.intro (xD5_cells hSw.2.1) (And.intro (xD5_cells hSw.2.2.1) (And.intro (xD5_cells hSw.2.2.2.1) (xD5_cells hSw.2.2.2.2)))); go_simp) <;> with_reducible rfl)
  (try simp only [Act.put, List.setIfInBounds_toArray, List.set_cons_zero, List.set_cons_succ])
  refine RegE.stepL (i := 3) rfl (by decide) (by kernel_rfl) (fun K hK => ?_)
  go_simp
  go_at_call 25
  refine (negX_any (vN 1) _ _ u40 (ExV.leaf _ (vN 1) rfl)).mono ?_; rintro e u41 ⟨g12, rfl, hV, hb⟩
  have HVg12 := Lib.hid hV
  clear hV
  replace HB := Lib.hid (bnext HB.out hb)
  replace HR := Lib.hid (HR.out.below hb)
  have HX := Lib.hid (Lf5.below hHeld hb)
  clear hb
  refine hK.out _ _ ?S12x3 (fun hHeldN => ?_)
  case S12x3 => exact HX.out
  clear hK K hHeld HX
  have hHeld := hHeldN
  clear hHeldN
  (try simp only [Act.put, List.setIfInBounds_toArray, List.set_cons_zero, List.set_cons_succ])
  refine RegE.stepL (i := 4) rfl (by decide) (by kernel_rfl) (fun K hK => ?_)
  go_simp
  go_at_call 24
  refine (opX_any 3 (vN 0) (ngN (vN 1)) _ _ _ _ u41 (ExV.leaf _ (vN 0) rfl) (HVg12.out)).mono ?_; rintro e u42 ⟨g13, rfl, hV, hb⟩
  replace HVg12 := Lib.hid (HVg12.out.below hb)
  have HVg13 := Lib.hid hV
  clear hV
  replace HB := Lib.hid (bnext HB.out hb)
  replace HR := Lib.hid (HR.out.below hb)
  have HX := Lib.hid (Lf5.below hHeld hb)
  clear hb
  refine hK.out _ _ ?S12x4 (fun hHeldN => ?_)
  case S12x4 => exact HX.out
  clear hK K hHeld HX
  have hHeld := hHeldN
  clear hHeldN
  (try simp only [Act.put, List.setIfInBounds_toArray, List.set_cons_zero, List.set_cons_succ])
  refine RegE.stepL (i := 7) rfl (by decide) (by kernel_rfl) (fun K hK => ?_)
  go_simp
  go_at_call 24
  refine (opX_any 4 (vN 0) (vN 1) _ _ _ _ u42 (ExV.leaf _ (vN 0) rfl) (ExV.leaf _ (vN 1) rfl)).mono ?_; rintro e u43 ⟨g14, rfl, hV, hb⟩
  replace HVg12 := Lib.hid (HVg12.out.below hb)
  replace HVg13 := Lib.hid (HVg13.out.below hb)
  have HVg14 := Lib.hid hV
  clear hV
  replace HB := Lib.hid (bnext HB.out hb)
  replace HR := Lib.hid (HR.out.below hb)
  have HX := Lib.hid (Lf5.below hHeld hb)
  clear hb
  refine hK.out _ _ ?S12x7 (fun hHeldN => ?_)
  case S12x7 => exact HX.out
  clear hK K hHeld HX
  have hHeld := hHeldN
  clear hHeldN
  (try simp only [Act.put, List.setIfInBounds_toArray, List.set_cons_zero, List.set_cons_succ])
  refine RegE.stepL (i := 8) rfl (by decide) (by kernel_rfl) (fun K hK => ?_)
  go_simp
  go_at_call 23
  refine (pairS_any 2 (opXN 3 (vN 0) (ngN (vN 1))) (opXN 4 (vN 0) (vN 1)) (some ⟨g13, 0, none⟩) (some ⟨g14, 0, none⟩) 2 2 u43).mono ?_; rintro e u44 ⟨rfl, hb⟩
  replace HVg12 := Lib.hid (HVg12.out.below hb)
  replace HVg13 := Lib.hid (HVg13.out.below hb)
  replace HVg14 := Lib.hid (HVg14.out.below hb)
  replace HB := Lib.hid (bnext HB.out hb)
  replace HR := Lib.hid (HR.out.below hb)
  have HX := Lib.hid (Lf5.below hHeld hb)
  clear hb
  refine hK.out _ _ ?S12x8 (fun hHeldN => ?_)
  case S12x8 => exact HX.out
  clear hK K hHeld HX
  have hHeld := hHeldN
  clear hHeldN
  (try simp only [Act.put, List.setIfInBounds_toArray, List.set_cons_zero, List.set_cons_succ])
  refine RegE.stepL (i := 9) rfl (by decide) (by kernel_rfl) (fun K hK => ?_)
  have HP : Hid (RuF ((2, (opXN 3 (vN 0) (ngN (vN 1)), (some ⟨g13, 0, none⟩), 2), (opXN 4 (vN 0) (vN 1), (some ⟨g14, 0, none⟩), 2)) : RuQ) u44) := ⟨HVg13.out, HVg14.out⟩
  go_simp
  have hb : Below u44.heap.size u44 (u44.alloc (.cells (ruD ((2, (opXN 3 (vN 0) (ngN (vN 1)), (some ⟨g13, 0, none⟩), 2), (opXN 4 (vN 0) (vN 1), (some ⟨g14, 0, none⟩), 2)) : RuQ)).toArray 31)) := by go_grown
  refine hK.out _ _ ?S12x9 (fun hHeldN => ?_)
  case S12x9 => exact Lf5.below hHeld hb
  clear hK K hHeld
  have hHeld := hHeldN
  clear hHeldN hb
  (try simp only [Act.put, List.setIfInBounds_toArray, List.set_cons_zero, List.set_cons_succ])
  refine RegE.stepL (i := 10) rfl (by decide) (by kernel_rfl) (fun K hK => ?_)
  obtain ⟨ps, hG, hps⟩ := HR.out
  have HG := Lib.hid hG
  clear hG HR
  obtain ⟨W1, hW1⟩ : ∃ W1, W1 = u44.alloc (.cells (ruD ((2, (opXN 3 (vN 0) (ngN (vN 1)), (some ⟨g13, 0, none⟩), 2), (opXN 4 (vN 0) (vN 1), (some ⟨g14, 0, none⟩), 2)) : RuQ)).toArray 31) := ⟨_, rfl⟩
  have hb1 : Below u44.heap.size u44 W1 := by rw [hW1]; go_grown
  have hC1 : Cells W1 u44.heap.size 31 (ruD ((2, (opXN 3 (vN 0) (ngN (vN 1)), (some ⟨g13, 0, none⟩), 2), (opXN 4 (vN 0) (vN 1), (some ⟨g14, 0, none⟩), 2)) : RuQ)) := by rw [hW1]; exact Cells.new _ _ _
  have HO := Lib.hid (HG.out.below hb1).own
  have hpl : ps.length = 9 := by have := congrArg List.length hps; simpa using this
  change if _ then Oper.wp _ _ _ (u44.alloc (.cells (ruD ((2, (opXN 3 (vN 0) (ngN (vN 1)), (some ⟨g13, 0, none⟩), 2), (opXN 4 (vN 0) (vN 1), (some ⟨g14, 0, none⟩), 2)) : RuQ)).toArray 31)) _ _ else _
  rw [← hW1]
  refine step_append_at rfl (.tmp 89) (.tmp 98) 22 rfl q0 31 i0 _ 11 120 Try.underlying22 hi hz0 hz1 hz2 rfl (by decide) v11 _ _ (by simp [Act.eval]) HO.out ⟨u44.heap.size, 0, none⟩ 1 1 (ruD ((2, (opXN 3 (vN 0) (ngN (vN 1)), (some ⟨g13, 0, none⟩), 2), (opXN 4 (vN 0) (vN 1), (some ⟨g14, 0, none⟩), 2)) : RuQ)) (by simp [Act.eval]) rfl ?n12 ?o12 ?p12 ?q12 ?t12 ?_
  case n12 => intro j z hj; rw [addr_add, Nat.zero_add]; exact (hC1.cell j).trans hj
  case o12 => intro z hz; simp only [ruD, List.mem_cons, List.not_mem_nil, or_false] at hz; rcases hz with rfl | rfl | rfl | rfl | rfl | rfl | rfl | rfl | rfl | rfl | rfl <;> rfl
  case p12 => simp only [List.length_map]; unfold maxLen; omega
  case q12 => simp only [List.length_map]; omega
  case t12 => have := (HG.out.below hb1).size; exact this
  intro v12 u45 hown hg hat
  obtain ⟨h1, h2, h3⟩ := RRow.push HG.out (Below.refl _ _) HP.out hb1 hown hg hat
  rw [hps] at h1
  have HR : Hid (RRow u45 q0 v12 [(1, opXN 3 (vN 0) (cN 0), vN 0), (1, opXN 3 (cN 0) (vN 0), vN 0), (1, opXN 4 (vN 0) (cN 0), vN 0), (1, opXN 4 (cN 0) (vN 0), ngN (vN 0)), (1, opXN 5 (vN 0) (cN 1), vN 0), (1, opXN 5 (cN 1) (vN 0), vN 0), (1, opXN 5 (vN 0) (cN 0), cN 0), (1, opXN 5 (cN 0) (vN 0), cN 0), (1, ngN (ngN (vN 0)), vN 0), (2, opXN 3 (vN 0) (ngN (vN 1)), opXN 4 (vN 0) (vN 1))]) := h1
  replace HB : Hid (Below w.heap.size w u45) := HB.out.trans (h2.mono HL.out)
  have HX := Lib.hid (Lf5.next (by rw [hW1]; exact hHeld) h3 : Lf5 u45 b)
  clear HVg12
  clear HVg13
  clear HVg14
  clear HG HO hpl hC1 hb1 h1 h2 h3 hown hg hat HP
  refine hK.out _ _ ?S12x10 (fun hHeldN => ?_)
  case S12x10 => exact HX.out
  clear hK K hHeld hHeldN hps hW1 W1
  (try simp only [Act.put, List.setIfInBounds_toArray, List.set_cons_zero, List.set_cons_succ])
  refine RegE.lastL rfl (by kernel_rfl) (by kernel_rfl) (fun K hK => ?_)
  go_simp
  refine hK.out _ _ ?_
  clear hK K hB
  (try simp only [Act.put, List.setIfInBounds_toArray, List.set_cons_zero, List.set_cons_succ])
  go_upto_region 13 with fail
  have HXD : Hid (Lf5 u45.drew b) := Lf5.below HX.out (Below.refl _ _).drew
  have HBD : Hid (Below w.heap.size w u45.drew) := HB.out.drew
  have HRD : Hid (RRow u45.drew q0 v12 _) := HR.out.below (Below.refl _ _).drew
  refine RegE.start (S := fun wx => Lf5 wx b) 11 (by kernel_rfl) (by kernel_rfl) HXD.out (fun hHeld hB => ?_)
  clear HXD HX HB HR
  have HB := HBD
  have HR := HRD
  clear HBD HRD
  generalize u45.drew = u46 at *
  refine RegE.takeL (S := fun wx => Lf5 wx b) (i := 0) (v := ?v13x0) hB rfl (by decide) (by kernel_rfl) (by kernel_rfl) (fun _ _ _ h => h) (Or.inl ⟨by rfl, ?y13x0⟩) hHeld ?r13x0
  case y13x0 => ((intro wx _; go_simp) <;> with_reducible rfl)
  (try simp only [Act.put, List.setIfInBounds_toArray, List.set_cons_zero, List.set_cons_succ])
  refine RegE.takeL (S := fun wx => Lf5 wx b) (i := 1) (v := ?v13x1) hB rfl (by decide) (by kernel_rfl) (by kernel_rfl) (fun _ _ _ h => h) (Or.inl ⟨by rfl, ?y13x1⟩) hHeld ?r13x1
  case y13x1 => ((intro wx hSw; obtain ⟨⟨x0, x1, x2, x3, x4⟩, ⟨y0, y1, y2, y3, y4⟩, ⟨z0, z1, z2, z3, z4⟩, ⟨n0, n1, n2, n3, n4⟩, ⟨m0, m1, m2, m3, m4⟩⟩ := And.intro (xD5_cells hSw.1) (And.intro (xD5_cells hSw.2.1) (And.intro (xD5_cells hSw.2.2.1) (And.intro (xD5_cells hSw.2.2.2.1) (xD5_cells hSw.2.2.2.2)))); go_simp) <;> with_reducible rfl)
  (try simp only [Act.put, List.setIfInBounds_toArray, List.set_cons_zero, List.set_cons_succ])
  refine RegE.takeL (S := fun wx => Lf5 wx b) (i := 2) (v := ?v13x2) hB rfl (by decide) (by kernel_rfl) (by kernel_rfl) (fun _ _ _ h => h) (Or.inl ⟨by rfl, ?y13x2⟩) hHeld ?r13x2
  case y13x2 => ((intro wx hSw; obtain ⟨⟨x0, x1, x2, x3, x4⟩, ⟨y0, y1, y2, y3, y4⟩, ⟨z0, z1, z2, z3, z4⟩, ⟨n0, n1, n2, n3, n4⟩, ⟨m0, m1, m2, m3, m4⟩⟩ := And.intro (xD5_cells hSw.1) (And.intro (xD5_cells hSw.2.1) (And.intro (xD5_cells hSw.2.2.1) (And.intro (xD5_cells hSw.2.2.2.1) (xD5_cells hSw.2.2.2.2)))); go_simp) <;> with_reducible rfl)
  (try simp only [Act.put, List.setIfInBounds_toArray, List.set_cons_zero, List.set_cons_succ])
  refine RegE.takeL (S := fun wx => Lf5 wx b) (i := 5) (v := ?v13x5) hB rfl (by decide) (by kernel_rfl) (by kernel_rfl) (fun _ _ _ h => h) (Or.inl ⟨by rfl, ?y13x5⟩) hHeld ?r13x5
  case y13x5 => ((intro wx hSw; obtain ⟨⟨x0, x1, x2, x3, x4⟩, ⟨y0, y1, y2, y3, y4⟩, ⟨z0, z1, z2, z3, z4⟩, ⟨n0, n1, n2, n3, n4⟩, ⟨m0, m1, m2, m3, m4⟩⟩ := And.intro (xD5_cells hSw.1) (And.intro (xD5_cells hSw.2.1) (And.intro (xD5_cells hSw.2.2.1) (And.intro (xD5_cells hSw.2.2.2.1) (xD5_cells hSw.2.2.2.2)))); go_simp) <;> with_reducible rfl)
  (try simp only [Act.put, List.setIfInBounds_toArray, List.set_cons_zero, List.set_cons_succ])
  refine RegE.takeL (S := fun wx => Lf5 wx b) (i := 6) (v := ?v13x6) hB rfl (by decide) (by kernel_rfl) (by kernel_rfl) (fun _ _ _ h => h) (Or.inl ⟨by rfl, ?y13x6⟩) hHeld ?r13x6
  case y13x6 => ((intro wx hSw; obtain ⟨⟨x0, x1, x2, x3, x4⟩, ⟨y0, y1, y2, y3, y4⟩, ⟨z0, z1, z2, z3, z4⟩, ⟨n0, n1, n2, n3, n4⟩, ⟨m0, m1, m2, m3, m4⟩⟩ := And.intro (xD5_cells hSw.1) (And.intro (xD5_cells hSw.2.1) (And.intro (xD5_cells hSw.2.2.1) (And.intro (xD5_cells hSw.2.2.2.1) (xD5_cells hSw.2.2.2.2)))); go_simp) <;> with_reducible rfl)
  (try simp only [Act.put, List.setIfInBounds_toArray, List.set_cons_zero, List.set_cons_succ])
  refine RegE.stepL (i := 3) rfl (by decide) (by kernel_rfl) (fun K hK => ?_)
  go_simp
  go_at_call 25
  refine (negX_any (vN 1) _ _ u46 (ExV.leaf _ (vN 1) rfl)).mono ?_; rintro e u47 ⟨g15, rfl, hV, hb⟩
  have HVg15 := Lib.hid hV
  clear hV
  replace HB := Lib.hid (bnext HB.out hb)
  replace HR := Lib.hid (HR.out.below hb)
  have HX := Lib.hid (Lf5.below hHeld hb)
  clear hb
  refine hK.out _ _ ?S13x3 (fun hHeldN => ?_)
  case S13x3 => exact HX.out
  clear hK K hHeld HX
  have hHeld := hHeldN
  clear hHeldN
  (try simp only [Act.put, List.setIfInBounds_toArray, List.set_cons_zero, List.set_cons_succ])
  refine RegE.stepL (i := 4) rfl (by decide) (by kernel_rfl) (fun K hK => ?_)
  go_simp
  go_at_call 24
  refine (opX_any 4 (vN 0) (ngN (vN 1)) _ _ _ _ u47 (ExV.leaf _ (vN 0) rfl) (HVg15.out)).mono ?_; rintro e u48 ⟨g16, rfl, hV, hb⟩
  replace HVg15 := Lib.hid (HVg15.out.below hb)
  have HVg16 := Lib.hid hV
  clear hV
  replace HB := Lib.hid (bnext HB.out hb)
  replace HR := Lib.hid (HR.out.below hb)
  have HX := Lib.hid (Lf5.below hHeld hb)
  clear hb
  refine hK.out _ _ ?S13x4 (fun hHeldN => ?_)
  case S13x4 => exact HX.out
  clear hK K hHeld HX
  have hHeld := hHeldN
  clear hHeldN
  (try simp only [Act.put, List.setIfInBounds_toArray, List.set_cons_zero, List.set_cons_succ])
  refine RegE.stepL (i := 7) rfl (by decide) (by kernel_rfl) (fun K hK => ?_)
  go_simp
  go_at_call 24
  refine (opX_any 3 (vN 0) (vN 1) _ _ _ _ u48 (ExV.leaf _ (vN 0) rfl) (ExV.leaf _ (vN 1) rfl)).mono ?_; rintro e u49 ⟨g17, rfl, hV, hb⟩
  replace HVg15 := Lib.hid (HVg15.out.below hb)
  replace HVg16 := Lib.hid (HVg16.out.below hb)
  have HVg17 := Lib.hid hV
  clear hV
  replace HB := Lib.hid (bnext HB.out hb)
  replace HR := Lib.hid (HR.out.below hb)
  have HX := Lib.hid (Lf5.below hHeld hb)
  clear hb
  refine hK.out _ _ ?S13x7 (fun hHeldN => ?_)
  case S13x7 => exact HX.out
  clear hK K hHeld HX
  have hHeld := hHeldN
  clear hHeldN
  (try simp only [Act.put, List.setIfInBounds_toArray, List.set_cons_zero, List.set_cons_succ])
  refine RegE.stepL (i := 8) rfl (by decide) (by kernel_rfl) (fun K hK => ?_)
  go_simp
  go_at_call 23
  refine (pairS_any 2 (opXN 4 (vN 0) (ngN (vN 1))) (opXN 3 (vN 0) (vN 1)) (some ⟨g16, 0, none⟩) (some ⟨g17, 0, none⟩) 2 2 u49).mono ?_; rintro e u50 ⟨rfl, hb⟩
  replace HVg15 := Lib.hid (HVg15.out.below hb)
  replace HVg16 := Lib.hid (HVg16.out.below hb)
  replace HVg17 := Lib.hid (HVg17.out.below hb)
  replace HB := Lib.hid (bnext HB.out hb)
  replace HR := Lib.hid (HR.out.below hb)
  have HX := Lib.hid (Lf5.below hHeld hb)
  clear hb
  refine hK.out _ _ ?S13x8 (fun hHeldN => ?_)
  case S13x8 => exact HX.out
  clear hK K hHeld HX
  have hHeld := hHeldN
  clear hHeldN
  (try simp only [Act.put, List.setIfInBounds_toArray, List.set_cons_zero, List.set_cons_succ])
  refine RegE.stepL (i := 9) rfl (by decide) (by kernel_rfl) (fun K hK => ?_)
  have HP : Hid (RuF ((2, (opXN 4 (vN 0) (ngN (vN 1)), (some ⟨g16, 0, none⟩), 2), (opXN 3 (vN 0) (vN 1), (some ⟨g17, 0, none⟩), 2)) : RuQ) u50) := ⟨HVg16.out, HVg17.out⟩
  go_simp
  have hb : Below u50.heap.size u50 (u50.alloc (.cells (ruD ((2, (opXN 4 (vN 0) (ngN (vN 1)), (some ⟨g16, 0, none⟩), 2), (opXN 3 (vN 0) (vN 1), (some ⟨g17, 0, none⟩), 2)) : RuQ)).toArray 31)) := by go_grown
  refine hK.out _ _ ?S13x9 (fun hHeldN => ?_)
  case S13x9 => exact Lf5.below hHeld hb
  clear hK K hHeld
  have hHeld := hHeldN
  clear hHeldN hb
  (try simp only [Act.put, List.setIfInBounds_toArray, List.set_cons_zero, List.set_cons_succ])
  refine RegE.stepL (i := 10) rfl (by decide) (by kernel_rfl) (fun K hK => ?_)
  obtain ⟨ps, hG, hps⟩ := HR.out
  have HG := Lib.hid hG
  clear hG HR
  obtain ⟨W1, hW1⟩ : ∃ W1, W1 = u50.alloc (.cells (ruD ((2, (opXN 4 (vN 0) (ngN (vN 1)), (some ⟨g16, 0, none⟩), 2), (opXN 3 (vN 0) (vN 1), (some ⟨g17, 0, none⟩), 2)) : RuQ)).toArray 31) := ⟨_, rfl⟩
  have hb1 : Below u50.heap.size u50 W1 := by rw [hW1]; go_grown
  have hC1 : Cells W1 u50.heap.size 31 (ruD ((2, (opXN 4 (vN 0) (ngN (vN 1)), (some ⟨g16, 0, none⟩), 2), (opXN 3 (vN 0) (vN 1), (some ⟨g17, 0, none⟩), 2)) : RuQ)) := by rw [hW1]; exact Cells.new _ _ _
  have HO := Lib.hid (HG.out.below hb1).own
  have hpl : ps.length = 10 := by have := congrArg List.length hps; simpa using this
  change if _ then Oper.wp _ _ _ (u50.alloc (.cells (ruD ((2, (opXN 4 (vN 0) (ngN (vN 1)), (some ⟨g16, 0, none⟩), 2), (opXN 3 (vN 0) (vN 1), (some ⟨g17, 0, none⟩), 2)) : RuQ)).toArray 31)) _ _ else _
  rw [← hW1]
  refine step_append_at rfl (.tmp 100) (.tmp 109) 22 rfl q0 31 i0 _ 11 120 Try.underlying22 hi hz0 hz1 hz2 rfl (by decide) v12 _ _ (by simp [Act.eval]) HO.out ⟨u50.heap.size, 0, none⟩ 1 1 (ruD ((2, (opXN 4 (vN 0) (ngN (vN 1)), (some ⟨g16, 0, none⟩), 2), (opXN 3 (vN 0) (vN 1), (some ⟨g17, 0, none⟩), 2)) : RuQ)) (by simp [Act.eval]) rfl ?n13 ?o13 ?p13 ?q13 ?t13 ?_
  case n13 => intro j z hj; rw [addr_add, Nat.zero_add]; exact (hC1.cell j).trans hj
  case o13 => intro z hz; simp only [ruD, List.mem_cons, List.not_mem_nil, or_false] at hz; rcases hz with rfl | rfl | rfl | rfl | rfl | rfl | rfl | rfl | rfl | rfl | rfl <;> rfl
  case p13 => simp only [List.length_map]; unfold maxLen; omega
  case q13 => simp only [List.length_map]; omega
  case t13 => have := (HG.out.below hb1).size; exact this
  intro v13 u51 hown hg hat
  obtain ⟨h1, h2, h3⟩ := RRow.push HG.out (Below.refl _ _) HP.out hb1 hown hg hat
  rw [hps] at h1
  have HR : Hid (RRow u51 q0 v13 [(1, opXN 3 (vN 0) (cN 0), vN 0), (1, opXN 3 (cN 0) (vN 0), vN 0), (1, opXN 4 (vN 0) (cN 0), vN 0), (1, opXN 4 (cN 0) (vN 0), ngN (vN 0)), (1, opXN 5 (vN 0) (cN 1), vN 0), (1, opXN 5 (cN 1) (vN 0), vN 0), (1, opXN 5 (vN 0) (cN 0), cN 0), (1, opXN 5 (cN 0) (vN 0), cN 0), (1, ngN (ngN (vN 0)), vN 0), (2, opXN 3 (vN 0) (ngN (vN 1)), opXN 4 (vN 0) (vN 1)), (2, opXN 4 (vN 0) (ngN (vN 1)), opXN 3 (vN 0) (vN 1))]) := h1
  replace HB : Hid (Below w.heap.size w u51) := HB.out.trans (h2.mono HL.out)
  have HX := Lib.hid (Lf5.next (by rw [hW1]; exact hHeld) h3 : Lf5 u51 b)
  clear HVg15
  clear HVg16
  clear HVg17
  clear HG HO hpl hC1 hb1 h1 h2 h3 hown hg hat HP
  refine hK.out _ _ ?S13x10 (fun hHeldN => ?_)
  case S13x10 => exact HX.out
  clear hK K hHeld hHeldN hps hW1 W1
  (try simp only [Act.put, List.setIfInBounds_toArray, List.set_cons_zero, List.set_cons_succ])
  refine RegE.lastL rfl (by kernel_rfl) (by kernel_rfl) (fun K hK => ?_)
  go_simp
  refine hK.out _ _ ?_
  clear hK K hB
  (try simp only [Act.put, List.setIfInBounds_toArray, List.set_cons_zero, List.set_cons_succ])
  go_upto_region 14 with fail
  have HXD : Hid (Lf5 u51.drew b) := Lf5.below HX.out (Below.refl _ _).drew
  have HBD : Hid (Below w.heap.size w u51.drew) := HB.out.drew
  have HRD : Hid (RRow u51.drew q0 v13 _) := HR.out.below (Below.refl _ _).drew
  refine RegE.start (S := fun wx => Lf5 wx b) 12 (by kernel_rfl) (by kernel_rfl) HXD.out (fun hHeld hB => ?_)
  clear HXD HX HB HR
  have HB := HBD
  have HR := HRD
  clear HBD HRD
  generalize u51.drew = u52 at *
  refine RegE.takeL (S := fun wx => Lf5 wx b) (i := 0) (v := ?v14x0) hB rfl (by decide) (by kernel_rfl) (by kernel_rfl) (fun _ _ _ h => h) (Or.inl ⟨by rfl, ?y14x0⟩) hHeld ?r14x0
  case y14x0 => ((intro wx _; go_simp) <;> with_reducible rfl)
  (try simp only [Act.put, List.setIfInBounds_toArray, List.set_cons_zero, List.set_cons_succ])
  refine RegE.takeL (S := fun wx => Lf5 wx b) (i := 1) (v := ?v14x1) hB rfl (by decide) (by kernel_rfl) (by kernel_rfl) (fun _ _ _ h => h) (Or.inl ⟨by rfl, ?y14x1⟩) hHeld ?r14x1
  case y14x1 => ((intro wx hSw; obtain ⟨⟨x0, x1, x2, x3, x4⟩, ⟨y0, y1, y2, y3, y4⟩, ⟨z0, z1, z2, z3, z4⟩, ⟨n0, n1, n2, n3, n4⟩, ⟨m0, m1, m2, m3, m4⟩⟩ := And.intro (xD5_cells hSw.1) (And.intro (xD5_cells hSw.2.1) (And.intro (xD5_cells hSw.2.2.1) (And.intro (xD5_cells hSw.2.2.2.1) (xD5_cells hSw.2.2.2.2)))); go_simp) <;> with_reducible rfl)
  (try simp only [Act.put, List.setIfInBounds_toArray, List.set_cons_zero, List.set_cons_succ])
  refine RegE.takeL (S := fun wx => Lf5 wx b) (i := 3) (v := ?v14x3) hB rfl (by decide) (by kernel_rfl) (by kernel_rfl) (fun _ _ _ h => h) (Or.inl ⟨by rfl, ?y14x3⟩) hHeld ?r14x3
  case y14x3 => ((intro wx hSw; obtain ⟨⟨x0, x1, x2, x3, x4⟩, ⟨y0, y1, y2, y3, y4⟩, ⟨z0, z1, z2, z3, z4⟩, ⟨n0, n1, n2, n3, n4⟩, ⟨m0, m1, m2, m3, m4⟩⟩ := And.intro (xD5_cells hSw.1) (And.intro (xD5_cells hSw.2.1) (And.intro (xD5_cells hSw.2.2.1) (And.intro (xD5_cells hSw.2.2.2.1) (xD5_cells hSw.2.2.2.2)))); go_simp) <;> with_reducible rfl)
  (try simp only [Act.put, List.setIfInBounds_toArray, List.set_cons_zero, List.set_cons_succ])
  refine RegE.takeL (S := fun wx => Lf5 wx b) (i := 6) (v := ?v14x6) hB rfl (by decide) (by kernel_rfl) (by kernel_rfl) (fun _ _ _ h => h) (Or.inl ⟨by rfl, ?y14x6⟩) hHeld ?r14x6
  case y14x6 => ((intro wx hSw; obtain ⟨⟨x0, x1, x2, x3, x4⟩, ⟨y0, y1, y2, y3, y4⟩, ⟨z0, z1, z2, z3, z4⟩, ⟨n0, n1, n2, n3, n4⟩, ⟨m0, m1, m2, m3, m4⟩⟩ := And.intro (xD5_cells hSw.1) (And.intro (xD5_cells hSw.2.1) (And.intro (xD5_cells hSw.2.2.1) (And.intro (xD5_cells hSw.2.2.2.1) (xD5_cells hSw.2.2.2.2)))); go_simp) <;> with_reducible rfl)
  (try simp only [Act.put, List.setIfInBounds_toArray, List.set_cons_zero, List.set_cons_succ])
  refine RegE.takeL (S := fun wx => Lf5 wx b) (i := 7) (v := ?v14x7) hB rfl (by decide) (by kernel_rfl) (by kernel_rfl) (fun _ _ _ h => h) (Or.inl ⟨by rfl, ?y14x7⟩) hHeld ?r14x7
  case y14x7 => ((intro wx hSw; obtain ⟨⟨x0, x1, x2, x3, x4⟩, ⟨y0, y1, y2, y3, y4⟩, ⟨z0, z1, z2, z3, z4⟩, ⟨n0, n1, n2, n3, n4⟩, ⟨m0, m1, m2, m3, m4⟩⟩ := And.intro (xD5_cells hSw.1) (And.intro (xD5_cells hSw.2.1) (And.intro (xD5_cells hSw.2.2.1) (And.intro (xD5_cells hSw.2.2.2.1) (xD5_cells hSw.2.2.2.2)))); go_simp) <;> with_reducible rfl)
  (try simp only [Act.put, List.setIfInBounds_toArray, List.set_cons_zero, List.set_cons_succ])
  refine RegE.stepL (i := 2) rfl (by decide) (by kernel_rfl) (fun K hK => ?_)
  go_simp
  go_at_call 25
  refine (negX_any (vN 0) _ _ u52 (ExV.leaf _ (vN 0) rfl)).mono ?_; rintro e u53 ⟨g18, rfl, hV, hb⟩
  have HVg18 := Lib.hid hV
  clear hV
  replace HB := Lib.hid (bnext HB.out hb)
  replace HR := Lib.hid (HR.out.below hb)
  have HX := Lib.hid (Lf5.below hHeld hb)
  clear hb
  refine hK.out _ _ ?S14x2 (fun hHeldN => ?_)
  case S14x2 => exact HX.out
  clear hK K hHeld HX
  have hHeld := hHeldN
  clear hHeldN
  (try simp only [Act.put, List.setIfInBounds_toArray, List.set_cons_zero, List.set_cons_succ])
  refine RegE.stepL (i := 4) rfl (by decide) (by kernel_rfl) (fun K hK => ?_)
  go_simp
  go_at_call 25
  refine (negX_any (vN 1) _ _ u53 (ExV.leaf _ (vN 1) rfl)).mono ?_; rintro e u54 ⟨g19, rfl, hV, hb⟩
  replace HVg18 := Lib.hid (HVg18.out.below hb)
  have HVg19 := Lib.hid hV
  clear hV
  replace HB := Lib.hid (bnext HB.out hb)
  replace HR := Lib.hid (HR.out.below hb)
  have HX := Lib.hid (Lf5.below hHeld hb)
  clear hb
  refine hK.out _ _ ?S14x4 (fun hHeldN => ?_)
  case S14x4 => exact HX.out
  clear hK K hHeld HX
  have hHeld := hHeldN
  clear hHeldN
  (try simp only [Act.put, List.setIfInBounds_toArray, List.set_cons_zero, List.set_cons_succ])
  refine RegE.stepL (i := 5) rfl (by decide) (by kernel_rfl) (fun K hK => ?_)
  go_simp
  go_at_call 24
  refine (opX_any 5 (ngN (vN 0)) (ngN (vN 1)) _ _ _ _ u54 (HVg18.out) (HVg19.out)).mono ?_; rintro e u55 ⟨g20, rfl, hV, hb⟩
  replace HVg18 := Lib.hid (HVg18.out.below hb)
  replace HVg19 := Lib.hid (HVg19.out.below hb)
  have HVg20 := Lib.hid hV
  clear hV
  replace HB := Lib.hid (bnext HB.out hb)
  replace HR := Lib.hid (HR.out.below hb)
  have HX := Lib.hid (Lf5.below hHeld hb)
  clear hb
  refine hK.out _ _ ?S14x5 (fun hHeldN => ?_)
  case S14x5 => exact HX.out
  clear hK K hHeld HX
  have hHeld := hHeldN
  clear hHeldN
  (try simp only [Act.put, List.setIfInBounds_toArray, List.set_cons_zero, List.set_cons_succ])
  refine RegE.stepL (i := 8) rfl (by decide) (by kernel_rfl) (fun K hK => ?_)
  go_simp
  go_at_call 24
  refine (opX_any 5 (vN 0) (vN 1) _ _ _ _ u55 (ExV.leaf _ (vN 0) rfl) (ExV.leaf _ (vN 1) rfl)).mono ?_; rintro e u56 ⟨g21, rfl, hV, hb⟩
  replace HVg18 := Lib.hid (HVg18.out.below hb)
  replace HVg19 := Lib.hid (HVg19.out.below hb)
  replace HVg20 := Lib.hid (HVg20.out.below hb)
  have HVg21 := Lib.hid hV
  clear hV
  replace HB := Lib.hid (bnext HB.out hb)
  replace HR := Lib.hid (HR.out.below hb)
  have HX := Lib.hid (Lf5.below hHeld hb)
  clear hb
  refine hK.out _ _ ?S14x8 (fun hHeldN => ?_)
  case S14x8 => exact HX.out
  clear hK K hHeld HX
  have hHeld := hHeldN
  clear hHeldN
  (try simp only [Act.put, List.setIfInBounds_toArray, List.set_cons_zero, List.set_cons_succ])
  refine RegE.stepL (i := 9) rfl (by decide) (by kernel_rfl) (fun K hK => ?_)
  go_simp
  go_at_call 23
  refine (pairS_any 2 (opXN 5 (ngN (vN 0)) (ngN (vN 1))) (opXN 5 (vN 0) (vN 1)) (some ⟨g20, 0, none⟩) (some ⟨g21, 0, none⟩) 2 2 u56).mono ?_; rintro e u57 ⟨rfl, hb⟩
  replace HVg18 := Lib.hid (HVg18.out.below hb)
  replace HVg19 := Lib.hid (HVg19.out.below hb)
  replace HVg20 := Lib.hid (HVg20.out.below hb)
  replace HVg21 := Lib.hid (HVg21.out.below hb)
  replace HB := Lib.hid (bnext HB.out hb)
  replace HR := Lib.hid (HR.out.below hb)
  have HX := Lib.hid (Lf5.below hHeld hb)
  clear hb
  refine hK.out _ _ ?S14x9 (fun hHeldN => ?_)
  case S14x9 => exact HX.out
  clear hK K hHeld HX
  have hHeld := hHeldN
  clear hHeldN
  (try simp only [Act.put, List.setIfInBounds_toArray, List.set_cons_zero, List.set_cons_succ])
  refine RegE.stepL (i := 10) rfl (by decide) (by kernel_rfl) (fun K hK => ?_)
  have HP : Hid (RuF ((2, (opXN 5 (ngN (vN 0)) (ngN (vN 1)), (some ⟨g20, 0, none⟩), 2), (opXN 5 (vN 0) (vN 1), (some ⟨g21, 0, none⟩), 2)) : RuQ) u57) := ⟨HVg20.out, HVg21.out⟩
  go_simp
  have hb : Below u57.heap.size u57 (u57.alloc (.cells (ruD ((2, (opXN 5 (ngN (vN 0)) (ngN (vN 1)), (some ⟨g20, 0, none⟩), 2), (opXN 5 (vN 0) (vN 1), (some ⟨g21, 0, none⟩), 2)) : RuQ)).toArray 31)) := by go_grown
  refine hK.out _ _ ?S14x10 (fun hHeldN => ?_)
  case S14x10 => exact Lf5.below hHeld hb
  clear hK K hHeld
  have hHeld := hHeldN
  clear hHeldN hb
  (try simp only [Act.put, List.setIfInBounds_toArray, List.set_cons_zero, List.set_cons_succ])
  refine RegE.stepL (i := 11) rfl (by decide) (by kernel_rfl) (fun K hK => ?_)
  obtain ⟨ps, hG, hps⟩ := HR.out
  have HG := Lib.hid hG
  clear hG HR
  obtain ⟨W1, hW1⟩ : ∃ W1, W1 = u57.alloc (.cells (ruD ((2, (opXN 5 (ngN (vN 0)) (ngN (vN 1)), (some ⟨g20, 0, none⟩), 2), (opXN 5 (vN 0) (vN 1), (some ⟨g21, 0, none⟩), 2)) : RuQ)).toArray 31) := ⟨_, rfl⟩
  have hb1 : Below u57.heap.size u57 W1 := by rw [hW1]; go_grown
  have hC1 : Cells W1 u57.heap.size 31 (ruD ((2, (opXN 5 (ngN (vN 0)) (ngN (vN 1)), (some ⟨g20, 0, none⟩), 2), (opXN 5 (vN 0) (vN 1), (some ⟨g21, 0, none⟩), 2)) : RuQ)) := by rw [hW1]; exact Cells.new _ _ _
  have HO := Lib.hid (HG.out.below hb1).own
  have hpl : ps.length = 11 := by have := congrArg List.length hps; simpa using this
  change if _ then Oper.wp _ _ _ (u57.alloc (.cells (ruD ((2, (opXN 5 (ngN (vN 0)) (ngN (vN 1)), (some ⟨g20, 0, none⟩), 2), (opXN 5 (vN 0) (vN 1), (some ⟨g21, 0, none⟩), 2)) : RuQ)).toArray 31)) _ _ else _
  rw [← hW1]
  refine step_append_at rfl (.tmp 111) (.tmp 121) 22 rfl q0 31 i0 _ 11 120 Try.underlying22 hi hz0 hz1 hz2 rfl (by decide) v13 _ _ (by simp [Act.eval]) HO.out ⟨u57.heap.size, 0, none⟩ 1 1 (ruD ((2, (opXN 5 (ngN (vN 0)) (ngN (vN 1)), (some ⟨g20, 0, none⟩), 2), (opXN 5 (vN 0) (vN 1), (some ⟨g21, 0, none⟩), 2)) : RuQ)) (by simp [Act.eval]) rfl ?n14 ?o14 ?p14 ?q14 ?t14 ?_
  case n14 => intro j z hj; rw [addr_add, Nat.zero_add]; exact (hC1.cell j).trans hj
  case o14 => intro z hz; simp only [ruD, List.mem_cons, List.not_mem_nil, or_false] at hz; rcases hz with rfl | rfl | rfl | rfl | rfl | rfl | rfl | rfl | rfl | rfl | rfl <;> rfl
  case p14 => simp only [List.length_map]; unfold maxLen; omega
  case q14 => simp only [List.length_map]; omega
  case t14 => have := (HG.out.below hb1).size; exact this
  intro v14 u58 hown hg hat
  obtain ⟨h1, h2, h3⟩ := RRow.push HG.out (Below.refl _ _) HP.out hb1 hown hg hat
  rw [hps] at h1
  have HR : Hid (RRow u58 q0 v14 [(1, opXN 3 (vN 0) (cN 0), vN 0), (1, opXN 3 (cN 0) (vN 0), vN 0), (1, opXN 4 (vN 0) (cN 0), vN 0), (1, opXN 4 (cN 0) (vN 0), ngN (vN 0)), (1, opXN 5 (vN 0) (cN 1), vN 0), (1, opXN 5 (cN 1) (vN 0), vN 0), (1, opXN 5 (vN 0) (cN 0), cN 0), (1, opXN 5 (cN 0) (vN 0), cN 0), (1, ngN (ngN (vN 0)), vN 0), (2, opXN 3 (vN 0) (ngN (vN 1)), opXN 4 (vN 0) (vN 1)), (2, opXN 4 (vN 0) (ngN (vN 1)), opXN 3 (vN 0) (vN 1)), (2, opXN 5 (ngN (vN 0)) (ngN (vN 1)), opXN 5 (vN 0) (vN 1))]) := h1
  replace HB : Hid (Below w.heap.size w u58) := HB.out.trans (h2.mono HL.out)
  have HX := Lib.hid (Lf5.next (by rw [hW1]; exact hHeld) h3 : Lf5 u58 b)
  clear HVg18
  clear HVg19
  clear HVg20
  clear HVg21
  clear HG HO hpl hC1 hb1 h1 h2 h3 hown hg hat HP
  refine hK.out _ _ ?S14x11 (fun hHeldN => ?_)
  case S14x11 => exact HX.out
  clear hK K hHeld hHeldN hps hW1 W1
  (try simp only [Act.put, List.setIfInBounds_toArray, List.set_cons_zero, List.set_cons_succ])
  refine RegE.lastL rfl (by kernel_rfl) (by kernel_rfl) (fun K hK => ?_)
  go_simp
  refine hK.out _ _ ?_
  clear hK K hB
  (try simp only [Act.put, List.setIfInBounds_toArray, List.set_cons_zero, List.set_cons_succ])
  go_upto_region 15 with fail
  have HXD : Hid (Lf5 u58.drew b) := Lf5.below HX.out (Below.refl _ _).drew
  have HBD : Hid (Below w.heap.size w u58.drew) := HB.out.drew
  have HRD : Hid (RRow u58.drew q0 v14 _) := HR.out.below (Below.refl _ _).drew
  refine RegE.start (S := fun wx => Lf5 wx b) 8 (by kernel_rfl) (by kernel_rfl) HXD.out (fun hHeld hB => ?_)
  clear HXD HX HB HR
  have HB := HBD
  have HR := HRD
  clear HBD HRD
  generalize u58.drew = u59 at *
  refine RegE.takeL (S := fun wx => Lf5 wx b) (i := 0) (v := ?v15x0) hB rfl (by decide) (by kernel_rfl) (by kernel_rfl) (fun _ _ _ h => h) (Or.inl ⟨by rfl, ?y15x0⟩) hHeld ?r15x0
  case y15x0 => ((intro wx _; go_simp) <;> with_reducible rfl)
  (try simp only [Act.put, List.setIfInBounds_toArray, List.set_cons_zero, List.set_cons_succ])
  refine RegE.takeL (S := fun wx => Lf5 wx b) (i := 1) (v := ?v15x1) hB rfl (by decide) (by kernel_rfl) (by kernel_rfl) (fun _ _ _ h => h) (Or.inl ⟨by rfl, ?y15x1⟩) hHeld ?r15x1
  case y15x1 => ((intro wx hSw; obtain ⟨⟨x0, x1, x2, x3, x4⟩, ⟨y0, y1, y2, y3, y4⟩, ⟨z0, z1, z2, z3, z4⟩, ⟨n0, n1, n2, n3, n4⟩, ⟨m0, m1, m2, m3, m4⟩⟩ := And.intro (xD5_cells hSw.1) (And.intro (xD5_cells hSw.2.1) (And.intro (xD5_cells hSw.2.2.1) (And.intro (xD5_cells hSw.2.2.2.1) (xD5_cells hSw.2.2.2.2)))); go_simp) <;> with_reducible rfl)
  (try simp only [Act.put, List.setIfInBounds_toArray, List.set_cons_zero, List.set_cons_succ])
  refine RegE.takeL (S := fun wx => Lf5 wx b) (i := 2) (v := ?v15x2) hB rfl (by decide) (by kernel_rfl) (by kernel_rfl) (fun _ _ _ h => h) (Or.inl ⟨by rfl, ?y15x2⟩) hHeld ?r15x2
  case y15x2 => ((intro wx hSw; obtain ⟨⟨x0, x1, x2, x3, x4⟩, ⟨y0, y1, y2, y3, y4⟩, ⟨z0, z1, z2, z3, z4⟩, ⟨n0, n1, n2, n3, n4⟩, ⟨m0, m1, m2, m3, m4⟩⟩ := And.intro (xD5_cells hSw.1) (And.intro (xD5_cells hSw.2.1) (And.intro (xD5_cells hSw.2.2.1) (And.intro (xD5_cells hSw.2.2.2.1) (xD5_cells hSw.2.2.2.2)))); go_simp) <;> with_reducible rfl)
  (try simp only [Act.put, List.setIfInBounds_toArray, List.set_cons_zero, List.set_cons_succ])
  refine RegE.takeL (S := fun wx => Lf5 wx b) (i := 4) (v := ?v15x4) hB rfl (by decide) (by kernel_rfl) (by kernel_rfl) (fun _ _ _ h => h) (Or.inl ⟨by rfl, ?y15x4⟩) hHeld ?r15x4
  case y15x4 => ((intro wx hSw; obtain ⟨⟨x0, x1, x2, x3, x4⟩, ⟨y0, y1, y2, y3, y4⟩, ⟨z0, z1, z2, z3, z4⟩, ⟨n0, n1, n2, n3, n4⟩, ⟨m0, m1, m2, m3, m4⟩⟩ := And.intro (xD5_cells hSw.1) (And.intro (xD5_cells hSw.2.1) (And.intro (xD5_cells hSw.2.2.1) (And.intro (xD5_cells hSw.2.2.2.1) (xD5_cells hSw.2.2.2.2)))); go_simp) <;> with_reducible rfl)
  (try simp only [Act.put, List.setIfInBounds_toArray, List.set_cons_zero, List.set_cons_succ])
  refine RegE.stepL (i := 3) rfl (by decide) (by kernel_rfl) (fun K hK => ?_)
  go_simp
  go_at_call 24
  refine (opX_any 4 (vN 0) (vN 0) _ _ _ _ u59 (ExV.leaf _ (vN 0) rfl) (ExV.leaf _ (vN 0) rfl)).mono ?_; rintro e u60 ⟨g22, rfl, hV, hb⟩
  have HVg22 := Lib.hid hV
  clear hV
  replace HB := Lib.hid (bnext HB.out hb)
  replace HR := Lib.hid (HR.out.below hb)
  have HX := Lib.hid (Lf5.below hHeld hb)
  clear hb
  refine hK.out _ _ ?S15x3 (fun hHeldN => ?_)
  case S15x3 => exact HX.out
  clear hK K hHeld HX
  have hHeld := hHeldN
  clear hHeldN
  (try simp only [Act.put, List.setIfInBounds_toArray, List.set_cons_zero, List.set_cons_succ])
  refine RegE.stepL (i := 5) rfl (by decide) (by kernel_rfl) (fun K hK => ?_)
  go_simp
  go_at_call 23
  refine (pairS_any 1 (opXN 4 (vN 0) (vN 0)) (cN 0) (some ⟨g22, 0, none⟩) none 2 0 u60).mono ?_; rintro e u61 ⟨rfl, hb⟩
  replace HVg22 := Lib.hid (HVg22.out.below hb)
  replace HB := Lib.hid (bnext HB.out hb)
  replace HR := Lib.hid (HR.out.below hb)
  have HX := Lib.hid (Lf5.below hHeld hb)
  clear hb
  refine hK.out _ _ ?S15x5 (fun hHeldN => ?_)
  case S15x5 => exact HX.out
  clear hK K hHeld HX
  have hHeld := hHeldN
  clear hHeldN
  (try simp only [Act.put, List.setIfInBounds_toArray, List.set_cons_zero, List.set_cons_succ])
  refine RegE.stepL (i := 6) rfl (by decide) (by kernel_rfl) (fun K hK => ?_)
  have HP : Hid (RuF ((1, (opXN 4 (vN 0) (vN 0), (some ⟨g22, 0, none⟩), 2), (cN 0, none, 0)) : RuQ) u61) := ⟨HVg22.out, ExV.leaf _ (cN 0) rfl⟩
  go_simp
  have hb : Below u61.heap.size u61 (u61.alloc (.cells (ruD ((1, (opXN 4 (vN 0) (vN 0), (some ⟨g22, 0, none⟩), 2), (cN 0, none, 0)) : RuQ)).toArray 31)) := by go_grown
  refine hK.out _ _ ?S15x6 (fun hHeldN => ?_)
  case S15x6 => exact Lf5.below hHeld hb
  clear hK K hHeld
  have hHeld := hHeldN
  clear hHeldN hb
  (try simp only [Act.put, List.setIfInBounds_toArray, List.set_cons_zero, List.set_cons_succ])
  refine RegE.stepL (i := 7) rfl (by decide) (by kernel_rfl) (fun K hK => ?_)
  obtain ⟨ps, hG, hps⟩ := HR.out
  have HG := Lib.hid hG
  clear hG HR
  obtain ⟨W1, hW1⟩ : ∃ W1, W1 = u61.alloc (.cells (ruD ((1, (opXN 4 (vN 0) (vN 0), (some ⟨g22, 0, none⟩), 2), (cN 0, none, 0)) : RuQ)).toArray 31) := ⟨_, rfl⟩
  have hb1 : Below u61.heap.size u61 W1 := by rw [hW1]; go_grown
  have hC1 : Cells W1 u61.heap.size 31 (ruD ((1, (opXN 4 (vN 0) (vN 0), (some ⟨g22, 0, none⟩), 2), (cN 0, none, 0)) : RuQ)) := by rw [hW1]; exact Cells.new _ _ _
  have HO := Lib.hid (HG.out.below hb1).own
  have hpl : ps.length = 12 := by have := congrArg List.length hps; simpa using this
  change if _ then Oper.wp _ _ _ (u61.alloc (.cells (ruD ((1, (opXN 4 (vN 0) (vN 0), (some ⟨g22, 0, none⟩), 2), (cN 0, none, 0)) : RuQ)).toArray 31)) _ _ else _
  rw [← hW1]
  refine step_append_at rfl (.tmp 123) (.tmp 129) 22 rfl q0 31 i0 _ 11 120 Try.underlying22 hi hz0 hz1 hz2 rfl (by decide) v14 _ _ (by simp [Act.eval]) HO.out ⟨u61.heap.size, 0, none⟩ 1 1 (ruD ((1, (opXN 4 (vN 0) (vN 0), (some ⟨g22, 0, none⟩), 2), (cN 0, none, 0)) : RuQ)) (by simp [Act.eval]) rfl ?n15 ?o15 ?p15 ?q15 ?t15 ?_
  case n15 => intro j z hj; rw [addr_add, Nat.zero_add]; exact (hC1.cell j).trans hj
  case o15 => intro z hz; simp only [ruD, List.mem_cons, List.not_mem_nil, or_false] at hz; rcases hz with rfl | rfl | rfl | rfl | rfl | rfl | rfl | rfl | rfl | rfl | rfl <;> rfl
  case p15 => simp only [List.length_map]; unfold maxLen; omega
  case q15 => simp only [List.length_map]; omega
  case t15 => have := (HG.out.below hb1).size; exact this
  intro v15 u62 hown hg hat
  obtain ⟨h1, h2, h3⟩ := RRow.push HG.out (Below.refl _ _) HP.out hb1 hown hg hat
  rw [hps] at h1
  have HR : Hid (RRow u62 q0 v15 [(1, opXN 3 (vN 0) (cN 0), vN 0), (1, opXN 3 (cN 0) (vN 0), vN 0), (1, opXN 4 (vN 0) (cN 0), vN 0), (1, opXN 4 (cN 0) (vN 0), ngN (vN 0)), (1, opXN 5 (vN 0) (cN 1), vN 0), (1, opXN 5 (cN 1) (vN 0), vN 0), (1, opXN 5 (vN 0) (cN 0), cN 0), (1, opXN 5 (cN 0) (vN 0), cN 0), (1, ngN (ngN (vN 0)), vN 0), (2, opXN 3 (vN 0) (ngN (vN 1)), opXN 4 (vN 0) (vN 1)), (2, opXN 4 (vN 0) (ngN (vN 1)), opXN 3 (vN 0) (vN 1)), (2, opXN 5 (ngN (vN 0)) (ngN (vN 1)), opXN 5 (vN 0) (vN 1)), (1, opXN 4 (vN 0) (vN 0), cN 0)]) := h1
  replace HB : Hid (Below w.heap.size w u62) := HB.out.trans (h2.mono HL.out)
  have HX := Lib.hid (Lf5.next (by rw [hW1]; exact hHeld) h3 : Lf5 u62 b)
  clear HVg22
  clear HG HO hpl hC1 hb1 h1 h2 h3 hown hg hat HP
  refine hK.out _ _ ?S15x7 (fun hHeldN => ?_)
  case S15x7 => exact HX.out
  clear hK K hHeld hHeldN hps hW1 W1
  (try simp only [Act.put, List.setIfInBounds_toArray, List.set_cons_zero, List.set_cons_succ])
  refine RegE.lastL rfl (by kernel_rfl) (by kernel_rfl) (fun K hK => ?_)
  go_simp
  refine hK.out _ _ ?_
  clear hK K hB
  (try simp only [Act.put, List.setIfInBounds_toArray, List.set_cons_zero, List.set_cons_succ])
  go_upto_region 16 with fail
  refine wp_intro fun A0 hA0 => ?_
  refine wp_any_inv 12 (by kernel_rfl) (by kernel_rfl) (by kernel_rfl) (by kernel_rfl) (by decide) (Inv16 u62 b A0) ?i0 (by kernel_rfl) ?istep ?iend
  case i0 => exact ⟨undef, undef, undef, undef, undef, undef, undef, undef, undef, undef, undef, undef, (by rw [hA0]; kernel_rfl), (Below.refl _ _).drew, ⟨HX.out.1.drewN 1, HX.out.2.1.drewN 1, HX.out.2.2.1.drewN 1, HX.out.2.2.2.1.drewN 1, HX.out.2.2.2.2.drewN 1⟩, norep _, norep _, norep _, norep _, norep _, norep _, norep _, norep _, norep _, norep _, norep _, norep _, norep2 _, norep2 _, norep2 _⟩
  case istep =>
    intro l a wx i hI hr hi12
    obtain ⟨a1, a2, a3, a4, a5, a6, a7, a8, a9, b1, b2, b3, rfl, hB, hX, f0, f1, f2, f3, f4, f5, f6, f7, f8, f9, f10, f11, d1, d2, d3⟩ := hI
    have hi' : i = 0 ∨ i = 1 ∨ i = 2 ∨ i = 3 ∨ i = 4 ∨ i = 5 ∨ i = 6 ∨ i = 7 ∨ i = 8 ∨ i = 9 ∨ i = 10 ∨ i = 11 := by omega
    rcases hi' with rfl | rfl | rfl | rfl | rfl | rfl | rfl | rfl | rfl | rfl | rfl | rfl
    · -- 0
      obtain ⟨AA, hAA⟩ : ∃ AA, AA = put12 A0 a1 a2 a3 a4 a5 a6 a7 a8 a9 b1 b2 b3 := ⟨_, rfl⟩
      rw [← hAA]
      refine wpOp_stepL rfl (fun K hK => ?_)
      refine step_value (v := exV 2 0 0 0 none 0 0) (w' := wx) (by rw [hAA, hA0]; kernel_rfl) (ld5s rfl (by rw [hAA, hA0]; kernel_rfl) hX.1) (hK _ _ ?_)
      exact ⟨exV 2 0 0 0 none 0 0, a2, a3, a4, a5, a6, a7, a8, a9, b1, b2, b3, (by rw [hAA, hA0]; kernel_rfl), hB, hX, fun _ => rfl, fun h => f1 ((set_getD h).resolve_left (by decide)), fun h => f2 ((set_getD h).resolve_left (by decide)), fun h => f3 ((set_getD h).resolve_left (by decide)), fun h => f4 ((set_getD h).resolve_left (by decide)), fun h => f5 ((set_getD h).resolve_left (by decide)), fun h => f6 ((set_getD h).resolve_left (by decide)), fun h => f7 ((set_getD h).resolve_left (by decide)), fun h => f8 ((set_getD h).resolve_left (by decide)), fun h => f9 ((set_getD h).resolve_left (by decide)), fun h => f10 ((set_getD h).resolve_left (by decide)), fun h => f11 ((set_getD h).resolve_left (by decide)), fun h h' => d1 ((set_getD h).resolve_left (by decide)) ((set_getD h').resolve_left (by decide)), fun h h' => d2 ((set_getD h).resolve_left (by decide)) ((set_getD h').resolve_left (by decide)), fun h h' => d3 ((set_getD h).resolve_left (by decide)) ((set_getD h').resolve_left (by decide))⟩
    · -- 1
      obtain ⟨AA, hAA⟩ : ∃ AA, AA = put12 A0 a1 a2 a3 a4 a5 a6 a7 a8 a9 b1 b2 b3 := ⟨_, rfl⟩
      rw [← hAA]
      refine wpOp_stepL rfl (fun K hK => ?_)
      refine step_value (v := exV 2 1 0 0 none 0 0) (w' := wx) (by rw [hAA, hA0]; kernel_rfl) (ld5s rfl (by rw [hAA, hA0]; kernel_rfl) hX.2.1) (hK _ _ ?_)
      exact ⟨a1, exV 2 1 0 0 none 0 0, a3, a4, a5, a6, a7, a8, a9, b1, b2, b3, (by rw [hAA, hA0]; kernel_rfl), hB, hX, fun h => f0 ((set_getD h).resolve_left (by decide)), fun _ => rfl, fun h => f2 ((set_getD h).resolve_left (by decide)), fun h => f3 ((set_getD h).resolve_left (by decide)), fun h => f4 ((set_getD h).resolve_left (by decide)), fun h => f5 ((set_getD h).resolve_left (by decide)), fun h => f6 ((set_getD h).resolve_left (by decide)), fun h => f7 ((set_getD h).resolve_left (by decide)), fun h => f8 ((set_getD h).resolve_left (by decide)), fun h => f9 ((set_getD h).resolve_left (by decide)), fun h => f10 ((set_getD h).resolve_left (by decide)), fun h => f11 ((set_getD h).resolve_left (by decide)), fun h h' => d1 ((set_getD h).resolve_left (by decide)) ((set_getD h').resolve_left (by decide)), fun h h' => d2 ((set_getD h).resolve_left (by decide)) ((set_getD h').resolve_left (by decide)), fun h h' => d3 ((set_getD h).resolve_left (by decide)) ((set_getD h').resolve_left (by decide))⟩
    · -- 2
      obtain rfl := f0 (ready_dep hr (by kernel_rfl))
      obtain rfl := f1 (ready_dep hr (by kernel_rfl))
      obtain ⟨AA, hAA⟩ : ∃ AA, AA = put12 A0 (exV 2 0 0 0 none 0 0) (exV 2 1 0 0 none 0 0) a3 a4 a5 a6 a7 a8 a9 b1 b2 b3 := ⟨_, rfl⟩
      rw [← hAA]
      refine wpOp_stepL rfl (fun K hK => ?_)
      refine step_enter (f := 24) (args := #[.int .i64 5, exV 2 0 0 0 none 0 0, exV 2 1 0 0 none 0 0]) (w' := wx) (by rw [hAA, hA0]; kernel_rfl) (by rw [hAA, hA0]; kernel_rfl) ?_
      refine (opS_any 5 _ _ _ _ _ _ _ _ _ _ _ _ _ _ wx).mono ?_; rintro e wy ⟨g, rfl, hg, hg', hb, hC⟩
      refine ⟨_, rfl, hK _ _ ?_⟩
      exact ⟨exV 2 0 0 0 none 0 0, exV 2 1 0 0 none 0 0, exV 5 0 0 0 (some ⟨g, 0, none⟩) 2 2, a4, a5, a6, a7, a8, a9, b1, b2, b3, (by rw [hAA, hA0]; kernel_rfl), bnext hB hb, hX.below hb, fun _ => rfl, fun _ => rfl, fun _ => ⟨g, rfl, Nat.le_trans hB.size hg, hC⟩, fun h => f3 ((set_getD h).resolve_left (by decide)), fun h => f4 ((set_getD h).resolve_left (by decide)), fun h => (f5 ((set_getD h).resolve_left (by decide))).below hb, fun h => f6 ((set_getD h).resolve_left (by decide)), fun h => f7 ((set_getD h).resolve_left (by decide)), fun h => (f8 ((set_getD h).resolve_left (by decide))).below hb, fun h => (f9 ((set_getD h).resolve_left (by decide))).below hb, fun h => (f10 ((set_getD h).resolve_left (by decide))).below hb, fun h => (f11 ((set_getD h).resolve_left (by decide))).below hb, fun h h' => d1 ((set_getD h).resolve_left (by decide)) ((set_getD h').resolve_left (by decide)), fun h h' => d2 ((set_getD h).resolve_left (by decide)) ((set_getD h').resolve_left (by decide)), fun h h' => d3 ((set_getD h).resolve_left (by decide)) ((set_getD h').resolve_left (by decide))⟩
    · -- 3
      obtain ⟨AA, hAA⟩ : ∃ AA, AA = put12 A0 a1 a2 a3 a4 a5 a6 a7 a8 a9 b1 b2 b3 := ⟨_, rfl⟩
      rw [← hAA]
      refine wpOp_stepL rfl (fun K hK => ?_)
      refine step_value (v := exV 2 0 0 0 none 0 0) (w' := wx) (by rw [hAA, hA0]; kernel_rfl) (ld5s rfl (by rw [hAA, hA0]; kernel_rfl) hX.1) (hK _ _ ?_)
      exact ⟨a1, a2, a3, exV 2 0 0 0 none 0 0, a5, a6, a7, a8, a9, b1, b2, b3, (by rw [hAA, hA0]; kernel_rfl), hB, hX, fun h => f0 ((set_getD h).resolve_left (by decide)), fun h => f1 ((set_getD h).resolve_left (by decide)), fun h => f2 ((set_getD h).resolve_left (by decide)), fun _ => rfl, fun h => f4 ((set_getD h).resolve_left (by decide)), fun h => f5 ((set_getD h).resolve_left (by decide)), fun h => f6 ((set_getD h).resolve_left (by decide)), fun h => f7 ((set_getD h).resolve_left (by decide)), fun h => f8 ((set_getD h).resolve_left (by decide)), fun h => f9 ((set_getD h).resolve_left (by decide)), fun h => f10 ((set_getD h).resolve_left (by decide)), fun h => f11 ((set_getD h).resolve_left (by decide)), fun h h' => d1 ((set_getD h).resolve_left (by decide)) ((set_getD h').resolve_left (by decide)), fun h h' => d2 ((set_getD h).resolve_left (by decide)) ((set_getD h').resolve_left (by decide)), fun h h' => d3 ((set_getD h).resolve_left (by decide)) ((set_getD h').resolve_left (by decide))⟩
    · -- 4
      obtain ⟨AA, hAA⟩ : ∃ AA, AA = put12 A0 a1 a2 a3 a4 a5 a6 a7 a8 a9 b1 b2 b3 := ⟨_, rfl⟩
      rw [← hAA]
      refine wpOp_stepL rfl (fun K hK => ?_)
      refine step_value (v := exV 2 2 0 0 none 0 0) (w' := wx) (by rw [hAA, hA0]; kernel_rfl) (ld5s rfl (by rw [hAA, hA0]; kernel_rfl) hX.2.2.1) (hK _ _ ?_)
      exact ⟨a1, a2, a3, a4, exV 2 2 0 0 none 0 0, a6, a7, a8, a9, b1, b2, b3, (by rw [hAA, hA0]; kernel_rfl), hB, hX, fun h => f0 ((set_getD h).resolve_left (by decide)), fun h => f1 ((set_getD h).resolve_left (by decide)), fun h => f2 ((set_getD h).resolve_left (by decide)), fun h => f3 ((set_getD h).resolve_left (by decide)), fun _ => rfl, fun h => f5 ((set_getD h).resolve_left (by decide)), fun h => f6 ((set_getD h).resolve_left (by decide)), fun h => f7 ((set_getD h).resolve_left (by decide)), fun h => f8 ((set_getD h).resolve_left (by decide)), fun h => f9 ((set_getD h).resolve_left (by decide)), fun h => f10 ((set_getD h).resolve_left (by decide)), fun h => f11 ((set_getD h).resolve_left (by decide)), fun h h' => d1 ((set_getD h).resolve_left (by decide)) ((set_getD h').resolve_left (by decide)), fun h h' => d2 ((set_getD h).resolve_left (by decide)) ((set_getD h').resolve_left (by decide)), fun h h' => d3 ((set_getD h).resolve_left (by decide)) ((set_getD h').resolve_left (by decide))⟩
    · -- 5
      obtain rfl := f3 (ready_dep hr (by kernel_rfl))
      obtain rfl := f4 (ready_dep hr (by kernel_rfl))
      obtain ⟨AA, hAA⟩ : ∃ AA, AA = put12 A0 a1 a2 a3 (exV 2 0 0 0 none 0 0) (exV 2 2 0 0 none 0 0) a6 a7 a8 a9 b1 b2 b3 := ⟨_, rfl⟩
      rw [← hAA]
      refine wpOp_stepL rfl (fun K hK => ?_)
      refine step_enter (f := 24) (args := #[.int .i64 5, exV 2 0 0 0 none 0 0, exV 2 2 0 0 none 0 0]) (w' := wx) (by rw [hAA, hA0]; kernel_rfl) (by rw [hAA, hA0]; kernel_rfl) ?_
      refine (opS_any 5 _ _ _ _ _ _ _ _ _ _ _ _ _ _ wx).mono ?_; rintro e wy ⟨g, rfl, hg, hg', hb, hC⟩
      refine ⟨_, rfl, hK _ _ ?_⟩
      exact ⟨a1, a2, a3, exV 2 0 0 0 none 0 0, exV 2 2 0 0 none 0 0, exV 5 0 0 0 (some ⟨g, 0, none⟩) 2 2, a7, a8, a9, b1, b2, b3, (by rw [hAA, hA0]; kernel_rfl), bnext hB hb, hX.below hb, fun h => f0 ((set_getD h).resolve_left (by decide)), fun h => f1 ((set_getD h).resolve_left (by decide)), fun h => (f2 ((set_getD h).resolve_left (by decide))).below hb, fun _ => rfl, fun _ => rfl, fun _ => ⟨g, rfl, Nat.le_trans hB.size hg, hC⟩, fun h => f6 ((set_getD h).resolve_left (by decide)), fun h => f7 ((set_getD h).resolve_left (by decide)), fun h => (f8 ((set_getD h).resolve_left (by decide))).below hb, fun h => (f9 ((set_getD h).resolve_left (by decide))).below hb, fun h => (f10 ((set_getD h).resolve_left (by decide))).below hb, fun h => (f11 ((set_getD h).resolve_left (by decide))).below hb, fun h h' => d1 ((set_getD h).resolve_left (by decide)) ((set_getD h').resolve_left (by decide)), fun h h' => d2 ((set_getD h).resolve_left (by decide)) ((set_getD h').resolve_left (by decide)), fun h h' => d3 ((set_getD h).resolve_left (by decide)) ((set_getD h').resolve_left (by decide))⟩
    · -- 6
      obtain ⟨AA, hAA⟩ : ∃ AA, AA = put12 A0 a1 a2 a3 a4 a5 a6 a7 a8 a9 b1 b2 b3 := ⟨_, rfl⟩
      rw [← hAA]
      refine wpOp_stepL rfl (fun K hK => ?_)
      refine step_value (v := exV 2 1 0 0 none 0 0) (w' := wx) (by rw [hAA, hA0]; kernel_rfl) (ld5s rfl (by rw [hAA, hA0]; kernel_rfl) hX.2.1) (hK _ _ ?_)
      exact ⟨a1, a2, a3, a4, a5, a6, exV 2 1 0 0 none 0 0, a8, a9, b1, b2, b3, (by rw [hAA, hA0]; kernel_rfl), hB, hX, fun h => f0 ((set_getD h).resolve_left (by decide)), fun h => f1 ((set_getD h).resolve_left (by decide)), fun h => f2 ((set_getD h).resolve_left (by decide)), fun h => f3 ((set_getD h).resolve_left (by decide)), fun h => f4 ((set_getD h).resolve_left (by decide)), fun h => f5 ((set_getD h).resolve_left (by decide)), fun _ => rfl, fun h => f7 ((set_getD h).resolve_left (by decide)), fun h => f8 ((set_getD h).resolve_left (by decide)), fun h => f9 ((set_getD h).resolve_left (by decide)), fun h => f10 ((set_getD h).resolve_left (by decide)), fun h => f11 ((set_getD h).resolve_left (by decide)), fun h h' => d1 ((set_getD h).resolve_left (by decide)) ((set_getD h').resolve_left (by decide)), fun h h' => d2 ((set_getD h).resolve_left (by decide)) ((set_getD h').resolve_left (by decide)), fun h h' => d3 ((set_getD h).resolve_left (by decide)) ((set_getD h').resolve_left (by decide))⟩
    · -- 7
      obtain ⟨AA, hAA⟩ : ∃ AA, AA = put12 A0 a1 a2 a3 a4 a5 a6 a7 a8 a9 b1 b2 b3 := ⟨_, rfl⟩
      rw [← hAA]
      refine wpOp_stepL rfl (fun K hK => ?_)
      refine step_value (v := exV 2 2 0 0 none 0 0) (w' := wx) (by rw [hAA, hA0]; kernel_rfl) (ld5s rfl (by rw [hAA, hA0]; kernel_rfl) hX.2.2.1) (hK _ _ ?_)
      exact ⟨a1, a2, a3, a4, a5, a6, a7, exV 2 2 0 0 none 0 0, a9, b1, b2, b3, (by rw [hAA, hA0]; kernel_rfl), hB, hX, fun h => f0 ((set_getD h).resolve_left (by decide)), fun h => f1 ((set_getD h).resolve_left (by decide)), fun h => f2 ((set_getD h).resolve_left (by decide)), fun h => f3 ((set_getD h).resolve_left (by decide)), fun h => f4 ((set_getD h).resolve_left (by decide)), fun h => f5 ((set_getD h).resolve_left (by decide)), fun h => f6 ((set_getD h).resolve_left (by decide)), fun _ => rfl, fun h => f8 ((set_getD h).resolve_left (by decide)), fun h => f9 ((set_getD h).resolve_left (by decide)), fun h => f10 ((set_getD h).resolve_left (by decide)), fun h => f11 ((set_getD h).resolve_left (by decide)), fun h h' => d1 ((set_getD h).resolve_left (by decide)) ((set_getD h').resolve_left (by decide)), fun h h' => d2 ((set_getD h).resolve_left (by decide)) ((set_getD h').resolve_left (by decide)), fun h h' => d3 ((set_getD h).resolve_left (by decide)) ((set_getD h').resolve_left (by decide))⟩
    · -- 8
      obtain rfl := f6 (ready_dep hr (by kernel_rfl))
      obtain rfl := f7 (ready_dep hr (by kernel_rfl))
      obtain ⟨AA, hAA⟩ : ∃ AA, AA = put12 A0 a1 a2 a3 a4 a5 a6 (exV 2 1 0 0 none 0 0) (exV 2 2 0 0 none 0 0) a9 b1 b2 b3 := ⟨_, rfl⟩
      rw [← hAA]
      refine wpOp_stepL rfl (fun K hK => ?_)
      refine step_enter (f := 24) (args := #[.int .i64 5, exV 2 1 0 0 none 0 0, exV 2 2 0 0 none 0 0]) (w' := wx) (by rw [hAA, hA0]; kernel_rfl) (by rw [hAA, hA0]; kernel_rfl) ?_
      refine (opS_any 5 _ _ _ _ _ _ _ _ _ _ _ _ _ _ wx).mono ?_; rintro e wy ⟨g, rfl, hg, hg', hb, hC⟩
      refine ⟨_, rfl, hK _ _ ?_⟩
      exact ⟨a1, a2, a3, a4, a5, a6, exV 2 1 0 0 none 0 0, exV 2 2 0 0 none 0 0, exV 5 0 0 0 (some ⟨g, 0, none⟩) 2 2, b1, b2, b3, (by rw [hAA, hA0]; kernel_rfl), bnext hB hb, hX.below hb, fun h => f0 ((set_getD h).resolve_left (by decide)), fun h => f1 ((set_getD h).resolve_left (by decide)), fun h => (f2 ((set_getD h).resolve_left (by decide))).below hb, fun h => f3 ((set_getD h).resolve_left (by decide)), fun h => f4 ((set_getD h).resolve_left (by decide)), fun h => (f5 ((set_getD h).resolve_left (by decide))).below hb, fun _ => rfl, fun _ => rfl, fun _ => ⟨g, rfl, Nat.le_trans hB.size hg, hC⟩, fun h => (f9 ((set_getD h).resolve_left (by decide))).below hb, fun h => (f10 ((set_getD h).resolve_left (by decide))).below hb, fun h => (f11 ((set_getD h).resolve_left (by decide))).below hb, fun h h' => d1 ((set_getD h).resolve_left (by decide)) ((set_getD h').resolve_left (by decide)), fun h h' => d2 ((set_getD h).resolve_left (by decide)) ((set_getD h').resolve_left (by decide)), fun h h' => d3 ((set_getD h).resolve_left (by decide)) ((set_getD h').resolve_left (by decide))⟩
    · -- 9
      obtain ⟨AA, hAA⟩ : ∃ AA, AA = put12 A0 a1 a2 a3 a4 a5 a6 a7 a8 a9 b1 b2 b3 := ⟨_, rfl⟩
      rw [← hAA]
      refine wpOp_stepL rfl (fun K hK => ?_)
      have hb : Below wx.heap.size wx (wx.alloc (.cells zero5.toArray 29)) := by go_grown
      refine step_value (v := .pointer (some ⟨wx.heap.size, 0, none⟩)) (w' := wx.alloc (.cells zero5.toArray 29)) (by rw [hAA, hA0]; kernel_rfl) (by rw [hAA, hA0]; kernel_rfl) (hK _ _ ?_)
      exact ⟨a1, a2, a3, a4, a5, a6, a7, a8, a9, .pointer (some ⟨wx.heap.size, 0, none⟩), b2, b3, (by rw [hAA, hA0]; kernel_rfl), bnext hB hb, hX.below hb, fun h => f0 ((set_getD h).resolve_left (by decide)), fun h => f1 ((set_getD h).resolve_left (by decide)), fun h => (f2 ((set_getD h).resolve_left (by decide))).below hb, fun h => f3 ((set_getD h).resolve_left (by decide)), fun h => f4 ((set_getD h).resolve_left (by decide)), fun h => (f5 ((set_getD h).resolve_left (by decide))).below hb, fun h => f6 ((set_getD h).resolve_left (by decide)), fun h => f7 ((set_getD h).resolve_left (by decide)), fun h => (f8 ((set_getD h).resolve_left (by decide))).below hb, fun _ => ⟨wx.heap.size, rfl, hB.size, Cells.new wx _ zero5⟩, fun h => (f10 ((set_getD h).resolve_left (by decide))).below hb, fun h => (f11 ((set_getD h).resolve_left (by decide))).below hb, fun _ h => (BxC.ne (f10 ((set_getD h).resolve_left (by decide)))).symm, fun _ h => (BxC.ne (f11 ((set_getD h).resolve_left (by decide)))).symm, fun h h' => d3 ((set_getD h).resolve_left (by decide)) ((set_getD h').resolve_left (by decide))⟩
    · -- 10
      obtain ⟨AA, hAA⟩ : ∃ AA, AA = put12 A0 a1 a2 a3 a4 a5 a6 a7 a8 a9 b1 b2 b3 := ⟨_, rfl⟩
      rw [← hAA]
      refine wpOp_stepL rfl (fun K hK => ?_)
      have hb : Below wx.heap.size wx (wx.alloc (.cells zero5.toArray 29)) := by go_grown
      refine step_value (v := .pointer (some ⟨wx.heap.size, 0, none⟩)) (w' := wx.alloc (.cells zero5.toArray 29)) (by rw [hAA, hA0]; kernel_rfl) (by rw [hAA, hA0]; kernel_rfl) (hK _ _ ?_)
      exact ⟨a1, a2, a3, a4, a5, a6, a7, a8, a9, b1, .pointer (some ⟨wx.heap.size, 0, none⟩), b3, (by rw [hAA, hA0]; kernel_rfl), bnext hB hb, hX.below hb, fun h => f0 ((set_getD h).resolve_left (by decide)), fun h => f1 ((set_getD h).resolve_left (by decide)), fun h => (f2 ((set_getD h).resolve_left (by decide))).below hb, fun h => f3 ((set_getD h).resolve_left (by decide)), fun h => f4 ((set_getD h).resolve_left (by decide)), fun h => (f5 ((set_getD h).resolve_left (by decide))).below hb, fun h => f6 ((set_getD h).resolve_left (by decide)), fun h => f7 ((set_getD h).resolve_left (by decide)), fun h => (f8 ((set_getD h).resolve_left (by decide))).below hb, fun h => (f9 ((set_getD h).resolve_left (by decide))).below hb, fun _ => ⟨wx.heap.size, rfl, hB.size, Cells.new wx _ zero5⟩, fun h => (f11 ((set_getD h).resolve_left (by decide))).below hb, fun h _ => BxC.ne (f9 ((set_getD h).resolve_left (by decide))), fun h h' => d2 ((set_getD h).resolve_left (by decide)) ((set_getD h').resolve_left (by decide)), fun _ h => (BxC.ne (f11 ((set_getD h).resolve_left (by decide)))).symm⟩
    · -- 11
      obtain ⟨AA, hAA⟩ : ∃ AA, AA = put12 A0 a1 a2 a3 a4 a5 a6 a7 a8 a9 b1 b2 b3 := ⟨_, rfl⟩
      rw [← hAA]
      refine wpOp_stepL rfl (fun K hK => ?_)
      have hb : Below wx.heap.size wx (wx.alloc (.cells zero5.toArray 29)) := by go_grown
      refine step_value (v := .pointer (some ⟨wx.heap.size, 0, none⟩)) (w' := wx.alloc (.cells zero5.toArray 29)) (by rw [hAA, hA0]; kernel_rfl) (by rw [hAA, hA0]; kernel_rfl) (hK _ _ ?_)
      exact ⟨a1, a2, a3, a4, a5, a6, a7, a8, a9, b1, b2, .pointer (some ⟨wx.heap.size, 0, none⟩), (by rw [hAA, hA0]; kernel_rfl), bnext hB hb, hX.below hb, fun h => f0 ((set_getD h).resolve_left (by decide)), fun h => f1 ((set_getD h).resolve_left (by decide)), fun h => (f2 ((set_getD h).resolve_left (by decide))).below hb, fun h => f3 ((set_getD h).resolve_left (by decide)), fun h => f4 ((set_getD h).resolve_left (by decide)), fun h => (f5 ((set_getD h).resolve_left (by decide))).below hb, fun h => f6 ((set_getD h).resolve_left (by decide)), fun h => f7 ((set_getD h).resolve_left (by decide)), fun h => (f8 ((set_getD h).resolve_left (by decide))).below hb, fun h => (f9 ((set_getD h).resolve_left (by decide))).below hb, fun h => (f10 ((set_getD h).resolve_left (by decide))).below hb, fun _ => ⟨wx.heap.size, rfl, hB.size, Cells.new wx _ zero5⟩, fun h h' => d1 ((set_getD h).resolve_left (by decide)) ((set_getD h').resolve_left (by decide)), fun h _ => BxC.ne (f9 ((set_getD h).resolve_left (by decide))), fun h _ => BxC.ne (f10 ((set_getD h).resolve_left (by decide)))⟩
  intro l a wx inv hall hI
  obtain ⟨a1, a2, a3, a4, a5, a6, a7, a8, a9, b1, b2, b3, rfl, hB, hX, f0, f1, f2, f3, f4, f5, f6, f7, f8, f9, f10, f11, d1, d2, d3⟩ := hI
  have hl : l = ((List.range 15).map fun i => decide (i < 12)).toArray := listed_eq (inv.size.trans (by kernel_rfl)) hall (fun t h1 h2 => inv.tail t h1 (Nat.lt_of_lt_of_eq h2 (by kernel_rfl)))
  subst hl
  obtain ⟨t1, rfl, _, c1⟩ := f2 (by kernel_rfl)
  obtain ⟨t2, rfl, _, c2⟩ := f5 (by kernel_rfl)
  obtain ⟨t3, rfl, _, c3⟩ := f8 (by kernel_rfl)
  obtain ⟨p1, rfl, q1, e1⟩ := f9 (by kernel_rfl)
  obtain ⟨p2, rfl, q2, e2⟩ := f10 (by kernel_rfl)
  obtain ⟨p3, rfl, q3, e3⟩ := f11 (by kernel_rfl)
  have n12 : p1 ≠ p2 := fun e => d1 (by kernel_rfl) (by kernel_rfl) (by rw [e])
  have n13 : p1 ≠ p3 := fun e => d2 (by kernel_rfl) (by kernel_rfl) (by rw [e])
  have n23 : p2 ≠ p3 := fun e => d3 (by kernel_rfl) (by kernel_rfl) (by rw [e])
  obtain rfl := f0 (by kernel_rfl)
  obtain rfl := f1 (by kernel_rfl)
  obtain rfl := f3 (by kernel_rfl)
  obtain rfl := f4 (by kernel_rfl)
  obtain rfl := f6 (by kernel_rfl)
  obtain rfl := f7 (by kernel_rfl)
  obtain ⟨y1, hy1⟩ : ∃ y, y = set5 wx p1 0 5 0 0 0 (.slice (some ⟨t1, 0, none⟩) 2 2) := ⟨_, rfl⟩
  obtain ⟨y2, hy2⟩ : ∃ y, y = set5 y1 p2 0 5 0 0 0 (.slice (some ⟨t2, 0, none⟩) 2 2) := ⟨_, rfl⟩
  obtain ⟨y3, hy3⟩ : ∃ y, y = set5 y2 p3 0 5 0 0 0 (.slice (some ⟨t3, 0, none⟩) 2 2) := ⟨_, rfl⟩
  obtain ⟨z1, z2, hBy, hb1, hb2, hb3⟩ := stores16 hB q1 q2 q3 c1 c2 c3 e1 e2 e3 n12 n13 n23 y1 y2 y3 hy1 hy2 hy3
  clear f0 f1 f2 f3 f4 f5 f6 f7 f8 f9 f10 f11 d1 d2 d3 hX hall
  obtain ⟨AA, hAA⟩ : ∃ AA, AA = put12 A0 (exV 2 0 0 0 none 0 0) (exV 2 1 0 0 none 0 0) (exV 5 0 0 0 (some ⟨t1, 0, none⟩) 2 2) (exV 2 0 0 0 none 0 0) (exV 2 2 0 0 none 0 0) (exV 5 0 0 0 (some ⟨t2, 0, none⟩) 2 2) (exV 2 1 0 0 none 0 0) (exV 2 2 0 0 none 0 0) (exV 5 0 0 0 (some ⟨t3, 0, none⟩) 2 2) (.pointer (some ⟨p1, 0, none⟩)) (.pointer (some ⟨p2, 0, none⟩)) (.pointer (some ⟨p3, 0, none⟩)) := ⟨_, rfl⟩
  rw [← hAA]
  refine wpAny_of_E (S := fun _ => True) (n := 14) _ _ _ _ (RegE.run ?_ ⟨inv.size, inv.closed, fun t h1 h2 => inv.tail t (by omega) h2⟩)
  refine RegE.stepL (i := 12) (fuel := 2) rfl (by decide) (by kernel_rfl) (fun K hK => ?_)
  refine step_skip (w' := y1) (by rw [hAA, hA0]; kernel_rfl) (by rw [hy1]; exact st5s rfl (by rw [hAA, hA0]; kernel_rfl) (by rw [hAA, hA0]; kernel_rfl) e1) (hK.out _ _ trivial (fun _ => ?_))
  clear hK K
  refine RegE.stepL (i := 13) (fuel := 1) rfl (by decide) (by kernel_rfl) (fun K hK => ?_)
  refine step_skip (w' := y2) (by rw [hAA, hA0]; kernel_rfl) (by rw [hy2]; exact st5s rfl (by rw [hAA, hA0]; kernel_rfl) (by rw [hAA, hA0]; kernel_rfl) z1) (hK.out _ _ trivial (fun _ => ?_))
  clear hK K
  refine RegE.lastL (fuel := 0) rfl (by kernel_rfl) (by kernel_rfl) (fun K hK => ?_)
  refine step_skip (w' := y3) (by rw [hAA, hA0]; kernel_rfl) (by rw [hy3]; exact st5s rfl (by rw [hAA, hA0]; kernel_rfl) (by rw [hAA, hA0]; kernel_rfl) z2) (hK.out _ _ ?_)
  clear hK K
  rw [hAA, hA0]
  simp only [put12, Act.put, List.setIfInBounds_toArray, List.set_cons_zero, List.set_cons_succ]
  replace HX := Lib.hid (HX.out.below hBy)
  replace HR := Lib.hid (HR.out.below hBy)
  replace HB := Lib.hid (bnext HB.out hBy)
  have HB3 := Lib.hid (And.intro hb1 (And.intro hb2 hb3))
  clear hB q1 q2 q3 c1 c2 c3 e1 e2 e3 n12 n13 n23 hy1 hy2 hy3 z1 z2 hBy hb1 hb2 hb3 inv hAA hA0
  have HX : Hid (Lf8 y3 b p1 p2 p3 t1 t2 t3) := ⟨HX.out, HB3.out⟩
  clear HB3
  obtain ⟨u900, hu900⟩ : ∃ u, u = y3 := ⟨_, rfl⟩
  rw [← hu900] at HX HR HB ⊢
  clear hu900
  go_upto_region 17 with fail
  have HXD : Hid (Lf8 u900.drew b p1 p2 p3 t1 t2 t3) := Lf8.below HX.out (Below.refl _ _).drew
  have HBD : Hid (Below w.heap.size w u900.drew) := HB.out.drew
  have HRD : Hid (RRow u900.drew q0 v15 _) := HR.out.below (Below.refl _ _).drew
  refine RegE.start (S := fun wx => Lf8 wx b p1 p2 p3 t1 t2 t3) 12 (by kernel_rfl) (by kernel_rfl) HXD.out (fun hHeld hB => ?_)
  clear HXD HX HB HR
  have HB := HBD
  have HR := HRD
  clear HBD HRD
  generalize u900.drew = u901 at *
  refine RegE.takeL (S := fun wx => Lf8 wx b p1 p2 p3 t1 t2 t3) (i := 0) (v := ?v17x0) hB rfl (by decide) (by kernel_rfl) (by kernel_rfl) (fun _ _ _ h => h) (Or.inl ⟨by rfl, ?y17x0⟩) hHeld ?r17x0
  case y17x0 => ((intro wx _; go_simp) <;> with_reducible rfl)
  (try simp only [Act.put, List.setIfInBounds_toArray, List.set_cons_zero, List.set_cons_succ])
  refine RegE.takeL (S := fun wx => Lf8 wx b p1 p2 p3 t1 t2 t3) (i := 1) (v := ?v17x1) hB rfl (by decide) (by kernel_rfl) (by kernel_rfl) (fun _ _ _ h => h) (Or.inl ⟨by rfl, ?y17x1⟩) hHeld ?r17x1
  case y17x1 => ((intro wx hSw; obtain ⟨⟨x0, x1, x2, x3, x4⟩, ⟨y0, y1, y2, y3, y4⟩, ⟨z0, z1, z2, z3, z4⟩, ⟨n0, n1, n2, n3, n4⟩, ⟨m0, m1, m2, m3, m4⟩⟩ := And.intro (xD5_cells hSw.1.1) (And.intro (xD5_cells hSw.1.2.1) (And.intro (xD5_cells hSw.1.2.2.1) (And.intro (xD5_cells hSw.1.2.2.2.1) (xD5_cells hSw.1.2.2.2.2)))); obtain ⟨⟨k0, k1, k2, k3, k4⟩, ⟨l0, l1, l2, l3, l4⟩, ⟨o0, o1, o2, o3, o4⟩⟩ := And.intro (bxV_cells hSw.2.1) (And.intro (bxV_cells hSw.2.2.1) (bxV_cells hSw.2.2.2)); go_simp) <;> with_reducible rfl)
  (try simp only [Act.put, List.setIfInBounds_toArray, List.set_cons_zero, List.set_cons_succ])
  refine RegE.takeL (S := fun wx => Lf8 wx b p1 p2 p3 t1 t2 t3) (i := 2) (v := ?v17x2) hB rfl (by decide) (by kernel_rfl) (by kernel_rfl) (fun _ _ _ h => h) (Or.inl ⟨by rfl, ?y17x2⟩) hHeld ?r17x2
  case y17x2 => ((intro wx hSw; obtain ⟨⟨x0, x1, x2, x3, x4⟩, ⟨y0, y1, y2, y3, y4⟩, ⟨z0, z1, z2, z3, z4⟩, ⟨n0, n1, n2, n3, n4⟩, ⟨m0, m1, m2, m3, m4⟩⟩ := And.intro (xD5_cells hSw.1.1) (And.intro (xD5_cells hSw.1.2.1) (And.intro (xD5_cells hSw.1.2.2.1) (And.intro (xD5_cells hSw.1.2.2.2.1) (xD5_cells hSw.1.2.2.2.2)))); obtain ⟨⟨k0, k1, k2, k3, k4⟩, ⟨l0, l1, l2, l3, l4⟩, ⟨o0, o1, o2, o3, o4⟩⟩ := And.intro (bxV_cells hSw.2.1) (And.intro (bxV_cells hSw.2.2.1) (bxV_cells hSw.2.2.2)); go_simp) <;> with_reducible rfl)
  (try simp only [Act.put, List.setIfInBounds_toArray, List.set_cons_zero, List.set_cons_succ])
  refine RegE.takeL (S := fun wx => Lf8 wx b p1 p2 p3 t1 t2 t3) (i := 4) (v := ?v17x4) hB rfl (by decide) (by kernel_rfl) (by kernel_rfl) (fun _ _ _ h => h) (Or.inl ⟨by rfl, ?y17x4⟩) hHeld ?r17x4
  case y17x4 => ((intro wx hSw; obtain ⟨⟨x0, x1, x2, x3, x4⟩, ⟨y0, y1, y2, y3, y4⟩, ⟨z0, z1, z2, z3, z4⟩, ⟨n0, n1, n2, n3, n4⟩, ⟨m0, m1, m2, m3, m4⟩⟩ := And.intro (xD5_cells hSw.1.1) (And.intro (xD5_cells hSw.1.2.1) (And.intro (xD5_cells hSw.1.2.2.1) (And.intro (xD5_cells hSw.1.2.2.2.1) (xD5_cells hSw.1.2.2.2.2)))); obtain ⟨⟨k0, k1, k2, k3, k4⟩, ⟨l0, l1, l2, l3, l4⟩, ⟨o0, o1, o2, o3, o4⟩⟩ := And.intro (bxV_cells hSw.2.1) (And.intro (bxV_cells hSw.2.2.1) (bxV_cells hSw.2.2.2)); go_simp) <;> with_reducible rfl)
  (try simp only [Act.put, List.setIfInBounds_toArray, List.set_cons_zero, List.set_cons_succ])
  refine RegE.takeL (S := fun wx => Lf8 wx b p1 p2 p3 t1 t2 t3) (i := 5) (v := ?v17x5) hB rfl (by decide) (by kernel_rfl) (by kernel_rfl) (fun _ _ _ h => h) (Or.inl ⟨by rfl, ?y17x5⟩) hHeld ?r17x5
  case y17x5 => ((intro wx hSw; obtain ⟨⟨x0, x1, x2, x3, x4⟩, ⟨y0, y1, y2, y3, y4⟩, ⟨z0, z1, z2, z3, z4⟩, ⟨n0, n1, n2, n3, n4⟩, ⟨m0, m1, m2, m3, m4⟩⟩ := And.intro (xD5_cells hSw.1.1) (And.intro (xD5_cells hSw.1.2.1) (And.intro (xD5_cells hSw.1.2.2.1) (And.intro (xD5_cells hSw.1.2.2.2.1) (xD5_cells hSw.1.2.2.2.2)))); obtain ⟨⟨k0, k1, k2, k3, k4⟩, ⟨l0, l1, l2, l3, l4⟩, ⟨o0, o1, o2, o3, o4⟩⟩ := And.intro (bxV_cells hSw.2.1) (And.intro (bxV_cells hSw.2.2.1) (bxV_cells hSw.2.2.2)); go_simp) <;> with_reducible rfl)
  (try simp only [Act.put, List.setIfInBounds_toArray, List.set_cons_zero, List.set_cons_succ])
  refine RegE.takeL (S := fun wx => Lf8 wx b p1 p2 p3 t1 t2 t3) (i := 6) (v := ?v17x6) hB rfl (by decide) (by kernel_rfl) (by kernel_rfl) (fun _ _ _ h => h) (Or.inl ⟨by rfl, ?y17x6⟩) hHeld ?r17x6
  case y17x6 => ((intro wx hSw; obtain ⟨⟨x0, x1, x2, x3, x4⟩, ⟨y0, y1, y2, y3, y4⟩, ⟨z0, z1, z2, z3, z4⟩, ⟨n0, n1, n2, n3, n4⟩, ⟨m0, m1, m2, m3, m4⟩⟩ := And.intro (xD5_cells hSw.1.1) (And.intro (xD5_cells hSw.1.2.1) (And.intro (xD5_cells hSw.1.2.2.1) (And.intro (xD5_cells hSw.1.2.2.2.1) (xD5_cells hSw.1.2.2.2.2)))); obtain ⟨⟨k0, k1, k2, k3, k4⟩, ⟨l0, l1, l2, l3, l4⟩, ⟨o0, o1, o2, o3, o4⟩⟩ := And.intro (bxV_cells hSw.2.1) (And.intro (bxV_cells hSw.2.2.1) (bxV_cells hSw.2.2.2)); go_simp) <;> with_reducible rfl)
  (try simp only [Act.put, List.setIfInBounds_toArray, List.set_cons_zero, List.set_cons_succ])
  refine RegE.stepL (i := 3) rfl (by decide) (by kernel_rfl) (fun K hK => ?_)
  go_simp
  go_at_call 24
  refine (opX_any 3 (opXN 5 (vN 0) (vN 1)) (opXN 5 (vN 0) (vN 2)) _ _ _ _ u901 (hHeld.2.1.2) (hHeld.2.2.1.2)).mono ?_; rintro e u902 ⟨g23, rfl, hV, hb⟩
  have HVg23 := Lib.hid hV
  clear hV
  replace HB := Lib.hid (bnext HB.out hb)
  replace HR := Lib.hid (HR.out.below hb)
  have HX := Lib.hid (Lf8.below hHeld hb)
  clear hb
  refine hK.out _ _ ?S17x3 (fun hHeldN => ?_)
  case S17x3 => exact HX.out
  clear hK K hHeld HX
  have hHeld := hHeldN
  clear hHeldN
  (try simp only [Act.put, List.setIfInBounds_toArray, List.set_cons_zero, List.set_cons_succ])
  refine RegE.stepL (i := 7) rfl (by decide) (by kernel_rfl) (fun K hK => ?_)
  go_simp
  go_at_call 24
  refine (opX_any 3 (vN 1) (vN 2) _ _ _ _ u902 (ExV.leaf _ (vN 1) rfl) (ExV.leaf _ (vN 2) rfl)).mono ?_; rintro e u903 ⟨g24, rfl, hV, hb⟩
  replace HVg23 := Lib.hid (HVg23.out.below hb)
  have HVg24 := Lib.hid hV
  clear hV
  replace HB := Lib.hid (bnext HB.out hb)
  replace HR := Lib.hid (HR.out.below hb)
  have HX := Lib.hid (Lf8.below hHeld hb)
  clear hb
  refine hK.out _ _ ?S17x7 (fun hHeldN => ?_)
  case S17x7 => exact HX.out
  clear hK K hHeld HX
  have hHeld := hHeldN
  clear hHeldN
  (try simp only [Act.put, List.setIfInBounds_toArray, List.set_cons_zero, List.set_cons_succ])
  refine RegE.stepL (i := 8) rfl (by decide) (by kernel_rfl) (fun K hK => ?_)
  go_simp
  go_at_call 24
  refine (opX_any 5 (vN 0) (opXN 3 (vN 1) (vN 2)) _ _ _ _ u903 (ExV.leaf _ (vN 0) rfl) (HVg24.out)).mono ?_; rintro e u904 ⟨g25, rfl, hV, hb⟩
  replace HVg23 := Lib.hid (HVg23.out.below hb)
  replace HVg24 := Lib.hid (HVg24.out.below hb)
  have HVg25 := Lib.hid hV
  clear hV
  replace HB := Lib.hid (bnext HB.out hb)
  replace HR := Lib.hid (HR.out.below hb)
  have HX := Lib.hid (Lf8.below hHeld hb)
  clear hb
  refine hK.out _ _ ?S17x8 (fun hHeldN => ?_)
  case S17x8 => exact HX.out
  clear hK K hHeld HX
  have hHeld := hHeldN
  clear hHeldN
  (try simp only [Act.put, List.setIfInBounds_toArray, List.set_cons_zero, List.set_cons_succ])
  refine RegE.stepL (i := 9) rfl (by decide) (by kernel_rfl) (fun K hK => ?_)
  go_simp
  go_at_call 23
  refine (pairS_any 3 (opXN 3 (opXN 5 (vN 0) (vN 1)) (opXN 5 (vN 0) (vN 2))) (opXN 5 (vN 0) (opXN 3 (vN 1) (vN 2))) (some ⟨g23, 0, none⟩) (some ⟨g25, 0, none⟩) 2 2 u904).mono ?_; rintro e u905 ⟨rfl, hb⟩
  replace HVg23 := Lib.hid (HVg23.out.below hb)
  replace HVg24 := Lib.hid (HVg24.out.below hb)
  replace HVg25 := Lib.hid (HVg25.out.below hb)
  replace HB := Lib.hid (bnext HB.out hb)
  replace HR := Lib.hid (HR.out.below hb)
  have HX := Lib.hid (Lf8.below hHeld hb)
  clear hb
  refine hK.out _ _ ?S17x9 (fun hHeldN => ?_)
  case S17x9 => exact HX.out
  clear hK K hHeld HX
  have hHeld := hHeldN
  clear hHeldN
  (try simp only [Act.put, List.setIfInBounds_toArray, List.set_cons_zero, List.set_cons_succ])
  refine RegE.stepL (i := 10) rfl (by decide) (by kernel_rfl) (fun K hK => ?_)
  have HP : Hid (RuF ((3, (opXN 3 (opXN 5 (vN 0) (vN 1)) (opXN 5 (vN 0) (vN 2)), (some ⟨g23, 0, none⟩), 2), (opXN 5 (vN 0) (opXN 3 (vN 1) (vN 2)), (some ⟨g25, 0, none⟩), 2)) : RuQ) u905) := ⟨HVg23.out, HVg25.out⟩
  go_simp
  have hb : Below u905.heap.size u905 (u905.alloc (.cells (ruD ((3, (opXN 3 (opXN 5 (vN 0) (vN 1)) (opXN 5 (vN 0) (vN 2)), (some ⟨g23, 0, none⟩), 2), (opXN 5 (vN 0) (opXN 3 (vN 1) (vN 2)), (some ⟨g25, 0, none⟩), 2)) : RuQ)).toArray 31)) := by go_grown
  refine hK.out _ _ ?S17x10 (fun hHeldN => ?_)
  case S17x10 => exact Lf8.below hHeld hb
  clear hK K hHeld
  have hHeld := hHeldN
  clear hHeldN hb
  (try simp only [Act.put, List.setIfInBounds_toArray, List.set_cons_zero, List.set_cons_succ])
  refine RegE.stepL (i := 11) rfl (by decide) (by kernel_rfl) (fun K hK => ?_)
  obtain ⟨ps, hG, hps⟩ := HR.out
  have HG := Lib.hid hG
  clear hG HR
  obtain ⟨W1, hW1⟩ : ∃ W1, W1 = u905.alloc (.cells (ruD ((3, (opXN 3 (opXN 5 (vN 0) (vN 1)) (opXN 5 (vN 0) (vN 2)), (some ⟨g23, 0, none⟩), 2), (opXN 5 (vN 0) (opXN 3 (vN 1) (vN 2)), (some ⟨g25, 0, none⟩), 2)) : RuQ)).toArray 31) := ⟨_, rfl⟩
  have hb1 : Below u905.heap.size u905 W1 := by rw [hW1]; go_grown
  have hC1 : Cells W1 u905.heap.size 31 (ruD ((3, (opXN 3 (opXN 5 (vN 0) (vN 1)) (opXN 5 (vN 0) (vN 2)), (some ⟨g23, 0, none⟩), 2), (opXN 5 (vN 0) (opXN 3 (vN 1) (vN 2)), (some ⟨g25, 0, none⟩), 2)) : RuQ)) := by rw [hW1]; exact Cells.new _ _ _
  have HO := Lib.hid (HG.out.below hb1).own
  have hpl : ps.length = 13 := by have := congrArg List.length hps; simpa using this
  change if _ then Oper.wp _ _ _ (u905.alloc (.cells (ruD ((3, (opXN 3 (opXN 5 (vN 0) (vN 1)) (opXN 5 (vN 0) (vN 2)), (some ⟨g23, 0, none⟩), 2), (opXN 5 (vN 0) (opXN 3 (vN 1) (vN 2)), (some ⟨g25, 0, none⟩), 2)) : RuQ)).toArray 31)) _ _ else _
  rw [← hW1]
  refine step_append_at rfl (.tmp 140) (.tmp 150) 22 rfl q0 31 i0 _ 11 120 Try.underlying22 hi hz0 hz1 hz2 rfl (by decide) v15 _ _ (by simp [Act.eval]) HO.out ⟨u905.heap.size, 0, none⟩ 1 1 (ruD ((3, (opXN 3 (opXN 5 (vN 0) (vN 1)) (opXN 5 (vN 0) (vN 2)), (some ⟨g23, 0, none⟩), 2), (opXN 5 (vN 0) (opXN 3 (vN 1) (vN 2)), (some ⟨g25, 0, none⟩), 2)) : RuQ)) (by simp [Act.eval]) rfl ?n17 ?o17 ?p17 ?q17 ?t17 ?_
  case n17 => intro j z hj; rw [addr_add, Nat.zero_add]; exact (hC1.cell j).trans hj
  case o17 => intro z hz; simp only [ruD, List.mem_cons, List.not_mem_nil, or_false] at hz; rcases hz with rfl | rfl | rfl | rfl | rfl | rfl | rfl | rfl | rfl | rfl | rfl <;> rfl
  case p17 => simp only [List.length_map]; unfold maxLen; omega
  case q17 => simp only [List.length_map]; omega
  case t17 => have := (HG.out.below hb1).size; exact this
  intro v17 u906 hown hg hat
  obtain ⟨h1, h2, h3⟩ := RRow.push HG.out (Below.refl _ _) HP.out hb1 hown hg hat
  rw [hps] at h1
  have HR : Hid (RRow u906 q0 v17 [(1, opXN 3 (vN 0) (cN 0), vN 0), (1, opXN 3 (cN 0) (vN 0), vN 0), (1, opXN 4 (vN 0) (cN 0), vN 0), (1, opXN 4 (cN 0) (vN 0), ngN (vN 0)), (1, opXN 5 (vN 0) (cN 1), vN 0), (1, opXN 5 (cN 1) (vN 0), vN 0), (1, opXN 5 (vN 0) (cN 0), cN 0), (1, opXN 5 (cN 0) (vN 0), cN 0), (1, ngN (ngN (vN 0)), vN 0), (2, opXN 3 (vN 0) (ngN (vN 1)), opXN 4 (vN 0) (vN 1)), (2, opXN 4 (vN 0) (ngN (vN 1)), opXN 3 (vN 0) (vN 1)), (2, opXN 5 (ngN (vN 0)) (ngN (vN 1)), opXN 5 (vN 0) (vN 1)), (1, opXN 4 (vN 0) (vN 0), cN 0), (3, opXN 3 (opXN 5 (vN 0) (vN 1)) (opXN 5 (vN 0) (vN 2)), opXN 5 (vN 0) (opXN 3 (vN 1) (vN 2)))]) := h1
  replace HB : Hid (Below w.heap.size w u906) := HB.out.trans (h2.mono HL.out)
  have HX := Lib.hid (Lf8.next (by rw [hW1]; exact hHeld) h3 : Lf8 u906 b p1 p2 p3 t1 t2 t3)
  clear HVg23
  clear HVg24
  clear HVg25
  clear HG HO hpl hC1 hb1 h1 h2 h3 hown hg hat HP
  refine hK.out _ _ ?S17x11 (fun hHeldN => ?_)
  case S17x11 => exact HX.out
  clear hK K hHeld hHeldN hps hW1 W1
  (try simp only [Act.put, List.setIfInBounds_toArray, List.set_cons_zero, List.set_cons_succ])
  refine RegE.lastL rfl (by kernel_rfl) (by kernel_rfl) (fun K hK => ?_)
  go_simp
  refine hK.out _ _ ?_
  clear hK K hB
  (try simp only [Act.put, List.setIfInBounds_toArray, List.set_cons_zero, List.set_cons_succ])
  go_upto_region 18 with fail
  have HXD : Hid (Lf8 u906.drew b p1 p2 p3 t1 t2 t3) := Lf8.below HX.out (Below.refl _ _).drew
  have HBD : Hid (Below w.heap.size w u906.drew) := HB.out.drew
  have HRD : Hid (RRow u906.drew q0 v17 _) := HR.out.below (Below.refl _ _).drew
  refine RegE.start (S := fun wx => Lf8 wx b p1 p2 p3 t1 t2 t3) 12 (by kernel_rfl) (by kernel_rfl) HXD.out (fun hHeld hB => ?_)
  clear HXD HX HB HR
  have HB := HBD
  have HR := HRD
  clear HBD HRD
  generalize u906.drew = u907 at *
  refine RegE.takeL (S := fun wx => Lf8 wx b p1 p2 p3 t1 t2 t3) (i := 0) (v := ?v18x0) hB rfl (by decide) (by kernel_rfl) (by kernel_rfl) (fun _ _ _ h => h) (Or.inl ⟨by rfl, ?y18x0⟩) hHeld ?r18x0
  case y18x0 => ((intro wx _; go_simp) <;> with_reducible rfl)
  (try simp only [Act.put, List.setIfInBounds_toArray, List.set_cons_zero, List.set_cons_succ])
  refine RegE.takeL (S := fun wx => Lf8 wx b p1 p2 p3 t1 t2 t3) (i := 1) (v := ?v18x1) hB rfl (by decide) (by kernel_rfl) (by kernel_rfl) (fun _ _ _ h => h) (Or.inl ⟨by rfl, ?y18x1⟩) hHeld ?r18x1
  case y18x1 => ((intro wx hSw; obtain ⟨⟨x0, x1, x2, x3, x4⟩, ⟨y0, y1, y2, y3, y4⟩, ⟨z0, z1, z2, z3, z4⟩, ⟨n0, n1, n2, n3, n4⟩, ⟨m0, m1, m2, m3, m4⟩⟩ := And.intro (xD5_cells hSw.1.1) (And.intro (xD5_cells hSw.1.2.1) (And.intro (xD5_cells hSw.1.2.2.1) (And.intro (xD5_cells hSw.1.2.2.2.1) (xD5_cells hSw.1.2.2.2.2)))); obtain ⟨⟨k0, k1, k2, k3, k4⟩, ⟨l0, l1, l2, l3, l4⟩, ⟨o0, o1, o2, o3, o4⟩⟩ := And.intro (bxV_cells hSw.2.1) (And.intro (bxV_cells hSw.2.2.1) (bxV_cells hSw.2.2.2)); go_simp) <;> with_reducible rfl)
  (try simp only [Act.put, List.setIfInBounds_toArray, List.set_cons_zero, List.set_cons_succ])
  refine RegE.takeL (S := fun wx => Lf8 wx b p1 p2 p3 t1 t2 t3) (i := 2) (v := ?v18x2) hB rfl (by decide) (by kernel_rfl) (by kernel_rfl) (fun _ _ _ h => h) (Or.inl ⟨by rfl, ?y18x2⟩) hHeld ?r18x2
  case y18x2 => ((intro wx hSw; obtain ⟨⟨x0, x1, x2, x3, x4⟩, ⟨y0, y1, y2, y3, y4⟩, ⟨z0, z1, z2, z3, z4⟩, ⟨n0, n1, n2, n3, n4⟩, ⟨m0, m1, m2, m3, m4⟩⟩ := And.intro (xD5_cells hSw.1.1) (And.intro (xD5_cells hSw.1.2.1) (And.intro (xD5_cells hSw.1.2.2.1) (And.intro (xD5_cells hSw.1.2.2.2.1) (xD5_cells hSw.1.2.2.2.2)))); obtain ⟨⟨k0, k1, k2, k3, k4⟩, ⟨l0, l1, l2, l3, l4⟩, ⟨o0, o1, o2, o3, o4⟩⟩ := And.intro (bxV_cells hSw.2.1) (And.intro (bxV_cells hSw.2.2.1) (bxV_cells hSw.2.2.2)); go_simp) <;> with_reducible rfl)
  (try simp only [Act.put, List.setIfInBounds_toArray, List.set_cons_zero, List.set_cons_succ])
  refine RegE.takeL (S := fun wx => Lf8 wx b p1 p2 p3 t1 t2 t3) (i := 4) (v := ?v18x4) hB rfl (by decide) (by kernel_rfl) (by kernel_rfl) (fun _ _ _ h => h) (Or.inl ⟨by rfl, ?y18x4⟩) hHeld ?r18x4
  case y18x4 => ((intro wx hSw; obtain ⟨⟨x0, x1, x2, x3, x4⟩, ⟨y0, y1, y2, y3, y4⟩, ⟨z0, z1, z2, z3, z4⟩, ⟨n0, n1, n2, n3, n4⟩, ⟨m0, m1, m2, m3, m4⟩⟩ := And.intro (xD5_cells hSw.1.1) (And.intro (xD5_cells hSw.1.2.1) (And.intro (xD5_cells hSw.1.2.2.1) (And.intro (xD5_cells hSw.1.2.2.2.1) (xD5_cells hSw.1.2.2.2.2)))); obtain ⟨⟨k0, k1, k2, k3, k4⟩, ⟨l0, l1, l2, l3, l4⟩, ⟨o0, o1, o2, o3, o4⟩⟩ := And.intro (bxV_cells hSw.2.1) (And.intro (bxV_cells hSw.2.2.1) (bxV_cells hSw.2.2.2)); go_simp) <;> with_reducible rfl)
  (try simp only [Act.put, List.setIfInBounds_toArray, List.set_cons_zero, List.set_cons_succ])
  refine RegE.takeL (S := fun wx => Lf8 wx b p1 p2 p3 t1 t2 t3) (i := 5) (v := ?v18x5) hB rfl (by decide) (by kernel_rfl) (by kernel_rfl) (fun _ _ _ h => h) (Or.inl ⟨by rfl, ?y18x5⟩) hHeld ?r18x5
  case y18x5 => ((intro wx hSw; obtain ⟨⟨x0, x1, x2, x3, x4⟩, ⟨y0, y1, y2, y3, y4⟩, ⟨z0, z1, z2, z3, z4⟩, ⟨n0, n1, n2, n3, n4⟩, ⟨m0, m1, m2, m3, m4⟩⟩ := And.intro (xD5_cells hSw.1.1) (And.intro (xD5_cells hSw.1.2.1) (And.intro (xD5_cells hSw.1.2.2.1) (And.intro (xD5_cells hSw.1.2.2.2.1) (xD5_cells hSw.1.2.2.2.2)))); obtain ⟨⟨k0, k1, k2, k3, k4⟩, ⟨l0, l1, l2, l3, l4⟩, ⟨o0, o1, o2, o3, o4⟩⟩ := And.intro (bxV_cells hSw.2.1) (And.intro (bxV_cells hSw.2.2.1) (bxV_cells hSw.2.2.2)); go_simp) <;> with_reducible rfl)
  (try simp only [Act.put, List.setIfInBounds_toArray, List.set_cons_zero, List.set_cons_succ])
  refine RegE.takeL (S := fun wx => Lf8 wx b p1 p2 p3 t1 t2 t3) (i := 7) (v := ?v18x7) hB rfl (by decide) (by kernel_rfl) (by kernel_rfl) (fun _ _ _ h => h) (Or.inl ⟨by rfl, ?y18x7⟩) hHeld ?r18x7
  case y18x7 => ((intro wx hSw; obtain ⟨⟨x0, x1, x2, x3, x4⟩, ⟨y0, y1, y2, y3, y4⟩, ⟨z0, z1, z2, z3, z4⟩, ⟨n0, n1, n2, n3, n4⟩, ⟨m0, m1, m2, m3, m4⟩⟩ := And.intro (xD5_cells hSw.1.1) (And.intro (xD5_cells hSw.1.2.1) (And.intro (xD5_cells hSw.1.2.2.1) (And.intro (xD5_cells hSw.1.2.2.2.1) (xD5_cells hSw.1.2.2.2.2)))); obtain ⟨⟨k0, k1, k2, k3, k4⟩, ⟨l0, l1, l2, l3, l4⟩, ⟨o0, o1, o2, o3, o4⟩⟩ := And.intro (bxV_cells hSw.2.1) (And.intro (bxV_cells hSw.2.2.1) (bxV_cells hSw.2.2.2)); go_simp) <;> with_reducible rfl)
  (try simp only [Act.put, List.setIfInBounds_toArray, List.set_cons_zero, List.set_cons_succ])
  refine RegE.stepL (i := 3) rfl (by decide) (by kernel_rfl) (fun K hK => ?_)
  go_simp
  go_at_call 24
  refine (opX_any 3 (opXN 5 (vN 0) (vN 2)) (opXN 5 (vN 1) (vN 2)) _ _ _ _ u907 (hHeld.2.2.1.2) (hHeld.2.2.2.2)).mono ?_; rintro e u908 ⟨g26, rfl, hV, hb⟩
  have HVg26 := Lib.hid hV
  clear hV
  replace HB := Lib.hid (bnext HB.out hb)
  replace HR := Lib.hid (HR.out.below hb)
  have HX := Lib.hid (Lf8.below hHeld hb)
  clear hb
  refine hK.out _ _ ?S18x3 (fun hHeldN => ?_)
  case S18x3 => exact HX.out
  clear hK K hHeld HX
  have hHeld := hHeldN
  clear hHeldN
  (try simp only [Act.put, List.setIfInBounds_toArray, List.set_cons_zero, List.set_cons_succ])
  refine RegE.stepL (i := 6) rfl (by decide) (by kernel_rfl) (fun K hK => ?_)
  go_simp
  go_at_call 24
  refine (opX_any 3 (vN 0) (vN 1) _ _ _ _ u908 (ExV.leaf _ (vN 0) rfl) (ExV.leaf _ (vN 1) rfl)).mono ?_; rintro e u909 ⟨g27, rfl, hV, hb⟩
  replace HVg26 := Lib.hid (HVg26.out.below hb)
  have HVg27 := Lib.hid hV
  clear hV
  replace HB := Lib.hid (bnext HB.out hb)
  replace HR := Lib.hid (HR.out.below hb)
  have HX := Lib.hid (Lf8.below hHeld hb)
  clear hb
  refine hK.out _ _ ?S18x6 (fun hHeldN => ?_)
  case S18x6 => exact HX.out
  clear hK K hHeld HX
  have hHeld := hHeldN
  clear hHeldN
  (try simp only [Act.put, List.setIfInBounds_toArray, List.set_cons_zero, List.set_cons_succ])
  refine RegE.stepL (i := 8) rfl (by decide) (by kernel_rfl) (fun K hK => ?_)
  go_simp
  go_at_call 24
  refine (opX_any 5 (opXN 3 (vN 0) (vN 1)) (vN 2) _ _ _ _ u909 (HVg27.out) (ExV.leaf _ (vN 2) rfl)).mono ?_; rintro e u910 ⟨g28, rfl, hV, hb⟩
  replace HVg26 := Lib.hid (HVg26.out.below hb)
  replace HVg27 := Lib.hid (HVg27.out.below hb)
  have HVg28 := Lib.hid hV
  clear hV
  replace HB := Lib.hid (bnext HB.out hb)
  replace HR := Lib.hid (HR.out.below hb)
  have HX := Lib.hid (Lf8.below hHeld hb)
  clear hb
  refine hK.out _ _ ?S18x8 (fun hHeldN => ?_)
  case S18x8 => exact HX.out
  clear hK K hHeld HX
  have hHeld := hHeldN
  clear hHeldN
  (try simp only [Act.put, List.setIfInBounds_toArray, List.set_cons_zero, List.set_cons_succ])
  refine RegE.stepL (i := 9) rfl (by decide) (by kernel_rfl) (fun K hK => ?_)
  go_simp
  go_at_call 23
  refine (pairS_any 3 (opXN 3 (opXN 5 (vN 0) (vN 2)) (opXN 5 (vN 1) (vN 2))) (opXN 5 (opXN 3 (vN 0) (vN 1)) (vN 2)) (some ⟨g26, 0, none⟩) (some ⟨g28, 0, none⟩) 2 2 u910).mono ?_; rintro e u911 ⟨rfl, hb⟩
  replace HVg26 := Lib.hid (HVg26.out.below hb)
  replace HVg27 := Lib.hid (HVg27.out.below hb)
  replace HVg28 := Lib.hid (HVg28.out.below hb)
  replace HB := Lib.hid (bnext HB.out hb)
  replace HR := Lib.hid (HR.out.below hb)
  have HX := Lib.hid (Lf8.below hHeld hb)
  clear hb
  refine hK.out _ _ ?S18x9 (fun hHeldN => ?_)
  case S18x9 => exact HX.out
  clear hK K hHeld HX
  have hHeld := hHeldN
  clear hHeldN
  (try simp only [Act.put, List.setIfInBounds_toArray, List.set_cons_zero, List.set_cons_succ])
  refine RegE.stepL (i := 10) rfl (by decide) (by kernel_rfl) (fun K hK => ?_)
  have HP : Hid (RuF ((3, (opXN 3 (opXN 5 (vN 0) (vN 2)) (opXN 5 (vN 1) (vN 2)), (some ⟨g26, 0, none⟩), 2), (opXN 5 (opXN 3 (vN 0) (vN 1)) (vN 2), (some ⟨g28, 0, none⟩), 2)) : RuQ) u911) := ⟨HVg26.out, HVg28.out⟩
  go_simp
  have hb : Below u911.heap.size u911 (u911.alloc (.cells (ruD ((3, (opXN 3 (opXN 5 (vN 0) (vN 2)) (opXN 5 (vN 1) (vN 2)), (some ⟨g26, 0, none⟩), 2), (opXN 5 (opXN 3 (vN 0) (vN 1)) (vN 2), (some ⟨g28, 0, none⟩), 2)) : RuQ)).toArray 31)) := by go_grown
  refine hK.out _ _ ?S18x10 (fun hHeldN => ?_)
  case S18x10 => exact Lf8.below hHeld hb
  clear hK K hHeld
  have hHeld := hHeldN
  clear hHeldN hb
  (try simp only [Act.put, List.setIfInBounds_toArray, List.set_cons_zero, List.set_cons_succ])
  refine RegE.stepL (i := 11) rfl (by decide) (by kernel_rfl) (fun K hK => ?_)
  obtain ⟨ps, hG, hps⟩ := HR.out
  have HG := Lib.hid hG
  clear hG HR
  obtain ⟨W1, hW1⟩ : ∃ W1, W1 = u911.alloc (.cells (ruD ((3, (opXN 3 (opXN 5 (vN 0) (vN 2)) (opXN 5 (vN 1) (vN 2)), (some ⟨g26, 0, none⟩), 2), (opXN 5 (opXN 3 (vN 0) (vN 1)) (vN 2), (some ⟨g28, 0, none⟩), 2)) : RuQ)).toArray 31) := ⟨_, rfl⟩
  have hb1 : Below u911.heap.size u911 W1 := by rw [hW1]; go_grown
  have hC1 : Cells W1 u911.heap.size 31 (ruD ((3, (opXN 3 (opXN 5 (vN 0) (vN 2)) (opXN 5 (vN 1) (vN 2)), (some ⟨g26, 0, none⟩), 2), (opXN 5 (opXN 3 (vN 0) (vN 1)) (vN 2), (some ⟨g28, 0, none⟩), 2)) : RuQ)) := by rw [hW1]; exact Cells.new _ _ _
  have HO := Lib.hid (HG.out.below hb1).own
  have hpl : ps.length = 14 := by have := congrArg List.length hps; simpa using this
  change if _ then Oper.wp _ _ _ (u911.alloc (.cells (ruD ((3, (opXN 3 (opXN 5 (vN 0) (vN 2)) (opXN 5 (vN 1) (vN 2)), (some ⟨g26, 0, none⟩), 2), (opXN 5 (opXN 3 (vN 0) (vN 1)) (vN 2), (some ⟨g28, 0, none⟩), 2)) : RuQ)).toArray 31)) _ _ else _
  rw [← hW1]
  refine step_append_at rfl (.tmp 152) (.tmp 162) 22 rfl q0 31 i0 _ 11 120 Try.underlying22 hi hz0 hz1 hz2 rfl (by decide) v17 _ _ (by simp [Act.eval]) HO.out ⟨u911.heap.size, 0, none⟩ 1 1 (ruD ((3, (opXN 3 (opXN 5 (vN 0) (vN 2)) (opXN 5 (vN 1) (vN 2)), (some ⟨g26, 0, none⟩), 2), (opXN 5 (opXN 3 (vN 0) (vN 1)) (vN 2), (some ⟨g28, 0, none⟩), 2)) : RuQ)) (by simp [Act.eval]) rfl ?n18 ?o18 ?p18 ?q18 ?t18 ?_
  case n18 => intro j z hj; rw [addr_add, Nat.zero_add]; exact (hC1.cell j).trans hj
  case o18 => intro z hz; simp only [ruD, List.mem_cons, List.not_mem_nil, or_false] at hz; rcases hz with rfl | rfl | rfl | rfl | rfl | rfl | rfl | rfl | rfl | rfl | rfl <;> rfl
  case p18 => simp only [List.length_map]; unfold maxLen; omega
  case q18 => simp only [List.length_map]; omega
  case t18 => have := (HG.out.below hb1).size; exact this
  intro v18 u912 hown hg hat
  obtain ⟨h1, h2, h3⟩ := RRow.push HG.out (Below.refl _ _) HP.out hb1 hown hg hat
  rw [hps] at h1
  have HR : Hid (RRow u912 q0 v18 [(1, opXN 3 (vN 0) (cN 0), vN 0), (1, opXN 3 (cN 0) (vN 0), vN 0), (1, opXN 4 (vN 0) (cN 0), vN 0), (1, opXN 4 (cN 0) (vN 0), ngN (vN 0)), (1, opXN 5 (vN 0) (cN 1), vN 0), (1, opXN 5 (cN 1) (vN 0), vN 0), (1, opXN 5 (vN 0) (cN 0), cN 0), (1, opXN 5 (cN 0) (vN 0), cN 0), (1, ngN (ngN (vN 0)), vN 0), (2, opXN 3 (vN 0) (ngN (vN 1)), opXN 4 (vN 0) (vN 1)), (2, opXN 4 (vN 0) (ngN (vN 1)), opXN 3 (vN 0) (vN 1)), (2, opXN 5 (ngN (vN 0)) (ngN (vN 1)), opXN 5 (vN 0) (vN 1)), (1, opXN 4 (vN 0) (vN 0), cN 0), (3, opXN 3 (opXN 5 (vN 0) (vN 1)) (opXN 5 (vN 0) (vN 2)), opXN 5 (vN 0) (opXN 3 (vN 1) (vN 2))), (3, opXN 3 (opXN 5 (vN 0) (vN 2)) (opXN 5 (vN 1) (vN 2)), opXN 5 (opXN 3 (vN 0) (vN 1)) (vN 2))]) := h1
  replace HB : Hid (Below w.heap.size w u912) := HB.out.trans (h2.mono HL.out)
  have HX := Lib.hid (Lf8.next (by rw [hW1]; exact hHeld) h3 : Lf8 u912 b p1 p2 p3 t1 t2 t3)
  clear HVg26
  clear HVg27
  clear HVg28
  clear HG HO hpl hC1 hb1 h1 h2 h3 hown hg hat HP
  refine hK.out _ _ ?S18x11 (fun hHeldN => ?_)
  case S18x11 => exact HX.out
  clear hK K hHeld hHeldN hps hW1 W1
  (try simp only [Act.put, List.setIfInBounds_toArray, List.set_cons_zero, List.set_cons_succ])
  refine RegE.lastL rfl (by kernel_rfl) (by kernel_rfl) (fun K hK => ?_)
  go_simp
  refine hK.out _ _ ?_
  clear hK K hB
  (try simp only [Act.put, List.setIfInBounds_toArray, List.set_cons_zero, List.set_cons_succ])
  go_upto_region 19 with fail
  have HXD : Hid (Lf8 u912.drew b p1 p2 p3 t1 t2 t3) := Lf8.below HX.out (Below.refl _ _).drew
  have HBD : Hid (Below w.heap.size w u912.drew) := HB.out.drew
  have HRD : Hid (RRow u912.drew q0 v18 _) := HR.out.below (Below.refl _ _).drew
  refine RegE.start (S := fun wx => Lf8 wx b p1 p2 p3 t1 t2 t3) 12 (by kernel_rfl) (by kernel_rfl) HXD.out (fun hHeld hB => ?_)
  clear HXD HX HB HR
  have HB := HBD
  have HR := HRD
  clear HBD HRD
  generalize u912.drew = u913 at *
  refine RegE.takeL (S := fun wx => Lf8 wx b p1 p2 p3 t1 t2 t3) (i := 0) (v := ?v19x0) hB rfl (by decide) (by kernel_rfl) (by kernel_rfl) (fun _ _ _ h => h) (Or.inl ⟨by rfl, ?y19x0⟩) hHeld ?r19x0
  case y19x0 => ((intro wx _; go_simp) <;> with_reducible rfl)
  (try simp only [Act.put, List.setIfInBounds_toArray, List.set_cons_zero, List.set_cons_succ])
  refine RegE.takeL (S := fun wx => Lf8 wx b p1 p2 p3 t1 t2 t3) (i := 1) (v := ?v19x1) hB rfl (by decide) (by kernel_rfl) (by kernel_rfl) (fun _ _ _ h => h) (Or.inl ⟨by rfl, ?y19x1⟩) hHeld ?r19x1
  case y19x1 => ((intro wx hSw; obtain ⟨⟨x0, x1, x2, x3, x4⟩, ⟨y0, y1, y2, y3, y4⟩, ⟨z0, z1, z2, z3, z4⟩, ⟨n0, n1, n2, n3, n4⟩, ⟨m0, m1, m2, m3, m4⟩⟩ := And.intro (xD5_cells hSw.1.1) (And.intro (xD5_cells hSw.1.2.1) (And.intro (xD5_cells hSw.1.2.2.1) (And.intro (xD5_cells hSw.1.2.2.2.1) (xD5_cells hSw.1.2.2.2.2)))); obtain ⟨⟨k0, k1, k2, k3, k4⟩, ⟨l0, l1, l2, l3, l4⟩, ⟨o0, o1, o2, o3, o4⟩⟩ := And.intro (bxV_cells hSw.2.1) (And.intro (bxV_cells hSw.2.2.1) (bxV_cells hSw.2.2.2)); go_simp) <;> with_reducible rfl)
  (try simp only [Act.put, List.setIfInBounds_toArray, List.set_cons_zero, List.set_cons_succ])
  refine RegE.takeL (S := fun wx => Lf8 wx b p1 p2 p3 t1 t2 t3) (i := 2) (v := ?v19x2) hB rfl (by decide) (by kernel_rfl) (by kernel_rfl) (fun _ _ _ h => h) (Or.inl ⟨by rfl, ?y19x2⟩) hHeld ?r19x2
  case y19x2 => ((intro wx hSw; obtain ⟨⟨x0, x1, x2, x3, x4⟩, ⟨y0, y1, y2, y3, y4⟩, ⟨z0, z1, z2, z3, z4⟩, ⟨n0, n1, n2, n3, n4⟩, ⟨m0, m1, m2, m3, m4⟩⟩ := And.intro (xD5_cells hSw.1.1) (And.intro (xD5_cells hSw.1.2.1) (And.intro (xD5_cells hSw.1.2.2.1) (And.intro (xD5_cells hSw.1.2.2.2.1) (xD5_cells hSw.1.2.2.2.2)))); obtain ⟨⟨k0, k1, k2, k3, k4⟩, ⟨l0, l1, l2, l3, l4⟩, ⟨o0, o1, o2, o3, o4⟩⟩ := And.intro (bxV_cells hSw.2.1) (And.intro (bxV_cells hSw.2.2.1) (bxV_cells hSw.2.2.2)); go_simp) <;> with_reducible rfl)
  (try simp only [Act.put, List.setIfInBounds_toArray, List.set_cons_zero, List.set_cons_succ])
  refine RegE.takeL (S := fun wx => Lf8 wx b p1 p2 p3 t1 t2 t3) (i := 4) (v := ?v19x4) hB rfl (by decide) (by kernel_rfl) (by kernel_rfl) (fun _ _ _ h => h) (Or.inl ⟨by rfl, ?y19x4⟩) hHeld ?r19x4
  case y19x4 => ((intro wx hSw; obtain ⟨⟨x0, x1, x2, x3, x4⟩, ⟨y0, y1, y2, y3, y4⟩, ⟨z0, z1, z2, z3, z4⟩, ⟨n0, n1, n2, n3, n4⟩, ⟨m0, m1, m2, m3, m4⟩⟩ := And.intro (xD5_cells hSw.1.1) (And.intro (xD5_cells hSw.1.2.1) (And.intro (xD5_cells hSw.1.2.2.1) (And.intro (xD5_cells hSw.1.2.2.2.1) (xD5_cells hSw.1.2.2.2.2)))); obtain ⟨⟨k0, k1, k2, k3, k4⟩, ⟨l0, l1, l2, l3, l4⟩, ⟨o0, o1, o2, o3, o4⟩⟩ := And.intro (bxV_cells hSw.2.1) (And.intro (bxV_cells hSw.2.2.1) (bxV_cells hSw.2.2.2)); go_simp) <;> with_reducible rfl)
  (try simp only [Act.put, List.setIfInBounds_toArray, List.set_cons_zero, List.set_cons_succ])
  refine RegE.takeL (S := fun wx => Lf8 wx b p1 p2 p3 t1 t2 t3) (i := 5) (v := ?v19x5) hB rfl (by decide) (by kernel_rfl) (by kernel_rfl) (fun _ _ _ h => h) (Or.inl ⟨by rfl, ?y19x5⟩) hHeld ?r19x5
  case y19x5 => ((intro wx hSw; obtain ⟨⟨x0, x1, x2, x3, x4⟩, ⟨y0, y1, y2, y3, y4⟩, ⟨z0, z1, z2, z3, z4⟩, ⟨n0, n1, n2, n3, n4⟩, ⟨m0, m1, m2, m3, m4⟩⟩ := And.intro (xD5_cells hSw.1.1) (And.intro (xD5_cells hSw.1.2.1) (And.intro (xD5_cells hSw.1.2.2.1) (And.intro (xD5_cells hSw.1.2.2.2.1) (xD5_cells hSw.1.2.2.2.2)))); obtain ⟨⟨k0, k1, k2, k3, k4⟩, ⟨l0, l1, l2, l3, l4⟩, ⟨o0, o1, o2, o3, o4⟩⟩ := And.intro (bxV_cells hSw.2.1) (And.intro (bxV_cells hSw.2.2.1) (bxV_cells hSw.2.2.2)); go_simp) <;> with_reducible rfl)
  (try simp only [Act.put, List.setIfInBounds_toArray, List.set_cons_zero, List.set_cons_succ])
  refine RegE.takeL (S := fun wx => Lf8 wx b p1 p2 p3 t1 t2 t3) (i := 6) (v := ?v19x6) hB rfl (by decide) (by kernel_rfl) (by kernel_rfl) (fun _ _ _ h => h) (Or.inl ⟨by rfl, ?y19x6⟩) hHeld ?r19x6
  case y19x6 => ((intro wx hSw; obtain ⟨⟨x0, x1, x2, x3, x4⟩, ⟨y0, y1, y2, y3, y4⟩, ⟨z0, z1, z2, z3, z4⟩, ⟨n0, n1, n2, n3, n4⟩, ⟨m0, m1, m2, m3, m4⟩⟩ := And.intro (xD5_cells hSw.1.1) (And.intro (xD5_cells hSw.1.2.1) (And.intro (xD5_cells hSw.1.2.2.1) (And.intro (xD5_cells hSw.1.2.2.2.1) (xD5_cells hSw.1.2.2.2.2)))); obtain ⟨⟨k0, k1, k2, k3, k4⟩, ⟨l0, l1, l2, l3, l4⟩, ⟨o0, o1, o2, o3, o4⟩⟩ := And.intro (bxV_cells hSw.2.1) (And.intro (bxV_cells hSw.2.2.1) (bxV_cells hSw.2.2.2)); go_simp) <;> with_reducible rfl)
  (try simp only [Act.put, List.setIfInBounds_toArray, List.set_cons_zero, List.set_cons_succ])
  refine RegE.stepL (i := 3) rfl (by decide) (by kernel_rfl) (fun K hK => ?_)
  go_simp
  go_at_call 24
  refine (opX_any 4 (opXN 5 (vN 0) (vN 1)) (opXN 5 (vN 0) (vN 2)) _ _ _ _ u913 (hHeld.2.1.2) (hHeld.2.2.1.2)).mono ?_; rintro e u914 ⟨g29, rfl, hV, hb⟩
  have HVg29 := Lib.hid hV
  clear hV
  replace HB := Lib.hid (bnext HB.out hb)
  replace HR := Lib.hid (HR.out.below hb)
  have HX := Lib.hid (Lf8.below hHeld hb)
  clear hb
  refine hK.out _ _ ?S19x3 (fun hHeldN => ?_)
  case S19x3 => exact HX.out
  clear hK K hHeld HX
  have hHeld := hHeldN
  clear hHeldN
  (try simp only [Act.put, List.setIfInBounds_toArray, List.set_cons_zero, List.set_cons_succ])
  refine RegE.stepL (i := 7) rfl (by decide) (by kernel_rfl) (fun K hK => ?_)
  go_simp
  go_at_call 24
  refine (opX_any 4 (vN 1) (vN 2) _ _ _ _ u914 (ExV.leaf _ (vN 1) rfl) (ExV.leaf _ (vN 2) rfl)).mono ?_; rintro e u915 ⟨g30, rfl, hV, hb⟩
  replace HVg29 := Lib.hid (HVg29.out.below hb)
  have HVg30 := Lib.hid hV
  clear hV
  replace HB := Lib.hid (bnext HB.out hb)
  replace HR := Lib.hid (HR.out.below hb)
  have HX := Lib.hid (Lf8.below hHeld hb)
  clear hb
  refine hK.out _ _ ?S19x7 (fun hHeldN => ?_)
  case S19x7 => exact HX.out
  clear hK K hHeld HX
  have hHeld := hHeldN
  clear hHeldN
  (try simp only [Act.put, List.setIfInBounds_toArray, List.set_cons_zero, List.set_cons_succ])
  refine RegE.stepL (i := 8) rfl (by decide) (by kernel_rfl) (fun K hK => ?_)
  go_simp
  go_at_call 24
  refine (opX_any 5 (vN 0) (opXN 4 (vN 1) (vN 2)) _ _ _ _ u915 (ExV.leaf _ (vN 0) rfl) (HVg30.out)).mono ?_; rintro e u916 ⟨g31, rfl, hV, hb⟩
  replace HVg29 := Lib.hid (HVg29.out.below hb)
  replace HVg30 := Lib.hid (HVg30.out.below hb)
  have HVg31 := Lib.hid hV
  clear hV
  replace HB := Lib.hid (bnext HB.out hb)
  replace HR := Lib.hid (HR.out.below hb)
  have HX := Lib.hid (Lf8.below hHeld hb)
  clear hb
  refine hK.out _ _ ?S19x8 (fun hHeldN => ?_)
  case S19x8 => exact HX.out
  clear hK K hHeld HX
  have hHeld := hHeldN
  clear hHeldN
  (try simp only [Act.put, List.setIfInBounds_toArray, List.set_cons_zero, List.set_cons_succ])
  refine RegE.stepL (i := 9) rfl (by decide) (by kernel_rfl) (fun K hK => ?_)
  go_simp
  go_at_call 23
  refine (pairS_any 3 (opXN 4 (opXN 5 (vN 0) (vN 1)) (opXN 5 (vN 0) (vN 2))) (opXN 5 (vN 0) (opXN 4 (vN 1) (vN 2))) (some ⟨g29, 0, none⟩) (some ⟨g31, 0, none⟩) 2 2 u916).mono ?_; rintro e u917 ⟨rfl, hb⟩
  replace HVg29 := Lib.hid (HVg29.out.below hb)
  replace HVg30 := Lib.hid (HVg30.out.below hb)
  replace HVg31 := Lib.hid (HVg31.out.below hb)
  replace HB := Lib.hid (bnext HB.out hb)
  replace HR := Lib.hid (HR.out.below hb)
  have HX := Lib.hid (Lf8.below hHeld hb)
  clear hb
  refine hK.out _ _ ?S19x9 (fun hHeldN => ?_)
  case S19x9 => exact HX.out
  clear hK K hHeld HX
  have hHeld := hHeldN
  clear hHeldN
  (try simp only [Act.put, List.setIfInBounds_toArray, List.set_cons_zero, List.set_cons_succ])
  refine RegE.stepL (i := 10) rfl (by decide) (by kernel_rfl) (fun K hK => ?_)
  have HP : Hid (RuF ((3, (opXN 4 (opXN 5 (vN 0) (vN 1)) (opXN 5 (vN 0) (vN 2)), (some ⟨g29, 0, none⟩), 2), (opXN 5 (vN 0) (opXN 4 (vN 1) (vN 2)), (some ⟨g31, 0, none⟩), 2)) : RuQ) u917) := ⟨HVg29.out, HVg31.out⟩
  go_simp
  have hb : Below u917.heap.size u917 (u917.alloc (.cells (ruD ((3, (opXN 4 (opXN 5 (vN 0) (vN 1)) (opXN 5 (vN 0) (vN 2)), (some ⟨g29, 0, none⟩), 2), (opXN 5 (vN 0) (opXN 4 (vN 1) (vN 2)), (some ⟨g31, 0, none⟩), 2)) : RuQ)).toArray 31)) := by go_grown
  refine hK.out _ _ ?S19x10 (fun hHeldN => ?_)
  case S19x10 => exact Lf8.below hHeld hb
  clear hK K hHeld
  have hHeld := hHeldN
  clear hHeldN hb
  (try simp only [Act.put, List.setIfInBounds_toArray, List.set_cons_zero, List.set_cons_succ])
  refine RegE.stepL (i := 11) rfl (by decide) (by kernel_rfl) (fun K hK => ?_)
  obtain ⟨ps, hG, hps⟩ := HR.out
  have HG := Lib.hid hG
  clear hG HR
  obtain ⟨W1, hW1⟩ : ∃ W1, W1 = u917.alloc (.cells (ruD ((3, (opXN 4 (opXN 5 (vN 0) (vN 1)) (opXN 5 (vN 0) (vN 2)), (some ⟨g29, 0, none⟩), 2), (opXN 5 (vN 0) (opXN 4 (vN 1) (vN 2)), (some ⟨g31, 0, none⟩), 2)) : RuQ)).toArray 31) := ⟨_, rfl⟩
  have hb1 : Below u917.heap.size u917 W1 := by rw [hW1]; go_grown
  have hC1 : Cells W1 u917.heap.size 31 (ruD ((3, (opXN 4 (opXN 5 (vN 0) (vN 1)) (opXN 5 (vN 0) (vN 2)), (some ⟨g29, 0, none⟩), 2), (opXN 5 (vN 0) (opXN 4 (vN 1) (vN 2)), (some ⟨g31, 0, none⟩), 2)) : RuQ)) := by rw [hW1]; exact Cells.new _ _ _
  have HO := Lib.hid (HG.out.below hb1).own
  have hpl : ps.length = 15 := by have := congrArg List.length hps; simpa using this
  change if _ then Oper.wp _ _ _ (u917.alloc (.cells (ruD ((3, (opXN 4 (opXN 5 (vN 0) (vN 1)) (opXN 5 (vN 0) (vN 2)), (some ⟨g29, 0, none⟩), 2), (opXN 5 (vN 0) (opXN 4 (vN 1) (vN 2)), (some ⟨g31, 0, none⟩), 2)) : RuQ)).toArray 31)) _ _ else _
  rw [← hW1]
  refine step_append_at rfl (.tmp 164) (.tmp 174) 22 rfl q0 31 i0 _ 11 120 Try.underlying22 hi hz0 hz1 hz2 rfl (by decide) v18 _ _ (by simp [Act.eval]) HO.out ⟨u917.heap.size, 0, none⟩ 1 1 (ruD ((3, (opXN 4 (opXN 5 (vN 0) (vN 1)) (opXN 5 (vN 0) (vN 2)), (some ⟨g29, 0, none⟩), 2), (opXN 5 (vN 0) (opXN 4 (vN 1) (vN 2)), (some ⟨g31, 0, none⟩), 2)) : RuQ)) (by simp [Act.eval]) rfl ?n19 ?o19 ?p19 ?q19 ?t19 ?_
  case n19 => intro j z hj; rw [addr_add, Nat.zero_add]; exact (hC1.cell j).trans hj
  case o19 => intro z hz; simp only [ruD, List.mem_cons, List.not_mem_nil, or_false] at hz; rcases hz with rfl | rfl | rfl | rfl | rfl | rfl | rfl | rfl | rfl | rfl | rfl <;> rfl
  case p19 => simp only [List.length_map]; unfold maxLen; omega
  case q19 => simp only [List.length_map]; omega
  case t19 => have := (HG.out.below hb1).size; exact this
  intro v19 u918 hown hg hat
  obtain ⟨h1, h2, h3⟩ := RRow.push HG.out (Below.refl _ _) HP.out hb1 hown hg hat
  rw [hps] at h1
  have HR : Hid (RRow u918 q0 v19 [(1, opXN 3 (vN 0) (cN 0), vN 0), (1, opXN 3 (cN 0) (vN 0), vN 0), (1, opXN 4 (vN 0) (cN 0), vN 0), (1, opXN 4 (cN 0) (vN 0), ngN (vN 0)), (1, opXN 5 (vN 0) (cN 1), vN 0), (1, opXN 5 (cN 1) (vN 0), vN 0), (1, opXN 5 (vN 0) (cN 0), cN 0), (1, opXN 5 (cN 0) (vN 0), cN 0), (1, ngN (ngN (vN 0)), vN 0), (2, opXN 3 (vN 0) (ngN (vN 1)), opXN 4 (vN 0) (vN 1)), (2, opXN 4 (vN 0) (ngN (vN 1)), opXN 3 (vN 0) (vN 1)), (2, opXN 5 (ngN (vN 0)) (ngN (vN 1)), opXN 5 (vN 0) (vN 1)), (1, opXN 4 (vN 0) (vN 0), cN 0), (3, opXN 3 (opXN 5 (vN 0) (vN 1)) (opXN 5 (vN 0) (vN 2)), opXN 5 (vN 0) (opXN 3 (vN 1) (vN 2))), (3, opXN 3 (opXN 5 (vN 0) (vN 2)) (opXN 5 (vN 1) (vN 2)), opXN 5 (opXN 3 (vN 0) (vN 1)) (vN 2)), (3, opXN 4 (opXN 5 (vN 0) (vN 1)) (opXN 5 (vN 0) (vN 2)), opXN 5 (vN 0) (opXN 4 (vN 1) (vN 2)))]) := h1
  replace HB : Hid (Below w.heap.size w u918) := HB.out.trans (h2.mono HL.out)
  have HX := Lib.hid (Lf8.next (by rw [hW1]; exact hHeld) h3 : Lf8 u918 b p1 p2 p3 t1 t2 t3)
  clear HVg29
  clear HVg30
  clear HVg31
  clear HG HO hpl hC1 hb1 h1 h2 h3 hown hg hat HP
  refine hK.out _ _ ?S19x11 (fun hHeldN => ?_)
  case S19x11 => exact HX.out
  clear hK K hHeld hHeldN hps hW1 W1
  (try simp only [Act.put, List.setIfInBounds_toArray, List.set_cons_zero, List.set_cons_succ])
  refine RegE.lastL rfl (by kernel_rfl) (by kernel_rfl) (fun K hK => ?_)
  go_simp
  refine hK.out _ _ ?_
  clear hK K hB
  (try simp only [Act.put, List.setIfInBounds_toArray, List.set_cons_zero, List.set_cons_succ])
  have HE : Hid (RS (.returned v19) u918) := by
    show RS _ _
    rw [HRS.out]
    obtain ⟨A, cap, hv, _, _, hs⟩ := HR.out.sl
    exact ⟨A, cap, by rw [hv]; rfl, hs, HB.out⟩
  clear HX HR HB
  go_wp2
  exact HE.out

end Go.Proofs.Ytmcaphbngfdfiaa
