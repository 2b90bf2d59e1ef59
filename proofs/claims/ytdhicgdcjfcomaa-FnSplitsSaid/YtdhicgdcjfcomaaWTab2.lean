/- The table of least costs as it is built: what its steps do. No walk here. -/
import Derived.Test.YtdhicgdcjfcomaaWTable
namespace Go.Proofs.Ytdhicgdcjfcomaa
open Go.RowKit Plain

abbrev hdr (n b : Nat) : Value := .slice (some ⟨b, 0, none⟩) (n + 1) (n + 1)
def nums (n : Nat) (f : Nat → Int) : List Value := (List.range (n + 1)).map fun y => .int .i64 (f y)
theorem nums_get {n : Nat} {f : Nat → Int} {y : Nat} (h : y ≤ n) : (nums n f)[y]? = some (.int .i64 (f y)) := by
  simp [nums, Nat.lt_succ_of_le h]
theorem nums_set {n : Nat} {f : Nat → Int} {y : Nat} (v : Int) : (nums n f).set y (.int .i64 v) = nums n fun z => if z = y then v else f z := by
  apply List.ext_getElem?
  intro z
  by_cases hz : z ≤ n
  · rw [nums_get hz]
    by_cases e : y = z
    · subst e; rw [List.getElem?_set_self (by simp [nums]; omega)]; simp
    · rw [List.getElem?_set_ne e, nums_get hz, if_neg (fun h => e h.symm)]
  · rw [List.getElem?_eq_none (by simp [nums]; omega), List.getElem?_eq_none (by simp [nums]; omega)]
theorem nums_congr {n : Nat} {f f' : Nat → Int} (h : ∀ y, y ≤ n → f y = f' y) : nums n f = nums n f' := by
  apply List.map_congr_left
  intro y hy
  rw [h y (by simp at hy; omega)]
theorem nums_zero (n : Nat) : (List.replicate (n + 1) (Value.int .i64 0)) = nums n fun _ => 0 := by
  apply List.ext_getElem?
  intro z
  by_cases hz : z ≤ n
  · rw [nums_get hz, List.getElem?_replicate, if_pos (by omega)]
  · rw [List.getElem?_eq_none (by simp; omega), List.getElem?_eq_none (by simp [nums]; omega)]

/-- the level that is being built, since world w1 -/
structure LvlSt (w1 w : World) (n k : Nat) (vl : Value) (r : Nat → Nat) : Prop where
  below : Below w1.heap.size w1 w
  own : w.ownsRow w1.heap.size 25 1 vl k ((List.range k).map fun x => hdr n (r x))
  row : ∀ x, x < k → Cells w (r x) 2 (nums n fun _ => 0)
  new : ∀ x, x < k → w1.heap.size ≤ r x
  inj : ∀ x y, x < k → y < k → r x = r y → x = y

theorem LvlSt.step {w1 w w2 : World} {n k : Nat} {vl v' : Value} {r : Nat → Nat} (h : LvlSt w1 w n k vl r) (o : Obj)
    (hown : w2.ownsRow w1.heap.size 25 1 v' (k + 1) (((List.range k).map fun x => hdr n (r x)) ++ [hdr n w.heap.size]))
    (hg : ((w.alloc (.cells (nums n fun _ => 0).toArray 2)).alloc o).grownBy w2 vl.ownBlock) :
    LvlSt w1 w2 n (k + 1) v' (fun x => if x = k then w.heap.size else r x) := by
  have hA : Below w.heap.size w ((w.alloc (.cells (nums n fun _ => 0).toArray 2)).alloc o) := by go_grown
  have hnew : Cells ((w.alloc (.cells (nums n fun _ => 0).toArray 2)).alloc o) w.heap.size 2 (nums n fun _ => 0) :=
    (Cells.new w 2 _).next ((Below.refl _ _).alloc (Nat.le_refl _) _)
  have hownA : ((w.alloc (.cells (nums n fun _ => 0).toArray 2)).alloc o).ownsRow w1.heap.size 25 1 vl k ((List.range k).map fun x => hdr n (r x)) := (h.own.alloc _).alloc _
  have keep : ∀ b C, Cells ((w.alloc (.cells (nums n fun _ => 0).toArray 2)).alloc o) b 2 C → Cells w2 b 2 C := fun b C hc =>
    (hg.block b hc.lt (own_ne hownA hc.typed (by decide))).trans hc
  refine ⟨?_, ?_, ?_, ?_, ?_⟩
  · refine (bnext h.below hA).grown hg (Nat.le_trans h.below.size hA.size) ?_
    intro b hb; exact (hownA.lt b hb).1
  · rw [List.range_succ, List.map_append]
    simp only [List.map_cons, List.map_nil, if_pos]
    rw [show ((List.range k).map fun x => hdr n (if x = k then w.heap.size else r x)) = (List.range k).map fun x => hdr n (r x) from
      List.map_congr_left fun x hx => by rw [if_neg (by simp at hx; omega)]]
    exact hown
  · intro x hx
    by_cases e : x = k
    · simp only [e, if_true]; exact keep _ _ hnew
    · simp only [e, if_false]; exact keep _ _ ((h.row x (by omega)).next hA)
  · intro x hx
    by_cases e : x = k
    · simp only [e, if_true]; exact h.below.size
    · simp only [e, if_false]; exact h.new x (by omega)
  · intro x y hx hy
    by_cases e : x = k <;> by_cases e' : y = k
    · intro _; omega
    · simp only [e, e', if_true, if_false]; intro he; have := (h.row y (by omega)).lt; omega
    · simp only [e, e', if_true, if_false]; intro he; have := (h.row x (by omega)).lt; omega
    · simp only [e, e', if_false]; exact h.inj x y (by omega) (by omega)

/-- the table so far, since world w0 -/
structure TabSt (w0 w : World) (n : Nat) (vo : Value) (C : Nat) (lb lc : Nat → Nat) (rb : Nat → Nat → Nat) (V : Nat → Nat → Nat → Int) : Prop where
  below : Below w0.heap.size w0 w
  out : w.ownsRow w0.heap.size 65 1 vo C ((List.range C).map fun i => .slice (some ⟨lb i, 0, none⟩) (n + 1) (lc i))
  lvlT : ∀ i, i < C → Typed w (lb i) 25
  lvl : ∀ i x, i < C → x ≤ n → w.cell? ⟨lb i, x, none⟩ = some (hdr n (rb i x))
  row : ∀ i x, i < C → x ≤ n → Cells w (rb i x) 2 (nums n (V i x))
  new : ∀ i x, i < C → x ≤ n → w0.heap.size ≤ rb i x
  inj : ∀ i x i' x', i < C → x ≤ n → i' < C → x' ≤ n → rb i x = rb i' x' → i = i' ∧ x = x'

theorem TabSt.next {w0 w w' : World} {n C : Nat} {vo : Value} {lb lc : Nat → Nat} {rb : Nat → Nat → Nat} {V : Nat → Nat → Nat → Int}
    (h : TabSt w0 w n vo C lb lc rb V) (hb : Below w.heap.size w w') : TabSt w0 w' n vo C lb lc rb V where
  below := bnext h.below hb
  out := by
    have hg : w.grownBy w' none := ⟨hb.os, hb.tape, hb.output, hb.size, fun k hk _ => hb.block k hk⟩
    rcases hv : vo.ownBlock with _ | g
    · exact h.out.kept hg (.inl hv)
    · exact h.out.kept hg (.inr (by rw [hv]; simp))
  lvlT i hi := by obtain ⟨cs, hc⟩ := h.lvlT i hi; exact ⟨cs, (hb.block _ (Typed.lt ⟨cs, hc⟩)).trans hc⟩
  lvl i x hi hx := (hb.cell (p := ⟨lb i, x, none⟩) (h.lvlT i hi).lt).trans (h.lvl i x hi hx)
  row i x hi hx := (h.row i x hi hx).next hb
  new := h.new
  inj := h.inj

theorem TabSt.congr {w0 w : World} {n C : Nat} {vo : Value} {lb lc : Nat → Nat} {rb : Nat → Nat → Nat} {V V' : Nat → Nat → Nat → Int}
    (h : TabSt w0 w n vo C lb lc rb V) (e : ∀ i x y, i < C → x ≤ n → y ≤ n → V i x y = V' i x y) : TabSt w0 w n vo C lb lc rb V' where
  below := h.below
  out := h.out
  lvlT := h.lvlT
  lvl := h.lvl
  row i x hi hx := by rw [← nums_congr (fun y hy => e i x y hi hx hy)]; exact h.row i x hi hx
  new := h.new
  inj := h.inj

theorem TabSt.set_ {w0 w : World} {n C : Nat} {vo : Value} {lb lc : Nat → Nat} {rb : Nat → Nat → Nat} {V : Nat → Nat → Nat → Int}
    (h : TabSt w0 w n vo C lb lc rb V) {i x y : Nat} (hi : i < C) (hx : x ≤ n) (v : Int) :
    TabSt w0 (w.setCell ⟨rb i x, y, none⟩ (.int .i64 v)) n vo C lb lc rb (fun i' x' y' => if i' = i ∧ x' = x ∧ y' = y then v else V i' x' y') := by
  have hR := h.row i x hi hx
  have hne : ∀ b t, Typed w b t → t ≠ 2 → b ≠ rb i x := fun b t hb ht => hb.ne hR.typed ht
  refine ⟨h.below.setCell (p := ⟨rb i x, y, none⟩) (h.new i x hi hx) _, ?_, ?_, ?_, ?_, h.new, h.inj⟩
  · have hg : w.grownBy (w.setCell ⟨rb i x, y, none⟩ (.int .i64 v)) (some (rb i x)) :=
      ⟨rfl, rfl, rfl, by simp [World.setCell], fun k _ hk => Below.heap_setCell w _ _ k (fun e => hk (by rw [e]))⟩
    exact h.out.kept hg (.inr (fun e => own_ne h.out hR.typed (by decide) e.symm))
  · intro j hj
    obtain ⟨cs, hc⟩ := h.lvlT j hj
    exact ⟨cs, (Below.heap_setCell w _ _ _ (hne _ _ ⟨cs, hc⟩ (by decide))).trans hc⟩
  · intro j z hj hz
    rw [← h.lvl j z hj hz]
    exact World.cell?_of_block (Below.heap_setCell w _ _ _ (hne _ _ (h.lvlT j hj) (by decide)))
  · intro j z hj hz
    by_cases e : j = i ∧ z = x
    · obtain ⟨rfl, rfl⟩ := e
      have := hR.set_ y (.int .i64 v)
      rw [nums_set] at this
      rw [nums_congr (f' := fun z_1 => if z_1 = y then v else V j z z_1) (fun y' _ => by simp)]
      exact this
    · have hb : rb j z ≠ rb i x := fun hb => e (h.inj j z i x hj hz hi hx hb)
      rw [nums_congr (f' := V j z) (fun y' _ => by rw [if_neg (fun h => e ⟨h.1, h.2.1⟩)])]
      exact (h.row j z hj hz).far hb _

/-- a level that is done is put into the table -/
theorem TabSt.push {w0 w1 w w3 : World} {n C g cap : Nat} {vo vo' : Value} {lb lc : Nat → Nat} {rb : Nat → Nat → Nat} {V : Nat → Nat → Nat → Int} {r : Nat → Nat}
    (h : TabSt w0 w1 n vo C lb lc rb V) (hl : LvlSt w1 w n (n + 1) (.slice (some ⟨g, 0, none⟩) (n + 1) cap) r) (o : Obj)
    (hown : w3.ownsRow w0.heap.size 65 1 vo' (C + 1) (((List.range C).map fun i => .slice (some ⟨lb i, 0, none⟩) (n + 1) (lc i)) ++ [.slice (some ⟨g, 0, none⟩) (n + 1) cap]))
    (hg : (w.alloc o).grownBy w3 vo.ownBlock) :
    TabSt w0 w3 n vo' (C + 1) (fun i => if i = C then g else lb i) (fun i => if i = C then cap else lc i) (fun i x => if i = C then r x else rb i x) (fun i x y => if i = C then 0 else V i x y) := by
  have h2 := (h.next hl.below).next ((Below.refl w.heap.size w).alloc (Nat.le_refl _) o)
  have hl1 : (w.alloc o).ownsRow w1.heap.size 25 1 (.slice (some ⟨g, 0, none⟩) (n + 1) cap) (n + 1) ((List.range (n + 1)).map fun x => hdr n (r x)) := hl.own.alloc o
  have hgT : Typed (w.alloc o) g 25 := own_typed hl1 rfl
  have hgn : w1.heap.size ≤ g := (hl1.lt g rfl).1
  have keepT : ∀ b t, Typed (w.alloc o) b t → 65 ≠ t → w3.heap[b]? = (w.alloc o).heap[b]? := fun b t hb ht => hg.block b hb.lt (own_ne h2.out hb ht)
  have hrow : ∀ x, x ≤ n → Cells (w.alloc o) (r x) 2 (nums n fun _ => 0) := fun x hx => (hl.row x (by omega)).next ((Below.refl _ _).alloc (Nat.le_refl _) _)
  refine ⟨?_, ?_, ?_, ?_, ?_, ?_, ?_⟩
  · refine h2.below.grown hg h2.below.size ?_
    intro b hb; exact (h2.out.lt b hb).1
  · rw [List.range_succ, List.map_append]
    simp only [List.map_cons, List.map_nil, if_pos]
    rw [show ((List.range C).map fun i => Value.slice (some ⟨if i = C then g else lb i, 0, none⟩) (n + 1) (if i = C then cap else lc i)) = (List.range C).map fun i => Value.slice (some ⟨lb i, 0, none⟩) (n + 1) (lc i) from
      List.map_congr_left fun x hx => by rw [if_neg (by simp at hx; omega), if_neg (by simp at hx; omega)]]
    exact hown
  · intro i hi
    by_cases e : i = C
    · simp only [e, if_true]
      obtain ⟨cs, hc⟩ := hgT
      exact ⟨cs, (keepT g _ ⟨cs, hc⟩ (by decide)).trans hc⟩
    · simp only [e, if_false]
      obtain ⟨cs, hc⟩ := h2.lvlT i (by omega)
      exact ⟨cs, (keepT _ _ ⟨cs, hc⟩ (by decide)).trans hc⟩
  · intro i x hi hx
    by_cases e : i = C
    · simp only [e, if_true]
      rw [World.cell?_of_block (w := w.alloc o) (keepT g _ hgT (by decide)), hl1.cellAt x (by omega)]
      simp [Nat.lt_succ_of_le hx]
    · simp only [e, if_false]
      rw [World.cell?_of_block (w := w.alloc o) (keepT (lb i) _ (h2.lvlT i (by omega)) (by decide))]
      exact h2.lvl i x (by omega) hx
  · intro i x hi hx
    by_cases e : i = C
    · simp only [e, if_true]
      exact (keepT _ _ (hrow x hx).typed (by decide)).trans (hrow x hx)
    · simp only [e, if_false]
      have hc := h2.row i x (by omega) hx
      exact (keepT _ _ hc.typed (by decide)).trans hc
  · intro i x hi hx
    by_cases e : i = C
    · simp only [e, if_true]; exact Nat.le_trans h.below.size (hl.new x (by omega))
    · simp only [e, if_false]; exact h.new i x (by omega) hx
  · intro i x i' x' hi hx hi' hx'
    by_cases e : i = C <;> by_cases e' : i' = C
    · simp only [e, e', if_true]; intro he; exact ⟨trivial, hl.inj x x' (by omega) (by omega) he⟩
    · simp only [e, e', if_true, if_false]; intro he
      have h1 := (h.row i' x' (by omega) hx').lt
      have h2 := hl.new x (by omega)
      omega
    · simp only [e, e', if_true, if_false]; intro he
      have h1 := (h.row i x (by omega) hx).lt
      have h2 := hl.new x' (by omega)
      omega
    · simp only [e, e', if_false]; intro he
      exact h.inj i x i' x' (by omega) hx (by omega) hx' he

/-- what the table holds while level c is filled -/
def vAt (ws : List Int) (c size a : Nat) : Nat → Nat → Nat → Int := fun i x y =>
  if i < c ∨ y < x + size ∨ (y = x + size ∧ x < a) then lcost ws x y i else 0

theorem TabSt.rd {w0 w : World} {n C g cap : Nat} {lb lc : Nat → Nat} {rb : Nat → Nat → Nat} {V : Nat → Nat → Nat → Int}
    (h : TabSt w0 w n (.slice (some ⟨g, 0, none⟩) C cap) C lb lc rb V) : TabRd w g C n lb lc rb V := by
  refine ⟨fun i hi => ?_, h.lvl, fun i x y hi hx hy => ?_⟩
  · rw [h.out.cellAt i (by omega)]
    simp [hi]
  · rw [(h.row i x hi hx).cell, nums_get hy]

theorem vAt_start (ws : List Int) (c n : Nat) : ∀ i x y, i < c + 1 → x ≤ n → y ≤ n → (fun i x y => if i = c then 0 else lcost ws x y i : Nat → Nat → Nat → Int) i x y = vAt ws c 2 0 i x y := by
  intro i x y hi _ _
  simp only [vAt]
  by_cases e : i = c
  · rw [if_pos e]
    split
    · rw [lcost_short (by omega)]
    · rfl
  · rw [if_neg e, if_pos (by omega)]
theorem vAt_set (ws : List Int) (c n size a : Nat) : ∀ i x y, i < c + 1 → x ≤ n → y ≤ n → (fun i x y => if i = c ∧ x = a ∧ y = a + size then lcost ws a (a + size) c else vAt ws c size a i x y : Nat → Nat → Nat → Int) i x y = vAt ws c size (a + 1) i x y := by
  intro i x y hi _ _
  simp only [vAt]
  by_cases e : i = c ∧ x = a ∧ y = a + size
  · obtain ⟨rfl, rfl, rfl⟩ := e
    rw [if_pos ⟨rfl, rfl, rfl⟩, if_pos (by omega)]
  · rw [if_neg e]
    by_cases h : i < c ∨ y < x + size ∨ (y = x + size ∧ x < a)
    · rw [if_pos h, if_pos (by omega)]
    · rw [if_neg h, if_neg (by omega)]
theorem vAt_row (ws : List Int) (c n size a : Nat) (h : n < a + size) : ∀ i x y, i < c + 1 → x ≤ n → y ≤ n → vAt ws c size a i x y = vAt ws c (size + 1) 0 i x y := by
  intro i x y hi _ _
  simp only [vAt]
  by_cases h1 : i < c ∨ y < x + size ∨ (y = x + size ∧ x < a)
  · rw [if_pos h1, if_pos (by omega)]
  · rw [if_neg h1, if_neg (by omega)]
theorem vAt_end (ws : List Int) (c n size : Nat) (h : n < size) : ∀ i x y, i < c + 1 → x ≤ n → y ≤ n → vAt ws c size 0 i x y = (fun i x y => lcost ws x y i) i x y := by
  intro i x y hi _ _
  simp only [vAt]
  rw [if_pos (by omega)]

theorem TabSt.start (w : World) (n : Nat) (V : Nat → Nat → Nat → Int) : TabSt w (w.alloc (.cells #[] 65)) n (.slice (some ⟨w.heap.size, 0, none⟩) 0 0) 0 (fun _ => 0) (fun _ => 0) (fun _ _ => 0) V where
  below := (Below.refl _ _).alloc (Nat.le_refl _) _
  out := World.ownsRow_made w #[] 0 (Nat.le_refl _) (by unfold maxLen; omega) rfl
  lvlT i hi := by omega
  lvl i x hi := by omega
  row i x hi := by omega
  new i x hi := by omega
  inj i x i' x' hi := by omega
theorem LvlSt.start (w : World) (n : Nat) : LvlSt w (w.alloc (.cells #[] 25)) n 0 (.slice (some ⟨w.heap.size, 0, none⟩) 0 0) (fun _ => 0) where
  below := (Below.refl _ _).alloc (Nat.le_refl _) _
  own := World.ownsRow_made w #[] 0 (Nat.le_refl _) (by unfold maxLen; omega) rfl
  row x hx := by omega
  new x hx := by omega
  inj x y hx := by omega

theorem split_any (A : Option Addr) (cap : Nat) (ws : List Int) (g C cap2 : Nat) (lb lc : Nat → Nat) (rb : Nat → Nat → Nat) (size a b c : Nat) (bi : Int) (w : World)
    (hA : Ints w A ws) (hT : TabRd w g C ws.length lb lc rb (vAt ws c size a)) (hw : IsW ws) (h40 : ws.length ≤ 40) (hb : b = a + size) (hbi : bi = b) (h2 : 2 ≤ size) (hbn : b ≤ ws.length) (hcC : c < C) (hC : C ≤ 9) :
    Calls Try.prog 24 #[.slice A ws.length cap, .slice (some ⟨g, 0, none⟩) C cap2, .int .i64 a, .int .i64 bi, .int .i64 c] w fun e w' =>
      e = .returned (.tuple #[.int .i64 (lsplit ws a b c), .int .i64 (lcost ws a b c)]) ∧ w = w' := by
  subst hbi
  cases c with
  | zero => exact split_none A cap ws _ a b w (by omega)
  | succ c =>
    refine split_some A cap ws g C cap2 ws.length lb lc rb _ a b (c + 1) w hA hT hw rfl h40 (by omega) hbn (by omega) hcC hC ?_ ?_
    · intro m h1 h2
      simp only [vAt]; rw [if_pos (by omega)]
    · intro m h1 h2
      simp only [vAt]; rw [if_pos (by omega)]

theorem TabRd.drewN {w : World} {g C n : Nat} {lb lc : Nat → Nat} {rb : Nat → Nat → Nat} {V : Nat → Nat → Nat → Int} (h : TabRd w g C n lb lc rb V) (q : Nat) : TabRd (w.drewN q) g C n lb lc rb V := ⟨h.c0, h.c1, h.c2⟩

theorem TabSt.typedOut {w0 w : World} {n C g cap : Nat} {lb lc : Nat → Nat} {rb : Nat → Nat → Nat} {V : Nat → Nat → Nat → Int}
    (h : TabSt w0 w n (.slice (some ⟨g, 0, none⟩) C cap) C lb lc rb V) : Typed w g 65 := own_typed h.out rfl

end Go.Proofs.Ytdhicgdcjfcomaa
