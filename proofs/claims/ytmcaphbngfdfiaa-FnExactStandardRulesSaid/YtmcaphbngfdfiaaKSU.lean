/- Texts put together: WERow, WGRow, WSinkS, WAnyInv, WOwnE. -/
import Derived.Test.YtmcaphbngfdfiaaKZ
import Derived.Test.YtmcaphbngfdfiaaKB
import Derived.Laws.OwnMore
import Derived.Maps.AppendAt
import Derived.Test.YtmcaphbngfdfiaaKSL

/- Own rows of expressions: what a loop that appends expressions keeps. -/
namespace Go.Proofs.Ytmcaphbngfdfiaa
open Go.RowKit Plain

theorem step_append_at {P : Program} {w : World} {ops : Array Oper} {o : Oper} {a : Act} {K : Act → World → Prop} {Q : Exit → Act → World → Prop} {E : Prop} (hgd : o.guard = none) (s x : Operand) (t : TypeId)
    (ho : o.op = .call { callee := .builtin .append, args := #[s, x], argTypes := #[t, t] })
    (base : Nat) (e : TypeId) (i : TypeInfo) (z : Value) (size bytes : Nat) (ht : P.underlying t = some (.slice e)) (hi : P.info? e = some i) (hz : i.zero = some z)
    (hsize : i.size = size) (hby : i.bytes = bytes) (hzs : z.cells.size = size) (hsz : 0 < size)
    (v : Value) (n : Nat) (xs : List Value) (hs : a.eval s = v) (hown : w.ownsRow base e size v n xs)
    (ad : Addr) (m c : Nat) (news : List Value) (hx : a.eval x = .slice (some ad) m c) (hl : news.length = m * size) (hnews : ∀ j u, news[j]? = some u → w.cell? (ad.add j) = some u) (h1 : ∀ u ∈ news, u.oneCell' = true)
    (h63 : n + m ≤ maxLen) (hbytes : (n + m) * bytes ≤ 140737488355328) (hbase : base ≤ w.heap.size)
    (h : ∀ v' w', w'.ownsRow base e size v' (n + m) (xs ++ news) → w.grownBy w' v.ownBlock → (v'.ownBlock = v.ownBlock ∨ v'.ownBlock = some w.heap.size) → K (a.put o.dst v') w') :
    if Region.wanted o (yielded ops a.tmps) = true then Oper.wp P o a w K Q else E := by
  have hw : Region.wanted o (yielded ops a.tmps) = true := by simp [Region.wanted, hgd]
  rw [if_pos hw]
  obtain ⟨v', w', hr, h2, h3, _, h5⟩ := run_append_own_at (P := P) w base t o.type e i z size bytes ht hi hz hsize hby hzs hsz v n xs hown ad m c news hl hnews h1 h63 hbytes hbase
  unfold Oper.wp execOp
  simp only [ho, resolve, invoke, builtin, Sem.run_bind, Sem.run_pure, Result.andThen_ok, List.map_toArray, List.map_cons, List.map_nil, hs, hx, hr]
  exact h v' w' h2 h3 h5

theorem Es.snoc_eq (es : Es) (k n p c : Int) (ks : Es) : es.snoc k n p c ks = es.app (.cons k n p c ks .nil) := by
  rw [← Es.snoc_app, Es.app_nil]
/-- the elements' block has moved; their kids' blocks are as before -/
theorem ExsG.move {w w' : World} {b b' : Nat} : ∀ {es : Es} {lo hi o : Nat}, ExsG w es lo hi b o → (∀ j, j < es.len * 5 → w'.cell? ⟨b', o + j, none⟩ = w.cell? ⟨b, o + j, none⟩) → (∀ j, w'.frozen? ⟨b', j, none⟩ = false) → (b' = b ∨ hi ≤ b') → (∀ q, lo ≤ q → q < hi → q ≠ b → w'.heap[q]? = w.heap[q]?) → ExsG w' es lo hi b' o := by
  intro es
  induction es with
  | nil => intro lo hi o h _ _ _ _; exact h
  | cons k n p c ks r _ ihr =>
    rintro lo hi o ⟨K, cap, bk, l, h, ⟨⟨h0, h1, h2, h3, h4⟩, hf⟩, hc, hm, hK, e1, e2, hk, hr⟩ hs hz hbb hb
    simp only [Es.len] at hs
    have hle := hr.le
    have hlk := hk.le
    refine ⟨K, cap, bk, l, h, ⟨⟨(hs 0 (by omega)).trans h0, (hs 1 (by omega)).trans h1, (hs 2 (by omega)).trans h2, (hs 3 (by omega)).trans h3, (hs 4 (by omega)).trans h4⟩, fun i _ => hz _⟩, hc, hm, hK, e1, by omega, ?_,
      ihr hr (fun j hj => by have := hs (5 + j) (by omega); rwa [← Nat.add_assoc] at this) hz hbb (fun q q1 q2 q3 => hb q (by omega) q2 q3)⟩
    cases ks with
    | nil => exact hk
    | cons _ _ _ _ _ _ =>
      have h3 := hK (by simp [Es.len])
      exact hk.keep (SameCells.of_block (hb bk (by omega) (by omega) (by omega)) _ _) (fun q q1 q2 _ => hb q (by omega) (by omega) (by omega))

/-- an own row of expressions -/
structure ERow (w : World) (B : Nat) (v : Value) (es : Es) (vs : List Value) : Prop where
  own : w.ownsRow B 29 5 v es.len vs
  size : B ≤ w.heap.size
  tree : ∀ b c, v = .slice (some ⟨b, 0, none⟩) es.len c → ExsG w es B w.heap.size b 0
theorem ownsRow_keep5 {w w' : World} {base e s n : Nat} {v : Value} {xs : List Value} (h : w.ownsRow base e s v n xs) (hb : ∀ g, v.ownBlock = some g → w'.heap[g]? = w.heap[g]?) : w'.ownsRow base e s v n xs := by
  refine ⟨h.1, ?_⟩
  rcases h.2 with hn | ⟨g, cap, cur, rfl, hb', hgg, rest⟩
  · exact .inl hn
  · exact .inr ⟨g, cap, cur, rfl, hb', by rw [hb g rfl]; exact hgg, rest⟩
theorem ERow.keep {w w' : World} {B : Nat} {v : Value} {es : Es} {vs : List Value} (h : ERow w B v es vs) (hs : w.heap.size ≤ w'.heap.size) (hb : ∀ q, B ≤ q → q < w.heap.size → w'.heap[q]? = w.heap[q]?) : ERow w' B v es vs := by
  refine ⟨ownsRow_keep5 h.own fun g hg => by have := World.ownsRow.lt h.own g hg; exact hb g this.1 this.2, Nat.le_trans h.size hs, fun b c hv => ?_⟩
  subst hv
  have hbl := World.ownsRow.lt h.own b rfl
  exact ((h.tree b c rfl).keep (SameCells.of_block (hb b hbl.1 hbl.2) _ _) (fun q q1 q2 _ => hb q q1 q2)).wide (Nat.le_refl _) hs
theorem ERow.below {w w' : World} {B : Nat} {v : Value} {es : Es} {vs : List Value} (h : ERow w B v es vs) (hb : Below w.heap.size w w') : ERow w' B v es vs := h.keep hb.size fun q _ hq => hb.block q hq
theorem ERow.only {w w' : World} {B : Nat} {v : Value} {es : Es} {vs : List Value} {S : Nat → Prop} (h : ERow w B v es vs) (ho : Only S w w') (hS : ∀ q, B ≤ q → ¬ S q) : ERow w' B v es vs := h.keep ho.size fun q hq hs => ho.block q hs (hS q hq)
theorem ERow.nilv (w : World) (B : Nat) (h : B ≤ w.heap.size) : ERow w B (.slice none 0 0) .nil [] := ⟨⟨rfl, .inl ⟨rfl, rfl⟩⟩, h, fun b c hv => by cases hv⟩
theorem ERow.start (w : World) : ERow (w.alloc (.cells #[] 29)) w.heap.size (.slice (some ⟨w.heap.size, 0, none⟩) 0 0) .nil [] :=
  ⟨World.ownsRow_lit w #[] 0 (Nat.le_refl _) (by unfold maxLen; omega) (by rfl), by simp, fun b c _ => by show _ ≤ _; simp⟩
theorem ERow.form {w : World} {B : Nat} {v : Value} {es : Es} {vs : List Value} (h : ERow w B v es vs) : ∃ A cap, v = .slice A es.len cap ∧ es.len ≤ cap ∧ cap ≤ maxLen := by
  rcases h.own.2 with ⟨hv, h0⟩ | ⟨g, cap, cur, hv, _, _, hc, hm, _⟩
  · exact ⟨none, 0, by rw [hv, h0], by omega, by unfold maxLen; omega⟩
  · exact ⟨_, cap, hv, hc, hm⟩
theorem ERow.form' {w : World} {B len cp : Nat} {A : Option Addr} {es : Es} {vs : List Value} (h : ERow w B (.slice A len cp) es vs) : len = es.len ∧ es.len ≤ cp ∧ cp ≤ maxLen := by
  obtain ⟨A', c, e, h1, h2⟩ := h.form
  injection e with e1 e2 e3
  subst e3
  exact ⟨e2, h1, h2⟩
/-- the row as the kids of an expression -/
theorem ERow.treeR {w : World} {B cap : Nat} {A : Option Addr} {es : Es} {vs : List Value} (h : ERow w B (.slice A es.len cap) es vs) : TreeR B w.heap.size es A w := by
  by_cases h0 : 0 < es.len
  · obtain ⟨g, c, hv, hg1, hg2⟩ := World.ownsRow.form h.own h0
    have hA : A = some ⟨g, 0, none⟩ := by injection hv
    subst hA
    exact ⟨g, fun _ => ⟨rfl, hg1, hg2⟩, h.tree g cap rfl⟩
  · cases es with
    | nil => exact ⟨0, fun h => absurd h h0, h.size⟩
    | cons _ _ _ _ _ _ => simp [Es.len] at h0
/-- one expression more -/
theorem ERow.push {w w1 w1' w2 : World} {B cp cap : Nat} {Av K : Option Addr} {v2 : Value} {es ks : Es} {vs : List Value} {k n p c : Int} (h : ERow w B (.slice Av es.len cp) es vs) (hb : Below w.heap.size w w1) (ht : TreeR w.heap.size w1.heap.size ks K w1) (hk : ks.len ≤ cap) (hm : cap ≤ maxLen)
    (hb1 : Below w1.heap.size w1 w1') (hown : w2.ownsRow B 29 5 v2 (es.len + 1) (vs ++ [.int .i64 k, .int .i64 n, .int .i64 p, .int .i64 c, .slice K ks.len cap])) (hg : w1'.grownBy w2 (Value.slice Av es.len cp).ownBlock)
    (hat : v2.ownBlock = (Value.slice Av es.len cp).ownBlock ∨ v2.ownBlock = some w1'.heap.size) :
    ERow w2 B v2 (es.snoc k n p c ks) (vs ++ [.int .i64 k, .int .i64 n, .int .i64 p, .int .i64 c, .slice K ks.len cap]) ∧ Below B w w2 := by
  have s1 := hb.size
  have s2 := hb1.size
  have s3 := hg.size
  have hB := h.size
  have hlen : vs.length = es.len * 5 := h.own.1
  refine ⟨⟨by rw [Es.snoc_len]; exact hown, by omega, fun b2 c2 hv => ?_⟩, ⟨hg.os.trans (hb1.os.trans hb.os), hg.tape.trans (hb1.tape.trans hb.tape), hg.output.trans (hb1.output.trans hb.output), by omega, fun i hi => ?_⟩⟩
  · subst hv
    rw [Es.snoc_len] at *
    have hb2 : (Value.slice (some ⟨b2, 0, none⟩) (es.len + 1) c2).ownBlock = some b2 := rfl
    rw [hb2] at hat
    have hl2 := World.ownsRow.lt hown b2 rfl
    -- the new row's cells
    have hcell : ∀ j, j < (es.len + 1) * 5 → w2.cell? ⟨b2, j, none⟩ = (vs ++ [.int .i64 k, .int .i64 n, .int .i64 p, .int .i64 c, .slice K ks.len cap])[j]? := fun j hj => World.ownsRow.cellAt hown j hj
    have hfr : ∀ j, w2.frozen? ⟨b2, j, none⟩ = false := fun j => World.ownsRow.frozenAt hown j
    -- blocks apart from the old row are as they were
    have hkeep : ∀ q, q < w1.heap.size → (∀ g, (Value.slice Av es.len cp).ownBlock = some g → q ≠ g) → w2.heap[q]? = w1.heap[q]? := fun q hq hne =>
      (hg.block q (by omega) fun e => by
        cases hr : (Value.slice Av es.len cp).ownBlock with
        | none => rw [hr] at e; cases e
        | some g => rw [hr] at e; injection e with e; exact hne g hr e).trans (hb1.block q hq)
    have hrow : ∀ g, (Value.slice Av es.len cp).ownBlock = some g → B ≤ g ∧ g < w.heap.size := fun g hg' => World.ownsRow.lt h.own g hg'
    rw [Es.snoc_eq]
    have hold : ExsG w2 es B w.heap.size b2 0 := by
      by_cases h0 : 0 < es.len
      · obtain ⟨g, c', hv, hg1, hg2⟩ := World.ownsRow.form h.own h0
        have hA : Av = some ⟨g, 0, none⟩ := by injection hv
        subst hA
        have hgr : (Value.slice (some ⟨g, 0, none⟩) es.len cp).ownBlock = some g := rfl
        refine (h.tree g cp rfl).move (fun j hj => ?_) hfr ?_ (fun q q1 q2 q3 => ?_)
        · rw [Nat.zero_add, hcell j (by omega), List.getElem?_append_left (by omega)]
          exact (World.ownsRow.cellAt h.own j hj).symm
        · rw [hgr] at hat
          rcases hat with e | e
          · injection e with e; exact .inl e
          · injection e with e; exact .inr (by omega)
        · exact (hkeep q (by omega) fun g' hg' => by rw [hgr] at hg'; injection hg' with hg'; omega).trans (hb.block q q2)
      · cases es with
        | nil => exact hB
        | cons _ _ _ _ _ _ => simp [Es.len] at h0
    refine hold.app ?_
    obtain ⟨bk, hbk, hek⟩ := ht
    rw [Nat.zero_add]
    have hnew : ∀ j, j < 5 → w2.cell? ⟨b2, es.len * 5 + j, none⟩ = [Value.int .i64 k, .int .i64 n, .int .i64 p, .int .i64 c, .slice K ks.len cap][j]? := fun j hj => by
      rw [hcell _ (by omega), List.getElem?_append_right (by omega), hlen, Nat.add_sub_cancel_left]
    have happ : b2 < w.heap.size ∨ w1.heap.size ≤ b2 := by
      rcases hat with e | e
      · have := hrow b2 e.symm; exact .inl this.2
      · injection e with e; exact .inr (by omega)
    refine ⟨K, cap, bk, w.heap.size, w1.heap.size, ⟨⟨hnew 0 (by omega), hnew 1 (by omega), hnew 2 (by omega), hnew 3 (by omega), hnew 4 (by omega)⟩, fun i _ => hfr _⟩, hk, hm, hbk, Nat.le_refl _, happ, ?_, by show _ ≤ _; omega⟩
    cases ks with
    | nil => exact hek
    | cons _ _ _ _ _ _ =>
      have h3 := hbk (by simp [Es.len])
      have hne : ∀ q, w.heap.size ≤ q → ∀ g, (Value.slice Av es.len cp).ownBlock = some g → q ≠ g := fun q hq g hg' => by have := hrow g hg'; omega
      exact hek.keep (SameCells.of_block (hkeep bk h3.2.2 (hne bk h3.2.1)) _ _) (fun q q1 q2 _ => hkeep q q2 (hne q q1))
  · exact (hg.block i (by omega) fun e => by have := (World.ownsRow.lt h.own i e.symm).1; omega).trans ((hb1.block i (by omega)).trans (hb.block i (by omega)))

end Go.Proofs.Ytmcaphbngfdfiaa

/- Own rows of values that hang on other blocks: what a loop that appends such values keeps. -/
namespace Go.Proofs.Ytmcaphbngfdfiaa
open Go.RowKit Plain

/-- F outlives changes of block g -/
def Outl (F : World → Prop) (w : World) (g : Nat) : Prop := ∀ w', w.heap.size ≤ w'.heap.size → (∀ q, q < w.heap.size → q ≠ g → w'.heap[q]? = w.heap[q]?) → F w'
theorem Outl.now {F : World → Prop} {w : World} {g : Nat} (h : Outl F w g) : F w := h w (Nat.le_refl _) fun _ _ _ => rfl
theorem Outl.next {F : World → Prop} {w w' : World} {g : Nat} (h : Outl F w g) (hs : w.heap.size ≤ w'.heap.size) (hb : ∀ q, q < w.heap.size → q ≠ g → w'.heap[q]? = w.heap[q]?) : Outl F w' g :=
  fun w2 h1 h2 => h w2 (Nat.le_trans hs h1) fun q hq hn => (h2 q (by omega) hn).trans (hb q hq hn)
theorem Outl.below {F : World → Prop} {w w' : World} {g : Nat} (h : Outl F w g) (hb : Below w.heap.size w w') : Outl F w' g := h.next hb.size fun q hq _ => hb.block q hq
theorem Outl.and {F G : World → Prop} {w : World} {g : Nat} (h : Outl F w g) (k : Outl G w g) : Outl (fun w => F w ∧ G w) w g := fun w' h1 h2 => ⟨h w' h1 h2, k w' h1 h2⟩
theorem Outl.treeR {w : World} {lo hi g : Nat} {ks : Es} {K : Option Addr} (h : TreeR lo hi ks K w) (hh : hi ≤ w.heap.size) (hg : g < lo ∨ hi ≤ g) : Outl (TreeR lo hi ks K) w g :=
  fun w' _ h2 => h.keep fun q q1 q2 => h2 q (by omega) (by omega)

/-- an own row of elements: their cells, and what is said of the blocks that they hang on -/
structure GRow (w : World) (B : Nat) (T : TypeId) (sz : Nat) (v : Value) (els : List (List Value × (World → Prop))) : Prop where
  own : w.ownsRow B T sz v els.length (els.flatMap (·.1))
  size : B ≤ w.heap.size
  one : ∀ el ∈ els, el.1.length = sz
  keeps : ∀ el ∈ els, ∀ g, (v.ownBlock = some g ∨ w.heap.size ≤ g) → Outl el.2 w g
theorem GRow.below {w w' : World} {B sz : Nat} {T : TypeId} {v : Value} {els : List (List Value × (World → Prop))} (h : GRow w B T sz v els) (hb : Below w.heap.size w w') : GRow w' B T sz v els :=
  ⟨ownsRow_keep5 h.own fun g hg => hb.block g (World.ownsRow.lt h.own g hg).2, Nat.le_trans h.size hb.size, h.one, fun el he g hg => (h.keeps el he g (hg.imp id fun h1 => Nat.le_trans hb.size h1)).below hb⟩
theorem GRow.nilv (w : World) (B : Nat) (T : TypeId) (sz : Nat) (h : B ≤ w.heap.size) : GRow w B T sz (.slice none 0 0) [] := ⟨⟨by simp, .inl ⟨rfl, rfl⟩⟩, h, fun el he => by simp at he, fun el he => by simp at he⟩
theorem GRow.start (w : World) (T : TypeId) (sz : Nat) : GRow (w.alloc (.cells #[] T)) w.heap.size T sz (.slice (some ⟨w.heap.size, 0, none⟩) 0 0) [] :=
  ⟨World.ownsRow_lit w #[] 0 (Nat.le_refl _) (by unfold maxLen; omega) (by simp), by simp, fun el he => by simp at he, fun el he => by simp at he⟩
theorem GRow.form {w : World} {B sz : Nat} {T : TypeId} {v : Value} {els : List (List Value × (World → Prop))} (h : GRow w B T sz v els) : ∃ A cap, v = .slice A els.length cap ∧ els.length ≤ cap ∧ cap ≤ maxLen := by
  rcases h.own.2 with ⟨hv, h0⟩ | ⟨g, cap, cur, hv, _, _, hc, hm, _⟩
  · exact ⟨none, 0, by rw [hv, h0], by omega, by unfold maxLen; omega⟩
  · exact ⟨_, cap, hv, hc, hm⟩
theorem GRow.form' {w : World} {B sz len cp : Nat} {T : TypeId} {A : Option Addr} {els : List (List Value × (World → Prop))} (h : GRow w B T sz (.slice A len cp) els) : len = els.length ∧ els.length ≤ cp ∧ cp ≤ maxLen := by
  obtain ⟨A', c, e, h1, h2⟩ := h.form
  injection e with e1 e2 e3
  subst e3
  exact ⟨e2, h1, h2⟩
theorem GRow.lt {w : World} {B sz g : Nat} {T : TypeId} {v : Value} {els : List (List Value × (World → Prop))} (h : GRow w B T sz v els) (hg : v.ownBlock = some g) : B ≤ g ∧ g < w.heap.size := World.ownsRow.lt h.own g hg
/-- one element more -/
theorem GRow.push {w w1 w1' w2 : World} {B sz : Nat} {T : TypeId} {v v2 : Value} {els : List (List Value × (World → Prop))} {el : List Value × (World → Prop)} (h : GRow w B T sz v els) (hb : Below w.heap.size w w1) (hl : el.1.length = sz)
    (hk : ∀ g, (v.ownBlock = some g ∨ w1.heap.size ≤ g) → Outl el.2 w1 g) (hb1 : Below w1.heap.size w1 w1') (hown : w2.ownsRow B T sz v2 (els.length + 1) (els.flatMap (·.1) ++ el.1)) (hg : w1'.grownBy w2 v.ownBlock)
    (hat : v2.ownBlock = v.ownBlock ∨ v2.ownBlock = some w1'.heap.size) : GRow w2 B T sz v2 (els ++ [el]) ∧ Below B w w2 := by
  have s1 := hb.size
  have s2 := hb1.size
  have s3 := hg.size
  have hB := h.size
  -- what outlives the row's change at w1' outlives later ones
  have key : ∀ (F : World → Prop), (∀ g, (v.ownBlock = some g ∨ w1'.heap.size ≤ g) → Outl F w1' g) → ∀ g, (v2.ownBlock = some g ∨ w2.heap.size ≤ g) → Outl F w2 g := by
    intro F hF g hgg w3 t1 t2
    cases hr : v.ownBlock with
    | none =>
      refine hF w1'.heap.size (.inr (Nat.le_refl _)) w3 (by omega) fun q hq _ => ?_
      have hqg : q ≠ g := by
        rcases hgg with e | e
        · rcases hat with e2 | e2
          · rw [e, hr] at e2; cases e2
          · rw [e] at e2; injection e2 with e2; omega
        · omega
      exact (t2 q (by omega) hqg).trans (hg.block q hq (by rw [hr]; simp))
    | some g0 =>
      refine hF g0 (.inl hr) w3 (by omega) fun q hq hne => ?_
      have hqg : q ≠ g := by
        rcases hgg with e | e
        · rcases hat with e2 | e2
          · rw [e, hr] at e2; injection e2 with e2; omega
          · rw [e] at e2; injection e2 with e2; omega
        · omega
      exact (t2 q (by omega) hqg).trans (hg.block q hq (by rw [hr]; intro e; injection e with e; exact hne e))
  refine ⟨⟨?_, by omega, fun x hx => ?_, fun x hx => ?_⟩, ⟨hg.os.trans (hb1.os.trans hb.os), hg.tape.trans (hb1.tape.trans hb.tape), hg.output.trans (hb1.output.trans hb.output), by omega, fun i hi => ?_⟩⟩
  · rw [List.flatMap_append, List.length_append]
    simpa using hown
  · rcases List.mem_append.1 hx with hx | hx
    · exact h.one x hx
    · rw [List.mem_singleton.1 hx]; exact hl
  · refine key x.2 fun g hgg => ?_
    rcases List.mem_append.1 hx with hx | hx
    · exact ((h.keeps x hx g (hgg.imp id fun e => by omega)).below hb).below hb1
    · rw [List.mem_singleton.1 hx]
      exact (hk g (hgg.imp id fun e => by omega)).below hb1
  · exact (hg.block i (by omega) fun e => by have := (World.ownsRow.lt h.own i e.symm).1; omega).trans ((hb1.block i (by omega)).trans (hb.block i (by omega)))
theorem flat_get {sz : Nat} : ∀ {els : List (List Value × (World → Prop))} {i : Nat} {el : List Value × (World → Prop)} {j : Nat}, (∀ x ∈ els, x.1.length = sz) → els[i]? = some el → j < sz → (els.flatMap (·.1))[i * sz + j]? = el.1[j]?
  | [], _, _, _, _, h, _ => by simp at h
  | q :: l, 0, el, j, h1, h, hj => by
    simp only [List.getElem?_cons_zero, Option.some.injEq] at h
    subst h
    rw [List.flatMap_cons, Nat.zero_mul, Nat.zero_add, List.getElem?_append_left (by rw [h1 q (List.mem_cons_self ..)]; exact hj)]
  | q :: l, i + 1, el, j, h1, h, hj => by
    have hq := h1 q (List.mem_cons_self ..)
    rw [List.flatMap_cons, List.getElem?_append_right (by rw [hq, Nat.succ_mul]; omega), show (i + 1) * sz + j - q.1.length = i * sz + j by rw [hq, Nat.succ_mul]; omega]
    exact flat_get (fun x hx => h1 x (List.mem_cons_of_mem _ hx)) h hj
/-- the row, read -/
theorem GRow.read {w : World} {B sz cap : Nat} {T : TypeId} {A : Option Addr} {els : List (List Value × (World → Prop))} (h : GRow w B T sz (.slice A els.length cap) els) (h0 : 0 < els.length) :
    ∃ b, A = some ⟨b, 0, none⟩ ∧ B ≤ b ∧ b < w.heap.size ∧ ∀ (i : Nat) (el : List Value × (World → Prop)), els[i]? = some el → el.2 w ∧ (∀ j, j < sz → w.cell? ⟨b, i * sz + j, none⟩ = el.1[j]? ∧ w.frozen? ⟨b, i * sz + j, none⟩ = false) := by
  obtain ⟨g, c, hv, hg1, hg2⟩ := World.ownsRow.form h.own h0
  have hA : A = some ⟨g, 0, none⟩ := by injection hv
  have hc : cap = c := by injection hv
  subst hA; subst hc
  refine ⟨g, rfl, hg1, hg2, fun i el he => ⟨(h.keeps el (List.mem_of_getElem? he) g (.inl rfl)).now, fun j hj => ⟨?_, World.ownsRow.frozenAt h.own _⟩⟩⟩
  have hi : i < els.length := (List.getElem?_eq_some_iff.1 he).1
  have hlt : i * sz + j < els.length * sz := by
    have : (i + 1) * sz ≤ els.length * sz := Nat.mul_le_mul_right _ hi
    rw [Nat.succ_mul] at this
    omega
  rw [World.ownsRow.cellAt h.own _ hlt]
  exact flat_get h.one he hj

end Go.Proofs.Ytmcaphbngfdfiaa

/- The laws of XWSinkL for long regions: the operations' independence is checked once. -/
namespace Go.Proofs.Ytmcaphbngfdfiaa
open Go

/-- operation i lays its value in slot D + i and looks at slots of operations that it waits for; the last one's slot is looked at by none -/
def ssaOne (ops : Array Oper) (n D i d : Nat) (o : Oper) : Bool :=
  (if i < n then o.dst == some (D + i) else (o.dst == some d && decide (d < D))) &&
  (o.looksAt ops).all fun t => if t < D then (t != d || decide (n ≤ i)) else Region.waitsFor .any ops i (t - D)
def ssaB (ops : Array Oper) (n D d : Nat) : Bool :=
  (List.range ops.size).all fun i => match ops[i]? with | some o => ssaOne ops n D i d o | none => true
def readyAt (ops : Array Oper) (listed : Array Bool) (i : Nat) : Bool :=
  !listed.getD i true && ((ops[i]?).map (·.after.all fun e => !Region.binds .any e || listed.getD e.on false)).getD false
theorem readyAt_mem {ops : Array Oper} {listed : Array Bool} {i : Nat} (hi : i < ops.size) (h : readyAt ops listed i = true) : i ∈ Region.ready .any ops listed := by
  unfold Region.ready
  exact List.mem_filter.2 ⟨List.mem_range.2 hi, h⟩
theorem ssa_spec {ops : Array Oper} {n D i d : Nat} {o : Oper} (h : ssaB ops n D d = true) (hi : ops[i]? = some o) : ssaOne ops n D i d o = true := by
  have := List.all_eq_true.1 h i (List.mem_range.2 (Array.getElem?_eq_some_iff.1 hi).1)
  rw [hi] at this
  exact this
theorem ssa_free {ops : Array Oper} {n D i d : Nat} {oi : Oper} {listed : Array Bool} (h : ssaB ops n D d = true) (hi : ops[i]? = some oi) (hin : i < n) (hr : i ∈ Region.ready .any ops listed) (j : Nat) (oj : Oper)
    (hj : ops[j]? = some oj) (hne : j ≠ i) (hun : listed.getD j true = false) (hno : ∀ e ∈ oj.after, Region.binds .any e = true → e.on ≠ i) : oi.apart ops oj = true := by
  have h1 := ssa_spec h hi
  have h2 := ssa_spec h hj
  unfold ssaOne at h1 h2
  rw [Bool.and_eq_true] at h1 h2
  obtain ⟨d1, l1⟩ := h1
  obtain ⟨d2, l2⟩ := h2
  rw [if_pos hin, beq_iff_eq] at d1
  have d2' : j < n ∨ (oj.dst = some d ∧ d < D) := by
    by_cases hjn : j < n
    · exact .inl hjn
    · rw [if_neg hjn] at d2
      simp only [Bool.and_eq_true, beq_iff_eq, decide_eq_true_eq] at d2
      exact .inr d2
  have l1' := List.all_eq_true.1 l1
  have l2' := List.all_eq_true.1 l2
  obtain ⟨_, oi', hoi', hall⟩ := mem_ready.1 hr
  have : oi' = oi := Option.some.inj (hoi'.symm.trans hi)
  subst this
  unfold Oper.apart
  rw [d1]
  simp only [Bool.and_eq_true, Bool.not_eq_true']
  refine ⟨⟨?_, ?_⟩, ?_⟩
  · rw [Bool.eq_false_iff]
    intro hc
    have hm : (D + i) ∈ oj.looksAt ops := by simpa using hc
    have h3 := l2' _ hm
    rw [if_neg (Nat.not_lt.2 (Nat.le_add_right _ _)), Nat.add_sub_cancel_left] at h3
    obtain ⟨o', ho', e, he, hb, hon⟩ := Region.waitsFor_spec h3
    have : o' = oj := Option.some.inj (ho'.symm.trans hj)
    subst this
    exact hno e he hb hon
  · by_cases hjn : j < n
    · have e : oj.dst = some (D + j) := by
        rw [if_pos hjn, beq_iff_eq] at d2
        exact d2
      rw [e, bne_iff_ne]
      intro he
      injection he with he
      exact hne (Nat.add_left_cancel he)
    · rcases d2' with h | ⟨h, hd⟩
      · exact absurd h hjn
      · rw [h, bne_iff_ne]
        intro he
        injection he with he
        have he' : d = D + i := he
        omega
  · by_cases hjn : j < n
    · have e : oj.dst = some (D + j) := by
        rw [if_pos hjn, beq_iff_eq] at d2
        exact d2
      rw [e]
      simp only [Bool.not_eq_true']
      rw [Bool.eq_false_iff]
      intro hc
      have hm : (D + j) ∈ oi'.looksAt ops := by simpa using hc
      have h3 := l1' _ hm
      rw [if_neg (Nat.not_lt.2 (Nat.le_add_right _ _)), Nat.add_sub_cancel_left] at h3
      obtain ⟨o', ho', e', he, hb, hon⟩ := Region.waitsFor_spec h3
      have : o' = oi' := Option.some.inj (ho'.symm.trans hi)
      subst this
      have h4 := hall e' he hb
      rw [hon, getD_both hun] at h4
      cases h4
    · rcases d2' with h | ⟨h, hd⟩
      · exact absurd h hjn
      · rw [h]
        simp only [Bool.not_eq_true']
        rw [Bool.eq_false_iff]
        intro hc
        have hm : d ∈ oi'.looksAt ops := by simpa using hc
        have h3 := l1' _ hm
        rw [if_pos hd] at h3
        simp at h3
        omega

theorem step_value {P : Program} {ops : Array Oper} {o : Oper} {a : Act} {w w' : World} {v : Value} {K : Act → World → Prop} {Q : Exit → Act → World → Prop} {E : Prop} (hw : Region.wanted o (yielded ops a.tmps) = true) (hr : (execOp a.eval o).run P w = .ok (.value v) w') (h : K (a.put o.dst v) w') :
    if Region.wanted o (yielded ops a.tmps) = true then Oper.wp P o a w K Q else E := by
  rw [if_pos hw]
  unfold Oper.wp
  rw [hr]
  exact h

section
variable {P : Program} {ops : Array Oper} {Q : Exit → Act → World → Prop} {S : World → Prop}
theorem RegE.startL {id : Nat} {a : Act} {w : World} (n D d : Nat) (L0 : Array Bool) (hL0 : Array.replicate ops.size false = L0) (hm : P.follows .mixedOrders = true) (hB : sinkOk ops n = true) (hA : ssaB ops n D d = true) (hS : S w.drew) (h : S w.drew → sinkOk ops n = true → ssaB ops n D d = true → RegE P ops Q S n ops.size L0 a w.drew) :
    (Code.region id ops true).wp P Q a w := RegE.start n hm hB hS fun h1 h2 => hL0 ▸ h h1 h2 hA
theorem RegE.startS {id : Nat} {a : Act} {w : World} (n D d : Nat) (hm : P.follows .mixedOrders = true) (hB : sinkOk ops n = true) (hA : ssaB ops n D d = true) (hS : S w.drew) (h : S w.drew → sinkOk ops n = true → ssaB ops n D d = true → RegE P ops Q S n ops.size (Array.replicate ops.size false) a w.drew) :
    (Code.region id ops true).wp P Q a w := RegE.start n hm hB hS fun h1 h2 => h h1 h2 hA
end

section
variable {P : Program} {l : List Oper} {Q : Exit → Act → World → Prop} {S : World → Prop} {n : Nat}
theorem RegE.takeS {i D d : Nat} {oi : Oper} {v : Value} {fuel : Nat} {listed : Array Bool} {a : Act} {w : World} (hB : sinkOk l.toArray n = true) (hA : ssaB l.toArray n D d = true) (hi : l[i]? = some oi) (hin : i < n)
    (hr : readyAt l.toArray listed i = true)
    (hQ : ∀ c a w, Q (.panic c) (a.put oi.dst v) w → Q (.panic c) a w) (hy : YieldsIf P l.toArray S oi v a) (hS : S w)
    (h : RegE P l.toArray Q S n fuel (listed.setIfInBounds i true) (a.put oi.dst v) w) : RegE P l.toArray Q S n (fuel + 1) listed a w := fun inv => by
  have hi' : l.toArray[i]? = some oi := by rw [List.getElem?_toArray]; exact hi
  have hB' := hB
  simp only [sinkOk, Bool.and_eq_true, decide_eq_true_eq] at hB'
  have hr' := readyAt_mem (Array.getElem?_eq_some_iff.1 hi').1 hr
  exact wpAnyE_first hi' (Region.noSelect_spec hB'.1.1.1) hQ hB'.1.2 hB'.2 (by omega) hin fuel listed a w inv (ssa_free hA hi' hin hr') hr' hy hS (h (inv.set hr' hin))
end

theorem step_enter {P : Program} {ops : Array Oper} {o : Oper} {a : Act} {w w' : World} {f : FuncId} {args : Array Value} {K : Act → World → Prop} {Q : Exit → Act → World → Prop} {E : Prop} (hw : Region.wanted o (yielded ops a.tmps) = true) (hr : (execOp a.eval o).run P w = .ok (.enter f args) w') (h : Calls P f args w' fun e w'' => ∃ v, e = .returned v ∧ K (a.put o.dst v) w'') :
    if Region.wanted o (yielded ops a.tmps) = true then Oper.wp P o a w K Q else E := by
  rw [if_pos hw]
  unfold Oper.wp
  rw [hr]
  exact Calls.mono h fun e w'' he => by
    obtain ⟨v, rfl, hk⟩ := he
    exact hk

/-- many operations at once that look at no slot of the region -/
def setAll : List (Nat × Value) → Array Bool → Array Bool
  | [], l => l
  | x :: r, l => setAll r (l.setIfInBounds x.1 true)
def putAll (l : List Oper) : List (Nat × Value) → Act → Act
  | [], a => a
  | x :: r, a => putAll l r (a.put ((l[x.1]?).bind (·.dst)) x.2)
def readyAll (l : List Oper) (n D : Nat) : List (Nat × Value) → Array Bool → Bool
  | [], _ => true
  | x :: r, L => (decide (x.1 < n) && readyAt l.toArray L x.1 && (match l[x.1]? with | some o => (o.looksAt l.toArray).all fun t => decide (t < D) | none => false)) && readyAll l n D r (L.setIfInBounds x.1 true)
def YAll (P : Program) (l : List Oper) (S : World → Prop) (a : Act) : List (Nat × Value) → Prop
  | [] => True
  | x :: r => (∃ o, l[x.1]? = some o ∧ YieldsIf P l.toArray S o x.2 a) ∧ YAll P l S a r
section
variable {P : Program} {l : List Oper} {Q : Exit → Act → World → Prop} {S : World → Prop} {n : Nat}
theorem YAll.put {D i d : Nat} {v : Value} {a : Act} {dst : Option Tmp} (hsel : Region.noSelect l.toArray = true) (hdst : dst = some (D + i)) : ∀ {is : List (Nat × Value)} {L : Array Bool}, readyAll l n D is L = true → YAll P l S a is → YAll P l S (a.put dst v) is
  | [], _, _, _ => trivial
  | x :: r, L, hr, ⟨⟨o, ho, hy⟩, h⟩ => by
    simp only [readyAll, Bool.and_eq_true] at hr
    refine ⟨⟨o, ho, ?_⟩, YAll.put (d := d) hsel hdst hr.2 h⟩
    have hl := hr.1.2
    rw [ho] at hl
    have hno : ∀ e, dst = some e → e ∉ o.looksAt l.toArray := fun e he hm => by
      rw [hdst] at he
      injection he with he
      have := of_decide_eq_true (List.all_eq_true.1 hl e hm)
      subst he
      exact Nat.not_lt.2 (Nat.le_add_right _ _) this
    exact hy.of_same (execOp_put o (Region.noSelect_spec hsel x.1 o · · (by rw [List.getElem?_toArray]; exact ho)) a dst v hno) (wanted_put o a dst v hno)
theorem RegE.takeAll {D d : Nat} (hB : sinkOk l.toArray n = true) (hA : ssaB l.toArray n D d = true) (hQ : ∀ c a dst v w, Q (.panic c) (a.put dst v) w → Q (.panic c) a w) : ∀ (is : List (Nat × Value)) {fuel : Nat} {L : Array Bool} {a : Act} {w : World}, readyAll l n D is L = true → YAll P l S a is → S w →
    RegE P l.toArray Q S n fuel (setAll is L) (putAll l is a) w → RegE P l.toArray Q S n (fuel + is.length) L a w
  | [], _, _, _, _, _, _, _, h => h
  | x :: r, fuel, L, a, w, hr, ⟨⟨o, ho, hy⟩, h1⟩, hS, h => by
    have hr' := hr
    simp only [readyAll, Bool.and_eq_true, decide_eq_true_eq] at hr'
    obtain ⟨⟨⟨hn, hrd⟩, _⟩, hrest⟩ := hr'
    have hB' := hB
    simp only [sinkOk, Bool.and_eq_true, decide_eq_true_eq] at hB'
    have hd : o.dst = some (D + x.1) := by
      have h2 := ssa_spec hA (show l.toArray[x.1]? = some o by rw [List.getElem?_toArray]; exact ho)
      unfold ssaOne at h2
      rw [Bool.and_eq_true, if_pos hn, beq_iff_eq] at h2
      exact h2.1
    rw [List.length_cons, ← Nat.add_assoc]
    refine RegE.takeS hB hA ho hn hrd (fun c a w => hQ c a _ _ w) hy hS ?_
    have e : putAll l (x :: r) a = putAll l r (a.put o.dst x.2) := by simp only [putAll]; rw [ho]; rfl
    rw [e] at h
    exact RegE.takeAll hB hA hQ r hrest (YAll.put (d := d) hB'.1.1.1 hd hrest h1) hS h
/-- the start of a long region -/
theorem RegE.startAll {id : Nat} {a : Act} {w : World} (n D d : Nat) (is : List (Nat × Value)) (fuel : Nat) (L' : Array Bool) (a' : Act) (hm : P.follows .mixedOrders = true) (hB : sinkOk l.toArray n = true) (hA : ssaB l.toArray n D d = true) (hr : readyAll l n D is (Array.replicate l.toArray.size false) = true)
    (hf : l.toArray.size = fuel + is.length) (hL : setAll is (Array.replicate l.toArray.size false) = L') (ha : putAll l is a = a') (hQ : ∀ c a dst v w, Q (.panic c) (a.put dst v) w → Q (.panic c) a w) (hy : YAll P l S a is) (hS : S w.drew)
    (h : S w.drew → sinkOk l.toArray n = true → ssaB l.toArray n D d = true → RegE P l.toArray Q S n fuel L' a' w.drew) : (Code.region id l.toArray true).wp P Q a w := by
  refine RegE.start n hm hB hS fun h1 h2 => ?_
  have h3 := RegE.takeAll (Q := Q) (fuel := fuel) hB hA hQ is hr hy h1 (by rw [hL, ha]; exact h h1 h2 hA)
  rw [← hf] at h3
  exact h3
end

end Go.Proofs.Ytmcaphbngfdfiaa

/- Regions that draw their order: the operations ahead of a last run, under a relation to what has been listed. -/
namespace Go.Proofs.Ytmcaphbngfdfiaa
open Go

theorem ready_dep {ops : Array Oper} {listed : Array Bool} {i j : Nat} (hr : i ∈ Region.ready .any ops listed) (hw : Region.waitsFor .any ops i j = true) : listed.getD j false = true := by
  obtain ⟨_, o, ho, hall⟩ := mem_ready.1 hr
  obtain ⟨o', ho', e, he, hb, hon⟩ := Region.waitsFor_spec hw
  have : o' = o := Option.some.inj (ho'.symm.trans ho)
  subst this
  rw [← hon]
  exact hall e he hb
/-- how many below m have not been listed -/
def leftN (listed : Array Bool) : Nat → Nat
  | 0 => 0
  | m + 1 => leftN listed m + if listed.getD m true then 0 else 1
theorem leftN_zero {listed : Array Bool} : ∀ {m : Nat}, leftN listed m = 0 → ∀ i, i < m → listed.getD i true = true
  | 0, _, i, hi => by omega
  | m + 1, h, i, hi => by
    simp only [leftN] at h
    by_cases e : i = m
    · subst e
      by_cases hl : listed.getD i true = true
      · exact hl
      · rw [if_neg hl] at h; omega
    · exact leftN_zero (m := m) (by omega) i (by omega)
theorem leftN_same {listed : Array Bool} {i : Nat} : ∀ {m : Nat}, m ≤ i → leftN (listed.setIfInBounds i true) m = leftN listed m
  | 0, _ => rfl
  | m + 1, h => by
    simp only [leftN]
    rw [leftN_same (by omega), getD_set_ne true (by omega)]
theorem leftN_set {listed : Array Bool} {i : Nat} (hl : listed.getD i true = false) : ∀ {m : Nat}, i < m → leftN (listed.setIfInBounds i true) m + 1 = leftN listed m
  | 0, h => by omega
  | m + 1, h => by
    simp only [leftN]
    by_cases e : i = m
    · subst e
      have h1 : (listed.setIfInBounds i true).getD i true = true := by
        rcases Nat.lt_or_ge i listed.size with h' | h'
        · simp [h']
        · simp [Array.getElem?_eq_none h'] at hl
      rw [leftN_same (Nat.le_refl _), h1, hl]
      simp
    · have := leftN_set (m := m) hl (by omega)
      rw [getD_set_ne true (by omega)]
      omega
theorem leftN_some {listed : Array Bool} : ∀ {m : Nat}, 0 < leftN listed m → ∃ i, i < m ∧ listed.getD i true = false ∧ ∀ j, j < i → listed.getD j true = true
  | 0, h => by simp [leftN] at h
  | m + 1, h => by
    simp only [leftN] at h
    by_cases h0 : 0 < leftN listed m
    · obtain ⟨i, h1, h2, h3⟩ := leftN_some h0
      exact ⟨i, by omega, h2, h3⟩
    · have h1 : leftN listed m = 0 := by omega
      refine ⟨m, by omega, ?_, leftN_zero h1⟩
      by_cases hl : listed.getD m true = true
      · rw [h1, if_pos hl] at h; omega
      · simpa using hl
/-- operations wait for earlier ones only -/
def backB (ops : Array Oper) : Bool := (List.range ops.size).all fun j => match ops[j]? with | some o => o.after.all fun e => decide (e.on < j) | none => true
theorem any_inv {P : Program} {ops : Array Oper} {Q : Exit → Act → World → Prop} {m : Nat} (hs : Region.sinkB .any ops m = true) (hc : Region.chainB .any ops m = true) (hbk : backB ops = true) (hm : m < ops.size) (Inv : Array Bool → Act → World → Prop)
    (hstep : ∀ listed a w i, Inv listed a w → i ∈ Region.ready .any ops listed → i < m → wpOp P ops Q i (fun a' w' => Inv (listed.setIfInBounds i true) a' w') a w)
    (hend : ∀ listed a w, HeadInv .any ops m listed → (∀ i, i < m → listed.getD i true = true) → Inv listed a w → wpAny P .any ops Q (ops.size - m) listed a w) :
    ∀ (k : Nat) (listed : Array Bool) (a : Act) (w : World), HeadInv .any ops m listed → leftN listed m = k → Inv listed a w → wpAny P .any ops Q (k + (ops.size - m)) listed a w := by
  intro k
  induction k with
  | zero =>
    intro listed a w inv hk hI
    rw [Nat.zero_add]
    exact hend listed a w inv (leftN_zero hk) hI
  | succ k ih =>
    intro listed a w inv hk hI
    obtain ⟨i0, hi0, hu0, hbef⟩ := leftN_some (show 0 < leftN listed m by omega)
    have hr0 : i0 ∈ Region.ready .any ops listed := by
      obtain ⟨o, ho⟩ : ∃ o, ops[i0]? = some o := ⟨ops[i0], Array.getElem?_eq_getElem (by omega)⟩
      refine mem_ready.2 ⟨hu0, o, ho, fun e he _ => ?_⟩
      have h1 := List.all_eq_true.1 hbk i0 (List.mem_range.2 (by omega))
      rw [ho] at h1
      have h2 : e.on < i0 := of_decide_eq_true (Array.all_eq_true_iff_forall_mem.1 h1 e he)
      have h3 := hbef _ h2
      have h4 : e.on < listed.size := by rw [inv.size]; omega
      simp [h4] at h3 ⊢
      exact h3
    rw [show k + 1 + (ops.size - m) = (k + (ops.size - m)) + 1 by omega]
    refine ⟨fun h => (by rw [h] at hr0; cases hr0), fun i hi => ?_⟩
    have him : i < m := by
      rcases Nat.lt_or_ge i m with h | h
      · exact h
      · exact absurd hi (tail_waits hs hc hm inv _ i0 rfl hi0 hu0 i h)
    refine wpOp_mono (fun a' w' h' => ih _ a' w' (inv.set hi him) ?_ h') (hstep listed a w i hI hi him)
    have := leftN_set (mem_ready.1 hi).1 him
    omega
theorem set_getD {listed : Array Bool} {i j : Nat} (h : (listed.setIfInBounds i true).getD j false = true) : j = i ∨ listed.getD j false = true := by
  by_cases e : j = i
  · exact .inl e
  · rw [getD_set_ne false (fun e' => e e'.symm)] at h; exact .inr h
/-- the whole region -/
theorem wp_any_inv {P : Program} {ops : Array Oper} {Q : Exit → Act → World → Prop} {id : Nat} {a : Act} {w : World} (m : Nat) (hmo : P.follows .mixedOrders = true) (hs : Region.sinkB .any ops m = true) (hc : Region.chainB .any ops m = true) (hbk : backB ops = true) (hm : m < ops.size) (Inv : Array Bool → Act → World → Prop)
    (h0 : Inv (Array.replicate ops.size false) a w.drew) (hl : leftN (Array.replicate ops.size false) m = m)
    (hstep : ∀ listed a w i, Inv listed a w → i ∈ Region.ready .any ops listed → i < m → wpOp P ops Q i (fun a' w' => Inv (listed.setIfInBounds i true) a' w') a w)
    (hend : ∀ listed a w, HeadInv .any ops m listed → (∀ i, i < m → listed.getD i true = true) → Inv listed a w → wpAny P .any ops Q (ops.size - m) listed a w) :
    (Code.region id ops true).wp P Q a w := by
  have inv0 : HeadInv .any ops m (Array.replicate ops.size false) :=
    ⟨by simp, fun j oj _ hl => (by rw [getD_replicate_false] at hl; cases hl), fun t _ ht => getD_in (by simpa using ht) (getD_replicate_false _ _)⟩
  have h1 := any_inv hs hc hbk hm Inv hstep hend m _ a w.drew inv0 hl h0
  rw [show m + (ops.size - m) = ops.size by omega] at h1
  exact wp_region_any hmo h1

theorem wpOp_stepL {P : Program} {l : List Oper} {Q : Exit → Act → World → Prop} {i : Nat} {oi : Oper} {K : Act → World → Prop} {a : Act} {w : World} (hi : l[i]? = some oi)
    (h : ∀ K' : Act → World → Prop, (∀ a w, K a w → K' a w) → if Region.wanted oi (yielded l.toArray a.tmps) = true then Oper.wp P oi a w K' Q else K' (a.put oi.dst undef) w) : wpOp P l.toArray Q i K a w :=
  wpOp_step (by rw [List.getElem?_toArray]; exact hi) h

end Go.Proofs.Ytmcaphbngfdfiaa

/- Copies of expressions in the reference: l02Own (printed by gen_own.py). -/
namespace Go.Proofs.Ytmcaphbngfdfiaa
open Go.RowKit Plain

def OwnC (ks : Es) : Prop := ∀ (k n p c : Int) (b o B : Nat) (w : World), ElAt w B k n p c ks b o → B ≤ w.heap.size → ks.size ≤ 1048576 →
  Calls Try.prog 10 #[ptr b o] w (NdPost ⟨k, n, p, c, ks⟩ w)
/-- the state of the copy: the box, the row in it -/
structure OwnSt (w wr : World) (k n p c : Int) (v : Value) (pre : Es) : Prop where
  box : Cells wr (w.heap.size + 1) 29 [.int .i64 k, .int .i64 n, .int .i64 p, .int .i64 c, v]
  box0 : Cells wr w.heap.size 29 [.int .i64 0, .int .i64 0, .int .i64 0, .int .i64 0, .slice none 0 0]
  row : ∃ vs, ERow wr (w.heap.size + 2) v pre vs
  below : Below w.heap.size w wr
theorem OwnSt.next {w wr w' : World} {k n p c : Int} {v : Value} {pre : Es} (h : OwnSt w wr k n p c v pre) (hb : Below wr.heap.size wr w') : OwnSt w w' k n p c v pre := by
  obtain ⟨vs, hv⟩ := h.row
  exact ⟨h.box.next hb, h.box0.next hb, ⟨vs, hv.below hb⟩, bnext h.below hb⟩
theorem exs_get {w : World} {B : Nat} : ∀ {es : Es} {b o i : Nat} {x : Nd}, ExsAt w B es b o → es.get? i = some x → ElAt w B x.k x.n x.p x.c x.ks b (o + i * 5)
  | .cons k n p c ks r, b, o, 0, x, h, hx => by
    simp only [Es.get?, Option.some.injEq] at hx
    subst hx
    rw [Nat.zero_mul, Nat.add_zero]; exact h.1
  | .cons k n p c ks r, b, o, i + 1, x, h, hx => by
    simp only [Es.get?] at hx
    have := exs_get h.2 hx
    rwa [show o + 5 + i * 5 = o + (i + 1) * 5 by omega] at this
  | .nil, _, _, _, _, _, hx => by simp [Es.get?] at hx

set_option maxRecDepth 100000 in
set_option maxHeartbeats 4000000 in
theorem l02Own_any : ∀ (m : Nat) (ks : Es), ks.size < m → OwnC ks := by
  intro m
  induction m with
  | zero => intro es h; omega
  | succ m ih =>
  intro ks hm k n p c b o B w hE hB hsz0
  obtain ⟨i0, hi, hz0, hz1, hz2⟩ := info_parts Try.infoE
  have IH := Lib.hid ih; clear ih
  obtain ⟨hbB, h0, h1, h2, h3, K, cap, b', o', h4, hc, hcm, hK, hks⟩ := hE
  have HKS := Lib.hid hks; clear hks
  have hcm' : cap ≤ 9223372036854775807 := by unfold maxLen at hcm; omega
  have hbw : b < w.heap.size := by omega
  have hls := Es.len_le_size ks
  go_enter Try.func10, Try.ntmps10
  go_upto_region 1 with fail
  have hg0 : Below w.heap.size w (w.alloc (.cells #[.int .i64 0, .int .i64 0, .int .i64 0, .int .i64 0, .slice none 0 0] 29)) := by go_grown
  have hn0 : Cells (w.alloc (.cells #[.int .i64 0, .int .i64 0, .int .i64 0, .int .i64 0, .slice none 0 0] 29)) w.heap.size 29 [.int .i64 0, .int .i64 0, .int .i64 0, .int .i64 0, .slice none 0 0] := Cells.new _ _ _
  have hs0 : (w.alloc (.cells #[.int .i64 0, .int .i64 0, .int .i64 0, .int .i64 0, .slice none 0 0] 29)).heap.size = w.heap.size + 1 := by simp
  change Code.wp _ _ _ _ (w.alloc (.cells #[.int .i64 0, .int .i64 0, .int .i64 0, .int .i64 0, .slice none 0 0] 29))
  generalize w.alloc (.cells #[.int .i64 0, .int .i64 0, .int .i64 0, .int .i64 0, .slice none 0 0] 29) = W1 at hg0 hn0 hs0 ⊢
  have HB1 := Lib.hid hg0.drew
  have HN1 : Hid (Cells W1.drew w.heap.size 29 [.int .i64 0, .int .i64 0, .int .i64 0, .int .i64 0, .slice none 0 0]) := hn0.drewN 1
  have HS1 : Hid (W1.drew.heap.size = w.heap.size + 1) := hs0
  have hD : Hid (W1.drew.cell? ⟨b, o, none⟩ = some (.int .i64 k) ∧ W1.drew.cell? ⟨b, o + 1, none⟩ = some (.int .i64 n) ∧ W1.drew.cell? ⟨b, o + 2, none⟩ = some (.int .i64 p) ∧ W1.drew.cell? ⟨b, o + 3, none⟩ = some (.int .i64 c)) :=
    ⟨keepC h0 hg0.drew, keepC h1 hg0.drew, keepC h2 hg0.drew, keepC h3 hg0.drew⟩
  clear hg0 hn0 hs0
  refine RegE.start (S := fun wx => wx.cell? ⟨b, o, none⟩ = some (.int .i64 k) ∧ wx.cell? ⟨b, o + 1, none⟩ = some (.int .i64 n) ∧ wx.cell? ⟨b, o + 2, none⟩ = some (.int .i64 p) ∧ wx.cell? ⟨b, o + 3, none⟩ = some (.int .i64 c)) 18 (by kernel_rfl) (by kernel_rfl) ?Sa0 (fun hHeld hB => ?_)
  case Sa0 => ((try dsimp only); exact hD.out)
  refine RegE.takeL (S := fun wx => wx.cell? ⟨b, o, none⟩ = some (.int .i64 k) ∧ wx.cell? ⟨b, o + 1, none⟩ = some (.int .i64 n) ∧ wx.cell? ⟨b, o + 2, none⟩ = some (.int .i64 p) ∧ wx.cell? ⟨b, o + 3, none⟩ = some (.int .i64 c)) (i := 0) (v := ?va0) hB rfl (by decide) (by kernel_rfl) (by kernel_rfl) (fun _ _ _ h => h) (Or.inl ⟨by rfl, ?ya0⟩) hHeld ?ra0
  case ya0 => ((intro w hSw; (try dsimp only at hSw); go_simp) <;> with_reducible rfl)
  (try simp only [Act.put, List.setIfInBounds_toArray, List.set_cons_zero, List.set_cons_succ])
  refine RegE.takeL (S := fun wx => wx.cell? ⟨b, o, none⟩ = some (.int .i64 k) ∧ wx.cell? ⟨b, o + 1, none⟩ = some (.int .i64 n) ∧ wx.cell? ⟨b, o + 2, none⟩ = some (.int .i64 p) ∧ wx.cell? ⟨b, o + 3, none⟩ = some (.int .i64 c)) (i := 1) (v := ?va1) hB rfl (by decide) (by kernel_rfl) (by kernel_rfl) (fun _ _ _ h => h) (Or.inl ⟨by rfl, ?ya1⟩) hHeld ?ra1
  case ya1 => ((intro w hSw; (try dsimp only at hSw); go_simp) <;> with_reducible rfl)
  (try simp only [Act.put, List.setIfInBounds_toArray, List.set_cons_zero, List.set_cons_succ])
  refine RegE.takeL (S := fun wx => wx.cell? ⟨b, o, none⟩ = some (.int .i64 k) ∧ wx.cell? ⟨b, o + 1, none⟩ = some (.int .i64 n) ∧ wx.cell? ⟨b, o + 2, none⟩ = some (.int .i64 p) ∧ wx.cell? ⟨b, o + 3, none⟩ = some (.int .i64 c)) (i := 2) (v := ?va2) hB rfl (by decide) (by kernel_rfl) (by kernel_rfl) (fun _ _ _ h => h) (Or.inl ⟨by rfl, ?ya2⟩) hHeld ?ra2
  case ya2 => ((intro w hSw; (try dsimp only at hSw); go_simp) <;> with_reducible rfl)
  (try simp only [Act.put, List.setIfInBounds_toArray, List.set_cons_zero, List.set_cons_succ])
  refine RegE.takeL (S := fun wx => wx.cell? ⟨b, o, none⟩ = some (.int .i64 k) ∧ wx.cell? ⟨b, o + 1, none⟩ = some (.int .i64 n) ∧ wx.cell? ⟨b, o + 2, none⟩ = some (.int .i64 p) ∧ wx.cell? ⟨b, o + 3, none⟩ = some (.int .i64 c)) (i := 3) (v := ?va3) hB rfl (by decide) (by kernel_rfl) (by kernel_rfl) (fun _ _ _ h => h) (Or.inl ⟨by rfl, ?ya3⟩) hHeld ?ra3
  case ya3 => ((intro w hSw; (try dsimp only at hSw); go_simp) <;> with_reducible rfl)
  (try simp only [Act.put, List.setIfInBounds_toArray, List.set_cons_zero, List.set_cons_succ])
  refine RegE.takeL (S := fun wx => wx.cell? ⟨b, o, none⟩ = some (.int .i64 k) ∧ wx.cell? ⟨b, o + 1, none⟩ = some (.int .i64 n) ∧ wx.cell? ⟨b, o + 2, none⟩ = some (.int .i64 p) ∧ wx.cell? ⟨b, o + 3, none⟩ = some (.int .i64 c)) (i := 4) (v := ?va4) hB rfl (by decide) (by kernel_rfl) (by kernel_rfl) (fun _ _ _ h => h) (Or.inl ⟨by rfl, ?ya4⟩) hHeld ?ra4
  case ya4 => ((intro w hSw; (try dsimp only at hSw); go_simp) <;> with_reducible rfl)
  (try simp only [Act.put, List.setIfInBounds_toArray, List.set_cons_zero, List.set_cons_succ])
  refine RegE.takeL (S := fun wx => wx.cell? ⟨b, o, none⟩ = some (.int .i64 k) ∧ wx.cell? ⟨b, o + 1, none⟩ = some (.int .i64 n) ∧ wx.cell? ⟨b, o + 2, none⟩ = some (.int .i64 p) ∧ wx.cell? ⟨b, o + 3, none⟩ = some (.int .i64 c)) (i := 5) (v := ?va5) hB rfl (by decide) (by kernel_rfl) (by kernel_rfl) (fun _ _ _ h => h) (Or.inl ⟨by rfl, ?ya5⟩) hHeld ?ra5
  case ya5 => ((intro w hSw; (try dsimp only at hSw); go_simp) <;> with_reducible rfl)
  (try simp only [Act.put, List.setIfInBounds_toArray, List.set_cons_zero, List.set_cons_succ])
  refine RegE.takeL (S := fun wx => wx.cell? ⟨b, o, none⟩ = some (.int .i64 k) ∧ wx.cell? ⟨b, o + 1, none⟩ = some (.int .i64 n) ∧ wx.cell? ⟨b, o + 2, none⟩ = some (.int .i64 p) ∧ wx.cell? ⟨b, o + 3, none⟩ = some (.int .i64 c)) (i := 6) (v := ?va6) hB rfl (by decide) (by kernel_rfl) (by kernel_rfl) (fun _ _ _ h => h) (Or.inl ⟨by rfl, ?ya6⟩) hHeld ?ra6
  case ya6 => ((intro w hSw; (try dsimp only at hSw); go_simp) <;> with_reducible rfl)
  (try simp only [Act.put, List.setIfInBounds_toArray, List.set_cons_zero, List.set_cons_succ])
  refine RegE.takeL (S := fun wx => wx.cell? ⟨b, o, none⟩ = some (.int .i64 k) ∧ wx.cell? ⟨b, o + 1, none⟩ = some (.int .i64 n) ∧ wx.cell? ⟨b, o + 2, none⟩ = some (.int .i64 p) ∧ wx.cell? ⟨b, o + 3, none⟩ = some (.int .i64 c)) (i := 7) (v := ?va7) hB rfl (by decide) (by kernel_rfl) (by kernel_rfl) (fun _ _ _ h => h) (Or.inl ⟨by rfl, ?ya7⟩) hHeld ?ra7
  case ya7 => ((intro w hSw; (try dsimp only at hSw); go_simp) <;> with_reducible rfl)
  (try simp only [Act.put, List.setIfInBounds_toArray, List.set_cons_zero, List.set_cons_succ])
  refine RegE.takeL (S := fun wx => wx.cell? ⟨b, o, none⟩ = some (.int .i64 k) ∧ wx.cell? ⟨b, o + 1, none⟩ = some (.int .i64 n) ∧ wx.cell? ⟨b, o + 2, none⟩ = some (.int .i64 p) ∧ wx.cell? ⟨b, o + 3, none⟩ = some (.int .i64 c)) (i := 8) (v := ?va8) hB rfl (by decide) (by kernel_rfl) (by kernel_rfl) (fun _ _ _ h => h) (Or.inl ⟨by rfl, ?ya8⟩) hHeld ?ra8
  case ya8 => ((intro w hSw; (try dsimp only at hSw); go_simp) <;> with_reducible rfl)
  (try simp only [Act.put, List.setIfInBounds_toArray, List.set_cons_zero, List.set_cons_succ])
  refine RegE.takeL (S := fun wx => wx.cell? ⟨b, o, none⟩ = some (.int .i64 k) ∧ wx.cell? ⟨b, o + 1, none⟩ = some (.int .i64 n) ∧ wx.cell? ⟨b, o + 2, none⟩ = some (.int .i64 p) ∧ wx.cell? ⟨b, o + 3, none⟩ = some (.int .i64 c)) (i := 9) (v := ?va9) hB rfl (by decide) (by kernel_rfl) (by kernel_rfl) (fun _ _ _ h => h) (Or.inl ⟨by rfl, ?ya9⟩) hHeld ?ra9
  case ya9 => ((intro w hSw; (try dsimp only at hSw); go_simp) <;> with_reducible rfl)
  (try simp only [Act.put, List.setIfInBounds_toArray, List.set_cons_zero, List.set_cons_succ])
  refine RegE.takeL (S := fun wx => wx.cell? ⟨b, o, none⟩ = some (.int .i64 k) ∧ wx.cell? ⟨b, o + 1, none⟩ = some (.int .i64 n) ∧ wx.cell? ⟨b, o + 2, none⟩ = some (.int .i64 p) ∧ wx.cell? ⟨b, o + 3, none⟩ = some (.int .i64 c)) (i := 10) (v := ?va10) hB rfl (by decide) (by kernel_rfl) (by kernel_rfl) (fun _ _ _ h => h) (Or.inl ⟨by rfl, ?ya10⟩) hHeld ?ra10
  case ya10 => ((intro w hSw; (try dsimp only at hSw); go_simp) <;> with_reducible rfl)
  (try simp only [Act.put, List.setIfInBounds_toArray, List.set_cons_zero, List.set_cons_succ])
  refine RegE.takeL (S := fun wx => wx.cell? ⟨b, o, none⟩ = some (.int .i64 k) ∧ wx.cell? ⟨b, o + 1, none⟩ = some (.int .i64 n) ∧ wx.cell? ⟨b, o + 2, none⟩ = some (.int .i64 p) ∧ wx.cell? ⟨b, o + 3, none⟩ = some (.int .i64 c)) (i := 11) (v := ?va11) hB rfl (by decide) (by kernel_rfl) (by kernel_rfl) (fun _ _ _ h => h) (Or.inl ⟨by rfl, ?ya11⟩) hHeld ?ra11
  case ya11 => ((intro w hSw; (try dsimp only at hSw); go_simp) <;> with_reducible rfl)
  (try simp only [Act.put, List.setIfInBounds_toArray, List.set_cons_zero, List.set_cons_succ])
  refine RegE.takeL (S := fun wx => wx.cell? ⟨b, o, none⟩ = some (.int .i64 k) ∧ wx.cell? ⟨b, o + 1, none⟩ = some (.int .i64 n) ∧ wx.cell? ⟨b, o + 2, none⟩ = some (.int .i64 p) ∧ wx.cell? ⟨b, o + 3, none⟩ = some (.int .i64 c)) (i := 12) (v := ?va12) hB rfl (by decide) (by kernel_rfl) (by kernel_rfl) (fun _ _ _ h => h) (Or.inl ⟨by rfl, ?ya12⟩) hHeld ?ra12
  case ya12 => ((intro w hSw; (try dsimp only at hSw); go_simp) <;> with_reducible rfl)
  (try simp only [Act.put, List.setIfInBounds_toArray, List.set_cons_zero, List.set_cons_succ])
  refine RegE.takeL (S := fun wx => wx.cell? ⟨b, o, none⟩ = some (.int .i64 k) ∧ wx.cell? ⟨b, o + 1, none⟩ = some (.int .i64 n) ∧ wx.cell? ⟨b, o + 2, none⟩ = some (.int .i64 p) ∧ wx.cell? ⟨b, o + 3, none⟩ = some (.int .i64 c)) (i := 13) (v := ?va13) hB rfl (by decide) (by kernel_rfl) (by kernel_rfl) (fun _ _ _ h => h) (Or.inl ⟨by rfl, ?ya13⟩) hHeld ?ra13
  case ya13 => ((intro w hSw; (try dsimp only at hSw); go_simp) <;> with_reducible rfl)
  (try simp only [Act.put, List.setIfInBounds_toArray, List.set_cons_zero, List.set_cons_succ])
  refine RegE.takeL (S := fun wx => wx.cell? ⟨b, o, none⟩ = some (.int .i64 k) ∧ wx.cell? ⟨b, o + 1, none⟩ = some (.int .i64 n) ∧ wx.cell? ⟨b, o + 2, none⟩ = some (.int .i64 p) ∧ wx.cell? ⟨b, o + 3, none⟩ = some (.int .i64 c)) (i := 14) (v := ?va14) hB rfl (by decide) (by kernel_rfl) (by kernel_rfl) (fun _ _ _ h => h) (Or.inl ⟨by rfl, ?ya14⟩) hHeld ?ra14
  case ya14 => ((intro w hSw; (try dsimp only at hSw); go_simp) <;> with_reducible rfl)
  (try simp only [Act.put, List.setIfInBounds_toArray, List.set_cons_zero, List.set_cons_succ])
  refine RegE.takeL (S := fun wx => wx.cell? ⟨b, o, none⟩ = some (.int .i64 k) ∧ wx.cell? ⟨b, o + 1, none⟩ = some (.int .i64 n) ∧ wx.cell? ⟨b, o + 2, none⟩ = some (.int .i64 p) ∧ wx.cell? ⟨b, o + 3, none⟩ = some (.int .i64 c)) (i := 15) (v := ?va15) hB rfl (by decide) (by kernel_rfl) (by kernel_rfl) (fun _ _ _ h => h) (Or.inl ⟨by rfl, ?ya15⟩) hHeld ?ra15
  case ya15 => ((intro w hSw; (try dsimp only at hSw); go_simp) <;> with_reducible rfl)
  (try simp only [Act.put, List.setIfInBounds_toArray, List.set_cons_zero, List.set_cons_succ])
  refine RegE.takeL (S := fun wx => wx.cell? ⟨b, o, none⟩ = some (.int .i64 k) ∧ wx.cell? ⟨b, o + 1, none⟩ = some (.int .i64 n) ∧ wx.cell? ⟨b, o + 2, none⟩ = some (.int .i64 p) ∧ wx.cell? ⟨b, o + 3, none⟩ = some (.int .i64 c)) (i := 16) (v := ?va16) hB rfl (by decide) (by kernel_rfl) (by kernel_rfl) (fun _ _ _ h => h) (Or.inl ⟨by rfl, ?ya16⟩) hHeld ?ra16
  case ya16 => ((intro w hSw; (try dsimp only at hSw); go_simp) <;> with_reducible rfl)
  (try simp only [Act.put, List.setIfInBounds_toArray, List.set_cons_zero, List.set_cons_succ])
  generalize W1.drew = W2 at *
  refine RegE.stepL (i := 17) rfl (by decide) (by kernel_rfl) (fun K hK => ?_)
  go_simp
  have hb2 : Below W2.heap.size W2 (W2.alloc (.cells #[.int .i64 0, .int .i64 0, .int .i64 0, .int .i64 0, .slice none 0 0] 29)) := by go_grown
  refine hK.out _ _ ?Sa17 (fun hHeldN => ?_)
  case Sa17 => ((try dsimp only); exact ⟨keepC hHeld.1 hb2, keepC hHeld.2.1 hb2, keepC hHeld.2.2.1 hb2, keepC hHeld.2.2.2 hb2⟩)
  clear hK K hHeld
  have hHeld := hHeldN
  clear hHeldN
  (try simp only [Act.put, List.setIfInBounds_toArray, List.set_cons_zero, List.set_cons_succ])
  refine RegE.lastL rfl (by kernel_rfl) (by kernel_rfl) (fun K hK => ?_)
  go_simp
  refine hK.out _ _ ?_
  clear hK K
  rw [HS1.out]
  have hg3 : Below W2.heap.size W2 (W2.alloc (.cells #[.int .i64 k, .int .i64 n, .int .i64 p, .int .i64 c, .slice none 0 0] 29)) := by go_grown
  have hn3 : Cells (W2.alloc (.cells #[.int .i64 k, .int .i64 n, .int .i64 p, .int .i64 c, .slice none 0 0] 29)) (w.heap.size + 1) 29 [.int .i64 k, .int .i64 n, .int .i64 p, .int .i64 c, .slice none 0 0] := by have := Cells.new W2 29 [.int .i64 k, .int .i64 n, .int .i64 p, .int .i64 c, .slice none 0 0]; rwa [HS1.out] at this
  have hW3 : OwnSt w (W2.alloc (.cells #[.int .i64 k, .int .i64 n, .int .i64 p, .int .i64 c, .slice none 0 0] 29)) k n p c (.slice none 0 0) .nil := ⟨hn3, HN1.out.next hg3, ⟨[], ERow.nilv _ _ (by have := hg3.size; have := hn3.lt; omega)⟩, bnext HB1.out hg3⟩
  change Exit.then _ _ _ _ (W2.alloc (.cells #[.int .i64 k, .int .i64 n, .int .i64 p, .int .i64 c, .slice none 0 0] 29))
  generalize W2.alloc (.cells #[.int .i64 k, .int .i64 n, .int .i64 p, .int .i64 c, .slice none 0 0] 29) = W3 at hW3 ⊢
  have HST := Lib.hid hW3
  clear hg3 hn3 hW3 hHeld hb2 hB HB1 HN1 HS1 hD
  go_wp2
  go_loopw [4] (fun i wr => ∃ (es' pre : Es) (v : Value), i = .int .i64 (pre.len : Int) ∧ pre.len + es'.len = ks.len ∧ Hid (pre.app es' = ks) ∧ Hid (es'.size ≤ ks.size) ∧ Hid (ExsAt wr B es' b' (o' + pre.len * 5)) ∧ Hid (OwnSt w wr k n p c v pre)) (fun i _ => ks.len - (intOf i).toNat)
  case atStart =>
    refine ⟨ks, .nil, .slice none 0 0, by first | rfl | go_num, by simp [Es.len], rfl, Nat.le_refl _, ?_, HST.out⟩
    show ExsAt _ _ _ _ _; simp only [Es.len, Nat.zero_mul, Nat.add_zero]; exact HKS.out.below (HST.out.below.mono (by omega))
  case round =>
    obtain ⟨es', pre, v, rfl, hj, happ, hsz, HE, HO⟩ := hrel
    have h4' : wr.cell? ⟨b, o + 4, none⟩ = some (.slice K ks.len cap) := (HO.out.below.cell (p := ⟨b, _, none⟩) hbw).trans h4
    cases es' with
    | nil =>
      simp only [Es.len] at hj
      obtain rfl : pre = ks := by have := happ.out; rwa [Es.app_nil] at this
      obtain ⟨vs, hrow⟩ := HO.out.row
      obtain ⟨A, cp, rfl, hc1, hm1⟩ := hrow.form
      have y0 : wr.cell? ⟨w.heap.size + 1, 0, none⟩ = some (.int .i64 k) := by rw [HO.out.box.cell]; rfl
      have y1 : wr.cell? ⟨w.heap.size + 1, 1, none⟩ = some (.int .i64 n) := by rw [HO.out.box.cell]; rfl
      have y2 : wr.cell? ⟨w.heap.size + 1, 2, none⟩ = some (.int .i64 p) := by rw [HO.out.box.cell]; rfl
      have y3 : wr.cell? ⟨w.heap.size + 1, 3, none⟩ = some (.int .i64 c) := by rw [HO.out.box.cell]; rfl
      have y4 : wr.cell? ⟨w.heap.size + 1, 4, none⟩ = some (.slice A pre.len cp) := by rw [HO.out.box.cell]; rfl
      have hZ := HO.out.box0
      have j0 : wr.cell? ⟨w.heap.size, 0, none⟩ = some (.int .i64 0) := by rw [hZ.cell]; rfl
      have g0 : wr.frozen? ⟨w.heap.size, 0, none⟩ = false := hZ.frozen _
      have j1 : wr.cell? ⟨w.heap.size, 1, none⟩ = some (.int .i64 0) := by rw [hZ.cell]; rfl
      have g1 : wr.frozen? ⟨w.heap.size, 1, none⟩ = false := hZ.frozen _
      have j2 : wr.cell? ⟨w.heap.size, 2, none⟩ = some (.int .i64 0) := by rw [hZ.cell]; rfl
      have g2 : wr.frozen? ⟨w.heap.size, 2, none⟩ = false := hZ.frozen _
      have j3 : wr.cell? ⟨w.heap.size, 3, none⟩ = some (.int .i64 0) := by rw [hZ.cell]; rfl
      have g3 : wr.frozen? ⟨w.heap.size, 3, none⟩ = false := hZ.frozen _
      have j4 : wr.cell? ⟨w.heap.size, 4, none⟩ = some (.slice none 0 0) := by rw [hZ.cell]; rfl
      have g4 : wr.frozen? ⟨w.heap.size, 4, none⟩ = false := hZ.frozen _
      have d0 := hZ
      have d1 := d0.set_ 0 (.int .i64 k)
      have d2 := d1.set_ 1 (.int .i64 n)
      have d3 := d2.set_ 2 (.int .i64 p)
      have d4 := d3.set_ 3 (.int .i64 c)
      have d5 := d4.set_ 4 (.slice A pre.len cp)
      have x0 := d1.cell 0
      have x1 := d2.cell 1
      have x2 := d3.cell 2
      have x3 := d4.cell 3
      have x4 := d5.cell 4
      simp only [List.set_cons_zero, List.set_cons_succ, List.getElem?_cons_zero, List.getElem?_cons_succ] at x0 x1 x2 x3 x4
      have HP : Hid (NdPost ⟨k, n, p, c, pre⟩ w (.returned (exV k n p c A pre.len cp)) (set5 wr w.heap.size 0 k n p c (.slice A pre.len cp))) := by
        refine ⟨set5_below _ _ _ _ _ HO.out.below (Nat.le_refl _), A, cp, rfl, hc1, hm1, (hrow.treeR.keep (fun q q1 q2 => set5_block _ _ _ _ _ (by omega))).wide (by omega) (by rw [set5_size]; exact Nat.le_refl _)⟩
      clear hrow hZ d0 d1 d2 d3 d4 d5 HO HE
      go_wp2
      refine bodyPost_ret (v := exV k n p c A pre.len cp) (by simp [results, Try.results10, go_sem, x0, x1, x2, x3, x4]) rfl ?_
      exact HP.out
    | cons kk n' p' c' ks' r =>
      simp only [Es.len] at hj
      have hK := hK (by omega)
      subst hK
      obtain ⟨hel0, hr⟩ := HE.out
      have hel : ElAt wr B kk n' p' c' ks' b' (o' + pre.len * 5) := hel0
      clear hel0
      have hrs : Hid (r.size ≤ ks.size ∧ ks'.size < ks.size) := by
        have := hsz.out
        simp only [Es.size] at this
        exact ⟨by omega, by omega⟩
      have happ2 : Hid ((pre.snoc kk n' p' c' ks').app r = ks) := by show _ = _; rw [Es.snoc_app]; exact happ.out
      have hjl : (pre.len : Int) < (ks.len : Int) := by omega
      have hjn : pre.len < ks.len := by omega
      obtain ⟨vs, hrow⟩ := HO.out.row
      obtain ⟨Av, cp, rfl, _, _⟩ := hrow.form
      have hmax : pre.len + 1 ≤ 1048577 := by omega
      go_upto_region 5 with fail
      have HOD := Lib.hid (HO.out.next (Below.refl _ _).drew)
      have hrowD : ERow wr.drew (w.heap.size + 2) (.slice Av pre.len cp) pre vs := hrow.below (Below.refl _ _).drew
      have HROW := Lib.hid hrowD
      have HEL := Lib.hid (hel.below ((Below.refl _ _).drew.mono (by have := HO.out.below.size; omega)) : ElAt wr.drew B kk n' p' c' ks' b' (o' + pre.len * 5))
      have HRE := Lib.hid (hr.below ((Below.refl _ _).drew.mono (by have := HO.out.below.size; omega)) : ExsAt wr.drew B r b' (o' + pre.len * 5 + 5))
      have hD : Hid (wr.drew.cell? ⟨w.heap.size + 1, 4, none⟩ = some (.slice Av pre.len cp) ∧ wr.drew.cell? ⟨b, o + 4, none⟩ = some (.slice (some ⟨b', o', none⟩) ks.len cap)) := ⟨by rw [HOD.out.box.cell]; rfl, h4'⟩
      have HSZ : Hid (w.heap.size ≤ wr.drew.heap.size) := HO.out.below.size
      clear hel hr hrow hrowD HO HE h4' hsz happ
      refine RegE.start (S := fun wx => wx.cell? ⟨w.heap.size + 1, 4, none⟩ = some (.slice Av pre.len cp) ∧ wx.cell? ⟨b, o + 4, none⟩ = some (.slice (some ⟨b', o', none⟩) ks.len cap)) 12 (by kernel_rfl) (by kernel_rfl) ?Sb0 (fun hHeld hB => ?_)
      case Sb0 => ((try dsimp only); exact hD.out)
      generalize wr.drew = wd at *
      refine RegE.takeL (S := fun wx => wx.cell? ⟨w.heap.size + 1, 4, none⟩ = some (.slice Av pre.len cp) ∧ wx.cell? ⟨b, o + 4, none⟩ = some (.slice (some ⟨b', o', none⟩) ks.len cap)) (i := 0) (v := ?vb0) hB rfl (by decide) (by kernel_rfl) (by kernel_rfl) (fun _ _ _ h => h) (Or.inl ⟨by rfl, ?yb0⟩) hHeld ?rb0
      case yb0 => ((intro w hSw; (try dsimp only at hSw); go_simp) <;> with_reducible rfl)
      (try simp only [Act.put, List.setIfInBounds_toArray, List.set_cons_zero, List.set_cons_succ])
      refine RegE.takeL (S := fun wx => wx.cell? ⟨w.heap.size + 1, 4, none⟩ = some (.slice Av pre.len cp) ∧ wx.cell? ⟨b, o + 4, none⟩ = some (.slice (some ⟨b', o', none⟩) ks.len cap)) (i := 1) (v := ?vb1) hB rfl (by decide) (by kernel_rfl) (by kernel_rfl) (fun _ _ _ h => h) (Or.inl ⟨by rfl, ?yb1⟩) hHeld ?rb1
      case yb1 => ((intro w hSw; (try dsimp only at hSw); go_simp) <;> with_reducible rfl)
      (try simp only [Act.put, List.setIfInBounds_toArray, List.set_cons_zero, List.set_cons_succ])
      refine RegE.takeL (S := fun wx => wx.cell? ⟨w.heap.size + 1, 4, none⟩ = some (.slice Av pre.len cp) ∧ wx.cell? ⟨b, o + 4, none⟩ = some (.slice (some ⟨b', o', none⟩) ks.len cap)) (i := 2) (v := ?vb2) hB rfl (by decide) (by kernel_rfl) (by kernel_rfl) (fun _ _ _ h => h) (Or.inl ⟨by rfl, ?yb2⟩) hHeld ?rb2
      case yb2 => ((intro w hSw; (try dsimp only at hSw); go_simp) <;> with_reducible rfl)
      (try simp only [Act.put, List.setIfInBounds_toArray, List.set_cons_zero, List.set_cons_succ])
      refine RegE.takeL (S := fun wx => wx.cell? ⟨w.heap.size + 1, 4, none⟩ = some (.slice Av pre.len cp) ∧ wx.cell? ⟨b, o + 4, none⟩ = some (.slice (some ⟨b', o', none⟩) ks.len cap)) (i := 3) (v := ?vb3) hB rfl (by decide) (by kernel_rfl) (by kernel_rfl) (fun _ _ _ h => h) (Or.inl ⟨by rfl, ?yb3⟩) hHeld ?rb3
      case yb3 => ((intro w hSw; (try dsimp only at hSw); go_simp) <;> with_reducible rfl)
      (try simp only [Act.put, List.setIfInBounds_toArray, List.set_cons_zero, List.set_cons_succ])
      refine RegE.takeL (S := fun wx => wx.cell? ⟨w.heap.size + 1, 4, none⟩ = some (.slice Av pre.len cp) ∧ wx.cell? ⟨b, o + 4, none⟩ = some (.slice (some ⟨b', o', none⟩) ks.len cap)) (i := 4) (v := ?vb4) hB rfl (by decide) (by kernel_rfl) (by kernel_rfl) (fun _ _ _ h => h) (Or.inl ⟨by rfl, ?yb4⟩) hHeld ?rb4
      case yb4 => ((intro w hSw; (try dsimp only at hSw); go_simp) <;> with_reducible rfl)
      (try simp only [Act.put, List.setIfInBounds_toArray, List.set_cons_zero, List.set_cons_succ])
      refine RegE.takeL (S := fun wx => wx.cell? ⟨w.heap.size + 1, 4, none⟩ = some (.slice Av pre.len cp) ∧ wx.cell? ⟨b, o + 4, none⟩ = some (.slice (some ⟨b', o', none⟩) ks.len cap)) (i := 5) (v := ?vb5) hB rfl (by decide) (by kernel_rfl) (by kernel_rfl) (fun _ _ _ h => h) (Or.inl ⟨by rfl, ?yb5⟩) hHeld ?rb5
      case yb5 => ((intro w hSw; (try dsimp only at hSw); go_simp) <;> with_reducible rfl)
      (try simp only [Act.put, List.setIfInBounds_toArray, List.set_cons_zero, List.set_cons_succ])
      refine RegE.takeL (S := fun wx => wx.cell? ⟨w.heap.size + 1, 4, none⟩ = some (.slice Av pre.len cp) ∧ wx.cell? ⟨b, o + 4, none⟩ = some (.slice (some ⟨b', o', none⟩) ks.len cap)) (i := 6) (v := ?vb6) hB rfl (by decide) (by kernel_rfl) (by kernel_rfl) (fun _ _ _ h => h) (Or.inl ⟨by rfl, ?yb6⟩) hHeld ?rb6
      case yb6 => ((intro w hSw; (try dsimp only at hSw); go_simp) <;> with_reducible rfl)
      (try simp only [Act.put, List.setIfInBounds_toArray, List.set_cons_zero, List.set_cons_succ])
      refine RegE.takeL (S := fun wx => wx.cell? ⟨w.heap.size + 1, 4, none⟩ = some (.slice Av pre.len cp) ∧ wx.cell? ⟨b, o + 4, none⟩ = some (.slice (some ⟨b', o', none⟩) ks.len cap)) (i := 7) (v := ?vb7) hB rfl (by decide) (by kernel_rfl) (by kernel_rfl) (fun _ _ _ h => h) (Or.inl ⟨by rfl, ?yb7⟩) hHeld ?rb7
      case yb7 => ((intro w hSw; (try dsimp only at hSw); go_simp) <;> with_reducible rfl)
      (try simp only [Act.put, List.setIfInBounds_toArray, List.set_cons_zero, List.set_cons_succ])
      refine RegE.stepL (i := 8) rfl (by decide) (by kernel_rfl) (fun K hK => ?_)
      go_simp
      go_at_call 10
      refine (IH.out ks' (by have := hrs.out; omega) kk n' p' c' b' (o' + pre.len * 5) B wd HEL.out (by have := HSZ.out; omega) (by have := hrs.out; omega)).mono ?_
      rintro e w1 ⟨hb1, K', c1, rfl, hc1, hm1, hT⟩
      have HB1 := Lib.hid hb1
      have HT := Lib.hid hT
      clear hT
      refine hK.out _ _ ?Sb8 (fun hHeldN => ?_)
      case Sb8 => ((try dsimp only); exact ⟨keepC hHeld.1 hb1, keepC hHeld.2 hb1⟩)
      clear hK K hHeld
      have hHeld := hHeldN
      clear hHeldN
      (try simp only [])
      obtain ⟨W1', hW1'⟩ : ∃ W, W = w1.alloc (.cells #[.int .i64 kk, .int .i64 n', .int .i64 p', .int .i64 c', .slice K' ks'.len c1] 29) := ⟨_, rfl⟩
      have hb2 : Below w1.heap.size w1 W1' := by rw [hW1']; go_grown
      have hC2 : Cells W1' w1.heap.size 29 [.int .i64 kk, .int .i64 n', .int .i64 p', .int .i64 c', .slice K' ks'.len c1] := by rw [hW1']; exact Cells.new _ _ _
      refine RegE.stepL (i := 9) rfl (by decide) (by kernel_rfl) (fun K hK => ?_)
      go_simp
      change K _ (w1.alloc (.cells #[.int .i64 kk, .int .i64 n', .int .i64 p', .int .i64 c', .slice K' ks'.len c1] 29))
      rw [← hW1']
      refine hK.out _ _ ?Sb9 (fun hHeldN => ?_)
      case Sb9 => ((try dsimp only); exact ⟨keepC hHeld.1 hb2, keepC hHeld.2 hb2⟩)
      clear hK K hHeld
      have hHeld := hHeldN
      clear hHeldN
      (try simp only [Act.put, List.setIfInBounds_toArray, List.set_cons_zero, List.set_cons_succ])
      have HO1 := Lib.hid ((HROW.out.below HB1.out).below hb2).own
      refine RegE.stepL (i := 10) rfl (by decide) (by kernel_rfl) (fun K hK => ?_)
      refine step_append_at rfl (.tmp 32) (.tmp 40) 27 rfl (w.heap.size + 2) 29 i0 (exV 0 0 0 0 none 0 0) 5 56 Try.underlying27 hi hz0 hz1 hz2 rfl (by decide) (.slice Av pre.len cp) pre.len vs (by simp [Act.eval]) HO1.out ⟨w1.heap.size, 0, none⟩ 1 1 [.int .i64 kk, .int .i64 n', .int .i64 p', .int .i64 c', .slice K' ks'.len c1] (by simp [Act.eval]) rfl ?n10 ?o10 ?p10 ?q10 ?t10 ?_
      case n10 => intro j z hz; rw [addr_add, Nat.zero_add]; exact (hC2.cell j).trans hz
      case o10 => intro z hz; simp only [List.mem_cons, List.not_mem_nil, or_false] at hz; rcases hz with rfl | rfl | rfl | rfl | rfl <;> rfl
      case p10 => unfold maxLen; omega
      case q10 => omega
      case t10 => have := (HROW.out.below HB1.out).size; have := hb2.size; omega
      intro v2 w2 hown hg hat
      obtain ⟨hrow2, hbl⟩ := ERow.push HROW.out HB1.out HT.out hc1 hm1 hb2 hown hg hat
      obtain ⟨A2, c2, rfl, _, _⟩ := hrow2.form
      have HBL := Lib.hid hbl
      have HROW2 := Lib.hid hrow2
      clear hown hg hat hrow2
      refine hK.out _ _ ?Sb10 (fun hHeldN => ?_)
      case Sb10 => ((try dsimp only); exact ⟨(hbl.cell (p := ⟨w.heap.size + 1, 4, none⟩) (by show w.heap.size + 1 < _; omega)).trans hD.out.1, (hbl.cell (p := ⟨b, o + 4, none⟩) (by show b < _; omega)).trans hD.out.2⟩)
      clear hK K hHeld
      have hHeld := hHeldN
      clear hHeldN
      (try simp only [Act.put, List.setIfInBounds_toArray, List.set_cons_zero, List.set_cons_succ])
      refine RegE.takeL (S := fun wx => wx.cell? ⟨w.heap.size + 1, 4, none⟩ = some (.slice Av pre.len cp) ∧ wx.cell? ⟨b, o + 4, none⟩ = some (.slice (some ⟨b', o', none⟩) ks.len cap)) (i := 11) (v := ?vb11) hB rfl (by decide) (by kernel_rfl) (by kernel_rfl) (fun _ _ _ h => h) (Or.inl ⟨by rfl, ?yb11⟩) hHeld ?rb11
      case yb11 => ((intro w hSw; (try dsimp only at hSw); go_simp) <;> with_reducible rfl)
      (try simp only [Act.put, List.setIfInBounds_toArray, List.set_cons_zero, List.set_cons_succ])
      have hbx : Cells w2 (w.heap.size + 1) 29 [.int .i64 k, .int .i64 n, .int .i64 p, .int .i64 c, .slice Av pre.len cp] := (HBL.out.block _ (by omega)).trans HOD.out.box
      have g4 : w2.frozen? ⟨w.heap.size + 1, 4, none⟩ = false := hbx.frozen _
      have f4 := hHeld.1
      have HST2 : Hid (OwnSt w (w2.setCell ⟨w.heap.size + 1, 4, none⟩ (.slice A2 (pre.snoc kk n' p' c' ks').len c2)) k n p c (.slice A2 (pre.snoc kk n' p' c' ks').len c2) (pre.snoc kk n' p' c' ks')) := by
        have hbz : Cells w2 w.heap.size 29 [.int .i64 0, .int .i64 0, .int .i64 0, .int .i64 0, .slice none 0 0] := (HBL.out.block _ (by omega)).trans HOD.out.box0
        have ho : Only (fun q => q = w.heap.size + 1) w2 (w2.setCell ⟨w.heap.size + 1, 4, none⟩ (.slice A2 (pre.snoc kk n' p' c' ks').len c2)) := ⟨rfl, rfl, rfl, by simp [World.setCell], fun q _ hq => Below.heap_setCell _ _ _ _ hq⟩
        refine ⟨?_, hbz.far (p := ⟨w.heap.size + 1, 4, none⟩) (by show w.heap.size ≠ w.heap.size + 1; omega) (.slice A2 (pre.snoc kk n' p' c' ks').len c2), ⟨_, HROW2.out.only ho (fun q hq e => by have e' : q = w.heap.size + 1 := e; omega)⟩, (HOD.out.below.trans (HBL.out.mono (by omega))).setCell (p := ⟨w.heap.size + 1, 4, none⟩) (by show w.heap.size ≤ w.heap.size + 1; omega) (.slice A2 (pre.snoc kk n' p' c' ks').len c2)⟩
        have := hbx.set_ 4 (.slice A2 (pre.snoc kk n' p' c' ks').len c2)
        simpa using this
      have HRE2 : Hid (ExsAt (w2.setCell ⟨w.heap.size + 1, 4, none⟩ (.slice A2 (pre.snoc kk n' p' c' ks').len c2)) B r b' (o' + (pre.len + 1) * 5)) := by
        have h1 := HRE.out.below (HBL.out.mono (by have := HSZ.out; omega))
        have h2 := h1.below (w' := w2.setCell ⟨w.heap.size + 1, 4, none⟩ (.slice A2 (pre.snoc kk n' p' c' ks').len c2)) ((Below.refl B w2).setCell (p := ⟨w.heap.size + 1, 4, none⟩) (by show B ≤ w.heap.size + 1; omega) (.slice A2 (pre.snoc kk n' p' c' ks').len c2))
        rwa [show o' + pre.len * 5 + 5 = o' + (pre.len + 1) * 5 by omega] at h2
      clear hC2 hb2 HO1
      refine RegE.lastL rfl (by kernel_rfl) (by kernel_rfl) (fun K hK => ?_)
      go_simp
      refine hK.out _ _ ?_
      clear hK K
      generalize w2.setCell ⟨w.heap.size + 1, 4, none⟩ (.slice A2 (pre.snoc kk n' p' c' ks').len c2) = W9 at HST2 HRE2 ⊢
      clear hHeld hB hbx g4 f4 hD HBL HROW2 HROW HOD HEL HRE HB1 HT hb1
      go_wp2
      go_roundw
      case rel => exact ⟨r, pre.snoc kk n' p' c' ks', (.slice A2 (pre.snoc kk n' p' c' ks').len c2), by rw [Es.snoc_len]; go_num, by rw [Es.snoc_len]; omega, happ2, hrs.out.1, by rw [Es.snoc_len]; exact HRE2, HST2⟩
      case measure => simp [intOf]; omega

end Go.Proofs.Ytmcaphbngfdfiaa
