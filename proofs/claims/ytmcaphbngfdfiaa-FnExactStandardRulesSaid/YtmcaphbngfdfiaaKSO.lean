/- Texts put together: WRuleI1, WRuleI2, WRuleI3. -/
import Derived.Test.YtmcaphbngfdfiaaKSM
import Derived.Test.YtmcaphbngfdfiaaKSL
import Derived.Maps.OwnOps
import Derived.Maps.RangeWalk

/- Walks of the program's looks at sides: slices.Contains, hasKinds, isSide. -/
namespace Go.Proofs.Ytmcaphbngfdfiaa
open Go.RowKit Plain

/-- is one of the expressions so? -/
def anyE (p : Nd → Bool) : Es → Bool
  | .nil => false
  | .cons k n q c ks r => p ⟨k, n, q, c, ks⟩ || anyE p r

theorem plain_any (es : Es) : plainL es = !anyE (fun y => !y.plain) es := by
  induction es with
  | nil => rfl
  | cons k n p c ks r _ ih =>
    simp only [plainL, anyE, ih]
    show (Nd.plain ⟨k, n, p, c, ks⟩ && _) = _
    cases Nd.plain ⟨k, n, p, c, ks⟩ <;> simp
theorem contains_plainK (k : Int) : ([1, 2, 3, 4, 5, 7] : List Int).contains k = plainK k := by
  cases h : plainK k
  · have : ¬ (k = 1 ∨ k = 2 ∨ k = 3 ∨ k = 4 ∨ k = 5 ∨ k = 7) := fun hh => by rw [plainK_iff.2 hh] at h; cases h
    simp; omega
  · have := plainK_iff.1 h
    simp; omega

end Go.Proofs.Ytmcaphbngfdfiaa

/- Walks of the program's variables of a side: isSide, variables (a map of numbers). -/
namespace Go.Proofs.Ytmcaphbngfdfiaa
open Go.RowKit Plain

/-- block b is a map of at most n entries whose keys are the numbers of S -/
def MSet (w : World) (b n : Nat) (S : List Int) : Prop :=
  ∃ D : DataW Unit, w.ownsMap Try.prog 2 (plainElem Try.prog 4) b n D ∧ ∀ x : Int, (Lit.int .i64 x).wf = true → (Maps.has D (.int .i64 x) = true ↔ x ∈ S)
theorem below_grown {w w' : World} (h : Below w.heap.size w w') : w.grownBy w' none := ⟨h.os, h.tape, h.output, h.size, fun k hk _ => h.block k hk⟩
theorem MSet.below {w w' : World} {b n : Nat} {S : List Int} (h : MSet w b n S) (hb : Below w.heap.size w w') : MSet w' b n S := by
  obtain ⟨D, h1, h2⟩ := h
  exact ⟨D, h1.kept (below_grown hb) (by simp), h2⟩
theorem MSet.lt {w : World} {b n : Nat} {S : List Int} (h : MSet w b n S) : b < w.heap.size := by obtain ⟨D, h1, _⟩ := h; exact h1.lt
theorem MSet.put {w w' : World} {b n : Nat} {D : DataW Unit} {S : List Int} (h : w.ownsMap Try.prog 2 (plainElem Try.prog 4) b n D) (hs : ∀ x : Int, (Lit.int .i64 x).wf = true → (Maps.has D (.int .i64 x) = true ↔ x ∈ S)) (x : Int) {v : DataW Unit} {m : Nat}
    (hown : w'.ownsMap Try.prog 2 (plainElem Try.prog 4) b m (D.put (.int .i64 x) v)) (hx : (Lit.int .i64 x).wf = true) : MSet w' b m (insS x S) := by
  refine ⟨_, hown, fun y hy => ?_⟩
  have hm : Maps.IsMap D := by obtain ⟨es, _, _, _, _, e⟩ := h; exact ⟨_, e⟩
  rw [insS_mem]
  by_cases e : y = x
  · subst e
    rw [Maps.has_put_same hm (by simp [WideAt.IsKeyLit])]
    simp
  · rw [Maps.has_put_other (by simpa using e), hs y hy]
    simp [e]
theorem wf64 {x : Int} (h0 : -9223372036854775808 ≤ x) (h1 : x ≤ 9223372036854775807) : (Lit.int .i64 x).wf = true := by
  exact WalkArith.wf_i64 ⟨h0, h1⟩

theorem only_grown {w w' : World} {b : Nat} (hg : w.grownBy w' (some b)) : Only (fun q => q = b) w w' := ⟨hg.os, hg.tape, hg.output, hg.size, fun k hk hne => hg.block k hk (fun e => hne (Option.some.inj e))⟩
end Go.Proofs.Ytmcaphbngfdfiaa

/- Walks: ascending, VariablesOf at a side, occurring. -/
namespace Go.Proofs.Ytmcaphbngfdfiaa
open Go.RowKit Plain

theorem elemB_inv {P : Program} {e : TypeId} (he : P.underlying e = some .bool) {v : Value} {y : DataW Unit × List MemPlace} (h : plainElem P e v = some y) : ∃ c, v = .bool c := by
  unfold plainElem at h
  rw [he] at h
  cases v <;> simp at h
  exact ⟨_, rfl⟩
/-- the step of a range over a map from numbers to bools: the key alone is told -/
theorem wpList_next_keys {P : Program} {kt et : TypeId} {w : World} {ops : Array Oper} {rest : List Oper} {o : Oper} {a : Act} {Q : Exit → Act → World → Prop} (hg : o.guard = none) (it : Operand) (hop : o.op = Op.next it false) (K : Maps.Keyed P kt)
    (hk : P.underlying kt = some (.int .i64)) (he : P.underlying et = some .bool) (b r n : Nat) (D : DataW Unit) (left : Lit → Bool) (cnt : Nat) (hit : a.eval it = .pointer (some ⟨r, 0, none⟩)) (h : w.ranges P kt (plainElem P et) b r n D left cnt)
    (hDone : cnt = 0 → (∀ kl, left kl = false) → wpList P ops Q rest (a.put o.dst (.tuple #[.bool false])) w)
    (hMore : ∀ (x : Int) (v : Value) (w' : World) (cnt' : Nat), (Lit.int .i64 x).wf = true → left (.int .i64 x) = true → Maps.has D (.int .i64 x) = true → w'.ranges P kt (plainElem P et) b r n D (fun z => left z && !z.sameKey (.int .i64 x)) cnt' → cnt' < cnt →
      w.grownBy w' (some r) → w'.heap.size = w.heap.size → (Instr.entry (.pointer (some ⟨r, 0, none⟩))).run P w' = .ok (.tuple #[.int .i64 x, v]) w' → wpList P ops Q rest (a.put o.dst (.tuple #[.bool true, .int .i64 x, v])) w') :
    wpList P ops Q (o :: rest) a w :=
  wpList_next_ranges w hg it hop kt K (plainElem P et) (Value.int .i64) Value.bool (fun key kl hkey => by obtain ⟨x, rfl, _⟩ := Maps.keyOf_int_inv hk hkey; exact ⟨x, rfl⟩) (fun v y hy => elemB_inv he hy) b r n D left cnt hit h hDone
    (fun x c kl y w' cnt' hkey hlx _ hat hrg1 hlt hg1 hs1 hen => by
      obtain ⟨x', ex, rfl, hwx⟩ := Maps.keyOf_int_inv hk hkey
      cases ex
      exact hMore x (.bool c) w' cnt' hwx hlx (Maps.has_true_of_atKey hat) hrg1 hlt hg1 hs1 hen)
theorem sorted_le_of {l : List Int} (h : SrtTo l.length l) : l.Pairwise (· ≤ ·) := by
  rw [List.pairwise_iff_getElem]
  intro i j hi hj hij
  have := h i j hij hj
  rwa [← getElem_cf hi, ← getElem_cf hj] at this
theorem sorted_unique : ∀ {l m : List Int}, l.Perm m → l.Pairwise (· ≤ ·) → m.Pairwise (· < ·) → l = m := by
  intro l
  induction l with
  | nil => intro m hp _ _; exact (List.nil_perm.1 hp).symm
  | cons x xs ih =>
    intro m hp hl hm
    cases m with
    | nil => exact absurd hp.length_eq (by simp)
    | cons y ys =>
      obtain ⟨l1, l2⟩ := List.pairwise_cons.1 hl
      obtain ⟨m1, m2⟩ := List.pairwise_cons.1 hm
      have hxy : x = y := by
        have hx : x ∈ y :: ys := hp.mem_iff.1 (List.mem_cons_self ..)
        have hy : y ∈ x :: xs := hp.mem_iff.2 (List.mem_cons_self ..)
        rcases List.mem_cons.1 hx with e | hx
        · exact e
        · rcases List.mem_cons.1 hy with e | hy
          · exact e.symm
          · have := m1 x hx
            have := l1 y hy
            omega
      subst hxy
      rw [ih (List.Perm.cons_inv hp) l2 m2]
theorem lt_nodup {l : List Int} (h : l.Pairwise (· < ·)) : l.Nodup := h.imp fun h e => by omega
theorem nodup_len {l m : List Int} (hl : l.Nodup) (h : ∀ x ∈ l, x ∈ m) : l.length ≤ m.length := by
  induction l generalizing m with
  | nil => simp
  | cons x xs ih =>
    obtain ⟨h1, h2⟩ := List.nodup_cons.1 hl
    have hx := h x (List.mem_cons_self ..)
    have := ih (m := m.erase x) h2 fun y hy => (List.mem_erase_of_ne (fun e => h1 (by rw [← e]; exact hy))).2 (h y (List.mem_cons_of_mem _ hy))
    rw [List.length_erase_of_mem hx] at this
    have := List.length_pos_of_mem hx
    simp only [List.length_cons]; omega

end Go.Proofs.Ytmcaphbngfdfiaa
