/- Texts put together: WEs, WEsSz, WEsTo, WEsTo2, WEsEq, WEsMark. -/
import Derived.Test.YtmcaphbngfdfiaaKA
import Derived.Test.YtmcaphbngfdfiaaKB
import Derived.Deep.Slices
import Derived.Deep.Fields
import Derived.Laws.BytesArg

/- Expressions and programs in memory; opening an argument that is a program. -/
namespace Go.Proofs.Ytmcaphbngfdfiaa
open Go.RowKit Go.Deep Plain

abbrev exV (k n p c : Int) (K : Option Addr) (len cap : Nat) : Value := .agg #[.int .i64 k, .int .i64 n, .int .i64 p, .int .i64 c, .slice K len cap]
abbrev fnV (s : ByteArray) (n : Int) (K : Option Addr) (len cap : Nat) : Value := .agg #[.string s, .int .i64 n, .slice K len cap]
abbrev prV (K : Option Addr) (len cap : Nat) : Value := .agg #[.slice K len cap]

/-- the expressions lie from ⟨b, o⟩ on, in blocks below B -/
def ExsAt (w : World) (B : Nat) : Es → Nat → Nat → Prop
  | .nil, _, _ => True
  | .cons k n p c ks r, b, o => (b < B ∧ w.cell? ⟨b, o, none⟩ = some (.int .i64 k) ∧ w.cell? ⟨b, o + 1, none⟩ = some (.int .i64 n) ∧ w.cell? ⟨b, o + 2, none⟩ = some (.int .i64 p) ∧ w.cell? ⟨b, o + 3, none⟩ = some (.int .i64 c) ∧
      ∃ (K : Option Addr) (cap b' o' : Nat), w.cell? ⟨b, o + 4, none⟩ = some (.slice K ks.len cap) ∧ ks.len ≤ cap ∧ cap ≤ maxLen ∧ (0 < ks.len → K = some ⟨b', o', none⟩) ∧ ExsAt w B ks b' o') ∧ ExsAt w B r b (o + 5)

/-- an expression lies at ⟨b, o⟩ -/
def ElAt (w : World) (B : Nat) (k n p c : Int) (ks : Es) (b o : Nat) : Prop :=
  b < B ∧ w.cell? ⟨b, o, none⟩ = some (.int .i64 k) ∧ w.cell? ⟨b, o + 1, none⟩ = some (.int .i64 n) ∧ w.cell? ⟨b, o + 2, none⟩ = some (.int .i64 p) ∧ w.cell? ⟨b, o + 3, none⟩ = some (.int .i64 c) ∧
      ∃ (K : Option Addr) (cap b' o' : Nat), w.cell? ⟨b, o + 4, none⟩ = some (.slice K ks.len cap) ∧ ks.len ≤ cap ∧ cap ≤ maxLen ∧ (0 < ks.len → K = some ⟨b', o', none⟩) ∧ ExsAt w B ks b' o'
/-- the slice at A reads as these expressions -/
def ExSl (w : World) (B : Nat) (es : Es) (A : Option Addr) : Prop := ∃ b o, (0 < es.len → A = some ⟨b, o, none⟩) ∧ ExsAt w B es b o

theorem ExsAt.below {w w' : World} {B : Nat} (hb : Below B w w') : ∀ {es : Es} {b o : Nat}, ExsAt w B es b o → ExsAt w' B es b o := by
  intro es
  induction es with
  | nil => intro b o _; trivial
  | cons k n p c ks r ihk ihr =>
    rintro b o ⟨⟨hB, h0, h1, h2, h3, K, cap, b', o', h4, hc, hm, hK, hk⟩, hr⟩
    exact ⟨⟨hB, (hb.cell (p := ⟨b, _, none⟩) hB).trans h0, (hb.cell (p := ⟨b, _, none⟩) hB).trans h1, (hb.cell (p := ⟨b, _, none⟩) hB).trans h2, (hb.cell (p := ⟨b, _, none⟩) hB).trans h3,
      K, cap, b', o', (hb.cell (p := ⟨b, _, none⟩) hB).trans h4, hc, hm, hK, ihk hk⟩, ihr hr⟩
theorem ExsAt.mono {w : World} {B B' : Nat} (hb : B ≤ B') : ∀ {es : Es} {b o : Nat}, ExsAt w B es b o → ExsAt w B' es b o := by
  intro es
  induction es with
  | nil => intro b o _; trivial
  | cons k n p c ks r ihk ihr =>
    rintro b o ⟨⟨hB, h0, h1, h2, h3, K, cap, b', o', h4, hc, hm, hK, hk⟩, hr⟩
    exact ⟨⟨Nat.lt_of_lt_of_le hB hb, h0, h1, h2, h3, K, cap, b', o', h4, hc, hm, hK, ihk hk⟩, ihr hr⟩
theorem ElAt.below {w w' : World} {B : Nat} {k n p c : Int} {ks : Es} {b o : Nat} (h : ElAt w B k n p c ks b o) (hb : Below B w w') : ElAt w' B k n p c ks b o :=
  (ExsAt.below hb (es := .cons k n p c ks .nil) ⟨h, trivial⟩).1
theorem ElAt.mono {w : World} {B B' : Nat} {k n p c : Int} {ks : Es} {b o : Nat} (h : ElAt w B k n p c ks b o) (hb : B ≤ B') : ElAt w B' k n p c ks b o :=
  (ExsAt.mono hb (es := .cons k n p c ks .nil) ⟨h, trivial⟩).1
theorem ExSl.below {w w' : World} {B : Nat} {es : Es} {A : Option Addr} (h : ExSl w B es A) (hb : Below B w w') : ExSl w' B es A := by
  obtain ⟨b, o, hA, h⟩ := h
  exact ⟨b, o, hA, h.below hb⟩
theorem ExSl.mono {w : World} {B B' : Nat} {es : Es} {A : Option Addr} (h : ExSl w B es A) (hb : B ≤ B') : ExSl w B' es A := by
  obtain ⟨b, o, hA, h⟩ := h
  exact ⟨b, o, hA, h.mono hb⟩
theorem ExsAt.get {w : World} {B : Nat} {es : Es} {b o i : Nat} {x : Nd} (h : ExsAt w B es b o) (hx : es.get? i = some x) : ElAt w B x.k x.n x.p x.c x.ks b (o + i * 5) := by
  induction es generalizing o i with
  | nil => simp [Es.get?] at hx
  | cons k n p c ks r _ ih =>
    cases i with
    | zero => simp only [Es.get?, Option.some.injEq] at hx; subst hx; rw [Nat.zero_mul, Nat.add_zero]; exact h.1
    | succ i => simp only [Es.get?] at hx; have := ih h.2 hx; rwa [show o + (i + 1) * 5 = o + 5 + i * 5 by omega]
theorem exs_of {w : World} {B b : Nat} : ∀ (m o : Nat), (∀ i, i < m → ∃ k n p c ks, ElAt w B k n p c ks b (o + i * 5)) → ∃ es : Es, es.len = m ∧ ExsAt w B es b o
  | 0, _, _ => ⟨.nil, rfl, trivial⟩
  | m + 1, o, h => by
    obtain ⟨es, hl, he⟩ := exs_of m (o + 5) fun i hi => by
      obtain ⟨k, n, p, c, ks, hx⟩ := h (i + 1) (by omega)
      exact ⟨k, n, p, c, ks, by rwa [show o + 5 + i * 5 = o + (i + 1) * 5 by omega]⟩
    obtain ⟨k, n, p, c, ks, hx⟩ := h 0 (by omega)
    rw [Nat.zero_mul, Nat.add_zero] at hx
    exact ⟨.cons k n p c ks es, by simp [Es.len, hl], hx, he⟩

/-- the functions lie from ⟨b, o⟩ on -/
def FnsAt (w : World) (B : Nat) : List Fn → Nat → Nat → Prop
  | [], _, _ => True
  | f :: fs, b, o => (b < B ∧ w.cell? ⟨b, o, none⟩ = some (.string f.name) ∧ w.cell? ⟨b, o + 1, none⟩ = some (.int .i64 f.params) ∧
      f.name.size ≤ maxLen ∧ ∃ (K : Option Addr) (cap : Nat), w.cell? ⟨b, o + 2, none⟩ = some (.slice K f.outs.len cap) ∧ f.outs.len ≤ cap ∧ cap ≤ maxLen ∧ ExSl w B f.outs K) ∧ FnsAt w B fs b (o + 3)
def FnSl (w : World) (B : Nat) (fs : List Fn) (A : Option Addr) : Prop := ∃ b o, (0 < fs.length → A = some ⟨b, o, none⟩) ∧ FnsAt w B fs b o
def FlAt (w : World) (B : Nat) (f : Fn) (b o : Nat) : Prop :=
  b < B ∧ w.cell? ⟨b, o, none⟩ = some (.string f.name) ∧ w.cell? ⟨b, o + 1, none⟩ = some (.int .i64 f.params) ∧
      f.name.size ≤ maxLen ∧ ∃ (K : Option Addr) (cap : Nat), w.cell? ⟨b, o + 2, none⟩ = some (.slice K f.outs.len cap) ∧ f.outs.len ≤ cap ∧ cap ≤ maxLen ∧ ExSl w B f.outs K

theorem FlAt.below {w w' : World} {B : Nat} {f : Fn} {b o : Nat} (h : FlAt w B f b o) (hb : Below B w w') : FlAt w' B f b o := by
  obtain ⟨hB, h0, h1, hs, K, cap, h2, hc, hm, hk⟩ := h
  exact ⟨hB, (hb.cell (p := ⟨b, _, none⟩) hB).trans h0, (hb.cell (p := ⟨b, _, none⟩) hB).trans h1, hs, K, cap, (hb.cell (p := ⟨b, _, none⟩) hB).trans h2, hc, hm, hk.below hb⟩
theorem FnsAt.below {w w' : World} {B : Nat} (hb : Below B w w') : ∀ {fs : List Fn} {b o : Nat}, FnsAt w B fs b o → FnsAt w' B fs b o
  | [], _, _, _ => trivial
  | _ :: _, _, _, h => ⟨FlAt.below h.1 hb, FnsAt.below hb h.2⟩
theorem FnsAt.get {w : World} {B : Nat} : ∀ {fs : List Fn} {b o i : Nat} {f : Fn}, FnsAt w B fs b o → fs[i]? = some f → FlAt w B f b (o + i * 3)
  | [], _, _, _, _, _, h => by simp at h
  | g :: fs, b, o, 0, f, h, hf => by simp at hf; subst hf; rw [Nat.zero_mul, Nat.add_zero]; exact h.1
  | g :: fs, b, o, i + 1, f, h, hf => by
    simp at hf
    have := FnsAt.get h.2 hf
    rwa [show o + (i + 1) * 3 = o + 3 + i * 3 by omega]
theorem fns_of {w : World} {B b : Nat} : ∀ (m o : Nat), (∀ i, i < m → ∃ f, FlAt w B f b (o + i * 3)) → ∃ fs : List Fn, fs.length = m ∧ FnsAt w B fs b o
  | 0, _, _ => ⟨[], rfl, trivial⟩
  | m + 1, o, h => by
    obtain ⟨es, hl, he⟩ := fns_of m (o + 3) fun i hi => by
      obtain ⟨f, hx⟩ := h (i + 1) (by omega)
      exact ⟨f, by rwa [show o + 3 + i * 3 = o + (i + 1) * 3 by omega]⟩
    obtain ⟨f, hx⟩ := h 0 (by omega)
    rw [Nat.zero_mul, Nat.add_zero] at hx
    exact ⟨f :: es, by simp [hl], hx, he⟩
theorem FnSl.below {w w' : World} {B : Nat} {fs : List Fn} {A : Option Addr} (h : FnSl w B fs A) (hb : Below B w w') : FnSl w' B fs A := by
  obtain ⟨b, o, hA, h⟩ := h
  exact ⟨b, o, hA, h.below hb⟩

theorem Try.cellsI : Try.prog.cellsOf 2 = 1 := by kernel_rfl
theorem Try.cellsS : Try.prog.cellsOf 9 = 1 := by kernel_rfl
theorem open_sl {H : Type} {enc : TypeId × Value → H} {P : Program} {w : World} {base : Nat} {sp : Nat → Bool} {hd : Bool} {t e : TypeId} {fuel : Nat} {cs : List Value} {x : DataW H × List MemPlace} (ht : P.underlying t = some (.slice e))
    (h : DataW.trod enc P w base sp hd fuel t cs = some x) :
    cs = [.slice none 0 0] ∨ ∃ (a : Addr) (len cap n : Nat), fuel = n + 1 ∧ cs = [.slice (some a) len cap] ∧ len ≤ cap ∧ cap ≤ maxLen ∧
      ∀ i, i < len → ∃ cs' y, w.cells? base (a.add (i * P.cellsOf e)) (P.cellsOf e) = some cs' ∧ DataW.trod enc P w base sp hd n e cs' = some y := by
  rcases DataW.trod_slice ht h with ⟨h0, _⟩ | ⟨a, len, cap, elems, rest, n, hn, hcs, _, _, hl, hm, hlen, hel, _⟩
  · exact .inl h0
  · refine .inr ⟨a, len, cap, n, hn, hcs, hl, hm, fun i hi => ?_⟩
    have key := hel i hi
    rw [List.getElem?_eq_getElem (by omega)] at key
    obtain ⟨cs', h1, h2⟩ := Option.bind_eq_some_iff.1 key
    exact ⟨cs', _, h1, h2⟩

end Go.Proofs.Ytmcaphbngfdfiaa

/- Walks of the laws' helpers on expressions: szExprS, szFuncS, szProgram. -/
namespace Go.Proofs.Ytmcaphbngfdfiaa
open Go.RowKit Plain

/-- the nodes beneath a list's own -/
def Es.inner : Es → Nat
  | .nil => 0
  | .cons _ _ _ _ ks r => ks.size + r.inner
theorem Es.size_inner (es : Es) : es.size = es.len + es.inner := by
  induction es with
  | nil => rfl
  | cons k n p c ks r _ ih => simp only [Es.size, Es.len, Es.inner, ih]; omega

/-- what is left of a number behind so many -/
def szV (n : Nat) (l : Int) : Int := if (n : Int) ≤ l then l - n else -1
theorem szV_yes {n : Nat} {l : Int} (h : (n : Int) ≤ l) : szV n l = l - n := if_pos h
theorem szV_no {n : Nat} {l : Int} (h : ¬ (n : Int) ≤ l) : szV n l = -1 := if_neg h

/-- what the functions' names and expressions take -/
def Fn.size (f : Fn) : Nat := f.name.size + f.outs.size
def fnInner : List Fn → Nat
  | [] => 0
  | f :: fs => f.size + fnInner fs
def fnSize (fs : List Fn) : Nat := fs.length + fnInner fs

end Go.Proofs.Ytmcaphbngfdfiaa

/- Walks of the laws' helpers on expressions: toExprS, toFuncS, toProgram: trees of new blocks. -/
namespace Go.Proofs.Ytmcaphbngfdfiaa
open Go.RowKit Plain

/-- five unfrozen cells of an expression -/
def ExM (w : World) (b o : Nat) (k n p c : Int) (v : Value) : Prop :=
  (w.cell? ⟨b, o, none⟩ = some (.int .i64 k) ∧ w.cell? ⟨b, o + 1, none⟩ = some (.int .i64 n) ∧ w.cell? ⟨b, o + 2, none⟩ = some (.int .i64 p) ∧ w.cell? ⟨b, o + 3, none⟩ = some (.int .i64 c) ∧ w.cell? ⟨b, o + 4, none⟩ = some v) ∧
  ∀ i, i < 5 → w.frozen? ⟨b, o + i, none⟩ = false
/-- expressions at ⟨b, o⟩ that may be written; the blocks of their kids lie apart, from lo on, below hi -/
def ExsM (w : World) : Es → Nat → Nat → Nat → Nat → Prop
  | .nil, lo, hi, _, _ => lo ≤ hi
  | .cons k n p c ks r, lo, hi, b, o => ∃ (K : Option Addr) (cap b' mid : Nat), ExM w b o k n p c (.slice K ks.len cap) ∧ ks.len ≤ cap ∧ cap ≤ maxLen ∧ (0 < ks.len → K = some ⟨b', 0, none⟩) ∧ lo ≤ b' ∧ b' < mid ∧
      ExsM w ks (b' + 1) mid b' 0 ∧ ExsM w r mid hi b (o + 5)

/-- the cells from i on, up to j, of block b are as they were -/
def SameCells (w w' : World) (b i j : Nat) : Prop := ∀ x, i ≤ x → x < j → w'.cell? ⟨b, x, none⟩ = w.cell? ⟨b, x, none⟩ ∧ w'.frozen? ⟨b, x, none⟩ = w.frozen? ⟨b, x, none⟩
theorem SameCells.of_block {w w' : World} {b : Nat} (h : w'.heap[b]? = w.heap[b]?) (i j : Nat) : SameCells w w' b i j := fun _ _ _ => ⟨World.cell?_of_block (a := ⟨b, _, none⟩) h, World.frozen?_of_block (a := ⟨b, _, none⟩) h⟩
theorem SameCells.set_ {w : World} {b p i j : Nat} {u : Value} (h : p < i ∨ j ≤ p) : SameCells w (w.setCell ⟨b, p, none⟩ u) b i j := fun x hx hx' =>
  ⟨World.cell?_setCell_other _ _ _ _ (fun e => by injection e with _ h' _; omega), World.frozen?_setCell _ _ _ _⟩
theorem SameCells.trans {w w' w'' : World} {b i j : Nat} (h : SameCells w w' b i j) (h' : SameCells w' w'' b i j) : SameCells w w'' b i j := fun x hx hx' =>
  ⟨(h' x hx hx').1.trans (h x hx hx').1, (h' x hx hx').2.trans (h x hx hx').2⟩
theorem SameCells.sub {w w' : World} {b i j i' j' : Nat} (h : SameCells w w' b i j) (hi : i ≤ i') (hj : j' ≤ j) : SameCells w w' b i' j' := fun x hx hx' => h x (by omega) (by omega)

theorem ExM.keep {w w' : World} {b o : Nat} {k n p c : Int} {v : Value} (h : ExM w b o k n p c v) (hc : SameCells w w' b o (o + 5)) : ExM w' b o k n p c v := by
  obtain ⟨⟨h0, h1, h2, h3, h4⟩, hf⟩ := h
  exact ⟨⟨(hc o (by omega) (by omega)).1.trans h0, (hc (o + 1) (by omega) (by omega)).1.trans h1, (hc (o + 2) (by omega) (by omega)).1.trans h2, (hc (o + 3) (by omega) (by omega)).1.trans h3, (hc (o + 4) (by omega) (by omega)).1.trans h4⟩,
    fun i hi => (hc (o + i) (by omega) (by omega)).2.trans (hf i hi)⟩
theorem ExsM.le {w : World} : ∀ {es : Es} {lo hi b o : Nat}, ExsM w es lo hi b o → lo ≤ hi
  | .nil, _, _, _, _, h => h
  | .cons _ _ _ _ _ r, lo, hi, b, o, ⟨_, _, b', mid, _, _, _, _, h1, h2, _, hr⟩ => by have := ExsM.le hr; omega
theorem ExsM.keep {w w' : World} : ∀ {es : Es} {lo hi b o : Nat}, ExsM w es lo hi b o → SameCells w w' b o (o + es.len * 5) → (∀ q, lo ≤ q → q < hi → w'.heap[q]? = w.heap[q]?) → ExsM w' es lo hi b o := by
  intro es
  induction es with
  | nil => intro lo hi b o h _ _; exact h
  | cons k n p c ks r ihk ihr =>
    rintro lo hi b o ⟨K, cap, b', mid, h0, hc, hm, hK, h1, h2, hk, hr⟩ hs hb
    simp only [Es.len] at hs
    have hle := hr.le
    exact ⟨K, cap, b', mid, h0.keep (hs.sub (Nat.le_refl _) (by omega)), hc, hm, hK, h1, h2, ihk hk (SameCells.of_block (hb b' h1 (by omega)) _ _) (fun q hq hq' => hb q (by omega) (by omega)),
      ihr hr (hs.sub (by omega) (by omega)) (fun q hq hq' => hb q (by omega) hq')⟩
/-- such expressions read as expressions -/
theorem ExsM.exs {w : World} {B : Nat} : ∀ {es : Es} {lo hi b o : Nat}, ExsM w es lo hi b o → hi ≤ B → b < B → ExsAt w B es b o := by
  intro es
  induction es with
  | nil => intro lo hi b o _ _ _; trivial
  | cons k n p c ks r ihk ihr =>
    rintro lo hi b o ⟨K, cap, b', mid, ⟨⟨h0, h1, h2, h3, h4⟩, _⟩, hc, hm, hK, l1, l2, hk, hr⟩ hB hb
    have hle := hr.le
    exact ⟨⟨hb, h0, h1, h2, h3, K, cap, b', 0, h4, hc, hm, hK, ihk hk (by omega) (by omega)⟩, ihr hr hB hb⟩

namespace Es
/-- one expression more -/
def snoc : Es → Int → Int → Int → Int → Es → Es
  | .nil, k, n, p, c, ks => .cons k n p c ks .nil
  | .cons k' n' p' c' ks' r, k, n, p, c, ks => .cons k' n' p' c' ks' (r.snoc k n p c ks)
theorem snoc_len (es : Es) (k n p c : Int) (ks : Es) : (es.snoc k n p c ks).len = es.len + 1 := by
  induction es with
  | nil => rfl
  | cons _ _ _ _ _ r _ ih => simp only [snoc, len, ih]
def app : Es → Es → Es
  | .nil, b => b
  | .cons k n p c ks r, b => .cons k n p c ks (r.app b)
theorem app_nil (es : Es) : es.app .nil = es := by
  induction es with
  | nil => rfl
  | cons _ _ _ _ _ r _ ih => simp only [app, ih]
theorem snoc_app (es : Es) (k n p c : Int) (ks r : Es) : (es.snoc k n p c ks).app r = es.app (.cons k n p c ks r) := by
  induction es with
  | nil => rfl
  | cons _ _ _ _ _ r _ ih => simp only [snoc, app, ih]
theorem app_len (a b : Es) : (a.app b).len = a.len + b.len := by
  induction a with
  | nil => simp [app, len]
  | cons _ _ _ _ _ r _ ih => simp only [app, len, ih]; omega
end Es

theorem ExsM.snoc {w : World} : ∀ {es : Es} {lo mid hi b o : Nat} {k n p c : Int} {ks : Es} {K : Option Addr} {cap b' : Nat}, ExsM w es lo mid b o → ExM w b (o + es.len * 5) k n p c (.slice K ks.len cap) → ks.len ≤ cap → cap ≤ maxLen →
    (0 < ks.len → K = some ⟨b', 0, none⟩) → mid ≤ b' → b' < hi → ExsM w ks (b' + 1) hi b' 0 → ExsM w (es.snoc k n p c ks) lo hi b o := by
  intro es
  induction es with
  | nil =>
    intro lo mid hi b o k n p c ks K cap b' h hx hc hm hK h1 h2 hk
    simp only [Es.len, Nat.zero_mul, Nat.add_zero] at hx
    have hl : lo ≤ mid := h
    exact ⟨K, cap, b', hi, hx, hc, hm, hK, by omega, h2, hk, Nat.le_refl _⟩
  | cons k' n' p' c' ks' r _ ihr =>
    rintro lo mid hi b o k n p c ks K cap b' ⟨K0, cap0, b0, m0, g0, gc, gm, gK, g1, g2, gk, gr⟩ hx hc hm hK h1 h2 hk
    simp only [Es.len] at hx
    rw [show o + (r.len + 1) * 5 = o + 5 + r.len * 5 by omega] at hx
    exact ⟨K0, cap0, b0, m0, g0, gc, gm, gK, g1, g2, gk, ihr gr hx hc hm hK h1 h2 hk⟩

theorem Try.infoE : (Try.prog.info? 29).map (fun i => (i.zero, i.size, i.bytes)) = some (some (exV 0 0 0 0 none 0 0), 5, 56) := by kernel_rfl

theorem allocs2 (w : World) (o1 : Obj) (t2 : TypeId) (C2 : List Value) : ((w.alloc o1).alloc (.cells C2.toArray t2)).heap.size = w.heap.size + 2 ∧ Cells ((w.alloc o1).alloc (.cells C2.toArray t2)) (w.heap.size + 1) t2 C2 ∧ Below w.heap.size w ((w.alloc o1).alloc (.cells C2.toArray t2)) := by
  refine ⟨by simp, ?_, by go_grown⟩
  have := Cells.new (w.alloc o1) t2 C2
  rwa [show (w.alloc o1).heap.size = w.heap.size + 1 by simp] at this
theorem allocs3 (w : World) (o1 : Obj) (t2 t3 : TypeId) (C2 C3 : List Value) : (((w.alloc o1).alloc (.cells C2.toArray t2)).alloc (.cells C3.toArray t3)).heap.size = w.heap.size + 3 ∧ Cells (((w.alloc o1).alloc (.cells C2.toArray t2)).alloc (.cells C3.toArray t3)) (w.heap.size + 1) t2 C2 ∧
    Cells (((w.alloc o1).alloc (.cells C2.toArray t2)).alloc (.cells C3.toArray t3)) (w.heap.size + 2) t3 C3 ∧ Below w.heap.size w (((w.alloc o1).alloc (.cells C2.toArray t2)).alloc (.cells C3.toArray t3)) := by
  obtain ⟨h1, h2, h3⟩ := allocs2 w o1 t2 C2
  refine ⟨by simp, ?_, ?_, by go_grown⟩
  · exact h2.next (by go_grown)
  · have := Cells.new ((w.alloc o1).alloc (.cells C2.toArray t2)) t3 C3
    rwa [h1] at this

/-- five stores into the cells of a new block -/
def set5 (w : World) (g o : Nat) (k n p c : Int) (v : Value) : World :=
  ((((w.setCell ⟨g, o, none⟩ (.int .i64 k)).setCell ⟨g, o + 1, none⟩ (.int .i64 n)).setCell ⟨g, o + 2, none⟩ (.int .i64 p)).setCell ⟨g, o + 3, none⟩ (.int .i64 c)).setCell ⟨g, o + 4, none⟩ v
theorem set5_cells {w : World} {g o : Nat} {t : TypeId} {C : List Value} (h : Cells w g t C) (k n p c : Int) (v : Value) : Cells (set5 w g o k n p c v) g t (((((C.set o (.int .i64 k)).set (o + 1) (.int .i64 n)).set (o + 2) (.int .i64 p)).set (o + 3) (.int .i64 c)).set (o + 4) v) :=
  ((((h.set_ _ _).set_ _ _).set_ _ _).set_ _ _).set_ _ _
theorem set5_exM {w : World} {g o : Nat} {t : TypeId} {C : List Value} (h : Cells w g t C) (hl : o + 5 ≤ C.length) (k n p c : Int) (v : Value) : ExM (set5 w g o k n p c v) g o k n p c v := by
  have h5 := set5_cells (o := o) h k n p c v
  refine ⟨⟨?_, ?_, ?_, ?_, ?_⟩, fun i _ => h5.frozen _⟩ <;> rw [h5.cell]
  · rw [List.getElem?_set_ne (by omega), List.getElem?_set_ne (by omega), List.getElem?_set_ne (by omega), List.getElem?_set_ne (by omega), List.getElem?_set_self (by first | omega | (simp; omega))]
  · rw [List.getElem?_set_ne (by omega), List.getElem?_set_ne (by omega), List.getElem?_set_ne (by omega), List.getElem?_set_self (by first | omega | (simp; omega))]
  · rw [List.getElem?_set_ne (by omega), List.getElem?_set_ne (by omega), List.getElem?_set_self (by first | omega | (simp; omega))]
  · rw [List.getElem?_set_ne (by omega), List.getElem?_set_self (by first | omega | (simp; omega))]
  · rw [List.getElem?_set_self (by first | omega | (simp; omega))]
theorem set5_same {w : World} {g o : Nat} (k n p c : Int) (v : Value) : SameCells w (set5 w g o k n p c v) g 0 o :=
  ((((SameCells.set_ (.inr (Nat.le_refl _))).trans (SameCells.set_ (.inr (by omega)))).trans (SameCells.set_ (.inr (by omega)))).trans (SameCells.set_ (.inr (by omega)))).trans (SameCells.set_ (.inr (by omega)))
theorem set5_block {w : World} {g o : Nat} (k n p c : Int) (v : Value) {q : Nat} (hq : q ≠ g) : (set5 w g o k n p c v).heap[q]? = w.heap[q]? :=
  (Below.heap_setCell _ _ _ _ hq).trans ((Below.heap_setCell _ _ _ _ hq).trans ((Below.heap_setCell _ _ _ _ hq).trans ((Below.heap_setCell _ _ _ _ hq).trans (Below.heap_setCell _ _ _ _ hq))))
theorem set5_size {w : World} {g o : Nat} (k n p c : Int) (v : Value) : (set5 w g o k n p c v).heap.size = w.heap.size := by simp [set5, World.setCell]
theorem set5_below {w0 w : World} {B g o : Nat} (k n p c : Int) (v : Value) (h : Below B w0 w) (hg : B ≤ g) : Below B w0 (set5 w g o k n p c v) :=
  ((((h.setCell (p := ⟨g, _, none⟩) hg _).setCell (p := ⟨g, _, none⟩) hg _).setCell (p := ⟨g, _, none⟩) hg _).setCell (p := ⟨g, _, none⟩) hg _).setCell (p := ⟨g, _, none⟩) hg _

theorem toStep {wr w1 : World} {g0 j g : Nat} {t : TypeId} {C : List Value} {pre ks : Es} {k n p c : Int} (hp : pre.len = j) (HM : ExsM wr pre (g0 + 1) wr.heap.size g0 0) (hb1 : Below wr.heap.size wr w1) (hC1 : Cells w1 g0 t C) (hM1 : ExsM w1 ks (g + 1) w1.heap.size g 0)
    (hgl : g0 < wr.heap.size) (hg1 : wr.heap.size ≤ g) (hg2 : g < w1.heap.size) (hcl : j * 5 + 5 ≤ C.length) (hk : ks.len ≤ 1048576) :
    ExsM (set5 w1 g0 (j * 5) k n p c (.slice (some ⟨g, 0, none⟩) ks.len ks.len)) (pre.snoc k n p c ks) (g0 + 1) (set5 w1 g0 (j * 5) k n p c (.slice (some ⟨g, 0, none⟩) ks.len ks.len)).heap.size g0 0 := by
  have hs := set5_size (w := w1) (g := g0) (o := j * 5) k n p c (.slice (some ⟨g, 0, none⟩) ks.len ks.len)
  have hbk := fun q (hq : q ≠ g0) => set5_block (w := w1) (g := g0) (o := j * 5) k n p c (.slice (some ⟨g, 0, none⟩) ks.len ks.len) hq
  have hsm := set5_same (w := w1) (g := g0) (o := j * 5) k n p c (.slice (some ⟨g, 0, none⟩) ks.len ks.len)
  have hx := set5_exM hC1 hcl k n p c (.slice (some ⟨g, 0, none⟩) ks.len ks.len)
  generalize set5 w1 g0 (j * 5) k n p c (.slice (some ⟨g, 0, none⟩) ks.len ks.len) = W at hs hbk hsm hx ⊢
  rw [hs]
  refine ExsM.snoc (mid := wr.heap.size) (K := some ⟨g, 0, none⟩) (cap := ks.len) (b' := g) ?_ ?_ (Nat.le_refl _) (by unfold maxLen; omega) (fun _ => rfl) hg1 hg2 ?_
  · refine HM.keep ?_ ?_
    · refine (SameCells.of_block (hb1.block _ hgl) _ _).trans ?_
      rwa [← hp, ← Nat.zero_add (pre.len * 5)] at hsm
    · intro q l1 l2
      exact (hbk q (by omega)).trans (hb1.block q l2)
  · rw [Nat.zero_add, hp]
    exact hx
  · exact hM1.keep (SameCells.of_block (hbk g (by omega)) _ _) (fun q l1 _ => hbk q (by omega))
theorem exsNext {w1 W : World} {B b o j : Nat} {r : Es} (h : Below B w1 W) (hr : ExsAt w1 B r b (o + j * 5 + 5)) : ExsAt W B r b (o + (j + 1) * 5) := by
  have := hr.below h
  rwa [show o + j * 5 + 5 = o + (j + 1) * 5 by omega] at this

theorem madeCells_size' (z : Array Value) (n : Nat) : (madeCells z n).size = n := size_madeCells _ _

end Go.Proofs.Ytmcaphbngfdfiaa

/- Walks of the laws' helpers on programs: toFuncS, toProgram: trees of new blocks. -/
namespace Go.Proofs.Ytmcaphbngfdfiaa
open Go.RowKit Plain

/-- three unfrozen cells of a function -/
def FnM (w : World) (b o : Nat) (s : ByteArray) (n : Int) (v : Value) : Prop :=
  (w.cell? ⟨b, o, none⟩ = some (.string s) ∧ w.cell? ⟨b, o + 1, none⟩ = some (.int .i64 n) ∧ w.cell? ⟨b, o + 2, none⟩ = some v) ∧ ∀ i, i < 3 → w.frozen? ⟨b, o + i, none⟩ = false
/-- functions at ⟨b, o⟩ that may be written -/
def FnsM (w : World) : List Fn → Nat → Nat → Nat → Nat → Prop
  | [], lo, hi, _, _ => lo ≤ hi
  | f :: r, lo, hi, b, o => ∃ (K : Option Addr) (cap b' mid : Nat), FnM w b o f.name f.params (.slice K f.outs.len cap) ∧ f.name.size ≤ maxLen ∧ f.outs.len ≤ cap ∧ cap ≤ maxLen ∧ (0 < f.outs.len → K = some ⟨b', 0, none⟩) ∧ lo ≤ b' ∧ b' < mid ∧
      ExsM w f.outs (b' + 1) mid b' 0 ∧ FnsM w r mid hi b (o + 3)
theorem FnM.keep {w w' : World} {b o : Nat} {s : ByteArray} {n : Int} {v : Value} (h : FnM w b o s n v) (hc : SameCells w w' b o (o + 3)) : FnM w' b o s n v := by
  obtain ⟨⟨h0, h1, h2⟩, hf⟩ := h
  exact ⟨⟨(hc o (by omega) (by omega)).1.trans h0, (hc (o + 1) (by omega) (by omega)).1.trans h1, (hc (o + 2) (by omega) (by omega)).1.trans h2⟩,
    fun i hi => (hc (o + i) (by omega) (by omega)).2.trans (hf i hi)⟩
theorem FnsM.le {w : World} : ∀ {fs : List Fn} {lo hi b o : Nat}, FnsM w fs lo hi b o → lo ≤ hi
  | [], _, _, _, _, h => h
  | f :: r, lo, hi, b, o, ⟨_, _, b', mid, _, _, _, _, _, h1, h2, _, hr⟩ => by have := FnsM.le hr; omega
theorem FnsM.keep {w w' : World} : ∀ {fs : List Fn} {lo hi b o : Nat}, FnsM w fs lo hi b o → SameCells w w' b o (o + fs.length * 3) → (∀ q, lo ≤ q → q < hi → w'.heap[q]? = w.heap[q]?) → FnsM w' fs lo hi b o
  | [], _, _, _, _, h, _, _ => h
  | f :: r, lo, hi, b, o, ⟨K, cap, b', mid, h0, hn, hc, hm, hK, h1, h2, hk, hr⟩, hs, hb => by
    simp only [List.length_cons] at hs
    have hle := hr.le
    exact ⟨K, cap, b', mid, h0.keep (hs.sub (Nat.le_refl _) (by omega)), hn, hc, hm, hK, h1, h2, hk.keep (SameCells.of_block (hb b' h1 (by omega)) _ _) (fun q hq hq' => hb q (by omega) (by omega)),
      FnsM.keep hr (hs.sub (by omega) (by omega)) (fun q hq hq' => hb q (by omega) hq')⟩
theorem FnsM.fns {w : World} {B : Nat} : ∀ {fs : List Fn} {lo hi b o : Nat}, FnsM w fs lo hi b o → hi ≤ B → b < B → FnsAt w B fs b o
  | [], _, _, _, _, _, _, _ => trivial
  | f :: r, lo, hi, b, o, ⟨K, cap, b', mid, ⟨⟨h0, h1, h2⟩, _⟩, hn, hc, hm, hK, l1, l2, hk, hr⟩, hB, hb => by
    have hle := hr.le
    exact ⟨⟨hb, h0, h1, hn, K, cap, h2, hc, hm, b', 0, hK, hk.exs (by omega) (by omega)⟩, FnsM.fns hr hB hb⟩
theorem FnsM.snoc {w : World} : ∀ {fs : List Fn} {lo mid hi b o : Nat} {f : Fn} {K : Option Addr} {cap b' : Nat}, FnsM w fs lo mid b o → FnM w b (o + fs.length * 3) f.name f.params (.slice K f.outs.len cap) → f.name.size ≤ maxLen → f.outs.len ≤ cap → cap ≤ maxLen →
    (0 < f.outs.len → K = some ⟨b', 0, none⟩) → mid ≤ b' → b' < hi → ExsM w f.outs (b' + 1) hi b' 0 → FnsM w (fs ++ [f]) lo hi b o
  | [], lo, mid, hi, b, o, f, K, cap, b', h, hx, hn, hc, hm, hK, h1, h2, hk => by
    simp only [List.length_nil, Nat.zero_mul, Nat.add_zero] at hx
    have hl : lo ≤ mid := h
    exact ⟨K, cap, b', hi, hx, hn, hc, hm, hK, by omega, h2, hk, Nat.le_refl _⟩
  | g :: r, lo, mid, hi, b, o, f, K, cap, b', ⟨K0, cap0, b0, m0, g0, gn, gc, gm, gK, g1, g2, gk, gr⟩, hx, hn, hc, hm, hK, h1, h2, hk => by
    simp only [List.length_cons] at hx
    rw [show o + (r.length + 1) * 3 = o + 3 + r.length * 3 by omega] at hx
    exact ⟨K0, cap0, b0, m0, g0, gn, gc, gm, gK, g1, g2, gk, FnsM.snoc gr hx hn hc hm hK h1 h2 hk⟩

/-- three stores into the cells of a new block -/
def set3 (w : World) (g o : Nat) (s : ByteArray) (n : Int) (v : Value) : World :=
  ((w.setCell ⟨g, o, none⟩ (.string s)).setCell ⟨g, o + 1, none⟩ (.int .i64 n)).setCell ⟨g, o + 2, none⟩ v
section
variable {w : World} {g o : Nat} {t : TypeId} {C : List Value} (s : ByteArray) (n : Int) (v : Value)
theorem set3_cells (h : Cells w g t C) : Cells (set3 w g o s n v) g t (((C.set o (.string s)).set (o + 1) (.int .i64 n)).set (o + 2) v) := ((h.set_ _ _).set_ _ _).set_ _ _
theorem set3_fnM (h : Cells w g t C) (hl : o + 3 ≤ C.length) : FnM (set3 w g o s n v) g o s n v := by
  have h5 := set3_cells (o := o) s n v h
  refine ⟨⟨?_, ?_, ?_⟩, fun i _ => h5.frozen _⟩ <;> rw [h5.cell]
  · rw [List.getElem?_set_ne (by omega), List.getElem?_set_ne (by omega), List.getElem?_set_self (by omega)]
  · rw [List.getElem?_set_ne (by omega), List.getElem?_set_self (by simp; omega)]
  · rw [List.getElem?_set_self (by simp; omega)]
theorem set3_same : SameCells w (set3 w g o s n v) g 0 o :=
  ((SameCells.set_ (.inr (Nat.le_refl _))).trans (SameCells.set_ (.inr (by omega)))).trans (SameCells.set_ (.inr (by omega)))
theorem set3_block {q : Nat} (hq : q ≠ g) : (set3 w g o s n v).heap[q]? = w.heap[q]? :=
  (Below.heap_setCell _ _ _ _ hq).trans ((Below.heap_setCell _ _ _ _ hq).trans (Below.heap_setCell _ _ _ _ hq))
theorem set3_size : (set3 w g o s n v).heap.size = w.heap.size := by simp [set3, World.setCell]
theorem set3_below {w0 : World} {B : Nat} (h : Below B w0 w) (hg : B ≤ g) : Below B w0 (set3 w g o s n v) :=
  ((h.setCell (p := ⟨g, _, none⟩) hg _).setCell (p := ⟨g, _, none⟩) hg _).setCell (p := ⟨g, _, none⟩) hg _
end
theorem toStepF {wr w1 : World} {g0 j g : Nat} {t : TypeId} {C : List Value} {pre : List Fn} {f : Fn} (hp : pre.length = j) (HM : FnsM wr pre (g0 + 1) wr.heap.size g0 0) (hb1 : Below wr.heap.size wr w1) (hC1 : Cells w1 g0 t C) (hM1 : ExsM w1 f.outs (g + 1) w1.heap.size g 0)
    (hgl : g0 < wr.heap.size) (hg1 : wr.heap.size ≤ g) (hg2 : g < w1.heap.size) (hcl : j * 3 + 3 ≤ C.length) (hn : f.name.size ≤ maxLen) (hk : f.outs.len ≤ 1048576) :
    FnsM (set3 w1 g0 (j * 3) f.name f.params (.slice (some ⟨g, 0, none⟩) f.outs.len f.outs.len)) (pre ++ [f]) (g0 + 1) (set3 w1 g0 (j * 3) f.name f.params (.slice (some ⟨g, 0, none⟩) f.outs.len f.outs.len)).heap.size g0 0 := by
  have hs := set3_size (w := w1) (g := g0) (o := j * 3) f.name f.params (.slice (some ⟨g, 0, none⟩) f.outs.len f.outs.len)
  have hbk := fun q (hq : q ≠ g0) => set3_block (w := w1) (g := g0) (o := j * 3) f.name f.params (.slice (some ⟨g, 0, none⟩) f.outs.len f.outs.len) hq
  have hsm := set3_same (w := w1) (g := g0) (o := j * 3) f.name f.params (.slice (some ⟨g, 0, none⟩) f.outs.len f.outs.len)
  have hx := set3_fnM f.name f.params (.slice (some ⟨g, 0, none⟩) f.outs.len f.outs.len) hC1 hcl
  generalize set3 w1 g0 (j * 3) f.name f.params (.slice (some ⟨g, 0, none⟩) f.outs.len f.outs.len) = W at hs hbk hsm hx ⊢
  rw [hs]
  refine FnsM.snoc (mid := wr.heap.size) (K := some ⟨g, 0, none⟩) (cap := f.outs.len) (b' := g) ?_ ?_ hn (Nat.le_refl _) (by unfold maxLen; omega) (fun _ => rfl) hg1 hg2 ?_
  · refine HM.keep ?_ ?_
    · refine (SameCells.of_block (hb1.block _ hgl) _ _).trans ?_
      rwa [← hp, ← Nat.zero_add (pre.length * 3)] at hsm
    · intro q l1 l2
      exact (hbk q (by omega)).trans (hb1.block q l2)
  · rw [Nat.zero_add, hp]
    exact hx
  · exact hM1.keep (SameCells.of_block (hbk g (by omega)) _ _) (fun q l1 _ => hbk q (by omega))
theorem fnsNext {w1 W : World} {B b o j : Nat} {r : List Fn} (h : Below B w1 W) (hr : FnsAt w1 B r b (o + j * 3 + 3)) : FnsAt W B r b (o + (j + 1) * 3) := by
  have := FnsAt.below h hr
  rwa [show o + j * 3 + 3 = o + (j + 1) * 3 by omega] at this

end Go.Proofs.Ytmcaphbngfdfiaa

/- Walks of the laws' helpers on programs: eqExprS, eqFuncS, eqProgram at two that read the same. -/
namespace Go.Proofs.Ytmcaphbngfdfiaa
open Go.RowKit Plain

def EqC (es : Es) : Prop := ∀ (A A' : Option Addr) (cap cap' B : Nat) (w : World), ExSl w B es A → ExSl w B es A' → B ≤ w.heap.size → es.size ≤ 1048576 →
  Calls Try.prog 27 #[.slice A es.len cap, .slice A' es.len cap'] w fun e w' => e = .returned (.bool true) ∧ Below w.heap.size w w'

set_option maxHeartbeats 1000000 in
theorem eqExpr_of {ks : Es} (h : EqC ks) (k n p c : Int) (K K' : Option Addr) (cap cap' B : Nat) (w : World) (hK : ExSl w B ks K) (hK' : ExSl w B ks K') (hB : B ≤ w.heap.size) (hl : ks.size ≤ 1048576) :
    Calls Try.prog 26 #[exV k n p c K ks.len cap, exV k n p c K' ks.len cap'] w fun e w' => e = .returned (.bool true) ∧ Below w.heap.size w w' := by
  go_enter Try.func26, Try.ntmps26
  go_wp2_with fail
  refine (h K K' cap cap' B _ (hK.below (by go_grown)) (hK'.below (by go_grown)) (by simp; omega) hl).mono ?_; rintro e w' ⟨rfl, hb⟩
  go_wp2
  go_ret
  exact ⟨rfl, (((Below.refl _ _).alloc (Nat.le_refl _) _).alloc (by simp) _).trans (hb.mono (by simp; omega))⟩

set_option maxHeartbeats 2000000 in
theorem eqExprS_any : ∀ (m : Nat) (es : Es), es.size < m → EqC es := by
  intro m
  induction m with
  | zero => intro es h; omega
  | succ m ih =>
  intro es hm A A' cap cap' B w hA hA' hB hl
  have hls := Es.len_le_size es
  have IH := Lib.hid ih; clear ih
  obtain ⟨b, o, hA1, hA2⟩ := hA
  obtain ⟨b', o', hA1', hA2'⟩ := hA'
  have HA := Lib.hid hA2; clear hA2
  have HA' := Lib.hid hA2'; clear hA2'
  go_enter Try.func27, Try.ntmps27
  go_wp2
  go_loopw [5] (fun i wr => ∃ (j : Nat) (es' : Es), i = .int .i64 (j : Int) ∧ j + es'.len = es.len ∧ Hid (es'.size ≤ es.size) ∧ Hid (ExsAt wr B es' b (o + j * 5)) ∧ Hid (ExsAt wr B es' b' (o' + j * 5)) ∧ Hid (Below w.heap.size w wr)) (fun i _ => es.len - (intOf i).toNat)
  case atStart =>
    refine ⟨0, es, by go_num, by omega, Nat.le_refl _, ?_, ?_, Below.refl _ _⟩
    · show ExsAt _ _ _ _ _; rw [Nat.zero_mul, Nat.add_zero]; exact HA.out
    · show ExsAt _ _ _ _ _; rw [Nat.zero_mul, Nat.add_zero]; exact HA'.out
  case round =>
    obtain ⟨j, es', rfl, hj, hsz, HE, HE', HB⟩ := hrel
    cases es' with
    | nil =>
      simp only [Es.len] at hj
      go_wp2
      go_ret
      exact ⟨rfl, HB.out⟩
    | cons k n p c ks r =>
      simp only [Es.len] at hj
      have hA := hA1 (by omega)
      subst hA
      have hA := hA1' (by omega)
      subst hA
      obtain ⟨⟨hb, c0, c1, c2, c3, K, cp, x, y, c4, hcp, hcm, hK, hks⟩, hr⟩ := HE.out
      obtain ⟨⟨hb', c0', c1', c2', c3', K', cp', x', y', c4', hcp', hcm', hK', hks'⟩, hr'⟩ := HE'.out
      have HK : Hid (ExSl wr B ks K) := ⟨x, y, hK, hks⟩
      have HK' : Hid (ExSl wr B ks K') := ⟨x', y', hK', hks'⟩
      have HR := Lib.hid hr
      have HR' := Lib.hid hr'
      have hrs : Hid (r.size ≤ es.size ∧ ks.size < es.size ∧ ks.len ≤ ks.size) := by
        have := hsz.out
        simp only [Es.size] at this
        exact ⟨by omega, by omega, Es.len_le_size ks⟩
      clear hr hks HE hr' hks' HE'
      have hkl : ks.size ≤ 1048576 := by have := hrs.out; omega
      have HQ : Hid (∀ wx, Below wr.heap.size wr wx → Calls Try.prog 26 #[exV k n p c K ks.len cp, exV k n p c K' ks.len cp'] wx fun e w' => e = .returned (.bool true) ∧ Below wx.heap.size wx w') := fun wx hx => by
        have z0 := HB.out.size
        have z1 := hx.size
        exact eqExpr_of (IH.out ks (by have := hrs.out; omega)) k n p c K K' cp cp' B wx (HK.out.below (hx.mono (by omega))) (HK'.out.below (hx.mono (by omega))) (by omega) hkl
      clear HK HK'
      go_wp2
      go_region_with (go_at_call 26; refine (HQ.out _ (by first | exact (Below.refl _ _).drew | exact below_drewN' (Below.refl _ _) _)).mono ?_; rintro e w1 ⟨rfl, hb1⟩)
      all_goals
        have hb2 := bdrew hb1
        have hB2 : Below B wr w1 := hb2.mono (by have := HB.out.size; omega)
        have HE1 : Hid (ExsAt w1 B r b (o + (j + 1) * 5)) := exsNext hB2 HR.out
        have HE1' : Hid (ExsAt w1 B r b' (o' + (j + 1) * 5)) := exsNext hB2 HR'.out
        have HB1 := Lib.hid (bnext HB.out hb2)
        clear HR HR' c0 c1 c2 c3 c4 c0' c1' c2' c3' c4' hb1 hB2 HB HQ hb2
        go_wp2
        go_roundw
        case rel => exact ⟨j + 1, r, by go_num, by omega, hrs.out.1, HE1, HE1', HB1⟩
        case measure => simp [intOf]; omega

end Go.Proofs.Ytmcaphbngfdfiaa

/- Walks of the laws' marks of programs: markText, markExprS, markFuncS, markProgram. -/
namespace Go.Proofs.Ytmcaphbngfdfiaa
open Go.RowKit Plain

def mk4 (w : World) (b o : Nat) (y : Int) : World :=
  (((w.setCell ⟨b, o, none⟩ (.int .i64 y)).setCell ⟨b, o + 1, none⟩ (.int .i64 (y + 1))).setCell ⟨b, o + 2, none⟩ (.int .i64 (y + 1 + 1))).setCell ⟨b, o + 3, none⟩ (.int .i64 (y + 1 + 1 + 1))
theorem mk4_block {w : World} {b o : Nat} (y : Int) {q : Nat} (hq : q ≠ b) : (mk4 w b o y).heap[q]? = w.heap[q]? :=
  (Below.heap_setCell _ _ _ _ hq).trans ((Below.heap_setCell _ _ _ _ hq).trans ((Below.heap_setCell _ _ _ _ hq).trans (Below.heap_setCell _ _ _ _ hq)))
theorem mk4_same {w : World} {b o : Nat} (y : Int) (j : Nat) : SameCells w (mk4 w b o y) b (o + 4) j :=
  (((SameCells.set_ (.inl (by omega))).trans (SameCells.set_ (.inl (by omega)))).trans (SameCells.set_ (.inl (by omega)))).trans (SameCells.set_ (.inl (by omega)))
theorem mk4_only {w : World} {b o : Nat} (y : Int) : Only (fun q => q = b) w (mk4 w b o y) :=
  ⟨rfl, rfl, rfl, by simp [mk4, World.setCell], fun _ _ hq => mk4_block y hq⟩

def MkC (es : Es) : Prop := ∀ (A : Option Addr) (cap b lo hi : Nat) (k : Int) (w : World), (0 < es.len → A = some ⟨b, 0, none⟩) → ExsM w es lo hi b 0 → b < lo → hi ≤ w.heap.size → es.size ≤ 1048576 → 0 ≤ k → k + 4 * es.size ≤ 1000000000000 →
  Calls Try.prog 19 #[.slice A es.len cap, .int .i64 k] w fun e w' => e = .returned (.int .i64 (k + 4 * es.size)) ∧ Only (fun q => (0 < es.len ∧ q = b) ∨ (lo ≤ q ∧ q < hi)) w w'

set_option maxHeartbeats 2000000 in
theorem markExprS_any : ∀ (m : Nat) (es : Es), es.size < m → MkC es := by
  intro m
  induction m with
  | zero => intro es h; omega
  | succ m ih =>
  intro es hm A cap b lo hi k w hA hM hbl hhi hz k0 k1
  have IH := Lib.hid ih; clear ih
  have hls := Es.len_le_size es
  have HM := Lib.hid hM; clear hM
  go_enter Try.func19, Try.ntmps19
  go_wp2
  go_loopw [1, 5] (fun kk i wr => ∃ (j : Nat) (es' : Es) (y : Int) (lo' : Nat), i = .int .i64 (j : Int) ∧ kk = .int .i64 y ∧ j + es'.len = es.len ∧ Hid (y + 4 * es'.size = k + 4 * es.size) ∧ 0 ≤ y ∧ y ≤ 1000000000000 ∧ Hid (es'.size ≤ es.size) ∧ lo ≤ lo' ∧ Hid (ExsM wr es' lo' hi b (j * 5)) ∧
      Hid (Only (fun q => (0 < es.len ∧ q = b) ∨ (lo ≤ q ∧ q < hi)) w wr)) (fun _ i _ => es.len - (intOf i).toNat)
  case atStart =>
    refine ⟨0, es, k, lo, by go_num, by simp, by omega, rfl, k0, by omega, Nat.le_refl _, Nat.le_refl _, ?_, Only.refl _ _⟩
    show ExsM _ _ _ _ _ _; rw [Nat.zero_mul]; exact HM.out
  case round =>
    obtain ⟨j, es', y, lo', rfl, rfl, hj, hy, y0, y1, hsz, hlo, HE, HO⟩ := hrel
    cases es' with
    | nil =>
      simp only [Es.len] at hj
      go_wp2
      go_ret
      have := hy.out
      simp only [Es.size] at this
      exact ⟨ret_int (by omega), HO.out⟩
    | cons kk n p c ks r =>
      simp only [Es.len] at hj
      have hA := hA (by omega)
      subst hA
      obtain ⟨K, cp, b', mid, ⟨⟨h0, h1, h2, h3, h4⟩, hf⟩, hc, hcm, hK, l1, l2, hks, hr⟩ := HE.out
      have hle := hr.le
      have f0 := hf 0 (by omega)
      have f1 := hf 1 (by omega)
      have f2 := hf 2 (by omega)
      have f3 := hf 3 (by omega)
      rw [Nat.add_zero] at f0
      have hrs : Hid (r.size ≤ es.size ∧ ks.size < es.size ∧ y + 4 + 4 * ks.size + 4 * r.size = k + 4 * es.size) := by
        have := hsz.out
        have h2 := hy.out
        simp only [Es.size] at this h2
        exact ⟨by omega, by omega, by omega⟩
      have HK4 : Hid (ExsM (mk4 wr b (j * 5) y) ks (b' + 1) mid b' 0) := hks.keep (SameCells.of_block (mk4_block y (by omega)) _ _) (fun q q1 _ => mk4_block y (by omega))
      have HR4 : Hid (ExsM (mk4 wr b (j * 5) y) r mid hi b (j * 5 + 5)) := hr.keep ((mk4_same y _).sub (by omega) (Nat.le_refl _)) (fun q q1 _ => mk4_block y (by omega))
      have x4 : (mk4 wr b (j * 5) y).cell? ⟨b, j * 5 + 4, none⟩ = some (.slice K ks.len cp) := ((mk4_same y (j * 5 + 5)) _ (Nat.le_refl _) (by omega)).1.trans h4
      have HO4 := Lib.hid (HO.out.chain (mk4_only y (b := b) (o := j * 5)) (fun q _ e => .inl ⟨by omega, e⟩))
      have hsz4 : mid ≤ (mk4 wr b (j * 5) y).heap.size := by
        have := HO4.out.size
        omega
      have HC4 := Lib.hid (IH.out ks (by have := hrs.out; omega) K cp b' (b' + 1) mid (y + 1 + 1 + 1 + 1) (mk4 wr b (j * 5) y) hK HK4.out (by omega) hsz4 (by have := hrs.out; omega) (by omega) (by have := hrs.out; omega))
      clear hks hr HK4 HE IH hsz4
      unfold mk4 at x4 HC4
      go_wp2_with fail
      refine HC4.out.mono ?_; rintro e w1 ⟨rfl, hO1⟩
      have HR1 : Hid (ExsM w1 r mid hi b ((j + 1) * 5)) := by
        have := HR4.out.keep (w' := w1) (SameCells.of_block (hO1.block b (by have := HO4.out.size; unfold mk4 at this; omega) (by intro h; omega)) _ _) (fun q q1 q2 => hO1.block q (by have := HO4.out.size; unfold mk4 at this; omega) (by intro h; omega))
        rwa [show j * 5 + 5 = (j + 1) * 5 by omega] at this
      have HO1 : Hid (Only (fun q => (0 < es.len ∧ q = b) ∨ (lo ≤ q ∧ q < hi)) w w1) := HO4.out.chain hO1 (fun q _ h => by omega)
      obtain ⟨z, hzz⟩ : ∃ z, z = y + 1 + 1 + 1 + 1 + 4 * (ks.size : Int) := ⟨_, rfl⟩
      rw [← hzz]
      have z0 : 0 ≤ z := by omega
      have z1 : z ≤ 1000000000000 := by have := hrs.out; omega
      have HZ : Hid (z + 4 * r.size = k + 4 * es.size) := by have := hrs.out; show _ = _; omega
      clear hO1 HO4 HR4 x4 hzz HC4 HO
      go_wp2
      go_roundw
      case rel => exact ⟨j + 1, r, z, mid, by go_num, rfl, by omega, HZ, z0, z1, hrs.out.1, by omega, HR1, HO1⟩
      case measure => simp [intOf]; omega

def mkf (w : World) (b o : Nat) (s : ByteArray) (y : Int) : World := (w.setCell ⟨b, o, none⟩ (.string s)).setCell ⟨b, o + 1, none⟩ (.int .i64 y)
theorem mkf_block {w : World} {b o : Nat} (s : ByteArray) (y : Int) {q : Nat} (hq : q ≠ b) : (mkf w b o s y).heap[q]? = w.heap[q]? := (Below.heap_setCell _ _ _ _ hq).trans (Below.heap_setCell _ _ _ _ hq)
theorem mkf_same {w : World} {b o : Nat} (s : ByteArray) (y : Int) (j : Nat) : SameCells w (mkf w b o s y) b (o + 2) j := (SameCells.set_ (.inl (by omega))).trans (SameCells.set_ (.inl (by omega)))
theorem mkf_only {w : World} {b o : Nat} (s : ByteArray) (y : Int) : Only (fun q => q = b) w (mkf w b o s y) := ⟨rfl, rfl, rfl, by simp [mkf, World.setCell], fun _ _ hq => mkf_block s y hq⟩

end Go.Proofs.Ytmcaphbngfdfiaa
