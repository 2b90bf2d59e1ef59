/- Texts put together: WOk1, WOk2, WOk3, WOk4, WOk5, WOk6. -/
import Derived.Test.YtmcaphbngfdfiaaKC
import Derived.Test.YtmcaphbngfdfiaaKA
import Derived.Test.YtmcaphbngfdfiaaKB
import Derived.Test.YtmcaphbngfdfiaaKD
import Derived.StillTailTactics

/- Walks of the reference's looks at expressions: l02Left, l02Depth. -/
namespace Go.Proofs.Ytmcaphbngfdfiaa
open Go.RowKit Plain

abbrev ptr (b o : Nat) : Value := .pointer (some ⟨b, o, none⟩)

theorem Es.depth_le (es : Es) : es.depth ≤ es.size := by
  induction es with
  | nil => exact Nat.le_refl _
  | cons k n p c ks r ih1 ih2 => simp only [Es.depth, Es.size]; omega

end Go.Proofs.Ytmcaphbngfdfiaa

/- Walks of the reference's looks at expressions: l02Kids, l02Node, l02Tree, l02Expr. -/
namespace Go.Proofs.Ytmcaphbngfdfiaa
open Go.RowKit Plain

theorem quiet_add_same {P : Program} {f : FuncId} {args : Array Value} {w : World} {a n : Nat} {v : Value}
    (h : Calls P f args (w.drewN (a + n)) fun e w' => e = .returned v ∧ w' = w.drewN (a + n)) :
    Calls P f args (w.drewN (a + n)) fun e w'' => e = .returned v ∧ ∃ m, w'' = w.drewN (a + m) :=
  h.mono fun _ _ ⟨he, hm⟩ => ⟨he, n, hm⟩
theorem FlAt.mono {w : World} {B B' : Nat} {f : Fn} {b o : Nat} (h : FlAt w B f b o) (hb : B ≤ B') : FlAt w B' f b o := by
  obtain ⟨hB, h0, h1, hs, K, cap, h2, hc, hm, hk⟩ := h
  exact ⟨Nat.lt_of_lt_of_le hB hb, h0, h1, hs, K, cap, h2, hc, hm, hk.mono hb⟩
theorem FnsAt.mono {w : World} {B B' : Nat} (hb : B ≤ B') : ∀ {fs : List Fn} {b o : Nat}, FnsAt w B fs b o → FnsAt w B' fs b o
  | [], _, _, _ => trivial
  | _ :: _, _, _, h => ⟨FlAt.mono h.1 hb, FnsAt.mono hb h.2⟩
theorem FnSl.mono {w : World} {B B' : Nat} {fs : List Fn} {A : Option Addr} (h : FnSl w B fs A) (hb : B ≤ B') : FnSl w B' fs A := by
  obtain ⟨b, o, hA, h⟩ := h
  exact ⟨b, o, hA, h.mono hb⟩
theorem FnSl.get {w : World} {B : Nat} {fs : List Fn} {A : Option Addr} (h : FnSl w B fs A) {i : Nat} {f : Fn} (hf : fs[i]? = some f) : ∃ b o, A = some ⟨b, o, none⟩ ∧ FlAt w B f b (o + i * 3) := by
  obtain ⟨b, o, hA, h⟩ := h
  exact ⟨b, o, hA (by have := (List.getElem?_eq_some_iff.1 hf).1; omega), h.get hf⟩

/-- a program's variable lies at ⟨b, o⟩; all is in blocks below B -/
def PrAt (w : World) (B : Nat) (P : List Fn) (b o : Nat) : Prop :=
  b < B ∧ ∃ A cap, w.cell? ⟨b, o, none⟩ = some (.slice A P.length cap) ∧ P.length ≤ cap ∧ cap ≤ maxLen ∧ FnSl w B P A
theorem PrAt.below {w w' : World} {B : Nat} {P : List Fn} {b o : Nat} (h : PrAt w B P b o) (hb : Below B w w') : PrAt w' B P b o := by
  obtain ⟨h0, A, cap, h1, h2, h3, h4⟩ := h
  exact ⟨h0, A, cap, (hb.cell (p := ⟨b, _, none⟩) h0).trans h1, h2, h3, h4.below hb⟩

/-- the number of kids of a kind -/
def kidsN (k : Int) : Int := if k = 1 ∨ k = 2 then 0 else if k = 3 ∨ k = 4 ∨ k = 5 ∨ k = 6 ∨ k = 9 then 2 else if k = 7 then 1 else if k = 8 then 3 else -1
theorem nodeOk_call {P : List Fn} {fn vars k n p c : Int} {len : Nat} {f : Fn} (hk : k = 10 ∨ k = 11) (hf : P[n.toNat]? = some f) (hn : inR n 0 (fn - 1) = true) :
    nodeOk P fn vars k n p c len = (decide ((len : Int) = f.params) && inR p 0 ((f.outs.len : Int) - 1) && (if k = 10 then c == 0 else decide ((f.outs.len : Int) = f.params) && inR c 0 8)) := by
  unfold nodeOk; rw [if_pos hk, hf, hn]; rfl
theorem nodeOk_no {P : List Fn} {fn vars k n p c : Int} {len : Nat} (hk : k = 10 ∨ k = 11) (hn : inR n 0 (fn - 1) = false) : nodeOk P fn vars k n p c len = false := by
  unfold nodeOk; rw [if_pos hk, hn]; rfl
theorem nodeOk_plain {P : List Fn} {fn vars k n p c : Int} {len : Nat} (hk : ¬ (k = 10 ∨ k = 11)) : nodeOk P fn vars k n p c len =
    (decide (kidsN k = len) && p == 0 && c == 0 && (if k = 1 then inR n 0 1000002 else if k = 2 then inR n 0 (vars - 1) else n == 0)) := by
  unfold nodeOk kidsN
  rw [if_neg hk]
  have e (x : Nat) : (len == x) = decide ((len : Int) = x) := by rw [Bool.eq_iff_iff]; simp; omega
  have e0 := e 0
  have e1 := e 1
  have e2 := e 2
  have e3 := e 3
  by_cases h1 : k = 1
  · subst h1; simp [Bool.and_left_comm, Bool.and_assoc, eq_comm, e0]
  by_cases h2 : k = 2
  · subst h2; simp [Bool.and_left_comm, Bool.and_assoc, eq_comm, e0]
  by_cases h3 : k = 3 ∨ k = 4 ∨ k = 5 ∨ k = 6 ∨ k = 9
  · simp [h1, h2, h3, Bool.and_comm, Bool.and_left_comm, Bool.and_assoc, eq_comm, e2]
  by_cases h7 : k = 7
  · subst h7; simp [Bool.and_comm, Bool.and_left_comm, Bool.and_assoc, eq_comm, e1]
  by_cases h8 : k = 8
  · subst h8; simp [Bool.and_comm, Bool.and_left_comm, Bool.and_assoc, eq_comm, e3]
  simp [h1, h2, h3, h7, h8]

theorem wrapm1 {n : Nat} (h : (n : Int) ≤ 9223372036854775807) : IntKind.i64.wrap ((n : Int) - 1) = (n : Int) - 1 := by rw [IntKind.wrap_i64]; omega
def NodePost (r : Bool) (w : World) (e : Ending) (w' : World) : Prop := e = .returned (.bool r) ∧ Below w.heap.size w w'
theorem NodePost.d2 {r r' : Bool} {w : World} {n m : Nat} (h : r' = r) : NodePost r w (.returned (.bool r')) ((w.drewN n).drewN m) := ⟨ret_bool h, (Drawn.trans ⟨_, rfl⟩ ⟨_, rfl⟩).below _⟩
theorem NodePost.d3 {r r' : Bool} {w : World} {n m k : Nat} (h : r' = r) : NodePost r w (.returned (.bool r')) (((w.drewN n).drewN m).drewN k) := ⟨ret_bool h, (Drawn.trans (Drawn.trans ⟨_, rfl⟩ ⟨_, rfl⟩) ⟨_, rfl⟩).below _⟩
theorem NodePost.d1 {r r' : Bool} {w : World} {n : Nat} (h : r' = r) : NodePost r w (.returned (.bool r')) (w.drewN n) := ⟨ret_bool h, Drawn.below ⟨_, rfl⟩ _⟩
theorem NodePost.d0 {r r' : Bool} {w : World} (h : r' = r) : NodePost r w (.returned (.bool r')) w := ⟨ret_bool h, Below.refl _ _⟩

end Go.Proofs.Ytmcaphbngfdfiaa

/- Walks of the reference's looks at expressions: l02Node at kinds without a function; l02Node whole. -/
namespace Go.Proofs.Ytmcaphbngfdfiaa
open Go.RowKit Plain

end Go.Proofs.Ytmcaphbngfdfiaa

/- Walks of IsName, the reference's and the program's. -/
namespace Go.Proofs.Ytmcaphbngfdfiaa
open Go.RowKit Plain

/-- may the byte stand at place i of a name? -/
def gd (i : Nat) (c : UInt8) : Bool := chr1 c || (decide (0 < i) && decide (48 ≤ c.toNat ∧ c.toNat ≤ 57))
/-- the first k bytes are right -/
def gdTo (s : ByteArray) (k : Nat) : Prop := ∀ i (h : i < s.size), i < k → gd i s[i] = true
theorem gdTo_succ {s : ByteArray} {k : Nat} (h : gdTo s k) (hk : k < s.size) (hg : gd k s[k] = true) : gdTo s (k + 1) := fun i hi hik => by
  by_cases e : i = k
  · subst e; exact hg
  · exact h i hi (by omega)
theorem nmB_iff (c : UInt8) (r : List UInt8) : (chr1 c && r.all chr2) = true ↔ ∀ i (h : i < (c :: r).length), gd i (c :: r)[i] = true := by
  simp only [Bool.and_eq_true, List.all_eq_true]
  constructor
  · rintro ⟨h1, h2⟩ i hi
    cases i with
    | zero => simp [gd, h1]
    | succ i =>
      have hi' : i < r.length := by simpa using hi
      have := h2 r[i] (List.getElem_mem _)
      simpa [gd, chr2] using this
  · intro h
    refine ⟨by have := h 0 (by simp); simpa [gd] using this, fun x hx => ?_⟩
    obtain ⟨i, hi, rfl⟩ := List.getElem_of_mem hx
    have := h (i + 1) (by simpa using hi)
    simpa [gd, chr2] using this
theorem gdTo_list {s : ByteArray} {l : List UInt8} (hl : s.data.toList = l) : (∀ i (h : i < l.length), gd i l[i] = true) ↔ gdTo s s.size := by
  subst hl
  constructor
  · intro h i hi _
    exact h i (by simpa using hi)
  · intro h i hi
    have hi' : i < s.size := by simpa using hi
    exact h i hi' hi'
theorem nameOk_iff (s : ByteArray) : nameOk s = true ↔ (1 ≤ s.size ∧ s.size ≤ 12) ∧ gdTo s s.size := by
  unfold nameOk
  rw [Bool.and_eq_true, decide_eq_true_iff]
  refine and_congr_right fun hz => ?_
  have hl : s.data.toList.length = s.size := by simp
  cases hd : s.data.toList with
  | nil => rw [hd] at hl; simp at hl; omega
  | cons c r => exact (nmB_iff c r).trans (gdTo_list hd)
theorem nameOk_true {s : ByteArray} (h1 : 1 ≤ s.size) (h2 : s.size ≤ 12) (h : gdTo s s.size) : nameOk s = true := (nameOk_iff s).2 ⟨⟨h1, h2⟩, h⟩
theorem nameOk_size {s : ByteArray} (h : ¬ (1 ≤ s.size ∧ s.size ≤ 12)) : nameOk s = false := by
  rw [Bool.eq_false_iff]; exact fun e => h ((nameOk_iff s).1 e).1
theorem nameOk_bad {s : ByteArray} {k : Nat} (hk : k < s.size) (h : gd k s[k] = false) : nameOk s = false := by
  rw [Bool.eq_false_iff]; intro e
  have := ((nameOk_iff s).1 e).2 k hk hk
  rw [h] at this; cases this
theorem gd_let {k : Nat} {c : UInt8} (h1 : 97 ≤ (c.toNat : Int)) (h2 : (c.toNat : Int) ≤ 122) : gd k c = true := by
  unfold gd chr1; rw [Bool.or_eq_true]; exact .inl (by simp; omega)
theorem gd_dig {k : Nat} {c : UInt8} (h0 : 0 < k) (h1 : 48 ≤ (c.toNat : Int)) (h2 : (c.toNat : Int) ≤ 57) : gd k c = true := by
  unfold gd; rw [Bool.or_eq_true]; exact .inr (by simp; omega)
theorem gd_no {k : Nat} {c : UInt8} (h1 : ¬ (97 ≤ (c.toNat : Int) ∧ (c.toNat : Int) ≤ 122)) (h2 : ¬ (0 < k ∧ 48 ≤ (c.toNat : Int) ∧ (c.toNat : Int) ≤ 57)) : gd k c = false := by
  unfold gd chr1; rw [Bool.or_eq_false_iff]; refine ⟨by simp; omega, by simp; omega⟩

end Go.Proofs.Ytmcaphbngfdfiaa

/- Walks of the reference's looks at expressions: l02Tree, l02Expr. -/
namespace Go.Proofs.Ytmcaphbngfdfiaa
open Go.RowKit Plain

theorem PrAt.mono {w : World} {B B' : Nat} {P : List Fn} {b o : Nat} (h : PrAt w B P b o) (hb : B ≤ B') : PrAt w B' P b o := by
  obtain ⟨h0, A, cap, h1, h2, h3, h4⟩ := h
  exact ⟨Nat.lt_of_lt_of_le h0 hb, A, cap, h1, h2, h3, h4.mono hb⟩
theorem kidVars_bd (k vars : Int) (j : Nat) : vars ≤ kidVars k vars j ∧ kidVars k vars j ≤ vars + 1 := by unfold kidVars; split <;> omega

theorem exprOk_vars {P : List Fn} {x : Nd} {vars funcs : Int} (h : inR vars 0 412 = false) : exprOk P x vars funcs = false := by unfold exprOk; rw [h]; rfl
theorem exprOk_funcs {P : List Fn} {x : Nd} {vars funcs : Int} (h : inR funcs 0 P.length = false) : exprOk P x vars funcs = false := by unfold exprOk; rw [h]; simp
theorem exprOk_size {P : List Fn} {x : Nd} {vars funcs : Int} (h : ¬ x.ks.size ≤ 399) : exprOk P x vars funcs = false := by
  have : decide (x.size ≤ 400) = false := decide_eq_false (by unfold Nd.size; omega)
  unfold exprOk; rw [this]; simp
theorem exprOk_depth {P : List Fn} {x : Nd} {vars funcs : Int} (h : ¬ x.ks.depth ≤ 59) : exprOk P x vars funcs = false := by
  have : decide (x.depth ≤ 60) = false := decide_eq_false (by unfold Nd.depth; omega)
  unfold exprOk; rw [this]; simp
theorem exprOk_formed {P : List Fn} {x : Nd} {vars funcs : Int} (h0 : inR vars 0 412 = true) (h1 : inR funcs 0 P.length = true) (h2 : x.ks.size ≤ 399) (h3 : x.ks.depth ≤ 59) : exprOk P x vars funcs = formed P funcs vars x := by
  have e1 : decide (x.size ≤ 400) = true := decide_eq_true (by unfold Nd.size; omega)
  have e2 : decide (x.depth ≤ 60) = true := decide_eq_true (by unfold Nd.depth; omega)
  unfold exprOk; rw [h0, h1, e1, e2]; rfl

end Go.Proofs.Ytmcaphbngfdfiaa

/- Walks of the reference's looks at programs: l02Func, l02Ok, l02Asked. -/
namespace Go.Proofs.Ytmcaphbngfdfiaa
open Go.RowKit Plain

theorem sameName (a b : ByteArray) : (a == b) = (a.toList == b.toList) := by
  cases a with
  | mk a =>
  cases b with
  | mk b =>
    rw [ByteArray.toList_eq, ByteArray.toList_eq]
    show (a == b) = (a.toList == b.toList)
    rw [Bool.eq_iff_iff, beq_iff_eq, beq_iff_eq]
    exact ⟨fun h => by rw [h], fun h => Array.toList_inj.1 h⟩
theorem dupe_no {P : List Fn} {f : Fn} {j : Nat} (h : ∀ i g, i < j → P[i]? = some g → (g.name == f.name) = false) : ((P.take j).any fun g => g.name == f.name) = false := by
  rw [List.any_eq_false]
  intro g hg
  obtain ⟨i, hi⟩ := List.getElem?_of_mem hg
  rw [List.getElem?_take] at hi
  split at hi
  · rw [h i g (by assumption) hi]; simp
  · cases hi
theorem dupe_yes {P : List Fn} {f g : Fn} {i j : Nat} (hi : i < j) (hg : P[i]? = some g) (h : (g.name == f.name) = true) : ((P.take j).any fun g => g.name == f.name) = true := by
  rw [List.any_eq_true]
  exact ⟨g, List.mem_of_getElem? (by rw [List.getElem?_take, if_pos hi]; exact hg), h⟩
theorem fnOk_name {P : List Fn} {i : Nat} {f : Fn} (h : nameOk f.name = false) : fnOk P i f = false := by unfold fnOk; rw [h]; rfl
theorem fnOk_dupe {P : List Fn} {i : Nat} {f : Fn} (h : ((P.take i).any fun g => g.name == f.name) = true) : fnOk P i f = false := by unfold fnOk; rw [h]; simp
theorem fnOk_params {P : List Fn} {i : Nat} {f : Fn} (h : inR f.params 0 12 = false) : fnOk P i f = false := by unfold fnOk; rw [h]; simp
theorem fnOk_outs {P : List Fn} {i : Nat} {f : Fn} (h : inR f.outs.len 1 12 = false) : fnOk P i f = false := by unfold fnOk; rw [h]; simp
theorem fnOk_rest {P : List Fn} {i : Nat} {f : Fn} (h1 : nameOk f.name = true) (h2 : ((P.take i).any fun g => g.name == f.name) = false) (h3 : inR f.params 0 12 = true) (h4 : inR f.outs.len 1 12 = true) : fnOk P i f = (exprsOk P f.outs f.params i && decide (f.outs.size ≤ 400)) := by
  unfold fnOk; rw [h1, h2, h3, h4]; simp

/-- are these expressions right, and not more than y nodes? -/
def okR (P : List Fn) (es : Es) (vars funcs y : Int) : Bool := exprsOk P es vars funcs && decide ((es.size : Int) ≤ y)
theorem okR_cons {P : List Fn} {k n p c : Int} {ks r : Es} {vars funcs y : Int} : okR P (.cons k n p c ks r) vars funcs y = (exprOk P ⟨k, n, p, c, ks⟩ vars funcs && okR P r vars funcs (y - 1 - ks.size)) := by
  have e : decide (((Es.cons k n p c ks r).size : Int) ≤ y) = decide ((r.size : Int) ≤ y - 1 - ks.size) := by
    exact decide_eq_decide.2 (by simp only [Es.size]; omega)
  unfold okR
  rw [e]
  simp only [exprsOk, Bool.and_assoc]
theorem okR_neg {P : List Fn} {es : Es} {vars funcs y : Int} (h : y < 0) : okR P es vars funcs y = false := by
  unfold okR; rw [decide_eq_false (by omega)]; simp

/-- the code of a program and a function -/
def askV (P : List Fn) (f : Int) : Int := if progOk P then (if inR f 0 ((P.length : Int) - 1) then 0 else 2) else 1

end Go.Proofs.Ytmcaphbngfdfiaa
