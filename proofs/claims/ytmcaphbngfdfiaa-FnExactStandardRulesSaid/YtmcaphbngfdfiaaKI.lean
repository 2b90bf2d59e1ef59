/- Texts put together: WEv1, WEv2, WEv3, WEv4. -/
import Derived.Test.YtmcaphbngfdfiaaKH
import Derived.Test.YtmcaphbngfdfiaaKA

/- Evaluation: memory predicates; the walk of the program's evaluator at leaves. -/
namespace Go.Proofs.Ytmcaphbngfdfiaa
open Go.RowKit Plain

theorem Typed.keep {w w' : World} {b : Nat} {t : TypeId} (h : Typed w b t) (hb : w'.heap[b]? = w.heap[b]?) : Typed w' b t := by
  obtain ⟨cs, hc⟩ := h
  exact ⟨cs, hb.trans hc⟩
/-- the slice at A reads as these numbers, in a block that is not bv -/
def IsAt (w : World) (bv : Nat) (A : Option Addr) (zs : List Int) : Prop :=
  0 < zs.length → ∃ b o, A = some ⟨b, o, none⟩ ∧ b < w.heap.size ∧ b ≠ bv ∧ Typed w b 2 ∧ ∀ j x, zs[j]? = some x → w.cell? ⟨b, o + j, none⟩ = some (.int .i64 x)
theorem IsAt.only {w w' : World} {bv : Nat} {A : Option Addr} {zs : List Int} (h : IsAt w bv A zs) (ho : Only (fun q => q = bv) w w') : IsAt w' bv A zs := fun hn => by
  obtain ⟨b, o, e, hl, hne, ht, hc⟩ := h hn
  exact ⟨b, o, e, Nat.lt_of_lt_of_le hl ho.size, hne, ht.keep (ho.block b hl hne), fun j x hx => (ho.cell (a := ⟨b, o + j, none⟩) hl hne).trans (hc j x hx)⟩
theorem IsAt.ints {w : World} {bv : Nat} {A : Option Addr} {zs : List Int} (h : IsAt w bv A zs) : Ints w A zs := fun hn => by
  obtain ⟨b, o, e, hl, _, _, hc⟩ := h hn
  exact ⟨b, o, e, hl, hc⟩
theorem IntsT.isAt {w : World} {B bv : Nat} {A : Option Addr} {zs : List Int} (h : IntsT w B A zs) (hb : bv < B) : IsAt w bv A zs := fun hn => by
  obtain ⟨b, o, e, h1, h2, ht, hc⟩ := h hn
  exact ⟨b, o, e, h2, by omega, ht, fun j x hx => (hc j x hx).1⟩
/-- a value that is a series of n numbers -/
def RowV (w : World) (bv n : Nat) (v : Value) (zs : List Int) : Prop := ∃ A cap, v = .slice A n cap ∧ zs.length = n ∧ IsAt w bv A zs ∧ IsS zs
theorem RowV.only {w w' : World} {bv n : Nat} {v : Value} {zs : List Int} (h : RowV w bv n v zs) (ho : Only (fun q => q = bv) w w') : RowV w' bv n v zs := by
  obtain ⟨A, cap, e, hl, hi, hs⟩ := h
  exact ⟨A, cap, e, hl, hi.only ho, hs⟩
theorem RowV.of {w w' : World} {bv n : Nat} {zs : List Int} {e : Ending} (h : SPost zs w e w') (hl : zs.length = n) (hs : IsS zs) (hb : bv < w.heap.size) : ∃ v, e = .returned v ∧ RowV w' bv n v zs ∧ Below w.heap.size w w' := by
  obtain ⟨A, cp, h1, h2, h3⟩ := h
  exact ⟨_, h1, ⟨A, cp, by rw [hl], hl, h2.isAt hb, hs⟩, h3⟩
/-- the slice at A holds series of n numbers -/
def EnvAt (w : World) (bv n : Nat) (A : Option Addr) (env : List (List Int)) : Prop :=
  0 < env.length → ∃ b o, A = some ⟨b, o, none⟩ ∧ b < w.heap.size ∧ b ≠ bv ∧ ∀ j zs, env[j]? = some zs → ∃ v, w.cell? ⟨b, o + j, none⟩ = some v ∧ RowV w bv n v zs
theorem EnvAt.only {w w' : World} {bv n : Nat} {A : Option Addr} {env : List (List Int)} (h : EnvAt w bv n A env) (ho : Only (fun q => q = bv) w w') : EnvAt w' bv n A env := fun hn => by
  obtain ⟨b, o, e, hl, hne, hc⟩ := h hn
  refine ⟨b, o, e, Nat.lt_of_lt_of_le hl ho.size, hne, fun j zs hz => ?_⟩
  obtain ⟨v, h1, h2⟩ := hc j zs hz
  exact ⟨v, (ho.cell (a := ⟨b, o + j, none⟩) hl hne).trans h1, h2.only ho⟩
theorem EnvAt.get {w : World} {bv n : Nat} {A : Option Addr} {env : List (List Int)} (h : EnvAt w bv n A env) {j : Nat} {zs : List Int} (hz : env[j]? = some zs) :
    ∃ b o A' cap, A = some ⟨b, o, none⟩ ∧ b < w.heap.size ∧ b ≠ bv ∧ w.cell? ⟨b, o + j, none⟩ = some (.slice A' n cap) ∧ zs.length = n ∧ IsAt w bv A' zs ∧ IsS zs := by
  obtain ⟨b, o, e, hl, hne, hc⟩ := h (by have := (List.getElem?_eq_some_iff.1 hz).1; omega)
  obtain ⟨v, h1, A', cap, rfl, h2, h3, h4⟩ := hc j zs hz
  exact ⟨b, o, A', cap, e, hl, hne, h1, h2, h3, h4⟩

/-- what an end means for a value, the steps and the code -/
def ResIs {α : Type} (r : Res α) (z : α) (s c : Int) : Prop :=
  match r with
  | .ok z0 t => z = z0 ∧ s = (t : Int) ∧ c = 0
  | .err e => c = e
/-- what an evaluation of an expression comes to -/
def VPost (bv n : Nat) (t : TypeId) (hd : List Value) (r : Res (List Int)) (w : World) (e : Ending) (w' : World) : Prop :=
  ∃ v zs s' c', e = .returned v ∧ RowV w' bv n v zs ∧ Cells w' bv t (hd ++ [.int .i64 s', .int .i64 c']) ∧ Only (fun q => q = bv) w w' ∧ ResIs r zs s' c'
/-- what an evaluation of several comes to -/
def APost (bv n len : Nat) (t : TypeId) (hd : List Value) (r : Res (List (List Int))) (w : World) (e : Ending) (w' : World) : Prop :=
  ∃ A cp zss s' c', e = .returned (.slice A len cp) ∧ zss.length = len ∧ len ≤ cp ∧ cp ≤ maxLen ∧ EnvAt w' bv n A zss ∧ Cells w' bv t (hd ++ [.int .i64 s', .int .i64 c']) ∧ Only (fun q => q = bv) w w' ∧ ResIs r zss s' c'
/-- the value, unless there was an error before -/
def evC (n : Nat) (P : List Fn) (f : Nat) (c0 : Int) (x : Nd) (env : List (List Int)) (s : Nat) : Res (List Int) := if c0 = 0 then ev (ops n) P f x env s else .err c0
def evAC (n : Nat) (P : List Fn) (f : Nat) (c0 : Int) (es : Es) (env : List (List Int)) (s : Nat) : Res (List (List Int)) := if c0 = 0 then evAll (ev (ops n) P f) env es s else .err c0

/-- what a place of a program asks of memory -/
structure EvIn (w : World) (B bv n : Nat) (P : List Fn) (PA : Option Addr) (pcap : Nat) : Prop where
  prog : FnSl w B P PA
  pl : P.length ≤ pcap
  pm : pcap ≤ maxLen
  blow : B ≤ bv
  lt : bv < w.heap.size
  ok : progOk P = true
  n0 : 1 ≤ n
  n1 : n ≤ 13
theorem EvIn.only {w w' : World} {B bv n : Nat} {P : List Fn} {PA : Option Addr} {pcap : Nat} (h : EvIn w B bv n P PA pcap) (ho : Only (fun q => q = bv) w w') : EvIn w' B bv n P PA pcap :=
  ⟨h.prog.below (ho.below (by have := h.lt; have := h.blow; omega) (fun k hk => by have := h.blow; omega)), h.pl, h.pm, h.blow, Nat.lt_of_lt_of_le h.lt ho.size, h.ok, h.n0, h.n1⟩
theorem only_below {w w' : World} {B bv : Nat} (ho : Only (fun q => q = bv) w w') (h : B ≤ bv) (hl : bv < w.heap.size) : Below B w w' := ho.below (by omega) (fun k hk => by omega)
abbrev hdI (n : Nat) (P : List Fn) (PA : Option Addr) (pcap : Nat) : List Value := [.slice PA P.length pcap, .int .i64 ((n : Int) - 1)]

theorem isS_num (n : Nat) {x : Int} (h0 : 0 ≤ x) (h1 : x ≤ 1000002) : IsS ((ops n).num x) := IsS.mk_ fun k => by split <;> omega

/-- the world behind the first steps of an evaluation: one step more, the node's box -/
abbrev evW (w : World) (bv s : Nat) (k n p c : Int) (K : Option Addr) (len cap : Nat) : World :=
  (w.setCell ⟨bv, 2, none⟩ (.int .i64 ((s : Int) + 1))).alloc (.cells #[.int .i64 k, .int .i64 n, .int .i64 p, .int .i64 c, .slice K len cap] 29)
end Go.Proofs.Ytmcaphbngfdfiaa

/- Walks of the program's evaluator: conditions. -/
namespace Go.Proofs.Ytmcaphbngfdfiaa
open Go.RowKit Plain

/-- what an evaluation of a node asks -/
structure NdIn (w : World) (B bv n : Nat) (P : List Fn) (fn : Int) (x : Nd) (K : Option Addr) (cap : Nat) (A : Option Addr) (env : List (List Int)) (ecap : Nat) : Prop where
  kids : ExSl w B x.ks K
  kl : x.ks.len ≤ cap
  km : cap ≤ maxLen
  envA : EnvAt w bv n A env
  el : env.length ≤ ecap
  em : ecap ≤ maxLen
  big : env.length + x.ks.depth ≤ 1000000
  size : x.ks.size ≤ 400
  form : formed P fn env.length x = true
  f0 : 0 ≤ fn
  f1 : fn ≤ P.length
def Good {α : Type} (s : Nat) : Res α → Prop
  | .ok _ t => s < t ∧ t ≤ 3000
  | .err e => e ≠ 0
def GoodA {α : Type} (s : Nat) : Res α → Prop
  | .ok _ t => s ≤ t ∧ (s ≤ 3000 → t ≤ 3000)
  | .err e => e ≠ 0
theorem evAll_good {g : Nd → List (List Int) → Nat → Res (List Int)} (hg : ∀ x env s, Good s (g x env s)) : ∀ (es : Es) (env : List (List Int)) (s : Nat), GoodA s (evAll g env es s) := by
  intro es
  induction es with
  | nil => intro env s; exact ⟨Nat.le_refl _, id⟩
  | cons k n' p c ks r _ ihr =>
    intro env s
    simp only [evAll]
    have a := hg ⟨k, n', p, c, ks⟩ env s
    revert a
    cases g ⟨k, n', p, c, ks⟩ env s with
    | err c => intro a; exact a
    | ok z s1 =>
      intro a
      have b := ihr env s1
      simp only
      revert b
      cases evAll g env r s1 with
      | err c => intro b; exact b
      | ok zs s2 => intro b; exact ⟨by have := a.1; have := b.1; omega, fun h => b.2 a.2⟩
theorem evLoop_good {g : Nd → List (List Int) → Nat → Res (List Int)} (hg : ∀ x env s, Good s (g x env s)) (outs : Es) : ∀ (c : Nat) (zs : List (List Int)) (s : Nat), GoodA s (evLoop g outs c zs s) := by
  intro c
  induction c with
  | zero => intro zs s; exact ⟨Nat.le_refl _, id⟩
  | succ c ihc =>
    intro zs s
    simp only [evLoop]
    have a := evAll_good hg outs zs s
    revert a
    cases evAll g zs outs s with
    | err c => intro a; exact a
    | ok zs' s1 =>
      intro a
      have b := ihc zs' s1
      simp only
      revert b
      cases evLoop g outs c zs' s1 with
      | err c => intro b; exact b
      | ok ws s2 => intro b; exact ⟨by have := a.1; have := b.1; omega, fun h => b.2 (a.2 h)⟩
theorem ev_good {n : Nat} {P : List Fn} : ∀ (f : Nat) (x : Nd) (env : List (List Int)) (s : Nat), Good s (ev (ops n) P f x env s) := by
  intro f
  induction f with
  | zero => intro x env s; show (7 : Int) ≠ 0; decide
  | succ f ih =>
    intro x env s
    have e7 : Good (α := List Int) s (.err 7) := by show (7 : Int) ≠ 0; decide
    have e6 : Good (α := List Int) s (.err 6) := by show (6 : Int) ≠ 0; decide
    simp only [ev]
    by_cases hs : 3000 ≤ s
    · rw [if_pos hs]; exact e7
    rw [if_neg hs]
    by_cases h1 : x.k = 1
    · rw [if_pos h1]; exact ⟨by omega, by omega⟩
    rw [if_neg h1]
    by_cases h2 : x.k = 2
    · rw [if_pos h2]; exact ⟨by omega, by omega⟩
    rw [if_neg h2]
    have up : ∀ (y : Nd) (env : List (List Int)) (t : Nat), s ≤ t → Good s (ev (ops n) P f y env t) := fun y env t ht => by
      have b := ih y env t
      revert b
      cases ev (ops n) P f y env t with
      | err c => intro b; exact b
      | ok z t2 => intro b; exact ⟨by have := b.1; omega, b.2⟩
    by_cases h8 : x.k = 8
    · rw [if_pos h8]
      cases x.ks.get? 0 with
      | none => exact e7
      | some a =>
      cases x.ks.get? 1 with
      | none => exact e7
      | some b =>
      cases x.ks.get? 2 with
      | none => exact e7
      | some c =>
        have g := ih a env (s + 1)
        simp only
        revert g
        cases ev (ops n) P f a env (s + 1) with
        | err c => intro g; exact g
        | ok z s1 =>
          intro g
          simp only
          have := g.1
          split
          · exact up _ _ _ (by omega)
          · exact up _ _ _ (by omega)
    rw [if_neg h8]
    by_cases h9 : x.k = 9
    · rw [if_pos h9]
      cases x.ks.get? 0 with
      | none => exact e7
      | some a =>
      cases x.ks.get? 1 with
      | none => exact e7
      | some b =>
        have g := ih a env (s + 1)
        simp only
        revert g
        cases ev (ops n) P f a env (s + 1) with
        | err c => intro g; exact g
        | ok z s1 =>
          intro g
          have := g.1
          exact up _ _ _ (by omega)
    rw [if_neg h9]
    have g := evAll_good ih x.ks env (s + 1)
    revert g
    cases evAll (ev (ops n) P f) env x.ks (s + 1) with
    | err c => intro g; exact g
    | ok zs s1 =>
      intro g
      have g1 := g.1
      have g2 := g.2 (by omega)
      simp only
      by_cases h10 : x.k = 10
      · rw [if_pos h10]
        cases P[x.n.toNat]? with
        | none => exact e7
        | some q =>
          simp only
          cases q.outs.get? x.p.toNat with
          | none => exact e7
          | some y => exact up _ _ _ (by omega)
      rw [if_neg h10]
      by_cases h11 : x.k = 11
      · rw [if_pos h11]
        cases P[x.n.toNat]? with
        | none => exact e7
        | some q =>
          simp only
          have b := evLoop_good ih q.outs x.c.toNat zs s1
          revert b
          cases evLoop (ev (ops n) P f) q.outs x.c.toNat zs s1 with
          | err c => intro b; exact b
          | ok ws s2 => intro b; exact ⟨by have := b.1; omega, b.2 g2⟩
      rw [if_neg h11]
      by_cases h3 : x.k = 3
      · rw [if_pos h3]; exact ⟨by omega, g2⟩
      rw [if_neg h3]
      by_cases h4 : x.k = 4
      · rw [if_pos h4]; exact ⟨by omega, g2⟩
      rw [if_neg h4]
      by_cases h5 : x.k = 5
      · rw [if_pos h5]; exact ⟨by omega, g2⟩
      rw [if_neg h5]
      by_cases h7 : x.k = 7
      · rw [if_pos h7]; exact ⟨by omega, g2⟩
      rw [if_neg h7]
      by_cases h6 : cf (zs.getD 1 []) 0 = 0
      · rw [if_pos h6]; exact e6
      · rw [if_neg h6]; exact ⟨by omega, g2⟩
/-- the state behind an evaluation, and what it says of the next ones -/
theorem evC_next {n f : Nat} {P : List Fn} {c0 : Int} {x : Nd} {env : List (List Int)} {s : Nat} {z : List Int} {s' c' : Int} (h : ResIs (evC n P f c0 x env s) z s' c') (hc : c' = 0) : c0 = 0 ∧ ∃ t : Nat, s' = t ∧ s < t ∧ t ≤ 3000 ∧ ev (ops n) P f x env s = .ok z t := by
  unfold evC at h
  by_cases h0 : c0 = 0
  · rw [if_pos h0] at h
    have g := ev_good (n := n) (P := P) f x env s
    revert h g
    cases ev (ops n) P f x env s with
    | err e =>
      intro h g
      exact absurd (hc.symm.trans h).symm g
    | ok z0 t =>
      rintro ⟨rfl, rfl, _⟩ g
      exact ⟨h0, t, rfl, g.1, g.2, rfl⟩
  · rw [if_neg h0] at h
    exact absurd (hc.symm.trans h).symm h0
theorem evC_bad {n f : Nat} {P : List Fn} {c0 : Int} {x : Nd} {env : List (List Int)} {s : Nat} {z : List Int} {s' c' : Int} (h : ResIs (evC n P f c0 x env s) z s' c') (hc : c' ≠ 0) (h0 : c0 = 0) : ev (ops n) P f x env s = .err c' := by
  unfold evC at h
  rw [if_pos h0] at h
  revert h
  cases ev (ops n) P f x env s with
  | err e => intro h; exact congrArg _ h.symm
  | ok z0 t =>
    rintro ⟨rfl, rfl, h⟩
    exact absurd h hc
theorem evAC_next {n f : Nat} {P : List Fn} {c0 : Int} {es : Es} {env : List (List Int)} {s : Nat} {z : List (List Int)} {s' c' : Int} (h : ResIs (evAC n P f c0 es env s) z s' c') (hc : c' = 0) : c0 = 0 ∧ ∃ t : Nat, s' = t ∧ s ≤ t ∧ (s ≤ 3000 → t ≤ 3000) ∧ evAll (ev (ops n) P f) env es s = .ok z t := by
  unfold evAC at h
  by_cases h0 : c0 = 0
  · rw [if_pos h0] at h
    have g := evAll_good (ev_good (n := n) (P := P) f) es env s
    revert h g
    cases evAll (ev (ops n) P f) env es s with
    | err e =>
      intro h g
      exact absurd (hc.symm.trans h).symm g
    | ok z0 t =>
      rintro ⟨rfl, rfl, _⟩ g
      exact ⟨h0, t, rfl, g.1, g.2, rfl⟩
  · rw [if_neg h0] at h
    exact absurd (hc.symm.trans h).symm h0
theorem evAC_bad {n f : Nat} {P : List Fn} {c0 : Int} {es : Es} {env : List (List Int)} {s : Nat} {z : List (List Int)} {s' c' : Int} (h : ResIs (evAC n P f c0 es env s) z s' c') (hc : c' ≠ 0) (h0 : c0 = 0) : evAll (ev (ops n) P f) env es s = .err c' := by
  unfold evAC at h
  rw [if_pos h0] at h
  revert h
  cases evAll (ev (ops n) P f) env es s with
  | err e => intro h; exact congrArg _ h.symm
  | ok z0 t =>
    rintro ⟨rfl, rfl, h⟩
    exact absurd h hc

/-- a kid of a node in memory -/
theorem ExSl.get {w : World} {B : Nat} {es : Es} {K : Option Addr} (h : ExSl w B es K) {i : Nat} {y : Nd} (hy : es.get? i = some y) : ∃ b o, K = some ⟨b, o, none⟩ ∧ ElAt w B y.k y.n y.p y.c y.ks b (o + i * 5) := by
  obtain ⟨b, o, hK, he⟩ := h
  exact ⟨b, o, hK (by have := Es.get?_lt hy; omega), he.get hy⟩
theorem Es.get?_depth {es : Es} {i : Nat} {x : Nd} (h : es.get? i = some x) : x.ks.depth + 1 ≤ es.depth := by
  induction es generalizing i with
  | nil => simp [Es.get?] at h
  | cons k n p c ks r _ ih =>
    cases i with
    | zero => simp only [Es.get?, Option.some.injEq] at h; subst h; simp only [Es.depth]; omega
    | succ i => simp only [Es.get?] at h; have := ih h; simp only [Es.depth]; omega
theorem formed_kids {P : List Fn} {fn vars : Int} {x y : Nd} {j : Nat} (h : formed P fn vars x = true) (hy : x.ks.get? j = some y) : formed P fn (kidVars x.k vars j) y = true := by
  unfold formed at h
  rw [Bool.and_eq_true] at h
  have := formedL_get h.2 hy
  rwa [Nat.zero_add] at this
/-- a kid that is evaluated in the same environment -/
theorem NdIn.kid {w w' : World} {B bv n : Nat} {P : List Fn} {fn : Int} {x y : Nd} {K K' : Option Addr} {cap cap' : Nat} {A : Option Addr} {env : List (List Int)} {ecap j : Nat} (h : NdIn w B bv n P fn x K cap A env ecap) (ho : Only (fun q => q = bv) w w')
    (hy : x.ks.get? j = some y) (hk : x.k ≠ 9 ∨ j ≠ 1) (hK' : ExSl w' B y.ks K') (hc : y.ks.len ≤ cap') (hm : cap' ≤ maxLen) : NdIn w' B bv n P fn y K' cap' A env ecap := by
  have hf := formed_kids h.form hy
  have hkv : kidVars x.k env.length j = env.length := by
    rcases hk with hk | hk
    · exact kidVars_ne hk
    · exact kidVars_no hk
  rw [hkv] at hf
  have hd := Es.get?_depth hy
  have hs := Es.get?_size hy
  exact ⟨hK', hc, hm, h.envA.only ho, h.el, h.em, by have := h.big; omega, by have := h.size; omega, hf, h.f0, h.f1⟩

end Go.Proofs.Ytmcaphbngfdfiaa

/- Walks of the program's evaluator: conditions. -/
namespace Go.Proofs.Ytmcaphbngfdfiaa
open Go.RowKit Plain

theorem RowV.first {w : World} {bv n : Nat} {v : Value} {zs : List Int} (h : RowV w bv n v zs) (h0 : 0 < n) : ∃ b o cap, v = .slice (some ⟨b, o, none⟩) n cap ∧ b < w.heap.size ∧ w.cell? ⟨b, o, none⟩ = some (.int .i64 (cf zs 0)) := by
  obtain ⟨A, cap, rfl, hl, hi, _⟩ := h
  obtain ⟨b, o, rfl, hb, _, _, hc⟩ := hi (by omega)
  exact ⟨b, o, cap, rfl, hb, by have := hc 0 _ (cf_some (by omega)); rwa [Nat.add_zero] at this⟩
theorem only_cells {w w' : World} {g bv : Nat} {t : TypeId} {C : List Value} (h : Cells w g t C) (ho : Only (fun q => q = bv) w w') (hne : g ≠ bv) : Cells w' g t C := (ho.block g h.lt hne).trans h
theorem ElAt.cells {w : World} {B : Nat} {k n p c : Int} {ks : Es} {b o : Nat} (h : ElAt w B k n p c ks b o) : ∃ K cap, b < B ∧ w.cell? ⟨b, o, none⟩ = some (.int .i64 k) ∧ w.cell? ⟨b, o + 1, none⟩ = some (.int .i64 n) ∧ w.cell? ⟨b, o + 2, none⟩ = some (.int .i64 p) ∧ w.cell? ⟨b, o + 3, none⟩ = some (.int .i64 c) ∧
    w.cell? ⟨b, o + 4, none⟩ = some (.slice K ks.len cap) ∧ ks.len ≤ cap ∧ cap ≤ maxLen ∧ ExSl w B ks K := by
  obtain ⟨hb, h0, h1, h2, h3, K, cap, b', o', h4, hc, hm, hK, hk⟩ := h
  exact ⟨K, cap, hb, h0, h1, h2, h3, h4, hc, hm, b', o', hK, hk⟩
/-- a part's end, handed on -/
theorem VPost.from {bv n : Nat} {t : TypeId} {hd : List Value} {r r' : Res (List Int)} {w w1 : World} {e : Ending} {w' : World} (ho : Only (fun q => q = bv) w w1) (h : VPost bv n t hd r w1 e w') (hr : r = r') : VPost bv n t hd r' w e w' := by
  subst hr
  obtain ⟨v, zs, s', c', h1, h2, h3, h4, h5⟩ := h
  exact ⟨v, zs, s', c', h1, h2, h3, ho.trans h4, h5⟩
theorem formed_op8 {P : List Fn} {fn vars : Int} {x : Nd} (h : formed P fn vars x = true) (hk : x.k = 8) : x.ks.len = 3 := by
  unfold formed at h
  rw [Bool.and_eq_true, hk, nodeOk_op (N := 3) (.inr (.inr ⟨rfl, rfl⟩))] at h
  simp only [Bool.and_eq_true, beq_iff_eq] at h
  exact h.1.2.2

end Go.Proofs.Ytmcaphbngfdfiaa

/- Walks of the program's evaluator: all expressions of a list. -/
namespace Go.Proofs.Ytmcaphbngfdfiaa
open Go.RowKit Plain

theorem Try.infoIS : (Try.prog.info? 65).map (fun i => (i.zero, i.size, i.bytes)) = some (some (.slice none 0 0), 1, 24) := by kernel_rfl

/-- an own row of series -/
def RowsRow (w : World) (base bv n : Nat) (v : Value) (zss : List (List Int)) : Prop :=
  ∃ vs : List Value, w.ownsRow base 65 1 v zss.length vs ∧ ∀ (i : Nat) zs, zss[i]? = some zs → ∃ u, vs[i]? = some u ∧ RowV w bv n u zs
theorem RowsRow.only {w w' : World} {base bv n : Nat} {v : Value} {zss : List (List Int)} (h : RowsRow w base bv n v zss) (hb : bv < base) (ho : Only (fun q => q = bv) w w') : RowsRow w' base bv n v zss := by
  obtain ⟨vs, h1, h2⟩ := h
  refine ⟨vs, ⟨h1.1, ?_⟩, fun i zs hz => ?_⟩
  · rcases h1.2 with hn | ⟨g, cap, cur, rfl, hb', hgg, rest⟩
    · exact .inl hn
    · exact .inr ⟨g, cap, cur, rfl, hb', by rw [ho.block g (Array.getElem?_eq_some_iff.1 hgg).1 (by omega)]; exact hgg, rest⟩
  · obtain ⟨u, hu, hr⟩ := h2 i zs hz
    exact ⟨u, hu, hr.only ho⟩
theorem RowsRow.env {w : World} {base bv n cp len : Nat} {A : Option Addr} {zss : List (List Int)} (h : RowsRow w base bv n (.slice A len cp) zss) (hl : zss.length = len) (hb : bv < base) : len ≤ cp ∧ cp ≤ maxLen ∧ EnvAt w bv n A zss := by
  subst hl
  obtain ⟨vs, h1, h2⟩ := h
  have hcp : zss.length ≤ cp ∧ cp ≤ maxLen := by
    rcases h1.2 with ⟨hv, h0⟩ | ⟨g, cap, cur, hv, _, _, hc, hm, _⟩
    · injection hv with _ _ hc
      subst hc
      exact ⟨by omega, by unfold maxLen; omega⟩
    · injection hv with _ _ hc'
      subst hc'
      exact ⟨hc, hm⟩
  refine ⟨hcp.1, hcp.2, fun hn => ?_⟩
  obtain ⟨g, cap, hv, hg, hlt⟩ := World.ownsRow.form h1 hn
  have hA : A = some ⟨g, 0, none⟩ := by injection hv
  have hc : cp = cap := by injection hv
  subst hA
  subst hc
  refine ⟨g, 0, rfl, hlt, by omega, fun j zs hz => ?_⟩
  obtain ⟨u, hu, hr⟩ := h2 j zs hz
  have hj : j < zss.length := (List.getElem?_eq_some_iff.1 hz).1
  refine ⟨u, ?_, hr⟩
  rw [Nat.zero_add, World.ownsRow.cellAt h1 j (by omega)]
  exact hu
/-- an append to a row of series leaves series alone -/
theorem RowV.grown {w w' : World} {bv n : Nat} {v : Value} {zs : List Int} {row : Option Nat} (h : RowV w bv n v zs) (hg : w.grownBy w' row) (hr : ∀ q, row = some q → Typed w q 65) : RowV w' bv n v zs := by
  obtain ⟨A, cap, rfl, hl, hi, hs⟩ := h
  refine ⟨A, cap, rfl, hl, fun h0 => ?_, hs⟩
  obtain ⟨b, o, e, hb, hne, ht, hc⟩ := hi h0
  have hbr : some b ≠ row := fun e2 => ht.ne (hr b e2.symm) (by decide) rfl
  exact ⟨b, o, e, Nat.lt_of_lt_of_le hb hg.size, hne, ht.keep (hg.block b hb hbr), fun j x hx => (World.cell?_of_block (hg.block b hb hbr)).trans (hc j x hx)⟩
theorem RowV.below {w w' : World} {bv n : Nat} {v : Value} {zs : List Int} (h : RowV w bv n v zs) (hb : Below w.heap.size w w') : RowV w' bv n v zs := h.only (Only.of_below hb)
/-- one series more -/
theorem RowsRow.push {w1 w2 : World} {base bv n k cp : Nat} {Av : Option Addr} {u v2 : Value} {zss : List (List Int)} {zs : List Int} {t : TypeId} (h : RowsRow w1 base bv n (.slice Av k cp) zss) (hk : zss.length = k) (hu : RowV w1 bv n u zs) (vs : List Value)
    (hvs : w1.ownsRow base 65 1 (.slice Av k cp) k vs ∧ ∀ (i : Nat) zs, zss[i]? = some zs → ∃ u, vs[i]? = some u ∧ RowV w1 bv n u zs)
    (hown : w2.ownsRow base 65 1 v2 (k + 1) (vs ++ [u])) (hg : (w1.alloc (.cells #[u] t)).grownBy w2 (Value.slice Av k cp).ownBlock) (hb : bv < base) (hbl : bv < w1.heap.size) :
    (∃ A2 c2, v2 = .slice A2 (k + 1) c2) ∧ RowsRow w2 base bv n v2 (zss ++ [zs]) ∧ Only (fun q => q = bv ∨ base ≤ q) w1 w2 ∧ w2.heap[bv]? = w1.heap[bv]? := by
  have hty : ∀ q, (Value.slice Av k cp).ownBlock = some q → Typed (w1.alloc (.cells #[u] t)) q 65 := fun q hq => own_typed (hvs.1.alloc _) hq
  have hgr : Below w1.heap.size w1 (w1.alloc (.cells #[u] t)) := by go_grown
  have hlen : vs.length = k := by have := hvs.1.1; omega
  refine ⟨?_, ⟨vs ++ [u], by rw [List.length_append, hk]; exact hown, fun i zs' hz => ?_⟩, ?_, ?_⟩
  · obtain ⟨g, c, hv, _⟩ := World.ownsRow.form hown (by omega)
    exact ⟨_, c, hv⟩
  · by_cases hi : i < k
    · rw [List.getElem?_append_left (by omega)] at hz
      obtain ⟨u', h1, h2⟩ := hvs.2 i zs' hz
      exact ⟨u', by rw [List.getElem?_append_left (by omega)]; exact h1, (h2.below hgr).grown hg hty⟩
    · have hlt := (List.getElem?_eq_some_iff.1 hz).1
      simp at hlt
      have hik : i = k := by omega
      subst hik
      rw [List.getElem?_append_right (by omega), hk] at hz
      simp at hz
      subst hz
      exact ⟨u, by rw [List.getElem?_append_right (by omega), hlen]; simp, (hu.below hgr).grown hg hty⟩
  · refine ⟨hg.os, hg.tape, hg.output, by have := hg.size; simp at this; omega, fun q hq hs => ?_⟩
    have h1 := hg.block q (by simp; omega) (fun e => by
      have := World.ownsRow.lt hvs.1 q e.symm
      exact hs (.inr this.1))
    exact h1.trans (hgr.block q hq)
  · have h1 := hg.block bv (by simp; omega) (fun e => by
      have := World.ownsRow.lt hvs.1 bv e.symm
      omega)
    exact h1.trans (hgr.block bv hbl)

/-- what the evaluation of a list of expressions asks -/
structure LsIn (w : World) (B bv n : Nat) (P : List Fn) (fn : Int) (es : Es) (K : Option Addr) (cap : Nat) (A : Option Addr) (env : List (List Int)) (ecap : Nat) : Prop where
  kids : ExSl w B es K
  kl : es.len ≤ cap
  km : cap ≤ maxLen
  envA : EnvAt w bv n A env
  el : env.length ≤ ecap
  em : ecap ≤ maxLen
  big : env.length + es.depth ≤ 1000000
  size : es.size ≤ 400
  form : ∀ j y, es.get? j = some y → formed P fn env.length y = true
  f0 : 0 ≤ fn
  f1 : fn ≤ P.length
/-- what a state in the middle says of the end -/
def MidR (n : Nat) (P : List Fn) (f : Nat) (R : Res (List (List Int))) (es' : Es) (env zss : List (List Int)) (s' c' : Int) : Prop :=
  (c' = 0 → ∃ t1 : Nat, s' = t1 ∧ t1 ≤ 3000 ∧ 3001 ≤ t1 + f ∧ R = (match evAll (ev (ops n) P f) env es' t1 with | .err e => .err e | .ok zs t2 => .ok (zss ++ zs) t2)) ∧ (c' ≠ 0 → R = .err c')
theorem MidR.start {n : Nat} {P : List Fn} {f : Nat} {c0 s : Int} {es : Es} {env : List (List Int)} {t : Nat} (h : c0 = 0 → s = (t : Int) ∧ t ≤ 3000 ∧ 3001 ≤ t + f) : MidR n P f (evAC n P f c0 es env t) es env [] s c0 := by
  unfold evAC
  constructor
  · intro h0
    obtain ⟨h1, h2, h3⟩ := h h0
    refine ⟨t, h1, h2, h3, ?_⟩
    rw [if_pos h0]
    cases evAll (ev (ops n) P f) env es t <;> rfl
  · intro h0
    rw [if_neg h0]
theorem MidR.step {n : Nat} {P : List Fn} {f : Nat} {R : Res (List (List Int))} {k m p c : Int} {ks r : Es} {env zss : List (List Int)} {s c0 : Int} {zs : List Int} {s' c' : Int} (h : MidR n P f R (.cons k m p c ks r) env zss s c0) (hr : ResIs (evC n P f c0 ⟨k, m, p, c, ks⟩ env s.toNat) zs s' c') : MidR n P f R r env (zss ++ [zs]) s' c' := by
  constructor
  · intro hc
    obtain ⟨h0, t1, rfl, h1, h2, h3⟩ := evC_next hr hc
    obtain ⟨t0, rfl, a1, a2, a3⟩ := h.1 h0
    simp only [Int.toNat_natCast] at h1 h3
    refine ⟨t1, rfl, h2, by omega, ?_⟩
    rw [a3]
    simp only [evAll]
    rw [h3]
    simp only
    cases evAll (ev (ops n) P f) env r t1 with
    | err e => rfl
    | ok z2 t2 => simp
  · intro hc
    by_cases h0 : c0 = 0
    · obtain ⟨t0, rfl, a1, a2, a3⟩ := h.1 h0
      have hb := evC_bad hr hc h0
      simp only [Int.toNat_natCast] at hb
      rw [a3]
      simp only [evAll]
      rw [hb]
    · rw [h.2 h0]
      unfold evC at hr
      rw [if_neg h0] at hr
      have : c' = c0 := hr
      rw [this]
theorem MidR.end_ {n : Nat} {P : List Fn} {f : Nat} {R : Res (List (List Int))} {env zss : List (List Int)} {s c : Int} (h : MidR n P f R .nil env zss s c) : ResIs R zss s c := by
  by_cases hc : c = 0
  · obtain ⟨t, rfl, _, _, h3⟩ := h.1 hc
    rw [h3]
    simp only [evAll, List.append_nil]
    exact ⟨rfl, rfl, hc⟩
  · rw [h.2 hc]; rfl
theorem MidR.now {n : Nat} {P : List Fn} {f : Nat} {R : Res (List (List Int))} {es : Es} {env zss : List (List Int)} {s c : Int} (h : MidR n P f R es env zss s c) : c = 0 → s = (s.toNat : Int) ∧ s.toNat ≤ 3000 ∧ 3001 ≤ s.toNat + f := fun hc => by
  obtain ⟨t, rfl, h1, h2, _⟩ := h.1 hc
  simp only [Int.toNat_natCast]
  exact ⟨trivial, h1, h2⟩

theorem only_or {w w' : World} {_B bv base : Nat} (h : Only (fun q => q = bv ∨ base ≤ q) w w') : ∀ {w0 : World}, Only (fun q => q = bv) w0 w → w0.heap.size ≤ base → Only (fun q => q = bv) w0 w' := fun {w0} h0 hb =>
  ⟨h.os.trans h0.os, h.tape.trans h0.tape, h.output.trans h0.output, Nat.le_trans h0.size h.size, fun k hk hs => (h.block k (Nat.lt_of_lt_of_le hk h0.size) (fun e => by rcases e with e | e; exact hs e; omega)).trans (h0.block k hk hs)⟩

end Go.Proofs.Ytmcaphbngfdfiaa
