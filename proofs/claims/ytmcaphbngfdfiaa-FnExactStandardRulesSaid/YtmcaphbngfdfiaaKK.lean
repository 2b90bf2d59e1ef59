/- Texts put together: WSv1, WSv2, WSv3. -/
import Derived.Test.YtmcaphbngfdfiaaKJ
import Derived.Deep.RegionHeld3

/- Walks of the reference's evaluator: memory, fail, leaves. -/
namespace Go.Proofs.Ytmcaphbngfdfiaa
open Go.RowKit Plain

/-- what the reference's evaluator asks of memory -/
structure SvIn (w : World) (B bv n : Nat) (P : List Fn) (bp op : Nat) : Prop where
  prog : PrAt w B P bp op
  blow : B ≤ bv
  lt : bv < w.heap.size
  ok : progOk P = true
  n0 : 1 ≤ n
  n1 : n ≤ 13
theorem SvIn.only {w w' : World} {B bv n : Nat} {P : List Fn} {bp op : Nat} (h : SvIn w B bv n P bp op) (ho : Only (fun q => q = bv) w w') : SvIn w' B bv n P bp op :=
  ⟨h.prog.below (only_below ho h.blow h.lt), h.blow, Nat.lt_of_lt_of_le h.lt ho.size, h.ok, h.n0, h.n1⟩
abbrev hdS (n bp op : Nat) : List Value := [ptr bp op, .int .i64 n]
/-- what an evaluation of a node asks -/
structure SdIn (w : World) (B bv n : Nat) (P : List Fn) (fn : Int) (x : Nd) (b o : Nat) (A : Option Addr) (env : List (List Int)) (ecap : Nat) : Prop where
  node : ElAt w B x.k x.n x.p x.c x.ks b o
  envA : EnvAt w bv n A env
  el : env.length ≤ ecap
  em : ecap ≤ maxLen
  big : env.length + x.ks.depth ≤ 1000000
  size : x.ks.size ≤ 400
  form : formed P fn env.length x = true
  f0 : 0 ≤ fn
  f1 : fn ≤ P.length
/-- the code behind a failure -/
def failC (c0 code : Int) : Int := if c0 = 0 then code else c0
/-- the world behind the first steps -/
abbrev svW (w : World) (bv s : Nat) : World := w.setCell ⟨bv, 2, none⟩ (.int .i64 ((s : Int) + 1))
end Go.Proofs.Ytmcaphbngfdfiaa

/- Walks of the reference's evaluator: conditions and operations. -/
namespace Go.Proofs.Ytmcaphbngfdfiaa
open Go.RowKit Plain

theorem SdIn.kid {w w' : World} {B bv n : Nat} {P : List Fn} {fn : Int} {x y : Nd} {b o bk ok : Nat} {A : Option Addr} {env : List (List Int)} {ecap j : Nat} (h : SdIn w B bv n P fn x b o A env ecap) (ho : Only (fun q => q = bv) w w')
    (hy : x.ks.get? j = some y) (hk : x.k ≠ 9 ∨ j ≠ 1) (hE : ElAt w' B y.k y.n y.p y.c y.ks bk ok) : SdIn w' B bv n P fn y bk ok A env ecap := by
  have hf := formed_kids h.form hy
  have hkv : kidVars x.k env.length j = env.length := by
    rcases hk with hk | hk
    · exact kidVars_ne hk
    · exact kidVars_no hk
  rw [hkv] at hf
  have hd := Es.get?_depth hy
  have hs := Es.get?_size hy
  exact ⟨hE, h.envA.only ho, h.el, h.em, by have := h.big; omega, by have := h.size; omega, hf, h.f0, h.f1⟩
/-- a node with its kids -/
theorem SdIn.parts {w : World} {B bv n : Nat} {P : List Fn} {fn : Int} {x : Nd} {b o : Nat} {A : Option Addr} {env : List (List Int)} {ecap : Nat} (h : SdIn w B bv n P fn x b o A env ecap) : ∃ K cap bk ok, b < B ∧ w.cell? ⟨b, o, none⟩ = some (.int .i64 x.k) ∧ w.cell? ⟨b, o + 1, none⟩ = some (.int .i64 x.n) ∧ w.cell? ⟨b, o + 2, none⟩ = some (.int .i64 x.p) ∧ w.cell? ⟨b, o + 3, none⟩ = some (.int .i64 x.c) ∧
    w.cell? ⟨b, o + 4, none⟩ = some (.slice K x.ks.len cap) ∧ cap ≤ 9223372036854775807 ∧ x.ks.len ≤ cap ∧ (0 < x.ks.len → K = some ⟨bk, ok, none⟩) ∧ ∀ i y, x.ks.get? i = some y → ElAt w B y.k y.n y.p y.c y.ks bk (ok + i * 5) := by
  obtain ⟨hb, h0, h1, h2, h3, K, cap, b', o', h4, hc, hm, hK, hk⟩ := h.node
  exact ⟨K, cap, b', o', hb, h0, h1, h2, h3, h4, by unfold maxLen at hm; omega, hc, hK, fun i y hy => hk.get hy⟩
theorem evAll_one {ks : Es} {a : Nd} (hl : ks.len = 1) (ha : ks.get? 0 = some a) : ks = .cons a.k a.n a.p a.c a.ks .nil := by
  cases ks with
  | nil => simp [Es.len] at hl
  | cons k n p c ks' r =>
    simp only [Es.len] at hl
    have := Es.len0 (es := r) (by omega)
    subst this
    simp only [Es.get?, Option.some.injEq] at ha
    subst ha
    rfl
theorem kids_two {ks : Es} {a b : Nd} (hl : ks.len = 2) (ha : ks.get? 0 = some a) (hb : ks.get? 1 = some b) : ks = .cons a.k a.n a.p a.c a.ks (.cons b.k b.n b.p b.c b.ks .nil) := by
  cases ks with
  | nil => simp [Es.len] at hl
  | cons k n p c ks' r =>
    simp only [Es.len] at hl
    simp only [Es.get?, Option.some.injEq] at ha
    subst ha
    cases r with
    | nil => simp [Es.len] at hl
    | cons k2 n2 p2 c2 ks2 r2 =>
      simp only [Es.len] at hl
      have := Es.len0 (es := r2) (by omega)
      subst this
      simp only [Es.get?, Option.some.injEq] at hb
      subst hb
      rfl
end Go.Proofs.Ytmcaphbngfdfiaa

/- Walks of the reference's evaluator: l02Env, let. -/
namespace Go.Proofs.Ytmcaphbngfdfiaa
open Go.RowKit Plain

theorem take_get {α : Type} (l : List α) (k : Nat) (h : k < l.length) : l.take (k + 1) = l.take k ++ [l[k]] := take_snoc' l k _ (List.getElem?_eq_getElem h)
/-- one series more in an own row, as a step of a loop -/
theorem rowStep {w w1 w2 : World} {bv n k cp : Nat} {Av : Option Addr} {u v2 : Value} {zss : List (List Int)} {zs : List Int} {t : TypeId} (h : RowsRow w1 w.heap.size bv n (.slice Av k cp) zss) (hk : zss.length = k) (hu : RowV w1 bv n u zs) (vs : List Value)
    (hvs : w1.ownsRow w.heap.size 65 1 (.slice Av k cp) k vs ∧ ∀ (i : Nat) zs, zss[i]? = some zs → ∃ u, vs[i]? = some u ∧ RowV w1 bv n u zs)
    (hown : w2.ownsRow w.heap.size 65 1 v2 (k + 1) (vs ++ [u])) (hg : (w1.alloc (.cells #[u] t)).grownBy w2 (Value.slice Av k cp).ownBlock) (hb : bv < w.heap.size) (hB : Below w.heap.size w w1) :
    (∃ A2 c2, v2 = .slice A2 (k + 1) c2) ∧ RowsRow w2 w.heap.size bv n v2 (zss ++ [zs]) ∧ Below w.heap.size w w2 := by
  obtain ⟨q1, q2, q3, q4⟩ := RowsRow.push h hk hu vs hvs hown hg hb (by have := hB.size; omega)
  refine ⟨q1, q2, hB.trans ⟨q3.os, q3.tape, q3.output, q3.size, fun i hi => ?_⟩⟩
  by_cases e : i = bv
  · subst e; exact q4
  · exact q3.block i (by have := hB.size; omega) (by omega)

end Go.Proofs.Ytmcaphbngfdfiaa
