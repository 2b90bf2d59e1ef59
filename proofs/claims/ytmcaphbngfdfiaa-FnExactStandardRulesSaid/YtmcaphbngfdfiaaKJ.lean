/- Texts put together: WEv5, WEv6, WEv7, WEv8, WEv9. -/
import Derived.Test.YtmcaphbngfdfiaaKI
import Derived.Deep.RegionHeld3
import Derived.Deep.RegionLawGrows
import Derived.StillTailTactics

/- Walks of the program's evaluator: let. -/
namespace Go.Proofs.Ytmcaphbngfdfiaa
open Go.RowKit Plain

theorem EnvAt.olds {w : World} {bv n : Nat} {A : Option Addr} {env : List (List Int)} (h : EnvAt w bv n A env) : ∃ olds : List Value, olds.length = env.length ∧ (∀ b, A = some b → ∀ (j : Nat) u, olds[j]? = some u → w.cell? (b.add j) = some u) ∧ ∀ (j : Nat) zs, env[j]? = some zs → ∃ u, olds[j]? = some u ∧ RowV w bv n u zs := by
  obtain ⟨l, hl, hq⟩ := list_of env.length (fun j u => ∃ b o, A = some ⟨b, o, none⟩ ∧ w.cell? ⟨b, o + j, none⟩ = some u ∧ ∀ zs, env[j]? = some zs → RowV w bv n u zs) fun i hi => by
    obtain ⟨b, o, e, _, _, hc⟩ := h (by omega)
    obtain ⟨v, h1, h2⟩ := hc i _ (List.getElem?_eq_getElem hi)
    exact ⟨v, b, o, e, h1, fun zs hz => by rw [List.getElem?_eq_getElem hi] at hz; simp at hz; subst hz; exact h2⟩
  refine ⟨l, hl, fun b hb j u hu => ?_, fun j zs hz => ?_⟩
  · obtain ⟨b', o', e, h1, _⟩ := hq j u hu
    rw [hb] at e
    simp at e
    subst e
    rw [addr_add]; exact h1
  · have hj : j < l.length := by have := (List.getElem?_eq_some_iff.1 hz).1; omega
    obtain ⟨_, _, _, _, h3⟩ := hq j _ (List.getElem?_eq_getElem hj)
    exact ⟨l[j], List.getElem?_eq_getElem hj, h3 zs hz⟩
theorem EnvAt.nil0 {w : World} {bv n : Nat} {A : Option Addr} {env : List (List Int)} (h : EnvAt w bv n A env) (hA : A = none) : env.length = 0 := by
  rcases Nat.eq_zero_or_pos env.length with h0 | h0
  · exact h0
  · obtain ⟨b, o, e, _⟩ := h h0
    rw [hA] at e; cases e
/-- one more series in a new row -/
theorem EnvAt.more {w w2 : World} {bv n : Nat} {env : List (List Int)} {olds : List Value} {u v2 : Value} {zs : List Int} (h0 : olds.length = env.length) (h2 : ∀ (j : Nat) zs, env[j]? = some zs → ∃ u, olds[j]? = some u ∧ RowV w bv n u zs) (hu : RowV w bv n u zs) (hown : w2.ownsRow w.heap.size 65 1 v2 (env.length + 1) (olds ++ [u])) (hg : w.grownBy w2 none) (hb : bv < w.heap.size) :
    ∃ A2 c2, v2 = .slice A2 (env.length + 1) c2 ∧ env.length + 1 ≤ c2 ∧ c2 ≤ maxLen ∧ EnvAt w2 bv n A2 (env ++ [zs]) ∧ Only (fun q => q = bv) w w2 := by
  have ho : Only (fun q => q = bv) w w2 := ⟨hg.os, hg.tape, hg.output, hg.size, fun k hk _ => hg.block k hk (by simp)⟩
  obtain ⟨g, c, hv, _⟩ := World.ownsRow.form hown (by omega)
  subst hv
  have hr : RowsRow w2 w.heap.size bv n (.slice (some ⟨g, 0, none⟩) (env.length + 1) c) (env ++ [zs]) := ⟨olds ++ [u], by rw [List.length_append]; exact hown, fun i zs' hz => by
    by_cases hi : i < env.length
    · rw [List.getElem?_append_left hi] at hz
      obtain ⟨u', q1, q2⟩ := h2 i zs' hz
      exact ⟨u', by rw [List.getElem?_append_left (by omega)]; exact q1, q2.only ho⟩
    · have hlt := (List.getElem?_eq_some_iff.1 hz).1
      simp at hlt
      have hik : i = env.length := by omega
      subst hik
      rw [List.getElem?_append_right (by omega)] at hz
      simp at hz
      subst hz
      exact ⟨u, by rw [List.getElem?_append_right (by omega), h0]; simp, hu.only ho⟩⟩
  obtain ⟨q1, q2, q3⟩ := hr.env (by simp) hb
  exact ⟨_, c, rfl, q1, q2, q3, ho⟩

/-- the cells that a let's statement reads -/
theorem letKeep {w w' : World} {bv g bk o0 o1 : Nat} {v4 a0 a1 a2 a3 a4 b0 b1 b2 b3 b4 : Value} (h : w.cell? ⟨g, 4, none⟩ = some v4 ∧ w.cell? ⟨bk, o0, none⟩ = some a0 ∧ w.cell? ⟨bk, o0 + 1, none⟩ = some a1 ∧ w.cell? ⟨bk, o0 + 2, none⟩ = some a2 ∧ w.cell? ⟨bk, o0 + 3, none⟩ = some a3 ∧ w.cell? ⟨bk, o0 + 4, none⟩ = some a4 ∧
      w.cell? ⟨bk, o1, none⟩ = some b0 ∧ w.cell? ⟨bk, o1 + 1, none⟩ = some b1 ∧ w.cell? ⟨bk, o1 + 2, none⟩ = some b2 ∧ w.cell? ⟨bk, o1 + 3, none⟩ = some b3 ∧ w.cell? ⟨bk, o1 + 4, none⟩ = some b4)
    (ho : Only (fun q => q = bv) w w') (hg : g < w.heap.size) (hgn : g ≠ bv) (hk : bk < w.heap.size) (hkn : bk ≠ bv) :
    w'.cell? ⟨g, 4, none⟩ = some v4 ∧ w'.cell? ⟨bk, o0, none⟩ = some a0 ∧ w'.cell? ⟨bk, o0 + 1, none⟩ = some a1 ∧ w'.cell? ⟨bk, o0 + 2, none⟩ = some a2 ∧ w'.cell? ⟨bk, o0 + 3, none⟩ = some a3 ∧ w'.cell? ⟨bk, o0 + 4, none⟩ = some a4 ∧
      w'.cell? ⟨bk, o1, none⟩ = some b0 ∧ w'.cell? ⟨bk, o1 + 1, none⟩ = some b1 ∧ w'.cell? ⟨bk, o1 + 2, none⟩ = some b2 ∧ w'.cell? ⟨bk, o1 + 3, none⟩ = some b3 ∧ w'.cell? ⟨bk, o1 + 4, none⟩ = some b4 := by
  obtain ⟨h0, h1, h2, h3, h4, h5, h6, h7, h8, h9, h10⟩ := h
  exact ⟨(ho.cell (a := ⟨g, _, none⟩) hg hgn).trans h0, (ho.cell (a := ⟨bk, _, none⟩) hk hkn).trans h1, (ho.cell (a := ⟨bk, _, none⟩) hk hkn).trans h2, (ho.cell (a := ⟨bk, _, none⟩) hk hkn).trans h3, (ho.cell (a := ⟨bk, _, none⟩) hk hkn).trans h4, (ho.cell (a := ⟨bk, _, none⟩) hk hkn).trans h5,
    (ho.cell (a := ⟨bk, _, none⟩) hk hkn).trans h6, (ho.cell (a := ⟨bk, _, none⟩) hk hkn).trans h7, (ho.cell (a := ⟨bk, _, none⟩) hk hkn).trans h8, (ho.cell (a := ⟨bk, _, none⟩) hk hkn).trans h9, (ho.cell (a := ⟨bk, _, none⟩) hk hkn).trans h10⟩
theorem formed_op9 {P : List Fn} {fn vars : Int} {x : Nd} (h : formed P fn vars x = true) (hk : x.k = 9) : x.ks.len = 2 := by
  unfold formed at h
  rw [Bool.and_eq_true, hk, nodeOk_op (N := 2) (.inl ⟨.inr (.inr (.inr (.inr rfl))), rfl⟩)] at h
  simp only [Bool.and_eq_true, beq_iff_eq] at h
  exact h.1.2.2

/-- the first value of a let is there: what the append asks -/
structure LetMid (w1 : World) (bv n : Nat) (A : Option Addr) (env : List (List Int)) (u : Value) (zs : List Int) (olds : List Value) (t : TypeId) : Prop where
  len : olds.length = env.length
  holds : ∀ b, A = some b → ∀ (j : Nat) v, olds[j]? = some v → (w1.alloc (.cells #[u] t)).cell? (b.add j) = some v
  rows : ∀ (j : Nat) zs, env[j]? = some zs → ∃ v, olds[j]? = some v ∧ RowV (w1.alloc (.cells #[u] t)) bv n v zs
  news : ∀ (j : Nat) v, [u][j]? = some v → (w1.alloc (.cells #[u] t)).cell? ((Addr.mk w1.heap.size 0 none).add j) = some v
  val : RowV (w1.alloc (.cells #[u] t)) bv n u zs
theorem letMid {w1 : World} {bv n : Nat} {A : Option Addr} {env : List (List Int)} {u : Value} {zs : List Int} (t : TypeId) (he : EnvAt w1 bv n A env) (hu : RowV w1 bv n u zs) : ∃ olds, LetMid w1 bv n A env u zs olds t := by
  have hg : Below w1.heap.size w1 (w1.alloc (.cells #[u] t)) := by go_grown
  obtain ⟨olds, h1, h2, h3⟩ := (he.only (Only.of_below hg)).olds
  refine ⟨olds, h1, h2, fun j zs hz => ?_, fun j v hj => ?_, hu.below hg⟩
  · obtain ⟨u', q1, q2⟩ := h3 j zs hz
    exact ⟨u', q1, q2⟩
  · have hc : Cells (w1.alloc (.cells #[u] t)) w1.heap.size t [u] := Cells.new w1 _ _
    rw [addr_add, Nat.zero_add]
    exact (hc.cell j).trans hj
theorem letMore {W w1 w2 : World} {bv n : Nat} {A : Option Addr} {env : List (List Int)} {u v2 : Value} {zs : List Int} {olds : List Value} {t te : TypeId} {C : List Value} (hm : LetMid w1 bv n A env u zs olds t) (hown : w2.ownsRow (w1.alloc (.cells #[u] t)).heap.size 65 1 v2 (env.length + 1) (olds ++ [u])) (hg : (w1.alloc (.cells #[u] t)).grownBy w2 none) (hO1 : Only (fun q => q = bv) W w1) (hb : bv < W.heap.size) (hC : Cells w1 bv te C) :
    ∃ A2 c2, v2 = .slice A2 (env.length + 1) c2 ∧ env.length + 1 ≤ c2 ∧ c2 ≤ maxLen ∧ EnvAt w2 bv n A2 (env ++ [zs]) ∧ Only (fun q => q = bv) W w2 ∧ Cells w2 bv te C := by
  have hgr : Below w1.heap.size w1 (w1.alloc (.cells #[u] t)) := by go_grown
  obtain ⟨A2, c2, h1, h2, h3, h4, h5⟩ := EnvAt.more hm.len hm.rows hm.val hown hg (by have := hO1.size; simp; omega)
  refine ⟨A2, c2, h1, h2, h3, h4, (hO1.trans (Only.of_below hgr)).trans h5, ?_⟩
  have hb2 : Below (w1.alloc (.cells #[u] t)).heap.size (w1.alloc (.cells #[u] t)) w2 := ⟨hg.os, hg.tape, hg.output, hg.size, fun k hk => hg.block k hk (by simp)⟩
  exact (hC.next hgr).next hb2

end Go.Proofs.Ytmcaphbngfdfiaa

/- Walks of the program's evaluator: operations of one and two kids. -/
namespace Go.Proofs.Ytmcaphbngfdfiaa
open Go.RowKit Plain

/-- what an operation on series comes to -/
def OPost (bv n : Nat) (zs : List Int) (w : World) (e : Ending) (w' : World) : Prop := ∃ A cp, e = .returned (.slice A n cp) ∧ RowV w' bv n (.slice A n cp) zs ∧ Below w.heap.size w w'
theorem OPost.of {bv n : Nat} {zs : List Int} {w : World} {e : Ending} {w' : World} (h : SPost zs w e w') (hl : zs.length = n) (hs : IsS zs) (hb : bv < w.heap.size) : OPost bv n zs w e w' := by
  obtain ⟨A, cp, h1, h2, h3⟩ := h
  exact ⟨A, cp, by rw [← hl]; exact h1, ⟨A, cp, rfl, hl, h2.isAt hb, hs⟩, h3⟩
structure SAt (w : World) (bv n : Nat) (A : Option Addr) (a : List Int) : Prop where
  len : a.length = n
  isAt : IsAt w bv A a
  isS : IsS a
theorem SAt.only {w w' : World} {bv n : Nat} {A : Option Addr} {a : List Int} (h : SAt w bv n A a) (ho : Only (fun q => q = bv) w w') : SAt w' bv n A a := ⟨h.len, h.isAt.only ho, h.isS⟩
theorem LsIn.of {w w' : World} {B bv n : Nat} {P : List Fn} {fn : Int} {x : Nd} {K : Option Addr} {cap : Nat} {A : Option Addr} {env : List (List Int)} {ecap : Nat} (h : NdIn w B bv n P fn x K cap A env ecap) (ho : Only (fun q => q = bv) w w') (hB : B ≤ bv) (hl : bv < w.heap.size) (hk : x.k ≠ 9) : LsIn w' B bv n P fn x.ks K cap A env ecap :=
  ⟨h.kids.below (only_below ho hB hl), h.kl, h.km, h.envA.only ho, h.el, h.em, h.big, h.size, fun j y hy => by have := formed_kids h.form hy; rwa [kidVars_ne hk] at this, h.f0, h.f1⟩
theorem formed_opN {P : List Fn} {fn vars : Int} {x : Nd} {N : Nat} (h : formed P fn vars x = true) (hN : opN x.k N) : x.ks.len = N := by
  unfold formed at h
  rw [Bool.and_eq_true, nodeOk_op hN] at h
  simp only [Bool.and_eq_true, beq_iff_eq] at h
  exact h.1.2.2
theorem EnvAt.sat {w : World} {bv n : Nat} {A : Option Addr} {env : List (List Int)} (h : EnvAt w bv n A env) {j : Nat} (hj : j < env.length) : ∃ b o A' cap, A = some ⟨b, o, none⟩ ∧ b < w.heap.size ∧ b ≠ bv ∧ w.cell? ⟨b, o + j, none⟩ = some (.slice A' n cap) ∧ SAt w bv n A' (env.getD j []) := by
  obtain ⟨b, o, A', cap, h1, h2, h3, h4, h5, h6, h7⟩ := h.get (List.getElem?_eq_getElem hj)
  have e : env.getD j [] = env[j] := by simp [List.getD, hj]
  exact ⟨b, o, A', cap, h1, h2, h3, h4, by rw [e]; exact ⟨h5, h6, h7⟩⟩
end Go.Proofs.Ytmcaphbngfdfiaa

/- Walks of the program's evaluator: calls. -/
namespace Go.Proofs.Ytmcaphbngfdfiaa
open Go.RowKit Plain

/-- what a right call is -/
structure CallIn (P : List Fn) (m pi : Nat) (c : Int) (ks : Es) (k : Int) (f : Fn) (y : Nd) : Prop where
  fn : P[m]? = some f
  par : (ks.len : Int) = f.params
  out : f.outs.get? pi = some y
  p12 : ks.len ≤ 12
  o12 : f.outs.len ≤ 12
  size : f.outs.size ≤ 400
  each : ∀ j z, f.outs.get? j = some z → formed P m ks.len z = true ∧ z.ks.size ≤ 399 ∧ z.ks.depth ≤ 59
  dep : f.outs.depth ≤ 60
  loop : k = 11 → 0 ≤ c ∧ c ≤ 8 ∧ f.outs.len = ks.len
  one : k = 10 → c = 0
theorem depth_of {es : Es} {d : Nat} (h : ∀ j z, es.get? j = some z → z.ks.depth + 1 ≤ d) : es.depth ≤ d := by
  induction es with
  | nil => exact Nat.zero_le _
  | cons k n p c ks r _ ih =>
    simp only [Es.depth]
    have h1 := h 0 ⟨k, n, p, c, ks⟩ rfl
    have h2 := ih fun j z hz => h (j + 1) z hz
    simp only at h1
    omega
theorem callIn {P : List Fn} {fn vars : Int} {k n p c : Int} {ks : Es} (hok : progOk P = true) (h : formed P fn vars ⟨k, n, p, c, ks⟩ = true) (hk : k = 10 ∨ k = 11) (hfn : fn ≤ P.length) : ∃ (m pi : Nat) (f : Fn) (y : Nd), n = m ∧ p = pi ∧ (m : Int) < fn ∧ CallIn P m pi c ks k f y := by
  unfold formed at h
  rw [Bool.and_eq_true] at h
  have h1 := h.1
  simp only at h1
  have hn : inR n 0 (fn - 1) = true := by
    cases hh : inR n 0 (fn - 1)
    · rw [nodeOk_no hk hh] at h1; cases h1
    · rfl
  obtain ⟨n0, n1⟩ := inR_true.1 hn
  obtain ⟨m, rfl⟩ := Int.eq_ofNat_of_zero_le n0
  obtain ⟨f, hf⟩ : ∃ f, P[m]? = some f := ⟨P[m]'(by omega), List.getElem?_eq_getElem _⟩
  rw [nodeOk_call hk (show P[(m : Int).toNat]? = some f from hf) hn] at h1
  rw [Bool.and_eq_true, Bool.and_eq_true] at h1
  have hpar : (ks.len : Int) = f.params := of_decide_eq_true h1.1.1
  obtain ⟨p0, p1⟩ := inR_true.1 h1.1.2
  obtain ⟨pi, rfl⟩ := Int.eq_ofNat_of_zero_le p0
  obtain ⟨y, hy⟩ := Es.get?_some (show pi < f.outs.len by omega)
  have hfo := progOk_get hok hf
  unfold fnOk at hfo
  simp only [Bool.and_eq_true, decide_eq_true_eq] at hfo
  obtain ⟨⟨⟨⟨⟨_, _⟩, h12⟩, ho⟩, hex⟩, hsz⟩ := hfo
  have q1 := inR_true.1 h12
  have q2 := inR_true.1 ho
  have heach : ∀ j z, f.outs.get? j = some z → formed P m ks.len z = true ∧ z.ks.size ≤ 399 ∧ z.ks.depth ≤ 59 := fun j z hz => by
    have := exprsOk_get hex hz
    unfold exprOk at this
    simp only [Bool.and_eq_true, decide_eq_true_eq] at this
    rw [hpar]
    have a := this.1.1.2
    have b := this.1.2
    unfold Nd.size at a
    unfold Nd.depth at b
    exact ⟨this.2, by omega, by omega⟩
  refine ⟨m, pi, f, y, rfl, rfl, by omega, hf, hpar, hy, by omega, by omega, hsz, heach, depth_of fun j z hz => by have := (heach j z hz).2.2; omega, ?_, ?_⟩
  · rintro rfl
    have h2 := h1.2
    rw [if_neg (by omega), Bool.and_eq_true] at h2
    have q3 := inR_true.1 h2.2
    have q4 : (f.outs.len : Int) = f.params := of_decide_eq_true h2.1
    exact ⟨q3.1, q3.2, by omega⟩
  · rintro rfl
    have h2 := h1.2
    simpa using h2
/-- a function's output in memory -/
theorem outAt {w : World} {B : Nat} {P : List Fn} {PA : Option Addr} {m pi : Nat} {f : Fn} {y : Nd} (h : FnSl w B P PA) (hf : P[m]? = some f) (hy : f.outs.get? pi = some y) :
    ∃ bP oP KF cF bk ok, PA = some ⟨bP, oP, none⟩ ∧ bP < B ∧ w.cell? ⟨bP, oP + m * 3 + 2, none⟩ = some (.slice KF f.outs.len cF) ∧ f.outs.len ≤ cF ∧ cF ≤ maxLen ∧ KF = some ⟨bk, ok, none⟩ ∧ ExSl w B f.outs KF ∧ ElAt w B y.k y.n y.p y.c y.ks bk (ok + pi * 5) := by
  obtain ⟨bP, oP, rfl, hb, _, _, _, KF, cF, g2, hc, hm, hk⟩ := h.get hf
  obtain ⟨bk, ok, rfl, he⟩ := hk.get hy
  exact ⟨bP, oP, _, cF, bk, ok, rfl, hb, g2, hc, hm, rfl, hk, he⟩

end Go.Proofs.Ytmcaphbngfdfiaa

/- Walks of the program's evaluator: loops. -/
namespace Go.Proofs.Ytmcaphbngfdfiaa
open Go.RowKit Plain

/-- one of the values -/
def pickR (pi : Nat) : Res (List (List Int)) → Res (List Int)
  | .err e => .err e
  | .ok ws s2 => .ok (ws.getD pi []) s2
/-- what a state between two rounds says of the end -/
def LoopR (n : Nat) (P : List Fn) (f : Nat) (outs : Es) (R : Res (List (List Int))) (q : Nat) (zs : List (List Int)) (s' c' : Int) : Prop :=
  (c' = 0 → ∃ t1 : Nat, s' = t1 ∧ t1 ≤ 3000 ∧ 3001 ≤ t1 + f ∧ R = evLoop (ev (ops n) P f) outs q zs t1) ∧ (c' ≠ 0 → R = .err c')
theorem LoopR.step {n : Nat} {P : List Fn} {f : Nat} {outs : Es} {R : Res (List (List Int))} {q : Nat} {zs zs' : List (List Int)} {s s' c' : Int} (h : LoopR n P f outs R (q + 1) zs s 0) (hr : ResIs (evAC n P f 0 outs zs s.toNat) zs' s' c') : LoopR n P f outs R q zs' s' c' := by
  obtain ⟨t0, rfl, a1, a2, a3⟩ := h.1 rfl
  constructor
  · intro hc
    obtain ⟨_, t1, rfl, h1, h2, h3⟩ := evAC_next hr hc
    simp only [Int.toNat_natCast] at h1 h2 h3
    refine ⟨t1, rfl, h2 a1, by omega, ?_⟩
    rw [a3]
    simp only [evLoop]
    rw [h3]
  · intro hc
    have hb := evAC_bad hr hc rfl
    simp only [Int.toNat_natCast] at hb
    rw [a3]
    simp only [evLoop]
    rw [hb]
theorem LoopR.now {n : Nat} {P : List Fn} {f : Nat} {outs : Es} {R : Res (List (List Int))} {q : Nat} {zs : List (List Int)} {s c : Int} (h : LoopR n P f outs R q zs s c) : c = 0 → s = (s.toNat : Int) ∧ s.toNat ≤ 3000 ∧ 3001 ≤ s.toNat + f := fun hc => by
  obtain ⟨t, rfl, h1, h2, _⟩ := h.1 hc
  simp only [Int.toNat_natCast]
  exact ⟨trivial, h1, h2⟩
theorem loopEnd {w wr : World} {bv n cp pi q f : Nat} {t : TypeId} {hd : List Value} {A' : Option Addr} {zs : List (List Int)} {s' c' : Int} {P : List Fn} {outs : Es} {R : Res (List (List Int))} {rr : Res (List Int)} (hO : Only (fun q => q = bv) w wr) (hS : Cells wr bv t (hd ++ [.int .i64 s', .int .i64 c'])) (hrow : SAt wr bv n A' (zs.getD pi []))
    (hL : LoopR n P f outs R q zs s' c') (hq : c' = 0 → q = 0) (hrr : rr = pickR pi R) : VPost bv n t hd rr w (.returned (.slice A' n cp)) wr := by
  refine ⟨_, zs.getD pi [], s', c', rfl, ⟨A', cp, rfl, hrow.len, hrow.isAt, hrow.isS⟩, hS, hO, ?_⟩
  by_cases hc : c' = 0
  · obtain ⟨t1, rfl, _, _, h3⟩ := hL.1 hc
    rw [hq hc] at h3
    simp only [evLoop] at h3
    rw [hrr, h3]
    exact ⟨rfl, rfl, hc⟩
  · rw [hrr, hL.2 hc]; rfl

end Go.Proofs.Ytmcaphbngfdfiaa

/- The program's evaluator, whole. -/
namespace Go.Proofs.Ytmcaphbngfdfiaa
open Go.RowKit Plain

theorem formed_kinds {P : List Fn} {fn vars : Int} {x : Nd} (h : formed P fn vars x = true) : 1 ≤ x.k ∧ x.k ≤ 11 := by
  unfold formed at h
  rw [Bool.and_eq_true] at h
  by_cases hr : x.k < 1 ∨ 11 < x.k
  · rw [nodeOk_none hr] at h; cases h.1
  · omega
end Go.Proofs.Ytmcaphbngfdfiaa
