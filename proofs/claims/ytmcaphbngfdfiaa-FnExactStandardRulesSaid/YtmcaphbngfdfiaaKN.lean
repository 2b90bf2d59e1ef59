/- Texts put together: WEval1, WEval2, WEval3, WEval4. -/
import Derived.Test.YtmcaphbngfdfiaaKM
import Derived.WalkSpells

/- Walks: singles and firsts of the program. -/
namespace Go.Proofs.Ytmcaphbngfdfiaa
open Go.RowKit Plain

theorem EnvAt.rebase {w : World} {bv bv' n : Nat} {A : Option Addr} {env : List (List Int)} (h : EnvAt w bv n A env) (hb : w.heap.size ≤ bv') : EnvAt w bv' n A env := fun hn => by
  obtain ⟨b, o, e, hl, _, hc⟩ := h hn
  refine ⟨b, o, e, hl, by omega, fun j zs hz => ?_⟩
  obtain ⟨v, h1, A', cap, h2, h3, h4, h5⟩ := hc j zs hz
  exact ⟨v, h1, A', cap, h2, h3, fun h0 => by
    obtain ⟨b2, o2, e2, q1, _, q3, q4⟩ := h4 h0
    exact ⟨b2, o2, e2, q1, by omega, q3, q4⟩, h5⟩
/-- numbers as series of one number -/
def ones (zs : List Int) : List (List Int) := zs.map fun x => [x]
theorem isS_one {x : Int} (h0 : 0 ≤ x) (h1 : x ≤ 1000002) : IsS [x] := fun k => by
  cases k with
  | zero => exact ⟨h0, h1⟩
  | succ k => rw [cf_big (by simp)]; omega
theorem oneRow {wr : World} {bv : Nat} {x : Int} (h0 : 0 ≤ x) (h1 : x ≤ 1000002) (hb : bv < wr.heap.size) : RowV (wr.alloc (.cells #[.int .i64 x] 2)) bv 1 (.slice (some ⟨wr.heap.size, 0, none⟩) 1 1) [x] := by
  have hc : Cells (wr.alloc (.cells #[.int .i64 x] 2)) wr.heap.size 2 ([x].map (Value.int .i64)) := Cells.new wr _ _
  exact ⟨_, _, rfl, rfl, (hc.intsT (Nat.le_refl _)).isAt hb, isS_one h0 h1⟩
/-- the rows of a prefix of numbers, one more -/
theorem onesStep {w wr w2 : World} {bv k cp : Nat} {Av : Option Addr} {zs : List Int} {v2 : Value} {t : TypeId} {x : Int} (hR : RowsRow wr w.heap.size bv 1 (.slice Av k cp) (ones (zs.take k))) (hk : k < zs.length) (hx : zs[k]? = some x) (h0 : 0 ≤ x) (h1 : x ≤ 1000002) (hB : Below w.heap.size w wr) (hb : bv < w.heap.size) (vs : List Value)
    (hvs : (wr.alloc (.cells #[.int .i64 x] 2)).ownsRow w.heap.size 65 1 (.slice Av k cp) k vs ∧ ∀ (i : Nat) z, (ones (zs.take k))[i]? = some z → ∃ u, vs[i]? = some u ∧ RowV (wr.alloc (.cells #[.int .i64 x] 2)) bv 1 u z)
    (hown : w2.ownsRow w.heap.size 65 1 v2 (k + 1) (vs ++ [.slice (some ⟨wr.heap.size, 0, none⟩) 1 1])) (hg : ((wr.alloc (.cells #[.int .i64 x] 2)).alloc (.cells #[.slice (some ⟨wr.heap.size, 0, none⟩) 1 1] t)).grownBy w2 (Value.slice Av k cp).ownBlock) :
    (∃ A2 c2, v2 = .slice A2 (k + 1) c2) ∧ RowsRow w2 w.heap.size bv 1 v2 (ones (zs.take (k + 1))) ∧ Below w.heap.size w w2 := by
  have hg1 : Below wr.heap.size wr (wr.alloc (.cells #[.int .i64 x] 2)) := by go_grown
  have hl : (ones (zs.take k)).length = k := by unfold ones; simp; omega
  have e : ones (zs.take (k + 1)) = ones (zs.take k) ++ [[x]] := by unfold ones; rw [take_snoc' zs k x hx, List.map_append]; rfl
  rw [e]
  exact rowStep (hR.only hb (Only.of_below hg1)) hl (oneRow h0 h1 (by have := hB.size; omega)) vs hvs hown hg hb (bnext hB hg1)
theorem onesVs {w wr : World} {bv k cp : Nat} {Av : Option Addr} {zs : List Int} (x : Int) (hR : RowsRow wr w.heap.size bv 1 (.slice Av k cp) (ones (zs.take k))) (hk : k ≤ zs.length) (hb : bv < w.heap.size) :
    ∃ vs, (wr.alloc (.cells #[.int .i64 x] 2)).ownsRow w.heap.size 65 1 (.slice Av k cp) k vs ∧ ∀ (i : Nat) z, (ones (zs.take k))[i]? = some z → ∃ u, vs[i]? = some u ∧ RowV (wr.alloc (.cells #[.int .i64 x] 2)) bv 1 u z := by
  have hg1 : Below wr.heap.size wr (wr.alloc (.cells #[.int .i64 x] 2)) := by go_grown
  obtain ⟨vs, h1, h2⟩ := hR.only hb (Only.of_below hg1)
  have hl : (ones (zs.take k)).length = k := by unfold ones; simp; omega
  rw [hl] at h1
  exact ⟨vs, h1, h2⟩

/-- the first numbers -/
def heads (env : List (List Int)) : List Int := mk env.length fun k => cf (env.getD k []) 0
end Go.Proofs.Ytmcaphbngfdfiaa

/- Walks: slices.Clone of a series; evaluated. -/
namespace Go.Proofs.Ytmcaphbngfdfiaa
open Go.RowKit Plain

/-- new rows, each in a block of its own -/
def NewRows (w : World) (B n : Nat) (v : Value) (zss : List (List Int)) : Prop :=
  ∃ (vs : List Value) (bs : List Nat), w.ownsRow B 65 1 v zss.length vs ∧ bs.length = zss.length ∧ bs.Pairwise (· < ·) ∧ (∀ b ∈ bs, B ≤ b ∧ b < w.heap.size) ∧
    ∀ (i : Nat) zs b, zss[i]? = some zs → bs[i]? = some b → ∃ cap, vs[i]? = some (.slice (some ⟨b, 0, none⟩) n cap) ∧ zs.length = n ∧ IsS zs ∧ Typed w b 2 ∧ ∀ (j : Nat) x, zs[j]? = some x → w.cell? ⟨b, j, none⟩ = some (.int .i64 x) ∧ w.frozen? ⟨b, j, none⟩ = false

end Go.Proofs.Ytmcaphbngfdfiaa

/- Walks: evaluated of the program. -/
namespace Go.Proofs.Ytmcaphbngfdfiaa
open Go.RowKit Plain

theorem NewRows.start (w : World) (n : Nat) : NewRows (w.alloc (.cells #[] 65)) w.heap.size n (.slice (some ⟨w.heap.size, 0, none⟩) 0 0) [] :=
  ⟨[], [], World.ownsRow_lit w #[] 0 (Nat.le_refl _) (by unfold maxLen; omega) (by rfl), rfl, List.Pairwise.nil, fun b h => by simp at h, fun i zs b h => by simp at h⟩
theorem NewRows.next {w w' : World} {B n : Nat} {v : Value} {zss : List (List Int)} (h : NewRows w B n v zss) (hb : Below w.heap.size w w') : NewRows w' B n v zss := by
  obtain ⟨vs, bs, h1, h2, h3, h4, h5⟩ := h
  refine ⟨vs, bs, ⟨h1.1, ?_⟩, h2, h3, fun b hm => ⟨(h4 b hm).1, Nat.lt_of_lt_of_le (h4 b hm).2 hb.size⟩, fun i zs b hz hbi => ?_⟩
  · rcases h1.2 with hn | ⟨g, cap, cur, rfl, hb', hgg, rest⟩
    · exact .inl hn
    · exact .inr ⟨g, cap, cur, rfl, hb', (hb.block g (Array.getElem?_eq_some_iff.1 hgg).1).trans hgg, rest⟩
  · have hbl := (h4 b (List.mem_of_getElem? hbi)).2
    obtain ⟨cap, q1, q2, q3, q4, q5⟩ := h5 i zs b hz hbi
    exact ⟨cap, q1, q2, q3, q4.keep (hb.block b hbl), fun j x hx => ⟨(hb.cell (p := ⟨b, j, none⟩) hbl).trans (q5 j x hx).1, (hb.frozen (p := ⟨b, j, none⟩) hbl).trans (q5 j x hx).2⟩⟩
/-- one row more: w1 is the world with the new series, made since wr -/
theorem NewRows.push {wr w1 w2 : World} {B n k cp cz g : Nat} {Av : Option Addr} {v2 : Value} {zss : List (List Int)} {zs : List Int} {t : TypeId} (h : NewRows wr B n (.slice Av k cp) zss) (hk : zss.length = k) (hb1 : Below wr.heap.size wr w1) (hB : B ≤ wr.heap.size)
    (hz : IntsT w1 wr.heap.size (some ⟨g, 0, none⟩) zs) (hzl : zs.length = n) (hzs : IsS zs) (hn : 1 ≤ n) (vs : List Value) (bs : List Nat)
    (hvs : w1.ownsRow B 65 1 (.slice Av k cp) k vs ∧ bs.length = k ∧ bs.Pairwise (· < ·) ∧ (∀ b ∈ bs, B ≤ b ∧ b < wr.heap.size) ∧
      ∀ (i : Nat) zs b, zss[i]? = some zs → bs[i]? = some b → ∃ cap, vs[i]? = some (.slice (some ⟨b, 0, none⟩) n cap) ∧ zs.length = n ∧ IsS zs ∧ Typed w1 b 2 ∧ ∀ (j : Nat) x, zs[j]? = some x → w1.cell? ⟨b, j, none⟩ = some (.int .i64 x) ∧ w1.frozen? ⟨b, j, none⟩ = false)
    (hown : w2.ownsRow B 65 1 v2 (k + 1) (vs ++ [.slice (some ⟨g, 0, none⟩) n cz])) (hg : (w1.alloc (.cells #[.slice (some ⟨g, 0, none⟩) n cz] t)).grownBy w2 (Value.slice Av k cp).ownBlock) :
    (∃ A2 c2, v2 = .slice A2 (k + 1) c2) ∧ NewRows w2 B n v2 (zss ++ [zs]) ∧ Below B wr w2 := by
  obtain ⟨o1, o2, o3, o4, o5⟩ := hvs
  obtain ⟨g', _, e1, z1, z2, z3, z4⟩ := hz (by omega)
  obtain ⟨rfl, rfl⟩ : g = g' ∧ 0 = _ := by simpa using e1
  have hgr : Below w1.heap.size w1 (w1.alloc (.cells #[.slice (some ⟨g, 0, none⟩) n cz] t)) := by go_grown
  have hty : ∀ q, (Value.slice Av k cp).ownBlock = some q → Typed (w1.alloc (.cells #[.slice (some ⟨g, 0, none⟩) n cz] t)) q 65 := fun q hq => own_typed (o1.alloc _) hq
  have hlen : vs.length = k := by have := o1.1; omega
  -- a series' block is as it was
  have keep : ∀ (b : Nat), b < w1.heap.size → Typed w1 b 2 → w2.heap[b]? = w1.heap[b]? := fun b hb ht => by
    have hne : some b ≠ (Value.slice Av k cp).ownBlock := fun e => (ht.keep (hgr.block b hb)).ne (hty b e.symm) (by decide) rfl
    exact (hg.block b (by simp; omega) hne).trans (hgr.block b hb)
  refine ⟨?_, ⟨vs ++ [.slice (some ⟨g, 0, none⟩) n cz], bs ++ [g], by rw [List.length_append, hk]; exact hown, by simp [o2, hk], ?_, ?_, ?_⟩, ?_⟩
  · obtain ⟨g2, c, hv, _⟩ := World.ownsRow.form hown (by omega)
    exact ⟨_, c, hv⟩
  · rw [List.pairwise_append]
    exact ⟨o3, List.pairwise_singleton _ _, fun a ha b hb => by simp at hb; subst hb; have := (o4 a ha).2; omega⟩
  · intro b hb
    have hs := hg.size
    simp at hs
    rcases List.mem_append.1 hb with h1 | h1
    · have := o4 b h1; have := hb1.size; omega
    · simp at h1; subst h1; omega
  · intro i zs' b hz' hbi
    by_cases hi : i < k
    · rw [List.getElem?_append_left (by omega)] at hz' hbi
      obtain ⟨cap, q1, q2, q3, q4, q5⟩ := o5 i zs' b hz' hbi
      have hbl : b < w1.heap.size := by have := (o4 b (List.mem_of_getElem? hbi)).2; have := hb1.size; omega
      have hk2 := keep b hbl q4
      exact ⟨cap, by rw [List.getElem?_append_left (by omega)]; exact q1, q2, q3, q4.keep hk2, fun j x hx => ⟨(World.cell?_of_block (a := ⟨b, j, none⟩) hk2).trans (q5 j x hx).1, (World.frozen?_of_block (a := ⟨b, j, none⟩) hk2).trans (q5 j x hx).2⟩⟩
    · have hlt := (List.getElem?_eq_some_iff.1 hz').1
      simp at hlt
      have hik : i = k := by omega
      subst hik
      rw [List.getElem?_append_right (by omega), hk] at hz'
      rw [List.getElem?_append_right (by omega), o2] at hbi
      simp at hz' hbi
      subst hz' hbi
      have hk2 := keep g z2 z3
      exact ⟨cz, by rw [List.getElem?_append_right (by omega), hlen]; simp, hzl, hzs, z3.keep hk2, fun j x hx => by
        have hj := z4 j x hx
        rw [Nat.zero_add] at hj
        exact ⟨(World.cell?_of_block (a := ⟨g, j, none⟩) hk2).trans hj.1, (World.frozen?_of_block (a := ⟨g, j, none⟩) hk2).trans hj.2⟩⟩
  · have hs := hg.size
    simp at hs
    refine ⟨hg.os.trans (hgr.os.trans hb1.os), hg.tape.trans (hgr.tape.trans hb1.tape), hg.output.trans (hgr.output.trans hb1.output), by have := hb1.size; omega, fun i hi => ?_⟩
    have hiw : i < w1.heap.size := by have := hb1.size; omega
    have h1 := hg.block i (by simp; omega) (fun e => by
      have := World.ownsRow.lt o1 i e.symm
      omega)
    exact h1.trans ((hgr.block i hiw).trans (hb1.block i (by omega)))
theorem NewRows.parts {w w1 : World} {B n k cp : Nat} {Av : Option Addr} {zss : List (List Int)} (h : NewRows w B n (.slice Av k cp) zss) (hk : zss.length = k) (hb : Below w.heap.size w w1) : ∃ (vs : List Value) (bs : List Nat), w1.ownsRow B 65 1 (.slice Av k cp) k vs ∧ bs.length = k ∧ bs.Pairwise (· < ·) ∧ (∀ b ∈ bs, B ≤ b ∧ b < w.heap.size) ∧
      ∀ (i : Nat) zs b, zss[i]? = some zs → bs[i]? = some b → ∃ cap, vs[i]? = some (.slice (some ⟨b, 0, none⟩) n cap) ∧ zs.length = n ∧ IsS zs ∧ Typed w1 b 2 ∧ ∀ (j : Nat) x, zs[j]? = some x → w1.cell? ⟨b, j, none⟩ = some (.int .i64 x) ∧ w1.frozen? ⟨b, j, none⟩ = false := by
  obtain ⟨vs, bs, h1, h2, h3, h4, h5⟩ := h
  obtain ⟨vs', bs', q1, q2, q3, _, q5⟩ := NewRows.next (w' := w1) ⟨vs, bs, h1, h2, h3, h4, h5⟩ hb
  subst hk
  exact ⟨vs, bs, (by
    refine ⟨h1.1, ?_⟩
    rcases h1.2 with hn | ⟨g, cap, cur, hv, hb', hgg, rest⟩
    · exact .inl hn
    · exact .inr ⟨g, cap, cur, hv, hb', (hb.block g (Array.getElem?_eq_some_iff.1 hgg).1).trans hgg, rest⟩), h2, h3, h4, fun i zs b hz hbi => by
    have hbl := (h4 b (List.mem_of_getElem? hbi)).2
    obtain ⟨cap, a1, a2, a3, a4, a5⟩ := h5 i zs b hz hbi
    exact ⟨cap, a1, a2, a3, a4.keep (hb.block b hbl), fun j x hx => ⟨(hb.cell (p := ⟨b, j, none⟩) hbl).trans (a5 j x hx).1, (hb.frozen (p := ⟨b, j, none⟩) hbl).trans (a5 j x hx).2⟩⟩⟩
theorem NewRows.env {w : World} {B bv n cp : Nat} {A : Option Addr} {zss : List (List Int)} (h : NewRows w B n (.slice A zss.length cp) zss) (hb : bv < B) : EnvAt w bv n A zss := by
  obtain ⟨vs, bs, h1, h2, h3, h4, h5⟩ := h
  refine (RowsRow.env (cp := cp) (base := B) ⟨vs, h1, fun i zs hz => ?_⟩ rfl hb).2.2
  have hi : i < bs.length := by have := (List.getElem?_eq_some_iff.1 hz).1; omega
  obtain ⟨cap, q1, q2, q3, q4, q5⟩ := h5 i zs bs[i] hz (List.getElem?_eq_getElem hi)
  have hm := h4 bs[i] (List.getElem_mem hi)
  exact ⟨_, q1, some ⟨bs[i], 0, none⟩, cap, rfl, q2, fun h0 => ⟨bs[i], 0, rfl, hm.2, by omega, q4, fun j x hx => by rw [Nat.zero_add]; exact (q5 j x hx).1⟩, q3⟩

end Go.Proofs.Ytmcaphbngfdfiaa

/- Walks: evaluated of the program. -/
namespace Go.Proofs.Ytmcaphbngfdfiaa
open Go.RowKit Plain

/-- the values of a function -/
def evalR (n : Nat) (P : List Fn) (outs : Es) (args : List (List Int)) : Res (List (List Int)) := evAll (ev (ops n) P 3001) args outs 0
/-- what evaluated comes to -/
def EvalPost (n : Nat) (R : Res (List (List Int))) (w : World) (e : Ending) (w' : World) : Prop :=
  Below w.heap.size w w' ∧ match R with
    | .err c => e = .returned (.tuple #[.slice none 0 0, .int .i64 0, .int .i64 c])
    | .ok zs t => ∃ Ao cp, e = .returned (.tuple #[.slice Ao zs.length cp, .int .i64 t, .int .i64 0]) ∧ NewRows w' w.heap.size n (.slice Ao zs.length cp) zs
/-- a function that may be evaluated -/
structure FnIn (P : List Fn) (m : Nat) (g : Fn) : Prop where
  fn : P[m]? = some g
  p0 : 0 ≤ g.params
  p12 : g.params ≤ 12
  o12 : g.outs.len ≤ 12
  size : g.outs.size ≤ 400
  each : ∀ j z, g.outs.get? j = some z → formed P m g.params z = true ∧ z.ks.size ≤ 399 ∧ z.ks.depth ≤ 59
  dep : g.outs.depth ≤ 60
theorem fnIn {P : List Fn} {m : Nat} {g : Fn} (hok : progOk P = true) (hf : P[m]? = some g) : FnIn P m g := by
  have hfo := progOk_get hok hf
  unfold fnOk at hfo
  simp only [Bool.and_eq_true, decide_eq_true_eq] at hfo
  obtain ⟨⟨⟨⟨⟨_, _⟩, h12⟩, ho⟩, hex⟩, hsz⟩ := hfo
  have q1 := inR_true.1 h12
  have q2 := inR_true.1 ho
  have heach : ∀ j z, g.outs.get? j = some z → formed P m g.params z = true ∧ z.ks.size ≤ 399 ∧ z.ks.depth ≤ 59 := fun j z hz => by
    have := exprsOk_get hex hz
    unfold exprOk at this
    simp only [Bool.and_eq_true, decide_eq_true_eq] at this
    have a := this.1.1.2
    have b := this.1.2
    unfold Nd.size at a
    unfold Nd.depth at b
    exact ⟨this.2, by omega, by omega⟩
  exact ⟨hf, q1.1, q1.2, by omega, hsz, heach, depth_of fun j z hz => by have := (heach j z hz).2.2; omega⟩
theorem FnIn.ls {P : List Fn} {m : Nat} {g : Fn} (h : FnIn P m g) {w : World} {B bv n : Nat} {KF A : Option Addr} {cF ecap : Nat} {args : List (List Int)} (hk : ExSl w B g.outs KF) (hc : g.outs.len ≤ cF) (hm : cF ≤ maxLen) (hE : EnvAt w bv n A args) (hl : (args.length : Int) = g.params) (he : args.length ≤ ecap) (hem : ecap ≤ maxLen) (hp : m ≤ P.length) : LsIn w B bv n P m g.outs KF cF A args ecap := by
  have := h.p12
  have := h.dep
  exact ⟨hk, hc, hm, hE, he, hem, by omega, h.size, fun j y hy => by rw [hl]; exact (h.each j y hy).1, by omega, by omega⟩

theorem belowDrewN {k : Nat} {w w' : World} (h : Below k w w') (n : Nat) : Below k w (w'.drewN n) := ⟨h.os, h.tape, h.output, h.size, h.block⟩
theorem NewRows.weaken {w : World} {B B' n : Nat} {v : Value} {zss : List (List Int)} (h : NewRows w B n v zss) (hle : B' ≤ B) : NewRows w B' n v zss := by
  obtain ⟨vs, bs, h1, h2, h3, h4, h5⟩ := h
  refine ⟨vs, bs, ⟨h1.1, ?_⟩, h2, h3, fun b hb => ⟨Nat.le_trans hle (h4 b hb).1, (h4 b hb).2⟩, h5⟩
  rcases h1.2 with hn | ⟨g, cap, cur, rfl, hb', rest⟩
  · exact .inl hn
  · exact .inr ⟨g, cap, cur, rfl, Nat.le_trans hle hb', rest⟩

end Go.Proofs.Ytmcaphbngfdfiaa
