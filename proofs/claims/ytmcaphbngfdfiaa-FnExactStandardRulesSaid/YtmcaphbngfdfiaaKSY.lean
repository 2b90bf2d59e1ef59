/- Texts put together: WStdL2, WStdL2b, WStdL3, WStdL4, PStd, WStdX. -/
import Derived.Test.YtmcaphbngfdfiaaKSX
import Derived.Test.YtmcaphbngfdfiaaKZ

/- Lists of rules that may be written: cells, sides' trees in blocks of their own; marked rules. -/
namespace Go.Proofs.Ytmcaphbngfdfiaa
open Go.RowKit Plain

/-- eleven unfrozen cells of a rule -/
def RuM (w : World) (b o : Nat) (x : Int × Nd × Nd) (KL : Option Addr) (cl : Nat) (KR : Option Addr) (cr : Nat) : Prop :=
  (w.cell? ⟨b, o, none⟩ = some (.int .i64 x.1) ∧ ExM w b (o + 1) x.2.1.k x.2.1.n x.2.1.p x.2.1.c (.slice KL x.2.1.ks.len cl) ∧ ExM w b (o + 6) x.2.2.k x.2.2.n x.2.2.p x.2.2.c (.slice KR x.2.2.ks.len cr)) ∧ w.frozen? ⟨b, o, none⟩ = false
theorem ExM.keep' {w w' : World} {b o : Nat} {k n p c : Int} {v : Value} (h : ExM w b o k n p c v) (hc : SameCells w w' b o (o + 5)) : ExM w' b o k n p c v := by
  obtain ⟨⟨h0, h1, h2, h3, h4⟩, hf⟩ := h
  exact ⟨⟨(hc o (by omega) (by omega)).1.trans h0, (hc (o + 1) (by omega) (by omega)).1.trans h1, (hc (o + 2) (by omega) (by omega)).1.trans h2, (hc (o + 3) (by omega) (by omega)).1.trans h3, (hc (o + 4) (by omega) (by omega)).1.trans h4⟩,
    fun i hi => (hc (o + i) (by omega) (by omega)).2.trans (hf i hi)⟩
theorem RuM.keep {w w' : World} {b o : Nat} {x : Int × Nd × Nd} {KL KR : Option Addr} {cl cr : Nat} (h : RuM w b o x KL cl KR cr) (hc : SameCells w w' b o (o + 11)) : RuM w' b o x KL cl KR cr :=
  ⟨⟨(hc o (by omega) (by omega)).1.trans h.1.1, h.1.2.1.keep' (hc.sub (by omega) (by omega)), h.1.2.2.keep' (hc.sub (by omega) (by omega))⟩, (hc o (by omega) (by omega)).2.trans h.2⟩
/-- rules at ⟨b, o⟩ that may be written, their sides' kids in blocks from lo on, below hi -/
def RusG (w : World) : List (Int × Nd × Nd) → Nat → Nat → Nat → Nat → Prop
  | [], lo, hi, _, _ => lo ≤ hi
  | x :: t, lo, hi, b, o => ∃ (KL : Option Addr) (cl : Nat) (KR : Option Addr) (cr m1 m2 : Nat), RuM w b o x KL cl KR cr ∧ (x.2.1.ks.len ≤ cl ∧ cl ≤ maxLen) ∧ (x.2.2.ks.len ≤ cr ∧ cr ≤ maxLen) ∧
      TreeR lo m1 x.2.1.ks KL w ∧ TreeR m1 m2 x.2.2.ks KR w ∧ RusG w t m2 hi b (o + 11)
theorem RusG.le {w : World} : ∀ {rs : List (Int × Nd × Nd)} {lo hi b o : Nat}, RusG w rs lo hi b o → lo ≤ hi
  | [], _, _, _, _, h => h
  | _ :: _, _, _, _, _, ⟨_, _, _, _, _, _, _, _, _, h1, h2, h3⟩ => Nat.le_trans h1.le (Nat.le_trans h2.le h3.le)
theorem RusG.keep {w w' : World} : ∀ {rs : List (Int × Nd × Nd)} {lo hi b o : Nat}, RusG w rs lo hi b o → SameCells w w' b o (o + rs.length * 11) → (∀ q, lo ≤ q → q < hi → w'.heap[q]? = w.heap[q]?) → RusG w' rs lo hi b o
  | [], _, _, _, _, h, _, _ => h
  | x :: t, lo, hi, b, o, ⟨KL, cl, KR, cr, m1, m2, h0, h1, h2, h3, h4, h5⟩, hs, hb => by
    simp only [List.length_cons] at hs
    have l3 := h3.le
    have l4 := h4.le
    have l5 := h5.le
    exact ⟨KL, cl, KR, cr, m1, m2, h0.keep (hs.sub (Nat.le_refl _) (by omega)), h1, h2, h3.keep (fun q q1 q2 => hb q q1 (by omega)), h4.keep (fun q q1 q2 => hb q (by omega) (by omega)),
      RusG.keep h5 (hs.sub (by omega) (by omega)) (fun q q1 q2 => hb q (by omega) q2)⟩
theorem RusG.wide {w : World} : ∀ {rs : List (Int × Nd × Nd)} {lo hi lo' hi' b o : Nat}, RusG w rs lo hi b o → lo' ≤ lo → hi ≤ hi' → RusG w rs lo' hi' b o
  | [], _, _, _, _, _, _, h, h1, h2 => Nat.le_trans h1 (Nat.le_trans h h2)
  | _ :: _, _, _, _, _, _, _, ⟨KL, cl, KR, cr, m1, m2, h0, a1, a2, h3, h4, h5⟩, h1, h2 =>
    ⟨KL, cl, KR, cr, m1, m2, h0, a1, a2, h3.wide h1 (Nat.le_refl _), h4, RusG.wide h5 (Nat.le_refl _) h2⟩
theorem RusG.app {w : World} : ∀ {rs t : List (Int × Nd × Nd)} {lo mid hi b o : Nat}, RusG w rs lo mid b o → RusG w t mid hi b (o + rs.length * 11) → RusG w (rs ++ t) lo hi b o
  | [], t, lo, mid, hi, b, o, h, ht => by
    simp only [List.length_nil, Nat.zero_mul, Nat.add_zero] at ht
    exact ht.wide h (Nat.le_refl _)
  | x :: r, t, lo, mid, hi, b, o, ⟨KL, cl, KR, cr, m1, m2, h0, a1, a2, h3, h4, h5⟩, ht => by
    simp only [List.length_cons] at ht
    exact ⟨KL, cl, KR, cr, m1, m2, h0, a1, a2, h3, h4, RusG.app h5 (by rwa [show o + (r.length + 1) * 11 = o + 11 + r.length * 11 by omega] at ht)⟩
theorem exM_el {w : World} {B b o : Nat} {k n p c : Int} {ks : Es} {K : Option Addr} {cap : Nat} (h : ExM w b o k n p c (.slice K ks.len cap)) (hb : b < B) (h1 : ks.len ≤ cap) (h2 : cap ≤ maxLen) (hK : ExSl w B ks K) : ElAt w B k n p c ks b o := by
  obtain ⟨⟨c0, c1, c2, c3, c4⟩, _⟩ := h
  obtain ⟨b', o', e1, e2⟩ := hK
  exact ⟨hb, c0, c1, c2, c3, K, cap, b', o', c4, h1, h2, e1, e2⟩
theorem RusG.at {w : World} {B : Nat} : ∀ {rs : List (Int × Nd × Nd)} {lo hi b o : Nat}, RusG w rs lo hi b o → hi ≤ B → b < B → RusAt w B rs b o
  | [], _, _, _, _, _, _, _ => trivial
  | _ :: _, _, _, _, _, ⟨_, _, _, _, _, _, h0, a1, a2, h3, h4, h5⟩, hB, hb => by
    have l4 := h4.le
    have l5 := h5.le
    exact ⟨⟨h0.1.1, exM_el h0.1.2.1 hb a1.1 a1.2 (h3.sl (by omega)), exM_el h0.1.2.2 hb a2.1 a2.2 (h4.sl (by omega))⟩, RusG.at h5 hB hb⟩
/-- a marked rule -/
def ruSize (x : Int × Nd × Nd) : Nat := 9 + 4 * x.2.1.ks.size + 4 * x.2.2.ks.size
def mkNd (x : Nd) (y : Int) : Nd := ⟨y, y + 1, y + 1 + 1, y + 1 + 1 + 1, mkEs x.ks (y + 1 + 1 + 1 + 1)⟩
def mkRu (x : Int × Nd × Nd) (y : Int) : Int × Nd × Nd := (y, mkNd x.2.1 (y + 1), mkNd x.2.2 (y + 1 + 1 + 1 + 1 + 1 + 4 * x.2.1.ks.size))
def mkRus : List (Int × Nd × Nd) → Int → List (Int × Nd × Nd)
  | [], _ => []
  | x :: t, y => mkRu x y :: mkRus t (y + ruSize x)
def rusSize : List (Int × Nd × Nd) → Nat
  | [] => 0
  | x :: t => ruSize x + rusSize t
theorem mkRus_len : ∀ (rs : List (Int × Nd × Nd)) (y : Int), (mkRus rs y).length = rs.length
  | [], _ => rfl
  | x :: t, y => by simp only [mkRus, List.length_cons, mkRus_len t]

end Go.Proofs.Ytmcaphbngfdfiaa

/- Rules' cells marked; a tree of a rule's side marked by markExprS. -/
namespace Go.Proofs.Ytmcaphbngfdfiaa
open Go.RowKit Plain

theorem mk4_out {w : World} {b o lo hi : Nat} (y : Int) (h : hi ≤ o ∨ o + 4 ≤ lo) : SameCells w (mk4 w b o y) b lo hi := by
  unfold mk4
  exact (((SameCells.set_ (by omega)).trans (SameCells.set_ (by omega))).trans (SameCells.set_ (by omega))).trans (SameCells.set_ (by omega))
theorem ruM_left {w : World} {b o : Nat} {x : Int × Nd × Nd} {KL KR : Option Addr} {cl cr : Nat} (h : RuM w b o x KL cl KR cr) (y : Int) :
    RuM (mk4 (w.setCell ⟨b, o, none⟩ (.int .i64 y)) b (o + 1) (y + 1)) b o (y, ⟨y + 1, y + 1 + 1, y + 1 + 1 + 1, y + 1 + 1 + 1 + 1, x.2.1.ks⟩, x.2.2) KL cl KR cr := by
  obtain ⟨⟨h0, h1, h2⟩, hf⟩ := h
  have s0 : SameCells w (w.setCell ⟨b, o, none⟩ (.int .i64 y)) b (o + 1) (o + 11) := SameCells.set_ (by omega)
  have s1 : SameCells (w.setCell ⟨b, o, none⟩ (.int .i64 y)) (mk4 (w.setCell ⟨b, o, none⟩ (.int .i64 y)) b (o + 1) (y + 1)) b (o + 6) (o + 11) := mk4_out _ (by omega)
  have s2 : SameCells (w.setCell ⟨b, o, none⟩ (.int .i64 y)) (mk4 (w.setCell ⟨b, o, none⟩ (.int .i64 y)) b (o + 1) (y + 1)) b o (o + 1) := mk4_out _ (by omega)
  refine ⟨⟨?_, mk4_exM (h1.keep' (s0.sub (by omega) (by omega))) (y + 1), (h2.keep' (s0.sub (by omega) (by omega))).keep' s1⟩, ?_⟩
  · exact (s2 o (by omega) (by omega)).1.trans (cs_eq _ h0)
  · exact (s2 o (by omega) (by omega)).2.trans ((World.frozen?_setCell _ _ _ _).trans hf)
theorem ruM_right {w : World} {b o : Nat} {x : Int × Nd × Nd} {KL KR : Option Addr} {cl cr : Nat} (h : RuM w b o x KL cl KR cr) (z : Int) :
    RuM (mk4 w b (o + 6) z) b o (x.1, x.2.1, ⟨z, z + 1, z + 1 + 1, z + 1 + 1 + 1, x.2.2.ks⟩) KL cl KR cr := by
  obtain ⟨⟨h0, h1, h2⟩, hf⟩ := h
  have s : SameCells w (mk4 w b (o + 6) z) b o (o + 6) := mk4_out _ (by omega)
  exact ⟨⟨(s o (by omega) (by omega)).1.trans h0, h1.keep' (s.sub (by omega) (by omega)), mk4_exM h2 z⟩, (s o (by omega) (by omega)).2.trans hf⟩
/-- a side's kids marked -/
theorem markTree {w : World} {lo hi : Nat} {ks : Es} {K : Option Addr} (cap : Nat) (k : Int) (h : TreeR lo hi ks K w) (hhi : hi ≤ w.heap.size) (hz : ks.size ≤ 1048576) (k0 : 0 ≤ k) (k1 : k + 4 * ks.size ≤ 1000000000000) :
    Calls Try.prog 19 #[.slice K ks.len cap, .int .i64 k] w fun e w' => e = .returned (.int .i64 (k + 4 * ks.size)) ∧ TreeR lo hi (mkEs ks k) K w' ∧ Only (fun q => lo ≤ q ∧ q < hi) w w' := by
  obtain ⟨b, hb, he⟩ := h
  refine (markG_any (ks.size + 1) ks (by omega) K cap b lo hi k w (fun hn => ⟨(hb hn).1, by have := hb hn; omega⟩) he hhi hz k0 k1).mono ?_
  rintro e w' ⟨rfl, hg, ho⟩
  refine ⟨rfl, ⟨b, fun hn => by rw [mkEs_len] at hn; exact hb hn, hg⟩, ho.os, ho.tape, ho.output, ho.size, fun q hq hn => ho.block q hq (fun hs => ?_)⟩
  rcases hs with ⟨h0, rfl⟩ | hs
  · exact hn (hb h0).2
  · exact hn hs

end Go.Proofs.Ytmcaphbngfdfiaa

/- Walk of the law's markRuleS. -/
namespace Go.Proofs.Ytmcaphbngfdfiaa
open Go.RowKit Plain

set_option maxRecDepth 100000 in
set_option maxHeartbeats 4000000 in
theorem markRuS_any (rs : List (Int × Nd × Nd)) (A : Option Addr) (cap b lo hi : Nat) (k : Int) (w : World) (hA : 0 < rs.length → A = some ⟨b, 0, none⟩) (hM : RusG w rs lo hi b 0) (hbk : b < lo ∨ hi ≤ b) (hbw : b < w.heap.size) (hhi : hi ≤ w.heap.size) (hs : rusSmall rs) (k0 : 0 ≤ k) (k1 : k + rusSize rs ≤ 1000000000000) (hn : rs.length ≤ 1048576) :
    Calls Try.prog 7 #[.slice A rs.length cap, .int .i64 k] w fun e w' => e = .returned (.int .i64 (k + rusSize rs)) ∧ RusG w' (mkRus rs k) lo hi b 0 ∧ Only (fun q => q = b ∨ (lo ≤ q ∧ q < hi)) w w' := by
  have HM := Lib.hid hM; clear hM
  have HSM := Lib.hid hs; clear hs
  go_enter Try.func7, Try.ntmps7
  go_wp2
  go_loopg [1, 5] (rs.length + 1) (fun kx s1 s5 wr => ∃ (j : Nat) (t pre : List (Int × Nd × Nd)) (y : Int) (lo' : Nat), s5 = .int .i64 (j : Int) ∧ s1 = .int .i64 y ∧ pre.length = j ∧ j + t.length = rs.length ∧ t.length < kx ∧ Hid (y + rusSize t = k + rusSize rs) ∧ 0 ≤ y ∧ y ≤ 1000000000000 ∧ Hid (lo ≤ lo') ∧ Hid (rusSmall t) ∧ Hid (RusG wr pre lo lo' b 0) ∧ Hid (pre ++ mkRus t y = mkRus rs k) ∧ Hid (RusG wr t lo' hi b (j * 11)) ∧ Hid (Only (fun q => q = b ∨ (lo ≤ q ∧ q < hi)) w wr))
  case atStart =>
    refine ⟨0, rs, [], k, lo, by first | rfl | go_num, rfl, rfl, by omega, by omega, rfl, k0, by omega, Nat.le_refl _, HSM.out, Nat.le_refl _, rfl, ?_, Only.refl _ _⟩
    show RusG _ _ _ _ _ _; rw [Nat.zero_mul]; exact HM.out
  case round =>
    obtain ⟨j, t, pre, y, lo', rfl, rfl, hpj, hj, hkx, hy, y0, y1, hlo, HT, HP, HPE, HE, HO⟩ := hrel
    cases t with
    | nil =>
      have hjj : j = rs.length := by simpa using hj
      rw [hjj] at *
      have hiz : ¬ (rs.length : Int) < (rs.length : Int) := by omega
      go_wp2
      go_ret
      have := hy.out
      simp only [rusSize] at this
      refine ⟨ret_int (by omega), ?_, HO.out⟩
      have he := HPE.out
      simp only [mkRus, List.append_nil] at he
      rw [← he]
      exact HP.out.wide (Nat.le_refl _) HE.out
    | cons x t =>
      obtain ⟨v, l, r⟩ := x
      have hj1 : j + (t.length + 1) = rs.length := by simpa using hj
      have hiz : (j : Int) < (rs.length : Int) := by omega
      have hA := hA (by omega)
      subst hA
      have HS2 : Hid (l.ks.size ≤ 1048576 ∧ r.ks.size ≤ 1048576 ∧ rusSmall t) := ⟨(HT.out _ (List.mem_cons_self ..)).1, (HT.out _ (List.mem_cons_self ..)).2, fun x hx => HT.out x (List.mem_cons_of_mem _ hx)⟩
      obtain ⟨KL, cl, KR, cr, m1, m2, hRu, a1, a2, hTl, hTr, hrest⟩ := HE.out
      obtain ⟨⟨c0, ⟨⟨c1, c2, c3, c4, c5⟩, fl⟩, ⟨⟨c6, c7, c8, c9, c10⟩, fr⟩⟩, f0⟩ := id hRu
      simp only at c0 c1 c2 c3 c4 c5 c6 c7 c8 c9 c10
      have f1 : wr.frozen? ⟨b, j * 11 + 1, none⟩ = false := fl 0 (by omega)
      have f2 : wr.frozen? ⟨b, j * 11 + 2, none⟩ = false := fl 1 (by omega)
      have f3 : wr.frozen? ⟨b, j * 11 + 3, none⟩ = false := fl 2 (by omega)
      have f4 : wr.frozen? ⟨b, j * 11 + 4, none⟩ = false := fl 3 (by omega)
      have d2 : wr.cell? ⟨b, j * 11 + 2, none⟩ = some (.int .i64 l.n) := c2
      have d3 : wr.cell? ⟨b, j * 11 + 3, none⟩ = some (.int .i64 l.p) := c3
      have d4 : wr.cell? ⟨b, j * 11 + 4, none⟩ = some (.int .i64 l.c) := c4
      have hyl : Hid (y + 5 + 4 * l.ks.size + 4 + 4 * r.ks.size + rusSize t = k + rusSize rs) := by
        have := hy.out
        simp only [rusSize, ruSize] at this
        show _ = _; omega
      have hyb : y + 9 ≤ 1000000000000 := by have := hyl.out; omega
      go_upto_region 14 with fail
      have l1 := hTl.le
      have l2 := hTr.le
      have l3 := hrest.le
      have hr1 := ruM_left hRu y
      have hblk : ∀ q, q ≠ b → (mk4 (wr.setCell ⟨b, j * 11, none⟩ (.int .i64 y)) b (j * 11 + 1) (y + 1)).heap[q]? = wr.heap[q]? := fun q hq => (mk4_block _ hq).trans (Below.heap_setCell _ _ _ _ hq)
      have hsz : (mk4 (wr.setCell ⟨b, j * 11, none⟩ (.int .i64 y)) b (j * 11 + 1) (y + 1)).heap.size = wr.heap.size := by simp [mk4, World.setCell]
      have hout : ∀ i k, k ≤ j * 11 ∨ j * 11 + 11 ≤ i → SameCells wr (mk4 (wr.setCell ⟨b, j * 11, none⟩ (.int .i64 y)) b (j * 11 + 1) (y + 1)) b i k := fun i k h => (SameCells.set_ (by omega)).trans (mk4_out _ (by omega))
      have honly : Only (fun q => q = b) wr (mk4 (wr.setCell ⟨b, j * 11, none⟩ (.int .i64 y)) b (j * 11 + 1) (y + 1)) := ⟨rfl, rfl, rfl, by rw [hsz]; exact Nat.le_refl _, fun q _ hq => hblk q hq⟩
      change Code.wp _ _ _ _ (mk4 (wr.setCell ⟨b, j * 11, none⟩ (.int .i64 y)) b (j * 11 + 1) (y + 1))
      generalize mk4 (wr.setCell ⟨b, j * 11, none⟩ (.int .i64 y)) b (j * 11 + 1) (y + 1) = W1 at hr1 hblk hsz hout honly ⊢
      have hbs := HO.out.size
      have hT1 : TreeR lo' m1 l.ks KL W1 := hTl.keep (fun q q1 q2 => hblk q (by have := hlo.out; omega))
      have hT1' : TreeR m1 m2 r.ks KR W1 := hTr.keep (fun q q1 q2 => hblk q (by have := hlo.out; omega))
      have hrest1 : RusG W1 t m2 hi b (j * 11 + 11) := hrest.keep (hout _ _ (by omega)) (fun q q1 q2 => hblk q (by have := hlo.out; omega))
      have hP1 : RusG W1 pre lo lo' b 0 := HP.out.keep (hout _ _ (by omega)) (fun q q1 q2 => hblk q (by omega))
      have x5 : W1.cell? ⟨b, j * 11 + 1 + 4, none⟩ = some (.slice KL l.ks.len cl) := hr1.1.2.1.1.2.2.2.2
      have HC1 := Lib.hid (markTree (w := W1) cl (y + 1 + 1 + 1 + 1 + 1) hT1 (by omega) HS2.out.1 (by omega) (by have := hyl.out; omega))
      have HO1 := Lib.hid (HO.out.chain honly (fun q _ e => .inl e))
      have HR1 := Lib.hid hr1
      have HT1' := Lib.hid hT1'
      have HRE1 := Lib.hid hrest1
      have HP1 := Lib.hid hP1
      have HLE : Hid (lo ≤ lo' ∧ lo' ≤ m1 ∧ m1 ≤ m2 ∧ m2 ≤ hi ∧ (b < lo ∨ hi ≤ b)) := ⟨hlo.out, l1, l2, l3, hbk⟩
      have HSZ : Hid (b < W1.heap.size ∧ hi ≤ W1.heap.size) := by show _ ∧ _; omega
      clear hr1 hblk hsz hout honly hT1 hT1' hrest1 hP1 c0 c1 c2 c3 c4 c5 c6 c7 c8 c9 c10 f0 f1 f2 f3 f4 d2 d3 d4 fl fr hRu hTl hTr hrest HE HP HO
      go_wp2_with fail
      refine HC1.out.mono ?_; rintro e w2 ⟨rfl, hG1, hO1⟩
      have hle := HLE.out
      have hszz := HSZ.out
      have hk : ∀ q, q < W1.heap.size → ¬ (lo' ≤ q ∧ q < m1) → w2.heap[q]? = W1.heap[q]? := fun q hq hn => hO1.block q hq hn
      have hbb : w2.heap[b]? = W1.heap[b]? := hk b (by omega) (by omega)
      have hR2 := HR1.out.keep (SameCells.of_block hbb _ _)
      have hT2 : TreeR m1 m2 r.ks KR w2 := HT1'.out.keep (fun q q1 q2 => hk q (by omega) (by omega))
      have hRE2 : RusG w2 t m2 hi b (j * 11 + 11) := HRE1.out.keep (SameCells.of_block hbb _ _) (fun q q1 q2 => hk q (by omega) (by omega))
      have hP2 : RusG w2 pre lo lo' b 0 := HP1.out.keep (SameCells.of_block hbb _ _) (fun q q1 q2 => hk q (by omega) (by omega))
      have hO2 : Only (fun q => q = b ∨ (lo ≤ q ∧ q < hi)) w w2 := HO1.out.chain hO1 (fun q _ h => .inr ⟨by omega, by omega⟩)
      have hs2 := hO1.size
      obtain ⟨z, hz⟩ : ∃ z, z = y + 1 + 1 + 1 + 1 + 1 + 4 * (l.ks.size : Int) := ⟨_, rfl⟩
      rw [← hz]
      have z0 : 0 ≤ z := by omega
      have z1 : z + 4 ≤ 1000000000000 := by have := hyl.out; omega
      have HZ := Lib.hid hz
      clear hz
      obtain ⟨⟨_, _, ⟨⟨c6, c7, c8, c9, c10⟩, fr⟩⟩, _⟩ := id hR2
      simp only at c6 c7 c8 c9 c10
      have f6 : w2.frozen? ⟨b, j * 11 + 6, none⟩ = false := fr 0 (by omega)
      have f7 : w2.frozen? ⟨b, j * 11 + 6 + 1, none⟩ = false := fr 1 (by omega)
      have f8 : w2.frozen? ⟨b, j * 11 + 6 + 2, none⟩ = false := fr 2 (by omega)
      have f9 : w2.frozen? ⟨b, j * 11 + 6 + 3, none⟩ = false := fr 3 (by omega)
      have HR2 := Lib.hid hR2
      have HG1 := Lib.hid hG1
      have HT2 := Lib.hid hT2
      have HRE2 := Lib.hid hRE2
      have HP2 := Lib.hid hP2
      have HO2 := Lib.hid hO2
      have HSZ2 : Hid (b < w2.heap.size ∧ hi ≤ w2.heap.size) := by show _ ∧ _; omega
      clear hle hszz hk hbb hR2 hT2 hRE2 hP2 hO2 hs2 hG1 hO1 fr HR1 HT1' HRE1 HP1 HO1 HC1 x5 HSZ l1 l2 l3 hbs
      go_upto_region 23 with fail
      have hr3 := ruM_right HR2.out z
      have hblk : ∀ q, q ≠ b → (mk4 w2 b (j * 11 + 6) z).heap[q]? = w2.heap[q]? := fun q hq => mk4_block _ hq
      have hsz : (mk4 w2 b (j * 11 + 6) z).heap.size = w2.heap.size := by simp [mk4, World.setCell]
      have hout : ∀ i k, k ≤ j * 11 ∨ j * 11 + 11 ≤ i → SameCells w2 (mk4 w2 b (j * 11 + 6) z) b i k := fun i k h => mk4_out _ (by omega)
      have honly : Only (fun q => q = b) w2 (mk4 w2 b (j * 11 + 6) z) := mk4_only z
      change Code.wp _ _ _ _ (mk4 w2 b (j * 11 + 6) z)
      generalize mk4 w2 b (j * 11 + 6) z = W3 at hr3 hblk hsz hout honly ⊢
      have hle := HLE.out
      have hszz := HSZ2.out
      have hT3 : TreeR lo' m1 (mkEs l.ks (y + 1 + 1 + 1 + 1 + 1)) KL W3 := HG1.out.keep (fun q q1 q2 => hblk q (by omega))
      have hT3' : TreeR m1 m2 r.ks KR W3 := HT2.out.keep (fun q q1 q2 => hblk q (by omega))
      have hrest3 : RusG W3 t m2 hi b (j * 11 + 11) := HRE2.out.keep (hout _ _ (by omega)) (fun q q1 q2 => hblk q (by omega))
      have hP3 : RusG W3 pre lo lo' b 0 := HP2.out.keep (hout _ _ (by omega)) (fun q q1 q2 => hblk q (by omega))
      have x10 : W3.cell? ⟨b, j * 11 + 6 + 4, none⟩ = some (.slice KR r.ks.len cr) := hr3.1.2.2.1.2.2.2.2
      have HC3 := Lib.hid (markTree (w := W3) cr (z + 1 + 1 + 1 + 1) hT3' (by omega) HS2.out.2.1 (by omega) (by have := hyl.out; have := HZ.out; omega))
      have HO3 := Lib.hid (HO2.out.chain honly (fun q _ e => .inl e))
      have HR3 := Lib.hid hr3
      have HT3 := Lib.hid hT3
      have HRE3 := Lib.hid hrest3
      have HP3 := Lib.hid hP3
      have HSZ3 : Hid (b < W3.heap.size ∧ hi ≤ W3.heap.size) := by show _ ∧ _; omega
      clear hr3 hblk hsz hout honly hT3 hT3' hrest3 hP3 c6 c7 c8 c9 c10 f6 f7 f8 f9 hle hszz HR2 HG1 HT2 HRE2 HP2 HO2 HSZ2
      go_wp2_with fail
      refine HC3.out.mono ?_; rintro e w4 ⟨rfl, hG3, hO3⟩
      have hle := HLE.out
      have hszz := HSZ3.out
      have hk : ∀ q, q < W3.heap.size → ¬ (m1 ≤ q ∧ q < m2) → w4.heap[q]? = W3.heap[q]? := fun q hq hn => hO3.block q hq hn
      have hbb : w4.heap[b]? = W3.heap[b]? := hk b (by omega) (by omega)
      have hR4 := HR3.out.keep (SameCells.of_block hbb _ _)
      have hT4 : TreeR lo' m1 (mkEs l.ks (y + 1 + 1 + 1 + 1 + 1)) KL w4 := HT3.out.keep (fun q q1 q2 => hk q (by omega) (by omega))
      have HRE4 : Hid (RusG w4 t m2 hi b ((j + 1) * 11)) := by
        have := HRE3.out.keep (w' := w4) (SameCells.of_block hbb _ _) (fun q q1 q2 => hk q (by omega) (by omega))
        show RusG _ _ _ _ _ _
        rwa [show (j + 1) * 11 = j * 11 + 11 by omega]
      have hP4 : RusG w4 pre lo lo' b 0 := HP3.out.keep (SameCells.of_block hbb _ _) (fun q q1 q2 => hk q (by omega) (by omega))
      have HO4 : Hid (Only (fun q => q = b ∨ (lo ≤ q ∧ q < hi)) w w4) := HO3.out.chain hO3 (fun q _ h => .inr ⟨by omega, by omega⟩)
      obtain ⟨u, hu⟩ : ∃ u, u = z + 1 + 1 + 1 + 1 + 4 * (r.ks.size : Int) := ⟨_, rfl⟩
      rw [← hu]
      have hru : u = y + (ruSize (v, l, r) : Nat) := by have := HZ.out; simp only [ruSize]; omega
      have HRX : Hid (RusG w4 (pre ++ [mkRu (v, l, r) y]) lo m2 b 0) := by
        have hz := HZ.out
        refine RusG.app hP4 ⟨KL, cl, KR, cr, m1, m2, ?_, ?_, ?_, ?_, ?_, Nat.le_refl _⟩
        · rw [hpj, Nat.zero_add]
          rw [hz] at hR4
          unfold RuM mkRu mkNd at *
          simp only [mkEs_len]
          exact hR4
        · simp only [mkRu, mkNd, mkEs_len]; exact a1
        · simp only [mkRu, mkNd, mkEs_len]; exact a2
        · exact hT4
        · rw [hz] at hG3; exact hG3
      have HPX : Hid ((pre ++ [mkRu (v, l, r) y]) ++ mkRus t u = mkRus rs k) := by
        show _ = _
        rw [List.append_assoc, ← HPE.out, hru]; rfl
      have HYX : Hid (u + rusSize t = k + rusSize rs) := by have := hyl.out; have := HZ.out; show _ = _; omega
      have u0 : 0 ≤ u := by omega
      have u1 : u ≤ 1000000000000 := by have := HYX.out; omega
      have HLX : Hid (lo ≤ m2) := by show _ ≤ _; omega
      have hpl : (pre ++ [mkRu (v, l, r) y]).length = j + 1 := by simp [hpj]
      clear hle hszz hk hbb hR4 hT4 hP4 hG3 hO3 hu hru HR3 HT3 HRE3 HP3 HO3 HC3 x10 HPE HSZ3
      go_wp2
      go_roundg (t.length + 1)
      case measure => simp only [List.length_cons] at hkx; omega
      case rel => exact ⟨j + 1, t, _, u, m2, by first | rfl | go_num, rfl, hpl, by omega, by omega, HYX, u0, u1, HLX, HS2.out.2.2, HRX, HPX, HRE4, HO4⟩

end Go.Proofs.Ytmcaphbngfdfiaa

/- Walk of the law's heldRuleS. -/
namespace Go.Proofs.Ytmcaphbngfdfiaa
open Go.RowKit Plain

set_option maxRecDepth 100000 in
set_option maxHeartbeats 4000000 in
theorem heldRuS_any (rs : List (Int × Nd × Nd)) (A : Option Addr) (cap b o B : Nat) (k : Int) (w : World) (hA : 0 < rs.length → A = some ⟨b, o, none⟩) (hE : RusAt w B (mkRus rs k) b o) (hB : B ≤ w.heap.size) (hs : rusSmall rs) (k0 : 0 ≤ k) (k1 : k + rusSize rs ≤ 1000000000000) (hn : rs.length ≤ 1048576) :
    Calls Try.prog 8 #[.slice A rs.length cap, .int .i64 k] w fun e w' => e = .returned (.int .i64 (k + rusSize rs)) ∧ w = w' := by
  have HM := Lib.hid hE; clear hE
  have HSM := Lib.hid hs; clear hs
  go_enter Try.func8, Try.ntmps8
  go_wp2
  go_loopg [1, 5] (rs.length + 1) (fun kx s1 s5 wr => ∃ (j : Nat) (t : List (Int × Nd × Nd)) (y : Int), s5 = .int .i64 (j : Int) ∧ s1 = .int .i64 y ∧ j + t.length = rs.length ∧ t.length < kx ∧ Hid (y + rusSize t = k + rusSize rs) ∧ 0 ≤ y ∧ y ≤ 1000000000000 ∧ Hid (rusSmall t) ∧ Hid (RusAt w B (mkRus t y) b (o + j * 11)) ∧ w = wr)
  case atStart =>
    refine ⟨0, rs, k, by first | rfl | go_num, rfl, by omega, by omega, rfl, k0, by omega, HSM.out, ?_, rfl⟩
    show RusAt _ _ _ _ _; rw [Nat.zero_mul, Nat.add_zero]; exact HM.out
  case round =>
    obtain ⟨j, t, y, rfl, rfl, hj, hkx, hy, y0, y1, HT, HE, rfl⟩ := hrel
    cases t with
    | nil =>
      have hjj : j = rs.length := by simpa using hj
      rw [hjj] at *
      have hiz : ¬ (rs.length : Int) < (rs.length : Int) := by omega
      go_wp2
      go_ret
      have := hy.out
      simp only [rusSize] at this
      exact ⟨ret_int (by omega), rfl⟩
    | cons x t =>
      obtain ⟨v, l, r⟩ := x
      have hj1 : j + (t.length + 1) = rs.length := by simpa using hj
      have hiz : (j : Int) < (rs.length : Int) := by omega
      have hA := hA (by omega)
      subst hA
      have HS2 : Hid (l.ks.size ≤ 1048576 ∧ r.ks.size ≤ 1048576 ∧ rusSmall t) := ⟨(HT.out _ (List.mem_cons_self ..)).1, (HT.out _ (List.mem_cons_self ..)).2, fun x hx => HT.out x (List.mem_cons_of_mem _ hx)⟩
      obtain ⟨⟨c0, ⟨_, c1, c2, c3, c4, KL, cl, x1, y1', c5, _, _, hKL, hkl⟩, ⟨_, c6, c7, c8, c9, KR, cr, x2, y2', c10, _, _, hKR, hkr⟩⟩, hrest⟩ := HE.out
      simp only [mkRu, mkNd, mkEs_len] at c0 c1 c2 c3 c4 c5 c6 c7 c8 c9 c10 hKL hKR hkl hkr
      have hyl : Hid (y + 5 + 4 * l.ks.size + 4 + 4 * r.ks.size + rusSize t = k + rusSize rs) := by
        have := hy.out
        simp only [rusSize, ruSize] at this
        show _ = _; omega
      have hyb : y + 9 ≤ 1000000000000 := by have := hyl.out; omega
      have HC1 := Lib.hid (heldExprS_any (l.ks.size + 1) l.ks (by omega) KL cl x1 y1' B (y + 1 + 1 + 1 + 1 + 1) w hKL hkl hB HS2.out.1 (by omega) (by have := hyl.out; omega))
      obtain ⟨z, hz⟩ : ∃ z, z = y + 1 + 1 + 1 + 1 + 1 + 4 * (l.ks.size : Int) := ⟨_, rfl⟩
      rw [← hz] at HC1 c6 c7 c8 c9 hkr
      have z0 : ¬ z < 0 := by omega
      have z1 : z + 4 ≤ 1000000000000 := by have := hyl.out; omega
      have HC2 := Lib.hid (heldExprS_any (r.ks.size + 1) r.ks (by omega) KR cr x2 y2' B (z + 1 + 1 + 1 + 1) w hKR hkr hB HS2.out.2.1 (by omega) (by have := hyl.out; omega))
      obtain ⟨u, hu⟩ : ∃ u, u = z + 1 + 1 + 1 + 1 + 4 * (r.ks.size : Int) := ⟨_, rfl⟩
      rw [← hu] at HC2
      have hru : u = y + (ruSize (v, l, r) : Nat) := by simp only [ruSize]; omega
      have HRX : Hid (RusAt w B (mkRus t u) b (o + (j + 1) * 11)) := by
        show RusAt _ _ _ _ _
        rw [hru, show o + (j + 1) * 11 = o + j * 11 + 11 by omega]; exact hrest
      have HYX : Hid (u + rusSize t = k + rusSize rs) := by have := hyl.out; show _ = _; omega
      have u0 : ¬ u < 0 := by omega
      have u1 : u ≤ 1000000000000 := by have := HYX.out; omega
      have zz0 : 0 ≤ z := by omega
      clear hz hu hru hrest hKL hKR hkl hkr HE hyl hy HM
      go_wp2_with fail
      refine HC1.out.mono ?_; rintro e w2 ⟨rfl, hw2⟩
      obtain rfl := hw2.symm
      go_wp2_with fail
      refine HC2.out.mono ?_; rintro e w4 ⟨rfl, hw4⟩
      obtain rfl := hw4.symm
      go_wp2
      go_roundg (t.length + 1)
      case measure => simp only [List.length_cons] at hkx; omega
      case rel => exact ⟨j + 1, t, u, by first | rfl | go_num, rfl, by omega, by omega, HYX, by omega, u1, HS2.out.2.2, HRX, rfl⟩

end Go.Proofs.Ytmcaphbngfdfiaa

/- Plain: the list of standard rules. No program here. -/
namespace Go.Proofs.Ytmcaphbngfdfiaa
open Plain

/-- a variable, a number, one kid -/
def vN (n : Int) : Nd := ⟨2, n, 0, 0, .nil⟩
def cN (n : Int) : Nd := ⟨1, n, 0, 0, .nil⟩
def ngN (x : Nd) : Nd := ⟨7, 0, 0, 0, .cons x.k x.n x.p x.c x.ks .nil⟩
/-- the rules -/
def stdRules : List (Int × Nd × Nd) :=
  [(1, opXN 3 (vN 0) (cN 0), vN 0), (1, opXN 3 (cN 0) (vN 0), vN 0), (1, opXN 4 (vN 0) (cN 0), vN 0), (1, opXN 4 (cN 0) (vN 0), ngN (vN 0)),
   (1, opXN 5 (vN 0) (cN 1), vN 0), (1, opXN 5 (cN 1) (vN 0), vN 0), (1, opXN 5 (vN 0) (cN 0), cN 0), (1, opXN 5 (cN 0) (vN 0), cN 0),
   (1, ngN (ngN (vN 0)), vN 0), (2, opXN 3 (vN 0) (ngN (vN 1)), opXN 4 (vN 0) (vN 1)), (2, opXN 4 (vN 0) (ngN (vN 1)), opXN 3 (vN 0) (vN 1)),
   (2, opXN 5 (ngN (vN 0)) (ngN (vN 1)), opXN 5 (vN 0) (vN 1)), (1, opXN 4 (vN 0) (vN 0), cN 0),
   (3, opXN 3 (opXN 5 (vN 0) (vN 1)) (opXN 5 (vN 0) (vN 2)), opXN 5 (vN 0) (opXN 3 (vN 1) (vN 2))),
   (3, opXN 3 (opXN 5 (vN 0) (vN 2)) (opXN 5 (vN 1) (vN 2)), opXN 5 (opXN 3 (vN 0) (vN 1)) (vN 2)),
   (3, opXN 4 (opXN 5 (vN 0) (vN 1)) (opXN 5 (vN 0) (vN 2)), opXN 5 (vN 0) (opXN 4 (vN 1) (vN 2)))]
theorem stdRules_len : stdRules.length = 16 := rfl

end Go.Proofs.Ytmcaphbngfdfiaa

/- The law of StandardRules out of two contracts. -/
namespace Go.Proofs.Ytmcaphbngfdfiaa
open Go.RowKit Plain

/-- rules in memory of the call's own, that may be written -/
def RetRu (rs : List (Int × Nd × Nd)) (w : World) (e : Ending) (w' : World) : Prop :=
  ∃ cap b lo hi, e = .returned (.slice (some ⟨b, 0, none⟩) rs.length cap) ∧ RusG w' rs lo hi b 0 ∧ (b < lo ∨ hi ≤ b) ∧ w.heap.size ≤ b ∧ b < w'.heap.size ∧ w.heap.size ≤ lo ∧ hi ≤ w'.heap.size ∧ Below w.heap.size w w'
/-- rules that can be read -/
def SeeRu (rs : List (Int × Nd × Nd)) (w : World) (e : Ending) (w' : World) : Prop :=
  ∃ A cap, e = .returned (.slice A rs.length cap) ∧ RusSl w' w'.heap.size rs A ∧ Below w.heap.size w w'
theorem RusSl.only {w w' : World} {B : Nat} {rs : List (Int × Nd × Nd)} {A : Option Addr} (h : RusSl w B rs A) (hb : Below B w w') : RusSl w' B rs A := h.below hb

theorem std_small : rusSmall stdRules := by
  intro x hx
  simp only [stdRules, List.mem_cons, List.not_mem_nil, or_false] at hx
  rcases hx with rfl | rfl | rfl | rfl | rfl | rfl | rfl | rfl | rfl | rfl | rfl | rfl | rfl | rfl | rfl | rfl <;> exact ⟨by decide, by decide⟩
theorem std_size : rusSize stdRules ≤ 1000000 := by decide

theorem RusSl.mono {w : World} {B B' : Nat} {rs : List (Int × Nd × Nd)} {A : Option Addr} (h : RusSl w B rs A) (hb : B ≤ B') : RusSl w B' rs A := by
  obtain ⟨b, o, h1, h2⟩ := h
  exact ⟨b, o, h1, h2.mono hb⟩

set_option maxRecDepth 100000 in
set_option maxHeartbeats 4000000 in
theorem stdLaw (rs : List (Int × Nd × Nd)) (hs : rusSmall rs) (hn : rs.length ≤ 1000) (hz : rusSize rs ≤ 1000000)
    (hI : ∀ w, Calls Try.prog 5 #[] w (RetRu rs w)) (hS : ∀ w, Calls Try.prog 4 #[] w (SeeRu rs w)) (w : World) :
    Calls Try.prog 3 #[] w fun e w' => e = .returned (.bool true) ∧ Below w.heap.size w w' := by
  have HI := Lib.hid hI
  have HS := Lib.hid hS
  have HSM := Lib.hid hs
  clear hI hS hs
  go_enter Try.func3, Try.ntmps3
  go_wp2_with fail
  refine (HS.out w).mono ?_; rintro e w1 ⟨A1, cap1, rfl, hA1, hb1⟩
  have HA1 := Lib.hid hA1
  have HB1 := Lib.hid hb1
  clear hA1 hb1
  go_wp2_with fail
  refine (HI.out w1).mono ?_; rintro e w2 ⟨cap2, b, lo, hi, rfl, hG, hbl, hb0, hb0', hlo, hhi, hb2⟩
  have HG := Lib.hid hG
  have HB2 := Lib.hid hb2
  have HX := Lib.hid (And.intro hbl (And.intro hb0 (And.intro hb0' (And.intro hlo hhi))))
  clear hG hb2 hbl hb0 hb0' hlo hhi
  have HE := Lib.hid (eqRuleS_any rs (some ⟨b, 0, none⟩) A1 cap2 cap1 w2.heap.size w2 ⟨b, 0, fun _ => rfl, HG.out.at HX.out.2.2.2.2 HX.out.2.2.1⟩ ((HA1.out.below HB2.out).mono HB2.out.size) (Nat.le_refl _) (by omega) HSM.out)
  go_wp2_with fail
  refine HE.out.mono ?_; rintro e w3 ⟨rfl, hb3⟩
  have HB3 := Lib.hid hb3
  have HG3 := Lib.hid (HG.out.keep (SameCells.of_block (hb3.block b HX.out.2.2.1) _ _) (fun q _ h => hb3.block q (Nat.lt_of_lt_of_le h HX.out.2.2.2.2)))
  have HS3 := Lib.hid hb3.size
  clear hb3 HE
  have HMK := Lib.hid (markRuS_any rs (some ⟨b, 0, none⟩) cap2 b lo hi 1 w3 (fun _ => rfl) HG3.out HX.out.1 (by have := HX.out; have := HS3.out; omega) (by have := HX.out; have := HS3.out; omega) HSM.out (by omega) (by omega) (by omega))
  obtain ⟨m, hm⟩ : ∃ m : Int, m = 1 + (rusSize rs : Nat) := ⟨_, rfl⟩
  rw [← hm] at HMK
  have hm0 : ¬ m < 0 := by omega
  have HM := Lib.hid hm
  clear hm
  go_wp2_with fail
  refine HMK.out.mono ?_; rintro e w4 ⟨rfl, hG4, hO4⟩
  have HG4 := Lib.hid hG4
  have HS4 := Lib.hid hO4.size
  have HB4 : Hid (Below w1.heap.size w1 w4) := (HB2.out.trans (HB3.out.mono HB2.out.size)).trans (hO4.below (by have := HB2.out.size; have := HS3.out; omega) (fun q hq => by have := HX.out; omega))
  clear hG4 hO4 HMK
  have HHD := heldRuS_any rs (some ⟨b, 0, none⟩) cap2 b 0 w4.heap.size 1 w4 (fun _ => rfl) (HG4.out.at (by have := HX.out; have := HS3.out; have := HS4.out; omega) (by have := HX.out; have := HS3.out; have := HS4.out; omega)) (Nat.le_refl _) HSM.out (by omega) (by omega) (by omega)
  rw [← HM.out] at HHD
  have HHD := Lib.hid HHD
  go_wp2_with fail
  refine HHD.out.mono ?_; rintro e w' ⟨rfl, rfl⟩
  clear HHD
  go_wp2_with fail
  refine (HI.out w4).mono ?_; rintro e w5 ⟨cap5, b5, lo5, hi5, rfl, hG5, _, _, hb5', _, hhi5, hb5⟩
  have HE5 := Lib.hid (eqRuleS_any rs (some ⟨b5, 0, none⟩) A1 cap5 cap1 w5.heap.size w5 ⟨b5, 0, fun _ => rfl, hG5.at hhi5 hb5'⟩ (((HA1.out.below HB4.out).below (hb5.mono HB4.out.size)).mono (Nat.le_trans HB4.out.size hb5.size)) (Nat.le_refl _) (by omega) HSM.out)
  have HB5 := Lib.hid hb5
  clear hG5 hb5' hhi5 hb5
  go_wp2_with fail
  refine HE5.out.mono ?_; rintro e w6 ⟨rfl, hb6⟩
  have HB6 := Lib.hid (bnext HB5.out hb6)
  clear hb6 HE5
  have HHD := heldRuS_any rs (some ⟨b, 0, none⟩) cap2 b 0 w4.heap.size 1 w6 (fun _ => rfl) ((HG4.out.at (by have := HX.out; have := HS3.out; have := HS4.out; omega) (by have := HX.out; have := HS3.out; have := HS4.out; omega)).below HB6.out) HB6.out.size HSM.out (by omega) (by omega) (by omega)
  rw [← HM.out] at HHD
  have HHD := Lib.hid HHD
  go_wp2_with fail
  refine HHD.out.mono ?_; rintro e w' ⟨rfl, rfl⟩
  go_wp2
  go_ret
  exact ⟨rfl, HB1.out.trans ((HB4.out.trans (HB6.out.mono HB4.out.size)).mono HB1.out.size)⟩

end Go.Proofs.Ytmcaphbngfdfiaa
