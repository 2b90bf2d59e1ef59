/- Texts put together: WEsG, PPolyE, WPolyE1, WPolyE2. -/
import Derived.Test.YtmcaphbngfdfiaaKC
import Derived.Test.YtmcaphbngfdfiaaKX
import Derived.Test.YtmcaphbngfdfiaaKA
import Derived.Test.YtmcaphbngfdfiaaKE

/- Trees in blocks of a call's own, in any order; marks of them. -/
namespace Go.Proofs.Ytmcaphbngfdfiaa
open Go.RowKit Plain

/-- expressions at ⟨b, o⟩ that may be written; the blocks of their kids lie apart from b and from each other's, from lo on, below hi -/
def ExsG (w : World) : Es → Nat → Nat → Nat → Nat → Prop
  | .nil, lo, hi, _, _ => lo ≤ hi
  | .cons k n p c ks r, lo, hi, b, o => ∃ (K : Option Addr) (cap b' l h : Nat), ExM w b o k n p c (.slice K ks.len cap) ∧ ks.len ≤ cap ∧ cap ≤ maxLen ∧ (0 < ks.len → K = some ⟨b', 0, none⟩ ∧ l ≤ b' ∧ b' < h) ∧ lo ≤ l ∧ (b < l ∨ h ≤ b) ∧
      ExsG w ks l h b' 0 ∧ ExsG w r h hi b (o + 5)
theorem ExsG.le {w : World} : ∀ {es : Es} {lo hi b o : Nat}, ExsG w es lo hi b o → lo ≤ hi
  | .nil, _, _, _, _, h => h
  | .cons _ _ _ _ _ _, _, _, _, _, ⟨_, _, _, _, _, _, _, _, _, h1, _, hk, hr⟩ => by have := ExsG.le hr; have := ExsG.le hk; omega
theorem ExsG.keep {w w' : World} : ∀ {es : Es} {lo hi b o : Nat}, ExsG w es lo hi b o → SameCells w w' b o (o + es.len * 5) → (∀ q, lo ≤ q → q < hi → q ≠ b → w'.heap[q]? = w.heap[q]?) → ExsG w' es lo hi b o := by
  intro es
  induction es with
  | nil => intro lo hi b o h _ _; exact h
  | cons k n p c ks r ihk ihr =>
    rintro lo hi b o ⟨K, cap, b', l, h, h0, hc, hm, hK, h1, h2, hk, hr⟩ hs hb
    simp only [Es.len] at hs
    have hle := hr.le
    have hlk := hk.le
    refine ⟨K, cap, b', l, h, h0.keep (hs.sub (Nat.le_refl _) (by omega)), hc, hm, hK, h1, h2, ?_, ihr hr (hs.sub (by omega) (by omega)) (fun q hq hq' hne => hb q (by omega) hq' hne)⟩
    cases ks with
    | nil => exact hk
    | cons _ _ _ _ _ _ =>
      have h3 := hK (by simp [Es.len])
      exact ihk hk (SameCells.of_block (hb b' (by omega) (by omega) (by omega)) _ _) (fun q hq hq' _ => hb q (by omega) (by omega) (by omega))
/-- such expressions read as expressions -/
theorem ExsG.exs {w : World} {B : Nat} : ∀ {es : Es} {lo hi b o : Nat}, ExsG w es lo hi b o → hi ≤ B → b < B → ExsAt w B es b o := by
  intro es
  induction es with
  | nil => intro lo hi b o _ _ _; trivial
  | cons k n p c ks r ihk ihr =>
    rintro lo hi b o ⟨K, cap, b', l, h, ⟨⟨h0, h1, h2, h3, h4⟩, _⟩, hc, hm, hK, l1, l2, hk, hr⟩ hB hb
    have hle := hr.le
    refine ⟨⟨hb, h0, h1, h2, h3, K, cap, b', 0, h4, hc, hm, fun hn => (hK hn).1, ?_⟩, ihr hr hB hb⟩
    cases ks with
    | nil => trivial
    | cons _ _ _ _ _ _ => exact ihk hk (by omega) (by have := hK (by simp [Es.len]); omega)
/-- wider bounds -/
theorem ExsG.wide {w : World} : ∀ {es : Es} {lo hi lo' hi' b o : Nat}, ExsG w es lo hi b o → lo' ≤ lo → hi ≤ hi' → ExsG w es lo' hi' b o := by
  intro es
  induction es with
  | nil => intro lo hi lo' hi' b o h h1 h2; have : lo ≤ hi := h; show lo' ≤ hi'; omega
  | cons k n p c ks r ihk ihr =>
    rintro lo hi lo' hi' b o ⟨K, cap, b', l, h, h0, hc, hm, hK, l1, l2, hk, hr⟩ e1 e2
    exact ⟨K, cap, b', l, h, h0, hc, hm, hK, by omega, l2, hk, ihr hr (Nat.le_refl _) e2⟩
theorem ExsM.g {w : World} : ∀ {es : Es} {lo hi b o : Nat}, ExsM w es lo hi b o → (b < lo ∨ hi ≤ b) → ExsG w es lo hi b o := by
  intro es
  induction es with
  | nil => intro lo hi b o h _; exact h
  | cons k n p c ks r ihk ihr =>
    rintro lo hi b o ⟨K, cap, b', mid, h0, hc, hm, hK, l1, l2, hk, hr⟩ hb
    have := hr.le
    exact ⟨K, cap, b', b', mid, h0, hc, hm, fun hn => ⟨hK hn, Nat.le_refl _, l2⟩, l1, by omega, (ihk hk (.inl (by omega))).wide (by omega) (Nat.le_refl _), ihr hr (by omega)⟩
theorem ExsG.app {w : World} : ∀ {es r : Es} {lo mid hi b o : Nat}, ExsG w es lo mid b o → ExsG w r mid hi b (o + es.len * 5) → ExsG w (es.app r) lo hi b o := by
  intro es
  induction es with
  | nil => intro r lo mid hi b o h hr; simp only [Es.len, Nat.zero_mul, Nat.add_zero] at hr; exact hr.wide h (Nat.le_refl _)
  | cons k n p c ks r' ihk ihr =>
    rintro r lo mid hi b o ⟨K, cap, b', l, h, h0, hc, hm, hK, l1, l2, hk, hr⟩ h2
    simp only [Es.len] at h2
    exact ⟨K, cap, b', l, h, h0, hc, hm, hK, l1, l2, hk, ihr hr (by rwa [show o + (r'.len + 1) * 5 = o + 5 + r'.len * 5 by omega] at h2)⟩

/-- marked expressions -/
def mkEs : Es → Int → Es
  | .nil, _ => .nil
  | .cons _ _ _ _ ks r, y => .cons y (y + 1) (y + 1 + 1) (y + 1 + 1 + 1) (mkEs ks (y + 1 + 1 + 1 + 1)) (mkEs r (y + 1 + 1 + 1 + 1 + 4 * ks.size))
theorem mkEs_len (es : Es) (y : Int) : (mkEs es y).len = es.len := by
  induction es generalizing y with
  | nil => rfl
  | cons k n p c ks r ihk ihr => simp only [mkEs, Es.len, ihr]
theorem mkEs_size (es : Es) (y : Int) : (mkEs es y).size = es.size := by
  induction es generalizing y with
  | nil => rfl
  | cons k n p c ks r ihk ihr => simp only [mkEs, Es.size, ihr, ihk]

theorem cs_ne (w : World) (b i j : Nat) (v : Value) (h : i ≠ j) : (w.setCell ⟨b, i, none⟩ v).cell? ⟨b, j, none⟩ = w.cell? ⟨b, j, none⟩ := World.cell?_setCell_other _ _ _ _ (fun e => by injection e with _ h' _; omega)
theorem cs_eq {w : World} {b i : Nat} {u : Value} (v : Value) (h : w.cell? ⟨b, i, none⟩ = some u) : (w.setCell ⟨b, i, none⟩ v).cell? ⟨b, i, none⟩ = some v := World.cell?_setCell_same _ _ _ h
theorem mk4_exM {w : World} {b o : Nat} {k n p c : Int} {v : Value} (h : ExM w b o k n p c v) (y : Int) : ExM (mk4 w b o y) b o y (y + 1) (y + 1 + 1) (y + 1 + 1 + 1) v := by
  obtain ⟨⟨h0, h1, h2, h3, h4⟩, hf⟩ := h
  refine ⟨⟨?_, ?_, ?_, ?_, ?_⟩, fun i hi => ?_⟩
  · unfold mk4
    rw [cs_ne _ _ _ _ _ (by omega), cs_ne _ _ _ _ _ (by omega), cs_ne _ _ _ _ _ (by omega), cs_eq _ h0]
  · unfold mk4
    rw [cs_ne _ _ _ _ _ (by omega), cs_ne _ _ _ _ _ (by omega), cs_eq (u := .int .i64 n) _ (by rw [cs_ne _ _ _ _ _ (by omega), h1])]
  · unfold mk4
    rw [cs_ne _ _ _ _ _ (by omega), cs_eq (u := .int .i64 p) _ (by rw [cs_ne _ _ _ _ _ (by omega), cs_ne _ _ _ _ _ (by omega), h2])]
  · unfold mk4
    rw [cs_eq (u := .int .i64 c) _ (by rw [cs_ne _ _ _ _ _ (by omega), cs_ne _ _ _ _ _ (by omega), cs_ne _ _ _ _ _ (by omega), h3])]
  · unfold mk4
    rw [cs_ne _ _ _ _ _ (by omega), cs_ne _ _ _ _ _ (by omega), cs_ne _ _ _ _ _ (by omega), cs_ne _ _ _ _ _ (by omega), h4]
  · exact (World.frozen?_setCell _ _ _ _).trans ((World.frozen?_setCell _ _ _ _).trans ((World.frozen?_setCell _ _ _ _).trans ((World.frozen?_setCell _ _ _ _).trans (hf i hi))))

theorem app_assoc (a b c : Es) : (a.app b).app c = a.app (b.app c) := by
  induction a with
  | nil => rfl
  | cons k n p c' ks r _ ihr => simp only [Es.app, ihr]
/-- the elements at one place, the tail behind them -/
theorem exsG_split {w : World} : ∀ {es r : Es} {lo hi b o : Nat}, ExsG w (es.app r) lo hi b o → ∃ mid, ExsG w es lo mid b o ∧ ExsG w r mid hi b (o + es.len * 5) := by
  intro es
  induction es with
  | nil => intro r lo hi b o h; exact ⟨lo, Nat.le_refl _, by simpa [Es.len, Es.app] using h⟩
  | cons k n p c ks r' ihk ihr =>
    rintro r lo hi b o ⟨K, cap, b', l, h, h0, hc, hm, hK, l1, l2, hk, hr⟩
    obtain ⟨mid, e1, e2⟩ := ihr hr
    exact ⟨mid, ⟨K, cap, b', l, h, h0, hc, hm, hK, l1, l2, hk, e1⟩, by simp only [Es.len]; rwa [show o + (r'.len + 1) * 5 = o + 5 + r'.len * 5 by omega]⟩

def MkG (es : Es) : Prop := ∀ (A : Option Addr) (cap b lo hi : Nat) (k : Int) (w : World), (0 < es.len → A = some ⟨b, 0, none⟩ ∧ b < w.heap.size) → ExsG w es lo hi b 0 → hi ≤ w.heap.size → es.size ≤ 1048576 → 0 ≤ k → k + 4 * es.size ≤ 1000000000000 →
  Calls Try.prog 19 #[.slice A es.len cap, .int .i64 k] w fun e w' => e = .returned (.int .i64 (k + 4 * es.size)) ∧ ExsG w' (mkEs es k) lo hi b 0 ∧ Only (fun q => (0 < es.len ∧ q = b) ∨ (lo ≤ q ∧ q < hi)) w w'

set_option maxHeartbeats 4000000 in
theorem markG_any : ∀ (m : Nat) (es : Es), es.size < m → MkG es := by
  intro m
  induction m with
  | zero => intro es h; omega
  | succ m ih =>
  intro es hm A cap b lo hi k w hA hM hhi hz k0 k1
  have IH := Lib.hid ih; clear ih
  have hls := Es.len_le_size es
  have HM := Lib.hid hM; clear hM
  go_enter Try.func19, Try.ntmps19
  go_wp2
  go_loopw [1, 5] (fun kk i wr => ∃ (j : Nat) (es' pre : Es) (y : Int) (lo' : Nat), i = .int .i64 (j : Int) ∧ kk = .int .i64 y ∧ pre.len = j ∧ j + es'.len = es.len ∧ Hid (y + 4 * es'.size = k + 4 * es.size) ∧ 0 ≤ y ∧ y ≤ 1000000000000 ∧ Hid (es'.size ≤ es.size) ∧ lo ≤ lo' ∧ Hid (ExsG wr pre lo lo' b 0) ∧ Hid (pre.app (mkEs es' y) = mkEs es k) ∧ Hid (ExsG wr es' lo' hi b (j * 5)) ∧
      Hid (Only (fun q => (0 < es.len ∧ q = b) ∨ (lo ≤ q ∧ q < hi)) w wr)) (fun _ i _ => es.len - (intOf i).toNat)
  case atStart =>
    refine ⟨0, es, .nil, k, lo, by go_num, by simp, rfl, by omega, rfl, k0, by omega, Nat.le_refl _, Nat.le_refl _, Nat.le_refl _, rfl, ?_, Only.refl _ _⟩
    show ExsG _ _ _ _ _ _; rw [Nat.zero_mul]; exact HM.out
  case round =>
    obtain ⟨j, es', pre, y, lo', rfl, rfl, hpj, hj, hy, y0, y1, hsz, hlo, HP, HPE, HE, HO⟩ := hrel
    cases es' with
    | nil =>
      simp only [Es.len] at hj
      go_wp2
      go_ret
      have := hy.out
      simp only [Es.size] at this
      refine ⟨ret_int (by omega), ?_, HO.out⟩
      have he := HPE.out
      simp only [mkEs, Es.app_nil] at he
      rw [← he]
      exact HP.out.wide (Nat.le_refl _) HE.out
    | cons kk n p c ks r =>
      simp only [Es.len] at hj
      obtain ⟨hA, hbw⟩ := hA (by omega)
      subst hA
      obtain ⟨K, cp, b', l, h, hx0, hc, hcm, hK, l1, l2, hks, hr⟩ := HE.out
      obtain ⟨⟨h0, h1, h2, h3, h4⟩, hf⟩ := id hx0
      have hle := hr.le
      have hlk := hks.le
      have f0 := hf 0 (by omega)
      have f1 := hf 1 (by omega)
      have f2 := hf 2 (by omega)
      have f3 := hf 3 (by omega)
      rw [Nat.add_zero] at f0
      have hbs : b < wr.heap.size := World.block_lt_of_cell? _ _ h0
      have hrs : Hid (r.size ≤ es.size ∧ ks.size < es.size ∧ y + 4 + 4 * ks.size + 4 * r.size = k + 4 * es.size) := by
        have := hsz.out
        have h2 := hy.out
        simp only [Es.size] at this h2
        exact ⟨by omega, by omega, by omega⟩
      have HX4 := Lib.hid (mk4_exM hx0 y)
      have HK4 : Hid (ExsG (mk4 wr b (j * 5) y) ks l h b' 0) := by
        cases ks with
        | nil => exact hks
        | cons _ _ _ _ _ _ =>
          have h3 := hK (by simp [Es.len])
          exact hks.keep (SameCells.of_block (mk4_block y (by omega)) _ _) (fun q q1 q2 _ => mk4_block y (by omega))
      have HR4 : Hid (ExsG (mk4 wr b (j * 5) y) r h hi b (j * 5 + 5)) := hr.keep ((mk4_same y _).sub (by omega) (Nat.le_refl _)) (fun q _ _ hq => mk4_block y hq)
      have HP4 : Hid (ExsG (mk4 wr b (j * 5) y) pre lo lo' b 0) := HP.out.keep (by
        rw [hpj, Nat.zero_add]
        unfold mk4
        exact (((SameCells.set_ (.inr (by omega))).trans (SameCells.set_ (.inr (by omega)))).trans (SameCells.set_ (.inr (by omega)))).trans (SameCells.set_ (.inr (by omega)))) (fun q _ _ hq => mk4_block y hq)
      have x4 : (mk4 wr b (j * 5) y).cell? ⟨b, j * 5 + 4, none⟩ = some (.slice K ks.len cp) := ((mk4_same y (j * 5 + 5)) _ (Nat.le_refl _) (by omega)).1.trans h4
      have HO4 := Lib.hid (HO.out.chain (mk4_only y (b := b) (o := j * 5)) (fun q _ e => .inl ⟨by omega, e⟩))
      have hsz4 : (mk4 wr b (j * 5) y).heap.size = wr.heap.size := by simp [mk4, World.setCell]
      have hbs4 := HO.out.size
      have HC4 := Lib.hid (IH.out ks (by have := hrs.out; omega) K cp b' l h (y + 1 + 1 + 1 + 1) (mk4 wr b (j * 5) y) (fun hn => ⟨(hK hn).1, by have := hK hn; omega⟩) HK4.out (by omega) (by have := hrs.out; omega) (by omega) (by have := hrs.out; omega))
      have HKb : Hid (0 < ks.len → K = some ⟨b', 0, none⟩ ∧ l ≤ b' ∧ b' < h) := hK
      clear hks hr HK4 HE IH hx0 HP hK
      unfold mk4 at x4 HC4
      go_wp2_with fail
      refine HC4.out.mono ?_; rintro e w1 ⟨rfl, hG1, hO1⟩
      have hO1' : ∀ q, q < wr.heap.size → ¬ (l ≤ q ∧ q < h) → w1.heap[q]? = (mk4 wr b (j * 5) y).heap[q]? := fun q hq hn => hO1.block q (by unfold mk4 at hsz4; omega) (fun hs => by
        rcases hs with ⟨h0, rfl⟩ | hs
        · exact hn (HKb.out h0).2
        · exact hn hs)
      have HR1 : Hid (ExsG w1 r h hi b ((j + 1) * 5)) := by
        have := HR4.out.keep (w' := w1) (SameCells.of_block (hO1' b hbs (by omega)) _ _) (fun q q1 q2 _ => hO1' q (by omega) (by omega))
        rwa [show j * 5 + 5 = (j + 1) * 5 by omega] at this
      have HP1 := HP4.out.keep (w' := w1) (SameCells.of_block (hO1' b hbs (by omega)) _ _) (fun q q1 q2 _ => hO1' q (by omega) (by omega))
      have hX1 : ExM w1 b (j * 5) y (y + 1) (y + 1 + 1) (y + 1 + 1 + 1) (.slice K ks.len cp) := HX4.out.keep (SameCells.of_block (hO1' b hbs (by omega)) _ _)
      have HO1 : Hid (Only (fun q => (0 < es.len ∧ q = b) ∨ (lo ≤ q ∧ q < hi)) w w1) := HO4.out.chain hO1 (fun q _ h => by
        rcases h with ⟨h0, rfl⟩ | h
        · have := HKb.out h0; exact .inr ⟨by omega, by omega⟩
        · exact .inr ⟨by omega, by omega⟩)
      obtain ⟨z, hzz⟩ : ∃ z, z = y + 1 + 1 + 1 + 1 + 4 * (ks.size : Int) := ⟨_, rfl⟩
      have HP2 : Hid (ExsG w1 (pre.app (.cons y (y + 1) (y + 1 + 1) (y + 1 + 1 + 1) (mkEs ks (y + 1 + 1 + 1 + 1)) .nil)) lo h b 0) :=
        HP1.app (mid := lo') ⟨K, cp, b', l, h, by rw [mkEs_len, Nat.zero_add, hpj]; exact hX1, by rw [mkEs_len]; exact hc, hcm, fun hn => by rw [mkEs_len] at hn; exact HKb.out hn, l1, l2, hG1, Nat.le_refl _⟩
      have HPE2 : Hid ((pre.app (.cons y (y + 1) (y + 1 + 1) (y + 1 + 1 + 1) (mkEs ks (y + 1 + 1 + 1 + 1)) .nil)).app (mkEs r z) = mkEs es k) := by
        show _ = _
        rw [← HPE.out, hzz]
        rw [app_assoc]
        rfl
      rw [← hzz]
      have z0 : 0 ≤ z := by omega
      have z1 : z ≤ 1000000000000 := by have := hrs.out; omega
      have HZ : Hid (z + 4 * r.size = k + 4 * es.size) := by have := hrs.out; show _ = _; omega
      clear hO1 HO4 HR4 x4 hzz HC4 HO hO1' HP1 hX1 HP4 HX4 hG1 HPE
      go_wp2
      go_roundw
      case rel => exact ⟨j + 1, r, _, z, h, by go_num, rfl, by rw [Es.app_len]; simp [Es.len, hpj], by omega, HZ, z0, z1, hrs.out.1, by omega, HP2, HPE2, HR1, HO1⟩
      case measure => simp [intOf]; omega

def HdC (es : Es) : Prop := ∀ (A : Option Addr) (cap b o B : Nat) (k : Int) (w : World), (0 < es.len → A = some ⟨b, o, none⟩) → ExsAt w B (mkEs es k) b o → B ≤ w.heap.size → es.size ≤ 1048576 → 0 ≤ k → k + 4 * es.size ≤ 1000000000000 →
  Calls Try.prog 20 #[.slice A es.len cap, .int .i64 k] w fun e w' => e = .returned (.int .i64 (k + 4 * es.size)) ∧ w = w'

set_option maxHeartbeats 2000000 in
theorem heldExprS_any : ∀ (m : Nat) (es : Es), es.size < m → HdC es := by
  intro m
  induction m with
  | zero => intro es h; omega
  | succ m ih =>
  intro es hm A cap b o B k w hA hE hB hz k0 k1
  have IH := Lib.hid ih; clear ih
  have hls := Es.len_le_size es
  have HE := Lib.hid hE; clear hE
  go_enter Try.func20, Try.ntmps20
  go_wp2
  go_loop [1, 5] (fun kk i => ∃ (j : Nat) (es' : Es) (y : Int), i = .int .i64 (j : Int) ∧ kk = .int .i64 y ∧ j + es'.len = es.len ∧ Hid (y + 4 * es'.size = k + 4 * es.size) ∧ 0 ≤ y ∧ y ≤ 1000000000000 ∧ Hid (es'.size ≤ es.size) ∧ Hid (ExsAt w B (mkEs es' y) b (o + j * 5))) (fun _ i => es.len - (intOf i).toNat)
  case atStart =>
    refine ⟨0, es, k, by go_num, rfl, by omega, rfl, k0, by omega, Nat.le_refl _, ?_⟩
    show ExsAt _ _ _ _ _; rw [Nat.zero_mul, Nat.add_zero]; exact HE.out
  case round =>
    obtain ⟨j, es', y, rfl, rfl, hj, hy, y0, y1, hsz, HR⟩ := hrel
    cases es' with
    | nil =>
      simp only [Es.len] at hj
      go_wp2
      go_ret
      have := hy.out
      simp only [Es.size] at this
      exact ⟨ret_int (by omega), rfl⟩
    | cons kk n p c ks r =>
      simp only [Es.len] at hj
      have hA := hA (by omega)
      subst hA
      obtain ⟨⟨hb, h0, h1, h2, h3, K, cp, b', o', h4, hc, hcm, hK, hks⟩, hr⟩ := HR.out
      rw [mkEs_len] at h4 hK
      have hrs : Hid (r.size ≤ es.size ∧ ks.size < es.size ∧ y + 4 + 4 * ks.size + 4 * r.size = k + 4 * es.size) := by
        have := hsz.out
        have h2 := hy.out
        simp only [Es.size] at this h2
        exact ⟨by omega, by omega, by omega⟩
      have HC := Lib.hid (IH.out ks (by have := hrs.out; omega) K cp b' o' B (y + 1 + 1 + 1 + 1) w hK hks hB (by have := hrs.out; omega) (by omega) (by have := hrs.out; omega))
      obtain ⟨z, hzz⟩ : ∃ z, z = y + 1 + 1 + 1 + 1 + 4 * (ks.size : Int) := ⟨_, rfl⟩
      have HR1 : Hid (ExsAt w B (mkEs r z) b (o + (j + 1) * 5)) := by
        show ExsAt _ _ _ _ _
        rw [hzz, show o + (j + 1) * 5 = o + j * 5 + 5 by omega]
        exact hr
      rw [← hzz] at HC
      have z0 : 0 ≤ z := by omega
      have z1 : z ≤ 1000000000000 := by have := hrs.out; omega
      have HZ : Hid (z + 4 * r.size = k + 4 * es.size) := by have := hrs.out; show _ = _; omega
      clear hks hr HR IH hzz
      go_wp2_with fail
      refine HC.out.mono ?_; rintro e w' ⟨rfl, rfl⟩
      go_wp2
      go_round
      case rel => exact ⟨j + 1, r, z, by go_num, rfl, by omega, HZ, z0, z1, hrs.out.1, HR1⟩
      case measure => simp [intOf]; omega

/-- an expression's kids in blocks of their own -/
def TreeR (lo hi : Nat) (ks : Es) (K : Option Addr) (w : World) : Prop := ∃ b, (0 < ks.len → K = some ⟨b, 0, none⟩ ∧ lo ≤ b ∧ b < hi) ∧ ExsG w ks lo hi b 0
theorem TreeR.keep {lo hi : Nat} {ks : Es} {K : Option Addr} {w w' : World} (h : TreeR lo hi ks K w) (hb : ∀ q, lo ≤ q → q < hi → w'.heap[q]? = w.heap[q]?) : TreeR lo hi ks K w' := by
  obtain ⟨b, h1, h2⟩ := h
  refine ⟨b, h1, ?_⟩
  cases ks with
  | nil => exact h2
  | cons _ _ _ _ _ _ =>
    have h3 := h1 (by simp [Es.len])
    exact h2.keep (SameCells.of_block (hb b h3.2.1 h3.2.2) _ _) (fun q h1 h2 _ => hb q h1 h2)
theorem TreeR.sl {lo hi B : Nat} {ks : Es} {K : Option Addr} {w : World} (h : TreeR lo hi ks K w) (hB : hi ≤ B) : ExSl w B ks K := by
  obtain ⟨b, h1, h2⟩ := h
  cases ks with
  | nil => exact ⟨0, 0, fun h => absurd h (by simp [Es.len]), trivial⟩
  | cons _ _ _ _ _ _ =>
    have h3 := h1 (by simp [Es.len])
    exact ⟨b, 0, fun _ => h3.1, h2.exs hB (by omega)⟩

end Go.Proofs.Ytmcaphbngfdfiaa

/- Polynomials as expressions, plainly. No program here. -/
namespace Go.Proofs.Ytmcaphbngfdfiaa
open Plain

def numN (n : Int) : Nd := ⟨1, n, 0, 0, .nil⟩
def varN (n : Int) : Nd := ⟨2, n, 0, 0, .nil⟩
def twoEs (x y : Nd) : Es := .cons x.k x.n x.p x.c x.ks (.cons y.k y.n y.p y.c y.ks .nil)
def opXN (k : Int) (x y : Nd) : Nd := ⟨k, 0, 0, 0, twoEs x y⟩
/-- times a power of a variable -/
def powN (x : Nd) (v : Int) : Nat → Nd
  | 0 => x
  | n + 1 => opXN 5 (powN x v n) (varN v)
/-- a term, its first k variables -/
def prodN (c : Int) (es : List Int) : Nat → Nd
  | 0 => numN c
  | k + 1 => powN (prodN c es k) k (cf es k).toNat
/-- the first k terms -/
def sumN (ts : List Term') : Nat → Nd
  | 0 => numN 0
  | k + 1 => if k = 0 then prodN (tmAt ts k).2 (tmAt ts k).1 (tmAt ts k).1.length else opXN 3 (sumN ts k) (prodN (tmAt ts k).2 (tmAt ts k).1 (tmAt ts k).1.length)
theorem powN_size (x : Nd) (v : Int) (n : Nat) : (powN x v n).ks.size = x.ks.size + 2 * n := by
  induction n with
  | zero => rfl
  | succ n ih => simp only [powN, opXN, twoEs, Es.size, varN, ih]; omega
theorem prodN_size {c : Int} {es : List Int} (h : expsOk es = true) (k : Nat) : ((prodN c es k).ks.size : Int) = 2 * degL es k := by
  induction k with
  | zero => rfl
  | succ k ih =>
    have := expsOk_bd h k
    simp only [prodN, degL, powN_size]
    omega
theorem sumN_size {v : Int} {ts : List Term'} (h : polyOk v ts = true) (k : Nat) (hk : k ≤ ts.length) : (sumN ts k).ks.size ≤ 26 * k := by
  induction k with
  | zero => simp [sumN, numN, Es.size]
  | succ k ih =>
    have ht := termOk_parts (polyOk_term h (show k < ts.length by omega))
    have hs := prodN_size (c := (tmAt ts k).2) ht.2.2.2.1 (tmAt ts k).1.length
    have := ht.2.2.2.2
    simp only [sumN]
    split
    · omega
    · have := ih (by omega)
      simp only [opXN, twoEs, Es.size]
      omega
/-- the expression and the code -/
def polyX (v : Int) (ts : List Term') : Nd × Int :=
  if polyOk v ts = true then (if (sumN ts ts.length).ks.size ≤ 399 ∧ (sumN ts ts.length).ks.depth ≤ 59 then (sumN ts ts.length, 0) else (⟨0, 0, 0, 0, .nil⟩, 3)) else (⟨0, 0, 0, 0, .nil⟩, 1)
theorem polyX_size (v : Int) (ts : List Term') : (polyX v ts).1.ks.size ≤ 399 := by
  unfold polyX
  split
  · split
    · rename_i h; exact h.1
    · simp [Es.size]
  · simp [Es.size]
end Go.Proofs.Ytmcaphbngfdfiaa

/- Walks: nodes made, both sides; trees of two kids. -/
namespace Go.Proofs.Ytmcaphbngfdfiaa
open Go.RowKit Plain

/-- an expression returned, its kids in blocks of the call's own -/
def NdPost (x : Nd) (w : World) (e : Ending) (w' : World) : Prop :=
  Below w.heap.size w w' ∧ ∃ K cap, e = .returned (exV x.k x.n x.p x.c K x.ks.len cap) ∧ x.ks.len ≤ cap ∧ cap ≤ maxLen ∧ TreeR w.heap.size w'.heap.size x.ks K w'
theorem TreeR.wide {lo hi lo' hi' : Nat} {ks : Es} {K : Option Addr} {w : World} (h : TreeR lo hi ks K w) (h1 : lo' ≤ lo) (h2 : hi ≤ hi') : TreeR lo' hi' ks K w := by
  obtain ⟨b, hb, he⟩ := h
  exact ⟨b, fun hn => by have := hb hn; exact ⟨this.1, by omega, by omega⟩, he.wide h1 h2⟩
theorem TreeR.le {lo hi : Nat} {ks : Es} {K : Option Addr} {w : World} (h : TreeR lo hi ks K w) : lo ≤ hi := by obtain ⟨b, _, he⟩ := h; exact he.le
theorem TreeR.nil {lo hi : Nat} (K : Option Addr) (w : World) (h : lo ≤ hi) : TreeR lo hi .nil K w := ⟨0, fun hn => absurd hn (by simp [Es.len]), h⟩
theorem TreeR.below {lo hi : Nat} {ks : Es} {K : Option Addr} {w w' : World} (h : TreeR lo hi ks K w) (hb : Below w.heap.size w w') (hh : hi ≤ w.heap.size) : TreeR lo hi ks K w' :=
  h.keep (fun q _ h2 => hb.block q (by omega))
theorem cellsExM {w : World} {g o : Nat} {t : TypeId} {C : List Value} {k n p c : Int} {v : Value} (h : Cells w g t C) (h0 : C[o]? = some (.int .i64 k)) (h1 : C[o + 1]? = some (.int .i64 n)) (h2 : C[o + 2]? = some (.int .i64 p)) (h3 : C[o + 3]? = some (.int .i64 c)) (h4 : C[o + 4]? = some v) : ExM w g o k n p c v :=
  ⟨⟨by rw [h.cell]; exact h0, by rw [h.cell]; exact h1, by rw [h.cell]; exact h2, by rw [h.cell]; exact h3, by rw [h.cell]; exact h4⟩, fun i _ => h.frozen _⟩
/-- two expressions' cells -/
def twoC (x : Nd) (K : Option Addr) (c : Nat) (y : Nd) (K' : Option Addr) (c' : Nat) : List Value :=
  [.int .i64 x.k, .int .i64 x.n, .int .i64 x.p, .int .i64 x.c, .slice K x.ks.len c, .int .i64 y.k, .int .i64 y.n, .int .i64 y.p, .int .i64 y.c, .slice K' y.ks.len c']
theorem treeTwo {w : World} {x y : Nd} {K K' : Option Addr} {c c' lo m hi g : Nat} {t : TypeId} (h : TreeR lo m x.ks K w) (h' : TreeR m hi y.ks K' w) (hg : hi ≤ g) (hc : x.ks.len ≤ c) (hm : c ≤ maxLen) (hc' : y.ks.len ≤ c') (hm' : c' ≤ maxLen) (hC : Cells w g t (twoC x K c y K' c')) :
    TreeR lo (g + 1) (twoEs x y) (some ⟨g, 0, none⟩) w := by
  obtain ⟨b, hb, he⟩ := h
  obtain ⟨b', hb', he'⟩ := h'
  have h1 := he.le
  have h2 := he'.le
  exact ⟨g, fun _ => ⟨rfl, by omega, by omega⟩, K, c, b, lo, m, cellsExM hC rfl rfl rfl rfl rfl, hc, hm, hb, Nat.le_refl _, .inr (by omega), he,
    K', c', b', m, hi, cellsExM hC rfl rfl rfl rfl rfl, hc', hm', hb', Nat.le_refl _, .inr hg, he', by show hi ≤ g + 1; omega⟩

theorem numS_any (n : Int) (w : World) : Calls Try.prog 22 #[.int .i64 n] w fun e w' => e = .returned (exV 1 n 0 0 none 0 0) ∧ Below w.heap.size w w' := by
  go_enter Try.func22, Try.ntmps22
  go_wp2
  refine bodyPost_ret (v := exV 1 n 0 0 none 0 0) (by simp [results, Try.results22, go_sem]) rfl ?_
  exact ⟨rfl, by go_grown⟩
theorem varS_any (n : Int) (w : World) : Calls Try.prog 21 #[.int .i64 n] w fun e w' => e = .returned (exV 2 n 0 0 none 0 0) ∧ Below w.heap.size w w' := by
  go_enter Try.func21, Try.ntmps21
  go_wp2
  refine bodyPost_ret (v := exV 2 n 0 0 none 0 0) (by simp [results, Try.results21, go_sem]) rfl ?_
  exact ⟨rfl, by go_grown⟩
theorem numI_any (n : Int) (w : World) : Calls Try.prog 12 #[.int .i64 n] w fun e w' => e = .returned (exV 1 n 0 0 none 0 0) ∧ Below w.heap.size w w' := by
  go_enter Try.func12, Try.ntmps12
  go_wp2
  refine bodyPost_ret (v := exV 1 n 0 0 none 0 0) (by simp [results, Try.results12, go_sem]) rfl ?_
  exact ⟨rfl, by go_grown⟩
theorem varI_any (n : Int) (w : World) : Calls Try.prog 11 #[.int .i64 n] w fun e w' => e = .returned (exV 2 n 0 0 none 0 0) ∧ Below w.heap.size w w' := by
  go_enter Try.func11, Try.ntmps11
  go_wp2
  refine bodyPost_ret (v := exV 2 n 0 0 none 0 0) (by simp [results, Try.results11, go_sem]) rfl ?_
  exact ⟨rfl, by go_grown⟩
theorem nodeI_any (k : Int) (K : Option Addr) (n c : Nat) (w : World) : Calls Try.prog 14 #[.int .i64 k, .slice K n c] w fun e w' => e = .returned (exV k 0 0 0 K n c) ∧ Below w.heap.size w w' := by
  go_enter Try.func14, Try.ntmps14
  go_wp2
  refine bodyPost_ret (v := exV k 0 0 0 K n c) (by simp [results, Try.results14, go_sem]) rfl ?_
  exact ⟨rfl, by go_grown⟩

set_option maxHeartbeats 1000000 in
theorem opS_any (k k1 n1 p1 c1 k2 n2 p2 c2 : Int) (K1 K2 : Option Addr) (l1 a1 l2 a2 : Nat) (w : World) :
    Calls Try.prog 24 #[.int .i64 k, exV k1 n1 p1 c1 K1 l1 a1, exV k2 n2 p2 c2 K2 l2 a2] w fun e w' => ∃ g, e = .returned (exV k 0 0 0 (some ⟨g, 0, none⟩) 2 2) ∧ w.heap.size ≤ g ∧ g < w'.heap.size ∧ Below w.heap.size w w' ∧
      Cells w' g 29 [.int .i64 k1, .int .i64 n1, .int .i64 p1, .int .i64 c1, .slice K1 l1 a1, .int .i64 k2, .int .i64 n2, .int .i64 p2, .int .i64 c2, .slice K2 l2 a2] := by
  go_enter Try.func24, Try.ntmps24
  go_wp2
  refine bodyPost_ret (v := exV k 0 0 0 (some ⟨w.heap.size + 1 + 1 + 1, 0, none⟩) 2 2) (by simp [results, Try.results24, go_sem]) rfl ?_
  refine ⟨w.heap.size + 1 + 1 + 1, rfl, by omega, by simp, by go_grown, ?_⟩
  have h := Cells.new (((w.alloc (.cells #[.int .i64 k1, .int .i64 n1, .int .i64 p1, .int .i64 c1, .slice K1 l1 a1] 29)).alloc (.cells #[.int .i64 k2, .int .i64 n2, .int .i64 p2, .int .i64 c2, .slice K2 l2 a2] 29)).alloc (.cells #[.int .i64 k, .int .i64 0, .int .i64 0, .int .i64 0, .slice (some ⟨w.heap.size + 1 + 1 + 1, 0, none⟩) 2 2] 29)) 29 [.int .i64 k1, .int .i64 n1, .int .i64 p1, .int .i64 c1, .slice K1 l1 a1, .int .i64 k2, .int .i64 n2, .int .i64 p2, .int .i64 c2, .slice K2 l2 a2]
  simpa using h

/-- an expression's box -/
abbrev exC (x : Nd) (K : Option Addr) (c : Nat) : List Value := [.int .i64 x.k, .int .i64 x.n, .int .i64 x.p, .int .i64 x.c, .slice K x.ks.len c]
/-- an expression in a box, its kids in later blocks -/
structure BoxT (w : World) (b : Nat) (x : Nd) (K : Option Addr) (c : Nat) : Prop where
  box : Cells w b 29 (exC x K c)
  cl : x.ks.len ≤ c
  cm : c ≤ maxLen
  tree : TreeR (b + 1) w.heap.size x.ks K w
theorem BoxT.next {w w' : World} {b : Nat} {x : Nd} {K : Option Addr} {c : Nat} (h : BoxT w b x K c) (hb : Below w.heap.size w w') : BoxT w' b x K c :=
  ⟨h.box.next hb, h.cl, h.cm, (h.tree.below hb (Nat.le_refl _)).wide (Nat.le_refl _) hb.size⟩
/-- a store of an expression -/
def putX (w : World) (b : Nat) (k n p c : Int) (v : Value) : World := ((((w.setCell ⟨b, 0, none⟩ (.int .i64 k)).setCell ⟨b, 1, none⟩ (.int .i64 n)).setCell ⟨b, 2, none⟩ (.int .i64 p)).setCell ⟨b, 3, none⟩ (.int .i64 c)).setCell ⟨b, 4, none⟩ v
theorem putX_block {w : World} {b : Nat} {k n p c : Int} {v : Value} {q : Nat} (hq : q ≠ b) : (putX w b k n p c v).heap[q]? = w.heap[q]? :=
  (Below.heap_setCell _ _ _ _ hq).trans ((Below.heap_setCell _ _ _ _ hq).trans ((Below.heap_setCell _ _ _ _ hq).trans ((Below.heap_setCell _ _ _ _ hq).trans (Below.heap_setCell _ _ _ _ hq))))
theorem putX_size {w : World} {b : Nat} {k n p c : Int} {v : Value} : (putX w b k n p c v).heap.size = w.heap.size := by simp [putX, World.setCell]
theorem putX_cells {w : World} {b : Nat} {y x : Nd} {K' K : Option Addr} {c' c : Nat} (h : Cells w b 29 (exC y K' c')) : Cells (putX w b x.k x.n x.p x.c (.slice K x.ks.len c)) b 29 (exC x K c) :=
  ((((h.set_ 0 (.int .i64 x.k)).set_ 1 (.int .i64 x.n)).set_ 2 (.int .i64 x.p)).set_ 3 (.int .i64 x.c)).set_ 4 (.slice K x.ks.len c)
theorem putX_far {w : World} {b q : Nat} {k n p c : Int} {v : Value} {t : TypeId} {C : List Value} (h : Cells w q t C) (hq : q ≠ b) : Cells (putX w b k n p c v) q t C := (putX_block hq).trans h
theorem putX_below {w0 w : World} {B b : Nat} {k n p c : Int} {v : Value} (h : Below B w0 w) (hb : B ≤ b) : Below B w0 (putX w b k n p c v) :=
  ((((h.setCell (p := ⟨b, 0, none⟩) hb _).setCell (p := ⟨b, 1, none⟩) hb _).setCell (p := ⟨b, 2, none⟩) hb _).setCell (p := ⟨b, 3, none⟩) hb _).setCell (p := ⟨b, 4, none⟩) hb _
/-- a tree stored into its box -/
theorem BoxT.put {w : World} {b : Nat} {y : Nd} (x : Nd) {K' K : Option Addr} {c' c : Nat} (h : Cells w b 29 (exC y K' c')) (cl : x.ks.len ≤ c) (cm : c ≤ maxLen) (ht : TreeR (b + 1) w.heap.size x.ks K w) : BoxT (putX w b x.k x.n x.p x.c (.slice K x.ks.len c)) b x K c :=
  ⟨putX_cells h, cl, cm, by rw [putX_size]; exact ht.keep (fun q h1 _ => putX_block (by omega))⟩
/-- what the store of a result reads and writes -/
theorem resBox {w : World} {b : Nat} {x : Nd} {K : Option Addr} {c : Nat} (h : Cells w b 29 [.int .i64 0, .int .i64 0, .int .i64 0, .int .i64 0, .slice none 0 0]) :
    (w.cell? ⟨b, 0, none⟩ = some (.int .i64 0) ∧ w.cell? ⟨b, 1, none⟩ = some (.int .i64 0) ∧ w.cell? ⟨b, 2, none⟩ = some (.int .i64 0) ∧ w.cell? ⟨b, 3, none⟩ = some (.int .i64 0) ∧ w.cell? ⟨b, 4, none⟩ = some (.slice none 0 0)) ∧
    (w.frozen? ⟨b, 0, none⟩ = false ∧ w.frozen? ⟨b, 1, none⟩ = false ∧ w.frozen? ⟨b, 2, none⟩ = false ∧ w.frozen? ⟨b, 3, none⟩ = false ∧ w.frozen? ⟨b, 4, none⟩ = false) ∧
    (w.setCell ⟨b, 0, none⟩ (.int .i64 x.k)).cell? ⟨b, 0, none⟩ = some (.int .i64 x.k) ∧
    ((w.setCell ⟨b, 0, none⟩ (.int .i64 x.k)).setCell ⟨b, 1, none⟩ (.int .i64 x.n)).cell? ⟨b, 1, none⟩ = some (.int .i64 x.n) ∧
    (((w.setCell ⟨b, 0, none⟩ (.int .i64 x.k)).setCell ⟨b, 1, none⟩ (.int .i64 x.n)).setCell ⟨b, 2, none⟩ (.int .i64 x.p)).cell? ⟨b, 2, none⟩ = some (.int .i64 x.p) ∧
    ((((w.setCell ⟨b, 0, none⟩ (.int .i64 x.k)).setCell ⟨b, 1, none⟩ (.int .i64 x.n)).setCell ⟨b, 2, none⟩ (.int .i64 x.p)).setCell ⟨b, 3, none⟩ (.int .i64 x.c)).cell? ⟨b, 3, none⟩ = some (.int .i64 x.c) ∧
    (((((w.setCell ⟨b, 0, none⟩ (.int .i64 x.k)).setCell ⟨b, 1, none⟩ (.int .i64 x.n)).setCell ⟨b, 2, none⟩ (.int .i64 x.p)).setCell ⟨b, 3, none⟩ (.int .i64 x.c)).setCell ⟨b, 4, none⟩ (.slice K x.ks.len c)).cell? ⟨b, 4, none⟩ = some (.slice K x.ks.len c) := by
  have h1 := h.set_ 0 (.int .i64 x.k)
  have h2 := h1.set_ 1 (.int .i64 x.n)
  have h3 := h2.set_ 2 (.int .i64 x.p)
  have h4 := h3.set_ 3 (.int .i64 x.c)
  have h5 := h4.set_ 4 (.slice K x.ks.len c)
  exact ⟨⟨by rw [h.cell]; rfl, by rw [h.cell]; rfl, by rw [h.cell]; rfl, by rw [h.cell]; rfl, by rw [h.cell]; rfl⟩, ⟨h.frozen _, h.frozen _, h.frozen _, h.frozen _, h.frozen _⟩,
    by rw [h1.cell]; rfl, by rw [h2.cell]; rfl, by rw [h3.cell]; rfl, by rw [h4.cell]; rfl, by rw [h5.cell]; rfl⟩
theorem resTree {w : World} {b be : Nat} {x : Nd} {K : Option Addr} {c : Nat} {k n p d : Int} {v : Value} (h : BoxT w be x K c) (hb : b < be) : TreeR b (putX w b k n p d v).heap.size x.ks K (putX w b k n p d v) := by
  rw [putX_size]
  exact (h.tree.keep (fun q h1 _ => putX_block (by omega))).wide (by omega) (Nat.le_refl _)

end Go.Proofs.Ytmcaphbngfdfiaa

/- Walks: terms as expressions, in the spec. -/
namespace Go.Proofs.Ytmcaphbngfdfiaa
open Go.RowKit Plain

theorem powN_len (x : Nd) (v : Int) (n : Nat) : (powN x v n).ks.len = if n = 0 then x.ks.len else 2 := by cases n <;> rfl

end Go.Proofs.Ytmcaphbngfdfiaa
