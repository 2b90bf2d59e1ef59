/- Texts put together: PTwo, PScl, WTwo, WConcat, WPlus, WSink, WScl. -/
import Derived.Test.YtmcaphbngfdfiaaKSG
import Derived.Test.YtmcaphbngfdfiaaKSE
import Derived.Lib.AppendZerosOnto
import Derived.StillTailTactics
import Derived.Deep.RegionHeld
import Derived.Test.YtmcaphbngfdfiaaKSF

/- Plain: what is made of two polynomials, or why nothing is. -/
namespace Go.Proofs.Ytmcaphbngfdfiaa
open Plain

/-- the polynomial R that is made of two, or why there is none -/
def twoV (u : Int) (ts : List Term') (v : Int) (us R : List Term') : (Int × List Term') × Int :=
  if polyOk u ts = true ∧ polyOk v us = true then (if u = v then (if polyOk u R = true then ((u, R), 0) else ((0, []), 3)) else ((0, []), 2)) else ((0, []), 1)
theorem twoV_bad1 {u v : Int} {ts us R : List Term'} (h : polyOk u ts = false) : twoV u ts v us R = ((0, []), 1) := by unfold twoV; rw [if_neg (by rw [h]; simp)]
theorem twoV_bad2 {u v : Int} {ts us R : List Term'} (h : polyOk v us = false) : twoV u ts v us R = ((0, []), 1) := by unfold twoV; rw [if_neg (by rw [h]; simp)]
theorem twoV_vars {u v : Int} {ts us R : List Term'} (h1 : polyOk u ts = true) (h2 : polyOk v us = true) (h : u ≠ v) : twoV u ts v us R = ((0, []), 2) := by unfold twoV; rw [if_pos ⟨h1, h2⟩, if_neg h]
theorem twoV_big {u : Int} {ts us R : List Term'} (h1 : polyOk u ts = true) (h2 : polyOk u us = true) (h : polyOk u R = false) : twoV u ts u us R = ((0, []), 3) := by unfold twoV; rw [if_pos ⟨h1, h2⟩, if_pos rfl, if_neg (by rw [h]; simp)]
theorem twoV_ok {u : Int} {ts us R : List Term'} (h1 : polyOk u ts = true) (h2 : polyOk u us = true) (h : polyOk u R = true) : twoV u ts u us R = ((u, R), 0) := by unfold twoV; rw [if_pos ⟨h1, h2⟩, if_pos rfl, if_pos h]
theorem totT_valid {u : Int} {R : List Term'} (h : polyOk u R = true) : R.length ≤ 120 ∧ totT R ≤ 1440 := by
  have h1 := polyOk_size h
  have h2 := totT_le_mul (polyOk_len' h)
  have h3 : R.length * u.toNat ≤ 120 * 12 := Nat.mul_le_mul h1.2.2 (by omega)
  exact ⟨h1.2.2, by omega⟩
theorem twoV_bd (u : Int) (ts : List Term') (v : Int) (us R : List Term') : (twoV u ts v us R).1.2.length ≤ 120 ∧ totT (twoV u ts v us R).1.2 ≤ 1440 := by
  unfold twoV
  split
  · split
    · split
      · rename_i h; exact totT_valid h
      · simp [totT, tot]
    · simp [totT, tot]
  · simp [totT, tot]

/-- the sum of two valid polynomials: valid but for its length -/
theorem addOk {u : Int} {ts us R : List Term'} (h1 : polyOk u ts = true) (h2 : polyOk u us = true) (hc : Canon R) (hco : ∀ e, cof R e = cof (ts ++ us) e) : polyOk u R = decide (R.length ≤ 120) := by
  refine form_ok ?_ hc hco fun x hx => ?_
  · unfold polyOk at h1
    simp only [Bool.and_eq_true] at h1
    exact h1.1.1
  · rcases List.mem_append.1 hx with hx | hx
    · exact ⟨x, polyOk_mem h1 hx, rfl⟩
    · exact ⟨x, polyOk_mem h2 hx, rfl⟩

theorem bdAdd {u : Int} {ts us : List Term'} (h1 : polyOk u ts = true) (h2 : polyOk u us = true) : (nfT (ts ++ us)).length ≤ 240 ∧ totT (nfT (ts ++ us)) ≤ 1048576 := by
  obtain ⟨s1, s2⟩ := nfT_spec (ts ++ us)
  rw [List.length_append] at s2
  have z1 := polyOk_size h1
  have z2 := polyOk_size h2
  have hl : LenT u.toNat (nfT (ts ++ us)) := fun t ht => by
    obtain ⟨s, hs, e⟩ := s1 t ht
    rw [← e]
    rcases List.mem_append.1 hs with hs | hs
    · exact polyOk_len' h1 s hs
    · exact polyOk_len' h2 s hs
  have h4 := totT_le_mul hl
  have h5 : (nfT (ts ++ us)).length * u.toNat ≤ 240 * 12 := Nat.mul_le_mul (by omega) (by omega)
  exact ⟨by omega, by omega⟩

end Go.Proofs.Ytmcaphbngfdfiaa

/- Plain: a polynomial times a number; sums of a polynomial and a multiple of another. -/
namespace Go.Proofs.Ytmcaphbngfdfiaa
open Plain

/-- each coefficient times k -/
def sclT (k : Int) (ts : List Term') : List Term' := ts.map fun t => (t.1, tm t.2 k)
theorem sclT_length (k : Int) (ts : List Term') : (sclT k ts).length = ts.length := by unfold sclT; exact List.length_map _
theorem sclT_take (k : Int) (ts : List Term') (i : Nat) : sclT k (ts.take i) = (sclT k ts).take i := by unfold sclT; exact List.map_take ..
theorem sclT_at {k : Int} {ts : List Term'} {i : Nat} (h : i < ts.length) : tmAt (sclT k ts) i = ((tmAt ts i).1, tm (tmAt ts i).2 k) := by
  unfold tmAt sclT
  simp [List.getD, h]
theorem tm_bd1 {a b : Int} (h0 : 1 ≤ a) (h1 : a ≤ 1000002) (k0 : 1 ≤ b) (k1 : b ≤ 1000002) : 1 ≤ tm a b ∧ tm a b ≤ 1000002 := by
  have h := tm_bd a b
  have := prod_ne h0 h1 k0 k1
  omega
theorem Canon.scl {ts : List Term'} (h : Canon ts) {k : Int} (k0 : 1 ≤ k) (k1 : k ≤ 1000002) : Canon (sclT k ts) := by
  refine ⟨?_, fun t ht => ?_⟩
  · unfold sclT
    exact List.pairwise_map.2 (h.asc.imp fun h => h)
  · unfold sclT at ht
    obtain ⟨s, hs, rfl⟩ := List.mem_map.1 ht
    have := h.coef s hs
    exact tm_bd1 this.1 this.2 k0 k1
theorem sclT_len {k : Int} {ts : List Term'} {n : Nat} (h : LenT n ts) : LenT n (sclT k ts) := fun t ht => by
  unfold sclT at ht
  obtain ⟨s, hs, rfl⟩ := List.mem_map.1 ht
  exact h s hs
theorem tm_oneR {c : Int} (h0 : 1 ≤ c) (h1 : c ≤ 1000002) : tm c 1 = c := by unfold tm; omega
theorem sclT_one {ts : List Term'} (h : Canon ts) : sclT 1 ts = ts := by
  unfold sclT
  have : ∀ t ∈ ts, (t.1, tm t.2 1) = t := fun t ht => by
    have := h.coef t ht
    rw [tm_oneR this.1 this.2]
  rw [List.map_congr_left this, List.map_id']
theorem totT_scl (k : Int) (ts : List Term') : totT (sclT k ts) = totT ts := by
  unfold totT sclT
  rw [List.map_map]; rfl
theorem polyOk_scl {u k : Int} {ts : List Term'} (h : polyOk u ts = true) (k0 : 1 ≤ k) (k1 : k ≤ 1000002) : polyOk u (sclT k ts) = true := by
  have hc := (polyOk_canon h).scl k0 k1
  have hv : inR u 0 12 = true := by
    unfold polyOk at h
    simp only [Bool.and_eq_true] at h
    exact h.1.1
  rw [polyOk_of hv (fun t ht => ?_) hc.asc]
  · rw [sclT_length]
    have := (polyOk_size h).2.2
    simpa using this
  · have hc2 := hc.coef t ht
    unfold sclT at ht
    obtain ⟨s, hs, rfl⟩ := List.mem_map.1 ht
    exact termOk_of_exps (polyOk_mem h hs) rfl hc2.1 hc2.2
theorem tm_pl (a b k : Int) : tm (pl a b) k = pl (tm a k) (tm b k) := by
  unfold tm pl
  rw [mull, Int.add_mul]
  omega
theorem cof_scl (k : Int) (ts : List Term') (e : List Int) : cof (sclT k ts) e = tm (cof ts e) k := by
  induction ts with
  | nil => simp [sclT, cof, tm]
  | cons t ts ih =>
    show cof ((t.1, tm t.2 k) :: sclT k ts) e = _
    unfold cof
    rw [ih]
    by_cases he : t.1 = e
    · rw [if_pos he, if_pos he, tm_pl]
    · rw [if_neg he, if_neg he]

/-! ### every list of terms has its one form -/
theorem split_lt (ts : List Term') (e : List Int) : ∃ P S, ts = P ++ S ∧ (∀ p ∈ P, cmpL p.1 e < 0) ∧ ∀ s S', S = s :: S' → ¬ cmpL s.1 e < 0 := by
  induction ts with
  | nil => exact ⟨[], [], rfl, fun p h => by simp at h, fun s S' h => by simp at h⟩
  | cons t ts ih =>
    by_cases h : cmpL t.1 e < 0
    · obtain ⟨P, S, h1, h2, h3⟩ := ih
      refine ⟨t :: P, S, by rw [h1]; rfl, fun p hp => ?_, h3⟩
      rcases List.mem_cons.1 hp with rfl | hp
      · exact h
      · exact h2 p hp
    · exact ⟨[], t :: ts, rfl, fun p h => by simp at h, fun s S' hs => by injection hs with h1 h2; subst h1; exact h⟩
theorem put_ex {R : List Term'} (h : Canon R) (e : List Int) {c : Int} (c0 : 0 ≤ c) (c1 : c ≤ 1000002) : ∃ R', Canon R' ∧ ∀ x, cof R' x = if e = x then pl c (cof R e) else cof R x := by
  obtain ⟨P, S, hR, hP, hS⟩ := split_lt R e
  subst hR
  cases S with
  | nil => exact ⟨_, put_new h hP (fun s hs => by simp at hs) c0 c1⟩
  | cons s S' =>
    have h1 := hS s S' rfl
    by_cases h2 : cmpL s.1 e = 0
    · have he := cmpL_eq h2
      obtain ⟨s1, s2⟩ := s
      simp only at he
      subst he
      exact ⟨_, put_at h⟩
    · have h3 : cmpL e s.1 < 0 := by have := cmpL_swap s.1 e; omega
      refine ⟨_, put_new h hP (fun x hx => ?_) c0 c1⟩
      rcases List.mem_cons.1 hx with rfl | hx
      · exact h3
      · exact cmpL_trans h3 ((List.pairwise_cons.1 (List.pairwise_append.1 h.asc).2.1).1 x hx)
theorem nf_ex (L : List Term') : ∃ R, Canon R ∧ ∀ e, cof R e = cof L e := by
  induction L with
  | nil => exact ⟨[], Canon.nil, fun _ => rfl⟩
  | cons t L ih =>
    obtain ⟨R, h1, h2⟩ := ih
    obtain ⟨R', h3, h4⟩ := put_ex h1 t.1 (rs_bd t.2).1 (rs_bd t.2).2
    refine ⟨R', h3, fun x => ?_⟩
    rw [h4]
    show _ = if t.1 = x then pl t.2 (cof L x) else cof L x
    by_cases hx : t.1 = x
    · rw [if_pos hx, if_pos hx, h2, hx]; unfold pl rs; omega
    · rw [if_neg hx, if_neg hx, h2]
theorem nfT_canon (L : List Term') : Canon (nfT L) := by
  obtain ⟨R, h1, h2⟩ := nf_ex L
  rw [← nfT_eq h1 h2]; exact h1
theorem nfT_cof (L : List Term') (e : List Int) : cof (nfT L) e = cof L e := by
  obtain ⟨R, h1, h2⟩ := nf_ex L
  rw [← nfT_eq h1 h2]; exact h2 e
theorem nfT_same {L M : List Term'} (h : ∀ e, cof L e = cof M e) : nfT L = nfT M := nfT_eq (nfT_canon L) fun e => by rw [nfT_cof, h]
theorem nfT_self {L : List Term'} (h : Canon L) : nfT L = L := (nfT_eq h fun _ => rfl).symm

end Go.Proofs.Ytmcaphbngfdfiaa

/- Walks: three boxes of a function of two polynomials; what it returns. -/
namespace Go.Proofs.Ytmcaphbngfdfiaa
open Go.RowKit Plain

theorem boxes3 {w W0 : World} {u v : Int} {A1 A2 : Option Addr} {n1 n2 c1 c2 : Nat} (hW0 : W0 = ((w.alloc (.cells #[.int .i64 u, .slice A1 n1 c1] 64)).alloc (.cells #[.int .i64 v, .slice A2 n2 c2] 64)).alloc (.cells #[.int .i64 0, .slice none 0 0] 64)) :
    Below w.heap.size w W0 ∧ Cells W0 w.heap.size 64 [.int .i64 u, .slice A1 n1 c1] ∧ Cells W0 (w.heap.size + 1) 64 [.int .i64 v, .slice A2 n2 c2] ∧ Cells W0 (w.heap.size + 2) 64 [.int .i64 0, .slice none 0 0] := by
  subst hW0
  refine ⟨by go_grown, (Cells.new w 64 [.int .i64 u, .slice A1 n1 c1]).next (by go_grown), ?_, ?_⟩
  · have := (Cells.new (w.alloc (.cells #[.int .i64 u, .slice A1 n1 c1] 64)) 64 [.int .i64 v, .slice A2 n2 c2]).next (w' := ((w.alloc (.cells #[.int .i64 u, .slice A1 n1 c1] 64)).alloc (.cells #[.int .i64 v, .slice A2 n2 c2] 64)).alloc (.cells #[.int .i64 0, .slice none 0 0] 64)) (by go_grown)
    simpa using this
  · have := Cells.new ((w.alloc (.cells #[.int .i64 u, .slice A1 n1 c1] 64)).alloc (.cells #[.int .i64 v, .slice A2 n2 c2] 64)) 64 [.int .i64 0, .slice none 0 0]
    simpa using this
theorem retQ2 {w w1 : World} {v0 c : Int} {A : Option Addr} {cp lo : Nat} {R : List Term'} (hb : Below w.heap.size w w1) (h : RT w1 lo w1.heap.size A R) (hlo : w.heap.size + 2 < lo) (x y : Value) :
    RetQi (v0, R) c w (.returned (.tuple #[poV v0 A R.length cp, .int .i64 c])) ((w1.setCell ⟨w.heap.size + 2, 0, none⟩ x).setCell ⟨w.heap.size + 2, 1, none⟩ y) := by
  have hO2 : Only (fun q => q = w.heap.size + 2) w1 ((w1.setCell ⟨w.heap.size + 2, 0, none⟩ x).setCell ⟨w.heap.size + 2, 1, none⟩ y) :=
    ⟨rfl, rfl, rfl, by simp [World.setCell], fun q _ hq => (Below.heap_setCell _ _ _ _ hq).trans (Below.heap_setCell _ _ _ _ hq)⟩
  have h2 := h.only hO2 (fun q hq _ e => by have e' : q = w.heap.size + 2 := e; omega)
  have hs : ((w1.setCell ⟨w.heap.size + 2, 0, none⟩ x).setCell ⟨w.heap.size + 2, 1, none⟩ y).heap.size = w1.heap.size := by simp [World.setCell]
  exact ⟨(hb.setCell (p := ⟨w.heap.size + 2, 0, none⟩) (by simp) _).setCell (p := ⟨w.heap.size + 2, 1, none⟩) (by simp) _, A, cp, rfl, RT.lowerR h2 (by omega) (by rw [hs]; exact Nat.le_refl _)⟩

end Go.Proofs.Ytmcaphbngfdfiaa

/- Walks: slices.Concat of two slices of terms (the row is new, the exponents are shared). -/
namespace Go.Proofs.Ytmcaphbngfdfiaa
open Go.RowKit Plain

/-- terms in memory, as cells -/
structure TmC (w : World) (A : Option Addr) (ts : List Term') (us : List (Value × Int)) : Prop where
  len : us.length = ts.length
  cells : 0 < ts.length → ∃ b o, A = some ⟨b, o, none⟩ ∧ b < w.heap.size ∧ ∀ j u, (cellsT us)[j]? = some u → w.cell? ⟨b, o + j, none⟩ = some u
  row : ∀ (i : Nat) (x : Value × Int) (t : Term'), us[i]? = some x → ts[i]? = some t → x.2 = t.2 ∧ ∃ Ai cap, x.1 = .slice Ai t.1.length cap ∧ Ints w Ai t.1
theorem TmsAt.cellsC {w : World} {A : Option Addr} {ts : List Term'} (h : TmsAt w A ts) : ∃ us, TmC w A ts us := by
  by_cases h0 : 0 < ts.length
  · obtain ⟨b, o, rfl, hb, hc⟩ := h h0
    have hu : ∀ i x, ((List.range ts.length).map fun i => ((w.cell? ⟨b, o + i * 2, none⟩).getD (.int .i64 0), (tmAt ts i).2))[i]? = some x → i < ts.length ∧ x = ((w.cell? ⟨b, o + i * 2, none⟩).getD (.int .i64 0), (tmAt ts i).2) := by
      intro i x hx
      rw [List.getElem?_map] at hx
      obtain ⟨k, hk, rfl⟩ := Option.map_eq_some_iff.1 hx
      have hk2 := List.getElem?_eq_some_iff.1 hk
      obtain ⟨h1, h2⟩ := hk2
      simp at h1 h2
      subst h2
      exact ⟨h1, rfl⟩
    refine ⟨(List.range ts.length).map fun i => ((w.cell? ⟨b, o + i * 2, none⟩).getD (.int .i64 0), (tmAt ts i).2), by simp, fun _ => ⟨b, o, rfl, hb, fun j u hj => ?_⟩, fun i x t hx ht => ?_⟩
    · have hjl := (List.getElem?_eq_some_iff.1 hj).1
      rw [cellsT_length] at hjl
      simp at hjl
      have hi : j / 2 < ts.length := by omega
      have hx : ((List.range ts.length).map fun i => ((w.cell? ⟨b, o + i * 2, none⟩).getD (.int .i64 0), (tmAt ts i).2))[j / 2]? = some ((w.cell? ⟨b, o + j / 2 * 2, none⟩).getD (.int .i64 0), (tmAt ts (j / 2)).2) := by
        rw [List.getElem?_map, List.getElem?_range hi]; rfl
      obtain ⟨g1, g2⟩ := cellsT_get hx
      obtain ⟨Ai, cap, c1, c2, _, _⟩ := hc (j / 2) _ (tm_get hi)
      rcases Nat.mod_two_eq_zero_or_one j with e | e
      · rw [show j = j / 2 * 2 by omega] at hj
        rw [g1] at hj
        injection hj with hj
        rw [c1] at hj
        rw [← hj, show o + j = o + j / 2 * 2 by omega, c1]; rfl
      · rw [show j = j / 2 * 2 + 1 by omega] at hj
        rw [g2] at hj
        injection hj with hj
        rw [← hj, show o + j = o + j / 2 * 2 + 1 by omega, c2]
    · obtain ⟨hi, rfl⟩ := hu i x hx
      obtain ⟨Ai, cap, c1, c2, c3, _⟩ := hc i t ht
      have e : t = tmAt ts i := by rw [tm_get hi] at ht; injection ht with ht; exact ht.symm
      exact ⟨by rw [e], Ai, cap, by rw [c1]; rfl, c3⟩
  · obtain rfl : ts = [] := List.length_eq_zero_iff.1 (by omega)
    exact ⟨[], rfl, fun h => absurd h h0, fun i x t hx _ => by simp at hx⟩
theorem TmC.one {w : World} {A : Option Addr} {ts : List Term'} {us : List (Value × Int)} (h : TmC w A ts us) : ∀ u ∈ cellsT us, u.oneCell' = true := cellsT_one fun x hx => by
  obtain ⟨i, hi, rfl⟩ := List.getElem_of_mem hx
  obtain ⟨_, Ai, cap, e, _⟩ := h.row i _ (ts[i]'(by rw [← h.len]; exact hi)) (List.getElem?_eq_getElem hi) (List.getElem?_eq_getElem _)
  rw [e]; rfl
theorem TmC.below {w w' : World} {A : Option Addr} {ts : List Term'} {us : List (Value × Int)} (h : TmC w A ts us) (hb : Below w.heap.size w w') : TmC w' A ts us :=
  ⟨h.len, fun h0 => by
    obtain ⟨b, o, e, hl, hc⟩ := h.cells h0
    exact ⟨b, o, e, Nat.lt_of_lt_of_le hl hb.size, fun j u hj => (hb.cell (p := ⟨b, _, none⟩) hl).trans (hc j u hj)⟩,
  fun i x t hx ht => by
    obtain ⟨h1, Ai, cap, h2, h3⟩ := h.row i x t hx ht
    exact ⟨h1, Ai, cap, h2, h3.below hb⟩⟩

/-- terms are appended to an own row of cells -/
theorem wpList_append_tm {w w0 : World} {ops : Array Oper} {rest : List Oper} {o : Oper} {a : Act} {Q : Exit → Act → World → Prop} (hgd : o.guard = none) (s x : Operand)
    (ho : o.op = .call { callee := .builtin .append, args := #[s, x], argTypes := #[62, 62] }) (B m : Nat) (Av : Option Addr) (cp : Nat) (xs : List Value) (hs : a.eval s = .slice Av m cp)
    (hown : w.ownsRow B 67 2 (.slice Av m cp) m xs) (A : Option Addr) (cap : Nat) (ts : List Term') (us : List (Value × Int)) (hx : a.eval x = .slice A ts.length cap) (hC : TmC w A ts us)
    (hm : m ≤ 1000000) (ht : ts.length ≤ 1000000) (hB : B ≤ w.heap.size) (hb : Below B w0 w)
    (h : ∀ A' c' w', w'.ownsRow B 67 2 (.slice A' (m + ts.length) c') (m + ts.length) (xs ++ cellsT us) → Below B w0 w' → w.heap.size ≤ w'.heap.size → wpList Try.prog ops Q rest (a.put o.dst (.slice A' (m + ts.length) c')) w') :
    wpList Try.prog ops Q (o :: rest) a w := by
  obtain ⟨i0, hi, hz0, hz1, hz2⟩ := info_parts Try.infoT
  by_cases h0 : 0 < ts.length
  · obtain ⟨b, of, rfl, hl, hc⟩ := hC.cells h0
    refine wpList_append_own w hgd s x 62 ho B 67 i0 (tmV none 0 0 0) 2 32 Try.underlying62 hi hz0 hz1 hz2 rfl (by decide) _ m xs hs hown ⟨b, of, none⟩ ts.length cap (cellsT us) hx (by rw [cellsT_length, hC.len]) (fun j u hj => by rw [addr_add]; exact hc j u hj) hC.one (by unfold maxLen; omega) (by omega) hB ?_
    intro v' w' h1 h2 h3
    have h4 : Below B w0 w' := hb.grown h2 hB (fun q hq => (World.ownsRow.lt hown q hq).1)
    rcases h1.2 with ⟨_, hz⟩ | ⟨g, cap', cur, hv, _⟩
    · omega
    · subst hv
      exact h _ _ _ h1 h4 h2.size
  · obtain rfl : ts = [] := List.length_eq_zero_iff.1 (by omega)
    have hus : us = [] := List.length_eq_zero_iff.1 (by rw [hC.len]; rfl)
    subst hus
    have hle : m ≤ cp := by
      rcases hown.2 with ⟨hv, hz⟩ | ⟨g, cap', cur, hv, _, _, hle, _⟩
      · omega
      · injection hv with _ _ e; rw [e]; exact hle
    have hS : Src Try.prog i0.size 62 (.slice A 0 cap) 0 [] w := by
      cases A with
      | none => exact Src.ofNil w Try.underlying62 cap
      | some a => exact Src.ofSlice w Try.underlying62 a 0 cap [] (by simp) (by simp) (by simp)
    exact wpList_append_zero hgd s x 62 ho 67 i0 Try.underlying62 hi _ m cp hle hs _ hx hS (h Av cp w (by simpa [cellsT] using hown) hb (Nat.le_refl _))

/-- a new row, its terms' exponents where they lay -/
def ConcatPost (n : Nat) (ts : List Term') (w : World) (e : Ending) (w' : World) : Prop :=
  ∃ A c, e = .returned (.slice A ts.length c) ∧ RowO w' w'.heap.size A n ts ∧ Below w.heap.size w w' ∧ ∀ q, InB ts.length A q → w.heap.size ≤ q
theorem concat_post {w w' : World} {A A1 A2 : Option Addr} {c n : Nat} {ts us : List Term'} {xs ys : List (Value × Int)} (h1 : TmC w A1 ts xs) (h2 : TmC w A2 us ys) (n1 : LenT n ts) (n2 : LenT n us)
    (hown : w'.ownsRow w.heap.size 67 2 (.slice A (ts ++ us).length c) (ts ++ us).length (cellsT xs ++ cellsT ys)) (hb : Below w.heap.size w w') : ConcatPost n (ts ++ us) w (.returned (.slice A (ts ++ us).length c)) w' := by
  refine ⟨A, c, rfl, fun h0 => ?_, hb, fun q hq => ?_⟩
  · obtain ⟨g, c', hv, hg1, hg2⟩ := World.ownsRow.form hown h0
    have hA : A = some ⟨g, 0, none⟩ := by injection hv
    subst hA
    refine ⟨g, rfl, hg2, fun i t ht => ?_⟩
    have hi : i < (ts ++ us).length := (List.getElem?_eq_some_iff.1 ht).1
    have hlen : (xs ++ ys).length = (ts ++ us).length := by simp [h1.len, h2.len]
    obtain ⟨x, hx⟩ : ∃ x, (xs ++ ys)[i]? = some x := ⟨_, List.getElem?_eq_getElem (by omega)⟩
    have hcg := cellsT_get (l := xs ++ ys) (i := i) (u := x.1) (c := x.2) hx
    rw [cellsT_append] at hcg
    have hr : x.2 = t.2 ∧ (∃ Ai cap, x.1 = .slice Ai t.1.length cap ∧ Ints w Ai t.1) ∧ t.1.length = n := by
      by_cases hi1 : i < ts.length
      · rw [List.getElem?_append_left hi1] at ht
        rw [List.getElem?_append_left (by rw [h1.len]; exact hi1)] at hx
        obtain ⟨e1, e2⟩ := h1.row i x t hx ht
        exact ⟨e1, e2, n1 t (List.mem_of_getElem? ht)⟩
      · rw [List.getElem?_append_right (by omega)] at ht
        rw [List.getElem?_append_right (by rw [h1.len]; omega), h1.len] at hx
        obtain ⟨e1, e2⟩ := h2.row _ x t hx ht
        exact ⟨e1, e2, n2 t (List.mem_of_getElem? ht)⟩
    obtain ⟨e1, ⟨Ai, cap, e2, e3⟩, e4⟩ := hr
    have c0 := (World.ownsRow.cellAt hown (i * 2) (by omega)).trans hcg.1
    have c1 := (World.ownsRow.cellAt hown (i * 2 + 1) (by omega)).trans hcg.2
    rw [e2] at c0
    rw [e1] at c1
    refine ⟨Ai, cap, by rw [Nat.zero_add]; exact c0, by rw [Nat.zero_add]; exact c1, World.ownsRow.frozenAt hown _, World.ownsRow.frozenAt hown _, e3.below hb, fun q hq => ?_, e4⟩
    obtain ⟨hq0, oq, e⟩ := hq
    obtain ⟨b', o', e', hb', _⟩ := e3 hq0
    have e5 : Ai = some ⟨q, oq, none⟩ := e
    rw [e'] at e5
    injection e5 with e5
    have : b' = q := congrArg Addr.block e5
    omega
  · obtain ⟨h0, oq, e⟩ := hq
    exact (World.ownsRow.lt hown q (by rw [e]; rfl)).1

end Go.Proofs.Ytmcaphbngfdfiaa

/- Walks: the sum of two polynomials, Poly.plus. -/
namespace Go.Proofs.Ytmcaphbngfdfiaa
open Go.RowKit Plain

theorem PolyR.of {u : Int} {R : List Term'} {A : Option Addr} {cp lo : Nat} {w w1 : World} (hb : Below w.heap.size w w1) (h : RT w1 lo w1.heap.size A R) (hlo : w.heap.size + 2 < lo) (x y : Value) :
    PolyR u R w (.returned (poV u A R.length cp)) ((w1.setCell ⟨w.heap.size + 2, 0, none⟩ x).setCell ⟨w.heap.size + 2, 1, none⟩ y) := by
  have hO2 : Only (fun q => q = w.heap.size + 2) w1 ((w1.setCell ⟨w.heap.size + 2, 0, none⟩ x).setCell ⟨w.heap.size + 2, 1, none⟩ y) :=
    ⟨rfl, rfl, rfl, by simp [World.setCell], fun q _ hq => (Below.heap_setCell _ _ _ _ hq).trans (Below.heap_setCell _ _ _ _ hq)⟩
  have h2 := h.only hO2 (fun q hq _ e => by have e' : q = w.heap.size + 2 := e; omega)
  have hs : ((w1.setCell ⟨w.heap.size + 2, 0, none⟩ x).setCell ⟨w.heap.size + 2, 1, none⟩ y).heap.size = w1.heap.size := by simp [World.setCell]
  exact ⟨A, cp, rfl, RT.lowerR h2 (by omega) (by rw [hs]; exact Nat.le_refl _), (hb.setCell (p := ⟨w.heap.size + 2, 0, none⟩) (by simp) _).setCell (p := ⟨w.heap.size + 2, 1, none⟩) (by simp) _⟩

end Go.Proofs.Ytmcaphbngfdfiaa

/- Regions that draw their order and end in one operation that waits for all others: loads may be taken first under a condition S that the last operation need not keep. -/
namespace Go.Proofs.Ytmcaphbngfdfiaa
open Go

theorem cell_al {w : World} {a : Addr} {v : Value} {o : Obj} (h : w.cell? a = some v) : (w.alloc o).cell? a = some v := (World.cell?_alloc_some w a o (by rw [h]; rfl)).trans h

section
variable {P : Program} {ops : Array Oper} {Q : Exit → Act → World → Prop} {md : Region.Mode} {S : World → Prop} {n : Nat}

/-- Whatever order is picked, and S holds behind every operation but the last. -/
def wpAnyE (P : Program) (md : Region.Mode) (ops : Array Oper) (Q : Exit → Act → World → Prop) (S : World → Prop) (n : Nat) : Nat → Array Bool → Act → World → Prop
  | 0, listed, a, w => Region.ready md ops listed = [] ∧ Q .normal a w
  | fuel + 1, listed, a, w =>
    (Region.ready md ops listed = [] → Q .normal a w) ∧
    ∀ i ∈ Region.ready md ops listed, wpOp P ops Q i (fun a' w' => (i = n ∨ S w') ∧ wpAnyE P md ops Q S n fuel (listed.setIfInBounds i true) a' w') a w

theorem wpAny_of_E : ∀ (fuel : Nat) (listed : Array Bool) (a : Act) (w : World), wpAnyE P md ops Q S n fuel listed a w → wpAny P md ops Q fuel listed a w
  | 0, _, _, _, h => h
  | fuel + 1, _, _, _, h => ⟨h.1, fun i hi => wpOp_mono (fun a' w' h' => wpAny_of_E fuel _ a' w' h'.2) (h.2 i hi)⟩

theorem wpAnyE_first {i : Nat} {oi : Oper} {v : Value} (hi : ops[i]? = some oi) (hsel : ∀ (j : Nat) (o : Oper) cs b, ops[j]? = some o → o.op ≠ .select cs b)
    (hQ : ∀ c a w, Q (.panic c) (a.put oi.dst v) w → Q (.panic c) a w) (hs : Region.sinkB md ops n = true) (hc : Region.chainB md ops n = true) (hn : n < ops.size) (hin : i < n) :
    ∀ (fuel : Nat) (listed : Array Bool) (a : Act) (w : World), HeadInv md ops n listed →
      (∀ j oj, ops[j]? = some oj → j ≠ i → listed.getD j true = false → (∀ e ∈ oj.after, Region.binds md e = true → e.on ≠ i) → oi.apart ops oj = true) →
      i ∈ Region.ready md ops listed → YieldsIf P ops S oi v a → S w →
      wpAnyE P md ops Q S n fuel (listed.setIfInBounds i true) (a.put oi.dst v) w → wpAnyE P md ops Q S n (fuel + 1) listed a w := by
  intro fuel
  induction fuel with
  | zero =>
    intro listed a w inv _ hr hy hS H
    refine ⟨fun h => (by rw [h] at hr; cases hr), fun j hj => ?_⟩
    by_cases hji : j = i
    · subst hji; exact hy.wpOp hi hS ⟨.inr hS, H⟩
    · have := ready_mono hj hji
      rw [H.1] at this
      cases this
  | succ fuel ih =>
    intro listed a w inv hfree hr hy hS H
    have hun := (mem_ready.1 hr).1
    refine ⟨fun h => (by rw [h] at hr; cases hr), fun j hj => ?_⟩
    by_cases hji : j = i
    · subst hji; exact hy.wpOp hi hS ⟨.inr hS, H⟩
    · have hjn : j < n := by
        rcases Nat.lt_or_ge j n with h | h
        · exact h
        · exact absurd hj (tail_waits hs hc hn inv _ i rfl hin hun j h)
      have h1 := H.2 j (ready_mono hj hji)
      obtain ⟨hjun, oj, hoj, hall⟩ := mem_ready.1 hj
      have hnot : ∀ e ∈ oj.after, Region.binds md e = true → e.on ≠ i := fun e he hb heq => by
        have h1 := hall e he hb
        rw [heq, getD_both hun] at h1
        cases h1
      have h2 := wpOp_putIf hoj (hfree j oj hoj hji hjun hnot) (fun cs b => hsel i oi cs b hi) (fun cs b => hsel j oj cs b hoj) hQ hy h1
      have hfree' : ∀ k ok, ops[k]? = some ok → k ≠ i → (listed.setIfInBounds j true).getD k true = false →
          (∀ e ∈ ok.after, Region.binds md e = true → e.on ≠ i) → oi.apart ops ok = true := fun k ok hk hki hun hno => by
        refine hfree k ok hk hki ?_ hno
        by_cases hjk : j = k
        · subst hjk; exact hjun
        · rw [getD_set_ne true hjk] at hun; exact hun
      refine wpOp_mono (fun a' w' h3 => ?_) h2
      have hS' : S w' := h3.2.1.resolve_left (by omega)
      refine ⟨.inr hS', ih (listed.setIfInBounds j true) a' w' (inv.set hj hjn) hfree' (ready_mono hr (Ne.symm hji)) h3.1 hS' ?_⟩
      rw [Array.setIfInBounds_comm _ _ hji]
      exact h3.2.2

/-- the walk's goal: with what has been listed so far in good order -/
def RegE (P : Program) (ops : Array Oper) (Q : Exit → Act → World → Prop) (S : World → Prop) (n : Nat) (fuel : Nat) (listed : Array Bool) (a : Act) (w : World) : Prop :=
  HeadInv .any ops n listed → wpAnyE P .any ops Q S n fuel listed a w

/-- what is asked of a region's text -/
def sinkOk (ops : Array Oper) (n : Nat) : Bool := Region.noSelect ops && decide (n + 1 = ops.size) && Region.sinkB .any ops n && Region.chainB .any ops n

theorem RegE.start {id : Nat} {a : Act} {w : World} (n : Nat) (hm : P.follows .mixedOrders = true) (hB : sinkOk ops n = true) (hS : S w.drew) (h : S w.drew → sinkOk ops n = true → RegE P ops Q S n ops.size (Array.replicate ops.size false) a w.drew) :
    (Code.region id ops true).wp P Q a w := by
  have hB' := hB
  simp only [sinkOk, Bool.and_eq_true, decide_eq_true_eq] at hB
  have inv0 : HeadInv .any ops n (Array.replicate ops.size false) :=
    ⟨by simp, fun j oj _ hl => (by rw [getD_replicate_false] at hl; cases hl), fun t _ ht => getD_in (by simpa using ht) (getD_replicate_false _ _)⟩
  exact wp_region_any hm (wpAny_of_E _ _ _ _ (h hS hB' inv0))

theorem RegE.take {i : Nat} {oi : Oper} {v : Value} {fuel : Nat} {listed : Array Bool} {a : Act} {w : World} (hB : sinkOk ops n = true) (hi : ops[i]? = some oi) (hin : i < n)
    (hf : Region.free .any ops listed i = true) (hr : (Region.ready .any ops listed).contains i = true)
    (hQ : ∀ c a w, Q (.panic c) (a.put oi.dst v) w → Q (.panic c) a w) (hy : YieldsIf P ops S oi v a) (hS : S w)
    (h : RegE P ops Q S n fuel (listed.setIfInBounds i true) (a.put oi.dst v) w) : RegE P ops Q S n (fuel + 1) listed a w := fun inv => by
  simp only [sinkOk, Bool.and_eq_true, decide_eq_true_eq] at hB
  have hr' : i ∈ Region.ready .any ops listed := by simpa using hr
  exact wpAnyE_first hi (Region.noSelect_spec hB.1.1.1) hQ hB.1.2 hB.2 (by omega) hin fuel listed a w inv (Region.free_spec hi hf) hr' hy hS (h (inv.set hr' hin))

/-- one operation alone may come up: it is carried out, and S is shown anew -/
theorem RegE.step {i : Nat} {oi : Oper} {fuel : Nat} {listed : Array Bool} {a : Act} {w : World} (hi : ops[i]? = some oi) (hin : i < n) (hr : Region.ready .any ops listed = [i])
    (h : ∀ K' : Act → World → Prop, Shut (∀ a w, S w → (S w → RegE P ops Q S n fuel (listed.setIfInBounds i true) a w) → K' a w) → if Region.wanted oi (yielded ops a.tmps) = true then Oper.wp P oi a w K' Q else K' (a.put oi.dst undef) w) :
    RegE P ops Q S n (fuel + 1) listed a w := fun inv => by
  have hi' : i ∈ Region.ready .any ops listed := by rw [hr]; simp
  refine ⟨fun h0 => (by rw [hr] at h0; cases h0), fun j hj => ?_⟩
  rw [hr] at hj
  have hji : j = i := by simpa using hj
  subst hji
  exact wpOp_step hi (fun K' hK => h K' (fun a w hS hW => hK a w ⟨.inr hS, hW hS (inv.set hi' hin)⟩))

/-- the last operation -/
theorem RegE.last {oi : Oper} {fuel : Nat} {listed : Array Bool} {a : Act} {w : World} (hi : ops[n]? = some oi) (hr : Region.ready .any ops listed = [n]) (hd : Region.ready .any ops (listed.setIfInBounds n true) = [])
    (h : ∀ K' : Act → World → Prop, Shut (∀ a w, Q .normal a w → K' a w) → if Region.wanted oi (yielded ops a.tmps) = true then Oper.wp P oi a w K' Q else K' (a.put oi.dst undef) w) :
    RegE P ops Q S n (fuel + 1) listed a w := fun _ => by
  refine ⟨fun h0 => (by rw [hr] at h0; cases h0), fun j hj => ?_⟩
  rw [hr] at hj
  have hji : j = n := by simpa using hj
  subst hji
  refine wpOp_step hi (fun K' hK => h K' (fun a w hq => hK a w ⟨.inl rfl, ?_⟩))
  cases fuel with
  | zero => exact ⟨hd, hq⟩
  | succ f => exact ⟨fun _ => hq, by rw [hd]; simp⟩
end

end Go.Proofs.Ytmcaphbngfdfiaa

/- Walks: l05Scaled: a valid polynomial times a number that is not 0. -/
namespace Go.Proofs.Ytmcaphbngfdfiaa
open Go.RowKit Plain

theorem GInv.takeC {ts : List Term'} (h : Canon ts) (i : Nat) : GInv ts i (ts.take i) := by
  refine ⟨⟨h.asc.sublist (List.take_sublist _ _), fun t ht => h.coef t (List.mem_of_mem_take ht)⟩, fun hi t ht => ?_, fun e => rfl⟩
  have h1 := List.pairwise_append.1 ((List.take_append_drop i ts).symm ▸ h.asc)
  refine h1.2.2 t ht _ ?_
  rw [List.drop_eq_getElem_cons hi]
  have : tmAt ts i = ts[i] := by simp [tmAt, List.getD, hi]
  rw [this]; exact List.mem_cons_self ..
theorem take_tm {ts : List Term'} {i : Nat} (h : i < ts.length) : ts.take (i + 1) = ts.take i ++ [((tmAt ts i).1, (tmAt ts i).2)] := by
  rw [List.take_add_one, tm_get h]; rfl
theorem tm_one' {c : Int} (h0 : 1 ≤ c) (h1 : c ≤ 1000002) : tm c 1 = c := by unfold tm; omega
theorem keep4b {w w' : World} {B b1 b2 b3 o1 o2 o3 o4 : Nat} {x1 x2 x3 x4 : Value} (h : w.cell? ⟨b1, o1, none⟩ = some x1 ∧ w.cell? ⟨b2, o2, none⟩ = some x2 ∧ w.cell? ⟨b3, o3, none⟩ = some x3 ∧ w.cell? ⟨b3, o4, none⟩ = some x4) (hl : b1 < B ∧ b2 < B ∧ b3 < B) (hb : Below B w w') :
    w'.cell? ⟨b1, o1, none⟩ = some x1 ∧ w'.cell? ⟨b2, o2, none⟩ = some x2 ∧ w'.cell? ⟨b3, o3, none⟩ = some x3 ∧ w'.cell? ⟨b3, o4, none⟩ = some x4 :=
  ⟨(hb.cell (p := ⟨b1, o1, none⟩) hl.1).trans h.1, (hb.cell (p := ⟨b2, o2, none⟩) hl.2.1).trans h.2.1, (hb.cell (p := ⟨b3, o3, none⟩) hl.2.2).trans h.2.2.1, (hb.cell (p := ⟨b3, o4, none⟩) hl.2.2).trans h.2.2.2⟩
theorem keep3b {w : World} {p b2 b3 o2 o3 o4 : Nat} {x x2 x3 x4 : Value} (hs : p ≠ b2 ∧ p ≠ b3) (h2 : w.cell? ⟨b2, o2, none⟩ = some x2) (h3 : w.cell? ⟨b3, o3, none⟩ = some x3) (h4 : w.cell? ⟨b3, o4, none⟩ = some x4) :
    (w.setCell ⟨p, 1, none⟩ x).cell? ⟨b2, o2, none⟩ = some x2 ∧ (w.setCell ⟨p, 1, none⟩ x).cell? ⟨b3, o3, none⟩ = some x3 ∧ (w.setCell ⟨p, 1, none⟩ x).cell? ⟨b3, o4, none⟩ = some x4 :=
  ⟨by rw [World.cell?_setCell_other _ _ _ _ (fun e => hs.1 (congrArg Addr.block e))]; exact h2, by rw [World.cell?_setCell_other _ _ _ _ (fun e => hs.2 (congrArg Addr.block e))]; exact h3, by rw [World.cell?_setCell_other _ _ _ _ (fun e => hs.2 (congrArg Addr.block e))]; exact h4⟩
/-- a polynomial in a new own row -/
def OwnR (u : Int) (R : List Term') (w : World) (e : Ending) (w' : World) : Prop :=
  ∃ A' cp, e = .returned (poV u A' R.length cp) ∧ TRow w' w.heap.size (.slice A' R.length cp) R ∧ Below w.heap.size w w'

end Go.Proofs.Ytmcaphbngfdfiaa
