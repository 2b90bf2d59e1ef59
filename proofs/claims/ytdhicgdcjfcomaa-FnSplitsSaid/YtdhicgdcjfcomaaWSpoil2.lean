/- Walks: the spoiling of a list of actions that is not empty. -/
import Derived.Test.YtdhicgdcjfcomaaWSpoil
import Derived.Test.YtdhicgdcjfcomaaWStep
import Derived.Deep.RegionLaw
namespace Go.Proofs.Ytdhicgdcjfcomaa
open Go.RowKit Plain

theorem StSp {p : Nat} {w w1 w2 : World} (h : Only (fun q => q = p) w w1) (ho : Only (fun q => q = p) w1 w2) : Only (fun q => q = p) w w2 := h.trans ho
/-- what stands when a list is spoilt: the source, the row copied -/
structure SpSt (w0 : World) (p B g cap : Nat) (l : List (Int × Int)) (wr : World) : Prop where
  row : ActRow wr w0.heap.size (.slice (some ⟨g, 0, none⟩) l.length cap) l
  src : Src wr p B
  only : Only (fun q => q = p) w0 wr
  pw : p < w0.heap.size
theorem SpSt.picked {w0 : World} {p B B' g cap : Nat} {l : List (Int × Int)} {wr w' : World} (h : SpSt w0 p B g cap l wr) (hs : Src w' p B') (ho : Only (fun q => q = p) wr w') : SpSt w0 p B' g cap l w' :=
  ⟨h.row.keep fun q hq => ho.block q (h.row.lt hq).2 (by have := (h.row.lt hq).1; have := h.pw; omega), hs, h.only.trans ho, h.pw⟩
theorem SpSt.below {w0 : World} {p B g cap : Nat} {l : List (Int × Int)} {wr w' : World} (h : SpSt w0 p B g cap l wr) (hb : Below wr.heap.size wr w') : SpSt w0 p B g cap l w' :=
  ⟨h.row.next hb, h.src.below hb, h.only.trans (Only.of_below hb), h.pw⟩
/-- a number is stored in the row -/
theorem SpSt.stored {w0 : World} {p B g cap : Nat} {l : List (Int × Int)} {wr : World} (h : SpSt w0 p B g cap l wr) (hn : 0 < l.length) (hl : l.length ≤ 402) (B0 : Nat) (hB : B ≤ B0 + 2000) (i : Nat) (x : Int) :
    SpPost p B0 w0 (.returned (.slice (some ⟨g, 0, none⟩) l.length cap)) (wr.setCell ⟨g, i, none⟩ (.int .i64 x)) := by
  obtain ⟨C, hC, hI⟩ := h.row.intC hn
  have hg := (h.row.lt (q := g) rfl).1
  have ho : Only (fun q => q = g) wr (wr.setCell ⟨g, i, none⟩ (.int .i64 x)) := (Only.refl _ wr).set1 (S := fun q => q = g) (q := ⟨g, i, none⟩) rfl _
  refine ⟨_, _, _, rfl, hl, IntC.someA (hC.set_ i _) (hI.set i x), (h.src.only ho (fun q hq h2 => by have := h.pw; omega)).mono hB, h.only.chain ho (fun q hq h2 => absurd hq (by omega))⟩
theorem SpSt.stored2 {w0 : World} {p B g cap : Nat} {l : List (Int × Int)} {wr : World} (h : SpSt w0 p B g cap l wr) (hn : 0 < l.length) (hl : l.length ≤ 402) (B0 : Nat) (hB : B ≤ B0 + 2000) (i j : Nat) (x y : Int) :
    SpPost p B0 w0 (.returned (.slice (some ⟨g, 0, none⟩) l.length cap)) ((wr.setCell ⟨g, i, none⟩ (.int .i64 x)).setCell ⟨g, j, none⟩ (.int .i64 y)) := by
  obtain ⟨C, hC, hI⟩ := h.row.intC hn
  have hg := (h.row.lt (q := g) rfl).1
  have ho : Only (fun q => q = g) wr ((wr.setCell ⟨g, i, none⟩ (.int .i64 x)).setCell ⟨g, j, none⟩ (.int .i64 y)) := Only.set1 (S := fun q => q = g) (Only.set1 (S := fun q => q = g) (Only.refl _ wr) (q := ⟨g, i, none⟩) rfl _) (q := ⟨g, j, none⟩) rfl _
  refine ⟨_, _, _, rfl, hl, IntC.someA ((hC.set_ i _).set_ j _) ((hI.set i x).set j y), (h.src.only ho (fun q hq h2 => by have := h.pw; omega)).mono hB, h.only.chain ho (fun q hq h2 => absurd hq (by omega))⟩
theorem SpSt.done {w0 : World} {p B g cap : Nat} {l : List (Int × Int)} {wr : World} (h : SpSt w0 p B g cap l wr) (m c : Nat) (hm : m ≤ l.length) (hl : l.length ≤ 402) (B0 : Nat) (hB : B ≤ B0 + 2000) :
    SpPost p B0 w0 (.returned (.slice (some ⟨g, 0, none⟩) m c)) wr :=
  ⟨_, _, _, rfl, by omega, h.row.someA.take hm, h.src.mono hB, h.only⟩
theorem SpSt.cellsAt {w0 : World} {p B g cap : Nat} {l : List (Int × Int)} {wr : World} (h : SpSt w0 p B g cap l wr) {k : Nat} (hk : k < l.length) :
    ∃ x y : Int, wr.cell? ⟨g, k * 2, none⟩ = some (.int .i64 x) ∧ wr.cell? ⟨g, k * 2 + 1, none⟩ = some (.int .i64 y) ∧ ∀ i, wr.frozen? ⟨g, i, none⟩ = false := by
  obtain ⟨C, hC, hI⟩ := h.row.intC (by omega)
  obtain ⟨x, hx⟩ := hI (k * 2) (by omega)
  obtain ⟨y, hy⟩ := hI (k * 2 + 1) (by omega)
  exact ⟨x, y, by rw [hC.cell]; exact hx, by rw [hC.cell]; exact hy, fun i => hC.frozen i⟩

theorem ActRow.capA {w : World} {base cap : Nat} {A : Option Addr} {l : List (Int × Int)} (h : ActRow w base (.slice A l.length cap) l) : l.length ≤ cap := by
  rcases h.2 with ⟨_, h0⟩ | ⟨g, cap', _, hv, _, _, h1, _⟩
  · omega
  · have hc : cap = cap' := by injection hv
    omega

theorem flatA_take' (l : List (Int × Int)) (i : Nat) : flatA (l.take i) = (flatA l).take (i * 2) := by
  induction l generalizing i with
  | nil => simp [flatA]
  | cons x l ih =>
    cases i with
    | zero => simp [flatA]
    | succ i => rw [show (i + 1) * 2 = i * 2 + 1 + 1 by omega]; simp [flatA, ih]
theorem flatA_drop' (l : List (Int × Int)) (i : Nat) : flatA (l.drop i) = (flatA l).drop (i * 2) := by
  induction l generalizing i with
  | nil => simp [flatA]
  | cons x l ih =>
    cases i with
    | zero => simp [flatA]
    | succ i => rw [show (i + 1) * 2 = i * 2 + 1 + 1 by omega]; simp [flatA, ih]

set_option maxRecDepth 100000 in
set_option maxHeartbeats 4000000 in
theorem spoil_some (p B base cp : Nat) (Av : Option Addr) (l : List (Int × Int)) (w : World) (hS : Src w p B) (hB : B ≤ 1200000000000000000) (hL : ActRow w base (.slice Av l.length cp) l) (hn : 0 < l.length) (hl : l.length ≤ 400) :
    Calls Try.prog 17 #[.pointer (some ⟨p, 0, none⟩), .slice Av l.length cp] w (SpPost p B w) := by
  obtain ⟨i0, hi, hz0, hz1, hz2⟩ := info_parts Try.infoA
  obtain ⟨g0, rfl, hnews⟩ := ActRow.news hL hn
  have hg0 := (hL.lt (q := g0) rfl).2
  have hpw := hS.lt
  have hb1 : Below w.heap.size w (w.alloc (.cells #[] 61)) := by go_grown
  have HNW : Hid (∀ j u, (flatA l)[j]? = some u → (w.alloc (.cells #[] 61)).cell? ((Addr.mk g0 0 none).add j) = some u) := fun j u h => by
    have h2 := hnews j u h
    rw [addr_add] at h2 ⊢
    exact (hb1.cell (p := ⟨g0, _, none⟩) hg0).trans h2
  have HS := Lib.hid hS
  have HR0 : Hid (ActRow (w.alloc (.cells #[] 61)) w.heap.size (.slice (some ⟨w.heap.size, 0, none⟩) 0 0) []) := World.ownsRow_lit w #[] 0 (Nat.le_refl _) (by unfold maxLen; omega) (by rfl)
  have HB1 := Lib.hid hb1
  have HONE : Hid (∀ u ∈ flatA l, u.oneCell' = true) := flatA_one
  clear hS hb1 hnews hL
  go_enter Try.func17, Try.ntmps17
  go_wp2_with (at_builtin; refine wpList_append_own _ rfl _ _ 24 rfl w.heap.size 61 i0 (act 0 0) 2 16 Try.underlying24 hi hz0 hz1 hz2 rfl (by decide) _ 0 _ rfl HR0.out.own ⟨g0, 0, none⟩ l.length cp (flatA l) rfl (flatA_length l) HNW.out HONE.out ?c3 ?c4 ?c5 ?_)
  case c3 => unfold maxLen; omega
  case c4 => omega
  case c5 => first | omega | (simp; omega) | (simp; done)
  intro v2 w2 hown hg _
  have hR2 : ActRow w2 w.heap.size v2 l := by
    unfold ActRow
    simpa [flatA] using hown
  obtain ⟨g, cp2, hv2, hgb, _⟩ := World.ownsRow.form hR2 hn
  subst hv2
  have hcp := hR2.capA
  have hb2 : Below w.heap.size w w2 := HB1.out.grown hg (by simp) (fun q hq => (HR0.out.lt hq).1)
  have HST : Hid (SpSt w p B g cp2 l w2) := ⟨hR2, HS.out.below hb2, Only.of_below hb2, hpw⟩
  clear hown hg hR2 hb2 HR0 HB1 HNW HONE HS
  have hnz : ((l.length : Int) == 0) = false := beq_eq_false_iff_ne.2 (by omega)
  go_wp2_with fail
  refine (one_any p B 6 w2 HST.out.src (by omega)).mono ?_
  rintro e w3 ⟨b, rfl, hs, ho⟩
  have HST1 := Lib.hid (HST.out.picked hs ho)
  clear hs ho HST
  cases b
  · go_wp2_with fail
    refine (pick_any p (B + 2) l.length w3 HST1.out.src (by omega)).mono ?_
    rintro e w4 ⟨a0, rfl, ⟨q0, q1, q2⟩, hs, ho⟩
    obtain ⟨a, rfl⟩ := Int.eq_ofNat_of_zero_le q0
    have hal : a < l.length := by
      rcases Nat.lt_or_ge 1 l.length with h | h
      · have := q2 (by omega); omega
      · have := q1 (by omega); omega
    have halz : (a : Int) < (l.length : Int) := by omega
    have HST2 := Lib.hid (HST1.out.picked hs ho)
    clear hs ho HST1 q0 q1 q2
    go_wp2_with fail
    refine (pick_any p (B + 2 + 2) 6 w4 HST2.out.src (by omega)).mono ?_
    rintro e w5 ⟨x, rfl, ⟨q0, _, q2⟩, hs, ho⟩
    have hx6 := q2 (by omega)
    have HST3 := Lib.hid (HST2.out.picked hs ho)
    clear hs ho HST2 q2
    have hx : x = 0 ∨ x = 1 ∨ x = 2 ∨ x = 3 ∨ x = 4 ∨ x = 5 := by omega
    have hxl : l.length ≤ 402 := by omega
    rcases hx with rfl | rfl | rfl | rfl | rfl | rfl
    · obtain ⟨W0, hW0⟩ : ∃ W0, W0 = (w5.alloc (.cells #[] 61)).drew := ⟨_, rfl⟩
      have hWb : Below w5.heap.size w5 W0 := by rw [hW0]; exact ((Below.refl _ _).alloc (Nat.le_refl _) _).drew
      have HR1 : Hid (W0.ownsRow w5.heap.size 61 2 (.slice (some ⟨w5.heap.size, 0, none⟩) 0 0) 0 (flatA [])) := by
        have h : ActRow (w5.alloc (.cells #[] 61)) w5.heap.size (.slice (some ⟨w5.heap.size, 0, none⟩) 0 0) [] := World.ownsRow_lit w5 #[] 0 (Nat.le_refl _) (by unfold maxLen; omega) (by rfl)
        rw [hW0]
        exact h.next (Below.refl _ _).drew
      obtain ⟨g', eg, hnw⟩ := HST3.out.row.news hn
      obtain rfl : g = g' := by injection eg with eg; injection eg
      have hg5 := (HST3.out.row.lt (q := g) rfl).2
      have hlen := flatA_length l
      have HN1 : Hid (∀ j u, ((flatA l).take (a * 2))[j]? = some u → W0.cell? ((Addr.mk g 0 none).add j) = some u) := fun j u h => by
        have h2 : (flatA l)[j]? = some u := by
          rw [List.getElem?_take] at h
          split at h
          · exact h
          · cases h
        have h3 := hnw j u h2
        rw [addr_add] at h3 ⊢
        exact (hWb.cell (p := ⟨g, _, none⟩) hg5).trans h3
      obtain ⟨ad, had⟩ : ∃ ad : Addr, (if cp2 = a + 1 then some (⟨g, 0, none⟩ : Addr) else some ⟨g, (a + 1) * 2, none⟩) = some ad := by
        split
        · exact ⟨_, rfl⟩
        · exact ⟨_, rfl⟩
      have HN2 : Hid (∀ w2, W0.grownBy w2 (some w5.heap.size) → ∀ j u, ((flatA l).drop ((a + 1) * 2))[j]? = some u → w2.cell? (ad.add j) = some u) := fun w2 hg j u h => by
        have hj := (List.getElem?_eq_some_iff.1 h).1
        rw [List.length_drop, hlen] at hj
        rw [if_neg (by omega)] at had
        obtain rfl : (⟨g, (a + 1) * 2, none⟩ : Addr) = ad := by injection had
        rw [List.getElem?_drop] at h
        have h3 := hnw _ u h
        rw [addr_add, Nat.zero_add] at h3
        rw [addr_add]
        have h4 := (hWb.cell (p := ⟨g, (a + 1) * 2 + j, none⟩) hg5).trans h3
        exact (World.cell?_of_block (w := W0) (w' := w2) (a := ⟨g, (a + 1) * 2 + j, none⟩) (hg.block g (Nat.lt_of_lt_of_le hg5 hWb.size) (by simp; omega))).trans h4
      have HO1 : Hid (∀ u ∈ (flatA l).take (a * 2), u.oneCell' = true) := fun u hu => flatA_one u (List.mem_of_mem_take hu)
      have HO2 : Hid (∀ u ∈ (flatA l).drop ((a + 1) * 2), u.oneCell' = true) := fun u hu => flatA_one u (List.mem_of_mem_drop hu)
      have HL1 : Hid (((flatA l).take (a * 2)).length = a * 2) := by show _ = _; rw [List.length_take, hlen]; omega
      have HL2 : Hid (((flatA l).drop ((a + 1) * 2)).length = (l.length - (a + 1)) * 2) := by show _ = _; rw [List.length_drop, hlen]; omega
      have HS0 : Hid (w5.heap.size ≤ W0.heap.size) := hWb.size
      have hacp : a ≤ cp2 := by omega
      have hacp1 : a + 1 ≤ l.length := by omega
      have hwA : IntKind.i64.wrap ((a : Int) + 1) = (a : Int) + 1 := by rw [IntKind.wrap_i64]; omega
      have hz1' : (a : Int) + 1 ≤ (l.length : Int) := by omega
      have hz2' : (0 : Int) ≤ (a : Int) + 1 := by omega
      have hz3' : ((a : Int) + 1).toNat = a + 1 := by omega
      have hz4' : (l.length : Int) ≤ (cp2 : Int) := by omega
      clear hnw eg hlen hWb
      subst hW0
      go_wp2_with fail
      go_region_law (first
        | (refine step_append_own rfl (.tmp 38) (.tmp 42) 24 rfl w5.heap.size 61 i0 (act 0 0) 2 16 Try.underlying24 hi hz0 hz1 hz2 rfl (by decide) v2 (0 + a) _ (by simp [Act.eval]) hown ad (l.length - (a + 1)) (cp2 - (a + 1)) _ (by simp [Act.eval]) HL2.out (HN2.out _ hg) HO2.out (by unfold maxLen; omega) (by omega) (by have := hg.size; have := HS0.out; omega) ?_; intro v3 w7 hown2 hg2)
        | (refine step_append_own rfl (.tmp 34) (.tmp 37) 24 rfl w5.heap.size 61 i0 (act 0 0) 2 16 Try.underlying24 hi hz0 hz1 hz2 rfl (by decide) (.slice (some ⟨w5.heap.size, 0, none⟩) 0 0) 0 _ (by simp [Act.eval]) HR1.out ⟨g, 0, none⟩ a cp2 _ (by simp [Act.eval]) HL1.out HN1.out HO1.out (by unfold maxLen; omega) (by omega) HS0.out ?_; intro v2 w6 hown hg))
      have hS5 := HST3.out.src
      rw [Nat.zero_add] at hown2
      have hE : Hid (∃ A3 c3, v3 = .slice A3 (a + (l.length - (a + 1))) c3 ∧ SpPost p B w (.returned v3) w7) := by
        have hR7 : ActRow w7 w5.heap.size v3 (l.take a ++ l.drop (a + 1)) := by
          have e1 : flatA (l.take a ++ l.drop (a + 1)) = flatA [] ++ List.take (a * 2) (flatA l) ++ List.drop ((a + 1) * 2) (flatA l) := by rw [flatA_append, flatA_take', flatA_drop']; simp [flatA]
          have e2 : (l.take a ++ l.drop (a + 1)).length = a + (l.length - (a + 1)) := by simp; omega
          unfold ActRow
          rw [e1, e2]
          exact hown2
        obtain ⟨A3, c3, hv3⟩ := hR7.form
        have e2 : (l.take a ++ l.drop (a + 1)).length = a + (l.length - (a + 1)) := by simp; omega
        rw [e2] at hv3
        subst hv3
        have hb0 : Below w5.heap.size w5 (w5.alloc (.cells #[] 61)).drew := ((Below.refl _ _).alloc (Nat.le_refl _) _).drew
        have hb6 : Below w5.heap.size w5 w6 := hb0.grown hg hb0.size (fun q hq => by
          have : q = w5.heap.size := by simpa [Value.ownBlock] using hq.symm
          omega)
        have hb7 : Below w5.heap.size w5 w7 := hb6.grown hg2 hb6.size (fun q hq => (World.ownsRow.lt hown q hq).1)
        have hsm : SomeActs w7 A3 (a + (l.length - (a + 1))) := by
          have h2 : ActRow w7 w5.heap.size (.slice A3 (l.take a ++ l.drop (a + 1)).length c3) (l.take a ++ l.drop (a + 1)) := by rw [e2]; exact hR7
          have := h2.someA
          rwa [e2] at this
        exact ⟨A3, c3, rfl, A3, _, c3, rfl, by omega, hsm, (HST3.out.src.below hb7).mono (by omega), HST3.out.only.trans (Only.of_below hb7)⟩
      obtain ⟨A3, c3, rfl, hP⟩ := hE.out
      have HE := Lib.hid hP
      clear hP hE hown hown2 hg hg2 hS5 HR1 HN1 HN2
      go_wp2
      go_ret
      exact HE.out
    · have HSI : Hid (SomeInts (w5.alloc (.cells #[.int .i64 (-1), .int .i64 0, .int .i64 1, .int .i64 2, .int .i64 7, .int .i64 8, .int .i64 40, .int .i64 41] 2)) (some ⟨w5.heap.size, 0, none⟩) 8) := by
        have hC := Cells.new w5 2 [.int .i64 (-1), .int .i64 0, .int .i64 1, .int .i64 2, .int .i64 7, .int .i64 8, .int .i64 40, .int .i64 41]
        refine ⟨w5.heap.size, 0, rfl, hC.lt, fun j hj => ?_⟩
        rw [Nat.zero_add, hC.cell]
        match j, hj with
        | 0, _ => exact ⟨_, rfl⟩
        | 1, _ => exact ⟨_, rfl⟩
        | 2, _ => exact ⟨_, rfl⟩
        | 3, _ => exact ⟨_, rfl⟩
        | 4, _ => exact ⟨_, rfl⟩
        | 5, _ => exact ⟨_, rfl⟩
        | 6, _ => exact ⟨_, rfl⟩
        | 7, _ => exact ⟨_, rfl⟩
      have HST4 := Lib.hid (HST3.out.below (w' := w5.alloc (.cells #[.int .i64 (-1), .int .i64 0, .int .i64 1, .int .i64 2, .int .i64 7, .int .i64 8, .int .i64 40, .int .i64 41] 2)) (by go_grown))
      have hpl := HST3.out.src.lt
      go_wp2_with fail
      refine (among_any p (B + 2 + 2 + 2) _ 8 8 _ HST4.out.src (by omega) (by omega) (by omega) HSI.out (fun o h => by injection h with h; injection h with h; omega)).mono ?_
      rintro e w6 ⟨y, rfl, _, hs, ho⟩
      have HST5 := Lib.hid (HST4.out.picked hs ho)
      obtain ⟨y0, y1, hc0, hc1, hfz⟩ := HST5.out.cellsAt hal
      have hf1 := hfz (a * 2 + 1)
      have HE := Lib.hid (HST5.out.stored hn hxl B (by omega) (a * 2 + 1) y)
      clear hs ho HST4 HST3 HSI hfz
      go_wp2
      go_ret
      exact HE.out
    · go_wp2_with fail
      refine (pick_any p (B + 2 + 2 + 2) 7 w5 HST3.out.src (by omega)).mono ?_
      rintro e w6 ⟨y, rfl, ⟨q3, _, q4⟩, hs, ho⟩
      have hy6 := q4 (by omega)
      have HST5 := Lib.hid (HST3.out.picked hs ho)
      obtain ⟨y0, y1, hc0, hc1, hfz⟩ := HST5.out.cellsAt hal
      have hf1 := hfz (a * 2)
      have HE := Lib.hid (HST5.out.stored hn hxl B (by omega) (a * 2) (y - 1))
      clear hs ho HST3 hfz q4
      go_wp2
      go_ret
      exact HE.out
    · go_wp2_with fail
      refine (pick_any p (B + 2 + 2 + 2) 4 w5 HST3.out.src (by omega)).mono ?_
      rintro e w6 ⟨y, rfl, ⟨q3, _, q4⟩, hs, ho⟩
      have hy6 := q4 (by omega)
      have HST5 := Lib.hid (HST3.out.picked hs ho)
      obtain ⟨y0, y1, hc0, hc1, hfz⟩ := HST5.out.cellsAt hal
      have hf1 := hfz (a * 2)
      have hf2 := hfz (a * 2 + 1)
      have HE := Lib.hid (HST5.out.stored2 hn hxl B (by omega) (a * 2) (a * 2 + 1) (1 + y) 0)
      clear hs ho HST3 hfz q4
      go_wp2
      go_ret
      exact HE.out
    · go_wp2_with fail
      go_loopg [5] 500 (fun gk o wr => ∃ l' A' cp' B', o = .slice A' l'.length cp' ∧ Hid (ActRow wr w.heap.size (.slice A' l'.length cp') l') ∧ Hid (Src wr p B') ∧ Hid (Only (fun q => q = p) w wr) ∧ l'.length ≤ 402 ∧ 402 - l'.length + 1 ≤ gk ∧ B' + 2 * gk ≤ B + 1500)
      case atStart => exact ⟨l, _, cp2, _, rfl, HST3.out.row, HST3.out.src, HST3.out.only, by omega, by omega, by omega⟩
      case round =>
        obtain ⟨l', A', cp', B', rfl, HR, HS, HO, hl', hg', hB'⟩ := hrel
        go_wp2_with fail
        refine (pick_any p B' 2 _ HS.out (by omega)).mono ?_
        rintro e w6 ⟨y, rfl, ⟨q3, _, q4⟩, hs, ho⟩
        have hy6 := q4 (by omega)
        have HR6 : Hid (ActRow w6 w.heap.size (.slice A' l'.length cp') l') := HR.out.keep fun q hq => ho.block q (HR.out.lt hq).2 (by have := (HR.out.lt hq).1; omega)
        have HS6 := Lib.hid hs
        have HO6 : Hid (Only (fun q => q = p) w w6) := HO.out.trans ho
        have hw6 : w.heap.size ≤ w6.heap.size := HO6.out.size
        clear hs ho HR HS HO q4
        by_cases hlt : (l'.length : Int) < 400 + y
        · have hltN : l'.length < 402 := by omega
          go_wp2_with (at_builtin; refine wpList_append_own _ rfl _ _ 24 rfl w.heap.size 61 i0 (act 0 0) 2 16 Try.underlying24 hi hz0 hz1 hz2 rfl (by decide) _ l'.length _ rfl (HR6.out.own.alloc _) ⟨w6.heap.size, 0, none⟩ 1 1 [.int .i64 2, .int .i64 0] rfl rfl ?c1 ?c2 ?d3 ?d4 ?d5 ?_)
          try (case c1 => exact cell_two_new _ _ _ _)
          try (case c2 => intro u hu; simp at hu; rcases hu with rfl | rfl <;> rfl)
          case d3 => unfold maxLen; omega
          case d4 => omega
          case d5 => first | omega | (simp; omega) | (simp; done)
          intro v2 w7 hown hg _
          obtain ⟨hR4, hO4⟩ := ActRow.push _ rfl hown hg
          obtain ⟨A2, cp4, hv2⟩ := hR4.form
          rw [show (l' ++ [((2 : Int), (0 : Int))]).length = l'.length + 1 by simp] at hv2
          subst hv2
          have hb4 : Below w.heap.size w6 w7 := hO4.below hw6 (fun q hq => (HR6.out.lt hq).1)
          have HR7 : Hid (ActRow w7 w.heap.size (.slice A2 (l' ++ [((2 : Int), (0 : Int))]).length cp4) (l' ++ [((2 : Int), (0 : Int))])) := by
            show ActRow _ _ _ _
            rw [show (l' ++ [((2 : Int), (0 : Int))]).length = l'.length + 1 by simp]; exact hR4
          have HS7 : Hid (Src w7 p (B' + 2)) := HS6.out.only (Only.ofB hb4 hO4.size) (fun q hq h => by omega)
          have HO7 : Hid (Only (fun q => q = p) w w7) := HO6.out.upto (Nat.le_refl _) hb4 hO4.size
          clear hown hg hR4 hO4 hb4 HR6
          go_wp2
          go_roundg (gk - 1)
          case measure => omega
          case rel => exact ⟨l' ++ [((2 : Int), (0 : Int))], A2, cp4, B' + 2, by rw [show (l' ++ [((2 : Int), (0 : Int))]).length = l'.length + 1 by simp], HR7, HS7, HO7, by simp; omega, by simp; omega, by omega⟩
        · have HE : Hid (SpPost p B w (.returned (.slice A' l'.length cp')) w6) := ⟨_, _, _, rfl, hl', HR6.out.someA, HS6.out.mono (by omega), HO6.out⟩
          go_wp2
          go_ret
          exact HE.out
    · have HE := Lib.hid (HST3.out.done a cp2 (by omega) hxl B (by omega))
      go_wp2
      go_ret
      exact HE.out
  · go_wp2_with fail
    refine (pick_any p (B + 2) 4 _ HST1.out.src (by omega)).mono ?_
    rintro e w4 ⟨x, rfl, ⟨x0, _, x1⟩, hs, ho⟩
    have hx1 := x1 (by omega)
    have HST2 := Lib.hid (HST1.out.picked hs ho)
    clear hs ho HST1 x1
    go_wp2_with fail
    refine (pick_any p (B + 2 + 2) 3 _ HST2.out.src (by omega)).mono ?_
    rintro e w5 ⟨y, rfl, ⟨y0, _, y1⟩, hs, ho⟩
    have hy1 := y1 (by omega)
    have HST3 := Lib.hid (HST2.out.picked hs ho)
    have hw5 : w.heap.size ≤ w5.heap.size := HST3.out.only.size
    clear hs ho HST2 y1
    go_wp2_with (at_builtin; refine wpList_append_own _ rfl _ _ 24 rfl w.heap.size 61 i0 (act 0 0) 2 16 Try.underlying24 hi hz0 hz1 hz2 rfl (by decide) _ l.length _ rfl (HST3.out.row.own.alloc _) ⟨w5.heap.size, 0, none⟩ 1 1 [.int .i64 (1 + x), .int .i64 y] rfl rfl ?c1 ?c2 ?e3 ?e4 ?e5 ?_)
    try (case c1 => exact cell_two_new _ _ _ _)
    try (case c2 => intro u hu; simp at hu; rcases hu with rfl | rfl <;> rfl)
    case e3 => unfold maxLen; omega
    case e4 => omega
    case e5 => first | omega | (simp; omega) | (simp; done)
    intro v2 w7 hown hg _
    obtain ⟨hR4, hO4⟩ := ActRow.push _ rfl hown hg
    obtain ⟨A2, cp4, hv2⟩ := hR4.form
    rw [show (l ++ [((1 + x : Int), (y : Int))]).length = l.length + 1 by simp] at hv2
    subst hv2
    have hb4 : Below w.heap.size w5 w7 := hO4.below hw5 (fun q hq => (HST3.out.row.lt hq).1)
    have HSM : Hid (SomeActs w7 A2 (l.length + 1)) := by
      have h2 : ActRow w7 w.heap.size (.slice A2 (l ++ [((1 + x : Int), (y : Int))]).length cp4) (l ++ [((1 + x : Int), (y : Int))]) := by
        rw [show (l ++ [((1 + x : Int), (y : Int))]).length = l.length + 1 by simp]; exact hR4
      have := h2.someA
      rwa [show (l ++ [((1 + x : Int), (y : Int))]).length = l.length + 1 by simp] at this
    have HS7 : Hid (Src w7 p (B + 2 + 2 + 2)) := HST3.out.src.only (Only.ofB hb4 hO4.size) (fun q hq h => by omega)
    have HO7 : Hid (Only (fun q => q = p) w w7) := HST3.out.only.upto (Nat.le_refl _) hb4 hO4.size
    clear hown hg hR4 hO4 hb4 HST3
    go_wp2
    go_ret
    exact ⟨A2, l.length + 1, cp4, rfl, by omega, HSM.out, HS7.out.mono (by omega), HO7.out⟩

end Go.Proofs.Ytdhicgdcjfcomaa
