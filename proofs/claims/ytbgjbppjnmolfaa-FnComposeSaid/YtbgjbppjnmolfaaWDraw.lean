/- Walks: l01Draw, A2Series, a2Same. -/
import Derived.Test.YtbgjbppjnmolfaaWSrc2
import Derived.Test.YtbgjbppjnmolfaaWSer3
namespace Go.Proofs.Ytbgjbppjnmolfaa
open Go.RowKit Plain

/-- an own row of integers -/
def IntRow (w : World) (base : Nat) (v : Value) (l : List Int) : Prop := w.ownsRow base 2 1 v l.length (l.map (Value.int .i64))
theorem IntRow.keep {w w' : World} {base : Nat} {v : Value} {l : List Int} (h : IntRow w base v l) (hb : ∀ g, v.ownBlock = some g → w'.heap[g]? = w.heap[g]?) : IntRow w' base v l := by
  refine ⟨h.1, ?_⟩
  rcases h.2 with hn | ⟨g, cap, cur, rfl, hb', hgg, rest⟩
  · exact .inl hn
  · exact .inr ⟨g, cap, cur, rfl, hb', by rw [hb g rfl]; exact hgg, rest⟩
theorem IntRow.lt {w : World} {base : Nat} {v : Value} {l : List Int} (h : IntRow w base v l) {q : Nat} (hq : v.ownBlock = some q) : base ≤ q ∧ q < w.heap.size := World.ownsRow.lt h q hq
theorem IntRow.form {w : World} {base : Nat} {v : Value} {l : List Int} (h : IntRow w base v l) : ∃ A cap, v = .slice A l.length cap := by
  rcases h.2 with ⟨hv, h0⟩ | ⟨g, cap, _, hv, _⟩
  · exact ⟨none, 0, by rw [hv, h0]⟩
  · exact ⟨_, _, hv⟩
theorem IntRow.intsM {w : World} {base cap : Nat} {A : Option Addr} {l : List Int} (h : IntRow w base (.slice A l.length cap) l) : IntsM w base A l := fun hn => by
  obtain ⟨g, cap', hv, hb, hlt⟩ := World.ownsRow.form h (by omega)
  have hA : A = some ⟨g, 0, none⟩ := by injection hv
  have hc : cap = cap' := by injection hv
  subst hA
  subst hc
  refine ⟨g, 0, rfl, hb, hlt, fun j x hx => ?_⟩
  have hj : j < l.length := (List.getElem?_eq_some_iff.1 hx).1
  refine ⟨?_, World.ownsRow.frozenAt h _⟩
  rw [Nat.zero_add, World.ownsRow.cellAt h j (by omega)]
  simp [hx]
theorem IntRow.push {w2 : World} {base : Nat} {v2 : Value} {l : List Int} {x : Int} {n : Nat} (hn : n = l.length) (hown : w2.ownsRow base 2 1 v2 (n + 1) (l.map (Value.int .i64) ++ [.int .i64 x])) : IntRow w2 base v2 (l ++ [x]) := by
  unfold IntRow
  rw [List.map_append, List.length_append, ← hn]
  exact hown
theorem IntRow.ownN {w : World} {base : Nat} {v : Value} {l : List Int} (h : IntRow w base v l) {n : Nat} (hn : n = l.length) : w.ownsRow base 2 1 v n (l.map (Value.int .i64)) := by rw [hn]; exact h

/-- what a draw of a series comes to -/
def DrawsPost (p B n : Nat) (w : World) (e : Ending) (w' : World) : Prop :=
  ∃ zs A cp, e = .returned (.slice A zs.length cp) ∧ zs.length = n ∧ IsS zs ∧ IntsM w' w.heap.size A zs ∧ Src w' p (B + 8 * n) ∧ Only (fun q => q = p) w w'

theorem isS_push {l : List Int} {x : Int} (h : IsS l) (hx : 0 ≤ x ∧ x ≤ 1000002) : IsS (l ++ [x]) := fun k => by
  unfold cf
  simp only [List.getD]
  rcases Nat.lt_trichotomy k l.length with hk | rfl | hk
  · rw [List.getElem?_append_left hk]; exact h k
  · rw [List.getElem?_append_right (Nat.le_refl _)]; simpa using hx
  · rw [List.getElem?_eq_none (by simp; omega)]; simp
theorem isS_nil : IsS [] := fun k => by rw [cf_big (by simp)]; omega

set_option maxRecDepth 100000 in
set_option maxHeartbeats 1000000 in
theorem draw_any (p B n : Nat) (w : World) (h : Src w p B) (hB : B ≤ 1000000000000000000) (hn : n ≤ 1000000) :
    Calls Try.prog 33 #[.pointer (some ⟨p, 0, none⟩), .int .i64 n] w (DrawsPost p B n w) := by
  obtain ⟨i0, hi, hz0, hz1, hz2⟩ := info_parts Try.infoI
  have hpl := h.lt
  have HS0 : Hid (Src (w.alloc (.cells #[] 2)) p B) := h.below (by go_grown)
  clear h
  go_enter Try.func33, Try.ntmps33
  go_wp2
  go_loopw [5, 6] (fun o i wr => ∃ (k : Nat) (l : List Int) (Av : Option Addr) (cp : Nat), k ≤ n ∧ l.length = k ∧ i = .int .i64 (k : Int) ∧ o = .slice Av k cp ∧ Hid (IntRow wr w.heap.size (.slice Av k cp) l) ∧ Hid (IsS l) ∧ Hid (Src wr p (B + 8 * k)) ∧ Hid (Only (fun q => q = p) w wr)) (fun _ i _ => n - (intOf i).toNat)
  case atStart =>
    refine ⟨0, [], _, _, by omega, rfl, by go_num, rfl, ?_, isS_nil, HS0.out, ?_⟩
    · exact World.ownsRow_lit w #[] 0 (Nat.le_refl _) (by unfold maxLen; omega) (by rfl)
    · exact Only.of_below (by go_grown)
  case round =>
    obtain ⟨k, l, Av, cp, hk, hl, rfl, rfl, HR, HI, HS, HO⟩ := hrel
    by_cases hlt : k < n
    · have hkn : (k : Int) < (n : Int) := by omega
      have HLl := Lib.hid hl; clear hl
      go_wp2_with fail
      refine (any_any p (B + 8 * k) wr HS.out (by omega)).mono ?_
      rintro e w1 ⟨x, rfl, hx, hs, ho⟩
      have HX := Lib.hid hx
      have HS1 := Lib.hid hs
      have HO1 := Lib.hid (HO.out.trans ho)
      have hbs : w.heap.size ≤ w1.heap.size := HO1.out.size
      have HR1 : Hid (IntRow w1 w.heap.size (.slice Av k cp) l) := HR.out.keep fun g hg => ho.block g (HR.out.lt hg).2 (by have := (HR.out.lt hg).1; omega)
      clear hs ho hx
      go_wp2_with (at_builtin; refine wpList_append_own _ rfl _ _ 30 rfl w.heap.size 2 i0 (.int .i64 0) 1 8 Try.underlying30 hi hz0 hz1 hz2 rfl (by decide) _ k _ rfl ((HR1.out.ownN HLl.out.symm).alloc _) ⟨w1.heap.size, 0, none⟩ 1 1 [.int .i64 x] rfl rfl ?c1 ?c2 ?c3 ?c4 ?c5 ?_)
      try (case c1 => intro j u hj; match j with | 0 => (simp at hj; subst hj; simp [addr_add]) | j + 1 => simp at hj)
      try (case c2 => first | rfl | (intro u hu; simp at hu; subst hu; rfl) | (simp; done))
      case c3 => unfold maxLen; omega
      case c4 => omega
      case c5 => first | omega | (simp; omega) | (simp; done)
      intro v2 w2 hown hg _
      have HR2' : IntRow w2 w.heap.size v2 (l ++ [x]) := IntRow.push HLl.out.symm hown
      obtain ⟨A2, cp2, hv2⟩ := HR2'.form
      rw [show (l ++ [x]).length = k + 1 by simp [HLl.out]] at hv2
      subst hv2
      have HR2 := Lib.hid HR2'; clear HR2'
      have hg' : (w1.alloc (.cells #[.int .i64 x] 2)).grownBy w2 (Value.slice Av k cp).ownBlock := hg
      have hb1 : Below w1.heap.size w1 (w1.alloc (.cells #[.int .i64 x] 2)) := by go_grown
      have HO2 : Hid (Only (fun q => q = p) w w2) := by
        refine HO1.out.chain (b := w1) (T := fun q => (Value.slice Av k cp).ownBlock = some q) ((Only.of_below hb1).trans ⟨hg'.os, hg'.tape, hg'.output, hg'.size, fun q hq hs => hg'.block q hq (fun e => hs e.symm)⟩) ?_
        intro q hq he
        have := (HR1.out.lt he).1; omega
      have HS2 : Hid (Src w2 p (B + 8 * (k + 1))) := by
        obtain ⟨A, n', cap, at_, seed, h, hB'⟩ := HS1.out
        have hA : ∀ q, InB n' A q → q < w.heap.size := fun q hq => by have := h.far q hq; omega
        refine ⟨A, n', cap, at_, seed, h.only (S := fun q => (Value.slice Av k cp).ownBlock = some q) ((Only.of_below hb1).trans ⟨hg'.os, hg'.tape, hg'.output, hg'.size, fun q hq hs => hg'.block q hq (fun e => hs e.symm)⟩) ?_ ?_, by omega⟩
        · intro he; have := (HR1.out.lt he).1; omega
        · intro q _ hq he; have := (HR1.out.lt he).1; have := hA q hq; omega
      clear hown hg hg' hb1
      go_wp2
      go_roundw
      case rel => exact ⟨k + 1, l ++ [x], _, _, by omega, by simp [HLl.out], by go_num, rfl, HR2.out, isS_push HI.out HX.out, HS2.out, HO2.out⟩
      case measure => simp [intOf]; omega
    · obtain rfl : k = n := by omega
      have hr := HR.out
      rw [← hl] at hr
      have HM := Lib.hid hr.intsM
      have HLl := Lib.hid hl
      clear hr hl
      go_wp2
      go_ret
      exact ⟨l, Av, cp, by rw [HLl.out]; rfl, HLl.out, HI.out, HM.out, HS.out, HO.out⟩

theorem draw_any' (p B n : Nat) (ni : Int) (w : World) (hni : ni = n) (h : Src w p B) (hB : B ≤ 1000000000000000000) (hn : n ≤ 1000000) :
    Calls Try.prog 33 #[.pointer (some ⟨p, 0, none⟩), .int .i64 ni] w (DrawsPost p B n w) := by rw [hni]; exact draw_any p B n w h hB hn
/-- three series of one order -/
def Draw3Post (w : World) (e : Ending) (w' : World) : Prop :=
  ∃ (n : Nat) (a b c : List Int) (A B C : Option Addr) (ca cb cc : Nat), e = .returned (.tuple #[.slice A n ca, .slice B n cb, .slice C n cc]) ∧ 1 ≤ n ∧ n ≤ 13 ∧ a.length = n ∧ b.length = n ∧ c.length = n ∧ IsS a ∧ IsS b ∧ IsS c ∧
    Ints w' A a ∧ Ints w' B b ∧ Ints w' C c ∧ Below w.heap.size w w'

theorem Ints.onlyP {w w' : World} {p : Nat} {A : Option Addr} {zs : List Int} (h : Ints w A zs) (ho : Only (fun q => q = p) w w') (hp : ∀ q, InB zs.length A q → q ≠ p) : Ints w' A zs := h.onlyB ho fun q _ hq => hp q hq
theorem IntsM.farP {w : World} {B p : Nat} {A : Option Addr} {zs : List Int} (h : IntsM w B A zs) (hp : p < B) : ∀ q, InB zs.length A q → q ≠ p := fun q hq => by have := (h.blk hq).1; omega

set_option maxRecDepth 100000 in
set_option maxHeartbeats 1000000 in
theorem series3_any (A : Option Addr) (n cap : Nat) (w : World) (hA : Byt w A n) (hn : n ≤ 4611686018427387904) :
    Calls Try.prog 14 #[.slice A n cap] w (Draw3Post w) := by
  go_enter Try.func14, Try.ntmps14
  go_wp2_with fail
  refine (from_any A n cap w hA hn).mono ?_
  rintro e w1 ⟨rfl, hs, hb, hlt⟩
  have HS := Lib.hid hs
  have HB := Lib.hid hb
  clear hs hb
  go_wp2_with fail
  refine (pick_any w.heap.size 0 13 w1 HS.out (by omega)).mono ?_
  rintro e w2 ⟨x, rfl, ⟨x0, _, x1⟩, hs, ho⟩
  have HS2 := Lib.hid hs
  have HO2 := Lib.hid ho
  obtain ⟨m, rfl⟩ := Int.eq_ofNat_of_zero_le x0
  have x2 := x1 (by omega)
  have hsz2 : w1.heap.size ≤ w2.heap.size := ho.size
  clear hs ho x1 x0
  go_wp2_with fail
  refine (draw_any' w.heap.size (0 + 2) (1 + m) _ w2 (by omega) HS2.out (by omega) (by omega)).mono ?_
  rintro e w3 ⟨a, A1, c1, rfl, hla, hia, hma, hs, ho⟩
  have HS3 := Lib.hid hs
  have HO3 := Lib.hid (HO2.out.trans ho)
  have hsz3 : w2.heap.size ≤ w3.heap.size := ho.size
  have HA3 := Lib.hid hma
  clear hs ho hma
  go_wp2_with fail
  refine (draw_any' w.heap.size _ (1 + m) _ w3 (by omega) HS3.out (by omega) (by omega)).mono ?_
  rintro e w4 ⟨b, A2, c2, rfl, hlb, hib, hmb, hs, ho⟩
  have HS4 := Lib.hid hs
  have HO4 := Lib.hid (HO3.out.trans ho)
  have hsz4 : w3.heap.size ≤ w4.heap.size := ho.size
  have HA4 := Lib.hid (HA3.out.ints.onlyP ho (HA3.out.farP (by omega)))
  have HB4 := Lib.hid hmb
  clear hs ho hmb
  go_wp2_with fail
  refine (draw_any' w.heap.size _ (1 + m) _ w4 (by omega) HS4.out (by omega) (by omega)).mono ?_
  rintro e w5 ⟨c, A3, c3, rfl, hlc, hic, hmc, hs, ho⟩
  have HO5 := Lib.hid (HO4.out.trans ho)
  have HA5 := Lib.hid (HA4.out.onlyP ho (HA3.out.farP (by omega)))
  have HB5 := Lib.hid (HB4.out.ints.onlyP ho (HB4.out.farP (by omega)))
  have HC5 := Lib.hid hmc.ints
  clear hs ho hmc
  have HLa := Lib.hid hla
  have HLb := Lib.hid hlb
  have HLc := Lib.hid hlc
  clear hla hlb hlc
  go_wp2
  go_ret3
  exact ⟨1 + m, a, b, c, A1, A2, A3, c1, c2, c3, by rw [HLc.out]; rfl, by omega, by omega, HLa.out, HLb.out, HLc.out, hia, hib, hic, HA5.out, HB5.out, HC5.out, HB.out.trans (HO5.out.below HB.out.size (fun q hq => by omega))⟩

theorem same_any (A B : Option Addr) (cap cap' : Nat) (zs : List Int) (w : World) (hA : Ints w A zs) (hB : Ints w B zs) (hn : zs.length ≤ 4611686018427387904) :
    Calls Try.prog 17 #[.slice A zs.length cap, .slice B zs.length cap'] w fun e w' => e = .returned (.bool true) ∧ Drawn w w' := by
  go_enter Try.func17, Try.ntmps17
  go_wp2
  go_loopw [5] (fun i wr => ∃ k : Nat, k ≤ zs.length ∧ i = .int .i64 (k : Int) ∧ Hid (Drawn w wr)) (fun i _ => zs.length - (intOf i).toNat)
  case atStart => exact ⟨0, by omega, by go_num, Drawn.refl _⟩
  case round =>
    obtain ⟨k, hk, rfl, HD⟩ := hrel
    by_cases hlt : k < zs.length
    · obtain ⟨b1, o1, x, rfl, hx, hc1⟩ := (hA.below (HD.out.below _)).at_ hlt
      obtain ⟨b2, o2, y, rfl, hy, hc2⟩ := (hB.below (HD.out.below _)).at_ hlt
      obtain rfl : x = y := by rw [hx] at hy; simpa using hy
      clear hx hy
      have hkl : (k : Int) < (zs.length : Int) := by omega
      go_wp2
      go_quiet (fail)
      rename Nat => nq
      go_wp2
      go_roundw
      case rel => exact ⟨k + 1, by omega, by go_num, HD.out.trans ⟨nq, rfl⟩⟩
      case measure => simp [intOf]; omega
    · go_wp2
      go_ret
      exact ⟨rfl, HD.out⟩

end Go.Proofs.Ytbgjbppjnmolfaa
