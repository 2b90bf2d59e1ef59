/- Walks: the spoiling of a list of actions: l06SpoilList. -/
import Derived.Test.YtdhicgdcjfcomaaWDrawL2
import Derived.Deep.Upon
import Derived.Deep.LoopGhost
import Derived.Deep.CutRange
import Derived.BigQuiet
import Derived.BigRegion
namespace Go.Proofs.Ytdhicgdcjfcomaa
open Go.RowKit Plain

/-- the slice at A has n actions, whichever they be -/
def SomeActs (w : World) (A : Option Addr) (n : Nat) : Prop :=
  0 < n → ∃ b o, A = some ⟨b, o, none⟩ ∧ b < w.heap.size ∧ ∀ j, j < n → ∃ x y : Int, w.cell? ⟨b, o + j * 2, none⟩ = some (.int .i64 x) ∧ w.cell? ⟨b, o + j * 2 + 1, none⟩ = some (.int .i64 y)
theorem acts_list {P : Nat → Int → Int → Prop} : ∀ n, (∀ j, j < n → ∃ x y, P j x y) → ∃ l : List (Int × Int), l.length = n ∧ ∀ j x, l[j]? = some x → P j x.1 x.2 := by
  intro n
  induction n with
  | zero => intro _; exact ⟨[], rfl, fun j x h => by simp at h⟩
  | succ n ih =>
    intro h
    obtain ⟨l, hl, hp⟩ := ih (fun j hj => h j (by omega))
    obtain ⟨x, y, hxy⟩ := h n (by omega)
    refine ⟨l ++ [(x, y)], by simp [hl], fun j z hz => ?_⟩
    rcases Nat.lt_or_ge j l.length with hj | hj
    · rw [List.getElem?_append_left hj] at hz; exact hp j z hz
    · rw [List.getElem?_append_right hj] at hz
      have : j - l.length = 0 := by
        rcases Nat.eq_zero_or_pos (j - l.length) with h0 | h0
        · exact h0
        · rw [List.getElem?_eq_none (by simp; omega)] at hz; cases hz
      rw [this] at hz
      obtain rfl : (x, y) = z := by simpa using hz
      obtain rfl : j = n := by omega
      exact hxy
theorem SomeActs.acts {w : World} {A : Option Addr} {n : Nat} (h : SomeActs w A n) : ∃ l : List (Int × Int), l.length = n ∧ Acts w A l := by
  rcases Nat.eq_zero_or_pos n with rfl | hn
  · exact ⟨[], rfl, Acts.nil w A⟩
  · obtain ⟨b, o, e, hb, hc⟩ := h hn
    obtain ⟨l, hl, hp⟩ := acts_list n hc
    exact ⟨l, hl, fun _ => ⟨b, o, e, hb, hp⟩⟩
theorem ActRow.someA {w : World} {base cap : Nat} {A : Option Addr} {l : List (Int × Int)} (h : ActRow w base (.slice A l.length cap) l) : SomeActs w A l.length := fun hn => by
  obtain ⟨b, o, e, hl, hc⟩ := h.actsM.acts hn
  exact ⟨b, o, e, hl, fun j hj => ⟨_, _, hc j _ (List.getElem?_eq_getElem hj)⟩⟩
theorem SomeActs.take {w : World} {A : Option Addr} {n m : Nat} (h : SomeActs w A n) (hm : m ≤ n) : SomeActs w A m := fun hn => by
  obtain ⟨b, o, e, hl, hc⟩ := h (by omega)
  exact ⟨b, o, e, hl, fun j hj => hc j (by omega)⟩
theorem SomeActs.below {w w' : World} {A : Option Addr} {n : Nat} (h : SomeActs w A n) (hb : Below w.heap.size w w') : SomeActs w' A n := fun hn => by
  obtain ⟨b, o, e, hl, hc⟩ := h hn
  refine ⟨b, o, e, Nat.lt_of_lt_of_le hl hb.size, fun j hj => ?_⟩
  obtain ⟨x, y, h1, h2⟩ := hc j hj
  exact ⟨x, y, (hb.cell (p := ⟨b, _, none⟩) hl).trans h1, (hb.cell (p := ⟨b, _, none⟩) hl).trans h2⟩
/-- the first m cells are integers -/
def IntC (C : List Value) (m : Nat) : Prop := ∀ i, i < m → ∃ x : Int, C[i]? = some (.int .i64 x)
theorem IntC.set {C : List Value} {m : Nat} (h : IntC C m) (i : Nat) (x : Int) : IntC (C.set i (.int .i64 x)) m := fun k hk => by
  obtain ⟨y, hy⟩ := h k hk
  by_cases e : i = k
  · subst e
    have : i < C.length := (List.getElem?_eq_some_iff.1 hy).1
    exact ⟨x, by rw [List.getElem?_set_self this]⟩
  · exact ⟨y, by rw [List.getElem?_set_ne e]; exact hy⟩
theorem ActRow.intC {w : World} {base g cap : Nat} {l : List (Int × Int)} (h : ActRow w base (.slice (some ⟨g, 0, none⟩) l.length cap) l) (hn : 0 < l.length) : ∃ C, Cells w g 61 C ∧ IntC C (l.length * 2) := by
  have hC0 : ∃ C : List Value, Cells w g 61 C := by
    rcases h.2 with ⟨hv, _⟩ | ⟨g', cap', cur, hv, _, hg, _⟩
    · cases hv
    · injection hv with e1 _ _
      obtain rfl : g = g' := by simpa using e1
      exact ⟨cur.toList, by simpa [Cells] using hg⟩
  obtain ⟨C, hC⟩ := hC0
  refine ⟨C, hC, fun i hi => ?_⟩
  obtain ⟨b, o, e, _, hc⟩ := h.someA hn
  injection e with e; injection e with e1 e2
  subst e1; subst e2
  obtain ⟨x, y, h1, h2⟩ := hc (i / 2) (by omega)
  rw [Nat.zero_add] at h1 h2
  rcases Nat.mod_two_eq_zero_or_one i with hm | hm
  · refine ⟨x, ?_⟩
    rw [← hC.cell, show i = i / 2 * 2 by omega]; exact h1
  · refine ⟨y, ?_⟩
    rw [← hC.cell, show i = i / 2 * 2 + 1 by omega]; exact h2
theorem IntC.someA {w : World} {g n : Nat} {C : List Value} (hC : Cells w g 61 C) (h : IntC C (n * 2)) : SomeActs w (some ⟨g, 0, none⟩) n := fun _ => by
  refine ⟨g, 0, rfl, hC.lt, fun j hj => ?_⟩
  obtain ⟨x, hx⟩ := h (j * 2) (by omega)
  obtain ⟨y, hy⟩ := h (j * 2 + 1) (by omega)
  exact ⟨x, y, by rw [Nat.zero_add, hC.cell]; exact hx, by rw [Nat.zero_add, hC.cell]; exact hy⟩

theorem one_any (p B : Nat) (n : Int) (w : World) (h : Src w p B) (hB : B ≤ 1500000000000000000) :
    Calls Try.prog 14 #[.pointer (some ⟨p, 0, none⟩), .int .i64 n] w (fun e w' => ∃ b : Bool, e = .returned (.bool b) ∧ Src w' p (B + 2) ∧ Only (fun q => q = p) w w') := by
  have H := Lib.hid h; clear h
  go_enter Try.func14, Try.ntmps14
  go_wp2_with fail
  refine (pick_any p B n w H.out (by omega)).mono ?_
  rintro e w1 ⟨x, rfl, _, hs, ho⟩
  have HS := Lib.hid hs
  have HO := Lib.hid ho
  clear hs ho
  go_wp2
  go_ret
  exact ⟨x == 0, rfl, HS.out, HO.out⟩

def SpPost (p B : Nat) (w : World) (e : Ending) (w' : World) : Prop :=
  ∃ A n cp, e = .returned (.slice A n cp) ∧ n ≤ 402 ∧ SomeActs w' A n ∧ Src w' p (B + 2000) ∧ Only (fun q => q = p) w w'

theorem Src.only {w w' : World} {S : Nat → Prop} {p B : Nat} (h : Src w p B) (ho : Only S w w') (hp : ∀ q, q ≤ p → ¬ S q) : Src w' p B := by
  obtain ⟨A, n, cap, at_, seed, h, hB⟩ := h
  exact ⟨A, n, cap, at_, seed, h.only ho (hp p (Nat.le_refl _)) (fun q _ hq => hp q (Nat.le_of_lt (h.far q hq))), hB⟩

/-- nothing is appended, as a step of the walk -/
theorem wpList_append_none' {P : Program} {w : World} {ops : Array Oper} {rest : List Oper} {o : Oper} {a : Act} {Q : Exit → Act → World → Prop} (hgd : o.guard = none) (s x : Operand) (t : TypeId)
    (ho : o.op = .call { callee := .builtin .append, args := #[s, x], argTypes := #[t, t] }) (e : TypeId) (i : TypeInfo) (ht : P.underlying t = some (.slice e)) (hi : P.info? e = some i)
    (base : Option Addr) (sLen sCap : Nat) (hle : sLen ≤ sCap) (hs : a.eval s = .slice base sLen sCap) (xv : Value) (hx : a.eval x = xv) (hsrc : Go.Src P i.size t xv 0 [] w)
    (h : wpList P ops Q rest (a.put o.dst (.slice base sLen sCap)) w) : wpList P ops Q (o :: rest) a w := by
  refine wpList_plain hgd fun K hK => ?_
  have hr := run_append_nothing (P := P) w t t o.type e i ht hi base sLen sCap hle xv hsrc
  unfold Oper.wp
  simp [execOp, ho, resolve, invoke, builtin, hs, hx, hr, Result.andThen]
  exact hK _ _ h

set_option maxRecDepth 100000 in
set_option maxHeartbeats 2000000 in
theorem spoil_none (p B cp : Nat) (Av : Option Addr) (w : World) (hS : Src w p B) (hB : B ≤ 1200000000000000000) :
    Calls Try.prog 17 #[.pointer (some ⟨p, 0, none⟩), .slice Av 0 cp] w (SpPost p B w) := by
  obtain ⟨i0, hi, hz0, hz1, hz2⟩ := info_parts Try.infoA
  have hsrc : ∀ wx, Go.Src Try.prog i0.size 24 (.slice Av 0 cp) 0 [] wx := fun wx => by
    cases Av with
    | none => exact Go.Src.ofNil wx Try.underlying24 cp
    | some a => exact Go.Src.ofSlice wx Try.underlying24 a 0 cp [] (by simp) (by simp) (by simp)
  have HSR := Lib.hid hsrc
  have hpw := hS.lt
  have hb1 : Below w.heap.size w (w.alloc (.cells #[] 61)) := by go_grown
  have HS := Lib.hid (hS.below hb1)
  have HR0 : Hid (ActRow (w.alloc (.cells #[] 61)) w.heap.size (.slice (some ⟨w.heap.size, 0, none⟩) 0 0) []) := World.ownsRow_lit w #[] 0 (Nat.le_refl _) (by unfold maxLen; omega) (by rfl)
  have HB1 := Lib.hid hb1
  clear hsrc hS hb1
  go_enter Try.func17, Try.ntmps17
  go_wp2_with (at_builtin; refine wpList_append_none' rfl _ _ 24 rfl 61 i0 Try.underlying24 hi _ 0 0 (Nat.le_refl _) rfl _ rfl (HSR.out _) ?_)
  refine (pick_any p B 4 _ HS.out (by omega)).mono ?_
  rintro e w1 ⟨x, rfl, ⟨x0, _, x1⟩, hs, ho⟩
  have hx1 := x1 (by omega)
  have HR1 : Hid (ActRow w1 w.heap.size (.slice (some ⟨w.heap.size, 0, none⟩) 0 0) []) := HR0.out.keep fun g hg => ho.block g (HR0.out.lt hg).2 (by have := (HR0.out.lt hg).1; omega)
  have HO1 : Hid (Only (fun q => q = p) w w1) := (Only.of_below HB1.out).trans ho
  have HS1 := Lib.hid hs
  clear hs ho HR0 HS x1
  go_wp2_with fail
  refine (pick_any p (B + 2) 3 w1 HS1.out (by omega)).mono ?_
  rintro e w2 ⟨y, rfl, ⟨y0, _, y1⟩, hs, ho⟩
  have hy1 := y1 (by omega)
  have HR2 : Hid (ActRow w2 w.heap.size (.slice (some ⟨w.heap.size, 0, none⟩) 0 0) []) := HR1.out.keep fun g hg => ho.block g (HR1.out.lt hg).2 (by have := (HR1.out.lt hg).1; omega)
  have HO2 : Hid (Only (fun q => q = p) w w2) := HO1.out.trans ho
  have HS2 := Lib.hid hs
  have hw2 : w.heap.size ≤ w2.heap.size := HO2.out.size
  clear hs ho HR1 HS1 y1
  go_wp2_with (at_builtin; refine wpList_append_own _ rfl _ _ 24 rfl w.heap.size 61 i0 (act 0 0) 2 16 Try.underlying24 hi hz0 hz1 hz2 rfl (by decide) _ 0 _ rfl (HR2.out.own.alloc _) ⟨w2.heap.size, 0, none⟩ 1 1 [.int .i64 (1 + x), .int .i64 y] rfl rfl ?c1 ?c2 ?c3 ?c4 ?c5 ?_)
  try (case c1 => exact cell_two_new _ _ _ _)
  try (case c2 => intro u hu; simp at hu; rcases hu with rfl | rfl <;> rfl)
  case c3 => unfold maxLen; omega
  case c4 => omega
  case c5 => first | omega | (simp; omega) | (simp; done)
  intro v2 w4 hown hg _
  obtain ⟨hR4, hO4⟩ := ActRow.push (out := []) _ rfl hown hg
  obtain ⟨A2, cp2, hv2⟩ := hR4.form
  subst hv2
  have hb4 : Below w.heap.size w2 w4 := hO4.below hw2 (fun q hq => (HR2.out.lt hq).1)
  have HSM := Lib.hid hR4.someA
  have HS4 : Hid (Src w4 p (B + 2 + 2)) := HS2.out.only (Only.ofB hb4 hO4.size) (fun q hq h => by omega)
  have HO5 : Hid (Only (fun q => q = p) w w4) := HO2.out.upto (Nat.le_refl _) hb4 hO4.size
  clear hown hg hR4 hO4 hb4 HR2
  go_wp2
  go_ret
  exact ⟨A2, 1, cp2, rfl, by omega, HSM.out, HS4.out.mono (by omega), HO5.out⟩

end Go.Proofs.Ytdhicgdcjfcomaa
