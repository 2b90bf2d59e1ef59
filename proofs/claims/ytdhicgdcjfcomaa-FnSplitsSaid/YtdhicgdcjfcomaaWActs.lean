/- Walks of the helpers on lists of actions: toActionS, eqActionS, isAction, l06Action, ValidSchedule. -/
import Derived.Test.YtdhicgdcjfcomaaWInts
import Derived.Test.YtdhicgdcjfcomaaWReach
namespace Go.Proofs.Ytdhicgdcjfcomaa
open Go.RowKit Plain

/-- the slice at A reads as these actions (kind, argument) -/
def Acts (w : World) (A : Option Addr) (l : List (Int × Int)) : Prop :=
  0 < l.length → ∃ b o, A = some ⟨b, o, none⟩ ∧ b < w.heap.size ∧ ∀ j x, l[j]? = some x → w.cell? ⟨b, o + j * 2, none⟩ = some (.int .i64 x.1) ∧ w.cell? ⟨b, o + j * 2 + 1, none⟩ = some (.int .i64 x.2)

theorem Acts.at_ {w : World} {A : Option Addr} {l : List (Int × Int)} {k : Nat} (h : Acts w A l) (hk : k < l.length) :
    ∃ b o x y, A = some ⟨b, o, none⟩ ∧ l[k]? = some (x, y) ∧ w.cell? ⟨b, o + k * 2, none⟩ = some (.int .i64 x) ∧ w.cell? ⟨b, o + k * 2 + 1, none⟩ = some (.int .i64 y) := by
  obtain ⟨b, o, e, _, hc⟩ := h (by omega)
  have hx : l[k]? = some (l[k].1, l[k].2) := List.getElem?_eq_getElem hk
  exact ⟨b, o, l[k].1, l[k].2, e, hx, hc k _ hx⟩
theorem Acts.below {w w' : World} {A : Option Addr} {l : List (Int × Int)} (h : Acts w A l) (hb : Below w.heap.size w w') : Acts w' A l := by
  intro hn
  obtain ⟨b, o, e, hl, hc⟩ := h hn
  exact ⟨b, o, e, Nat.lt_of_lt_of_le hl hb.size, fun j x hx => ⟨(hb.cell (p := ⟨b, _, none⟩) hl).trans (hc j x hx).1, (hb.cell (p := ⟨b, _, none⟩) hl).trans (hc j x hx).2⟩⟩
theorem Acts.nil (w : World) (A : Option Addr) : Acts w A [] := fun h => absurd h (by simp)
theorem Acts.drewN {w : World} {A : Option Addr} {l : List (Int × Int)} (h : Acts w A l) (n : Nat) : Acts (w.drewN n) A l := h

abbrev act (k a : Int) : Value := .agg #[.int .i64 k, .int .i64 a]

/-- is this an action of the form? -/
def isAct (k a : Int) : Bool := if k = 1 then inR a 1 40 else if k = 2 ∨ k = 3 then inR a 0 7 else if k = 4 then a == 0 else false

theorem l06Action_any (k a : Int) (w : World) :
    Calls Try.prog 29 #[act k a] w fun e w' => e = .returned (.bool (isAct k a)) ∧ Below w.heap.size w w' := by
  go_enter Try.func29, Try.ntmps29
  go_wp2_with (go_at_call 32; refine (in_any _ _ _ _).mono ?_; rintro e w' ⟨rfl, rfl⟩)
  all_goals (go_returns; exact ⟨ret_bool (by simp_all [isAct]), by go_grown⟩)

theorem Try.infoA : (Try.prog.info? 61).map (fun i => (i.zero, i.size, i.bytes)) = some (some (act 0 0), 2, 16) := by kernel_rfl

/-- make of n elements of several cells -/
theorem run_make_many {P : Program} (t e : TypeId) (z : Value) (size bytes : Nat) (ht : P.underlying t = some (.slice e)) (hinfo : (P.info? e).map (fun i => (i.zero, i.size, i.bytes)) = some (some z, size, bytes))
    (kl kc : IntKind) (n : Nat) (hbytes : bytes * n ≤ 281474976710656) (h63 : n ≤ 9223372036854775807) (w : World) :
    (Instr.makeSlice t (.int kl (n : Int)) (.int kc (n : Int))).run P w = .ok (.slice (some ⟨w.heap.size, 0, none⟩) n n) (w.alloc (.cells (madeCells z.cells (n * size)) e)) := by
  obtain ⟨i, hi, hzz⟩ := Option.map_eq_some_iff.1 hinfo
  simp only [Prod.mk.injEq] at hzz
  obtain ⟨hz, hs, hb⟩ := hzz
  have hb' : (i.bytes : Int) * (n : Int) ≤ 281474976710656 := by
    have h : ((i.bytes * n : Nat) : Int) ≤ 281474976710656 := by rw [hb]; omega
    rwa [Int.natCast_mul] at h
  have hr := run_make (P := P) w t e i z ht hi hz kl kc n n (by omega) (Int.le_refl _) hb' (by omega)
  simp only [Int.toNat_natCast, hs] at hr
  exact hr

/-- the cells hold the first k of these actions -/
def ActFill (l : List (Int × Int)) (k : Nat) (C : List Value) : Prop :=
  C.length = l.length * 2 ∧ ∀ j x, j < k → l[j]? = some x → C[j * 2]? = some (.int .i64 x.1) ∧ C[j * 2 + 1]? = some (.int .i64 x.2)
theorem ActFill.step {l : List (Int × Int)} {k : Nat} {C : List Value} (h : ActFill l k C) {x y : Int} (hx : l[k]? = some (x, y)) :
    ActFill l (k + 1) ((C.set (k * 2) (.int .i64 x)).set (k * 2 + 1) (.int .i64 y)) := by
  have hk : k < l.length := (List.getElem?_eq_some_iff.1 hx).1
  refine ⟨by simpa using h.1, fun j z hj hz => ?_⟩
  by_cases e : j = k
  · subst e
    rw [hx] at hz
    obtain rfl : (x, y) = z := by simpa using hz
    have := h.1
    constructor
    · rw [List.getElem?_set_ne (by omega), List.getElem?_set_self (by omega)]
    · rw [List.getElem?_set_self (by simp; omega)]
  · have := h.2 j z (by omega) hz
    rw [List.getElem?_set_ne (by omega), List.getElem?_set_ne (by omega), List.getElem?_set_ne (by omega), List.getElem?_set_ne (by omega)]
    exact this
theorem ActFill.acts {l : List (Int × Int)} {C : List Value} {w : World} {g : Nat} {t : TypeId} (h : ActFill l l.length C) (hc : Cells w g t C) : Acts w (some ⟨g, 0, none⟩) l := by
  intro _
  refine ⟨g, 0, rfl, hc.lt, fun j x hx => ?_⟩
  have hj : j < l.length := (List.getElem?_eq_some_iff.1 hx).1
  rw [hc.cell, hc.cell]
  simpa using h.2 j x hj hx

theorem madeCells_act (n : Nat) : madeCells #[Value.int .i64 0, Value.int .i64 0] (n * 2) = (List.replicate (n * 2) (Value.int .i64 0)).toArray := by
  apply Array.ext
  · simp [madeCells]
  · intro i h1 h2
    rcases Nat.mod_two_eq_zero_or_one i with h | h <;> simp [madeCells, h]

end Go.Proofs.Ytdhicgdcjfcomaa
