/- Walks of the helpers on lists of actions: toActionS, eqActionS, isAction, l06Action, ValidSchedule. -/
import Derived.Test.YtnbpcdcdfkfmiaaWInts
import Derived.Test.YtnbpcdcdfkfmiaaWReach
namespace Go.Proofs.Ytnbpcdcdfkfmiaa
open Go.RowKit Plain

/-- the slice at A reads as these actions (kind, argument) -/
def Acts (w : World) (A : Option Addr) (l : List (Int × Int)) : Prop :=
  0 < l.length → ∃ b o, A = some ⟨b, o, none⟩ ∧ b < w.heap.size ∧ ∀ j x, l[j]? = some x → w.cell? ⟨b, o + j * 2, none⟩ = some (.int .i64 x.1) ∧ w.cell? ⟨b, o + j * 2 + 1, none⟩ = some (.int .i64 x.2)

theorem Acts.at_ {w : World} {A : Option Addr} {l : List (Int × Int)} {k : Nat} (h : Acts w A l) (hk : k < l.length) :
    ∃ b o x y, A = some ⟨b, o, none⟩ ∧ l[k]? = some (x, y) ∧ w.cell? ⟨b, o + k * 2, none⟩ = some (.int .i64 x) ∧ w.cell? ⟨b, o + k * 2 + 1, none⟩ = some (.int .i64 y) := by
  obtain ⟨b, o, e, _, hc⟩ := h (by omega)
  have hx : l[k]? = some (l[k].1, l[k].2) := List.getElem?_eq_getElem hk
  exact ⟨b, o, l[k].1, l[k].2, e, hx, hc k _ hx⟩
theorem Acts.below {w w' : World} {A : Option Addr} {l : List (Int × Int)} (h : Acts w A l) (hb : Below w.heap.size w w') : Acts w' A l := by
  intro hn
  obtain ⟨b, o, e, hl, hc⟩ := h hn
  exact ⟨b, o, e, Nat.lt_of_lt_of_le hl hb.size, fun j x hx => ⟨(hb.cell (p := ⟨b, _, none⟩) hl).trans (hc j x hx).1, (hb.cell (p := ⟨b, _, none⟩) hl).trans (hc j x hx).2⟩⟩
theorem Acts.nil (w : World) (A : Option Addr) : Acts w A [] := fun h => absurd h (by simp)
theorem Acts.drewN {w : World} {A : Option Addr} {l : List (Int × Int)} (h : Acts w A l) (n : Nat) : Acts (w.drewN n) A l := h

abbrev act (k a : Int) : Value := .agg #[.int .i64 k, .int .i64 a]

/-- is this an action of the form? -/
def isAct (k a : Int) : Bool := if k = 1 then inR a 1 40 else if k = 2 ∨ k = 3 then inR a 0 7 else if k = 4 then a == 0 else false

theorem toAction_any (k a : Int) (w : World) :
    Calls Try.prog 46 #[act k a] w fun e w' => e = .returned (act k a) ∧ Below w.heap.size w w' := by
  go_enter Try.func46, Try.ntmps46
  go_wp2
  go_returns
  exact ⟨rfl, by go_grown⟩

theorem l06Action_any (k a : Int) (w : World) :
    Calls Try.prog 68 #[act k a] w fun e w' => e = .returned (.bool (isAct k a)) ∧ Below w.heap.size w w' := by
  go_enter Try.func68, Try.ntmps68
  go_wp2_with (go_at_call 35; refine (in_any _ _ _ _).mono ?_; rintro e w' ⟨rfl, rfl⟩)
  all_goals (go_returns; exact ⟨ret_bool (by simp_all [isAct]), by go_grown⟩)

theorem isAction_any (k a : Int) (w : World) :
    Calls Try.prog 74 #[act k a] w fun e w' => e = .returned (.bool (isAct k a)) ∧ Below w.heap.size w w' := by
  go_enter Try.func74, Try.ntmps74
  go_wp2_with (go_at_call 60; refine (within_any _ _ _ _).mono ?_; rintro e w' ⟨rfl, rfl⟩)
  all_goals (go_returns; exact ⟨ret_bool (by simp_all [isAct]), by go_grown⟩)

theorem notAction (k a : Int) (w : World) :
    Calls Try.prog 73 #[act k a] w fun e w' => e = .returned (.bool (!isAct k a)) ∧ Below w.heap.size w w' := by
  go_enter Try.func73, Try.ntmps73
  go_wp2_with (go_at_call 74; refine (isAction_any _ _ _).mono ?_; rintro e w' ⟨rfl, hb⟩)
  all_goals (go_returns; exact ⟨by simp [*], ((Below.refl _ _).alloc (Nat.le_refl _) _).trans (hb.mono (by simp))⟩)

theorem eqAction_same (k a : Int) (w : World) :
    Calls Try.prog 49 #[act k a, act k a] w fun e w' => e = .returned (.bool true) ∧ Below w.heap.size w w' := by
  go_enter Try.func49, Try.ntmps49
  go_wp2
  go_returns
  exact ⟨rfl, by go_grown⟩

theorem Try.infoA : (Try.prog.info? 68).map (fun i => (i.zero, i.size, i.bytes)) = some (some (act 0 0), 2, 16) := by kernel_rfl

/-- make of n elements of several cells -/
theorem run_make_many {P : Program} (t e : TypeId) (z : Value) (size bytes : Nat) (ht : P.underlying t = some (.slice e)) (hinfo : (P.info? e).map (fun i => (i.zero, i.size, i.bytes)) = some (some z, size, bytes))
    (kl kc : IntKind) (n : Nat) (hbytes : bytes * n ≤ 281474976710656) (h63 : n ≤ 9223372036854775807) (w : World) :
    (Instr.makeSlice t (.int kl (n : Int)) (.int kc (n : Int))).run P w = .ok (.slice (some ⟨w.heap.size, 0, none⟩) n n) (w.alloc (.cells (madeCells z.cells (n * size)) e)) := by
  obtain ⟨i, hi, hzz⟩ := Option.map_eq_some_iff.1 hinfo
  simp only [Prod.mk.injEq] at hzz
  obtain ⟨hz, hs, hb⟩ := hzz
  have hb' : (i.bytes : Int) * (n : Int) ≤ 281474976710656 := by
    have h : ((i.bytes * n : Nat) : Int) ≤ 281474976710656 := by rw [hb]; omega
    rwa [Int.natCast_mul] at h
  have hr := run_make (P := P) w t e i z ht hi hz kl kc n n (by omega) (Int.le_refl _) hb' (by omega)
  simp only [Int.toNat_natCast, hs] at hr
  exact hr

/-- the cells hold the first k of these actions -/
def ActFill (l : List (Int × Int)) (k : Nat) (C : List Value) : Prop :=
  C.length = l.length * 2 ∧ ∀ j x, j < k → l[j]? = some x → C[j * 2]? = some (.int .i64 x.1) ∧ C[j * 2 + 1]? = some (.int .i64 x.2)
theorem ActFill.step {l : List (Int × Int)} {k : Nat} {C : List Value} (h : ActFill l k C) {x y : Int} (hx : l[k]? = some (x, y)) :
    ActFill l (k + 1) ((C.set (k * 2) (.int .i64 x)).set (k * 2 + 1) (.int .i64 y)) := by
  have hk : k < l.length := (List.getElem?_eq_some_iff.1 hx).1
  refine ⟨by simpa using h.1, fun j z hj hz => ?_⟩
  by_cases e : j = k
  · subst e
    rw [hx] at hz
    obtain rfl : (x, y) = z := by simpa using hz
    have := h.1
    constructor
    · rw [List.getElem?_set_ne (by omega), List.getElem?_set_self (by omega)]
    · rw [List.getElem?_set_self (by simp; omega)]
  · have := h.2 j z (by omega) hz
    rw [List.getElem?_set_ne (by omega), List.getElem?_set_ne (by omega), List.getElem?_set_ne (by omega), List.getElem?_set_ne (by omega)]
    exact this
theorem ActFill.acts {l : List (Int × Int)} {C : List Value} {w : World} {g : Nat} {t : TypeId} (h : ActFill l l.length C) (hc : Cells w g t C) : Acts w (some ⟨g, 0, none⟩) l := by
  intro _
  refine ⟨g, 0, rfl, hc.lt, fun j x hx => ?_⟩
  have hj : j < l.length := (List.getElem?_eq_some_iff.1 hx).1
  rw [hc.cell, hc.cell]
  simpa using h.2 j x hj hx

theorem madeCells_act (n : Nat) : madeCells #[Value.int .i64 0, Value.int .i64 0] (n * 2) = (List.replicate (n * 2) (Value.int .i64 0)).toArray := by
  apply Array.ext
  · simp [madeCells]
  · intro i h1 h2
    rcases Nat.mod_two_eq_zero_or_one i with h | h <;> simp [madeCells, h]

set_option maxHeartbeats 400000 in
theorem toActs (A : Option Addr) (cap : Nat) (l : List (Int × Int)) (w : World) (hA : Acts w A l) (hn : l.length ≤ 1048576) :
    Calls Try.prog 20 #[.slice A l.length cap] w fun e w' =>
      e = .returned (.slice (some ⟨w.heap.size, 0, none⟩) l.length l.length) ∧ Acts w' (some ⟨w.heap.size, 0, none⟩) l ∧ Below w.heap.size w w' ∧
        ∃ C, ActFill l l.length C ∧ Cells w' w.heap.size 68 C := by
  have hmk := run_make_many (P := Try.prog) 30 68 (act 0 0) 2 16 Try.underlying30 Try.infoA .i64 .i64 l.length (by omega) (by omega)
  go_enter Try.func20, Try.ntmps20
  go_wp2
  go_loopw [4] (fun i wr => ∃ (k : Nat) (C : List Value), k ≤ l.length ∧ i = .int .i64 (k : Int) ∧ Cells wr w.heap.size 68 C ∧ Below w.heap.size w wr ∧ ActFill l k C)
    (fun i _ => l.length - (intOf i).toNat)
  case atStart => exact ⟨0, List.replicate (l.length * 2) (.int .i64 0), by omega, by go_num, by rw [madeCells_act]; exact Cells.new _ _ _, by go_grown, by simp, fun j x hj => absurd hj (by omega)⟩
  case round =>
    obtain ⟨k, C, hk, rfl, hC, hB, hD⟩ := hrel
    by_cases hlt : k < l.length
    · obtain ⟨b, o, x, y, rfl, hx, hc1, hc2⟩ := (hA.below hB).at_ hlt
      have HX := Lib.hid hx; clear hx
      have HD := Lib.hid hD; clear hD
      have hl1 := HD.out.1
      go_wp2_with fail
      refine (toAction_any _ _ _).mono ?_; rintro e w1 ⟨rfl, hb1⟩
      have hC1 := Lib.hid (hC.next hb1)
      obtain ⟨u1, h1⟩ : ∃ u1, w1.cell? ⟨w.heap.size, k * 2, none⟩ = some u1 := ⟨C[k * 2], by rw [hC1.out.cell]; simp⟩
      obtain ⟨u2, h2⟩ : ∃ u1, w1.cell? ⟨w.heap.size, k * 2 + 1, none⟩ = some u1 := ⟨C[k * 2 + 1], by rw [hC1.out.cell]; simp⟩
      have f1 : w1.frozen? ⟨w.heap.size, k * 2, none⟩ = false := hC1.out.frozen _
      have f2 : w1.frozen? ⟨w.heap.size, k * 2 + 1, none⟩ = false := hC1.out.frozen _
      clear hc1 hc2 hl1
      go_wp2
      go_roundw
      case rel => exact ⟨k + 1, _, by omega, by go_num, (hC1.out.set_ _ _).set_ _ _, ((hB.trans (hb1.mono hB.size)).setCell (Nat.le_refl _) _).setCell (Nat.le_refl _) _, HD.out.step HX.out⟩
      case measure => simp [intOf]; omega
    · obtain rfl : k = l.length := by omega
      go_wp2
      go_ret
      exact ⟨rfl, hD.acts hC, hB, C, hD, hC⟩

set_option maxHeartbeats 400000 in
theorem eqActs (A B : Option Addr) (cap cap' : Nat) (l : List (Int × Int)) (w : World) (hA : Acts w A l) (hB : Acts w B l) (hn : l.length ≤ 4611686018427387904) :
    Calls Try.prog 22 #[.slice A l.length cap, .slice B l.length cap'] w fun e w' => e = .returned (.bool true) ∧ Below w.heap.size w w' := by
  go_enter Try.func22, Try.ntmps22
  go_wp2
  go_loopw [5] (fun i wr => ∃ k : Nat, k ≤ l.length ∧ i = .int .i64 (k : Int) ∧ Below w.heap.size w wr) (fun i _ => l.length - (intOf i).toNat)
  case atStart => exact ⟨0, by omega, by go_num, Below.refl _ _⟩
  case round =>
    obtain ⟨k, hk, rfl, hb⟩ := hrel
    by_cases hlt : k < l.length
    · obtain ⟨b, o, x, y, rfl, hx, hc1, hc2⟩ := (hA.below hb).at_ hlt
      obtain ⟨b', o', x', y', rfl, hx', hc1', hc2'⟩ := (hB.below hb).at_ hlt
      obtain ⟨rfl, rfl⟩ : x' = x ∧ y' = y := by rw [hx] at hx'; simpa [eq_comm] using hx'
      clear hx hx'
      go_wp2
      go_region_with (go_at_call 49; refine (eqAction_same _ _ _).mono ?_; rintro e w1 ⟨rfl, hb1⟩)
      all_goals
        go_wp2
        go_roundw
        case rel => exact ⟨k + 1, by omega, by go_num, bnext hb (bdrew hb1)⟩
        case measure => simp [intOf]; omega
    · go_wp2
      go_ret
      exact ⟨rfl, hb⟩

set_option maxHeartbeats 400000 in
theorem indexFuncA (A : Option Addr) (cap : Nat) (l : List (Int × Int)) (w : World) (hA : Acts w A l) (hn : l.length ≤ 4611686018427387904)
    (f : Nat) (hf : Enters f) (cs : Array Value) (p : Int × Int → Bool) (hp : Hid (∀ x y wx, Below w.heap.size w wx → Calls Try.prog f (#[act x y] ++ cs) wx fun e w' => e = .returned (.bool (p (x, y))) ∧ Below wx.heap.size wx w')) :
    Calls Try.prog 76 #[.slice A l.length cap, .func (.func f) #[] cs] w fun e w' => e = .returned (.int .i64 (firstAt p l 0)) ∧ Below w.heap.size w w' := by
  go_enter Try.func76, Try.ntmps76
  go_wp2
  go_loopw [5, 8] (fun _ i wr => ∃ k : Nat, k ≤ l.length ∧ i = .int .i64 (k : Int) ∧ Below w.heap.size w wr ∧ Hid (firstAt p l 0 = firstAt p (l.drop k) k)) (fun _ i _ => l.length - (intOf i).toNat)
  case atStart => exact ⟨0, by omega, by go_num, Below.refl _ _, rfl⟩
  case round =>
    obtain ⟨k, hk, rfl, hb, HR⟩ := hrel
    by_cases hlt : k < l.length
    · obtain ⟨b, o, x, y, rfl, hx, hc1, hc2⟩ := (hA.below hb).at_ hlt
      have HS := Lib.hid (firstAt_drop p l k (x, y) hx)
      clear hx
      go_wp2_with fail
      rw [hf _ _, Oper.upon_enter]
      refine (hp.out x y _ hb).mono ?_; rintro e w1 ⟨rfl, hb1⟩
      cases hpx : p (x, y)
      · have HP := Lib.hid hpx; clear hpx
        go_wp2
        go_roundw
        case rel => exact ⟨k + 1, by omega, by go_num, bnext hb hb1, by show _ = _; rw [HR.out, HS.out, HP.out]; rfl⟩
        case measure => simp [intOf]; omega
      · have HP := Lib.hid hpx; clear hpx
        go_wp2
        go_ret
        exact ⟨ret_int (by rw [HR.out, HS.out, HP.out]; rfl), bnext hb hb1⟩
    · obtain rfl : k = l.length := by omega
      go_wp2
      go_ret
      exact ⟨ret_int (by rw [HR.out, firstAt_end]), hb⟩

theorem containsFuncA (A : Option Addr) (cap : Nat) (l : List (Int × Int)) (w : World) (hA : Acts w A l) (hn : l.length ≤ 4611686018427387904)
    (f : Nat) (hf : Enters f) (cs : Array Value) (p : Int × Int → Bool) (hp : Hid (∀ x y wx, Below w.heap.size w wx → Calls Try.prog f (#[act x y] ++ cs) wx fun e w' => e = .returned (.bool (p (x, y))) ∧ Below wx.heap.size wx w')) :
    Calls Try.prog 72 #[.slice A l.length cap, .func (.func f) #[] cs] w fun e w' => e = .returned (.bool (l.any p)) ∧ Below w.heap.size w w' := by
  have HE := Lib.hid (firstAt_any p l 0 (by omega))
  go_enter Try.func72, Try.ntmps72
  go_wp2_with fail
  refine (indexFuncA A cap l w hA hn f hf cs p hp).mono ?_; rintro e w' ⟨rfl, hb⟩
  go_wp2
  go_ret
  exact ⟨ret_bool HE.out, hb⟩

end Go.Proofs.Ytnbpcdcdfkfmiaa
