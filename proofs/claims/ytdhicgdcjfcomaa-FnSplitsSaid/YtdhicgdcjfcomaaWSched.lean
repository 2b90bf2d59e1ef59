/- Walks of ValidSchedule, of the program and of the reference, and of its law. -/
import Derived.Test.YtdhicgdcjfcomaaWActs
import Derived.Test.YtdhicgdcjfcomaaWWeights
namespace Go.Proofs.Ytdhicgdcjfcomaa
open Go.RowKit Plain

/-- is this a schedule? -/
def isSched (l : List (Int × Int)) : Bool := decide (l.length ≤ 400) && l.all (fun x => isAct x.1 x.2)

theorem isSched_false_of {l : List (Int × Int)} {k : Nat} {x y : Int} (h : l[k]? = some (x, y)) (hx : isAct x y = false) : isSched l = false := by
  unfold isSched
  rw [Bool.and_eq_false_iff]
  right
  rw [List.all_eq_false]
  exact ⟨(x, y), List.mem_of_getElem? h, by simp [hx]⟩
theorem allA_take_snoc {l : List (Int × Int)} {k : Nat} {x : Int × Int} {p : Int × Int → Bool} (h : l[k]? = some x) (ht : (l.take k).all p = true) (hx : p x = true) : (l.take (k + 1)).all p = true := by
  rw [take_snoc' l k x h, List.all_append, ht]; simp [hx]
theorem anyA_not {l : List (Int × Int)} : l.any (fun x => !isAct x.1 x.2) = !l.all (fun x => isAct x.1 x.2) := by
  induction l with
  | nil => rfl
  | cons x l ih => simp only [List.any_cons, List.all_cons, ih, Bool.not_and]

theorem l06Action_b (b : Bool) (k a : Int) (h : isAct k a = b) (w : World) :
    Calls Try.prog 29 #[act k a] w fun e w' => e = .returned (.bool b) ∧ Below w.heap.size w w' := h ▸ l06Action_any k a w

set_option maxHeartbeats 400000 in
theorem l06Schedule_any (A : Option Addr) (cap : Nat) (l : List (Int × Int)) (w : World) (hA : Acts w A l) (hn : l.length ≤ 4611686018427387904) :
    Calls Try.prog 18 #[.slice A l.length cap] w fun e w' => e = .returned (.bool (isSched l)) ∧ Below w.heap.size w w' := by
  go_enter Try.func18, Try.ntmps18
  go_wp2
  go_loopw [3] (fun i wr => ∃ k : Nat, k ≤ l.length ∧ i = .int .i64 (k : Int) ∧ Below w.heap.size w wr ∧ Hid ((l.take k).all (fun x => isAct x.1 x.2) = true)) (fun i _ => l.length - (intOf i).toNat)
  case atStart => exact ⟨0, by omega, by go_num, Below.refl _ _, by show _ = _; simp⟩
  case round =>
    obtain ⟨k, hk, rfl, hb, HR⟩ := hrel
    by_cases hlt : k < l.length
    · obtain ⟨b, o, x, y, rfl, hx, hc1, hc2⟩ := (hA.below hb).at_ hlt
      have HX := Lib.hid hx; clear hx
      cases hq : isAct x y
      · have H := Lib.hid hq; clear hq
        go_wp2_with fail
        refine (l06Action_b false _ _ H.out _).mono ?_; rintro e w1 ⟨rfl, hb1⟩
        go_wp2
        go_ret
        exact ⟨ret_bool (isSched_false_of HX.out H.out).symm, bnext hb hb1⟩
      · have H := Lib.hid hq; clear hq
        go_wp2_with fail
        refine (l06Action_b true _ _ H.out _).mono ?_; rintro e w1 ⟨rfl, hb1⟩
        go_wp2
        go_roundw
        case rel => exact ⟨k + 1, by omega, by go_num, bnext hb hb1, allA_take_snoc HX.out HR.out H.out⟩
        case measure => simp [intOf]; omega
    · obtain rfl : k = l.length := by omega
      go_wp2
      go_ret
      exact ⟨ret_bool (by have h := HR.out; rw [List.take_length] at h; simp [isSched, h]; try omega), hb⟩

end Go.Proofs.Ytdhicgdcjfcomaa
