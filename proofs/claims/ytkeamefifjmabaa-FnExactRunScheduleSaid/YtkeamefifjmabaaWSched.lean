/- Walks of ValidSchedule, of the program and of the reference, and of its law. -/
import Derived.Test.YtkeamefifjmabaaWActs
import Derived.Test.YtkeamefifjmabaaWWeights
namespace Go.Proofs.Ytkeamefifjmabaa
open Go.RowKit Plain

/-- is this a schedule? -/
def isSched (l : List (Int × Int)) : Bool := decide (l.length ≤ 400) && l.all (fun x => isAct x.1 x.2)

theorem isSched_false_of {l : List (Int × Int)} {k : Nat} {x y : Int} (h : l[k]? = some (x, y)) (hx : isAct x y = false) : isSched l = false := by
  unfold isSched
  rw [Bool.and_eq_false_iff]
  right
  rw [List.all_eq_false]
  exact ⟨(x, y), List.mem_of_getElem? h, by simp [hx]⟩
theorem allA_take_snoc {l : List (Int × Int)} {k : Nat} {x : Int × Int} {p : Int × Int → Bool} (h : l[k]? = some x) (ht : (l.take k).all p = true) (hx : p x = true) : (l.take (k + 1)).all p = true := by
  rw [take_snoc' l k x h, List.all_append, ht]; simp [hx]
theorem anyA_not {l : List (Int × Int)} : l.any (fun x => !isAct x.1 x.2) = !l.all (fun x => isAct x.1 x.2) := by
  induction l with
  | nil => rfl
  | cons x l ih => simp only [List.any_cons, List.all_cons, ih, Bool.not_and]

theorem l06Action_b (b : Bool) (k a : Int) (h : isAct k a = b) (w : World) :
    Calls Try.prog 81 #[act k a] w fun e w' => e = .returned (.bool b) ∧ Below w.heap.size w w' := h ▸ l06Action_any k a w

set_option maxHeartbeats 400000 in
theorem l06Schedule_any (A : Option Addr) (cap : Nat) (l : List (Int × Int)) (w : World) (hA : Acts w A l) (hn : l.length ≤ 4611686018427387904) :
    Calls Try.prog 58 #[.slice A l.length cap] w fun e w' => e = .returned (.bool (isSched l)) ∧ Below w.heap.size w w' := by
  go_enter Try.func58, Try.ntmps58
  go_wp2
  go_loopw [3] (fun i wr => ∃ k : Nat, k ≤ l.length ∧ i = .int .i64 (k : Int) ∧ Below w.heap.size w wr ∧ Hid ((l.take k).all (fun x => isAct x.1 x.2) = true)) (fun i _ => l.length - (intOf i).toNat)
  case atStart => exact ⟨0, by omega, by go_num, Below.refl _ _, by show _ = _; simp⟩
  case round =>
    obtain ⟨k, hk, rfl, hb, HR⟩ := hrel
    by_cases hlt : k < l.length
    · obtain ⟨b, o, x, y, rfl, hx, hc1, hc2⟩ := (hA.below hb).at_ hlt
      have HX := Lib.hid hx; clear hx
      cases hq : isAct x y
      · have H := Lib.hid hq; clear hq
        go_wp2_with fail
        refine (l06Action_b false _ _ H.out _).mono ?_; rintro e w1 ⟨rfl, hb1⟩
        go_wp2
        go_ret
        exact ⟨ret_bool (isSched_false_of HX.out H.out).symm, bnext hb hb1⟩
      · have H := Lib.hid hq; clear hq
        go_wp2_with fail
        refine (l06Action_b true _ _ H.out _).mono ?_; rintro e w1 ⟨rfl, hb1⟩
        go_wp2
        go_roundw
        case rel => exact ⟨k + 1, by omega, by go_num, bnext hb hb1, allA_take_snoc HX.out HR.out H.out⟩
        case measure => simp [intOf]; omega
    · obtain rfl : k = l.length := by omega
      go_wp2
      go_ret
      exact ⟨ret_bool (by have h := HR.out; rw [List.take_length] at h; simp [isSched, h]; try omega), hb⟩

theorem validSchedS (A : Option Addr) (cap : Nat) (l : List (Int × Int)) (w : World) (hA : Acts w A l) (hn : l.length ≤ 4611686018427387904) :
    Calls Try.prog 26 #[.slice A l.length cap] w fun e w' => e = .returned (.bool (isSched l)) ∧ Below w.heap.size w w' := by
  go_enter Try.func26, Try.ntmps26
  go_wp2_with fail
  refine (l06Schedule_any A cap l w hA hn).mono ?_; rintro e w' ⟨rfl, hb⟩
  go_wp2
  go_ret
  exact ⟨rfl, hb⟩

theorem validSchedI (A : Option Addr) (cap : Nat) (l : List (Int × Int)) (w : World) (hA : Acts w A l) (hn : l.length ≤ 4611686018427387904) :
    Calls Try.prog 28 #[.slice A l.length cap] w fun e w' => e = .returned (.bool (isSched l)) ∧ Below w.heap.size w w' := by
  have hp : Hid (∀ x y wx, Below w.heap.size w wx → Calls Try.prog 61 (#[act x y] ++ #[]) wx fun e w' => e = .returned (.bool ((fun (z : Int × Int) => !isAct z.1 z.2) (x, y))) ∧ Below wx.heap.size wx w') := fun x y wx _ => notAction x y wx
  have hf : Enters 61 := enters Try.func61 (by kernel_rfl) rfl
  by_cases h : l.length ≤ 400
  · have HE : Hid (isSched l = !l.any (fun z => !isAct z.1 z.2)) := by show _ = _; rw [anyA_not]; simp [isSched, h]
    go_enter Try.func28, Try.ntmps28
    go_wp2_with fail
    refine (containsFuncA A cap l w hA hn _ hf _ (fun z => !isAct z.1 z.2) hp).mono ?_; rintro e w' ⟨rfl, hb⟩
    generalize l.any (fun z => !isAct z.1 z.2) = q at *
    cases q
    all_goals
      go_wp2
      go_ret
      exact ⟨ret_bool (by rw [HE.out]; rfl), hb⟩
  · have HE : Hid (isSched l = false) := by show _ = _; simp [isSched]; intro; omega
    go_enter Try.func28, Try.ntmps28
    go_wp2_with fail
    go_ret
    exact ⟨ret_bool (by rw [HE.out]), Below.refl _ _⟩

theorem szActs_ok (A : Option Addr) (cap : Nat) (n : Nat) (w : World) (h : n ≤ 1048576) :
    Calls Try.prog 25 #[.slice A n cap, .int .i64 1048576] w fun e w' => e = .returned (.int .i64 (1048576 - (n : Int))) ∧ w = w' := by
  go_enter Try.func25, Try.ntmps25
  go_wp2
  go_ret
  exact ⟨rfl, rfl⟩
theorem szActs_no (A : Option Addr) (cap : Nat) (n : Nat) (w : World) (h : ¬ n ≤ 1048576) (hm : n ≤ 9223372036854775807) :
    Calls Try.prog 25 #[.slice A n cap, .int .i64 1048576] w fun e w' => e = .returned (.int .i64 (-1)) ∧ w = w' := by
  go_enter Try.func25, Try.ntmps25
  go_wp2
  go_ret
  exact ⟨rfl, rfl⟩

set_option maxHeartbeats 400000 in
theorem lawSched (A : Option Addr) (cap : Nat) (l : List (Int × Int)) (w : World) (hA : Acts w A l) (hm : l.length ≤ 9223372036854775807) :
    Calls Try.prog 7 #[.slice A l.length cap] w fun e w' => e = .returned (.bool true) ∧ Below w.heap.size w w' := by
  by_cases h : l.length ≤ 1048576
  · have hn : l.length ≤ 4611686018427387904 := by omega
    go_enter Try.func7, Try.ntmps7
    go_wp2_with fail
    refine (szActs_ok A cap _ w h).mono ?_; rintro e w' ⟨rfl, rfl⟩
    go_wp2_with fail
    refine (toActs A cap l w hA h).mono ?_; rintro e w1 ⟨rfl, hI1, hb1, _⟩
    go_wp2_with fail
    refine (validSchedS _ _ l _ hI1 hn).mono ?_; rintro e w2 ⟨rfl, hb2⟩
    go_wp2_with fail
    refine (toActs A cap l _ ((hA.below hb1).below hb2) h).mono ?_; rintro e w3 ⟨rfl, hI3, hb3, _⟩
    go_wp2_with fail
    refine (validSchedI _ _ l _ hI3 hn).mono ?_; rintro e w4 ⟨rfl, hb4⟩
    go_wp2_with fail
    refine (toActs A cap l _ ((((hA.below hb1).below hb2).below hb3).below hb4) h).mono ?_; rintro e w5 ⟨rfl, hI5, hb5, _⟩
    go_wp2_with fail
    refine (eqActs _ _ _ _ l _ ((hI3.below hb4).below hb5) hI5 hn).mono ?_; rintro e w6 ⟨rfl, hb6⟩
    go_wp2
    go_ret
    exact ⟨rfl, bnext (bnext (bnext (bnext (bnext hb1 hb2) hb3) hb4) hb5) hb6⟩
  · go_enter Try.func7, Try.ntmps7
    go_wp2_with fail
    refine (szActs_no A cap _ w h hm).mono ?_; rintro e w' ⟨rfl, rfl⟩
    go_wp2_with fail
    go_ret
    exact ⟨rfl, Below.refl _ _⟩

end Go.Proofs.Ytkeamefifjmabaa
