/- Walks: ValidSeries, areSeries, AddSeries, MulSeries, DivSeries of the program. -/
import Derived.Test.YtbgjbppjnmolfaaWSer2
import Derived.Test.YtbgjbppjnmolfaaWInts
import Derived.Test.YtbgjbppjnmolfaaWChoose
namespace Go.Proofs.Ytbgjbppjnmolfaa
open Go.RowKit Plain

/-- are all of them numbers? -/
def nums' (zs : List Int) : Bool := zs.all fun x => inR x 0 1000002
/-- is it a series? -/
def serB (zs : List Int) : Bool := inR zs.length 1 13 && nums' zs
theorem isNumber_any (x : Int) (w : World) : Calls Try.prog 52 #[.int .i64 x] w fun e w' => e = .returned (.bool (inR x 0 1000002)) ∧ w = w' := by
  go_enter Try.func52, Try.ntmps52
  go_wp2_with fail
  refine (within_any _ _ _ _).mono ?_; rintro e w' ⟨rfl, rfl⟩
  go_wp2
  go_ret
  exact ⟨rfl, rfl⟩
theorem notNumber (x : Int) (w : World) : Calls Try.prog 51 #[.int .i64 x] w fun e w' => e = .returned (.bool (!inR x 0 1000002)) ∧ w = w' := by
  go_enter Try.func51, Try.ntmps51
  go_wp2_with fail
  refine (isNumber_any _ _).mono ?_; rintro e w' ⟨rfl, rfl⟩
  go_wp2
  all_goals (go_ret; exact ⟨by simp [*], rfl⟩)
theorem any_notN {zs : List Int} : zs.any (fun x => !inR x 0 1000002) = !nums' zs := by
  unfold nums'
  induction zs with
  | nil => rfl
  | cons x l ih => simp only [List.any_cons, List.all_cons, ih, Bool.not_and]

theorem areNumbers_any (A : Option Addr) (cap : Nat) (zs : List Int) (n : Int) (w : World) (hA : Ints w A zs) (hn : zs.length ≤ 4611686018427387904) :
    Calls Try.prog 48 #[.slice A zs.length cap, .int .i64 n] w fun e w' => e = .returned (.bool (decide ((zs.length : Int) = n) && nums' zs)) ∧ w = w' := by
  have hp : Hid (∀ x, Calls Try.prog 51 (#[.int .i64 x] ++ #[]) w fun e w' => e = .returned (.bool ((fun x => !inR x 0 1000002) x)) ∧ w = w') := fun x => notNumber x w
  have hf : Enters 51 := enters Try.func51 (by kernel_rfl) rfl
  by_cases h : (zs.length : Int) = n
  · have hd : ((zs.length : Int) == n) = true := by simpa using h
    have HE : Hid ((decide ((zs.length : Int) = n) && nums' zs) = !(zs.any fun x => !inR x 0 1000002)) := by show _ = _; rw [any_notN]; simp [h]
    have H := Lib.hid h; clear h
    go_enter Try.func48, Try.ntmps48
    go_wp2_with fail
    refine (containsFuncI A cap zs w hA hn 51 hf #[] _ hp).mono ?_; rintro e w' ⟨rfl, rfl⟩
    generalize (zs.any fun x => !inR x 0 1000002) = bb at *
    cases bb
    all_goals
      go_wp2
      go_ret
      exact ⟨ret_bool (by rw [HE.out]; rfl), rfl⟩
  · have hd : ((zs.length : Int) == n) = false := by simpa using h
    have HE : Hid ((decide ((zs.length : Int) = n) && nums' zs) = false) := by show _ = _; simp [h]
    rw [HE.out]
    clear h
    go_enter Try.func48, Try.ntmps48
    go_wp2
    go_ret
    exact ⟨rfl, rfl⟩

theorem areNumbers_own (A : Option Addr) (cap : Nat) (zs : List Int) (w : World) (hA : Ints w A zs) (hn : zs.length ≤ 4611686018427387904) :
    Calls Try.prog 48 #[.slice A zs.length cap, .int .i64 zs.length] w fun e w' => e = .returned (.bool (nums' zs)) ∧ w = w' :=
  (areNumbers_any A cap zs zs.length w hA hn).mono fun _ _ ⟨h1, h2⟩ => ⟨by rw [h1]; simp, h2⟩

theorem validSeries_any (A : Option Addr) (cap : Nat) (zs : List Int) (w : World) (hA : Ints w A zs) (hn : zs.length ≤ 4611686018427387904) :
    Calls Try.prog 39 #[.slice A zs.length cap] w fun e w' => e = .returned (.bool (serB zs)) ∧ w = w' := by
  cases h : inR zs.length 1 13
  · have HE : Hid (serB zs = false) := by show _ = _; unfold serB; rw [h]; rfl
    rw [HE.out]
    have H := Lib.hid h; clear h
    go_enter Try.func39, Try.ntmps39
    go_wp2_with fail
    refine (within_any _ _ _ _).mono ?_; rintro e w' ⟨rfl, rfl⟩
    rw [H.out]
    go_wp2
    go_ret
    exact ⟨rfl, rfl⟩
  · have HE : Hid (serB zs = nums' zs) := by show _ = _; unfold serB; rw [h]; simp
    have H := Lib.hid h; clear h
    go_enter Try.func39, Try.ntmps39
    go_wp2_with fail
    refine (within_any _ _ _ _).mono ?_; rintro e w' ⟨rfl, rfl⟩
    rw [H.out]
    go_wp2_with fail
    refine (areNumbers_own A cap zs w hA hn).mono ?_; rintro e w' ⟨rfl, rfl⟩
    generalize nums' zs = bb at *
    cases bb
    all_goals
      go_wp2
      go_ret
      exact ⟨ret_bool (by rw [HE.out]), rfl⟩

theorem serB_isS {zs : List Int} (h : serB zs = true) : 0 < zs.length ∧ zs.length ≤ 13 ∧ IsS zs := by
  unfold serB at h
  rw [Bool.and_eq_true] at h
  have h1 := inR_true.1 h.1
  refine ⟨by omega, by omega, fun k => ?_⟩
  by_cases hk : k < zs.length
  · have := List.all_eq_true.1 h.2 (cf zs k) (List.mem_of_getElem? (cf_some hk))
    exact inR_true.1 this
  · rw [cf_big (by omega)]; omega
theorem serB_of {zs : List Int} (h0 : 0 < zs.length) (h1 : zs.length ≤ 13) (h : IsS zs) : serB zs = true := by
  unfold serB nums'
  rw [Bool.and_eq_true, List.all_eq_true]
  refine ⟨inR_true.2 (by omega), fun x hx => ?_⟩
  obtain ⟨k, hk, rfl⟩ := List.getElem_of_mem hx
  have := h k
  rw [cf_get (List.getElem?_eq_getElem hk)] at this
  exact inR_true.2 this

/-- two series of one order -/
theorem areSeries_yes (A B : Option Addr) (cap cap' : Nat) (a b : List Int) (w : World) (hA : Ints w A a) (hB : Ints w B b) (hl : b.length = a.length) (ha : serB a = true) (hb : serB b = true) :
    Calls Try.prog 34 #[.slice A a.length cap, .slice B b.length cap'] w fun e w' => e = .returned (.int .i64 0) ∧ w = w' := by
  obtain ⟨a0, a1, _⟩ := serB_isS ha
  have HL := Lib.hid hl
  have HA := Lib.hid ha
  have HB := Lib.hid hb
  have hd : ((a.length : Int) != (b.length : Int)) = false := by rw [hl]; simp
  have hbn : b.length ≤ 4611686018427387904 := by omega
  clear hl ha hb
  go_enter Try.func34, Try.ntmps34
  go_wp2_with fail
  refine (validSeries_any A cap a w hA (by omega)).mono ?_; rintro e w' ⟨rfl, rfl⟩
  rw [HA.out]
  go_wp2_with fail
  refine (validSeries_any B cap' b w hB hbn).mono ?_; rintro e w' ⟨rfl, rfl⟩
  rw [HB.out]
  go_wp2
  go_ret
  exact ⟨rfl, rfl⟩

/-- what an operation of two series comes to -/
def SerPost2 (zs : List Int) (code : Int) (w : World) (e : Ending) (w' : World) : Prop :=
  ∃ g, e = .returned (.tuple #[.slice (some ⟨g, 0, none⟩) zs.length zs.length, .int .i64 code]) ∧ IntsM w' w.heap.size (some ⟨g, 0, none⟩) zs ∧ Below w.heap.size w w'
theorem IntsM.mono {w : World} {B B' : Nat} {A : Option Addr} {zs : List Int} (h : IntsM w B A zs) (hB : B' ≤ B) : IntsM w B' A zs := fun hn => by
  obtain ⟨b, o, e, h1, h2, h3⟩ := h hn
  exact ⟨b, o, e, by omega, h2, h3⟩

theorem addSeries_yes (A B : Option Addr) (cap cap' : Nat) (a b : List Int) (w : World) (hA : Ints w A a) (hB : Ints w B b) (hl : b.length = a.length) (ha : serB a = true) (hb : serB b = true) :
    Calls Try.prog 15 #[.slice A a.length cap, .slice B b.length cap'] w (SerPost2 (addL a b) 0 w) := by
  obtain ⟨a0, a1, ia⟩ := serB_isS ha
  obtain ⟨_, _, ib⟩ := serB_isS hb
  have HS := Lib.hid (areSeries_yes A B cap cap' a b w hA hB hl ha hb)
  have HF := Lib.hid (added_any A B cap cap' a b w hA hB hl (by omega) ia ib)
  have HN := Lib.hid (addL_length a b)
  rw [hl] at HS ⊢
  clear hl ha hb
  go_enter Try.func15, Try.ntmps15
  go_wp2_with fail
  refine HS.out.mono ?_; rintro e w' ⟨rfl, rfl⟩
  go_wp2_with fail
  refine HF.out.mono ?_; rintro e w1 ⟨rfl, hc, hb1⟩
  have HC := Lib.hid hc
  have HB1 := Lib.hid hb1
  clear hc hb1
  generalize addL a b = l at *
  go_wp2
  go_ret2
  exact ⟨_, rfl, HC.out.intsM' (Nat.le_refl _), HB1.out⟩

theorem mulSeries_yes (A B : Option Addr) (cap cap' : Nat) (a b : List Int) (w : World) (hA : Ints w A a) (hB : Ints w B b) (hl : b.length = a.length) (ha : serB a = true) (hb : serB b = true) :
    Calls Try.prog 16 #[.slice A a.length cap, .slice B b.length cap'] w (SerPost2 (mulL a b) 0 w) := by
  obtain ⟨a0, a1, ia⟩ := serB_isS ha
  obtain ⟨_, _, ib⟩ := serB_isS hb
  have HS := Lib.hid (areSeries_yes A B cap cap' a b w hA hB hl ha hb)
  have HF := Lib.hid (product_any A B cap cap' a b w hA hB hl (by omega) ia ib)
  have HN := Lib.hid (mulL_length a b)
  rw [hl] at HS ⊢
  clear hl ha hb
  go_enter Try.func16, Try.ntmps16
  go_wp2_with fail
  refine HS.out.mono ?_; rintro e w' ⟨rfl, rfl⟩
  go_wp2_with fail
  refine HF.out.mono ?_; rintro e w1 ⟨rfl, hc, hb1⟩
  have HC := Lib.hid hc
  have HB1 := Lib.hid hb1
  clear hc hb1
  generalize mulL a b = l at *
  go_wp2
  go_ret2
  exact ⟨_, rfl, HC.out.intsM' (Nat.le_refl _), HB1.out⟩


theorem divSeries_yes (A B : Option Addr) (cap cap' : Nat) (a b : List Int) (w : World) (hA : Ints w A a) (hB : Ints w B b) (hl : b.length = a.length) (ha : serB a = true) (hb : serB b = true) (h0 : cf b 0 ≠ 0) :
    Calls Try.prog 18 #[.slice A a.length cap, .slice B b.length cap'] w (SerPost2 (divL a b) 0 w) := by
  obtain ⟨a0, a1, ia⟩ := serB_isS ha
  obtain ⟨_, _, ib⟩ := serB_isS hb
  have HS := Lib.hid (areSeries_yes A B cap cap' a b w hA hB hl ha hb)
  have HF := Lib.hid (quotient_any A B cap cap' a b w hA hB hl (by omega) a0 ia ib)
  obtain ⟨b2, o2, rfl, _, hc2⟩ := hB.cfAt (by omega)
  have g0 := hc2 0 (by omega)
  simp only [Nat.add_zero] at g0
  have hz : (cf b 0 == 0) = false := by simpa using h0
  have hlen : (0 : Int) < (a.length : Int) := by omega
  rw [hl] at HS ⊢
  clear hl ha hb hc2 h0
  generalize cf b 0 = x at *
  go_enter Try.func18, Try.ntmps18
  go_wp2_with fail
  refine HS.out.mono ?_; rintro e w' ⟨rfl, rfl⟩
  go_wp2_with fail
  refine HF.out.mono ?_; rintro e w1 ⟨rfl, hc, hb1⟩
  have HC := Lib.hid hc
  have HB1 := Lib.hid hb1
  clear hc hb1
  generalize divL a b = l at *
  go_wp2
  go_ret2
  exact ⟨_, rfl, HC.out.intsM' (Nat.le_refl _), HB1.out⟩

theorem divSeries_no (A B : Option Addr) (cap cap' : Nat) (a b : List Int) (w : World) (hA : Ints w A a) (hB : Ints w B b) (hl : b.length = a.length) (ha : serB a = true) (hb : serB b = true) (h0 : cf b 0 = 0) :
    Calls Try.prog 18 #[.slice A a.length cap, .slice B b.length cap'] w fun e w' => e = .returned (.tuple #[.slice none 0 0, .int .i64 6]) ∧ w = w' := by
  obtain ⟨a0, a1, ia⟩ := serB_isS ha
  have HS := Lib.hid (areSeries_yes A B cap cap' a b w hA hB hl ha hb)
  obtain ⟨b2, o2, rfl, _, hc2⟩ := hB.cfAt (by omega)
  have g0 := hc2 0 (by omega)
  rw [h0] at g0
  simp only [Nat.add_zero] at g0
  have hlen : (0 : Int) < (b.length : Int) := by omega
  clear hl ha hb hc2 h0
  go_enter Try.func18, Try.ntmps18
  go_wp2_with fail
  refine HS.out.mono ?_; rintro e w' ⟨rfl, rfl⟩
  go_wp2
  go_ret2
  exact ⟨rfl, rfl⟩

end Go.Proofs.Ytbgjbppjnmolfaa
