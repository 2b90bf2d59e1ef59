/- FnExactScheduleText: for every list of actions the program's ScheduleText returns what the reference's returns. No condition; the card ties the library's tables to the program's text. -/
import Derived.Test.YtpfpdjaccggkgaaDoorKB
import Derived.Test.YtpfpdjaccggkgaaDoorKTC
import Derived.Shelf.Strings.OnBuilder
import Derived.Shelf.LaysM
import Derived.Shelf.Strconv.Itoa4
import Derived.Lib.SmallJoins
import Derived.Laws.OwnMore
import Derived.Deep.Slices
import Derived.Deep.Fields
import Derived.WalkKit
import Derived.ProofKit
import Derived.OpenShut
import Derived.ShutString
import Derived.ChangeOld
import Derived.Below
import Derived.Test.YtpfpdjaccggkgaaDoorCards
import Derived.Test.YtpfpdjaccggkgaaDoorTie
import Derived.Deep.DeepHandedRow
import Derived.Lib.LaidTab

/- Walks of ValidWeights, of the program and of the reference, and of its law. -/
namespace Go.Proofs.YtpfpdjaccggkgaaDoor
open Go.RowKit Plain

/-- are these weights? -/
def wts (zs : List Int) : Bool := decide (zs.length ≤ 40) && zs.all (fun x => inR x 0 1000)

theorem wts_false_of {zs : List Int} {k : Nat} {x : Int} (h : zs[k]? = some x) (hx : inR x 0 1000 = false) : wts zs = false := by
  unfold wts
  rw [Bool.and_eq_false_iff]
  right
  rw [List.all_eq_false]
  exact ⟨x, List.mem_of_getElem? h, by simp [hx]⟩

theorem all_take_snoc {zs : List Int} {k : Nat} {x : Int} {p : Int → Bool} (h : zs[k]? = some x) (ht : (zs.take k).all p = true) (hx : p x = true) : (zs.take (k + 1)).all p = true := by
  rw [take_snoc' zs k x h, List.all_append, ht]; simp [hx]

theorem any_not {zs : List Int} : zs.any (fun x => !inR x 0 1000) = !zs.all (fun x => inR x 0 1000) := by
  induction zs with
  | nil => rfl
  | cons x l ih => simp only [List.any_cons, List.all_cons, ih, Bool.not_and]

end Go.Proofs.YtpfpdjaccggkgaaDoor

/- Walks of ValidSchedule, of the program and of the reference, and of its law. -/
namespace Go.Proofs.YtpfpdjaccggkgaaDoor
open Go.RowKit Plain

/-- is this a schedule? -/
def isSched (l : List (Int × Int)) : Bool := decide (l.length ≤ 400) && l.all (fun x => isAct x.1 x.2)

theorem isSched_false_of {l : List (Int × Int)} {k : Nat} {x y : Int} (h : l[k]? = some (x, y)) (hx : isAct x y = false) : isSched l = false := by
  unfold isSched
  rw [Bool.and_eq_false_iff]
  right
  rw [List.all_eq_false]
  exact ⟨(x, y), List.mem_of_getElem? h, by simp [hx]⟩
theorem allA_take_snoc {l : List (Int × Int)} {k : Nat} {x : Int × Int} {p : Int × Int → Bool} (h : l[k]? = some x) (ht : (l.take k).all p = true) (hx : p x = true) : (l.take (k + 1)).all p = true := by
  rw [take_snoc' l k x h, List.all_append, ht]; simp [hx]
theorem anyA_not {l : List (Int × Int)} : l.any (fun x => !isAct x.1 x.2) = !l.all (fun x => isAct x.1 x.2) := by
  induction l with
  | nil => rfl
  | cons x l ih => simp only [List.any_cons, List.all_cons, ih, Bool.not_and]

theorem l06Action_b (b : Bool) (k a : Int) (h : isAct k a = b) (w : World) :
    Calls Tryd.prog 16 #[act k a] w fun e w' => e = .returned (.bool b) ∧ Below w.heap.size w w' := h ▸ l06Action_any k a w

set_option maxHeartbeats 400000 in
theorem l06Schedule_any (A : Option Addr) (cap : Nat) (l : List (Int × Int)) (w : World) (hA : Acts w A l) (hn : l.length ≤ 4611686018427387904) :
    Calls Tryd.prog 9 #[.slice A l.length cap] w fun e w' => e = .returned (.bool (isSched l)) ∧ Below w.heap.size w w' := by
  go_enter Tryd.func9, Tryd.ntmps9
  go_wp2
  go_loopw [3] (fun i wr => ∃ k : Nat, k ≤ l.length ∧ i = .int .i64 (k : Int) ∧ Below w.heap.size w wr ∧ Hid ((l.take k).all (fun x => isAct x.1 x.2) = true)) (fun i _ => l.length - (intOf i).toNat)
  case atStart => exact ⟨0, by omega, by go_num, Below.refl _ _, by show _ = _; simp⟩
  case round =>
    obtain ⟨k, hk, rfl, hb, HR⟩ := hrel
    by_cases hlt : k < l.length
    · obtain ⟨b, o, x, y, rfl, hx, hc1, hc2⟩ := (hA.below hb).at_ hlt
      have HX := Lib.hid hx; clear hx
      cases hq : isAct x y
      · have H := Lib.hid hq; clear hq
        go_wp2_with fail
        refine (l06Action_b false _ _ H.out _).mono ?_; rintro e w1 ⟨rfl, hb1⟩
        go_wp2
        go_ret
        exact ⟨ret_bool (isSched_false_of HX.out H.out).symm, bnext hb hb1⟩
      · have H := Lib.hid hq; clear hq
        go_wp2_with fail
        refine (l06Action_b true _ _ H.out _).mono ?_; rintro e w1 ⟨rfl, hb1⟩
        go_wp2
        go_roundw
        case rel => exact ⟨k + 1, by omega, by go_num, bnext hb hb1, allA_take_snoc HX.out HR.out H.out⟩
        case measure => simp [intOf]; omega
    · obtain rfl : k = l.length := by omega
      go_wp2
      go_ret
      exact ⟨ret_bool (by have h := HR.out; rw [List.take_length] at h; simp [isSched, h]; try omega), hb⟩

theorem validSchedI (A : Option Addr) (cap : Nat) (l : List (Int × Int)) (w : World) (hA : Acts w A l) (hn : l.length ≤ 4611686018427387904) :
    Calls Tryd.prog 12 #[.slice A l.length cap] w fun e w' => e = .returned (.bool (isSched l)) ∧ Below w.heap.size w w' := by
  have hp : Hid (∀ x y wx, Below w.heap.size w wx → Calls Tryd.prog 19 (#[act x y] ++ #[]) wx fun e w' => e = .returned (.bool ((fun (z : Int × Int) => !isAct z.1 z.2) (x, y))) ∧ Below wx.heap.size wx w') := fun x y wx _ => notAction x y wx
  have hf : Enters 19 := enters Tryd.func19 (by kernel_rfl) rfl
  by_cases h : l.length ≤ 400
  · have HE : Hid (isSched l = !l.any (fun z => !isAct z.1 z.2)) := by show _ = _; rw [anyA_not]; simp [isSched, h]
    go_enter Tryd.func12, Tryd.ntmps12
    go_wp2_with fail
    refine (containsFuncA A cap l w hA hn _ hf _ (fun z => !isAct z.1 z.2) hp).mono ?_; rintro e w' ⟨rfl, hb⟩
    generalize l.any (fun z => !isAct z.1 z.2) = q at *
    cases q
    all_goals
      go_wp2
      go_ret
      exact ⟨ret_bool (by rw [HE.out]; rfl), hb⟩
  · have HE : Hid (isSched l = false) := by show _ = _; simp [isSched]; intro; omega
    go_enter Tryd.func12, Tryd.ntmps12
    go_wp2_with fail
    go_ret
    exact ⟨ret_bool (by rw [HE.out]), Below.refl _ _⟩

theorem szActs_ok (A : Option Addr) (cap : Nat) (n : Nat) (w : World) (h : n ≤ 1048576) :
    Calls Tryd.prog 4 #[.slice A n cap, .int .i64 1048576] w fun e w' => e = .returned (.int .i64 (1048576 - (n : Int))) ∧ w = w' := by
  go_enter Tryd.func4, Tryd.ntmps4
  go_wp2
  go_ret
  exact ⟨rfl, rfl⟩
theorem szActs_no (A : Option Addr) (cap : Nat) (n : Nat) (w : World) (h : ¬ n ≤ 1048576) (hm : n ≤ 9223372036854775807) :
    Calls Tryd.prog 4 #[.slice A n cap, .int .i64 1048576] w fun e w' => e = .returned (.int .i64 (-1)) ∧ w = w' := by
  go_enter Tryd.func4, Tryd.ntmps4
  go_wp2
  go_ret
  exact ⟨rfl, rfl⟩

end Go.Proofs.YtpfpdjaccggkgaaDoor

/- Walks: words and texts of schedules, in the spec. -/
namespace Go.Proofs.YtpfpdjaccggkgaaDoor
open Go.RowKit Plain

theorem isAct_bd {k a : Int} (h : isAct k a = true) : (k = 1 ∨ k = 2 ∨ k = 3 ∨ k = 4) ∧ 0 ≤ a ∧ a ≤ 40 := by
  unfold isAct at h
  split at h
  · have := inR_true.1 h; omega
  · split at h
    · have := inR_true.1 h; omega
    · split at h
      · simp at h; omega
      · cases h
theorem isSched_at {l : List (Int × Int)} (h : isSched l = true) {k : Nat} (hk : k < l.length) : isAct (acAt l k).1 (acAt l k).2 = true := by
  unfold isSched at h
  simp only [Bool.and_eq_true, List.all_eq_true] at h
  exact h.2 _ (List.mem_of_getElem? (ac_get hk))
theorem isSched_len {l : List (Int × Int)} (h : isSched l = true) : l.length ≤ 400 := by
  unfold isSched at h
  simp only [Bool.and_eq_true, decide_eq_true_eq] at h
  exact h.1
theorem wd_size {l : List (Int × Int)} (h : isSched l = true) (k : Nat) (hk : k < l.length) : (wdAt l k).size ≤ 11 :=
  wordB_size (by have := isAct_bd (isSched_at h hk); omega)
/-- a text returned -/
def Rett (s : ByteArray) (w : World) (e : Ending) (w' : World) : Prop := Below w.heap.size w w' ∧ e = .returned (.string s)
/-- a schedule's text -/
def schedB (l : List (Int × Int)) : ByteArray := if isSched l = true then (if l.length = 0 then ⟨#[45]⟩ else catW l l.length) else ⟨#[]⟩
theorem schedB_bad {l : List (Int × Int)} (h : isSched l = false) : schedB l = ⟨#[]⟩ := by unfold schedB; rw [if_neg (by rw [h]; simp)]
theorem schedB_zero {l : List (Int × Int)} (h : isSched l = true) (h0 : l.length = 0) : schedB l = ⟨#[45]⟩ := by unfold schedB; rw [if_pos h, if_pos h0]
theorem schedB_ok {l : List (Int × Int)} (h : isSched l = true) (h0 : 0 < l.length) : schedB l = catW l l.length := by unfold schedB; rw [if_pos h, if_neg (by omega)]

set_option maxHeartbeats 1000000 in
theorem wordS_any (k a : Int) (w : World) (h : isAct k a = true) :
    Calls Tryd.prog 10 #[act k a] w fun e w' => e = .returned (.string (wordB k a)) ∧ Below w.heap.size w w' := by
  have hb := isAct_bd h
  have a0 := hb.2.1
  have a1 := hb.2.2
  have hz := decB_size9 (n := a.toNat) (by omega)
  have HD : Hid (∀ wx, Calls Tryd.prog 17 #[.int .i64 a] wx fun e w' => e = .returned (.string (decB a.toNat)) ∧ Below wx.heap.size wx w') := fun wx => decS_any (a.toNat + 1) a wx a0 (by omega) (by omega)
  rcases hb.1 with rfl | rfl | rfl | rfl
  · have HV : Hid (wordB 1 a = ⟨#[97]⟩ ++ decB a.toNat) := if_pos rfl
    rw [HV.out]
    generalize decB a.toNat = s at *
    clear hb h
    go_enter Tryd.func10, Tryd.ntmps10
    have ez : (⟨#[97]⟩ : ByteArray).size = 1 := rfl
    go_wp2_with fail
    refine (HD.out _).mono ?_; rintro e w1 ⟨rfl, hb1⟩
    have ex : (⟨#[63, 97, 115, 108, 114]⟩ : ByteArray).extract 1 2 = ⟨#[97]⟩ := by kernel_rfl
    rw [ex]
    go_wp2
    go_ret
    exact ⟨rfl, bnext (by go_grown) hb1⟩
  · have HV : Hid (wordB 2 a = ⟨#[115]⟩ ++ decB a.toNat) := by show _ = _; unfold wordB; simp
    rw [HV.out]
    generalize decB a.toNat = s at *
    clear hb h
    go_enter Tryd.func10, Tryd.ntmps10
    have ez : (⟨#[115]⟩ : ByteArray).size = 1 := rfl
    go_wp2_with fail
    refine (HD.out _).mono ?_; rintro e w1 ⟨rfl, hb1⟩
    have ex : (⟨#[63, 97, 115, 108, 114]⟩ : ByteArray).extract 2 3 = ⟨#[115]⟩ := by kernel_rfl
    rw [ex]
    go_wp2
    go_ret
    exact ⟨rfl, bnext (by go_grown) hb1⟩
  · have HV : Hid (wordB 3 a = ⟨#[108]⟩ ++ decB a.toNat) := by show _ = _; unfold wordB; simp
    rw [HV.out]
    generalize decB a.toNat = s at *
    clear hb h
    go_enter Tryd.func10, Tryd.ntmps10
    have ez : (⟨#[108]⟩ : ByteArray).size = 1 := rfl
    go_wp2_with fail
    refine (HD.out _).mono ?_; rintro e w1 ⟨rfl, hb1⟩
    have ex : (⟨#[63, 97, 115, 108, 114]⟩ : ByteArray).extract 3 4 = ⟨#[108]⟩ := by kernel_rfl
    rw [ex]
    go_wp2
    go_ret
    exact ⟨rfl, bnext (by go_grown) hb1⟩
  · have HV : Hid (wordB 4 a = ⟨#[114]⟩) := by show _ = _; unfold wordB; simp
    rw [HV.out]
    clear hb h HD hz
    go_enter Tryd.func10, Tryd.ntmps10
    have ex : (⟨#[63, 97, 115, 108, 114]⟩ : ByteArray).extract 4 5 = ⟨#[114]⟩ := by kernel_rfl
    go_wp2
    go_ret
    exact ⟨by first | rw [ex] | rfl, by go_grown⟩

set_option maxRecDepth 100000 in
set_option maxHeartbeats 1000000 in
theorem schedTextS {A : Option Addr} {cap : Nat} (l : List (Int × Int)) (w : World) (hA : Acts w A l) (hl : l.length ≤ 1048576) :
    Calls Tryd.prog 5 #[.slice A l.length cap] w (Rett (schedB l) w) := by
  have HC := Lib.hid (l06Schedule_any A cap l w hA (by omega))
  have HA := Lib.hid hA
  clear hA
  cases hok : isSched l
  · have HV := Lib.hid (schedB_bad hok)
    rw [HV.out]
    rw [hok] at HC
    clear hok
    go_enter Tryd.func5, Tryd.ntmps5
    go_wp2_with (go_at_call 9; refine HC.out.mono ?_; rintro e w1 ⟨rfl, hb1⟩)
    go_ret
    exact ⟨hb1, rfl⟩
  have HOK := Lib.hid hok
  have hl400 := isSched_len hok
  rw [hok] at HC
  clear hok
  rcases Nat.eq_zero_or_pos l.length with hz | hz
  · have HV := Lib.hid (schedB_zero HOK.out hz)
    rw [HV.out]
    have hzi : ((l.length : Int) == 0) = true := by rw [hz]; rfl
    clear hz
    go_enter Tryd.func5, Tryd.ntmps5
    go_wp2_with (go_at_call 9; refine HC.out.mono ?_; rintro e w1 ⟨rfl, hb1⟩)
    go_ret
    exact ⟨hb1, rfl⟩
  have HV := Lib.hid (schedB_ok HOK.out hz)
  have hzi : ((l.length : Int) == 0) = false := beq_eq_false_iff_ne.2 (by omega)
  rw [HV.out]
  go_enter Tryd.func5, Tryd.ntmps5
  go_wp2_with fail
  refine HC.out.mono ?_; rintro e w1 ⟨rfl, hb1⟩
  have HB1 := Lib.hid hb1
  clear hb1 HC
  go_wp2
  go_loopw [3, 4] (fun t i wr => ∃ (k : Nat), k ≤ l.length ∧ i = .int .i64 (k : Int) ∧ t = .string (catW l k) ∧ Hid (Below w.heap.size w wr)) (fun _ i _ => l.length - (intOf i).toNat)
  case atStart => exact ⟨0, by omega, by go_num, rfl, HB1.out⟩
  case round =>
    obtain ⟨k, hk, rfl, rfl, HB⟩ := hrel
    have hoz := catW_size (l := l) (wd_size HOK.out) k hk
    have hsz : (catW l k).size ≤ 5000 := by omega
    clear hoz
    by_cases hlt : k < l.length
    · obtain ⟨b, o, x, y, rfl, hx, hc1, hc2⟩ := (HA.out.below HB.out).at_ hlt
      have hxy : acAt l k = (x, y) := Option.some.inj ((ac_get hlt).symm.trans hx)
      have hkl : (k : Int) < (l.length : Int) := by omega
      have hact := isSched_at HOK.out hlt
      have hwz := wd_size HOK.out k hlt
      have HO : Hid (catW l (k + 1) = if k = 0 then wdAt l 0 else (catW l k ++ ⟨#[32]⟩) ++ wdAt l k) := rfl
      have HWD : Hid (wdAt l k = wordB x y) := by show _ = _; unfold wdAt; rw [hxy]
      rw [hxy] at hact
      have HW := Lib.hid (wordS_any x y wr hact)
      rw [← HWD.out] at HW
      clear hx hxy hact HWD
      rcases Nat.eq_zero_or_pos k with hk0 | hk0
      · subst hk0
        have HO2 : Hid (catW l (0 + 1) = (⟨#[]⟩ : ByteArray) ++ wdAt l 0) := by show _ = ByteArray.empty ++ _; rw [HO.out, if_pos rfl, ByteArray.empty_append]
        have HX0 : Hid (catW l 0 = ⟨#[]⟩) := rfl
        rw [Nat.zero_mul, Nat.add_zero] at hc1 hc2
        generalize wdAt l 0 = s at *
        rw [HX0.out] at hsz ⊢
        clear HO
        go_wp2_with fail
        refine HW.out.mono ?_; rintro e w3 ⟨rfl, hb3⟩
        have HB3 := Lib.hid (bnext HB.out hb3)
        clear hb3
        go_wp2
        go_roundw
        case rel => exact ⟨1, by omega, by go_num, by rw [HO2.out], HB3.out⟩
        case measure => simp [intOf]; omega
      · have hk1 : 0 < (k : Int) := by omega
        have HO2 : Hid (catW l (k + 1) = (catW l k ++ ⟨#[32]⟩) ++ wdAt l k) := by show _ = _; rw [HO.out, if_neg (by omega)]
        generalize wdAt l k = s at *
        generalize catW l k = x at *
        have ez : (⟨#[32]⟩ : ByteArray).size = 1 := rfl
        clear HO
        go_wp2_with fail
        refine HW.out.mono ?_; rintro e w3 ⟨rfl, hb3⟩
        have HB3 := Lib.hid (bnext HB.out hb3)
        clear hb3
        go_wp2
        go_roundw
        case rel => exact ⟨k + 1, by omega, by go_num, by rw [HO2.out], HB3.out⟩
        case measure => simp [intOf]; omega
    · obtain rfl : k = l.length := by omega
      go_wp2
      go_ret
      exact ⟨HB.out, rfl⟩

end Go.Proofs.YtpfpdjaccggkgaaDoor

/- The library's strings.Join and strconv.FormatInt at this seat: the shelf's contracts, laid by the kit's tools (lay-shelf.mjs, lay-plain.mjs). -/
namespace Go.Proofs
open Go.Shelf
def Tryd.lays156_ren : Go.Shelf.Ren := ⟨fun | 156 => 14 | 165 => 22 | 166 => 23 | 169 => 24 | 240 => 29 | 241 => 30 | 276 => 35 | 277 => 36 | n => n, fun | 31 => 35 | 9 => 9 | 3 => 3 | 4 => 4 | 0 => 0 | 20 => 20 | 72 => 45 | 76 => 49 | 70 => 42 | 37 => 43 | 75 => 48 | 127 => 54 | 164 => 62 | 5 => 5 | 80 => 51 | n => n, fun | n => n⟩
theorem Tryd.lays156 : Go.Proofs.Lays.n156 Tryd.prog Tryd.lays156_ren := {
  mixed := by kernel_rfl
  f156 := Tryd.func14.trans (congrArg some (by kernel_rfl))
  f165 := Tryd.func22.trans (congrArg some (by kernel_rfl))
  f166 := Tryd.func23.trans (congrArg some (by kernel_rfl))
  f169 := Tryd.func24.trans (congrArg some (by kernel_rfl))
  f240 := Tryd.func29.trans (congrArg some (by kernel_rfl))
  f241 := Tryd.func30.trans (congrArg some (by kernel_rfl))
  f276 := Tryd.func35.trans (congrArg some (by kernel_rfl))
  f277 := Tryd.func36.trans (congrArg some (by kernel_rfl))
  t0 := Tryd.underlying0
  a0 := Tryd.isAgg0
  z0 := Tryd.sizeOf0
  v0 := Tryd.zeroValue0
  t3 := Tryd.underlying3
  a3 := Tryd.isAgg3
  z3 := Tryd.sizeOf3
  v3 := Tryd.zeroValue3
  t4 := Tryd.underlying4
  a4 := Tryd.isAgg4
  z4 := Tryd.sizeOf4
  v4 := Tryd.zeroValue4
  t9 := Tryd.underlying9
  a9 := Tryd.isAgg9
  z9 := Tryd.sizeOf9
  v9 := Tryd.zeroValue9
  t20 := Tryd.underlying20
  a20 := Tryd.isAgg20
  z20 := Tryd.sizeOf20
  v20 := Tryd.zeroValue20
  t31 := Tryd.underlying35
  a31 := Tryd.isAgg35
  z31 := Tryd.sizeOf35
  v31 := Tryd.zeroValue35
  t37 := Tryd.underlying43
  a37 := Tryd.isAgg43
  z37 := Tryd.sizeOf43
  v37 := Tryd.zeroValue43
  t70 := Tryd.underlying42
  a70 := Tryd.isAgg42
  z70 := Tryd.sizeOf42
  v70 := Tryd.zeroValue42
  t72 := Tryd.underlying45
  a72 := Tryd.isAgg45
  z72 := Tryd.sizeOf45
  v72 := Tryd.zeroValue45
  t75 := Tryd.underlying48
  a75 := Tryd.isAgg48
  z75 := Tryd.sizeOf48
  v75 := Tryd.zeroValue48
  t76 := Tryd.underlying49
  a76 := Tryd.isAgg49
  z76 := Tryd.sizeOf49
  v76 := Tryd.zeroValue49
  t127 := Tryd.underlying54
  a127 := Tryd.isAgg54
  z127 := Tryd.sizeOf54
  v127 := Tryd.zeroValue54
  t164 := Tryd.underlying62
  a164 := Tryd.isAgg62
  z164 := Tryd.sizeOf62
  v164 := Tryd.zeroValue62 }
theorem Tryd.Builder_Extra_156 : Builder.Extra Tryd.prog Tryd.lays156_ren := {
  sizeBuilder := by kernel_rfl
  liesBuilder := by kernel_rfl
  t5 := Tryd.underlying5
  a5 := Tryd.isAgg5
  z5 := Tryd.sizeOf5
  v5 := Tryd.zeroValue5
  infoByte := by kernel_rfl
  cellsByte := by kernel_rfl
  sizeByte := by kernel_rfl
  neB5 := by decide }
open Go.RowKit in
theorem Tryd.strings_Join_none (a : Option Addr) (c : Nat) (sep : ByteArray) (w : World) :
    Calls Tryd.prog 14 #[.slice a 0 c, .string sep] w fun e w' => e = .returned (.string ⟨#[]⟩) ∧ w' = w := Any.strings_Join_none Tryd.lays156 Tryd.Builder_Extra_156 a c sep w
open Go.RowKit in
theorem Tryd.strings_Join (bk o c : Nat) (xs : List ByteArray) (sep : ByteArray) (w : World) (hcells : ∀ (j : Nat) x, xs[j]? = some x → w.cell? ⟨bk, o + j, none⟩ = some (.string x)) (hbk : bk < w.heap.size) (hN : xs.length ≤ 140737488355328) (hcap : xs.length ≤ c) (hlen : (Lib.join (xs.map (·.data.toList)) sep.data.toList).length ≤ 140737488355328) :
    Calls Tryd.prog 14 #[.slice (some ⟨bk, o, none⟩) xs.length c, .string sep] w fun e w' => e = .returned (.string ⟨(Lib.join (xs.map (·.data.toList)) sep.data.toList).toArray⟩) ∧ Below w.heap.size w w' := Any.strings_Join Tryd.lays156 Tryd.Builder_Extra_156 bk o c xs sep w hcells hbk hN hcap hlen
def Tryd.laysM173_ren : Go.Shelf.Ren := ⟨fun | 173 => 21 | 246 => 28 | 283 => 31 | 284 => 32 | 285 => 33 | 286 => 34 | 129 => 38 | 317 => 37 | 318 => 39 | 319 => 40 | 320 => 41 | 337 => 42 | 338 => 43 | n => n, fun | 2 => 2 | 3 => 3 | 9 => 9 | 4 => 4 | 171 => 56 | 0 => 0 | 53 => 57 | 37 => 43 | 5 => 5 | 173 => 60 | 212 => 67 | 51 => 68 | 20 => 20 | 213 => 69 | 46 => 71 | 232 => 74 | 233 => 75 | n => n, fun | 17 => 0 | 18 => 2 | 19 => 3 | n => n⟩
theorem Tryd.laysM173 : Go.Proofs.LaysM.n173 Tryd.prog Tryd.laysM173_ren := {
  mixed := by kernel_rfl
  f129 := Tryd.func38.trans (congrArg some (by kernel_rfl))
  f173 := Tryd.func21.trans (congrArg some (by kernel_rfl))
  f246 := Tryd.func28.trans (congrArg some (by kernel_rfl))
  f283 := Tryd.func31.trans (congrArg some (by kernel_rfl))
  f284 := Tryd.func32.trans (congrArg some (by kernel_rfl))
  f285 := Tryd.func33.trans (congrArg some (by kernel_rfl))
  f286 := Tryd.func34.trans (congrArg some (by kernel_rfl))
  f317 := Tryd.func37.trans (congrArg some (by kernel_rfl))
  f318 := Tryd.func39.trans (congrArg some (by kernel_rfl))
  f319 := Tryd.func40.trans (congrArg some (by kernel_rfl))
  f320 := Tryd.func41.trans (congrArg some (by kernel_rfl))
  f337 := Tryd.func42.trans (congrArg some (by kernel_rfl))
  f338 := Tryd.func43.trans (congrArg some (by kernel_rfl))
  t0 := Tryd.underlying0
  a0 := Tryd.isAgg0
  z0 := Tryd.sizeOf0
  v0 := Tryd.zeroValue0
  t2 := Tryd.underlying2
  a2 := Tryd.isAgg2
  z2 := Tryd.sizeOf2
  v2 := Tryd.zeroValue2
  t3 := Tryd.underlying3
  a3 := Tryd.isAgg3
  z3 := Tryd.sizeOf3
  v3 := Tryd.zeroValue3
  t4 := Tryd.underlying4
  a4 := Tryd.isAgg4
  z4 := Tryd.sizeOf4
  v4 := Tryd.zeroValue4
  t5 := Tryd.underlying5
  a5 := Tryd.isAgg5
  z5 := Tryd.sizeOf5
  v5 := Tryd.zeroValue5
  t9 := Tryd.underlying9
  a9 := Tryd.isAgg9
  z9 := Tryd.sizeOf9
  v9 := Tryd.zeroValue9
  t20 := Tryd.underlying20
  a20 := Tryd.isAgg20
  z20 := Tryd.sizeOf20
  v20 := Tryd.zeroValue20
  t37 := Tryd.underlying43
  a37 := Tryd.isAgg43
  z37 := Tryd.sizeOf43
  v37 := Tryd.zeroValue43
  t46 := Tryd.underlying71
  a46 := Tryd.isAgg71
  z46 := Tryd.sizeOf71
  v46 := Tryd.zeroValue71
  t51 := Tryd.underlying68
  a51 := Tryd.isAgg68
  z51 := Tryd.sizeOf68
  v51 := Tryd.zeroValue68
  t53 := Tryd.underlying57
  a53 := Tryd.isAgg57
  z53 := Tryd.sizeOf57
  v53 := Tryd.zeroValue57
  t171 := Tryd.underlying56
  a171 := Tryd.isAgg56
  z171 := Tryd.sizeOf56
  v171 := Tryd.zeroValue56
  t173 := Tryd.underlying60
  a173 := Tryd.isAgg60
  z173 := Tryd.sizeOf60
  v173 := Tryd.zeroValue60
  t212 := Tryd.underlying67
  a212 := Tryd.isAgg67
  z212 := Tryd.sizeOf67
  v212 := Tryd.zeroValue67
  t213 := Tryd.underlying69
  a213 := Tryd.isAgg69
  z213 := Tryd.sizeOf69
  t232 := Tryd.underlying74
  a232 := Tryd.isAgg74
  z232 := Tryd.sizeOf74
  v232 := Tryd.zeroValue74
  t233 := Tryd.underlying75
  a233 := Tryd.isAgg75
  z233 := Tryd.sizeOf75
  v233 := Tryd.zeroValue75
  g17 := by kernel_rfl
  g18 := by kernel_rfl
  g19 := by kernel_rfl
  i0 := by kernel_rfl
  i2 := by kernel_rfl
  i3 := by kernel_rfl
  i4 := by kernel_rfl
  i5 := by kernel_rfl
  i9 := by kernel_rfl
  i20 := by kernel_rfl
  i37 := by kernel_rfl
  i46 := by kernel_rfl
  i51 := by kernel_rfl
  i53 := by kernel_rfl
  i171 := by kernel_rfl
  i173 := by kernel_rfl
  i212 := by kernel_rfl
  i232 := by kernel_rfl
  i233 := by kernel_rfl
  m17 := by kernel_rfl
  m18 := by kernel_rfl
  m19 := by kernel_rfl }
open Go.RowKit Go.Sort Go.Lib in
theorem Tryd.strconv_FormatInt_10 (n : Int) (h0 : -9223372036854775808 ≤ n) (h1 : n ≤ 9223372036854775807) (w : World) (htab : Lib.TabIs Tryd.prog w "internal/strconv.uint64pow10" .u64 Lib.pow10Tab) :
    Calls Tryd.prog 21 #[.int .i64 n, .int .i64 10] w fun e w' => e = .returned (.string ⟨(Lib.itoa n).toArray⟩) ∧ ∃ k os, w' = grow (w.drewN k) os := Any.strconv_FormatInt_10 Tryd.laysM173 n h0 h1 w htab
end Go.Proofs

/- Walks: numerals in the program, by the shelf's contract; own rows of texts. -/
namespace Go.Proofs.YtpfpdjaccggkgaaDoor
open Go.RowKit

/-- the table that the library's numerals read -/
def TabP (w : World) : Prop := Lib.TabIs Tryd.prog w "internal/strconv.uint64pow10" .u64 Lib.pow10Tab
theorem grown_below' (w : World) (q : Nat) (os : Array Obj) : Below w.heap.size w (Go.Sort.grow (w.drewN q) os) :=
  ⟨rfl, rfl, rfl, by first | (simp [Go.Sort.grow]; done) | (simp [Go.Sort.grow]; omega), fun i hi => by
    show ((w.drewN q).heap ++ os)[i]? = _
    rw [Array.getElem?_append_left (by show i < w.heap.size; omega)]
    rfl⟩
theorem decI_any (a : Int) (w : World) (a0 : 0 ≤ a) (a1 : a ≤ 1000000000) (ht : TabP w) :
    Calls Tryd.prog 13 #[.int .i64 a] w fun e w' => e = .returned (.string (decB a.toNat)) ∧ Below w.heap.size w w' := by
  have HC : Hid (Calls Tryd.prog 21 #[.int .i64 a, .int .i64 10] w fun e w' => e = .returned (.string (decB a.toNat)) ∧ Below w.heap.size w w') :=
    (Tryd.strconv_FormatInt_10 a (by omega) (by omega) w ht).mono fun e w' ⟨he, q, os, hw⟩ => by
      refine ⟨?_, by rw [hw]; exact grown_below' w q os⟩
      rw [he]
      unfold decB Go.Lib.itoa
      rw [if_neg (by omega)]
  go_enter Tryd.func13, Tryd.ntmps13
  go_wp2_with (go_at_call 21; refine HC.out.mono ?_; rintro e w1 ⟨rfl, hb1⟩)
  go_ret
  exact ⟨rfl, hb1⟩

theorem tabGlob0 : (Tryd.prog.globalNamed "internal/strconv.uint64pow10").isSome = true := by kernel_rfl
theorem tabGlob : ∃ g, Tryd.prog.globalNamed "internal/strconv.uint64pow10" = some g := Option.isSome_iff_exists.1 tabGlob0
theorem TabP.below {w w' : World} (h : TabP w) (hb : Below w.heap.size w w') : TabP w' := by
  obtain ⟨g, hg⟩ := tabGlob
  show Lib.TabIs _ _ _ _ _
  exact Go.Joins.tab_stays (w := w) (B := w.heap.size) hg h hb (Nat.le_refl _)

theorem Tryd.infoStr : (Tryd.prog.info? 9).map (fun i => (i.zero, i.size, i.bytes)) = some (some (.string ⟨#[]⟩), 1, 16) := by kernel_rfl
/-- an own row of texts -/
def StrRow (w : World) (base : Nat) (v : Value) (l : List ByteArray) : Prop := w.ownsRow base 9 1 v l.length (l.map Value.string)
theorem StrRow.lt {w : World} {base : Nat} {v : Value} {l : List ByteArray} (h : StrRow w base v l) {q : Nat} (hq : v.ownBlock = some q) : base ≤ q ∧ q < w.heap.size := World.ownsRow.lt h q hq
theorem StrRow.keep {w w' : World} {base : Nat} {v : Value} {l : List ByteArray} (h : StrRow w base v l) (hb : Below w.heap.size w w') : StrRow w' base v l := by
  refine ⟨h.1, ?_⟩
  rcases h.2 with hn | ⟨g, cap, cur, rfl, hb', hgg, rest⟩
  · exact .inl hn
  · exact .inr ⟨g, cap, cur, rfl, hb', by rw [hb.block g (StrRow.lt h rfl).2]; exact hgg, rest⟩
theorem StrRow.form {w : World} {base : Nat} {v : Value} {l : List ByteArray} (h : StrRow w base v l) : ∃ A cap, v = .slice A l.length cap := by
  rcases h.2 with ⟨hv, h0⟩ | ⟨g, cap, _, hv, _⟩
  · exact ⟨none, 0, by rw [hv, h0]⟩
  · exact ⟨_, _, hv⟩
theorem StrRow.push {w2 : World} {base : Nat} {v2 : Value} {l : List ByteArray} {x : ByteArray} {n : Nat} (hn : n = l.length) (hown : w2.ownsRow base 9 1 v2 (n + 1) (l.map Value.string ++ [.string x])) : StrRow w2 base v2 (l ++ [x]) := by
  unfold StrRow
  rw [List.map_append, List.length_append, ← hn]
  exact hown
theorem StrRow.ownN {w : World} {base : Nat} {v : Value} {l : List ByteArray} (h : StrRow w base v l) {n : Nat} (hn : n = l.length) : w.ownsRow base 9 1 v n (l.map Value.string) := by rw [hn]; exact h
/-- what a join reads -/
theorem StrRow.cells {w : World} {base cap : Nat} {A : Option Addr} {l : List ByteArray} (h : StrRow w base (.slice A l.length cap) l) (h0 : 0 < l.length) : ∃ g, A = some ⟨g, 0, none⟩ ∧ g < w.heap.size ∧ ∀ (j : Nat) x, l[j]? = some x → w.cell? ⟨g, 0 + j, none⟩ = some (.string x) := by
  obtain ⟨g, cap', hv, hb, hlt⟩ := World.ownsRow.form h h0
  have hA : A = some ⟨g, 0, none⟩ := by injection hv
  have hc : cap = cap' := by injection hv
  subst hA
  subst hc
  refine ⟨g, rfl, hlt, fun j x hx => ?_⟩
  have hj : j < l.length := (List.getElem?_eq_some_iff.1 hx).1
  rw [Nat.zero_add, World.ownsRow.cellAt h j (by omega)]
  simp [hx]
theorem StrRow.cap {w : World} {base cap : Nat} {A : Option Addr} {l : List ByteArray} (h : StrRow w base (.slice A l.length cap) l) : l.length ≤ cap := by
  rcases h.2 with ⟨_, h0⟩ | ⟨g, cap', _, hv, _, _, h1, _⟩
  · omega
  · have hc : cap = cap' := by injection hv
    omega

end Go.Proofs.YtpfpdjaccggkgaaDoor

/- Walks: ScheduleText of the program. -/
namespace Go.Proofs.YtpfpdjaccggkgaaDoor
open Go.RowKit Plain

set_option maxRecDepth 100000 in
set_option maxHeartbeats 1000000 in
theorem schedTextI {A : Option Addr} {cap : Nat} (l : List (Int × Int)) (w : World) (hA : Acts w A l) (hl : l.length ≤ 1048576) (htab : TabP w) :
    Calls Tryd.prog 7 #[.slice A l.length cap] w (Rett (schedB l) w) := by
  obtain ⟨i0, hi, hz0, hz1, hz2⟩ := info_parts Tryd.infoStr
  have HC := Lib.hid (validSchedI A cap l w hA (by omega))
  have HA := Lib.hid hA
  have HTAB := Lib.hid htab
  clear hA htab
  cases hok : isSched l
  · have HV := Lib.hid (schedB_bad hok)
    rw [HV.out]
    rw [hok] at HC
    clear hok
    go_enter Tryd.func7, Tryd.ntmps7
    go_wp2_with (go_at_call 12; refine HC.out.mono ?_; rintro e w1 ⟨rfl, hb1⟩)
    go_ret
    exact ⟨hb1, rfl⟩
  have HOK := Lib.hid hok
  have hl400 := isSched_len hok
  rw [hok] at HC
  clear hok
  rcases Nat.eq_zero_or_pos l.length with hz | hz
  · have HV := Lib.hid (schedB_zero HOK.out hz)
    rw [HV.out]
    have hzi : ((l.length : Int) == 0) = true := by rw [hz]; rfl
    clear hz
    go_enter Tryd.func7, Tryd.ntmps7
    go_wp2_with (go_at_call 12; refine HC.out.mono ?_; rintro e w1 ⟨rfl, hb1⟩)
    go_ret
    exact ⟨hb1, rfl⟩
  have HV := Lib.hid (schedB_ok HOK.out hz)
  have hzi : ((l.length : Int) == 0) = false := beq_eq_false_iff_ne.2 (by omega)
  rw [HV.out]
  go_enter Tryd.func7, Tryd.ntmps7
  go_wp2_with fail
  refine HC.out.mono ?_; rintro e w1 ⟨rfl, hb1⟩
  have HB1 : Hid (Below w.heap.size w (w1.alloc (.cells #[] 9))) := bnext hb1 (by go_grown)
  have HR0 : Hid (StrRow (w1.alloc (.cells #[] 9)) w1.heap.size (.slice (some ⟨w1.heap.size, 0, none⟩) 0 0) (wordsOf (l.take 0))) :=
    World.ownsRow_lit w1 #[] 0 (Nat.le_refl _) (by unfold maxLen; omega) (by rfl)
  have hw1s := hb1.size
  clear hb1 HC
  go_wp2
  go_loopw [3, 18] (fun o i wr => ∃ (k : Nat) (Av : Option Addr) (cp : Nat), k ≤ l.length ∧ i = .int .i64 (k : Int) ∧ o = .slice Av k cp ∧ Hid (StrRow wr w1.heap.size (.slice Av k cp) (wordsOf (l.take k))) ∧ Hid (Below w.heap.size w wr) ∧ w1.heap.size ≤ wr.heap.size) (fun _ i _ => l.length - (intOf i).toNat)
  case atStart => exact ⟨0, _, _, by omega, by go_num, rfl, HR0.out, HB1.out, by simp⟩
  case round =>
    obtain ⟨k, Av, cp, hk, rfl, rfl, HR, HB, hws⟩ := hrel
    by_cases hlt : k < l.length
    · obtain ⟨b, o, x, y, rfl, hx, hc1, hc2⟩ := (HA.out.below HB.out).at_ hlt
      have hxy : acAt l k = (x, y) := Option.some.inj ((ac_get hlt).symm.trans hx)
      have hkl : (k : Int) < (l.length : Int) := by omega
      have hact := isSched_at HOK.out hlt
      have HWD : Hid (wdAt l k = wordB x y) := by show _ = _; unfold wdAt; rw [hxy]
      rw [hxy] at hact
      have hbd := isAct_bd hact
      have a0 := hbd.2.1
      have a1 := hbd.2.2
      have HD : Hid (∀ wx, Below wr.heap.size wr wx → Calls Tryd.prog 13 #[.int .i64 y] wx fun e w' => e = .returned (.string (decB y.toNat)) ∧ Below wx.heap.size wx w') := fun wx hb =>
        decI_any y wx a0 (by omega) ((HTAB.out.below HB.out).below hb)
      have z1 := decB_size9 (n := y.toNat) (by omega)
      have HLL := Lib.hid (len_words (l := l) (k := k) (by omega))
      have HTK : Hid (wordsOf (l.take (k + 1)) = wordsOf (l.take k) ++ [wordB x y]) := by show _ = _; rw [take_words hlt, HWD.out]
      generalize wordsOf (l.take k) = xs at *
      have hgb : Below wr.heap.size wr (wr.alloc (.cells #[.int .i64 x, .int .i64 y] 32)) := by go_grown
      have hBX : Cells (wr.alloc (.cells #[.int .i64 x, .int .i64 y] 32)) wr.heap.size 32 [.int .i64 x, .int .i64 y] := Cells.new wr _ _
      clear hx hxy hact
      have hkind := hbd.1
      clear hbd
      by_cases h4 : x = 4
      · subst h4
        have HW4 : Hid (wordB 4 y = ⟨#[114]⟩) := by show _ = _; unfold wordB; simp
        have ex : (⟨#[97, 115, 108, 114]⟩ : ByteArray).extract 3 4 = ⟨#[114]⟩ := by kernel_rfl
        have HB3 := Lib.hid (bnext HB.out hgb)
        have HR3 := Lib.hid (HR.out.keep hgb)
        have hws3 : w1.heap.size ≤ (wr.alloc (.cells #[.int .i64 4, .int .i64 y] 32)).heap.size := Nat.le_trans hws hgb.size
        clear HD z1 hgb hBX
        have hbs := HB3.out.size
        go_wp2_with (at_builtin; refine wpList_append_own _ rfl _ _ 35 rfl w1.heap.size 9 i0 (.string ⟨#[]⟩) 1 16 Tryd.underlying35 hi hz0 hz1 hz2 rfl (by decide) _ k _ rfl ((HR3.out.ownN HLL.out.symm).alloc _) ⟨wr.heap.size + 1, 0, none⟩ 1 1 [.string ⟨#[114]⟩] rfl rfl ?d1 ?d2 ?d3 ?d4 ?d5 ?_)
        try (case d1 => intro j u hj; match j with | 0 => (simp at hj; subst hj; simp [addr_add]) | j + 1 => simp at hj)
        try (case d2 => first | rfl | (intro u hu; simp at hu; subst hu; rfl) | (simp; done))
        case d3 => unfold maxLen; omega
        case d4 => omega
        case d5 => first | omega | (simp; omega) | (simp; done)
        intro v2 w2 hown hg2 _
        have HR3' : StrRow w2 w1.heap.size v2 (xs ++ [⟨#[114]⟩]) := StrRow.push HLL.out.symm hown
        obtain ⟨A2, cp2, hv2⟩ := HR3'.form
        rw [show (xs ++ [(⟨#[114]⟩ : ByteArray)]).length = k + 1 by simp [HLL.out]] at hv2
        subst hv2
        have hb1 : Below (wr.alloc (.cells #[.int .i64 4, .int .i64 y] 32)).heap.size (wr.alloc (.cells #[.int .i64 4, .int .i64 y] 32)) ((wr.alloc (.cells #[.int .i64 4, .int .i64 y] 32)).alloc (.cells #[.string ⟨#[114]⟩] 9)) := by go_grown
        have HB6 : Hid (Below w.heap.size w w2) := (bnext HB3.out hb1).grown hg2 (Nat.le_trans HB3.out.size hb1.size) (fun q hq => by have := (HR3.out.lt hq).1; omega)
        have HR6 := Lib.hid HR3'
        have hw2s : w1.heap.size ≤ w2.heap.size := by have := hg2.size; have := hb1.size; omega
        clear HR3' hown hg2 hb1 hbs
        go_wp2
        go_roundw
        case rel => exact ⟨k + 1, A2, cp2, by omega, by go_num, rfl, by rw [HTK.out, HW4.out]; exact HR6, HB6.out, hw2s⟩
        case measure => simp [intOf]; omega
      · have HX4 : Hid (x ≠ 4) := h4
        obtain ⟨s, hs⟩ : ∃ s, s = (⟨#[97, 115, 108, 114]⟩ : ByteArray).extract (x.toNat - 1) x.toNat := ⟨_, rfl⟩
        have HW4 : Hid (wordB x y = s ++ decB y.toNat) := by
          show _ = _
          rcases hkind with rfl | rfl | rfl | rfl
          · rw [hs]; rfl
          · rw [hs]; rfl
          · rw [hs]; rfl
          · exact absurd rfl h4
        have hsz : s.size = 1 := by
          rcases hkind with rfl | rfl | rfl | rfl
          · rw [hs]; kernel_rfl
          · rw [hs]; kernel_rfl
          · rw [hs]; kernel_rfl
          · exact absurd rfl h4
        generalize decB y.toNat = d at *
        go_wp2_with fail
        refine (HD.out _ hgb).mono ?_; rintro e w3 ⟨rfl, hb3⟩
        rw [← hs]
        have hb3' := bnext hgb hb3
        have HB3 := Lib.hid (bnext HB.out hb3')
        have HR3 := Lib.hid (HR.out.keep hb3')
        have hws3 : w1.heap.size ≤ w3.heap.size := Nat.le_trans hws hb3'.size
        clear hb3 hb3' hgb hBX HD hs hc1 hc2 HR HB hws
        have hbs := HB3.out.size
        go_wp2_with (at_builtin; refine wpList_append_own _ rfl _ _ 35 rfl w1.heap.size 9 i0 (.string ⟨#[]⟩) 1 16 Tryd.underlying35 hi hz0 hz1 hz2 rfl (by decide) _ k _ rfl ((HR3.out.ownN HLL.out.symm).alloc _) ⟨w3.heap.size, 0, none⟩ 1 1 [.string (s ++ d)] rfl rfl ?c1 ?c2 ?c3 ?c4 ?c5 ?_)
        try (case c1 => intro j u hj; match j with | 0 => (simp at hj; subst hj; simp [addr_add]) | j + 1 => simp at hj)
        try (case c2 => first | rfl | (intro u hu; simp at hu; subst hu; rfl) | (simp; done))
        case c3 => unfold maxLen; omega
        case c4 => omega
        case c5 => first | omega | (simp; omega) | (simp; done)
        intro v2 w2 hown hg2 _
        have HR3' : StrRow w2 w1.heap.size v2 (xs ++ [s ++ d]) := StrRow.push HLL.out.symm hown
        obtain ⟨A2, cp2, hv2⟩ := HR3'.form
        rw [show (xs ++ [s ++ d]).length = k + 1 by simp [HLL.out]] at hv2
        subst hv2
        have hb1 : Below w3.heap.size w3 (w3.alloc (.cells #[.string (s ++ d)] 9)) := by go_grown
        have HB6 : Hid (Below w.heap.size w w2) := (bnext HB3.out hb1).grown hg2 (Nat.le_trans HB3.out.size hb1.size) (fun q hq => by have := (HR3.out.lt hq).1; omega)
        have HR6 := Lib.hid HR3'
        have hw2s : w1.heap.size ≤ w2.heap.size := by have := hg2.size; have := hb1.size; omega
        clear HR3' hown hg2 hb1 hbs
        go_wp2
        go_roundw
        case rel => exact ⟨k + 1, A2, cp2, by omega, by go_num, rfl, by rw [HTK.out, HW4.out]; exact HR6, HB6.out, hw2s⟩
        case measure => simp [intOf]; omega
    · obtain rfl : k = l.length := by omega
      rw [List.take_length] at HR
      have hlm : (wordsOf l).length = l.length := by simp [wordsOf]
      have hr := HR.out
      rw [show Value.slice Av l.length cp = Value.slice Av (wordsOf l).length cp by rw [hlm]] at hr
      have hr0 := hr
      obtain ⟨g, rfl, hgl, hcells⟩ := hr.cells (by rw [hlm]; exact hz)
      have hj := catW_join l l.length (Nat.le_refl _)
      rw [List.take_length] at hj
      have hos := catW_size (l := l) (wd_size HOK.out) l.length (Nat.le_refl _)
      have hjl : (Lib.join ((wordsOf l).map (·.data.toList)) (⟨#[32]⟩ : ByteArray).data.toList).length ≤ 140737488355328 := by
        have h2 : (catW l l.length).size = (Lib.join ((wordsOf l).map (·.data.toList)) (⟨#[32]⟩ : ByteArray).data.toList).length := by
          rw [hj]; simp [ByteArray.size]
        omega
      have hcap : (wordsOf l).length ≤ cp := hr0.cap
      have HJ := Lib.hid (Tryd.strings_Join g 0 cp (wordsOf l) ⟨#[32]⟩ wr hcells hgl (by omega) hcap hjl)
      rw [hlm] at HJ
      have HE : Hid ((⟨(Lib.join ((wordsOf l).map (·.data.toList)) (⟨#[32]⟩ : ByteArray).data.toList).toArray⟩ : ByteArray) = catW l l.length) := by
        show _ = _
        rw [hj]
      rw [HE.out] at HJ
      clear hr hr0 hcells hj hos hjl hcap
      go_wp2_with (go_at_call 14; refine HJ.out.mono ?_; rintro e w7 ⟨rfl, hb7⟩)
      go_ret
      exact ⟨bnext HB.out hb7, rfl⟩

end Go.Proofs.YtpfpdjaccggkgaaDoor

/- The walk of the law FnExactScheduleText. -/
namespace Go.Proofs.YtpfpdjaccggkgaaDoor
open Go.RowKit Plain

set_option maxHeartbeats 400000 in
theorem lawExactScheduleText (A : Option Addr) (cap : Nat) (l : List (Int × Int)) (w : World) (hA : Acts w A l) (hm : l.length ≤ 9223372036854775807) (htab : TabP w) :
    Calls Tryd.prog 3 #[.slice A l.length cap] w fun e w' => e = .returned (.bool true) ∧ Below w.heap.size w w' := by
  have HTAB := Lib.hid htab; clear htab
  by_cases h : l.length ≤ 1048576
  · have hn : l.length ≤ 4611686018427387904 := by omega
    obtain ⟨v, hv⟩ : ∃ v : ByteArray, v = schedB l := ⟨_, rfl⟩
    have V := Lib.hid hv; clear hv
    go_enter Tryd.func3, Tryd.ntmps3
    go_wp2_with fail
    refine (szActs_ok A cap _ w h).mono ?_; rintro e w' ⟨rfl, rfl⟩
    go_wp2_with fail
    refine (toActs A cap l w hA h).mono ?_; rintro e w1 ⟨rfl, hI1, hb1, _⟩
    go_wp2_with fail
    refine (schedTextS l _ hI1 h).mono ?_; rw [← V.out]; rintro e w2 ⟨hb2, rfl⟩
    go_wp2_with fail
    refine (toActs A cap l _ ((hA.below hb1).below hb2) h).mono ?_; rintro e w3 ⟨rfl, hI3, hb3, _⟩
    go_wp2_with fail
    refine (schedTextI l _ hI3 h (((HTAB.out.below hb1).below (bnext hb2 hb3)))).mono ?_; rw [← V.out]; rintro e w4 ⟨hb4, rfl⟩
    go_wp2_with fail
    refine (toActs A cap l _ ((((hA.below hb1).below hb2).below hb3).below hb4) h).mono ?_; rintro e w5 ⟨rfl, hI5, hb5, _⟩
    go_wp2_with fail
    refine (eqActs _ _ _ _ l _ ((hI3.below hb4).below hb5) hI5 hn).mono ?_; rintro e w6 ⟨rfl, hb6⟩
    go_wp2
    go_ret
    exact ⟨rfl, bnext (bnext (bnext (bnext (bnext hb1 hb2) hb3) hb4) hb5) hb6⟩
  · go_enter Tryd.func3, Tryd.ntmps3
    go_wp2_with fail
    refine (szActs_no A cap _ w h hm).mono ?_; rintro e w' ⟨rfl, rfl⟩
    go_wp2_with fail
    go_ret
    exact ⟨rfl, Below.refl _ _⟩

end Go.Proofs.YtpfpdjaccggkgaaDoor

/- Opening an argument that is a list of actions. -/
namespace Go.Proofs.YtpfpdjaccggkgaaDoor
open Go.RowKit Go.Deep

theorem Tryd.cellsLA : Tryd.prog.cellsOf 34 = 2 := by kernel_rfl
theorem Tryd.cells1 : Tryd.prog.cellsOf 2 = 1 := by kernel_rfl

set_option maxRecDepth 100000 in
theorem open_acts {H : Type} {enc : TypeId × Value → H} {w : World} {fuel : Nat} {cs : List Value} {x : DataW H × List MemPlace}
    (h : DataW.trod enc Tryd.prog w 0 (fun _ => true) true fuel 22 cs = some x) :
    cs = [.slice none 0 0] ∨ ∃ (a : Addr) (len cap : Nat) (l : List (Int × Int)), cs = [.slice (some a) len cap] ∧ cap ≤ maxLen ∧ len ≤ cap ∧ l.length = len ∧ Acts w (some a) l := by
  rcases Go.Deep.open_slice Tryd.underlying22 h with ⟨h0, _⟩ | ⟨a, len, cap, m, n, D, Pl, hcs, _, hl, hm, hmm, _, hi⟩
  · exact .inl h0
  · refine .inr ⟨a, len, cap, ?_⟩
    have each : ∀ i, i < m → ∃ z : Int × Int, w.cell? (a.add (i * 2)) = some (.int .i64 z.1) ∧ w.cell? (a.add (i * 2 + 1)) = some (.int .i64 z.2) := by
      intro i him
      obtain ⟨cs', hc, ht⟩ := hi i him
      rw [Tryd.cellsLA] at hc
      obtain ⟨ys, n', _, _, _, hlen, hf⟩ := DataW.trod_struct Tryd.underlying34 ht
      obtain ⟨_, hcl, hat⟩ := World.cells?_some hc
      match cs', hcl, ys, hlen with
      | [c0, c1], _, [y0, y1], _ =>
        have h0 : DataW.trod enc Tryd.prog w 0 (fun _ => true) true n' 2 (([c0, c1].drop 0).take (Tryd.prog.cellsOf 2)) = some y0 := hf 0 _ rfl
        have h1 : DataW.trod enc Tryd.prog w 0 (fun _ => true) true n' 2 (([c0, c1].drop 1).take (Tryd.prog.cellsOf 2)) = some y1 := hf 1 _ rfl
        rw [Tryd.cells1] at h0 h1
        obtain ⟨n0, e0, _⟩ := DataW.trod_int Tryd.underlying2 (x := y0) h0
        obtain ⟨n1, e1, _⟩ := DataW.trod_int Tryd.underlying2 (x := y1) h1
        simp at e0 e1
        subst e0 e1
        have a0 := hat 0 (by omega)
        have a1 := hat 1 (by omega)
        rw [Go.Deep.add_add] at a0 a1
        exact ⟨(n0, n1), by simpa using a0, by simpa using a1⟩
    have hlm : len ≤ m := by rw [hmm]; split <;> omega
    obtain ⟨l, hll, hq⟩ := list_of len _ fun i hi => each i (by omega)
    refine ⟨l, hcs, hm, hl, hll, fun hn => ?_⟩
    have hm0 : 0 < m := by omega
    obtain ⟨b, off, spot⟩ := a
    obtain ⟨z, h1, _⟩ := each 0 hm0
    have hspot : spot = none := by simpa [Addr.add] using World.cell?_spot h1
    subst hspot
    have hb : b < w.heap.size := by
      rw [addr_add] at h1
      exact World.block_lt_of_cell? _ _ h1
    refine ⟨b, off, rfl, hb, fun j x hx => ?_⟩
    have h1 := hq j x hx
    rw [addr_add, addr_add] at h1
    exact h1

end Go.Proofs.YtpfpdjaccggkgaaDoor

/- FnExactScheduleText: for every list of actions the program's ScheduleText returns what the reference's returns. No condition; the card ties the library's tables to the program's text. -/
namespace Go.Proofs.YtpfpdjaccggkgaaDoor.fnExactScheduleText
open Go.ChangeShapes Go.WideShapes Go.ChangeAt Go.RowKit

theorem own : ownKnob Tryd.prog.godebug = none := by kernel_rfl
theorem laidOut : laidOutB Tryd.prog = true := by kernel_rfl

/-- what the row's list gives: the third table -/
theorem tab {W : World} (h : laidMetH Tryd.prog Rows.fnExactScheduleTextRow.laid W) : TabP W := by
  have h' : laidMet Tryd.prog Rows.fnExactScheduleTextRow.laid W := h
  obtain ⟨ps, ⟨_, _, _, _, _, q1, _, _, _, _, ⟨_, _, _, _, _, q2, _, _, _, _, ⟨g', t', cs, fuel, p, q, hg', ht', hvar, hd, _⟩, _⟩, _⟩, _⟩ := h'
  have hg : Tryd.prog.globalNamed "internal/strconv.uint64pow10" = some 0 := by kernel_rfl
  obtain rfl := Option.some.inj (hg.symm.trans hg')
  have hty : (Tryd.prog.globals[0]?).map (·.type) = some 67 := by kernel_rfl
  obtain rfl := Option.some.inj (hty.symm.trans ht')
  show Lib.TabIs _ _ _ _ _
  unfold Lib.TabIs
  have hd' : DataW.trod (fun _ => ()) Tryd.prog W 0 (fun _ => true) false fuel 67 cs.toList = some (Lib.tabData .u64 Lib.pow10Tab, p) := hd
  rw [hvar, ← Lib.cells_of_tab Tryd.underlying67 Tryd.underlying57 (by kernel_rfl) (by kernel_rfl) hd']

set_option maxRecDepth 100000 in
theorem contract (H : Type) (enc : TypeId × Value → H) (W : World) (base : Nat) (args : Array Value) (ds gs : List (DataW H)) (before : List MemPlace)
    (hval0 : ∀ (j : Nat) t v, Tryd.f3.params[j]? = some t → args[j]? = some v → Value.okWide Tryd.prog W .any base t v)
    (hW : DataW.Whole enc Tryd.prog Tryd.f3.params.toList Rows.fnExactScheduleTextSpec.vars false W args.toList ds gs before) (hL : laidMetH Tryd.prog Rows.fnExactScheduleTextRow.laid W) :
    Calls Tryd.prog 3 args W fun e W' => ∃ v, e = .returned v ∧ Rows.fnExactScheduleTextSpec.post enc Tryd.prog Tryd.f3 false true false false W args v W' := by
  have hval : ∀ (j : Nat) t v, Tryd.f3.params[j]? = some t → args[j]? = some v → Value.okWide Tryd.prog W .any base t v := hval0
  have hW' := hW
  obtain ⟨p, q, hA0, hV, rfl, hfz, hnd⟩ := hW
  have hA : DataW.TrodAll enc Tryd.prog W 0 (fun _ => true) true Tryd.f3.params.toList args.toList ds p := hA0
  rw [Tryd.params3] at hA hval
  obtain ⟨v0, vs0, d0, ds0, p0, q0, hargs, rfl, rfl, h0, r0⟩ := trodAll_cons hA
  obtain ⟨rfl, rfl, rfl⟩ := trodAll_nil r0
  obtain rfl : args = #[v0] := by cases args; simp_all
  obtain ⟨rfl, rfl⟩ := trodVars_none hV
  obtain ⟨a0, len0, cap0, rfl⟩ := okWide_slice Tryd.underlying22 (hval 0 22 v0 rfl rfl)
  have k0 := h0
  have lt0 : ∀ x ∈ p0, x.block < W.heap.size := by obtain ⟨m, hm⟩ := k0; exact DataW.trod_lt m _ _ _ hm
  obtain ⟨z0, e0, w0, m0⟩ : ∃ l : List (Int × Int), l.length = len0 ∧ Acts W a0 l ∧ l.length ≤ 9223372036854775807 := by
    obtain ⟨fuel, hf⟩ := h0
    rcases open_acts hf with hcs | ⟨x, l, c, zs, hcs, hm, hl, hz, hi⟩
    · simp [Value.cells] at hcs
      obtain ⟨rfl, rfl, rfl⟩ := hcs
      exact ⟨[], rfl, Acts.nil _ _, by simp⟩
    · simp [Value.cells] at hcs
      obtain ⟨rfl, rfl, rfl⟩ := hcs
      exact ⟨zs, hz, hi, by unfold maxLen at hm; omega⟩
  subst e0
  clear hA0 hval0
  refine (lawExactScheduleText a0 cap0 z0 W w0 m0 (tab hL)).mono fun e W' ⟨he, bel⟩ => ?_
  subst he
  exact ⟨_, rfl, _, _, _, [], _, [], hW', trodAll_mk1 (shut_bool Tryd.underlying4 _), (trodAll_cons_mk (Below.trod laidOut (by kernel_rfl) (of_decide_eq_true (by kernel_rfl)) k0 bel lt0) trodAll_mk0), rfl, bel.frame _, fun h => by cases h⟩

/-- a world for the witness -/
def putTab (cs : Array Value) : Obj → Obj
  | .cells _ t frozen => .cells cs t frozen
  | o => o
noncomputable def laidWorld (os : Os) : World :=
  { World.holding Tryd.prog os ⟨#[], #[], []⟩ with heap := (((World.holding Tryd.prog os ⟨#[], #[], []⟩).heap.modify 2 (putTab #[.int .u8 0, .int .u8 1, .int .u8 28, .int .u8 2, .int .u8 29, .int .u8 14, .int .u8 24, .int .u8 3, .int .u8 30, .int .u8 22, .int .u8 20, .int .u8 15, .int .u8 25, .int .u8 17, .int .u8 4, .int .u8 8, .int .u8 31, .int .u8 27, .int .u8 13, .int .u8 23, .int .u8 21, .int .u8 19, .int .u8 16, .int .u8 7, .int .u8 26, .int .u8 12, .int .u8 18, .int .u8 6, .int .u8 11, .int .u8 5, .int .u8 10, .int .u8 9])).modify 3 (putTab #[.int .u8 0, .int .u8 1, .int .u8 56, .int .u8 2, .int .u8 57, .int .u8 49, .int .u8 28, .int .u8 3, .int .u8 61, .int .u8 58, .int .u8 42, .int .u8 50, .int .u8 38, .int .u8 29, .int .u8 17, .int .u8 4, .int .u8 62, .int .u8 47, .int .u8 59, .int .u8 36, .int .u8 45, .int .u8 43, .int .u8 51, .int .u8 22, .int .u8 53, .int .u8 39, .int .u8 33, .int .u8 30, .int .u8 24, .int .u8 18, .int .u8 12, .int .u8 5, .int .u8 63, .int .u8 55, .int .u8 48, .int .u8 27, .int .u8 60, .int .u8 41, .int .u8 37, .int .u8 16, .int .u8 46, .int .u8 35, .int .u8 44, .int .u8 21, .int .u8 52, .int .u8 32, .int .u8 23, .int .u8 11, .int .u8 54, .int .u8 26, .int .u8 40, .int .u8 15, .int .u8 34, .int .u8 20, .int .u8 31, .int .u8 10, .int .u8 25, .int .u8 14, .int .u8 19, .int .u8 9, .int .u8 13, .int .u8 8, .int .u8 7, .int .u8 6])).modify 0 (putTab #[.int .u64 1, .int .u64 10, .int .u64 100, .int .u64 1000, .int .u64 10000, .int .u64 100000, .int .u64 1000000, .int .u64 10000000, .int .u64 100000000, .int .u64 1000000000, .int .u64 10000000000, .int .u64 100000000000, .int .u64 1000000000000, .int .u64 10000000000000, .int .u64 100000000000000, .int .u64 1000000000000000, .int .u64 10000000000000000, .int .u64 100000000000000000, .int .u64 1000000000000000000, .int .u64 10000000000000000000]) }
set_option maxRecDepth 100000 in
theorem laid_met (os : Os) : laidMet Tryd.prog Rows.fnExactScheduleTextRow.laid ((laidWorld os).forCall (fun _ _ => 0) ⟨#[], #[.slice none 0 0], []⟩).memory :=
  laidMet_of_run' 8 (by kernel_rfl) (by kernel_rfl)
theorem reads (os : Os) {H : Type} (enc : TypeId × Value → H) : ∃ places, DataW.whole enc Tryd.prog ((laidWorld os).forCall (fun _ _ => 0) ⟨#[], #[.slice none 0 0], []⟩).memory Tryd.f3.params.toList Rows.fnExactScheduleTextSpec.vars false #[.slice none 0 0].toList 8 = some ([.nil], [], places) :=
  ⟨[], by kernel_rfl⟩

set_option maxRecDepth 100000 in
theorem lifted (os : Os) (started : os.Started) (H : Type) (enc : TypeId × Value → H) (F : Stop.Interp) :
    ReturnsInHanded {} Tryd.checked os 3 .any ((OpenSpec.ofChange Rows.fnExactScheduleTextSpec).preRow enc Tryd.prog Tryd.f3 Rows.fnExactScheduleTextRow.domain false Rows.fnExactScheduleTextRow.laid) (((OpenSpec.ofChange Rows.fnExactScheduleTextSpec).at F).post enc Tryd.prog Tryd.f3 false true false false) := by
  obtain ⟨places, hx⟩ := reads os enc
  refine returnsInHanded_of_row (C := Tryd.checked) (s := OpenSpec.ofChange Rows.fnExactScheduleTextSpec) own started (by kernel_rfl) Tryd.func3
    (witness_row_at (enc := enc) (C := Tryd.checked) false (laidWorld os) #[.slice none 0 0] rfl (by kernel_rfl) (by kernel_rfl) (by kernel_rfl)
      (OpenSpec.preRow_of_cond 8 hx (by kernel_rfl) (fun k hk => by cases hk) (by kernel_rfl) (laid_met os))) ?_
  intro W base args ds gs before hval hW _ _ _ hL _ _
  exact contract H enc W base args ds gs before hval hW hL

theorem said : Rows.FnExactScheduleTextSaid :=
  OpenClaim.holds_of_cond 3 Tryd.f3 rfl rfl rfl rfl rfl rfl rfl ⟨rfl, rfl, rfl, rfl, rfl⟩ rfl rfl rfl rfl rfl (by kernel_rfl) Tryd.func3 (by kernel_rfl)
    (of_decide_eq_true (by kernel_rfl)) (by unfold Func.isWrapper; first | (rw [if_pos (by decide +kernel)]; kernel_rfl) | (rw [if_neg (by decide +kernel)]; exact ⟨rfl, rfl⟩))
    (fun os started H enc _ F => by rw [OpenClaim.pre_eq_preRow]; exact lifted os started H enc F)

/-- no parameter wants a stand-in -/
theorem plain (f : FuncId) (fn : Func) (hf : Tryd.pinned.checked.prog.funcNamed "loop.example/g01091/laws.FnExactScheduleText" = some f) (hfn : Tryd.pinned.checked.prog.funcs[f]? = some fn) :
    false = Tryd.pinned.checked.prog.looks [] ∧ ∀ (j : Nat) t, fn.params[j]? = some t → Tryd.pinned.checked.prog.wantsStandIn t = false := by
  obtain rfl : f = 3 := Option.some.inj ((show Tryd.prog.funcNamed "loop.example/g01091/laws.FnExactScheduleText" = some 3 by kernel_rfl).symm.trans hf) |>.symm
  obtain rfl : fn = Tryd.f3 := (Option.some.inj (Tryd.func3.symm.trans hfn)).symm
  refine ⟨by kernel_rfl, fun j t ht => ?_⟩
  rw [Tryd.params3] at ht
  obtain rfl : t = 22 := by simpa using Array.mem_of_getElem? ht
  exact (show Tryd.prog.wantsStandIn 22 = false by kernel_rfl)

theorem proved : Rows.FnExactScheduleTextCardSaid :=
  Claim7.holds_tied_plain_at .later [] _ _ _ _ said (fun _ h => by cases h) (by kernel_rfl) (fun _ h => by cases h) fnExactScheduleText_row_tie rfl ⟨rfl, rfl⟩ (by kernel_rfl) rfl plain (by kernel_rfl)
#print axioms proved
end Go.Proofs.YtpfpdjaccggkgaaDoor.fnExactScheduleText
