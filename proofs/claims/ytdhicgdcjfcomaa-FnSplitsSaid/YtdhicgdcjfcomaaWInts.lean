/- Walks of the helpers on lists of integers: toInt64S, eqInt64S, slices.IndexFunc, slices.ContainsFunc. -/
import Derived.Test.YtdhicgdcjfcomaaB0
namespace Go.Proofs.Ytdhicgdcjfcomaa
open Go.RowKit

theorem Try.infoI : (Try.prog.info? 2).map (fun i => (i.zero, i.size, i.bytes)) = some (some (.int .i64 0), 1, 8) := by kernel_rfl

theorem fill_step {zs : List Int} {C : List Value} {k : Nat} {x : Int} (hx : zs[k]? = some x) (hl : C.length = zs.length) (h : ∀ j y, j < k → zs[j]? = some y → C[j]? = some (.int .i64 y)) :
    (C.set k (.int .i64 x)).length = zs.length ∧ ∀ j y, j < k + 1 → zs[j]? = some y → (C.set k (.int .i64 x))[j]? = some (.int .i64 y) := by
  refine ⟨by simpa using hl, fun j y hj hy => ?_⟩
  by_cases e : j = k
  · subst e
    rw [hx] at hy
    obtain rfl : x = y := by simpa using hy
    have hk : j < C.length := by rw [hl]; exact (List.getElem?_eq_some_iff.1 hx).1
    rw [List.getElem?_set_self hk]
  · rw [List.getElem?_set_ne (by omega)]
    exact h j y (by omega) hy

theorem fill_done {zs : List Int} {C : List Value} (hl : C.length = zs.length) (h : ∀ j y, j < zs.length → zs[j]? = some y → C[j]? = some (.int .i64 y)) : C = zs.map (Value.int .i64) := by
  apply List.ext_getElem?
  intro j
  by_cases hj : j < zs.length
  · rw [h j zs[j] hj (List.getElem?_eq_getElem hj)]
    simp [hj]
  · rw [List.getElem?_eq_none (by omega), List.getElem?_eq_none (by simpa using hj)]

/-- the index of the first element with p, from k on -/
def firstAt {α : Type} (p : α → Bool) : List α → Int → Int
  | [], _ => -1
  | x :: l, k => if p x then k else firstAt p l (k + 1)
theorem firstAt_any {α : Type} (p : α → Bool) (l : List α) (k : Int) (hk : 0 ≤ k) : decide (0 ≤ firstAt p l k) = l.any p := by
  induction l generalizing k with
  | nil => simp [firstAt]
  | cons x l ih =>
    unfold firstAt
    cases hp : p x
    · simp [hp, ih (k + 1) (by omega)]
    · simp [hp, hk]
theorem firstAt_drop {α : Type} (p : α → Bool) (l : List α) (k : Nat) (x : α) (h : l[k]? = some x) : firstAt p (l.drop k) k = if p x then (k : Int) else firstAt p (l.drop (k + 1)) (k + 1 : Nat) := by
  have hk : k < l.length := (List.getElem?_eq_some_iff.1 h).1
  rw [List.drop_eq_getElem_cons hk]
  have : l[k] = x := by rw [List.getElem?_eq_getElem hk] at h; simpa using h
  simp [firstAt, this]
theorem firstAt_end {α : Type} (p : α → Bool) (l : List α) (k : Int) : firstAt p (l.drop l.length) k = -1 := by simp [firstAt]

set_option maxRecDepth 100000 in
set_option maxHeartbeats 400000 in
theorem indexFuncI (A : Option Addr) (cap : Nat) (zs : List Int) (w : World) (hA : Ints w A zs) (hn : zs.length ≤ 4611686018427387904)
    (f : Nat) (hf : Enters f) (cs : Array Value) (p : Int → Bool) (hp : Hid (∀ x, Calls Try.prog f (#[.int .i64 x] ++ cs) w fun e w' => e = .returned (.bool (p x)) ∧ w = w')) :
    Calls Try.prog 38 #[.slice A zs.length cap, .func (.func f) #[] cs] w fun e w' => e = .returned (.int .i64 (firstAt p zs 0)) ∧ w = w' := by
  go_enter Try.func38, Try.ntmps38
  go_wp2
  go_loop [5, 8] (fun _ i => ∃ k : Nat, k ≤ zs.length ∧ i = .int .i64 (k : Int) ∧ Hid (firstAt p zs 0 = firstAt p (zs.drop k) k)) (fun _ i => zs.length - (intOf i).toNat)
  case atStart => exact ⟨0, by omega, by go_num, rfl⟩
  case round =>
    obtain ⟨k, hk, rfl, HR⟩ := hrel
    by_cases hlt : k < zs.length
    · obtain ⟨b, o, x, rfl, hx, hc⟩ := hA.at_ hlt
      have HS := Lib.hid (firstAt_drop p zs k x hx)
      clear hx
      go_wp2_with fail
      rw [hf _ _, Oper.upon_enter]
      refine (hp.out x).mono ?_; rintro e w' ⟨rfl, rfl⟩
      cases hpx : p x
      · have HP := Lib.hid hpx; clear hpx
        go_wp2
        go_round
        case rel => exact ⟨k + 1, by omega, by go_num, by show _ = _; rw [HR.out, HS.out, HP.out]; rfl⟩
        case measure => simp [intOf]; omega
      · have HP := Lib.hid hpx; clear hpx
        go_wp2
        go_ret
        exact ⟨ret_int (by rw [HR.out, HS.out, HP.out]; rfl), rfl⟩
    · obtain rfl : k = zs.length := by omega
      go_wp2
      go_ret
      exact ⟨ret_int (by rw [HR.out, firstAt_end]), rfl⟩

theorem containsFuncI (A : Option Addr) (cap : Nat) (zs : List Int) (w : World) (hA : Ints w A zs) (hn : zs.length ≤ 4611686018427387904)
    (f : Nat) (hf : Enters f) (cs : Array Value) (p : Int → Bool) (hp : Hid (∀ x, Calls Try.prog f (#[.int .i64 x] ++ cs) w fun e w' => e = .returned (.bool (p x)) ∧ w = w')) :
    Calls Try.prog 33 #[.slice A zs.length cap, .func (.func f) #[] cs] w fun e w' => e = .returned (.bool (zs.any p)) ∧ w = w' := by
  have HE := Lib.hid (firstAt_any p zs 0 (by omega))
  go_enter Try.func33, Try.ntmps33
  go_wp2_with fail
  refine (indexFuncI A cap zs w hA hn f hf cs p hp).mono ?_; rintro e w' ⟨rfl, rfl⟩
  go_wp2
  go_ret
  exact ⟨ret_bool HE.out, rfl⟩

end Go.Proofs.Ytdhicgdcjfcomaa
