/- Walks of the helpers on lists of integers: toInt64S, eqInt64S, slices.IndexFunc, slices.ContainsFunc. -/
import Derived.Test.YtkeamefifjmabaaB0
namespace Go.Proofs.Ytkeamefifjmabaa
open Go.RowKit

theorem Try.infoI : (Try.prog.info? 2).map (fun i => (i.zero, i.size, i.bytes)) = some (some (.int .i64 0), 1, 8) := by kernel_rfl

theorem fill_step {zs : List Int} {C : List Value} {k : Nat} {x : Int} (hx : zs[k]? = some x) (hl : C.length = zs.length) (h : ∀ j y, j < k → zs[j]? = some y → C[j]? = some (.int .i64 y)) :
    (C.set k (.int .i64 x)).length = zs.length ∧ ∀ j y, j < k + 1 → zs[j]? = some y → (C.set k (.int .i64 x))[j]? = some (.int .i64 y) := by
  refine ⟨by simpa using hl, fun j y hj hy => ?_⟩
  by_cases e : j = k
  · subst e
    rw [hx] at hy
    obtain rfl : x = y := by simpa using hy
    have hk : j < C.length := by rw [hl]; exact (List.getElem?_eq_some_iff.1 hx).1
    rw [List.getElem?_set_self hk]
  · rw [List.getElem?_set_ne (by omega)]
    exact h j y (by omega) hy

theorem fill_done {zs : List Int} {C : List Value} (hl : C.length = zs.length) (h : ∀ j y, j < zs.length → zs[j]? = some y → C[j]? = some (.int .i64 y)) : C = zs.map (Value.int .i64) := by
  apply List.ext_getElem?
  intro j
  by_cases hj : j < zs.length
  · rw [h j zs[j] hj (List.getElem?_eq_getElem hj)]
    simp [hj]
  · rw [List.getElem?_eq_none (by omega), List.getElem?_eq_none (by simpa using hj)]

set_option maxHeartbeats 400000 in
theorem toInts (A : Option Addr) (cap : Nat) (zs : List Int) (w : World) (hA : Ints w A zs) (hn : zs.length ≤ 1048576) :
    Calls Try.prog 18 #[.slice A zs.length cap] w fun e w' =>
      e = .returned (.slice (some ⟨w.heap.size, 0, none⟩) zs.length zs.length) ∧ w.alloc (intsObj 2 zs) = w' := by
  have hmk := run_make_row' (P := Try.prog) 25 2 (.int .i64 0) 8 Try.underlying25 Try.infoI rfl .i64 .i64 zs.length (by omega) (by omega)
  go_enter Try.func18, Try.ntmps18
  go_wp2
  go_loopw [4] (fun i wr => ∃ (k : Nat) (C : List Value), k ≤ zs.length ∧ i = .int .i64 (k : Int) ∧ wr = w.alloc (.cells C.toArray 2) ∧ C.length = zs.length ∧ ∀ j y, j < k → zs[j]? = some y → C[j]? = some (.int .i64 y))
    (fun i _ => zs.length - (intOf i).toNat)
  case atStart => exact ⟨0, List.replicate zs.length (.int .i64 0), by omega, by go_num, by rw [madeCells_one], by simp, fun j y hj => absurd hj (by omega)⟩
  case round =>
    obtain ⟨k, C, hk, rfl, rfl, hC, hD⟩ := hrel
    by_cases hlt : k < zs.length
    · obtain ⟨b, o, x, rfl, hx, hc⟩ := hA.at_ hlt
      have hb : b < w.heap.size := World.block_lt_of_cell? _ _ hc
      have hcell : (w.alloc (.cells C.toArray 2)).cell? ⟨b, o + k, none⟩ = some (.int .i64 x) := by rw [World.cell?_alloc_lt _ _ _ hb]; exact hc
      obtain ⟨c, hcur⟩ : ∃ c, (w.alloc (.cells C.toArray 2)).cell? ⟨w.heap.size, k, none⟩ = some c := ⟨C[k], by
        rw [cell_of_row _ _ _ _ _ _ (heap_alloc_new w _)]; simp⟩
      have hS := fill_step hx hC hD
      clear hD hc
      have HS := Lib.hid hS; clear hS
      have HC := Lib.hid hC; clear hC
      go_wp2
      go_roundw
      case rel => exact ⟨k + 1, C.set k (.int .i64 x), by omega, by go_num, by simp, HS.out.1, HS.out.2⟩
      case measure => simp [intOf]; omega
    · obtain rfl : k = zs.length := by omega
      have HE := Lib.hid (fill_done hC hD); clear hD hC
      go_wp2
      go_ret
      exact ⟨rfl, by rw [HE.out]; rfl⟩

theorem toInts' (A : Option Addr) (cap : Nat) (zs : List Int) (w : World) (hA : Ints w A zs) (hn : zs.length ≤ 1048576) :
    Calls Try.prog 18 #[.slice A zs.length cap] w fun e w' =>
      e = .returned (.slice (some ⟨w.heap.size, 0, none⟩) zs.length zs.length) ∧ Ints w' (some ⟨w.heap.size, 0, none⟩) zs ∧ Below w.heap.size w w' :=
  (toInts A cap zs w hA hn).mono fun _ _ ⟨he, hw⟩ => ⟨he, hw ▸ Ints.new _ _ _, hw ▸ (Below.refl _ _).alloc (Nat.le_refl _) _⟩

set_option maxHeartbeats 400000 in
theorem eqInts (A B : Option Addr) (cap cap' : Nat) (zs : List Int) (w : World) (hA : Ints w A zs) (hB : Ints w B zs) (hn : zs.length ≤ 4611686018427387904) :
    Calls Try.prog 20 #[.slice A zs.length cap, .slice B zs.length cap'] w fun e w' => e = .returned (.bool true) ∧ Drawn w w' := by
  go_enter Try.func20, Try.ntmps20
  go_wp2
  go_loopw [5] (fun i wr => ∃ (k d : Nat), k ≤ zs.length ∧ i = .int .i64 (k : Int) ∧ wr = w.drewN d) (fun i _ => zs.length - (intOf i).toNat)
  case atStart => exact ⟨0, 0, by omega, by go_num, rfl⟩
  case round =>
    obtain ⟨k, d, hk, rfl, rfl⟩ := hrel
    by_cases hlt : k < zs.length
    · obtain ⟨b, o, x, rfl, hx, hc⟩ := hA.at_ hlt
      obtain ⟨b', o', x', rfl, hx', hc'⟩ := hB.at_ hlt
      obtain rfl : x' = x := by rw [hx] at hx'; simpa using hx'.symm
      have hc1 : (w.drewN d).cell? ⟨b, o + k, none⟩ = some (.int .i64 x') := hc
      have hc2 : (w.drewN d).cell? ⟨b', o' + k, none⟩ = some (.int .i64 x') := hc'
      clear hx hx'
      go_wp2
      go_quiet (fail)
      go_wp2
      go_roundw
      case rel => exact ⟨k + 1, _, by omega, by go_num, by first | rfl | rw [World.drewN_drewN]⟩
      case measure => simp [intOf]; omega
    · go_wp2
      go_ret
      exact ⟨rfl, d, rfl⟩

/-- the index of the first element with p, from k on -/
def firstAt {α : Type} (p : α → Bool) : List α → Int → Int
  | [], _ => -1
  | x :: l, k => if p x then k else firstAt p l (k + 1)
theorem firstAt_any {α : Type} (p : α → Bool) (l : List α) (k : Int) (hk : 0 ≤ k) : decide (0 ≤ firstAt p l k) = l.any p := by
  induction l generalizing k with
  | nil => simp [firstAt]
  | cons x l ih =>
    unfold firstAt
    cases hp : p x
    · simp [hp, ih (k + 1) (by omega)]
    · simp [hp, hk]
theorem firstAt_drop {α : Type} (p : α → Bool) (l : List α) (k : Nat) (x : α) (h : l[k]? = some x) : firstAt p (l.drop k) k = if p x then (k : Int) else firstAt p (l.drop (k + 1)) (k + 1 : Nat) := by
  have hk : k < l.length := (List.getElem?_eq_some_iff.1 h).1
  rw [List.drop_eq_getElem_cons hk]
  have : l[k] = x := by rw [List.getElem?_eq_getElem hk] at h; simpa using h
  simp [firstAt, this]
theorem firstAt_end {α : Type} (p : α → Bool) (l : List α) (k : Int) : firstAt p (l.drop l.length) k = -1 := by simp [firstAt]

set_option maxHeartbeats 400000 in
theorem indexFuncI (A : Option Addr) (cap : Nat) (zs : List Int) (w : World) (hA : Ints w A zs) (hn : zs.length ≤ 4611686018427387904)
    (f : Nat) (hf : Enters f) (cs : Array Value) (p : Int → Bool) (hp : Hid (∀ x, Calls Try.prog f (#[.int .i64 x] ++ cs) w fun e w' => e = .returned (.bool (p x)) ∧ w = w')) :
    Calls Try.prog 80 #[.slice A zs.length cap, .func (.func f) #[] cs] w fun e w' => e = .returned (.int .i64 (firstAt p zs 0)) ∧ w = w' := by
  go_enter Try.func80, Try.ntmps80
  go_wp2
  go_loop [5, 8] (fun _ i => ∃ k : Nat, k ≤ zs.length ∧ i = .int .i64 (k : Int) ∧ Hid (firstAt p zs 0 = firstAt p (zs.drop k) k)) (fun _ i => zs.length - (intOf i).toNat)
  case atStart => exact ⟨0, by omega, by go_num, rfl⟩
  case round =>
    obtain ⟨k, hk, rfl, HR⟩ := hrel
    by_cases hlt : k < zs.length
    · obtain ⟨b, o, x, rfl, hx, hc⟩ := hA.at_ hlt
      have HS := Lib.hid (firstAt_drop p zs k x hx)
      clear hx
      go_wp2_with fail
      rw [hf _ _, Oper.upon_enter]
      refine (hp.out x).mono ?_; rintro e w' ⟨rfl, rfl⟩
      cases hpx : p x
      · have HP := Lib.hid hpx; clear hpx
        go_wp2
        go_round
        case rel => exact ⟨k + 1, by omega, by go_num, by show _ = _; rw [HR.out, HS.out, HP.out]; rfl⟩
        case measure => simp [intOf]; omega
      · have HP := Lib.hid hpx; clear hpx
        go_wp2
        go_ret
        exact ⟨ret_int (by rw [HR.out, HS.out, HP.out]; rfl), rfl⟩
    · obtain rfl : k = zs.length := by omega
      go_wp2
      go_ret
      exact ⟨ret_int (by rw [HR.out, firstAt_end]), rfl⟩

theorem containsFuncI (A : Option Addr) (cap : Nat) (zs : List Int) (w : World) (hA : Ints w A zs) (hn : zs.length ≤ 4611686018427387904)
    (f : Nat) (hf : Enters f) (cs : Array Value) (p : Int → Bool) (hp : Hid (∀ x, Calls Try.prog f (#[.int .i64 x] ++ cs) w fun e w' => e = .returned (.bool (p x)) ∧ w = w')) :
    Calls Try.prog 55 #[.slice A zs.length cap, .func (.func f) #[] cs] w fun e w' => e = .returned (.bool (zs.any p)) ∧ w = w' := by
  have HE := Lib.hid (firstAt_any p zs 0 (by omega))
  go_enter Try.func55, Try.ntmps55
  go_wp2_with fail
  refine (indexFuncI A cap zs w hA hn f hf cs p hp).mono ?_; rintro e w' ⟨rfl, rfl⟩
  go_wp2
  go_ret
  exact ⟨ret_bool HE.out, rfl⟩

end Go.Proofs.Ytkeamefifjmabaa
