/- Texts put together: WField2, WSerS, WSerS2. -/
import Derived.Test.YtnomnaojondffaaKB
import Derived.Test.YtnomnaojondffaaKG
import Derived.Test.YtnomnaojondffaaKD
import Derived.Deep.RegionLaw

/- Walks: the reference's arithmetic of residues. -/
namespace Go.Proofs.Ytnomnaojondffaa
open Go.RowKit Plain

theorem residueS_any (a : Int) (w : World) : Calls Try.prog 130 #[.int .i64 a] w fun e w' => e = .returned (.int .i64 (rs a)) ∧ w = w' := by
  obtain ⟨h1, h2, h3⟩ := tmod_bd a
  have H4 : Hid (a.tmod 1000003 < 0 → a.tmod 1000003 + 1000003 = rs a) := fun h => by omega
  have H5 : Hid (0 ≤ a.tmod 1000003 → a.tmod 1000003 = rs a) := fun h => by omega
  clear h3
  go_enter Try.func130, Try.ntmps130
  go_wp2
  all_goals
    go_ret
    first
      | exact ⟨ret_int (H4.out (by omega)), rfl⟩
      | exact ⟨ret_int (H5.out (by omega)), rfl⟩

theorem plusS_any (a b : Int) (w : World) : Calls Try.prog 95 #[.int .i64 a, .int .i64 b] w fun e w' => e = .returned (.int .i64 (pl a b)) ∧ w = w' := by
  have ha := rs_bd a
  have hb := rs_bd b
  have H := Lib.hid (pl_rs a b)
  go_enter Try.func95, Try.ntmps95
  go_wp2_with fail
  refine (residueS_any a _).mono ?_; rintro e w' ⟨rfl, rfl⟩
  go_wp2_with fail
  refine (residueS_any b _).mono ?_; rintro e w' ⟨rfl, rfl⟩
  generalize rs a = x at *
  generalize rs b = y at *
  go_wp2
  go_ret
  exact ⟨ret_int H.out, rfl⟩

theorem timesS_any (a b : Int) (w : World) : Calls Try.prog 93 #[.int .i64 a, .int .i64 b] w fun e w' => e = .returned (.int .i64 (tm a b)) ∧ w = w' := by
  have ha := rs_bd a
  have hb := rs_bd b
  have hm := mul_bd ha.1 ha.2 hb.1 hb.2
  have H := Lib.hid (tm_rs a b)
  go_enter Try.func93, Try.ntmps93
  go_wp2_with fail
  refine (residueS_any a _).mono ?_; rintro e w' ⟨rfl, rfl⟩
  go_wp2_with fail
  refine (residueS_any b _).mono ?_; rintro e w' ⟨rfl, rfl⟩
  generalize rs a = x at *
  generalize rs b = y at *
  go_wp2
  go_ret
  exact ⟨ret_int H.out, rfl⟩

set_option maxHeartbeats 400000 in
theorem powerS_any (a : Int) (n : Nat) (w : World) (hn : n ≤ 4611686018427387904) : Calls Try.prog 94 #[.int .i64 a, .int .i64 n] w fun e w' => e = .returned (.int .i64 (pw a n)) ∧ w = w' := by
  have ha := rs_bd a
  have HP := Lib.hid (pw_rs a n)
  go_enter Try.func94, Try.ntmps94
  go_wp2_with fail
  refine (residueS_any a _).mono ?_; rintro e w' ⟨rfl, rfl⟩
  generalize rs a = x at *
  go_wp2_with fail
  go_loop [1, 5, 6] (fun nn o b => ∃ (k : Nat) (oo bb : Int), k ≤ n ∧ nn = .int .i64 (k : Int) ∧ o = .int .i64 oo ∧ b = .int .i64 bb ∧ 0 ≤ oo ∧ oo ≤ 1000002 ∧ 0 ≤ bb ∧ bb ≤ 1000002 ∧ Hid (pw x n = tm oo (pw bb k))) (fun nn _ _ => (intOf nn).toNat)
  case atStart => exact ⟨n, 1, x, by omega, rfl, rfl, rfl, by omega, by omega, ha.1, ha.2, by show _ = _; unfold tm pw; rw [Int.one_mul, Int.emod_emod]⟩
  case round =>
    obtain ⟨k, oo, bb, hk, rfl, rfl, rfl, o0, o1, b0, b1, HE⟩ := hrel
    have m1 := mul_bd o0 o1 b0 b1
    have m2 := mul_bd b0 b1 b0 b1
    by_cases hlt : 0 < k
    · by_cases h2 : k % 2 = 1
      · have hd : ((k : Int) % 2 == 1) = true := by simp; omega
        have HS := Lib.hid (pw_half_odd (o := oo) (b := bb) h2)
        go_wp2_with fail
        refine (timesS_any oo bb _).mono ?_; rintro e w' ⟨rfl, rfl⟩
        go_wp2_with fail
        refine (timesS_any bb bb _).mono ?_; rintro e w' ⟨rfl, rfl⟩
        go_wp2
        go_round
        case rel => exact ⟨k / 2, oo * bb % 1000003, bb * bb % 1000003, by omega, by go_num, rfl, rfl, by omega, by omega, by omega, by omega, by show _ = _; rw [HE.out, HS.out]⟩
        case measure => simp [intOf]; omega
      · have hd : ((k : Int) % 2 == 1) = false := by simp; omega
        have HS := Lib.hid (pw_half_even (o := oo) (b := bb) (show k % 2 = 0 by omega))
        go_wp2_with fail
        refine (timesS_any bb bb _).mono ?_; rintro e w' ⟨rfl, rfl⟩
        go_wp2
        go_round
        case rel => exact ⟨k / 2, oo, bb * bb % 1000003, by omega, by go_num, rfl, rfl, by omega, by omega, by omega, by omega, by show _ = _; rw [HE.out, HS.out]⟩
        case measure => simp [intOf]; omega
    · obtain rfl : k = 0 := by omega
      have HF := Lib.hid (tm_one o0 o1 bb)
      go_wp2
      go_ret
      exact ⟨ret_int (by rw [← HP.out, HE.out, HF.out]), rfl⟩


end Go.Proofs.Ytnomnaojondffaa

/- Walks of the reference's operations on series: l01Const, l01Scale, l01Add, l01Sub, l01Mul, l01Div. -/
namespace Go.Proofs.Ytnomnaojondffaa
open Go.RowKit Plain

/-- the list at A lies in a block of integers, made since there were B blocks -/
def IntsT (w : World) (B : Nat) (A : Option Addr) (zs : List Int) : Prop :=
  0 < zs.length → ∃ b o, A = some ⟨b, o, none⟩ ∧ B ≤ b ∧ b < w.heap.size ∧ Typed w b 2 ∧ ∀ j x, zs[j]? = some x → w.cell? ⟨b, o + j, none⟩ = some (.int .i64 x) ∧ w.frozen? ⟨b, o + j, none⟩ = false
theorem IntsT.m {w : World} {B : Nat} {A : Option Addr} {zs : List Int} (h : IntsT w B A zs) : IntsM w B A zs := fun hn => by
  obtain ⟨b, o, e, h1, h2, _, h3⟩ := h hn
  exact ⟨b, o, e, h1, h2, h3⟩
theorem IntsT.ints {w : World} {B : Nat} {A : Option Addr} {zs : List Int} (h : IntsT w B A zs) : Ints w A zs := h.m.ints
theorem Cells.intsT {w : World} {g B : Nat} {zs : List Int} (h : Cells w g 2 (zs.map (Value.int .i64))) (hB : B ≤ g) : IntsT w B (some ⟨g, 0, none⟩) zs :=
  fun _ => ⟨g, 0, rfl, hB, h.lt, h.typed, fun j x hx => ⟨by rw [h.cell, Nat.zero_add]; simp [hx], h.frozen _⟩⟩
theorem IntRow.intsT {w : World} {base cap : Nat} {A : Option Addr} {l : List Int} (h : IntRow w base (.slice A l.length cap) l) : IntsT w base A l := fun hn => by
  obtain ⟨b, o, e, h1, h2, h3⟩ := h.intsM hn
  exact ⟨b, o, e, h1, h2, own_typed h (by rw [e]; rfl), h3⟩
/-- what a call that makes a list of integers comes to -/
def SPost (zs : List Int) (w : World) (e : Ending) (w' : World) : Prop :=
  ∃ A cp, e = .returned (.slice A zs.length cp) ∧ IntsT w' w.heap.size A zs ∧ Below w.heap.size w w'
theorem SPost.of {zs : List Int} {w : World} {e : Ending} {w' : World} (h : SerPost zs w e w') : SPost zs w e w' :=
  ⟨_, _, h.1, h.2.1.intsT (Nat.le_refl _), h.2.2⟩

theorem IntRow.drewN {w : World} {base : Nat} {v : Value} {l : List Int} (h : IntRow w base v l) (n : Nat) : IntRow (w.drewN n) base v l := h
theorem IntRow.alloc {w : World} {base : Nat} {v : Value} {l : List Int} (h : IntRow w base v l) (o : Obj) : IntRow (w.alloc o) base v l := World.ownsRow.alloc h o
theorem mk_succ (k : Nat) (F : Nat → Int) : mk (k + 1) F = mk k F ++ [F k] := by unfold mk; rw [List.range_succ, List.map_append]; rfl
theorem rowNext {w wr W w2 : World} {k cp : Nat} {Av : Option Addr} {F : Nat → Int} {x : Int} {v2 : Value} (hr : IntRow wr w.heap.size (.slice Av k cp) (mk k F)) (hb : Below w.heap.size w wr) (hW : Below wr.heap.size wr W) (hx : x = F k)
    (hown : w2.ownsRow w.heap.size 2 1 v2 (k + 1) ((mk k F).map (Value.int .i64) ++ [.int .i64 x])) (hg : W.grownBy w2 (Value.slice Av k cp).ownBlock) :
    (∃ A2 c2, v2 = .slice A2 (k + 1) c2) ∧ IntRow w2 w.heap.size v2 (mk (k + 1) F) ∧ Below w.heap.size w w2 := by
  have h1 : IntRow w2 w.heap.size v2 (mk k F ++ [x]) := IntRow.push (mk_length _ _).symm hown
  rw [hx, ← mk_succ] at h1
  obtain ⟨A2, c2, hv⟩ := h1.form
  have hbW := bnext hb hW
  exact ⟨⟨A2, c2, by rw [hv, mk_length]⟩, h1, hbW.grown hg hbW.size (fun q hq => (hr.lt hq).1)⟩
theorem rowEnd {w wr : World} {k cp : Nat} {Av : Option Addr} {F : Nat → Int} (hr : IntRow wr w.heap.size (.slice Av k cp) (mk k F)) (hb : Below w.heap.size w wr) : SPost (mk k F) w (.returned (.slice Av k cp)) wr := by
  have h : IntRow wr w.heap.size (.slice Av (mk k F).length cp) (mk k F) := by rw [mk_length]; exact hr
  exact ⟨Av, cp, by rw [mk_length], h.intsT, hb⟩
theorem rowStart (w : World) (F : Nat → Int) : IntRow (w.alloc (.cells #[] 2)) w.heap.size (.slice (some ⟨w.heap.size, 0, none⟩) 0 0) (mk 0 F) :=
  World.ownsRow_lit w #[] 0 (Nat.le_refl _) (by unfold maxLen; omega) (by rfl)

end Go.Proofs.Ytnomnaojondffaa

/- Walks of the reference's operations on series: l01Sub, l01Mul, l01Div; of the program's scaled and reduced. -/
namespace Go.Proofs.Ytnomnaojondffaa
open Go.RowKit Plain

theorem SPost.from {zs : List Int} {w w0 : World} {e : Ending} {w' : World} (hb : Below w.heap.size w w0) (h : SPost zs w0 e w') : SPost zs w e w' := by
  obtain ⟨A, cp, h1, h2, h3⟩ := h
  refine ⟨A, cp, h1, fun hn => ?_, bnext hb h3⟩
  obtain ⟨b, o, e1, e2, e3, e4, e5⟩ := h2 hn
  exact ⟨b, o, e1, Nat.le_trans hb.size e2, e3, e4, e5⟩

theorem sub_eq {a b : List Int} (hl : b.length = a.length) : addL a (mk b.length fun k => tm (cf b k) 1000002) = mk a.length fun k => rs (cf a k - cf b k) := by
  unfold addL
  refine mk_congr fun k hk => ?_
  rw [cf_mk (by omega)]
  unfold pl tm rs
  omega

theorem mulS_step (a b : List Int) (k i : Nat) : pl (rs (mulT a b k i)) (tm (cf a i) (cf b (k - i))) = rs (mulT a b k (i + 1)) := by
  rw [← mulT_step]; unfold pl tm; omega

theorem divS_step (a b : List Int) (k j : Nat) : rs (rs (cf a k - divS a b k j) - tm (cf (divL a b) j) (cf b (k - j))) = rs (cf a k - divS a b k (j + 1)) := by
  have : divS a b k (j + 1) = divS a b k j + cf (divL a b) j * cf b (k - j) := rfl
  rw [this]; unfold rs tm; omega

end Go.Proofs.Ytnomnaojondffaa
