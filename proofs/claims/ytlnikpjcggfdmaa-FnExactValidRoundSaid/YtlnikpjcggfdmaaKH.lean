/- Texts put together: WField2, WSerS, WSerS2. -/
import Derived.Test.YtlnikpjcggfdmaaKB
import Derived.Test.YtlnikpjcggfdmaaKG
import Derived.Test.YtlnikpjcggfdmaaKD
import Derived.Deep.RegionLaw

/- Walks: the reference's arithmetic of residues. -/
namespace Go.Proofs.Ytlnikpjcggfdmaa
open Go.RowKit Plain

theorem residueS_any (a : Int) (w : World) : Calls Try.prog 83 #[.int .i64 a] w fun e w' => e = .returned (.int .i64 (rs a)) ∧ w = w' := by
  obtain ⟨h1, h2, h3⟩ := tmod_bd a
  have H4 : Hid (a.tmod 1000003 < 0 → a.tmod 1000003 + 1000003 = rs a) := fun h => by omega
  have H5 : Hid (0 ≤ a.tmod 1000003 → a.tmod 1000003 = rs a) := fun h => by omega
  clear h3
  go_enter Try.func83, Try.ntmps83
  go_wp2
  all_goals
    go_ret
    first
      | exact ⟨ret_int (H4.out (by omega)), rfl⟩
      | exact ⟨ret_int (H5.out (by omega)), rfl⟩

theorem plusS_any (a b : Int) (w : World) : Calls Try.prog 87 #[.int .i64 a, .int .i64 b] w fun e w' => e = .returned (.int .i64 (pl a b)) ∧ w = w' := by
  have ha := rs_bd a
  have hb := rs_bd b
  have H := Lib.hid (pl_rs a b)
  go_enter Try.func87, Try.ntmps87
  go_wp2_with fail
  refine (residueS_any a _).mono ?_; rintro e w' ⟨rfl, rfl⟩
  go_wp2_with fail
  refine (residueS_any b _).mono ?_; rintro e w' ⟨rfl, rfl⟩
  generalize rs a = x at *
  generalize rs b = y at *
  go_wp2
  go_ret
  exact ⟨ret_int H.out, rfl⟩

theorem timesS_any (a b : Int) (w : World) : Calls Try.prog 43 #[.int .i64 a, .int .i64 b] w fun e w' => e = .returned (.int .i64 (tm a b)) ∧ w = w' := by
  have ha := rs_bd a
  have hb := rs_bd b
  have hm := mul_bd ha.1 ha.2 hb.1 hb.2
  have H := Lib.hid (tm_rs a b)
  go_enter Try.func43, Try.ntmps43
  go_wp2_with fail
  refine (residueS_any a _).mono ?_; rintro e w' ⟨rfl, rfl⟩
  go_wp2_with fail
  refine (residueS_any b _).mono ?_; rintro e w' ⟨rfl, rfl⟩
  generalize rs a = x at *
  generalize rs b = y at *
  go_wp2
  go_ret
  exact ⟨ret_int H.out, rfl⟩

set_option maxHeartbeats 400000 in
theorem powerS_any (a : Int) (n : Nat) (w : World) (hn : n ≤ 4611686018427387904) : Calls Try.prog 142 #[.int .i64 a, .int .i64 n] w fun e w' => e = .returned (.int .i64 (pw a n)) ∧ w = w' := by
  have ha := rs_bd a
  have HP := Lib.hid (pw_rs a n)
  go_enter Try.func142, Try.ntmps142
  go_wp2_with fail
  refine (residueS_any a _).mono ?_; rintro e w' ⟨rfl, rfl⟩
  generalize rs a = x at *
  go_wp2_with fail
  go_loop [1, 5, 6] (fun nn o b => ∃ (k : Nat) (oo bb : Int), k ≤ n ∧ nn = .int .i64 (k : Int) ∧ o = .int .i64 oo ∧ b = .int .i64 bb ∧ 0 ≤ oo ∧ oo ≤ 1000002 ∧ 0 ≤ bb ∧ bb ≤ 1000002 ∧ Hid (pw x n = tm oo (pw bb k))) (fun nn _ _ => (intOf nn).toNat)
  case atStart => exact ⟨n, 1, x, by omega, rfl, rfl, rfl, by omega, by omega, ha.1, ha.2, by show _ = _; unfold tm pw; rw [Int.one_mul, Int.emod_emod]⟩
  case round =>
    obtain ⟨k, oo, bb, hk, rfl, rfl, rfl, o0, o1, b0, b1, HE⟩ := hrel
    have m1 := mul_bd o0 o1 b0 b1
    have m2 := mul_bd b0 b1 b0 b1
    by_cases hlt : 0 < k
    · by_cases h2 : k % 2 = 1
      · have hd : ((k : Int) % 2 == 1) = true := by simp; omega
        have HS := Lib.hid (pw_half_odd (o := oo) (b := bb) h2)
        go_wp2_with fail
        refine (timesS_any oo bb _).mono ?_; rintro e w' ⟨rfl, rfl⟩
        go_wp2_with fail
        refine (timesS_any bb bb _).mono ?_; rintro e w' ⟨rfl, rfl⟩
        go_wp2
        go_round
        case rel => exact ⟨k / 2, oo * bb % 1000003, bb * bb % 1000003, by omega, by go_num, rfl, rfl, by omega, by omega, by omega, by omega, by show _ = _; rw [HE.out, HS.out]⟩
        case measure => simp [intOf]; omega
      · have hd : ((k : Int) % 2 == 1) = false := by simp; omega
        have HS := Lib.hid (pw_half_even (o := oo) (b := bb) (show k % 2 = 0 by omega))
        go_wp2_with fail
        refine (timesS_any bb bb _).mono ?_; rintro e w' ⟨rfl, rfl⟩
        go_wp2
        go_round
        case rel => exact ⟨k / 2, oo, bb * bb % 1000003, by omega, by go_num, rfl, rfl, by omega, by omega, by omega, by omega, by show _ = _; rw [HE.out, HS.out]⟩
        case measure => simp [intOf]; omega
    · obtain rfl : k = 0 := by omega
      have HF := Lib.hid (tm_one o0 o1 bb)
      go_wp2
      go_ret
      exact ⟨ret_int (by rw [← HP.out, HE.out, HF.out]), rfl⟩


theorem minusS_any (a b : Int) (w : World) (ha : 0 ≤ a) (ha' : a ≤ 1000002) (hb : 0 ≤ b) (hb' : b ≤ 1000002) : Calls Try.prog 138 #[.int .i64 a, .int .i64 b] w fun e w' => e = .returned (.int .i64 (rs (a - b))) ∧ w = w' := by
  go_enter Try.func138, Try.ntmps138
  go_wp2_with fail
  refine (residueS_any (a - b) _).mono ?_; rintro e w' ⟨rfl, rfl⟩
  go_wp2
  go_ret
  exact ⟨rfl, rfl⟩

theorem negS_any (a : Int) (w : World) (ha : 0 ≤ a) (ha' : a ≤ 1000002) : Calls Try.prog 86 #[.int .i64 a] w fun e w' => e = .returned (.int .i64 (rs (-a))) ∧ w = w' := by
  go_enter Try.func86, Try.ntmps86
  go_wp2_with fail
  refine (residueS_any (-a) _).mono ?_; rintro e w' ⟨rfl, rfl⟩
  go_wp2
  go_ret
  exact ⟨rfl, rfl⟩

theorem invS_any (a : Int) (w : World) : Calls Try.prog 137 #[.int .i64 a] w fun e w' => e = .returned (.int .i64 (iv a)) ∧ w = w' := by
  go_enter Try.func137, Try.ntmps137
  go_wp2_with fail
  refine (powerS_any a 1000001 _ (by omega)).mono ?_; rintro e w' ⟨rfl, rfl⟩
  go_wp2
  go_ret
  exact ⟨rfl, rfl⟩

end Go.Proofs.Ytlnikpjcggfdmaa

/- Walks of the reference's operations on series: l01Const, l01Scale, l01Add, l01Sub, l01Mul, l01Div. -/
namespace Go.Proofs.Ytlnikpjcggfdmaa
open Go.RowKit Plain

/-- the list at A lies in a block of integers, made since there were B blocks -/
def IntsT (w : World) (B : Nat) (A : Option Addr) (zs : List Int) : Prop :=
  0 < zs.length → ∃ b o, A = some ⟨b, o, none⟩ ∧ B ≤ b ∧ b < w.heap.size ∧ Typed w b 2 ∧ ∀ j x, zs[j]? = some x → w.cell? ⟨b, o + j, none⟩ = some (.int .i64 x) ∧ w.frozen? ⟨b, o + j, none⟩ = false
theorem IntsT.m {w : World} {B : Nat} {A : Option Addr} {zs : List Int} (h : IntsT w B A zs) : IntsM w B A zs := fun hn => by
  obtain ⟨b, o, e, h1, h2, _, h3⟩ := h hn
  exact ⟨b, o, e, h1, h2, h3⟩
theorem IntsT.ints {w : World} {B : Nat} {A : Option Addr} {zs : List Int} (h : IntsT w B A zs) : Ints w A zs := h.m.ints
theorem Cells.intsT {w : World} {g B : Nat} {zs : List Int} (h : Cells w g 2 (zs.map (Value.int .i64))) (hB : B ≤ g) : IntsT w B (some ⟨g, 0, none⟩) zs :=
  fun _ => ⟨g, 0, rfl, hB, h.lt, h.typed, fun j x hx => ⟨by rw [h.cell, Nat.zero_add]; simp [hx], h.frozen _⟩⟩
theorem IntRow.intsT {w : World} {base cap : Nat} {A : Option Addr} {l : List Int} (h : IntRow w base (.slice A l.length cap) l) : IntsT w base A l := fun hn => by
  obtain ⟨b, o, e, h1, h2, h3⟩ := h.intsM hn
  exact ⟨b, o, e, h1, h2, own_typed h (by rw [e]; rfl), h3⟩
/-- what a call that makes a list of integers comes to -/
def SPost (zs : List Int) (w : World) (e : Ending) (w' : World) : Prop :=
  ∃ A cp, e = .returned (.slice A zs.length cp) ∧ IntsT w' w.heap.size A zs ∧ Below w.heap.size w w'
theorem SPost.of {zs : List Int} {w : World} {e : Ending} {w' : World} (h : SerPost zs w e w') : SPost zs w e w' :=
  ⟨_, _, h.1, h.2.1.intsT (Nat.le_refl _), h.2.2⟩

theorem IntRow.drewN {w : World} {base : Nat} {v : Value} {l : List Int} (h : IntRow w base v l) (n : Nat) : IntRow (w.drewN n) base v l := h
theorem IntRow.alloc {w : World} {base : Nat} {v : Value} {l : List Int} (h : IntRow w base v l) (o : Obj) : IntRow (w.alloc o) base v l := World.ownsRow.alloc h o
theorem mk_succ (k : Nat) (F : Nat → Int) : mk (k + 1) F = mk k F ++ [F k] := by unfold mk; rw [List.range_succ, List.map_append]; rfl
theorem rowNext {w wr W w2 : World} {k cp : Nat} {Av : Option Addr} {F : Nat → Int} {x : Int} {v2 : Value} (hr : IntRow wr w.heap.size (.slice Av k cp) (mk k F)) (hb : Below w.heap.size w wr) (hW : Below wr.heap.size wr W) (hx : x = F k)
    (hown : w2.ownsRow w.heap.size 2 1 v2 (k + 1) ((mk k F).map (Value.int .i64) ++ [.int .i64 x])) (hg : W.grownBy w2 (Value.slice Av k cp).ownBlock) :
    (∃ A2 c2, v2 = .slice A2 (k + 1) c2) ∧ IntRow w2 w.heap.size v2 (mk (k + 1) F) ∧ Below w.heap.size w w2 := by
  have h1 : IntRow w2 w.heap.size v2 (mk k F ++ [x]) := IntRow.push (mk_length _ _).symm hown
  rw [hx, ← mk_succ] at h1
  obtain ⟨A2, c2, hv⟩ := h1.form
  have hbW := bnext hb hW
  exact ⟨⟨A2, c2, by rw [hv, mk_length]⟩, h1, hbW.grown hg hbW.size (fun q hq => (hr.lt hq).1)⟩
theorem rowEnd {w wr : World} {k cp : Nat} {Av : Option Addr} {F : Nat → Int} (hr : IntRow wr w.heap.size (.slice Av k cp) (mk k F)) (hb : Below w.heap.size w wr) : SPost (mk k F) w (.returned (.slice Av k cp)) wr := by
  have h : IntRow wr w.heap.size (.slice Av (mk k F).length cp) (mk k F) := by rw [mk_length]; exact hr
  exact ⟨Av, cp, by rw [mk_length], h.intsT, hb⟩
theorem rowStart (w : World) (F : Nat → Int) : IntRow (w.alloc (.cells #[] 2)) w.heap.size (.slice (some ⟨w.heap.size, 0, none⟩) 0 0) (mk 0 F) :=
  World.ownsRow_lit w #[] 0 (Nat.le_refl _) (by unfold maxLen; omega) (by rfl)

theorem constS_any (x : Int) (n : Nat) (w : World) (h0 : 0 < n) (hn : n ≤ 1000000) :
    Calls Try.prog 109 #[.int .i64 x, .int .i64 n] w (SPost ((ops n).num x) w) := by
  have hmk := run_make_row' (P := Try.prog) 25 2 (.int .i64 0) 8 Try.underlying25 Try.infoI rfl .i64 .i64 n (by omega) (by omega)
  rw [madeCells_one, rowF_zero, upTo_zero (f := fun k => if k = 0 then x else 0)] at hmk
  have h1 : (0 : Int) < (n : Int) := by omega
  have HC := Lib.hid (Cells.new w 2 (rowF n (upTo (fun k => if k = 0 then x else 0) 0 0)))
  have g3 := cell_row HC.out h0
  have z3 := HC.out.frozen 0
  have HN : Hid (Cells (w.alloc (.cells ((rowF n (upTo (fun k => if k = 0 then x else 0) 0 0)).set 0 (.int .i64 x)).toArray 2)) w.heap.size 2 (((ops n).num x).map (Value.int .i64))) := by
    have e : (rowF n (upTo (fun k => if k = 0 then x else 0) 0 0)).set 0 (.int .i64 x) = ((ops n).num x).map (Value.int .i64) := by
      rw [upTo_set]
      unfold ops
      show _ = (mk n _).map _
      unfold rowF
      rw [mk_congr (g := fun k => if k = 0 then x else 0)]
      intro k _
      unfold upTo
      by_cases hk : k = 0
      · subst hk; simp
      · simp [hk]
    rw [← e]; exact Cells.new w _ _
  go_enter Try.func109, Try.ntmps109
  go_wp2
  go_ret
  refine ⟨some ⟨w.heap.size, 0, none⟩, n, ?_, HN.out.intsT (Nat.le_refl _), by go_grown⟩
  have e : ((ops n).num x).length = n := by simp only [ops, mk_length]
  rw [e]; rfl

set_option maxRecDepth 100000 in
set_option maxHeartbeats 1000000 in
theorem scaleS_any (A : Option Addr) (cap : Nat) (a : List Int) (y : Int) (w : World) (hA : Ints w A a) (hn : a.length ≤ 1000000) :
    Calls Try.prog 115 #[.slice A a.length cap, .int .i64 y] w (SPost (mk a.length fun k => tm (cf a k) y) w) := by
  obtain ⟨i0, hi, hz0, hz1, hz2⟩ := info_parts Try.infoI
  generalize hF : (fun k => tm (cf a k) y) = F
  have HF := Lib.hid hF; clear hF
  go_enter Try.func115, Try.ntmps115
  go_wp2
  go_loopw [5, 6] (fun o i wr => ∃ (k : Nat) (Av : Option Addr) (cp : Nat), k ≤ a.length ∧ i = .int .i64 (k : Int) ∧ o = .slice Av k cp ∧ Hid (IntRow wr w.heap.size (.slice Av k cp) (mk k F)) ∧ Hid (Below w.heap.size w wr)) (fun _ i _ => a.length - (intOf i).toNat)
  case atStart => exact ⟨0, _, _, by omega, by go_num, rfl, rowStart w F, by show Below _ _ _; go_grown⟩
  case round =>
    obtain ⟨k, Av, cp, hk, rfl, rfl, HR, HB⟩ := hrel
    by_cases hlt : k < a.length
    · obtain ⟨b1, o1, rfl, hl1, hc1⟩ := (hA.below HB.out).cfAt (by omega)
      have g1 := hc1 k hlt
      clear hc1
      have HX : Hid (tm (cf a k) y = F k) := congrFun HF.out k
      generalize cf a k = x at *
      go_wp2_with fail
      refine (timesS_any _ _ _).mono ?_; rintro e w' ⟨rfl, rfl⟩
      generalize tm x y = z at *
      go_wp2_with (at_builtin; refine wpList_append_own _ rfl _ _ 25 rfl w.heap.size 2 i0 (.int .i64 0) 1 8 Try.underlying25 hi hz0 hz1 hz2 rfl (by decide) _ k _ rfl ((HR.out.ownN (mk_length _ _).symm).alloc _) ⟨wr.heap.size, 0, none⟩ 1 1 [.int .i64 z] rfl rfl ?c1 ?c2 ?c3 ?c4 ?c5 ?_)
      try (case c1 => exact cell_one_new _ _ _)
      try (case c2 => first | rfl | (intro u hu; simp at hu; subst hu; rfl))
      case c3 => unfold maxLen; omega
      case c4 => omega
      case c5 => have := HB.out.size; simp; try omega
      intro v2 w2 hown hg _
      obtain ⟨⟨A2, c2, rfl⟩, hr2, hb2⟩ := rowNext HR.out HB.out (by go_grown) HX.out hown hg
      have HR2 := Lib.hid hr2
      have HB2 := Lib.hid hb2
      clear hr2 hb2 hown hg HR HB HX
      go_wp2
      go_roundw
      case rel => exact ⟨k + 1, A2, c2, by omega, by go_num, rfl, HR2.out, HB2.out⟩
      case measure => simp [intOf]; omega
    · obtain rfl : k = a.length := by omega
      have HE := Lib.hid (rowEnd HR.out HB.out)
      go_wp2
      go_ret
      exact HE.out

set_option maxRecDepth 100000 in
set_option maxHeartbeats 1000000 in
theorem addS_any (A B : Option Addr) (cap cap' : Nat) (a b : List Int) (w : World) (hA : Ints w A a) (hB : Ints w B b) (hl : b.length = a.length) (hn : a.length ≤ 1000000) :
    Calls Try.prog 118 #[.slice A a.length cap, .slice B a.length cap'] w (SPost (addL a b) w) := by
  obtain ⟨i0, hi, hz0, hz1, hz2⟩ := info_parts Try.infoI
  have HL := Lib.hid hl; clear hl
  unfold addL
  generalize hF : (fun k => pl (cf a k) (cf b k)) = F
  have HF := Lib.hid hF; clear hF
  go_enter Try.func118, Try.ntmps118
  go_wp2
  go_loopw [5, 6] (fun o i wr => ∃ (k : Nat) (Av : Option Addr) (cp : Nat), k ≤ a.length ∧ i = .int .i64 (k : Int) ∧ o = .slice Av k cp ∧ Hid (IntRow wr w.heap.size (.slice Av k cp) (mk k F)) ∧ Hid (Below w.heap.size w wr)) (fun _ i _ => a.length - (intOf i).toNat)
  case atStart => exact ⟨0, _, _, by omega, by go_num, rfl, rowStart w F, by show Below _ _ _; go_grown⟩
  case round =>
    obtain ⟨k, Av, cp, hk, rfl, rfl, HR, HB⟩ := hrel
    by_cases hlt : k < a.length
    · obtain ⟨b1, o1, rfl, hl1, hc1⟩ := (hA.below HB.out).cfAt (by omega)
      obtain ⟨b2, o2, rfl, hl2, hc2⟩ := (hB.below HB.out).cfAt (by rw [HL.out]; omega)
      have g1 := hc1 k hlt
      have g2 := hc2 k (by rw [HL.out]; exact hlt)
      clear hc1 hc2
      have HX : Hid (pl (cf a k) (cf b k) = F k) := congrFun HF.out k
      generalize cf a k = x at *
      generalize cf b k = y at *
      have hkl : (k : Int) < (a.length : Int) := by omega
      generalize hz : pl x y = z at HX
      have HZ := Lib.hid hz; clear hz
      have hW : Below wr.heap.size wr (wr.alloc (.cells #[.int .i64 z] 2)).drew := by go_grown
      have HR1 : Hid ((wr.alloc (.cells #[.int .i64 z] 2)).drew.ownsRow w.heap.size 2 1 (.slice Av k cp) k ((mk k F).map (Value.int .i64))) :=
        (HR.out.keep (w' := (wr.alloc (.cells #[.int .i64 z] 2)).drew) fun g hg => hW.block g (HR.out.lt hg).2).ownN (mk_length _ _).symm
      have HB1 := Lib.hid (bnext HB.out hW)
      have hN1 : Hid (∀ j u, [Value.int .i64 z][j]? = some u → (wr.alloc (.cells #[.int .i64 z] 2)).drew.cell? ((Addr.mk wr.heap.size 0 none).add j) = some u) := by
        intro j u hj
        have hc : Cells (wr.alloc (.cells #[.int .i64 z] 2)) wr.heap.size 2 [.int .i64 z] := Cells.new wr _ _
        rw [addr_add, Nat.zero_add]
        exact ((hc.drewN 1).cell j).trans hj
      have hO1 : Hid (∀ u ∈ [Value.int .i64 z], u.oneCell' = true) := by intro u hu; simp at hu; subst hu; rfl
      have HF2 : Hid (∀ v2 w2, w2.ownsRow w.heap.size 2 1 v2 (k + 1) ((mk k F).map (Value.int .i64) ++ [.int .i64 z]) → (wr.alloc (.cells #[.int .i64 z] 2)).drew.grownBy w2 (Value.slice Av k cp).ownBlock →
          (∃ A2 c2, v2 = .slice A2 (k + 1) c2) ∧ IntRow w2 w.heap.size v2 (mk (k + 1) F) ∧ Below w.heap.size w w2) := fun v2 w2 hown hg => rowNext HR.out HB.out hW HX.out hown hg
      have hP : Hid (∀ wx, Calls Try.prog 87 #[.int .i64 x, .int .i64 y] wx fun e w' => e = .returned (.int .i64 z) ∧ wx = w') := fun wx => by rw [← HZ.out]; exact plusS_any x y wx
      clear hW
      go_wp2
      go_region_law (first | (refine step_append_own rfl (.tmp 14) (.tmp 24) 25 rfl w.heap.size 2 i0 (.int .i64 0) 1 8 Try.underlying25 hi hz0 hz1 hz2 rfl (by decide) (.slice Av k cp) k _ (by simp [Act.eval]) HR1.out ⟨wr.heap.size, 0, none⟩ 1 1 [.int .i64 z] (by simp [Act.eval]) rfl hN1.out hO1.out (by unfold maxLen; omega) (by omega) HB1.out.size ?_; intro v2 w2 hown hg) | (go_simp; go_at_call 87; refine (hP.out _).mono ?_; rintro e w' ⟨rfl, rfl⟩))
      all_goals
        obtain ⟨⟨A2, c2, rfl⟩, hr2, hb2⟩ := HF2.out _ _ hown hg
        have HR2 := Lib.hid hr2
        have HB2 := Lib.hid hb2
        clear hr2 hb2 hown hg
        go_wp2
        go_roundw
        case rel => exact ⟨k + 1, A2, c2, by omega, by go_num, rfl, HR2.out, HB2.out⟩
        case measure => simp [intOf]; omega
    · obtain rfl : k = a.length := by omega
      have HE := Lib.hid (rowEnd HR.out HB.out)
      go_wp2
      go_ret
      exact HE.out

end Go.Proofs.Ytlnikpjcggfdmaa

/- Walks of the reference's operations on series: l01Sub, l01Mul, l01Div; of the program's scaled and reduced. -/
namespace Go.Proofs.Ytlnikpjcggfdmaa
open Go.RowKit Plain

theorem SPost.from {zs : List Int} {w w0 : World} {e : Ending} {w' : World} (hb : Below w.heap.size w w0) (h : SPost zs w0 e w') : SPost zs w e w' := by
  obtain ⟨A, cp, h1, h2, h3⟩ := h
  refine ⟨A, cp, h1, fun hn => ?_, bnext hb h3⟩
  obtain ⟨b, o, e1, e2, e3, e4, e5⟩ := h2 hn
  exact ⟨b, o, e1, Nat.le_trans hb.size e2, e3, e4, e5⟩

theorem sub_eq {a b : List Int} (hl : b.length = a.length) : addL a (mk b.length fun k => tm (cf b k) 1000002) = mk a.length fun k => rs (cf a k - cf b k) := by
  unfold addL
  refine mk_congr fun k hk => ?_
  rw [cf_mk (by omega)]
  unfold pl tm rs
  omega

set_option maxHeartbeats 1000000 in
theorem subS_any (A B : Option Addr) (cap cap' : Nat) (a b : List Int) (w : World) (hA : Ints w A a) (hB : Ints w B b) (hl : b.length = a.length) (hn : a.length ≤ 1000000) :
    Calls Try.prog 119 #[.slice A a.length cap, .slice B a.length cap'] w (SPost ((ops a.length).sub a b) w) := by
  have HA := Lib.hid hA; clear hA
  have hs := scaleS_any B cap' b 1000002 w hB (by omega)
  rw [hl] at hs
  have HS := Lib.hid hs; clear hs
  have HL := Lib.hid hl; clear hl
  have HE : Hid (addL a (mk a.length fun k => tm (cf b k) 1000002) = (ops a.length).sub a b) := by
    have := sub_eq HL.out
    rw [HL.out] at this; exact this
  rw [← HE.out]
  go_enter Try.func119, Try.ntmps119
  go_wp2_with fail
  refine HS.out.mono ?_; rintro e w1 ⟨A1, c1, rfl, hm, hb⟩
  rw [mk_length]
  have hadd := addS_any A A1 cap c1 a (mk a.length fun k => tm (cf b k) 1000002) w1 (HA.out.below hb) hm.ints (mk_length _ _) hn
  have HADD := Lib.hid hadd
  have HB := Lib.hid hb
  clear hadd hm hb
  go_wp2_with fail
  refine HADD.out.mono ?_; rintro e w2 h
  obtain ⟨A2, c2, rfl, h2, h3⟩ := SPost.from HB.out h
  have HM := Lib.hid h2
  have HB2 := Lib.hid h3
  generalize hlen : (addL a (mk a.length fun k => tm (cf b k) 1000002)).length = len
  have HLEN := Lib.hid hlen
  clear h h2 h3 hlen
  go_wp2
  go_ret
  exact ⟨A2, c2, by rw [HLEN.out]; rfl, HM.out, HB2.out⟩

theorem mulS_step (a b : List Int) (k i : Nat) : pl (rs (mulT a b k i)) (tm (cf a i) (cf b (k - i))) = rs (mulT a b k (i + 1)) := by
  rw [← mulT_step]; unfold pl tm; omega

set_option maxRecDepth 100000 in
set_option maxHeartbeats 1000000 in
theorem mulS_any (A B : Option Addr) (cap cap' : Nat) (a b : List Int) (w : World) (hA : Ints w A a) (hB : Ints w B b) (hl : b.length = a.length) (hn : a.length ≤ 1000000) :
    Calls Try.prog 120 #[.slice A a.length cap, .slice B a.length cap'] w (SPost (mulL a b) w) := by
  obtain ⟨i0, hi, hz0, hz1, hz2⟩ := info_parts Try.infoI
  have HL := Lib.hid hl; clear hl
  unfold mulL
  obtain ⟨F, hF⟩ : ∃ F : Nat → Int, F = fun k => rs (mulT a b k (k + 1)) := ⟨_, rfl⟩
  rw [← hF]
  have HF := Lib.hid hF; clear hF
  go_enter Try.func120, Try.ntmps120
  go_wp2
  go_loopw [5, 6, 7, 8] (fun o i _ _ wr => ∃ (k : Nat) (Av : Option Addr) (cp : Nat), k ≤ a.length ∧ i = .int .i64 (k : Int) ∧ o = .slice Av k cp ∧ Hid (IntRow wr w.heap.size (.slice Av k cp) (mk k F)) ∧ Hid (Below w.heap.size w wr)) (fun _ i _ _ _ => a.length - (intOf i).toNat)
  case atStart => exact ⟨0, _, _, by omega, by go_num, rfl, rowStart w F, by show Below _ _ _; go_grown⟩
  case round =>
    obtain ⟨k, Av, cp, hk, rfl, rfl, HR, HB'⟩ := hrel
    by_cases hlt : k < a.length
    · have hkl : (k : Int) < (a.length : Int) := by omega
      obtain ⟨wo, rfl⟩ : ∃ wo : World, wo = wr := ⟨_, rfl⟩
      go_wp2
      go_loopw [7, 8] (fun s i wi => ∃ j : Nat, j ≤ k + 1 ∧ i = .int .i64 (j : Int) ∧ s = .int .i64 (rs (mulT a b k j)) ∧ Hid (IntRow wi w.heap.size (.slice Av k cp) (mk k F)) ∧ Hid (Below w.heap.size w wi)) (fun _ i _ => k + 1 - (intOf i).toNat)
      case atStart => exact ⟨0, by omega, by go_num, rfl, HR.out, HB'.out⟩
      case round =>
        clear HR HB'
        obtain ⟨j, hj, rfl, rfl, HR, HBi⟩ := hrel
        by_cases hjk : (j : Int) ≤ (k : Int)
        · obtain ⟨b1, o1, rfl, _, hc1⟩ := (hA.below HBi.out).cfAt (by omega)
          obtain ⟨b2, o2, rfl, _, hc2⟩ := (hB.below HBi.out).cfAt (by rw [HL.out]; omega)
          have g1 := hc1 j (by omega)
          have g2 := hc2 (k - j) (by rw [HL.out]; omega)
          have HN := Lib.hid (mulS_step a b k j)
          clear hc1 hc2
          generalize cf a j = x at *
          generalize cf b (k - j) = y at *
          generalize rs (mulT a b k j) = z at *
          obtain ⟨z', hz'⟩ : ∃ z', z' = rs (mulT a b k (j + 1)) := ⟨_, rfl⟩
          rw [← hz'] at HN
          have HZ' := Lib.hid hz'; clear hz'
          have hjl : (j : Int) < (a.length : Int) := by omega
          have hs0 : (0 : Int) ≤ (k : Int) - (j : Int) := by omega
          have hs1 : (k : Int) - (j : Int) < (a.length : Int) := by omega
          have hs2 : ((k : Int) - (j : Int)).toNat = k - j := by omega
          have hs3 : IntKind.i64.wrap ((k : Int) - (j : Int)) = (k : Int) - (j : Int) := by rw [IntKind.wrap_i64]; omega
          have HT : Hid (∀ wx, Calls Try.prog 43 #[.int .i64 x, .int .i64 y] wx fun e w' => e = .returned (.int .i64 (tm x y)) ∧ w' = wx) := fun wx => (timesS_any x y wx).mono fun _ _ h => ⟨h.1, h.2.symm⟩
          have HP : Hid (∀ wx, Calls Try.prog 87 #[.int .i64 z, .int .i64 (tm x y)] wx fun e w' => e = .returned (.int .i64 z') ∧ w' = wx) := fun wx => by rw [← HN.out]; exact (plusS_any z (tm x y) wx).mono fun _ _ h => ⟨h.1, h.2.symm⟩
          clear HN
          go_wp2_with fail
          go_quiet (first | (go_at_call 43; exact Calls.quiet_of_same (HT.out _)) | (go_at_call 87; exact Calls.quiet_of_same (HP.out _)))
          rename Nat => nq
          have HR2 : Hid (IntRow (wr.drewN nq) w.heap.size (.slice Av k cp) (mk k F)) := HR.out.drewN nq
          have HB2 : Hid (Below w.heap.size w (wr.drewN nq)) := below_drewN' HBi.out nq
          clear HR HBi hs0 hs1 hs2 hs3 g1 g2
          go_wp2
          go_roundw
          case rel => exact ⟨j + 1, by omega, by go_num, by rw [HZ'.out], HR2, HB2⟩
          case measure => simp [intOf]; omega
        · obtain rfl : j = k + 1 := by omega
          have HX : Hid (rs (mulT a b k (k + 1)) = F k) := (congrFun HF.out k).symm
          generalize rs (mulT a b k (k + 1)) = z at *
          go_wp2_with (at_builtin; refine wpList_append_own _ rfl _ _ 25 rfl w.heap.size 2 i0 (.int .i64 0) 1 8 Try.underlying25 hi hz0 hz1 hz2 rfl (by decide) _ k _ rfl ((HR.out.ownN (mk_length _ _).symm).alloc _) ⟨wr.heap.size, 0, none⟩ 1 1 [.int .i64 z] rfl rfl ?c1 ?c2 ?c3 ?c4 ?c5 ?_)
          try (case c1 => exact cell_one_new _ _ _)
          try (case c2 => first | rfl | (intro u hu; simp at hu; subst hu; rfl))
          case c3 => unfold maxLen; omega
          case c4 => omega
          case c5 => have := HBi.out.size; simp; try omega
          intro v2 w2 hown hg _
          obtain ⟨⟨A2, c2, rfl⟩, hr2, hb2⟩ := rowNext HR.out HBi.out (by go_grown) HX.out hown hg
          have HR2 := Lib.hid hr2
          have HB2 := Lib.hid hb2
          clear hr2 hb2 hown hg HR HBi HX
          go_wp2
          go_roundw
          case rel => exact ⟨k + 1, A2, c2, by omega, by go_num, rfl, HR2.out, HB2.out⟩
          case measure => simp [intOf]; omega
    · obtain rfl : k = a.length := by omega
      have HE := Lib.hid (rowEnd HR.out HB'.out)
      go_wp2
      go_ret
      exact HE.out

theorem divS_step (a b : List Int) (k j : Nat) : rs (rs (cf a k - divS a b k j) - tm (cf (divL a b) j) (cf b (k - j))) = rs (cf a k - divS a b k (j + 1)) := by
  have : divS a b k (j + 1) = divS a b k j + cf (divL a b) j * cf b (k - j) := rfl
  rw [this]; unfold rs tm; omega

set_option maxRecDepth 100000 in
set_option maxHeartbeats 2000000 in
theorem divS_any (A B : Option Addr) (cap cap' : Nat) (a b : List Int) (w : World) (hA : Ints w A a) (hB : Ints w B b) (hl : b.length = a.length) (hn : a.length ≤ 1000000) (h0 : 0 < a.length) (ha : IsS a) :
    Calls Try.prog 121 #[.slice A a.length cap, .slice B a.length cap'] w (SPost (divL a b) w) := by
  obtain ⟨i0, hi, hz0, hz1, hz2⟩ := info_parts Try.infoI
  have HL := Lib.hid hl; clear hl
  have hmk := mk_cf (divL a b)
  rw [divL_length] at hmk
  rw [← hmk]
  clear hmk
  obtain ⟨F, hF⟩ : ∃ F : Nat → Int, F = cf (divL a b) := ⟨_, rfl⟩
  rw [← hF]
  have HF := Lib.hid hF; clear hF
  obtain ⟨b2, o2, rfl, hlt2, hc2⟩ := hB.cfAt (by rw [HL.out]; exact h0)
  have g0 := hc2 0 (by rw [HL.out]; exact h0)
  simp only [Nat.add_zero] at g0
  have g0' : (w.alloc (.cells #[] 2)).cell? ⟨b2, o2, none⟩ = some (.int .i64 (cf b 0)) := Lib.cell?_alloc_some _ g0
  have h0' : (0 : Int) < (a.length : Int) := by omega
  clear hc2
  have HB := Lib.hid hB; clear hB
  go_enter Try.func121, Try.ntmps121
  go_wp2_with fail
  refine (invS_any _ _).mono ?_; rintro e w' ⟨rfl, rfl⟩
  generalize hfi : iv (cf b 0) = fi at *
  have HFI := Lib.hid hfi; clear hfi g0 g0'
  go_wp2
  go_loopw [5, 7, 8, 9] (fun o i _ _ wr => ∃ (k : Nat) (Av : Option Addr) (cp : Nat), k ≤ a.length ∧ i = .int .i64 (k : Int) ∧ o = .slice Av k cp ∧ Hid (IntRow wr w.heap.size (.slice Av k cp) (mk k F)) ∧ Hid (Below w.heap.size w wr)) (fun _ i _ _ _ => a.length - (intOf i).toNat)
  case atStart => exact ⟨0, _, _, by omega, by go_num, rfl, rowStart w F, by show Below _ _ _; go_grown⟩
  case round =>
    obtain ⟨k, Av, cp, hk, rfl, rfl, HR, HB'⟩ := hrel
    by_cases hlt : k < a.length
    · have hkl : (k : Int) < (a.length : Int) := by omega
      obtain ⟨b1, o1, rfl, _, hc1⟩ := (hA.below HB'.out).cfAt (by omega)
      have g1 := hc1 k hlt
      have ha1 := ha k
      have HR0 : Hid (cf a k = rs (cf a k - divS a b k 0)) := by show _ = _; unfold divS sumN rs; omega
      have HSTEP : Hid (∀ j, rs (rs (cf a k - divS a b k j) - tm (F j) (cf b (k - j))) = rs (cf a k - divS a b k (j + 1))) := fun j => by rw [HF.out]; exact divS_step a b k j
      have HEND : Hid (tm (rs (cf a k - divS a b k k)) fi = F k) := by show _ = _; rw [HF.out, divL_cf a b hlt, HFI.out]
      clear hc1
      generalize hx : cf a k = x at *
      clear hx
      obtain ⟨wo, rfl⟩ : ∃ wo : World, wo = wr := ⟨_, rfl⟩
      go_wp2
      go_loopw [8, 9] (fun r i wi => ∃ j : Nat, j ≤ k ∧ i = .int .i64 (j : Int) ∧ r = .int .i64 (rs (x - divS a b k j)) ∧ Hid (IntRow wi w.heap.size (.slice Av k cp) (mk k F)) ∧ Hid (Below w.heap.size w wi)) (fun _ i _ => k - (intOf i).toNat)
      case atStart => exact ⟨0, by omega, by go_num, by rw [← HR0.out], HR.out, HB'.out⟩
      case round =>
        clear HR HB'
        obtain ⟨j, hj, rfl, rfl, HR, HBi⟩ := hrel
        by_cases hjk : j < k
        · obtain ⟨b3, o3, e3, _, hc3⟩ := (HB.out.below HBi.out).cfAt (by rw [HL.out]; omega)
          obtain ⟨rfl, rfl⟩ : b2 = b3 ∧ o2 = o3 := by simpa using e3
          clear e3
          have g2 := hc3 (k - j) (by rw [HL.out]; omega)
          have hri : IntRow wr w.heap.size (.slice Av (mk k F).length cp) (mk k F) := by rw [mk_length]; exact HR.out
          obtain ⟨bv, ov, rfl, _, hcv⟩ := hri.intsM.ints.cfAt (by rw [mk_length]; omega)
          have g3 := hcv j (by rw [mk_length]; exact hjk)
          rw [cf_mk hjk] at g3
          have HS := HSTEP.out j
          have r1 := rs_bd (x - divS a b k j)
          have t1 := tm_bd (F j) (cf b (k - j))
          clear hc3 hcv hri
          generalize F j = u at *
          generalize cf b (k - j) = v at *
          generalize rs (x - divS a b k j) = z at *
          obtain ⟨z', hz'⟩ : ∃ z', z' = rs (x - divS a b k (j + 1)) := ⟨_, rfl⟩
          rw [← hz'] at HS
          have HZ' := Lib.hid hz'; clear hz'
          have HS2 := Lib.hid HS; clear HS
          have hjl : (j : Int) < (a.length : Int) := by omega
          have hs0 : (0 : Int) ≤ (k : Int) - (j : Int) := by omega
          have hs1 : (k : Int) - (j : Int) < (a.length : Int) := by omega
          have hs2 : ((k : Int) - (j : Int)).toNat = k - j := by omega
          have hs3 : IntKind.i64.wrap ((k : Int) - (j : Int)) = (k : Int) - (j : Int) := by rw [IntKind.wrap_i64]; omega
          have HT : Hid (∀ wx, Calls Try.prog 43 #[.int .i64 u, .int .i64 v] wx fun e w' => e = .returned (.int .i64 (tm u v)) ∧ w' = wx) := fun wx => (timesS_any u v wx).mono fun _ _ h => ⟨h.1, h.2.symm⟩
          have HP : Hid (∀ wx, Calls Try.prog 138 #[.int .i64 z, .int .i64 (tm u v)] wx fun e w' => e = .returned (.int .i64 z') ∧ w' = wx) := fun wx => by rw [← HS2.out]; exact (minusS_any z (tm u v) wx r1.1 r1.2 t1.1 t1.2).mono fun _ _ h => ⟨h.1, h.2.symm⟩
          clear HS2 r1 t1
          go_wp2_with fail
          go_quiet (first | (go_at_call 43; exact Calls.quiet_of_same (HT.out _)) | (go_at_call 138; exact Calls.quiet_of_same (HP.out _)))
          rename Nat => nq
          have HR2 : Hid (IntRow (wr.drewN nq) w.heap.size (.slice (some ⟨bv, ov, none⟩) k cp) (mk k F)) := HR.out.drewN nq
          have HB2 : Hid (Below w.heap.size w (wr.drewN nq)) := below_drewN' HBi.out nq
          clear HR HBi hs0 hs1 hs2 hs3 g2 g3
          go_wp2
          go_roundw
          case rel => exact ⟨j + 1, by omega, by go_num, by rw [HZ'.out], HR2, HB2⟩
          case measure => simp [intOf]; omega
        · obtain rfl : j = k := by omega
          generalize rs (x - divS a b j j) = z at *
          go_wp2_with fail
          refine (timesS_any _ _ _).mono ?_; rintro e w' ⟨rfl, rfl⟩
          have HX := HEND
          generalize tm z fi = y at *
          go_wp2_with (at_builtin; refine wpList_append_own _ rfl _ _ 25 rfl w.heap.size 2 i0 (.int .i64 0) 1 8 Try.underlying25 hi hz0 hz1 hz2 rfl (by decide) _ j _ rfl ((HR.out.ownN (mk_length _ _).symm).alloc _) ⟨wr.heap.size, 0, none⟩ 1 1 [.int .i64 y] rfl rfl ?c1 ?c2 ?c3 ?c4 ?c5 ?_)
          try (case c1 => exact cell_one_new _ _ _)
          try (case c2 => first | rfl | (intro u hu; simp at hu; subst hu; rfl))
          case c3 => unfold maxLen; omega
          case c4 => omega
          case c5 => have := HBi.out.size; simp; try omega
          intro v2 w2 hown hg _
          obtain ⟨⟨A2, c2, rfl⟩, hr2, hb2⟩ := rowNext HR.out HBi.out (by go_grown) HX.out hown hg
          have HR2 := Lib.hid hr2
          have HB2 := Lib.hid hb2
          clear hr2 hb2 hown hg HR HBi HX
          go_wp2
          go_roundw
          case rel => exact ⟨j + 1, A2, c2, by omega, by go_num, rfl, HR2.out, HB2.out⟩
          case measure => simp [intOf]; omega
    · obtain rfl : k = a.length := by omega
      have HE := Lib.hid (rowEnd HR.out HB'.out)
      go_wp2
      go_ret
      exact HE.out

set_option maxHeartbeats 1000000 in
theorem scaled_any (A : Option Addr) (cap : Nat) (a : List Int) (y : Int) (w : World) (hA : Ints w A a) (hn : a.length ≤ 1000000) (ha : IsS a) (y0 : 0 ≤ y) (y1 : y ≤ 1000002) :
    Calls Try.prog 132 #[.slice A a.length cap, .int .i64 y] w (SerPost (mk a.length fun k => tm (cf a k) y) w) := by
  have hmk := run_make_row' (P := Try.prog) 25 2 (.int .i64 0) 8 Try.underlying25 Try.infoI rfl .i64 .i64 a.length (by omega) (by omega)
  rw [madeCells_one, rowF_zero, upTo_zero (f := fun k => tm (cf a k) y)] at hmk
  go_enter Try.func132, Try.ntmps132
  go_wp2
  go_loopw [6, 12] (fun _ i wr => ∃ k : Nat, k ≤ a.length ∧ i = .int .i64 (k : Int) ∧ Hid (Cells wr w.heap.size 2 (rowF a.length (upTo (fun k => tm (cf a k) y) k 0))) ∧ Hid (Below w.heap.size w wr)) (fun _ i _ => a.length - (intOf i).toNat)
  case atStart => exact ⟨0, by omega, by go_num, Cells.new w _ _, by show Below _ _ _; go_grown⟩
  case round =>
    obtain ⟨k, hk, rfl, HC, HB⟩ := hrel
    by_cases hlt : k < a.length
    · obtain ⟨b1, o1, rfl, _, hc1⟩ := (hA.below HB.out).cfAt (by omega)
      have g1 := hc1 k hlt
      have g3 := cell_row HC.out hlt
      have z3 : wr.frozen? ⟨w.heap.size, k, none⟩ = false := HC.out.frozen _
      have a1 := ha k
      have m1 := mul_bd a1.1 a1.2 y0 y1
      have HN : Hid (Cells (wr.setCell ⟨w.heap.size, k, none⟩ (.int .i64 (cf a k * y % 1000003))) w.heap.size 2 (rowF a.length (upTo (fun k => tm (cf a k) y) (k + 1) 0))) := by
        have h := HC.out.set_ k (.int .i64 (cf a k * y % 1000003))
        rw [upTo_set] at h
        rw [← upTo_next]; exact h
      clear hc1
      generalize cf a k = x at *
      have hkl : (k : Int) < (a.length : Int) := by omega
      go_wp2
      go_roundw
      case rel => exact ⟨k + 1, by omega, by go_num, HN.out, HB.out.setCell (Nat.le_refl _) _⟩
      case measure => simp [intOf]; omega
    · obtain rfl : k = a.length := by omega
      have HE := HC.out
      rw [upTo_end] at HE
      have HE := Lib.hid HE
      go_wp2
      go_ret
      unfold SerPost
      rw [mk_length]
      exact ⟨rfl, HE.out, HB.out⟩

set_option maxHeartbeats 1000000 in
theorem reduced_any (A B : Option Addr) (cap cap' : Nat) (a b : List Int) (w : World) (hA : Ints w A a) (hB : Ints w B b) (hl : b.length = a.length) (hn : a.length ≤ 1000000) (ha : IsS a) (hb : IsS b) :
    Calls Try.prog 130 #[.slice A a.length cap, .slice B a.length cap'] w (SPost ((ops a.length).sub a b) w) := by
  have HA := Lib.hid hA; clear hA
  have hs := scaled_any B cap' b 1000002 w hB (by omega) hb (by omega) (by omega)
  rw [hl] at hs
  have HS := Lib.hid hs; clear hs
  have HL := Lib.hid hl; clear hl
  have HE : Hid (addL a (mk a.length fun k => tm (cf b k) 1000002) = (ops a.length).sub a b) := by
    have := sub_eq HL.out
    rw [HL.out] at this; exact this
  rw [← HE.out]
  go_enter Try.func130, Try.ntmps130
  go_wp2_with fail
  refine HS.out.mono ?_; rintro e w1 ⟨rfl, hc, hbb⟩
  rw [mk_length]
  have hm := hc.intsT (Nat.le_refl _)
  have hadd := added_any A (some ⟨w.heap.size, 0, none⟩) cap a.length a (mk a.length fun k => tm (cf b k) 1000002) w1 (HA.out.below hbb) hm.ints (mk_length _ _) hn ha (IsS.mk_ fun _ => tm_bd _ _)
  have HADD := Lib.hid hadd
  have HB := Lib.hid hbb
  clear hadd hm hbb hc
  go_wp2_with fail
  refine HADD.out.mono ?_; rintro e w2 h
  obtain ⟨A2, c2, rfl, h2, h3⟩ := SPost.from HB.out (SPost.of h)
  have HM := Lib.hid h2
  have HB2 := Lib.hid h3
  generalize hlen : (addL a (mk a.length fun k => tm (cf b k) 1000002)).length = len
  have HLEN := Lib.hid hlen
  clear h h2 h3 hlen
  go_wp2
  go_ret
  exact ⟨A2, c2, by rw [HLEN.out]; rfl, HM.out, HB2.out⟩

end Go.Proofs.Ytlnikpjcggfdmaa
