/- Walks of the program's planner: least, newPlanner, LeastCost, LeastSlots. -/
import Derived.Test.YtdhicgdcjfcomaaB2
import Derived.Test.YtdhicgdcjfcomaaWWeights
import Derived.Test.YtdhicgdcjfcomaaPLeast
namespace Go.Proofs.Ytdhicgdcjfcomaa
open Go.RowKit Plain

/-- the planner behind p, and what its two maps hold -/
structure PlanAt (w : World) (p : Nat) (A : Option Addr) (cap : Nat) (ws : List Int) (slots : Int) (rc rs : Nat) (mc ms : List ((Int × Int × Int) × Value)) : Prop where
  f0 : w.cell? ⟨p, 0, none⟩ = some (.slice A ws.length cap)
  f1 : w.cell? ⟨p, 1, none⟩ = some (.int .i64 slots)
  f2 : w.cell? ⟨p, 2, none⟩ = some (.map (some rc))
  f3 : w.cell? ⟨p, 3, none⟩ = some (.map (some rs))
  ne : rc ≠ rs
  ints : Ints w A ws
  mapc : MapAt enc3 w rc mc
  maps : MapAt enc3 w rs ms
  memo : ∀ (a b c : Int) v, getE (a, b, c) mc = some v → 0 ≤ a ∧ 0 ≤ b ∧ 0 ≤ c ∧ v = .int .i64 (lcost ws a.toNat b.toNat c.toNat) ∧ getE (a, b, c) ms = some (.int .i64 (lsplit ws a.toNat b.toNat c.toNat))

/-- the two maps' blocks -/
def Two (rc rs k : Nat) : Prop := k = rc ∨ k = rs

theorem PlanAt.only {w w' : World} {p : Nat} {A : Option Addr} {cap : Nat} {ws : List Int} {slots : Int} {rc rs : Nat} {mc ms mc' ms' : List ((Int × Int × Int) × Value)}
    (h : PlanAt w p A cap ws slots rc rs mc ms) (ho : Only (Two rc rs) w w') (hc : MapAt enc3 w' rc mc') (hs : MapAt enc3 w' rs ms')
    (hm : ∀ (a b c : Int) v, getE (a, b, c) mc' = some v → 0 ≤ a ∧ 0 ≤ b ∧ 0 ≤ c ∧ v = .int .i64 (lcost ws a.toNat b.toNat c.toNat) ∧ getE (a, b, c) ms' = some (.int .i64 (lsplit ws a.toNat b.toNat c.toNat))) :
    PlanAt w' p A cap ws slots rc rs mc' ms' := by
  have hlt : p < w.heap.size := World.block_lt_of_cell? _ _ h.f0
  have hn : ∀ k, Two rc rs k → ∀ i, w.cell? ⟨k, i, none⟩ = none := by
    rintro k (rfl | rfl) i
    · exact h.mapc.nocell i
    · exact h.maps.nocell i
  have hp : ¬ Two rc rs p := fun e => by have := hn p e 0; rw [h.f0] at this; cases this
  exact ⟨(ho.cell (a := ⟨p, 0, none⟩) hlt hp).trans h.f0, (ho.cell (a := ⟨p, 1, none⟩) hlt hp).trans h.f1, (ho.cell (a := ⟨p, 2, none⟩) hlt hp).trans h.f2, (ho.cell (a := ⟨p, 3, none⟩) hlt hp).trans h.f3, h.ne, h.ints.only ho hn, hc, hs, hm⟩
theorem PlanAt.below {w w' : World} {p : Nat} {A : Option Addr} {cap : Nat} {ws : List Int} {slots : Int} {rc rs : Nat} {mc ms : List ((Int × Int × Int) × Value)}
    (h : PlanAt w p A cap ws slots rc rs mc ms) (hb : Below w.heap.size w w') : PlanAt w' p A cap ws slots rc rs mc ms :=
  h.only (Only.of_below hb) ((hb.block _ h.mapc.lt).trans h.mapc) ((hb.block _ h.maps.lt).trans h.maps) h.memo

/-- what a call of least comes to -/
def LeastPost (p : Nat) (A : Option Addr) (cap : Nat) (ws : List Int) (slots : Int) (rc rs a b c : Nat) (w : World) (e : Ending) (w' : World) : Prop :=
  e = .returned (.int .i64 (lcost ws a b c)) ∧ ∃ mc' ms', PlanAt w' p A cap ws slots rc rs mc' ms' ∧ Only (Two rc rs) w w' ∧ (a + 1 < b → 0 < c → getE ((a : Int), (b : Int), (c : Int)) ms' = some (.int .i64 (lsplit ws a b c)))

theorem zeroI (w : World) : (zeroValue 2).run Try.prog w = .ok (.int .i64 0) w := by kernel_rfl

section
variable (p : Nat) (A : Option Addr) (cap : Nat) (ws : List Int) (slots : Int) (rc rs : Nat) (hw : IsW ws) (hl : ws.length ≤ 40)

theorem least_short (a b c : Nat) (w : World) (mc ms : List ((Int × Int × Int) × Value)) (hle0 : a ≤ b) (hb40 : b ≤ 40) (hab : b ≤ a + 1) (hP : PlanAt w p A cap ws slots rc rs mc ms) :
    Calls Try.prog 21 #[.pointer (some ⟨p, 0, none⟩), .int .i64 a, .int .i64 b, .int .i64 c] w (LeastPost p A cap ws slots rc rs a b c w) := by
  have HL := Lib.hid (lcost_short (ws := ws) (a := a) (b := b) (c := c) hab)
  have hle : (b : Int) - (a : Int) ≤ 1 := by omega
  have HP := Lib.hid hP; clear hP
  go_enter Try.func21, Try.ntmps21
  go_wp2
  go_ret
  exact ⟨ret_int HL.out.symm, mc, ms, HP.out, Only.refl _ _, fun h => by omega⟩

theorem least_none (a b : Nat) (w : World) (mc ms : List ((Int × Int × Int) × Value)) (hb40 : b ≤ 40) (hab : a + 1 < b) (hP : PlanAt w p A cap ws slots rc rs mc ms) :
    Calls Try.prog 21 #[.pointer (some ⟨p, 0, none⟩), .int .i64 a, .int .i64 b, .int .i64 0] w (LeastPost p A cap ws slots rc rs a b 0 w) := by
  have HL := Lib.hid (lcost_none (ws := ws) (a := a) (b := b) (by omega))
  have hle : ¬ (b : Int) - (a : Int) ≤ 1 := by omega
  have HP := Lib.hid hP; clear hP
  go_enter Try.func21, Try.ntmps21
  go_wp2
  go_ret
  exact ⟨ret_int HL.out.symm, mc, ms, HP.out, Only.refl _ _, fun h h' => by omega⟩

theorem cells3 (w : World) (x y z : Value) (t : TypeId) : (w.alloc (.cells #[x, y, z] t)).cell? ⟨w.heap.size, 0, none⟩ = some x ∧ (w.alloc (.cells #[x, y, z] t)).cell? ⟨w.heap.size, 1, none⟩ = some y ∧ (w.alloc (.cells #[x, y, z] t)).cell? ⟨w.heap.size, 2, none⟩ = some z := by
  have h : (w.alloc (.cells #[x, y, z] t)).heap[w.heap.size]? = some (.cells #[x, y, z] t) := heap_alloc_new w _
  refine ⟨?_, ?_, ?_⟩ <;> rw [cell_of_row _ _ _ _ _ _ h] <;> rfl

set_option maxHeartbeats 400000 in
theorem least_known (a b c : Nat) (w : World) (mc ms : List ((Int × Int × Int) × Value)) (hb40 : b ≤ 40) (hab : a + 1 < b) (hc : 0 < c) (v : Value) (hv : getE ((a : Int), (b : Int), (c : Int)) mc = some v) (hP : PlanAt w p A cap ws slots rc rs mc ms) :
    Calls Try.prog 21 #[.pointer (some ⟨p, 0, none⟩), .int .i64 a, .int .i64 b, .int .i64 c] w (LeastPost p A cap ws slots rc rs a b c w) := by
  have hle : ¬ (b : Int) - (a : Int) ≤ 1 := by omega
  have hcl : ¬ (c : Int) < 1 := by omega
  obtain ⟨_, _, _, rfl, HS⟩ := hP.memo _ _ _ _ hv
  have HV := Lib.hid hv; clear hv
  have HS := Lib.hid HS
  have HP := Lib.hid hP; clear hP
  go_enter Try.func21, Try.ntmps21
  go_wp2
  have k3 := cells3 w (.int .i64 a) (.int .i64 b) (.int .i64 c) 46
  have hb1 : Below w.heap.size w (w.alloc (.cells #[.int .i64 a, .int .i64 b, .int .i64 c] 46)) := (Below.refl _ _).alloc (Nat.le_refl _) _
  generalize w.alloc (.cells #[.int .i64 a, .int .i64 b, .int .i64 c] 46) = W1 at k3 hb1 ⊢
  have HB := Lib.hid hb1; clear hb1
  have HP1 := Lib.hid (HP.out.below HB.out)
  have f2 := HP1.out.f2
  have hlk : ∀ nq, (Instr.lookup 43 (.map (some rc)) (.agg #[.int .i64 a, .int .i64 b, .int .i64 c]) true).run Try.prog (W1.drewN nq) = .ok (.tuple #[.int .i64 (lcost ws a b c), .bool true]) (W1.drewN nq) := by
    intro nq
    have h := run_lookup_ok law3 Try.underlying43 zeroI (w := W1.drewN nq) (r := rc) (m := mc) HP1.out.mapc ((a : Int), (b : Int), (c : Int))
    rw [HV.out] at h
    simpa [enc3] using h
  obtain ⟨k0, k1, k2⟩ := k3
  go_quiet (fail)
  go_wp2
  go_ret
  exact ⟨by trivial, mc, ms, HP1.out.below (below_drewN' (Below.refl _ _) _), (Only.of_below HB.out).drewN _, fun _ _ => HS.out⟩
include hw hl in
set_option maxHeartbeats 2000000 in
theorem least_new (n : Nat) (ih : Hid (∀ (a b c : Nat) (ai bi ci : Int) (w : World) (mc ms : List ((Int × Int × Int) × Value)),
    ai = a → bi = b → ci = c → b - a ≤ n → a ≤ b → b ≤ ws.length → c ≤ 8 → PlanAt w p A cap ws slots rc rs mc ms →
    Calls Try.prog 21 #[.pointer (some ⟨p, 0, none⟩), .int .i64 ai, .int .i64 bi, .int .i64 ci] w (LeastPost p A cap ws slots rc rs a b c w)))
    (a b c : Nat) (w : World) (mc ms : List ((Int × Int × Int) × Value)) (hn : b - a ≤ n + 1) (hbl : b ≤ ws.length) (hab : a + 1 < b) (hc : 0 < c) (hc8 : c ≤ 8) (hv : getE ((a : Int), (b : Int), (c : Int)) mc = none)
    (hP : PlanAt w p A cap ws slots rc rs mc ms) :
    Calls Try.prog 21 #[.pointer (some ⟨p, 0, none⟩), .int .i64 a, .int .i64 b, .int .i64 c] w (LeastPost p A cap ws slots rc rs a b c w) := by
  have hb40 : b ≤ 40 := by omega
  have hle : ¬ (b : Int) - (a : Int) ≤ 1 := by omega
  have hcl : ¬ (c : Int) < 1 := by omega
  have HV := Lib.hid hv; clear hv
  have HP := Lib.hid hP; clear hP
  go_enter Try.func21, Try.ntmps21
  go_wp2
  have k3 := cells3 w (.int .i64 a) (.int .i64 b) (.int .i64 c) 46
  have hb1 : Below w.heap.size w (w.alloc (.cells #[.int .i64 a, .int .i64 b, .int .i64 c] 46)) := (Below.refl _ _).alloc (Nat.le_refl _) _
  have hkb : w.heap.size < (w.alloc (.cells #[.int .i64 a, .int .i64 b, .int .i64 c] 46)).heap.size := by simp
  generalize w.alloc (.cells #[.int .i64 a, .int .i64 b, .int .i64 c] 46) = W1 at k3 hb1 hkb ⊢
  have HB := Lib.hid hb1; clear hb1
  have HP1 := Lib.hid (HP.out.below HB.out)
  have f2 := HP1.out.f2
  have hlk : ∀ nq, (Instr.lookup 43 (.map (some rc)) (.agg #[.int .i64 a, .int .i64 b, .int .i64 c]) true).run Try.prog (W1.drewN nq) = .ok (.tuple #[.int .i64 0, .bool false]) (W1.drewN nq) := by
    intro nq
    have h := run_lookup_ok law3 Try.underlying43 zeroI (w := W1.drewN nq) (r := rc) (m := mc) HP1.out.mapc ((a : Int), (b : Int), (c : Int))
    rw [HV.out] at h
    simpa [enc3] using h
  have K3 := Lib.hid k3
  obtain ⟨k0, k1, k2⟩ := k3
  go_quiet (fail)
  go_wp2
  clear hlk f2 k0 k1 k2
  rename Nat => nq
  have HO1 : Hid (Only (Two rc rs) w (W1.drewN nq)) := (Only.of_below HB.out).drewN _
  have K3 : Hid ((W1.drewN nq).cell? ⟨w.heap.size, 0, none⟩ = some (.int .i64 a) ∧ (W1.drewN nq).cell? ⟨w.heap.size, 1, none⟩ = some (.int .i64 b) ∧ (W1.drewN nq).cell? ⟨w.heap.size, 2, none⟩ = some (.int .i64 c)) := K3
  have HP2 : Hid (PlanAt (W1.drewN nq) p A cap ws slots rc rs mc ms) := HP1.out.below (below_drewN' (Below.refl _ _) _)
  have hkb2 : w.heap.size < (W1.drewN nq).heap.size := hkb
  generalize W1.drewN nq = W2 at HO1 K3 HP2 hkb2 ⊢
  clear HP1 HB hkb HP
  go_loopw [12, 13, 14, 15] (fun best sp way m wr => ∃ (k : Nat) (xw xb xs : Int) (mc' ms' : List ((Int × Int × Int) × Value)), a ≤ k ∧ k + 1 ≤ b ∧ m = .int .i64 ((k : Int) + 1) ∧ best = .int .i64 xb ∧ sp = .int .i64 xs ∧ way = .int .i64 xw ∧
      Hid (lstate ws a b c (k - a) = (xw, xb, xs)) ∧ Hid (PlanAt wr p A cap ws slots rc rs mc' ms') ∧ Hid (Only (Two rc rs) W2 wr)) (fun _ _ _ m _ => (b - intOf m).toNat)
  case atStart => exact ⟨a, 0, -1, 0, mc, ms, by omega, by omega, by go_num, rfl, rfl, rfl, lstate_zero ws a b c, HP2, Only.refl _ _⟩
  case round =>
    obtain ⟨k, xw, xb, xs, mc', ms', hak, hkb', rfl, rfl, rfl, rfl, HST, HPr, HOr⟩ := hrel
    by_cases hlt : k + 1 < b
    · obtain ⟨bb, oo, x, rfl, hx, hcx⟩ := HPr.out.ints.at_ (k := k) (by omega)
      have f0 := HPr.out.f0
      have hbd := lstate_bd40 hw a b c (k - a) hb40 (by omega)
      rw [HST.out] at hbd
      obtain ⟨b1, b2, b3, b4, b5, b6⟩ := hbd
      simp only [] at b1 b2 b3 b4 b5 b6
      obtain ⟨x1, x2⟩ := hw.at_ hx
      have HX := Lib.hid hx; clear hx
      have hcast : ((c : Int) - 1) = ((c - 1 : Nat) : Int) := by omega
      have HCA := Lib.hid hcast; clear hcast
      go_wp2_with fail
      refine (ih.out (k + 1) b (c - 1) _ _ _ _ mc' ms' (by omega) rfl HCA.out (by omega) (by omega) hbl (by omega) HPr.out).mono ?_
      rintro e w3 ⟨rfl, mc3, ms3, hP3, hO3, _⟩
      have HP3 := Lib.hid hP3; clear hP3
      have HO3 := Lib.hid hO3; clear hO3
      clear hcx f0
      go_wp2_with fail
      refine (ih.out a (k + 1) c _ _ _ _ mc3 ms3 rfl (by omega) rfl (by omega) (by omega) (by omega) hc8 HP3.out).mono ?_
      rintro e w4 ⟨rfl, mc4, ms4, hP4, hO4, _⟩
      have HP4 := Lib.hid hP4; clear hP4
      have HO4 := Lib.hid hO4; clear hO4
      obtain ⟨r1, r2⟩ := lcost_bd40 hw (k + 1) b (c - 1) hb40
      obtain ⟨l1, l2⟩ := lcost_bd40 hw a (k + 1) c (by omega)
      have HY := Lib.hid (fun hc => lstate_yes hak HST.out HX.out hc)
      have HN := Lib.hid (fun hc => lstate_no hak HST.out HX.out hc)
      have HO5 : Hid (Only (Two rc rs) W2 w4) := (HOr.out.trans HO3.out).trans HO4.out
      clear HST HX HOr HO3 HO4 HP3 HPr ih
      generalize lcost ws (k + 1) b (c - 1) = right at *
      generalize lcost ws a (k + 1) c = left at *
      by_cases h1 : 0 ≤ right
      · by_cases h2 : 0 ≤ left
        · by_cases h3 : xb < 0
          · have HB := Lib.hid (HY.out ⟨h1, h2, .inl h3⟩); clear HY HN
            go_wp2
            go_roundw
            case rel => exact ⟨k + 1, _, _, _, mc4, ms4, by omega, by omega, by go_num, rfl, rfl, rfl, HB.out, HP4, HO5⟩
            case measure => simp [intOf]; omega
          · by_cases h4 : xw + x + right + left < xb
            · have HB := Lib.hid (HY.out ⟨h1, h2, .inr h4⟩); clear HY HN
              go_wp2
              go_roundw
              case rel => exact ⟨k + 1, _, _, _, mc4, ms4, by omega, by omega, by go_num, rfl, rfl, rfl, HB.out, HP4, HO5⟩
              case measure => simp [intOf]; omega
            · have HB := Lib.hid (HN.out (by rintro ⟨_, _, h | h⟩ <;> omega)); clear HY HN
              go_wp2
              go_roundw
              case rel => exact ⟨k + 1, _, _, _, mc4, ms4, by omega, by omega, by go_num, rfl, rfl, rfl, HB.out, HP4, HO5⟩
              case measure => simp [intOf]; omega
        · have HB := Lib.hid (HN.out (by rintro ⟨_, h, _⟩; omega)); clear HY HN
          go_wp2
          go_roundw
          case rel => exact ⟨k + 1, _, _, _, mc4, ms4, by omega, by omega, by go_num, rfl, rfl, rfl, HB.out, HP4, HO5⟩
          case measure => simp [intOf]; omega
      · have HB := Lib.hid (HN.out (by rintro ⟨h, _⟩; omega)); clear HY HN
        go_wp2
        go_roundw
        case rel => exact ⟨k + 1, _, _, _, mc4, ms4, by omega, by omega, by go_num, rfl, rfl, rfl, HB.out, HP4, HO5⟩
        case measure => simp [intOf]; omega
    · obtain rfl : k + 1 = b := by omega
      have HL1 := Lib.hid (lcost_eq (ws := ws) hab hc)
      have HL2 := Lib.hid (lsplit_eq (ws := ws) hab hc)
      go_wp2
      have hP := HPr.out
      have f2 := hP.f2
      have f3 := hP.f3
      have hlt : p < wr.heap.size := World.block_lt_of_cell? _ _ f2
      have hno : ∀ q i u, wr.cell? ⟨q, i, none⟩ = some u → q ≠ rc ∧ q ≠ rs := by
        intro q i u h
        exact ⟨(fun e => by subst e; rw [hP.mapc.nocell] at h; cases h), (fun e => by subst e; rw [hP.maps.nocell] at h; cases h)⟩
      have hno2 : ∀ q i u, W2.cell? ⟨q, i, none⟩ = some u → ¬ Two rc rs q := by
        intro q i u h
        rintro (e | e)
        · subst e; rw [HP2.out.mapc.nocell] at h; cases h
        · subst e; rw [HP2.out.maps.nocell] at h; cases h
      have hk0 := hno2 _ _ _ K3.out.1
      have k0 : wr.cell? ⟨w.heap.size, 0, none⟩ = some (.int .i64 a) := (HOr.out.cell (a := ⟨w.heap.size, 0, none⟩) hkb2 hk0).trans K3.out.1
      have k1 : wr.cell? ⟨w.heap.size, 1, none⟩ = some (.int .i64 ((k : Int) + 1)) := by
        have h := (HOr.out.cell (a := ⟨w.heap.size, 1, none⟩) hkb2 hk0).trans K3.out.2.1
        rwa [show ((k + 1 : Nat) : Int) = (k : Int) + 1 by omega] at h
      have k2 : wr.cell? ⟨w.heap.size, 2, none⟩ = some (.int .i64 c) := (HOr.out.cell (a := ⟨w.heap.size, 2, none⟩) hkb2 hk0).trans K3.out.2.2
      obtain ⟨np1, np2⟩ := hno _ _ _ f2
      obtain ⟨nk1, nk2⟩ := hno _ _ _ k0
      have hD : PlanAt wr.drew p A cap ws slots rc rs mc' ms' := hP.below ((Below.refl _ _).drew)
      obtain ⟨v1, i1, m1, e1, q1, u1⟩ := run_mapEntry law3 Try.underlying43 zeroI hD.mapc ((a : Int), (k : Int) + 1, (c : Int))
      have at1 : MapAt enc3 (setM enc3 wr.drew rc m1) rc m1 := setM_at m1 hD.mapc.lt
      have e2 := run_entryStore (T := 43) at1 i1 ((a : Int), (k : Int) + 1, (c : Int)) (.int .i64 xb) v1 q1
      rw [u1, setM_setM] at e2
      have ats : MapAt enc3 (setM enc3 wr.drew rc (putE ((a : Int), (k : Int) + 1, (c : Int)) (.int .i64 xb) mc')) rs ms' := (setM_other _ (Ne.symm hP.ne)).trans hD.maps
      obtain ⟨v2, i2, m2, e3, q2, u2⟩ := run_mapEntry law3 Try.underlying43 zeroI ats ((a : Int), (k : Int) + 1, (c : Int))
      have at2 : MapAt enc3 (setM enc3 (setM enc3 wr.drew rc (putE ((a : Int), (k : Int) + 1, (c : Int)) (.int .i64 xb) mc')) rs m2) rs m2 := setM_at m2 ats.lt
      have e4 := run_entryStore (T := 43) at2 i2 ((a : Int), (k : Int) + 1, (c : Int)) (.int .i64 xs) v2 q2
      rw [u2, setM_setM] at e4
      have c1 : ∀ q i, q ≠ rc → (setM enc3 wr.drew rc m1).cell? ⟨q, i, none⟩ = wr.cell? ⟨q, i, none⟩ := fun q i h => setM_cell (a := ⟨q, i, none⟩) m1 h
      have c2 : ∀ q i, q ≠ rc → (setM enc3 wr.drew rc (putE ((a : Int), (k : Int) + 1, (c : Int)) (.int .i64 xb) mc')).cell? ⟨q, i, none⟩ = wr.cell? ⟨q, i, none⟩ := fun q i h => setM_cell (a := ⟨q, i, none⟩) _ h
      obtain ⟨Wd, hWd⟩ : ∃ Wd, Wd = setM enc3 (setM enc3 wr.drew rc (putE ((a : Int), (k : Int) + 1, (c : Int)) (.int .i64 xb) mc')) rs (putE ((a : Int), (k : Int) + 1, (c : Int)) (.int .i64 xs) ms') := ⟨_, rfl⟩
      rw [← hWd] at e4
      generalize setM enc3 (setM enc3 wr.drew rc (putE ((a : Int), (k : Int) + 1, (c : Int)) (.int .i64 xb) mc')) rs m2 = Wc at e3 e4
      have WD := Lib.hid hWd; clear hWd
      obtain ⟨Wb, hWb⟩ : ∃ Wb, Wb = setM enc3 wr.drew rc (putE ((a : Int), (k : Int) + 1, (c : Int)) (.int .i64 xb) mc') := ⟨_, rfl⟩
      rw [← hWb] at e2 e3 c2
      have WB := Lib.hid hWb; clear hWb
      generalize setM enc3 wr.drew rc m1 = Wa at e1 e2 c1
      have a2 := (c1 p 2 np1).trans f2
      have a3 := (c1 p 3 np1).trans f3
      have ak0 := (c1 _ 0 nk1).trans k0
      have ak1 := (c1 _ 1 nk1).trans k1
      have ak2 := (c1 _ 2 nk1).trans k2
      have d2 := (c2 p 2 np1).trans f2
      have d3 := (c2 p 3 np1).trans f3
      have dk0 := (c2 _ 0 nk1).trans k0
      have dk1 := (c2 _ 1 nk1).trans k1
      have dk2 := (c2 _ 2 nk1).trans k2
      have HD := Lib.hid hD
      clear c1 c2 hno hno2 hD at1 at2 ats hk0 hlt q1 q2 u1 u2 hP np1 np2 nk1 nk2
      simp only [enc3] at e1 e3
      go_region
      go_wp2
      go_ret
      have E1 : lcost ws a (k + 1) c = xb := by rw [HL1.out, show k + 1 - a - 1 = k - a by omega, HST.out]
      have E2 : lsplit ws a (k + 1) c = xs := by rw [HL2.out, show k + 1 - a - 1 = k - a by omega, HST.out]
      have hOd : Only (Two rc rs) wr Wd := by
        rw [WD.out]
        exact (((Only.refl _ wr).drewN 1).setM enc3 (.inl rfl) _).setM enc3 (.inr rfl) _
      have hlts : rs < wr.drew.heap.size := HD.out.maps.lt
      have hltc : rc < wr.drew.heap.size := HD.out.mapc.lt
      have hmc : MapAt enc3 Wd rc (putE ((a : Int), (k : Int) + 1, (c : Int)) (.int .i64 xb) mc') := by
        rw [WD.out]
        exact (setM_other _ HD.out.ne).trans (setM_at _ hltc)
      have hms : MapAt enc3 Wd rs (putE ((a : Int), (k : Int) + 1, (c : Int)) (.int .i64 xs) ms') := by
        rw [WD.out]
        exact setM_at _ (by rw [setM_size]; exact hlts)
      refine ⟨ret_int E1.symm, _, _, HPr.out.only hOd hmc hms ?_, (HO1.out.trans HOr.out).trans hOd, fun _ _ => ?_⟩
      · intro a' b' c' v hg
        by_cases hk : (a', b', c') = ((a : Int), (k : Int) + 1, (c : Int))
        · obtain ⟨rfl, rfl, rfl⟩ : a' = (a : Int) ∧ b' = (k : Int) + 1 ∧ c' = (c : Int) := by simpa using hk
          rw [getE_put_self] at hg
          have e1 : ((a : Int)).toNat = a := by omega
          have e2 : ((k : Int) + 1).toNat = k + 1 := by omega
          have e3 : ((c : Int)).toNat = c := by omega
          refine ⟨by omega, by omega, by omega, ?_, ?_⟩
          · rw [e1, e2, e3, E1]; simpa using hg.symm
          · rw [getE_put_self, e1, e2, e3, E2]
        · rw [getE_put_other _ _ _ _ hk] at hg
          rw [getE_put_other _ _ _ _ hk]
          exact HPr.out.memo _ _ _ _ hg
      · rw [show ((k + 1 : Nat) : Int) = (k : Int) + 1 by omega, getE_put_self, E2]

include hw hl in
theorem least_any (n : Nat) : ∀ (a b c : Nat) (ai bi ci : Int) (w : World) (mc ms : List ((Int × Int × Int) × Value)),
    ai = a → bi = b → ci = c → b - a ≤ n → a ≤ b → b ≤ ws.length → c ≤ 8 → PlanAt w p A cap ws slots rc rs mc ms →
    Calls Try.prog 21 #[.pointer (some ⟨p, 0, none⟩), .int .i64 ai, .int .i64 bi, .int .i64 ci] w (LeastPost p A cap ws slots rc rs a b c w) := by
  induction n with
  | zero =>
    rintro a b c _ _ _ w mc ms rfl rfl rfl hn hab hbl hc8 hP
    exact least_short p A cap ws slots rc rs a b c w mc ms hab (by omega) (by omega) hP
  | succ n ih =>
    rintro a b c _ _ _ w mc ms rfl rfl rfl hn hab hbl hc8 hP
    by_cases h1 : b ≤ a + 1
    · exact least_short p A cap ws slots rc rs a b c w mc ms hab (by omega) h1 hP
    · cases c with
      | zero => exact least_none p A cap ws slots rc rs a b w mc ms (by omega) (by omega) hP
      | succ c =>
        cases hv : getE ((a : Int), (b : Int), ((c + 1 : Nat) : Int)) mc with
        | some v => exact least_known p A cap ws slots rc rs a b (c + 1) w mc ms (by omega) (by omega) (by omega) v hv hP
        | none => exact least_new p A cap ws slots rc rs hw hl n ih a b (c + 1) w mc ms hn hbl (by omega) (by omega) hc8 hv hP
end

end Go.Proofs.Ytdhicgdcjfcomaa
