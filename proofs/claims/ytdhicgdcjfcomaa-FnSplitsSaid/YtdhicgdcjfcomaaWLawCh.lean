/- Walks: LawChain: a chain that is drawn. -/
import Derived.Test.YtdhicgdcjfcomaaWSpoil2
import Derived.Test.YtdhicgdcjfcomaaWIntRow
import Derived.Deep.CutBlock
namespace Go.Proofs.Ytdhicgdcjfcomaa
open Go.RowKit Plain

theorem from_st (A : Option Addr) (n cap : Nat) (w : World) (hA : Byt w A n) (hn : n ≤ 4611686018427387904) :
    Calls Try.prog 12 #[.slice A n cap] w fun e w' => e = .returned (.pointer (some ⟨w.heap.size, 0, none⟩)) ∧ SrcN w' w.heap.size n 0 0 ∧ Below w.heap.size w w' ∧ w.heap.size < w'.heap.size := by
  go_enter Try.func12, Try.ntmps12
  go_wp2
  go_ret
  refine ⟨rfl, ⟨A, cap, ⟨?_, ?_, hn, by omega, by omega, ?_⟩⟩, by go_grown, by simp⟩
  · exact Cells.new w 53 [.slice A n cap, .int .i64 0, .int .u64 0]
  · exact hA.only (S := fun _ => False) (Only.of_below (by go_grown)) (fun _ _ _ h => h)
  · rintro q ⟨h0, o, rfl⟩
    obtain ⟨b, o', e, hl, _⟩ := hA h0
    have : q = b := by simpa using congrArg (fun x => x.map Addr.block) e
    omega
def AmongB (p n at_ : Nat) (s : Int) (w : World) (e : Ending) (w' : World) : Prop :=
  ∃ x at' s', e = .returned (.int .i64 x) ∧ 0 ≤ x ∧ x ≤ 1000 ∧ at' ≤ at_ + 1 ∧ SrcN w' p n at' s' ∧ Only (fun q => q = p) w w'
theorem among_st (p n at_ : Nat) (s : Int) (b m cap : Nat) (w : World) (h : SrcN w p n at_ s) (hat : at_ ≤ 4611686018427387904) (hn : 0 < m) (hm : m ≤ 200) (hb : b < w.heap.size) (hbp : b ≠ p)
    (hc : ∀ j, j < m → ∃ x : Int, 0 ≤ x ∧ x ≤ 1000 ∧ w.cell? ⟨b, j, none⟩ = some (.int .i64 x)) :
    Calls Try.prog 15 #[.pointer (some ⟨p, 0, none⟩), .slice (some ⟨b, 0, none⟩) m cap] w (AmongB p n at_ s w) := by
  have HC := Lib.hid hc; clear hc
  have H := Lib.hid h; clear h
  go_enter Try.func15, Try.ntmps15
  go_wp2_with fail
  refine (pick_st p n at_ s m w H.out hat (by omega)).mono ?_
  rintro e w1 ⟨x, at', s', rfl, hp, hs, ho⟩
  have hat' := hp.at_
  obtain ⟨x0, hp⟩ := hp
  obtain ⟨j, rfl⟩ := Int.eq_ofNat_of_zero_le x0
  have hj : j < m := by rcases hp with ⟨_, e, _⟩ | ⟨_, e, _⟩ <;> omega
  have hj' : (j : Int) < (m : Int) := by omega
  obtain ⟨y, y0, y1, hy⟩ := HC.out j hj
  have hy1 : w1.cell? ⟨b, j, none⟩ = some (.int .i64 y) := (ho.cell (a := ⟨b, j, none⟩) hb hbp).trans hy
  have HS := Lib.hid hs
  have HO := Lib.hid ho
  clear hs ho hp hy
  go_wp2
  go_ret
  exact ⟨y, at', s', rfl, y0, y1, hat', HS.out, HO.out⟩

theorem wts_push {ws : List Int} {x : Int} (h : wts ws = true) (hl : ws.length < 40) (x0 : 0 ≤ x) (x1 : x ≤ 1000) : wts (ws ++ [x]) = true := by
  unfold wts at h ⊢
  simp only [Bool.and_eq_true, decide_eq_true_eq] at h ⊢
  refine ⟨by simp; omega, ?_⟩
  rw [List.all_append, h.2]
  simp [inR]
  omega
theorem intRow_cap {w : World} {base cap : Nat} {A : Option Addr} {l : List Int} (h : IntRow w base (.slice A l.length cap) l) : l.length ≤ cap := by
  rcases h.2 with ⟨_, h0⟩ | ⟨g, cap', _, hv, _, _, h1, _⟩
  · omega
  · have hc : cap = cap' := by injection hv
    omega
/-- a chain that is drawn -/
def ChainD (w : World) (e : Ending) (w' : World) : Prop :=
  ∃ (lv : Value) (Av : Option Addr) (cp : Nat) (ws : List Int) (slots : Nat), e = .returned (.tuple #[lv, .slice Av ws.length cp, .int .i64 slots]) ∧ Ints w' Av ws ∧ wts ws = true ∧ ws.length ≤ 17 ∧ slots ≤ 4 ∧ ws.length ≤ cp ∧ Below w.heap.size w w'

set_option maxRecDepth 100000 in
set_option maxHeartbeats 4000000 in
theorem lawChain_any (A : Option Addr) (N cap : Nat) (w : World) (hA : Byt w A N) (hN : N ≤ 4096) :
    Calls Try.prog 6 #[.slice A N cap] w (ChainD w) := by
  obtain ⟨i0, hi, hz0, hz1, hz2⟩ := info_parts Try.infoI
  go_enter Try.func6, Try.ntmps6
  go_wp2_with fail
  refine (from_st A N cap w hA (by omega)).mono ?_
  rintro e w1 ⟨rfl, hs, hb, hlt⟩
  have HS := Lib.hid hs
  have HB := Lib.hid hb
  clear hs hb hA
  go_wp2_with fail
  refine (pick_st w.heap.size N 0 0 9 w1 HS.out (by omega) (by omega)).mono ?_
  rintro e w2 ⟨x, at1, s1, rfl, hp, hs, ho⟩
  have hat1 := hp.at_
  have hx : 0 ≤ x ∧ x ≤ 8 := by
    obtain ⟨z0, hp⟩ := hp
    rcases hp with ⟨_, e, _⟩ | ⟨_, e, _⟩ <;> omega
  obtain ⟨n0, rfl⟩ := Int.eq_ofNat_of_zero_le hx.1
  have hx2 := hx.2
  have HS2 := Lib.hid hs
  have HB2 : Hid (Below w.heap.size w w2) := HB.out.trans (ho.below HB.out.size (fun q hq => by omega))
  clear hs ho hp hx HS HB
  go_wp2_with fail
  refine (one_st w.heap.size N at1 s1 10 w2 HS2.out (by omega) (by omega)).mono ?_
  rintro e w3 ⟨y, at2, s2, rfl, hp, hs, ho⟩
  have hat2 := hp.at_
  have HS3 := Lib.hid hs
  have HB3 : Hid (Below w.heap.size w w3) := HB2.out.trans (ho.below HB2.out.size (fun q hq => by omega))
  clear hs ho hp HS2 HB2
  go_upto_if 19 with fail
  go_cut [6] (fun s6 wc => ∃ (n : Nat) (at_ : Nat) (s : Int), s6 = .int .i64 n ∧ n ≤ 17 ∧ at_ ≤ 10 ∧ Hid (SrcN wc w.heap.size N at_ s) ∧ Hid (Below w.heap.size w wc))
  case first =>
    by_cases hy : y = 0
    · have hyb : (y == 0) = true := by simp [hy]
      go_wp2_with fail
      refine (pick_st w.heap.size N at2 s2 8 w3 HS3.out (by omega) (by omega)).mono ?_
      rintro e w4 ⟨x, at3, s3, rfl, hp, hs, ho⟩
      have hat3 := hp.at_
      have hx : 0 ≤ x ∧ x ≤ 7 := by
        obtain ⟨z0, hp⟩ := hp
        rcases hp with ⟨_, e, _⟩ | ⟨_, e, _⟩ <;> omega
      obtain ⟨m0, rfl⟩ := Int.eq_ofNat_of_zero_le hx.1
      have hx3 := hx.2
      have HS4 := Lib.hid hs
      have HB4 : Hid (Below w.heap.size w w4) := HB3.out.trans (ho.below HB3.out.size (fun q hq => by omega))
      clear hs ho hp hx HS3 HB3
      go_wp2_with fail
      go_meet
      case rel => exact ⟨10 + m0, at3, s3, by first | go_num | (congr 1), by omega, by omega, HS4, HB4⟩
    · have hyb : (y == 0) = false := by simpa using hy
      go_wp2_with fail
      go_meet
      case rel => exact ⟨n0, at2, s2, rfl, by omega, by omega, HS3, HB3⟩
  case rest =>
  obtain ⟨n, at3, s3, rfl, hn17, hat3, HS4, HB4⟩ := hcut
  clear HS3 HB3
  go_wp2_with fail
  refine (pick_st w.heap.size N at3 s3 4 wc HS4.out (by omega) (by omega)).mono ?_
  rintro e w5 ⟨x, at4, s4, rfl, hp, hs, ho⟩
  have hat4 := hp.at_
  have hx : 0 ≤ x ∧ x ≤ 3 := by
    obtain ⟨z0, hp⟩ := hp
    rcases hp with ⟨_, e, _⟩ | ⟨_, e, _⟩ <;> omega
  obtain ⟨m1, rfl⟩ := Int.eq_ofNat_of_zero_le hx.1
  have hx5 := hx.2
  have HS5 := Lib.hid hs
  have HB5 : Hid (Below w.heap.size w w5) := HB4.out.trans (ho.below HB4.out.size (fun q hq => by omega))
  clear hs ho hp hx HS4 HB4
  go_wp2_with fail
  refine (one_st w.heap.size N at4 s4 8 w5 HS5.out (by omega) (by omega)).mono ?_
  rintro e w6 ⟨y6, at5, s5, rfl, hp, hs, ho⟩
  have hat5 := hp.at_
  have HS6 := Lib.hid hs
  have HB6 : Hid (Below w.heap.size w w6) := HB5.out.trans (ho.below HB5.out.size (fun q hq => by omega))
  clear hs ho hp HS5 HB5
  go_upto_if 27 with fail
  go_cut [7] (fun s7 wc => ∃ (ns : Nat), s7 = .int .i64 ns ∧ ns ≤ 4 ∧ w6 = wc)
  case first =>
    by_cases hy : y6 = 0
    · have hyb : (y6 == 0) = true := by simp [hy]
      go_wp2_with fail
      go_meet
      case rel => exact ⟨0, rfl, by omega, rfl⟩
    · have hyb : (y6 == 0) = false := by simpa using hy
      go_wp2_with fail
      go_meet
      case rel => exact ⟨1 + m1, by first | go_num | (congr 1), by omega, rfl⟩
  case rest =>
  obtain ⟨ns, rfl, hns4, rfl⟩ := hcut
  have hg7 : Below w6.heap.size w6 (w6.alloc (.cells #[] 2)) := by go_grown
  have HS7 := Lib.hid (HS6.out.below hg7)
  have HB7 := Lib.hid (bnext HB6.out hg7)
  have hpw := HS6.out.lt
  have HR7 : Hid (IntRow (w6.alloc (.cells #[] 2)) (w.heap.size + 1) (.slice (some ⟨w6.heap.size, 0, none⟩) 0 0) []) := World.ownsRow_lit w6 #[] 0 (show w.heap.size + 1 ≤ w6.heap.size by omega) (by unfold maxLen; omega) (by rfl)
  clear HS6 HB6 hg7
  go_wp2_with fail
  refine (pick_st w.heap.size N at5 s5 3 _ HS7.out (by omega) (by omega)).mono ?_
  rintro e w8 ⟨kd, at6, s6, rfl, hp, hs, ho⟩
  have hat6 := hp.at_
  have hkd : 0 ≤ kd ∧ kd ≤ 2 := by
    obtain ⟨z0, hp⟩ := hp
    rcases hp with ⟨_, e, _⟩ | ⟨_, e, _⟩ <;> omega
  have HS8 := Lib.hid hs
  have HB8 : Hid (Below w.heap.size w w8) := HB7.out.trans (ho.below HB7.out.size (fun q hq => by omega))
  have HR8 : Hid (IntRow w8 (w.heap.size + 1) (.slice (some ⟨w6.heap.size, 0, none⟩) 0 0) []) := HR7.out.keep fun g hg => ho.block g (HR7.out.lt hg).2 (by have := (HR7.out.lt hg).1; omega)
  clear hs ho hp HS7 HB7 HR7
  go_wp2_with fail
  go_loopw [8, 10] (fun o i wr => ∃ (k : Nat) (ws : List Int) (Av : Option Addr) (cp at_ : Nat) (s : Int), k ≤ n ∧ i = .int .i64 (k : Int) ∧ ws.length = k ∧ o = .slice Av k cp ∧ Hid (IntRow wr (w.heap.size + 1) (.slice Av ws.length cp) ws) ∧ Hid (wts ws = true) ∧ Hid (SrcN wr w.heap.size N at_ s) ∧ Hid (Below w.heap.size w wr) ∧ at_ ≤ 20 + 2 * k) (fun _ i _ => n - (intOf i).toNat)
  case atStart => exact ⟨0, [], _, 0, at6, s6, by omega, by go_num, rfl, rfl, HR8, by show _ = _; rfl, HS8, HB8, by omega⟩
  case round =>
    obtain ⟨k, ws, Av, cp, at7, s7, hk, rfl, hwk, rfl, HR, HW, HS, HB, hat7⟩ := hrel
    have HWK := Lib.hid hwk
    clear hwk
    by_cases hlt : k < n
    · have hltz : (k : Int) < (n : Int) := by omega
      go_upto_if 37 with fail
      go_cut [11] from 31 to 48 (fun s11 wc => ∃ (x : Int) (at_ : Nat) (s : Int), s11 = .int .i64 x ∧ 0 ≤ x ∧ x ≤ 1000 ∧ at_ ≤ at7 + 1 ∧ Hid (IntRow wc (w.heap.size + 1) (.slice Av ws.length cp) ws) ∧ Hid (SrcN wc w.heap.size N at_ s) ∧ Hid (Below w.heap.size w wc))
      case first =>
        by_cases hk1 : kd = 1
        · have hkb : (kd == 1) = true := by simp [hk1]
          clear hk1
          go_wp2_with fail
          refine (pick_st w.heap.size N at7 s7 10 wr HS.out (by omega) (by omega)).mono ?_
          rintro e w9 ⟨x, at8, s8, rfl, hp, hs, ho⟩
          have hat8 := hp.at_
          have hx : 0 ≤ x ∧ x ≤ 9 := by
            obtain ⟨z0, hp⟩ := hp
            rcases hp with ⟨_, e, _⟩ | ⟨_, e, _⟩ <;> omega
          obtain ⟨hx0, hx1⟩ := hx
          have HS9 := Lib.hid hs
          have HB9 : Hid (Below w.heap.size w w9) := HB.out.trans (ho.below HB.out.size (fun q hq => by omega))
          have HR9 : Hid (IntRow w9 (w.heap.size + 1) (.slice Av ws.length cp) ws) := HR.out.keep fun g hg => ho.block g (HR.out.lt hg).2 (by have := (HR.out.lt hg).1; omega)
          clear hs ho hp HS HB HR
          go_wp2_with fail
          go_meet
          case rel => exact ⟨x, at8, s8, rfl, by omega, by omega, by omega, HR9, HS9, HB9⟩
        · have hkb : (kd == 1) = false := by simpa using hk1
          go_wp2_with fail
          go_meet
          case rel => exact ⟨1, at7, s7, rfl, by omega, by omega, by omega, HR, HS, HB⟩
      case rest =>
      obtain ⟨x1, at8, s8, rfl, hx10, hx11, hat8, HR1, HS1, HB1⟩ := hcut
      clear HR HS HB
      go_upto_if 41 with fail
      go_cut [11] from 31 to 48 (fun s11 wc => ∃ (x : Int) (at_ : Nat) (s : Int), s11 = .int .i64 x ∧ 0 ≤ x ∧ x ≤ 1000 ∧ at_ ≤ at7 + 2 ∧ Hid (IntRow wc (w.heap.size + 1) (.slice Av ws.length cp) ws) ∧ Hid (SrcN wc w.heap.size N at_ s) ∧ Hid (Below w.heap.size w wc))
      case first =>
        by_cases hk1 : kd = 2
        · have hkb : (kd == 2) = true := by simp [hk1]
          clear hk1
          have hg8 : Below wc.heap.size wc (wc.alloc (.cells #[.int .i64 0, .int .i64 1, .int .i64 3, .int .i64 1000, .int .i64 100, .int .i64 17] 2)) := by go_grown
          have HC : Hid (∀ j, j < 6 → ∃ x : Int, 0 ≤ x ∧ x ≤ 1000 ∧ (wc.alloc (.cells #[.int .i64 0, .int .i64 1, .int .i64 3, .int .i64 1000, .int .i64 100, .int .i64 17] 2)).cell? ⟨wc.heap.size, j, none⟩ = some (.int .i64 x)) := fun j hj => by
            have hC := Cells.new wc 2 [.int .i64 0, .int .i64 1, .int .i64 3, .int .i64 1000, .int .i64 100, .int .i64 17]
            rw [hC.cell]
            match j, hj with
            | 0, _ => exact ⟨0, by omega, by omega, rfl⟩
            | 1, _ => exact ⟨1, by omega, by omega, rfl⟩
            | 2, _ => exact ⟨3, by omega, by omega, rfl⟩
            | 3, _ => exact ⟨1000, by omega, by omega, rfl⟩
            | 4, _ => exact ⟨100, by omega, by omega, rfl⟩
            | 5, _ => exact ⟨17, by omega, by omega, rfl⟩
          have HS2 := Lib.hid (HS1.out.below hg8)
          have HB2 := Lib.hid (bnext HB1.out hg8)
          have HR2 : Hid (IntRow (wc.alloc (.cells #[.int .i64 0, .int .i64 1, .int .i64 3, .int .i64 1000, .int .i64 100, .int .i64 17] 2)) (w.heap.size + 1) (.slice Av ws.length cp) ws) := HR1.out.keep fun g hg => hg8.block g (HR1.out.lt hg).2
          have hpl := HS1.out.lt
          clear hg8
          go_wp2_with fail
          refine (among_st w.heap.size N at8 s8 wc.heap.size 6 6 _ HS2.out (by omega) (by omega) (by omega) (by simp) (by omega) HC.out).mono ?_
          rintro e w9 ⟨x, at9, s9, rfl, hx0, hx1, hat9, hs, ho⟩
          have HS9 := Lib.hid hs
          have HB9 : Hid (Below w.heap.size w w9) := HB2.out.trans (ho.below HB2.out.size (fun q hq => by omega))
          have HR9 : Hid (IntRow w9 (w.heap.size + 1) (.slice Av ws.length cp) ws) := HR2.out.keep fun g hg => ho.block g (HR2.out.lt hg).2 (by have := (HR2.out.lt hg).1; omega)
          clear hs ho HS2 HB2 HR2 HS1 HB1 HR1
          go_wp2_with fail
          go_meet
          case rel => exact ⟨x, at9, s9, rfl, by omega, by omega, by omega, HR9, HS9, HB9⟩
        · have hkb : (kd == 2) = false := by simpa using hk1
          go_wp2_with fail
          go_meet
          case rel => exact ⟨x1, at8, s8, rfl, by omega, by omega, by omega, HR1, HS1, HB1⟩
      case rest =>
      obtain ⟨x2, at9, s9, rfl, hx20, hx21, hat9, HR2, HS2, HB2⟩ := hcut
      clear HR1 HS1 HB1
      have hk17 : k ≤ 17 := by omega
      have HOW : Hid (wc.ownsRow (w.heap.size + 1) 2 1 (.slice Av k cp) k (ws.map (Value.int .i64))) := by
        have h := HR2.out.ownN HWK.out.symm
        rw [HWK.out] at h
        exact h
      have hb0 : w.heap.size + 1 ≤ wc.heap.size := by have := HS2.out.lt; omega
      go_wp2_with (at_builtin; refine wpList_append_own _ rfl _ _ 25 rfl (w.heap.size + 1) 2 i0 (.int .i64 0) 1 8 Try.underlying25 hi hz0 hz1 hz2 rfl (by decide) _ k _ rfl (HOW.out.alloc _) ⟨wc.heap.size, 0, none⟩ 1 1 [.int .i64 x2] rfl rfl ?c1 ?c2 ?c3 ?c4 ?c5 ?_)
      try (case c1 => exact cell_one_new _ _ _)
      try (case c2 => intro u hu; simp at hu; subst hu; rfl)
      case c3 => unfold maxLen; omega
      case c4 => omega
      case c5 => first | omega | (simp; omega) | (simp; done)
      intro v2 w9 hown hg _
      have hR3 : IntRow w9 (w.heap.size + 1) v2 (ws ++ [x2]) := IntRow.push HWK.out.symm hown
      obtain ⟨A2, cp2, hv2⟩ := hR3.form
      have hlw : (ws ++ [x2]).length = k + 1 := by have := HWK.out; simp; omega
      subst hv2
      have hb1 : Below wc.heap.size wc (wc.alloc (.cells #[.int .i64 x2] 2)) := by go_grown
      have hb9 : Below (w.heap.size + 1) wc w9 := (hb1.mono hb0).grown hg (by have := hb1.size; omega) (fun q hq => (World.ownsRow.lt HOW.out q hq).1)
      have HS3 : Hid (SrcN w9 w.heap.size N at9 s9) := HS2.out.only (Only.ofB hb9 (by have := hg.size; have := hb1.size; omega)) (fun q hq h => by omega)
      have HB3 : Hid (Below w.heap.size w w9) := HB2.out.trans (hb9.mono (by omega))
      have HW3 : Hid (wts (ws ++ [x2]) = true) := wts_push HW.out (by have := HWK.out; omega) hx20 hx21
      have HR3 := Lib.hid hR3
      have HLW := Lib.hid hlw
      rw [hlw]
      clear hown hg hR3 hb1 hb9 hlw HR2 HS2 HB2
      go_wp2
      go_roundw
      case rel => exact ⟨k + 1, ws ++ [x2], A2, cp2, at9, s9, by omega, by go_num, HLW.out, rfl, HR3, HW3, HS3, HB3, by omega⟩
      case measure => simp [intOf]; omega
    · obtain rfl : k = n := by omega
      go_wp2_with fail
      refine (drawList_any w.heap.size N k ns at7 s7 wr HS.out (by omega) hN (by omega) (by omega)).mono ?_
      rintro e w10 ⟨l, Al, cl, at8, s8, rfl, hrow, hll, hs, hat8, ho⟩
      have HR10 : Hid (IntRow w10 (w.heap.size + 1) (.slice Av ws.length cp) ws) := HR.out.keep fun g hg => ho.block g (HR.out.lt hg).2 (by have := (HR.out.lt hg).1; omega)
      have HB10 : Hid (Below w.heap.size w w10) := HB.out.trans (ho.below HB.out.size (fun q hq => by omega))
      have HSR := Lib.hid (hs.src (Nat.le_refl at8))
      have HROW := Lib.hid hrow
      have hpr : w.heap.size < wr.heap.size := HS.out.lt
      clear hs ho hrow HS HB HR
      go_wp2_with fail
      refine (one_any w.heap.size at8 6 w10 HSR.out (by omega)).mono ?_
      rintro e w11 ⟨b, rfl, hs, ho⟩
      have HR11 : Hid (IntRow w11 (w.heap.size + 1) (.slice Av ws.length cp) ws) := HR10.out.keep fun g hg => ho.block g (HR10.out.lt hg).2 (by have := (HR10.out.lt hg).1; omega)
      have HB11 : Hid (Below w.heap.size w w11) := HB10.out.trans (ho.below HB10.out.size (fun q hq => by omega))
      have HROW1 : Hid (ActRow w11 wr.heap.size (.slice Al l.length cl) l) := HROW.out.keep fun g hg => ho.block g (HROW.out.lt hg).2 (by have := (HROW.out.lt hg).1; omega)
      have HSR1 := Lib.hid hs
      clear hs ho HR10 HB10 HSR HROW
      go_upto_if 54 with fail
      go_cut [12] (fun s12 wc => Hid (IntRow wc (w.heap.size + 1) (.slice Av ws.length cp) ws) ∧ Hid (Below w.heap.size w wc))
      case first =>
        cases b
        · go_wp2_with fail
          go_meet
          case rel => exact ⟨HR11, HB11⟩
        · have HSP : Hid (Calls Try.prog 17 #[.pointer (some ⟨w.heap.size, 0, none⟩), .slice Al l.length cl] w11 (SpPost w.heap.size (at8 + 2) w11)) := by
            rcases Nat.eq_zero_or_pos l.length with h0 | h0
            · rw [h0]
              exact spoil_none w.heap.size (at8 + 2) cl Al w11 HSR1.out (by omega)
            · exact spoil_some w.heap.size (at8 + 2) wr.heap.size cl Al l w11 HSR1.out (by omega) HROW1.out h0 hll
          go_wp2_with fail
          refine HSP.out.mono ?_
          rintro e w12 ⟨A', n', c', rfl, hn', hsm, _, ho⟩
          obtain ⟨l', hl', hacts⟩ := hsm.acts
          subst hl'
          have HR12 : Hid (IntRow w12 (w.heap.size + 1) (.slice Av ws.length cp) ws) := HR11.out.keep fun g hg => ho.block g (HR11.out.lt hg).2 (by have := (HR11.out.lt hg).1; omega)
          have HB12 : Hid (Below w.heap.size w w12) := HB11.out.trans (ho.below HB11.out.size (fun q hq => by omega))
          have HSC := Lib.hid (l06Schedule_any A' c' l' w12 hacts (by omega))
          clear hsm hacts ho HSP HR11 HB11
          go_wp2_with fail
          refine HSC.out.mono ?_
          rintro e w13 ⟨rfl, hb⟩
          have HR13 : Hid (IntRow w13 (w.heap.size + 1) (.slice Av ws.length cp) ws) := HR12.out.keep fun g hg => hb.block g (HR12.out.lt hg).2
          have HB13 : Hid (Below w.heap.size w w13) := bnext HB12.out hb
          generalize isSched l' = q at *
          clear hb HSC HR12 HB12
          cases q
          · go_wp2_with fail
            go_meet
            case rel => exact ⟨HR13, HB13⟩
          · go_wp2_with fail
            go_meet
            case rel => exact ⟨HR13, HB13⟩
      case rest =>
        obtain ⟨HR13, HB13⟩ := hcut
        clear HR11 HB11 HROW1 HSR1
        rw [← HWK.out]
        have hwl : ws.length ≤ 17 := by have := HWK.out; omega
        go_wp2
        go_ret3
        exact ⟨_, Av, cp, ws, ns, rfl, HR13.out.intsM.ints, HW.out, hwl, hns4, intRow_cap HR13.out, HB13.out⟩

end Go.Proofs.Ytdhicgdcjfcomaa
