/- Texts put together: WDerS. -/
import Derived.Test.YtfnhdfgkkjnhcaaKSD
import Derived.Test.YtfnhdfgkkjnhcaaKX
import Derived.Test.YtfnhdfgkkjnhcaaKE
import Derived.Deep.RegionLaw

/- Walks: l05Derive, DerivePoly of the reference. -/
namespace Go.Proofs.Ytfnhdfgkkjnhcaa
open Go.RowKit Plain

/-- a polynomial returned, in memory of its own -/
def PolyR (u : Int) (R : List Term') (w : World) (e : Ending) (w' : World) : Prop :=
  ∃ A' cp, e = .returned (poV u A' R.length cp) ∧ RT w' w.heap.size w'.heap.size A' R ∧ Below w.heap.size w w'
theorem tm_comm' (a b : Int) : tm a b = tm b a := by unfold tm; rw [Int.mul_comm]
/-- an own row of numbers, one of them set -/
theorem IntRow.setAt {w : World} {B g cap : Nat} {l : List Int} (h : IntRow w B (.slice (some ⟨g, 0, none⟩) l.length cap) l) (v : Nat) (x : Int) : IntRow (w.setCell ⟨g, v, none⟩ (.int .i64 x)) B (.slice (some ⟨g, 0, none⟩) (l.set v x).length cap) (l.set v x) := by
  have := (World.ownsRow.stored h v (.int .i64 x)).1
  unfold IntRow
  rw [List.length_set, List.map_set]
  exact this
theorem IntRow.at_ {w : World} {B cap v n : Nat} {A : Option Addr} {l : List Int} (h : IntRow w B (.slice A l.length cap) l) (hn : n = l.length) (hv : v < n) : ∃ g, A = some ⟨g, 0, none⟩ ∧ B ≤ g ∧ g < w.heap.size ∧ w.cell? ⟨g, v, none⟩ = some (.int .i64 (cf l v)) ∧ w.frozen? ⟨g, v, none⟩ = false := by
  obtain ⟨g, c, hv', h1, h2⟩ := World.ownsRow.form h (by omega)
  have hA : A = some ⟨g, 0, none⟩ := by injection hv'
  subst hA
  refine ⟨g, rfl, h1, h2, ?_, World.ownsRow.frozenAt h v⟩
  have := World.ownsRow.cellAt h v (by omega)
  rw [this, List.getElem?_map, List.getElem?_eq_getElem (by omega)]
  simp [cf, List.getD, show v < l.length by omega]

set_option maxRecDepth 100000 in
set_option maxHeartbeats 4000000 in
theorem l05Derive_any (b o : Nat) (u a : Int) (v : Nat) (ha : a = v) (A : Option Addr) (cap : Nat) (ts : List Term') (w : World) (h0 : w.cell? ⟨b, o, none⟩ = some (.int .i64 u)) (h1 : w.cell? ⟨b, o + 1, none⟩ = some (.slice A ts.length cap)) (hT : TmsAt w A ts) (hok : polyOk u ts = true) (hv : v < u.toNat) :
    Calls Try.prog 32 #[ptr b o, .int .i64 a] w (PolyR u (nfT (derL ts v)) w) := by
  subst ha
  have hsz := polyOk_size hok
  have hl120 := hsz.2.2
  have hu12 : u.toNat ≤ 12 := by omega
  have hvz : (v : Int) < 12 := by omega
  clear hsz
  have hbw : b < w.heap.size := World.block_lt_of_cell? _ _ h0
  have HOK := Lib.hid hok
  have HT := Lib.hid hT
  have HQ : Hid (w.cell? ⟨b, o, none⟩ = some (.int .i64 u) ∧ w.cell? ⟨b, o + 1, none⟩ = some (.slice A ts.length cap)) := ⟨h0, h1⟩
  obtain ⟨n, hn⟩ : ∃ n, n = u.toNat := ⟨_, rfl⟩
  have HLT : Hid (LenT n ts) := by rw [hn]; exact polyOk_len' hok
  rw [← hn] at hv hu12
  clear hn hok hT h1
  go_enter Try.func32, Try.ntmps32
  go_wp2_with fail
  obtain ⟨W0, hW0⟩ : ∃ W0, W0 = (w.alloc (.cells #[.int .i64 0, .slice none 0 0] 28)).alloc (.cells #[.int .i64 u, .slice none 0 0] 28) := ⟨_, rfl⟩
  have hb1 : Below w.heap.size w (w.alloc (.cells #[.int .i64 0, .slice none 0 0] 28)) := by go_grown
  have hW0s : W0.heap.size = w.heap.size + 1 + 1 := by rw [hW0]; simp
  have HB0 : Hid (Below w.heap.size w W0) := by show Below _ _ _; rw [hW0]; go_grown
  have HBX : Hid (Cells W0 w.heap.size 28 [.int .i64 0, .slice none 0 0]) := by
    show Cells _ _ _ _
    rw [hW0]
    exact (Cells.new w 28 [.int .i64 0, .slice none 0 0]).next (by go_grown)
  have HST : Hid (DSt W0 (w.heap.size + 1) (w.heap.size + 1 + 1) u (derL (ts.take 0) v) n [] 0 0 none W0) := by
    refine ⟨?_, rfl, TRow.nilv _ _, Canon.nil, fun e => by simp [derL, cof], fun t ht => by simp at ht, Only.refl _ _, by omega, hW0s.symm⟩
    rw [hW0]
    have := Cells.new (w.alloc (.cells #[.int .i64 0, .slice none 0 0] 28)) 28 [.int .i64 u, .slice none 0 0]
    simpa using this
  rw [← hW0]
  have HWS := Lib.hid hW0s
  clear hW0 hW0s hb1 h0
  go_loopg [6] (ts.length + 1) (fun kx s6 wr => ∃ (i : Nat) (out : List Term') (m cp : Nat) (A' : Option Addr), s6 = .int .i64 (i : Int) ∧ i ≤ ts.length ∧ ts.length - i < kx ∧ m ≤ i ∧ Hid (DSt W0 (w.heap.size + 1) (w.heap.size + 1 + 1) u (derL (ts.take i) v) n out m cp A' wr))
  case atStart => exact ⟨0, [], 0, 0, none, by first | rfl | go_num, by omega, by omega, by omega, HST⟩
  case round =>
    clear HST
    obtain ⟨i, out, m, cp, A', rfl, hin, hkx, hmi, HG⟩ := hrel
    obtain ⟨wo, rfl⟩ : ∃ x, x = wr := ⟨_, rfl⟩
    have HBW : Hid (Below w.heap.size w wo) := HB0.out.trans (HG.out.only.below (by have := HWS.out; omega) (fun k hk => by omega))
    have q0 : wo.cell? ⟨b, o, none⟩ = some (.int .i64 u) := keepC HQ.out.1 HBW.out
    have q1 : wo.cell? ⟨b, o + 1, none⟩ = some (.slice A ts.length cap) := keepC HQ.out.2 HBW.out
    by_cases hlt : i < ts.length
    · have hiz : (i : Int) < (ts.length : Int) := by omega
      obtain ⟨bt, ot, Ai, ci, rfl, hbt, t0, t1, tI, _⟩ := (HT.out.below HBW.out).at_ hlt
      have hlen : (tmAt ts i).1.length = n := HLT.out _ (tmAt_mem hlt)
      have hok1 := termOk_parts (polyOk_mem HOK.out (tmAt_mem hlt))
      have hx12 := expsOk_bd hok1.2.2.2.1 v
      rw [hlen] at t0
      obtain ⟨be, oe, rfl, hbe, hce⟩ := tI.cfAt (by omega)
      have e0 := hce v (by omega)
      have HTI := Lib.hid tI
      have HLN := Lib.hid hlen
      obtain ⟨x, hx⟩ : ∃ x, x = cf (tmAt ts i).1 v := ⟨_, rfl⟩
      obtain ⟨c, hc⟩ : ∃ c, c = (tmAt ts i).2 := ⟨_, rfl⟩
      rw [← hx] at e0 hx12
      rw [← hc] at t1
      have HX := Lib.hid hx
      have HC := Lib.hid hc
      have hx0 := hx12.1
      have hx1 := hx12.2
      have hvn : (v : Int) < (n : Int) := by omega
      clear hce hok1 hx hc hx12 hlen tI
      by_cases hpos : 0 < x
      · have HOW : Hid (Calls Try.prog 70 #[.slice (some ⟨be, oe, none⟩) n ci] wo fun e w' => ∃ g c', e = .returned (.slice (some ⟨g, 0, none⟩) n c') ∧ IntRow w' wo.heap.size (.slice (some ⟨g, 0, none⟩) (tmAt ts i).1.length c') (tmAt ts i).1 ∧ w'.cell? ⟨g, v, none⟩ = some (.int .i64 x) ∧ w'.frozen? ⟨g, v, none⟩ = false ∧ wo.heap.size ≤ g ∧ g < w'.heap.size ∧ Below wo.heap.size wo w') := by
          have h := ownR_any (some ⟨be, oe, none⟩) ci (tmAt ts i).1 wo HTI.out (by rw [HLN.out]; omega)
          rw [HLN.out] at h
          refine h.mono fun e w' ⟨Ac, cc, h1, h2, h3⟩ => ?_
          obtain ⟨g, hg, hg1, hg2, hg3, hg4⟩ := h2.at_ (n := n) HLN.out.symm hv
          subst hg
          rw [HLN.out] at h1
          exact ⟨g, cc, h1, h2, by rw [HX.out]; exact hg3, hg4, hg1, hg2, h3⟩
        go_wp2_with fail
        refine HOW.out.mono ?_
        rintro e w2 ⟨ge, ce, rfl, hrow, g0, gf, hge1, hge2, hb2⟩
        have HROW := Lib.hid hrow
        have HB2 := Lib.hid hb2
        have HG2 := Lib.hid (HG.out.next hb2)
        have r1 := keepC q1 hb2
        have r2 := keepC t1 hb2
        have hpw : w.heap.size + 1 < wo.heap.size := HG.out.box.lt
        clear hrow q0 q1 t0 t1 HOW e0
        obtain ⟨W3, hW3⟩ : ∃ W3, W3 = w2.setCell ⟨ge, v, none⟩ (.int .i64 (x - 1)) := ⟨_, rfl⟩
        have hne : b ≠ ge := by have := HBW.out.size; omega
        have hnt : bt ≠ ge := by omega
        have s1 : W3.cell? ⟨b, o + 1, none⟩ = some (.slice (some ⟨bt, ot, none⟩) ts.length cap) := by rw [hW3, World.cell?_setCell_other _ _ _ _ (fun e => hne (congrArg Addr.block e).symm)]; exact r1
        have s2 : W3.cell? ⟨bt, ot + i * 2 + 1, none⟩ = some (.int .i64 c) := by rw [hW3, World.cell?_setCell_other _ _ _ _ (fun e => hnt (congrArg Addr.block e).symm)]; exact r2
        have HB3 : Hid (Below wo.heap.size wo W3) := by show Below _ _ _; rw [hW3]; exact hb2.setCell (p := ⟨ge, v, none⟩) hge1 _
        have HG3 := Lib.hid (HG.out.next HB3.out)
        have s3 : W3.cell? ⟨w.heap.size + 1, 1, none⟩ = some (.slice A' m cp) := by rw [HG3.out.box.cell]; rfl
        have s4 : W3.frozen? ⟨w.heap.size + 1, 1, none⟩ = false := HG3.out.box.frozen _
        have HR3 : Hid (IntRow W3 wo.heap.size (.slice (some ⟨ge, 0, none⟩) ((tmAt ts i).1.set v (x - 1)).length ce) ((tmAt ts i).1.set v (x - 1))) := by
          show IntRow _ _ _ _; rw [hW3]; exact HROW.out.setAt v (x - 1)
        have HW3 := Lib.hid hW3
        have hwx : IntKind.i64.wrap (x - 1) = x - 1 := by rw [IntKind.wrap_i64]; omega
        have HPT : Hid (Calls Try.prog 71 #[.slice A' m cp, .slice (some ⟨ge, 0, none⟩) n ce, .int .i64 (tm x c)] W3.drew fun e w4 => ∃ A4 c4 ts4, e = .returned (.slice A4 ts4.length c4) ∧ Below W3.heap.size W3 w4 ∧ ts4.length ≤ m + 1 ∧ DSt W0 (w.heap.size + 1) (w.heap.size + 1 + 1) u (derL (ts.take (i + 1)) v) n ts4 ts4.length c4 A4 (w4.setCell ⟨w.heap.size + 1, 1, none⟩ (.slice A4 ts4.length c4))) := by
          have hlen2 : ((tmAt ts i).1.set v (x - 1)).length = n := by rw [List.length_set]; exact HLN.out
          have hr := HG3.out.row'
          have hm : out.length = m := HG3.out.len
          have hbd := tm_bd x c
          have hRI : Ints W3 (some ⟨ge, 0, none⟩) ((tmAt ts i).1.set v (x - 1)) := HR3.out.intsM.ints
          have h := put_any (w.heap.size + 1 + 1) A' (some ⟨ge, 0, none⟩) cp ce out ((tmAt ts i).1.set v (x - 1)) (tm x c) W3.drew (hr.below (Below.refl _ _).drew) (by have := HG3.out.size; exact this) (hRI.below (Below.refl _ _).drew) HG3.out.canon (by rw [hlen2]; exact HG3.out.lenT) hbd.1 hbd.2 (by omega) (by omega)
          rw [hlen2, hm] at h
          refine h.mono fun e w4 ⟨A4, c4, ts4, h1, h2, h3, h4, h5, h6, h7⟩ => ⟨A4, c4, ts4, h1, ⟨h7.os, h7.tape, h7.output, h7.size, h7.block⟩, by omega, ?_⟩
          have hd := DSt.put (c := tm x c) HG3.out hlen2 h2 h3 h4 h5 (⟨h7.os, h7.tape, h7.output, h7.size, h7.block⟩ : Below W3.heap.size W3 w4)
          refine hd.same ?_
          rw [derL_yes hlt (by rw [← HX.out]; exact hpos)]
          simp only [derT]
          rw [← HX.out, ← HC.out, tm_comm' c x]
        have HTM := Lib.hid (fun wx => timesS_any x c wx)
        obtain ⟨z, hz⟩ : ∃ z, z = tm x c := ⟨_, rfl⟩
        rw [← hz] at HPT HTM
        clear hz r1 r2 hne hnt hb2 hge1 HROW HB2 HG2 hW3
        go_wp2_with fail
        rw [← HW3.out]
        go_region_law (first
          | (go_simp; go_at_call 71; refine HPT.out.mono ?_; rintro e w4 ⟨A4, c4, ts4, rfl, hb4, hl4, hD4⟩; have y1 := keepC s3 hb4; have y2 := (hb4.frozen (p := ⟨w.heap.size + 1, 1, none⟩) (World.block_lt_of_cell? _ _ s3)).trans s4)
          | (go_simp; go_at_call 72; refine (HTM.out _).mono ?_; rintro e w' ⟨rfl, rfl⟩))
        all_goals
          have HD4 := Lib.hid hD4
          clear hD4 hb4
          go_wp2
          go_roundg (ts.length - (i + 1) + 1)
          case measure => omega
          case rel => exact ⟨i + 1, ts4, _, c4, A4, by first | rfl | go_num, by omega, by omega, by omega, HD4⟩
      · have HG2 := Lib.hid (HG.out.same (derL_no hlt (by rw [← HX.out]; exact hpos)).symm)
        go_wp2
        go_roundg (ts.length - (i + 1) + 1)
        case measure => omega
        case rel => exact ⟨i + 1, out, m, cp, A', by first | rfl | go_num, by omega, by omega, by omega, HG2⟩
    · obtain rfl : i = ts.length := by omega
      have hb := HG.out.box
      have x0 : wo.cell? ⟨w.heap.size + 1, 0, none⟩ = some (.int .i64 u) := by rw [hb.cell]; rfl
      have x1 : wo.cell? ⟨w.heap.size + 1, 1, none⟩ = some (.slice A' m cp) := by rw [hb.cell]; rfl
      have hC : Cells wo w.heap.size 28 [.int .i64 0, .slice none 0 0] := (HG.out.only.block w.heap.size (by have := HWS.out; omega) (by omega)).trans HBX.out
      have y0 : wo.cell? ⟨w.heap.size, 0, none⟩ = some (.int .i64 0) := by rw [hC.cell]; rfl
      have y1 : wo.cell? ⟨w.heap.size, 1, none⟩ = some (.slice none 0 0) := by rw [hC.cell]; rfl
      have f0 : wo.frozen? ⟨w.heap.size, 0, none⟩ = false := hC.frozen _
      have f1 : wo.frozen? ⟨w.heap.size, 1, none⟩ = false := hC.frozen _
      have hD1 := hC.set_ 0 (.int .i64 u)
      have hD2 := hD1.set_ 1 (.slice A' m cp)
      have z0 := hD1.cell 0
      have z1 := hD2.cell 1
      simp only [List.set_cons_zero, List.set_cons_succ, List.getElem?_cons_zero, List.getElem?_cons_succ] at z0 z1
      have HE : Hid (PolyR u (nfT (derL ts v)) w (.returned (poV u A' m cp)) ((wo.setCell ⟨w.heap.size, 0, none⟩ (.int .i64 u)).setCell ⟨w.heap.size, 1, none⟩ (.slice A' m cp))) := by
        have hlen := HG.out.len
        have hcofs := HG.out.cofs
        rw [List.take_length] at hcofs
        have hnf := nfT_eq HG.out.canon hcofs
        have hO2 : Only (fun q => q = w.heap.size) wo ((wo.setCell ⟨w.heap.size, 0, none⟩ (.int .i64 u)).setCell ⟨w.heap.size, 1, none⟩ (.slice A' m cp)) :=
          ⟨rfl, rfl, rfl, by simp [World.setCell], fun q _ hq => (Below.heap_setCell _ _ _ _ hq).trans (Below.heap_setCell _ _ _ _ hq)⟩
        have hrow := (HG.out.row').only hO2 (fun q hq e => by have e' : q = w.heap.size := e; omega)
        have hws : w.heap.size ≤ ((wo.setCell ⟨w.heap.size, 0, none⟩ (.int .i64 u)).setCell ⟨w.heap.size, 1, none⟩ (.slice A' m cp)).heap.size := by have := HBW.out.size; simp [World.setCell]; omega
        refine ⟨A', cp, by rw [← hnf, hlen], ?_, (HBW.out.setCell (p := ⟨w.heap.size, 0, none⟩) (Nat.le_refl _) _).setCell (p := ⟨w.heap.size, 1, none⟩) (Nat.le_refl _) _⟩
        rw [← hnf]
        exact (hrow.lower (by omega)).rt hws
      have hz : ¬ (ts.length : Int) < (ts.length : Int) := by omega
      clear hb hC hD1 hD2 HG
      go_wp2
      refine bodyPost_ret (v := poV u A' m cp) (by simp [results, Try.results32, go_sem, z0, z1]) rfl ?_
      exact HE.out

theorem RT.lowerR {w : World} {lo lo' hi : Nat} {A : Option Addr} {R : List Term'} (h : RT w lo hi A R) (hl : lo' ≤ lo) (hhi : hi ≤ w.heap.size) : RT w lo' w.heap.size A R := by
  refine ⟨by have := h.le; omega, Nat.le_refl _, fun hn => ?_, fun _ _ h hb => h.keep hb⟩
  obtain ⟨b, o, g, e, h1, h2, hc, hd⟩ := h.now hn
  refine ⟨b, o, g, e, by omega, by omega, fun i t ht => ?_, hd⟩
  obtain ⟨Ai, cap, c1, c2, c3, c4⟩ := hc i t ht
  refine ⟨Ai, cap, c1, c2, c3, fun h0 => ?_⟩
  obtain ⟨oi, e1, e2, e3, e4, e5⟩ := c4 h0
  exact ⟨oi, e1, by omega, by omega, e4, e5⟩
theorem RT.empty (w : World) (lo : Nat) (h : lo ≤ w.heap.size) (A : Option Addr) : RT w lo w.heap.size A [] := ⟨h, Nat.le_refl _, TmsR.nil _ _ _ _, fun _ _ h hb => h.keep hb⟩

theorem retQ {w w1 : World} {v0 c : Int} {A : Option Addr} {cp lo : Nat} {R : List Term'} (hb : Below w.heap.size w w1) (h : RT w1 lo w1.heap.size A R) (hlo : w.heap.size + 1 < lo) (x y : Value) :
    RetQi (v0, R) c w (.returned (.tuple #[poV v0 A R.length cp, .int .i64 c])) ((w1.setCell ⟨w.heap.size + 1, 0, none⟩ x).setCell ⟨w.heap.size + 1, 1, none⟩ y) := by
  have hO2 : Only (fun q => q = w.heap.size + 1) w1 ((w1.setCell ⟨w.heap.size + 1, 0, none⟩ x).setCell ⟨w.heap.size + 1, 1, none⟩ y) :=
    ⟨rfl, rfl, rfl, by simp [World.setCell], fun q _ hq => (Below.heap_setCell _ _ _ _ hq).trans (Below.heap_setCell _ _ _ _ hq)⟩
  have h2 := h.only hO2 (fun q hq _ e => by have e' : q = w.heap.size + 1 := e; omega)
  have hs : ((w1.setCell ⟨w.heap.size + 1, 0, none⟩ x).setCell ⟨w.heap.size + 1, 1, none⟩ y).heap.size = w1.heap.size := by simp [World.setCell]
  exact ⟨(hb.setCell (p := ⟨w.heap.size + 1, 0, none⟩) (by simp) _).setCell (p := ⟨w.heap.size + 1, 1, none⟩) (by simp) _, A, cp, rfl, RT.lowerR h2 (by omega) (by rw [hs]; exact Nat.le_refl _)⟩
set_option maxRecDepth 100000 in
set_option maxHeartbeats 2000000 in
theorem derivePolyS {A : Option Addr} {cap : Nat} (u : Int) (ts : List Term') (a : Int) (w : World) (hT : TmsAt w A ts) (tl : ts.length ≤ 1048576) (tt : totT ts ≤ 1048576) :
    Calls Try.prog 9 #[poV u A ts.length cap, .int .i64 a] w (RetQi (derV u ts a).1 (derV u ts a).2 w) := by
  obtain ⟨W0, hW0⟩ : ∃ W0, W0 = (w.alloc (.cells #[.int .i64 u, .slice A ts.length cap] 28)).alloc (.cells #[.int .i64 0, .slice none 0 0] 28) := ⟨_, rfl⟩
  have HB0 : Hid (Below w.heap.size w W0) := by show Below _ _ _; rw [hW0]; go_grown
  have HQ0 : Hid (Cells W0 w.heap.size 28 [.int .i64 u, .slice A ts.length cap]) := by
    show Cells _ _ _ _
    rw [hW0]; exact (Cells.new w 28 [.int .i64 u, .slice A ts.length cap]).next (by go_grown)
  have HR0 : Hid (Cells W0 (w.heap.size + 1) 28 [.int .i64 0, .slice none 0 0]) := by
    show Cells _ _ _ _
    rw [hW0]
    have := Cells.new (w.alloc (.cells #[.int .i64 u, .slice A ts.length cap] 28)) 28 [.int .i64 0, .slice none 0 0]
    simpa using this
  have HC := Lib.hid (polyS_any w.heap.size 0 u A cap ts W0 (by rw [HQ0.out.cell]; rfl) (by rw [HQ0.out.cell]; rfl) (hT.below HB0.out) tl tt)
  have HT := Lib.hid hT
  have HW0 := Lib.hid hW0
  clear hT hW0
  -- what stands behind a call
  have HAF : Hid (∀ w1, Below W0.heap.size W0 w1 → Below w.heap.size w w1 ∧ w.heap.size + 1 < w1.heap.size ∧ Cells w1 w.heap.size 28 [.int .i64 u, .slice A ts.length cap] ∧ Cells w1 (w.heap.size + 1) 28 [.int .i64 0, .slice none 0 0]) := fun w1 hb =>
    ⟨HB0.out.trans (hb.mono HB0.out.size), Nat.lt_of_lt_of_le HR0.out.lt hb.size, HQ0.out.next hb, HR0.out.next hb⟩
  cases hok : polyOk u ts
  · have HV := Lib.hid (derV_bad (a := a) hok)
    rw [HV.out]
    rw [hok] at HC
    clear hok
    go_enter Try.func9, Try.ntmps9
    go_wp2_with fail
    rw [← HW0.out]
    refine HC.out.mono ?_; rintro e w1 ⟨rfl, hb1⟩
    obtain ⟨hb, hlt, hq, hr⟩ := HAF.out w1 hb1
    have y0 : w1.cell? ⟨w.heap.size + 1, 0, none⟩ = some (.int .i64 0) := by rw [hr.cell]; rfl
    have y1 : w1.cell? ⟨w.heap.size + 1, 1, none⟩ = some (.slice none 0 0) := by rw [hr.cell]; rfl
    have f0 : w1.frozen? ⟨w.heap.size + 1, 0, none⟩ = false := hr.frozen _
    have f1 : w1.frozen? ⟨w.heap.size + 1, 1, none⟩ = false := hr.frozen _
    have hD1 := hr.set_ 0 (.int .i64 0)
    have hD2 := hD1.set_ 1 (.slice none 0 0)
    have z0 := hD1.cell 0
    have z1 := hD2.cell 1
    have z2 := hD2.cell 0
    simp only [List.set_cons_zero, List.set_cons_succ, List.getElem?_cons_zero, List.getElem?_cons_succ] at z0 z1 z2
    have HB := Lib.hid hb
    clear hb hq hr hD1 hD2 hb1
    go_wp2
    refine bodyPost_ret (v := .tuple #[poV 0 none 0 0, .int .i64 1]) (by simp [results, Try.results9, go_sem, z0, z1]) rfl ?_
    exact retQ (R := []) HB.out (RT.empty _ _ (Nat.le_refl _) _) hlt _ _
  have HOK := Lib.hid hok
  rw [hok] at HC
  clear hok
  have hu := polyOk_size HOK.out
  have hu0 := hu.1
  have hu1 := hu.2.1
  have hwu : IntKind.i64.wrap (u - 1) = u - 1 := by rw [IntKind.wrap_i64]; omega
  cases hin : inR a 0 (u - 1)
  · have HV := Lib.hid (derV_range HOK.out hin)
    rw [HV.out]
    have HIN := Lib.hid (fun wx => in_quiet a 0 (u - 1) wx)
    rw [hin] at HIN
    clear hin hu
    go_enter Try.func9, Try.ntmps9
    go_wp2_with fail
    rw [← HW0.out]
    refine HC.out.mono ?_; rintro e w1 ⟨rfl, hb1⟩
    obtain ⟨hb, hlt, hq, hr⟩ := HAF.out w1 hb1
    have x0 : w1.cell? ⟨w.heap.size, 0, none⟩ = some (.int .i64 u) := by rw [hq.cell]; rfl
    have y0 : w1.cell? ⟨w.heap.size + 1, 0, none⟩ = some (.int .i64 0) := by rw [hr.cell]; rfl
    have y1 : w1.cell? ⟨w.heap.size + 1, 1, none⟩ = some (.slice none 0 0) := by rw [hr.cell]; rfl
    have f0 : w1.frozen? ⟨w.heap.size + 1, 0, none⟩ = false := hr.frozen _
    have f1 : w1.frozen? ⟨w.heap.size + 1, 1, none⟩ = false := hr.frozen _
    have hD1 := hr.set_ 0 (.int .i64 0)
    have hD2 := hD1.set_ 1 (.slice none 0 0)
    have z0 := hD1.cell 0
    have z1 := hD2.cell 1
    simp only [List.set_cons_zero, List.set_cons_succ, List.getElem?_cons_zero, List.getElem?_cons_succ] at z0 z1
    have HB := Lib.hid hb
    clear hb hq hr hD1 hD2 hb1
    go_wp2_with (go_at_call 31; refine (HIN.out _).mono ?_; rintro e w' ⟨rfl, rfl⟩)
    refine bodyPost_ret (v := .tuple #[poV 0 none 0 0, .int .i64 2]) (by simp [results, Try.results9, go_sem, z0, z1]) rfl ?_
    exact retQ (R := []) HB.out (RT.empty _ _ (Nat.le_refl _) _) hlt _ _
  · have HV := Lib.hid (derV_ok HOK.out hin)
    rw [HV.out]
    have hr2 := inR_true.1 hin
    obtain ⟨v, rfl⟩ := Int.eq_ofNat_of_zero_le hr2.1
    have hvu : v < u.toNat := by omega
    have HIN := Lib.hid (fun wx => in_quiet (v : Int) 0 (u - 1) wx)
    rw [hin] at HIN
    clear hin hu hr2
    go_enter Try.func9, Try.ntmps9
    go_wp2_with fail
    rw [← HW0.out]
    refine HC.out.mono ?_; rintro e w1 ⟨rfl, hb1⟩
    obtain ⟨hb, hlt, hq, hr⟩ := HAF.out w1 hb1
    have x0 : w1.cell? ⟨w.heap.size, 0, none⟩ = some (.int .i64 u) := by rw [hq.cell]; rfl
    have x1 : w1.cell? ⟨w.heap.size, 1, none⟩ = some (.slice A ts.length cap) := by rw [hq.cell]; rfl
    have HB := Lib.hid hb
    have HR := Lib.hid hr
    have HDV := Lib.hid (l05Derive_any w.heap.size 0 u (v : Int) v rfl A cap ts w1 x0 (by rw [Nat.zero_add]; exact x1) (HT.out.below hb) HOK.out hvu)
    clear hb hq hr hb1
    go_wp2_with (first | (go_at_call 31; refine (HIN.out _).mono ?_; rintro e w' ⟨rfl, rfl⟩))
    refine HDV.out.mono ?_
    rintro e w2 ⟨A2, cp2, rfl, hRT, hb2⟩
    have hr := HR.out.next hb2
    have y0 : w2.cell? ⟨w.heap.size + 1, 0, none⟩ = some (.int .i64 0) := by rw [hr.cell]; rfl
    have y1 : w2.cell? ⟨w.heap.size + 1, 1, none⟩ = some (.slice none 0 0) := by rw [hr.cell]; rfl
    have f0 : w2.frozen? ⟨w.heap.size + 1, 0, none⟩ = false := hr.frozen _
    have f1 : w2.frozen? ⟨w.heap.size + 1, 1, none⟩ = false := hr.frozen _
    obtain ⟨R, hRR⟩ : ∃ R, R = nfT (derL ts v) := ⟨_, rfl⟩
    rw [← hRR] at hRT
    have hD1 := hr.set_ 0 (.int .i64 u)
    have hD2 := hD1.set_ 1 (.slice A2 (nfT (derL ts v)).length cp2)
    rw [← hRR] at hD2
    have z0 := hD1.cell 0
    have z1 := hD2.cell 1
    simp only [List.set_cons_zero, List.set_cons_succ, List.getElem?_cons_zero, List.getElem?_cons_succ] at z0 z1
    have HB2 := Lib.hid (bnext HB.out hb2)
    have HRT := Lib.hid hRT
    have HRR : Hid (nfT (derL ts ((v : Int)).toNat) = R) := by show _ = _; rw [Int.toNat_natCast]; exact hRR.symm
    rw [← hRR]
    clear hRR hb2 hRT hr hD1 hD2
    go_wp2
    refine bodyPost_ret (v := .tuple #[poV u A2 R.length cp2, .int .i64 0]) (by simp [results, Try.results9, go_sem, z0, z1]) rfl ?_
    rw [HRR.out]
    exact retQ HB2.out HRT.out hlt _ _

end Go.Proofs.Ytfnhdfgkkjnhcaa
