/- Texts put together: WPolyE3, WPolyE3b, WPolyE4. -/
import Derived.Test.YtnomnaojondffaaKZ
import Derived.Test.YtnomnaojondffaaKX

/- Walks: sizes of expressions in the spec; PolyExpr of the spec. -/
namespace Go.Proofs.Ytnomnaojondffaa
open Go.RowKit Plain

def SizeSC (ks : Es) : Prop := ∀ (k n p c : Int) (b o B : Nat) (w : World), ElAt w B k n p c ks b o → B ≤ w.heap.size → ks.size ≤ 1048576 →
  Calls Try.prog 52 #[ptr b o] w fun e w' => e = .returned (.int .i64 ((ks.size + 1 : Nat) : Int)) ∧ Below w.heap.size w w'

set_option maxRecDepth 100000 in
set_option maxHeartbeats 1000000 in
theorem l02Size_any : ∀ (m : Nat) (ks : Es), ks.size < m → SizeSC ks := by
  intro m
  induction m with
  | zero => intro es h; omega
  | succ m ih =>
  intro ks hm k n p c b o B w hE hB hsz0
  have IH := Lib.hid ih; clear ih
  obtain ⟨hbB, h0, h1, h2, h3, K, cap, b', o', h4, hc, hcm, hK, hks⟩ := hE
  have HKS := Lib.hid hks; clear hks
  have hcm' : cap ≤ 9223372036854775807 := by unfold maxLen at hcm; omega
  have hbw : b < w.heap.size := by omega
  have hls := Es.len_le_size ks
  go_enter Try.func52, Try.ntmps52
  go_wp2
  go_loopw [3, 4] (fun ll i wr => ∃ (j : Nat) (es' : Es) (y : Nat), i = .int .i64 (j : Int) ∧ ll = .int .i64 (y : Int) ∧ j + es'.len = ks.len ∧ Hid (y + es'.size = ks.size + 1) ∧ y ≤ 1048577 ∧ Hid (es'.size ≤ ks.size) ∧ Hid (ExsAt wr B es' b' (o' + j * 5)) ∧ Hid (Below w.heap.size w wr)) (fun _ i _ => ks.len - (intOf i).toNat)
  case atStart => exact ⟨0, ks, 1, by go_num, by go_num, by omega, by show _ = _; omega, by omega, Nat.le_refl _, by show ExsAt _ _ _ _ _; rw [Nat.zero_mul, Nat.add_zero]; exact HKS.out, Below.refl _ _⟩
  case round =>
    obtain ⟨j, es', y, rfl, rfl, hj, hy, y1, hsz, HE, HB⟩ := hrel
    have h4' : wr.cell? ⟨b, o + 4, none⟩ = some (.slice K ks.len cap) := (HB.out.cell (p := ⟨b, _, none⟩) hbw).trans h4
    cases es' with
    | nil =>
      simp only [Es.len] at hj
      go_wp2
      go_ret
      have := hy.out
      simp only [Es.size, Nat.add_zero] at this
      exact ⟨ret_int (by rw [this]), HB.out⟩
    | cons kk n' p' c' ks' r =>
      simp only [Es.len] at hj
      have hK := hK (by omega)
      subst hK
      obtain ⟨hel, hr⟩ := HE.out
      have HEL := Lib.hid hel
      have HR := Lib.hid hr
      have hrs : Hid (r.size ≤ ks.size ∧ ks'.size < ks.size ∧ y + (1 + ks'.size + r.size) = ks.size + 1) := by
        have := hsz.out
        have h2 := hy.out
        simp only [Es.size] at this h2
        exact ⟨by omega, by omega, by omega⟩
      have hb2 : y + (ks'.size + 1) ≤ 1048577 := by have := hrs.out; omega
      clear hel hr HE
      go_wp2_with fail
      refine (IH.out ks' (by have := hrs.out; omega) kk n' p' c' b' (o' + j * 5) B wr HEL.out (by have := HB.out.size; omega) (by have := hrs.out; omega)).mono ?_; rintro e w1 ⟨rfl, hb1⟩
      have HE1 : Hid (ExsAt w1 B r b' (o' + (j + 1) * 5)) := by
        have := HR.out.below (hb1.mono (by have := HB.out.size; omega))
        rwa [show o' + j * 5 + 5 = o' + (j + 1) * 5 by omega] at this
      have HB1 := Lib.hid (bnext HB.out hb1)
      obtain ⟨z, hz⟩ : ∃ z, z = ks'.size + 1 := ⟨_, rfl⟩
      rw [← hz] at hb2 ⊢
      have HZ : Hid (y + z + r.size = ks.size + 1) := by have := hrs.out; show _ = _; omega
      clear hz hb1 HR HEL
      go_wp2
      go_roundw
      case rel => exact ⟨j + 1, r, y + z, by go_num, by go_num, by omega, HZ, by omega, hrs.out.1, HE1, HB1⟩
      case measure => simp [intOf]; omega

end Go.Proofs.Ytnomnaojondffaa

/- What PolyExpr of both sides shares. -/
namespace Go.Proofs.Ytnomnaojondffaa
open Go.RowKit Plain

/-- an expression and a code returned -/
def RetNi (x : Nd) (c : Int) (w : World) (e : Ending) (w' : World) : Prop :=
  Below w.heap.size w w' ∧ ∃ K cap, e = .returned (.tuple #[exV x.k x.n x.p x.c K x.ks.len cap, .int .i64 c]) ∧ x.ks.len ≤ cap ∧ cap ≤ maxLen ∧ Reg w' w.heap.size w'.heap.size (TreeR w.heap.size w'.heap.size x.ks K)
theorem TreeR.reg {w : World} {lo : Nat} {ks : Es} {K : Option Addr} (h : TreeR lo w.heap.size ks K w) : Reg w lo w.heap.size (TreeR lo w.heap.size ks K) :=
  ⟨h.le, Nat.le_refl _, h, fun _ _ h hb => h.keep hb⟩
theorem BoxT.el {w : World} {b : Nat} {x : Nd} {K : Option Addr} {c : Nat} (h : BoxT w b x K c) : ElAt w w.heap.size x.k x.n x.p x.c x.ks b 0 := by
  obtain ⟨b', o', hK, hE⟩ := h.tree.sl (Nat.le_refl _)
  exact ⟨h.box.lt, by rw [h.box.cell]; rfl, by rw [h.box.cell]; rfl, by rw [h.box.cell]; rfl, by rw [h.box.cell]; rfl, K, c, b', o', by rw [h.box.cell]; rfl, h.cl, h.cm, hK, hE⟩
theorem sumN_big {v : Int} {ts : List Term'} (h : polyOk v ts = true) : (sumN ts ts.length).ks.size ≤ 3120 := by
  have := sumN_size h ts.length (Nat.le_refl _)
  have := polyOk_size h
  omega
theorem polyX_bad {v : Int} {ts : List Term'} (h : polyOk v ts = false) : polyX v ts = (⟨0, 0, 0, 0, .nil⟩, 1) := by unfold polyX; rw [if_neg (by rw [h]; simp)]
theorem polyX_big {v : Int} {ts : List Term'} (h : polyOk v ts = true) (h2 : ¬ ((sumN ts ts.length).ks.size ≤ 399 ∧ (sumN ts ts.length).ks.depth ≤ 59)) : polyX v ts = (⟨0, 0, 0, 0, .nil⟩, 3) := by unfold polyX; rw [if_pos h, if_neg h2]
theorem polyX_ok {v : Int} {ts : List Term'} (h : polyOk v ts = true) (h2 : (sumN ts ts.length).ks.size ≤ 399 ∧ (sumN ts ts.length).ks.depth ≤ 59) : polyX v ts = (sumN ts ts.length, 0) := by unfold polyX; rw [if_pos h, if_pos h2]

/-- the two first boxes -/
theorem twoBx (w : World) (u v : Value) (t t' : TypeId) : let W := (w.alloc (.cells #[u, v] t)).alloc (.cells #[.int .i64 0, .int .i64 0, .int .i64 0, .int .i64 0, .slice none 0 0] t')
    W.heap.size = w.heap.size + 2 ∧ Cells W w.heap.size t [u, v] ∧ Cells W (w.heap.size + 1) t' [.int .i64 0, .int .i64 0, .int .i64 0, .int .i64 0, .slice none 0 0] ∧ Below w.heap.size w W := by
  intro W
  refine ⟨by simp [W], (Cells.new w t [u, v]).next (by go_grown), ?_, by go_grown⟩
  have := Cells.new (w.alloc (.cells #[u, v] t)) t' [.int .i64 0, .int .i64 0, .int .i64 0, .int .i64 0, .slice none 0 0]
  rwa [show (w.alloc (.cells #[u, v] t)).heap.size = w.heap.size + 1 by simp] at this


end Go.Proofs.Ytnomnaojondffaa

/- Walks: PolyExpr of the spec. -/
namespace Go.Proofs.Ytnomnaojondffaa
open Go.RowKit Plain

set_option maxRecDepth 100000 in
set_option maxHeartbeats 8000000 in
theorem polyExprS {A : Option Addr} {cap : Nat} (u : Int) (ts : List Term') (w : World) (hT : TmsAt w A ts) (tl : ts.length ≤ 1048576) (tt : totT ts ≤ 1048576) :
    Calls Try.prog 17 #[poV u A ts.length cap] w (RetNi (polyX u ts).1 (polyX u ts).2 w) := by
  obtain ⟨hs, hP, hR, hb⟩ := twoBx w (.int .i64 u) (.slice A ts.length cap) 31 39
  obtain ⟨W, hW⟩ : ∃ W, W = (w.alloc (.cells #[.int .i64 u, .slice A ts.length cap] 31)).alloc (.cells #[.int .i64 0, .int .i64 0, .int .i64 0, .int .i64 0, .slice none 0 0] 39) := ⟨_, rfl⟩
  rw [← hW] at hs hP hR hb
  have HC := Lib.hid (polyS_any w.heap.size 0 u A cap ts W (by rw [hP.cell]; rfl) (by rw [hP.cell]; rfl) (hT.below hb) tl tt)
  have HT := Lib.hid hT
  have HW := Lib.hid hW
  have HP := Lib.hid hP
  have HR := Lib.hid hR
  have HB := Lib.hid hb
  clear hW hP hR hb hT
  cases hok : polyOk u ts
  · have HV := Lib.hid (polyX_bad hok)
    rw [HV.out]
    rw [hok] at HC
    clear hok
    go_enter Try.func17, Try.ntmps17
    go_wp2_with fail
    rw [← HW.out]
    refine HC.out.mono ?_; rintro e w1 ⟨rfl, hb1⟩
    have HR1 := Lib.hid (HR.out.next hb1)
    have HB1 := Lib.hid (bnext HB.out hb1)
    obtain ⟨⟨j0, j1, j2, j3, j4⟩, ⟨f0, f1, f2, f3, f4⟩, x0, x1, x2, x3, x4⟩ := resBox (x := ⟨0, 0, 0, 0, .nil⟩) (K := none) (c := 0) HR1.out
    simp only [Es.len] at x0 x1 x2 x3 x4
    clear hb1
    go_wp2
    refine bodyPost_ret (v := .tuple #[exV 0 0 0 0 none 0 0, .int .i64 1]) (by simp [results, Try.results17, go_sem, x0, x1, x2, x3, x4]) rfl ?_
    refine ⟨putX_below (b := w.heap.size + 1) HB1.out (by omega), none, 0, rfl, Nat.le_refl _, by unfold maxLen; omega, TreeR.reg (TreeR.nil _ _ ?_)⟩
    have := HB1.out.size
    simp [World.setCell]
    omega
  have HOK := Lib.hid hok
  rw [hok] at HC
  have hsz := polyOk_size hok
  have ht120 := hsz.2.2
  have HBIG := Lib.hid (sumN_big hok)
  clear hok hsz
  go_enter Try.func17, Try.ntmps17
  go_wp2_with fail
  rw [← HW.out]
  refine HC.out.mono ?_; rintro e w1 ⟨rfl, hb1⟩
  have HR1 := Lib.hid (HR.out.next hb1)
  have HP1 := Lib.hid (HP.out.next hb1)
  have HB1 := Lib.hid (bnext HB.out hb1)
  have hs1 := hb1.size
  clear hb1 HR HP HB HC HW
  go_wp2_with fail
  refine (numS_any 0 w1).mono ?_; rintro e w2 ⟨rfl, hb2⟩
  have hs2 := hb2.size
  obtain ⟨be, hbe⟩ : ∃ be, be = w2.heap.size := ⟨_, rfl⟩
  have hg2 : Below w2.heap.size w2 (w2.alloc (.cells #[.int .i64 1, .int .i64 0, .int .i64 0, .int .i64 0, .slice none 0 0] 39)) := by go_grown
  have HX0 : Hid (BoxT (w2.alloc (.cells #[.int .i64 1, .int .i64 0, .int .i64 0, .int .i64 0, .slice none 0 0] 39)) be (sumN ts 0) none 0) :=
    ⟨by rw [hbe]; exact Cells.new w2 _ _, Nat.le_refl _, by unfold maxLen; omega, TreeR.nil _ _ (by simp [hbe])⟩
  have HR2 := Lib.hid ((HR1.out.next hb2).next hg2)
  have HP2 := Lib.hid ((HP1.out.next hb2).next hg2)
  have HB2 := Lib.hid (bnext (bnext HB1.out hb2) hg2)
  have hbe2 : w.heap.size + 1 < be := by omega
  clear hb2 hg2 HR1 HP1 HB1
  go_wp2
  rw [← hbe]
  generalize (w2.alloc (.cells #[.int .i64 1, .int .i64 0, .int .i64 0, .int .i64 0, .slice none 0 0] 39)) = W2 at *
  clear hs1 hs2 hs hbe
  go_loopw [5] (fun i wr => ∃ (k : Nat) (K : Option Addr) (cp : Nat), k ≤ ts.length ∧ i = .int .i64 (k : Int) ∧ Hid (BoxT wr be (sumN ts k) K cp) ∧ Hid (Cells wr (w.heap.size + 1) 39 [.int .i64 0, .int .i64 0, .int .i64 0, .int .i64 0, .slice none 0 0]) ∧ Hid (Cells wr w.heap.size 31 [.int .i64 u, .slice A ts.length cap]) ∧ Hid (Below w.heap.size w wr)) (fun i _ => ts.length - (intOf i).toNat)
  case atStart => exact ⟨0, none, 0, by omega, by go_num, HX0.out, HR2.out, HP2.out, HB2.out⟩
  case round =>
    obtain ⟨k, K, cp, hk, rfl, HX, HR, HP, HB⟩ := hrel
    have p1 : wr.cell? ⟨w.heap.size, 1, none⟩ = some (.slice A ts.length cap) := by rw [HP.out.cell]; rfl
    by_cases hlt : k < ts.length
    · obtain ⟨bt, ot, Ai, ca, hAe, hbt, hc, hc2, hi, _⟩ := (HT.out.below HB.out).at_ hlt
      subst hAe
      have hp := termOk_parts (polyOk_term HOK.out hlt)
      have hl12 : (tmAt ts k).1.length ≤ 12 := by have := polyOk_size HOK.out; omega
      have hkl : (k : Int) < (ts.length : Int) := by omega
      rcases Nat.eq_zero_or_pos k with hk0 | hk0
      · subst hk0
        have HPR := Lib.hid (prodS_any bt ot (tmAt ts 0).2 (tmAt ts 0).1 Ai ca wr (by simpa using hc) (by simpa using hc2) hi hp.2.2.2.1 hl12)
        have HS : Hid (sumN ts (0 + 1) = prodN (tmAt ts 0).2 (tmAt ts 0).1 (tmAt ts 0).1.length) := rfl
        generalize prodN (tmAt ts 0).2 (tmAt ts 0).1 (tmAt ts 0).1.length = x at *
        clear hc hc2 hi hp hl12
        go_wp2_with fail
        refine HPR.out.mono ?_; rintro e w3 ⟨hb3, K3, c3, rfl, h3c, h3m, hT3⟩
        have HX3 := HX.out.next hb3
        have k0 : ∃ v, w3.cell? ⟨be, 0, none⟩ = some v := ⟨_, by rw [HX3.box.cell]; rfl⟩
        have k1 : ∃ v, w3.cell? ⟨be, 1, none⟩ = some v := ⟨_, by rw [HX3.box.cell]; rfl⟩
        have k2 : ∃ v, w3.cell? ⟨be, 2, none⟩ = some v := ⟨_, by rw [HX3.box.cell]; rfl⟩
        have k3 : ∃ v, w3.cell? ⟨be, 3, none⟩ = some v := ⟨_, by rw [HX3.box.cell]; rfl⟩
        have k4 : ∃ v, w3.cell? ⟨be, 4, none⟩ = some v := ⟨_, by rw [HX3.box.cell]; rfl⟩
        obtain ⟨v0, k0⟩ := k0
        obtain ⟨v1, k1⟩ := k1
        obtain ⟨v2, k2⟩ := k2
        obtain ⟨v3, k3⟩ := k3
        obtain ⟨v4, k4⟩ := k4
        have f0 : w3.frozen? ⟨be, 0, none⟩ = false := HX3.box.frozen _
        have f1 : w3.frozen? ⟨be, 1, none⟩ = false := HX3.box.frozen _
        have f2 : w3.frozen? ⟨be, 2, none⟩ = false := HX3.box.frozen _
        have f3 : w3.frozen? ⟨be, 3, none⟩ = false := HX3.box.frozen _
        have f4 : w3.frozen? ⟨be, 4, none⟩ = false := HX3.box.frozen _
        have HX4 : Hid (BoxT (putX w3 be x.k x.n x.p x.c (.slice K3 x.ks.len c3)) be x K3 c3) := BoxT.put x HX3.box h3c h3m (hT3.wide (by have := HX.out.box.lt; omega) (Nat.le_refl _))
        have HR4 : Hid (Cells (putX w3 be x.k x.n x.p x.c (.slice K3 x.ks.len c3)) (w.heap.size + 1) 39 [.int .i64 0, .int .i64 0, .int .i64 0, .int .i64 0, .slice none 0 0]) := putX_far (HR.out.next hb3) (by omega)
        have HP4 : Hid (Cells (putX w3 be x.k x.n x.p x.c (.slice K3 x.ks.len c3)) w.heap.size 31 [.int .i64 u, .slice (some ⟨bt, ot, none⟩) ts.length cap]) := putX_far (HP.out.next hb3) (by omega)
        have HB4 : Hid (Below w.heap.size w (putX w3 be x.k x.n x.p x.c (.slice K3 x.ks.len c3))) := putX_below (bnext HB.out hb3) (by omega)
        have HX5 : Hid (BoxT (putX w3 be x.k x.n x.p x.c (.slice K3 x.ks.len c3)) be (sumN ts (0 + 1)) K3 c3) := by
          show BoxT _ _ _ _ _
          rw [HS.out]
          exact HX4.out
        unfold putX at HX5 HR4 HB4 HP4
        clear HX4 HX3 HPR HX HR HP HB hb3 hT3
        go_wp2
        go_roundw
        case rel => exact ⟨0 + 1, K3, c3, by omega, by go_num, HX5, HR4, HP4, HB4⟩
        case measure => simp [intOf]; omega
      · have HPR : Hid (∀ wx, Below wr.heap.size wr wx → Calls Try.prog 50 #[ptr bt (ot + k * 2)] wx (NdPost (prodN (tmAt ts k).2 (tmAt ts k).1 (tmAt ts k).1.length) wx)) := fun wx hx =>
          prodS_any bt (ot + k * 2) (tmAt ts k).2 (tmAt ts k).1 Ai ca wx ((hx.cell (p := ⟨bt, _, none⟩) hbt).trans hc) ((hx.cell (p := ⟨bt, _, none⟩) hbt).trans hc2) (hi.below hx) hp.2.2.2.1 hl12
        obtain ⟨y, hy⟩ : ∃ y, y = sumN ts k := ⟨_, rfl⟩
        have HS : Hid (sumN ts (k + 1) = opXN 3 y (prodN (tmAt ts k).2 (tmAt ts k).1 (tmAt ts k).1.length)) := by show _ = _; rw [hy, sumN, if_neg (by omega)]
        rw [← hy] at HX
        generalize prodN (tmAt ts k).2 (tmAt ts k).1 (tmAt ts k).1.length = x at *
        have hbx := HX.out.box
        have c0 : wr.cell? ⟨be, 0, none⟩ = some (.int .i64 y.k) := by rw [hbx.cell]; rfl
        have c1 : wr.cell? ⟨be, 1, none⟩ = some (.int .i64 y.n) := by rw [hbx.cell]; rfl
        have c2 : wr.cell? ⟨be, 2, none⟩ = some (.int .i64 y.p) := by rw [hbx.cell]; rfl
        have c3 : wr.cell? ⟨be, 3, none⟩ = some (.int .i64 y.c) := by rw [hbx.cell]; rfl
        have c4 : wr.cell? ⟨be, 4, none⟩ = some (.slice K y.ks.len cp) := by rw [hbx.cell]; rfl
        have hk1 : ((k : Int) == 0) = false := by simp; omega
        clear hc hc2 hi hp hl12 hy hbx
        go_wp2
        go_region_with (first
          | (go_at_call 50; refine (HPR.out _ (by first | exact (Below.refl _ _).drew | exact below_drewN' (Below.refl _ _) _ | exact Below.refl _ _)).mono ?_; rintro e wv ⟨hbv, Kv, cv, rfl, hvc, hvm, hTv⟩
             have hbv' : Below wr.heap.size wr wv := by first | exact bdrew hbv | exact bdrewN hbv | exact hbv
             have HXv := HX.out.next hbv'
             have d0 : wv.cell? ⟨be, 0, none⟩ = some (.int .i64 y.k) := by rw [HXv.box.cell]; rfl
             have d1 : wv.cell? ⟨be, 1, none⟩ = some (.int .i64 y.n) := by rw [HXv.box.cell]; rfl
             have d2 : wv.cell? ⟨be, 2, none⟩ = some (.int .i64 y.p) := by rw [HXv.box.cell]; rfl
             have d3 : wv.cell? ⟨be, 3, none⟩ = some (.int .i64 y.c) := by rw [HXv.box.cell]; rfl
             have d4 : wv.cell? ⟨be, 4, none⟩ = some (.slice K y.ks.len cp) := by rw [HXv.box.cell]; rfl)
          | (go_at_call 51; refine (opS_any _ _ _ _ _ _ _ _ _ _ _ _ _ _ _ _).mono ?_; rintro e w3 ⟨g, rfl, hg1, hg2, hb3, hC3⟩
             have hb3' : Below wv.heap.size wv w3 := by first | exact bdrew hb3 | exact bdrewN hb3 | exact hb3
             have hbw3 := bnext hbv' hb3'
             have HX3 := HX.out.next hbw3
             have k0 : w3.cell? ⟨be, 0, none⟩ = some (.int .i64 y.k) := by rw [HX3.box.cell]; rfl
             have k1 : w3.cell? ⟨be, 1, none⟩ = some (.int .i64 y.n) := by rw [HX3.box.cell]; rfl
             have k2 : w3.cell? ⟨be, 2, none⟩ = some (.int .i64 y.p) := by rw [HX3.box.cell]; rfl
             have k3 : w3.cell? ⟨be, 3, none⟩ = some (.int .i64 y.c) := by rw [HX3.box.cell]; rfl
             have k4 : w3.cell? ⟨be, 4, none⟩ = some (.slice K y.ks.len cp) := by rw [HX3.box.cell]; rfl
             have f0 : w3.frozen? ⟨be, 0, none⟩ = false := HX3.box.frozen _
             have f1 : w3.frozen? ⟨be, 1, none⟩ = false := HX3.box.frozen _
             have f2 : w3.frozen? ⟨be, 2, none⟩ = false := HX3.box.frozen _
             have f3 : w3.frozen? ⟨be, 3, none⟩ = false := HX3.box.frozen _
             have f4 : w3.frozen? ⟨be, 4, none⟩ = false := HX3.box.frozen _))
        all_goals
          have hy2 : wv.heap.size ≤ g := hg1
          have hxt : TreeR wr.heap.size wv.heap.size x.ks Kv w3 := (hTv.wide (Nat.le_refl _) (Nat.le_refl _)).below hb3' (Nat.le_refl _)
          have HX4 : Hid (BoxT (putX w3 be 3 0 0 0 (.slice (some ⟨g, 0, none⟩) 2 2)) be (opXN 3 y x) (some ⟨g, 0, none⟩) 2) :=
            BoxT.put (opXN 3 y x) HX3.box (Nat.le_refl 2) (by unfold maxLen; omega) ((treeTwo (HX.out.tree.below hbw3 (Nat.le_refl _)) hxt hy2 HX.out.cl HX.out.cm hvc hvm hC3).wide (Nat.le_refl _) hg2)
          have HR4 : Hid (Cells (putX w3 be 3 0 0 0 (.slice (some ⟨g, 0, none⟩) 2 2)) (w.heap.size + 1) 39 [.int .i64 0, .int .i64 0, .int .i64 0, .int .i64 0, .slice none 0 0]) := putX_far (HR.out.next hbw3) (by omega)
          have HP4 : Hid (Cells (putX w3 be 3 0 0 0 (.slice (some ⟨g, 0, none⟩) 2 2)) w.heap.size 31 [.int .i64 u, .slice (some ⟨bt, ot, none⟩) ts.length cap]) := putX_far (HP.out.next hbw3) (by omega)
          have HB4 : Hid (Below w.heap.size w (putX w3 be 3 0 0 0 (.slice (some ⟨g, 0, none⟩) 2 2))) := putX_below (bnext HB.out hbw3) (by omega)
          rw [← HS.out] at HX4
          unfold putX at HX4 HR4 HB4 HP4
          clear c0 c1 c2 c3 c4 d0 d1 d2 d3 d4 k0 k1 k2 k3 k4 f0 f1 f2 f3 f4 hC3 HX3 HXv hbw3 hb3' hbv' hb3 hbv HX HR HB HP HPR hTv hxt
          go_wp2
          go_roundw
          case rel => exact ⟨k + 1, some ⟨g, 0, none⟩, 2, by omega, by go_num, HX4, HR4, HP4, HB4⟩
          case measure => simp [intOf]; omega
    · obtain rfl : k = ts.length := by omega
      obtain ⟨x, hx⟩ : ∃ x, x = sumN ts ts.length := ⟨_, rfl⟩
      rw [← hx] at HX HBIG
      have HSZ := Lib.hid (l02Size_any (x.ks.size + 1) x.ks (by omega) x.k x.n x.p x.c be 0 wr.heap.size wr HX.out.el (Nat.le_refl _) (by have := HBIG.out; omega))
      have HDP : Hid (∀ wx, Below wr.heap.size wr wx → Calls Try.prog 53 #[ptr be 0] wx fun e w' => e = .returned (.int .i64 ((x.ks.depth + 1 : Nat) : Int)) ∧ Below wx.heap.size wx w') := fun wx hb =>
        depth_any (x.ks.size + 1) x.ks (by omega) x.k x.n x.p x.c be 0 wx.heap.size wx (HX.out.next hb).el (Nat.le_refl _) (by have := HBIG.out; omega)
      have hsb : x.ks.size ≤ 3120 := HBIG.out
      have hdb := Es.depth_le x.ks
      have HFIN : Hid (∀ (c : Int) (K' : Option Addr) (cp' : Nat) (W : World), True) := fun _ _ _ _ => trivial
      by_cases hs4 : x.ks.size ≤ 399
      · by_cases hd6 : x.ks.depth ≤ 59
        · have HV := Lib.hid (polyX_ok HOK.out (by rw [← hx]; exact ⟨hs4, hd6⟩))
          have HXX := Lib.hid hx
          clear hx
          generalize x.ks.size = sz at *
          generalize x.ks.depth = dp at *
          go_wp2_with fail
          refine HSZ.out.mono ?_; rintro e w3 ⟨rfl, hb3⟩
          go_wp2_with fail
          refine (HDP.out w3 hb3).mono ?_; rintro e w4 ⟨rfl, hb4⟩
          have hb34 := bnext hb3 hb4
          have HX4 := Lib.hid (HX.out.next hb34)
          have HR4 := Lib.hid (HR.out.next hb34)
          have HB4 := Lib.hid (bnext HB.out hb34)
          have hbx := HX4.out.box
          have c0 : w4.cell? ⟨be, 0, none⟩ = some (.int .i64 x.k) := by rw [hbx.cell]; rfl
          have c1 : w4.cell? ⟨be, 1, none⟩ = some (.int .i64 x.n) := by rw [hbx.cell]; rfl
          have c2 : w4.cell? ⟨be, 2, none⟩ = some (.int .i64 x.p) := by rw [hbx.cell]; rfl
          have c3 : w4.cell? ⟨be, 3, none⟩ = some (.int .i64 x.c) := by rw [hbx.cell]; rfl
          have c4 : w4.cell? ⟨be, 4, none⟩ = some (.slice K x.ks.len cp) := by rw [hbx.cell]; rfl
          obtain ⟨⟨j0, j1, j2, j3, j4⟩, ⟨f0, f1, f2, f3, f4⟩, x0, x1, x2, x3, x4⟩ := resBox (x := x) (K := K) (c := cp) HR4.out
          clear hbx hb3 hb4 hb34
          go_wp2
          refine bodyPost_ret (v := .tuple #[exV x.k x.n x.p x.c K x.ks.len cp, .int .i64 0]) (by simp [results, Try.results17, go_sem, x0, x1, x2, x3, x4]) rfl ?_
          rw [HV.out, ← HXX.out]
          exact ⟨putX_below (b := w.heap.size + 1) HB4.out (by omega), K, cp, rfl, HX4.out.cl, HX4.out.cm, TreeR.reg ((resTree (b := w.heap.size + 1) HX4.out hbe2).wide (by omega) (Nat.le_refl _))⟩
        · have HV := Lib.hid (polyX_big HOK.out (by rw [← hx]; exact fun h => hd6 h.2))
          clear hx
          generalize x.ks.size = sz at *
          generalize x.ks.depth = dp at *
          go_wp2_with fail
          refine HSZ.out.mono ?_; rintro e w3 ⟨rfl, hb3⟩
          go_wp2_with fail
          refine (HDP.out w3 hb3).mono ?_; rintro e w4 ⟨rfl, hb4⟩
          have hb34 := bnext hb3 hb4
          have HR4 := Lib.hid (HR.out.next hb34)
          have HB4 := Lib.hid (bnext HB.out hb34)
          obtain ⟨⟨j0, j1, j2, j3, j4⟩, ⟨f0, f1, f2, f3, f4⟩, x0, x1, x2, x3, x4⟩ := resBox (x := ⟨0, 0, 0, 0, .nil⟩) (K := none) (c := 0) HR4.out
          simp only [Es.len] at x0 x1 x2 x3 x4
          clear hb3 hb4 hb34
          go_wp2
          refine bodyPost_ret (v := .tuple #[exV 0 0 0 0 none 0 0, .int .i64 3]) (by simp [results, Try.results17, go_sem, x0, x1, x2, x3, x4]) rfl ?_
          rw [HV.out]
          refine ⟨putX_below (b := w.heap.size + 1) HB4.out (by omega), none, 0, rfl, Nat.le_refl _, by unfold maxLen; omega, TreeR.reg (TreeR.nil _ _ ?_)⟩
          have := HB4.out.size
          simp [World.setCell]
          omega
      · have HV := Lib.hid (polyX_big HOK.out (by rw [← hx]; exact fun h => hs4 h.1))
        clear hx
        generalize x.ks.size = sz at *
        go_wp2_with fail
        refine HSZ.out.mono ?_; rintro e w4 ⟨rfl, hb34⟩
        have HR4 := Lib.hid (HR.out.next hb34)
        have HB4 := Lib.hid (bnext HB.out hb34)
        obtain ⟨⟨j0, j1, j2, j3, j4⟩, ⟨f0, f1, f2, f3, f4⟩, x0, x1, x2, x3, x4⟩ := resBox (x := ⟨0, 0, 0, 0, .nil⟩) (K := none) (c := 0) HR4.out
        simp only [Es.len] at x0 x1 x2 x3 x4
        clear hb34
        go_wp2
        refine bodyPost_ret (v := .tuple #[exV 0 0 0 0 none 0 0, .int .i64 3]) (by simp [results, Try.results17, go_sem, x0, x1, x2, x3, x4]) rfl ?_
        rw [HV.out]
        refine ⟨putX_below (b := w.heap.size + 1) HB4.out (by omega), none, 0, rfl, Nat.le_refl _, by unfold maxLen; omega, TreeR.reg (TreeR.nil _ _ ?_)⟩
        have := HB4.out.size
        simp [World.setCell]
        omega

end Go.Proofs.Ytnomnaojondffaa
