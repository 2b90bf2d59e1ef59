/- Texts put together: WXValidRule, WStdL1. -/
import Derived.Test.YtmcaphbngfdfiaaKSQ
import Derived.Test.YtmcaphbngfdfiaaKSN

/- The reference's ValidRule; the walk of the law FnExactValidRule (printed by gen_ruleX.py). -/
namespace Go.Proofs.Ytmcaphbngfdfiaa
open Go.RowKit Plain

theorem keep11 {w w' : World} {p0 p1 p2 p3 p4 p5 p6 p7 p8 p9 p10 : Addr} {u0 u1 u2 u3 u4 u5 u6 u7 u8 u9 u10 : Value} (h : w.cell? p0 = some u0 ∧ w.cell? p1 = some u1 ∧ w.cell? p2 = some u2 ∧ w.cell? p3 = some u3 ∧ w.cell? p4 = some u4 ∧ w.cell? p5 = some u5 ∧ w.cell? p6 = some u6 ∧ w.cell? p7 = some u7 ∧ w.cell? p8 = some u8 ∧ w.cell? p9 = some u9 ∧ w.cell? p10 = some u10) (hb : Below w.heap.size w w') : w'.cell? p0 = some u0 ∧ w'.cell? p1 = some u1 ∧ w'.cell? p2 = some u2 ∧ w'.cell? p3 = some u3 ∧ w'.cell? p4 = some u4 ∧ w'.cell? p5 = some u5 ∧ w'.cell? p6 = some u6 ∧ w'.cell? p7 = some u7 ∧ w'.cell? p8 = some u8 ∧ w'.cell? p9 = some u9 ∧ w'.cell? p10 = some u10 :=
  ⟨keepC h.1 hb, keepC h.2.1 hb, keepC h.2.2.1 hb, keepC h.2.2.2.1 hb, keepC h.2.2.2.2.1 hb, keepC h.2.2.2.2.2.1 hb, keepC h.2.2.2.2.2.2.1 hb, keepC h.2.2.2.2.2.2.2.1 hb, keepC h.2.2.2.2.2.2.2.2.1 hb, keepC h.2.2.2.2.2.2.2.2.2.1 hb, keepC h.2.2.2.2.2.2.2.2.2.2 hb⟩

end Go.Proofs.Ytmcaphbngfdfiaa

/- Lists of rules, read; the law's eqRuleS (printed by gen_eqrules.py). -/
namespace Go.Proofs.Ytmcaphbngfdfiaa
open Go.RowKit Plain

/-- rules at ⟨b, o⟩ -/
def RusAt (w : World) (B : Nat) : List (Int × Nd × Nd) → Nat → Nat → Prop
  | [], _, _ => True
  | x :: t, b, o => RuleAt w B x.1 x.2.1 x.2.2 b o ∧ RusAt w B t b (o + 11)
def RusSl (w : World) (B : Nat) (rs : List (Int × Nd × Nd)) (A : Option Addr) : Prop := ∃ b o, (0 < rs.length → A = some ⟨b, o, none⟩) ∧ RusAt w B rs b o
theorem RusAt.below {w w' : World} {B : Nat} (hb : Below B w w') : ∀ {rs : List (Int × Nd × Nd)} {b o : Nat}, RusAt w B rs b o → RusAt w' B rs b o
  | [], _, _, _ => trivial
  | _ :: _, _, _, h => ⟨h.1.below hb, RusAt.below hb h.2⟩
theorem RusSl.below {w w' : World} {B : Nat} {rs : List (Int × Nd × Nd)} {A : Option Addr} (h : RusSl w B rs A) (hb : Below B w w') : RusSl w' B rs A := by
  obtain ⟨b, o, h1, h2⟩ := h
  exact ⟨b, o, h1, h2.below hb⟩
theorem RusAt.mono {w : World} {B B' : Nat} (hb : B ≤ B') : ∀ {rs : List (Int × Nd × Nd)} {b o : Nat}, RusAt w B rs b o → RusAt w B' rs b o
  | [], _, _, _ => trivial
  | _ :: _, _, _, h => ⟨h.1.mono hb, RusAt.mono hb h.2⟩
/-- no rule is large -/
def rusSmall (rs : List (Int × Nd × Nd)) : Prop := ∀ x ∈ rs, x.2.1.ks.size ≤ 1048576 ∧ x.2.2.ks.size ≤ 1048576

set_option maxRecDepth 100000 in
set_option maxHeartbeats 4000000 in
theorem eqRuleS_any (rs : List (Int × Nd × Nd)) (A A' : Option Addr) (cap cap' B : Nat) (w : World) (hA : RusSl w B rs A) (hA' : RusSl w B rs A') (hB : B ≤ w.heap.size) (hn : rs.length ≤ 1048576) (hs : rusSmall rs) :
    Calls Try.prog 6 #[.slice A rs.length cap, .slice A' rs.length cap'] w fun e w' => e = .returned (.bool true) ∧ Below w.heap.size w w' := by
  obtain ⟨b, o, hA1, hA2⟩ := hA
  obtain ⟨b', o', hA1', hA2'⟩ := hA'
  have HA := Lib.hid hA2; clear hA2
  have HA' := Lib.hid hA2'; clear hA2'
  have HSM := Lib.hid hs; clear hs
  go_enter Try.func6, Try.ntmps6
  go_wp2
  go_loopg [5] (rs.length + 1) (fun kx s5 wr => ∃ (j : Nat) (t : List (Int × Nd × Nd)), s5 = .int .i64 (j : Int) ∧ j + t.length = rs.length ∧ t.length < kx ∧ Hid (rusSmall t) ∧ Hid (RusAt wr B t b (o + j * 11)) ∧ Hid (RusAt wr B t b' (o' + j * 11)) ∧ Hid (Below w.heap.size w wr))
  case atStart =>
    refine ⟨0, rs, by first | rfl | go_num, by omega, by omega, HSM.out, ?_, ?_, Below.refl _ _⟩
    · show RusAt _ _ _ _ _; rw [Nat.zero_mul, Nat.add_zero]; exact HA.out
    · show RusAt _ _ _ _ _; rw [Nat.zero_mul, Nat.add_zero]; exact HA'.out
  case round =>
    obtain ⟨j, t, rfl, hj, hkx, HT, HE, HE', HB⟩ := hrel
    cases t with
    | nil =>
      have hjj : j = rs.length := by simpa using hj
      subst hjj
      have hiz : ¬ (rs.length : Int) < (rs.length : Int) := by omega
      go_wp2
      go_ret
      exact ⟨rfl, HB.out⟩
    | cons x t =>
      obtain ⟨v, l, r⟩ := x
      have hj1 : j + (t.length + 1) = rs.length := by simpa using hj
      have hiz : (j : Int) < (rs.length : Int) := by omega
      have hA := hA1 (by omega)
      subst hA
      have hA := hA1' (by omega)
      subst hA
      have HS2 : Hid (l.ks.size ≤ 1048576 ∧ r.ks.size ≤ 1048576 ∧ rusSmall t) := ⟨(HT.out _ (List.mem_cons_self ..)).1, (HT.out _ (List.mem_cons_self ..)).2, fun x hx => HT.out x (List.mem_cons_of_mem _ hx)⟩
      obtain ⟨⟨d0, ⟨_, d1, d2, d3, d4, KL, cl, x1, y1, d5, _, _, hKL, hkl⟩, ⟨_, d6, d7, d8, d9, KR, cr, x2, y2, d10, _, _, hKR, hkr⟩⟩, hr1⟩ := HE.out
      obtain ⟨⟨e0, ⟨_, e1, e2, e3, e4, KL', cl', x3, y3, e5, _, _, hKL', hkl'⟩, ⟨_, e6, e7, e8, e9, KR', cr', x4, y4, e10, _, _, hKR', hkr'⟩⟩, hr2⟩ := HE'.out
      have HR1 := Lib.hid hr1
      have HR2 := Lib.hid hr2
      have HQ := Lib.hid (fun (wx : World) (hx : Below wr.heap.size wr wx) => eqRule_any v l r KL KR KL' KR' cl cr cl' cr' B wx (ExSl.below ⟨x1, y1, hKL, hkl⟩ (hx.mono (by have := HB.out.size; omega))) (ExSl.below ⟨x2, y2, hKR, hkr⟩ (hx.mono (by have := HB.out.size; omega))) (ExSl.below ⟨x3, y3, hKL', hkl'⟩ (hx.mono (by have := HB.out.size; omega))) (ExSl.below ⟨x4, y4, hKR', hkr'⟩ (hx.mono (by have := HB.out.size; omega))) (by have := HB.out.size; have := hx.size; omega) HS2.out.1 HS2.out.2.1)
      have HSV : Hid ((wr.cell? ⟨b, o + j * 11, none⟩ = some (.int .i64 v) ∧ wr.cell? ⟨b, o + j * 11 + 1, none⟩ = some (.int .i64 l.k) ∧ wr.cell? ⟨b, o + j * 11 + 2, none⟩ = some (.int .i64 l.n) ∧ wr.cell? ⟨b, o + j * 11 + 3, none⟩ = some (.int .i64 l.p) ∧ wr.cell? ⟨b, o + j * 11 + 4, none⟩ = some (.int .i64 l.c) ∧ wr.cell? ⟨b, o + j * 11 + 5, none⟩ = some (.slice KL l.ks.len cl) ∧ wr.cell? ⟨b, o + j * 11 + 6, none⟩ = some (.int .i64 r.k) ∧ wr.cell? ⟨b, o + j * 11 + 7, none⟩ = some (.int .i64 r.n) ∧ wr.cell? ⟨b, o + j * 11 + 8, none⟩ = some (.int .i64 r.p) ∧ wr.cell? ⟨b, o + j * 11 + 9, none⟩ = some (.int .i64 r.c) ∧ wr.cell? ⟨b, o + j * 11 + 10, none⟩ = some (.slice KR r.ks.len cr)) ∧ (wr.cell? ⟨b', o' + j * 11, none⟩ = some (.int .i64 v) ∧ wr.cell? ⟨b', o' + j * 11 + 1, none⟩ = some (.int .i64 l.k) ∧ wr.cell? ⟨b', o' + j * 11 + 2, none⟩ = some (.int .i64 l.n) ∧ wr.cell? ⟨b', o' + j * 11 + 3, none⟩ = some (.int .i64 l.p) ∧ wr.cell? ⟨b', o' + j * 11 + 4, none⟩ = some (.int .i64 l.c) ∧ wr.cell? ⟨b', o' + j * 11 + 5, none⟩ = some (.slice KL' l.ks.len cl') ∧ wr.cell? ⟨b', o' + j * 11 + 6, none⟩ = some (.int .i64 r.k) ∧ wr.cell? ⟨b', o' + j * 11 + 7, none⟩ = some (.int .i64 r.n) ∧ wr.cell? ⟨b', o' + j * 11 + 8, none⟩ = some (.int .i64 r.p) ∧ wr.cell? ⟨b', o' + j * 11 + 9, none⟩ = some (.int .i64 r.c) ∧ wr.cell? ⟨b', o' + j * 11 + 10, none⟩ = some (.slice KR' r.ks.len cr'))) := ⟨⟨d0, d1, d2, d3, d4, d5, d6, d7, d8, d9, d10⟩, ⟨e0, e1, e2, e3, e4, e5, e6, e7, e8, e9, e10⟩⟩
      have HSD : Hid ((wr.drew.cell? ⟨b, o + j * 11, none⟩ = some (.int .i64 v) ∧ wr.drew.cell? ⟨b, o + j * 11 + 1, none⟩ = some (.int .i64 l.k) ∧ wr.drew.cell? ⟨b, o + j * 11 + 2, none⟩ = some (.int .i64 l.n) ∧ wr.drew.cell? ⟨b, o + j * 11 + 3, none⟩ = some (.int .i64 l.p) ∧ wr.drew.cell? ⟨b, o + j * 11 + 4, none⟩ = some (.int .i64 l.c) ∧ wr.drew.cell? ⟨b, o + j * 11 + 5, none⟩ = some (.slice KL l.ks.len cl) ∧ wr.drew.cell? ⟨b, o + j * 11 + 6, none⟩ = some (.int .i64 r.k) ∧ wr.drew.cell? ⟨b, o + j * 11 + 7, none⟩ = some (.int .i64 r.n) ∧ wr.drew.cell? ⟨b, o + j * 11 + 8, none⟩ = some (.int .i64 r.p) ∧ wr.drew.cell? ⟨b, o + j * 11 + 9, none⟩ = some (.int .i64 r.c) ∧ wr.drew.cell? ⟨b, o + j * 11 + 10, none⟩ = some (.slice KR r.ks.len cr)) ∧ (wr.drew.cell? ⟨b', o' + j * 11, none⟩ = some (.int .i64 v) ∧ wr.drew.cell? ⟨b', o' + j * 11 + 1, none⟩ = some (.int .i64 l.k) ∧ wr.drew.cell? ⟨b', o' + j * 11 + 2, none⟩ = some (.int .i64 l.n) ∧ wr.drew.cell? ⟨b', o' + j * 11 + 3, none⟩ = some (.int .i64 l.p) ∧ wr.drew.cell? ⟨b', o' + j * 11 + 4, none⟩ = some (.int .i64 l.c) ∧ wr.drew.cell? ⟨b', o' + j * 11 + 5, none⟩ = some (.slice KL' l.ks.len cl') ∧ wr.drew.cell? ⟨b', o' + j * 11 + 6, none⟩ = some (.int .i64 r.k) ∧ wr.drew.cell? ⟨b', o' + j * 11 + 7, none⟩ = some (.int .i64 r.n) ∧ wr.drew.cell? ⟨b', o' + j * 11 + 8, none⟩ = some (.int .i64 r.p) ∧ wr.drew.cell? ⟨b', o' + j * 11 + 9, none⟩ = some (.int .i64 r.c) ∧ wr.drew.cell? ⟨b', o' + j * 11 + 10, none⟩ = some (.slice KR' r.ks.len cr'))) := HSV.out
      clear HE HE' hr1 hr2 hKL hkl hKR hkr hKL' hkl' hKR' hkr' d0 e0 d1 e1 d2 e2 d3 e3 d4 e4 d5 e5 d6 e6 d7 e7 d8 e8 d9 e9 d10 e10
      go_upto_region 6 with fail
      refine RegE.start (S := fun wx => (wx.cell? ⟨b, o + j * 11, none⟩ = some (.int .i64 v) ∧ wx.cell? ⟨b, o + j * 11 + 1, none⟩ = some (.int .i64 l.k) ∧ wx.cell? ⟨b, o + j * 11 + 2, none⟩ = some (.int .i64 l.n) ∧ wx.cell? ⟨b, o + j * 11 + 3, none⟩ = some (.int .i64 l.p) ∧ wx.cell? ⟨b, o + j * 11 + 4, none⟩ = some (.int .i64 l.c) ∧ wx.cell? ⟨b, o + j * 11 + 5, none⟩ = some (.slice KL l.ks.len cl) ∧ wx.cell? ⟨b, o + j * 11 + 6, none⟩ = some (.int .i64 r.k) ∧ wx.cell? ⟨b, o + j * 11 + 7, none⟩ = some (.int .i64 r.n) ∧ wx.cell? ⟨b, o + j * 11 + 8, none⟩ = some (.int .i64 r.p) ∧ wx.cell? ⟨b, o + j * 11 + 9, none⟩ = some (.int .i64 r.c) ∧ wx.cell? ⟨b, o + j * 11 + 10, none⟩ = some (.slice KR r.ks.len cr)) ∧ (wx.cell? ⟨b', o' + j * 11, none⟩ = some (.int .i64 v) ∧ wx.cell? ⟨b', o' + j * 11 + 1, none⟩ = some (.int .i64 l.k) ∧ wx.cell? ⟨b', o' + j * 11 + 2, none⟩ = some (.int .i64 l.n) ∧ wx.cell? ⟨b', o' + j * 11 + 3, none⟩ = some (.int .i64 l.p) ∧ wx.cell? ⟨b', o' + j * 11 + 4, none⟩ = some (.int .i64 l.c) ∧ wx.cell? ⟨b', o' + j * 11 + 5, none⟩ = some (.slice KL' l.ks.len cl') ∧ wx.cell? ⟨b', o' + j * 11 + 6, none⟩ = some (.int .i64 r.k) ∧ wx.cell? ⟨b', o' + j * 11 + 7, none⟩ = some (.int .i64 r.n) ∧ wx.cell? ⟨b', o' + j * 11 + 8, none⟩ = some (.int .i64 r.p) ∧ wx.cell? ⟨b', o' + j * 11 + 9, none⟩ = some (.int .i64 r.c) ∧ wx.cell? ⟨b', o' + j * 11 + 10, none⟩ = some (.slice KR' r.ks.len cr'))) 9 (by kernel_rfl) (by kernel_rfl) ?Se0 (fun hHeld hB => ?_)
      case Se0 => ((try dsimp only); exact HSD.out)
      refine RegE.takeL (i := 0) (v := ?ve0) hB rfl (by decide) (by kernel_rfl) (by kernel_rfl) (fun _ _ _ h => h) (Or.inl ⟨by rfl, ?ye0⟩) hHeld ?re0
      case ye0 => ((intro w hSw; (try dsimp only at hSw); go_simp) <;> with_reducible rfl)
      (try simp only [Act.put, List.setIfInBounds_toArray, List.set_cons_zero, List.set_cons_succ])
      refine RegE.takeL (i := 1) (v := ?ve1) hB rfl (by decide) (by kernel_rfl) (by kernel_rfl) (fun _ _ _ h => h) (Or.inl ⟨by rfl, ?ye1⟩) hHeld ?re1
      case ye1 => ((intro w hSw; (try dsimp only at hSw); go_simp) <;> with_reducible rfl)
      (try simp only [Act.put, List.setIfInBounds_toArray, List.set_cons_zero, List.set_cons_succ])
      refine RegE.takeL (i := 2) (v := ?ve2) hB rfl (by decide) (by kernel_rfl) (by kernel_rfl) (fun _ _ _ h => h) (Or.inl ⟨by rfl, ?ye2⟩) hHeld ?re2
      case ye2 => ((intro w hSw; (try dsimp only at hSw); go_simp) <;> with_reducible rfl)
      (try simp only [Act.put, List.setIfInBounds_toArray, List.set_cons_zero, List.set_cons_succ])
      refine RegE.takeL (i := 3) (v := ?ve3) hB rfl (by decide) (by kernel_rfl) (by kernel_rfl) (fun _ _ _ h => h) (Or.inl ⟨by rfl, ?ye3⟩) hHeld ?re3
      case ye3 => ((intro w hSw; (try dsimp only at hSw); go_simp) <;> with_reducible rfl)
      (try simp only [Act.put, List.setIfInBounds_toArray, List.set_cons_zero, List.set_cons_succ])
      refine RegE.takeL (i := 4) (v := ?ve4) hB rfl (by decide) (by kernel_rfl) (by kernel_rfl) (fun _ _ _ h => h) (Or.inl ⟨by rfl, ?ye4⟩) hHeld ?re4
      case ye4 => ((intro w hSw; (try dsimp only at hSw); go_simp) <;> with_reducible rfl)
      (try simp only [Act.put, List.setIfInBounds_toArray, List.set_cons_zero, List.set_cons_succ])
      refine RegE.takeL (i := 5) (v := ?ve5) hB rfl (by decide) (by kernel_rfl) (by kernel_rfl) (fun _ _ _ h => h) (Or.inl ⟨by rfl, ?ye5⟩) hHeld ?re5
      case ye5 => ((intro w hSw; (try dsimp only at hSw); go_simp) <;> with_reducible rfl)
      (try simp only [Act.put, List.setIfInBounds_toArray, List.set_cons_zero, List.set_cons_succ])
      refine RegE.takeL (i := 6) (v := ?ve6) hB rfl (by decide) (by kernel_rfl) (by kernel_rfl) (fun _ _ _ h => h) (Or.inl ⟨by rfl, ?ye6⟩) hHeld ?re6
      case ye6 => ((intro w hSw; (try dsimp only at hSw); go_simp) <;> with_reducible rfl)
      (try simp only [Act.put, List.setIfInBounds_toArray, List.set_cons_zero, List.set_cons_succ])
      refine RegE.takeL (i := 7) (v := ?ve7) hB rfl (by decide) (by kernel_rfl) (by kernel_rfl) (fun _ _ _ h => h) (Or.inl ⟨by rfl, ?ye7⟩) hHeld ?re7
      case ye7 => ((intro w hSw; (try dsimp only at hSw); go_simp) <;> with_reducible rfl)
      (try simp only [Act.put, List.setIfInBounds_toArray, List.set_cons_zero, List.set_cons_succ])
      refine RegE.stepL (i := 8) rfl (by decide) (by kernel_rfl) (fun K hK => ?_)
      go_simp
      go_at_call 18
      refine (HQ.out _ (Below.refl _ _).drew).mono ?_
      rintro e w1 ⟨rfl, hb1⟩
      have HB1 := Lib.hid (Below.trans (Below.refl _ _).drew (hb1.mono (Nat.le_refl _)) : Below wr.heap.size wr w1)
      clear hb1
      go_wp2_with fail
      refine hK.out _ _ ?Se8 (fun hHeldN => ?_)
      case Se8 => ((try dsimp only); exact ⟨keep11 HSV.out.1 HB1.out, keep11 HSV.out.2 HB1.out⟩)
      clear hK K hHeld
      have hHeld := hHeldN
      clear hHeldN
      (try simp only [Act.put, List.setIfInBounds_toArray, List.set_cons_zero, List.set_cons_succ])
      refine RegE.lastL rfl (by kernel_rfl) (by kernel_rfl) (fun K hK => ?_)
      go_simp
      refine hK.out _ _ ?_
      clear hK K
      clear hHeld
      have HN1 : Hid (RusAt w1 B t b (o + (j + 1) * 11)) := by
        have := HR1.out.below (HB1.out.mono (show B ≤ wr.heap.size by have := HB.out.size; omega))
        show RusAt _ _ _ _ _
        rwa [show o + j * 11 + 11 = o + (j + 1) * 11 by omega] at this
      have HN2 : Hid (RusAt w1 B t b' (o' + (j + 1) * 11)) := by
        have := HR2.out.below (HB1.out.mono (show B ≤ wr.heap.size by have := HB.out.size; omega))
        show RusAt _ _ _ _ _
        rwa [show o' + j * 11 + 11 = o' + (j + 1) * 11 by omega] at this
      have HB2 := Lib.hid (bnext HB.out HB1.out)
      clear HR1 HR2 HSV HSD HQ
      go_wp2
      go_roundg (t.length + 1)
      case measure => simp only [List.length_cons] at hkx; omega
      case rel => exact ⟨j + 1, t, by first | rfl | go_num, by omega, by omega, HS2.out.2.2, HN1, HN2, HB2⟩

end Go.Proofs.Ytmcaphbngfdfiaa
