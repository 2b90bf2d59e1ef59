/- FnExactStandardRules: the program's StandardRules returns what the reference's returns. No condition. -/
import Derived.Test.YtmcaphbngfdfiaaKSV
import Derived.Test.YtmcaphbngfdfiaaKSU
import Derived.Test.YtmcaphbngfdfiaaKSY
import Derived.Test.YtmcaphbngfdfiaaKSW
import Derived.WalkKit
import Derived.ProofKit
import Derived.OpenShut
import Derived.ShutString
import Derived.ChangeOld
import Derived.Below

/- The reference's StandardRules (printed by gen_stdr.py). -/
namespace Go.Proofs.Ytmcaphbngfdfiaa
open Go.RowKit Plain

/-- rules with trees of their own: what is asked of each -/
def RuG (p : RuQ) (G : World → Prop) : Prop := (p.2.1.1.ks.len ≤ p.2.1.2.2 ∧ p.2.1.2.2 ≤ maxLen) ∧ (p.2.2.1.ks.len ≤ p.2.2.2.2 ∧ p.2.2.2.2 ≤ maxLen) ∧ ∀ w, G w → ExSl w w.heap.size p.2.1.1.ks p.2.1.2.1 ∧ ExSl w w.heap.size p.2.2.1.ks p.2.2.2.1
abbrev ruGl (q : RuQ × (World → Prop)) : List Value × (World → Prop) := (ruD q.1, q.2)
def RRowE (w : World) (B : Nat) (v : Value) (rs : List (Int × Nd × Nd)) : Prop := ∃ qs : List (RuQ × (World → Prop)), GRow w B 31 11 v (qs.map ruGl) ∧ qs.map (fun q => ruE q.1) = rs ∧ ∀ q ∈ qs, RuG q.1 q.2
theorem RRowE.below {w w' : World} {B : Nat} {v : Value} {rs : List (Int × Nd × Nd)} (h : RRowE w B v rs) (hb : Below w.heap.size w w') : RRowE w' B v rs := by
  obtain ⟨qs, h1, h2⟩ := h
  exact ⟨qs, h1.below hb, h2⟩
theorem RRowE.start (w : World) : RRowE (w.alloc (.cells #[] 31)) w.heap.size (.slice (some ⟨w.heap.size, 0, none⟩) 0 0) [] := ⟨[], GRow.start w _ _, rfl, fun q hq => by simp at hq⟩
theorem RRowE.sl {w : World} {B : Nat} {v : Value} {rs : List (Int × Nd × Nd)} (h : RRowE w B v rs) : ∃ A cap, v = .slice A rs.length cap ∧ rs.length ≤ cap ∧ cap ≤ maxLen ∧ RusSl w w.heap.size rs A := by
  obtain ⟨qs, h1, rfl, hG⟩ := h
  obtain ⟨A, cap, rfl, hc, hm⟩ := h1.form
  simp only [List.length_map] at *
  refine ⟨A, cap, rfl, hc, hm, ?_⟩
  by_cases h0 : 0 < qs.length
  · have h1' : GRow w B 31 11 (.slice A (qs.map ruGl).length cap) (qs.map ruGl) := by rw [List.length_map]; exact h1
    obtain ⟨b, rfl, _, hb, hel⟩ := h1'.read (by simpa using h0)
    refine ⟨b, 0, fun _ => rfl, ?_⟩
    have key : ∀ (ts : List (RuQ × (World → Prop))) (i : Nat), (∀ j p, ts[j]? = some p → qs[i + j]? = some p) → RusAt w w.heap.size (ts.map fun q => ruE q.1) b (i * 11) := by
      intro ts
      induction ts with
      | nil => intro i _; trivial
      | cons p ts ih =>
        intro i hi
        have hp : qs[i]? = some p := hi 0 p rfl
        obtain ⟨hF, hcell⟩ := hel i (ruGl p) (by rw [List.getElem?_map, hp]; rfl)
        obtain ⟨⟨a1, a2⟩, ⟨a3, a4⟩, hx⟩ := hG p (List.mem_of_getElem? hp)
        obtain ⟨⟨b1, o1, e1, x1⟩, ⟨b2, o2, e2, x2⟩⟩ := hx w hF
        have cl : ∀ j u, j < 11 → (ruD p.1)[j]? = some u → w.cell? ⟨b, i * 11 + j, none⟩ = some u := fun j u hj hu => (hcell j hj).1.trans hu
        refine ⟨⟨cl 0 _ (by omega) rfl, ⟨hb, cl 1 _ (by omega) rfl, cl 2 _ (by omega) rfl, cl 3 _ (by omega) rfl, cl 4 _ (by omega) rfl, _, _, b1, o1, cl 5 _ (by omega) rfl, a1, a2, e1, x1⟩, ⟨hb, cl 6 _ (by omega) rfl, cl 7 _ (by omega) rfl, cl 8 _ (by omega) rfl, cl 9 _ (by omega) rfl, _, _, b2, o2, cl 10 _ (by omega) rfl, a3, a4, e2, x2⟩⟩, ?_⟩
        have := ih (i + 1) (fun j q hq => by have := hi (j + 1) q hq; rwa [show i + (j + 1) = i + 1 + j by omega] at this)
        rwa [show (i + 1) * 11 = i * 11 + 11 by omega] at this
    have := key qs 0 (fun j p hp => by rw [Nat.zero_add]; exact hp)
    rwa [Nat.zero_mul] at this
  · have : qs = [] := List.length_eq_zero_iff.1 (by omega)
    subst this
    exact ⟨0, 0, fun h => absurd h (by simp), trivial⟩
/-- one rule more, its trees made since w -/
theorem RRowE.push {w w1 w1' w2 : World} {B m : Nat} {v v2 : Value} {qs : List (RuQ × (World → Prop))} {p : RuQ} (h : GRow w B 31 11 v (qs.map ruGl)) (hG : ∀ q ∈ qs, RuG q.1 q.2) (hb : Below w.heap.size w w1) (hL : TreeR w.heap.size m p.2.1.1.ks p.2.1.2.1 w1) (hR : TreeR m w1.heap.size p.2.2.1.ks p.2.2.2.1 w1) (l1 : p.2.1.1.ks.len ≤ p.2.1.2.2 ∧ p.2.1.2.2 ≤ maxLen) (l2 : p.2.2.1.ks.len ≤ p.2.2.2.2 ∧ p.2.2.2.2 ≤ maxLen)
    (hb1 : Below w1.heap.size w1 w1') (hown : w2.ownsRow B 31 11 v2 ((qs.map ruGl).length + 1) ((qs.map ruGl).flatMap (·.1) ++ ruD p)) (hg : w1'.grownBy w2 v.ownBlock) (hat : v2.ownBlock = v.ownBlock ∨ v2.ownBlock = some w1'.heap.size) :
    RRowE w2 B v2 (qs.map (fun q => ruE q.1) ++ [ruE p]) ∧ Below B w w2 := by
  have hm1 := hL.le
  have hm2 := hR.le
  obtain ⟨q1, q2⟩ := GRow.push (el := ruGl (p, fun wx => (TreeR w.heap.size m p.2.1.1.ks p.2.1.2.1 wx ∧ TreeR m w1.heap.size p.2.2.1.ks p.2.2.2.1 wx) ∧ w1.heap.size ≤ wx.heap.size)) h hb (by rfl) (fun g hgg => by
    have hgo : g < w.heap.size ∨ w1.heap.size ≤ g := hgg.imp (fun e => (h.lt e).2) id
    exact ((Outl.treeR hL (by omega) (by omega)).and (Outl.treeR hR (Nat.le_refl _) (by omega))).and (fun w' h1 _ => h1)) hb1 hown hg hat
  refine ⟨⟨qs ++ [(p, _)], by rw [List.map_append]; exact q1, by rw [List.map_append]; rfl, fun q hq => ?_⟩, q2⟩
  rcases List.mem_append.1 hq with hq | hq
  · exact hG q hq
  · rw [List.mem_singleton.1 hq]
    exact ⟨l1, l2, fun wx hx => ⟨hx.1.1.sl (Nat.le_trans hm2 hx.2), hx.1.2.sl hx.2⟩⟩

set_option maxRecDepth 100000 in
set_option maxHeartbeats 4000000 in
theorem stdR_of (rs : List (Int × Nd × Nd)) (hs : rusSmall rs) (hn : rs.length ≤ 1000) (hS : ∀ w, Calls Try.prog 9 #[] w (SeeRu rs w)) (w : World) : Calls Try.prog 4 #[] w (SeeRu rs w) := by
  obtain ⟨i0, hi, hz0, hz1, hz2⟩ := info_parts Try.infoRu
  have HS := Lib.hid hS
  clear hS
  go_enter Try.func4, Try.ntmps4
  go_wp2_with fail
  refine (HS.out w).mono ?_; rintro e w1 ⟨A1, cap1, rfl, ⟨b1, o1, hA1, hr1⟩, hb1⟩
  have HR1 := Lib.hid hr1
  have HB1 := Lib.hid hb1
  have HSM := Lib.hid hs
  have hbs := hb1.size
  clear hr1 hb1 HS hs
  have hg : Below w1.heap.size w1 (w1.alloc (.cells #[] 31)) := by go_grown
  have HRS := Lib.hid (RRowE.start w1)
  go_wp2
  go_loopw [2, 3] (fun ov i wr => ∃ (j : Nat) (t pre : List (Int × Nd × Nd)), i = .int .i64 (j : Int) ∧ pre.length = j ∧ j + t.length = rs.length ∧ Hid (pre ++ t = rs) ∧ Hid (RusAt wr w1.heap.size t b1 (o1 + j * 11)) ∧ Hid (RRowE wr w1.heap.size ov pre) ∧ Hid (Below w1.heap.size w1 wr)) (fun _ i _ => rs.length - (intOf i).toNat)
  case atStart =>
    refine ⟨0, rs, [], by first | rfl | go_num, rfl, by omega, rfl, ?_, HRS.out, hg⟩
    show RusAt _ _ _ _ _; rw [Nat.zero_mul, Nat.add_zero]; exact HR1.out.below hg
  case round =>
    obtain ⟨j, t, pre, rfl, hpl, hj, happ, HT, HO, HB⟩ := hrel
    cases t with
    | nil =>
      have hjj : j = rs.length := by simpa using hj
      subst hjj
      have hiz : ¬ (rs.length : Int) < (rs.length : Int) := by omega
      obtain ⟨A, cap, rfl, hc, hm, hsl⟩ := HO.out.sl
      have hp : pre = rs := by have := happ.out; rwa [List.append_nil] at this
      subst hp
      have HE : Hid (SeeRu pre w (.returned (.slice A pre.length cap)) wr) := ⟨A, cap, rfl, hsl, HB1.out.trans (HB.out.mono hbs)⟩
      clear hsl HO HT HB
      go_wp2
      go_ret
      exact HE.out
    | cons x t =>
      obtain ⟨v, l, r⟩ := x
      have hj1 : j + (t.length + 1) = rs.length := by simpa using hj
      have hiz : (j : Int) < (rs.length : Int) := by omega
      have hjn : j < rs.length := by omega
      have hA := hA1 (by omega)
      subst hA
      obtain ⟨⟨c0, hl, hr⟩, hrt⟩ := HT.out
      have hsm := HSM.out (v, l, r) (by rw [← happ.out]; exact List.mem_append_right _ (List.mem_cons_self ..))
      have HSZ := Lib.hid hsm
      obtain ⟨qs, hG, hq, hGs⟩ := HO.out
      have hql : qs.length = j := by have := congrArg List.length hq; rw [List.length_map] at this; omega
      go_upto_region 6 with fail
      have hd : Below wr.heap.size wr wr.drew := (Below.refl _ _).drew
      have HG := Lib.hid (hG.below hd)
      have HLF := Lib.hid (hl.below (hd.mono HB.out.size) : ElAt wr.drew w1.heap.size l.k l.n l.p l.c l.ks b1 (o1 + j * 11 + 1))
      have HRG := Lib.hid (hr.below (hd.mono HB.out.size) : ElAt wr.drew w1.heap.size r.k r.n r.p r.c r.ks b1 (o1 + j * 11 + 6))
      have HRT := Lib.hid (hrt.below (hd.mono HB.out.size))
      have HBD : Hid (Below w1.heap.size w1 wr.drew) := HB.out.drew
      have hD : Hid (wr.drew.cell? ⟨b1, o1 + j * 11, none⟩ = some (.int .i64 v)) := c0
      have hbl1 : b1 < w1.heap.size := hl.1
      clear hG HO HT hl hr hrt c0 hd hsm HB
      refine RegE.start (S := fun wx => wx.cell? ⟨b1, o1 + j * 11, none⟩ = some (.int .i64 v)) 19 (by kernel_rfl) (by kernel_rfl) ?Sa0 (fun hHeld hB => ?_)
      case Sa0 => ((try dsimp only); exact hD.out)
      generalize wr.drew = wd at *
      refine RegE.takeL (S := fun wx => wx.cell? ⟨b1, o1 + j * 11, none⟩ = some (.int .i64 v)) (i := 0) (v := ?va0) hB rfl (by decide) (by kernel_rfl) (by kernel_rfl) (fun _ _ _ h => h) (Or.inl ⟨by rfl, ?ya0⟩) hHeld ?ra0
      case ya0 => ((intro w hSw; (try dsimp only at hSw); go_simp) <;> with_reducible rfl)
      (try simp only [Act.put, List.setIfInBounds_toArray, List.set_cons_zero, List.set_cons_succ])
      refine RegE.takeL (S := fun wx => wx.cell? ⟨b1, o1 + j * 11, none⟩ = some (.int .i64 v)) (i := 1) (v := ?va1) hB rfl (by decide) (by kernel_rfl) (by kernel_rfl) (fun _ _ _ h => h) (Or.inl ⟨by rfl, ?ya1⟩) hHeld ?ra1
      case ya1 => ((intro w hSw; (try dsimp only at hSw); go_simp) <;> with_reducible rfl)
      (try simp only [Act.put, List.setIfInBounds_toArray, List.set_cons_zero, List.set_cons_succ])
      refine RegE.takeL (S := fun wx => wx.cell? ⟨b1, o1 + j * 11, none⟩ = some (.int .i64 v)) (i := 2) (v := ?va2) hB rfl (by decide) (by kernel_rfl) (by kernel_rfl) (fun _ _ _ h => h) (Or.inl ⟨by rfl, ?ya2⟩) hHeld ?ra2
      case ya2 => ((intro w hSw; (try dsimp only at hSw); go_simp) <;> with_reducible rfl)
      (try simp only [Act.put, List.setIfInBounds_toArray, List.set_cons_zero, List.set_cons_succ])
      refine RegE.takeL (S := fun wx => wx.cell? ⟨b1, o1 + j * 11, none⟩ = some (.int .i64 v)) (i := 3) (v := ?va3) hB rfl (by decide) (by kernel_rfl) (by kernel_rfl) (fun _ _ _ h => h) (Or.inl ⟨by rfl, ?ya3⟩) hHeld ?ra3
      case ya3 => ((intro w hSw; (try dsimp only at hSw); go_simp) <;> with_reducible rfl)
      (try simp only [Act.put, List.setIfInBounds_toArray, List.set_cons_zero, List.set_cons_succ])
      refine RegE.takeL (S := fun wx => wx.cell? ⟨b1, o1 + j * 11, none⟩ = some (.int .i64 v)) (i := 4) (v := ?va4) hB rfl (by decide) (by kernel_rfl) (by kernel_rfl) (fun _ _ _ h => h) (Or.inl ⟨by rfl, ?ya4⟩) hHeld ?ra4
      case ya4 => ((intro w hSw; (try dsimp only at hSw); go_simp) <;> with_reducible rfl)
      (try simp only [Act.put, List.setIfInBounds_toArray, List.set_cons_zero, List.set_cons_succ])
      refine RegE.takeL (S := fun wx => wx.cell? ⟨b1, o1 + j * 11, none⟩ = some (.int .i64 v)) (i := 5) (v := ?va5) hB rfl (by decide) (by kernel_rfl) (by kernel_rfl) (fun _ _ _ h => h) (Or.inl ⟨by rfl, ?ya5⟩) hHeld ?ra5
      case ya5 => ((intro w hSw; (try dsimp only at hSw); go_simp) <;> with_reducible rfl)
      (try simp only [Act.put, List.setIfInBounds_toArray, List.set_cons_zero, List.set_cons_succ])
      refine RegE.takeL (S := fun wx => wx.cell? ⟨b1, o1 + j * 11, none⟩ = some (.int .i64 v)) (i := 6) (v := ?va6) hB rfl (by decide) (by kernel_rfl) (by kernel_rfl) (fun _ _ _ h => h) (Or.inl ⟨by rfl, ?ya6⟩) hHeld ?ra6
      case ya6 => ((intro w hSw; (try dsimp only at hSw); go_simp) <;> with_reducible rfl)
      (try simp only [Act.put, List.setIfInBounds_toArray, List.set_cons_zero, List.set_cons_succ])
      refine RegE.takeL (S := fun wx => wx.cell? ⟨b1, o1 + j * 11, none⟩ = some (.int .i64 v)) (i := 7) (v := ?va7) hB rfl (by decide) (by kernel_rfl) (by kernel_rfl) (fun _ _ _ h => h) (Or.inl ⟨by rfl, ?ya7⟩) hHeld ?ra7
      case ya7 => ((intro w hSw; (try dsimp only at hSw); go_simp) <;> with_reducible rfl)
      (try simp only [Act.put, List.setIfInBounds_toArray, List.set_cons_zero, List.set_cons_succ])
      refine RegE.takeL (S := fun wx => wx.cell? ⟨b1, o1 + j * 11, none⟩ = some (.int .i64 v)) (i := 8) (v := ?va8) hB rfl (by decide) (by kernel_rfl) (by kernel_rfl) (fun _ _ _ h => h) (Or.inl ⟨by rfl, ?ya8⟩) hHeld ?ra8
      case ya8 => ((intro w hSw; (try dsimp only at hSw); go_simp) <;> with_reducible rfl)
      (try simp only [Act.put, List.setIfInBounds_toArray, List.set_cons_zero, List.set_cons_succ])
      refine RegE.takeL (S := fun wx => wx.cell? ⟨b1, o1 + j * 11, none⟩ = some (.int .i64 v)) (i := 9) (v := ?va9) hB rfl (by decide) (by kernel_rfl) (by kernel_rfl) (fun _ _ _ h => h) (Or.inl ⟨by rfl, ?ya9⟩) hHeld ?ra9
      case ya9 => ((intro w hSw; (try dsimp only at hSw); go_simp) <;> with_reducible rfl)
      (try simp only [Act.put, List.setIfInBounds_toArray, List.set_cons_zero, List.set_cons_succ])
      refine RegE.takeL (S := fun wx => wx.cell? ⟨b1, o1 + j * 11, none⟩ = some (.int .i64 v)) (i := 11) (v := ?va11) hB rfl (by decide) (by kernel_rfl) (by kernel_rfl) (fun _ _ _ h => h) (Or.inl ⟨by rfl, ?ya11⟩) hHeld ?ra11
      case ya11 => ((intro w hSw; (try dsimp only at hSw); go_simp) <;> with_reducible rfl)
      (try simp only [Act.put, List.setIfInBounds_toArray, List.set_cons_zero, List.set_cons_succ])
      refine RegE.takeL (S := fun wx => wx.cell? ⟨b1, o1 + j * 11, none⟩ = some (.int .i64 v)) (i := 12) (v := ?va12) hB rfl (by decide) (by kernel_rfl) (by kernel_rfl) (fun _ _ _ h => h) (Or.inl ⟨by rfl, ?ya12⟩) hHeld ?ra12
      case ya12 => ((intro w hSw; (try dsimp only at hSw); go_simp) <;> with_reducible rfl)
      (try simp only [Act.put, List.setIfInBounds_toArray, List.set_cons_zero, List.set_cons_succ])
      refine RegE.takeL (S := fun wx => wx.cell? ⟨b1, o1 + j * 11, none⟩ = some (.int .i64 v)) (i := 13) (v := ?va13) hB rfl (by decide) (by kernel_rfl) (by kernel_rfl) (fun _ _ _ h => h) (Or.inl ⟨by rfl, ?ya13⟩) hHeld ?ra13
      case ya13 => ((intro w hSw; (try dsimp only at hSw); go_simp) <;> with_reducible rfl)
      (try simp only [Act.put, List.setIfInBounds_toArray, List.set_cons_zero, List.set_cons_succ])
      refine RegE.takeL (S := fun wx => wx.cell? ⟨b1, o1 + j * 11, none⟩ = some (.int .i64 v)) (i := 14) (v := ?va14) hB rfl (by decide) (by kernel_rfl) (by kernel_rfl) (fun _ _ _ h => h) (Or.inl ⟨by rfl, ?ya14⟩) hHeld ?ra14
      case ya14 => ((intro w hSw; (try dsimp only at hSw); go_simp) <;> with_reducible rfl)
      (try simp only [Act.put, List.setIfInBounds_toArray, List.set_cons_zero, List.set_cons_succ])
      refine RegE.stepL (i := 10) rfl (by decide) (by kernel_rfl) (fun K hK => ?_)
      go_simp
      go_at_call 10
      refine (l02Own_any (l.ks.size + 1) l.ks (by omega) l.k l.n l.p l.c b1 (o1 + j * 11 + 1) w1.heap.size wd HLF.out HBD.out.size HSZ.out.1).mono ?_
      rintro e w2 ⟨hb2, KL, cl, rfl, hcl, hml, hTL⟩
      have HB2 := Lib.hid hb2
      have HTL := Lib.hid hTL
      clear hTL
      refine hK.out _ _ ?Sa10 (fun hHeldN => ?_)
      case Sa10 => ((try dsimp only); exact keepC hHeld hb2)
      clear hK K hHeld
      have hHeld := hHeldN
      clear hHeldN
      (try simp only [])
      refine RegE.stepL (i := 15) rfl (by decide) (by kernel_rfl) (fun K hK => ?_)
      go_simp
      go_at_call 10
      refine (l02Own_any (r.ks.size + 1) r.ks (by omega) r.k r.n r.p r.c b1 (o1 + j * 11 + 6) w1.heap.size w2 (HRG.out.below (HB2.out.mono HBD.out.size)) (Nat.le_trans HBD.out.size HB2.out.size) HSZ.out.2).mono ?_
      rintro e w3 ⟨hb3, KR, cr, rfl, hcr, hmr, hTR⟩
      have HB3 := Lib.hid hb3
      have HTR := Lib.hid hTR
      have HTL3 := Lib.hid (HTL.out.keep (fun q _ q2 => hb3.block q q2))
      clear hTR HTL
      refine hK.out _ _ ?Sa15 (fun hHeldN => ?_)
      case Sa15 => ((try dsimp only); exact keepC hHeld hb3)
      clear hK K hHeld
      have hHeld := hHeldN
      clear hHeldN
      (try simp only [])
      refine RegE.takeL (S := fun wx => wx.cell? ⟨b1, o1 + j * 11, none⟩ = some (.int .i64 v)) (i := 16) (v := ?va16) hB rfl (by decide) (by kernel_rfl) (by kernel_rfl) (fun _ _ _ h => h) (Or.inl ⟨by rfl, ?ya16⟩) hHeld ?ra16
      case ya16 => ((intro w hSw; (try dsimp only at hSw); go_simp) <;> with_reducible rfl)
      (try simp only [Act.put, List.setIfInBounds_toArray, List.set_cons_zero, List.set_cons_succ])
      obtain ⟨W4, hW4⟩ : ∃ W, W = w3.alloc (.cells (ruD ((v, (l, KL, cl), (r, KR, cr)) : RuQ)).toArray 31) := ⟨_, rfl⟩
      have hb4 : Below w3.heap.size w3 W4 := by rw [hW4]; go_grown
      have hC4 : Cells W4 w3.heap.size 31 (ruD ((v, (l, KL, cl), (r, KR, cr)) : RuQ)) := by rw [hW4]; exact Cells.new _ _ _
      refine RegE.stepL (i := 17) rfl (by decide) (by kernel_rfl) (fun K hK => ?_)
      go_simp
      change K _ (w3.alloc (.cells (ruD ((v, (l, KL, cl), (r, KR, cr)) : RuQ)).toArray 31))
      rw [← hW4]
      refine hK.out _ _ ?Sa17 (fun hHeldN => ?_)
      case Sa17 => ((try dsimp only); exact keepC hHeld hb4)
      clear hK K hHeld
      have hHeld := hHeldN
      clear hHeldN
      (try simp only [Act.put, List.setIfInBounds_toArray, List.set_cons_zero, List.set_cons_succ])
      have HO4 := Lib.hid (((HG.out.below HB2.out).below HB3.out).below hb4).own
      refine RegE.stepL (i := 18) rfl (by decide) (by kernel_rfl) (fun K hK => ?_)
      refine step_append_at rfl (.tmp 12) (.tmp 29) 22 rfl w1.heap.size 31 i0 _ 11 120 Try.underlying22 hi hz0 hz1 hz2 rfl (by decide) u2 _ _ (by simp [Act.eval]) HO4.out ⟨w3.heap.size, 0, none⟩ 1 1 (ruD ((v, (l, KL, cl), (r, KR, cr)) : RuQ)) (by simp [Act.eval]) rfl ?n18 ?o18 ?p18 ?q18 ?t18 ?_
      case n18 => intro j z hz; rw [addr_add, Nat.zero_add]; exact (hC4.cell j).trans hz
      case o18 => intro z hz; simp only [ruD, List.mem_cons, List.not_mem_nil, or_false] at hz; rcases hz with rfl | rfl | rfl | rfl | rfl | rfl | rfl | rfl | rfl | rfl | rfl <;> rfl
      case p18 => simp only [List.length_map]; unfold maxLen; omega
      case q18 => simp only [List.length_map]; omega
      case t18 => have := (((HG.out.below HB2.out).below HB3.out).below hb4).size; exact this
      intro v2 w5 hown hg5 hat
      obtain ⟨hr5, hbl⟩ := RRowE.push (p := ((v, (l, KL, cl), (r, KR, cr)) : RuQ)) HG.out hGs (bnext HB2.out HB3.out) HTL3.out HTR.out ⟨hcl, hml⟩ ⟨hcr, hmr⟩ hb4 hown hg5 hat
      rw [hq] at hr5
      have HR5 := Lib.hid hr5
      have HBL := Lib.hid hbl
      clear hown hg5 hat hr5
      refine hK.out _ _ ?Sa18 (fun hHeldN => ?_)
      case Sa18 => ((try dsimp only); exact (hbl.cell (p := ⟨b1, o1 + j * 11, none⟩) hbl1).trans hD.out)
      clear hK K hHeld
      have hHeld := hHeldN
      clear hHeldN
      (try simp only [Act.put, List.setIfInBounds_toArray, List.set_cons_zero, List.set_cons_succ])
      refine RegE.lastL rfl (by kernel_rfl) (by kernel_rfl) (fun K hK => ?_)
      go_simp
      refine hK.out _ _ ?_
      clear hK K
      have HRT5 : Hid (RusAt w5 w1.heap.size t b1 (o1 + (j + 1) * 11)) := by
        have := HRT.out.below HBL.out
        rwa [show o1 + j * 11 + 11 = o1 + (j + 1) * 11 by omega] at this
      have HB5 : Hid (Below w1.heap.size w1 w5) := HBD.out.trans HBL.out
      have happ2 : Hid (pre ++ [(v, l, r)] ++ t = rs) := by show _ = _; rw [List.append_assoc]; exact happ.out
      have HR6 : Hid (RRowE w5 w1.heap.size v2 (pre ++ [(v, l, r)])) := HR5.out
      clear hHeld hD HG HLF HRG HRT HB2 HB3 HTL3 HTR hb4 hC4 HO4 HBL hGs hq HR5
      go_wp2
      go_roundw
      case rel => exact ⟨j + 1, t, pre ++ [(v, l, r)], by go_num, by simp [hpl], by omega, happ2, HRT5, HR6, HB5⟩
      case measure => simp [intOf]; omega

theorem stdS_all (w : World) : Calls Try.prog 4 #[] w (SeeRu stdRules w) := stdR_of stdRules std_small (by decide) stdS_any w

end Go.Proofs.Ytmcaphbngfdfiaa

/- FnExactStandardRules: the program's StandardRules returns what the reference's returns. No condition. -/
namespace Go.Proofs.Ytmcaphbngfdfiaa.fnExactStandardRules
open Go.ChangeShapes Go.WideShapes Go.ChangeAt Go.RowKit

theorem own : ownKnob Try.prog.godebug = none := by kernel_rfl
theorem laidOut : laidOutB Try.prog = true := by kernel_rfl

set_option maxRecDepth 100000 in
theorem lifted (os : Os) (started : os.Started) (H : Type) (enc : TypeId × Value → H) :
    ReturnsInHanded {} Try.checked os 3 .any (Rows.fnExactStandardRulesSpec.pre6 enc Try.prog Try.f3 Rows.fnExactStandardRulesRow.domain false) (Rows.fnExactStandardRulesSpec.post enc Try.prog Try.f3 false true false false) := by
  refine returnsInHanded_of_change (C := Try.checked) own started (by kernel_rfl) Try.func3
    (ChangeSpec.witness6 (enc := enc) (C := Try.checked) false ⟨#[], #[], []⟩ 8 (by kernel_rfl) (by kernel_rfl) (by kernel_rfl) (by kernel_rfl)) ?_
  intro W base args ds gs before hval0 hW hcnd _
  have hW' := hW
  obtain ⟨p, q, hA0, hV, rfl, hfz, hnd⟩ := hW
  have hA : DataW.TrodAll enc Try.prog W 0 (fun _ => true) true Try.f3.params.toList args.toList ds p := hA0
  rw [Try.params3] at hA
  obtain ⟨hargs, rfl, rfl⟩ := trodAll_nil hA
  obtain rfl : args = #[] := by cases args; simp_all
  obtain ⟨rfl, rfl⟩ := trodVars_none hV
  refine (stdLaw stdRules std_small (by decide) std_size stdI_any stdS_all W).mono fun e W' ⟨he, bel⟩ => ?_
  subst he
  exact ⟨_, rfl, _, _, _, [], _, [], hW', trodAll_mk1 (shut_bool Try.underlying4 _), trodAll_mk0, rfl, bel.frame _, fun h => by cases h⟩

theorem over : Rows.fnExactStandardRulesRow.holds Try.pinned (OpenSpec.ofChange Rows.fnExactStandardRulesSpec) :=
  OpenClaim.holds_of_wide 3 Try.f3 rfl rfl rfl rfl rfl rfl rfl ⟨rfl, rfl, rfl, rfl, rfl⟩ rfl rfl rfl rfl rfl (by kernel_rfl) Try.func3 (by kernel_rfl)
    (of_decide_eq_true (by kernel_rfl)) (by unfold Func.isWrapper; first | (rw [if_pos (by decide +kernel)]; kernel_rfl) | (rw [if_neg (by decide +kernel)]; exact ⟨rfl, rfl⟩))
    (fun os started H enc _ => lifted os started H enc)

theorem proved : Rows.FnExactStandardRulesSaid := over
#print axioms proved
end Go.Proofs.Ytmcaphbngfdfiaa.fnExactStandardRules
