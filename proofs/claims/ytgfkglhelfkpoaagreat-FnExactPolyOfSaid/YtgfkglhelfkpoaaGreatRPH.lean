/- Texts put together: WQv8, WQv9, WPv15, WQv10, WQv11. -/
import Derived.Test.YtgfkglhelfkpoaaGreatRPG
import Derived.Test.YtgfkglhelfkpoaaGreatRPD
import Derived.Test.YtgfkglhelfkpoaaGreatRO
import Derived.Test.YtgfkglhelfkpoaaGreatRP
import Derived.Test.YtgfkglhelfkpoaaGreatRSD
import Derived.Test.YtgfkglhelfkpoaaGreatRPA
import Derived.Test.YtgfkglhelfkpoaaGreatRSG

/- Polynomials of expressions in the reference: the variables. -/
namespace Go.Proofs.YtgfkglhelfkpoaaGreat
open Go.RowKit Plain

set_option maxRecDepth 100000 in
set_option maxHeartbeats 2000000 in
theorem inputsQ_any (u : Int) (S : Nat → Prop) (w : World) (hS : ∀ q, S q → q < w.heap.size) (h0 : 0 ≤ u) (h1 : u ≤ 12) :
    Calls Tryz.prog 108 #[.int .i64 u] w fun e w' => ∃ A cp, e = .returned (.slice A u.toNat cp) ∧ u.toNat ≤ cp ∧ cp ≤ maxLen ∧ PEnv w' S u A (unkL u u.toNat) ∧ Below w.heap.size w w' := by
  obtain ⟨i0, hi, hz0, hz1, hz2⟩ := info_parts Tryz.infoPo
  obtain ⟨un, rfl⟩ : ∃ m : Nat, u = m := ⟨u.toNat, by omega⟩
  have hun : un ≤ 12 := by omega
  have HSS := Lib.hid hS
  clear hS
  go_enter Tryz.func108, Tryz.ntmps108
  go_wp2
  go_loopw [3, 4] (fun o_ i wr => ∃ (j g : Nat), i = .int .i64 (j : Int) ∧ j ≤ un ∧ Hid (o_.ownBlock = some g ∧ w.heap.size ≤ g ∧ g < wr.heap.size) ∧ Hid (PRow wr w.heap.size S un o_ (unkL un j)) ∧ Hid (Below w.heap.size w wr)) (fun _ i _ => un - (intOf i).toNat)
  case atStart => exact ⟨0, w.heap.size, by go_num, Nat.zero_le _, ⟨rfl, Nat.le_refl _, by simp⟩, PRow.start w _ _, by show Below _ _ _; go_grown⟩
  case round =>
    obtain ⟨j, g, rfl, hj, hG, HR, HBW⟩ := hrel
    by_cases hlt : j < un
    · have hjl : (j : Int) < (un : Int) := by omega
      have hun0 : 0 < un := by omega
      have HCO : Hid (Calls Tryz.prog 59 #[.int .i64 0, .int .i64 un] wr fun e Wa => ∃ be oe ce, e = .returned (.slice (some ⟨be, oe, none⟩) un ce) ∧ wr.heap.size ≤ be ∧ be < Wa.heap.size ∧ (∀ j x, (zeroE un)[j]? = some x → Wa.cell? ⟨be, oe + j, none⟩ = some (.int .i64 x) ∧ Wa.frozen? ⟨be, oe + j, none⟩ = false) ∧ Below wr.heap.size wr Wa) := by
        refine (constS_any 0 un wr hun0 (by omega)).mono ?_
        rintro e Wa ⟨Ae, ce, rfl, hIT, hba⟩
        have e1 : (ops un).num 0 = zeroE un := by
          rw [← mk_zeroE]
          unfold ops
          refine mk_congr fun k _ => ?_
          split <;> rfl
        rw [e1] at hIT ⊢
        have hl : (zeroE un).length = un := by unfold zeroE; simp
        obtain ⟨be, oe, rfl, q1, q2, _, q3⟩ := hIT (by rw [hl]; exact hun0)
        rw [hl]
        exact ⟨be, oe, ce, rfl, q1, q2, q3, hba⟩
      go_wp2_with fail
      refine HCO.out.mono ?_; rintro e Wa ⟨be, oe, ce, rfl, hbe1, hbe2, hze, hba⟩
      have hz0j : (zeroE un)[j]? = some 0 := by unfold zeroE; simp [hlt]
      have e0 : Wa.cell? ⟨be, oe + j, none⟩ = some (.int .i64 0) := (hze j 0 hz0j).1
      have ef : Wa.frozen? ⟨be, oe + j, none⟩ = false := (hze j 0 hz0j).2
      have hbe3 := unkE_set hlt hze
      have hg2 : Below wr.heap.size wr (Wa.setCell ⟨be, oe + j, none⟩ (.int .i64 1)) := hba.setCell (p := ⟨be, oe + j, none⟩) hbe1 _
      have hsz2 : (Wa.setCell ⟨be, oe + j, none⟩ (.int .i64 1)).heap.size = Wa.heap.size := by simp [World.setCell]
      clear hze hba HCO
      go_upto_region 7 with fail
      change Code.wp _ _ _ _ (Wa.setCell ⟨be, oe + j, none⟩ (.int .i64 1))
      generalize Wa.setCell ⟨be, oe + j, none⟩ (.int .i64 1) = Wb at *
      have hszb : be < Wb.heap.size := by omega
      clear e0 ef hsz2
      obtain ⟨W3, hW3⟩ : ∃ W3, W3 = Wb.alloc (.cells #[.slice (some ⟨be, oe, none⟩) un ce, .int .i64 1] 173) := ⟨_, rfl⟩
      have hg3 : Below Wb.heap.size Wb W3 := by rw [hW3]; go_grown
      have hbw3 : be < W3.heap.size := by have := hg3.size; omega
      have hC3 : ∀ i x, (unkE un j)[i]? = some x → W3.cell? ⟨be, oe + i, none⟩ = some (.int .i64 x) ∧ W3.frozen? ⟨be, oe + i, none⟩ = false := fun i x hx => ⟨keepC (hbe3 i x hx).1 hg3, by rw [World.frozen?_of_block (a := ⟨be, oe + i, none⟩) (hg3.block be hszb)]; exact (hbe3 i x hx).2⟩
      have hT3 : Cells W3 Wb.heap.size 173 [.slice (some ⟨be, oe, none⟩) un ce, .int .i64 1] := by
        have := Cells.new Wb 173 [.slice (some ⟨be, oe, none⟩) un ce, .int .i64 1]
        rw [hW3]; exact this
      have hRT : RT W3 wr.heap.size W3.heap.size (some ⟨Wb.heap.size, 0, none⟩) (unkT un j) := by
        show RT _ _ _ _ [(unkE (un : Int).toNat j, 1)]
        exact oneTermAt (cap := ce) hbw3 hC3 (by rw [unkE_length]; exact hT3) hbe1 hg2.size (by omega)
      have hok : polyOk un (unkT un j) = true := unkT_ok h0 h1
      have hb3 : Below wr.heap.size wr W3 := hg2.trans (hg3.mono hg2.size)
      have hPA : PAt W3 (privS S g) (some ⟨Wb.heap.size, 0, none⟩) (unkT un j) := PAt.of hRT (polyOk_totT hok) (fun q e => by
        rcases e with e | e
        · have := HSS.out q e; have := HBW.out.size; omega
        · have := hG.out.2.2; omega)
      have HPA := Lib.hid (And.intro hPA hok)
      have HB3 := Lib.hid hb3
      obtain ⟨ps, hG1, hps, hoks, hkp⟩ := HR.out
      have hpl : ps.length = j := by have := congrArg List.length hps; rw [List.length_map, unkL_length] at this; exact this
      have HG1 := Lib.hid hG1
      have HKP := Lib.hid hkp
      have HOKS := Lib.hid hoks
      have HPS := Lib.hid hps
      obtain ⟨W1', hW1'⟩ : ∃ W, W = W3.alloc (.cells (poD un (unkT un j, some ⟨Wb.heap.size, 0, none⟩, 1)).toArray 86) := ⟨_, rfl⟩
      have hb2 : Below W3.heap.size W3 W1' := by rw [hW1']; go_grown
      have hC2 : Cells W1' W3.heap.size 86 (poD un (unkT un j, some ⟨Wb.heap.size, 0, none⟩, 1)) := by rw [hW1']; exact Cells.new _ _ _
      have HOW := Lib.hid ((HG1.out.below hb3).below hb2).own
      have HB2 := Lib.hid hb2
      have HC2 := Lib.hid hC2
      have HW3 := Lib.hid hW3
      have HW1' := Lib.hid hW1'
      have hs3 : W3.heap.size = Wb.heap.size + 1 := by rw [hW3]; simp
      have HZZ := Lib.hid (And.intro hg2.size hs3)
      clear hb2 hC2 hW1' hG1 hps hoks hkp HR hPA hRT hb3 hg3 hC3 hT3 hg2 hbe3 hW3 hs3 hok
      go_wp2_with (at_builtin; change wpList _ _ _ _ _ ((Wb.alloc (.cells #[.slice (some ⟨be, oe, none⟩) un ce, .int .i64 1] 173)).alloc (.cells (poD un (unkT un j, some ⟨Wb.heap.size, 0, none⟩, 1)).toArray 86)); rw [← HW3.out, ← HW1'.out]; refine wpList_append_own_at _ rfl _ _ 162 rfl w.heap.size 86 i0 (.agg #[.int .i64 0, .slice none 0 0]) 2 32 Tryz.underlying162 hi hz0 hz1 hz2 rfl (by decide) _ _ _ rfl HOW.out ⟨W3.heap.size, 0, none⟩ 1 1 (poD un (unkT un j, some ⟨Wb.heap.size, 0, none⟩, 1)) ?c0 rfl ?c1 ?c2 ?c3 ?c4 ?c5 ?_)
      case c0 => rw [HZZ.out.2]; simp [Act.eval]
      case c1 => intro q z hz; rw [addr_add, Nat.zero_add]; exact (HC2.out.cell q).trans hz
      case c2 => intro z hz; simp only [poD, List.mem_cons, List.not_mem_nil, or_false] at hz; rcases hz with rfl | rfl <;> rfl
      case c3 => simp only [List.length_map]; unfold maxLen; omega
      case c4 => simp only [List.length_map]; omega
      case c5 => have := HB2.out.size; have := HB3.out.size; have := HBW.out.size; omega
      intro v2 w2 hown0 hg2 _ hat
      have hown : w2.ownsRow w.heap.size 86 2 v2 ((ps.map (poEl S (un : Int))).length + 1) ((ps.map (poEl S (un : Int))).flatMap (·.1) ++ poD un (unkT un j, some ⟨Wb.heap.size, 0, none⟩, 1)) := by
        rw [List.length_map, hpl]
        exact hown0
      have hPA := HPA.out
      have hgl := HG1.out.lt hG.out.1
      obtain ⟨hp2, hbl⟩ := PRow.push (p := (unkT un j, some ⟨Wb.heap.size, 0, none⟩, 1)) HG1.out (by rw [HPS.out]; exact HOKS.out) HKP.out hG.out.1 HB3.out hPA.1 hPA.2 HB2.out hown hg2 hat
      rw [HPS.out, ← unkL_succ] at hp2
      have hg3 : ∃ g3, v2.ownBlock = some g3 ∧ w.heap.size ≤ g3 ∧ g3 < w2.heap.size := by
        have hs2 := hg2.size
        have hs1 := HB2.out.size
        have hs3 := HB3.out.size
        have hs4 := HBW.out.size
        rcases hat with e | e
        · exact ⟨g, e.trans hG.out.1, hgl.1, by omega⟩
        · exact ⟨W1'.heap.size, e, by omega, (World.ownsRow.lt hown _ e).2⟩
      obtain ⟨g3, hg3⟩ := hg3
      have HG3 := Lib.hid hg3
      have HP2 := Lib.hid hp2
      have HBW2 := Lib.hid (HBW.out.trans hbl)
      clear hown hown0 hg2 hat hp2 hbl hg3 HG1 HKP HOKS HPS HOW HC2 HB2 HPA hgl HW1' HW3 HZZ hPA HB3
      go_wp2
      go_roundw
      case rel => exact ⟨j + 1, g3, by go_num, by omega, HG3, HP2, HBW2⟩
      case measure => simp [intOf]; omega
    · obtain rfl : j = un := by omega
      obtain ⟨A, cp, rfl, q1, q2, q3⟩ := HR.out.env (fun q e => HSS.out q e)
      rw [unkL_length] at q1 ⊢
      have HP : Hid (∃ A2 cp2, Ending.returned (.slice A j cp) = .returned (.slice A2 (j : Int).toNat cp2) ∧ (j : Int).toNat ≤ cp2 ∧ cp2 ≤ maxLen ∧ PEnv wr S j A2 (unkL j (j : Int).toNat) ∧ Below w.heap.size w wr) := ⟨A, cp, rfl, q1, q2, q3, HBW.out⟩
      clear q1 q2 q3
      go_wp2
      go_ret
      exact HP.out

end Go.Proofs.YtgfkglhelfkpoaaGreat

/- Polynomials read from an environment lie apart from what may change. -/
namespace Go.Proofs.YtgfkglhelfkpoaaGreat
open Go.RowKit Plain

/-- terms in the blocks lo .. hi - 1, to be read -/
def TmsI (lo hi : Nat) (A : Option Addr) (ts : List Term') (w : World) : Prop :=
  0 < ts.length → ∃ (b o : Nat), A = some ⟨b, o, none⟩ ∧ lo ≤ b ∧ b < hi ∧
    ∀ i t, ts[i]? = some t → ∃ Ai cap, w.cell? ⟨b, o + i * 2, none⟩ = some (.slice Ai t.1.length cap) ∧ w.cell? ⟨b, o + i * 2 + 1, none⟩ = some (.int .i64 t.2) ∧
      (0 < t.1.length → ∃ bi oi, Ai = some ⟨bi, oi, none⟩ ∧ lo ≤ bi ∧ bi < hi ∧ ∀ j x, t.1[j]? = some x → w.cell? ⟨bi, oi + j, none⟩ = some (.int .i64 x))
theorem TmsI.keep {lo hi : Nat} {A : Option Addr} {ts : List Term'} {w1 w2 : World} (h : TmsI lo hi A ts w1) (hb : ∀ q, lo ≤ q → q < hi → w2.heap[q]? = w1.heap[q]?) : TmsI lo hi A ts w2 := fun hn => by
  obtain ⟨b, o, e, h1, h2, hc⟩ := h hn
  refine ⟨b, o, e, h1, h2, fun i t ht => ?_⟩
  obtain ⟨Ai, cap, c1, c2, c4⟩ := hc i t ht
  refine ⟨Ai, cap, (World.cell?_of_block (a := ⟨b, _, none⟩) (hb b h1 h2)).trans c1, (World.cell?_of_block (a := ⟨b, _, none⟩) (hb b h1 h2)).trans c2, fun h0 => ?_⟩
  obtain ⟨bi, oi, e1, e2, e3, e5⟩ := c4 h0
  exact ⟨bi, oi, e1, e2, e3, fun j x hx => (World.cell?_of_block (a := ⟨bi, _, none⟩) (hb _ e2 e3)).trans (e5 j x hx)⟩
theorem regRd {w : World} {lo hi : Nat} {A : Option Addr} {ts : List Term'} (h : Reg w lo hi (TmsI lo hi A ts)) (hm : totT ts ≤ 9223372036854775807) : TmsAt w A ts := fun hn => by
  obtain ⟨b, o, e, h1, h2, hc⟩ := h.now hn
  refine ⟨b, o, e, Nat.lt_of_lt_of_le h2 h.size, fun i t ht => ?_⟩
  obtain ⟨Ai, cap, c1, c2, c4⟩ := hc i t ht
  have hi : i < ts.length := (List.getElem?_eq_some_iff.1 ht).1
  have hti : tmAt ts i = t := by have := tm_get hi; rw [ht] at this; simpa using this.symm
  refine ⟨Ai, cap, c1, c2, fun h0 => ?_, by have := exps_le_tot hi; rw [hti] at this; omega⟩
  obtain ⟨bi, oi, e1, e2, e3, e5⟩ := c4 h0
  exact ⟨bi, oi, e1, Nat.lt_of_lt_of_le e3 h.size, e5⟩
/-- a block of S that is emptied -/
theorem emptied (w : World) (b : Nat) (hb : b < w.heap.size) : ∃ w' : World, w'.heap.size = w.heap.size ∧ (∀ q, q ≠ b → w'.heap[q]? = w.heap[q]?) ∧ ∀ o, w'.cell? ⟨b, o, none⟩ = none := by
  refine ⟨{ w with heap := w.heap.set b (.cells #[] 0) hb }, by simp, fun q hq => by simp [Array.getElem?_set_ne _ (Ne.symm hq)], fun o => ?_⟩
  simp [World.cell?]
theorem PAt.away {w : World} {S : Nat → Prop} {A : Option Addr} {ts : List Term'} (h : PAt w S A ts) {lo : Nat} (hS : ∀ q, q < lo → S q) : TmsI lo w.heap.size A ts w := fun hn => by
  obtain ⟨b, o, e, hb, hc⟩ := h.now hn
  have hnS : ¬ S b := fun hs => by
    obtain ⟨w', h1, h2, h3⟩ := emptied w b hb
    obtain ⟨b', o', e', _, hc'⟩ := h w' ⟨Nat.le_of_eq h1.symm, fun q _ hq => h2 q fun eq => hq (eq ▸ hs)⟩ hn
    rw [e] at e'
    injection e' with e'
    injection e' with e1 e2
    subst e1
    obtain ⟨Ai, cap, c1, _⟩ := hc' 0 ts[0] (List.getElem?_eq_getElem hn)
    rw [h3] at c1
    cases c1
  refine ⟨b, o, e, Nat.le_of_not_lt fun h => hnS (hS b h), hb, fun i t ht => ?_⟩
  obtain ⟨Ai, cap, c1, c2, c4, _⟩ := hc i t ht
  refine ⟨Ai, cap, c1, c2, fun h0 => ?_⟩
  obtain ⟨bi, oi, e1, e3, e5⟩ := c4 h0
  have hni : ¬ S bi := fun hs => by
    obtain ⟨w', h1, h2, h3⟩ := emptied w bi e3
    obtain ⟨b', o', e', _, hc'⟩ := h w' ⟨Nat.le_of_eq h1.symm, fun q _ hq => h2 q fun eq => hq (eq ▸ hs)⟩ hn
    rw [e] at e'
    injection e' with e'
    injection e' with ee1 ee2
    subst ee1 ee2
    obtain ⟨Aj, cap', d1, _, d4, _⟩ := hc' i t ht
    have hbb : b ≠ bi := fun eq => by rw [eq] at hnS; exact hnS hs
    rw [World.cell?_of_block (a := ⟨b, o + i * 2, none⟩) (h2 b hbb), c1] at d1
    injection d1 with d1
    injection d1 with d1
    obtain ⟨bj, oj, f1, _, f5⟩ := d4 h0
    rw [← d1, e1] at f1
    injection f1 with f1
    injection f1 with g1 g2
    subst g1 g2
    have := f5 0 t.1[0] (List.getElem?_eq_getElem h0)
    rw [h3] at this
    cases this
  exact ⟨bi, oi, e1, Nat.le_of_not_lt fun h => hni (hS bi h), e3, e5⟩
theorem PAt.reg {w : World} {S : Nat → Prop} {A : Option Addr} {ts : List Term'} (h : PAt w S A ts) {lo : Nat} (hS : ∀ q, q < lo → S q) (hl : lo ≤ w.heap.size) : Reg w lo w.heap.size (TmsI lo w.heap.size A ts) :=
  ⟨hl, Nat.le_refl _, h.away hS, fun _ _ h hb => h.keep hb⟩
end Go.Proofs.YtgfkglhelfkpoaaGreat

/- PolyOf of the program. -/
namespace Go.Proofs.YtgfkglhelfkpoaaGreat
open Go.RowKit Plain

/-- what PolyOf comes to behind its checks -/
def polyPick (u : Int) (pk : Nat) : Res (List (List Term')) → (Int × List Term') × Int
  | .err c => ((0, []), c)
  | .ok tss _ => ((u, tss.getD pk []), 0)
/-- what PolyOf returns -/
noncomputable def polyOfV (P : List Fn) (f pick : Int) : (Int × List Term') × Int :=
  if askV P f = 0 then match P[f.toNat]? with
    | none => ((0, []), 2)
    | some g => if inR pick 0 ((g.outs.len : Int) - 1) = true then polyPick g.params pick.toNat (pvAll (pv g.params P 3001) (unkL g.params g.params.toNat) g.outs 0) else ((0, []), 2)
  else ((0, []), askV P f)
theorem polyOfV_ask {P : List Fn} {f pick : Int} (h : askV P f ≠ 0) : polyOfV P f pick = ((0, []), askV P f) := by unfold polyOfV; rw [if_neg h]
theorem polyOfV_range {P : List Fn} {m : Nat} {g : Fn} {pick : Int} (h : askV P m = 0) (hg : P[m]? = some g) (hp : inR pick 0 ((g.outs.len : Int) - 1) = false) : polyOfV P m pick = ((0, []), 2) := by unfold polyOfV; rw [if_pos h, Int.toNat_natCast, hg]; simp only; rw [if_neg (by rw [hp]; simp)]
theorem polyOfV_go {P : List Fn} {m pk : Nat} {g : Fn} (h : askV P m = 0) (hg : P[m]? = some g) (hp : inR (pk : Int) 0 ((g.outs.len : Int) - 1) = true) : polyOfV P m pk = polyPick g.params pk (pvAll (pv g.params P 3001) (unkL g.params g.params.toNat) g.outs 0) := by unfold polyOfV; rw [if_pos h, Int.toNat_natCast, hg]; simp only; rw [if_pos hp, Int.toNat_natCast]
theorem polyPick_ok {u : Int} {P : List Fn} {es : Es} {env tss : List (List Term')} {pk : Nat} {s' c' : Int} (h : ResIs (pvAC u P 3001 0 es env 0) tss s' c') : (c' = 0 → polyPick u pk (pvAll (pv u P 3001) env es 0) = ((u, tss.getD pk []), 0)) ∧ (c' ≠ 0 → polyPick u pk (pvAll (pv u P 3001) env es 0) = ((0, []), c')) := by
  refine ⟨fun hc => ?_, fun hc => ?_⟩
  · obtain ⟨_, t1, _, _, _, h4⟩ := pvAC_next h hc
    rw [h4]; rfl
  · rw [pvAC_bad h hc rfl]; rfl

theorem PEnv.getAll {w : World} {S : Nat → Prop} {u : Int} {A : Option Addr} {env : List (List Term')} (h : PEnv w S u A env) {j : Nat} {ts : List Term'} (hz : env[j]? = some ts) :
    ∃ b o Aj cj, A = some ⟨b, o, none⟩ ∧ b < w.heap.size ∧ PAt w S Aj ts ∧ polyOk u ts = true ∧ ∀ w', OnlyH S w w' → w'.cell? ⟨b, o + j * 2, none⟩ = some (.int .i64 u) ∧ w'.cell? ⟨b, o + j * 2 + 1, none⟩ = some (.slice Aj ts.length cj) := by
  obtain ⟨h1, b, o, f, hA, hf⟩ := h
  have h0 : 0 < env.length := by have := (List.getElem?_eq_some_iff.1 hz).1; omega
  exact ⟨b, o, (f j).1, (f j).2, hA h0, (hf w (OnlyH.refl _ _) h0).1, fun w' ho => ((hf w' ho h0).2 j ts hz).2.2, h1 ts (List.mem_of_getElem? hz), fun w' ho => ⟨((hf w' ho h0).2 j ts hz).1, ((hf w' ho h0).2 j ts hz).2.1⟩⟩

set_option maxRecDepth 100000 in
set_option maxHeartbeats 1000000 in
theorem cloneT_any (A : Option Addr) (cap n : Nat) (ts : List Term') (w : World) (hT : TmsAt w A ts) (hl : ts.length ≤ 1000) (nT : LenT n ts) :
    Calls Tryz.prog 112 #[.slice A ts.length cap] w (ConcatPost n ts w) := by
  have q22 : ∀ (w : World) (a : Option Addr) (n c n' c' : Nat), (binOp .eql 84 (.slice a n c) (.slice none n' c')).run Tryz.prog w = .ok (.bool a.isNone) w := fun w a n c n' c' => Lib.run_eql_slice_nil w _ _ a n c n' c' Tryz.underlying84
  cases A with
  | none =>
    have h0 : ts = [] := by
      cases ts with
      | nil => rfl
      | cons t r => obtain ⟨b, o, e, _⟩ := hT (by simp); cases e
    subst h0
    go_enter Tryz.func112, Tryz.ntmps112
    go_wp2
    go_ret
    exact ⟨none, 0, rfl, fun h => by simp at h, Below.refl _ _, fun q hq => by obtain ⟨h, _⟩ := hq; simp at h⟩
  | some a =>
    obtain ⟨us, hC⟩ := hT.cellsC
    have hg : Below w.heap.size w (w.alloc (.cells #[] 173)) := by go_grown
    have HO : Hid ((w.alloc (.cells #[] 173)).ownsRow w.heap.size 173 2 (.slice (some ⟨w.heap.size, 0, none⟩) 0 0) 0 []) := World.ownsRow_lit w #[] 0 (Nat.le_refl _) (by unfold maxLen; omega) (by rfl)
    have HC := Lib.hid (hC.below hg)
    have HC0 := Lib.hid hC
    have HG := Lib.hid hg
    clear hC hg hT
    go_enter Tryz.func112, Tryz.ntmps112
    go_wp2_with (at_builtin; refine wpList_append_tm rfl _ _ rfl w.heap.size 0 (some ⟨w.heap.size, 0, none⟩) 0 [] rfl HO.out (some a) cap ts us rfl HC.out (by omega) (by omega) HG.out.size HG.out ?_)
    intro A' c' w' hown hb _
    try rw [Nat.zero_add] at hown
    have HP : Hid (ConcatPost n ts w (.returned (.slice A' ts.length c')) w') := by
      have hnil : TmC w none [] [] := ⟨rfl, fun h => absurd h (by simp), fun i x s h => by simp at h⟩
      have := concat_post (A := A') (c := c') HC0.out hnil nT (fun t h => by simp at h) (by rw [List.append_nil]; simpa [cellsT] using hown) hb
      rw [List.append_nil] at this
      exact this
    clear hown hb
    try rw [Nat.zero_add]
    go_wp2
    go_ret
    exact HP.out


set_option maxRecDepth 100000 in
set_option maxHeartbeats 4000000 in
theorem polyOfI {A : Option Addr} {cap : Nat} (P : List Fn) (f pick : Int) (w : World) (hP : ProgIn w P A cap) :
    Calls Tryz.prog 47 #[prV A P.length cap, .int .i64 f, .int .i64 pick] w (RetQi (polyOfV P f pick).1 (polyOfV P f pick).2 w) := by
  obtain ⟨W0, hW0⟩ : ∃ W0, W0 = (w.alloc (.cells #[.slice A P.length cap] 51)).alloc (.cells #[.int .i64 0, .slice none 0 0] 86) := ⟨_, rfl⟩
  have HB0 : Hid (Below w.heap.size w W0) := by show Below _ _ _; rw [hW0]; go_grown
  have HQ0 : Hid (Cells W0 w.heap.size 51 [.slice A P.length cap]) := by
    show Cells _ _ _ _
    rw [hW0]; exact (Cells.new w 51 _).next (by go_grown)
  have HR0 : Hid (Cells W0 (w.heap.size + 1) 86 [.int .i64 0, .slice none 0 0]) := by
    show Cells _ _ _ _
    rw [hW0]
    have := Cells.new (w.alloc (.cells #[.slice A P.length cap] 51)) 86 [.int .i64 0, .slice none 0 0]
    simpa using this
  have HS0 : Hid (W0.heap.size = w.heap.size + 2) := by show _ = _; rw [hW0]; simp
  have HP := Lib.hid hP
  have HW0 := Lib.hid hW0
  have hcap : cap ≤ 9223372036854775807 := by have := hP.pm; unfold maxLen at this; omega
  have HC := Lib.hid (isFunc_any P f w.heap.size A cap W0 (hP.fns.below HB0.out) hP.pl hP.pm HB0.out.size hP.sz)
  have HAF : Hid (∀ w1, Below W0.heap.size W0 w1 → Below w.heap.size w w1 ∧ w.heap.size + 1 < w1.heap.size ∧ Cells w1 w.heap.size 51 [.slice A P.length cap] ∧ Cells w1 (w.heap.size + 1) 86 [.int .i64 0, .slice none 0 0]) := fun w1 hb =>
    ⟨HB0.out.trans (hb.mono HB0.out.size), Nat.lt_of_lt_of_le HR0.out.lt hb.size, HQ0.out.next hb, HR0.out.next hb⟩
  clear hW0 hP
  by_cases ha : askV P f = 0
  case neg =>
    have HV := Lib.hid (polyOfV_ask (pick := pick) ha)
    rw [HV.out]
    obtain ⟨c, hc⟩ : ∃ c, c = askV P f := ⟨_, rfl⟩
    rw [← hc] at HC ha ⊢
    have c0 : (c == 0) = false := by simpa using ha
    have c1 : (c != 0) = true := by simpa using ha
    clear hc ha
    have q00 : W0.cell? ⟨w.heap.size, 0, none⟩ = some (.slice A P.length cap) := by rw [HQ0.out.cell]; rfl
    go_enter Tryz.func47, Tryz.ntmps47
    go_upto_region 1 with fail
    rw [← HW0.out]
    go_wp2_with fail
    refine HC.out.mono ?_; rintro e w1 ⟨rfl, hb1⟩
    obtain ⟨hb, hlt, hq, hr⟩ := HAF.out w1 hb1
    have y0 : w1.cell? ⟨w.heap.size + 1, 0, none⟩ = some (.int .i64 0) := by rw [hr.cell]; rfl
    have y1 : w1.cell? ⟨w.heap.size + 1, 1, none⟩ = some (.slice none 0 0) := by rw [hr.cell]; rfl
    have f0 : w1.frozen? ⟨w.heap.size + 1, 0, none⟩ = false := hr.frozen _
    have f1 : w1.frozen? ⟨w.heap.size + 1, 1, none⟩ = false := hr.frozen _
    have hD1 := hr.set_ 0 (.int .i64 0)
    have hD2 := hD1.set_ 1 (.slice none 0 0)
    have z0 := hD1.cell 0
    have z1 := hD2.cell 1
    simp only [List.set_cons_zero, List.set_cons_succ, List.getElem?_cons_zero, List.getElem?_cons_succ] at z0 z1
    clear hD1 hD2
    have HB := Lib.hid hb
    clear hb hq hr hb1 q00
    go_wp2
    refine bodyPost_ret (v := .tuple #[poV 0 none 0 0, .int .i64 c]) (by simp [results, Tryz.results47, go_sem, z0, z1]) rfl ?_
    exact retQ (R := []) HB.out (RT.empty _ _ (Nat.le_refl _) _) hlt _ _
  case pos =>
    obtain ⟨hok, m, g, rfl, hg⟩ := askV_zero ha
    have hfi := fnIn hok hg
    rw [ha] at HC
    have HOK := Lib.hid hok
    have HFI := Lib.hid hfi
    have HG := Lib.hid hg
    have HA := Lib.hid ha
    have hml : m < P.length := (List.getElem?_eq_some_iff.1 hg).1
    have hml2 : (m : Int) < (P.length : Int) := by omega
    have ho12 := hfi.o12
    have u0 := hfi.p0
    have u1 := hfi.p12
    obtain ⟨u, hu⟩ : ∃ u, u = g.params := ⟨_, rfl⟩
    have HU := Lib.hid hu
    rw [← hu] at u0 u1
    have hwo : IntKind.i64.wrap ((g.outs.len : Int) - 1) = (g.outs.len : Int) - 1 := by rw [IntKind.wrap_i64]; omega
    clear ha hok hg hfi hu
    obtain ⟨bP, oP, hA, hbP, _, v1, _, KF, cF, v2, hcF, hmF, hKo⟩ := (HP.out.fns.below (HB0.out)).get HG.out
    subst hA
    rw [← HU.out] at v1
    have HIN := Lib.hid (fun wx => within_any pick 0 ((g.outs.len : Int) - 1) wx)
    have HV12 := Lib.hid (And.intro v1 v2)
    have HKO := Lib.hid hKo
    clear v1 v2 hKo
    cases hin : inR pick 0 ((g.outs.len : Int) - 1)
    · have HV := Lib.hid (polyOfV_range HA.out HG.out hin)
      rw [HV.out]
      rw [hin] at HIN
      clear hin
      go_enter Tryz.func47, Tryz.ntmps47
      go_upto_region 1 with fail
      rw [← HW0.out]
      have q00 : W0.cell? ⟨w.heap.size, 0, none⟩ = some (.slice (some ⟨bP, oP, none⟩) P.length cap) := by rw [HQ0.out.cell]; rfl
      go_wp2_with fail
      refine HC.out.mono ?_; rintro e w1 ⟨rfl, hb1⟩
      obtain ⟨hb, hlt, hq, hr⟩ := HAF.out w1 hb1
      have q0 : w1.cell? ⟨w.heap.size, 0, none⟩ = some (.slice (some ⟨bP, oP, none⟩) P.length cap) := by rw [hq.cell]; rfl
      have v2 := keepC HV12.out.2 hb1
      have y0 : w1.cell? ⟨w.heap.size + 1, 0, none⟩ = some (.int .i64 0) := by rw [hr.cell]; rfl
      have y1 : w1.cell? ⟨w.heap.size + 1, 1, none⟩ = some (.slice none 0 0) := by rw [hr.cell]; rfl
      have f0 : w1.frozen? ⟨w.heap.size + 1, 0, none⟩ = false := hr.frozen _
      have f1 : w1.frozen? ⟨w.heap.size + 1, 1, none⟩ = false := hr.frozen _
      have hD1 := hr.set_ 0 (.int .i64 0)
      have hD2 := hD1.set_ 1 (.slice none 0 0)
      have z0 := hD1.cell 0
      have z1 := hD2.cell 1
      simp only [List.set_cons_zero, List.set_cons_succ, List.getElem?_cons_zero, List.getElem?_cons_succ] at z0 z1
      clear hD1 hD2
      have HB := Lib.hid hb
      have hbP1 : bP < w1.heap.size := by have := hb.size; omega
      clear hb hq hr hb1 q00
      go_wp2_with (go_at_call 90; refine (HIN.out _).mono ?_; rintro e w' ⟨rfl, rfl⟩)
      refine bodyPost_ret (v := .tuple #[poV 0 none 0 0, .int .i64 2]) (by simp [results, Tryz.results47, go_sem, z0, z1]) rfl ?_
      exact retQ (R := []) HB.out (RT.empty _ _ (Nat.le_refl _) _) hlt _ _
    · obtain ⟨pk, rfl⟩ := Int.eq_ofNat_of_zero_le (inR_true.1 hin).1
      have hpk : pk < g.outs.len := by have := (inR_true.1 hin).2; omega
      have HV := Lib.hid (polyOfV_go HA.out HG.out hin)
      rw [HV.out, ← HU.out]
      rw [hin] at HIN
      clear hin
      go_enter Tryz.func47, Tryz.ntmps47
      go_upto_region 1 with fail
      rw [← HW0.out]
      have q00 : W0.cell? ⟨w.heap.size, 0, none⟩ = some (.slice (some ⟨bP, oP, none⟩) P.length cap) := by rw [HQ0.out.cell]; rfl
      go_wp2_with fail
      refine HC.out.mono ?_; rintro e w1 ⟨rfl, hb1⟩
      obtain ⟨hb, hlt, hq, hr⟩ := HAF.out w1 hb1
      have q0 : w1.cell? ⟨w.heap.size, 0, none⟩ = some (.slice (some ⟨bP, oP, none⟩) P.length cap) := by rw [hq.cell]; rfl
      have v2 := keepC HV12.out.2 hb1
      have v1 := keepC HV12.out.1 hb1
      have HB1 := Lib.hid hb
      have HR1 := Lib.hid hr
      have HX1 := Lib.hid (And.intro q0 (And.intro v1 v2))
      have hbP1 : bP < w1.heap.size := by have := hb.size; omega
      have hKo1 := HKO.out.below (hb1.mono (by have := HB0.out.size; omega))
      have HKO1 := Lib.hid hKo1
      have hFS1 := HP.out.fns.below hb
      have HFS1 := Lib.hid hFS1
      clear hb hq hr hb1 q00 hKo1 hFS1 HAF
      go_wp2_with (go_at_call 90; refine (HIN.out _).mono ?_; rintro e w' ⟨rfl, rfl⟩)
      have HS6 : Hid (w1.drew.cell? ⟨w.heap.size, 0, none⟩ = some (.slice (some ⟨bP, oP, none⟩) P.length cap) ∧ w1.drew.cell? ⟨bP, oP + m * 3 + 1, none⟩ = some (.int .i64 u)) := ⟨HX1.out.1, HX1.out.2.1⟩
      refine RegE.start (S := fun wx => wx.cell? ⟨w.heap.size, 0, none⟩ = some (.slice (some ⟨bP, oP, none⟩) P.length cap) ∧ wx.cell? ⟨bP, oP + m * 3 + 1, none⟩ = some (.int .i64 u)) 9 (by kernel_rfl) (by kernel_rfl) ?Sa0 (fun hHeld hB => ?_)
      case Sa0 => ((try dsimp only); exact HS6.out)
      refine RegE.takeL (S := fun wx => wx.cell? ⟨w.heap.size, 0, none⟩ = some (.slice (some ⟨bP, oP, none⟩) P.length cap) ∧ wx.cell? ⟨bP, oP + m * 3 + 1, none⟩ = some (.int .i64 u)) (i := 0) (v := ?va0) hB rfl (by decide) (by kernel_rfl) (by kernel_rfl) (fun _ _ _ h => h) (Or.inl ⟨by rfl, ?ya0⟩) hHeld ?ra0
      case ya0 => ((intro w hSw; (try dsimp only at hSw); go_simp) <;> with_reducible rfl)
      (try simp only [Act.put, List.setIfInBounds_toArray, List.set_cons_zero, List.set_cons_succ])
      refine RegE.takeL (S := fun wx => wx.cell? ⟨w.heap.size, 0, none⟩ = some (.slice (some ⟨bP, oP, none⟩) P.length cap) ∧ wx.cell? ⟨bP, oP + m * 3 + 1, none⟩ = some (.int .i64 u)) (i := 1) (v := ?va1) hB rfl (by decide) (by kernel_rfl) (by kernel_rfl) (fun _ _ _ h => h) (Or.inl ⟨by rfl, ?ya1⟩) hHeld ?ra1
      case ya1 => ((intro w hSw; (try dsimp only at hSw); go_simp) <;> with_reducible rfl)
      (try simp only [Act.put, List.setIfInBounds_toArray, List.set_cons_zero, List.set_cons_succ])
      refine RegE.takeL (S := fun wx => wx.cell? ⟨w.heap.size, 0, none⟩ = some (.slice (some ⟨bP, oP, none⟩) P.length cap) ∧ wx.cell? ⟨bP, oP + m * 3 + 1, none⟩ = some (.int .i64 u)) (i := 2) (v := ?va2) hB rfl (by decide) (by kernel_rfl) (by kernel_rfl) (fun _ _ _ h => h) (Or.inl ⟨by rfl, ?ya2⟩) hHeld ?ra2
      case ya2 => ((intro w hSw; (try dsimp only at hSw); go_simp) <;> with_reducible rfl)
      (try simp only [Act.put, List.setIfInBounds_toArray, List.set_cons_zero, List.set_cons_succ])
      refine RegE.takeL (S := fun wx => wx.cell? ⟨w.heap.size, 0, none⟩ = some (.slice (some ⟨bP, oP, none⟩) P.length cap) ∧ wx.cell? ⟨bP, oP + m * 3 + 1, none⟩ = some (.int .i64 u)) (i := 3) (v := ?va3) hB rfl (by decide) (by kernel_rfl) (by kernel_rfl) (fun _ _ _ h => h) (Or.inl ⟨by rfl, ?ya3⟩) hHeld ?ra3
      case ya3 => ((intro w hSw; (try dsimp only at hSw); go_simp) <;> with_reducible rfl)
      (try simp only [Act.put, List.setIfInBounds_toArray, List.set_cons_zero, List.set_cons_succ])
      refine RegE.takeL (S := fun wx => wx.cell? ⟨w.heap.size, 0, none⟩ = some (.slice (some ⟨bP, oP, none⟩) P.length cap) ∧ wx.cell? ⟨bP, oP + m * 3 + 1, none⟩ = some (.int .i64 u)) (i := 4) (v := ?va4) hB rfl (by decide) (by kernel_rfl) (by kernel_rfl) (fun _ _ _ h => h) (Or.inl ⟨by rfl, ?ya4⟩) hHeld ?ra4
      case ya4 => ((intro w hSw; (try dsimp only at hSw); go_simp) <;> with_reducible rfl)
      (try simp only [Act.put, List.setIfInBounds_toArray, List.set_cons_zero, List.set_cons_succ])
      refine RegE.takeL (S := fun wx => wx.cell? ⟨w.heap.size, 0, none⟩ = some (.slice (some ⟨bP, oP, none⟩) P.length cap) ∧ wx.cell? ⟨bP, oP + m * 3 + 1, none⟩ = some (.int .i64 u)) (i := 5) (v := ?va5) hB rfl (by decide) (by kernel_rfl) (by kernel_rfl) (fun _ _ _ h => h) (Or.inl ⟨by rfl, ?ya5⟩) hHeld ?ra5
      case ya5 => ((intro w hSw; (try dsimp only at hSw); go_simp) <;> with_reducible rfl)
      (try simp only [Act.put, List.setIfInBounds_toArray, List.set_cons_zero, List.set_cons_succ])
      refine RegE.takeL (S := fun wx => wx.cell? ⟨w.heap.size, 0, none⟩ = some (.slice (some ⟨bP, oP, none⟩) P.length cap) ∧ wx.cell? ⟨bP, oP + m * 3 + 1, none⟩ = some (.int .i64 u)) (i := 6) (v := ?va6) hB rfl (by decide) (by kernel_rfl) (by kernel_rfl) (fun _ _ _ h => h) (Or.inl ⟨by rfl, ?ya6⟩) hHeld ?ra6
      case ya6 => ((intro w hSw; (try dsimp only at hSw); go_simp) <;> with_reducible rfl)
      (try simp only [Act.put, List.setIfInBounds_toArray, List.set_cons_zero, List.set_cons_succ])
      refine RegE.takeL (S := fun wx => wx.cell? ⟨w.heap.size, 0, none⟩ = some (.slice (some ⟨bP, oP, none⟩) P.length cap) ∧ wx.cell? ⟨bP, oP + m * 3 + 1, none⟩ = some (.int .i64 u)) (i := 7) (v := ?va7) hB rfl (by decide) (by kernel_rfl) (by kernel_rfl) (fun _ _ _ h => h) (Or.inl ⟨by rfl, ?ya7⟩) hHeld ?ra7
      case ya7 => ((intro w hSw; (try dsimp only at hSw); go_simp) <;> with_reducible rfl)
      (try simp only [Act.put, List.setIfInBounds_toArray, List.set_cons_zero, List.set_cons_succ])
      refine RegE.stepL (i := 8) rfl (by decide) (by kernel_rfl) (fun K hK => ?_)
      go_simp
      refine hK.out _ _ ?Sa8 (fun hHeldN => ?_)
      case Sa8 => ((try dsimp only); exact ⟨keepC HX1.out.1 (by go_grown), keepC HX1.out.2.1 (by go_grown)⟩)
      clear hK K hHeld
      have hHeld := hHeldN
      clear hHeldN
      (try simp only [Act.put, List.setIfInBounds_toArray, List.set_cons_zero, List.set_cons_succ])
      refine RegE.lastL rfl (by kernel_rfl) (by kernel_rfl) (fun K hK => ?_)
      go_simp
      refine hK.out _ _ ?_
      clear hK K
      have hgr : Below w1.heap.size w1 (w1.alloc (.cells #[.slice (some ⟨bP, oP, none⟩) P.length cap, .int .i64 u, .int .i64 0, .int .i64 0] 168)).drew := (show Below w1.heap.size w1 (w1.alloc (.cells #[.slice (some ⟨bP, oP, none⟩) P.length cap, .int .i64 u, .int .i64 0, .int .i64 0] 168)) by go_grown).drew
      have hrd : Cells (w1.alloc (.cells #[.slice (some ⟨bP, oP, none⟩) P.length cap, .int .i64 u, .int .i64 0, .int .i64 0] 168)).drew w1.heap.size 168 [.slice (some ⟨bP, oP, none⟩) P.length cap, .int .i64 u, .int .i64 0, .int .i64 0] := (Cells.new w1 168 _).drewN 1
      go_upto_region 7 with fail
      change Code.wp _ _ _ _ (w1.alloc (.cells #[.slice (some ⟨bP, oP, none⟩) P.length cap, .int .i64 u, .int .i64 0, .int .i64 0] 168)).drew
      generalize (w1.alloc (.cells #[.slice (some ⟨bP, oP, none⟩) P.length cap, .int .i64 u, .int .i64 0, .int .i64 0] 168)).drew = W2 at *
      have hbr0 : w.heap.size + 2 ≤ w1.heap.size := by have := HB1.out.size; have := HR1.out.lt; omega
      have HRD := Lib.hid hrd
      have hbrW : w1.heap.size < W2.heap.size := hrd.lt
      have HGR := Lib.hid hgr
      have HEV : Hid (EvIn W2 w.heap.size w1.heap.size 1 P (some ⟨bP, oP, none⟩) cap) := ⟨HFS1.out.below (hgr.mono (by omega)), HP.out.pl, HP.out.pm, by omega, hbrW, HOK.out, by omega, by omega⟩
      have HSI : Hid (SIn W2 w.heap.size (fun q => q ≤ w1.heap.size) w1.heap.size u) := ⟨Nat.le_refl _, fun q e => Nat.lt_of_le_of_lt e hbrW, trivial, u0, u1⟩
      have hw1W : w1.heap.size ≤ W2.heap.size := hgr.size
      have HUK := Lib.hid (unknowns_any u (fun q => q ≤ w1.heap.size) W2.drew (fun q e => Nat.lt_of_le_of_lt e hbrW) u0 u1)
      have HALL := Lib.hid (polyAll_any P u 3001)
      have HK7 : Hid (∀ w', Only (fun q => q = w1.heap.size) W2 w' → w'.cell? ⟨w.heap.size, 0, none⟩ = some (.slice (some ⟨bP, oP, none⟩) P.length cap) ∧ w'.cell? ⟨bP, oP + m * 3 + 2, none⟩ = some (.slice KF g.outs.len cF)) := fun w' ho =>
        ⟨(ho.cell (a := ⟨w.heap.size, 0, none⟩) (by show w.heap.size < _; omega) (show ¬ w.heap.size = w1.heap.size by omega)).trans (keepC HX1.out.1 HGR.out), (ho.cell (a := ⟨bP, _, none⟩) (by show bP < _; omega) (show ¬ bP = w1.heap.size by omega)).trans (keepC HX1.out.2.2 HGR.out)⟩
      have HLS : Hid (∀ (A3 : Option Addr) (c3 : Nat) (w3 : World), Only (fun q => q = w1.heap.size) W2 w3 → PEnv w3 (fun q => q ≤ w1.heap.size) u A3 (unkL u u.toNat) → u.toNat ≤ c3 → c3 ≤ maxLen → LsInP w3 w.heap.size (fun q => q ≤ w1.heap.size) u P m g.outs KF cF A3 (unkL u u.toNat) c3) := fun A3 c3 w3 ho hE h1 h2 =>
        ⟨(HKO1.out.below (HGR.out.mono (by omega))).below (only_below ho (by omega) hbrW), hcF, hmF, hE, by rw [unkL_length]; exact h1, h2, by rw [unkL_length]; have := HFI.out.dep; omega, HFI.out.size, fun j z hz => by rw [unkL_length, Int.toNat_of_nonneg u0, HU.out]; exact (HFI.out.each j z hz).1, by omega, by omega⟩
      have hOd : Only (fun q => q = w1.heap.size) W2 W2.drew := (Only.refl _ W2).drewN 1
      have HOD := Lib.hid hOd
      have HRDD : Hid (Cells W2.drew w1.heap.size _ _) := hrd.drewN 1
      clear hgr hrd
      refine RegE.start (S := fun wx => wx.cell? ⟨w.heap.size, 0, none⟩ = some (.slice (some ⟨bP, oP, none⟩) P.length cap) ∧ wx.cell? ⟨bP, oP + m * 3 + 2, none⟩ = some (.slice KF g.outs.len cF) ∧ wx.cell? ⟨w1.heap.size, 1, none⟩ = some (.int .i64 u)) 13 (by kernel_rfl) (by kernel_rfl) ?Sb0 (fun hHeld hB => ?_)
      case Sb0 => ((try dsimp only); exact ⟨(HK7.out _ HOD.out).1, (HK7.out _ HOD.out).2, by rw [HRDD.out.cell]; rfl⟩)
      refine RegE.takeL (S := fun wx => wx.cell? ⟨w.heap.size, 0, none⟩ = some (.slice (some ⟨bP, oP, none⟩) P.length cap) ∧ wx.cell? ⟨bP, oP + m * 3 + 2, none⟩ = some (.slice KF g.outs.len cF) ∧ wx.cell? ⟨w1.heap.size, 1, none⟩ = some (.int .i64 u)) (i := 0) (v := ?vb0) hB rfl (by decide) (by kernel_rfl) (by kernel_rfl) (fun _ _ _ h => h) (Or.inl ⟨by rfl, ?yb0⟩) hHeld ?rb0
      case yb0 => ((intro w hSw; (try dsimp only at hSw); go_simp) <;> with_reducible rfl)
      (try simp only [Act.put, List.setIfInBounds_toArray, List.set_cons_zero, List.set_cons_succ])
      refine RegE.takeL (S := fun wx => wx.cell? ⟨w.heap.size, 0, none⟩ = some (.slice (some ⟨bP, oP, none⟩) P.length cap) ∧ wx.cell? ⟨bP, oP + m * 3 + 2, none⟩ = some (.slice KF g.outs.len cF) ∧ wx.cell? ⟨w1.heap.size, 1, none⟩ = some (.int .i64 u)) (i := 1) (v := ?vb1) hB rfl (by decide) (by kernel_rfl) (by kernel_rfl) (fun _ _ _ h => h) (Or.inl ⟨by rfl, ?yb1⟩) hHeld ?rb1
      case yb1 => ((intro w hSw; (try dsimp only at hSw); go_simp) <;> with_reducible rfl)
      (try simp only [Act.put, List.setIfInBounds_toArray, List.set_cons_zero, List.set_cons_succ])
      refine RegE.takeL (S := fun wx => wx.cell? ⟨w.heap.size, 0, none⟩ = some (.slice (some ⟨bP, oP, none⟩) P.length cap) ∧ wx.cell? ⟨bP, oP + m * 3 + 2, none⟩ = some (.slice KF g.outs.len cF) ∧ wx.cell? ⟨w1.heap.size, 1, none⟩ = some (.int .i64 u)) (i := 2) (v := ?vb2) hB rfl (by decide) (by kernel_rfl) (by kernel_rfl) (fun _ _ _ h => h) (Or.inl ⟨by rfl, ?yb2⟩) hHeld ?rb2
      case yb2 => ((intro w hSw; (try dsimp only at hSw); go_simp) <;> with_reducible rfl)
      (try simp only [Act.put, List.setIfInBounds_toArray, List.set_cons_zero, List.set_cons_succ])
      refine RegE.takeL (S := fun wx => wx.cell? ⟨w.heap.size, 0, none⟩ = some (.slice (some ⟨bP, oP, none⟩) P.length cap) ∧ wx.cell? ⟨bP, oP + m * 3 + 2, none⟩ = some (.slice KF g.outs.len cF) ∧ wx.cell? ⟨w1.heap.size, 1, none⟩ = some (.int .i64 u)) (i := 3) (v := ?vb3) hB rfl (by decide) (by kernel_rfl) (by kernel_rfl) (fun _ _ _ h => h) (Or.inl ⟨by rfl, ?yb3⟩) hHeld ?rb3
      case yb3 => ((intro w hSw; (try dsimp only at hSw); go_simp) <;> with_reducible rfl)
      (try simp only [Act.put, List.setIfInBounds_toArray, List.set_cons_zero, List.set_cons_succ])
      refine RegE.takeL (S := fun wx => wx.cell? ⟨w.heap.size, 0, none⟩ = some (.slice (some ⟨bP, oP, none⟩) P.length cap) ∧ wx.cell? ⟨bP, oP + m * 3 + 2, none⟩ = some (.slice KF g.outs.len cF) ∧ wx.cell? ⟨w1.heap.size, 1, none⟩ = some (.int .i64 u)) (i := 4) (v := ?vb4) hB rfl (by decide) (by kernel_rfl) (by kernel_rfl) (fun _ _ _ h => h) (Or.inl ⟨by rfl, ?yb4⟩) hHeld ?rb4
      case yb4 => ((intro w hSw; (try dsimp only at hSw); go_simp) <;> with_reducible rfl)
      (try simp only [Act.put, List.setIfInBounds_toArray, List.set_cons_zero, List.set_cons_succ])
      refine RegE.takeL (S := fun wx => wx.cell? ⟨w.heap.size, 0, none⟩ = some (.slice (some ⟨bP, oP, none⟩) P.length cap) ∧ wx.cell? ⟨bP, oP + m * 3 + 2, none⟩ = some (.slice KF g.outs.len cF) ∧ wx.cell? ⟨w1.heap.size, 1, none⟩ = some (.int .i64 u)) (i := 5) (v := ?vb5) hB rfl (by decide) (by kernel_rfl) (by kernel_rfl) (fun _ _ _ h => h) (Or.inl ⟨by rfl, ?yb5⟩) hHeld ?rb5
      case yb5 => ((intro w hSw; (try dsimp only at hSw); go_simp) <;> with_reducible rfl)
      (try simp only [Act.put, List.setIfInBounds_toArray, List.set_cons_zero, List.set_cons_succ])
      refine RegE.takeL (S := fun wx => wx.cell? ⟨w.heap.size, 0, none⟩ = some (.slice (some ⟨bP, oP, none⟩) P.length cap) ∧ wx.cell? ⟨bP, oP + m * 3 + 2, none⟩ = some (.slice KF g.outs.len cF) ∧ wx.cell? ⟨w1.heap.size, 1, none⟩ = some (.int .i64 u)) (i := 6) (v := ?vb6) hB rfl (by decide) (by kernel_rfl) (by kernel_rfl) (fun _ _ _ h => h) (Or.inl ⟨by rfl, ?yb6⟩) hHeld ?rb6
      case yb6 => ((intro w hSw; (try dsimp only at hSw); go_simp) <;> with_reducible rfl)
      (try simp only [Act.put, List.setIfInBounds_toArray, List.set_cons_zero, List.set_cons_succ])
      refine RegE.takeL (S := fun wx => wx.cell? ⟨w.heap.size, 0, none⟩ = some (.slice (some ⟨bP, oP, none⟩) P.length cap) ∧ wx.cell? ⟨bP, oP + m * 3 + 2, none⟩ = some (.slice KF g.outs.len cF) ∧ wx.cell? ⟨w1.heap.size, 1, none⟩ = some (.int .i64 u)) (i := 7) (v := ?vb7) hB rfl (by decide) (by kernel_rfl) (by kernel_rfl) (fun _ _ _ h => h) (Or.inl ⟨by rfl, ?yb7⟩) hHeld ?rb7
      case yb7 => ((intro w hSw; (try dsimp only at hSw); go_simp) <;> with_reducible rfl)
      (try simp only [Act.put, List.setIfInBounds_toArray, List.set_cons_zero, List.set_cons_succ])
      refine RegE.takeL (S := fun wx => wx.cell? ⟨w.heap.size, 0, none⟩ = some (.slice (some ⟨bP, oP, none⟩) P.length cap) ∧ wx.cell? ⟨bP, oP + m * 3 + 2, none⟩ = some (.slice KF g.outs.len cF) ∧ wx.cell? ⟨w1.heap.size, 1, none⟩ = some (.int .i64 u)) (i := 8) (v := ?vb8) hB rfl (by decide) (by kernel_rfl) (by kernel_rfl) (fun _ _ _ h => h) (Or.inl ⟨by rfl, ?yb8⟩) hHeld ?rb8
      case yb8 => ((intro w hSw; (try dsimp only at hSw); go_simp) <;> with_reducible rfl)
      (try simp only [Act.put, List.setIfInBounds_toArray, List.set_cons_zero, List.set_cons_succ])
      refine RegE.takeL (S := fun wx => wx.cell? ⟨w.heap.size, 0, none⟩ = some (.slice (some ⟨bP, oP, none⟩) P.length cap) ∧ wx.cell? ⟨bP, oP + m * 3 + 2, none⟩ = some (.slice KF g.outs.len cF) ∧ wx.cell? ⟨w1.heap.size, 1, none⟩ = some (.int .i64 u)) (i := 9) (v := ?vb9) hB rfl (by decide) (by kernel_rfl) (by kernel_rfl) (fun _ _ _ h => h) (Or.inl ⟨by rfl, ?yb9⟩) hHeld ?rb9
      case yb9 => ((intro w hSw; (try dsimp only at hSw); go_simp) <;> with_reducible rfl)
      (try simp only [Act.put, List.setIfInBounds_toArray, List.set_cons_zero, List.set_cons_succ])
      refine RegE.takeL (S := fun wx => wx.cell? ⟨w.heap.size, 0, none⟩ = some (.slice (some ⟨bP, oP, none⟩) P.length cap) ∧ wx.cell? ⟨bP, oP + m * 3 + 2, none⟩ = some (.slice KF g.outs.len cF) ∧ wx.cell? ⟨w1.heap.size, 1, none⟩ = some (.int .i64 u)) (i := 10) (v := ?vb10) hB rfl (by decide) (by kernel_rfl) (by kernel_rfl) (fun _ _ _ h => h) (Or.inl ⟨by rfl, ?yb10⟩) hHeld ?rb10
      case yb10 => ((intro w hSw; (try dsimp only at hSw); go_simp) <;> with_reducible rfl)
      (try simp only [Act.put, List.setIfInBounds_toArray, List.set_cons_zero, List.set_cons_succ])
      refine RegE.stepL (i := 11) rfl (by decide) (by kernel_rfl) (fun K hK => ?_)
      go_simp
      go_at_call 110
      refine HUK.out.mono ?_
      rintro e w3 ⟨A3, c3, rfl, e1, e2, e3, hb3⟩
      have hO3 : Only (fun q => q = w1.heap.size) W2 w3 := hOd.trans (Only.of_below hb3)
      have hr3 := HRDD.out.next hb3
      have hul : u.toNat = (unkL u u.toNat).length := by rw [unkL_length]
      have hz := HALL.out g.outs (unkL u u.toNat) 0 0 0 m KF cF w.heap.size (fun q => q ≤ w1.heap.size) w1.heap.size A3 (some ⟨bP, oP, none⟩) c3 cap w3 (HEV.out.only hO3) (HSI.out.mono hO3.size) hr3 (fun _ => ⟨rfl, by omega, by omega⟩) (HLS.out A3 c3 w3 hO3 e3 e1 e2)
      rw [unkL_length] at hz
      have HZ := Lib.hid hz
      clear hz hul
      refine hK.out _ _ ?Sb11 (fun hHeldN => ?_)
      case Sb11 => ((try dsimp only); exact ⟨(HK7.out _ hO3).1, (HK7.out _ hO3).2, by rw [hr3.cell]; rfl⟩)
      clear hK K hHeld
      have hHeld := hHeldN
      clear hHeldN
      (try simp only [Act.put, List.setIfInBounds_toArray, List.set_cons_zero, List.set_cons_succ])
      refine RegE.stepL (i := 12) rfl (by decide) (by kernel_rfl) (fun K hK => ?_)
      go_simp
      go_at_call 109
      refine HZ.out.mono ?_
      rintro e w4 ⟨A4, c4, tss, s', c', rfl, hl4, hc4, hm4, hE4, hS4, hO4, hres⟩
      refine hK.out _ _ ?Sb12 (fun hHeldN => ?_)
      case Sb12 => ((try dsimp only); exact ⟨(HK7.out _ (hO3.trans hO4)).1, (HK7.out _ (hO3.trans hO4)).2, by rw [hS4.cell]; rfl⟩)
      clear hK K hHeld
      have hHeld := hHeldN
      clear hHeldN
      (try simp only [Act.put, List.setIfInBounds_toArray, List.set_cons_zero, List.set_cons_succ])
      refine RegE.lastL rfl (by kernel_rfl) (by kernel_rfl) (fun K hK => ?_)
      go_simp
      refine hK.out _ _ ?_
      clear hK K
      have hO24 := hO3.trans hO4
      have HBW4 : Hid (Below w.heap.size w w4) := HB1.out.trans ((HGR.out.mono HB1.out.size).trans (hO24.below (by have := HB1.out.size; omega) (fun q e => by omega)))
      have HR4 := Lib.hid (only_cells (HR1.out.next HGR.out) hO24 (by omega))
      have HS4 := Lib.hid hS4
      have HE4 := Lib.hid hE4
      have HPK := Lib.hid (polyPick_ok (pk := pk) hres)
      have hs4 : w1.heap.size < w4.heap.size := hS4.lt
      have k3 : w4.cell? ⟨w1.heap.size, 3, none⟩ = some (.int .i64 c') := by rw [hS4.cell]; rfl
      have k1 : w4.cell? ⟨w1.heap.size, 1, none⟩ = some (.int .i64 u) := by rw [hS4.cell]; rfl
      have hlt4 : w.heap.size + 1 < w4.heap.size := HR4.out.lt
      have HL4 := Lib.hid hl4
      have hm4' : c4 ≤ 9223372036854775807 := by unfold maxLen at hm4; omega
      clear hO3 hO4 hO24 hE4 hS4 hres hr3 hb3 e3 HUK HLS HALL HZ HEV HSI HRD HRDD HOD hOd hl4
      by_cases hcc : c' = 0
      · subst hcc
        rw [HPK.out.1 rfl]
        have hpk4 : pk < tss.length := by rw [HL4.out]; exact hpk
        obtain ⟨ts, hts⟩ : ∃ ts, tss[pk]? = some ts := ⟨_, List.getElem?_eq_getElem hpk4⟩
        have htd : tss.getD pk [] = ts := by simp [List.getD, hts]
        have HPV := HPK.out.1 rfl
        rw [htd] at HPV
        have HPV := Lib.hid HPV
        obtain ⟨b4, o4, At, ct, rfl, hb4, hPt, hokt, hall⟩ := HE4.out.getAll hts
        have d1 := (hall w4 (OnlyH.refl _ _)).2
        have HDA := Lib.hid hall
        have HPT := Lib.hid (And.intro hPt hokt)
        have hpkI : (pk : Int) < (g.outs.len : Int) := by omega
        have HD1 := Lib.hid d1
        clear hts htd hPt hokt hpk4 hall
        go_wp2_with fail
        have HSS : Hid (w4.drew.cell? ⟨w1.heap.size, 1, none⟩ = some (.int .i64 u) ∧ w4.drew.cell? ⟨b4, o4 + pk * 2 + 1, none⟩ = some (.slice At ts.length ct)) := ⟨k1, d1⟩
        have hlen := (polyOk_size HPT.out.2).2.2
        have HCL := Lib.hid (cloneT_any At ct u.toNat ts w4.drew (HPT.out.1.only ((Only.refl _ w4).drewN 1)).now (by omega) (polyOk_len' HPT.out.2))
        refine RegE.start (S := fun wx => wx.cell? ⟨w1.heap.size, 1, none⟩ = some (.int .i64 u) ∧ wx.cell? ⟨b4, o4 + pk * 2 + 1, none⟩ = some (.slice At ts.length ct)) 12 (by kernel_rfl) (by kernel_rfl) ?Sc0 (fun hHeld hB => ?_)
        case Sc0 => ((try dsimp only); exact HSS.out)
        refine RegE.takeL (S := fun wx => wx.cell? ⟨w1.heap.size, 1, none⟩ = some (.int .i64 u) ∧ wx.cell? ⟨b4, o4 + pk * 2 + 1, none⟩ = some (.slice At ts.length ct)) (i := 0) (v := ?vc0) hB rfl (by decide) (by kernel_rfl) (by kernel_rfl) (fun _ _ _ h => h) (Or.inl ⟨by rfl, ?yc0⟩) hHeld ?rc0
        case yc0 => ((intro w hSw; (try dsimp only at hSw); go_simp) <;> with_reducible rfl)
        (try simp only [Act.put, List.setIfInBounds_toArray, List.set_cons_zero, List.set_cons_succ])
        refine RegE.takeL (S := fun wx => wx.cell? ⟨w1.heap.size, 1, none⟩ = some (.int .i64 u) ∧ wx.cell? ⟨b4, o4 + pk * 2 + 1, none⟩ = some (.slice At ts.length ct)) (i := 1) (v := ?vc1) hB rfl (by decide) (by kernel_rfl) (by kernel_rfl) (fun _ _ _ h => h) (Or.inl ⟨by rfl, ?yc1⟩) hHeld ?rc1
        case yc1 => ((intro w hSw; (try dsimp only at hSw); go_simp) <;> with_reducible rfl)
        (try simp only [Act.put, List.setIfInBounds_toArray, List.set_cons_zero, List.set_cons_succ])
        refine RegE.takeL (S := fun wx => wx.cell? ⟨w1.heap.size, 1, none⟩ = some (.int .i64 u) ∧ wx.cell? ⟨b4, o4 + pk * 2 + 1, none⟩ = some (.slice At ts.length ct)) (i := 2) (v := ?vc2) hB rfl (by decide) (by kernel_rfl) (by kernel_rfl) (fun _ _ _ h => h) (Or.inl ⟨by rfl, ?yc2⟩) hHeld ?rc2
        case yc2 => ((intro w hSw; (try dsimp only at hSw); go_simp) <;> with_reducible rfl)
        (try simp only [Act.put, List.setIfInBounds_toArray, List.set_cons_zero, List.set_cons_succ])
        refine RegE.takeL (S := fun wx => wx.cell? ⟨w1.heap.size, 1, none⟩ = some (.int .i64 u) ∧ wx.cell? ⟨b4, o4 + pk * 2 + 1, none⟩ = some (.slice At ts.length ct)) (i := 3) (v := ?vc3) hB rfl (by decide) (by kernel_rfl) (by kernel_rfl) (fun _ _ _ h => h) (Or.inl ⟨by rfl, ?yc3⟩) hHeld ?rc3
        case yc3 => ((intro w hSw; (try dsimp only at hSw); go_simp) <;> with_reducible rfl)
        (try simp only [Act.put, List.setIfInBounds_toArray, List.set_cons_zero, List.set_cons_succ])
        refine RegE.takeL (S := fun wx => wx.cell? ⟨w1.heap.size, 1, none⟩ = some (.int .i64 u) ∧ wx.cell? ⟨b4, o4 + pk * 2 + 1, none⟩ = some (.slice At ts.length ct)) (i := 4) (v := ?vc4) hB rfl (by decide) (by kernel_rfl) (by kernel_rfl) (fun _ _ _ h => h) (Or.inl ⟨by rfl, ?yc4⟩) hHeld ?rc4
        case yc4 => ((intro w hSw; (try dsimp only at hSw); go_simp) <;> with_reducible rfl)
        (try simp only [Act.put, List.setIfInBounds_toArray, List.set_cons_zero, List.set_cons_succ])
        refine RegE.takeL (S := fun wx => wx.cell? ⟨w1.heap.size, 1, none⟩ = some (.int .i64 u) ∧ wx.cell? ⟨b4, o4 + pk * 2 + 1, none⟩ = some (.slice At ts.length ct)) (i := 5) (v := ?vc5) hB rfl (by decide) (by kernel_rfl) (by kernel_rfl) (fun _ _ _ h => h) (Or.inl ⟨by rfl, ?yc5⟩) hHeld ?rc5
        case yc5 => ((intro w hSw; (try dsimp only at hSw); go_simp) <;> with_reducible rfl)
        (try simp only [Act.put, List.setIfInBounds_toArray, List.set_cons_zero, List.set_cons_succ])
        refine RegE.takeL (S := fun wx => wx.cell? ⟨w1.heap.size, 1, none⟩ = some (.int .i64 u) ∧ wx.cell? ⟨b4, o4 + pk * 2 + 1, none⟩ = some (.slice At ts.length ct)) (i := 6) (v := ?vc6) hB rfl (by decide) (by kernel_rfl) (by kernel_rfl) (fun _ _ _ h => h) (Or.inl ⟨by rfl, ?yc6⟩) hHeld ?rc6
        case yc6 => ((intro w hSw; (try dsimp only at hSw); go_simp) <;> with_reducible rfl)
        (try simp only [Act.put, List.setIfInBounds_toArray, List.set_cons_zero, List.set_cons_succ])
        refine RegE.takeL (S := fun wx => wx.cell? ⟨w1.heap.size, 1, none⟩ = some (.int .i64 u) ∧ wx.cell? ⟨b4, o4 + pk * 2 + 1, none⟩ = some (.slice At ts.length ct)) (i := 7) (v := ?vc7) hB rfl (by decide) (by kernel_rfl) (by kernel_rfl) (fun _ _ _ h => h) (Or.inl ⟨by rfl, ?yc7⟩) hHeld ?rc7
        case yc7 => ((intro w hSw; (try dsimp only at hSw); go_simp) <;> with_reducible rfl)
        (try simp only [Act.put, List.setIfInBounds_toArray, List.set_cons_zero, List.set_cons_succ])
        refine RegE.takeL (S := fun wx => wx.cell? ⟨w1.heap.size, 1, none⟩ = some (.int .i64 u) ∧ wx.cell? ⟨b4, o4 + pk * 2 + 1, none⟩ = some (.slice At ts.length ct)) (i := 8) (v := ?vc8) hB rfl (by decide) (by kernel_rfl) (by kernel_rfl) (fun _ _ _ h => h) (Or.inl ⟨by rfl, ?yc8⟩) hHeld ?rc8
        case yc8 => ((intro w hSw; (try dsimp only at hSw); go_simp) <;> with_reducible rfl)
        (try simp only [Act.put, List.setIfInBounds_toArray, List.set_cons_zero, List.set_cons_succ])
        refine RegE.stepL (i := 9) rfl (by decide) (by kernel_rfl) (fun K hK => ?_)
        go_simp
        go_at_call 112
        refine HCL.out.mono ?_
        rintro e w5 ⟨A5, c5, rfl, hRO, hb5, hIB⟩
        have HGA := Lib.hid (gathered_any u A5 c5 u.toNat ts w5 (by omega) (by omega) hRO)
        refine hK.out _ _ ?Sc9 (fun hHeldN => ?_)
        case Sc9 => ((try dsimp only); exact ⟨keepC HSS.out.1 hb5, keepC HSS.out.2 hb5⟩)
        clear hK K hHeld
        have hHeld := hHeldN
        clear hHeldN
        (try simp only [Act.put, List.setIfInBounds_toArray, List.set_cons_zero, List.set_cons_succ])
        refine RegE.stepL (i := 10) rfl (by decide) (by kernel_rfl) (fun K hK => ?_)
        go_simp
        go_at_call 111
        refine HGA.out.mono ?_
        rintro e w6 ⟨A6, c6, R6, rfl, hRT, hcan, hcof, _, _, hO6⟩
        have hRR : R6 = ts := by rw [nfT_eq hcan hcof]; exact nfT_self (polyOk_canon HPT.out.2)
        subst hRR
        have hb6 : Below w4.heap.size w4 w6 := (show Below w4.heap.size w4 w5 from Below.trans (Below.refl _ _).drew (hb5.mono (Nat.le_refl _))).trans (hO6.below hb5.size (fun q hq => hIB q hq))
        have hr6 := HR4.out.next hb6
        refine hK.out _ _ ?Sc10 (fun hHeldN => ?_)
        case Sc10 => ((try dsimp only); exact ⟨keepC k1 hb6, keepC HD1.out hb6⟩)
        clear hK K hHeld
        have hHeld := hHeldN
        clear hHeldN
        (try simp only [Act.put, List.setIfInBounds_toArray, List.set_cons_zero, List.set_cons_succ])
        have y0 : w6.cell? ⟨w.heap.size + 1, 0, none⟩ = some (.int .i64 0) := by rw [hr6.cell]; rfl
        have y1 : w6.cell? ⟨w.heap.size + 1, 1, none⟩ = some (.slice none 0 0) := by rw [hr6.cell]; rfl
        have f0 : w6.frozen? ⟨w.heap.size + 1, 0, none⟩ = false := hr6.frozen _
        have f1 : w6.frozen? ⟨w.heap.size + 1, 1, none⟩ = false := hr6.frozen _
        have hk11 : ((w6.setCell ⟨w.heap.size + 1, 0, none⟩ (.int .i64 u)).setCell ⟨w.heap.size + 1, 1, none⟩ (.slice A6 R6.length c6)).cell? ⟨w1.heap.size, 1, none⟩ = some (.int .i64 u) ∧ ((w6.setCell ⟨w.heap.size + 1, 0, none⟩ (.int .i64 u)).setCell ⟨w.heap.size + 1, 1, none⟩ (.slice A6 R6.length c6)).cell? ⟨b4, o4 + pk * 2 + 1, none⟩ = some (.slice At R6.length ct) := by
          have e1 : ¬ (w1.heap.size = w.heap.size + 1) := by omega
          have hOx : OnlyH (fun q => q ≤ w1.heap.size) w4 ((w6.setCell ⟨w.heap.size + 1, 0, none⟩ (.int .i64 u)).setCell ⟨w.heap.size + 1, 1, none⟩ (.slice A6 R6.length c6)) := ⟨Nat.le_trans hb6.size (by simp [World.setCell]), fun q hq hn => ((Below.heap_setCell _ _ _ _ (fun e => hn (by have e' : q = w.heap.size + 1 := e; omega))).trans (Below.heap_setCell _ _ _ _ (fun e => hn (by have e' : q = w.heap.size + 1 := e; omega)))).trans (hb6.block q hq)⟩
          exact ⟨by rw [World.cell?_setCell_other _ _ _ _ (fun e => e1 (congrArg Addr.block e).symm), World.cell?_setCell_other _ _ _ _ (fun e => e1 (congrArg Addr.block e).symm)]; exact keepC k1 hb6, (HDA.out _ hOx).2⟩
        have hD1 := hr6.set_ 0 (.int .i64 u)
        have hD2 := hD1.set_ 1 (.slice A6 R6.length c6)
        have z0 := hD1.cell 0
        have z1 := hD2.cell 1
        simp only [List.set_cons_zero, List.set_cons_succ, List.getElem?_cons_zero, List.getElem?_cons_succ] at z0 z1
        clear hD1 hD2
        refine RegE.stepL (i := 11) rfl (by decide) (by kernel_rfl) (fun K hK => ?_)
        go_simp
        refine hK.out _ _ ?Sc11 (fun hHeldN => ?_)
        case Sc11 => ((try dsimp only); exact hk11)
        clear hK K hHeld
        have hHeld := hHeldN
        clear hHeldN
        (try simp only [Act.put, List.setIfInBounds_toArray, List.set_cons_zero, List.set_cons_succ])
        refine RegE.lastL rfl (by kernel_rfl) (by kernel_rfl) (fun K hK => ?_)
        go_simp
        refine hK.out _ _ ?_
        clear hK K
        have HRT := Lib.hid hRT
        have HBF := Lib.hid (HBW4.out.trans (hb6.mono HBW4.out.size))
        have hlo : w.heap.size + 1 < w5.heap.size := by have := hb5.size; have e : w4.drew.heap.size = w4.heap.size := rfl; omega
        clear hRT hb6 hr6 hk11 hb5 hRO hIB hcan hcof hO6 HGA HCL
        go_wp2
        refine bodyPost_ret (v := .tuple #[poV u A6 R6.length c6, .int .i64 0]) (by simp [results, Tryz.results47, go_sem, z0, z1]) rfl ?_
        try rw [HPV.out]
        exact retQ HBF.out HRT.out hlo _ _
      · have HPV := Lib.hid (HPK.out.2 hcc)
        have hcb : (c' != 0) = true := by simpa using hcc
        clear hcc
        go_wp2_with fail
        have hrD : Cells w4.drew (w.heap.size + 1) 86 [.int .i64 0, .slice none 0 0] := HR4.out.drewN 1
        have HS9 : Hid (w4.drew.cell? ⟨w1.heap.size, 3, none⟩ = some (.int .i64 c')) := k3
        have y0 : w4.drew.cell? ⟨w.heap.size + 1, 0, none⟩ = some (.int .i64 0) := by rw [hrD.cell]; rfl
        have y1 : w4.drew.cell? ⟨w.heap.size + 1, 1, none⟩ = some (.slice none 0 0) := by rw [hrD.cell]; rfl
        have f0 : w4.drew.frozen? ⟨w.heap.size + 1, 0, none⟩ = false := hrD.frozen _
        have f1 : w4.drew.frozen? ⟨w.heap.size + 1, 1, none⟩ = false := hrD.frozen _
        have hD1 := hrD.set_ 0 (.int .i64 0)
        have hD2 := hD1.set_ 1 (.slice none 0 0)
        have z0 := hD1.cell 0
        have z1 := hD2.cell 1
        simp only [List.set_cons_zero, List.set_cons_succ, List.getElem?_cons_zero, List.getElem?_cons_succ] at z0 z1
        clear hD1 hD2
        have hk3 : ((w4.drew.setCell ⟨w.heap.size + 1, 0, none⟩ (.int .i64 0)).setCell ⟨w.heap.size + 1, 1, none⟩ (.slice none 0 0)).cell? ⟨w1.heap.size, 3, none⟩ = some (.int .i64 c') := by
          have e1 : ¬ (w1.heap.size = w.heap.size + 1) := by omega
          rw [World.cell?_setCell_other _ _ _ _ (fun e => e1 (congrArg Addr.block e).symm), World.cell?_setCell_other _ _ _ _ (fun e => e1 (congrArg Addr.block e).symm)]; exact k3
        have HBF : Hid (Below w.heap.size w w4.drew) := HBW4.out.drew
        refine RegE.start (S := fun wx => wx.cell? ⟨w1.heap.size, 3, none⟩ = some (.int .i64 c')) 6 (by kernel_rfl) (by kernel_rfl) ?Sd0 (fun hHeld hB => ?_)
        case Sd0 => ((try dsimp only); exact HS9.out)
        have hlt5 : w.heap.size + 1 < w4.drew.heap.size := hlt4
        clear HS9
        generalize w4.drew = W5 at *
        refine RegE.takeL (S := fun wx => wx.cell? ⟨w1.heap.size, 3, none⟩ = some (.int .i64 c')) (i := 0) (v := ?vd0) hB rfl (by decide) (by kernel_rfl) (by kernel_rfl) (fun _ _ _ h => h) (Or.inl ⟨by rfl, ?yd0⟩) hHeld ?rd0
        case yd0 => ((intro w hSw; (try dsimp only at hSw); go_simp) <;> with_reducible rfl)
        (try simp only [Act.put, List.setIfInBounds_toArray, List.set_cons_zero, List.set_cons_succ])
        refine RegE.takeL (S := fun wx => wx.cell? ⟨w1.heap.size, 3, none⟩ = some (.int .i64 c')) (i := 1) (v := ?vd1) hB rfl (by decide) (by kernel_rfl) (by kernel_rfl) (fun _ _ _ h => h) (Or.inl ⟨by rfl, ?yd1⟩) hHeld ?rd1
        case yd1 => ((intro w hSw; (try dsimp only at hSw); go_simp) <;> with_reducible rfl)
        (try simp only [Act.put, List.setIfInBounds_toArray, List.set_cons_zero, List.set_cons_succ])
        refine RegE.takeL (S := fun wx => wx.cell? ⟨w1.heap.size, 3, none⟩ = some (.int .i64 c')) (i := 2) (v := ?vd2) hB rfl (by decide) (by kernel_rfl) (by kernel_rfl) (fun _ _ _ h => h) (Or.inl ⟨by rfl, ?yd2⟩) hHeld ?rd2
        case yd2 => ((intro w hSw; (try dsimp only at hSw); go_simp) <;> with_reducible rfl)
        (try simp only [Act.put, List.setIfInBounds_toArray, List.set_cons_zero, List.set_cons_succ])
        refine RegE.takeL (S := fun wx => wx.cell? ⟨w1.heap.size, 3, none⟩ = some (.int .i64 c')) (i := 3) (v := ?vd3) hB rfl (by decide) (by kernel_rfl) (by kernel_rfl) (fun _ _ _ h => h) (Or.inl ⟨by rfl, ?yd3⟩) hHeld ?rd3
        case yd3 => ((intro w hSw; (try dsimp only at hSw); go_simp) <;> with_reducible rfl)
        (try simp only [Act.put, List.setIfInBounds_toArray, List.set_cons_zero, List.set_cons_succ])
        refine RegE.takeL (S := fun wx => wx.cell? ⟨w1.heap.size, 3, none⟩ = some (.int .i64 c')) (i := 4) (v := ?vd4) hB rfl (by decide) (by kernel_rfl) (by kernel_rfl) (fun _ _ _ h => h) (Or.inl ⟨by rfl, ?yd4⟩) hHeld ?rd4
        case yd4 => ((intro w hSw; (try dsimp only at hSw); go_simp) <;> with_reducible rfl)
        (try simp only [Act.put, List.setIfInBounds_toArray, List.set_cons_zero, List.set_cons_succ])
        refine RegE.stepL (i := 5) rfl (by decide) (by kernel_rfl) (fun K hK => ?_)
        go_simp
        refine hK.out _ _ ?Sd5 (fun hHeldN => ?_)
        case Sd5 => ((try dsimp only); exact hk3)
        clear hK K hHeld
        have hHeld := hHeldN
        clear hHeldN
        (try simp only [Act.put, List.setIfInBounds_toArray, List.set_cons_zero, List.set_cons_succ])
        refine RegE.lastL rfl (by kernel_rfl) (by kernel_rfl) (fun K hK => ?_)
        go_simp
        refine hK.out _ _ ?_
        clear hK K
        clear hrD hk3
        go_wp2
        refine bodyPost_ret (v := .tuple #[poV 0 none 0 0, .int .i64 c']) (by simp [results, Tryz.results47, go_sem, z0, z1]) rfl ?_
        try rw [HPV.out]
        exact retQ (R := []) HBF.out (RT.empty _ _ (Nat.le_refl _) _) hlt5 _ _

end Go.Proofs.YtgfkglhelfkpoaaGreat

/- PolyOf of the reference. -/
namespace Go.Proofs.YtgfkglhelfkpoaaGreat
open Go.RowKit Plain

def RetQsi (a : Int × List Term') (b : Int) (w : World) (e : Ending) (w' : World) : Prop :=
  Below w.heap.size w w' ∧ ∃ A cp, e = .returned (.tuple #[poV a.1 A a.2.length cp, .int .i64 b]) ∧ Reg w' w.heap.size w'.heap.size (TmsI w.heap.size w'.heap.size A a.2)
theorem retQs0 {w w1 : World} {c : Int} (hb : Below w.heap.size w w1) (x y : Value) :
    RetQsi (0, []) c w (.returned (.tuple #[poV 0 none 0 0, .int .i64 c])) ((w1.setCell ⟨w.heap.size + 1, 0, none⟩ x).setCell ⟨w.heap.size + 1, 1, none⟩ y) := by
  have hb2 := (hb.setCell (p := ⟨w.heap.size + 1, 0, none⟩) (by simp) x).setCell (p := ⟨w.heap.size + 1, 1, none⟩) (by simp) y
  exact ⟨hb2, none, 0, rfl, hb2.size, Nat.le_refl _, fun h => absurd h (by simp), fun _ _ h hb => h.keep hb⟩


set_option maxRecDepth 100000 in
set_option maxHeartbeats 4000000 in
theorem polyOfS {A : Option Addr} {cap : Nat} (P : List Fn) (f pick : Int) (w : World) (hP : ProgIn w P A cap) :
    Calls Tryz.prog 46 #[prV A P.length cap, .int .i64 f, .int .i64 pick] w (RetQsi (polyOfV P f pick).1 (polyOfV P f pick).2 w) := by
  obtain ⟨W0, hW0⟩ : ∃ W0, W0 = (w.alloc (.cells #[.slice A P.length cap] 51)).alloc (.cells #[.int .i64 0, .slice none 0 0] 86) := ⟨_, rfl⟩
  have HB0 : Hid (Below w.heap.size w W0) := by show Below _ _ _; rw [hW0]; go_grown
  have HQ0 : Hid (Cells W0 w.heap.size 51 [.slice A P.length cap]) := by
    show Cells _ _ _ _
    rw [hW0]; exact (Cells.new w 51 _).next (by go_grown)
  have HR0 : Hid (Cells W0 (w.heap.size + 1) 86 [.int .i64 0, .slice none 0 0]) := by
    show Cells _ _ _ _
    rw [hW0]
    have := Cells.new (w.alloc (.cells #[.slice A P.length cap] 51)) 86 [.int .i64 0, .slice none 0 0]
    simpa using this
  have HS0 : Hid (W0.heap.size = w.heap.size + 2) := by show _ = _; rw [hW0]; simp
  have HP := Lib.hid hP
  have HW0 := Lib.hid hW0
  have hcap : cap ≤ 9223372036854775807 := by have := hP.pm; unfold maxLen at this; omega
  have hPR : PrAt W0 (w.heap.size + 1) P w.heap.size 0 := ⟨by omega, A, cap, by rw [HQ0.out.cell]; rfl, hP.pl, hP.pm, (hP.fns.below HB0.out).mono (by omega)⟩
  have HPR := Lib.hid hPR
  have HC := Lib.hid (askedS_any P f w.heap.size 0 (w.heap.size + 1) W0 hPR (by have := HS0.out; omega) hP.sz)
  clear hPR
  have HAF : Hid (∀ w1, Below W0.heap.size W0 w1 → Below w.heap.size w w1 ∧ w.heap.size + 1 < w1.heap.size ∧ Cells w1 w.heap.size 51 [.slice A P.length cap] ∧ Cells w1 (w.heap.size + 1) 86 [.int .i64 0, .slice none 0 0]) := fun w1 hb =>
    ⟨HB0.out.trans (hb.mono HB0.out.size), Nat.lt_of_lt_of_le HR0.out.lt hb.size, HQ0.out.next hb, HR0.out.next hb⟩
  clear hW0 hP
  by_cases ha : askV P f = 0
  case neg =>
    have HV := Lib.hid (polyOfV_ask (pick := pick) ha)
    rw [HV.out]
    obtain ⟨c, hc⟩ : ∃ c, c = askV P f := ⟨_, rfl⟩
    rw [← hc] at HC ha ⊢
    have c0 : (c == 0) = false := by simpa using ha
    have c1 : (c != 0) = true := by simpa using ha
    clear hc ha
    have q00 : W0.cell? ⟨w.heap.size, 0, none⟩ = some (.slice A P.length cap) := by rw [HQ0.out.cell]; rfl
    go_enter Tryz.func46, Tryz.ntmps46
    go_upto_region 1 with fail
    rw [← HW0.out]
    go_wp2_with fail
    refine HC.out.mono ?_; rintro e w1 ⟨rfl, hb1⟩
    obtain ⟨hb, hlt, hq, hr⟩ := HAF.out w1 hb1
    have y0 : w1.cell? ⟨w.heap.size + 1, 0, none⟩ = some (.int .i64 0) := by rw [hr.cell]; rfl
    have y1 : w1.cell? ⟨w.heap.size + 1, 1, none⟩ = some (.slice none 0 0) := by rw [hr.cell]; rfl
    have f0 : w1.frozen? ⟨w.heap.size + 1, 0, none⟩ = false := hr.frozen _
    have f1 : w1.frozen? ⟨w.heap.size + 1, 1, none⟩ = false := hr.frozen _
    have hD1 := hr.set_ 0 (.int .i64 0)
    have hD2 := hD1.set_ 1 (.slice none 0 0)
    have z0 := hD1.cell 0
    have z1 := hD2.cell 1
    simp only [List.set_cons_zero, List.set_cons_succ, List.getElem?_cons_zero, List.getElem?_cons_succ] at z0 z1
    clear hD1 hD2
    have HB := Lib.hid hb
    clear hb hq hr hb1 q00
    go_wp2
    refine bodyPost_ret (v := .tuple #[poV 0 none 0 0, .int .i64 c]) (by simp [results, Tryz.results46, go_sem, z0, z1]) rfl ?_
    exact retQs0 HB.out _ _
  case pos =>
    obtain ⟨hok, m, g, rfl, hg⟩ := askV_zero ha
    have hfi := fnIn hok hg
    rw [ha] at HC
    have HOK := Lib.hid hok
    have HFI := Lib.hid hfi
    have HG := Lib.hid hg
    have HA := Lib.hid ha
    have hml : m < P.length := (List.getElem?_eq_some_iff.1 hg).1
    have hml2 : (m : Int) < (P.length : Int) := by omega
    have ho12 := hfi.o12
    have u0 := hfi.p0
    have u1 := hfi.p12
    obtain ⟨u, hu⟩ : ∃ u, u = g.params := ⟨_, rfl⟩
    have HU := Lib.hid hu
    rw [← hu] at u0 u1
    have hwo : IntKind.i64.wrap ((g.outs.len : Int) - 1) = (g.outs.len : Int) - 1 := by rw [IntKind.wrap_i64]; omega
    clear ha hok hg hfi hu
    obtain ⟨bP, oP, hA, hbP, _, v1, _, KF, cF, v2, hcF, hmF, hKo⟩ := (HP.out.fns.below (HB0.out)).get HG.out
    subst hA
    rw [← HU.out] at v1
    have HIN := Lib.hid (fun wx => in_quiet pick 0 ((g.outs.len : Int) - 1) wx)
    have HV12 := Lib.hid (And.intro v1 v2)
    have HKO := Lib.hid hKo
    clear v1 v2 hKo
    cases hin : inR pick 0 ((g.outs.len : Int) - 1)
    · have HV := Lib.hid (polyOfV_range HA.out HG.out hin)
      rw [HV.out]
      rw [hin] at HIN
      clear hin
      go_enter Tryz.func46, Tryz.ntmps46
      go_upto_region 1 with fail
      rw [← HW0.out]
      go_wp2_with fail
      refine HC.out.mono ?_; rintro e w1 ⟨rfl, hb1⟩
      obtain ⟨hb, hlt, hq, hr⟩ := HAF.out w1 hb1
      have q0 : w1.cell? ⟨w.heap.size, 0, none⟩ = some (.slice (some ⟨bP, oP, none⟩) P.length cap) := by rw [hq.cell]; rfl
      have v2 := keepC HV12.out.2 hb1
      have y0 : w1.cell? ⟨w.heap.size + 1, 0, none⟩ = some (.int .i64 0) := by rw [hr.cell]; rfl
      have y1 : w1.cell? ⟨w.heap.size + 1, 1, none⟩ = some (.slice none 0 0) := by rw [hr.cell]; rfl
      have f0 : w1.frozen? ⟨w.heap.size + 1, 0, none⟩ = false := hr.frozen _
      have f1 : w1.frozen? ⟨w.heap.size + 1, 1, none⟩ = false := hr.frozen _
      have hD1 := hr.set_ 0 (.int .i64 0)
      have hD2 := hD1.set_ 1 (.slice none 0 0)
      have z0 := hD1.cell 0
      have z1 := hD2.cell 1
      simp only [List.set_cons_zero, List.set_cons_succ, List.getElem?_cons_zero, List.getElem?_cons_succ] at z0 z1
      clear hD1 hD2
      have HB := Lib.hid hb
      have hbP1 : bP < w1.heap.size := by have := hb.size; omega
      clear hb hq hr hb1
      go_wp2_with (go_at_call 106; refine (HIN.out _).mono ?_; rintro e w' ⟨rfl, hww⟩; obtain rfl := hww.symm)
      refine bodyPost_ret (v := .tuple #[poV 0 none 0 0, .int .i64 2]) (by simp [results, Tryz.results46, go_sem, z0, z1]) rfl ?_
      exact retQs0 HB.out _ _
    · obtain ⟨pk, rfl⟩ := Int.eq_ofNat_of_zero_le (inR_true.1 hin).1
      have hpk : pk < g.outs.len := by have := (inR_true.1 hin).2; omega
      have HV := Lib.hid (polyOfV_go HA.out HG.out hin)
      rw [HV.out, ← HU.out]
      rw [hin] at HIN
      clear hin
      go_enter Tryz.func46, Tryz.ntmps46
      go_upto_region 1 with fail
      rw [← HW0.out]
      go_wp2_with fail
      refine HC.out.mono ?_; rintro e w1 ⟨rfl, hb1⟩
      obtain ⟨hb, hlt, hq, hr⟩ := HAF.out w1 hb1
      have q0 : w1.cell? ⟨w.heap.size, 0, none⟩ = some (.slice (some ⟨bP, oP, none⟩) P.length cap) := by rw [hq.cell]; rfl
      have v2 := keepC HV12.out.2 hb1
      have v1 := keepC HV12.out.1 hb1
      have HB1 := Lib.hid hb
      have HR1 := Lib.hid hr
      have HX1 := Lib.hid (And.intro q0 (And.intro v1 v2))
      have hbP1 : bP < w1.heap.size := by have := hb.size; omega
      have HKO1 := Lib.hid (HKO.out.below (hb1.mono (by have := HB0.out.size; omega)))
      have HPR1 := Lib.hid (HPR.out.below (hb1.mono (by have := HS0.out; omega)))
      clear hb hq hr hb1 HAF
      go_wp2_with (go_at_call 106; refine (HIN.out _).mono ?_; rintro e w' ⟨rfl, hww⟩; obtain rfl := hww.symm)
      have hgr : Below w1.heap.size w1 (w1.alloc (.cells #[ptr w.heap.size 0, .int .i64 u, .int .i64 0, .int .i64 0] 161)) := by go_grown
      have hrd : Cells (w1.alloc (.cells #[ptr w.heap.size 0, .int .i64 u, .int .i64 0, .int .i64 0] 161)) w1.heap.size 161 [ptr w.heap.size 0, .int .i64 u, .int .i64 0, .int .i64 0] := Cells.new w1 161 _
      change Code.wp _ _ _ _ (w1.alloc (.cells #[ptr w.heap.size 0, .int .i64 u, .int .i64 0, .int .i64 0] 161))
      generalize (w1.alloc (.cells #[ptr w.heap.size 0, .int .i64 u, .int .i64 0, .int .i64 0] 161)) = W2 at *
      have hbr0 : w.heap.size + 2 ≤ w1.heap.size := by have := HB1.out.size; have := HR1.out.lt; omega
      have HRD := Lib.hid hrd
      have hbrW : w1.heap.size < W2.heap.size := hrd.lt
      have HGR := Lib.hid hgr
      have HEV : Hid (SvIn W2 (w.heap.size + 1) w1.heap.size 1 P w.heap.size 0) := ⟨HPR1.out.below (hgr.mono (by omega)), by omega, hbrW, HOK.out, by omega, by omega⟩
      have HSI : Hid (SIn W2 (w.heap.size + 1) (fun q => q ≤ w1.heap.size) w1.heap.size u) := ⟨Nat.le_refl _, fun q e => Nat.lt_of_le_of_lt e hbrW, trivial, u0, u1⟩
      have hw1W : w1.heap.size ≤ W2.heap.size := hgr.size
      have HUK := Lib.hid (inputsQ_any u (fun q => q ≤ w1.heap.size) W2.drew (fun q e => Nat.lt_of_le_of_lt e hbrW) u0 u1)
      have HALL := Lib.hid (outsQ_any P u 3001)
      have HK7 : Hid (∀ w', Only (fun q => q = w1.heap.size) W2 w' → w'.cell? ⟨w.heap.size, 0, none⟩ = some (.slice (some ⟨bP, oP, none⟩) P.length cap) ∧ w'.cell? ⟨bP, oP + m * 3 + 2, none⟩ = some (.slice KF g.outs.len cF)) := fun w' ho =>
        ⟨(ho.cell (a := ⟨w.heap.size, 0, none⟩) (by show w.heap.size < _; omega) (show ¬ w.heap.size = w1.heap.size by omega)).trans (keepC HX1.out.1 HGR.out), (ho.cell (a := ⟨bP, _, none⟩) (by show bP < _; omega) (show ¬ bP = w1.heap.size by omega)).trans (keepC HX1.out.2.2 HGR.out)⟩
      have HLS : Hid (∀ (A3 : Option Addr) (c3 : Nat) (w3 : World), Only (fun q => q = w1.heap.size) W2 w3 → PEnv w3 (fun q => q ≤ w1.heap.size) u A3 (unkL u u.toNat) → u.toNat ≤ c3 → c3 ≤ maxLen → LsInP w3 (w.heap.size + 1) (fun q => q ≤ w1.heap.size) u P m g.outs KF cF A3 (unkL u u.toNat) c3) := fun A3 c3 w3 ho hE h1 h2 =>
        ⟨((HKO1.out.below (HGR.out.mono (by omega))).below (only_below ho (by omega) hbrW)).mono (by omega), hcF, hmF, hE, by rw [unkL_length]; exact h1, h2, by rw [unkL_length]; have := HFI.out.dep; omega, HFI.out.size, fun j z hz => by rw [unkL_length, Int.toNat_of_nonneg u0, HU.out]; exact (HFI.out.each j z hz).1, by omega, by omega⟩
      have hOd : Only (fun q => q = w1.heap.size) W2 W2.drew := (Only.refl _ W2).drewN 1
      have HOD := Lib.hid hOd
      have HRDD : Hid (Cells W2.drew w1.heap.size _ _) := hrd.drewN 1
      clear hgr hrd
      refine RegE.start (S := fun wx => wx.cell? ⟨w.heap.size, 0, none⟩ = some (.slice (some ⟨bP, oP, none⟩) P.length cap) ∧ wx.cell? ⟨w1.heap.size, 1, none⟩ = some (.int .i64 u)) 11 (by kernel_rfl) (by kernel_rfl) ?Sb0 (fun hHeld hB => ?_)
      case Sb0 => ((try dsimp only); exact ⟨(HK7.out _ HOD.out).1, by rw [HRDD.out.cell]; rfl⟩)
      refine RegE.takeL (S := fun wx => wx.cell? ⟨w.heap.size, 0, none⟩ = some (.slice (some ⟨bP, oP, none⟩) P.length cap) ∧ wx.cell? ⟨w1.heap.size, 1, none⟩ = some (.int .i64 u)) (i := 0) (v := ?vb0) hB rfl (by decide) (by kernel_rfl) (by kernel_rfl) (fun _ _ _ h => h) (Or.inl ⟨by rfl, ?yb0⟩) hHeld ?rb0
      case yb0 => ((intro w hSw; (try dsimp only at hSw); go_simp) <;> with_reducible rfl)
      (try simp only [Act.put, List.setIfInBounds_toArray, List.set_cons_zero, List.set_cons_succ])
      refine RegE.takeL (S := fun wx => wx.cell? ⟨w.heap.size, 0, none⟩ = some (.slice (some ⟨bP, oP, none⟩) P.length cap) ∧ wx.cell? ⟨w1.heap.size, 1, none⟩ = some (.int .i64 u)) (i := 1) (v := ?vb1) hB rfl (by decide) (by kernel_rfl) (by kernel_rfl) (fun _ _ _ h => h) (Or.inl ⟨by rfl, ?yb1⟩) hHeld ?rb1
      case yb1 => ((intro w hSw; (try dsimp only at hSw); go_simp) <;> with_reducible rfl)
      (try simp only [Act.put, List.setIfInBounds_toArray, List.set_cons_zero, List.set_cons_succ])
      refine RegE.takeL (S := fun wx => wx.cell? ⟨w.heap.size, 0, none⟩ = some (.slice (some ⟨bP, oP, none⟩) P.length cap) ∧ wx.cell? ⟨w1.heap.size, 1, none⟩ = some (.int .i64 u)) (i := 2) (v := ?vb2) hB rfl (by decide) (by kernel_rfl) (by kernel_rfl) (fun _ _ _ h => h) (Or.inl ⟨by rfl, ?yb2⟩) hHeld ?rb2
      case yb2 => ((intro w hSw; (try dsimp only at hSw); go_simp) <;> with_reducible rfl)
      (try simp only [Act.put, List.setIfInBounds_toArray, List.set_cons_zero, List.set_cons_succ])
      refine RegE.takeL (S := fun wx => wx.cell? ⟨w.heap.size, 0, none⟩ = some (.slice (some ⟨bP, oP, none⟩) P.length cap) ∧ wx.cell? ⟨w1.heap.size, 1, none⟩ = some (.int .i64 u)) (i := 3) (v := ?vb3) hB rfl (by decide) (by kernel_rfl) (by kernel_rfl) (fun _ _ _ h => h) (Or.inl ⟨by rfl, ?yb3⟩) hHeld ?rb3
      case yb3 => ((intro w hSw; (try dsimp only at hSw); go_simp) <;> with_reducible rfl)
      (try simp only [Act.put, List.setIfInBounds_toArray, List.set_cons_zero, List.set_cons_succ])
      refine RegE.takeL (S := fun wx => wx.cell? ⟨w.heap.size, 0, none⟩ = some (.slice (some ⟨bP, oP, none⟩) P.length cap) ∧ wx.cell? ⟨w1.heap.size, 1, none⟩ = some (.int .i64 u)) (i := 4) (v := ?vb4) hB rfl (by decide) (by kernel_rfl) (by kernel_rfl) (fun _ _ _ h => h) (Or.inl ⟨by rfl, ?yb4⟩) hHeld ?rb4
      case yb4 => ((intro w hSw; (try dsimp only at hSw); go_simp) <;> with_reducible rfl)
      (try simp only [Act.put, List.setIfInBounds_toArray, List.set_cons_zero, List.set_cons_succ])
      refine RegE.takeL (S := fun wx => wx.cell? ⟨w.heap.size, 0, none⟩ = some (.slice (some ⟨bP, oP, none⟩) P.length cap) ∧ wx.cell? ⟨w1.heap.size, 1, none⟩ = some (.int .i64 u)) (i := 5) (v := ?vb5) hB rfl (by decide) (by kernel_rfl) (by kernel_rfl) (fun _ _ _ h => h) (Or.inl ⟨by rfl, ?yb5⟩) hHeld ?rb5
      case yb5 => ((intro w hSw; (try dsimp only at hSw); go_simp) <;> with_reducible rfl)
      (try simp only [Act.put, List.setIfInBounds_toArray, List.set_cons_zero, List.set_cons_succ])
      refine RegE.takeL (S := fun wx => wx.cell? ⟨w.heap.size, 0, none⟩ = some (.slice (some ⟨bP, oP, none⟩) P.length cap) ∧ wx.cell? ⟨w1.heap.size, 1, none⟩ = some (.int .i64 u)) (i := 6) (v := ?vb6) hB rfl (by decide) (by kernel_rfl) (by kernel_rfl) (fun _ _ _ h => h) (Or.inl ⟨by rfl, ?yb6⟩) hHeld ?rb6
      case yb6 => ((intro w hSw; (try dsimp only at hSw); go_simp) <;> with_reducible rfl)
      (try simp only [Act.put, List.setIfInBounds_toArray, List.set_cons_zero, List.set_cons_succ])
      refine RegE.takeL (S := fun wx => wx.cell? ⟨w.heap.size, 0, none⟩ = some (.slice (some ⟨bP, oP, none⟩) P.length cap) ∧ wx.cell? ⟨w1.heap.size, 1, none⟩ = some (.int .i64 u)) (i := 7) (v := ?vb7) hB rfl (by decide) (by kernel_rfl) (by kernel_rfl) (fun _ _ _ h => h) (Or.inl ⟨by rfl, ?yb7⟩) hHeld ?rb7
      case yb7 => ((intro w hSw; (try dsimp only at hSw); go_simp) <;> with_reducible rfl)
      (try simp only [Act.put, List.setIfInBounds_toArray, List.set_cons_zero, List.set_cons_succ])
      refine RegE.takeL (S := fun wx => wx.cell? ⟨w.heap.size, 0, none⟩ = some (.slice (some ⟨bP, oP, none⟩) P.length cap) ∧ wx.cell? ⟨w1.heap.size, 1, none⟩ = some (.int .i64 u)) (i := 8) (v := ?vb8) hB rfl (by decide) (by kernel_rfl) (by kernel_rfl) (fun _ _ _ h => h) (Or.inl ⟨by rfl, ?yb8⟩) hHeld ?rb8
      case yb8 => ((intro w hSw; (try dsimp only at hSw); go_simp) <;> with_reducible rfl)
      (try simp only [Act.put, List.setIfInBounds_toArray, List.set_cons_zero, List.set_cons_succ])
      refine RegE.stepL (i := 9) rfl (by decide) (by kernel_rfl) (fun K hK => ?_)
      go_simp
      go_at_call 108
      refine HUK.out.mono ?_
      rintro e w3 ⟨A3, c3, rfl, e1, e2, e3, hb3⟩
      have hO3 : Only (fun q => q = w1.heap.size) W2 w3 := hOd.trans (Only.of_below hb3)
      have hr3 := HRDD.out.next hb3
      have hz := HALL.out g.outs (unkL u u.toNat) 0 0 0 m KF cF bP (oP + m * 3) (w.heap.size + 1) (fun q => q ≤ w1.heap.size) w1.heap.size A3 c3 w.heap.size 0 w3 (HEV.out.only hO3) (HSI.out.mono hO3.size) hr3 (fun _ => ⟨rfl, by omega, by omega⟩) (HLS.out A3 c3 w3 hO3 e3 e1 e2) (HK7.out _ hO3).2 (by omega)
      rw [unkL_length] at hz
      have HZ := Lib.hid hz
      clear hz
      refine hK.out _ _ ?Sb9 (fun hHeldN => ?_)
      case Sb9 => ((try dsimp only); exact ⟨(HK7.out _ hO3).1, by rw [hr3.cell]; rfl⟩)
      clear hK K hHeld
      have hHeld := hHeldN
      clear hHeldN
      (try simp only [Act.put, List.setIfInBounds_toArray, List.set_cons_zero, List.set_cons_succ])
      refine RegE.stepL (i := 10) rfl (by decide) (by kernel_rfl) (fun K hK => ?_)
      go_simp
      go_at_call 107
      refine HZ.out.mono ?_
      rintro e w4 ⟨A4, c4, tss, s', c', rfl, hl4, hc4, hm4, hE4, hS4, hO4, hres⟩
      refine hK.out _ _ ?Sb10 (fun hHeldN => ?_)
      case Sb10 => ((try dsimp only); exact ⟨(HK7.out _ (hO3.trans hO4)).1, by rw [hS4.cell]; rfl⟩)
      clear hK K hHeld
      have hHeld := hHeldN
      clear hHeldN
      (try simp only [Act.put, List.setIfInBounds_toArray, List.set_cons_zero, List.set_cons_succ])
      refine RegE.lastL rfl (by kernel_rfl) (by kernel_rfl) (fun K hK => ?_)
      go_simp
      refine hK.out _ _ ?_
      clear hK K
      have hO24 := hO3.trans hO4
      have HBW4 : Hid (Below w.heap.size w w4) := HB1.out.trans ((HGR.out.mono HB1.out.size).trans (hO24.below (by have := HB1.out.size; omega) (fun q e => by omega)))
      have HR4 := Lib.hid (only_cells (HR1.out.next HGR.out) hO24 (by omega))
      have HS4 := Lib.hid hS4
      have HE4 := Lib.hid hE4
      have HPK := Lib.hid (polyPick_ok (pk := pk) hres)
      have hs4 : w1.heap.size < w4.heap.size := hS4.lt
      have k3 : w4.cell? ⟨w1.heap.size, 3, none⟩ = some (.int .i64 c') := by rw [hS4.cell]; rfl
      have hlt4 : w.heap.size + 1 < w4.heap.size := HR4.out.lt
      have HL4 := Lib.hid hl4
      have hm4' : c4 ≤ 9223372036854775807 := by unfold maxLen at hm4; omega
      clear hO3 hO4 hO24 hE4 hS4 hres hr3 hb3 e3 HUK HLS HALL HZ HEV HSI HRD HRDD HOD hOd hl4
      by_cases hcc : c' = 0
      · subst hcc
        rw [HPK.out.1 rfl]
        have hpk4 : pk < tss.length := by rw [HL4.out]; exact hpk
        obtain ⟨ts, hts⟩ : ∃ ts, tss[pk]? = some ts := ⟨_, List.getElem?_eq_getElem hpk4⟩
        have htd : tss.getD pk [] = ts := by simp [List.getD, hts]
        have HPV := HPK.out.1 rfl
        rw [htd] at HPV
        have HPV := Lib.hid HPV
        obtain ⟨b4, o4, At, ct, rfl, hb4, hPt, hokt, hall⟩ := HE4.out.getAll hts
        obtain ⟨d0, d1⟩ := hall w4 (OnlyH.refl _ _)
        have hr4 := HR4.out
        have hpkI : (pk : Int) < (g.outs.len : Int) := by omega
        have y0 : w4.cell? ⟨w.heap.size + 1, 0, none⟩ = some (.int .i64 0) := by rw [hr4.cell]; rfl
        have y1 : w4.cell? ⟨w.heap.size + 1, 1, none⟩ = some (.slice none 0 0) := by rw [hr4.cell]; rfl
        have f0 : w4.frozen? ⟨w.heap.size + 1, 0, none⟩ = false := hr4.frozen _
        have f1 : w4.frozen? ⟨w.heap.size + 1, 1, none⟩ = false := hr4.frozen _
        have hD1 := hr4.set_ 0 (.int .i64 u)
        have hD2 := hD1.set_ 1 (.slice At ts.length ct)
        have z0 := hD1.cell 0
        have z1 := hD2.cell 1
        simp only [List.set_cons_zero, List.set_cons_succ, List.getElem?_cons_zero, List.getElem?_cons_succ] at z0 z1
        clear hD1 hD2
        have HRET : Hid (RetQsi (u, ts) 0 w (.returned (.tuple #[poV u At ts.length ct, .int .i64 0])) ((w4.setCell ⟨w.heap.size + 1, 0, none⟩ (.int .i64 u)).setCell ⟨w.heap.size + 1, 1, none⟩ (.slice At ts.length ct))) := by
          have hb2 := (HBW4.out.setCell (p := ⟨w.heap.size + 1, 0, none⟩) (by simp) (.int .i64 u)).setCell (p := ⟨w.heap.size + 1, 1, none⟩) (by simp) (.slice At ts.length ct)
          have hOx : Only (fun q => q ≤ w1.heap.size) w4 ((w4.setCell ⟨w.heap.size + 1, 0, none⟩ (.int .i64 u)).setCell ⟨w.heap.size + 1, 1, none⟩ (.slice At ts.length ct)) := ⟨rfl, rfl, rfl, by simp [World.setCell], fun q hq hn => (Below.heap_setCell _ _ _ _ (fun e => hn (by have e' : q = w.heap.size + 1 := e; omega))).trans (Below.heap_setCell _ _ _ _ (fun e => hn (by have e' : q = w.heap.size + 1 := e; omega)))⟩
          exact ⟨hb2, At, ct, rfl, (hPt.only hOx).reg (fun q hq => by omega) hb2.size⟩
        clear hts htd hPt hokt hpk4 hall hr4
        go_wp2
        refine bodyPost_ret (v := .tuple #[poV u At ts.length ct, .int .i64 0]) (by simp [results, Tryz.results46, go_sem, z0, z1]) rfl ?_
        try rw [HPV.out]
        exact HRET.out
      · have HPV := Lib.hid (HPK.out.2 hcc)
        have hcb : (c' != 0) = true := by simpa using hcc
        clear hcc
        go_wp2_with fail
        have hrD : Cells w4.drew (w.heap.size + 1) 86 [.int .i64 0, .slice none 0 0] := HR4.out.drewN 1
        have HS9 : Hid (w4.drew.cell? ⟨w1.heap.size, 3, none⟩ = some (.int .i64 c')) := k3
        have y0 : w4.drew.cell? ⟨w.heap.size + 1, 0, none⟩ = some (.int .i64 0) := by rw [hrD.cell]; rfl
        have y1 : w4.drew.cell? ⟨w.heap.size + 1, 1, none⟩ = some (.slice none 0 0) := by rw [hrD.cell]; rfl
        have f0 : w4.drew.frozen? ⟨w.heap.size + 1, 0, none⟩ = false := hrD.frozen _
        have f1 : w4.drew.frozen? ⟨w.heap.size + 1, 1, none⟩ = false := hrD.frozen _
        have hD1 := hrD.set_ 0 (.int .i64 0)
        have hD2 := hD1.set_ 1 (.slice none 0 0)
        have z0 := hD1.cell 0
        have z1 := hD2.cell 1
        simp only [List.set_cons_zero, List.set_cons_succ, List.getElem?_cons_zero, List.getElem?_cons_succ] at z0 z1
        clear hD1 hD2
        have hk3 : ((w4.drew.setCell ⟨w.heap.size + 1, 0, none⟩ (.int .i64 0)).setCell ⟨w.heap.size + 1, 1, none⟩ (.slice none 0 0)).cell? ⟨w1.heap.size, 3, none⟩ = some (.int .i64 c') := by
          have e1 : ¬ (w1.heap.size = w.heap.size + 1) := by omega
          rw [World.cell?_setCell_other _ _ _ _ (fun e => e1 (congrArg Addr.block e).symm), World.cell?_setCell_other _ _ _ _ (fun e => e1 (congrArg Addr.block e).symm)]; exact k3
        have HBF : Hid (Below w.heap.size w w4.drew) := HBW4.out.drew
        refine RegE.start (S := fun wx => wx.cell? ⟨w1.heap.size, 3, none⟩ = some (.int .i64 c')) 6 (by kernel_rfl) (by kernel_rfl) ?Sd0 (fun hHeld hB => ?_)
        case Sd0 => ((try dsimp only); exact HS9.out)
        have hlt5 : w.heap.size + 1 < w4.drew.heap.size := hlt4
        clear HS9
        generalize w4.drew = W5 at *
        refine RegE.takeL (S := fun wx => wx.cell? ⟨w1.heap.size, 3, none⟩ = some (.int .i64 c')) (i := 0) (v := ?vd0) hB rfl (by decide) (by kernel_rfl) (by kernel_rfl) (fun _ _ _ h => h) (Or.inl ⟨by rfl, ?yd0⟩) hHeld ?rd0
        case yd0 => ((intro w hSw; (try dsimp only at hSw); go_simp) <;> with_reducible rfl)
        (try simp only [Act.put, List.setIfInBounds_toArray, List.set_cons_zero, List.set_cons_succ])
        refine RegE.takeL (S := fun wx => wx.cell? ⟨w1.heap.size, 3, none⟩ = some (.int .i64 c')) (i := 1) (v := ?vd1) hB rfl (by decide) (by kernel_rfl) (by kernel_rfl) (fun _ _ _ h => h) (Or.inl ⟨by rfl, ?yd1⟩) hHeld ?rd1
        case yd1 => ((intro w hSw; (try dsimp only at hSw); go_simp) <;> with_reducible rfl)
        (try simp only [Act.put, List.setIfInBounds_toArray, List.set_cons_zero, List.set_cons_succ])
        refine RegE.takeL (S := fun wx => wx.cell? ⟨w1.heap.size, 3, none⟩ = some (.int .i64 c')) (i := 2) (v := ?vd2) hB rfl (by decide) (by kernel_rfl) (by kernel_rfl) (fun _ _ _ h => h) (Or.inl ⟨by rfl, ?yd2⟩) hHeld ?rd2
        case yd2 => ((intro w hSw; (try dsimp only at hSw); go_simp) <;> with_reducible rfl)
        (try simp only [Act.put, List.setIfInBounds_toArray, List.set_cons_zero, List.set_cons_succ])
        refine RegE.takeL (S := fun wx => wx.cell? ⟨w1.heap.size, 3, none⟩ = some (.int .i64 c')) (i := 3) (v := ?vd3) hB rfl (by decide) (by kernel_rfl) (by kernel_rfl) (fun _ _ _ h => h) (Or.inl ⟨by rfl, ?yd3⟩) hHeld ?rd3
        case yd3 => ((intro w hSw; (try dsimp only at hSw); go_simp) <;> with_reducible rfl)
        (try simp only [Act.put, List.setIfInBounds_toArray, List.set_cons_zero, List.set_cons_succ])
        refine RegE.takeL (S := fun wx => wx.cell? ⟨w1.heap.size, 3, none⟩ = some (.int .i64 c')) (i := 4) (v := ?vd4) hB rfl (by decide) (by kernel_rfl) (by kernel_rfl) (fun _ _ _ h => h) (Or.inl ⟨by rfl, ?yd4⟩) hHeld ?rd4
        case yd4 => ((intro w hSw; (try dsimp only at hSw); go_simp) <;> with_reducible rfl)
        (try simp only [Act.put, List.setIfInBounds_toArray, List.set_cons_zero, List.set_cons_succ])
        refine RegE.stepL (i := 5) rfl (by decide) (by kernel_rfl) (fun K hK => ?_)
        go_simp
        refine hK.out _ _ ?Sd5 (fun hHeldN => ?_)
        case Sd5 => ((try dsimp only); exact hk3)
        clear hK K hHeld
        have hHeld := hHeldN
        clear hHeldN
        (try simp only [Act.put, List.setIfInBounds_toArray, List.set_cons_zero, List.set_cons_succ])
        refine RegE.lastL rfl (by kernel_rfl) (by kernel_rfl) (fun K hK => ?_)
        go_simp
        refine hK.out _ _ ?_
        clear hK K
        clear hrD hk3
        go_wp2
        refine bodyPost_ret (v := .tuple #[poV 0 none 0 0, .int .i64 c']) (by simp [results, Tryz.results46, go_sem, z0, z1]) rfl ?_
        try rw [HPV.out]
        exact retQs0 HBF.out _ _

end Go.Proofs.YtgfkglhelfkpoaaGreat

/- PolyOf's polynomial is not long. -/
namespace Go.Proofs.YtgfkglhelfkpoaaGreat
open Plain

theorem polyOfV_short (P : List Fn) (f pick : Int) : (polyOfV P f pick).1.2.length ≤ 120 ∧ totT (polyOfV P f pick).1.2 ≤ 1440 := by
  have hnil : ([] : List Term').length ≤ 120 ∧ totT [] ≤ 1440 := ⟨by simp, by simp [totT, tot]⟩
  by_cases ha : askV P f = 0
  · obtain ⟨hok, m, g, rfl, hg⟩ := askV_zero ha
    cases hin : inR pick 0 ((g.outs.len : Int) - 1)
    · rw [polyOfV_range ha hg hin]; exact hnil
    · obtain ⟨pk, rfl⟩ := Int.eq_ofNat_of_zero_le (inR_true.1 hin).1
      rw [polyOfV_go ha hg hin]
      have hfi := fnIn hok hg
      have h := pvAll_short (u := g.params) (env := unkL g.params g.params.toNat) (fun x s => pv_short (P := P) 3001 x _ s (unkL_short _ _)) g.outs 0
      revert h
      cases pvAll (pv g.params P 3001) (unkL g.params g.params.toNat) g.outs 0 with
      | err c => intro _; exact hnil
      | ok zs s =>
        intro h
        have hz := shortT_get (u := g.params) h pk
        have hp := hfi.p12
        have h4 := totT_le_mul hz.2
        have h5 : (zs.getD pk []).length * g.params.toNat ≤ 120 * 12 := Nat.mul_le_mul hz.1 (by omega)
        exact ⟨hz.1, by show totT (zs.getD pk []) ≤ 1440; omega⟩
  · rw [polyOfV_ask ha]; exact hnil
end Go.Proofs.YtgfkglhelfkpoaaGreat
