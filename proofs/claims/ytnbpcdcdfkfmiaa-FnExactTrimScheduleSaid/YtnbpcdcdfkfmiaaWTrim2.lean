/- Walk of the reference's TrimSchedule. -/
import Derived.Test.YtnbpcdcdfkfmiaaWTrim
import Derived.Test.YtnbpcdcdfkfmiaaWRun
namespace Go.Proofs.Ytnbpcdcdfkfmiaa
open Go.RowKit Plain

/-- append to an own row, as a step of a region that draws -/
theorem step_append_own {P : Program} {w : World} {ops : Array Oper} {o : Oper} {a : Act} {K : Act → World → Prop} {Q : Exit → Act → World → Prop} {E : Prop} (hgd : o.guard = none) (s x : Operand) (t : TypeId)
    (ho : o.op = .call { callee := .builtin .append, args := #[s, x], argTypes := #[t, t] })
    (base : Nat) (e : TypeId) (i : TypeInfo) (z : Value) (size bytes : Nat) (ht : P.underlying t = some (.slice e)) (hi : P.info? e = some i) (hz : i.zero = some z)
    (hsize : i.size = size) (hby : i.bytes = bytes) (hzs : z.cells.size = size) (hsz : 0 < size)
    (v : Value) (n : Nat) (xs : List Value) (hs : a.eval s = v) (hown : w.ownsRow base e size v n xs)
    (ad : Addr) (m c : Nat) (news : List Value) (hx : a.eval x = .slice (some ad) m c) (hl : news.length = m * size) (hnews : ∀ j u, news[j]? = some u → w.cell? (ad.add j) = some u) (h1 : ∀ u ∈ news, u.oneCell' = true)
    (h63 : n + m ≤ maxLen) (hbytes : (n + m) * bytes ≤ 140737488355328) (hbase : base ≤ w.heap.size)
    (h : ∀ v' w', w'.ownsRow base e size v' (n + m) (xs ++ news) → w.grownBy w' v.ownBlock → K (a.put o.dst v') w') :
    if Region.wanted o (yielded ops a.tmps) = true then Oper.wp P o a w K Q else E := by
  have hw : Region.wanted o (yielded ops a.tmps) = true := by simp [Region.wanted, hgd]
  rw [if_pos hw]
  exact wp_append_own w s x t ho base e i z size bytes ht hi hz hsize hby hzs hsz v n xs hs hown ad m c news hx hl hnews h1 h63 hbytes hbase fun v' w' h2 h3 _ => h v' w' h2 h3

set_option maxRecDepth 100000 in
set_option maxHeartbeats 2000000 in
theorem trimS (A : Addr) (cap : Nat) (l : List (Int × Int)) (n slots : Int) (w : World) (hA : Acts w (some A) l) (hn : l.length ≤ 4611686018427387904) :
    Calls Try.prog 19 #[.slice (some A) l.length cap, .int .i64 n, .int .i64 slots] w (TrimPost (trL l n slots) (trC l n slots) w) := by
  by_cases h0 : planC l n slots = 0
  · obtain ⟨hs, n0, n40, s0, s8⟩ := planC_ok h0
    obtain ⟨m, rfl⟩ := Int.eq_ofNat_of_zero_le n0
    obtain ⟨s, rfl⟩ := Int.eq_ofNat_of_zero_le s0
    obtain ⟨hl4, hac⟩ := isSched_act hs
    clear hac
    obtain ⟨i0, hi, hz0, hz1, hz2⟩ := info_parts Try.infoA
    have HV : Hid (trL l m s = (if badV l m s < 0 then trim l else []) ∧ trC l m s = (if badV l m s < 0 then 0 else 4)) := by show _ ∧ _; simp [trL, trC, h0]
    have H0 := Lib.hid h0; clear h0
    have HS := Lib.hid hs; clear hs
    go_enter Try.func19, Try.ntmps19
    go_wp2_with fail
    refine (l06Asked_any (some A) cap l m s w hA hn).mono ?_; rintro e w1 ⟨rfl, hb⟩
    rw [H0.out]
    have HB := Lib.hid hb; clear hb
    go_wp2_with fail
    refine (l06Bad_any (some A) cap l m s w1 (hA.below HB.out) HS.out (by omega) (by omega)).mono ?_
    rintro e w2 ⟨rfl, hb2⟩
    have HB2 := Lib.hid (bnext HB.out hb2); clear hb2
    by_cases hq : badV l m s < 0
    · have e1 : badB l m s = false := by unfold badB; simpa using hq
      rw [e1]
      have hT : Hid (trL l m s = trim l ∧ trC l m s = 0) := by show _ ∧ _; rw [HV.out.1, HV.out.2, if_pos hq, if_pos hq]; exact ⟨rfl, rfl⟩
      clear HV hq e1
      have HA2 := Lib.hid (hA.below HB2.out)
      have hsz2 := HB2.out.size
      have HR0 : Hid (ActRow (w2.alloc (.cells #[] 68)) w.heap.size (.slice (some ⟨w2.heap.size, 0, none⟩) 0 0) []) := World.ownsRow_lit _ #[] 0 hsz2 (by unfold maxLen; omega) (by rfl)
      have hb3 : Below w2.heap.size w2 (w2.alloc (.cells #[] 68)) := by go_grown
      have HB3 := Lib.hid (bnext HB2.out hb3)
      have HN3 := Lib.hid (HA2.out.below hb3).news
      have hsz3 := HB3.out.size
      clear hb3 hA
      go_wp2_with (at_builtin; refine wpList_append_own _ rfl _ _ 30 rfl w.heap.size 68 i0 (act 0 0) 2 16 Try.underlying30 hi hz0 hz1 hz2 rfl (by decide) _ 0 _ rfl HR0.out.own A l.length cap (flatA l) rfl (flatA_length l) HN3.out flatA_one ?c3 ?c4 hsz3 ?_)
      case c3 => unfold maxLen; omega
      case c4 => omega
      intro v4 w4 hown hg _
      have HST : Hid (TrimSt w w4 l v4 l 0 (mT l 0)) := TrimSt.start hl4 (ActRow.copied hown) (ActRow.grownB' HB3.out HR0.out HB3.out.size hg)
      clear hown hg HR0
      go_wp2_with fail
      go_loopw [11, 12] (fun o i wr => ∃ (l' : List (Int × Int)) (Av : Option Addr) (cp i' f : Nat), i' ≤ l'.length ∧ o = .slice Av l'.length cp ∧ i = .int .i64 (i' : Int) ∧ Hid (TrimSt w wr l (.slice Av l'.length cp) l' i' f)) (fun o i wr => (match o with | .slice _ n _ => n * 402 + (n - (intOf i).toNat) | _ => 0))
      case atStart => 
        obtain ⟨Av, cp, hv⟩ := HST.out.row.form
        subst hv
        exact ⟨l, Av, cp, 0, _, by omega, rfl, by go_num, HST.out⟩
      case round =>
        obtain ⟨l', Av, cp, i', f, hi', rfl, rfl, HT⟩ := hrel
        have hl' := HT.out.len
        by_cases hlt : i' < l'.length
        · obtain ⟨g, cp', hv, hg1, hg2⟩ := World.ownsRow.form HT.out.row.own (by omega)
          obtain ⟨rfl, rfl⟩ : Av = some ⟨g, 0, none⟩ ∧ cp = cp' := by injection hv with e1 e2 e3; exact ⟨e1, e3⟩
          clear hv
          obtain ⟨_, hlc, hmx, _⟩ := HT.out.row.form'
          unfold maxLen at hmx
          have HAR := Lib.hid HT.out.row.actsM.acts
          cases hid : idle l' i'
          · have HID := Lib.hid hid; clear hid
            go_wp2_with fail
            refine (l06Idle_any (some ⟨g, 0, none⟩) cp l' i' wr HAR.out hlt (by omega)).mono ?_
            rintro e w5 ⟨rfl, hb5⟩
            rw [HID.out]
            obtain ⟨f', hf', hT'⟩ := (HT.out.next hb5).skip hlt HID.out
            have HT' := Lib.hid hT'; clear hT' hb5
            go_wp2
            go_roundw
            case rel => exact ⟨l', _, _, i' + 1, f', by omega, rfl, by go_num, HT'.out⟩
            case measure => simp [intOf]; omega
          · have HID := Lib.hid hid; clear hid
            go_wp2_with fail
            refine (l06Idle_any (some ⟨g, 0, none⟩) cp l' i' wr HAR.out hlt (by omega)).mono ?_
            rintro e w5 ⟨rfl, hb5⟩
            rw [HID.out]
            have HT5 := Lib.hid (HT.out.next hb5); clear hb5
            have hp0 : (0 : Int) ≤ (i' : Int) + 1 := by omega
            have hp1 : (i' : Int) + 1 ≤ (l'.length : Int) := by omega
            have hp2 : ((i' : Int) + 1).toNat = i' + 1 := by omega
            have hp3 : (i' : Int) ≤ (cp : Int) := by omega
            have hic : i' ≤ cp := by omega
            have hwr : IntKind.i64.wrap ((i' : Int) + 1) = (i' : Int) + 1 := by rw [IntKind.wrap_i64]; omega
            have hRr := HT5.out.row
            have hg5 : g < w5.heap.size := (hRr.lt (q := g) rfl).2
            obtain ⟨_, _, _, C, hC, hCl, hCt⟩ := hRr.form'
            have hsz5 : w.heap.size ≤ w5.heap.size := HT5.out.below.size
            have hb6 : Below w5.heap.size w5 (w5.alloc (.cells #[] 68)).drew := by go_grown
            have HR0 : Hid (ActRow (w5.alloc (.cells #[] 68)).drew w.heap.size (.slice (some ⟨w5.heap.size, 0, none⟩) 0 0) []) := World.ownsRow_lit _ #[] 0 hsz5 (by unfold maxLen; omega) (by rfl)
            have HC6 : Hid (Cells (w5.alloc (.cells #[] 68)).drew g 68 C) := hC.next hb6
            have hn1 : (flatA (l'.take i')).length = i' * 2 := by rw [flatA_length]; simp; omega
            have hn2 : (flatA (l'.drop (i' + 1))).length = (l'.length - (i' + 1)) * 2 := by rw [flatA_length]; simp
            have HN1 : Hid (∀ j u, (flatA (l'.take i'))[j]? = some u → (w5.alloc (.cells #[] 68)).drew.cell? ((Addr.mk g 0 none).add j) = some u) := by
              intro j u hj
              rw [addr_add, Nat.zero_add, HC6.out.cell]
              have hj2 := (List.getElem?_eq_some_iff.1 hj).1
              rw [hn1] at hj2
              rw [flatA_take, ← hCt, List.getElem?_take, if_pos (by omega), List.getElem?_take, if_pos (by omega)] at hj
              exact hj
            obtain ⟨R, hRe, hRA⟩ : ∃ R : Addr, (if cp = i' + 1 then some (⟨g, 0, none⟩ : Addr) else some ⟨g, (i' + 1) * 2, none⟩) = some R ∧ Hid (∀ w6, (w5.alloc (.cells #[] 68)).drew.grownBy w6 (some w5.heap.size) → ∀ j u, (flatA (l'.drop (i' + 1)))[j]? = some u → w6.cell? (R.add j) = some u) := by
              by_cases h : cp = i' + 1
              · refine ⟨_, by rw [if_pos h], fun w6 _ j u hj => ?_⟩
                have h2 := (List.getElem?_eq_some_iff.1 hj).1
                omega
              · refine ⟨_, by rw [if_neg h], fun w6 hg6 j u hj => ?_⟩
                have hC6 : Cells w6 g 68 C := (hg6.block g (by have := hb6.size; omega) (by simp; omega)).trans HC6.out
                rw [addr_add, hC6.cell]
                rw [flatA_drop, List.getElem?_drop, ← hCt, List.getElem?_take] at hj
                split at hj
                · exact hj
                · cases hj
            have s1 := Lib.hid hn1
            have s2 := Lib.hid hn2
            have s3 : Hid (w.heap.size ≤ (w5.alloc (.cells #[] 68)).drew.heap.size) := Nat.le_trans hsz5 hb6.size
            have s4 : Hid (∀ w6, (w5.alloc (.cells #[] 68)).drew.grownBy w6 (some w5.heap.size) → w.heap.size ≤ w6.heap.size) := fun w6 h => Nat.le_trans s3.out h.size
            have HB6 : Hid (Below w.heap.size w (w5.alloc (.cells #[] 68)).drew) := bnext HT5.out.below hb6
            have HFIN : Hid (∀ w6 w7 v6 v7, (w5.alloc (.cells #[] 68)).drew.grownBy w6 (some w5.heap.size) → w6.ownsRow w.heap.size 68 2 v6 (0 + i') ([] ++ flatA (l'.take i')) → w6.grownBy w7 v6.ownBlock → w7.ownsRow w.heap.size 68 2 v7 (0 + i' + (l'.length - (i' + 1))) ([] ++ flatA (l'.take i') ++ flatA (l'.drop (i' + 1))) →
                ActRow w7 w.heap.size v7 (l'.eraseIdx i') ∧ Below w.heap.size w w7) := by
              intro w6 w7 v6 v7 hg6 ho6 hg7 ho7
              refine ⟨?_, ?_⟩
              · unfold ActRow
                rw [List.eraseIdx_eq_take_drop_succ, flatA_append, List.length_append]
                rw [show (l'.take i').length + (l'.drop (i' + 1)).length = 0 + i' + (l'.length - (i' + 1)) by simp; omega]
                exact ho7
              · have hb7 : Below w.heap.size w w6 := HB6.out.grown hg6 s3.out (fun q hq => by injection hq with hq; omega)
                exact hb7.grown hg7 hb7.size (fun q hq => (World.ownsRow.lt ho6 q hq).1)
            clear hRr hC hCl hCt hn1 hn2 hb6
            go_wp2_with fail
            go_region_law (first | (refine step_append_own rfl (.tmp 42) (.tmp 45) 30 rfl w.heap.size 68 i0 (act 0 0) 2 16 Try.underlying30 hi hz0 hz1 hz2 rfl (by decide) (.slice (some ⟨w5.heap.size, 0, none⟩) 0 0) 0 [] (by simp [Act.eval, Act.put]) HR0.out ⟨g, 0, none⟩ i' cp (flatA (l'.take i')) (by simp [Act.eval, Act.put]) s1.out HN1.out flatA_one (by unfold maxLen; omega) (by omega) s3.out ?_; intro v6 w6 hown6 hg6) | (refine step_append_own rfl (.tmp 46) (.tmp 50) 30 rfl w.heap.size 68 i0 (act 0 0) 2 16 Try.underlying30 hi hz0 hz1 hz2 rfl (by decide) _ (0 + i') ([] ++ flatA (l'.take i')) (by simp [Act.eval, Act.put]; rfl) (by assumption) R (l'.length - (i' + 1)) (cp - (i' + 1)) (flatA (l'.drop (i' + 1))) (by simp [Act.eval, Act.put]) s2.out (hRA.out _ (by assumption)) flatA_one (by unfold maxLen; omega) (by omega) (s4.out _ (by assumption)) ?_; intro v7 w7 hown7 hg7))
            all_goals
              have hF := HFIN.out _ _ _ _ (by assumption) (by assumption) (by assumption) (by assumption)
              have hle : (l'.eraseIdx i').length + 1 = l'.length := by rw [List.length_eraseIdx_of_lt hlt]; omega
              obtain ⟨Ae, ce, hv⟩ := hF.1.form
              subst hv
              obtain ⟨f', hf', hT'⟩ := HT5.out.cut hlt HID.out hF.1 hF.2
              have HT' := Lib.hid hT'; clear hT' hF
              go_wp2
              go_roundw
              case rel => exact ⟨l'.eraseIdx i', _, _, 0, f', by omega, rfl, by go_num, HT'.out⟩
              case measure => simp [intOf]; omega
        · have HF := Lib.hid (HT.out.eq.trans (trimF_end f (l := l') (i := i') (by omega)))
          go_wp2
          go_ret2
          rw [hT.out.1, hT.out.2, HF.out]
          exact ⟨_, _, rfl, HT.out.row.actsM, HT.out.below, by omega⟩
    · have e1 : badB l m s = true := by unfold badB; simpa using hq
      rw [e1]
      have hT : Hid (trL l m s = [] ∧ trC l m s = 4) := by show _ ∧ _; rw [HV.out.1, HV.out.2, if_neg hq, if_neg hq]; exact ⟨rfl, rfl⟩
      clear HV hq e1
      go_wp2
      go_ret2
      rw [hT.out.1, hT.out.2]
      exact ⟨_, _, rfl, ActsM.nil _ _ _, HB2.out.alloc HB2.out.size _, by simp⟩
  · have HV : Hid (trL l n slots = [] ∧ trC l n slots = planC l n slots) := by show _ ∧ _; simp [trL, trC, h0]
    have hd : (planC l n slots == 0) = false := by simpa using h0
    clear h0
    go_enter Try.func19, Try.ntmps19
    go_wp2_with fail
    refine (l06Asked_any (some A) cap l n slots w hA hn).mono ?_; rintro e w1 ⟨rfl, hb⟩
    go_wp2
    go_ret2
    rw [HV.out.1, HV.out.2]
    exact ⟨_, _, rfl, ActsM.nil _ _ _, hb.alloc hb.size _, by simp⟩

end Go.Proofs.Ytnbpcdcdfkfmiaa
