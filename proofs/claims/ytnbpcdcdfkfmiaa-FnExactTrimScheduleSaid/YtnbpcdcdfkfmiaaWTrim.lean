/- Walks of TrimSchedule of both sides. -/
import Derived.Test.YtnbpcdcdfkfmiaaWDelete
import Derived.Test.YtnbpcdcdfkfmiaaWFirst
namespace Go.Proofs.Ytnbpcdcdfkfmiaa
open Go.RowKit Plain

/-- what TrimSchedule returns -/
def trL (l : List (Int × Int)) (n slots : Int) : List (Int × Int) := if planC l n slots = 0 then (if badV l n.toNat slots.toNat < 0 then trim l else []) else []
def trC (l : List (Int × Int)) (n slots : Int) : Int := if planC l n slots = 0 then (if badV l n.toNat slots.toNat < 0 then 0 else 4) else planC l n slots
def TrimPost (l : List (Int × Int)) (code : Int) (w : World) (e : Ending) (w' : World) : Prop :=
  ∃ A cp, e = .returned (.tuple #[.slice A l.length cp, .int .i64 code]) ∧ ActsM w' w.heap.size A l ∧ Below w.heap.size w w' ∧ l.length ≤ 1000

/-- where a trimming stands: the row, and what is still to be done -/
structure TrimSt (w wr : World) (l0 : List (Int × Int)) (v : Value) (l : List (Int × Int)) (i f : Nat) : Prop where
  row : ActRow wr w.heap.size v l
  below : Below w.heap.size w wr
  fuel : mT l i ≤ f
  len : l.length ≤ 400
  eq : trim l0 = trimF f l i

theorem TrimSt.next {w wr w' : World} {l0 l : List (Int × Int)} {v : Value} {i f : Nat} (h : TrimSt w wr l0 v l i f) (hb : Below wr.heap.size wr w') : TrimSt w w' l0 v l i f :=
  ⟨h.row.next hb, bnext h.below hb, h.fuel, h.len, h.eq⟩
theorem TrimSt.skip {w wr : World} {l0 l : List (Int × Int)} {v : Value} {i f : Nat} (h : TrimSt w wr l0 v l i f) (hi : i < l.length) (hd : idle l i = false) : ∃ f', f' < f ∧ TrimSt w wr l0 v l (i + 1) f' := by
  have h1 := mT_pos hi
  have h2 := mT_next hi
  have h3 := h.fuel
  refine ⟨f - 1, by omega, h.row, h.below, by omega, h.len, ?_⟩
  obtain ⟨f', rfl⟩ : ∃ f', f = f' + 1 := ⟨f - 1, by omega⟩
  rw [h.eq]; simp only [trimF]
  rw [if_pos hi, hd]; rfl
theorem TrimSt.cut {w wr w' : World} {l0 l : List (Int × Int)} {v v' : Value} {i f : Nat} (h : TrimSt w wr l0 v l i f) (hi : i < l.length) (hd : idle l i = true) (hR : ActRow w' w.heap.size v' (l.eraseIdx i)) (hb : Below w.heap.size w w') : ∃ f', f' < f ∧ TrimSt w w' l0 v' (l.eraseIdx i) 0 f' := by
  have h1 := mT_pos hi
  have h2 := mT_del hi h.len
  have h3 := h.fuel
  have h4 := h.len
  refine ⟨f - 1, by omega, hR, hb, by omega, by rw [List.length_eraseIdx]; split <;> omega, ?_⟩
  obtain ⟨f', rfl⟩ : ∃ f', f = f' + 1 := ⟨f - 1, by omega⟩
  rw [h.eq]; simp only [trimF]
  rw [if_pos hi, hd]; rfl

/-- an own copy of a list of actions -/
theorem ActRow.copied {w w2 : World} {l : List (Int × Int)} {v2 : Value} (hown : w2.ownsRow w.heap.size 68 2 v2 l.length (flatA [] ++ flatA l)) : ActRow w2 w.heap.size v2 l := hown

theorem Acts.news {w : World} {A : Addr} {l : List (Int × Int)} (h : Acts w (some A) l) : ∀ j u, (flatA l)[j]? = some u → w.cell? (A.add j) = some u := by
  intro j u hj
  have hjl := (List.getElem?_eq_some_iff.1 hj).1
  rw [flatA_length] at hjl
  obtain ⟨b, o, e, _, hc⟩ := h (by omega)
  obtain rfl : A = ⟨b, o, none⟩ := Option.some.inj e
  have hq : j / 2 < l.length := by omega
  have hx := List.getElem?_eq_getElem hq
  obtain ⟨g1, g2⟩ := flatA_get hx
  obtain ⟨c1, c2⟩ := hc _ _ hx
  rw [addr_add]
  rcases Nat.mod_two_eq_zero_or_one j with h2 | h2
  · rw [show j = j / 2 * 2 by omega] at hj ⊢
    rw [g1] at hj
    rw [c1]; exact hj
  · rw [show j = j / 2 * 2 + 1 by omega] at hj ⊢
    rw [g2] at hj
    rw [← Nat.add_assoc, c2]; exact hj

/-- at the start of a trimming -/
theorem TrimSt.start {w wr : World} {l : List (Int × Int)} {v : Value} (hl : l.length ≤ 400) (hR : ActRow wr w.heap.size v l) (hb : Below w.heap.size w wr) : TrimSt w wr l v l 0 (mT l 0) :=
  ⟨hR, hb, Nat.le_refl _, hl, rfl⟩

set_option maxRecDepth 100000 in
set_option maxHeartbeats 2000000 in
theorem trimI (A : Addr) (cap : Nat) (l : List (Int × Int)) (n slots : Int) (w : World) (hA : Acts w (some A) l) (hn : l.length ≤ 4611686018427387904) :
    Calls Try.prog 21 #[.slice (some A) l.length cap, .int .i64 n, .int .i64 slots] w (TrimPost (trL l n slots) (trC l n slots) w) := by
  by_cases h0 : planC l n slots = 0
  · obtain ⟨hs, n0, n40, s0, s8⟩ := planC_ok h0
    obtain ⟨m, rfl⟩ := Int.eq_ofNat_of_zero_le n0
    obtain ⟨s, rfl⟩ := Int.eq_ofNat_of_zero_le s0
    obtain ⟨hl4, hac⟩ := isSched_act hs
    clear hac
    obtain ⟨i0, hi, hz0, hz1, hz2⟩ := info_parts Try.infoA
    have HV : Hid (trL l m s = (if badV l m s < 0 then trim l else []) ∧ trC l m s = (if badV l m s < 0 then 0 else 4)) := by show _ ∧ _; simp [trL, trC, h0]
    have H0 := Lib.hid h0; clear h0
    have HS := Lib.hid hs; clear hs
    go_enter Try.func21, Try.ntmps21
    go_wp2_with fail
    refine (isPlan_any (some A) cap l m s w hA hn).mono ?_; rintro e w1 ⟨rfl, hb⟩
    rw [H0.out]
    have HB := Lib.hid hb; clear hb
    go_wp2_with fail
    refine (firstBad_any (some A) cap l m s w1 (hA.below HB.out) HS.out (by omega) (by omega)).mono ?_
    rintro e w2 ⟨rfl, hb2, _⟩
    have HB2 := Lib.hid (bnext HB.out hb2); clear hb2
    generalize badV l m s = q at *
    by_cases hq : q < 0
    · have hT : Hid (trL l m s = trim l ∧ trC l m s = 0) := by show _ ∧ _; rw [HV.out.1, HV.out.2, if_pos hq, if_pos hq]; exact ⟨rfl, rfl⟩
      clear HV
      have HA2 := Lib.hid (hA.below HB2.out)
      have hsz2 := HB2.out.size
      have HR0 : Hid (ActRow (w2.alloc (.cells #[] 68)) w.heap.size (.slice (some ⟨w2.heap.size, 0, none⟩) 0 0) []) := World.ownsRow_lit _ #[] 0 hsz2 (by unfold maxLen; omega) (by rfl)
      have hb3 : Below w2.heap.size w2 (w2.alloc (.cells #[] 68)) := by go_grown
      have HB3 := Lib.hid (bnext HB2.out hb3)
      have HN3 := Lib.hid (HA2.out.below hb3).news
      have hsz3 := HB3.out.size
      clear hb3 hA
      go_wp2_with (at_builtin; refine wpList_append_own _ rfl _ _ 30 rfl w.heap.size 68 i0 (act 0 0) 2 16 Try.underlying30 hi hz0 hz1 hz2 rfl (by decide) _ 0 _ rfl HR0.out.own A l.length cap (flatA l) rfl (flatA_length l) HN3.out flatA_one ?c3 ?c4 hsz3 ?_)
      case c3 => unfold maxLen; omega
      case c4 => omega
      intro v4 w4 hown hg _
      have HST : Hid (TrimSt w w4 l v4 l 0 (mT l 0)) := TrimSt.start hl4 (ActRow.copied hown) (ActRow.grownB' HB3.out HR0.out HB3.out.size hg)
      clear hown hg HR0
      go_wp2_with fail
      go_loopw [11, 12] (fun o i wr => ∃ (l' : List (Int × Int)) (Av : Option Addr) (cp i' f : Nat), i' ≤ l'.length ∧ o = .slice Av l'.length cp ∧ i = .int .i64 (i' : Int) ∧ Hid (TrimSt w wr l (.slice Av l'.length cp) l' i' f)) (fun o i wr => (match o with | .slice _ n _ => n * 402 + (n - (intOf i).toNat) | _ => 0))
      case atStart => 
        obtain ⟨Av, cp, hv⟩ := HST.out.row.form
        subst hv
        exact ⟨l, Av, cp, 0, _, by omega, rfl, by go_num, HST.out⟩
      case round =>
        obtain ⟨l', Av, cp, i', f, hi', rfl, rfl, HT⟩ := hrel
        have hl' := HT.out.len
        by_cases hlt : i' < l'.length
        · obtain ⟨g, cp', hv, hg1, hg2⟩ := World.ownsRow.form HT.out.row.own (by omega)
          obtain ⟨rfl, rfl⟩ : Av = some ⟨g, 0, none⟩ ∧ cp = cp' := by injection hv with e1 e2 e3; exact ⟨e1, e3⟩
          clear hv
          obtain ⟨_, hlc, hmx, _⟩ := HT.out.row.form'
          unfold maxLen at hmx
          have HAR := Lib.hid HT.out.row.actsM.acts
          cases hid : idle l' i'
          · have HID := Lib.hid hid; clear hid
            go_wp2_with fail
            refine (isIdle_any g 0 cp l' i' wr HAR.out hlt hlc (by omega) (by omega)).mono ?_
            rintro e w5 ⟨rfl, hb5⟩
            rw [HID.out]
            obtain ⟨f', hf', hT'⟩ := (HT.out.next hb5).skip hlt HID.out
            have HT' := Lib.hid hT'; clear hT' hb5
            go_wp2
            go_roundw
            case rel => exact ⟨l', _, _, i' + 1, f', by omega, rfl, by go_num, HT'.out⟩
            case measure => simp [intOf]; omega
          · have HID := Lib.hid hid; clear hid
            go_wp2_with fail
            refine (isIdle_any g 0 cp l' i' wr HAR.out hlt hlc (by omega) (by omega)).mono ?_
            rintro e w5 ⟨rfl, hb5⟩
            rw [HID.out]
            have HT5 := Lib.hid (HT.out.next hb5); clear hb5
            go_wp2_with fail
            refine (delete_any w.heap.size g cp l' i' w5 HT5.out.row hlt (by omega) (by omega)).mono ?_
            rintro e w6 ⟨rfl, hR6, hO6⟩
            obtain ⟨f', hf', hT'⟩ := HT5.out.cut hlt HID.out hR6 (HT5.out.below.trans (hO6.below HT5.out.below.size (fun q hq => by subst hq; exact hg1)))
            have HT' := Lib.hid hT'; clear hT' hR6 hO6
            have hle : (l'.eraseIdx i').length + 1 = l'.length := by rw [List.length_eraseIdx_of_lt hlt]; omega
            go_wp2
            go_roundw
            case rel => exact ⟨l'.eraseIdx i', _, _, 0, f', by omega, rfl, by go_num, HT'.out⟩
            case measure => simp [intOf]; omega
        · have HF := Lib.hid (HT.out.eq.trans (trimF_end f (l := l') (i := i') (by omega)))
          go_wp2
          go_ret2
          rw [hT.out.1, hT.out.2, HF.out]
          exact ⟨_, _, rfl, HT.out.row.actsM, HT.out.below, by omega⟩
    · go_wp2
      go_ret2
      rw [HV.out.1, HV.out.2, if_neg (by omega), if_neg (by omega)]
      exact ⟨none, 0, rfl, ActsM.nil _ _ _, HB2.out, by simp⟩
  · have HV : Hid (trL l n slots = [] ∧ trC l n slots = planC l n slots) := by show _ ∧ _; simp [trL, trC, h0]
    have hd : (planC l n slots == 0) = false := by simpa using h0
    clear h0
    go_enter Try.func21, Try.ntmps21
    go_wp2_with fail
    refine (isPlan_any (some A) cap l n slots w hA hn).mono ?_; rintro e w1 ⟨rfl, hb⟩
    go_wp2
    go_ret2
    rw [HV.out.1, HV.out.2]
    exact ⟨none, 0, rfl, ActsM.nil _ _ _, hb, by simp⟩

end Go.Proofs.Ytnbpcdcdfkfmiaa
