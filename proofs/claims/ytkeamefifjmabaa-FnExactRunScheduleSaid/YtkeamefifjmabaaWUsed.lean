/- Walks of l00Put and of l06Used of the reference. -/
import Derived.Test.YtkeamefifjmabaaPUsed
import Derived.Test.YtkeamefifjmabaaWAdv
namespace Go.Proofs.Ytkeamefifjmabaa
open Go.RowKit Plain

theorem SlotsAt.push {wr w2 w : World} {base B : Nat} {v v2 : Value} {out : List Int} {x : Int} (o : Obj) (h : SlotsAt wr base v out)
    (hown : w2.ownsRow base 2 1 v2 (out.length + 1) (out.map vi ++ [vi x])) (hg : (wr.alloc o).grownBy w2 v.ownBlock) (hb : Below B w wr) (hB : B ≤ base) (hBs : B ≤ w.heap.size := by exact Nat.le_refl _) :
    SlotsAt w2 base v2 (out ++ [x]) ∧ Below B w w2 := by
  refine ⟨?_, ?_⟩
  · unfold SlotsAt; simpa using hown
  · refine (hb.alloc (by have := hb.size; omega) _).grown hg (by have := hb.size; simp; omega) (fun q hq => by have := (World.ownsRow.lt h q hq).1; omega)
theorem SlotsAt.own {w : World} {base : Nat} {v : Value} {l : List Int} (h : SlotsAt w base v l) : w.ownsRow base 2 1 v l.length (l.map vi) := h
theorem SlotsAt.mono {w : World} {base base' : Nat} {v : Value} {l : List Int} (h : SlotsAt w base v l) (hb : base' ≤ base) : SlotsAt w base' v l := by
  refine ⟨h.1, ?_⟩
  rcases h.2 with hn | ⟨g, cap, cur, hv, hb', rest⟩
  · exact .inl hn
  · exact .inr ⟨g, cap, cur, hv, by omega, rest⟩
theorem SlotsAt.ints {w : World} {base cap : Nat} {A : Option Addr} {l : List Int} (h : SlotsAt w base (.slice A l.length cap) l) : Ints w A l := fun hn => by
  obtain ⟨g, x, rfl, _, hl, _, _⟩ := h.at_ hn
  refine ⟨g, 0, rfl, hl, fun j x hx => ?_⟩
  have hj : j < l.length := (List.getElem?_eq_some_iff.1 hx).1
  obtain ⟨g', x', e, _, _, hx', hc, _⟩ := h.at_ hj
  obtain rfl : g = g' := by simpa using e
  rw [hx] at hx'
  obtain rfl : x = x' := by simpa using hx'
  rw [Nat.zero_add]; exact hc

def PutPost (l : List Int) (a : Int) (w : World) (e : Ending) (w' : World) : Prop :=
  ∃ A cap, e = .returned (.slice A (putS a l).length cap) ∧ SlotsAt w' w.heap.size (.slice A (putS a l).length cap) (putS a l) ∧ Below w.heap.size w w'

set_option maxRecDepth 100000 in
set_option maxHeartbeats 2000000 in
theorem put_any (A : Option Addr) (cap : Nat) (l : List Int) (a : Int) (w : World) (hI : Ints w A l) (hl : l.length ≤ 400) :
    Calls Try.prog 86 #[.slice A l.length cap, .int .i64 a] w (PutPost l a w) := by
  obtain ⟨i0, hi, hz0, hz1, hz2⟩ := info_parts Try.infoI
  go_enter Try.func86, Try.ntmps86
  go_wp2
  go_loopw [5, 6, 7] (fun o dn i wr => ∃ (k : Nat) (Ao : Option Addr) (co : Nat) (d : Bool) (out : List Int), k ≤ l.length ∧ i = .int .i64 (k : Int) ∧ dn = .bool d ∧ o = .slice Ao out.length co ∧ out.length ≤ k + d.toNat ∧ Hid (SlotsAt wr w.heap.size (.slice Ao out.length co) out) ∧ Hid (Below w.heap.size w wr) ∧ Hid (putS a l = if d then out ++ l.drop k else out ++ putS a (l.drop k))) (fun _ _ i _ => (l.length - intOf i).toNat)
  case atStart =>
    have h := World.ownsRow_made (e := 2) (size := 1) w #[] 0 (Nat.le_refl _) (by unfold maxLen; omega) rfl
    refine ⟨0, some ⟨w.heap.size, 0, none⟩, 0, false, [], by omega, by go_num, rfl, rfl, by simp, ?_, by show Below _ _ _; go_grown, by show _ = _; simp⟩
    show SlotsAt _ _ _ _
    unfold SlotsAt
    exact h
  case round =>
    obtain ⟨k, Ao, co, d, out, hk, rfl, rfl, rfl, hol, HS, HB, HE⟩ := hrel
    by_cases hlt : k < l.length
    · obtain ⟨b, o, x, rfl, hx, hc⟩ := (hI.below HB.out).at_ hlt
      have HX := Lib.hid hx; clear hx
      have hol1 : out.length ≤ k + 1 := by cases d <;> simp at hol <;> omega
      have HD : Hid (l.drop k = x :: l.drop (k + 1)) := by
        have hx := HX.out
        rw [List.getElem?_eq_getElem hlt] at hx
        show _ = _; rw [List.drop_eq_getElem_cons hlt]; congr 1; simpa using hx
      cases d
      · by_cases h1 : x < a
        · have h1' : ¬ (a ≤ x) := by omega
          go_wp2_with (at_builtin; refine wpList_append_own _ rfl _ _ 25 rfl w.heap.size 2 i0 (.int .i64 0) 1 8 Try.underlying25 hi hz0 hz1 hz2 rfl (by decide) _ out.length _ rfl (HS.out.own.alloc _) ⟨wr.heap.size, 0, none⟩ 1 1 [vi x] rfl rfl ?ca1 ?ca2 ?ca3 ?ca4 ?ca5 ?_)
          try (case ca1 => exact cell_one_new _ _ _)
          try (case ca2 => first | rfl | (intro u hu; simp at hu; subst hu; rfl))
          case ca3 => unfold maxLen; omega
          case ca4 => omega
          case ca5 => have := HB.out.size; simp; try omega
          · intro v2 w2 hown hg _
            obtain ⟨hS2, hB2⟩ := SlotsAt.push _ HS.out hown hg HB.out (Nat.le_refl _)
            obtain ⟨g2, cp2, rfl, _, _⟩ := World.ownsRow.form hown (by omega)
            have HS2 := Lib.hid hS2
            have HB2 := Lib.hid hB2
            clear hown hg hS2 hB2 HS HB hc
            have H1 := Lib.hid h1; clear h1 h1'
            go_wp2
            go_roundw
            case rel => exact ⟨k + 1, some ⟨g2, 0, none⟩, cp2, false, out ++ [x], by omega, by go_num, rfl, by simp, by simp <;> (try simp at hol) <;> omega, by simpa using HS2, HB2, by show _ = _; rw [HE.out, HD.out]; simp [putS, H1.out]⟩
            case measure => simp [intOf]; omega
        · by_cases h2 : x = a
          · subst h2
            go_wp2_with (at_builtin; refine wpList_append_own _ rfl _ _ 25 rfl w.heap.size 2 i0 (.int .i64 0) 1 8 Try.underlying25 hi hz0 hz1 hz2 rfl (by decide) _ out.length _ rfl (HS.out.own.alloc _) ⟨wr.heap.size, 0, none⟩ 1 1 [vi x] rfl rfl ?cb1 ?cb2 ?cb3 ?cb4 ?cb5 ?_)
            try (case cb1 => exact cell_one_new _ _ _)
            try (case cb2 => first | rfl | (intro u hu; simp at hu; subst hu; rfl))
            case cb3 => unfold maxLen; omega
            case cb4 => omega
            case cb5 => have := HB.out.size; simp; try omega
            · intro v2 w2 hown hg _
              obtain ⟨hS2, hB2⟩ := SlotsAt.push _ HS.out hown hg HB.out (Nat.le_refl _)
              obtain ⟨g2, cp2, rfl, _, _⟩ := World.ownsRow.form hown (by omega)
              have HS2 := Lib.hid hS2
              have HB2 := Lib.hid hB2
              clear hown hg hS2 hB2 HS HB hc
              go_wp2
              go_roundw
              case rel => exact ⟨k + 1, some ⟨g2, 0, none⟩, cp2, true, out ++ [x], by omega, by go_num, rfl, by simp, by simp <;> (try simp at hol) <;> omega, by simpa using HS2, HB2, by show _ = _; rw [HE.out, HD.out]; simp [putS]⟩
              case measure => simp [intOf]; omega
          · have h3 : a < x := by omega
            have h4 : a ≤ x := by omega
            simp only [Bool.toNat_false, Nat.add_zero] at hol
            have HP : Hid (putS a (x :: l.drop (k + 1)) = a :: x :: l.drop (k + 1)) := by show _ = _; simp [putS, h1, h2]
            clear h1 h2
            go_wp2_with (at_builtin; refine wpList_append_own _ rfl _ _ 25 rfl w.heap.size 2 i0 (.int .i64 0) 1 8 Try.underlying25 hi hz0 hz1 hz2 rfl (by decide) _ out.length _ rfl (HS.out.own.alloc _) ⟨wr.heap.size, 0, none⟩ 1 1 [vi a] rfl rfl ?cc1 ?cc2 ?cc3 ?cc4 ?cc5 ?_)
            try (case cc1 => exact cell_one_new _ _ _)
            try (case cc2 => first | rfl | (intro u hu; simp at hu; subst hu; rfl))
            case cc3 => unfold maxLen; omega
            case cc4 => omega
            case cc5 => have := HB.out.size; simp; try omega
            · intro v2 w2 hown hg _
              obtain ⟨hS2, hB2⟩ := SlotsAt.push _ HS.out hown hg HB.out (Nat.le_refl _)
              obtain ⟨g2, cp2, rfl, _, _⟩ := World.ownsRow.form hown (by omega)
              obtain ⟨bb, oo, xx, ee, hxx, hcc⟩ := (hI.below hB2).at_ hlt
              obtain ⟨rfl, rfl⟩ : b = bb ∧ o = oo := by simpa using ee
              have hq := HX.out
              rw [hxx] at hq
              obtain rfl : xx = x := by simpa using hq
              obtain ⟨out2, ho2, hl2⟩ : ∃ out2, out2 = out ++ [a] ∧ out2.length = out.length + 1 := ⟨_, rfl, by simp⟩
              have HO2 := Lib.hid ho2
              rw [← ho2] at hS2
              rw [← hl2] at hS2 ⊢
              have HL2 := Lib.hid hl2
              have hol2 : out2.length ≤ k + 1 := by omega
              clear hown hg HS HB hc hq hxx ee ho2 hl2
              have HS := Lib.hid hS2
              have HB := Lib.hid hB2
              clear hS2 hB2

              go_wp2_with (at_builtin; refine wpList_append_own _ rfl _ _ 25 rfl w.heap.size 2 i0 (.int .i64 0) 1 8 Try.underlying25 hi hz0 hz1 hz2 rfl (by decide) _ out2.length _ rfl (HS.out.own.alloc _) ⟨w2.heap.size, 0, none⟩ 1 1 [vi xx] rfl rfl ?cd1 ?cd2 ?cd3 ?cd4 ?cd5 ?_)
              try (case cd1 => exact cell_one_new _ _ _)
              try (case cd2 => first | rfl | (intro u hu; simp at hu; subst hu; rfl))
              case cd3 => unfold maxLen; omega
              case cd4 => omega
              case cd5 => have := HB.out.size; simp; try omega
              · intro v3 w3 hown hg _
                obtain ⟨hS2, hB2⟩ := SlotsAt.push _ HS.out hown hg HB.out (Nat.le_refl _)
                obtain ⟨g2, cp2, rfl, _, _⟩ := World.ownsRow.form hown (by omega)
                have HS2 := Lib.hid hS2
                have HB2 := Lib.hid hB2
                clear hown hg hS2 hB2 HS HB hcc
                go_wp2
                go_roundw
                case rel => exact ⟨k + 1, some ⟨g2, 0, none⟩, cp2, true, out2 ++ [xx], by omega, by go_num, rfl, by simp, by simp <;> (try simp at hol) <;> omega, by simpa using HS2, HB2, by show _ = _; rw [HE.out, HD.out]; rw [HP.out, HO2.out]; simp⟩
                case measure => simp [intOf]; omega
      · go_wp2_with (at_builtin; refine wpList_append_own _ rfl _ _ 25 rfl w.heap.size 2 i0 (.int .i64 0) 1 8 Try.underlying25 hi hz0 hz1 hz2 rfl (by decide) _ out.length _ rfl (HS.out.own.alloc _) ⟨wr.heap.size, 0, none⟩ 1 1 [vi x] rfl rfl ?ce1 ?ce2 ?ce3 ?ce4 ?ce5 ?_)
        try (case ce1 => exact cell_one_new _ _ _)
        try (case ce2 => first | rfl | (intro u hu; simp at hu; subst hu; rfl))
        case ce3 => unfold maxLen; omega
        case ce4 => omega
        case ce5 => have := HB.out.size; simp; try omega
        · intro v2 w2 hown hg _
          obtain ⟨hS2, hB2⟩ := SlotsAt.push _ HS.out hown hg HB.out (Nat.le_refl _)
          obtain ⟨g2, cp2, rfl, _, _⟩ := World.ownsRow.form hown (by omega)
          have HS2 := Lib.hid hS2
          have HB2 := Lib.hid hB2
          clear hown hg hS2 hB2 HS HB hc
          go_wp2
          go_roundw
          case rel => exact ⟨k + 1, some ⟨g2, 0, none⟩, cp2, true, out ++ [x], by omega, by go_num, rfl, by simp, by simp <;> (try simp at hol) <;> omega, by simpa using HS2, HB2, by show _ = _; rw [HE.out, HD.out]; simp⟩
          case measure => simp [intOf]; omega
    · obtain rfl : k = l.length := by omega
      have hol1 : out.length ≤ l.length + 1 := by cases d <;> simp at hol <;> omega
      cases d
      · go_wp2_with (at_builtin; refine wpList_append_own _ rfl _ _ 25 rfl w.heap.size 2 i0 (.int .i64 0) 1 8 Try.underlying25 hi hz0 hz1 hz2 rfl (by decide) _ out.length _ rfl (HS.out.own.alloc _) ⟨wr.heap.size, 0, none⟩ 1 1 [vi a] rfl rfl ?cf1 ?cf2 ?cf3 ?cf4 ?cf5 ?_)
        try (case cf1 => exact cell_one_new _ _ _)
        try (case cf2 => first | rfl | (intro u hu; simp at hu; subst hu; rfl))
        case cf3 => unfold maxLen; omega
        case cf4 => omega
        case cf5 => have := HB.out.size; simp; try omega
        · intro v2 w2 hown hg _
          obtain ⟨hS2, hB2⟩ := SlotsAt.push _ HS.out hown hg HB.out (Nat.le_refl _)
          obtain ⟨g2, cp2, rfl, _, _⟩ := World.ownsRow.form hown (by omega)
          have HS2 := Lib.hid hS2
          have HB2 := Lib.hid hB2
          clear hown hg hS2 hB2 HS HB
          go_wp2
          go_ret
          have hF : putS a l = out ++ [a] := by rw [HE.out]; simp [putS]
          rw [PutPost, hF]
          have e : (out ++ [a]).length = out.length + 1 := by simp
          rw [e]
          exact ⟨_, _, rfl, HS2.out, HB2.out⟩
      · go_wp2
        go_ret
        have hF : putS a l = out := by rw [HE.out]; simp
        rw [PutPost, hF]
        exact ⟨_, _, rfl, HS.out, HB.out⟩

end Go.Proofs.Ytkeamefifjmabaa
