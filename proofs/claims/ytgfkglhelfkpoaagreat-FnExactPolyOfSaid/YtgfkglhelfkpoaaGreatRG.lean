/- Texts put together: WOk11, WOk11b, WOk12, WOk13, WOk14. -/
import Derived.Test.YtgfkglhelfkpoaaGreatRF

/- Walks of the program's isFormed, whole. -/
namespace Go.Proofs.YtgfkglhelfkpoaaGreat
open Go.RowKit Plain

theorem two_boxes (w : World) (t1 t2 : TypeId) (C1 C2 : List Value) : Cells ((w.alloc (.cells C1.toArray t1)).alloc (.cells C2.toArray t2)) w.heap.size t1 C1 ∧ Cells ((w.alloc (.cells C1.toArray t1)).alloc (.cells C2.toArray t2)) (w.heap.size + 1) t2 C2 ∧
    Below w.heap.size w ((w.alloc (.cells C1.toArray t1)).alloc (.cells C2.toArray t2)) := by
  refine ⟨(Cells.new w t1 C1).next (by go_grown), ?_, by go_grown⟩
  have := Cells.new (w.alloc (.cells C1.toArray t1)) t2 C2
  rwa [show (w.alloc (.cells C1.toArray t1)).heap.size = w.heap.size + 1 by simp] at this
theorem kidVars_ne {k vars : Int} {j : Nat} (h : k ≠ 9) : kidVars k vars j = vars := by unfold kidVars; rw [if_neg (by omega)]
theorem kidVars_no {k vars : Int} {j : Nat} (h : j ≠ 1) : kidVars k vars j = vars := by unfold kidVars; rw [if_neg (by omega)]
theorem kidVars_yes {vars : Int} : kidVars 9 vars 1 = vars + 1 := rfl

def FormC (P : List Fn) (ks : Es) : Prop := ∀ (k n p c : Int) (K : Option Addr) (cap B : Nat) (A : Option Addr) (capP : Nat) (vars funcs : Int) (w : World), ExSl w B ks K → ks.len ≤ cap → cap ≤ maxLen → FnSl w B P A → P.length ≤ capP → capP ≤ maxLen → B ≤ w.heap.size → 0 ≤ funcs → funcs ≤ P.length → 0 ≤ vars → vars + ks.depth ≤ 2000000 → ks.size ≤ 1048576 →
  Calls Tryz.prog 154 #[chV A P.length capP funcs, exV k n p c K ks.len cap, .int .i64 vars] w (FPost (nodeOk P funcs vars k n p c ks.len && formedL P funcs ks k 0 vars) w)

set_option maxRecDepth 100000 in
set_option maxHeartbeats 1000000 in
theorem formed_go3 (P : List Fn) (m : Nat) (ks : Es) (IH : Hid (∀ (ks : Es), ks.size < m → FormC P ks)) (hm : ks.size < m + 1) (K : Option Addr) (cap B : Nat) (A : Option Addr) (capP : Nat) (vars funcs : Int) (w : World) (hKs : ExSl w B ks K) (_hc : ks.len ≤ cap) (hcm : cap ≤ maxLen) (hFS : FnSl w B P A) (hPl : P.length ≤ capP) (hPm : capP ≤ maxLen) (hB : B ≤ w.heap.size) (f0 : 0 ≤ funcs) (f1 : funcs ≤ P.length) (v0 : 0 ≤ vars) (v1 : vars + ks.depth ≤ 2000000) (hsz0 : ks.size ≤ 1048576) (hl : ks.len = 2) :
    Calls Tryz.prog 154 #[chV A P.length capP funcs, exV 3 0 0 0 K ks.len cap, .int .i64 vars] w (FPost (formedL P funcs ks 3 0 vars) w) := by
  have hcm' : cap ≤ 9223372036854775807 := by unfold maxLen at hcm; omega
  have hPm' : capP ≤ 9223372036854775807 := by unfold maxLen at hPm; omega
  have hls := Es.len_le_size ks
  obtain ⟨b', o', hK, hks⟩ := hKs
  have HKS := Lib.hid hks; clear hks
  have HFS := Lib.hid hFS; clear hFS
  obtain ⟨F, hF⟩ : ∃ F, F = formedL P funcs ks 3 0 vars := ⟨_, rfl⟩
  have HF := Lib.hid hF
  rw [← hF]
  clear hF
  have l1 : ((ks.len : Int) == 2) = true := by simp; omega
  have l2 : ((ks.len : Int) != 2) = false := by simp; omega
  have hkl : ks.len ≤ 2 := by omega
  have HL := Lib.hid hl; clear hl
  go_enter Tryz.func154, Tryz.ntmps154
  go_wp2
  go_loopw [156] (fun i wr => ∃ (j : Nat) (es' : Es), i = .int .i64 (j : Int) ∧ j + es'.len = ks.len ∧ Hid (formedL P funcs es' 3 j vars = F) ∧ Hid (es'.size ≤ ks.size ∧ es'.depth ≤ ks.depth) ∧ Hid (Cells wr w.heap.size 209 [.slice A P.length capP, .int .i64 funcs]) ∧ Hid (Cells wr (w.heap.size + 1) 33 [.int .i64 3, .int .i64 0, .int .i64 0, .int .i64 0, .slice K ks.len cap]) ∧ Hid (ExsAt wr B es' b' (o' + j * 5)) ∧ Hid (Below w.heap.size w wr)) (fun i _ => ks.len - (intOf i).toNat)
  case atStart =>
    obtain ⟨q1, q2, q3⟩ := two_boxes w 209 33 [.slice A P.length capP, .int .i64 funcs] [.int .i64 3, .int .i64 0, .int .i64 0, .int .i64 0, .slice K ks.len cap]
    exact ⟨0, ks, by go_num, by omega, HF.out.symm, ⟨Nat.le_refl _, Nat.le_refl _⟩, q1, q2, by show ExsAt _ _ _ _ _; rw [Nat.zero_mul, Nat.add_zero]; exact HKS.out.below (q3.mono hB), q3⟩
  case round =>
    obtain ⟨j, es', rfl, hj, hy, hsz, HC1, HC2, HE, HB⟩ := hrel
    cases es' with
    | nil =>
      simp only [Es.len] at hj
      go_wp2
      go_ret
      have := hy.out
      simp only [formedL] at this
      exact ⟨ret_bool this, HB.out⟩
    | cons kk n' p' c' ks' r =>
      simp only [Es.len] at hj
      have hK := hK (by omega)
      subst hK
      obtain ⟨hel, hr⟩ := HE.out
      have HR := Lib.hid hr
      obtain ⟨hbB, c0, c1, c2, c3, K', cap', b2, o2, c4, hc2, hcm2, hK2, hks2⟩ := hel
      have HK2 : Hid (ExSl wr B ks' K') := ⟨b2, o2, hK2, hks2⟩
      have hrs : Hid ((r.size ≤ ks.size ∧ r.depth ≤ ks.depth) ∧ ks'.size < ks.size ∧ ks'.depth + 1 ≤ ks.depth) := by
        have := hsz.out
        simp only [Es.size, Es.depth] at this
        exact ⟨⟨by omega, by omega⟩, by omega, by omega⟩
      have a0 : wr.cell? ⟨w.heap.size, 0, none⟩ = some (.slice A P.length capP) := by rw [HC1.out.cell]; rfl
      have a1 : wr.cell? ⟨w.heap.size, 1, none⟩ = some (.int .i64 funcs) := by rw [HC1.out.cell]; rfl
      have a2 : wr.cell? ⟨w.heap.size + 1, 0, none⟩ = some (.int .i64 3) := by rw [HC2.out.cell]; rfl
      have a3 := HC1.out.lt
      have a4 := HC2.out.lt
      have hbr : b' < wr.heap.size := by omega
      clear hr HE hks2
      have HKV : Hid (kidVars 3 vars j = vars) := kidVars_ne (by omega)
      go_wp2_with fail
      refine (IH.out ks' (by have := hrs.out; omega) kk n' p' c' K' cap' B A capP vars funcs _ (HK2.out.below (by have := HB.out.size; go_grown)) hc2 hcm2 (HFS.out.below ((HB.out.mono hB).trans (by have := HB.out.size; go_grown))) hPl hPm (by have := HB.out.size; simp; omega) f0 f1 (by omega) (by have := hrs.out; omega) (by have := hrs.out; omega)).mono ?_; rintro e w2 ⟨rfl, hb2⟩
      have hb3 : Below wr.heap.size wr w2 := Below.trans (by go_grown) (hb2.mono (by simp))
      have HE1 : Hid (ExsAt w2 B r b' (o' + (j + 1) * 5)) := by
        have := HR.out.below (hb3.mono (by have := HB.out.size; omega))
        rwa [show o' + j * 5 + 5 = o' + (j + 1) * 5 by omega] at this
      have HB2 := Lib.hid (bnext HB.out hb3)
      have HC1' := Lib.hid (HC1.out.next hb3)
      have HC2' := Lib.hid (HC2.out.next hb3)
      have hy2 := hy.out
      simp only [formedL] at hy2
      rw [HKV.out] at hy2
      generalize (nodeOk P funcs vars kk n' p' c' ks'.len && formedL P funcs ks' kk 0 vars) = bb at hy2 ⊢
      have HY2 := Lib.hid hy2
      clear hb2 hb3 HR hy2 HC1 HC2 HK2 HB a0 a1 a2 a3 a4 c0 c1 c2 c3 c4
      cases bb
      · have HN2 : Hid (F = false) := by have := HY2.out; rw [Bool.false_and] at this; exact this.symm
        go_wp2
        go_ret
        exact ⟨ret_bool HN2.out.symm, HB2.out⟩
      · have HN2 : Hid (formedL P funcs r 3 (j + 1) vars = F) := by have := HY2.out; rw [Bool.true_and] at this; exact this
        go_wp2
        go_roundw
        case rel => exact ⟨j + 1, r, by go_num, by omega, HN2, hrs.out.1, HC1', HC2', HE1, HB2⟩
        case measure => simp [intOf]; omega
set_option maxRecDepth 100000 in
set_option maxHeartbeats 1000000 in
theorem formed_go4 (P : List Fn) (m : Nat) (ks : Es) (IH : Hid (∀ (ks : Es), ks.size < m → FormC P ks)) (hm : ks.size < m + 1) (K : Option Addr) (cap B : Nat) (A : Option Addr) (capP : Nat) (vars funcs : Int) (w : World) (hKs : ExSl w B ks K) (_hc : ks.len ≤ cap) (hcm : cap ≤ maxLen) (hFS : FnSl w B P A) (hPl : P.length ≤ capP) (hPm : capP ≤ maxLen) (hB : B ≤ w.heap.size) (f0 : 0 ≤ funcs) (f1 : funcs ≤ P.length) (v0 : 0 ≤ vars) (v1 : vars + ks.depth ≤ 2000000) (hsz0 : ks.size ≤ 1048576) (hl : ks.len = 2) :
    Calls Tryz.prog 154 #[chV A P.length capP funcs, exV 4 0 0 0 K ks.len cap, .int .i64 vars] w (FPost (formedL P funcs ks 4 0 vars) w) := by
  have hcm' : cap ≤ 9223372036854775807 := by unfold maxLen at hcm; omega
  have hPm' : capP ≤ 9223372036854775807 := by unfold maxLen at hPm; omega
  have hls := Es.len_le_size ks
  obtain ⟨b', o', hK, hks⟩ := hKs
  have HKS := Lib.hid hks; clear hks
  have HFS := Lib.hid hFS; clear hFS
  obtain ⟨F, hF⟩ : ∃ F, F = formedL P funcs ks 4 0 vars := ⟨_, rfl⟩
  have HF := Lib.hid hF
  rw [← hF]
  clear hF
  have l1 : ((ks.len : Int) == 2) = true := by simp; omega
  have l2 : ((ks.len : Int) != 2) = false := by simp; omega
  have hkl : ks.len ≤ 2 := by omega
  have HL := Lib.hid hl; clear hl
  go_enter Tryz.func154, Tryz.ntmps154
  go_wp2
  go_loopw [156] (fun i wr => ∃ (j : Nat) (es' : Es), i = .int .i64 (j : Int) ∧ j + es'.len = ks.len ∧ Hid (formedL P funcs es' 4 j vars = F) ∧ Hid (es'.size ≤ ks.size ∧ es'.depth ≤ ks.depth) ∧ Hid (Cells wr w.heap.size 209 [.slice A P.length capP, .int .i64 funcs]) ∧ Hid (Cells wr (w.heap.size + 1) 33 [.int .i64 4, .int .i64 0, .int .i64 0, .int .i64 0, .slice K ks.len cap]) ∧ Hid (ExsAt wr B es' b' (o' + j * 5)) ∧ Hid (Below w.heap.size w wr)) (fun i _ => ks.len - (intOf i).toNat)
  case atStart =>
    obtain ⟨q1, q2, q3⟩ := two_boxes w 209 33 [.slice A P.length capP, .int .i64 funcs] [.int .i64 4, .int .i64 0, .int .i64 0, .int .i64 0, .slice K ks.len cap]
    exact ⟨0, ks, by go_num, by omega, HF.out.symm, ⟨Nat.le_refl _, Nat.le_refl _⟩, q1, q2, by show ExsAt _ _ _ _ _; rw [Nat.zero_mul, Nat.add_zero]; exact HKS.out.below (q3.mono hB), q3⟩
  case round =>
    obtain ⟨j, es', rfl, hj, hy, hsz, HC1, HC2, HE, HB⟩ := hrel
    cases es' with
    | nil =>
      simp only [Es.len] at hj
      go_wp2
      go_ret
      have := hy.out
      simp only [formedL] at this
      exact ⟨ret_bool this, HB.out⟩
    | cons kk n' p' c' ks' r =>
      simp only [Es.len] at hj
      have hK := hK (by omega)
      subst hK
      obtain ⟨hel, hr⟩ := HE.out
      have HR := Lib.hid hr
      obtain ⟨hbB, c0, c1, c2, c3, K', cap', b2, o2, c4, hc2, hcm2, hK2, hks2⟩ := hel
      have HK2 : Hid (ExSl wr B ks' K') := ⟨b2, o2, hK2, hks2⟩
      have hrs : Hid ((r.size ≤ ks.size ∧ r.depth ≤ ks.depth) ∧ ks'.size < ks.size ∧ ks'.depth + 1 ≤ ks.depth) := by
        have := hsz.out
        simp only [Es.size, Es.depth] at this
        exact ⟨⟨by omega, by omega⟩, by omega, by omega⟩
      have a0 : wr.cell? ⟨w.heap.size, 0, none⟩ = some (.slice A P.length capP) := by rw [HC1.out.cell]; rfl
      have a1 : wr.cell? ⟨w.heap.size, 1, none⟩ = some (.int .i64 funcs) := by rw [HC1.out.cell]; rfl
      have a2 : wr.cell? ⟨w.heap.size + 1, 0, none⟩ = some (.int .i64 4) := by rw [HC2.out.cell]; rfl
      have a3 := HC1.out.lt
      have a4 := HC2.out.lt
      have hbr : b' < wr.heap.size := by omega
      clear hr HE hks2
      have HKV : Hid (kidVars 4 vars j = vars) := kidVars_ne (by omega)
      go_wp2_with fail
      refine (IH.out ks' (by have := hrs.out; omega) kk n' p' c' K' cap' B A capP vars funcs _ (HK2.out.below (by have := HB.out.size; go_grown)) hc2 hcm2 (HFS.out.below ((HB.out.mono hB).trans (by have := HB.out.size; go_grown))) hPl hPm (by have := HB.out.size; simp; omega) f0 f1 (by omega) (by have := hrs.out; omega) (by have := hrs.out; omega)).mono ?_; rintro e w2 ⟨rfl, hb2⟩
      have hb3 : Below wr.heap.size wr w2 := Below.trans (by go_grown) (hb2.mono (by simp))
      have HE1 : Hid (ExsAt w2 B r b' (o' + (j + 1) * 5)) := by
        have := HR.out.below (hb3.mono (by have := HB.out.size; omega))
        rwa [show o' + j * 5 + 5 = o' + (j + 1) * 5 by omega] at this
      have HB2 := Lib.hid (bnext HB.out hb3)
      have HC1' := Lib.hid (HC1.out.next hb3)
      have HC2' := Lib.hid (HC2.out.next hb3)
      have hy2 := hy.out
      simp only [formedL] at hy2
      rw [HKV.out] at hy2
      generalize (nodeOk P funcs vars kk n' p' c' ks'.len && formedL P funcs ks' kk 0 vars) = bb at hy2 ⊢
      have HY2 := Lib.hid hy2
      clear hb2 hb3 HR hy2 HC1 HC2 HK2 HB a0 a1 a2 a3 a4 c0 c1 c2 c3 c4
      cases bb
      · have HN2 : Hid (F = false) := by have := HY2.out; rw [Bool.false_and] at this; exact this.symm
        go_wp2
        go_ret
        exact ⟨ret_bool HN2.out.symm, HB2.out⟩
      · have HN2 : Hid (formedL P funcs r 4 (j + 1) vars = F) := by have := HY2.out; rw [Bool.true_and] at this; exact this
        go_wp2
        go_roundw
        case rel => exact ⟨j + 1, r, by go_num, by omega, HN2, hrs.out.1, HC1', HC2', HE1, HB2⟩
        case measure => simp [intOf]; omega
set_option maxRecDepth 100000 in
set_option maxHeartbeats 1000000 in
theorem formed_go5 (P : List Fn) (m : Nat) (ks : Es) (IH : Hid (∀ (ks : Es), ks.size < m → FormC P ks)) (hm : ks.size < m + 1) (K : Option Addr) (cap B : Nat) (A : Option Addr) (capP : Nat) (vars funcs : Int) (w : World) (hKs : ExSl w B ks K) (_hc : ks.len ≤ cap) (hcm : cap ≤ maxLen) (hFS : FnSl w B P A) (hPl : P.length ≤ capP) (hPm : capP ≤ maxLen) (hB : B ≤ w.heap.size) (f0 : 0 ≤ funcs) (f1 : funcs ≤ P.length) (v0 : 0 ≤ vars) (v1 : vars + ks.depth ≤ 2000000) (hsz0 : ks.size ≤ 1048576) (hl : ks.len = 2) :
    Calls Tryz.prog 154 #[chV A P.length capP funcs, exV 5 0 0 0 K ks.len cap, .int .i64 vars] w (FPost (formedL P funcs ks 5 0 vars) w) := by
  have hcm' : cap ≤ 9223372036854775807 := by unfold maxLen at hcm; omega
  have hPm' : capP ≤ 9223372036854775807 := by unfold maxLen at hPm; omega
  have hls := Es.len_le_size ks
  obtain ⟨b', o', hK, hks⟩ := hKs
  have HKS := Lib.hid hks; clear hks
  have HFS := Lib.hid hFS; clear hFS
  obtain ⟨F, hF⟩ : ∃ F, F = formedL P funcs ks 5 0 vars := ⟨_, rfl⟩
  have HF := Lib.hid hF
  rw [← hF]
  clear hF
  have l1 : ((ks.len : Int) == 2) = true := by simp; omega
  have l2 : ((ks.len : Int) != 2) = false := by simp; omega
  have hkl : ks.len ≤ 2 := by omega
  have HL := Lib.hid hl; clear hl
  go_enter Tryz.func154, Tryz.ntmps154
  go_wp2
  go_loopw [156] (fun i wr => ∃ (j : Nat) (es' : Es), i = .int .i64 (j : Int) ∧ j + es'.len = ks.len ∧ Hid (formedL P funcs es' 5 j vars = F) ∧ Hid (es'.size ≤ ks.size ∧ es'.depth ≤ ks.depth) ∧ Hid (Cells wr w.heap.size 209 [.slice A P.length capP, .int .i64 funcs]) ∧ Hid (Cells wr (w.heap.size + 1) 33 [.int .i64 5, .int .i64 0, .int .i64 0, .int .i64 0, .slice K ks.len cap]) ∧ Hid (ExsAt wr B es' b' (o' + j * 5)) ∧ Hid (Below w.heap.size w wr)) (fun i _ => ks.len - (intOf i).toNat)
  case atStart =>
    obtain ⟨q1, q2, q3⟩ := two_boxes w 209 33 [.slice A P.length capP, .int .i64 funcs] [.int .i64 5, .int .i64 0, .int .i64 0, .int .i64 0, .slice K ks.len cap]
    exact ⟨0, ks, by go_num, by omega, HF.out.symm, ⟨Nat.le_refl _, Nat.le_refl _⟩, q1, q2, by show ExsAt _ _ _ _ _; rw [Nat.zero_mul, Nat.add_zero]; exact HKS.out.below (q3.mono hB), q3⟩
  case round =>
    obtain ⟨j, es', rfl, hj, hy, hsz, HC1, HC2, HE, HB⟩ := hrel
    cases es' with
    | nil =>
      simp only [Es.len] at hj
      go_wp2
      go_ret
      have := hy.out
      simp only [formedL] at this
      exact ⟨ret_bool this, HB.out⟩
    | cons kk n' p' c' ks' r =>
      simp only [Es.len] at hj
      have hK := hK (by omega)
      subst hK
      obtain ⟨hel, hr⟩ := HE.out
      have HR := Lib.hid hr
      obtain ⟨hbB, c0, c1, c2, c3, K', cap', b2, o2, c4, hc2, hcm2, hK2, hks2⟩ := hel
      have HK2 : Hid (ExSl wr B ks' K') := ⟨b2, o2, hK2, hks2⟩
      have hrs : Hid ((r.size ≤ ks.size ∧ r.depth ≤ ks.depth) ∧ ks'.size < ks.size ∧ ks'.depth + 1 ≤ ks.depth) := by
        have := hsz.out
        simp only [Es.size, Es.depth] at this
        exact ⟨⟨by omega, by omega⟩, by omega, by omega⟩
      have a0 : wr.cell? ⟨w.heap.size, 0, none⟩ = some (.slice A P.length capP) := by rw [HC1.out.cell]; rfl
      have a1 : wr.cell? ⟨w.heap.size, 1, none⟩ = some (.int .i64 funcs) := by rw [HC1.out.cell]; rfl
      have a2 : wr.cell? ⟨w.heap.size + 1, 0, none⟩ = some (.int .i64 5) := by rw [HC2.out.cell]; rfl
      have a3 := HC1.out.lt
      have a4 := HC2.out.lt
      have hbr : b' < wr.heap.size := by omega
      clear hr HE hks2
      have HKV : Hid (kidVars 5 vars j = vars) := kidVars_ne (by omega)
      go_wp2_with fail
      refine (IH.out ks' (by have := hrs.out; omega) kk n' p' c' K' cap' B A capP vars funcs _ (HK2.out.below (by have := HB.out.size; go_grown)) hc2 hcm2 (HFS.out.below ((HB.out.mono hB).trans (by have := HB.out.size; go_grown))) hPl hPm (by have := HB.out.size; simp; omega) f0 f1 (by omega) (by have := hrs.out; omega) (by have := hrs.out; omega)).mono ?_; rintro e w2 ⟨rfl, hb2⟩
      have hb3 : Below wr.heap.size wr w2 := Below.trans (by go_grown) (hb2.mono (by simp))
      have HE1 : Hid (ExsAt w2 B r b' (o' + (j + 1) * 5)) := by
        have := HR.out.below (hb3.mono (by have := HB.out.size; omega))
        rwa [show o' + j * 5 + 5 = o' + (j + 1) * 5 by omega] at this
      have HB2 := Lib.hid (bnext HB.out hb3)
      have HC1' := Lib.hid (HC1.out.next hb3)
      have HC2' := Lib.hid (HC2.out.next hb3)
      have hy2 := hy.out
      simp only [formedL] at hy2
      rw [HKV.out] at hy2
      generalize (nodeOk P funcs vars kk n' p' c' ks'.len && formedL P funcs ks' kk 0 vars) = bb at hy2 ⊢
      have HY2 := Lib.hid hy2
      clear hb2 hb3 HR hy2 HC1 HC2 HK2 HB a0 a1 a2 a3 a4 c0 c1 c2 c3 c4
      cases bb
      · have HN2 : Hid (F = false) := by have := HY2.out; rw [Bool.false_and] at this; exact this.symm
        go_wp2
        go_ret
        exact ⟨ret_bool HN2.out.symm, HB2.out⟩
      · have HN2 : Hid (formedL P funcs r 5 (j + 1) vars = F) := by have := HY2.out; rw [Bool.true_and] at this; exact this
        go_wp2
        go_roundw
        case rel => exact ⟨j + 1, r, by go_num, by omega, HN2, hrs.out.1, HC1', HC2', HE1, HB2⟩
        case measure => simp [intOf]; omega
set_option maxRecDepth 100000 in
set_option maxHeartbeats 1000000 in
theorem formed_go6 (P : List Fn) (m : Nat) (ks : Es) (IH : Hid (∀ (ks : Es), ks.size < m → FormC P ks)) (hm : ks.size < m + 1) (K : Option Addr) (cap B : Nat) (A : Option Addr) (capP : Nat) (vars funcs : Int) (w : World) (hKs : ExSl w B ks K) (_hc : ks.len ≤ cap) (hcm : cap ≤ maxLen) (hFS : FnSl w B P A) (hPl : P.length ≤ capP) (hPm : capP ≤ maxLen) (hB : B ≤ w.heap.size) (f0 : 0 ≤ funcs) (f1 : funcs ≤ P.length) (v0 : 0 ≤ vars) (v1 : vars + ks.depth ≤ 2000000) (hsz0 : ks.size ≤ 1048576) (hl : ks.len = 2) :
    Calls Tryz.prog 154 #[chV A P.length capP funcs, exV 6 0 0 0 K ks.len cap, .int .i64 vars] w (FPost (formedL P funcs ks 6 0 vars) w) := by
  have hcm' : cap ≤ 9223372036854775807 := by unfold maxLen at hcm; omega
  have hPm' : capP ≤ 9223372036854775807 := by unfold maxLen at hPm; omega
  have hls := Es.len_le_size ks
  obtain ⟨b', o', hK, hks⟩ := hKs
  have HKS := Lib.hid hks; clear hks
  have HFS := Lib.hid hFS; clear hFS
  obtain ⟨F, hF⟩ : ∃ F, F = formedL P funcs ks 6 0 vars := ⟨_, rfl⟩
  have HF := Lib.hid hF
  rw [← hF]
  clear hF
  have l1 : ((ks.len : Int) == 2) = true := by simp; omega
  have l2 : ((ks.len : Int) != 2) = false := by simp; omega
  have hkl : ks.len ≤ 2 := by omega
  have HL := Lib.hid hl; clear hl
  go_enter Tryz.func154, Tryz.ntmps154
  go_wp2
  go_loopw [156] (fun i wr => ∃ (j : Nat) (es' : Es), i = .int .i64 (j : Int) ∧ j + es'.len = ks.len ∧ Hid (formedL P funcs es' 6 j vars = F) ∧ Hid (es'.size ≤ ks.size ∧ es'.depth ≤ ks.depth) ∧ Hid (Cells wr w.heap.size 209 [.slice A P.length capP, .int .i64 funcs]) ∧ Hid (Cells wr (w.heap.size + 1) 33 [.int .i64 6, .int .i64 0, .int .i64 0, .int .i64 0, .slice K ks.len cap]) ∧ Hid (ExsAt wr B es' b' (o' + j * 5)) ∧ Hid (Below w.heap.size w wr)) (fun i _ => ks.len - (intOf i).toNat)
  case atStart =>
    obtain ⟨q1, q2, q3⟩ := two_boxes w 209 33 [.slice A P.length capP, .int .i64 funcs] [.int .i64 6, .int .i64 0, .int .i64 0, .int .i64 0, .slice K ks.len cap]
    exact ⟨0, ks, by go_num, by omega, HF.out.symm, ⟨Nat.le_refl _, Nat.le_refl _⟩, q1, q2, by show ExsAt _ _ _ _ _; rw [Nat.zero_mul, Nat.add_zero]; exact HKS.out.below (q3.mono hB), q3⟩
  case round =>
    obtain ⟨j, es', rfl, hj, hy, hsz, HC1, HC2, HE, HB⟩ := hrel
    cases es' with
    | nil =>
      simp only [Es.len] at hj
      go_wp2
      go_ret
      have := hy.out
      simp only [formedL] at this
      exact ⟨ret_bool this, HB.out⟩
    | cons kk n' p' c' ks' r =>
      simp only [Es.len] at hj
      have hK := hK (by omega)
      subst hK
      obtain ⟨hel, hr⟩ := HE.out
      have HR := Lib.hid hr
      obtain ⟨hbB, c0, c1, c2, c3, K', cap', b2, o2, c4, hc2, hcm2, hK2, hks2⟩ := hel
      have HK2 : Hid (ExSl wr B ks' K') := ⟨b2, o2, hK2, hks2⟩
      have hrs : Hid ((r.size ≤ ks.size ∧ r.depth ≤ ks.depth) ∧ ks'.size < ks.size ∧ ks'.depth + 1 ≤ ks.depth) := by
        have := hsz.out
        simp only [Es.size, Es.depth] at this
        exact ⟨⟨by omega, by omega⟩, by omega, by omega⟩
      have a0 : wr.cell? ⟨w.heap.size, 0, none⟩ = some (.slice A P.length capP) := by rw [HC1.out.cell]; rfl
      have a1 : wr.cell? ⟨w.heap.size, 1, none⟩ = some (.int .i64 funcs) := by rw [HC1.out.cell]; rfl
      have a2 : wr.cell? ⟨w.heap.size + 1, 0, none⟩ = some (.int .i64 6) := by rw [HC2.out.cell]; rfl
      have a3 := HC1.out.lt
      have a4 := HC2.out.lt
      have hbr : b' < wr.heap.size := by omega
      clear hr HE hks2
      have HKV : Hid (kidVars 6 vars j = vars) := kidVars_ne (by omega)
      go_wp2_with fail
      refine (IH.out ks' (by have := hrs.out; omega) kk n' p' c' K' cap' B A capP vars funcs _ (HK2.out.below (by have := HB.out.size; go_grown)) hc2 hcm2 (HFS.out.below ((HB.out.mono hB).trans (by have := HB.out.size; go_grown))) hPl hPm (by have := HB.out.size; simp; omega) f0 f1 (by omega) (by have := hrs.out; omega) (by have := hrs.out; omega)).mono ?_; rintro e w2 ⟨rfl, hb2⟩
      have hb3 : Below wr.heap.size wr w2 := Below.trans (by go_grown) (hb2.mono (by simp))
      have HE1 : Hid (ExsAt w2 B r b' (o' + (j + 1) * 5)) := by
        have := HR.out.below (hb3.mono (by have := HB.out.size; omega))
        rwa [show o' + j * 5 + 5 = o' + (j + 1) * 5 by omega] at this
      have HB2 := Lib.hid (bnext HB.out hb3)
      have HC1' := Lib.hid (HC1.out.next hb3)
      have HC2' := Lib.hid (HC2.out.next hb3)
      have hy2 := hy.out
      simp only [formedL] at hy2
      rw [HKV.out] at hy2
      generalize (nodeOk P funcs vars kk n' p' c' ks'.len && formedL P funcs ks' kk 0 vars) = bb at hy2 ⊢
      have HY2 := Lib.hid hy2
      clear hb2 hb3 HR hy2 HC1 HC2 HK2 HB a0 a1 a2 a3 a4 c0 c1 c2 c3 c4
      cases bb
      · have HN2 : Hid (F = false) := by have := HY2.out; rw [Bool.false_and] at this; exact this.symm
        go_wp2
        go_ret
        exact ⟨ret_bool HN2.out.symm, HB2.out⟩
      · have HN2 : Hid (formedL P funcs r 6 (j + 1) vars = F) := by have := HY2.out; rw [Bool.true_and] at this; exact this
        go_wp2
        go_roundw
        case rel => exact ⟨j + 1, r, by go_num, by omega, HN2, hrs.out.1, HC1', HC2', HE1, HB2⟩
        case measure => simp [intOf]; omega
set_option maxRecDepth 100000 in
set_option maxHeartbeats 1000000 in
theorem formed_go7 (P : List Fn) (m : Nat) (ks : Es) (IH : Hid (∀ (ks : Es), ks.size < m → FormC P ks)) (hm : ks.size < m + 1) (K : Option Addr) (cap B : Nat) (A : Option Addr) (capP : Nat) (vars funcs : Int) (w : World) (hKs : ExSl w B ks K) (_hc : ks.len ≤ cap) (hcm : cap ≤ maxLen) (hFS : FnSl w B P A) (hPl : P.length ≤ capP) (hPm : capP ≤ maxLen) (hB : B ≤ w.heap.size) (f0 : 0 ≤ funcs) (f1 : funcs ≤ P.length) (v0 : 0 ≤ vars) (v1 : vars + ks.depth ≤ 2000000) (hsz0 : ks.size ≤ 1048576) (hl : ks.len = 1) :
    Calls Tryz.prog 154 #[chV A P.length capP funcs, exV 7 0 0 0 K ks.len cap, .int .i64 vars] w (FPost (formedL P funcs ks 7 0 vars) w) := by
  have hcm' : cap ≤ 9223372036854775807 := by unfold maxLen at hcm; omega
  have hPm' : capP ≤ 9223372036854775807 := by unfold maxLen at hPm; omega
  have hls := Es.len_le_size ks
  obtain ⟨b', o', hK, hks⟩ := hKs
  have HKS := Lib.hid hks; clear hks
  have HFS := Lib.hid hFS; clear hFS
  obtain ⟨F, hF⟩ : ∃ F, F = formedL P funcs ks 7 0 vars := ⟨_, rfl⟩
  have HF := Lib.hid hF
  rw [← hF]
  clear hF
  have l1 : ((ks.len : Int) == 1) = true := by simp; omega
  have l2 : ((ks.len : Int) != 1) = false := by simp; omega
  have hkl : ks.len ≤ 1 := by omega
  have HL := Lib.hid hl; clear hl
  go_enter Tryz.func154, Tryz.ntmps154
  go_wp2
  go_loopw [156] (fun i wr => ∃ (j : Nat) (es' : Es), i = .int .i64 (j : Int) ∧ j + es'.len = ks.len ∧ Hid (formedL P funcs es' 7 j vars = F) ∧ Hid (es'.size ≤ ks.size ∧ es'.depth ≤ ks.depth) ∧ Hid (Cells wr w.heap.size 209 [.slice A P.length capP, .int .i64 funcs]) ∧ Hid (Cells wr (w.heap.size + 1) 33 [.int .i64 7, .int .i64 0, .int .i64 0, .int .i64 0, .slice K ks.len cap]) ∧ Hid (ExsAt wr B es' b' (o' + j * 5)) ∧ Hid (Below w.heap.size w wr)) (fun i _ => ks.len - (intOf i).toNat)
  case atStart =>
    obtain ⟨q1, q2, q3⟩ := two_boxes w 209 33 [.slice A P.length capP, .int .i64 funcs] [.int .i64 7, .int .i64 0, .int .i64 0, .int .i64 0, .slice K ks.len cap]
    exact ⟨0, ks, by go_num, by omega, HF.out.symm, ⟨Nat.le_refl _, Nat.le_refl _⟩, q1, q2, by show ExsAt _ _ _ _ _; rw [Nat.zero_mul, Nat.add_zero]; exact HKS.out.below (q3.mono hB), q3⟩
  case round =>
    obtain ⟨j, es', rfl, hj, hy, hsz, HC1, HC2, HE, HB⟩ := hrel
    cases es' with
    | nil =>
      simp only [Es.len] at hj
      go_wp2
      go_ret
      have := hy.out
      simp only [formedL] at this
      exact ⟨ret_bool this, HB.out⟩
    | cons kk n' p' c' ks' r =>
      simp only [Es.len] at hj
      have hK := hK (by omega)
      subst hK
      obtain ⟨hel, hr⟩ := HE.out
      have HR := Lib.hid hr
      obtain ⟨hbB, c0, c1, c2, c3, K', cap', b2, o2, c4, hc2, hcm2, hK2, hks2⟩ := hel
      have HK2 : Hid (ExSl wr B ks' K') := ⟨b2, o2, hK2, hks2⟩
      have hrs : Hid ((r.size ≤ ks.size ∧ r.depth ≤ ks.depth) ∧ ks'.size < ks.size ∧ ks'.depth + 1 ≤ ks.depth) := by
        have := hsz.out
        simp only [Es.size, Es.depth] at this
        exact ⟨⟨by omega, by omega⟩, by omega, by omega⟩
      have a0 : wr.cell? ⟨w.heap.size, 0, none⟩ = some (.slice A P.length capP) := by rw [HC1.out.cell]; rfl
      have a1 : wr.cell? ⟨w.heap.size, 1, none⟩ = some (.int .i64 funcs) := by rw [HC1.out.cell]; rfl
      have a2 : wr.cell? ⟨w.heap.size + 1, 0, none⟩ = some (.int .i64 7) := by rw [HC2.out.cell]; rfl
      have a3 := HC1.out.lt
      have a4 := HC2.out.lt
      have hbr : b' < wr.heap.size := by omega
      clear hr HE hks2
      have HKV : Hid (kidVars 7 vars j = vars) := kidVars_ne (by omega)
      go_wp2_with fail
      refine (IH.out ks' (by have := hrs.out; omega) kk n' p' c' K' cap' B A capP vars funcs _ (HK2.out.below (by have := HB.out.size; go_grown)) hc2 hcm2 (HFS.out.below ((HB.out.mono hB).trans (by have := HB.out.size; go_grown))) hPl hPm (by have := HB.out.size; simp; omega) f0 f1 (by omega) (by have := hrs.out; omega) (by have := hrs.out; omega)).mono ?_; rintro e w2 ⟨rfl, hb2⟩
      have hb3 : Below wr.heap.size wr w2 := Below.trans (by go_grown) (hb2.mono (by simp))
      have HE1 : Hid (ExsAt w2 B r b' (o' + (j + 1) * 5)) := by
        have := HR.out.below (hb3.mono (by have := HB.out.size; omega))
        rwa [show o' + j * 5 + 5 = o' + (j + 1) * 5 by omega] at this
      have HB2 := Lib.hid (bnext HB.out hb3)
      have HC1' := Lib.hid (HC1.out.next hb3)
      have HC2' := Lib.hid (HC2.out.next hb3)
      have hy2 := hy.out
      simp only [formedL] at hy2
      rw [HKV.out] at hy2
      generalize (nodeOk P funcs vars kk n' p' c' ks'.len && formedL P funcs ks' kk 0 vars) = bb at hy2 ⊢
      have HY2 := Lib.hid hy2
      clear hb2 hb3 HR hy2 HC1 HC2 HK2 HB a0 a1 a2 a3 a4 c0 c1 c2 c3 c4
      cases bb
      · have HN2 : Hid (F = false) := by have := HY2.out; rw [Bool.false_and] at this; exact this.symm
        go_wp2
        go_ret
        exact ⟨ret_bool HN2.out.symm, HB2.out⟩
      · have HN2 : Hid (formedL P funcs r 7 (j + 1) vars = F) := by have := HY2.out; rw [Bool.true_and] at this; exact this
        go_wp2
        go_roundw
        case rel => exact ⟨j + 1, r, by go_num, by omega, HN2, hrs.out.1, HC1', HC2', HE1, HB2⟩
        case measure => simp [intOf]; omega
set_option maxRecDepth 100000 in
set_option maxHeartbeats 1000000 in
theorem formed_go8 (P : List Fn) (m : Nat) (ks : Es) (IH : Hid (∀ (ks : Es), ks.size < m → FormC P ks)) (hm : ks.size < m + 1) (K : Option Addr) (cap B : Nat) (A : Option Addr) (capP : Nat) (vars funcs : Int) (w : World) (hKs : ExSl w B ks K) (_hc : ks.len ≤ cap) (hcm : cap ≤ maxLen) (hFS : FnSl w B P A) (hPl : P.length ≤ capP) (hPm : capP ≤ maxLen) (hB : B ≤ w.heap.size) (f0 : 0 ≤ funcs) (f1 : funcs ≤ P.length) (v0 : 0 ≤ vars) (v1 : vars + ks.depth ≤ 2000000) (hsz0 : ks.size ≤ 1048576) (hl : ks.len = 3) :
    Calls Tryz.prog 154 #[chV A P.length capP funcs, exV 8 0 0 0 K ks.len cap, .int .i64 vars] w (FPost (formedL P funcs ks 8 0 vars) w) := by
  have hcm' : cap ≤ 9223372036854775807 := by unfold maxLen at hcm; omega
  have hPm' : capP ≤ 9223372036854775807 := by unfold maxLen at hPm; omega
  have hls := Es.len_le_size ks
  obtain ⟨b', o', hK, hks⟩ := hKs
  have HKS := Lib.hid hks; clear hks
  have HFS := Lib.hid hFS; clear hFS
  obtain ⟨F, hF⟩ : ∃ F, F = formedL P funcs ks 8 0 vars := ⟨_, rfl⟩
  have HF := Lib.hid hF
  rw [← hF]
  clear hF
  have l1 : ((ks.len : Int) == 3) = true := by simp; omega
  have l2 : ((ks.len : Int) != 3) = false := by simp; omega
  have hkl : ks.len ≤ 3 := by omega
  have HL := Lib.hid hl; clear hl
  go_enter Tryz.func154, Tryz.ntmps154
  go_wp2
  go_loopw [156] (fun i wr => ∃ (j : Nat) (es' : Es), i = .int .i64 (j : Int) ∧ j + es'.len = ks.len ∧ Hid (formedL P funcs es' 8 j vars = F) ∧ Hid (es'.size ≤ ks.size ∧ es'.depth ≤ ks.depth) ∧ Hid (Cells wr w.heap.size 209 [.slice A P.length capP, .int .i64 funcs]) ∧ Hid (Cells wr (w.heap.size + 1) 33 [.int .i64 8, .int .i64 0, .int .i64 0, .int .i64 0, .slice K ks.len cap]) ∧ Hid (ExsAt wr B es' b' (o' + j * 5)) ∧ Hid (Below w.heap.size w wr)) (fun i _ => ks.len - (intOf i).toNat)
  case atStart =>
    obtain ⟨q1, q2, q3⟩ := two_boxes w 209 33 [.slice A P.length capP, .int .i64 funcs] [.int .i64 8, .int .i64 0, .int .i64 0, .int .i64 0, .slice K ks.len cap]
    exact ⟨0, ks, by go_num, by omega, HF.out.symm, ⟨Nat.le_refl _, Nat.le_refl _⟩, q1, q2, by show ExsAt _ _ _ _ _; rw [Nat.zero_mul, Nat.add_zero]; exact HKS.out.below (q3.mono hB), q3⟩
  case round =>
    obtain ⟨j, es', rfl, hj, hy, hsz, HC1, HC2, HE, HB⟩ := hrel
    cases es' with
    | nil =>
      simp only [Es.len] at hj
      go_wp2
      go_ret
      have := hy.out
      simp only [formedL] at this
      exact ⟨ret_bool this, HB.out⟩
    | cons kk n' p' c' ks' r =>
      simp only [Es.len] at hj
      have hK := hK (by omega)
      subst hK
      obtain ⟨hel, hr⟩ := HE.out
      have HR := Lib.hid hr
      obtain ⟨hbB, c0, c1, c2, c3, K', cap', b2, o2, c4, hc2, hcm2, hK2, hks2⟩ := hel
      have HK2 : Hid (ExSl wr B ks' K') := ⟨b2, o2, hK2, hks2⟩
      have hrs : Hid ((r.size ≤ ks.size ∧ r.depth ≤ ks.depth) ∧ ks'.size < ks.size ∧ ks'.depth + 1 ≤ ks.depth) := by
        have := hsz.out
        simp only [Es.size, Es.depth] at this
        exact ⟨⟨by omega, by omega⟩, by omega, by omega⟩
      have a0 : wr.cell? ⟨w.heap.size, 0, none⟩ = some (.slice A P.length capP) := by rw [HC1.out.cell]; rfl
      have a1 : wr.cell? ⟨w.heap.size, 1, none⟩ = some (.int .i64 funcs) := by rw [HC1.out.cell]; rfl
      have a2 : wr.cell? ⟨w.heap.size + 1, 0, none⟩ = some (.int .i64 8) := by rw [HC2.out.cell]; rfl
      have a3 := HC1.out.lt
      have a4 := HC2.out.lt
      have hbr : b' < wr.heap.size := by omega
      clear hr HE hks2
      have HKV : Hid (kidVars 8 vars j = vars) := kidVars_ne (by omega)
      go_wp2_with fail
      refine (IH.out ks' (by have := hrs.out; omega) kk n' p' c' K' cap' B A capP vars funcs _ (HK2.out.below (by have := HB.out.size; go_grown)) hc2 hcm2 (HFS.out.below ((HB.out.mono hB).trans (by have := HB.out.size; go_grown))) hPl hPm (by have := HB.out.size; simp; omega) f0 f1 (by omega) (by have := hrs.out; omega) (by have := hrs.out; omega)).mono ?_; rintro e w2 ⟨rfl, hb2⟩
      have hb3 : Below wr.heap.size wr w2 := Below.trans (by go_grown) (hb2.mono (by simp))
      have HE1 : Hid (ExsAt w2 B r b' (o' + (j + 1) * 5)) := by
        have := HR.out.below (hb3.mono (by have := HB.out.size; omega))
        rwa [show o' + j * 5 + 5 = o' + (j + 1) * 5 by omega] at this
      have HB2 := Lib.hid (bnext HB.out hb3)
      have HC1' := Lib.hid (HC1.out.next hb3)
      have HC2' := Lib.hid (HC2.out.next hb3)
      have hy2 := hy.out
      simp only [formedL] at hy2
      rw [HKV.out] at hy2
      generalize (nodeOk P funcs vars kk n' p' c' ks'.len && formedL P funcs ks' kk 0 vars) = bb at hy2 ⊢
      have HY2 := Lib.hid hy2
      clear hb2 hb3 HR hy2 HC1 HC2 HK2 HB a0 a1 a2 a3 a4 c0 c1 c2 c3 c4
      cases bb
      · have HN2 : Hid (F = false) := by have := HY2.out; rw [Bool.false_and] at this; exact this.symm
        go_wp2
        go_ret
        exact ⟨ret_bool HN2.out.symm, HB2.out⟩
      · have HN2 : Hid (formedL P funcs r 8 (j + 1) vars = F) := by have := HY2.out; rw [Bool.true_and] at this; exact this
        go_wp2
        go_roundw
        case rel => exact ⟨j + 1, r, by go_num, by omega, HN2, hrs.out.1, HC1', HC2', HE1, HB2⟩
        case measure => simp [intOf]; omega
set_option maxRecDepth 100000 in
set_option maxHeartbeats 1000000 in
theorem formed_go9 (P : List Fn) (m : Nat) (ks : Es) (IH : Hid (∀ (ks : Es), ks.size < m → FormC P ks)) (hm : ks.size < m + 1) (K : Option Addr) (cap B : Nat) (A : Option Addr) (capP : Nat) (vars funcs : Int) (w : World) (hKs : ExSl w B ks K) (_hc : ks.len ≤ cap) (hcm : cap ≤ maxLen) (hFS : FnSl w B P A) (hPl : P.length ≤ capP) (hPm : capP ≤ maxLen) (hB : B ≤ w.heap.size) (f0 : 0 ≤ funcs) (f1 : funcs ≤ P.length) (v0 : 0 ≤ vars) (v1 : vars + ks.depth ≤ 2000000) (hsz0 : ks.size ≤ 1048576) (hl : ks.len = 2) :
    Calls Tryz.prog 154 #[chV A P.length capP funcs, exV 9 0 0 0 K ks.len cap, .int .i64 vars] w (FPost (formedL P funcs ks 9 0 vars) w) := by
  have hcm' : cap ≤ 9223372036854775807 := by unfold maxLen at hcm; omega
  have hPm' : capP ≤ 9223372036854775807 := by unfold maxLen at hPm; omega
  have hls := Es.len_le_size ks
  obtain ⟨b', o', hK, hks⟩ := hKs
  have HKS := Lib.hid hks; clear hks
  have HFS := Lib.hid hFS; clear hFS
  obtain ⟨F, hF⟩ : ∃ F, F = formedL P funcs ks 9 0 vars := ⟨_, rfl⟩
  have HF := Lib.hid hF
  rw [← hF]
  clear hF
  have l1 : ((ks.len : Int) == 2) = true := by simp; omega
  have l2 : ((ks.len : Int) != 2) = false := by simp; omega
  have hkl : ks.len ≤ 2 := by omega
  have HL := Lib.hid hl; clear hl
  go_enter Tryz.func154, Tryz.ntmps154
  go_wp2
  go_loopw [156] (fun i wr => ∃ (j : Nat) (es' : Es), i = .int .i64 (j : Int) ∧ j + es'.len = ks.len ∧ Hid (formedL P funcs es' 9 j vars = F) ∧ Hid (es'.size ≤ ks.size ∧ es'.depth ≤ ks.depth) ∧ Hid (Cells wr w.heap.size 209 [.slice A P.length capP, .int .i64 funcs]) ∧ Hid (Cells wr (w.heap.size + 1) 33 [.int .i64 9, .int .i64 0, .int .i64 0, .int .i64 0, .slice K ks.len cap]) ∧ Hid (ExsAt wr B es' b' (o' + j * 5)) ∧ Hid (Below w.heap.size w wr)) (fun i _ => ks.len - (intOf i).toNat)
  case atStart =>
    obtain ⟨q1, q2, q3⟩ := two_boxes w 209 33 [.slice A P.length capP, .int .i64 funcs] [.int .i64 9, .int .i64 0, .int .i64 0, .int .i64 0, .slice K ks.len cap]
    exact ⟨0, ks, by go_num, by omega, HF.out.symm, ⟨Nat.le_refl _, Nat.le_refl _⟩, q1, q2, by show ExsAt _ _ _ _ _; rw [Nat.zero_mul, Nat.add_zero]; exact HKS.out.below (q3.mono hB), q3⟩
  case round =>
    obtain ⟨j, es', rfl, hj, hy, hsz, HC1, HC2, HE, HB⟩ := hrel
    cases es' with
    | nil =>
      simp only [Es.len] at hj
      go_wp2
      go_ret
      have := hy.out
      simp only [formedL] at this
      exact ⟨ret_bool this, HB.out⟩
    | cons kk n' p' c' ks' r =>
      simp only [Es.len] at hj
      have hK := hK (by omega)
      subst hK
      obtain ⟨hel, hr⟩ := HE.out
      have HR := Lib.hid hr
      obtain ⟨hbB, c0, c1, c2, c3, K', cap', b2, o2, c4, hc2, hcm2, hK2, hks2⟩ := hel
      have HK2 : Hid (ExSl wr B ks' K') := ⟨b2, o2, hK2, hks2⟩
      have hrs : Hid ((r.size ≤ ks.size ∧ r.depth ≤ ks.depth) ∧ ks'.size < ks.size ∧ ks'.depth + 1 ≤ ks.depth) := by
        have := hsz.out
        simp only [Es.size, Es.depth] at this
        exact ⟨⟨by omega, by omega⟩, by omega, by omega⟩
      have a0 : wr.cell? ⟨w.heap.size, 0, none⟩ = some (.slice A P.length capP) := by rw [HC1.out.cell]; rfl
      have a1 : wr.cell? ⟨w.heap.size, 1, none⟩ = some (.int .i64 funcs) := by rw [HC1.out.cell]; rfl
      have a2 : wr.cell? ⟨w.heap.size + 1, 0, none⟩ = some (.int .i64 9) := by rw [HC2.out.cell]; rfl
      have a3 := HC1.out.lt
      have a4 := HC2.out.lt
      have hbr : b' < wr.heap.size := by omega
      clear hr HE hks2
      by_cases j1 : j = 1
      · have HKV : Hid (kidVars 9 vars j = vars + 1) := by subst j1; rfl
        have e1 : ((j : Int) == 1) = true := by simp; omega
        clear j1
        go_wp2_with fail
        refine (IH.out ks' (by have := hrs.out; omega) kk n' p' c' K' cap' B A capP (vars + 1) funcs _ (HK2.out.below (by have := HB.out.size; go_grown)) hc2 hcm2 (HFS.out.below ((HB.out.mono hB).trans (by have := HB.out.size; go_grown))) hPl hPm (by have := HB.out.size; simp; omega) f0 f1 (by omega) (by have := hrs.out; omega) (by have := hrs.out; omega)).mono ?_; rintro e w2 ⟨rfl, hb2⟩
        have hb3 : Below wr.heap.size wr w2 := Below.trans (by go_grown) (hb2.mono (by simp))
        have HE1 : Hid (ExsAt w2 B r b' (o' + (j + 1) * 5)) := by
          have := HR.out.below (hb3.mono (by have := HB.out.size; omega))
          rwa [show o' + j * 5 + 5 = o' + (j + 1) * 5 by omega] at this
        have HB2 := Lib.hid (bnext HB.out hb3)
        have HC1' := Lib.hid (HC1.out.next hb3)
        have HC2' := Lib.hid (HC2.out.next hb3)
        have hy2 := hy.out
        simp only [formedL] at hy2
        rw [HKV.out] at hy2
        generalize (nodeOk P funcs (vars + 1) kk n' p' c' ks'.len && formedL P funcs ks' kk 0 (vars + 1)) = bb at hy2 ⊢
        have HY2 := Lib.hid hy2
        clear hb2 hb3 HR hy2 HC1 HC2 HK2 HB a0 a1 a2 a3 a4 c0 c1 c2 c3 c4
        cases bb
        · have HN2 : Hid (F = false) := by have := HY2.out; rw [Bool.false_and] at this; exact this.symm
          go_wp2
          go_ret
          exact ⟨ret_bool HN2.out.symm, HB2.out⟩
        · have HN2 : Hid (formedL P funcs r 9 (j + 1) vars = F) := by have := HY2.out; rw [Bool.true_and] at this; exact this
          go_wp2
          go_roundw
          case rel => exact ⟨j + 1, r, by go_num, by omega, HN2, hrs.out.1, HC1', HC2', HE1, HB2⟩
          case measure => simp [intOf]; omega
      · have HKV : Hid (kidVars 9 vars j = vars) := kidVars_no j1
        have e1 : ((j : Int) == 1) = false := by simp; omega
        clear j1
        go_wp2_with fail
        refine (IH.out ks' (by have := hrs.out; omega) kk n' p' c' K' cap' B A capP vars funcs _ (HK2.out.below (by have := HB.out.size; go_grown)) hc2 hcm2 (HFS.out.below ((HB.out.mono hB).trans (by have := HB.out.size; go_grown))) hPl hPm (by have := HB.out.size; simp; omega) f0 f1 (by omega) (by have := hrs.out; omega) (by have := hrs.out; omega)).mono ?_; rintro e w2 ⟨rfl, hb2⟩
        have hb3 : Below wr.heap.size wr w2 := Below.trans (by go_grown) (hb2.mono (by simp))
        have HE1 : Hid (ExsAt w2 B r b' (o' + (j + 1) * 5)) := by
          have := HR.out.below (hb3.mono (by have := HB.out.size; omega))
          rwa [show o' + j * 5 + 5 = o' + (j + 1) * 5 by omega] at this
        have HB2 := Lib.hid (bnext HB.out hb3)
        have HC1' := Lib.hid (HC1.out.next hb3)
        have HC2' := Lib.hid (HC2.out.next hb3)
        have hy2 := hy.out
        simp only [formedL] at hy2
        rw [HKV.out] at hy2
        generalize (nodeOk P funcs vars kk n' p' c' ks'.len && formedL P funcs ks' kk 0 vars) = bb at hy2 ⊢
        have HY2 := Lib.hid hy2
        clear hb2 hb3 HR hy2 HC1 HC2 HK2 HB a0 a1 a2 a3 a4 c0 c1 c2 c3 c4
        cases bb
        · have HN2 : Hid (F = false) := by have := HY2.out; rw [Bool.false_and] at this; exact this.symm
          go_wp2
          go_ret
          exact ⟨ret_bool HN2.out.symm, HB2.out⟩
        · have HN2 : Hid (formedL P funcs r 9 (j + 1) vars = F) := by have := HY2.out; rw [Bool.true_and] at this; exact this
          go_wp2
          go_roundw
          case rel => exact ⟨j + 1, r, by go_num, by omega, HN2, hrs.out.1, HC1', HC2', HE1, HB2⟩
          case measure => simp [intOf]; omega
set_option maxRecDepth 100000 in
set_option maxHeartbeats 1000000 in
theorem formed_go10 (P : List Fn) (m : Nat) (ks : Es) (IH : Hid (∀ (ks : Es), ks.size < m → FormC P ks)) (hm : ks.size < m + 1) (fi : Nat) (p c : Int) (K : Option Addr) (cap B : Nat) (A : Option Addr) (capP : Nat) (vars funcs : Int) (w : World) (hKs : ExSl w B ks K) (_hc : ks.len ≤ cap) (hcm : cap ≤ maxLen) (hFS : FnSl w B P A) (hPl : P.length ≤ capP) (hPm : capP ≤ maxLen) (hB : B ≤ w.heap.size) (f0 : 0 ≤ funcs) (f1 : funcs ≤ P.length) (v0 : 0 ≤ vars) (v1 : vars + ks.depth ≤ 2000000) (hsz0 : ks.size ≤ 1048576) (hok : nodeOk P funcs vars 10 fi p c ks.len = true) :
    Calls Tryz.prog 154 #[chV A P.length capP funcs, exV 10 fi p c K ks.len cap, .int .i64 vars] w (FPost (formedL P funcs ks 10 0 vars) w) := by
  have hcm' : cap ≤ 9223372036854775807 := by unfold maxLen at hcm; omega
  have hPm' : capP ≤ 9223372036854775807 := by unfold maxLen at hPm; omega
  have hls := Es.len_le_size ks
  obtain ⟨b', o', hK, hks⟩ := hKs
  have HKS := Lib.hid hks; clear hks
  have HFS := Lib.hid hFS; clear hFS
  obtain ⟨F, hF⟩ : ∃ F, F = formedL P funcs ks 10 0 vars := ⟨_, rfl⟩
  have HF := Lib.hid hF
  rw [← hF]
  clear hF
  have hn : inR fi 0 (funcs - 1) = true := by
    cases h : inR fi 0 (funcs - 1)
    · rw [nodeOk_no (by omega) h] at hok; cases hok
    · rfl
  obtain ⟨n0, n1⟩ := inR_true.1 hn
  obtain ⟨f, hf⟩ : ∃ f, P[fi]? = some f := ⟨P[fi]'(by omega), List.getElem?_eq_getElem _⟩
  have HN := Lib.hid ((nodeOk_call (vars := vars) (p := p) (c := c) (len := ks.len) (k := 10) (by omega) (show P[(fi : Int).toNat]? = some f from hf) hn).symm.trans hok)
  obtain ⟨bF, oF, rfl, hbF, g0, g1, _, KF, cF, g2, hcF, hcFm, _⟩ := HFS.out.get hf
  have hcF' : cF ≤ 9223372036854775807 := by unfold maxLen at hcFm; omega
  have hl4 : ((f.outs.len : Nat) : Int) ≤ 9223372036854775807 := by omega
  have hl5 : ((ks.len : Nat) : Int) ≤ 9223372036854775807 := by omega
  have hNN := Lib.hid hn
  have hbw : bF < w.heap.size := by omega
  have hml : fi < P.length := (List.getElem?_eq_some_iff.1 hf).1
  have hml2 : (fi : Int) < (P.length : Int) := by omega
  have HPP : Hid (inR p 0 ((f.outs.len : Int) - 1) = true) := by
    have := HN.out
    rw [Bool.and_eq_true, Bool.and_eq_true] at this
    exact this.1.2
  have HLL : Hid ((ks.len : Int) = f.params) := by
    have := HN.out
    rw [Bool.and_eq_true, Bool.and_eq_true] at this
    show _ = _
    exact of_decide_eq_true this.1.1
  have l1 : ((ks.len : Int) == f.params) = true := by simpa using HLL.out
  have l2 : ((ks.len : Int) != f.params) = false := by simpa using HLL.out
  have HC0 : Hid (c = 0) := by
    have := HN.out
    rw [Bool.and_eq_true] at this
    show _ = _
    simpa using this.2
  obtain rfl : c = 0 := HC0.out
  clear hok hn hf
  have key : p = 0 ∨ (p == 0) = false := by
    by_cases h : p = 0
    · exact .inl h
    · exact .inr (by simpa using h)
  rcases key with rfl | hp0
  · go_enter Tryz.func154, Tryz.ntmps154
    go_wp2_with fail
    refine (within_any _ _ _ _).mono ?_; rintro e w' ⟨rfl, rfl⟩
    rw [hNN.out]
    go_wp2_with fail
    refine (within_any _ _ _ _).mono ?_; rintro e w' ⟨rfl, rfl⟩
    rw [HPP.out]
    go_wp2
    clear g0 g1 g2 l1 l2 hml hml2 hl4 hl5 n0 n1
    go_loopw [156] (fun i wr => ∃ (j : Nat) (es' : Es), i = .int .i64 (j : Int) ∧ j + es'.len = ks.len ∧ Hid (formedL P funcs es' 10 j vars = F) ∧ Hid (es'.size ≤ ks.size ∧ es'.depth ≤ ks.depth) ∧ Hid (Cells wr w.heap.size 209 [.slice (some ⟨bF, oF, none⟩) P.length capP, .int .i64 funcs]) ∧ Hid (Cells wr (w.heap.size + 1) 33 [.int .i64 10, .int .i64 fi, .int .i64 0, .int .i64 0, .slice K ks.len cap]) ∧ Hid (ExsAt wr B es' b' (o' + j * 5)) ∧ Hid (Below w.heap.size w wr)) (fun i _ => ks.len - (intOf i).toNat)
    case atStart =>
      obtain ⟨q1, q2, q3⟩ := two_boxes w 209 33 [.slice (some ⟨bF, oF, none⟩) P.length capP, .int .i64 funcs] [.int .i64 10, .int .i64 fi, .int .i64 0, .int .i64 0, .slice K ks.len cap]
      have q4 : Below w.heap.size w (((w.alloc (.cells [Value.slice (some ⟨bF, oF, none⟩) P.length capP, .int .i64 funcs].toArray 209)).alloc (.cells [Value.int .i64 10, .int .i64 fi, .int .i64 0, .int .i64 0, .slice K ks.len cap].toArray 33)).alloc (.cells [Value.string f.name, .int .i64 f.params, .slice KF f.outs.len cF].toArray 146)) := by go_grown
      exact ⟨0, ks, by go_num, by omega, HF.out.symm, ⟨Nat.le_refl _, Nat.le_refl _⟩, q1.next (by go_grown), q2.next (by go_grown), by show ExsAt _ _ _ _ _; rw [Nat.zero_mul, Nat.add_zero]; exact HKS.out.below (q4.mono hB), q4⟩
    case round =>
      obtain ⟨j, es', rfl, hj, hy, hsz, HC1, HC2, HE, HB⟩ := hrel
      cases es' with
      | nil =>
        simp only [Es.len] at hj
        go_wp2
        go_ret
        have := hy.out
        simp only [formedL] at this
        exact ⟨ret_bool this, HB.out⟩
      | cons kk n' p' c' ks' r =>
        simp only [Es.len] at hj
        have hK := hK (by omega)
        subst hK
        obtain ⟨hel, hr⟩ := HE.out
        have HR := Lib.hid hr
        obtain ⟨hbB, c0, c1, c2, c3, K', cap', b2, o2, c4, hc2, hcm2, hK2, hks2⟩ := hel
        have HK2 : Hid (ExSl wr B ks' K') := ⟨b2, o2, hK2, hks2⟩
        have hrs : Hid ((r.size ≤ ks.size ∧ r.depth ≤ ks.depth) ∧ ks'.size < ks.size ∧ ks'.depth + 1 ≤ ks.depth) := by
          have := hsz.out
          simp only [Es.size, Es.depth] at this
          exact ⟨⟨by omega, by omega⟩, by omega, by omega⟩
        have a0 : wr.cell? ⟨w.heap.size, 0, none⟩ = some (.slice (some ⟨bF, oF, none⟩) P.length capP) := by rw [HC1.out.cell]; rfl
        have a1 : wr.cell? ⟨w.heap.size, 1, none⟩ = some (.int .i64 funcs) := by rw [HC1.out.cell]; rfl
        have a2 : wr.cell? ⟨w.heap.size + 1, 0, none⟩ = some (.int .i64 10) := by rw [HC2.out.cell]; rfl
        have a3 := HC1.out.lt
        have a4 := HC2.out.lt
        have hbr : b' < wr.heap.size := by omega
        clear hr HE hks2
        have HKV : Hid (kidVars 10 vars j = vars) := kidVars_ne (by omega)
        go_wp2_with fail
        refine (IH.out ks' (by have := hrs.out; omega) kk n' p' c' K' cap' B (some ⟨bF, oF, none⟩) capP vars funcs _ (HK2.out.below (by have := HB.out.size; go_grown)) hc2 hcm2 (HFS.out.below ((HB.out.mono hB).trans (by have := HB.out.size; go_grown))) hPl hPm (by have := HB.out.size; simp; omega) f0 f1 (by omega) (by have := hrs.out; omega) (by have := hrs.out; omega)).mono ?_; rintro e w2 ⟨rfl, hb2⟩
        have hb3 : Below wr.heap.size wr w2 := Below.trans (by go_grown) (hb2.mono (by simp))
        have HE1 : Hid (ExsAt w2 B r b' (o' + (j + 1) * 5)) := by
          have := HR.out.below (hb3.mono (by have := HB.out.size; omega))
          rwa [show o' + j * 5 + 5 = o' + (j + 1) * 5 by omega] at this
        have HB2 := Lib.hid (bnext HB.out hb3)
        have HC1' := Lib.hid (HC1.out.next hb3)
        have HC2' := Lib.hid (HC2.out.next hb3)
        have hy2 := hy.out
        simp only [formedL] at hy2
        rw [HKV.out] at hy2
        generalize (nodeOk P funcs vars kk n' p' c' ks'.len && formedL P funcs ks' kk 0 vars) = bb at hy2 ⊢
        have HY2 := Lib.hid hy2
        clear hb2 hb3 HR hy2 HC1 HC2 HK2 HB a0 a1 a2 a3 a4 c0 c1 c2 c3 c4
        cases bb
        · have HN2 : Hid (F = false) := by have := HY2.out; rw [Bool.false_and] at this; exact this.symm
          go_wp2
          go_ret
          exact ⟨ret_bool HN2.out.symm, HB2.out⟩
        · have HN2 : Hid (formedL P funcs r 10 (j + 1) vars = F) := by have := HY2.out; rw [Bool.true_and] at this; exact this
          go_wp2
          go_roundw
          case rel => exact ⟨j + 1, r, by go_num, by omega, HN2, hrs.out.1, HC1', HC2', HE1, HB2⟩
          case measure => simp [intOf]; omega
  · go_enter Tryz.func154, Tryz.ntmps154
    go_wp2_with fail
    refine (within_any _ _ _ _).mono ?_; rintro e w' ⟨rfl, rfl⟩
    rw [hNN.out]
    go_wp2_with fail
    refine (within_any _ _ _ _).mono ?_; rintro e w' ⟨rfl, rfl⟩
    rw [HPP.out]
    go_wp2
    clear g0 g1 g2 l1 l2 hml hml2 hl4 hl5 n0 n1
    go_loopw [156] (fun i wr => ∃ (j : Nat) (es' : Es), i = .int .i64 (j : Int) ∧ j + es'.len = ks.len ∧ Hid (formedL P funcs es' 10 j vars = F) ∧ Hid (es'.size ≤ ks.size ∧ es'.depth ≤ ks.depth) ∧ Hid (Cells wr w.heap.size 209 [.slice (some ⟨bF, oF, none⟩) P.length capP, .int .i64 funcs]) ∧ Hid (Cells wr (w.heap.size + 1) 33 [.int .i64 10, .int .i64 fi, .int .i64 p, .int .i64 0, .slice K ks.len cap]) ∧ Hid (ExsAt wr B es' b' (o' + j * 5)) ∧ Hid (Below w.heap.size w wr)) (fun i _ => ks.len - (intOf i).toNat)
    case atStart =>
      obtain ⟨q1, q2, q3⟩ := two_boxes w 209 33 [.slice (some ⟨bF, oF, none⟩) P.length capP, .int .i64 funcs] [.int .i64 10, .int .i64 fi, .int .i64 p, .int .i64 0, .slice K ks.len cap]
      have q4 : Below w.heap.size w (((w.alloc (.cells [Value.slice (some ⟨bF, oF, none⟩) P.length capP, .int .i64 funcs].toArray 209)).alloc (.cells [Value.int .i64 10, .int .i64 fi, .int .i64 p, .int .i64 0, .slice K ks.len cap].toArray 33)).alloc (.cells [Value.string f.name, .int .i64 f.params, .slice KF f.outs.len cF].toArray 146)) := by go_grown
      exact ⟨0, ks, by go_num, by omega, HF.out.symm, ⟨Nat.le_refl _, Nat.le_refl _⟩, q1.next (by go_grown), q2.next (by go_grown), by show ExsAt _ _ _ _ _; rw [Nat.zero_mul, Nat.add_zero]; exact HKS.out.below (q4.mono hB), q4⟩
    case round =>
      obtain ⟨j, es', rfl, hj, hy, hsz, HC1, HC2, HE, HB⟩ := hrel
      cases es' with
      | nil =>
        simp only [Es.len] at hj
        go_wp2
        go_ret
        have := hy.out
        simp only [formedL] at this
        exact ⟨ret_bool this, HB.out⟩
      | cons kk n' p' c' ks' r =>
        simp only [Es.len] at hj
        have hK := hK (by omega)
        subst hK
        obtain ⟨hel, hr⟩ := HE.out
        have HR := Lib.hid hr
        obtain ⟨hbB, c0, c1, c2, c3, K', cap', b2, o2, c4, hc2, hcm2, hK2, hks2⟩ := hel
        have HK2 : Hid (ExSl wr B ks' K') := ⟨b2, o2, hK2, hks2⟩
        have hrs : Hid ((r.size ≤ ks.size ∧ r.depth ≤ ks.depth) ∧ ks'.size < ks.size ∧ ks'.depth + 1 ≤ ks.depth) := by
          have := hsz.out
          simp only [Es.size, Es.depth] at this
          exact ⟨⟨by omega, by omega⟩, by omega, by omega⟩
        have a0 : wr.cell? ⟨w.heap.size, 0, none⟩ = some (.slice (some ⟨bF, oF, none⟩) P.length capP) := by rw [HC1.out.cell]; rfl
        have a1 : wr.cell? ⟨w.heap.size, 1, none⟩ = some (.int .i64 funcs) := by rw [HC1.out.cell]; rfl
        have a2 : wr.cell? ⟨w.heap.size + 1, 0, none⟩ = some (.int .i64 10) := by rw [HC2.out.cell]; rfl
        have a3 := HC1.out.lt
        have a4 := HC2.out.lt
        have hbr : b' < wr.heap.size := by omega
        clear hr HE hks2
        have HKV : Hid (kidVars 10 vars j = vars) := kidVars_ne (by omega)
        go_wp2_with fail
        refine (IH.out ks' (by have := hrs.out; omega) kk n' p' c' K' cap' B (some ⟨bF, oF, none⟩) capP vars funcs _ (HK2.out.below (by have := HB.out.size; go_grown)) hc2 hcm2 (HFS.out.below ((HB.out.mono hB).trans (by have := HB.out.size; go_grown))) hPl hPm (by have := HB.out.size; simp; omega) f0 f1 (by omega) (by have := hrs.out; omega) (by have := hrs.out; omega)).mono ?_; rintro e w2 ⟨rfl, hb2⟩
        have hb3 : Below wr.heap.size wr w2 := Below.trans (by go_grown) (hb2.mono (by simp))
        have HE1 : Hid (ExsAt w2 B r b' (o' + (j + 1) * 5)) := by
          have := HR.out.below (hb3.mono (by have := HB.out.size; omega))
          rwa [show o' + j * 5 + 5 = o' + (j + 1) * 5 by omega] at this
        have HB2 := Lib.hid (bnext HB.out hb3)
        have HC1' := Lib.hid (HC1.out.next hb3)
        have HC2' := Lib.hid (HC2.out.next hb3)
        have hy2 := hy.out
        simp only [formedL] at hy2
        rw [HKV.out] at hy2
        generalize (nodeOk P funcs vars kk n' p' c' ks'.len && formedL P funcs ks' kk 0 vars) = bb at hy2 ⊢
        have HY2 := Lib.hid hy2
        clear hb2 hb3 HR hy2 HC1 HC2 HK2 HB a0 a1 a2 a3 a4 c0 c1 c2 c3 c4
        cases bb
        · have HN2 : Hid (F = false) := by have := HY2.out; rw [Bool.false_and] at this; exact this.symm
          go_wp2
          go_ret
          exact ⟨ret_bool HN2.out.symm, HB2.out⟩
        · have HN2 : Hid (formedL P funcs r 10 (j + 1) vars = F) := by have := HY2.out; rw [Bool.true_and] at this; exact this
          go_wp2
          go_roundw
          case rel => exact ⟨j + 1, r, by go_num, by omega, HN2, hrs.out.1, HC1', HC2', HE1, HB2⟩
          case measure => simp [intOf]; omega

set_option maxRecDepth 100000 in
set_option maxHeartbeats 1000000 in
theorem formed_go11 (P : List Fn) (m : Nat) (ks : Es) (IH : Hid (∀ (ks : Es), ks.size < m → FormC P ks)) (hm : ks.size < m + 1) (fi : Nat) (p c : Int) (K : Option Addr) (cap B : Nat) (A : Option Addr) (capP : Nat) (vars funcs : Int) (w : World) (hKs : ExSl w B ks K) (_hc : ks.len ≤ cap) (hcm : cap ≤ maxLen) (hFS : FnSl w B P A) (hPl : P.length ≤ capP) (hPm : capP ≤ maxLen) (hB : B ≤ w.heap.size) (f0 : 0 ≤ funcs) (f1 : funcs ≤ P.length) (v0 : 0 ≤ vars) (v1 : vars + ks.depth ≤ 2000000) (hsz0 : ks.size ≤ 1048576) (hok : nodeOk P funcs vars 11 fi p c ks.len = true) :
    Calls Tryz.prog 154 #[chV A P.length capP funcs, exV 11 fi p c K ks.len cap, .int .i64 vars] w (FPost (formedL P funcs ks 11 0 vars) w) := by
  have hcm' : cap ≤ 9223372036854775807 := by unfold maxLen at hcm; omega
  have hPm' : capP ≤ 9223372036854775807 := by unfold maxLen at hPm; omega
  have hls := Es.len_le_size ks
  obtain ⟨b', o', hK, hks⟩ := hKs
  have HKS := Lib.hid hks; clear hks
  have HFS := Lib.hid hFS; clear hFS
  obtain ⟨F, hF⟩ : ∃ F, F = formedL P funcs ks 11 0 vars := ⟨_, rfl⟩
  have HF := Lib.hid hF
  rw [← hF]
  clear hF
  have hn : inR fi 0 (funcs - 1) = true := by
    cases h : inR fi 0 (funcs - 1)
    · rw [nodeOk_no (by omega) h] at hok; cases hok
    · rfl
  obtain ⟨n0, n1⟩ := inR_true.1 hn
  obtain ⟨f, hf⟩ : ∃ f, P[fi]? = some f := ⟨P[fi]'(by omega), List.getElem?_eq_getElem _⟩
  have HN := Lib.hid ((nodeOk_call (vars := vars) (p := p) (c := c) (len := ks.len) (k := 11) (by omega) (show P[(fi : Int).toNat]? = some f from hf) hn).symm.trans hok)
  obtain ⟨bF, oF, rfl, hbF, g0, g1, _, KF, cF, g2, hcF, hcFm, _⟩ := HFS.out.get hf
  have hcF' : cF ≤ 9223372036854775807 := by unfold maxLen at hcFm; omega
  have hl4 : ((f.outs.len : Nat) : Int) ≤ 9223372036854775807 := by omega
  have hl5 : ((ks.len : Nat) : Int) ≤ 9223372036854775807 := by omega
  have hNN := Lib.hid hn
  have hbw : bF < w.heap.size := by omega
  have hml : fi < P.length := (List.getElem?_eq_some_iff.1 hf).1
  have hml2 : (fi : Int) < (P.length : Int) := by omega
  have HPP : Hid (inR p 0 ((f.outs.len : Int) - 1) = true) := by
    have := HN.out
    rw [Bool.and_eq_true, Bool.and_eq_true] at this
    exact this.1.2
  have HLL : Hid ((ks.len : Int) = f.params) := by
    have := HN.out
    rw [Bool.and_eq_true, Bool.and_eq_true] at this
    show _ = _
    exact of_decide_eq_true this.1.1
  have l1 : ((ks.len : Int) == f.params) = true := by simpa using HLL.out
  have l2 : ((ks.len : Int) != f.params) = false := by simpa using HLL.out
  have HC8 : Hid (inR c 0 8 = true) := by
    have := HN.out
    rw [Bool.and_eq_true] at this
    have := this.2
    rw [if_neg (by omega), Bool.and_eq_true] at this
    exact this.2
  have HOO : Hid ((f.outs.len : Int) = f.params) := by
    have := HN.out
    rw [Bool.and_eq_true] at this
    have := this.2
    rw [if_neg (by omega), Bool.and_eq_true] at this
    show _ = _
    exact of_decide_eq_true this.1
  have l3 : ((f.outs.len : Int) == f.params) = true := by simpa using HOO.out
  have l4 : ((f.outs.len : Int) != f.params) = false := by simpa using HOO.out
  clear hok hn hf
  have key : p = 0 ∨ (p == 0) = false := by
    by_cases h : p = 0
    · exact .inl h
    · exact .inr (by simpa using h)
  rcases key with rfl | hp0
  · go_enter Tryz.func154, Tryz.ntmps154
    go_wp2_with fail
    refine (within_any _ _ _ _).mono ?_; rintro e w' ⟨rfl, rfl⟩
    rw [hNN.out]
    go_wp2_with fail
    refine (within_any _ _ _ _).mono ?_; rintro e w' ⟨rfl, rfl⟩
    rw [HPP.out]
    go_wp2_with fail
    refine (within_any _ _ _ _).mono ?_; rintro e w' ⟨rfl, rfl⟩
    rw [HC8.out]
    go_wp2
    clear g0 g1 g2 l1 l2 hml hml2 hl4 hl5 n0 n1
    go_loopw [156] (fun i wr => ∃ (j : Nat) (es' : Es), i = .int .i64 (j : Int) ∧ j + es'.len = ks.len ∧ Hid (formedL P funcs es' 11 j vars = F) ∧ Hid (es'.size ≤ ks.size ∧ es'.depth ≤ ks.depth) ∧ Hid (Cells wr w.heap.size 209 [.slice (some ⟨bF, oF, none⟩) P.length capP, .int .i64 funcs]) ∧ Hid (Cells wr (w.heap.size + 1) 33 [.int .i64 11, .int .i64 fi, .int .i64 0, .int .i64 c, .slice K ks.len cap]) ∧ Hid (ExsAt wr B es' b' (o' + j * 5)) ∧ Hid (Below w.heap.size w wr)) (fun i _ => ks.len - (intOf i).toNat)
    case atStart =>
      obtain ⟨q1, q2, q3⟩ := two_boxes w 209 33 [.slice (some ⟨bF, oF, none⟩) P.length capP, .int .i64 funcs] [.int .i64 11, .int .i64 fi, .int .i64 0, .int .i64 c, .slice K ks.len cap]
      have q4 : Below w.heap.size w (((w.alloc (.cells [Value.slice (some ⟨bF, oF, none⟩) P.length capP, .int .i64 funcs].toArray 209)).alloc (.cells [Value.int .i64 11, .int .i64 fi, .int .i64 0, .int .i64 c, .slice K ks.len cap].toArray 33)).alloc (.cells [Value.string f.name, .int .i64 f.params, .slice KF f.outs.len cF].toArray 146)) := by go_grown
      exact ⟨0, ks, by go_num, by omega, HF.out.symm, ⟨Nat.le_refl _, Nat.le_refl _⟩, q1.next (by go_grown), q2.next (by go_grown), by show ExsAt _ _ _ _ _; rw [Nat.zero_mul, Nat.add_zero]; exact HKS.out.below (q4.mono hB), q4⟩
    case round =>
      obtain ⟨j, es', rfl, hj, hy, hsz, HC1, HC2, HE, HB⟩ := hrel
      cases es' with
      | nil =>
        simp only [Es.len] at hj
        go_wp2
        go_ret
        have := hy.out
        simp only [formedL] at this
        exact ⟨ret_bool this, HB.out⟩
      | cons kk n' p' c' ks' r =>
        simp only [Es.len] at hj
        have hK := hK (by omega)
        subst hK
        obtain ⟨hel, hr⟩ := HE.out
        have HR := Lib.hid hr
        obtain ⟨hbB, c0, c1, c2, c3, K', cap', b2, o2, c4, hc2, hcm2, hK2, hks2⟩ := hel
        have HK2 : Hid (ExSl wr B ks' K') := ⟨b2, o2, hK2, hks2⟩
        have hrs : Hid ((r.size ≤ ks.size ∧ r.depth ≤ ks.depth) ∧ ks'.size < ks.size ∧ ks'.depth + 1 ≤ ks.depth) := by
          have := hsz.out
          simp only [Es.size, Es.depth] at this
          exact ⟨⟨by omega, by omega⟩, by omega, by omega⟩
        have a0 : wr.cell? ⟨w.heap.size, 0, none⟩ = some (.slice (some ⟨bF, oF, none⟩) P.length capP) := by rw [HC1.out.cell]; rfl
        have a1 : wr.cell? ⟨w.heap.size, 1, none⟩ = some (.int .i64 funcs) := by rw [HC1.out.cell]; rfl
        have a2 : wr.cell? ⟨w.heap.size + 1, 0, none⟩ = some (.int .i64 11) := by rw [HC2.out.cell]; rfl
        have a3 := HC1.out.lt
        have a4 := HC2.out.lt
        have hbr : b' < wr.heap.size := by omega
        clear hr HE hks2
        have HKV : Hid (kidVars 11 vars j = vars) := kidVars_ne (by omega)
        go_wp2_with fail
        refine (IH.out ks' (by have := hrs.out; omega) kk n' p' c' K' cap' B (some ⟨bF, oF, none⟩) capP vars funcs _ (HK2.out.below (by have := HB.out.size; go_grown)) hc2 hcm2 (HFS.out.below ((HB.out.mono hB).trans (by have := HB.out.size; go_grown))) hPl hPm (by have := HB.out.size; simp; omega) f0 f1 (by omega) (by have := hrs.out; omega) (by have := hrs.out; omega)).mono ?_; rintro e w2 ⟨rfl, hb2⟩
        have hb3 : Below wr.heap.size wr w2 := Below.trans (by go_grown) (hb2.mono (by simp))
        have HE1 : Hid (ExsAt w2 B r b' (o' + (j + 1) * 5)) := by
          have := HR.out.below (hb3.mono (by have := HB.out.size; omega))
          rwa [show o' + j * 5 + 5 = o' + (j + 1) * 5 by omega] at this
        have HB2 := Lib.hid (bnext HB.out hb3)
        have HC1' := Lib.hid (HC1.out.next hb3)
        have HC2' := Lib.hid (HC2.out.next hb3)
        have hy2 := hy.out
        simp only [formedL] at hy2
        rw [HKV.out] at hy2
        generalize (nodeOk P funcs vars kk n' p' c' ks'.len && formedL P funcs ks' kk 0 vars) = bb at hy2 ⊢
        have HY2 := Lib.hid hy2
        clear hb2 hb3 HR hy2 HC1 HC2 HK2 HB a0 a1 a2 a3 a4 c0 c1 c2 c3 c4
        cases bb
        · have HN2 : Hid (F = false) := by have := HY2.out; rw [Bool.false_and] at this; exact this.symm
          go_wp2
          go_ret
          exact ⟨ret_bool HN2.out.symm, HB2.out⟩
        · have HN2 : Hid (formedL P funcs r 11 (j + 1) vars = F) := by have := HY2.out; rw [Bool.true_and] at this; exact this
          go_wp2
          go_roundw
          case rel => exact ⟨j + 1, r, by go_num, by omega, HN2, hrs.out.1, HC1', HC2', HE1, HB2⟩
          case measure => simp [intOf]; omega
  · go_enter Tryz.func154, Tryz.ntmps154
    go_wp2_with fail
    refine (within_any _ _ _ _).mono ?_; rintro e w' ⟨rfl, rfl⟩
    rw [hNN.out]
    go_wp2_with fail
    refine (within_any _ _ _ _).mono ?_; rintro e w' ⟨rfl, rfl⟩
    rw [HPP.out]
    go_wp2_with fail
    refine (within_any _ _ _ _).mono ?_; rintro e w' ⟨rfl, rfl⟩
    rw [HC8.out]
    go_wp2
    clear g0 g1 g2 l1 l2 hml hml2 hl4 hl5 n0 n1
    go_loopw [156] (fun i wr => ∃ (j : Nat) (es' : Es), i = .int .i64 (j : Int) ∧ j + es'.len = ks.len ∧ Hid (formedL P funcs es' 11 j vars = F) ∧ Hid (es'.size ≤ ks.size ∧ es'.depth ≤ ks.depth) ∧ Hid (Cells wr w.heap.size 209 [.slice (some ⟨bF, oF, none⟩) P.length capP, .int .i64 funcs]) ∧ Hid (Cells wr (w.heap.size + 1) 33 [.int .i64 11, .int .i64 fi, .int .i64 p, .int .i64 c, .slice K ks.len cap]) ∧ Hid (ExsAt wr B es' b' (o' + j * 5)) ∧ Hid (Below w.heap.size w wr)) (fun i _ => ks.len - (intOf i).toNat)
    case atStart =>
      obtain ⟨q1, q2, q3⟩ := two_boxes w 209 33 [.slice (some ⟨bF, oF, none⟩) P.length capP, .int .i64 funcs] [.int .i64 11, .int .i64 fi, .int .i64 p, .int .i64 c, .slice K ks.len cap]
      have q4 : Below w.heap.size w (((w.alloc (.cells [Value.slice (some ⟨bF, oF, none⟩) P.length capP, .int .i64 funcs].toArray 209)).alloc (.cells [Value.int .i64 11, .int .i64 fi, .int .i64 p, .int .i64 c, .slice K ks.len cap].toArray 33)).alloc (.cells [Value.string f.name, .int .i64 f.params, .slice KF f.outs.len cF].toArray 146)) := by go_grown
      exact ⟨0, ks, by go_num, by omega, HF.out.symm, ⟨Nat.le_refl _, Nat.le_refl _⟩, q1.next (by go_grown), q2.next (by go_grown), by show ExsAt _ _ _ _ _; rw [Nat.zero_mul, Nat.add_zero]; exact HKS.out.below (q4.mono hB), q4⟩
    case round =>
      obtain ⟨j, es', rfl, hj, hy, hsz, HC1, HC2, HE, HB⟩ := hrel
      cases es' with
      | nil =>
        simp only [Es.len] at hj
        go_wp2
        go_ret
        have := hy.out
        simp only [formedL] at this
        exact ⟨ret_bool this, HB.out⟩
      | cons kk n' p' c' ks' r =>
        simp only [Es.len] at hj
        have hK := hK (by omega)
        subst hK
        obtain ⟨hel, hr⟩ := HE.out
        have HR := Lib.hid hr
        obtain ⟨hbB, c0, c1, c2, c3, K', cap', b2, o2, c4, hc2, hcm2, hK2, hks2⟩ := hel
        have HK2 : Hid (ExSl wr B ks' K') := ⟨b2, o2, hK2, hks2⟩
        have hrs : Hid ((r.size ≤ ks.size ∧ r.depth ≤ ks.depth) ∧ ks'.size < ks.size ∧ ks'.depth + 1 ≤ ks.depth) := by
          have := hsz.out
          simp only [Es.size, Es.depth] at this
          exact ⟨⟨by omega, by omega⟩, by omega, by omega⟩
        have a0 : wr.cell? ⟨w.heap.size, 0, none⟩ = some (.slice (some ⟨bF, oF, none⟩) P.length capP) := by rw [HC1.out.cell]; rfl
        have a1 : wr.cell? ⟨w.heap.size, 1, none⟩ = some (.int .i64 funcs) := by rw [HC1.out.cell]; rfl
        have a2 : wr.cell? ⟨w.heap.size + 1, 0, none⟩ = some (.int .i64 11) := by rw [HC2.out.cell]; rfl
        have a3 := HC1.out.lt
        have a4 := HC2.out.lt
        have hbr : b' < wr.heap.size := by omega
        clear hr HE hks2
        have HKV : Hid (kidVars 11 vars j = vars) := kidVars_ne (by omega)
        go_wp2_with fail
        refine (IH.out ks' (by have := hrs.out; omega) kk n' p' c' K' cap' B (some ⟨bF, oF, none⟩) capP vars funcs _ (HK2.out.below (by have := HB.out.size; go_grown)) hc2 hcm2 (HFS.out.below ((HB.out.mono hB).trans (by have := HB.out.size; go_grown))) hPl hPm (by have := HB.out.size; simp; omega) f0 f1 (by omega) (by have := hrs.out; omega) (by have := hrs.out; omega)).mono ?_; rintro e w2 ⟨rfl, hb2⟩
        have hb3 : Below wr.heap.size wr w2 := Below.trans (by go_grown) (hb2.mono (by simp))
        have HE1 : Hid (ExsAt w2 B r b' (o' + (j + 1) * 5)) := by
          have := HR.out.below (hb3.mono (by have := HB.out.size; omega))
          rwa [show o' + j * 5 + 5 = o' + (j + 1) * 5 by omega] at this
        have HB2 := Lib.hid (bnext HB.out hb3)
        have HC1' := Lib.hid (HC1.out.next hb3)
        have HC2' := Lib.hid (HC2.out.next hb3)
        have hy2 := hy.out
        simp only [formedL] at hy2
        rw [HKV.out] at hy2
        generalize (nodeOk P funcs vars kk n' p' c' ks'.len && formedL P funcs ks' kk 0 vars) = bb at hy2 ⊢
        have HY2 := Lib.hid hy2
        clear hb2 hb3 HR hy2 HC1 HC2 HK2 HB a0 a1 a2 a3 a4 c0 c1 c2 c3 c4
        cases bb
        · have HN2 : Hid (F = false) := by have := HY2.out; rw [Bool.false_and] at this; exact this.symm
          go_wp2
          go_ret
          exact ⟨ret_bool HN2.out.symm, HB2.out⟩
        · have HN2 : Hid (formedL P funcs r 11 (j + 1) vars = F) := by have := HY2.out; rw [Bool.true_and] at this; exact this
          go_wp2
          go_roundw
          case rel => exact ⟨j + 1, r, by go_num, by omega, HN2, hrs.out.1, HC1', HC2', HE1, HB2⟩
          case measure => simp [intOf]; omega

end Go.Proofs.YtgfkglhelfkpoaaGreat

/- The program's isFormed, whole. -/
namespace Go.Proofs.YtgfkglhelfkpoaaGreat
open Go.RowKit Plain

theorem formed_any (P : List Fn) : ∀ (m : Nat) (ks : Es), ks.size < m → FormC P ks := by
  intro m
  induction m with
  | zero => intro es h; omega
  | succ m ih =>
  intro ks hm k n p c K cap B A capP vars funcs w hKs hc hcm hFS hPl hPm hB f0 f1 v0 v1 hsz0
  have hls := Es.len_le_size ks
  have no : nodeOk P funcs vars k n p c ks.len = false → Calls Tryz.prog 154 #[chV A P.length capP funcs, exV k n p c K ks.len cap, .int .i64 vars] w (FPost false w) →
      Calls Tryz.prog 154 #[chV A P.length capP funcs, exV k n p c K ks.len cap, .int .i64 vars] w (FPost (nodeOk P funcs vars k n p c ks.len && formedL P funcs ks k 0 vars) w) := fun h hh => by rw [h, Bool.false_and]; exact hh
  have yes : nodeOk P funcs vars k n p c ks.len = true → Calls Tryz.prog 154 #[chV A P.length capP funcs, exV k n p c K ks.len cap, .int .i64 vars] w (FPost (formedL P funcs ks k 0 vars) w) →
      Calls Tryz.prog 154 #[chV A P.length capP funcs, exV k n p c K ks.len cap, .int .i64 vars] w (FPost (nodeOk P funcs vars k n p c ks.len && formedL P funcs ks k 0 vars) w) := fun h hh => by rw [h, Bool.true_and]; exact hh
  by_cases h12 : k = 1 ∨ k = 2
  · have h := formed_leaf P ks k n p c K cap A capP vars funcs w hc hcm v0 (by omega) (by omega) h12
    rcases (show nodeOk P funcs vars k n p c ks.len = false ∨ nodeOk P funcs vars k n p c ks.len = true by cases nodeOk P funcs vars k n p c ks.len <;> simp) with hok | hok
    · rw [hok] at h; exact no hok h
    · have hl : ks.len = 0 := by
        rcases h12 with rfl | rfl
        · rw [nodeOk_leaf1] at hok; simp only [Bool.and_eq_true, beq_iff_eq] at hok; exact hok.2.1
        · rw [nodeOk_leaf2] at hok; simp only [Bool.and_eq_true, beq_iff_eq] at hok; exact hok.2.1
      have hn := Es.len0 hl
      subst hn
      rw [hok] at h
      exact yes hok h
  by_cases hr : k < 1 ∨ 11 < k
  · have h := formed_none P ks k n p c K cap A capP vars funcs w hc hcm (by omega) hr
    rw [nodeOk_none hr] at h
    exact no (nodeOk_none hr) h
  by_cases hcall : k = 10 ∨ k = 11
  · rcases (show nodeOk P funcs vars k n p c ks.len = false ∨ nodeOk P funcs vars k n p c ks.len = true by cases nodeOk P funcs vars k n p c ks.len <;> simp) with hok | hok
    · exact no hok (formed_call P ks k n p c K cap B A capP vars funcs w hc hcm hFS hPl hPm hB f0 f1 (by omega) hcall hok)
    · have hn : inR n 0 (funcs - 1) = true := by
        cases h : inR n 0 (funcs - 1)
        · rw [nodeOk_no hcall h] at hok; cases hok
        · rfl
      obtain ⟨i, rfl⟩ := Int.eq_ofNat_of_zero_le (inR_true.1 hn).1
      refine yes hok ?_
      rcases hcall with rfl | rfl
      · have hc0 : c = 0 := by
          obtain ⟨f, hf⟩ : ∃ f, P[i]? = some f := ⟨P[i]'(by have := inR_true.1 hn; omega), List.getElem?_eq_getElem _⟩
          rw [nodeOk_call (.inl rfl) (show P[(i : Int).toNat]? = some f from hf) hn, Bool.and_eq_true] at hok
          simpa using hok.2
        subst hc0
        exact formed_go10 P m ks ih hm i p 0 K cap B A capP vars funcs w hKs hc hcm hFS hPl hPm hB f0 f1 v0 v1 hsz0 hok
      · exact formed_go11 P m ks ih hm i p c K cap B A capP vars funcs w hKs hc hcm hFS hPl hPm hB f0 f1 v0 v1 hsz0 hok
  obtain ⟨N, hN⟩ : ∃ N, opN k N := by
    have : (k = 3 ∨ k = 4 ∨ k = 5 ∨ k = 6 ∨ k = 9) ∨ k = 7 ∨ k = 8 := by omega
    rcases this with h | h | h
    · exact ⟨2, .inl ⟨h, rfl⟩⟩
    · exact ⟨1, .inr (.inl ⟨h, rfl⟩)⟩
    · exact ⟨3, .inr (.inr ⟨h, rfl⟩)⟩
  by_cases hg : p = 0 ∧ c = 0 ∧ n = 0 ∧ ks.len = N
  · obtain ⟨rfl, rfl, rfl, hl⟩ := hg
    have hok : nodeOk P funcs vars k 0 0 0 ks.len = true := by rw [nodeOk_op hN, hl]; simp
    refine yes hok ?_
    rcases hN with ⟨rfl | rfl | rfl | rfl | rfl, rfl⟩ | ⟨rfl, rfl⟩ | ⟨rfl, rfl⟩
    · exact formed_go3 P m ks ih hm K cap B A capP vars funcs w hKs hc hcm hFS hPl hPm hB f0 f1 v0 v1 hsz0 hl
    · exact formed_go4 P m ks ih hm K cap B A capP vars funcs w hKs hc hcm hFS hPl hPm hB f0 f1 v0 v1 hsz0 hl
    · exact formed_go5 P m ks ih hm K cap B A capP vars funcs w hKs hc hcm hFS hPl hPm hB f0 f1 v0 v1 hsz0 hl
    · exact formed_go6 P m ks ih hm K cap B A capP vars funcs w hKs hc hcm hFS hPl hPm hB f0 f1 v0 v1 hsz0 hl
    · exact formed_go9 P m ks ih hm K cap B A capP vars funcs w hKs hc hcm hFS hPl hPm hB f0 f1 v0 v1 hsz0 hl
    · exact formed_go7 P m ks ih hm K cap B A capP vars funcs w hKs hc hcm hFS hPl hPm hB f0 f1 v0 v1 hsz0 hl
    · exact formed_go8 P m ks ih hm K cap B A capP vars funcs w hKs hc hcm hFS hPl hPm hB f0 f1 v0 v1 hsz0 hl
  · have h := formed_op P ks k n p c K cap A capP vars funcs w hc hcm (by omega) N hN hg
    rcases (show nodeOk P funcs vars k n p c ks.len = false ∨ nodeOk P funcs vars k n p c ks.len = true by cases nodeOk P funcs vars k n p c ks.len <;> simp) with hok | hok
    · rw [hok] at h; exact no hok h
    · exfalso
      rw [nodeOk_op hN] at hok
      simp only [Bool.and_eq_true, beq_iff_eq] at hok
      exact hg ⟨hok.1.1, hok.1.2, hok.2.1, hok.2.2⟩

end Go.Proofs.YtgfkglhelfkpoaaGreat

/- Walks of the program's looks at programs: ValidExpr. -/
namespace Go.Proofs.YtgfkglhelfkpoaaGreat
open Go.RowKit Plain

theorem areVars_any (x : Int) (w : World) : Calls Tryz.prog 152 #[.int .i64 x] w fun e w' => e = .returned (.bool (inR x 0 412)) ∧ w = w' := by
  go_enter Tryz.func152, Tryz.ntmps152
  go_wp2_with fail
  refine (within_any _ _ _ _).mono ?_; rintro e w' ⟨rfl, rfl⟩
  go_wp2
  go_ret
  exact ⟨rfl, rfl⟩

theorem exBoxes {w w1 : World} {t1 t2 : TypeId} {C1 C2 : List Value} (hb : Below ((w.alloc (.cells C1.toArray t1)).alloc (.cells C2.toArray t2)).heap.size ((w.alloc (.cells C1.toArray t1)).alloc (.cells C2.toArray t2)) w1) :
    Cells w1 w.heap.size t1 C1 ∧ Cells w1 (w.heap.size + 1) t2 C2 ∧ Below w.heap.size w w1 := by
  obtain ⟨q1, q2, q3⟩ := two_boxes w t1 t2 C1 C2
  exact ⟨q1.next hb, q2.next hb, bnext q3 hb⟩

set_option maxRecDepth 100000 in
set_option maxHeartbeats 2000000 in
theorem validExpr_any (P : List Fn) (ks : Es) (k n p c : Int) (K : Option Addr) (cap B : Nat) (A : Option Addr) (capP : Nat) (vars funcs : Int) (w : World) (hKs : ExSl w B ks K) (hc : ks.len ≤ cap) (hcm : cap ≤ maxLen) (hFS : FnSl w B P A) (hPl : P.length ≤ capP) (hPm : capP ≤ maxLen) (hB : B ≤ w.heap.size) (hsz : ks.size ≤ 1048576) :
    Calls Tryz.prog 73 #[prV A P.length capP, exV k n p c K ks.len cap, .int .i64 vars, .int .i64 funcs] w (FPost (exprOk P ⟨k, n, p, c, ks⟩ vars funcs) w) := by
  have HK := Lib.hid hKs; clear hKs
  have HFS := Lib.hid hFS; clear hFS
  have hcm' : cap ≤ 9223372036854775807 := by unfold maxLen at hcm; omega
  have hPm' : capP ≤ 9223372036854775807 := by unfold maxLen at hPm; omega
  have hg : Hid (Below w.heap.size w ((w.alloc (.cells [Value.slice A P.length capP].toArray 51)).alloc (.cells [Value.int .i64 k, .int .i64 n, .int .i64 p, .int .i64 c, .slice K ks.len cap].toArray 33))) := (two_boxes w _ _ _ _).2.2
  cases hv : inR vars 0 412
  · have HN := Lib.hid (exprOk_vars (P := P) (x := ⟨k, n, p, c, ks⟩) (funcs := funcs) hv)
    have HV := Lib.hid hv; clear hv
    go_enter Tryz.func73, Tryz.ntmps73
    go_wp2_with fail
    refine (areVars_any _ _).mono ?_; rintro e w' ⟨rfl, rfl⟩
    rw [HV.out]
    go_wp2
    go_ret
    exact ⟨ret_bool HN.out.symm, hg.out⟩
  have HV := Lib.hid hv; clear hv
  cases hf : inR funcs 0 P.length
  · have HN := Lib.hid (exprOk_funcs (P := P) (x := ⟨k, n, p, c, ks⟩) (vars := vars) hf)
    have HF := Lib.hid hf; clear hf
    go_enter Tryz.func73, Tryz.ntmps73
    go_wp2_with fail
    refine (areVars_any _ _).mono ?_; rintro e w' ⟨rfl, rfl⟩
    rw [HV.out]
    go_wp2_with fail
    refine (within_any _ _ _ _).mono ?_; rintro e w' ⟨rfl, rfl⟩
    rw [HF.out]
    go_wp2
    go_ret
    exact ⟨ret_bool HN.out.symm, hg.out⟩
  have HF := Lib.hid hf; clear hf
  by_cases hs : ks.size ≤ 399
  · by_cases hd : ks.depth ≤ 59
    · obtain ⟨v0, v1⟩ := inR_true.1 HV.out
      obtain ⟨f0, f1⟩ := inR_true.1 HF.out
      have HN : Hid (exprOk P ⟨k, n, p, c, ks⟩ vars funcs = (nodeOk P funcs vars k n p c ks.len && formedL P funcs ks k 0 vars)) := exprOk_formed HV.out HF.out hs hd
      rw [HN.out]
      generalize hbb : (nodeOk P funcs vars k n p c ks.len && formedL P funcs ks k 0 vars) = bb
      have HBB := Lib.hid hbb; clear hbb HN
      go_enter Tryz.func73, Tryz.ntmps73
      go_wp2_with fail
      refine (areVars_any _ _).mono ?_; rintro e w' ⟨rfl, rfl⟩
      rw [HV.out]
      go_wp2_with fail
      refine (within_any _ _ _ _).mono ?_; rintro e w' ⟨rfl, rfl⟩
      rw [HF.out]
      go_wp2_with fail
      refine (size_any (ks.size + 1) ks (by omega) k n p c K cap B _ (HK.out.below (hg.out.mono hB)) hc hcm (by simp; omega) hsz).mono ?_; rintro e w1 ⟨rfl, hb1⟩
      have hq : ((ks.size + 1 : Nat) : Int) ≤ 400 := by omega
      generalize ((ks.size + 1 : Nat) : Int) = q at *
      obtain ⟨q1, q2, q3⟩ := exBoxes (C1 := [Value.slice A P.length capP]) (C2 := [Value.int .i64 k, .int .i64 n, .int .i64 p, .int .i64 c, .slice K ks.len cap]) hb1
      have a0 : w1.cell? ⟨w.heap.size, 0, none⟩ = some (.slice A P.length capP) := by rw [q1.cell]; rfl
      have b0 : w1.cell? ⟨w.heap.size + 1, 0, none⟩ = some (.int .i64 k) := by rw [q2.cell]; rfl
      have b1 : w1.cell? ⟨w.heap.size + 1, 1, none⟩ = some (.int .i64 n) := by rw [q2.cell]; rfl
      have b2 : w1.cell? ⟨w.heap.size + 1, 2, none⟩ = some (.int .i64 p) := by rw [q2.cell]; rfl
      have b3 : w1.cell? ⟨w.heap.size + 1, 3, none⟩ = some (.int .i64 c) := by rw [q2.cell]; rfl
      have b4 : w1.cell? ⟨w.heap.size + 1, 4, none⟩ = some (.slice K ks.len cap) := by rw [q2.cell]; rfl
      have Q1 := Lib.hid q1
      have Q2 := Lib.hid q2
      have Q3 := Lib.hid q3
      clear q1 q2 q3 hb1
      go_wp2_with fail
      refine (dep_any (ks.size + 1) ks (by omega) k n p c K cap B w1 (HK.out.below (Q3.out.mono hB)) hc hcm (by have := Q3.out.size; omega) hsz).mono ?_; rintro e w2 ⟨rfl, hb2⟩
      have hq2 : ((ks.depth + 1 : Nat) : Int) ≤ 60 := by omega
      generalize ((ks.depth + 1 : Nat) : Int) = qq at *
      have R3 := Lib.hid (bnext Q3.out hb2)
      have r1 := Q1.out.next hb2
      have r2 := Q2.out.next hb2
      have c0' : w2.cell? ⟨w.heap.size, 0, none⟩ = some (.slice A P.length capP) := by rw [r1.cell]; rfl
      have d0 : w2.cell? ⟨w.heap.size + 1, 0, none⟩ = some (.int .i64 k) := by rw [r2.cell]; rfl
      have d1 : w2.cell? ⟨w.heap.size + 1, 1, none⟩ = some (.int .i64 n) := by rw [r2.cell]; rfl
      have d2 : w2.cell? ⟨w.heap.size + 1, 2, none⟩ = some (.int .i64 p) := by rw [r2.cell]; rfl
      have d3 : w2.cell? ⟨w.heap.size + 1, 3, none⟩ = some (.int .i64 c) := by rw [r2.cell]; rfl
      have d4 : w2.cell? ⟨w.heap.size + 1, 4, none⟩ = some (.slice K ks.len cap) := by rw [r2.cell]; rfl
      clear r1 r2 hb2 a0 b0 b1 b2 b3 b4
      go_wp2_with fail
      refine (formed_any P (ks.size + 1) ks (by omega) k n p c K cap B A capP vars funcs w2 (HK.out.below (R3.out.mono hB)) hc hcm (HFS.out.below (R3.out.mono hB)) hPl hPm (by have := R3.out.size; omega) f0 f1 v0 (by omega) hsz).mono ?_; rintro e w3 ⟨rfl, hb3⟩
      rw [HBB.out]
      have HB3 := Lib.hid (bnext R3.out hb3)
      clear hb3
      go_wp2
      go_ret
      exact ⟨rfl, HB3.out⟩
    · have HN := Lib.hid (exprOk_depth (P := P) (x := ⟨k, n, p, c, ks⟩) (vars := vars) (funcs := funcs) hd)
      go_enter Tryz.func73, Tryz.ntmps73
      go_wp2_with fail
      refine (areVars_any _ _).mono ?_; rintro e w' ⟨rfl, rfl⟩
      rw [HV.out]
      go_wp2_with fail
      refine (within_any _ _ _ _).mono ?_; rintro e w' ⟨rfl, rfl⟩
      rw [HF.out]
      go_wp2_with fail
      refine (size_any (ks.size + 1) ks (by omega) k n p c K cap B _ (HK.out.below (hg.out.mono hB)) hc hcm (by simp; omega) hsz).mono ?_; rintro e w1 ⟨rfl, hb1⟩
      have hq : ((ks.size + 1 : Nat) : Int) ≤ 400 := by omega
      generalize ((ks.size + 1 : Nat) : Int) = q at *
      obtain ⟨q1, q2, q3⟩ := exBoxes (C1 := [Value.slice A P.length capP]) (C2 := [Value.int .i64 k, .int .i64 n, .int .i64 p, .int .i64 c, .slice K ks.len cap]) hb1
      have b0 : w1.cell? ⟨w.heap.size + 1, 0, none⟩ = some (.int .i64 k) := by rw [q2.cell]; rfl
      have b1 : w1.cell? ⟨w.heap.size + 1, 1, none⟩ = some (.int .i64 n) := by rw [q2.cell]; rfl
      have b2 : w1.cell? ⟨w.heap.size + 1, 2, none⟩ = some (.int .i64 p) := by rw [q2.cell]; rfl
      have b3 : w1.cell? ⟨w.heap.size + 1, 3, none⟩ = some (.int .i64 c) := by rw [q2.cell]; rfl
      have b4 : w1.cell? ⟨w.heap.size + 1, 4, none⟩ = some (.slice K ks.len cap) := by rw [q2.cell]; rfl
      have Q3 := Lib.hid q3
      clear q1 q2 q3 hb1
      go_wp2_with fail
      refine (dep_any (ks.size + 1) ks (by omega) k n p c K cap B w1 (HK.out.below (Q3.out.mono hB)) hc hcm (by have := Q3.out.size; omega) hsz).mono ?_; rintro e w2 ⟨rfl, hb2⟩
      have hq2 : 60 < ((ks.depth + 1 : Nat) : Int) := by omega
      generalize ((ks.depth + 1 : Nat) : Int) = qq at *
      have R3 := Lib.hid (bnext Q3.out hb2)
      clear hb2
      go_wp2
      go_ret
      exact ⟨ret_bool HN.out.symm, R3.out⟩
  · have HN := Lib.hid (exprOk_size (P := P) (x := ⟨k, n, p, c, ks⟩) (vars := vars) (funcs := funcs) hs)
    go_enter Tryz.func73, Tryz.ntmps73
    go_wp2_with fail
    refine (areVars_any _ _).mono ?_; rintro e w' ⟨rfl, rfl⟩
    rw [HV.out]
    go_wp2_with fail
    refine (within_any _ _ _ _).mono ?_; rintro e w' ⟨rfl, rfl⟩
    rw [HF.out]
    go_wp2_with fail
    refine (size_any (ks.size + 1) ks (by omega) k n p c K cap B _ (HK.out.below (hg.out.mono hB)) hc hcm (by simp; omega) hsz).mono ?_; rintro e w1 ⟨rfl, hb1⟩
    have hq : 400 < ((ks.size + 1 : Nat) : Int) := by omega
    generalize ((ks.size + 1 : Nat) : Int) = q at *
    obtain ⟨_, _, q3⟩ := exBoxes (C1 := [Value.slice A P.length capP]) (C2 := [Value.int .i64 k, .int .i64 n, .int .i64 p, .int .i64 c, .slice K ks.len cap]) hb1
    have Q3 := Lib.hid q3
    clear q3 hb1
    go_wp2
    go_ret
    exact ⟨ret_bool HN.out.symm, Q3.out⟩

end Go.Proofs.YtgfkglhelfkpoaaGreat

/- Walks of the program's looks at programs: ValidProgram, isFunc. -/
namespace Go.Proofs.YtgfkglhelfkpoaaGreat
open Go.RowKit Plain

theorem FnsAt.take {w : World} {B : Nat} : ∀ {fs : List Fn} {b o : Nat} (i : Nat), FnsAt w B fs b o → FnsAt w B (fs.take i) b o
  | [], _, _, _, _ => by simp; trivial
  | _ :: _, _, _, 0, _ => trivial
  | _ :: _, _, _, i + 1, h => ⟨h.1, FnsAt.take i h.2⟩
theorem FnSl.take {w : World} {B : Nat} {fs : List Fn} {A : Option Addr} (i : Nat) (h : FnSl w B fs A) : FnSl w B (fs.take i) A := by
  obtain ⟨b, o, hA, h⟩ := h
  exact ⟨b, o, fun hl => hA (by simp at hl; omega), h.take i⟩

set_option maxRecDepth 100000 in
set_option maxHeartbeats 1000000 in
theorem indexFuncF (A : Option Addr) (cap B : Nat) (fs : List Fn) (w : World) (hA : FnSl w B fs A) (hB : B ≤ w.heap.size) (hn : fs.length ≤ 4611686018427387904)
    (f : Nat) (hf : Enters f) (cs : Array Value) (p : Fn → Bool) (hp : Hid (∀ g K cp wx, Below w.heap.size w wx → Calls Tryz.prog f (#[fnV g.name g.params K g.outs.len cp] ++ cs) wx fun e w' => e = .returned (.bool (p g)) ∧ Below wx.heap.size wx w')) :
    Calls Tryz.prog 217 #[.slice A fs.length cap, .func (.func f) #[] cs] w fun e w' => e = .returned (.int .i64 (firstAt p fs 0)) ∧ Below w.heap.size w w' := by
  have HA := Lib.hid hA; clear hA
  go_enter Tryz.func217, Tryz.ntmps217
  go_wp2
  go_loopw [5, 8] (fun _ i wr => ∃ k : Nat, k ≤ fs.length ∧ i = .int .i64 (k : Int) ∧ Hid (firstAt p fs 0 = firstAt p (fs.drop k) k) ∧ Hid (Below w.heap.size w wr)) (fun _ i _ => fs.length - (intOf i).toNat)
  case atStart => exact ⟨0, by omega, by go_num, rfl, Below.refl _ _⟩
  case round =>
    obtain ⟨k, hk, rfl, HR, HB⟩ := hrel
    by_cases hlt : k < fs.length
    · obtain ⟨g, hg⟩ : ∃ g, fs[k]? = some g := ⟨fs[k]'hlt, List.getElem?_eq_getElem _⟩
      obtain ⟨b, o, rfl, hb, c0, c1, _, K, cp, c2, _, _, _⟩ := (HA.out.below (HB.out.mono hB)).get hg
      have hbr : b < wr.heap.size := by have := HB.out.size; omega
      have HS := Lib.hid (firstAt_drop p fs k g hg)
      clear hg
      go_wp2_with fail
      rw [hf _ _, Oper.upon_enter]
      refine (hp.out g K cp _ HB.out).mono ?_; rintro e w' ⟨rfl, hb1⟩
      have HB1 := Lib.hid (bnext HB.out hb1)
      clear hb1
      cases hpx : p g
      · have HP := Lib.hid hpx; clear hpx
        go_wp2
        go_roundw
        case rel => exact ⟨k + 1, by omega, by go_num, by show _ = _; rw [HR.out, HS.out, HP.out]; rfl, HB1⟩
        case measure => simp [intOf]; omega
      · have HP := Lib.hid hpx; clear hpx
        go_wp2
        go_ret
        exact ⟨ret_int (by rw [HR.out, HS.out, HP.out]; rfl), HB1.out⟩
    · obtain rfl : k = fs.length := by omega
      go_wp2
      go_ret
      exact ⟨ret_int (by rw [HR.out, firstAt_end]), HB.out⟩

theorem containsFuncF (A : Option Addr) (cap B : Nat) (fs : List Fn) (w : World) (hA : FnSl w B fs A) (hB : B ≤ w.heap.size) (hn : fs.length ≤ 4611686018427387904)
    (f : Nat) (hf : Enters f) (cs : Array Value) (p : Fn → Bool) (hp : Hid (∀ g K cp wx, Below w.heap.size w wx → Calls Tryz.prog f (#[fnV g.name g.params K g.outs.len cp] ++ cs) wx fun e w' => e = .returned (.bool (p g)) ∧ Below wx.heap.size wx w')) :
    Calls Tryz.prog 149 #[.slice A fs.length cap, .func (.func f) #[] cs] w fun e w' => e = .returned (.bool (fs.any p)) ∧ Below w.heap.size w w' := by
  have HE := Lib.hid (firstAt_any p fs 0 (by omega))
  go_enter Tryz.func149, Tryz.ntmps149
  go_wp2_with fail
  refine (indexFuncF A cap B fs w hA hB hn f hf cs p hp).mono ?_; rintro e w' ⟨rfl, hb⟩
  go_wp2
  go_ret
  exact ⟨ret_bool HE.out, hb⟩

theorem containsFuncN (n : Nat) (A : Option Addr) (cap B : Nat) (fs : List Fn) (hl : fs.length = n) (w : World) (hA : FnSl w B fs A) (hB : B ≤ w.heap.size) (hn : n ≤ 4611686018427387904)
    (f : Nat) (hf : Enters f) (cs : Array Value) (p : Fn → Bool) (hp : Hid (∀ g K cp wx, Below w.heap.size w wx → Calls Tryz.prog f (#[fnV g.name g.params K g.outs.len cp] ++ cs) wx fun e w' => e = .returned (.bool (p g)) ∧ Below wx.heap.size wx w')) :
    Calls Tryz.prog 149 #[.slice A n cap, .func (.func f) #[] cs] w fun e w' => e = .returned (.bool (fs.any p)) ∧ Below w.heap.size w w' := by
  subst hl
  exact containsFuncF A cap B fs w hA hB hn f hf cs p hp
theorem sameName_any (g : Fn) (K : Option Addr) (cp : Nat) (bf : Nat) (t : TypeId) (f : Fn) (KF : Option Addr) (cF : Nat) (wx : World) (h : Cells wx bf t [.string f.name, .int .i64 f.params, .slice KF f.outs.len cF]) :
    Calls Tryz.prog 150 (#[fnV g.name g.params K g.outs.len cp] ++ #[.pointer (some ⟨bf, 0, none⟩)]) wx fun e w' => e = .returned (.bool (g.name == f.name)) ∧ Below wx.heap.size wx w' := by
  have a0 : wx.cell? ⟨bf, 0, none⟩ = some (.string f.name) := by rw [h.cell]; rfl
  have hl := h.lt
  have HS := Lib.hid (sameName g.name f.name)
  clear h
  show Calls Tryz.prog 150 #[fnV g.name g.params K g.outs.len cp, .pointer (some ⟨bf, 0, none⟩)] wx _
  go_enter Tryz.func150, Tryz.ntmps150
  go_wp2
  go_ret
  exact ⟨ret_bool HS.out.symm, by go_grown⟩

/-- are these expressions right, with y nodes ahead of them? -/
def okQ (P : List Fn) (es : Es) (vars funcs : Int) (y : Nat) : Bool := exprsOk P es vars funcs && decide (y + es.size ≤ 400)
theorem okQ_cons {P : List Fn} {k n p c : Int} {ks r : Es} {vars funcs : Int} {y : Nat} : okQ P (.cons k n p c ks r) vars funcs y = (exprOk P ⟨k, n, p, c, ks⟩ vars funcs && okQ P r vars funcs (y + (ks.size + 1))) := by
  have e : decide (y + (Es.cons k n p c ks r).size ≤ 400) = decide (y + (ks.size + 1) + r.size ≤ 400) :=
    decide_eq_decide.2 (by simp only [Es.size]; omega)
  unfold okQ
  rw [e]
  simp only [exprsOk, Bool.and_assoc]

set_option maxRecDepth 100000 in
set_option maxHeartbeats 2000000 in
theorem validProgram_any (P : List Fn) (B : Nat) (A : Option Addr) (capP : Nat) (w : World) (hFS : FnSl w B P A) (hPl : P.length ≤ capP) (hPm : capP ≤ maxLen) (hB : B ≤ w.heap.size) (hsz : fnSize P ≤ 1048576) :
    Calls Tryz.prog 72 #[prV A P.length capP] w (FPost (progOk P) w) := by
  have HFS := Lib.hid hFS; clear hFS
  have hPm' : capP ≤ 9223372036854775807 := by unfold maxLen at hPm; omega
  have HSZ := Lib.hid hsz; clear hsz
  have hff : Enters 150 := enters Tryz.func150 (by kernel_rfl) rfl
  have HFF := Lib.hid hff; clear hff
  by_cases hl : P.length ≤ 16
  · obtain ⟨F, hF⟩ : ∃ F, F = progOk P := ⟨_, rfl⟩
    have HF : Hid (fnsOk P P 0 = F) := by show _ = _; rw [hF]; unfold progOk; rw [decide_eq_true hl]; rfl
    rw [← hF]
    clear hF
    go_enter Tryz.func72, Tryz.ntmps72
    go_wp2
    go_loopw [15] (fun i wr => ∃ (j : Nat) (fs : List Fn), i = .int .i64 (j : Int) ∧ j + fs.length = P.length ∧ Hid (P.drop j = fs) ∧ Hid (fnsOk P fs j = F) ∧ Hid (fnInner fs ≤ fnSize P) ∧ Hid (Cells wr w.heap.size 51 [.slice A P.length capP]) ∧ Hid (Below w.heap.size w wr)) (fun i _ => P.length - (intOf i).toNat)
    case atStart => exact ⟨0, P, by go_num, by omega, by show _ = _; simp, HF, by show _ ≤ _; unfold fnSize; omega, Cells.new w _ _, by show Below _ _ _; go_grown⟩
    case round =>
      obtain ⟨j, fs, rfl, hj, HD, HY, HS, HC, HB⟩ := hrel
      have a0 : wr.cell? ⟨w.heap.size, 0, none⟩ = some (.slice A P.length capP) := by rw [HC.out.cell]; rfl
      have al := HC.out.lt
      cases fs with
      | nil =>
        simp only [List.length_nil] at hj
        go_wp2
        go_ret
        have := HY.out
        simp only [fnsOk] at this
        exact ⟨ret_bool this, HB.out⟩
      | cons f r =>
        simp only [List.length_cons] at hj
        have hf : P[j]? = some f := by
          have := HD.out
          have h2 : (P.drop j)[0]? = some f := by rw [this]; rfl
          rw [List.getElem?_drop] at h2
          simpa using h2
        have hd : Hid (P.drop (j + 1) = r) := by
          have := HD.out
          show _ = _
          rw [← List.drop_drop, this]; rfl
        have hrs : Hid (fnInner r ≤ fnSize P ∧ f.outs.size ≤ 1048576) := by
          have := HS.out
          have := HSZ.out
          simp only [fnInner, Fn.size] at *
          exact ⟨by omega, by omega⟩
        have hjl : j < P.length := by omega
        have HY2 : Hid ((fnOk P j f && fnsOk P r (j + 1)) = F) := HY.out
        obtain ⟨bF, oF, rfl, hbF, g0, g1, hnm, KF, cF, g2, hcF, hcFm, hks⟩ := (HFS.out.below (HB.out.mono hB)).get hf
        have hbw : bF < wr.heap.size := by have := HB.out.size; omega
        have hcF' : cF ≤ 9223372036854775807 := by unfold maxLen at hcFm; omega
        have HKS := Lib.hid hks; clear hks
        have hlt : ((P.take j).length : Nat) = j := by simp; omega
        have HLT := Lib.hid hlt; clear hlt hf HD HY HS
        -- the world with f's box
        have HNO : fnOk P j f = false → F = false := fun h => by rw [← HY2.out, h]; rfl
        have HNO2 := Lib.hid HNO; clear HNO
        cases h1 : nameOk f.name
        · have HN := Lib.hid (HNO2.out (fnOk_name h1))
          have H1 := Lib.hid h1; clear h1
          go_wp2_with fail
          refine (isName_any _ _ hnm).mono ?_; rintro e w' ⟨rfl, rfl⟩
          rw [H1.out]
          go_wp2
          go_ret
          exact ⟨ret_bool HN.out.symm, by have := HB.out; go_grown⟩
        have H1 := Lib.hid h1; clear h1
        go_wp2_with fail
        refine (isName_any _ _ hnm).mono ?_; rintro e w' ⟨rfl, rfl⟩
        rw [H1.out]
        go_wp2_with fail
        have HFB := Lib.hid (Cells.new wr 146 [.string f.name, .int .i64 f.params, .slice KF f.outs.len cF])
        refine (containsFuncN j (some ⟨bF, oF, none⟩) capP B (P.take j) HLT.out _ ((HFS.out.below ((HB.out.mono hB).trans (by have := HB.out.size; go_grown))).take j) (by have := HB.out.size; simp; omega) (by omega) 150 HFF.out _ (fun g => g.name == f.name) (fun g K cp wx hx => sameName_any g K cp wr.heap.size 146 f KF cF wx (HFB.out.next hx))).mono ?_; rintro e w1 ⟨rfl, hb1⟩
        have HFB1 := Lib.hid (HFB.out.next hb1)
        have hb2 : Below wr.heap.size wr w1 := Below.trans (by go_grown) (hb1.mono (by simp))
        have HC1 := Lib.hid (HC.out.next hb2)
        have HB1 := Lib.hid (bnext HB.out hb2)
        have c0 : w1.cell? ⟨w.heap.size, 0, none⟩ = some (.slice (some ⟨bF, oF, none⟩) P.length capP) := by rw [HC1.out.cell]; rfl
        have d0 : w1.cell? ⟨wr.heap.size, 0, none⟩ = some (.string f.name) := by rw [HFB1.out.cell]; rfl
        have d1 : w1.cell? ⟨wr.heap.size, 1, none⟩ = some (.int .i64 f.params) := by rw [HFB1.out.cell]; rfl
        have d2 : w1.cell? ⟨wr.heap.size, 2, none⟩ = some (.slice KF f.outs.len cF) := by rw [HFB1.out.cell]; rfl
        have dl := HFB1.out.lt
        have cl := HC1.out.lt
        have HKS1 := Lib.hid (HKS.out.below (hb2.mono (by have := HB.out.size; omega)))
        clear hb1 hb2 HC HFB HKS HB a0 g0 g1 g2
        cases h2 : ((P.take j).any fun g => g.name == f.name)
        case true =>
          have HN := Lib.hid (HNO2.out (fnOk_dupe h2))
          go_wp2
          go_ret
          exact ⟨ret_bool HN.out.symm, HB1.out⟩
        have H2 := Lib.hid h2; clear h2
        go_wp2_with fail
        refine (within_any _ _ _ _).mono ?_; rintro e w' ⟨rfl, rfl⟩
        cases h3 : inR f.params 0 12
        · have HN := Lib.hid (HNO2.out (fnOk_params h3))
          clear h3
          go_wp2
          go_ret
          exact ⟨ret_bool HN.out.symm, HB1.out⟩
        have H3 := Lib.hid h3; clear h3
        go_wp2_with fail
        refine (within_any _ _ _ _).mono ?_; rintro e w' ⟨rfl, rfl⟩
        cases h4 : inR f.outs.len 1 12
        · have HN := Lib.hid (HNO2.out (fnOk_outs h4))
          clear h4
          go_wp2
          go_ret
          exact ⟨ret_bool HN.out.symm, HB1.out⟩
        have H4 := Lib.hid h4; clear h4
        obtain ⟨G, hG⟩ : ∃ G, G = fnOk P j f := ⟨_, rfl⟩
        have HG : Hid (okQ P f.outs f.params j 0 = G) := by
          show _ = _
          rw [hG, fnOk_rest H1.out H2.out H3.out H4.out]
          unfold okQ
          rw [Nat.zero_add]
        have HGF : Hid ((G && fnsOk P r (j + 1)) = F) := by show _ = _; rw [hG]; exact HY2.out
        clear hG HNO2 H1 H2 H3 H4 HY2 c0 d0
        obtain ⟨bk, ok, hKF, hks⟩ := HKS1.out
        have HKE := Lib.hid hks
        clear hks HKS1
        obtain ⟨wo, rfl⟩ : ∃ wo : World, wo = wr := ⟨_, rfl⟩
        go_wp2
        go_loopw [5, 46] (fun ll i wr => ∃ (a : Nat) (es' : Es) (y : Nat), i = .int .i64 (a : Int) ∧ ll = .int .i64 (y : Int) ∧ a + es'.len = f.outs.len ∧ y ≤ 1048576 ∧ Hid (y + es'.size = f.outs.size) ∧ Hid (okQ P es' f.params j y = G) ∧ Hid (ExsAt wr B es' bk (ok + a * 5)) ∧
          Hid (Cells wr w.heap.size 51 [.slice (some ⟨bF, oF, none⟩) P.length capP]) ∧ Hid (Cells wr wo.heap.size 146 [.string f.name, .int .i64 f.params, .slice KF f.outs.len cF]) ∧ Hid (Below w.heap.size w wr)) (fun _ i _ => f.outs.len - (intOf i).toNat)
        case atStart => exact ⟨0, f.outs, 0, by go_num, by go_num, by omega, by omega, by show _ = _; omega, HG, by show ExsAt _ _ _ _ _; rw [Nat.zero_mul, Nat.add_zero]; exact HKE.out, HC1, HFB1, HB1⟩
        case round =>
          clear d1 d2 dl cl HC1 HFB1 HB1 HKE HG
          obtain ⟨a, es', y, rfl, rfl, ha, y1, hy, hQ, HE, HC, HFB, HB⟩ := hrel
          have c0 : wr.cell? ⟨w.heap.size, 0, none⟩ = some (.slice (some ⟨bF, oF, none⟩) P.length capP) := by rw [HC.out.cell]; rfl
          have d1 : wr.cell? ⟨wo.heap.size, 1, none⟩ = some (.int .i64 f.params) := by rw [HFB.out.cell]; rfl
          have dl := HFB.out.lt
          have cl := HC.out.lt
          cases es' with
          | nil =>
            simp only [Es.len] at ha
            have hsz2 := hy.out
            simp only [Es.size] at hsz2
            by_cases hbig : y ≤ 400
            · have HG1 : Hid (fnsOk P r (j + 1) = F) := by
                have h := hQ.out
                unfold okQ at h
                rw [decide_eq_true (show y + Es.nil.size ≤ 400 by simp only [Es.size]; omega)] at h
                show _ = _
                rw [← HGF.out, ← h]; rfl
              go_wp2
              go_roundw
              case rel => exact ⟨j + 1, r, by go_num, by omega, hd, HG1, hrs.out.1, HC, HB⟩
              case measure => simp [intOf]; omega
            · have HG1 : Hid (F = false) := by
                have h := hQ.out
                unfold okQ at h
                rw [decide_eq_false (show ¬ y + Es.nil.size ≤ 400 by simp only [Es.size]; omega), Bool.and_false] at h
                show _ = _
                rw [← HGF.out, ← h]; rfl
              go_wp2
              go_ret
              exact ⟨ret_bool HG1.out.symm, HB.out⟩
          | cons kk n' p' c' ks' r' =>
            simp only [Es.len] at ha
            have hK := hKF (by omega)
            subst hK
            obtain ⟨hel, hr⟩ := HE.out
            have HR := Lib.hid hr
            obtain ⟨hbB, e0, e1, e2, e3, K', cap', b2, o2, e4, hc2, hcm2, hK2, hks2⟩ := hel
            have HK2 : Hid (ExSl wr B ks' K') := ⟨b2, o2, hK2, hks2⟩
            have hrs2 : Hid (y + (ks'.size + 1) + r'.size = f.outs.size ∧ ks'.size ≤ 1048576) := by
              have := hy.out
              have := hrs.out.2
              simp only [Es.size] at *
              exact ⟨by omega, by omega⟩
            have hbr : bk < wr.heap.size := by have := HB.out.size; omega
            have hQ2 := hQ.out
            rw [okQ_cons] at hQ2
            have HQ2 := Lib.hid hQ2
            clear hr HE hks2 hQ2 hQ hy
            go_wp2_with fail
            refine (validExpr_any P ks' kk n' p' c' K' cap' B (some ⟨bF, oF, none⟩) capP f.params j _ (HK2.out.below (by have := HB.out.size; go_grown)) hc2 hcm2 (HFS.out.below ((HB.out.mono hB).trans (by have := HB.out.size; go_grown))) hPl hPm (by have := HB.out.size; simp; omega) hrs2.out.2).mono ?_; rintro e w2 ⟨rfl, hb2⟩
            have HEB := Lib.hid (Cells.next (Cells.new wr 33 [.int .i64 kk, .int .i64 n', .int .i64 p', .int .i64 c', .slice K' ks'.len cap']) hb2)
            have hb3 : Below wr.heap.size wr w2 := Below.trans (by go_grown) (hb2.mono (by simp))
            have HR2 := Lib.hid (HR.out.below (hb3.mono (by have := HB.out.size; omega)))
            have HK3 := Lib.hid (HK2.out.below (hb3.mono (by have := HB.out.size; omega)))
            have HC2 := Lib.hid (HC.out.next hb3)
            have HFB2 := Lib.hid (HFB.out.next hb3)
            have HB2 := Lib.hid (bnext HB.out hb3)
            have f0 : w2.cell? ⟨wr.heap.size, 0, none⟩ = some (.int .i64 kk) := by rw [HEB.out.cell]; rfl
            have f1 : w2.cell? ⟨wr.heap.size, 1, none⟩ = some (.int .i64 n') := by rw [HEB.out.cell]; rfl
            have f2 : w2.cell? ⟨wr.heap.size, 2, none⟩ = some (.int .i64 p') := by rw [HEB.out.cell]; rfl
            have f3 : w2.cell? ⟨wr.heap.size, 3, none⟩ = some (.int .i64 c') := by rw [HEB.out.cell]; rfl
            have f4 : w2.cell? ⟨wr.heap.size, 4, none⟩ = some (.slice K' ks'.len cap') := by rw [HEB.out.cell]; rfl
            generalize exprOk P ⟨kk, n', p', c', ks'⟩ f.params j = bb at HQ2 ⊢
            clear hb2 hb3 HR HK2 HC HFB HB HEB c0 d1 dl cl e0 e1 e2 e3 e4
            cases bb
            · have HN : Hid (F = false) := by show _ = _; rw [← HGF.out, ← HQ2.out]; rfl
              go_wp2
              go_ret
              exact ⟨ret_bool HN.out.symm, HB2.out⟩
            · have HQ3 : Hid (okQ P r' f.params j (y + (ks'.size + 1)) = G) := HQ2.out
              go_wp2_with fail
              refine (size_any (ks'.size + 1) ks' (by omega) kk n' p' c' K' cap' B w2 HK3.out hc2 hcm2 (by have := HB2.out.size; omega) hrs2.out.2).mono ?_; rintro e w3 ⟨rfl, hb4⟩
              have HR3 : Hid (ExsAt w3 B r' bk (ok + (a + 1) * 5)) := by
                have := HR2.out.below (hb4.mono (by have := HB2.out.size; omega))
                rwa [show ok + a * 5 + 5 = ok + (a + 1) * 5 by omega] at this
              have HC3 := Lib.hid (HC2.out.next hb4)
              have HFB3 := Lib.hid (HFB2.out.next hb4)
              have HB3 := Lib.hid (bnext HB2.out hb4)
              obtain ⟨z, hz⟩ : ∃ z, z = ks'.size + 1 := ⟨_, rfl⟩
              rw [← hz] at HQ3 hrs2 ⊢
              have zz : y + z ≤ 1048576 := by have := hrs2.out; have := hrs.out.2; omega
              have z1 : z ≤ 1048576 := by omega
              clear hz hb4 HC2 HFB2 HB2 HR2 HK3 f0 f1 f2 f3 f4
              go_wp2
              go_roundw
              case rel => exact ⟨a + 1, r', y + z, by go_num, by go_num, by omega, zz, hrs2.out.1, HQ3, HR3, HC3, HFB3, HB3⟩
              case measure => simp [intOf]; omega
  · have HN : Hid (progOk P = false) := by show _ = _; unfold progOk; rw [decide_eq_false hl]; rfl
    go_enter Tryz.func72, Tryz.ntmps72
    go_wp2
    go_ret
    exact ⟨ret_bool HN.out.symm, by go_grown⟩

end Go.Proofs.YtgfkglhelfkpoaaGreat

/- Walks of the program's isFunc. -/
namespace Go.Proofs.YtgfkglhelfkpoaaGreat
open Go.RowKit Plain

theorem prBox {w w1 : World} {t : TypeId} {C : List Value} (hb : Below (w.alloc (.cells C.toArray t)).heap.size (w.alloc (.cells C.toArray t)) w1) : Cells w1 w.heap.size t C ∧ Below w.heap.size w w1 :=
  ⟨(Cells.new w t C).next hb, Below.trans (by go_grown) (hb.mono (by simp))⟩

set_option maxHeartbeats 1000000 in
theorem isFunc_any (P : List Fn) (f : Int) (B : Nat) (A : Option Addr) (capP : Nat) (w : World) (hFS : FnSl w B P A) (hPl : P.length ≤ capP) (hPm : capP ≤ maxLen) (hB : B ≤ w.heap.size) (hsz : fnSize P ≤ 1048576) :
    Calls Tryz.prog 95 #[prV A P.length capP, .int .i64 f] w fun e w' => e = .returned (.int .i64 (askV P f)) ∧ Below w.heap.size w w' := by
  have hPm' : capP ≤ 9223372036854775807 := by unfold maxLen at hPm; omega
  have HFS := Lib.hid hFS; clear hFS
  have HV : Hid (∀ wx, Below w.heap.size w wx → Calls Tryz.prog 72 #[prV A P.length capP] wx (FPost (progOk P) wx)) := fun wx hx => validProgram_any P B A capP wx (HFS.out.below (hx.mono hB)) hPl hPm (by have := hx.size; omega) hsz
  cases hok : progOk P
  · have HN : Hid (askV P f = 1) := by show _ = _; unfold askV; rw [hok]; rfl
    have HO := Lib.hid hok; clear hok
    go_enter Tryz.func95, Tryz.ntmps95
    go_wp2_with fail
    refine (HV.out _ (by go_grown)).mono ?_; rintro e w1 ⟨rfl, hb1⟩
    rw [HO.out]
    obtain ⟨q1, q2⟩ := prBox (C := [Value.slice A P.length capP]) hb1
    have Q2 := Lib.hid q2
    clear q1 q2 hb1
    go_wp2
    go_ret
    exact ⟨ret_int HN.out.symm, Q2.out⟩
  · have HO := Lib.hid hok
    cases hf : inR f 0 ((P.length : Int) - 1)
    all_goals
      have HN : Hid (askV P f = if inR f 0 ((P.length : Int) - 1) then 0 else 2) := by show _ = _; unfold askV; rw [HO.out]; rfl
      have HF := Lib.hid hf
      clear hf
      try clear hok
      go_enter Tryz.func95, Tryz.ntmps95
      go_wp2_with fail
      refine (HV.out _ (by go_grown)).mono ?_; rintro e w1 ⟨rfl, hb1⟩
      rw [HO.out]
      obtain ⟨q1, q2⟩ := prBox (C := [Value.slice A P.length capP]) hb1
      have Q2 := Lib.hid q2
      have a0 : w1.cell? ⟨w.heap.size, 0, none⟩ = some (.slice A P.length capP) := by rw [q1.cell]; rfl
      clear q1 q2 hb1
      go_wp2_with fail
      refine (within_any _ _ _ _).mono ?_; rintro e w' ⟨rfl, rfl⟩
      rw [HF.out]
      go_wp2
      go_ret
      exact ⟨ret_int (by rw [HN.out, HF.out]; rfl), Q2.out⟩

end Go.Proofs.YtgfkglhelfkpoaaGreat
