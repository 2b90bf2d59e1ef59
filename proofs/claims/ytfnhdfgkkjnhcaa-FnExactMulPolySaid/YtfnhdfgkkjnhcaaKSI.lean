/- Texts put together: WAddI, WAddS2, WAddS3, WAddB, WOrd. -/
import Derived.Test.YtfnhdfgkkjnhcaaKSH
import Derived.Test.YtfnhdfgkkjnhcaaKP

/- Walks: ofTwo with Poly.plus; AddPoly of the program. Printed by gen_two.py. -/
namespace Go.Proofs.Ytfnhdfgkkjnhcaa
open Go.RowKit Plain

set_option maxRecDepth 100000 in
set_option maxHeartbeats 4000000 in
theorem ofTwoAdd_any (u v : Int) (A1 A2 : Option Addr) (c1 c2 : Nat) (ts us : List Term') (w : World) (hT : TmsAt w A1 ts) (hU : TmsAt w A2 us) (tl : ts.length ≤ 1048576) (tt : totT ts ≤ 1048576) (ul : us.length ≤ 1048576) (ut : totT us ≤ 1048576) :
    Calls Try.prog 43 #[poV u A1 ts.length c1, poV v A2 us.length c2, .func (.func 44) #[] #[]] w (RetQi (twoV u ts v us (nfT (ts ++ us))).1 (twoV u ts v us (nfT (ts ++ us))).2 w) := by
  obtain ⟨W0, hW0⟩ : ∃ W0, W0 = ((w.alloc (.cells #[.int .i64 u, .slice A1 ts.length c1] 28)).alloc (.cells #[.int .i64 v, .slice A2 us.length c2] 28)).alloc (.cells #[.int .i64 0, .slice none 0 0] 28) := ⟨_, rfl⟩
  obtain ⟨hB0, hQ1, hQ2, hQ3⟩ := boxes3 hW0
  have HAF : Hid (∀ w1, Below W0.heap.size W0 w1 → Below w.heap.size w w1 ∧ w.heap.size + 2 < w1.heap.size ∧ Cells w1 w.heap.size 28 [.int .i64 u, .slice A1 ts.length c1] ∧ Cells w1 (w.heap.size + 1) 28 [.int .i64 v, .slice A2 us.length c2] ∧ Cells w1 (w.heap.size + 2) 28 [.int .i64 0, .slice none 0 0]) := fun w1 hb =>
    ⟨hB0.trans (hb.mono hB0.size), Nat.lt_of_lt_of_le hQ3.lt hb.size, hQ1.next hb, hQ2.next hb, hQ3.next hb⟩
  have HC1 := Lib.hid (polyI_any u A1 c1 ts W0 (hT.below hB0) tl tt)
  have HC2 : Hid (∀ wx, Below w.heap.size w wx → Calls Try.prog 34 #[poV v A2 us.length c2] wx fun e w' => e = .returned (.bool (polyOk v us)) ∧ Below wx.heap.size wx w') := fun wx hb => polyI_any v A2 c2 us wx (hU.below hb) ul ut
  have HT := Lib.hid hT
  have HU := Lib.hid hU
  have HW0 := Lib.hid hW0
  have x0 : W0.cell? ⟨w.heap.size, 0, none⟩ = some (.int .i64 u) := by rw [hQ1.cell]; rfl
  have x1 : W0.cell? ⟨w.heap.size, 1, none⟩ = some (.slice A1 ts.length c1) := by rw [hQ1.cell]; rfl
  clear hT hU hW0 hB0 hQ1 hQ2 hQ3
  cases hok : polyOk u ts
  · rw [twoV_bad1 hok]
    rw [hok] at HC1
    clear hok
    go_enter Try.func43, Try.ntmps43
    go_wp2_with fail
    rw [← HW0.out]
    refine HC1.out.mono ?_; rintro e w1 ⟨rfl, hb1⟩
    obtain ⟨hb, hlt, hq1, hq2, hr⟩ := HAF.out w1 hb1
    have hD1 := hr.set_ 0 (.int .i64 0)
    have hD2 := hD1.set_ 1 (.slice none 0 0)
    have z0 := hD1.cell 0
    have z1 := hD2.cell 1
    simp only [List.set_cons_zero, List.set_cons_succ, List.getElem?_cons_zero, List.getElem?_cons_succ] at z0 z1
    have y0 : w1.cell? ⟨w.heap.size + 2, 0, none⟩ = some (.int .i64 0) := by rw [hr.cell]; rfl
    have y1 : w1.cell? ⟨w.heap.size + 2, 1, none⟩ = some (.slice none 0 0) := by rw [hr.cell]; rfl
    have f0 : w1.frozen? ⟨w.heap.size + 2, 0, none⟩ = false := hr.frozen _
    have f1 : w1.frozen? ⟨w.heap.size + 2, 1, none⟩ = false := hr.frozen _
    have HB := Lib.hid hb
    clear hb hq1 hq2 hr hD1 hD2 hb1
    go_wp2
    refine bodyPost_ret (v := .tuple #[poV 0 none 0 0, .int .i64 1]) (by simp [results, Try.results43, go_sem, z0, z1]) rfl ?_
    exact retQ2 (R := []) HB.out (RT.empty _ _ (Nat.le_refl _) _) hlt _ _
  have HOK := Lib.hid hok
  rw [hok] at HC1
  clear hok
  cases hok2 : polyOk v us
  · rw [twoV_bad2 hok2]
    rw [hok2] at HC2
    clear hok2
    go_enter Try.func43, Try.ntmps43
    go_wp2_with fail
    rw [← HW0.out]
    refine HC1.out.mono ?_; rintro e wa ⟨rfl, hba⟩
    obtain ⟨hb, _, hq1, hq2, hr⟩ := HAF.out wa hba
    have k0 : wa.cell? ⟨w.heap.size + 1, 0, none⟩ = some (.int .i64 v) := by rw [hq2.cell]; rfl
    have k1 : wa.cell? ⟨w.heap.size + 1, 1, none⟩ = some (.slice A2 us.length c2) := by rw [hq2.cell]; rfl
    have HCX := Lib.hid (HC2.out wa hb)
    have HBA := Lib.hid hba
    clear hb hq1 hq2 hr hba
    go_wp2_with fail
    refine HCX.out.mono ?_; rintro e w1 ⟨rfl, hbx⟩
    have hb1 : Below W0.heap.size W0 w1 := bnext HBA.out hbx
    obtain ⟨hb, hlt, hq1, hq2, hr⟩ := HAF.out w1 hb1
    clear hbx
    have hD1 := hr.set_ 0 (.int .i64 0)
    have hD2 := hD1.set_ 1 (.slice none 0 0)
    have z0 := hD1.cell 0
    have z1 := hD2.cell 1
    simp only [List.set_cons_zero, List.set_cons_succ, List.getElem?_cons_zero, List.getElem?_cons_succ] at z0 z1
    have y0 : w1.cell? ⟨w.heap.size + 2, 0, none⟩ = some (.int .i64 0) := by rw [hr.cell]; rfl
    have y1 : w1.cell? ⟨w.heap.size + 2, 1, none⟩ = some (.slice none 0 0) := by rw [hr.cell]; rfl
    have f0 : w1.frozen? ⟨w.heap.size + 2, 0, none⟩ = false := hr.frozen _
    have f1 : w1.frozen? ⟨w.heap.size + 2, 1, none⟩ = false := hr.frozen _
    have HB := Lib.hid hb
    clear hb hq1 hq2 hr hD1 hD2 hb1
    go_wp2
    refine bodyPost_ret (v := .tuple #[poV 0 none 0 0, .int .i64 1]) (by simp [results, Try.results43, go_sem, z0, z1]) rfl ?_
    exact retQ2 (R := []) HB.out (RT.empty _ _ (Nat.le_refl _) _) hlt _ _
  have HOK2 := Lib.hid hok2
  rw [hok2] at HC2
  clear hok2
  by_cases hv : u = v
  · subst hv
    obtain ⟨n, hn⟩ : ∃ n, n = u.toNat := ⟨_, rfl⟩
    have hsz1 := polyOk_size HOK.out
    have hsz2 := polyOk_size HOK2.out
    have hn12 : n ≤ 12 := by omega
    have HPL : Hid (∀ wx, Below w.heap.size w wx → Calls Try.prog 44 #[poV u A1 ts.length c1, poV u A2 us.length c2] wx (PolyR u (nfT (ts ++ us)) wx)) := fun wx hb => polyPlus_any u u A1 A2 c1 c2 n ts us wx (HT.out.below hb) (HU.out.below hb) (by omega) (by omega) (hn ▸ polyOk_len' HOK.out) (hn ▸ polyOk_len' HOK2.out) (by omega)
    have HBR := Lib.hid (bdAdd (u := u) HOK.out HOK2.out)
    obtain ⟨R, hR⟩ : ∃ R, R = (nfT (ts ++ us)) := ⟨_, rfl⟩
    rw [← hR] at HPL HBR ⊢
    have hRl := HBR.out.1
    have HC3 : Hid (∀ A3 c3 lo w3, RT w3 lo w3.heap.size A3 R → ∀ wx, Below w3.heap.size w3 wx → Calls Try.prog 34 #[poV u A3 R.length c3] wx fun e w' => e = .returned (.bool (polyOk u R)) ∧ Below wx.heap.size wx w') := fun A3 c3 lo w3 h wx hb => polyI_any u A3 c3 R wx ((regTms h (by have := HBR.out.2; omega)).below hb) (by omega) HBR.out.2
    clear hn hn12 hsz1 hsz2 hR
    obtain ⟨V, hV⟩ : ∃ V, V = twoV u ts u us R := ⟨_, rfl⟩
    rw [← hV]
    have HV := Lib.hid hV
    clear hV
    go_enter Try.func43, Try.ntmps43
    go_wp2_with fail
    rw [← HW0.out]
    refine HC1.out.mono ?_; rintro e wa ⟨rfl, hba⟩
    obtain ⟨hb, _, hq1, hq2, hr⟩ := HAF.out wa hba
    have k0 : wa.cell? ⟨w.heap.size + 1, 0, none⟩ = some (.int .i64 u) := by rw [hq2.cell]; rfl
    have k1 : wa.cell? ⟨w.heap.size + 1, 1, none⟩ = some (.slice A2 us.length c2) := by rw [hq2.cell]; rfl
    have HCX := Lib.hid (HC2.out wa hb)
    have HBA := Lib.hid hba
    clear hb hq1 hq2 hr hba
    go_wp2_with fail
    refine HCX.out.mono ?_; rintro e w1 ⟨rfl, hbx⟩
    have hb1 : Below W0.heap.size W0 w1 := bnext HBA.out hbx
    obtain ⟨hb, hlt, hq1, hq2, hr⟩ := HAF.out w1 hb1
    have l0 : w1.cell? ⟨w.heap.size, 0, none⟩ = some (.int .i64 u) := by rw [hq1.cell]; rfl
    have l1 : w1.cell? ⟨w.heap.size, 1, none⟩ = some (.slice A1 ts.length c1) := by rw [hq1.cell]; rfl
    have l2 : w1.cell? ⟨w.heap.size + 1, 0, none⟩ = some (.int .i64 u) := by rw [hq2.cell]; rfl
    have l3 : w1.cell? ⟨w.heap.size + 1, 1, none⟩ = some (.slice A2 us.length c2) := by rw [hq2.cell]; rfl
    have HPX := Lib.hid (HPL.out w1 hb)
    have HB := Lib.hid hb
    have HB1 := Lib.hid hb1
    clear hbx hb hq1 hq2 hr hb1 HPL
    go_wp2_with fail
    refine HPX.out.mono ?_; rintro e w2 ⟨A3, c3, rfl, hRT, hb2⟩
    have hbn : Below w2.heap.size w2 (w2.alloc (.cells #[.int .i64 u, .slice A3 R.length c3] 28)) := by go_grown
    have hqn := Cells.new w2 28 [.int .i64 u, .slice A3 R.length c3]
    have HVX := Lib.hid (HC3.out A3 c3 _ w2 hRT)
    have HRT := Lib.hid hRT
    have HB2 := Lib.hid hb2
    have HQN := Lib.hid hqn
    have HBN := Lib.hid hbn
    have m0 : (w2.alloc (.cells #[.int .i64 u, .slice A3 R.length c3] 28)).cell? ⟨w2.heap.size, 0, none⟩ = some (.int .i64 u) := by rw [hqn.cell]; rfl
    have m1 : (w2.alloc (.cells #[.int .i64 u, .slice A3 R.length c3] 28)).cell? ⟨w2.heap.size, 1, none⟩ = some (.slice A3 R.length c3) := by rw [hqn.cell]; rfl
    clear hRT hb2 hqn hbn
    go_wp2_with fail
    refine (HVX.out _ HBN.out).mono ?_; rintro e w5 ⟨rfl, hb5⟩
    have hw5 : Below w2.heap.size w2 w5 := bnext HBN.out hb5
    have hbW := bnext (bnext HB1.out HB2.out) hw5
    obtain ⟨hb, hlt5, hq1, hq2, hr⟩ := HAF.out w5 hbW
    have hq5 := HQN.out.next hb5
    have n0 : w5.cell? ⟨w2.heap.size, 0, none⟩ = some (.int .i64 u) := by rw [hq5.cell]; rfl
    have n1 : w5.cell? ⟨w2.heap.size, 1, none⟩ = some (.slice A3 R.length c3) := by rw [hq5.cell]; rfl
    have y0 : w5.cell? ⟨w.heap.size + 2, 0, none⟩ = some (.int .i64 0) := by rw [hr.cell]; rfl
    have y1 : w5.cell? ⟨w.heap.size + 2, 1, none⟩ = some (.slice none 0 0) := by rw [hr.cell]; rfl
    have f0 : w5.frozen? ⟨w.heap.size + 2, 0, none⟩ = false := hr.frozen _
    have f1 : w5.frozen? ⟨w.heap.size + 2, 1, none⟩ = false := hr.frozen _
    have HR5 := Lib.hid (RT.lowerR (HRT.out.only (Only.of_below (S := fun _ => False) hw5) (fun _ _ _ h => h)) (Nat.le_refl _) hw5.size)
    have HB5 := Lib.hid hb
    have HRB := Lib.hid hr
    clear hw5 hbW hb hq1 hq2 hr hq5 hb5 m0 m1 l0 l1 l2 l3 k0 k1 x0 x1
    cases hres : polyOk u R
    · have hE : V = ((0, []), 3) := by rw [HV.out]; exact twoV_big HOK.out HOK2.out hres
      subst hE
      have hD1 := HRB.out.set_ 0 (.int .i64 0)
      have hD2 := hD1.set_ 1 (.slice none 0 0)
      have z0 := hD1.cell 0
      have z1 := hD2.cell 1
      simp only [List.set_cons_zero, List.set_cons_succ, List.getElem?_cons_zero, List.getElem?_cons_succ] at z0 z1
      clear hres hD1 hD2
      go_wp2
      refine bodyPost_ret (v := .tuple #[poV 0 none 0 0, .int .i64 3]) (by simp [results, Try.results43, go_sem, z0, z1]) rfl ?_
      exact retQ2 (R := []) HB5.out (RT.empty _ _ (Nat.le_refl _) _) hlt5 _ _
    · have hE : V = ((u, R), 0) := by rw [HV.out]; exact twoV_ok HOK.out HOK2.out hres
      subst hE
      have hD1 := HRB.out.set_ 0 (.int .i64 u)
      have hD2 := hD1.set_ 1 (.slice A3 R.length c3)
      have z0 := hD1.cell 0
      have z1 := hD2.cell 1
      simp only [List.set_cons_zero, List.set_cons_succ, List.getElem?_cons_zero, List.getElem?_cons_succ] at z0 z1
      clear hres hD1 hD2
      go_wp2
      refine bodyPost_ret (v := .tuple #[poV u A3 R.length c3, .int .i64 0]) (by simp [results, Try.results43, go_sem, z0, z1]) rfl ?_
      exact retQ2 HB5.out HR5.out hlt _ _
  · rw [twoV_vars HOK.out HOK2.out hv]
    go_enter Try.func43, Try.ntmps43
    go_wp2_with fail
    rw [← HW0.out]
    refine HC1.out.mono ?_; rintro e wa ⟨rfl, hba⟩
    obtain ⟨hb, _, hq1, hq2, hr⟩ := HAF.out wa hba
    have k0 : wa.cell? ⟨w.heap.size + 1, 0, none⟩ = some (.int .i64 v) := by rw [hq2.cell]; rfl
    have k1 : wa.cell? ⟨w.heap.size + 1, 1, none⟩ = some (.slice A2 us.length c2) := by rw [hq2.cell]; rfl
    have HCX := Lib.hid (HC2.out wa hb)
    have HBA := Lib.hid hba
    clear hb hq1 hq2 hr hba
    go_wp2_with fail
    refine HCX.out.mono ?_; rintro e w1 ⟨rfl, hbx⟩
    have hb1 : Below W0.heap.size W0 w1 := bnext HBA.out hbx
    obtain ⟨hb, hlt, hq1, hq2, hr⟩ := HAF.out w1 hb1
    have l0 : w1.cell? ⟨w.heap.size, 0, none⟩ = some (.int .i64 u) := by rw [hq1.cell]; rfl
    have l1 : w1.cell? ⟨w.heap.size + 1, 0, none⟩ = some (.int .i64 v) := by rw [hq2.cell]; rfl
    clear hbx
    have hD1 := hr.set_ 0 (.int .i64 0)
    have hD2 := hD1.set_ 1 (.slice none 0 0)
    have z0 := hD1.cell 0
    have z1 := hD2.cell 1
    simp only [List.set_cons_zero, List.set_cons_succ, List.getElem?_cons_zero, List.getElem?_cons_succ] at z0 z1
    have y0 : w1.cell? ⟨w.heap.size + 2, 0, none⟩ = some (.int .i64 0) := by rw [hr.cell]; rfl
    have y1 : w1.cell? ⟨w.heap.size + 2, 1, none⟩ = some (.slice none 0 0) := by rw [hr.cell]; rfl
    have f0 : w1.frozen? ⟨w.heap.size + 2, 0, none⟩ = false := hr.frozen _
    have f1 : w1.frozen? ⟨w.heap.size + 2, 1, none⟩ = false := hr.frozen _
    have HB := Lib.hid hb
    clear hb hq1 hq2 hr hD1 hD2 hb1
    go_wp2
    refine bodyPost_ret (v := .tuple #[poV 0 none 0 0, .int .i64 2]) (by simp [results, Try.results43, go_sem, z0, z1]) rfl ?_
    exact retQ2 (R := []) HB.out (RT.empty _ _ (Nat.le_refl _) _) hlt _ _

set_option maxRecDepth 100000 in
set_option maxHeartbeats 2000000 in
theorem addPolyI (u v : Int) (A1 A2 : Option Addr) (c1 c2 : Nat) (ts us : List Term') (w : World) (hT : TmsAt w A1 ts) (hU : TmsAt w A2 us) (tl : ts.length ≤ 1048576) (tt : totT ts ≤ 1048576) (ul : us.length ≤ 1048576) (ut : totT us ≤ 1048576) :
    Calls Try.prog 16 #[poV u A1 ts.length c1, poV v A2 us.length c2] w (RetQi (twoV u ts v us (nfT (ts ++ us))).1 (twoV u ts v us (nfT (ts ++ us))).2 w) := by
  obtain ⟨W0, hW0⟩ : ∃ W0, W0 = ((w.alloc (.cells #[.int .i64 u, .slice A1 ts.length c1] 28)).alloc (.cells #[.int .i64 v, .slice A2 us.length c2] 28)).alloc (.cells #[.int .i64 0, .slice none 0 0] 28) := ⟨_, rfl⟩
  obtain ⟨hB0, hQ1, hQ2, hQ3⟩ := boxes3 hW0
  have HC := Lib.hid (ofTwoAdd_any u v A1 A2 c1 c2 ts us W0 (hT.below hB0) (hU.below hB0) tl tt ul ut)
  obtain ⟨V, hV⟩ : ∃ V, V = twoV u ts v us (nfT (ts ++ us)) := ⟨_, rfl⟩
  rw [← hV] at HC ⊢
  obtain ⟨⟨v0, R⟩, c⟩ := V
  have x0 : W0.cell? ⟨w.heap.size, 0, none⟩ = some (.int .i64 u) := by rw [hQ1.cell]; rfl
  have x1 : W0.cell? ⟨w.heap.size, 1, none⟩ = some (.slice A1 ts.length c1) := by rw [hQ1.cell]; rfl
  have x2 : W0.cell? ⟨w.heap.size + 1, 0, none⟩ = some (.int .i64 v) := by rw [hQ2.cell]; rfl
  have x3 : W0.cell? ⟨w.heap.size + 1, 1, none⟩ = some (.slice A2 us.length c2) := by rw [hQ2.cell]; rfl
  have HB0 := Lib.hid hB0
  have HQ3 := Lib.hid hQ3
  have HW0 := Lib.hid hW0
  clear hV hT hU hW0 hB0 hQ1 hQ2 hQ3
  go_enter Try.func16, Try.ntmps16
  go_wp2_with fail
  rw [← HW0.out]
  go_wp2_with fail
  refine HC.out.mono ?_; rintro e w1 ⟨hb1, A3, c3, rfl, hRT⟩
  have hr := HQ3.out.next hb1
  have y0 : w1.cell? ⟨w.heap.size + 2, 0, none⟩ = some (.int .i64 0) := by rw [hr.cell]; rfl
  have y1 : w1.cell? ⟨w.heap.size + 2, 1, none⟩ = some (.slice none 0 0) := by rw [hr.cell]; rfl
  have f0 : w1.frozen? ⟨w.heap.size + 2, 0, none⟩ = false := hr.frozen _
  have f1 : w1.frozen? ⟨w.heap.size + 2, 1, none⟩ = false := hr.frozen _
  have hD1 := hr.set_ 0 (.int .i64 v0)
  have hD2 := hD1.set_ 1 (.slice A3 R.length c3)
  have z0 := hD1.cell 0
  have z1 := hD2.cell 1
  simp only [List.set_cons_zero, List.set_cons_succ, List.getElem?_cons_zero, List.getElem?_cons_succ] at z0 z1
  have HB1 : Hid (Below w.heap.size w w1) := HB0.out.trans (hb1.mono HB0.out.size)
  have HRT := Lib.hid hRT
  have hl0 : w.heap.size + 2 < W0.heap.size := HQ3.out.lt
  clear hr hb1 hRT hD1 hD2
  go_wp2
  refine bodyPost_ret (v := .tuple #[poV v0 A3 R.length c3, .int .i64 c]) (by simp [results, Try.results16, go_sem, z0, z1]) rfl ?_
  exact retQ2 HB1.out HRT.out hl0 _ _

end Go.Proofs.Ytfnhdfgkkjnhcaa

/- Walks: l05Add: the sum of a valid polynomial and a multiple of another. -/
namespace Go.Proofs.Ytfnhdfgkkjnhcaa
open Go.RowKit Plain

theorem TRow.keepT {w w' : World} {B p : Nat} {t : TypeId} {v : Value} {ts : List Term'} (h : TRow w B v ts) (hp : Typed w p t) (h1 : t ≠ 66) (h2 : t ≠ 2) (hb : ∀ q, q < w.heap.size → q ≠ p → w'.heap[q]? = w.heap[q]?) : TRow w' B v ts := by
  obtain ⟨us, h⟩ := h
  refine ⟨us, h.len, ownsRow_keep2 h.own fun g hg => ?_, fun i u t hu ht => ?_, h.dist⟩
  · exact hb g (World.ownsRow.lt h.own g hg).2 ((own2_typed h.own hg).ne hp (Ne.symm h1))
  · obtain ⟨h3, h4⟩ := h.row i u t hu ht
    exact ⟨h3, h4.keep fun g hg => hb g (h4.lt hg).2 ((own_typed h4 hg).ne hp (Ne.symm h2))⟩
/-- a polynomial put together term by term in a box that lies among its terms' blocks -/
structure ASt (w0 : World) (B p : Nat) (vars : Int) (L : List Term') (n : Nat) (out : List Term') (m cp : Nat) (A : Option Addr) (wr : World) : Prop where
  box : Cells wr p 28 [.int .i64 vars, .slice A m cp]
  rbox : Cells wr w0.heap.size 28 [.int .i64 0, .slice none 0 0]
  len : out.length = m
  row : TRow wr B (.slice A m cp) out
  canon : Canon out
  cofs : ∀ e, cof out e = cof L e
  lenT : LenT n out
  below : Below w0.heap.size w0 wr
  B0 : w0.heap.size < B
  pB : B ≤ p
theorem ASt.next {w0 wr w1 : World} {B p n : Nat} {vars : Int} {L out : List Term'} {m cp : Nat} {A : Option Addr} (h : ASt w0 B p vars L n out m cp A wr) (hb : Below wr.heap.size wr w1) : ASt w0 B p vars L n out m cp A w1 :=
  ⟨h.box.next hb, h.rbox.next hb, h.len, h.row.below hb, h.canon, h.cofs, h.lenT, bnext h.below hb, h.B0, h.pB⟩
theorem ASt.row' {w0 wr : World} {B p n : Nat} {vars : Int} {L out : List Term'} {m cp : Nat} {A : Option Addr} (h : ASt w0 B p vars L n out m cp A wr) : TRow wr B (.slice A out.length cp) out := by rw [h.len]; exact h.row
theorem ASt.size {w0 wr : World} {B p n : Nat} {vars : Int} {L out : List Term'} {m cp : Nat} {A : Option Addr} (h : ASt w0 B p vars L n out m cp A wr) : B ≤ wr.heap.size := by have := h.box.lt; have := h.pB; omega
theorem ASt.put {w0 w3 w4 : World} {B p n m cp c4 : Nat} {vars c : Int} {L out ts4 : List Term'} {A A4 : Option Addr} {E : List Int} (h : ASt w0 B p vars L n out m cp A w3) (hn : E.length = n) (hr : TRow w4 B (.slice A4 ts4.length c4) ts4) (hc : Canon ts4)
    (hco : ∀ x, cof ts4 x = if E = x then pl c (cof out E) else cof out x) (hl : LenT E.length ts4) (hb : Below w3.heap.size w3 w4) : ASt w0 B p vars (L ++ [(E, c)]) n ts4 ts4.length c4 A4 (w4.setCell ⟨p, 1, none⟩ (.slice A4 ts4.length c4)) := by
  have hB := h.B0
  have hpB := h.pB
  have hbx := h.box.next hb
  refine ⟨?_, ?_, rfl, ?_, hc, fun e => ?_, hn ▸ hl, ?_, h.B0, h.pB⟩
  · have := hbx.set_ 1 (.slice A4 ts4.length c4)
    simpa using this
  · exact (Below.heap_setCell _ _ _ _ (fun e => by simp only at e; omega)).trans (h.rbox.next hb)
  · exact hr.keepT hbx.typed (by decide) (by decide) fun q _ hq => Below.heap_setCell _ _ _ _ hq
  · rw [cof_append, ← h.cofs]
    exact cof_put (t := (E, c)) hco e
  · exact (bnext h.below hb).setCell (p := ⟨p, 1, none⟩) (by simp only; omega) _
theorem ASt.same {w0 wr : World} {B p n : Nat} {vars : Int} {L L' out : List Term'} {m cp : Nat} {A : Option Addr} (h : ASt w0 B p vars L n out m cp A wr) (e : L = L') : ASt w0 B p vars L' n out m cp A wr := e ▸ h
theorem scl_take_succ {k : Int} {us : List Term'} {i : Nat} (h : i < us.length) : sclT k (us.take (i + 1)) = sclT k (us.take i) ++ [((tmAt us i).1, tm (tmAt us i).2 k)] := by
  rw [take_tm h]; unfold sclT; rw [List.map_append]; rfl

set_option maxRecDepth 100000 in
set_option maxHeartbeats 4000000 in
theorem l05Add_any (k : Int) (b1 o1 b2 o2 : Nat) (u : Int) (A1 A2 : Option Addr) (c1 c2 : Nat) (ts us : List Term') (w : World) (h00 : w.cell? ⟨b1, o1, none⟩ = some (.int .i64 u)) (h01 : w.cell? ⟨b1, o1 + 1, none⟩ = some (.slice A1 ts.length c1))
    (h11 : w.cell? ⟨b2, o2 + 1, none⟩ = some (.slice A2 us.length c2)) (hT : TmsAt w A1 ts) (hU : TmsAt w A2 us) (hok : polyOk u ts = true) (hok2 : polyOk u us = true) :
    Calls Try.prog 42 #[ptr b1 o1, ptr b2 o2, .int .i64 k] w (OwnR u (nfT (ts ++ sclT k us)) w) := by
  have hl120 := (polyOk_size hok2).2.2
  have hts120 := (polyOk_size hok).2.2
  have hu12 : u.toNat ≤ 12 := by have := polyOk_size hok; omega
  obtain ⟨n, hn⟩ : ∃ n, n = u.toNat := ⟨_, rfl⟩
  rw [← hn] at hu12
  have HLT : Hid (LenT n us) := by rw [hn]; exact polyOk_len' hok2
  have hLT1 : LenT n ts := by rw [hn]; exact polyOk_len' hok
  have hW0b : Below w.heap.size w (w.alloc (.cells #[.int .i64 0, .slice none 0 0] 28)) := by go_grown
  have hsz : (w.alloc (.cells #[.int .i64 0, .slice none 0 0] 28)).heap.size = w.heap.size + 1 := by simp
  have HR := Cells.new w 28 [.int .i64 0, .slice none 0 0]
  have HSC : Hid (Calls Try.prog 84 #[ptr b1 o1, .int .i64 1] (w.alloc (.cells #[.int .i64 0, .slice none 0 0] 28)) fun e w1 => ∃ A' cp, e = .returned (poV u A' ts.length cp) ∧ Below w.heap.size w w1 ∧ ASt w (w.heap.size + 1) w1.heap.size u (ts ++ sclT k (us.take 0)) n ts ts.length cp A' (w1.alloc (.cells #[.int .i64 u, .slice A' ts.length cp] 28))) := by
    refine (l05Scaled_any 1 (by omega) (by omega) b1 o1 u A1 c1 ts _ (keepC h00 hW0b) (keepC h01 hW0b) (hT.below hW0b) hok).mono ?_
    rintro e w1 ⟨A', cp, rfl, hrow, hb⟩
    rw [sclT_one (polyOk_canon hok)] at hrow
    rw [sclT_one (polyOk_canon hok)]
    rw [hsz] at hrow
    have hb1 := hW0b.trans (hb.mono hW0b.size)
    have hal : Below w1.heap.size w1 (w1.alloc (.cells #[.int .i64 u, .slice A' ts.length cp] 28)) := by go_grown
    refine ⟨A', cp, rfl, hb1, Cells.new w1 28 [.int .i64 u, .slice A' ts.length cp], (HR.next hb).next hal, rfl, hrow.below hal, polyOk_canon hok, fun e => by simp [sclT], hLT1, bnext hb1 hal, by omega, ?_⟩
    have := hb.size; omega
  have hbw2 : b2 < w.heap.size := World.block_lt_of_cell? _ _ h11
  have HU := Lib.hid hU
  have HQ := Lib.hid h11
  have HOK := Lib.hid hok2
  clear hn hok hok2 hT hU h00 h01 h11 hLT1 hW0b hsz HR
  go_enter Try.func42, Try.ntmps42
  go_wp2_with fail
  refine HSC.out.mono ?_
  rintro e w1 ⟨A0, cp0, rfl, hbw1, hst⟩
  have HST := Lib.hid hst
  have hbp : w.heap.size < w1.heap.size + 1 := by have := hst.pB; omega
  clear hst HSC hbw1
  go_wp2_with fail
  generalize w1.alloc (.cells #[.int .i64 u, .slice A0 ts.length cp0] 28) = W1 at *
  obtain ⟨p, hp⟩ : ∃ p, p = w1.heap.size := ⟨_, rfl⟩
  rw [← hp]
  rw [← hp] at HST
  clear hp
  go_loopg [8] (us.length + 1) (fun kx s8 wr => ∃ (i : Nat) (out : List Term') (m cp : Nat) (A' : Option Addr), s8 = .int .i64 (i : Int) ∧ i ≤ us.length ∧ us.length - i < kx ∧ m ≤ ts.length + i ∧ Hid (ASt w (w.heap.size + 1) p u (ts ++ sclT k (us.take i)) n out m cp A' wr))
  case atStart => exact ⟨0, ts, ts.length, cp0, A0, by first | rfl | go_num, by omega, by omega, by omega, HST⟩
  case round =>
    clear HST
    obtain ⟨i, out, m, cp, A', rfl, hin, hkx, hmi, HG⟩ := hrel
    obtain ⟨wo, rfl⟩ : ∃ x, x = wr := ⟨_, rfl⟩
    have HBW : Hid (Below w.heap.size w wo) := HG.out.below
    have q1 : wo.cell? ⟨b2, o2 + 1, none⟩ = some (.slice A2 us.length c2) := keepC HQ.out HBW.out
    by_cases hlt : i < us.length
    · have hiz : (i : Int) < (us.length : Int) := by omega
      obtain ⟨bt, ot, Ai, ci, rfl, hbt, t0', t1', tI', _⟩ := HU.out.at_ hlt
      have t0 := keepC t0' HBW.out
      have t1 := keepC t1' HBW.out
      have HTI : Hid (Ints wo Ai (tmAt us i).1) := tI'.below HBW.out
      clear t0' t1' tI'
      have hlen : (tmAt us i).1.length = n := HLT.out _ (tmAt_mem hlt)
      rw [hlen] at t0
      obtain ⟨c, hc⟩ : ∃ c, c = (tmAt us i).2 := ⟨_, rfl⟩
      obtain ⟨E, hE⟩ : ∃ E, E = (tmAt us i).1 := ⟨_, rfl⟩
      rw [← hc] at t1
      rw [← hE] at hlen HTI
      have HTK : Hid (ts ++ sclT k (us.take i) ++ [(E, tm c k)] = ts ++ sclT k (us.take (i + 1))) := by show _ = _; rw [scl_take_succ hlt, List.append_assoc, hE, hc]
      have HTM := Lib.hid (fun wx => timesS_any c k wx)
      have hbd := tm_bd c k
      have p1 : wo.cell? ⟨p, 1, none⟩ = some (.slice A' m cp) := by rw [HG.out.box.cell]; rfl
      have pf : wo.frozen? ⟨p, 1, none⟩ = false := HG.out.box.frozen _
      have HPL : Hid (p < wo.heap.size) := HG.out.box.lt
      have HPT : Hid (Calls Try.prog 71 #[.slice A' m cp, .slice Ai n ci, .int .i64 (tm c k)] wo.drew fun e w4 => ∃ A4 c4 ts4, e = .returned (.slice A4 ts4.length c4) ∧ Below wo.heap.size wo w4 ∧ ts4.length ≤ m + 1 ∧ ASt w (w.heap.size + 1) p u (ts ++ sclT k (us.take (i + 1))) n ts4 ts4.length c4 A4 (w4.setCell ⟨p, 1, none⟩ (.slice A4 ts4.length c4))) := by
        have hm : out.length = m := HG.out.len
        have h := put_any (w.heap.size + 1) A' Ai cp ci out E (tm c k) wo.drew (HG.out.row'.below (Below.refl _ _).drew) (show w.heap.size + 1 ≤ wo.drew.heap.size from HG.out.size) (HTI.out.below (Below.refl _ _).drew) HG.out.canon (by rw [hlen]; exact HG.out.lenT) hbd.1 hbd.2 (by omega) (by omega)
        rw [hlen, hm] at h
        refine h.mono fun e w4 ⟨A4, c4, ts4, h1, h2, h3, h4, h5, h6, h7⟩ => ⟨A4, c4, ts4, h1, ⟨h7.os, h7.tape, h7.output, h7.size, h7.block⟩, by omega, ?_⟩
        exact (ASt.put (c := tm c k) HG.out hlen h2 h3 h4 h5 (⟨h7.os, h7.tape, h7.output, h7.size, h7.block⟩ : Below wo.heap.size wo w4)).same HTK.out
      obtain ⟨z, hz⟩ : ∃ z, z = tm c k := ⟨_, rfl⟩
      rw [← hz] at HPT HTM
      clear hz hbd HTK HTI HG hc hE
      have HS0 : Hid (wo.cell? ⟨p, 1, none⟩ = some (.slice A' m cp) ∧ wo.cell? ⟨b2, o2 + 1, none⟩ = some (.slice (some ⟨bt, ot, none⟩) us.length c2) ∧ wo.cell? ⟨bt, ot + i * 2, none⟩ = some (.slice Ai n ci) ∧ wo.cell? ⟨bt, ot + i * 2 + 1, none⟩ = some (.int .i64 c)) := ⟨p1, q1, t0, t1⟩
      have HLL : Hid (p < wo.heap.size ∧ b2 < wo.heap.size ∧ bt < wo.heap.size) := ⟨HPL.out, by have := HBW.out.size; omega, by have := HBW.out.size; omega⟩
      go_wp2_with fail
      refine RegE.start (S := (fun wx => wx.cell? ⟨p, 1, none⟩ = some (.slice A' m cp) ∧ wx.cell? ⟨b2, o2 + 1, none⟩ = some (.slice (some ⟨bt, ot, none⟩) us.length c2) ∧ wx.cell? ⟨bt, ot + i * 2, none⟩ = some (.slice Ai n ci) ∧ wx.cell? ⟨bt, ot + i * 2 + 1, none⟩ = some (.int .i64 c))) 22 (by kernel_rfl) (by kernel_rfl) ?S0 (fun hHeld hB => ?_)
      case S0 => ((try dsimp only); exact HS0.out)
      refine RegE.take (i := 0) (v := ?v0) hB rfl (by decide) (by kernel_rfl) (by kernel_rfl) (fun _ _ _ h => h) (Or.inl ⟨by rfl, ?y0⟩) hHeld ?r0
      case y0 => ((intro w hSw; (try dsimp only at hSw); go_simp) <;> with_reducible rfl)
      (try simp only [Act.put, List.setIfInBounds_toArray])
      refine RegE.take (i := 1) (v := ?v1) hB rfl (by decide) (by kernel_rfl) (by kernel_rfl) (fun _ _ _ h => h) (Or.inl ⟨by rfl, ?y1⟩) hHeld ?r1
      case y1 => ((intro w hSw; (try dsimp only at hSw); go_simp) <;> with_reducible rfl)
      (try simp only [Act.put])
      refine RegE.take (i := 2) (v := ?v2) hB rfl (by decide) (by kernel_rfl) (by kernel_rfl) (fun _ _ _ h => h) (Or.inl ⟨by rfl, ?y2⟩) hHeld ?r2
      case y2 => ((intro w hSw; (try dsimp only at hSw); go_simp) <;> with_reducible rfl)
      (try simp only [Act.put])
      refine RegE.take (i := 3) (v := ?v3) hB rfl (by decide) (by kernel_rfl) (by kernel_rfl) (fun _ _ _ h => h) (Or.inl ⟨by rfl, ?y3⟩) hHeld ?r3
      case y3 => ((intro w hSw; (try dsimp only at hSw); go_simp) <;> with_reducible rfl)
      (try simp only [Act.put])
      refine RegE.take (i := 4) (v := ?v4) hB rfl (by decide) (by kernel_rfl) (by kernel_rfl) (fun _ _ _ h => h) (Or.inl ⟨by rfl, ?y4⟩) hHeld ?r4
      case y4 => ((intro w hSw; (try dsimp only at hSw); go_simp) <;> with_reducible rfl)
      (try simp only [Act.put])
      refine RegE.take (i := 5) (v := ?v5) hB rfl (by decide) (by kernel_rfl) (by kernel_rfl) (fun _ _ _ h => h) (Or.inl ⟨by rfl, ?y5⟩) hHeld ?r5
      case y5 => ((intro w hSw; (try dsimp only at hSw); go_simp) <;> with_reducible rfl)
      (try simp only [Act.put])
      refine RegE.take (i := 6) (v := ?v6) hB rfl (by decide) (by kernel_rfl) (by kernel_rfl) (fun _ _ _ h => h) (Or.inl ⟨by rfl, ?y6⟩) hHeld ?r6
      case y6 => ((intro w hSw; (try dsimp only at hSw); go_simp) <;> with_reducible rfl)
      (try simp only [Act.put])
      refine RegE.take (i := 7) (v := ?v7) hB rfl (by decide) (by kernel_rfl) (by kernel_rfl) (fun _ _ _ h => h) (Or.inl ⟨by rfl, ?y7⟩) hHeld ?r7
      case y7 => ((intro w hSw; (try dsimp only at hSw); go_simp) <;> with_reducible rfl)
      (try simp only [Act.put])
      refine RegE.take (i := 8) (v := ?v8) hB rfl (by decide) (by kernel_rfl) (by kernel_rfl) (fun _ _ _ h => h) (Or.inl ⟨by rfl, ?y8⟩) hHeld ?r8
      case y8 => ((intro w hSw; (try dsimp only at hSw); go_simp) <;> with_reducible rfl)
      (try simp only [Act.put])
      refine RegE.take (i := 9) (v := ?v9) hB rfl (by decide) (by kernel_rfl) (by kernel_rfl) (fun _ _ _ h => h) (Or.inl ⟨by rfl, ?y9⟩) hHeld ?r9
      case y9 => ((intro w hSw; (try dsimp only at hSw); go_simp) <;> with_reducible rfl)
      (try simp only [Act.put])
      refine RegE.take (i := 10) (v := ?v10) hB rfl (by decide) (by kernel_rfl) (by kernel_rfl) (fun _ _ _ h => h) (Or.inl ⟨by rfl, ?y10⟩) hHeld ?r10
      case y10 => ((intro w hSw; (try dsimp only at hSw); go_simp) <;> with_reducible rfl)
      (try simp only [Act.put])
      refine RegE.take (i := 11) (v := ?v11) hB rfl (by decide) (by kernel_rfl) (by kernel_rfl) (fun _ _ _ h => h) (Or.inl ⟨by rfl, ?y11⟩) hHeld ?r11
      case y11 => ((intro w hSw; (try dsimp only at hSw); go_simp) <;> with_reducible rfl)
      (try simp only [Act.put])
      refine RegE.take (i := 12) (v := ?v12) hB rfl (by decide) (by kernel_rfl) (by kernel_rfl) (fun _ _ _ h => h) (Or.inl ⟨by rfl, ?y12⟩) hHeld ?r12
      case y12 => ((intro w hSw; (try dsimp only at hSw); go_simp) <;> with_reducible rfl)
      (try simp only [Act.put])
      refine RegE.take (i := 13) (v := ?v13) hB rfl (by decide) (by kernel_rfl) (by kernel_rfl) (fun _ _ _ h => h) (Or.inl ⟨by rfl, ?y13⟩) hHeld ?r13
      case y13 => ((intro w hSw; (try dsimp only at hSw); go_simp) <;> with_reducible rfl)
      (try simp only [Act.put])
      refine RegE.take (i := 14) (v := ?v14) hB rfl (by decide) (by kernel_rfl) (by kernel_rfl) (fun _ _ _ h => h) (Or.inl ⟨by rfl, ?y14⟩) hHeld ?r14
      case y14 => ((intro w hSw; (try dsimp only at hSw); go_simp) <;> with_reducible rfl)
      (try simp only [Act.put])
      refine RegE.take (i := 15) (v := ?v15) hB rfl (by decide) (by kernel_rfl) (by kernel_rfl) (fun _ _ _ h => h) (Or.inl ⟨by rfl, ?y15⟩) hHeld ?r15
      case y15 => ((intro w hSw; (try dsimp only at hSw); go_simp) <;> with_reducible rfl)
      (try simp only [Act.put])
      refine RegE.take (i := 16) (v := ?v16) hB rfl (by decide) (by kernel_rfl) (by kernel_rfl) (fun _ _ _ h => h) (Or.inl ⟨by rfl, ?y16⟩) hHeld ?r16
      case y16 => ((intro w hSw; (try dsimp only at hSw); go_simp) <;> with_reducible rfl)
      (try simp only [Act.put])
      refine RegE.take (i := 17) (v := ?v17) hB rfl (by decide) (by kernel_rfl) (by kernel_rfl) (fun _ _ _ h => h) (Or.inl ⟨by rfl, ?y17⟩) hHeld ?r17
      case y17 => ((intro w hSw; (try dsimp only at hSw); go_simp) <;> with_reducible rfl)
      (try simp only [Act.put])
      refine RegE.take (i := 18) (v := ?v18) hB rfl (by decide) (by kernel_rfl) (by kernel_rfl) (fun _ _ _ h => h) (Or.inl ⟨by rfl, ?y18⟩) hHeld ?r18
      case y18 => ((intro w hSw; (try dsimp only at hSw); go_simp) <;> with_reducible rfl)
      (try simp only [Act.put])
      refine RegE.step (i := 19) rfl (by decide) (by kernel_rfl) (fun K hK => ?_)
      go_simp
      go_at_call 72
      refine (HTM.out _).mono ?_
      rintro e w' ⟨rfl, rfl⟩
      go_wp2_with fail
      refine hK.out _ _ ?S19 (fun hHeldN => ?_)
      case S19 => ((try dsimp only); exact hHeld)
      clear hK K hHeld
      have hHeld := hHeldN
      clear hHeldN
      (try simp only [Act.put, List.setIfInBounds_toArray, List.set_cons_zero, List.set_cons_succ])
      refine RegE.step (i := 20) rfl (by decide) (by kernel_rfl) (fun K hK => ?_)
      go_simp
      go_at_call 71
      refine HPT.out.mono ?_
      rintro e w4 ⟨A4, c4, ts4, rfl, hb4, hl4, hD4⟩
      go_wp2_with fail
      refine hK.out _ _ ?S20 (fun hHeldN => ?_)
      case S20 => ((try dsimp only); exact keep4b HS0.out HLL.out hb4)
      clear hK K hHeld
      have hHeld := hHeldN
      clear hHeldN
      (try simp only [Act.put, List.setIfInBounds_toArray, List.set_cons_zero, List.set_cons_succ])
      have z1 := (hb4.cell (p := ⟨p, 1, none⟩) HPL.out).trans p1
      have z2 := (hb4.frozen (p := ⟨p, 1, none⟩) HPL.out).trans pf
      refine RegE.take (i := 21) (v := ?v21) hB rfl (by decide) (by kernel_rfl) (by kernel_rfl) (fun _ _ _ h => h) (Or.inl ⟨by rfl, ?y21⟩) hHeld ?r21
      case y21 => ((intro w hSw; (try dsimp only at hSw); go_simp) <;> with_reducible rfl)
      (try simp only [Act.put, List.setIfInBounds_toArray])
      refine RegE.last rfl (by kernel_rfl) (by kernel_rfl) (fun K hK => ?_)
      go_simp
      refine hK.out _ _ ?_
      clear hK K
      have HD4 := Lib.hid hD4
      clear hD4 hb4
      go_wp2
      go_roundg (us.length - (i + 1) + 1)
      case measure => omega
      case rel => exact ⟨i + 1, ts4, _, c4, A4, by first | rfl | go_num, by omega, by omega, by omega, HD4⟩
    · obtain rfl : i = us.length := by omega
      have hb := HG.out.box
      have x0 : wo.cell? ⟨p, 0, none⟩ = some (.int .i64 u) := by rw [hb.cell]; rfl
      have x1 : wo.cell? ⟨p, 1, none⟩ = some (.slice A' m cp) := by rw [hb.cell]; rfl
      have hC := HG.out.rbox
      have y0 : wo.cell? ⟨w.heap.size, 0, none⟩ = some (.int .i64 0) := by rw [hC.cell]; rfl
      have y1 : wo.cell? ⟨w.heap.size, 1, none⟩ = some (.slice none 0 0) := by rw [hC.cell]; rfl
      have f0 : wo.frozen? ⟨w.heap.size, 0, none⟩ = false := hC.frozen _
      have f1 : wo.frozen? ⟨w.heap.size, 1, none⟩ = false := hC.frozen _
      have hD1 := hC.set_ 0 (.int .i64 u)
      have hD2 := hD1.set_ 1 (.slice A' m cp)
      have z0 := hD1.cell 0
      have z1 := hD2.cell 1
      simp only [List.set_cons_zero, List.set_cons_succ, List.getElem?_cons_zero, List.getElem?_cons_succ] at z0 z1
      have HE : Hid (OwnR u (nfT (ts ++ sclT k us)) w (.returned (poV u A' m cp)) ((wo.setCell ⟨w.heap.size, 0, none⟩ (.int .i64 u)).setCell ⟨w.heap.size, 1, none⟩ (.slice A' m cp))) := by
        have hlen := HG.out.len
        have hcofs := HG.out.cofs
        rw [List.take_length] at hcofs
        have hnf := nfT_eq HG.out.canon hcofs
        have hB := HG.out.B0
        have hO2 : Only (fun q => q = w.heap.size) wo ((wo.setCell ⟨w.heap.size, 0, none⟩ (.int .i64 u)).setCell ⟨w.heap.size, 1, none⟩ (.slice A' m cp)) :=
          ⟨rfl, rfl, rfl, by simp [World.setCell], fun q _ hq => (Below.heap_setCell _ _ _ _ hq).trans (Below.heap_setCell _ _ _ _ hq)⟩
        have hrow := (HG.out.row').only hO2 (fun q hq e => by have e' : q = w.heap.size := e; omega)
        refine ⟨A', cp, by rw [← hnf, hlen], ?_, (HBW.out.setCell (p := ⟨w.heap.size, 0, none⟩) (Nat.le_refl _) _).setCell (p := ⟨w.heap.size, 1, none⟩) (Nat.le_refl _) _⟩
        rw [← hnf]
        exact hrow.lower (by omega)
      have hz : ¬ (us.length : Int) < (us.length : Int) := by omega
      clear hb hC hD1 hD2 HG
      go_wp2
      refine bodyPost_ret (v := poV u A' m cp) (by simp [results, Try.results42, go_sem, z0, z1]) rfl ?_
      exact HE.out

end Go.Proofs.Ytfnhdfgkkjnhcaa

/- Walks: l05Two; AddPoly of the reference. -/
namespace Go.Proofs.Ytfnhdfgkkjnhcaa
open Go.RowKit Plain

/-- the code of two polynomials -/
def twoC (u : Int) (ts : List Term') (v : Int) (us : List Term') : Int := if polyOk u ts = true ∧ polyOk v us = true then (if u = v then 0 else 2) else 1

set_option maxRecDepth 100000 in
set_option maxHeartbeats 2000000 in
theorem l05Two_any (b1 o1 b2 o2 : Nat) (u v : Int) (A1 A2 : Option Addr) (c1 c2 : Nat) (ts us : List Term') (w : World) (h00 : w.cell? ⟨b1, o1, none⟩ = some (.int .i64 u)) (h01 : w.cell? ⟨b1, o1 + 1, none⟩ = some (.slice A1 ts.length c1))
    (h10 : w.cell? ⟨b2, o2, none⟩ = some (.int .i64 v)) (h11 : w.cell? ⟨b2, o2 + 1, none⟩ = some (.slice A2 us.length c2)) (hT : TmsAt w A1 ts) (hU : TmsAt w A2 us) (tl : ts.length ≤ 1048576) (tt : totT ts ≤ 1048576) (ul : us.length ≤ 1048576) (ut : totT us ≤ 1048576) :
    Calls Try.prog 41 #[ptr b1 o1, ptr b2 o2] w fun e w' => e = .returned (.int .i64 (twoC u ts v us)) ∧ Below w.heap.size w w' := by
  have HC1 := Lib.hid (polyS_any b1 o1 u A1 c1 ts w h00 h01 hT tl tt)
  have HC2 : Hid (∀ wx, Below w.heap.size w wx → Calls Try.prog 30 #[ptr b2 o2] wx fun e w' => e = .returned (.bool (polyOk v us)) ∧ Below wx.heap.size wx w') := fun wx hb => polyS_any b2 o2 v A2 c2 us wx (keepC h10 hb) (keepC h11 hb) (hU.below hb) ul ut
  clear hT hU tl tt ul ut h01 h11
  cases hok : polyOk u ts
  · have HE : Hid (twoC u ts v us = 1) := by show _ = _; unfold twoC; rw [if_neg (by rw [hok]; simp)]
    rw [HE.out]
    rw [hok] at HC1
    clear hok
    go_enter Try.func41, Try.ntmps41
    go_wp2_with fail
    refine HC1.out.mono ?_; rintro e w1 ⟨rfl, hb1⟩
    have HB := Lib.hid hb1
    clear hb1
    go_wp2
    go_ret
    exact ⟨rfl, HB.out⟩
  · rw [hok] at HC1
    cases hok2 : polyOk v us
    · have HE : Hid (twoC u ts v us = 1) := by show _ = _; unfold twoC; rw [if_neg (by rw [hok2]; simp)]
      rw [HE.out]
      rw [hok2] at HC2
      clear hok hok2
      go_enter Try.func41, Try.ntmps41
      go_wp2_with fail
      refine HC1.out.mono ?_; rintro e w1 ⟨rfl, hb1⟩
      have HX := Lib.hid (HC2.out w1 hb1)
      have HB := Lib.hid hb1
      clear hb1
      go_wp2_with fail
      refine HX.out.mono ?_; rintro e w2 ⟨rfl, hb2⟩
      have HB2 := Lib.hid (bnext HB.out hb2)
      clear hb2
      go_wp2
      go_ret
      exact ⟨rfl, HB2.out⟩
    · rw [hok2] at HC2
      obtain ⟨cc, hcc⟩ : ∃ cc, cc = twoC u ts v us := ⟨_, rfl⟩
      have HE : Hid (cc = if u = v then 0 else 2) := by show _ = _; rw [hcc]; unfold twoC; rw [if_pos ⟨hok, hok2⟩]
      rw [← hcc]
      have HQ : Hid (w.cell? ⟨b1, o1, none⟩ = some (.int .i64 u) ∧ w.cell? ⟨b2, o2, none⟩ = some (.int .i64 v)) := ⟨h00, h10⟩
      clear hok hok2 hcc h00 h10
      go_enter Try.func41, Try.ntmps41
      go_wp2_with fail
      refine HC1.out.mono ?_; rintro e w1 ⟨rfl, hb1⟩
      have HX := Lib.hid (HC2.out w1 hb1)
      have HB := Lib.hid hb1
      clear hb1
      go_wp2_with fail
      refine HX.out.mono ?_; rintro e w2 ⟨rfl, hb2⟩
      have HB2 := Lib.hid (bnext HB.out hb2)
      have q0 := keepC HQ.out.1 HB2.out
      have q1 := keepC HQ.out.2 HB2.out
      clear hb2
      go_wp2_with fail
      by_cases huv : u = v
      · subst huv
        have hE : cc = 0 := by rw [HE.out, if_pos rfl]
        subst hE
        go_quiet (fail)
        have HBW : Hid (∀ n, Below w.heap.size w (w2.drewN n)) := fun n => ⟨HB2.out.os, HB2.out.tape, HB2.out.output, HB2.out.size, HB2.out.block⟩
        rename Nat => nq
        have HBN := Lib.hid (HBW.out nq)
        generalize w2.drewN nq = W3 at *
        go_wp2
        go_ret
        exact ⟨rfl, HBN.out⟩
      · have hE : cc = 2 := by rw [HE.out, if_neg huv]
        subst hE
        go_quiet (fail)
        have HBW : Hid (∀ n, Below w.heap.size w (w2.drewN n)) := fun n => ⟨HB2.out.os, HB2.out.tape, HB2.out.output, HB2.out.size, HB2.out.block⟩
        rename Nat => nq
        have HBN := Lib.hid (HBW.out nq)
        generalize w2.drewN nq = W3 at *
        go_wp2
        go_ret
        exact ⟨rfl, HBN.out⟩

set_option maxRecDepth 100000 in
set_option maxHeartbeats 4000000 in
theorem addPolyS (u v : Int) (A1 A2 : Option Addr) (c1 c2 : Nat) (ts us : List Term') (w : World) (hT : TmsAt w A1 ts) (hU : TmsAt w A2 us) (tl : ts.length ≤ 1048576) (tt : totT ts ≤ 1048576) (ul : us.length ≤ 1048576) (ut : totT us ≤ 1048576) :
    Calls Try.prog 15 #[poV u A1 ts.length c1, poV v A2 us.length c2] w (RetQi (twoV u ts v us (nfT (ts ++ us))).1 (twoV u ts v us (nfT (ts ++ us))).2 w) := by
  obtain ⟨W0, hW0⟩ : ∃ W0, W0 = ((w.alloc (.cells #[.int .i64 u, .slice A1 ts.length c1] 28)).alloc (.cells #[.int .i64 v, .slice A2 us.length c2] 28)).alloc (.cells #[.int .i64 0, .slice none 0 0] 28) := ⟨_, rfl⟩
  obtain ⟨hB0, hQ1, hQ2, hQ3⟩ := boxes3 hW0
  have HAF : Hid (∀ w1, Below W0.heap.size W0 w1 → Below w.heap.size w w1 ∧ w.heap.size + 2 < w1.heap.size ∧ Cells w1 w.heap.size 28 [.int .i64 u, .slice A1 ts.length c1] ∧ Cells w1 (w.heap.size + 1) 28 [.int .i64 v, .slice A2 us.length c2] ∧ Cells w1 (w.heap.size + 2) 28 [.int .i64 0, .slice none 0 0]) := fun w1 hb =>
    ⟨hB0.trans (hb.mono hB0.size), Nat.lt_of_lt_of_le hQ3.lt hb.size, hQ1.next hb, hQ2.next hb, hQ3.next hb⟩
  have HC := Lib.hid (l05Two_any w.heap.size 0 (w.heap.size + 1) 0 u v A1 A2 c1 c2 ts us W0 (by rw [hQ1.cell]; rfl) (by rw [hQ1.cell]; rfl) (by rw [hQ2.cell]; rfl) (by rw [hQ2.cell]; rfl) (hT.below hB0) (hU.below hB0) tl tt ul ut)
  have HT := Lib.hid hT
  have HU := Lib.hid hU
  have HW0 := Lib.hid hW0
  clear hT hU hW0 hB0 hQ1 hQ2 hQ3
  by_cases h0 : twoC u ts v us = 0
  · have hok : polyOk u ts = true := by cases h : polyOk u ts with | true => rfl | false => exfalso; unfold twoC at h0; rw [if_neg (by rw [h]; simp)] at h0; omega
    have hok2 : polyOk v us = true := by cases h : polyOk v us with | true => rfl | false => exfalso; unfold twoC at h0; rw [if_neg (by rw [h]; simp)] at h0; omega
    have huv : u = v := by
      unfold twoC at h0
      rw [if_pos ⟨hok, hok2⟩] at h0
      by_cases h : u = v
      · exact h
      · rw [if_neg h] at h0; omega
    subst huv
    rw [h0] at HC
    obtain ⟨R, hR⟩ : ∃ R, R = nfT (ts ++ us) := ⟨_, rfl⟩
    have hRl : R.length ≤ 240 := by rw [hR]; exact (bdAdd hok hok2).1
    have HAD : Hid (∀ w1, Below W0.heap.size W0 w1 → Calls Try.prog 42 #[ptr w.heap.size 0, ptr (w.heap.size + 1) 0, .int .i64 1] w1 (OwnR u R w1)) := fun w1 hb => by
      obtain ⟨hb', _, q1, q2, _⟩ := HAF.out w1 hb
      have h := l05Add_any 1 w.heap.size 0 (w.heap.size + 1) 0 u A1 A2 c1 c2 ts us w1 (by rw [q1.cell]; rfl) (by rw [q1.cell]; rfl) (by rw [q2.cell]; rfl) (HT.out.below hb') (HU.out.below hb') hok hok2
      rwa [sclT_one (polyOk_canon hok2), ← hR] at h
    have HOKR : Hid (polyOk u R = decide (R.length ≤ 120)) := by
      rw [hR]
      exact addOk hok hok2 (nfT_canon _) (nfT_cof _)
    have HV3 : Hid (polyOk u R = false → twoV u ts u us R = ((0, []), 3)) := fun h => twoV_big hok hok2 h
    have HV0 : Hid (polyOk u R = true → twoV u ts u us R = ((u, R), 0)) := fun h => twoV_ok hok hok2 h
    rw [← hR]
    obtain ⟨V, hV⟩ : ∃ V, V = twoV u ts u us R := ⟨_, rfl⟩
    rw [← hV] at HV3 HV0 ⊢
    clear hV hR hok hok2 h0
    go_enter Try.func15, Try.ntmps15
    go_wp2_with fail
    rw [← HW0.out]
    refine HC.out.mono ?_; rintro e w1 ⟨rfl, hb1⟩
    have HAX := Lib.hid (HAD.out w1 hb1)
    have HB1 := Lib.hid hb1
    clear hb1 HAD
    go_wp2_with fail
    refine HAX.out.mono ?_; rintro e w2 ⟨A3, c3, rfl, hrow, hb2⟩
    have hbn : Below w2.heap.size w2 (w2.alloc (.cells #[.int .i64 u, .slice A3 R.length c3] 28)) := by go_grown
    have hqn := Cells.new w2 28 [.int .i64 u, .slice A3 R.length c3]
    have hRT : RT w2 w1.heap.size w2.heap.size A3 R := hrow.rt hb2.size
    have m0 : (w2.alloc (.cells #[.int .i64 u, .slice A3 R.length c3] 28)).cell? ⟨w2.heap.size, 0, none⟩ = some (.int .i64 u) := by rw [hqn.cell]; rfl
    have m1 : (w2.alloc (.cells #[.int .i64 u, .slice A3 R.length c3] 28)).cell? ⟨w2.heap.size, 1, none⟩ = some (.slice A3 R.length c3) := by rw [hqn.cell]; rfl
    have hbW := bnext (bnext HB1.out hb2) hbn
    obtain ⟨hb, hlt5, hq1, hq2, hr⟩ := HAF.out (w2.alloc (.cells #[.int .i64 u, .slice A3 R.length c3] 28)) hbW
    have y0 : (w2.alloc (.cells #[.int .i64 u, .slice A3 R.length c3] 28)).cell? ⟨w.heap.size + 2, 0, none⟩ = some (.int .i64 0) := by rw [hr.cell]; rfl
    have y1 : (w2.alloc (.cells #[.int .i64 u, .slice A3 R.length c3] 28)).cell? ⟨w.heap.size + 2, 1, none⟩ = some (.slice none 0 0) := by rw [hr.cell]; rfl
    have f0 : (w2.alloc (.cells #[.int .i64 u, .slice A3 R.length c3] 28)).frozen? ⟨w.heap.size + 2, 0, none⟩ = false := hr.frozen _
    have f1 : (w2.alloc (.cells #[.int .i64 u, .slice A3 R.length c3] 28)).frozen? ⟨w.heap.size + 2, 1, none⟩ = false := hr.frozen _
    have HR5 := Lib.hid (RT.lowerR (hRT.only (Only.of_below (S := fun _ => False) hbn) (fun _ _ _ h => h)) (Nat.le_refl _) hbn.size)
    have HB5 := Lib.hid hb
    have HRB := Lib.hid hr
    have hlt1 : w.heap.size + 2 < w1.heap.size := (HAF.out w1 HB1.out).2.1
    clear hbn hqn hRT hbW hb hq1 hq2 hr hrow hb2
    by_cases hlen : R.length ≤ 120
    · have hE : V = ((u, R), 0) := HV0.out (by rw [HOKR.out]; exact decide_eq_true hlen)
      subst hE
      have hD1 := HRB.out.set_ 0 (.int .i64 u)
      have hD2 := hD1.set_ 1 (.slice A3 R.length c3)
      have z0 := hD1.cell 0
      have z1 := hD2.cell 1
      simp only [List.set_cons_zero, List.set_cons_succ, List.getElem?_cons_zero, List.getElem?_cons_succ] at z0 z1
      have hg : ¬ (120 : Int) < (R.length : Int) := by omega
      clear hD1 hD2
      go_wp2
      refine bodyPost_ret (v := .tuple #[poV u A3 R.length c3, .int .i64 0]) (by simp [results, Try.results15, go_sem, z0, z1]) rfl ?_
      exact retQ2 HB5.out HR5.out hlt1 _ _
    · have hE : V = ((0, []), 3) := HV3.out (by rw [HOKR.out]; exact decide_eq_false hlen)
      subst hE
      have hD1 := HRB.out.set_ 0 (.int .i64 0)
      have hD2 := hD1.set_ 1 (.slice none 0 0)
      have z0 := hD1.cell 0
      have z1 := hD2.cell 1
      simp only [List.set_cons_zero, List.set_cons_succ, List.getElem?_cons_zero, List.getElem?_cons_succ] at z0 z1
      have hg : (120 : Int) < (R.length : Int) := by omega
      clear hD1 hD2
      go_wp2
      refine bodyPost_ret (v := .tuple #[poV 0 none 0 0, .int .i64 3]) (by simp [results, Try.results15, go_sem, z0, z1]) rfl ?_
      exact retQ2 (R := []) HB5.out (RT.empty _ _ (Nat.le_refl _) _) hlt5 _ _
  · have HV : Hid (twoV u ts v us (nfT (ts ++ us)) = ((0, []), twoC u ts v us)) := by
      show _ = _
      unfold twoV twoC
      unfold twoC at h0
      by_cases h : polyOk u ts = true ∧ polyOk v us = true
      · rw [if_pos h] at h0 ⊢
        rw [if_pos h]
        by_cases huv : u = v
        · rw [if_pos huv] at h0; exact absurd rfl h0
        · rw [if_neg huv, if_neg huv]
      · rw [if_neg h, if_neg h]
    rw [HV.out]
    obtain ⟨cc, hcc⟩ : ∃ cc, cc = twoC u ts v us := ⟨_, rfl⟩
    rw [← hcc] at HC h0 ⊢
    clear hcc HV
    go_enter Try.func15, Try.ntmps15
    go_wp2_with fail
    rw [← HW0.out]
    refine HC.out.mono ?_; rintro e w1 ⟨rfl, hb1⟩
    obtain ⟨hb, hlt, hq1, hq2, hr⟩ := HAF.out w1 hb1
    have hD1 := hr.set_ 0 (.int .i64 0)
    have hD2 := hD1.set_ 1 (.slice none 0 0)
    have z0 := hD1.cell 0
    have z1 := hD2.cell 1
    simp only [List.set_cons_zero, List.set_cons_succ, List.getElem?_cons_zero, List.getElem?_cons_succ] at z0 z1
    have y0 : w1.cell? ⟨w.heap.size + 2, 0, none⟩ = some (.int .i64 0) := by rw [hr.cell]; rfl
    have y1 : w1.cell? ⟨w.heap.size + 2, 1, none⟩ = some (.slice none 0 0) := by rw [hr.cell]; rfl
    have f0 : w1.frozen? ⟨w.heap.size + 2, 0, none⟩ = false := hr.frozen _
    have f1 : w1.frozen? ⟨w.heap.size + 2, 1, none⟩ = false := hr.frozen _
    have HB := Lib.hid hb
    clear hb hq1 hq2 hr hD1 hD2 hb1
    go_wp2
    refine bodyPost_ret (v := .tuple #[poV 0 none 0 0, .int .i64 cc]) (by simp [results, Try.results15, go_sem, z0, z1]) rfl ?_
    exact retQ2 (R := []) HB.out (RT.empty _ _ (Nat.le_refl _) _) hlt _ _

end Go.Proofs.Ytfnhdfgkkjnhcaa

/- AddPoly: both contracts in the law's form. -/
namespace Go.Proofs.Ytfnhdfgkkjnhcaa
open Go.RowKit Plain

/-- the sum of two polynomials, or why there is none -/
noncomputable def addV (u : Int) (ts : List Term') (v : Int) (us : List Term') : (Int × List Term') × Int := twoV u ts v us (nfT (ts ++ us))
theorem addV_bd (u : Int) (ts : List Term') (v : Int) (us : List Term') : (addV u ts v us).1.2.length ≤ 120 ∧ totT (addV u ts v us).1.2 ≤ 1440 := twoV_bd _ _ _ _ _
theorem addI {A1 A2 : Option Addr} {c1 c2 : Nat} (u : Int) (ts : List Term') (v : Int) (us : List Term') (w : World) (hT : TmsAt w A1 ts) (tl : ts.length ≤ 1048576) (tt : totT ts ≤ 1048576) (hU : TmsAt w A2 us) (ul : us.length ≤ 1048576) (ut : totT us ≤ 1048576) :
    Calls Try.prog 16 #[poV u A1 ts.length c1, poV v A2 us.length c2] w (RetQi (addV u ts v us).1 (addV u ts v us).2 w) := addPolyI u v A1 A2 c1 c2 ts us w hT hU tl tt ul ut
theorem addS {A1 A2 : Option Addr} {c1 c2 : Nat} (u : Int) (ts : List Term') (v : Int) (us : List Term') (w : World) (hT : TmsAt w A1 ts) (tl : ts.length ≤ 1048576) (tt : totT ts ≤ 1048576) (hU : TmsAt w A2 us) (ul : us.length ≤ 1048576) (ut : totT us ≤ 1048576) :
    Calls Try.prog 15 #[poV u A1 ts.length c1, poV v A2 us.length c2] w (RetQi (addV u ts v us).1 (addV u ts v us).2 w) := addPolyS u v A1 A2 c1 c2 ts us w hT hU tl tt ul ut

end Go.Proofs.Ytfnhdfgkkjnhcaa

/- A drawn region of a law: copies of the arguments are made, a function is called, its result is put into a box that may have been made at any time. -/
namespace Go.Proofs.Ytfnhdfgkkjnhcaa
open Go.RowKit Plain

/-- a world behind W, a box made since or not yet -/
structure OB (W wx : World) (ob : Option Nat) (T : TypeId) (Z : List Value) : Prop where
  below : Below W.heap.size W wx
  box : ∀ b, ob = some b → W.heap.size ≤ b ∧ Cells wx b T Z
theorem OB.start (W : World) (T : TypeId) (Z : List Value) : OB W W.drew none T Z := ⟨(Below.refl _ _).drew, fun b h => by cases h⟩
theorem OB.next {W wx w' : World} {ob : Option Nat} {T : TypeId} {Z : List Value} (h : OB W wx ob T Z) (hb : Below wx.heap.size wx w') : OB W w' ob T Z :=
  ⟨bnext h.below hb, fun b e => ⟨(h.box b e).1, (h.box b e).2.next hb⟩⟩
theorem OB.al {W wx : World} {T : TypeId} {Z : List Value} (h : OB W wx none T Z) : OB W (wx.alloc (.cells Z.toArray T)) (some wx.heap.size) T Z :=
  ⟨h.below.alloc h.below.size _, fun b e => by injection e with e; subst e; exact ⟨h.below.size, Cells.new wx T Z⟩⟩
theorem OB.start2 (W : World) (T : TypeId) (Z : List Value) : OB W (W.alloc (.cells Z.toArray T)).drew (some W.heap.size) T Z :=
  ⟨((Below.refl _ _).alloc (Nat.le_refl _) _).drew, fun b e => by injection e with e; subst e; exact ⟨Nat.le_refl _, Cells.new W T Z⟩⟩
/-- the end, where the box is known -/
def OEnd (W w' : World) (b lo hi : Nat) (T : TypeId) (C : List Value) (Φ : World → Prop) : Prop :=
  Below W.heap.size W w' ∧ (W.heap.size ≤ b ∧ b < w'.heap.size ∧ W.heap.size ≤ lo ∧ lo ≤ hi ∧ hi ≤ w'.heap.size ∧ (b < lo ∨ hi ≤ b)) ∧ Cells w' b T C ∧ Reg w' lo hi Φ
theorem OB.end2 {W w4 w5 : World} {b : Nat} {T : TypeId} {z1 z2 : Value} {Φ : World → Prop} (h : OB W w4 (some b) T [z1, z2]) (hb : Below w4.heap.size w4 w5) (hR : Reg w5 w4.heap.size w5.heap.size Φ) (x y : Value) :
    OEnd W ((w5.setCell ⟨b, 0, none⟩ x).setCell ⟨b, 1, none⟩ y) b w4.heap.size w5.heap.size T [x, y] Φ := by
  obtain ⟨h1, h2⟩ := h.box b rfl
  have h3 := h2.next hb
  have hlt := h2.lt
  have hs : ((w5.setCell ⟨b, 0, none⟩ x).setCell ⟨b, 1, none⟩ y).heap.size = w5.heap.size := by simp [World.setCell]
  have hO2 : Only (fun q => q = b) w5 ((w5.setCell ⟨b, 0, none⟩ x).setCell ⟨b, 1, none⟩ y) :=
    ⟨rfl, rfl, rfl, by simp [World.setCell], fun q _ hq => (Below.heap_setCell _ _ _ _ hq).trans (Below.heap_setCell _ _ _ _ hq)⟩
  refine ⟨((bnext h.below hb).setCell (p := ⟨b, 0, none⟩) h1 _).setCell (p := ⟨b, 1, none⟩) h1 _, ⟨h1, by rw [hs]; have := hb.size; omega, h.below.size, hb.size, by rw [hs]; exact Nat.le_refl _, .inl hlt⟩, ?_, hR.only hO2 (fun q hq _ e => by have e' : q = b := e; omega)⟩
  have h4 := (h3.set_ 0 x).set_ 1 y
  simpa using h4
theorem OB.endN {W w4 w5 : World} {T : TypeId} {Z C : List Value} {Φ : World → Prop} (h : OB W w4 none T Z) (hb : Below w4.heap.size w4 w5) (hR : Reg w5 w4.heap.size w5.heap.size Φ) :
    OEnd W (w5.alloc (.cells C.toArray T)) w5.heap.size w4.heap.size w5.heap.size T C Φ := by
  have hal : Below w5.heap.size w5 (w5.alloc (.cells C.toArray T)) := (Below.refl _ _).alloc (Nat.le_refl _) _
  refine ⟨bnext (bnext h.below hb) hal, ⟨by have := hb.size; have := h.below.size; omega, by simp, h.below.size, hb.size, by simp, .inr (Nat.le_refl _)⟩, Cells.new w5 T C, hR.below hal⟩

end Go.Proofs.Ytfnhdfgkkjnhcaa
