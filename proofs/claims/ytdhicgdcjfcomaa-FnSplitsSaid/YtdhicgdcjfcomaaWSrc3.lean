/- Walks of the source of choices, its state told. -/
import Derived.Test.YtdhicgdcjfcomaaWSrc2
import Derived.Test.YtdhicgdcjfcomaaPLcg
namespace Go.Proofs.Ytdhicgdcjfcomaa
open Go.RowKit Plain

/-- a source of n bytes behind p, at_ of them read -/
def SrcN (w : World) (p n at_ : Nat) (seed : Int) : Prop := ∃ A cap, SrcIs w p A n cap at_ seed
theorem SrcN.only {w w' : World} {S : Nat → Prop} {p n at_ : Nat} {seed : Int} (h : SrcN w p n at_ seed) (ho : Only S w w') (hp : ∀ q, q ≤ p → ¬ S q) : SrcN w' p n at_ seed := by
  obtain ⟨A, cap, h⟩ := h
  exact ⟨A, cap, h.only ho (hp p (Nat.le_refl _)) (fun q _ hq => hp q (Nat.le_of_lt (h.far q hq)))⟩
theorem SrcN.below {w w' : World} {p n at_ : Nat} {seed : Int} (h : SrcN w p n at_ seed) (hb : Below w.heap.size w w') : SrcN w' p n at_ seed :=
  h.only (S := fun _ => False) (Only.of_below hb) (fun _ _ h => h)
theorem SrcN.lt {w : World} {p n at_ : Nat} {seed : Int} (h : SrcN w p n at_ seed) : p < w.heap.size := by
  obtain ⟨A, cap, h⟩ := h; exact h.cells.lt
theorem SrcN.src {w : World} {p n at_ B : Nat} {seed : Int} (h : SrcN w p n at_ seed) (hB : at_ ≤ B) : Src w p B := by
  obtain ⟨A, cap, h⟩ := h; exact ⟨A, n, cap, at_, seed, h, hB⟩
theorem wrap_nx (s : Int) : IntKind.u64.wrap (IntKind.u64.wrap (IntKind.u64.wrap (s * 6364136223846793005)) + 1442695040888963407) = nxS s := by
  unfold IntKind.wrap nxS
  simp [IntKind.signed, IntKind.bits]
def NextPost (p n at_ : Nat) (seed : Int) (w : World) (e : Ending) (w' : World) : Prop :=
  ∃ x s', e = .returned (.int .i64 x) ∧ 0 ≤ x ∧ x ≤ 255 ∧ SrcN w' p n (at_ + 1) s' ∧ (n ≤ at_ → s' = nxS seed ∧ x = outS s') ∧ Only (fun q => q = p) w w'

set_option maxHeartbeats 1000000 in
theorem next_st (p n at_ : Nat) (seed : Int) (w : World) (h : SrcN w p n at_ seed) (hat2 : at_ ≤ 4611686018427387904) :
    Calls Try.prog 26 #[.pointer (some ⟨p, 0, none⟩)] w (NextPost p n at_ seed w) := by
  obtain ⟨A, cap, h⟩ := h
  have H := Lib.hid h
  have f0 : w.cell? ⟨p, 0, none⟩ = some (.slice A n cap) := by rw [h.cells.cell]; rfl
  have f1 : w.cell? ⟨p, 1, none⟩ = some (.int .i64 at_) := by rw [h.cells.cell]; rfl
  have f2 : w.cell? ⟨p, 2, none⟩ = some (.int .u64 seed) := by rw [h.cells.cell]; rfl
  have z1 : w.frozen? ⟨p, 1, none⟩ = false := h.cells.frozen _
  have z2 : w.frozen? ⟨p, 2, none⟩ = false := h.cells.frozen _
  have hl := h.lim
  have s0 := h.s0
  have s1 := h.s1
  clear h
  by_cases hlt : at_ < n
  · obtain ⟨b, o, rfl, hbl, hc⟩ := H.out.bytes (by omega)
    obtain ⟨x, x0, x1, hx⟩ := hc at_ hlt
    have hbp : b ≠ p := Nat.ne_of_lt (H.out.far b ⟨by omega, o, rfl⟩)
    clear hc
    have hlt' : (at_ : Int) < (n : Int) := by omega
    have hle' : (at_ : Int) + 1 ≤ (n : Int) := by omega
    go_enter Try.func26, Try.ntmps26
    go_wp2
    go_quiet (fail)
    rename Nat => nq
    go_wp2
    go_quiet (fail)
    rename Nat => nq2
    go_wp2
    obtain ⟨sd, hsd, sd0, sd1⟩ : ∃ sd : Int, IntKind.u64.wrap (IntKind.u64.wrap (IntKind.u64.wrap (seed * 6364136223846793005) + x) + 1442695040888963407) = sd ∧ 0 ≤ sd ∧ sd ≤ 18446744073709551615 := ⟨_, rfl, wrapU _⟩
    rw [hsd]
    clear hsd
    have HC : Hid (Cells (((w.drewN (nq + nq2)).setCell ⟨p, 1, none⟩ (.int .i64 ((at_ : Int) + 1))).setCell ⟨p, 2, none⟩ (.int .u64 sd)) p 53 [.slice (some ⟨b, o, none⟩) n cap, .int .i64 ((at_ : Int) + 1), .int .u64 sd]) := ((H.out.cells.drewN (nq + nq2)).set_ 1 _).set_ 2 _
    have HO : Hid (Only (fun q => q = p) w (((w.drewN (nq + nq2)).setCell ⟨p, 1, none⟩ (.int .i64 ((at_ : Int) + 1))).setCell ⟨p, 2, none⟩ (.int .u64 sd))) := Only.set1 (S := fun q => q = p) (Only.set1 (S := fun q => q = p) ((Only.refl _ w).drewN _) rfl _) rfl _
    clear f0 f1 f2 z1 z2 hx
    generalize (((w.drewN (nq + nq2)).setCell ⟨p, 1, none⟩ (.int .i64 ((at_ : Int) + 1))).setCell ⟨p, 2, none⟩ (.int .u64 sd)) = w2 at *
    have f0 : w2.cell? ⟨p, 0, none⟩ = some (.slice (some ⟨b, o, none⟩) n cap) := by rw [HC.out.cell]; rfl
    have f1 : w2.cell? ⟨p, 1, none⟩ = some (.int .i64 ((at_ : Int) + 1)) := by rw [HC.out.cell]; rfl
    have f2 : w2.cell? ⟨p, 2, none⟩ = some (.int .u64 sd) := by rw [HC.out.cell]; rfl
    have HS : Hid (SrcIs w2 p (some ⟨b, o, none⟩) n cap (at_ + 1) sd) := ⟨HC.out, H.out.bytes.only HO.out (fun q _ hq => Nat.ne_of_lt (H.out.far q hq)), hl, sd0, sd1, H.out.far⟩
    go_quiet (fail)
    rename Nat => nq3
    go_wp2
    go_ret
    exact ⟨x, sd, rfl, x0, x1, ⟨_, _, HS.out.only (S := fun _ => False) ((Only.refl _ _).drewN _) (fun h => h) (fun _ _ _ h => h)⟩, fun h => absurd h (by omega), HO.out.drewN _⟩
  · have hge : (n : Int) ≤ (at_ : Int) := by omega
    have hgt : (n : Int) < (at_ : Int) + 1 := by omega
    go_enter Try.func26, Try.ntmps26
    go_wp2
    go_quiet (fail)
    rename Nat => nq
    go_wp2
    obtain ⟨sd, hsd, sd0, sd1⟩ : ∃ sd : Int, IntKind.u64.wrap (IntKind.u64.wrap (IntKind.u64.wrap (seed * 6364136223846793005)) + 1442695040888963407) = sd ∧ 0 ≤ sd ∧ sd ≤ 18446744073709551615 := ⟨_, rfl, wrapU _⟩
    rw [hsd]
    have HNX : Hid (sd = nxS seed) := hsd.symm.trans (wrap_nx seed)
    clear hsd
    have HC : Hid (Cells (((w.drewN nq).setCell ⟨p, 1, none⟩ (.int .i64 ((at_ : Int) + 1))).setCell ⟨p, 2, none⟩ (.int .u64 sd)) p 53 [.slice A n cap, .int .i64 ((at_ : Int) + 1), .int .u64 sd]) := ((H.out.cells.drewN nq).set_ 1 _).set_ 2 _
    have HO : Hid (Only (fun q => q = p) w (((w.drewN nq).setCell ⟨p, 1, none⟩ (.int .i64 ((at_ : Int) + 1))).setCell ⟨p, 2, none⟩ (.int .u64 sd))) := Only.set1 (S := fun q => q = p) (Only.set1 (S := fun q => q = p) ((Only.refl _ w).drewN _) rfl _) rfl _
    clear f0 f1 f2 z1 z2 
    generalize (((w.drewN nq).setCell ⟨p, 1, none⟩ (.int .i64 ((at_ : Int) + 1))).setCell ⟨p, 2, none⟩ (.int .u64 sd)) = w2 at *
    have f0 : w2.cell? ⟨p, 0, none⟩ = some (.slice A n cap) := by rw [HC.out.cell]; rfl
    have f1 : w2.cell? ⟨p, 1, none⟩ = some (.int .i64 ((at_ : Int) + 1)) := by rw [HC.out.cell]; rfl
    have f2 : w2.cell? ⟨p, 2, none⟩ = some (.int .u64 sd) := by rw [HC.out.cell]; rfl
    have HS : Hid (SrcIs w2 p A n cap (at_ + 1) sd) := ⟨HC.out, H.out.bytes.only HO.out (fun q _ hq => Nat.ne_of_lt (H.out.far q hq)), hl, sd0, sd1, H.out.far⟩
    go_quiet (fail)
    rename Nat => nq3
    go_wp2
    go_ret
    refine ⟨_, sd, rfl, ?_, ?_, ⟨_, _, HS.out.only (S := fun _ => False) ((Only.refl _ _).drewN _) (fun h => h) (fun _ _ _ h => h)⟩, fun _ => ⟨HNX.out, byte_of sd sd0 sd1⟩, HO.out.drewN _⟩
    · show 0 ≤ wrap64 _
      rw [byte_of sd sd0 sd1]
      omega
    · show wrap64 _ ≤ 255
      rw [byte_of sd sd0 sd1]
      omega

/-- a choice of m: what it may come to -/
def PickR (m : Int) (n at_ : Nat) (s : Int) (at' : Nat) (s' x : Int) : Prop :=
  0 ≤ x ∧ ((m ≤ 1 ∧ x = 0 ∧ at' = at_ ∧ s' = s) ∨ (1 < m ∧ x < m ∧ at' = at_ + 1 ∧ (n ≤ at_ → s' = nxS s ∧ x = outS s' % m)))
def PickPost (m : Int) (p n at_ : Nat) (s : Int) (w : World) (e : Ending) (w' : World) : Prop :=
  ∃ x at' s', e = .returned (.int .i64 x) ∧ PickR m n at_ s at' s' x ∧ SrcN w' p n at' s' ∧ Only (fun q => q = p) w w'
set_option maxHeartbeats 1000000 in
theorem pick_st (p n at_ : Nat) (s m : Int) (w : World) (h : SrcN w p n at_ s) (hat2 : at_ ≤ 4611686018427387904) (hm : m ≤ 200) :
    Calls Try.prog 13 #[.pointer (some ⟨p, 0, none⟩), .int .i64 m] w (PickPost m p n at_ s w) := by
  have H := Lib.hid h; clear h
  by_cases h1 : m ≤ 1
  · go_enter Try.func13, Try.ntmps13
    go_wp2
    go_ret
    exact ⟨0, at_, s, rfl, ⟨by omega, .inl ⟨h1, rfl, rfl, rfl⟩⟩, H.out, Only.refl _ _⟩
  · go_enter Try.func13, Try.ntmps13
    go_wp2_with fail
    refine (next_st p n at_ s w H.out hat2).mono ?_
    rintro e w1 ⟨x, s', rfl, x0, x1, hs, hx, ho⟩
    have HS := Lib.hid hs
    have HO := Lib.hid ho
    have HX := Lib.hid hx
    clear hs ho hx
    go_wp2
    go_ret
    have a := Int.emod_nonneg x (b := m) (by omega)
    have b := Int.emod_lt_of_pos x (b := m) (by omega)
    exact ⟨_, _, s', rfl, ⟨by omega, .inr ⟨by omega, by omega, rfl, fun h => ⟨(HX.out h).1, by rw [(HX.out h).2]⟩⟩⟩, HS.out, HO.out⟩
def OnePost (m : Int) (p n at_ : Nat) (s : Int) (w : World) (e : Ending) (w' : World) : Prop :=
  ∃ x at' s', e = .returned (.bool (x == 0)) ∧ PickR m n at_ s at' s' x ∧ SrcN w' p n at' s' ∧ Only (fun q => q = p) w w'
theorem one_st (p n at_ : Nat) (s m : Int) (w : World) (h : SrcN w p n at_ s) (hat2 : at_ ≤ 4611686018427387904) (hm : m ≤ 200) :
    Calls Try.prog 14 #[.pointer (some ⟨p, 0, none⟩), .int .i64 m] w (OnePost m p n at_ s w) := by
  have H := Lib.hid h; clear h
  go_enter Try.func14, Try.ntmps14
  go_wp2_with fail
  refine (pick_st p n at_ s m w H.out hat2 hm).mono ?_
  rintro e w1 ⟨x, at', s', rfl, hR, hs, ho⟩
  have HR := Lib.hid hR
  have HS := Lib.hid hs
  have HO := Lib.hid ho
  clear hR hs ho
  go_wp2
  go_ret
  exact ⟨x, at', s', rfl, HR.out, HS.out, HO.out⟩

end Go.Proofs.Ytdhicgdcjfcomaa
