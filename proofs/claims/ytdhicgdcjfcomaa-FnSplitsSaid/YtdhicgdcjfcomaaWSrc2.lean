/- Walks of what draws numbers from a source. -/
import Derived.Test.YtdhicgdcjfcomaaWSrc
import Derived.Test.YtdhicgdcjfcomaaWField
namespace Go.Proofs.Ytdhicgdcjfcomaa
open Go.RowKit Plain

theorem DrawPost.imp {p B : Nat} {P Q : Int → Prop} {w : World} {e : Ending} {w' : World} (h : DrawPost p B P w e w') (hPQ : ∀ x, P x → Q x) : DrawPost p B Q w e w' := by
  obtain ⟨x, he, hx, hs, ho⟩ := h
  exact ⟨x, he, hPQ x hx, hs, ho⟩

set_option maxHeartbeats 1000000 in
theorem pick_any (p B : Nat) (n : Int) (w : World) (h : Src w p B) (hB : B ≤ 4000000000000000000) :
    Calls Try.prog 13 #[.pointer (some ⟨p, 0, none⟩), .int .i64 n] w (DrawPost p (B + 2) (fun x => 0 ≤ x ∧ (n ≤ 1 → x = 0) ∧ (1 < n → x < n)) w) := by
  have H := Lib.hid h; clear h
  by_cases h1 : n ≤ 1
  · go_enter Try.func13, Try.ntmps13
    go_wp2
    go_ret
    exact ⟨0, rfl, ⟨by omega, fun _ => rfl, fun h => by omega⟩, H.out.mono (by omega), Only.refl _ _⟩
  · by_cases h2 : n ≤ 200
    · go_enter Try.func13, Try.ntmps13
      go_wp2_with fail
      refine (next_any p B w H.out (by omega)).mono ?_
      rintro e w1 ⟨x, rfl, ⟨x0, x1⟩, hs, ho⟩
      have HS := Lib.hid hs
      have HO := Lib.hid ho
      clear hs ho
      go_wp2
      go_ret
      have := Int.emod_nonneg x (b := n) (by omega)
      have := Int.emod_lt_of_pos x (b := n) (by omega)
      exact ⟨_, rfl, ⟨by omega, fun h => by omega, fun _ => by omega⟩, HS.out.mono (by omega), HO.out⟩
    · go_enter Try.func13, Try.ntmps13
      go_wp2_with fail
      refine (next_any p B w H.out (by omega)).mono ?_
      rintro e w1 ⟨x, rfl, ⟨x0, x1⟩, hs, ho⟩
      have HS := Lib.hid hs
      have HO := Lib.hid ho
      clear hs ho
      go_wp2_with fail
      refine (next_any p (B + 1) w1 HS.out (by omega)).mono ?_
      rintro e w2 ⟨y, rfl, ⟨y0, y1⟩, hs, ho⟩
      have HS2 := Lib.hid hs
      have HO2 := Lib.hid (HO.out.trans ho)
      clear hs ho
      go_wp2
      go_ret
      have := Int.emod_nonneg (x * 256 + y) (b := n) (by omega)
      have := Int.emod_lt_of_pos (x * 256 + y) (b := n) (by omega)
      exact ⟨_, rfl, ⟨by omega, fun h => by omega, fun _ => by omega⟩, HS2.out, HO2.out⟩

/-- the slice at A has n integers -/
def SomeInts (w : World) (A : Option Addr) (n : Nat) : Prop := ∃ b o, A = some ⟨b, o, none⟩ ∧ b < w.heap.size ∧ ∀ j, j < n → ∃ x : Int, w.cell? ⟨b, o + j, none⟩ = some (.int .i64 x)

theorem among_any (p B : Nat) (A : Option Addr) (n cap : Nat) (w : World) (h : Src w p B) (hB : B ≤ 4000000000000000000) (hn : 0 < n) (hn2 : n ≤ 4611686018427387904) (hA : SomeInts w A n) (hp : ∀ o, A ≠ some ⟨p, o, none⟩) :
    Calls Try.prog 15 #[.pointer (some ⟨p, 0, none⟩), .slice A n cap] w (DrawPost p (B + 2) (fun _ => True) w) := by
  obtain ⟨b, o, rfl, hb, hc⟩ := hA
  have hbp : b ≠ p := fun e => hp o (by rw [e])
  have HC := Lib.hid hc; clear hc
  have H := Lib.hid h; clear h
  go_enter Try.func15, Try.ntmps15
  go_wp2_with fail
  refine (pick_any p B n w H.out hB).mono ?_
  rintro e w1 ⟨x, rfl, ⟨x0, x1, x2⟩, hs, ho⟩
  obtain ⟨j, rfl⟩ := Int.eq_ofNat_of_zero_le x0
  have hj : j < n := by
    by_cases h1 : (n : Int) ≤ 1
    · have := x1 h1; omega
    · have := x2 (by omega); omega
  have hj' : (j : Int) < (n : Int) := by omega
  obtain ⟨y, hy⟩ := HC.out j hj
  have hy1 : w1.cell? ⟨b, o + j, none⟩ = some (.int .i64 y) := (ho.cell (a := ⟨b, o + j, none⟩) hb hbp).trans hy
  have HS := Lib.hid hs
  have HO := Lib.hid ho
  clear hs ho x1 x2 hy
  go_wp2
  go_ret
  exact ⟨_, rfl, trivial, HS.out, HO.out⟩

theorem from_any (A : Option Addr) (n cap : Nat) (w : World) (hA : Byt w A n) (hn : n ≤ 4611686018427387904) :
    Calls Try.prog 12 #[.slice A n cap] w fun e w' => e = .returned (.pointer (some ⟨w.heap.size, 0, none⟩)) ∧ Src w' w.heap.size 0 ∧ Below w.heap.size w w' ∧ w.heap.size < w'.heap.size := by
  go_enter Try.func12, Try.ntmps12
  go_wp2
  go_ret
  refine ⟨rfl, ⟨A, n, cap, 0, 0, ⟨?_, ?_, hn, by omega, by omega, ?_⟩, by omega⟩, by go_grown, by simp⟩
  · exact Cells.new w 53 [.slice A n cap, .int .i64 0, .int .u64 0]
  · exact hA.only (S := fun _ => False) (Only.of_below (by go_grown)) (fun _ _ _ h => h)
  · rintro q ⟨h0, o, rfl⟩
    obtain ⟨b, o', e, hl, _⟩ := hA h0
    have : q = b := by simpa using congrArg (fun x => x.map Addr.block) e
    omega

/-- out of the reading of an argument: bytes -/
theorem byt_of_cells {w : World} {x : Addr} {len cap : Nat} {z : List Int} (hl : len ≤ cap) (hz : z.length = cap) (hc : ∀ i, i < z.length → w.cell? (x.add i) = some (.int .u8 (z.getD i 0))) (hw : ∀ n ∈ z, (Lit.int .u8 n).wf = true) : Byt w (some x) len := by
  intro hn
  have h0 : 0 < z.length := by omega
  obtain ⟨b, off, spot⟩ := x
  have h00 := hc 0 h0
  have hspot : spot = none := by simpa [Addr.add] using World.cell?_spot h00
  subst hspot
  refine ⟨b, off, rfl, ?_, fun j hj => ?_⟩
  · have := World.block_lt_of_cell? _ _ h00; simpa [Addr.add] using this
  · have h1 := hc j (by omega)
    rw [addr_add] at h1
    have hj' : j < z.length := by omega
    have hm : z.getD j 0 ∈ z := by
      have : z.getD j 0 = z[j] := by simp [List.getD, hj']
      rw [this]; exact List.getElem_mem hj'
    have hwf := hw _ hm
    generalize z.getD j 0 = y at *
    have : 0 ≤ y ∧ y ≤ 255 := by
      simp [Lit.wf, IntKind.min, IntKind.max, IntKind.signed, IntKind.bits] at hwf
      omega
    exact ⟨_, this.1, this.2, h1⟩

end Go.Proofs.Ytdhicgdcjfcomaa
